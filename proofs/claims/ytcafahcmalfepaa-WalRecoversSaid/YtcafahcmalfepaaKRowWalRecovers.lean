/-
  WalRecovers holds: it answers true for every input, and its arguments read as they did. No condition.
-/
import Derived.Test.YtcafahcmalfepaaKLawWalRecovers
import Derived.Test.YtcafahcmalfepaaMg
import Derived.Lib.SmallJoins
namespace Go.Proofs.Ytcafahcmalfepaa
open Go.ChangeShapes Go.WideShapes Go.ChangeAt Go.RowKit Go.Joins
theorem walRecovers_own : ownKnob Try.prog.godebug = none := by kernel_rfl
set_option maxRecDepth 100000 in
theorem walRecovers_lifted (os : Os) (started : os.Started) (H : Type) (enc : TypeId × Value → H) :
    ReturnsInHanded {} Try.checked os 12 .any (Rows.walRecoversSpec.pre6 enc Try.prog Try.f12 Rows.walRecoversRow.domain false) (Rows.walRecoversSpec.post enc Try.prog Try.f12 false true false false) := by
  refine law_lifted_sized (C := Try.checked) walRecovers_own started (by kernel_rfl) Try.func12
    (ChangeSpec.witness6 (enc := enc) (C := Try.checked) false ⟨#[], #[.int .i64 0, .slice none 0 0, .int .i64 0], []⟩ 20 (by kernel_rfl) (by kernel_rfl) (by kernel_rfl) (by kernel_rfl))
    (by kernel_rfl) (by kernel_rfl) rfl Try.underlying4 rfl ?_ ?_
  · intro ds h
    match ds, h with
    | [x0, x1, x2], _ => rfl
  · intro W base args ds p hval hsz hA hlt
    have hA' : DataW.TrodAll enc Try.prog W 0 (fun _ => true) true Try.f12.params.toList args.toList ds p := hA
    have hval' : ∀ (j : Nat) t v, Try.f12.params[j]? = some t → args[j]? = some v → Value.okWide Try.prog W .any base t v := hval
    have hsz' : ∀ (j : Nat) t d, Try.f12.params[j]? = some t → ds[j]? = some d → InReach Try.prog t d := hsz
    rw [Try.params12] at hA' hval' hsz'
    obtain ⟨v0, v1, v2, d0, d1, d2, p0, p1, p2, rfl, rfl, rfl, h0, h1, h2⟩ := trodAll_three hA'
    obtain ⟨z, rfl, rfl, rfl, wz⟩ := open_int Try.underlying3 (hval' 0 3 v0 rfl rfl) h0
    obtain ⟨_, r1, l, e1, k1⟩ := rd_slice Try.underlying71 reads_acts (hval' 1 71 v1 rfl rfl) h1 (hsz' 1 71 d1 rfl rfl)
    cases e1
    obtain ⟨n, rfl, rfl, rfl, wn⟩ := open_int Try.underlying3 (hval' 2 3 v2 rfl rfl) h2
    exact law_top (lawRecovers17 z l k1 n (wf64 wn)) W _ (TRel.cons (.int _ _) (TRel.cons r1 (TRel.cons (.int _ _) TRel.nil)))

theorem walRecovers_holds : Rows.WalRecoversSaid :=
  OpenClaim.holds_of_wide 12 Try.f12 rfl rfl rfl rfl rfl rfl rfl ⟨rfl, rfl, rfl, rfl, rfl⟩ rfl rfl rfl rfl rfl (by kernel_rfl) Try.func12 (by kernel_rfl)
    (of_decide_eq_true (by kernel_rfl)) (by unfold Func.isWrapper; first | (rw [if_pos (by decide +kernel)]; kernel_rfl) | (rw [if_neg (by decide +kernel)]; exact ⟨rfl, rfl⟩))
    (fun os started H enc _ => walRecovers_lifted os started H enc)
#print axioms walRecovers_holds
end Go.Proofs.Ytcafahcmalfepaa
