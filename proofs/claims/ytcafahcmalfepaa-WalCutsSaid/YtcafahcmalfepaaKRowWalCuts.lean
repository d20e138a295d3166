/-
  WalCuts holds: it answers true for every input, and its arguments read as they did. No condition.
-/
import Derived.Test.YtcafahcmalfepaaKLawWalCuts
import Derived.Test.YtcafahcmalfepaaMg
import Derived.Lib.SmallJoins
namespace Go.Proofs.Ytcafahcmalfepaa
open Go.ChangeShapes Go.WideShapes Go.ChangeAt Go.RowKit Go.Joins
theorem walCuts_own : ownKnob Try.prog.godebug = none := by kernel_rfl
set_option maxRecDepth 100000 in
theorem walCuts_lifted (os : Os) (started : os.Started) (H : Type) (enc : TypeId × Value → H) :
    ReturnsInHanded {} Try.checked os 10 .any (Rows.walCutsSpec.pre6 enc Try.prog Try.f10 Rows.walCutsRow.domain false) (Rows.walCutsSpec.post enc Try.prog Try.f10 false true false false) := by
  refine law_lifted_sized (C := Try.checked) walCuts_own started (by kernel_rfl) Try.func10
    (ChangeSpec.witness6 (enc := enc) (C := Try.checked) false ⟨#[], #[.agg #[.int .i64 0, .slice none 0 0, .slice none 0 0, .bool false, .int .i64 0], .slice none 0 0, .int .i64 0], []⟩ 20 (by kernel_rfl) (by kernel_rfl) (by kernel_rfl) (by kernel_rfl))
    (by kernel_rfl) (by kernel_rfl) rfl Try.underlying4 rfl ?_ ?_
  · intro ds h
    match ds, h with
    | [x0, x1, x2], _ => rfl
  · intro W base args ds p hval hsz hA hlt
    have hA' : DataW.TrodAll enc Try.prog W 0 (fun _ => true) true Try.f10.params.toList args.toList ds p := hA
    have hval' : ∀ (j : Nat) t v, Try.f10.params[j]? = some t → args[j]? = some v → Value.okWide Try.prog W .any base t v := hval
    have hsz' : ∀ (j : Nat) t d, Try.f10.params[j]? = some t → ds[j]? = some d → InReach Try.prog t d := hsz
    rw [Try.params10] at hA' hval' hsz'
    obtain ⟨v0, v1, v2, d0, d1, d2, p0, p1, p2, rfl, rfl, rfl, h0, h1, h2⟩ := trodAll_three hA'
    obtain ⟨_, r0, d, rfl, k0⟩ := rd_struct Try.underlying42 reads_disk (hval' 0 42 v0 rfl rfl) h0 (hsz' 0 42 d0 rfl rfl)
    obtain ⟨_, r1, b, e1, k1⟩ := rd_slice Try.underlying22 reads_row (hval' 1 22 v1 rfl rfl) h1 (hsz' 1 22 d1 rfl rfl)
    cases e1
    obtain ⟨n, rfl, rfl, rfl, wn⟩ := open_int Try.underlying3 (hval' 2 3 v2 rfl rfl) h2
    exact law_top (lawCuts17 d k0 b n) W _ (TRel.cons r0 (TRel.cons r1 (TRel.cons (.int _ _) TRel.nil)))

theorem walCuts_holds : Rows.WalCutsSaid :=
  OpenClaim.holds_of_wide 10 Try.f10 rfl rfl rfl rfl rfl rfl rfl ⟨rfl, rfl, rfl, rfl, rfl⟩ rfl rfl rfl rfl rfl (by kernel_rfl) Try.func10 (by kernel_rfl)
    (of_decide_eq_true (by kernel_rfl)) (by unfold Func.isWrapper; first | (rw [if_pos (by decide +kernel)]; kernel_rfl) | (rw [if_neg (by decide +kernel)]; exact ⟨rfl, rfl⟩))
    (fun os started H enc _ => walCuts_lifted os started H enc)
#print axioms walCuts_holds
end Go.Proofs.Ytcafahcmalfepaa
