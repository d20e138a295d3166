/-
  WalLarge holds: it answers true for every input, and its arguments read as they did. No condition.
-/
import Derived.Test.YtcafahcmalfepaaKLawWalLarge
import Derived.Test.YtcafahcmalfepaaMg
import Derived.Lib.SmallJoins
namespace Go.Proofs.Ytcafahcmalfepaa
open Go.ChangeShapes Go.WideShapes Go.ChangeAt Go.RowKit Go.Joins
theorem walLarge_own : ownKnob Try.prog.godebug = none := by kernel_rfl
set_option maxRecDepth 100000 in
theorem walLarge_lifted (os : Os) (started : os.Started) (H : Type) (enc : TypeId × Value → H) :
    ReturnsInHanded {} Try.checked os 9 .any (Rows.walLargeSpec.pre6 enc Try.prog Try.f9 Rows.walLargeRow.domain false) (Rows.walLargeSpec.post enc Try.prog Try.f9 false true false false) := by
  refine law_lifted_sized (C := Try.checked) walLarge_own started (by kernel_rfl) Try.func9
    (ChangeSpec.witness6 (enc := enc) (C := Try.checked) false ⟨#[], #[.int .u8 0, .int .u8 0], []⟩ 20 (by kernel_rfl) (by kernel_rfl) (by kernel_rfl) (by kernel_rfl))
    (by kernel_rfl) (by kernel_rfl) rfl Try.underlying4 rfl ?_ ?_
  · intro ds h
    match ds, h with
    | [x0, x1], _ => rfl
  · intro W base args ds p hval hsz hA hlt
    have hA' : DataW.TrodAll enc Try.prog W 0 (fun _ => true) true Try.f9.params.toList args.toList ds p := hA
    have hval' : ∀ (j : Nat) t v, Try.f9.params[j]? = some t → args[j]? = some v → Value.okWide Try.prog W .any base t v := hval
    have hsz' : ∀ (j : Nat) t d, Try.f9.params[j]? = some t → ds[j]? = some d → InReach Try.prog t d := hsz
    rw [Try.params9] at hA' hval' hsz'
    obtain ⟨v0, v1, d0, d1, p0, p1, rfl, rfl, rfl, h0, h1⟩ := trodAll_two hA'
    obtain ⟨m, rfl, rfl, rfl, wm⟩ := open_int Try.underlying5 (hval' 0 5 v0 rfl rfl) h0
    obtain ⟨y, rfl, rfl, rfl, wy⟩ := open_int Try.underlying5 (hval' 1 5 v1 rfl rfl) h1
    exact law_top (lawLarge17 m y wm wy) W _ (TRel.cons (.int _ _) (TRel.cons (.int _ _) TRel.nil))

theorem walLarge_holds : Rows.WalLargeSaid :=
  OpenClaim.holds_of_wide 9 Try.f9 rfl rfl rfl rfl rfl rfl rfl ⟨rfl, rfl, rfl, rfl, rfl⟩ rfl rfl rfl rfl rfl (by kernel_rfl) Try.func9 (by kernel_rfl)
    (of_decide_eq_true (by kernel_rfl)) (by unfold Func.isWrapper; first | (rw [if_pos (by decide +kernel)]; kernel_rfl) | (rw [if_neg (by decide +kernel)]; exact ⟨rfl, rfl⟩))
    (fun os started H enc _ => walLarge_lifted os started H enc)
#print axioms walLarge_holds
end Go.Proofs.Ytcafahcmalfepaa
