/-
  OrderTakes holds: it answers true for every input, and its arguments read as they did. No condition.
-/
import Derived.Test.YtpigfpnpabnnbaaLawOrderTakes
import Derived.Test.YtpigfpnpabnnbaaRdO
import Derived.Lib.SmallJoins
namespace Go.Proofs.Ytpigfpnpabnnbaa
open Go.ChangeShapes Go.WideShapes Go.ChangeAt Go.RowKit Go.Joins
theorem orderTakes_own : ownKnob Try.prog.godebug = none := by kernel_rfl
set_option maxRecDepth 100000 in
theorem orderTakes_lifted (os : Os) (started : os.Started) (H : Type) (enc : TypeId × Value → H) :
    ReturnsInHanded {} Try.checked os 11 .any (Rows.orderTakesSpec.pre6 enc Try.prog Try.f11 Rows.orderTakesRow.domain false) (Rows.orderTakesSpec.post enc Try.prog Try.f11 false true false false) := by
  refine law_lifted_sized (C := Try.checked) orderTakes_own started (by kernel_rfl) Try.func11
    (ChangeSpec.witness6 (enc := enc) (C := Try.checked) false ⟨#[], #[.slice none 0 0], []⟩ 20 (by kernel_rfl) (by kernel_rfl) (by kernel_rfl) (by kernel_rfl))
    (by kernel_rfl) (by kernel_rfl) rfl Try.underlying4 rfl ?_ ?_
  · intro ds h
    match ds, h with
    | [x0], _ => rfl
  · intro W base args ds p hval hsz hA hlt
    have hA' : DataW.TrodAll enc Try.prog W 0 (fun _ => true) true Try.f11.params.toList args.toList ds p := hA
    have hval' : ∀ (j : Nat) t v, Try.f11.params[j]? = some t → args[j]? = some v → Value.okWide Try.prog W .any base t v := hval
    have hsz' : ∀ (j : Nat) t d, Try.f11.params[j]? = some t → ds[j]? = some d → InReach Try.prog t d := hsz
    rw [Try.params11] at hA' hval' hsz'
    obtain ⟨v0, d0, rfl, rfl, h0⟩ := trodAll_one hA'
    obtain ⟨_, r0, b, e0, k0⟩ := rd_slice Try.underlying23 reads_bytes' (hval' 0 23 v0 rfl rfl) h0 (hsz' 0 23 d0 rfl rfl)
    cases e0
    exact law_top (takes12_spec b) W _ (TRel.cons r0 TRel.nil)

theorem orderTakes_holds : Rows.OrderTakesSaid :=
  OpenClaim.holds_of_wide 11 Try.f11 rfl rfl rfl rfl rfl rfl rfl ⟨rfl, rfl, rfl, rfl, rfl⟩ rfl rfl rfl rfl rfl (by kernel_rfl) Try.func11 (by kernel_rfl)
    (of_decide_eq_true (by kernel_rfl)) (by unfold Func.isWrapper; first | (rw [if_pos (by decide +kernel)]; kernel_rfl) | (rw [if_neg (by decide +kernel)]; exact ⟨rfl, rfl⟩))
    (fun os started H enc _ => orderTakes_lifted os started H enc)
#print axioms orderTakes_holds
end Go.Proofs.Ytpigfpnpabnnbaa
