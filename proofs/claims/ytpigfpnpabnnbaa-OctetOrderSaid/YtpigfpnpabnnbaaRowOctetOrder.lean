/-
  OctetOrder holds: it answers true for every input, and its arguments read as they did. No condition.
-/
import Derived.Test.YtpigfpnpabnnbaaLawOctetOrder
import Derived.Lib.SmallJoins
import Derived.Test.YtpigfpnpabnnbaaOpen
namespace Go.Proofs.Ytpigfpnpabnnbaa
open Go.ChangeShapes Go.WideShapes Go.ChangeAt Go.RowKit Go.Joins
theorem octetOrder_own : ownKnob Try.prog.godebug = none := by kernel_rfl
set_option maxRecDepth 100000 in
theorem octetOrder_lifted (os : Os) (started : os.Started) (H : Type) (enc : TypeId × Value → H) :
    ReturnsInHanded {} Try.checked os 3 .any (Rows.octetOrderSpec.pre6 enc Try.prog Try.f3 Rows.octetOrderRow.domain false) (Rows.octetOrderSpec.post enc Try.prog Try.f3 false true false false) := by
  refine law_lifted (C := Try.checked) octetOrder_own started (by kernel_rfl) Try.func3
    (ChangeSpec.witness6 (enc := enc) (C := Try.checked) false ⟨#[], #[.int .u64 0, .int .u64 0], []⟩ 20 (by kernel_rfl) (by kernel_rfl) (by kernel_rfl) (by kernel_rfl))
    (by kernel_rfl) (by kernel_rfl) rfl Try.underlying4 rfl ?_ ?_
  · intro ds h
    match ds, h with
    | [x0, x1], _ => rfl
  · intro W base args ds p hval hA hlt
    have hA' : DataW.TrodAll enc Try.prog W 0 (fun _ => true) true Try.f3.params.toList args.toList ds p := hA
    have hval' : ∀ (j : Nat) t v, Try.f3.params[j]? = some t → args[j]? = some v → Value.okWide Try.prog W .any base t v := hval
    rw [Try.params3] at hA' hval'
    obtain ⟨v0, v1, d0, d1, p0, p1, rfl, rfl, rfl, h0, h1⟩ := trodAll_two hA'
    obtain ⟨n', rfl, rfl, rfl, wn⟩ := open_int Try.underlying22 (hval' 0 22 v0 rfl rfl) h0
    obtain ⟨n, rfl, zn⟩ := nat_u64 wn
    obtain ⟨m', rfl, rfl, rfl, wm⟩ := open_int Try.underlying22 (hval' 1 22 v1 rfl rfl) h1
    obtain ⟨m, rfl, zm⟩ := nat_u64 wm
    exact order_any n m zn zm W

theorem octetOrder_holds : Rows.OctetOrderSaid :=
  OpenClaim.holds_of_wide 3 Try.f3 rfl rfl rfl rfl rfl rfl rfl ⟨rfl, rfl, rfl, rfl, rfl⟩ rfl rfl rfl rfl rfl (by kernel_rfl) Try.func3 (by kernel_rfl)
    (of_decide_eq_true (by kernel_rfl)) (by unfold Func.isWrapper; first | (rw [if_pos (by decide +kernel)]; kernel_rfl) | (rw [if_neg (by decide +kernel)]; exact ⟨rfl, rfl⟩))
    (fun os started H enc _ => octetOrder_lifted os started H enc)
#print axioms octetOrder_holds
end Go.Proofs.Ytpigfpnpabnnbaa
