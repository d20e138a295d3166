/-
  SizeTells holds: whatever the input it answers true, and its arguments read as they did. No condition.
-/
import Derived.Test.YtolepnpcnlenpaaLawSizeTells
namespace Go.Proofs.Ytolepnpcnlenpaa
open Go.ChangeShapes Go.WideShapes Go.ChangeAt Go.RowKit
theorem sizeTells_own : ownKnob Try.prog.godebug = none := by kernel_rfl
set_option maxRecDepth 100000 in
theorem sizeTells_lifted (os : Os) (started : os.Started) (H : Type) (enc : TypeId × Value → H) :
    ReturnsInHanded {} Try.checked os 4 .any (Rows.sizeTellsSpec.pre6 enc Try.prog Try.f4 Rows.sizeTellsRow.domain false) (Rows.sizeTellsSpec.post enc Try.prog Try.f4 false true false false) := by
  refine law_lifted (C := Try.checked) sizeTells_own started (by kernel_rfl) Try.func4
    (ChangeSpec.witness6 (enc := enc) (C := Try.checked) false ⟨#[], #[.int .i64 0, .int .i64 0, .int .i64 0], []⟩ 8 (by kernel_rfl) (by kernel_rfl) (by kernel_rfl) (by kernel_rfl))
    (by kernel_rfl) (by kernel_rfl) rfl Try.underlying4 rfl ?_ ?_
  · intro ds h
    match ds, h with
    | [a, b, c], _ => rfl
  · intro W base args ds p hval hA hlt
    have hA' : DataW.TrodAll enc Try.prog W 0 (fun _ => true) true Try.f4.params.toList args.toList ds p := hA
    have hval' : ∀ (j : Nat) t v, Try.f4.params[j]? = some t → args[j]? = some v → Value.okWide Try.prog W .any base t v := hval
    rw [Try.params4] at hA' hval'
    obtain ⟨v0, v1, v2, d0, d1, d2, p0, p1, p2, rfl, rfl, rfl, h0, h1, h2⟩ := trodAll_three hA'
    obtain ⟨a, rfl, rfl, rfl, wa⟩ := open_int Try.underlying3 (hval' 0 3 v0 rfl rfl) h0
    obtain ⟨b, rfl, rfl, rfl, wb⟩ := open_int Try.underlying3 (hval' 1 3 v1 rfl rfl) h1
    obtain ⟨c, rfl, rfl, rfl, wc⟩ := open_int Try.underlying3 (hval' 2 3 v2 rfl rfl) h2
    cases hs : sizeOk a b
    · exact tells_no a b c hs W
    · exact tells_yes a b c hs W

theorem sizeTells_holds : Rows.SizeTellsSaid :=
  OpenClaim.holds_of_wide 4 Try.f4 rfl rfl rfl rfl rfl rfl rfl ⟨rfl, rfl, rfl, rfl, rfl⟩ rfl rfl rfl rfl rfl (by kernel_rfl) Try.func4 (by kernel_rfl)
    (of_decide_eq_true (by kernel_rfl)) (by unfold Func.isWrapper; first | (rw [if_pos (by decide +kernel)]; kernel_rfl) | (rw [if_neg (by decide +kernel)]; exact ⟨rfl, rfl⟩))
    (fun os started H enc _ => sizeTells_lifted os started H enc)
#print axioms sizeTells_holds
end Go.Proofs.Ytolepnpcnlenpaa
