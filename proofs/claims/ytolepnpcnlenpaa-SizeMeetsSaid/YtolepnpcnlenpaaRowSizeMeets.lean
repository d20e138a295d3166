/-
  SizeMeets holds: how many replicas two groups have in common is as the document says; it answers true for every input, and its arguments read as they did. No condition.
-/
import Derived.Test.YtolepnpcnlenpaaLawSizeMeets
import Derived.Lib.SmallJoins
namespace Go.Proofs.Ytolepnpcnlenpaa
open Go.ChangeShapes Go.WideShapes Go.ChangeAt Go.RowKit Go.Joins
theorem sizeMeets_own : ownKnob Try.prog.godebug = none := by kernel_rfl
set_option maxRecDepth 100000 in
theorem sizeMeets_lifted (os : Os) (started : os.Started) (H : Type) (enc : TypeId × Value → H) :
    ReturnsInHanded {} Try.checked os 5 .any (Rows.sizeMeetsSpec.pre6 enc Try.prog Try.f5 Rows.sizeMeetsRow.domain false) (Rows.sizeMeetsSpec.post enc Try.prog Try.f5 false true false false) := by
  refine law_lifted (C := Try.checked) sizeMeets_own started (by kernel_rfl) Try.func5
    (ChangeSpec.witness6 (enc := enc) (C := Try.checked) false ⟨#[], #[.agg #[.int .i64 0, .int .i64 0], .slice none 0 0, .slice none 0 0], []⟩ 20 (by kernel_rfl) (by kernel_rfl) (by kernel_rfl) (by kernel_rfl))
    (by kernel_rfl) (by kernel_rfl) rfl Try.underlying4 rfl ?_ ?_
  · intro ds h
    match ds, h with
    | [x0, x1, x2], _ => rfl
  · intro W base args ds p hval hA hlt
    have hA' : DataW.TrodAll enc Try.prog W 0 (fun _ => true) true Try.f5.params.toList args.toList ds p := hA
    have hval' : ∀ (j : Nat) t v, Try.f5.params[j]? = some t → args[j]? = some v → Value.okWide Try.prog W .any base t v := hval
    rw [Try.params5] at hA' hval'
    obtain ⟨v0, v1, v2, d0, d1, d2, p0, p1, p2, rfl, rfl, rfl, h0, h1, h2⟩ := trodAll_three hA'
    obtain ⟨c0, c1, y0, y1, m, rfl, rfl, rfl, hy0, hy1⟩ := open_agg2 Try.underlying23 (by kernel_rfl) (by kernel_rfl) (hval' 0 23 v0 rfl rfl) h0
    obtain ⟨F, e0, rfl, wF⟩ := DataW.trod_int Try.underlying3 hy0
    obtain ⟨T, e1, rfl, wT⟩ := DataW.trod_int Try.underlying3 hy1
    simp only [List.cons.injEq, and_true] at e0 e1
    subst e0 e1
    obtain ⟨f1, hf1⟩ := h1
    obtain ⟨A1, n1, c1', rfl⟩ := okWide_slice Try.underlying27 (hval' 1 27 v1 rfl rfl)
    obtain ⟨l1, A1', k1', e1', g1, g1', s1⟩ := opens_slice (P := Try.prog) (k := 1) Try.underlying27 (by kernel_rfl) (by omega) (opens_bool Try.underlying4) enc W _ _ _ _ _ _ hf1
    simp only [Value.cells, List.cons.injEq, Value.slice.injEq, and_true] at e1'
    obtain ⟨rfl, rfl, rfl⟩ := e1'
    obtain ⟨f2, hf2⟩ := h2
    obtain ⟨A2, n2, c2', rfl⟩ := okWide_slice Try.underlying27 (hval' 2 27 v2 rfl rfl)
    obtain ⟨l2, A2', k2', e2', g2, g2', s2⟩ := opens_slice (P := Try.prog) (k := 1) Try.underlying27 (by kernel_rfl) (by omega) (opens_bool Try.underlying4) enc W _ _ _ _ _ _ hf2
    simp only [Value.cells, List.cons.injEq, Value.slice.injEq, and_true] at e2'
    obtain ⟨rfl, rfl, rfl⟩ := e2'
    by_cases hs : sizeOk F T = false ∨ 60 < l1.length ∨ 60 < l2.length
    · exact meets_no F T _ _ l1 l2 _ _ (by omega) (by omega) hs W
    · have hs' : sizeOk F T = true := by cases h : sizeOk F T <;> simp_all
      exact meets_yes F T _ _ l1 l2 _ _ (by omega) (by omega) hs' W s1 s2

theorem sizeMeets_holds : Rows.SizeMeetsSaid :=
  OpenClaim.holds_of_wide 5 Try.f5 rfl rfl rfl rfl rfl rfl rfl ⟨rfl, rfl, rfl, rfl, rfl⟩ rfl rfl rfl rfl rfl (by kernel_rfl) Try.func5 (by kernel_rfl)
    (of_decide_eq_true (by kernel_rfl)) (by unfold Func.isWrapper; first | (rw [if_pos (by decide +kernel)]; kernel_rfl) | (rw [if_neg (by decide +kernel)]; exact ⟨rfl, rfl⟩))
    (fun os started H enc _ => sizeMeets_lifted os started H enc)
#print axioms sizeMeets_holds
end Go.Proofs.Ytolepnpcnlenpaa
