/-
  SizeLeads holds: of as many views as there are replicas each leads one; it answers true for every input, and its arguments read as they did. No condition.
-/
import Derived.Test.YtolepnpcnlenpaaLawSizeLeads
import Derived.Lib.SmallJoins
namespace Go.Proofs.Ytolepnpcnlenpaa
open Go.ChangeShapes Go.WideShapes Go.ChangeAt Go.RowKit Go.Joins
theorem sizeLeads_own : ownKnob Try.prog.godebug = none := by kernel_rfl
set_option maxRecDepth 100000 in
theorem sizeLeads_lifted (os : Os) (started : os.Started) (H : Type) (enc : TypeId × Value → H) :
    ReturnsInHanded {} Try.checked os 3 .any (Rows.sizeLeadsSpec.pre6 enc Try.prog Try.f3 Rows.sizeLeadsRow.domain false) (Rows.sizeLeadsSpec.post enc Try.prog Try.f3 false true false false) := by
  refine law_lifted (C := Try.checked) sizeLeads_own started (by kernel_rfl) Try.func3
    (ChangeSpec.witness6 (enc := enc) (C := Try.checked) false ⟨#[], #[.agg #[.int .i64 0, .int .i64 0], .int .i64 0], []⟩ 20 (by kernel_rfl) (by kernel_rfl) (by kernel_rfl) (by kernel_rfl))
    (by kernel_rfl) (by kernel_rfl) rfl Try.underlying4 rfl ?_ ?_
  · intro ds h
    match ds, h with
    | [x0, x1], _ => rfl
  · intro W base args ds p hval hA hlt
    have hA' : DataW.TrodAll enc Try.prog W 0 (fun _ => true) true Try.f3.params.toList args.toList ds p := hA
    have hval' : ∀ (j : Nat) t v, Try.f3.params[j]? = some t → args[j]? = some v → Value.okWide Try.prog W .any base t v := hval
    rw [Try.params3] at hA' hval'
    obtain ⟨v0, v1, d0, d1, p0, p1, rfl, rfl, rfl, h0, h1⟩ := trodAll_two hA'
    obtain ⟨c0, c1, y0, y1, m, rfl, rfl, rfl, hy0, hy1⟩ := open_agg2 Try.underlying23 (by kernel_rfl) (by kernel_rfl) (hval' 0 23 v0 rfl rfl) h0
    obtain ⟨F, e0, rfl, wF⟩ := DataW.trod_int Try.underlying3 hy0
    obtain ⟨T, e1, rfl, wT⟩ := DataW.trod_int Try.underlying3 hy1
    simp only [List.cons.injEq, and_true] at e0 e1
    subst e0 e1
    obtain ⟨v, rfl, rfl, rfl, wv⟩ := open_int Try.underlying3 (hval' 1 3 v1 rfl rfl) h1
    cases hs : sizeOk F T
    · exact leads_no1 F T v hs W
    · by_cases hv : v < 0 ∨ 1000000000 < v
      · exact leads_no2 F T v hs hv W
      · exact leads_yes F T v hs (by omega) (by omega) W

theorem sizeLeads_holds : Rows.SizeLeadsSaid :=
  OpenClaim.holds_of_wide 3 Try.f3 rfl rfl rfl rfl rfl rfl rfl ⟨rfl, rfl, rfl, rfl, rfl⟩ rfl rfl rfl rfl rfl (by kernel_rfl) Try.func3 (by kernel_rfl)
    (of_decide_eq_true (by kernel_rfl)) (by unfold Func.isWrapper; first | (rw [if_pos (by decide +kernel)]; kernel_rfl) | (rw [if_neg (by decide +kernel)]; exact ⟨rfl, rfl⟩))
    (fun os started H enc _ => sizeLeads_lifted os started H enc)
#print axioms sizeLeads_holds
end Go.Proofs.Ytolepnpcnlenpaa
