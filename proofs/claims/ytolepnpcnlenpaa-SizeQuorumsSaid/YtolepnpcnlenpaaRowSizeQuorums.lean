/-
  SizeQuorums holds: of whatever size, groups meet as the protocol needs it; it answers true for every input, and its arguments read as they did. No condition.
-/
import Derived.Test.YtolepnpcnlenpaaLawSizeQuorums
import Derived.Lib.SmallJoins
namespace Go.Proofs.Ytolepnpcnlenpaa
open Go.ChangeShapes Go.WideShapes Go.ChangeAt Go.RowKit Go.Joins
theorem sizeQuorums_own : ownKnob Try.prog.godebug = none := by kernel_rfl
set_option maxRecDepth 100000 in
theorem sizeQuorums_lifted (os : Os) (started : os.Started) (H : Type) (enc : TypeId × Value → H) :
    ReturnsInHanded {} Try.checked os 6 .any (Rows.sizeQuorumsSpec.pre6 enc Try.prog Try.f6 Rows.sizeQuorumsRow.domain false) (Rows.sizeQuorumsSpec.post enc Try.prog Try.f6 false true false false) := by
  refine law_lifted (C := Try.checked) sizeQuorums_own started (by kernel_rfl) Try.func6
    (ChangeSpec.witness6 (enc := enc) (C := Try.checked) false ⟨#[], #[.agg #[.int .i64 0, .int .i64 0]], []⟩ 20 (by kernel_rfl) (by kernel_rfl) (by kernel_rfl) (by kernel_rfl))
    (by kernel_rfl) (by kernel_rfl) rfl Try.underlying4 rfl ?_ ?_
  · intro ds h
    match ds, h with
    | [x0], _ => rfl
  · intro W base args ds p hval hA hlt
    have hA' : DataW.TrodAll enc Try.prog W 0 (fun _ => true) true Try.f6.params.toList args.toList ds p := hA
    have hval' : ∀ (j : Nat) t v, Try.f6.params[j]? = some t → args[j]? = some v → Value.okWide Try.prog W .any base t v := hval
    rw [Try.params6] at hA' hval'
    obtain ⟨v0, d0, rfl, rfl, h0⟩ := trodAll_one hA'
    obtain ⟨c0, c1, y0, y1, m, rfl, rfl, rfl, hy0, hy1⟩ := open_agg2 Try.underlying23 (by kernel_rfl) (by kernel_rfl) (hval' 0 23 v0 rfl rfl) h0
    obtain ⟨F, e0, rfl, wF⟩ := DataW.trod_int Try.underlying3 hy0
    obtain ⟨T, e1, rfl, wT⟩ := DataW.trod_int Try.underlying3 hy1
    simp only [List.cons.injEq, and_true] at e0 e1
    subst e0 e1
    cases hs : sizeOk F T
    · exact quorums_no F T hs W
    · exact quorums_yes F T hs W

theorem sizeQuorums_holds : Rows.SizeQuorumsSaid :=
  OpenClaim.holds_of_wide 6 Try.f6 rfl rfl rfl rfl rfl rfl rfl ⟨rfl, rfl, rfl, rfl, rfl⟩ rfl rfl rfl rfl rfl (by kernel_rfl) Try.func6 (by kernel_rfl)
    (of_decide_eq_true (by kernel_rfl)) (by unfold Func.isWrapper; first | (rw [if_pos (by decide +kernel)]; kernel_rfl) | (rw [if_neg (by decide +kernel)]; exact ⟨rfl, rfl⟩))
    (fun os started H enc _ => sizeQuorums_lifted os started H enc)
#print axioms sizeQuorums_holds
end Go.Proofs.Ytolepnpcnlenpaa
