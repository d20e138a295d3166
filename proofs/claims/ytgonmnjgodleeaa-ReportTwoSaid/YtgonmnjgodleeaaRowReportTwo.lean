/-
  ReportTwo holds: it answers true for every input, and its arguments read as they did. No condition.
-/
import Derived.Test.YtgonmnjgodleeaaLawReportTwo
import Derived.Test.YtgonmnjgodleeaaRdS
import Derived.Lib.SmallJoins
namespace Go.Proofs.Ytgonmnjgodleeaa
open Go.ChangeShapes Go.WideShapes Go.ChangeAt Go.RowKit Go.Joins
theorem reportTwo_own : ownKnob Try.prog.godebug = none := by kernel_rfl
set_option maxRecDepth 100000 in
theorem reportTwo_lifted (os : Os) (started : os.Started) (H : Type) (enc : TypeId × Value → H) :
    ReturnsInHanded {} Try.checked os 10 .any (Rows.reportTwoSpec.pre6 enc Try.prog Try.f10 Rows.reportTwoRow.domain false) (Rows.reportTwoSpec.post enc Try.prog Try.f10 false true false false) := by
  refine law_lifted_sized (C := Try.checked) reportTwo_own started (by kernel_rfl) Try.func10
    (ChangeSpec.witness6 (enc := enc) (C := Try.checked) false ⟨#[], #[.agg #[.int .i64 0, .int .i64 0], .slice none 0 0, .agg #[.string ⟨#[]⟩, .string ⟨#[]⟩, .string ⟨#[]⟩]], []⟩ 20 (by kernel_rfl) (by kernel_rfl) (by kernel_rfl) (by kernel_rfl))
    (by kernel_rfl) (by kernel_rfl) rfl Try.underlying4 rfl ?_ ?_
  · intro ds h
    match ds, h with
    | [x0, x1, x2], _ => rfl
  · intro W base args ds p hval hsz hA hlt
    have hA' : DataW.TrodAll enc Try.prog W 0 (fun _ => true) true Try.f10.params.toList args.toList ds p := hA
    have hval' : ∀ (j : Nat) t v, Try.f10.params[j]? = some t → args[j]? = some v → Value.okWide Try.prog W .any base t v := hval
    have hsz' : ∀ (j : Nat) t d, Try.f10.params[j]? = some t → ds[j]? = some d → InReach Try.prog t d := hsz
    rw [Try.params10] at hA' hval' hsz'
    obtain ⟨v0, v1, v2, d0, d1, d2, p0, p1, p2, rfl, rfl, rfl, h0, h1, h2⟩ := trodAll_three hA'
    obtain ⟨_, r0, s, rfl, k0⟩ := rd_struct Try.underlying23 reads_size (hval' 0 23 v0 rfl rfl) h0 (hsz' 0 23 d0 rfl rfl)
    obtain ⟨_, r1, l, e1, k1⟩ := rd_slice Try.underlying43 reads_rps (hval' 1 43 v1 rfl rfl) h1 (hsz' 1 43 d1 rfl rfl)
    cases e1
    obtain ⟨_, r2, x, y, z, rfl⟩ := rd_array Try.underlying61 reads_three (hval' 2 61 v2 rfl rfl) h2 (hsz' 2 61 d2 rfl rfl)
    exact law_top (lawTwo20 s l x y z) W _ (TRel.cons r0 (TRel.cons r1 (TRel.cons r2 TRel.nil)))

theorem reportTwo_holds : Rows.ReportTwoSaid :=
  OpenClaim.holds_of_wide 10 Try.f10 rfl rfl rfl rfl rfl rfl rfl ⟨rfl, rfl, rfl, rfl, rfl⟩ rfl rfl rfl rfl rfl (by kernel_rfl) Try.func10 (by kernel_rfl)
    (of_decide_eq_true (by kernel_rfl)) (by unfold Func.isWrapper; first | (rw [if_pos (by decide +kernel)]; kernel_rfl) | (rw [if_neg (by decide +kernel)]; exact ⟨rfl, rfl⟩))
    (fun os started H enc _ => reportTwo_lifted os started H enc)
#print axioms reportTwo_holds
end Go.Proofs.Ytgonmnjgodleeaa
