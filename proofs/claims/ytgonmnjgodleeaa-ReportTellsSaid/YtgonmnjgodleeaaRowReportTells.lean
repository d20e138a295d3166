/-
  ReportTells holds: it answers true for every input, and its arguments read as they did. No condition.
-/
import Derived.Test.YtgonmnjgodleeaaLawReportTells
import Derived.Test.YtgonmnjgodleeaaRdS
import Derived.Lib.SmallJoins
namespace Go.Proofs.Ytgonmnjgodleeaa
open Go.ChangeShapes Go.WideShapes Go.ChangeAt Go.RowKit Go.Joins
theorem reportTells_own : ownKnob Try.prog.godebug = none := by kernel_rfl
set_option maxRecDepth 100000 in
theorem reportTells_lifted (os : Os) (started : os.Started) (H : Type) (enc : TypeId × Value → H) :
    ReturnsInHanded {} Try.checked os 11 .any (Rows.reportTellsSpec.pre6 enc Try.prog Try.f11 Rows.reportTellsRow.domain false) (Rows.reportTellsSpec.post enc Try.prog Try.f11 false true false false) := by
  refine law_lifted_sized (C := Try.checked) reportTells_own started (by kernel_rfl) Try.func11
    (ChangeSpec.witness6 (enc := enc) (C := Try.checked) false ⟨#[], #[.agg #[.int .i64 0, .int .i64 0], .slice none 0 0, .agg #[.int .i64 0, .string ⟨#[]⟩, .slice none 0 0]], []⟩ 20 (by kernel_rfl) (by kernel_rfl) (by kernel_rfl) (by kernel_rfl))
    (by kernel_rfl) (by kernel_rfl) rfl Try.underlying4 rfl ?_ ?_
  · intro ds h
    match ds, h with
    | [x0, x1, x2], _ => rfl
  · intro W base args ds p hval hsz hA hlt
    have hA' : DataW.TrodAll enc Try.prog W 0 (fun _ => true) true Try.f11.params.toList args.toList ds p := hA
    have hval' : ∀ (j : Nat) t v, Try.f11.params[j]? = some t → args[j]? = some v → Value.okWide Try.prog W .any base t v := hval
    have hsz' : ∀ (j : Nat) t d, Try.f11.params[j]? = some t → ds[j]? = some d → InReach Try.prog t d := hsz
    rw [Try.params11] at hA' hval' hsz'
    obtain ⟨v0, v1, v2, d0, d1, d2, p0, p1, p2, rfl, rfl, rfl, h0, h1, h2⟩ := trodAll_three hA'
    obtain ⟨_, r0, s, rfl, k0⟩ := rd_struct Try.underlying23 reads_size (hval' 0 23 v0 rfl rfl) h0 (hsz' 0 23 d0 rfl rfl)
    obtain ⟨_, r1, l, e1, k1⟩ := rd_slice Try.underlying43 reads_rps (hval' 1 43 v1 rfl rfl) h1 (hsz' 1 43 d1 rfl rfl)
    cases e1
    obtain ⟨_, r2, v, x, m, rfl, k2⟩ := rd_struct Try.underlying64 reads_with (hval' 2 64 v2 rfl rfl) h2 (hsz' 2 64 d2 rfl rfl)
    exact law_top (lawTells20 s l m v x) W _ (TRel.cons r0 (TRel.cons r1 (TRel.cons r2 TRel.nil)))

theorem reportTells_holds : Rows.ReportTellsSaid :=
  OpenClaim.holds_of_wide 11 Try.f11 rfl rfl rfl rfl rfl rfl rfl ⟨rfl, rfl, rfl, rfl, rfl⟩ rfl rfl rfl rfl rfl (by kernel_rfl) Try.func11 (by kernel_rfl)
    (of_decide_eq_true (by kernel_rfl)) (by unfold Func.isWrapper; first | (rw [if_pos (by decide +kernel)]; kernel_rfl) | (rw [if_neg (by decide +kernel)]; exact ⟨rfl, rfl⟩))
    (fun os started H enc _ => reportTells_lifted os started H enc)
#print axioms reportTells_holds
end Go.Proofs.Ytgonmnjgodleeaa
