/-
  ReportChosen holds: it answers true for every input, and its arguments read as they did. No condition.
-/
import Derived.Test.YtgonmnjgodleeaaLawReportChosen
import Derived.Test.YtgonmnjgodleeaaRdS
import Derived.Lib.SmallJoins
namespace Go.Proofs.Ytgonmnjgodleeaa
open Go.ChangeShapes Go.WideShapes Go.ChangeAt Go.RowKit Go.Joins
theorem reportChosen_own : ownKnob Try.prog.godebug = none := by kernel_rfl
set_option maxRecDepth 100000 in
theorem reportChosen_lifted (os : Os) (started : os.Started) (H : Type) (enc : TypeId × Value → H) :
    ReturnsInHanded {} Try.checked os 9 .any (Rows.reportChosenSpec.pre6 enc Try.prog Try.f9 Rows.reportChosenRow.domain false) (Rows.reportChosenSpec.post enc Try.prog Try.f9 false true false false) := by
  refine law_lifted_sized (C := Try.checked) reportChosen_own started (by kernel_rfl) Try.func9
    (ChangeSpec.witness6 (enc := enc) (C := Try.checked) false ⟨#[], #[.agg #[.int .i64 0, .int .i64 0, .int .i64 0, .string ⟨#[]⟩, .slice none 0 0, .slice none 0 0], .slice none 0 0], []⟩ 20 (by kernel_rfl) (by kernel_rfl) (by kernel_rfl) (by kernel_rfl))
    (by kernel_rfl) (by kernel_rfl) rfl Try.underlying4 rfl ?_ ?_
  · intro ds h
    match ds, h with
    | [x0, x1], _ => rfl
  · intro W base args ds p hval hsz hA hlt
    have hA' : DataW.TrodAll enc Try.prog W 0 (fun _ => true) true Try.f9.params.toList args.toList ds p := hA
    have hval' : ∀ (j : Nat) t v, Try.f9.params[j]? = some t → args[j]? = some v → Value.okWide Try.prog W .any base t v := hval
    have hsz' : ∀ (j : Nat) t d, Try.f9.params[j]? = some t → ds[j]? = some d → InReach Try.prog t d := hsz
    rw [Try.params9] at hA' hval' hsz'
    obtain ⟨v0, v1, d0, d1, p0, p1, rfl, rfl, rfl, h0, h1⟩ := trodAll_two hA'
    obtain ⟨_, r0, s, v, x, bad, inn, rfl, k0⟩ := rd_struct Try.underlying59 reads_past (hval' 0 59 v0 rfl rfl) h0 (hsz' 0 59 d0 rfl rfl)
    obtain ⟨_, r1, l, e1, k1⟩ := rd_slice Try.underlying43 reads_rps (hval' 1 43 v1 rfl rfl) h1 (hsz' 1 43 d1 rfl rfl)
    cases e1
    exact law_top (lawChosen20 s l v x bad inn) W _ (TRel.cons r0 (TRel.cons r1 TRel.nil))

theorem reportChosen_holds : Rows.ReportChosenSaid :=
  OpenClaim.holds_of_wide 9 Try.f9 rfl rfl rfl rfl rfl rfl rfl ⟨rfl, rfl, rfl, rfl, rfl⟩ rfl rfl rfl rfl rfl (by kernel_rfl) Try.func9 (by kernel_rfl)
    (of_decide_eq_true (by kernel_rfl)) (by unfold Func.isWrapper; first | (rw [if_pos (by decide +kernel)]; kernel_rfl) | (rw [if_neg (by decide +kernel)]; exact ⟨rfl, rfl⟩))
    (fun os started H enc _ => reportChosen_lifted os started H enc)
#print axioms reportChosen_holds
end Go.Proofs.Ytgonmnjgodleeaa
