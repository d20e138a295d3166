/-
  OctetTakes holds: it answers true for every input, and its arguments read as they did. No condition.
-/
import Derived.Test.YtpigfpnpabnnbaaLawOctetTakes
import Derived.Lib.SmallJoins
import Derived.Test.YtpigfpnpabnnbaaOpen
namespace Go.Proofs.Ytpigfpnpabnnbaa
open Go.ChangeShapes Go.WideShapes Go.ChangeAt Go.RowKit Go.Joins
theorem octetTakes_own : ownKnob Try.prog.godebug = none := by kernel_rfl
set_option maxRecDepth 100000 in
theorem octetTakes_lifted (os : Os) (started : os.Started) (H : Type) (enc : TypeId × Value → H) :
    ReturnsInHanded {} Try.checked os 5 .any (Rows.octetTakesSpec.pre6 enc Try.prog Try.f5 Rows.octetTakesRow.domain false) (Rows.octetTakesSpec.post enc Try.prog Try.f5 false true false false) := by
  refine law_lifted (C := Try.checked) octetTakes_own started (by kernel_rfl) Try.func5
    (ChangeSpec.witness6 (enc := enc) (C := Try.checked) false ⟨#[], #[.slice none 0 0, .int .i64 0, .int .i64 0], []⟩ 20 (by kernel_rfl) (by kernel_rfl) (by kernel_rfl) (by kernel_rfl))
    (by kernel_rfl) (by kernel_rfl) rfl Try.underlying4 rfl ?_ ?_
  · intro ds h
    match ds, h with
    | [x0, x1, x2], _ => rfl
  · intro W base args ds p hval hA hlt
    have hA' : DataW.TrodAll enc Try.prog W 0 (fun _ => true) true Try.f5.params.toList args.toList ds p := hA
    have hval' : ∀ (j : Nat) t v, Try.f5.params[j]? = some t → args[j]? = some v → Value.okWide Try.prog W .any base t v := hval
    rw [Try.params5] at hA' hval'
    obtain ⟨v0, v1, v2, d0, d1, d2, p0, p1, p2, rfl, rfl, rfl, h0, h1, h2⟩ := trodAll_three hA'
    obtain ⟨l0, A0, c0, rfl, g0, g0', s0⟩ := open_arg (k := 1) Try.underlying23 (opens_slice Try.underlying23 (by kernel_rfl) (by omega) (opens_byte Try.underlying5)) (hval' 0 23 v0 rfl rfl) h0
    obtain ⟨many, rfl, rfl, rfl, wmany⟩ := open_int Try.underlying3 (hval' 1 3 v1 rfl rfl) h1
    obtain ⟨long, rfl, rfl, rfl, wlong⟩ := open_int Try.underlying3 (hval' 2 3 v2 rfl rfl) h2
    by_cases hl : 4000 < l0.length
    · exact takes_long A0 _ c0 many long hl W
    · exact takes_any A0 l0 _ c0 many long (by omega) rfl g0 g0' (i64_lim wmany).2 (i64_lim wlong).2 W s0

theorem octetTakes_holds : Rows.OctetTakesSaid :=
  OpenClaim.holds_of_wide 5 Try.f5 rfl rfl rfl rfl rfl rfl rfl ⟨rfl, rfl, rfl, rfl, rfl⟩ rfl rfl rfl rfl rfl (by kernel_rfl) Try.func5 (by kernel_rfl)
    (of_decide_eq_true (by kernel_rfl)) (by unfold Func.isWrapper; first | (rw [if_pos (by decide +kernel)]; kernel_rfl) | (rw [if_neg (by decide +kernel)]; exact ⟨rfl, rfl⟩))
    (fun os started H enc _ => octetTakes_lifted os started H enc)
#print axioms octetTakes_holds
end Go.Proofs.Ytpigfpnpabnnbaa
