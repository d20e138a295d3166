/-
  OctetLimits holds: it answers true for every input, and its arguments read as they did. No condition.
-/
import Derived.Test.YtpigfpnpabnnbaaLawOctetLimits
import Derived.Lib.SmallJoins
import Derived.Test.YtpigfpnpabnnbaaOpen
namespace Go.Proofs.Ytpigfpnpabnnbaa
open Go.ChangeShapes Go.WideShapes Go.ChangeAt Go.RowKit Go.Joins
theorem octetLimits_own : ownKnob Try.prog.godebug = none := by kernel_rfl
set_option maxRecDepth 100000 in
theorem octetLimits_lifted (os : Os) (started : os.Started) (H : Type) (enc : TypeId × Value → H) :
    ReturnsInHanded {} Try.checked os 6 .any (Rows.octetLimitsSpec.pre6 enc Try.prog Try.f6 Rows.octetLimitsRow.domain false) (Rows.octetLimitsSpec.post enc Try.prog Try.f6 false true false false) := by
  refine law_lifted_sized (C := Try.checked) octetLimits_own started (by kernel_rfl) Try.func6
    (ChangeSpec.witness6 (enc := enc) (C := Try.checked) false ⟨#[], #[.slice none 0 0, .int .i64 0, .int .i64 0], []⟩ 20 (by kernel_rfl) (by kernel_rfl) (by kernel_rfl) (by kernel_rfl))
    (by kernel_rfl) (by kernel_rfl) rfl Try.underlying4 rfl ?_ ?_
  · intro ds h
    match ds, h with
    | [x0, x1, x2], _ => rfl
  · intro W base args ds p hval hsz hA hlt
    have hA' : DataW.TrodAll enc Try.prog W 0 (fun _ => true) true Try.f6.params.toList args.toList ds p := hA
    have hval' : ∀ (j : Nat) t v, Try.f6.params[j]? = some t → args[j]? = some v → Value.okWide Try.prog W .any base t v := hval
    have hsz' : ∀ (j : Nat) t d, Try.f6.params[j]? = some t → ds[j]? = some d → InReach Try.prog t d := hsz
    rw [Try.params6] at hA' hval' hsz'
    obtain ⟨v0, v1, v2, d0, d1, d2, p0, p1, p2, rfl, rfl, rfl, h0, h1, h2⟩ := trodAll_three hA'
    obtain ⟨l0, A0, c0, rfl, g0, g0', z0, s0⟩ := open_arg (k := 1) Try.underlying28 (opens_slice (bytes := 16) Try.underlying28 (by kernel_rfl) (by kernel_rfl) (by omega) (opens_str Try.underlying9)) (hval' 0 28 v0 rfl rfl) h0 (hsz' 0 28 d0 rfl rfl)
    obtain ⟨s0, u0⟩ := s0.sub
    obtain ⟨many, rfl, rfl, rfl, wmany⟩ := open_int Try.underlying3 (hval' 1 3 v1 rfl rfl) h1
    obtain ⟨long, rfl, rfl, rfl, wlong⟩ := open_int Try.underlying3 (hval' 2 3 v2 rfl rfl) h2
    exact limits_any A0 l0 _ c0 many long rfl g0 g0' u0 (i64_lim wmany) (i64_lim wlong) W s0

theorem octetLimits_holds : Rows.OctetLimitsSaid :=
  OpenClaim.holds_of_wide 6 Try.f6 rfl rfl rfl rfl rfl rfl rfl ⟨rfl, rfl, rfl, rfl, rfl⟩ rfl rfl rfl rfl rfl (by kernel_rfl) Try.func6 (by kernel_rfl)
    (of_decide_eq_true (by kernel_rfl)) (by unfold Func.isWrapper; first | (rw [if_pos (by decide +kernel)]; kernel_rfl) | (rw [if_neg (by decide +kernel)]; exact ⟨rfl, rfl⟩))
    (fun os started H enc _ => octetLimits_lifted os started H enc)
#print axioms octetLimits_holds
end Go.Proofs.Ytpigfpnpabnnbaa
