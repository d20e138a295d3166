/-
  OctetWrites holds: it answers true for every input, and its arguments read as they did. No condition.
-/
import Derived.Test.YtpigfpnpabnnbaaLawOctetWrites
import Derived.Lib.SmallJoins
import Derived.Test.YtpigfpnpabnnbaaOpen
namespace Go.Proofs.Ytpigfpnpabnnbaa
open Go.ChangeShapes Go.WideShapes Go.ChangeAt Go.RowKit Go.Joins
theorem octetWrites_own : ownKnob Try.prog.godebug = none := by kernel_rfl
set_option maxRecDepth 100000 in
theorem octetWrites_lifted (os : Os) (started : os.Started) (H : Type) (enc : TypeId × Value → H) :
    ReturnsInHanded {} Try.checked os 4 .any (Rows.octetWritesSpec.pre6 enc Try.prog Try.f4 Rows.octetWritesRow.domain false) (Rows.octetWritesSpec.post enc Try.prog Try.f4 false true false false) := by
  refine law_lifted_sized (C := Try.checked) octetWrites_own started (by kernel_rfl) Try.func4
    (ChangeSpec.witness6 (enc := enc) (C := Try.checked) false ⟨#[], #[.slice none 0 0, .int .u64 0, .slice none 0 0], []⟩ 20 (by kernel_rfl) (by kernel_rfl) (by kernel_rfl) (by kernel_rfl))
    (by kernel_rfl) (by kernel_rfl) rfl Try.underlying4 rfl ?_ ?_
  · intro ds h
    match ds, h with
    | [x0, x1, x2], _ => rfl
  · intro W base args ds p hval hsz hA hlt
    have hA' : DataW.TrodAll enc Try.prog W 0 (fun _ => true) true Try.f4.params.toList args.toList ds p := hA
    have hval' : ∀ (j : Nat) t v, Try.f4.params[j]? = some t → args[j]? = some v → Value.okWide Try.prog W .any base t v := hval
    have hsz' : ∀ (j : Nat) t d, Try.f4.params[j]? = some t → ds[j]? = some d → InReach Try.prog t d := hsz
    rw [Try.params4] at hA' hval' hsz'
    obtain ⟨v0, v1, v2, d0, d1, d2, p0, p1, p2, rfl, rfl, rfl, h0, h1, h2⟩ := trodAll_three hA'
    obtain ⟨l0, A0, c0, rfl, g0, g0', z0, s0⟩ := open_arg (k := 1) Try.underlying23 (opens_slice (bytes := 1) Try.underlying23 (by kernel_rfl) (by kernel_rfl) (by omega) (opens_byte Try.underlying5)) (hval' 0 23 v0 rfl rfl) h0 (hsz' 0 23 d0 rfl rfl)
    obtain ⟨n', rfl, rfl, rfl, wn⟩ := open_int Try.underlying22 (hval' 1 22 v1 rfl rfl) h1
    obtain ⟨n, rfl, zn⟩ := nat_u64 wn
    obtain ⟨l2, A2, c2, rfl, g2, g2', z2, s2⟩ := open_arg (k := 1) Try.underlying28 (opens_slice (bytes := 16) Try.underlying28 (by kernel_rfl) (by kernel_rfl) (by omega) (opens_str Try.underlying9)) (hval' 2 28 v2 rfl rfl) h2 (hsz' 2 28 d2 rfl rfl)
    obtain ⟨s2, u2⟩ := s2.sub
    unfold reachBytes at z0 z2
    by_cases hl : l2 = []
    · exact writes_none A0 A2 l0 l2 _ c0 n _ c2 hl zn rfl g0 g0' (by omega) rfl u2 (by omega) W s0 s2
    · exact writes_some A0 A2 l0 l2 _ c0 n _ c2 hl zn rfl g0 g0' (by omega) rfl u2 (by omega) W s0 s2

theorem octetWrites_holds : Rows.OctetWritesSaid :=
  OpenClaim.holds_of_wide 4 Try.f4 rfl rfl rfl rfl rfl rfl rfl ⟨rfl, rfl, rfl, rfl, rfl⟩ rfl rfl rfl rfl rfl (by kernel_rfl) Try.func4 (by kernel_rfl)
    (of_decide_eq_true (by kernel_rfl)) (by unfold Func.isWrapper; first | (rw [if_pos (by decide +kernel)]; kernel_rfl) | (rw [if_neg (by decide +kernel)]; exact ⟨rfl, rfl⟩))
    (fun os started H enc _ => octetWrites_lifted os started H enc)
#print axioms octetWrites_holds
end Go.Proofs.Ytpigfpnpabnnbaa
