/-
  CrcSpoilt holds: it answers true for every input, and its arguments read as they did. No condition.
-/
import Derived.Test.YtcafahcmalfepaaLawCrcSpoilt
import Derived.Lib.SmallJoins
import Derived.Test.YtcafahcmalfepaaOpenB
namespace Go.Proofs.Ytcafahcmalfepaa
open Go.ChangeShapes Go.WideShapes Go.ChangeAt Go.RowKit Go.Joins
theorem crcSpoilt_own : ownKnob Try.prog.godebug = none := by kernel_rfl
set_option maxRecDepth 100000 in
theorem crcSpoilt_lifted (os : Os) (started : os.Started) (H : Type) (enc : TypeId × Value → H) :
    ReturnsInHanded {} Try.checked os 7 .any (Rows.crcSpoiltSpec.pre6 enc Try.prog Try.f7 Rows.crcSpoiltRow.domain false) (Rows.crcSpoiltSpec.post enc Try.prog Try.f7 false true false false) := by
  refine law_lifted_sized (C := Try.checked) crcSpoilt_own started (by kernel_rfl) Try.func7
    (ChangeSpec.witness6 (enc := enc) (C := Try.checked) false ⟨#[], #[.slice none 0 0, .int .i64 0, .int .u8 0], []⟩ 20 (by kernel_rfl) (by kernel_rfl) (by kernel_rfl) (by kernel_rfl))
    (by kernel_rfl) (by kernel_rfl) rfl Try.underlying4 rfl ?_ ?_
  · intro ds h
    match ds, h with
    | [x0, x1, x2], _ => rfl
  · intro W base args ds p hval hsz hA hlt
    have hA' : DataW.TrodAll enc Try.prog W 0 (fun _ => true) true Try.f7.params.toList args.toList ds p := hA
    have hval' : ∀ (j : Nat) t v, Try.f7.params[j]? = some t → args[j]? = some v → Value.okWide Try.prog W .any base t v := hval
    have hsz' : ∀ (j : Nat) t d, Try.f7.params[j]? = some t → ds[j]? = some d → InReach Try.prog t d := hsz
    rw [Try.params7] at hA' hval' hsz'
    obtain ⟨v0, v1, v2, d0, d1, d2, p0, p1, p2, rfl, rfl, rfl, h0, h1, h2⟩ := trodAll_three hA'
    obtain ⟨l0, A0, c0, rfl, g0, g0', z0, s0⟩ := open_arg (k := 1) Try.underlying34 opens_rows (hval' 0 34 v0 rfl rfl) h0 (hsz' 0 34 d0 rfl rfl)
    obtain ⟨s0, u0⟩ := s0.sub
    obtain ⟨at_, rfl, rfl, rfl, wat_⟩ := open_int Try.underlying3 (hval' 1 3 v1 rfl rfl) h1
    obtain ⟨x', rfl, rfl, rfl, wx⟩ := open_int Try.underlying5 (hval' 2 5 v2 rfl rfl) h2
    obtain ⟨x, rfl, zx⟩ := nat_u8 wx
    exact spoilt_any A0 l0 _ c0 at_ x rfl g0 g0' (i64_lim wat_) zx W u0 s0

theorem crcSpoilt_holds : Rows.CrcSpoiltSaid :=
  OpenClaim.holds_of_wide 7 Try.f7 rfl rfl rfl rfl rfl rfl rfl ⟨rfl, rfl, rfl, rfl, rfl⟩ rfl rfl rfl rfl rfl (by kernel_rfl) Try.func7 (by kernel_rfl)
    (of_decide_eq_true (by kernel_rfl)) (by unfold Func.isWrapper; first | (rw [if_pos (by decide +kernel)]; kernel_rfl) | (rw [if_neg (by decide +kernel)]; exact ⟨rfl, rfl⟩))
    (fun os started H enc _ => crcSpoilt_lifted os started H enc)
#print axioms crcSpoilt_holds
end Go.Proofs.Ytcafahcmalfepaa
