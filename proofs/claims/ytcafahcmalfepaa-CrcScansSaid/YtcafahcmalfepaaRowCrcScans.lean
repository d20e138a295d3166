/-
  CrcScans holds: it answers true for every input, and its arguments read as they did. No condition.
-/
import Derived.Test.YtcafahcmalfepaaLawCrcScans
import Derived.Lib.SmallJoins
import Derived.Test.YtcafahcmalfepaaOpenB
namespace Go.Proofs.Ytcafahcmalfepaa
open Go.ChangeShapes Go.WideShapes Go.ChangeAt Go.RowKit Go.Joins
theorem crcScans_own : ownKnob Try.prog.godebug = none := by kernel_rfl
set_option maxRecDepth 100000 in
theorem crcScans_lifted (os : Os) (started : os.Started) (H : Type) (enc : TypeId × Value → H) :
    ReturnsInHanded {} Try.checked os 5 .any (Rows.crcScansSpec.pre6 enc Try.prog Try.f5 Rows.crcScansRow.domain false) (Rows.crcScansSpec.post enc Try.prog Try.f5 false true false false) := by
  refine law_lifted_sized (C := Try.checked) crcScans_own started (by kernel_rfl) Try.func5
    (ChangeSpec.witness6 (enc := enc) (C := Try.checked) false ⟨#[], #[.slice none 0 0], []⟩ 20 (by kernel_rfl) (by kernel_rfl) (by kernel_rfl) (by kernel_rfl))
    (by kernel_rfl) (by kernel_rfl) rfl Try.underlying4 rfl ?_ ?_
  · intro ds h
    match ds, h with
    | [x0], _ => rfl
  · intro W base args ds p hval hsz hA hlt
    have hA' : DataW.TrodAll enc Try.prog W 0 (fun _ => true) true Try.f5.params.toList args.toList ds p := hA
    have hval' : ∀ (j : Nat) t v, Try.f5.params[j]? = some t → args[j]? = some v → Value.okWide Try.prog W .any base t v := hval
    have hsz' : ∀ (j : Nat) t d, Try.f5.params[j]? = some t → ds[j]? = some d → InReach Try.prog t d := hsz
    rw [Try.params5] at hA' hval' hsz'
    obtain ⟨v0, d0, rfl, rfl, h0⟩ := trodAll_one hA'
    obtain ⟨l0, A0, c0, rfl, g0, g0', z0, s0⟩ := open_arg (k := 1) Try.underlying22 (opens_slice (bytes := 1) Try.underlying22 (by kernel_rfl) (by kernel_rfl) (by omega) (opens_byte Try.underlying5)) (hval' 0 22 v0 rfl rfl) h0 (hsz' 0 22 d0 rfl rfl)
    exact scans_any A0 l0 _ c0 rfl g0 g0' W s0

theorem crcScans_holds : Rows.CrcScansSaid :=
  OpenClaim.holds_of_wide 5 Try.f5 rfl rfl rfl rfl rfl rfl rfl ⟨rfl, rfl, rfl, rfl, rfl⟩ rfl rfl rfl rfl rfl (by kernel_rfl) Try.func5 (by kernel_rfl)
    (of_decide_eq_true (by kernel_rfl)) (by unfold Func.isWrapper; first | (rw [if_pos (by decide +kernel)]; kernel_rfl) | (rw [if_neg (by decide +kernel)]; exact ⟨rfl, rfl⟩))
    (fun os started H enc _ => crcScans_lifted os started H enc)
#print axioms crcScans_holds
end Go.Proofs.Ytcafahcmalfepaa
