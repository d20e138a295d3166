/-
  CrcTells holds: it answers true for every input, and its arguments read as they did. No condition.
-/
import Derived.Test.YtcafahcmalfepaaLawCrcTells
import Derived.Lib.SmallJoins
import Derived.Test.YtcafahcmalfepaaOpenB
namespace Go.Proofs.Ytcafahcmalfepaa
open Go.ChangeShapes Go.WideShapes Go.ChangeAt Go.RowKit Go.Joins
theorem crcTells_own : ownKnob Try.prog.godebug = none := by kernel_rfl
set_option maxRecDepth 100000 in
theorem crcTells_lifted (os : Os) (started : os.Started) (H : Type) (enc : TypeId × Value → H) :
    ReturnsInHanded {} Try.checked os 3 .any (Rows.crcTellsSpec.pre6 enc Try.prog Try.f3 Rows.crcTellsRow.domain false) (Rows.crcTellsSpec.post enc Try.prog Try.f3 false true false false) := by
  refine law_lifted_sized (C := Try.checked) crcTells_own started (by kernel_rfl) Try.func3
    (ChangeSpec.witness6 (enc := enc) (C := Try.checked) false ⟨#[], #[.slice none 0 0, .slice none 0 0, .int .u32 0], []⟩ 20 (by kernel_rfl) (by kernel_rfl) (by kernel_rfl) (by kernel_rfl))
    (by kernel_rfl) (by kernel_rfl) rfl Try.underlying4 rfl ?_ ?_
  · intro ds h
    match ds, h with
    | [x0, x1, x2], _ => rfl
  · intro W base args ds p hval hsz hA hlt
    have hA' : DataW.TrodAll enc Try.prog W 0 (fun _ => true) true Try.f3.params.toList args.toList ds p := hA
    have hval' : ∀ (j : Nat) t v, Try.f3.params[j]? = some t → args[j]? = some v → Value.okWide Try.prog W .any base t v := hval
    have hsz' : ∀ (j : Nat) t d, Try.f3.params[j]? = some t → ds[j]? = some d → InReach Try.prog t d := hsz
    rw [Try.params3] at hA' hval' hsz'
    obtain ⟨v0, v1, v2, d0, d1, d2, p0, p1, p2, rfl, rfl, rfl, h0, h1, h2⟩ := trodAll_three hA'
    obtain ⟨l0, A0, c0, rfl, g0, g0', z0, s0⟩ := open_arg (k := 1) Try.underlying22 (opens_slice (bytes := 1) Try.underlying22 (by kernel_rfl) (by kernel_rfl) (by omega) (opens_byte Try.underlying5)) (hval' 0 22 v0 rfl rfl) h0 (hsz' 0 22 d0 rfl rfl)
    obtain ⟨l1, A1, c1, rfl, g1, g1', z1, s1⟩ := open_arg (k := 1) Try.underlying22 (opens_slice (bytes := 1) Try.underlying22 (by kernel_rfl) (by kernel_rfl) (by omega) (opens_byte Try.underlying5)) (hval' 1 22 v1 rfl rfl) h1 (hsz' 1 22 d1 rfl rfl)
    obtain ⟨x', rfl, rfl, rfl, wx⟩ := open_int Try.underlying23 (hval' 2 23 v2 rfl rfl) h2
    obtain ⟨x, rfl, zx⟩ := nat_u32 wx
    exact tells_any A0 A1 l0 l1 _ _ c0 c1 x rfl g0 g0' rfl g1 g1' zx W s0 s1

theorem crcTells_holds : Rows.CrcTellsSaid :=
  OpenClaim.holds_of_wide 3 Try.f3 rfl rfl rfl rfl rfl rfl rfl ⟨rfl, rfl, rfl, rfl, rfl⟩ rfl rfl rfl rfl rfl (by kernel_rfl) Try.func3 (by kernel_rfl)
    (of_decide_eq_true (by kernel_rfl)) (by unfold Func.isWrapper; first | (rw [if_pos (by decide +kernel)]; kernel_rfl) | (rw [if_neg (by decide +kernel)]; exact ⟨rfl, rfl⟩))
    (fun os started H enc _ => crcTells_lifted os started H enc)
#print axioms crcTells_holds
end Go.Proofs.Ytcafahcmalfepaa
