/-
  OctetOnly holds: it answers true for every input, and its arguments read as they did. No condition.
-/
import Derived.Test.YtpigfpnpabnnbaaLawOctetOnly
import Derived.Lib.SmallJoins
import Derived.Test.YtpigfpnpabnnbaaOpen
namespace Go.Proofs.Ytpigfpnpabnnbaa
open Go.ChangeShapes Go.WideShapes Go.ChangeAt Go.RowKit Go.Joins
theorem octetOnly_own : ownKnob Try.prog.godebug = none := by kernel_rfl
set_option maxRecDepth 100000 in
theorem octetOnly_lifted (os : Os) (started : os.Started) (H : Type) (enc : TypeId × Value → H) :
    ReturnsInHanded {} Try.checked os 8 .any (Rows.octetOnlySpec.pre6 enc Try.prog Try.f8 Rows.octetOnlyRow.domain false) (Rows.octetOnlySpec.post enc Try.prog Try.f8 false true false false) := by
  refine law_lifted_sized (C := Try.checked) octetOnly_own started (by kernel_rfl) Try.func8
    (ChangeSpec.witness6 (enc := enc) (C := Try.checked) false ⟨#[], #[.slice none 0 0], []⟩ 20 (by kernel_rfl) (by kernel_rfl) (by kernel_rfl) (by kernel_rfl))
    (by kernel_rfl) (by kernel_rfl) rfl Try.underlying4 rfl ?_ ?_
  · intro ds h
    match ds, h with
    | [x0], _ => rfl
  · intro W base args ds p hval hsz hA hlt
    have hA' : DataW.TrodAll enc Try.prog W 0 (fun _ => true) true Try.f8.params.toList args.toList ds p := hA
    have hval' : ∀ (j : Nat) t v, Try.f8.params[j]? = some t → args[j]? = some v → Value.okWide Try.prog W .any base t v := hval
    have hsz' : ∀ (j : Nat) t d, Try.f8.params[j]? = some t → ds[j]? = some d → InReach Try.prog t d := hsz
    rw [Try.params8] at hA' hval' hsz'
    obtain ⟨v0, d0, rfl, rfl, h0⟩ := trodAll_one hA'
    obtain ⟨l0, A0, c0, rfl, g0, g0', z0, s0⟩ := open_arg (k := 1) Try.underlying23 (opens_slice (bytes := 1) Try.underlying23 (by kernel_rfl) (by kernel_rfl) (by omega) (opens_byte Try.underlying5)) (hval' 0 23 v0 rfl rfl) h0 (hsz' 0 23 d0 rfl rfl)
    by_cases hl : 4000 < l0.length
    · exact only_long A0 _ c0 hl W
    · cases ht : takeN l0 with
      | error z => exact only_err A0 l0 _ c0 z (by omega) rfl g0 g0' ht W s0
      | ok p =>
        obtain ⟨m, x⟩ := p
        cases htl : takeL l0 4000 4000 with
        | error z => exact only_no A0 l0 x _ c0 m z (by omega) rfl g0 g0' ht htl W s0
        | ok p =>
          obtain ⟨l, y⟩ := p
          exact only_ok A0 l0 x _ c0 m l y (by omega) rfl g0 g0' ht htl W s0

theorem octetOnly_holds : Rows.OctetOnlySaid :=
  OpenClaim.holds_of_wide 8 Try.f8 rfl rfl rfl rfl rfl rfl rfl ⟨rfl, rfl, rfl, rfl, rfl⟩ rfl rfl rfl rfl rfl (by kernel_rfl) Try.func8 (by kernel_rfl)
    (of_decide_eq_true (by kernel_rfl)) (by unfold Func.isWrapper; first | (rw [if_pos (by decide +kernel)]; kernel_rfl) | (rw [if_neg (by decide +kernel)]; exact ⟨rfl, rfl⟩))
    (fun os started H enc _ => octetOnly_lifted os started H enc)
#print axioms octetOnly_holds
end Go.Proofs.Ytpigfpnpabnnbaa
