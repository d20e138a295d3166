/-
  OctetBack holds: it answers true for every input, and its arguments read as they did. No condition.
-/
import Derived.Test.YtpigfpnpabnnbaaLawOctetBack
import Derived.Lib.SmallJoins
import Derived.Test.YtpigfpnpabnnbaaOpen
namespace Go.Proofs.Ytpigfpnpabnnbaa
open Go.ChangeShapes Go.WideShapes Go.ChangeAt Go.RowKit Go.Joins
theorem octetBack_own : ownKnob Try.prog.godebug = none := by kernel_rfl
set_option maxRecDepth 100000 in
theorem octetBack_lifted (os : Os) (started : os.Started) (H : Type) (enc : TypeId × Value → H) :
    ReturnsInHanded {} Try.checked os 7 .any (Rows.octetBackSpec.pre6 enc Try.prog Try.f7 Rows.octetBackRow.domain false) (Rows.octetBackSpec.post enc Try.prog Try.f7 false true false false) := by
  refine law_lifted_sized (C := Try.checked) octetBack_own started (by kernel_rfl) Try.func7
    (ChangeSpec.witness6 (enc := enc) (C := Try.checked) false ⟨#[], #[.int .u64 0, .string ⟨#[]⟩, .slice none 0 0], []⟩ 20 (by kernel_rfl) (by kernel_rfl) (by kernel_rfl) (by kernel_rfl))
    (by kernel_rfl) (by kernel_rfl) rfl Try.underlying4 rfl ?_ ?_
  · intro ds h
    match ds, h with
    | [x0, x1, x2], _ => rfl
  · intro W base args ds p hval hsz hA hlt
    have hA' : DataW.TrodAll enc Try.prog W 0 (fun _ => true) true Try.f7.params.toList args.toList ds p := hA
    have hval' : ∀ (j : Nat) t v, Try.f7.params[j]? = some t → args[j]? = some v → Value.okWide Try.prog W .any base t v := hval
    have hsz' : ∀ (j : Nat) t d, Try.f7.params[j]? = some t → ds[j]? = some d → InReach Try.prog t d := hsz
    rw [Try.params7] at hA' hval' hsz'
    obtain ⟨v0, v1, v2, d0, d1, d2, p0, p1, p2, rfl, rfl, rfl, h0, h1, h2⟩ := trodAll_three hA'
    obtain ⟨n', rfl, rfl, rfl, wn⟩ := open_int Try.underlying22 (hval' 0 22 v0 rfl rfl) h0
    obtain ⟨n, rfl, zn⟩ := nat_u64 wn
    obtain ⟨q1, rfl, g1⟩ := open_str Try.underlying9 (hval' 1 9 v1 rfl rfl) h1 (hsz' 1 9 d1 rfl rfl)
    obtain ⟨l2, A2, c2, rfl, g2, g2', z2, s2⟩ := open_arg (k := 1) Try.underlying23 (opens_slice (bytes := 1) Try.underlying23 (by kernel_rfl) (by kernel_rfl) (by omega) (opens_byte Try.underlying5)) (hval' 2 23 v2 rfl rfl) h2 (hsz' 2 23 d2 rfl rfl)
    unfold reachBytes at g1 z2
    by_cases hl : 4000 < q1.size + l2.length
    · exact back_long n q1 A2 _ c2 (by omega) (by omega) hl W
    · exact back_any n q1 A2 l2 _ c2 zn (by omega) rfl g2 g2' W s2

theorem octetBack_holds : Rows.OctetBackSaid :=
  OpenClaim.holds_of_wide 7 Try.f7 rfl rfl rfl rfl rfl rfl rfl ⟨rfl, rfl, rfl, rfl, rfl⟩ rfl rfl rfl rfl rfl (by kernel_rfl) Try.func7 (by kernel_rfl)
    (of_decide_eq_true (by kernel_rfl)) (by unfold Func.isWrapper; first | (rw [if_pos (by decide +kernel)]; kernel_rfl) | (rw [if_neg (by decide +kernel)]; exact ⟨rfl, rfl⟩))
    (fun os started H enc _ => octetBack_lifted os started H enc)
#print axioms octetBack_holds
end Go.Proofs.Ytpigfpnpabnnbaa
