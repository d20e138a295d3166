/-
  WireOnly holds: it answers true for every input, and its arguments read as they did. No condition.
-/
import Derived.Test.YtkamcoechjdgpaaKLawWireOnly
import Derived.Test.YtkamcoechjdgpaaMi
import Derived.Lib.SmallJoins
namespace Go.Proofs.Ytkamcoechjdgpaa
open Go.ChangeShapes Go.WideShapes Go.ChangeAt Go.RowKit Go.Joins
theorem wireOnly_own : ownKnob Try.prog.godebug = none := by kernel_rfl
set_option maxRecDepth 100000 in
theorem wireOnly_lifted (os : Os) (started : os.Started) (H : Type) (enc : TypeId × Value → H) :
    ReturnsInHanded {} Try.checked os 6 .any (Rows.wireOnlySpec.pre6 enc Try.prog Try.f6 Rows.wireOnlyRow.domain false) (Rows.wireOnlySpec.post enc Try.prog Try.f6 false true false false) := by
  refine law_lifted_nf (C := Try.checked) wireOnly_own started (by kernel_rfl) Try.func6
    (ChangeSpec.witness6 (enc := enc) (C := Try.checked) false ⟨#[], #[.slice none 0 0], []⟩ 20 (by kernel_rfl) (by kernel_rfl) (by kernel_rfl) (by kernel_rfl))
    (by kernel_rfl) (by kernel_rfl) rfl Try.underlying4 rfl ?_ ?_
  · intro ds h
    match ds, h with
    | [x0], _ => rfl
  · intro W base args ds p hval hsz hA hlt hfz
    have hA' : DataW.TrodAll enc Try.prog W 0 (fun _ => true) true Try.f6.params.toList args.toList ds p := hA
    have hval' : ∀ (j : Nat) t v, Try.f6.params[j]? = some t → args[j]? = some v → Value.okWide Try.prog W .any base t v := hval
    have hsz' : ∀ (j : Nat) t d, Try.f6.params[j]? = some t → ds[j]? = some d → InReach Try.prog t d := hsz
    rw [Try.params6] at hA' hval' hsz'
    obtain ⟨v0, d0, rfl, rfl, h0⟩ := trodAll_one hA'
    obtain ⟨_, r0, b, e0, k0⟩ := rd_slice Try.underlying85 reads_bytes' (hval' 0 85 v0 rfl rfl) h0 (hsz' 0 85 d0 rfl rfl) (nfSub hfz fun x hx => by simp [hx])
    cases e0
    exact law_top (only27_spec b) W _ (TRel.cons r0 TRel.nil)

theorem wireOnly_holds : Rows.WireOnlySaid :=
  OpenClaim.holds_of_wide 6 Try.f6 rfl rfl rfl rfl rfl rfl rfl ⟨rfl, rfl, rfl, rfl, rfl⟩ rfl rfl rfl rfl rfl (by kernel_rfl) Try.func6 (by kernel_rfl)
    (of_decide_eq_true (by kernel_rfl)) (by unfold Func.isWrapper; first | (rw [if_pos (by decide +kernel)]; kernel_rfl) | (rw [if_neg (by decide +kernel)]; exact ⟨rfl, rfl⟩))
    (fun os started H enc _ => wireOnly_lifted os started H enc)
#print axioms wireOnly_holds
end Go.Proofs.Ytkamcoechjdgpaa
