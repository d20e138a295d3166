/-
  ClientBelieves holds: it answers true for every input, and its arguments read as they did. No condition.
-/
import Derived.Test.YtkamcoechjdgpaaLawClientBelieves
import Derived.Test.YtkamcoechjdgpaaRdC
import Derived.Lib.SmallJoins
namespace Go.Proofs.Ytkamcoechjdgpaa
open Go.ChangeShapes Go.WideShapes Go.ChangeAt Go.RowKit Go.Joins
theorem clientBelieves_own : ownKnob Try.prog.godebug = none := by kernel_rfl
set_option maxRecDepth 100000 in
theorem clientBelieves_lifted (os : Os) (started : os.Started) (H : Type) (enc : TypeId × Value → H) :
    ReturnsInHanded {} Try.checked os 3 .any (Rows.clientBelievesSpec.pre6 enc Try.prog Try.f3 Rows.clientBelievesRow.domain false) (Rows.clientBelievesSpec.post enc Try.prog Try.f3 false true false false) := by
  refine law_lifted_sized (C := Try.checked) clientBelieves_own started (by kernel_rfl) Try.func3
    (ChangeSpec.witness6 (enc := enc) (C := Try.checked) false ⟨#[], #[.agg #[.int .i64 0, .int .i64 0, .int .i64 0, .slice none 0 0], .slice none 0 0], []⟩ 20 (by kernel_rfl) (by kernel_rfl) (by kernel_rfl) (by kernel_rfl))
    (by kernel_rfl) (by kernel_rfl) rfl Try.underlying4 rfl ?_ ?_
  · intro ds h
    match ds, h with
    | [x0, x1], _ => rfl
  · intro W base args ds p hval hsz hA hlt
    have hA' : DataW.TrodAll enc Try.prog W 0 (fun _ => true) true Try.f3.params.toList args.toList ds p := hA
    have hval' : ∀ (j : Nat) t v, Try.f3.params[j]? = some t → args[j]? = some v → Value.okWide Try.prog W .any base t v := hval
    have hsz' : ∀ (j : Nat) t d, Try.f3.params[j]? = some t → ds[j]? = some d → InReach Try.prog t d := hsz
    rw [Try.params3] at hA' hval' hsz'
    obtain ⟨v0, v1, d0, d1, p0, p1, rfl, rfl, rfl, h0, h1⟩ := trodAll_two hA'
    obtain ⟨_, r0, s, id, bad, rfl, k0⟩ := rd_struct Try.underlying26 reads_cast (hval' 0 26 v0 rfl rfl) h0 (hsz' 0 26 d0 rfl rfl)
    obtain ⟨_, r1, l, e1, k1⟩ := rd_slice Try.underlying27 reads_wds (hval' 1 27 v1 rfl rfl) h1 (hsz' 1 27 d1 rfl rfl)
    cases e1
    exact law_top (lawBelieves29 s id bad l (by unfold reachBytes at k0; omega)) W _ (TRel.cons r0 (TRel.cons r1 TRel.nil))

theorem clientBelieves_holds : Rows.ClientBelievesSaid :=
  OpenClaim.holds_of_wide 3 Try.f3 rfl rfl rfl rfl rfl rfl rfl ⟨rfl, rfl, rfl, rfl, rfl⟩ rfl rfl rfl rfl rfl (by kernel_rfl) Try.func3 (by kernel_rfl)
    (of_decide_eq_true (by kernel_rfl)) (by unfold Func.isWrapper; first | (rw [if_pos (by decide +kernel)]; kernel_rfl) | (rw [if_neg (by decide +kernel)]; exact ⟨rfl, rfl⟩))
    (fun os started H enc _ => clientBelieves_lifted os started H enc)
#print axioms clientBelieves_holds
end Go.Proofs.Ytkamcoechjdgpaa
