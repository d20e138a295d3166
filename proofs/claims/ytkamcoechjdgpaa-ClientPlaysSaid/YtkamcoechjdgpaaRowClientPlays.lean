/-
  ClientPlays holds: it answers true for every input, and its arguments read as they did. No condition.
-/
import Derived.Test.YtkamcoechjdgpaaLawClientPlays
import Derived.Test.YtkamcoechjdgpaaRdC
import Derived.Lib.SmallJoins
namespace Go.Proofs.Ytkamcoechjdgpaa
open Go.ChangeShapes Go.WideShapes Go.ChangeAt Go.RowKit Go.Joins
theorem clientPlays_own : ownKnob Try.prog.godebug = none := by kernel_rfl
set_option maxRecDepth 100000 in
theorem clientPlays_lifted (os : Os) (started : os.Started) (H : Type) (enc : TypeId × Value → H) :
    ReturnsInHanded {} Try.checked os 4 .any (Rows.clientPlaysSpec.pre6 enc Try.prog Try.f4 Rows.clientPlaysRow.domain false) (Rows.clientPlaysSpec.post enc Try.prog Try.f4 false true false false) := by
  refine law_lifted_sized (C := Try.checked) clientPlays_own started (by kernel_rfl) Try.func4
    (ChangeSpec.witness6 (enc := enc) (C := Try.checked) false ⟨#[], #[.agg #[.int .i64 0, .int .i64 0], .int .i64 0, .slice none 0 0], []⟩ 20 (by kernel_rfl) (by kernel_rfl) (by kernel_rfl) (by kernel_rfl))
    (by kernel_rfl) (by kernel_rfl) rfl Try.underlying4 rfl ?_ ?_
  · intro ds h
    match ds, h with
    | [x0, x1, x2], _ => rfl
  · intro W base args ds p hval hsz hA hlt
    have hA' : DataW.TrodAll enc Try.prog W 0 (fun _ => true) true Try.f4.params.toList args.toList ds p := hA
    have hval' : ∀ (j : Nat) t v, Try.f4.params[j]? = some t → args[j]? = some v → Value.okWide Try.prog W .any base t v := hval
    have hsz' : ∀ (j : Nat) t d, Try.f4.params[j]? = some t → ds[j]? = some d → InReach Try.prog t d := hsz
    rw [Try.params4] at hA' hval' hsz'
    obtain ⟨v0, v1, v2, d0, d1, d2, p0, p1, p2, rfl, rfl, rfl, h0, h1, h2⟩ := trodAll_three hA'
    obtain ⟨_, r0, s, rfl, k0⟩ := rd_struct Try.underlying23 reads_size (hval' 0 23 v0 rfl rfl) h0 (hsz' 0 23 d0 rfl rfl)
    obtain ⟨id, rfl, rfl, rfl, wid⟩ := open_int Try.underlying3 (hval' 1 3 v1 rfl rfl) h1
    obtain ⟨_, r2, l, e2, k2⟩ := rd_slice Try.underlying27 reads_wds (hval' 2 27 v2 rfl rfl) h2 (hsz' 2 27 d2 rfl rfl)
    cases e2
    exact law_top (lawPlays29 s id l) W _ (TRel.cons r0 (TRel.cons (.int _ _) (TRel.cons r2 TRel.nil)))

theorem clientPlays_holds : Rows.ClientPlaysSaid :=
  OpenClaim.holds_of_wide 4 Try.f4 rfl rfl rfl rfl rfl rfl rfl ⟨rfl, rfl, rfl, rfl, rfl⟩ rfl rfl rfl rfl rfl (by kernel_rfl) Try.func4 (by kernel_rfl)
    (of_decide_eq_true (by kernel_rfl)) (by unfold Func.isWrapper; first | (rw [if_pos (by decide +kernel)]; kernel_rfl) | (rw [if_neg (by decide +kernel)]; exact ⟨rfl, rfl⟩))
    (fun os started H enc _ => clientPlays_lifted os started H enc)
#print axioms clientPlays_holds
end Go.Proofs.Ytkamcoechjdgpaa
