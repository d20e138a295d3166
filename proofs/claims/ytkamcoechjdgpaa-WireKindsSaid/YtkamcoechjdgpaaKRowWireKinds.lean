/-
  WireKinds holds: it answers true for every input, and its arguments read as they did. No condition.
-/
import Derived.Test.YtkamcoechjdgpaaKLawWireKinds
import Derived.Test.YtkamcoechjdgpaaMi
import Derived.Lib.SmallJoins
namespace Go.Proofs.Ytkamcoechjdgpaa
open Go.ChangeShapes Go.WideShapes Go.ChangeAt Go.RowKit Go.Joins
theorem wireKinds_own : ownKnob Try.prog.godebug = none := by kernel_rfl
set_option maxRecDepth 100000 in
theorem wireKinds_lifted (os : Os) (started : os.Started) (H : Type) (enc : TypeId × Value → H) :
    ReturnsInHanded {} Try.checked os 8 .any (Rows.wireKindsSpec.pre6 enc Try.prog Try.f8 Rows.wireKindsRow.domain false) (Rows.wireKindsSpec.post enc Try.prog Try.f8 false true false false) := by
  refine law_lifted_nf (C := Try.checked) wireKinds_own started (by kernel_rfl) Try.func8
    (ChangeSpec.witness6 (enc := enc) (C := Try.checked) false ⟨#[], #[.int .i64 0, .int .i64 0, .int .i64 0], []⟩ 20 (by kernel_rfl) (by kernel_rfl) (by kernel_rfl) (by kernel_rfl))
    (by kernel_rfl) (by kernel_rfl) rfl Try.underlying4 rfl ?_ ?_
  · intro ds h
    match ds, h with
    | [x0, x1, x2], _ => rfl
  · intro W base args ds p hval hsz hA hlt hfz
    have hA' : DataW.TrodAll enc Try.prog W 0 (fun _ => true) true Try.f8.params.toList args.toList ds p := hA
    have hval' : ∀ (j : Nat) t v, Try.f8.params[j]? = some t → args[j]? = some v → Value.okWide Try.prog W .any base t v := hval
    have hsz' : ∀ (j : Nat) t d, Try.f8.params[j]? = some t → ds[j]? = some d → InReach Try.prog t d := hsz
    rw [Try.params8] at hA' hval' hsz'
    obtain ⟨v0, v1, v2, d0, d1, d2, p0, p1, p2, rfl, rfl, rfl, h0, h1, h2⟩ := trodAll_three hA'
    obtain ⟨k, rfl, rfl, rfl, wk⟩ := open_int Try.underlying3 (hval' 0 3 v0 rfl rfl) h0
    obtain ⟨f, rfl, rfl, rfl, wf⟩ := open_int Try.underlying3 (hval' 1 3 v1 rfl rfl) h1
    obtain ⟨n, rfl, rfl, rfl, wn⟩ := open_int Try.underlying3 (hval' 2 3 v2 rfl rfl) h2
    exact law_top (kinds27_spec k f n (wf64 wk) (wf64 wf) (wf64 wn)) W _ (TRel.cons (.int _ _) (TRel.cons (.int _ _) (TRel.cons (.int _ _) TRel.nil)))

theorem wireKinds_holds : Rows.WireKindsSaid :=
  OpenClaim.holds_of_wide 8 Try.f8 rfl rfl rfl rfl rfl rfl rfl ⟨rfl, rfl, rfl, rfl, rfl⟩ rfl rfl rfl rfl rfl (by kernel_rfl) Try.func8 (by kernel_rfl)
    (of_decide_eq_true (by kernel_rfl)) (by unfold Func.isWrapper; first | (rw [if_pos (by decide +kernel)]; kernel_rfl) | (rw [if_neg (by decide +kernel)]; exact ⟨rfl, rfl⟩))
    (fun os started H enc _ => wireKinds_lifted os started H enc)
#print axioms wireKinds_holds
end Go.Proofs.Ytkamcoechjdgpaa
