/-
  DiskKept holds: it answers true for every input, and its arguments read as they did. No condition.
-/
import Derived.Test.YthboeilpeggpoaaActOpen
import Derived.Lib.SmallJoins
import Derived.Test.YthboeilpeggpoaaDiskOpen
namespace Go.Proofs.Ythboeilpeggpoaa
open Go.ChangeShapes Go.WideShapes Go.ChangeAt Go.RowKit Go.Joins
theorem diskKept_own : ownKnob Try.prog.godebug = none := by kernel_rfl
set_option maxRecDepth 100000 in
theorem diskKept_lifted (os : Os) (started : os.Started) (H : Type) (enc : TypeId × Value → H) :
    ReturnsInHanded {} Try.checked os 5 .any (Rows.diskKeptSpec.pre6 enc Try.prog Try.f5 Rows.diskKeptRow.domain false) (Rows.diskKeptSpec.post enc Try.prog Try.f5 false true false false) := by
  refine law_lifted_sized (C := Try.checked) diskKept_own started (by kernel_rfl) Try.func5
    (ChangeSpec.witness6 (enc := enc) (C := Try.checked) false ⟨#[], #[.int .i64 0, .slice none 0 0, .int .i64 0], []⟩ 20 (by kernel_rfl) (by kernel_rfl) (by kernel_rfl) (by kernel_rfl))
    (by kernel_rfl) (by kernel_rfl) rfl Try.underlying4 rfl ?_ ?_
  · intro ds h
    match ds, h with
    | [x0, x1, x2], _ => rfl
  · intro W base args ds p hval hsz hA hlt
    have hA' : DataW.TrodAll enc Try.prog W 0 (fun _ => true) true Try.f5.params.toList args.toList ds p := hA
    have hval' : ∀ (j : Nat) t v, Try.f5.params[j]? = some t → args[j]? = some v → Value.okWide Try.prog W .any base t v := hval
    have hsz' : ∀ (j : Nat) t d, Try.f5.params[j]? = some t → ds[j]? = some d → InReach Try.prog t d := hsz
    rw [Try.params5] at hA' hval' hsz'
    obtain ⟨v0, v1, v2, d0, d1, d2, p0, p1, p2, rfl, rfl, rfl, h0, h1, h2⟩ := trodAll_three hA'
    obtain ⟨size, rfl, rfl, rfl, wsize⟩ := open_int Try.underlying3 (hval' 0 3 v0 rfl rfl) h0
    obtain ⟨l1, A1, c1, rfl, g1, g1', z1, s1⟩ := open_arg Try.underlying48 opens_acts (hval' 1 48 v1 rfl rfl) h1 (hsz' 1 48 d1 rfl rfl)
    obtain ⟨keep, rfl, rfl, rfl, wkeep⟩ := open_int Try.underlying3 (hval' 2 3 v2 rfl rfl) h2
    exact kept_any size A1 l1 _ c1 keep rfl g1 g1' W s1

theorem diskKept_holds : Rows.DiskKeptSaid :=
  OpenClaim.holds_of_wide 5 Try.f5 rfl rfl rfl rfl rfl rfl rfl ⟨rfl, rfl, rfl, rfl, rfl⟩ rfl rfl rfl rfl rfl (by kernel_rfl) Try.func5 (by kernel_rfl)
    (of_decide_eq_true (by kernel_rfl)) (by unfold Func.isWrapper; first | (rw [if_pos (by decide +kernel)]; kernel_rfl) | (rw [if_neg (by decide +kernel)]; exact ⟨rfl, rfl⟩))
    (fun os started H enc _ => diskKept_lifted os started H enc)
#print axioms diskKept_holds
end Go.Proofs.Ythboeilpeggpoaa
