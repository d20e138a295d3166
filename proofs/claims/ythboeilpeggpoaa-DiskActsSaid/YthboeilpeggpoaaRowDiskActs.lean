/-
  DiskActs holds: it answers true for every input, and its arguments read as they did. No condition.
-/
import Derived.Test.YthboeilpeggpoaaLawDiskActs
import Derived.Lib.SmallJoins
import Derived.Test.YthboeilpeggpoaaDiskOpen
namespace Go.Proofs.Ythboeilpeggpoaa
open Go.ChangeShapes Go.WideShapes Go.ChangeAt Go.RowKit Go.Joins
theorem diskActs_own : ownKnob Try.prog.godebug = none := by kernel_rfl
set_option maxRecDepth 100000 in
theorem diskActs_lifted (os : Os) (started : os.Started) (H : Type) (enc : TypeId × Value → H) :
    ReturnsInHanded {} Try.checked os 4 .any (Rows.diskActsSpec.pre6 enc Try.prog Try.f4 Rows.diskActsRow.domain false) (Rows.diskActsSpec.post enc Try.prog Try.f4 false true false false) := by
  refine law_lifted_sized (C := Try.checked) diskActs_own started (by kernel_rfl) Try.func4
    (ChangeSpec.witness6 (enc := enc) (C := Try.checked) false ⟨#[], #[.agg #[.int .i64 0, .slice none 0 0, .slice none 0 0, .bool false, .int .i64 0], .slice none 0 0, .int .i64 0], []⟩ 20 (by kernel_rfl) (by kernel_rfl) (by kernel_rfl) (by kernel_rfl))
    (by kernel_rfl) (by kernel_rfl) rfl Try.underlying4 rfl ?_ ?_
  · intro ds h
    match ds, h with
    | [x0, x1, x2], _ => rfl
  · intro W base args ds p hval hsz hA hlt
    have hA' : DataW.TrodAll enc Try.prog W 0 (fun _ => true) true Try.f4.params.toList args.toList ds p := hA
    have hval' : ∀ (j : Nat) t v, Try.f4.params[j]? = some t → args[j]? = some v → Value.okWide Try.prog W .any base t v := hval
    have hsz' : ∀ (j : Nat) t d, Try.f4.params[j]? = some t → ds[j]? = some d → InReach Try.prog t d := hsz
    rw [Try.params4] at hA' hval' hsz'
    obtain ⟨v0, v1, v2, d0, d1, d2, p0, p1, p2, rfl, rfl, rfl, h0, h1, h2⟩ := trodAll_three hA'
    obtain ⟨a, rfl, k0, r0, r0'⟩ := open_disk (hval' 0 24 v0 rfl rfl) h0 (hsz' 0 24 d0 rfl rfl)
    obtain ⟨l1, A1, c1, rfl, g1, g1', z1, s1⟩ := open_arg (k := 1) Try.underlying22 (opens_slice (bytes := 1) Try.underlying22 (by kernel_rfl) (by kernel_rfl) (by omega) (opens_byte Try.underlying5)) (hval' 1 22 v1 rfl rfl) h1 (hsz' 1 22 d1 rfl rfl)
    obtain ⟨n, rfl, rfl, rfl, wn⟩ := open_int Try.underlying3 (hval' 2 3 v2 rfl rfl) h2
    exact disk_acts_any a A1 l1 c1 n g1 g1' W k0 s1

theorem diskActs_holds : Rows.DiskActsSaid :=
  OpenClaim.holds_of_wide 4 Try.f4 rfl rfl rfl rfl rfl rfl rfl ⟨rfl, rfl, rfl, rfl, rfl⟩ rfl rfl rfl rfl rfl (by kernel_rfl) Try.func4 (by kernel_rfl)
    (of_decide_eq_true (by kernel_rfl)) (by unfold Func.isWrapper; first | (rw [if_pos (by decide +kernel)]; kernel_rfl) | (rw [if_neg (by decide +kernel)]; exact ⟨rfl, rfl⟩))
    (fun os started H enc _ => diskActs_lifted os started H enc)
#print axioms diskActs_holds
end Go.Proofs.Ythboeilpeggpoaa
