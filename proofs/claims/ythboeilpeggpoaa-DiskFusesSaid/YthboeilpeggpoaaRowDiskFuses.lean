/-
  DiskFuses holds: it answers true for every input, and its arguments read as they did. No condition.
-/
import Derived.Test.YthboeilpeggpoaaLawDiskFuses
import Derived.Lib.SmallJoins
import Derived.Test.YthboeilpeggpoaaDiskOpen
namespace Go.Proofs.Ythboeilpeggpoaa
open Go.ChangeShapes Go.WideShapes Go.ChangeAt Go.RowKit Go.Joins
theorem diskFuses_own : ownKnob Try.prog.godebug = none := by kernel_rfl
set_option maxRecDepth 100000 in
theorem diskFuses_lifted (os : Os) (started : os.Started) (H : Type) (enc : TypeId × Value → H) :
    ReturnsInHanded {} Try.checked os 6 .any (Rows.diskFusesSpec.pre6 enc Try.prog Try.f6 Rows.diskFusesRow.domain false) (Rows.diskFusesSpec.post enc Try.prog Try.f6 false true false false) := by
  refine law_lifted_sized (C := Try.checked) diskFuses_own started (by kernel_rfl) Try.func6
    (ChangeSpec.witness6 (enc := enc) (C := Try.checked) false ⟨#[], #[.agg #[.int .i64 0, .slice none 0 0, .slice none 0 0, .bool false, .int .i64 0], .int .u8 0, .slice none 0 0], []⟩ 20 (by kernel_rfl) (by kernel_rfl) (by kernel_rfl) (by kernel_rfl))
    (by kernel_rfl) (by kernel_rfl) rfl Try.underlying4 rfl ?_ ?_
  · intro ds h
    match ds, h with
    | [x0, x1, x2], _ => rfl
  · intro W base args ds p hval hsz hA hlt
    have hA' : DataW.TrodAll enc Try.prog W 0 (fun _ => true) true Try.f6.params.toList args.toList ds p := hA
    have hval' : ∀ (j : Nat) t v, Try.f6.params[j]? = some t → args[j]? = some v → Value.okWide Try.prog W .any base t v := hval
    have hsz' : ∀ (j : Nat) t d, Try.f6.params[j]? = some t → ds[j]? = some d → InReach Try.prog t d := hsz
    rw [Try.params6] at hA' hval' hsz'
    obtain ⟨v0, v1, v2, d0, d1, d2, p0, p1, p2, rfl, rfl, rfl, h0, h1, h2⟩ := trodAll_three hA'
    obtain ⟨a, rfl, k0, r0, r0'⟩ := open_disk (hval' 0 24 v0 rfl rfl) h0 (hsz' 0 24 d0 rfl rfl)
    obtain ⟨fz', rfl, rfl, rfl, wfz⟩ := open_int Try.underlying5 (hval' 1 5 v1 rfl rfl) h1
    obtain ⟨fz, rfl, zfz⟩ := nat_u8 wfz
    obtain ⟨l2, A2, c2, rfl, g2, g2', z2, s2⟩ := open_arg (k := 1) Try.underlying22 (opens_slice (bytes := 1) Try.underlying22 (by kernel_rfl) (by kernel_rfl) (by omega) (opens_byte Try.underlying5)) (hval' 2 22 v2 rfl rfl) h2 (hsz' 2 22 d2 rfl rfl)
    exact fuses_any a A2 l2 _ c2 fz rfl g2 g2' zfz W k0 s2

theorem diskFuses_holds : Rows.DiskFusesSaid :=
  OpenClaim.holds_of_wide 6 Try.f6 rfl rfl rfl rfl rfl rfl rfl ⟨rfl, rfl, rfl, rfl, rfl⟩ rfl rfl rfl rfl rfl (by kernel_rfl) Try.func6 (by kernel_rfl)
    (of_decide_eq_true (by kernel_rfl)) (by unfold Func.isWrapper; first | (rw [if_pos (by decide +kernel)]; kernel_rfl) | (rw [if_neg (by decide +kernel)]; exact ⟨rfl, rfl⟩))
    (fun os started H enc _ => diskFuses_lifted os started H enc)
#print axioms diskFuses_holds
end Go.Proofs.Ythboeilpeggpoaa
