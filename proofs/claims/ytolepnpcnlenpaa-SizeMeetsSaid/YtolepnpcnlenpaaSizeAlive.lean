/-
  The live question of the laws on sizes is answered true.
-/
import Derived.Test.YtolepnpcnlenpaaSizeB
namespace Go.Proofs.Ytolepnpcnlenpaa
open Go.RowKit
theorem alive07 (w : World) : Calls Try.prog 8 #[] w fun e w' => e = .returned (.bool true) ∧ Below w.heap.size w w' := by
  go_enter Try.func8, Try.ntmps8
  go_wp2_with fail
  refine (new_yes 1 1 rfl _).mono ?_; rintro e w1 ⟨rfl, hb1⟩
  go_wp2_with fail
  refine (new_no 1 2 rfl _).mono ?_; rintro e w2 ⟨rfl, hb2⟩
  have a0 := cellB hb2 (b := w1.heap.size) (o := 0) (v := .int .i64 1) (by simp [go_sem])
  have a1 := cellB hb2 (b := w1.heap.size) (o := 1) (v := .int .i64 1) (by simp [go_sem])
  have z2 : w1.heap.size < w2.heap.size := by have := hb2.size; simp at this; omega
  go_wp2_with fail
  refine (zN_any 1 1 rfl _).mono ?_; rintro e w3 ⟨rfl, hb3⟩
  have d0 := cellB hb3 (b := w1.heap.size) (o := 0) (v := .int .i64 1) (by simp [go_sem, a0, z2])
  have d1 := cellB hb3 (b := w1.heap.size) (o := 1) (v := .int .i64 1) (by simp [go_sem, a1, z2])
  clear a0 a1
  go_wp2_with fail
  refine (zProof_any 1 1 rfl _).mono ?_; rintro e w4 ⟨rfl, hb4⟩
  have e0 := cellB hb4 d0
  have e1 := cellB hb4 d1
  clear d0 d1
  go_wp2_with fail
  refine (leader_any 1 1 7 rfl _).mono ?_; rintro e w5 ⟨rfl, hb5⟩
  rw [show leadI 7 (3 * 1 + 2 * 1 + 1) = 1 from rfl]
  go_wp2_with fail
  go_ret
  exact ⟨rfl, below_then (below_then (below_then (below_alloc (below_then (below_alloc hb1 _) hb2) _) hb3) hb4) hb5⟩
end Go.Proofs.Ytolepnpcnlenpaa
