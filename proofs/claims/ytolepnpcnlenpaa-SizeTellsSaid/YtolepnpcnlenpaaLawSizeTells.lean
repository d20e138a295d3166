/-
  SizeTells: a size of any numbers, or that there is none, and how many make what of it, are as the document says: the walk.
-/
import Derived.Test.YtolepnpcnlenpaaSizeAlive
import Derived.Deep.RegionHeld3
namespace Go.Proofs.Ytolepnpcnlenpaa
open Go.RowKit
theorem tells_no (f t v : Int) (hs : sizeOk f t = false) (w : World) :
    Calls Try.prog 4 #[.int .i64 f, .int .i64 t, .int .i64 v] w fun e w' => e = .returned (.bool true) ∧ Below w.heap.size w w' := by
  go_enter Try.func4, Try.ntmps4
  go_wp2_with fail
  refine (new_no f t hs _).mono ?_; rintro e w1 ⟨rfl, hb1⟩
  go_wp2_with fail
  refine (rnew_no f t hs _).mono ?_; rintro e w2 ⟨rfl, hb2⟩
  have a0 := cellB hb2 (b := w1.heap.size) (o := 0) (v := .int .i64 0) (by simp [go_sem])
  have a1 := cellB hb2 (b := w1.heap.size) (o := 1) (v := .int .i64 0) (by simp [go_sem])
  have z2 : w1.heap.size < w2.heap.size := by have := hb2.size; simp at this; omega
  go_wp2_with fail
  refine (right_any f t _).mono ?_; rintro e w3 ⟨rfl, hb3⟩
  rw [hs]
  go_wp2_with fail
  refine (rright_any f t _).mono ?_; rintro e w4 ⟨rfl, hb4⟩
  rw [hs]
  go_wp2_with fail
  refine (alive07 _).mono ?_; rintro e w5 ⟨rfl, hb5⟩
  go_wp2_with fail
  go_ret
  exact ⟨rfl, below_then (below_then (below_then (below_alloc (below_then (below_alloc hb1 _) hb2) _) hb3) hb4) hb5⟩

set_option maxHeartbeats 1000000 in
theorem tells_yes (f t v : Int) (hs : sizeOk f t = true) (w : World) :
    Calls Try.prog 4 #[.int .i64 f, .int .i64 t, .int .i64 v] w fun e w' => e = .returned (.bool true) ∧ Below w.heap.size w w' := by
  go_enter Try.func4, Try.ntmps4
  go_wp2_with fail
  refine (new_yes f t hs _).mono ?_; rintro e w1 ⟨rfl, hb1⟩
  go_wp2_with fail
  refine (rnew_yes f t hs _).mono ?_; rintro e w2 ⟨rfl, hb2⟩
  have a0 := cellB hb2 (b := w1.heap.size) (o := 0) (v := .int .i64 f) (by simp [go_sem])
  have a1 := cellB hb2 (b := w1.heap.size) (o := 1) (v := .int .i64 t) (by simp [go_sem])
  have z2 : w1.heap.size < w2.heap.size := by have := hb2.size; simp at this; omega
  go_wp2_with fail
  refine (right_any f t _).mono ?_; rintro e w3 ⟨rfl, hb3⟩
  rw [hs]
  go_wp2_with fail
  refine (rright_any f t _).mono ?_; rintro e w4 ⟨rfl, hb4⟩
  rw [hs]
  have A0 := cellB hb4 (cellB hb3 (b := w1.heap.size) (o := 0) (v := .int .i64 f) (by simp [go_sem, a0, z2]))
  have A1 := cellB hb4 (cellB hb3 (b := w1.heap.size) (o := 1) (v := .int .i64 t) (by simp [go_sem, a1, z2]))
  have B0 := cellB hb4 (cellB hb3 (b := w2.heap.size) (o := 0) (v := .int .i64 f) (by simp [go_sem]))
  have B1 := cellB hb4 (cellB hb3 (b := w2.heap.size) (o := 1) (v := .int .i64 t) (by simp [go_sem]))
  have hb4' : Below w.heap.size w w4 := below_then (below_then (below_alloc (below_then (below_alloc hb1 _) hb2) _) hb3) hb4
  clear a0 a1 hb1 hb2 hb3 hb4
  go_wp2_with fail
  go_region_held3 (fun w' => w'.cell? ⟨w1.heap.size, 0, none⟩ = some (.int .i64 f) ∧ w'.cell? ⟨w1.heap.size, 1, none⟩ = some (.int .i64 t) ∧ w'.cell? ⟨w2.heap.size, 0, none⟩ = some (.int .i64 f) ∧ w'.cell? ⟨w2.heap.size, 1, none⟩ = some (.int .i64 t) ∧ Below w.heap.size w w') (first | exact ⟨A0, A1, B0, B1, hb4'.drew⟩ | (have hS := ‹_ ∧ _ ∧ _ ∧ _ ∧ _›; exact ⟨cellB hb hS.1, cellB hb hS.2.1, cellB hb hS.2.2.1, cellB hb hS.2.2.2.1, below_then hS.2.2.2.2 hb⟩))
    (first
      | (go_at_call 9; refine (zN_any f t hs _).mono ?_; rintro e w' ⟨rfl, hb⟩)
      | (go_at_call 14; refine (rN_any f t hs _).mono ?_; rintro e w' ⟨rfl, hb⟩)
      | (go_at_call 15; refine (zFast_any f t hs _).mono ?_; rintro e w' ⟨rfl, hb⟩)
      | (go_at_call 16; refine (rFast_any f t hs _).mono ?_; rintro e w' ⟨rfl, hb⟩)
      | (go_at_call 17; refine (zProof_any f t hs _).mono ?_; rintro e w' ⟨rfl, hb⟩)
      | (go_at_call 18; refine (rProof_any f t hs _).mono ?_; rintro e w' ⟨rfl, hb⟩)
      | (go_at_call 19; refine (zMost_any f t hs _).mono ?_; rintro e w' ⟨rfl, hb⟩)
      | (go_at_call 20; refine (rMost_any f t hs _).mono ?_; rintro e w' ⟨rfl, hb⟩))
  clear A0 A1 B0 B1 hb4'
  obtain ⟨A0, A1, B0, B1, hb4'⟩ := ‹_ ∧ _ ∧ _ ∧ _ ∧ _›
  go_wp2_with fail
  go_region_held3 (fun w' => w'.cell? ⟨w1.heap.size, 0, none⟩ = some (.int .i64 f) ∧ w'.cell? ⟨w1.heap.size, 1, none⟩ = some (.int .i64 t) ∧ w'.cell? ⟨w2.heap.size, 0, none⟩ = some (.int .i64 f) ∧ w'.cell? ⟨w2.heap.size, 1, none⟩ = some (.int .i64 t) ∧ Below w.heap.size w w') (first | exact ⟨A0, A1, B0, B1, hb4'.drew⟩ | (have hS := ‹_ ∧ _ ∧ _ ∧ _ ∧ _›; exact ⟨cellB hb hS.1, cellB hb hS.2.1, cellB hb hS.2.2.1, cellB hb hS.2.2.2.1, below_then hS.2.2.2.2 hb⟩))
    (first
      | (go_at_call 8; refine (alive07 _).mono ?_; rintro e w' ⟨rfl, hb⟩)
      | (go_at_call 21; refine (zVouch_any f t hs _).mono ?_; rintro e w' ⟨rfl, hb⟩)
      | (go_at_call 22; refine (rVouch_any f t hs _).mono ?_; rintro e w' ⟨rfl, hb⟩)
      | (go_at_call 23; refine (zWeak_any f t hs _).mono ?_; rintro e w' ⟨rfl, hb⟩)
      | (go_at_call 24; refine (rWeak_any f t hs _).mono ?_; rintro e w' ⟨rfl, hb⟩)
      | (go_at_call 10; refine (leader_any f t v hs _).mono ?_; rintro e w' ⟨rfl, hb⟩)
      | (go_at_call 25; refine (rleader_any f t v hs _).mono ?_; rintro e w' ⟨rfl, hb⟩))
  obtain ⟨_, _, _, _, hb5⟩ := ‹_ ∧ _ ∧ _ ∧ _ ∧ _›
  go_wp2_with fail
  go_ret
  exact ⟨rfl, hb5⟩
end Go.Proofs.Ytolepnpcnlenpaa
