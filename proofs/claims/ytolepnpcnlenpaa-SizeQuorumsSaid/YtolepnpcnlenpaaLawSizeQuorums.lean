/-
  SizeQuorums: of whatever size, groups meet as the protocol needs it: the walk.
-/
import Derived.Test.YtolepnpcnlenpaaSizeAlive
import Derived.Deep.RegionHeld3
namespace Go.Proofs.Ytolepnpcnlenpaa
open Go.RowKit
theorem quorums_no (F T : Int) (hs : sizeOk F T = false) (w : World) :
    Calls Try.prog 6 #[szV F T] w fun e w' => e = .returned (.bool true) ∧ Below w.heap.size w w' := by
  go_enter Try.func6, Try.ntmps6
  go_wp2_with fail
  refine (right_any F T _).mono ?_; rintro e w1 ⟨rfl, hb1⟩
  rw [hs]
  go_wp2_with fail
  refine (alive07 _).mono ?_; rintro e w2 ⟨rfl, hb2⟩
  go_wp2_with fail
  go_ret
  exact ⟨rfl, below_then (below_then (below_new _ _) hb1) hb2⟩
set_option maxHeartbeats 2000000 in
theorem quorums_yes (F T : Int) (hs : sizeOk F T = true) (w : World) :
    Calls Try.prog 6 #[szV F T] w fun e w' => e = .returned (.bool true) ∧ Below w.heap.size w w' := by
  go_enter Try.func6, Try.ntmps6
  go_wp2_with fail
  refine (right_any F T _).mono ?_; rintro e w1 ⟨rfl, hb1⟩
  rw [hs]
  have A0 := cellB hb1 (b := w.heap.size) (o := 0) (v := .int .i64 F) (by simp [go_sem])
  have A1 := cellB hb1 (b := w.heap.size) (o := 1) (v := .int .i64 T) (by simp [go_sem])
  have hbw := below_then (below_new _ _) hb1
  have hl := sizeOk_iff.1 hs
  obtain ⟨l1, l2, l3, l4⟩ := hl
  have m1 : F < meetI (2 * F + T + 1) (2 * F + T + 1) (3 * F + 2 * T + 1) := by unfold meetI within; omega
  have m2 : F < meetI (3 * F + T + 1) (2 * F + T + 1) (3 * F + 2 * T + 1) := by unfold meetI within; omega
  have m3 : F + T + 1 + F ≤ meetI (2 * F + 2 * T + 1) (3 * F + T + 1) (3 * F + 2 * T + 1) := by unfold meetI within; omega
  have e1 : IntKind.i64.wrap (F + T + 1 + F) = F + T + 1 + F := IntWalk.i64_in _ (by omega)
  have e2 : IntKind.i64.wrap (2 * F + 2 * T + 1 - F) = 2 * F + 2 * T + 1 - F := IntWalk.i64_in _ (by omega)
  have e4 : IntKind.i64.wrap (2 * F + 2 * T + 1 - F + (2 * F + T + 1) - F) = 2 * F + 2 * T + 1 - F + (2 * F + T + 1) - F := IntWalk.i64_in _ (by omega)
  have e5 : IntKind.i64.wrap (2 * F + 2 * T + 1 - F + (2 * F + T + 1) - F - (2 * F + 2 * T + 1)) = 2 * F + 2 * T + 1 - F + (2 * F + T + 1) - F - (2 * F + 2 * T + 1) := IntWalk.i64_in _ (by omega)
  have e6 : IntKind.i64.wrap (T + 1) = T + 1 := IntWalk.i64_in _ (by omega)
  have e7 : IntKind.i64.wrap (2 * (F + T + 1)) = 2 * (F + T + 1) := IntWalk.i64_in _ (by omega)
  have m4 : T + 1 ≤ 2 * F + 2 * T + 1 - F + (2 * F + T + 1) - F - (2 * F + 2 * T + 1) := by omega
  have r1 : F ≤ F + T := by omega
  have r2 : F ≤ 2 * F := by omega
  have r3 : T ≤ 2 * T := by omega
  have r4 : 2 * F + 2 * T ≤ 3 * F + T := by omega
  have m5 : 2 * F + 2 * T + 1 < 2 * (F + T + 1) := by omega
  have e3 : IntKind.i64.wrap (2 * F + 2 * T + 1 - F + (2 * F + T + 1)) = 2 * F + 2 * T + 1 - F + (2 * F + T + 1) := IntWalk.i64_in _ (by omega)
  clear hb1
  go_wp2_with fail
  go_region_held3 (fun w' => w'.cell? ⟨w.heap.size, 0, none⟩ = some (.int .i64 F) ∧ w'.cell? ⟨w.heap.size, 1, none⟩ = some (.int .i64 T) ∧ Below w.heap.size w w') (first | exact ⟨A0, A1, hbw.drew⟩ | (have hS := ‹_ ∧ _ ∧ _›; exact ⟨cellB hb hS.1, cellB hb hS.2.1, below_then hS.2.2 hb⟩))
    (first
      | (go_at_call 9; refine (zN_any F T hs _).mono ?_; rintro e w' ⟨rfl, hb⟩)
      | (go_at_call 15; refine (zFast_any F T hs _).mono ?_; rintro e w' ⟨rfl, hb⟩)
      | (go_at_call 17; refine (zProof_any F T hs _).mono ?_; rintro e w' ⟨rfl, hb⟩)
      | (go_at_call 19; refine (zMost_any F T hs _).mono ?_; rintro e w' ⟨rfl, hb⟩)
      | (go_at_call 21; refine (zVouch_any F T hs _).mono ?_; rintro e w' ⟨rfl, hb⟩)
      | (go_at_call 23; refine (zWeak_any F T hs _).mono ?_; rintro e w' ⟨rfl, hb⟩))
  clear A0 A1 hbw
  obtain ⟨A0, A1, hbw⟩ := ‹_ ∧ _ ∧ _›
  go_wp2_with fail
  go_region_held3 (fun w' => w'.cell? ⟨w.heap.size, 0, none⟩ = some (.int .i64 F) ∧ w'.cell? ⟨w.heap.size, 1, none⟩ = some (.int .i64 T) ∧ Below w.heap.size w w') (first | exact ⟨A0, A1, hbw.drew⟩ | (have hS := ‹_ ∧ _ ∧ _›; exact ⟨cellB hb hS.1, cellB hb hS.2.1, below_then hS.2.2 hb⟩))
    (first
      | (go_at_call 26; refine (meet_any F T _ _ hs _).mono ?_; rintro e w' ⟨rfl, hb⟩))
  clear A0 A1 hbw
  obtain ⟨A0, A1, hbw⟩ := ‹_ ∧ _ ∧ _›
  go_wp2_with fail
  go_region_held3 (fun w' => w'.cell? ⟨w.heap.size, 0, none⟩ = some (.int .i64 F) ∧ w'.cell? ⟨w.heap.size, 1, none⟩ = some (.int .i64 T) ∧ Below w.heap.size w w') (first | exact ⟨A0, A1, hbw.drew⟩ | (have hS := ‹_ ∧ _ ∧ _›; exact ⟨cellB hb hS.1, cellB hb hS.2.1, below_then hS.2.2 hb⟩))
    (first
      | (go_at_call 26; refine (meet_any F T _ _ hs _).mono ?_; rintro e w' ⟨rfl, hb⟩))
  clear e1 e2 e3 e4 e5 e6 e7
  clear A0 A1 hbw
  obtain ⟨A0, A1, hbw⟩ := ‹_ ∧ _ ∧ _›
  go_wp2_with fail
  refine (alive07 _).mono ?_; rintro e w2 ⟨rfl, hb2⟩
  obtain ⟨hc, hf⟩ := bcell hb2
  have C0 := cellB hb2 A0
  have C1 := cellB hb2 A1
  clear A0 A1 hc hf
  go_wp2_with fail
  go_ret
  exact ⟨ret_bool (beq_iff_eq.2 (by omega)), below_then hbw hb2⟩
end Go.Proofs.Ytolepnpcnlenpaa
