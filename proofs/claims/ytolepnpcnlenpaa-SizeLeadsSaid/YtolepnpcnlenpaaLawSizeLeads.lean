/-
  SizeLeads: of as many views as there are replicas, one behind the other, each leads one: the walk.
-/
import Derived.Test.YtolepnpcnlenpaaSizeAlive
import Derived.Deep.OwnRows
namespace Go.Proofs.Ytolepnpcnlenpaa
open Go.RowKit
/-- Who has led among so many views. -/
def hit (a n : Int) (k j : Nat) : Bool := (List.range k).any fun i => decide (leadI (a + i) n = j)
theorem hit_succ (a n : Int) (k j : Nat) : hit a n (k + 1) j = (hit a n k j || decide (leadI (a + k) n = j)) := by
  simp [hit, List.range_succ, List.any_append]
theorem leadI_pos {v n : Int} (hv : 0 ≤ v) : leadI v n = v % n := by rw [leadI, show max v 0 = v by omega]
theorem hit_new {a n : Int} {k : Nat} (ha : 0 ≤ a) (hk : (k : Int) < n) {j : Nat} (hj : leadI (a + k) n = j) : hit a n k j = false := by
  simp only [hit, List.any_eq_false, List.mem_range, decide_eq_true_eq]
  intro i hi h
  rw [leadI_pos (by omega)] at h hj
  have hd : n ∣ (a + k) - (a + i) := Int.dvd_of_emod_eq_zero (Int.emod_eq_emod_iff_emod_sub_eq_zero.1 (hj.trans h.symm))
  have hle := Int.le_of_dvd (by omega) hd
  omega
theorem leadI_range {v n : Int} (hn : 0 < n) : 0 ≤ leadI v n ∧ leadI v n < n := ⟨Int.emod_nonneg _ (by omega), Int.emod_lt_of_pos _ hn⟩

theorem leads_no1 (F T v : Int) (hs : sizeOk F T = false) (w : World) :
    Calls Try.prog 3 #[szV F T, .int .i64 v] w fun e w' => e = .returned (.bool true) ∧ Below w.heap.size w w' := by
  go_enter Try.func3, Try.ntmps3
  go_wp2_with fail
  refine (right_any F T _).mono ?_; rintro e w1 ⟨rfl, hb1⟩
  rw [hs]
  go_wp2_with fail
  refine (alive07 _).mono ?_; rintro e w2 ⟨rfl, hb2⟩
  go_wp2_with fail
  go_ret
  exact ⟨rfl, below_then (below_then (below_new _ _) hb1) hb2⟩
theorem leads_no2 (F T v : Int) (hs : sizeOk F T = true) (hv : v < 0 ∨ 1000000000 < v) (w : World) :
    Calls Try.prog 3 #[szV F T, .int .i64 v] w fun e w' => e = .returned (.bool true) ∧ Below w.heap.size w w' := by
  rcases hv with hv | hv
  · go_enter Try.func3, Try.ntmps3
    go_wp2_with fail
    refine (right_any F T _).mono ?_; rintro e w1 ⟨rfl, hb1⟩
    rw [hs]
    go_wp2_with fail
    refine (alive07 _).mono ?_; rintro e w2 ⟨rfl, hb2⟩
    go_wp2_with fail
    go_ret
    exact ⟨rfl, below_then (below_then (below_new _ _) hb1) hb2⟩
  · have hv' : ¬ v < 0 := by omega
    go_enter Try.func3, Try.ntmps3
    go_wp2_with fail
    refine (right_any F T _).mono ?_; rintro e w1 ⟨rfl, hb1⟩
    rw [hs]
    go_wp2_with fail
    refine (alive07 _).mono ?_; rintro e w2 ⟨rfl, hb2⟩
    go_wp2_with fail
    go_ret
    exact ⟨rfl, below_then (below_then (below_new _ _) hb1) hb2⟩

/-- Sixty-four times no. -/
def led0 : Array Value := madeCells #[.bool false] 64
theorem boolInfo : (Try.prog.info? 4).map (fun i => (i.zero, i.size, i.bytes)) = some (some (.bool false), 1, 1) := by kernel_rfl
set_option maxHeartbeats 1000000 in
theorem leads_yes (F T v : Int) (hs : sizeOk F T = true) (hv0 : 0 ≤ v) (hv1 : v ≤ 1000000000) (w : World) :
    Calls Try.prog 3 #[szV F T, .int .i64 v] w fun e w' => e = .returned (.bool true) ∧ Below w.heap.size w w' := by
  obtain ⟨l1, l2, l3, l4⟩ := sizeOk_iff.1 hs
  have hmk : ∀ W : World, (Instr.makeSlice 27 (.int .i64 64) (.int .i64 64)).run Try.prog W = .ok (.slice (some ⟨W.heap.size, 0, none⟩) 64 64) (W.alloc (.cells led0 4)) :=
    fun W => run_make_row' (P := Try.prog) 27 4 (.bool false) 1 Try.underlying27 boolInfo rfl .i64 .i64 64 (by omega) (by omega) W
  go_enter Try.func3, Try.ntmps3
  go_wp2_with fail
  refine (right_any F T _).mono ?_; rintro e w1 ⟨rfl, hb1⟩
  rw [hs]
  have A0 := cellB hb1 (b := w.heap.size) (o := 0) (v := .int .i64 F) (by simp [go_sem])
  have A1 := cellB hb1 (b := w.heap.size) (o := 1) (v := .int .i64 T) (by simp [go_sem])
  have hbw := below_then (below_new _ _) hb1
  clear hb1
  go_wp2_with fail
  refine (zN_any F T hs _).mono ?_; rintro e w2 ⟨rfl, hb2⟩
  have B0 := cellB hb2 A0
  have B1 := cellB hb2 A1
  have z2 : w.heap.size < w2.heap.size := by have := World.block_lt_of_cell? w2 _ B0; exact this
  have hbw2 := below_then hbw hb2
  clear A0 A1 hbw hb2
  go_wp2_with fail
  have hrow : (w2.alloc (.cells led0 4)).rowIs w2.heap.size 4 64 (fun j => .bool (hit v (3 * F + 2 * T + 1) 0 j)) :=
    (World.rowIs_made w2 (.bool false) 64 4).congr fun i _ => by simp [hit]
  have HR := hid hrow; clear hrow
  go_loopw [7] (fun i wr => ∃ k : Nat, (k : Int) ≤ 3 * F + 2 * T + 1 ∧ i = .int .i64 k ∧ wr.rowIs w2.heap.size 4 64 (fun j => .bool (hit v (3 * F + 2 * T + 1) k j)) ∧
      wr.cell? ⟨w.heap.size, 0, none⟩ = some (.int .i64 F) ∧ wr.cell? ⟨w.heap.size, 1, none⟩ = some (.int .i64 T) ∧ Below w.heap.size w wr)
    (fun i _ => 26 - (intOf i).toNat)
  case atStart => exact ⟨0, by omega, rfl, HR.out, by simp [go_sem, z2, B0], by simp [go_sem, z2, B1], below_alloc hbw2 _⟩
  case round =>
    obtain ⟨k, hk, rfl, hrow, C0, C1, hbr⟩ := hrel
    by_cases hlt : (k : Int) < 3 * F + 2 * T + 1
    · have hr := leadI_range (v := v + k) (n := 3 * F + 2 * T + 1) (by omega)
      obtain ⟨x, hx⟩ := Int.eq_ofNat_of_zero_le hr.1
      have hxlt : (x : Int) < 3 * F + 2 * T + 1 := by have := hr.2; rw [hx] at this; exact this
      have hxn : x < 64 := by omega
      have hnew := hit_new hv0 hlt hx
      go_wp2_with fail
      refine (leader_any F T (v + k) hs _).mono ?_; rintro e w5 ⟨rfl, hb5⟩
      have hrow5 := hrow.of_block (hb5.block w2.heap.size hrow.lt)
      have hcell := hrow5.cell hxn
      rw [hnew] at hcell
      have hfz := hrow5.frozen x
      have D0 := cellB hb5 C0
      have D1 := cellB hb5 C1
      have hbr5 := below_then hbr hb5
      have hne : w.heap.size < w2.heap.size := z2
      have HX := hid hx; have HN := hid hnew; have HW := hid hrow5
      rw [hx]
      clear hrow C0 C1 hbr hb5 hx hr hnew hrow5
      go_wp2_with fail
      go_roundw
      case rel =>
        refine ⟨k + 1, by omega, by go_num, (HW.out.set x (.bool true)).congr (fun j _ => ?_), by simp [go_sem, D0, hne, Nat.ne_of_lt hne], by simp [go_sem, D1, hne, Nat.ne_of_lt hne], hbr5.setCell (by show w.heap.size ≤ w2.heap.size; omega) _⟩
        rw [hit_succ, HX.out]
        by_cases hj : j = x
        · subst hj; simp
        · rw [if_neg hj]
          have : ¬ (x : Int) = j := by omega
          simp [this]
      case measure => simp [intOf]; omega
    · go_wp2_with fail
      refine (alive07 _).mono ?_; rintro e w5 ⟨rfl, hb5⟩
      go_wp2_with fail
      go_ret
      exact ⟨rfl, below_then hbr hb5⟩
end Go.Proofs.Ytolepnpcnlenpaa
