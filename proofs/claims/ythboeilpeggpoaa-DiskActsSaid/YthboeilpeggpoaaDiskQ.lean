/-
  Package disk and the document's: what is asked of disks.
-/
import Derived.Test.YthboeilpeggpoaaDisk
namespace Go.Proofs.Ythboeilpeggpoaa
open Go.RowKit
theorem right_any (d : Dk) (hs : d.sm) (w : World) :
    Calls Try.prog 17 #[d.v] w fun e w' => e = .returned (.bool (rightB d.dd)) ∧ Below w.heap.size w w' := by
  unfold Dk.v
  obtain ⟨z1, z2⟩ := hs
  by_cases h0 : 0 ≤ d.cap
  · skip
    by_cases h1 : d.cap ≤ 1000000
    · skip
      by_cases h2 : ((d.s.length + d.l.length : Nat) : Int) ≤ d.cap
      · skip
        have k2 : (d.s.length : Int) + d.l.length ≤ d.cap := by omega
        have hr : rightB d.dd = true := by show decide (0 ≤ d.cap ∧ d.cap ≤ 1000000 ∧ ((d.s.length + d.l.length : Nat) : Int) ≤ d.cap) = true; rw [decide_eq_true_eq]; omega
        go_enter Try.func17, Try.ntmps17
        go_wp2
        go_ret
        exact ⟨ret_bool (by first | rfl | rw [hr]), below_new _ _⟩
      · skip
        have k2 : ¬ (d.s.length : Int) + d.l.length ≤ d.cap := by omega
        have hr : rightB d.dd = false := by show decide (0 ≤ d.cap ∧ d.cap ≤ 1000000 ∧ ((d.s.length + d.l.length : Nat) : Int) ≤ d.cap) = false; rw [decide_eq_false_iff_not]; omega
        go_enter Try.func17, Try.ntmps17
        go_wp2
        go_ret
        exact ⟨ret_bool (by first | rfl | rw [hr]), below_new _ _⟩
    · skip
      have hr : rightB d.dd = false := by show decide (0 ≤ d.cap ∧ d.cap ≤ 1000000 ∧ ((d.s.length + d.l.length : Nat) : Int) ≤ d.cap) = false; rw [decide_eq_false_iff_not]; omega
      go_enter Try.func17, Try.ntmps17
      go_wp2
      go_ret
      exact ⟨ret_bool (by first | rfl | rw [hr]), below_new _ _⟩
  · skip
    have hr : rightB d.dd = false := by show decide (0 ≤ d.cap ∧ d.cap ≤ 1000000 ∧ ((d.s.length + d.l.length : Nat) : Int) ≤ d.cap) = false; rw [decide_eq_false_iff_not]; omega
    go_enter Try.func17, Try.ntmps17
    go_wp2
    go_ret
    exact ⟨ret_bool (by first | rfl | rw [hr]), below_new _ _⟩
theorem rright_any (d : Dk) (hs : d.sm) (w : World) :
    Calls Try.prog 18 #[d.v] w fun e w' => e = .returned (.bool (rightB d.dd)) ∧ Below w.heap.size w w' := by
  unfold Dk.v
  obtain ⟨z1, z2⟩ := hs
  by_cases h0 : 0 ≤ d.cap
  · skip
    by_cases h1 : d.cap ≤ 1000000
    · skip
      by_cases h2 : ((d.s.length + d.l.length : Nat) : Int) ≤ d.cap
      · skip
        have k2 : (d.s.length : Int) + d.l.length ≤ d.cap := by omega
        have hr : rightB d.dd = true := by show decide (0 ≤ d.cap ∧ d.cap ≤ 1000000 ∧ ((d.s.length + d.l.length : Nat) : Int) ≤ d.cap) = true; rw [decide_eq_true_eq]; omega
        go_enter Try.func18, Try.ntmps18
        go_wp2
        go_ret
        exact ⟨ret_bool (by first | rfl | rw [hr]), below_new _ _⟩
      · skip
        have k2 : ¬ (d.s.length : Int) + d.l.length ≤ d.cap := by omega
        have hr : rightB d.dd = false := by show decide (0 ≤ d.cap ∧ d.cap ≤ 1000000 ∧ ((d.s.length + d.l.length : Nat) : Int) ≤ d.cap) = false; rw [decide_eq_false_iff_not]; omega
        go_enter Try.func18, Try.ntmps18
        go_wp2
        go_ret
        exact ⟨ret_bool (by first | rfl | rw [hr]), below_new _ _⟩
    · skip
      have hr : rightB d.dd = false := by show decide (0 ≤ d.cap ∧ d.cap ≤ 1000000 ∧ ((d.s.length + d.l.length : Nat) : Int) ≤ d.cap) = false; rw [decide_eq_false_iff_not]; omega
      go_enter Try.func18, Try.ntmps18
      go_wp2
      go_ret
      exact ⟨ret_bool (by first | rfl | rw [hr]), below_new _ _⟩
  · skip
    have hr : rightB d.dd = false := by show decide (0 ≤ d.cap ∧ d.cap ≤ 1000000 ∧ ((d.s.length + d.l.length : Nat) : Int) ≤ d.cap) = false; rw [decide_eq_false_iff_not]; omega
    go_enter Try.func18, Try.ntmps18
    go_wp2
    go_ret
    exact ⟨ret_bool (by first | rfl | rw [hr]), below_new _ _⟩
theorem long_any (d : Dk) (hs : d.sm) (w : World) :
    Calls Try.prog 54 #[d.v] w fun e w' => e = .returned (.int .i64 (longS d.dd : Nat)) ∧ Below w.heap.size w w' := by
  unfold Dk.v
  obtain ⟨z1, z2⟩ := hs
  go_enter Try.func54, Try.ntmps54
  go_wp2
  go_ret
  exact ⟨ret_int (by simp [longS, Dk.dd]), below_new _ _⟩
theorem new_any_ok (Z : Nat → Prop) (n : Int) (h1 : 0 ≤ n) (h2 : n ≤ 1000000) (w : World) :
    Calls Try.prog 15 #[.int .i64 n] w (RetD Z w (newD n)) := by
  have hr : newD n = (⟨n, [], [], false, -1⟩, 0) := if_neg (by omega)
  rw [hr]
  go_enter Try.func15, Try.ntmps15
  go_wp2
  refine bodyPost_ret (results_cell2 rfl (b := w.heap.size) (o := 0) [.int .i64 n, .slice none 0 0, .slice none 0 0, .bool false, .int .i64 (-1)] rfl (range_new rfl) Try.underlying24 rfl (by kernel_rfl)) rfl ⟨⟨n, none, [], 0, none, [], 0, false, -1⟩, rfl, rfl, dk_none _ _ _ _ _ (by omega) (by omega), below_new _ _⟩
theorem new_any_no (Z : Nat → Prop) (n : Int) (h : n < 0 ∨ 1000000 < n) (w : World) :
    Calls Try.prog 15 #[.int .i64 n] w (RetD Z w (newD n)) := by
  have hr : newD n = (⟨0, [], [], false, 0⟩, 1) := if_pos h
  rw [hr]
  clear hr
  have fin : ∀ (W : World) (a : Act), a.tmps.getD 2 undef = .pointer (some ⟨w.heap.size, 0, none⟩) → a.tmps.getD 3 undef = .int .i64 1 → a.defers = [] → W = w.alloc (.cells #[.int .i64 0, .slice none 0 0, .slice none 0 0, .bool false, .int .i64 0] 24) →
      bodyPost Try.prog Try.f15 (RetD Z w (⟨0, [], [], false, 0⟩, 1)) Exit.ret a W := by
    rintro W ⟨tmps, _⟩ h2 h3 rfl rfl
    have hq := results_cell2 (P := Try.prog) (fn := Try.f15) rfl (tmps := tmps) (w := w.alloc (.cells #[.int .i64 0, .slice none 0 0, .slice none 0 0, .bool false, .int .i64 0] 24)) (b := w.heap.size) (o := 0) [.int .i64 0, .slice none 0 0, .slice none 0 0, .bool false, .int .i64 0] h2 (range_new rfl) Try.underlying24 rfl (by kernel_rfl)
    rw [h3] at hq
    exact bodyPost_ret hq rfl ⟨⟨0, none, [], 0, none, [], 0, false, 0⟩, rfl, rfl, dk_none _ _ _ _ _ (by omega) (by omega), below_new _ _⟩
  have FIN := hid fin; clear fin
  rcases h with h | h
  · go_enter Try.func15, Try.ntmps15
    go_wp2
    exact FIN.out _ _ (by rfl) (by rfl) (by rfl) (by rfl)
  · have h0 : ¬ n < 0 := by omega
    go_enter Try.func15, Try.ntmps15
    go_wp2
    exact FIN.out _ _ (by rfl) (by rfl) (by rfl) (by rfl)
theorem new_any (Z : Nat → Prop) (n : Int) (w : World) : Calls Try.prog 15 #[.int .i64 n] w (RetD Z w (newD n)) := by
  by_cases h : n < 0 ∨ 1000000 < n
  · exact new_any_no Z n h w
  · exact new_any_ok Z n (by omega) (by omega) w
theorem rnew_any_ok (Z : Nat → Prop) (n : Int) (h1 : 0 ≤ n) (h2 : n ≤ 1000000) (w : World) :
    Calls Try.prog 16 #[.int .i64 n] w (RetD Z w (newD n)) := by
  have hr : newD n = (⟨n, [], [], false, -1⟩, 0) := if_neg (by omega)
  rw [hr]
  go_enter Try.func16, Try.ntmps16
  go_wp2
  refine bodyPost_ret (results_cell2 rfl (b := w.heap.size) (o := 0) [.int .i64 n, .slice none 0 0, .slice none 0 0, .bool false, .int .i64 (-1)] rfl (range_new rfl) Try.underlying30 rfl (by kernel_rfl)) rfl ⟨⟨n, none, [], 0, none, [], 0, false, -1⟩, rfl, rfl, dk_none _ _ _ _ _ (by omega) (by omega), below_new _ _⟩
theorem rnew_any_no (Z : Nat → Prop) (n : Int) (h : n < 0 ∨ 1000000 < n) (w : World) :
    Calls Try.prog 16 #[.int .i64 n] w (RetD Z w (newD n)) := by
  have hr : newD n = (⟨0, [], [], false, 0⟩, 1) := if_pos h
  rw [hr]
  clear hr
  have fin : ∀ (W : World) (a : Act), a.tmps.getD 2 undef = .pointer (some ⟨w.heap.size, 0, none⟩) → a.tmps.getD 3 undef = .int .i64 1 → a.defers = [] → W = w.alloc (.cells #[.int .i64 0, .slice none 0 0, .slice none 0 0, .bool false, .int .i64 0] 30) →
      bodyPost Try.prog Try.f16 (RetD Z w (⟨0, [], [], false, 0⟩, 1)) Exit.ret a W := by
    rintro W ⟨tmps, _⟩ h2 h3 rfl rfl
    have hq := results_cell2 (P := Try.prog) (fn := Try.f16) rfl (tmps := tmps) (w := w.alloc (.cells #[.int .i64 0, .slice none 0 0, .slice none 0 0, .bool false, .int .i64 0] 30)) (b := w.heap.size) (o := 0) [.int .i64 0, .slice none 0 0, .slice none 0 0, .bool false, .int .i64 0] h2 (range_new rfl) Try.underlying30 rfl (by kernel_rfl)
    rw [h3] at hq
    exact bodyPost_ret hq rfl ⟨⟨0, none, [], 0, none, [], 0, false, 0⟩, rfl, rfl, dk_none _ _ _ _ _ (by omega) (by omega), below_new _ _⟩
  have FIN := hid fin; clear fin
  rcases h with h | h
  · go_enter Try.func16, Try.ntmps16
    go_wp2
    exact FIN.out _ _ (by rfl) (by rfl) (by rfl) (by rfl)
  · have h0 : ¬ n < 0 := by omega
    go_enter Try.func16, Try.ntmps16
    go_wp2
    exact FIN.out _ _ (by rfl) (by rfl) (by rfl) (by rfl)
theorem rnew_any (Z : Nat → Prop) (n : Int) (w : World) : Calls Try.prog 16 #[.int .i64 n] w (RetD Z w (newD n)) := by
  by_cases h : n < 0 ∨ 1000000 < n
  · exact rnew_any_no Z n h w
  · exact rnew_any_ok Z n (by omega) (by omega) w
set_option maxHeartbeats 1000000 in
theorem same_any_a (Z : Nat → Prop) (d f : Dk) (u1 : d.fuse < -1) (u2 : f.fuse < -1) (w : World) (hd : d.ok Z w) (hf : f.ok Z w) :
    Calls Try.prog 20 #[d.v, f.v] w fun e w' => e = .returned (.bool (sameB d.dd f.dd)) ∧ Below w.heap.size w w' := by
  have H1 := hid hd.s1.bsl; have H2 := hid hd.s2.bsl; have H3 := hid hf.s1.bsl; have H4 := hid hf.s2.bsl; clear hd hf
  have B2 := fun (o o2 : Obj) => below_alloc (below_new w o) o2
  have HB := hid B2; clear B2
  unfold Dk.v
  by_cases h0 : d.cap = f.cap
  · skip
    by_cases h1 : d.down = f.down
    · skip
      by_cases h2 : d.s = f.s
      · skip
        have K3 := hid (decide_eq_true h2)
        by_cases h3 : d.l = f.l
        · skip
          have K4 := hid (decide_eq_true h3)
          have hr : sameB d.dd f.dd = true := by show decide (d.cap = f.cap ∧ d.down = f.down ∧ max d.fuse (-1) = max f.fuse (-1) ∧ d.s = f.s ∧ d.l = f.l) = true; rw [decide_eq_true_eq]; exact ⟨h0, h1, by omega, h2, h3⟩
          clear h2 h3
          go_enter Try.func20, Try.ntmps20
          go_wp2_with (first | (go_at_call 52; (with_reducible refine (bytes_equal_any d.A1 f.A1 d.s f.s _ _ d.c1 f.c1 rfl rfl _ (B := w.heap.size) (H1.out.below (HB.out _ _)) (H3.out.below (HB.out _ _))).mono ?_); rw [K3.out]; rintro e w2 ⟨rfl, rfl⟩) | (go_at_call 52; (with_reducible refine (bytes_equal_any d.A2 f.A2 d.l f.l _ _ d.c2 f.c2 rfl rfl _ (B := w.heap.size) (H2.out.below (HB.out _ _)) (H4.out.below (HB.out _ _))).mono ?_); rw [K4.out]; rintro e w2 ⟨rfl, rfl⟩))
          go_ret
          exact ⟨ret_bool (by first | rfl | rw [hr] | simpa using u0), below_alloc (below_new _ _) _⟩
        · skip
          have hr : sameB d.dd f.dd = false := by show decide (d.cap = f.cap ∧ d.down = f.down ∧ max d.fuse (-1) = max f.fuse (-1) ∧ d.s = f.s ∧ d.l = f.l) = false; rw [decide_eq_false_iff_not]; intro hh; exact h3 hh.2.2.2.2
          have K4 := hid (decide_eq_false h3); clear h3
          clear h2
          go_enter Try.func20, Try.ntmps20
          go_wp2_with (first | (go_at_call 52; (with_reducible refine (bytes_equal_any d.A1 f.A1 d.s f.s _ _ d.c1 f.c1 rfl rfl _ (B := w.heap.size) (H1.out.below (HB.out _ _)) (H3.out.below (HB.out _ _))).mono ?_); rw [K3.out]; rintro e w2 ⟨rfl, rfl⟩) | (go_at_call 52; (with_reducible refine (bytes_equal_any d.A2 f.A2 d.l f.l _ _ d.c2 f.c2 rfl rfl _ (B := w.heap.size) (H2.out.below (HB.out _ _)) (H4.out.below (HB.out _ _))).mono ?_); rw [K4.out]; rintro e w2 ⟨rfl, rfl⟩))
          go_ret
          exact ⟨ret_bool (by first | rfl | rw [hr] | simpa using u0), below_alloc (below_new _ _) _⟩
      · skip
        have hr : sameB d.dd f.dd = false := by show decide (d.cap = f.cap ∧ d.down = f.down ∧ max d.fuse (-1) = max f.fuse (-1) ∧ d.s = f.s ∧ d.l = f.l) = false; rw [decide_eq_false_iff_not]; intro hh; exact h2 hh.2.2.2.1
        have K3 := hid (decide_eq_false h2); clear h2
        go_enter Try.func20, Try.ntmps20
        go_wp2_with (first | (go_at_call 52; (with_reducible refine (bytes_equal_any d.A1 f.A1 d.s f.s _ _ d.c1 f.c1 rfl rfl _ (B := w.heap.size) (H1.out.below (HB.out _ _)) (H3.out.below (HB.out _ _))).mono ?_); rw [K3.out]; rintro e w2 ⟨rfl, rfl⟩) | (go_at_call 52; (with_reducible refine (bytes_equal_any d.A2 f.A2 d.l f.l _ _ d.c2 f.c2 rfl rfl _ (B := w.heap.size) (H2.out.below (HB.out _ _)) (H4.out.below (HB.out _ _))).mono ?_); rw [K4.out]; rintro e w2 ⟨rfl, rfl⟩))
        go_ret
        exact ⟨ret_bool (by first | rfl | rw [hr] | simpa using u0), below_alloc (below_new _ _) _⟩
    · skip
      have hr : sameB d.dd f.dd = false := by show decide (d.cap = f.cap ∧ d.down = f.down ∧ max d.fuse (-1) = max f.fuse (-1) ∧ d.s = f.s ∧ d.l = f.l) = false; rw [decide_eq_false_iff_not]; intro hh; exact h1 hh.2.1
      go_enter Try.func20, Try.ntmps20
      go_wp2_with (first | (go_at_call 52; (with_reducible refine (bytes_equal_any d.A1 f.A1 d.s f.s _ _ d.c1 f.c1 rfl rfl _ (B := w.heap.size) (H1.out.below (HB.out _ _)) (H3.out.below (HB.out _ _))).mono ?_); rw [K3.out]; rintro e w2 ⟨rfl, rfl⟩) | (go_at_call 52; (with_reducible refine (bytes_equal_any d.A2 f.A2 d.l f.l _ _ d.c2 f.c2 rfl rfl _ (B := w.heap.size) (H2.out.below (HB.out _ _)) (H4.out.below (HB.out _ _))).mono ?_); rw [K4.out]; rintro e w2 ⟨rfl, rfl⟩))
      go_ret
      exact ⟨ret_bool (by first | rfl | rw [hr] | simpa using u0), below_alloc (below_new _ _) _⟩
  · skip
    have hr : sameB d.dd f.dd = false := by show decide (d.cap = f.cap ∧ d.down = f.down ∧ max d.fuse (-1) = max f.fuse (-1) ∧ d.s = f.s ∧ d.l = f.l) = false; rw [decide_eq_false_iff_not]; intro hh; exact h0 hh.1
    go_enter Try.func20, Try.ntmps20
    go_wp2_with (first | (go_at_call 52; (with_reducible refine (bytes_equal_any d.A1 f.A1 d.s f.s _ _ d.c1 f.c1 rfl rfl _ (B := w.heap.size) (H1.out.below (HB.out _ _)) (H3.out.below (HB.out _ _))).mono ?_); rw [K3.out]; rintro e w2 ⟨rfl, rfl⟩) | (go_at_call 52; (with_reducible refine (bytes_equal_any d.A2 f.A2 d.l f.l _ _ d.c2 f.c2 rfl rfl _ (B := w.heap.size) (H2.out.below (HB.out _ _)) (H4.out.below (HB.out _ _))).mono ?_); rw [K4.out]; rintro e w2 ⟨rfl, rfl⟩))
    go_ret
    exact ⟨ret_bool (by first | rfl | rw [hr] | simpa using u0), below_alloc (below_new _ _) _⟩
set_option maxHeartbeats 1000000 in
theorem same_any_b (Z : Nat → Prop) (d f : Dk) (u1 : d.fuse < -1) (u2 : ¬ f.fuse < -1) (w : World) (hd : d.ok Z w) (hf : f.ok Z w) :
    Calls Try.prog 20 #[d.v, f.v] w fun e w' => e = .returned (.bool (sameB d.dd f.dd)) ∧ Below w.heap.size w w' := by
  have H1 := hid hd.s1.bsl; have H2 := hid hd.s2.bsl; have H3 := hid hf.s1.bsl; have H4 := hid hf.s2.bsl; clear hd hf
  have B2 := fun (o o2 : Obj) => below_alloc (below_new w o) o2
  have HB := hid B2; clear B2
  unfold Dk.v
  by_cases h0 : d.cap = f.cap
  · skip
    by_cases h1 : d.down = f.down
    · skip
      by_cases h2 : -1 = f.fuse
      · skip
        by_cases h3 : d.s = f.s
        · skip
          have K3 := hid (decide_eq_true h3)
          by_cases h4 : d.l = f.l
          · skip
            have K4 := hid (decide_eq_true h4)
            have hr : sameB d.dd f.dd = true := by show decide (d.cap = f.cap ∧ d.down = f.down ∧ max d.fuse (-1) = max f.fuse (-1) ∧ d.s = f.s ∧ d.l = f.l) = true; rw [decide_eq_true_eq]; exact ⟨h0, h1, by omega, h3, h4⟩
            clear h3 h4
            go_enter Try.func20, Try.ntmps20
            go_wp2_with (first | (go_at_call 52; (with_reducible refine (bytes_equal_any d.A1 f.A1 d.s f.s _ _ d.c1 f.c1 rfl rfl _ (B := w.heap.size) (H1.out.below (HB.out _ _)) (H3.out.below (HB.out _ _))).mono ?_); rw [K3.out]; rintro e w2 ⟨rfl, rfl⟩) | (go_at_call 52; (with_reducible refine (bytes_equal_any d.A2 f.A2 d.l f.l _ _ d.c2 f.c2 rfl rfl _ (B := w.heap.size) (H2.out.below (HB.out _ _)) (H4.out.below (HB.out _ _))).mono ?_); rw [K4.out]; rintro e w2 ⟨rfl, rfl⟩))
            go_ret
            exact ⟨ret_bool (by first | rfl | rw [hr] | simpa using u0), below_alloc (below_new _ _) _⟩
          · skip
            have hr : sameB d.dd f.dd = false := by show decide (d.cap = f.cap ∧ d.down = f.down ∧ max d.fuse (-1) = max f.fuse (-1) ∧ d.s = f.s ∧ d.l = f.l) = false; rw [decide_eq_false_iff_not]; intro hh; exact h4 hh.2.2.2.2
            have K4 := hid (decide_eq_false h4); clear h4
            clear h3
            go_enter Try.func20, Try.ntmps20
            go_wp2_with (first | (go_at_call 52; (with_reducible refine (bytes_equal_any d.A1 f.A1 d.s f.s _ _ d.c1 f.c1 rfl rfl _ (B := w.heap.size) (H1.out.below (HB.out _ _)) (H3.out.below (HB.out _ _))).mono ?_); rw [K3.out]; rintro e w2 ⟨rfl, rfl⟩) | (go_at_call 52; (with_reducible refine (bytes_equal_any d.A2 f.A2 d.l f.l _ _ d.c2 f.c2 rfl rfl _ (B := w.heap.size) (H2.out.below (HB.out _ _)) (H4.out.below (HB.out _ _))).mono ?_); rw [K4.out]; rintro e w2 ⟨rfl, rfl⟩))
            go_ret
            exact ⟨ret_bool (by first | rfl | rw [hr] | simpa using u0), below_alloc (below_new _ _) _⟩
        · skip
          have hr : sameB d.dd f.dd = false := by show decide (d.cap = f.cap ∧ d.down = f.down ∧ max d.fuse (-1) = max f.fuse (-1) ∧ d.s = f.s ∧ d.l = f.l) = false; rw [decide_eq_false_iff_not]; intro hh; exact h3 hh.2.2.2.1
          have K3 := hid (decide_eq_false h3); clear h3
          go_enter Try.func20, Try.ntmps20
          go_wp2_with (first | (go_at_call 52; (with_reducible refine (bytes_equal_any d.A1 f.A1 d.s f.s _ _ d.c1 f.c1 rfl rfl _ (B := w.heap.size) (H1.out.below (HB.out _ _)) (H3.out.below (HB.out _ _))).mono ?_); rw [K3.out]; rintro e w2 ⟨rfl, rfl⟩) | (go_at_call 52; (with_reducible refine (bytes_equal_any d.A2 f.A2 d.l f.l _ _ d.c2 f.c2 rfl rfl _ (B := w.heap.size) (H2.out.below (HB.out _ _)) (H4.out.below (HB.out _ _))).mono ?_); rw [K4.out]; rintro e w2 ⟨rfl, rfl⟩))
          go_ret
          exact ⟨ret_bool (by first | rfl | rw [hr] | simpa using u0), below_alloc (below_new _ _) _⟩
      · skip
        have hr : sameB d.dd f.dd = false := by show decide (d.cap = f.cap ∧ d.down = f.down ∧ max d.fuse (-1) = max f.fuse (-1) ∧ d.s = f.s ∧ d.l = f.l) = false; rw [decide_eq_false_iff_not]; intro hh; have := hh.2.2.1; omega
        go_enter Try.func20, Try.ntmps20
        go_wp2_with (first | (go_at_call 52; (with_reducible refine (bytes_equal_any d.A1 f.A1 d.s f.s _ _ d.c1 f.c1 rfl rfl _ (B := w.heap.size) (H1.out.below (HB.out _ _)) (H3.out.below (HB.out _ _))).mono ?_); rw [K3.out]; rintro e w2 ⟨rfl, rfl⟩) | (go_at_call 52; (with_reducible refine (bytes_equal_any d.A2 f.A2 d.l f.l _ _ d.c2 f.c2 rfl rfl _ (B := w.heap.size) (H2.out.below (HB.out _ _)) (H4.out.below (HB.out _ _))).mono ?_); rw [K4.out]; rintro e w2 ⟨rfl, rfl⟩))
        go_ret
        exact ⟨ret_bool (by first | rfl | rw [hr] | simpa using u0), below_alloc (below_new _ _) _⟩
    · skip
      have hr : sameB d.dd f.dd = false := by show decide (d.cap = f.cap ∧ d.down = f.down ∧ max d.fuse (-1) = max f.fuse (-1) ∧ d.s = f.s ∧ d.l = f.l) = false; rw [decide_eq_false_iff_not]; intro hh; exact h1 hh.2.1
      go_enter Try.func20, Try.ntmps20
      go_wp2_with (first | (go_at_call 52; (with_reducible refine (bytes_equal_any d.A1 f.A1 d.s f.s _ _ d.c1 f.c1 rfl rfl _ (B := w.heap.size) (H1.out.below (HB.out _ _)) (H3.out.below (HB.out _ _))).mono ?_); rw [K3.out]; rintro e w2 ⟨rfl, rfl⟩) | (go_at_call 52; (with_reducible refine (bytes_equal_any d.A2 f.A2 d.l f.l _ _ d.c2 f.c2 rfl rfl _ (B := w.heap.size) (H2.out.below (HB.out _ _)) (H4.out.below (HB.out _ _))).mono ?_); rw [K4.out]; rintro e w2 ⟨rfl, rfl⟩))
      go_ret
      exact ⟨ret_bool (by first | rfl | rw [hr] | simpa using u0), below_alloc (below_new _ _) _⟩
  · skip
    have hr : sameB d.dd f.dd = false := by show decide (d.cap = f.cap ∧ d.down = f.down ∧ max d.fuse (-1) = max f.fuse (-1) ∧ d.s = f.s ∧ d.l = f.l) = false; rw [decide_eq_false_iff_not]; intro hh; exact h0 hh.1
    go_enter Try.func20, Try.ntmps20
    go_wp2_with (first | (go_at_call 52; (with_reducible refine (bytes_equal_any d.A1 f.A1 d.s f.s _ _ d.c1 f.c1 rfl rfl _ (B := w.heap.size) (H1.out.below (HB.out _ _)) (H3.out.below (HB.out _ _))).mono ?_); rw [K3.out]; rintro e w2 ⟨rfl, rfl⟩) | (go_at_call 52; (with_reducible refine (bytes_equal_any d.A2 f.A2 d.l f.l _ _ d.c2 f.c2 rfl rfl _ (B := w.heap.size) (H2.out.below (HB.out _ _)) (H4.out.below (HB.out _ _))).mono ?_); rw [K4.out]; rintro e w2 ⟨rfl, rfl⟩))
    go_ret
    exact ⟨ret_bool (by first | rfl | rw [hr] | simpa using u0), below_alloc (below_new _ _) _⟩
set_option maxHeartbeats 1000000 in
theorem same_any_c (Z : Nat → Prop) (d f : Dk) (u1 : ¬ d.fuse < -1) (u2 : f.fuse < -1) (w : World) (hd : d.ok Z w) (hf : f.ok Z w) :
    Calls Try.prog 20 #[d.v, f.v] w fun e w' => e = .returned (.bool (sameB d.dd f.dd)) ∧ Below w.heap.size w w' := by
  have H1 := hid hd.s1.bsl; have H2 := hid hd.s2.bsl; have H3 := hid hf.s1.bsl; have H4 := hid hf.s2.bsl; clear hd hf
  have B2 := fun (o o2 : Obj) => below_alloc (below_new w o) o2
  have HB := hid B2; clear B2
  unfold Dk.v
  by_cases h0 : d.cap = f.cap
  · skip
    by_cases h1 : d.down = f.down
    · skip
      by_cases h2 : d.fuse = -1
      · skip
        by_cases h3 : d.s = f.s
        · skip
          have K3 := hid (decide_eq_true h3)
          by_cases h4 : d.l = f.l
          · skip
            have K4 := hid (decide_eq_true h4)
            have hr : sameB d.dd f.dd = true := by show decide (d.cap = f.cap ∧ d.down = f.down ∧ max d.fuse (-1) = max f.fuse (-1) ∧ d.s = f.s ∧ d.l = f.l) = true; rw [decide_eq_true_eq]; exact ⟨h0, h1, by omega, h3, h4⟩
            clear h3 h4
            go_enter Try.func20, Try.ntmps20
            go_wp2_with (first | (go_at_call 52; (with_reducible refine (bytes_equal_any d.A1 f.A1 d.s f.s _ _ d.c1 f.c1 rfl rfl _ (B := w.heap.size) (H1.out.below (HB.out _ _)) (H3.out.below (HB.out _ _))).mono ?_); rw [K3.out]; rintro e w2 ⟨rfl, rfl⟩) | (go_at_call 52; (with_reducible refine (bytes_equal_any d.A2 f.A2 d.l f.l _ _ d.c2 f.c2 rfl rfl _ (B := w.heap.size) (H2.out.below (HB.out _ _)) (H4.out.below (HB.out _ _))).mono ?_); rw [K4.out]; rintro e w2 ⟨rfl, rfl⟩))
            go_ret
            exact ⟨ret_bool (by first | rfl | rw [hr] | simpa using u0), below_alloc (below_new _ _) _⟩
          · skip
            have hr : sameB d.dd f.dd = false := by show decide (d.cap = f.cap ∧ d.down = f.down ∧ max d.fuse (-1) = max f.fuse (-1) ∧ d.s = f.s ∧ d.l = f.l) = false; rw [decide_eq_false_iff_not]; intro hh; exact h4 hh.2.2.2.2
            have K4 := hid (decide_eq_false h4); clear h4
            clear h3
            go_enter Try.func20, Try.ntmps20
            go_wp2_with (first | (go_at_call 52; (with_reducible refine (bytes_equal_any d.A1 f.A1 d.s f.s _ _ d.c1 f.c1 rfl rfl _ (B := w.heap.size) (H1.out.below (HB.out _ _)) (H3.out.below (HB.out _ _))).mono ?_); rw [K3.out]; rintro e w2 ⟨rfl, rfl⟩) | (go_at_call 52; (with_reducible refine (bytes_equal_any d.A2 f.A2 d.l f.l _ _ d.c2 f.c2 rfl rfl _ (B := w.heap.size) (H2.out.below (HB.out _ _)) (H4.out.below (HB.out _ _))).mono ?_); rw [K4.out]; rintro e w2 ⟨rfl, rfl⟩))
            go_ret
            exact ⟨ret_bool (by first | rfl | rw [hr] | simpa using u0), below_alloc (below_new _ _) _⟩
        · skip
          have hr : sameB d.dd f.dd = false := by show decide (d.cap = f.cap ∧ d.down = f.down ∧ max d.fuse (-1) = max f.fuse (-1) ∧ d.s = f.s ∧ d.l = f.l) = false; rw [decide_eq_false_iff_not]; intro hh; exact h3 hh.2.2.2.1
          have K3 := hid (decide_eq_false h3); clear h3
          go_enter Try.func20, Try.ntmps20
          go_wp2_with (first | (go_at_call 52; (with_reducible refine (bytes_equal_any d.A1 f.A1 d.s f.s _ _ d.c1 f.c1 rfl rfl _ (B := w.heap.size) (H1.out.below (HB.out _ _)) (H3.out.below (HB.out _ _))).mono ?_); rw [K3.out]; rintro e w2 ⟨rfl, rfl⟩) | (go_at_call 52; (with_reducible refine (bytes_equal_any d.A2 f.A2 d.l f.l _ _ d.c2 f.c2 rfl rfl _ (B := w.heap.size) (H2.out.below (HB.out _ _)) (H4.out.below (HB.out _ _))).mono ?_); rw [K4.out]; rintro e w2 ⟨rfl, rfl⟩))
          go_ret
          exact ⟨ret_bool (by first | rfl | rw [hr] | simpa using u0), below_alloc (below_new _ _) _⟩
      · skip
        have hr : sameB d.dd f.dd = false := by show decide (d.cap = f.cap ∧ d.down = f.down ∧ max d.fuse (-1) = max f.fuse (-1) ∧ d.s = f.s ∧ d.l = f.l) = false; rw [decide_eq_false_iff_not]; intro hh; have := hh.2.2.1; omega
        go_enter Try.func20, Try.ntmps20
        go_wp2_with (first | (go_at_call 52; (with_reducible refine (bytes_equal_any d.A1 f.A1 d.s f.s _ _ d.c1 f.c1 rfl rfl _ (B := w.heap.size) (H1.out.below (HB.out _ _)) (H3.out.below (HB.out _ _))).mono ?_); rw [K3.out]; rintro e w2 ⟨rfl, rfl⟩) | (go_at_call 52; (with_reducible refine (bytes_equal_any d.A2 f.A2 d.l f.l _ _ d.c2 f.c2 rfl rfl _ (B := w.heap.size) (H2.out.below (HB.out _ _)) (H4.out.below (HB.out _ _))).mono ?_); rw [K4.out]; rintro e w2 ⟨rfl, rfl⟩))
        go_ret
        exact ⟨ret_bool (by first | rfl | rw [hr] | simpa using u0), below_alloc (below_new _ _) _⟩
    · skip
      have hr : sameB d.dd f.dd = false := by show decide (d.cap = f.cap ∧ d.down = f.down ∧ max d.fuse (-1) = max f.fuse (-1) ∧ d.s = f.s ∧ d.l = f.l) = false; rw [decide_eq_false_iff_not]; intro hh; exact h1 hh.2.1
      go_enter Try.func20, Try.ntmps20
      go_wp2_with (first | (go_at_call 52; (with_reducible refine (bytes_equal_any d.A1 f.A1 d.s f.s _ _ d.c1 f.c1 rfl rfl _ (B := w.heap.size) (H1.out.below (HB.out _ _)) (H3.out.below (HB.out _ _))).mono ?_); rw [K3.out]; rintro e w2 ⟨rfl, rfl⟩) | (go_at_call 52; (with_reducible refine (bytes_equal_any d.A2 f.A2 d.l f.l _ _ d.c2 f.c2 rfl rfl _ (B := w.heap.size) (H2.out.below (HB.out _ _)) (H4.out.below (HB.out _ _))).mono ?_); rw [K4.out]; rintro e w2 ⟨rfl, rfl⟩))
      go_ret
      exact ⟨ret_bool (by first | rfl | rw [hr] | simpa using u0), below_alloc (below_new _ _) _⟩
  · skip
    have hr : sameB d.dd f.dd = false := by show decide (d.cap = f.cap ∧ d.down = f.down ∧ max d.fuse (-1) = max f.fuse (-1) ∧ d.s = f.s ∧ d.l = f.l) = false; rw [decide_eq_false_iff_not]; intro hh; exact h0 hh.1
    go_enter Try.func20, Try.ntmps20
    go_wp2_with (first | (go_at_call 52; (with_reducible refine (bytes_equal_any d.A1 f.A1 d.s f.s _ _ d.c1 f.c1 rfl rfl _ (B := w.heap.size) (H1.out.below (HB.out _ _)) (H3.out.below (HB.out _ _))).mono ?_); rw [K3.out]; rintro e w2 ⟨rfl, rfl⟩) | (go_at_call 52; (with_reducible refine (bytes_equal_any d.A2 f.A2 d.l f.l _ _ d.c2 f.c2 rfl rfl _ (B := w.heap.size) (H2.out.below (HB.out _ _)) (H4.out.below (HB.out _ _))).mono ?_); rw [K4.out]; rintro e w2 ⟨rfl, rfl⟩))
    go_ret
    exact ⟨ret_bool (by first | rfl | rw [hr] | simpa using u0), below_alloc (below_new _ _) _⟩
set_option maxHeartbeats 1000000 in
theorem same_any_d (Z : Nat → Prop) (d f : Dk) (u1 : ¬ d.fuse < -1) (u2 : ¬ f.fuse < -1) (w : World) (hd : d.ok Z w) (hf : f.ok Z w) :
    Calls Try.prog 20 #[d.v, f.v] w fun e w' => e = .returned (.bool (sameB d.dd f.dd)) ∧ Below w.heap.size w w' := by
  have H1 := hid hd.s1.bsl; have H2 := hid hd.s2.bsl; have H3 := hid hf.s1.bsl; have H4 := hid hf.s2.bsl; clear hd hf
  have B2 := fun (o o2 : Obj) => below_alloc (below_new w o) o2
  have HB := hid B2; clear B2
  unfold Dk.v
  by_cases h0 : d.cap = f.cap
  · skip
    by_cases h1 : d.down = f.down
    · skip
      by_cases h2 : d.fuse = f.fuse
      · skip
        by_cases h3 : d.s = f.s
        · skip
          have K3 := hid (decide_eq_true h3)
          by_cases h4 : d.l = f.l
          · skip
            have K4 := hid (decide_eq_true h4)
            have hr : sameB d.dd f.dd = true := by show decide (d.cap = f.cap ∧ d.down = f.down ∧ max d.fuse (-1) = max f.fuse (-1) ∧ d.s = f.s ∧ d.l = f.l) = true; rw [decide_eq_true_eq]; exact ⟨h0, h1, by omega, h3, h4⟩
            clear h3 h4
            go_enter Try.func20, Try.ntmps20
            go_wp2_with (first | (go_at_call 52; (with_reducible refine (bytes_equal_any d.A1 f.A1 d.s f.s _ _ d.c1 f.c1 rfl rfl _ (B := w.heap.size) (H1.out.below (HB.out _ _)) (H3.out.below (HB.out _ _))).mono ?_); rw [K3.out]; rintro e w2 ⟨rfl, rfl⟩) | (go_at_call 52; (with_reducible refine (bytes_equal_any d.A2 f.A2 d.l f.l _ _ d.c2 f.c2 rfl rfl _ (B := w.heap.size) (H2.out.below (HB.out _ _)) (H4.out.below (HB.out _ _))).mono ?_); rw [K4.out]; rintro e w2 ⟨rfl, rfl⟩))
            go_ret
            exact ⟨ret_bool (by first | rfl | rw [hr] | simpa using u0), below_alloc (below_new _ _) _⟩
          · skip
            have hr : sameB d.dd f.dd = false := by show decide (d.cap = f.cap ∧ d.down = f.down ∧ max d.fuse (-1) = max f.fuse (-1) ∧ d.s = f.s ∧ d.l = f.l) = false; rw [decide_eq_false_iff_not]; intro hh; exact h4 hh.2.2.2.2
            have K4 := hid (decide_eq_false h4); clear h4
            clear h3
            go_enter Try.func20, Try.ntmps20
            go_wp2_with (first | (go_at_call 52; (with_reducible refine (bytes_equal_any d.A1 f.A1 d.s f.s _ _ d.c1 f.c1 rfl rfl _ (B := w.heap.size) (H1.out.below (HB.out _ _)) (H3.out.below (HB.out _ _))).mono ?_); rw [K3.out]; rintro e w2 ⟨rfl, rfl⟩) | (go_at_call 52; (with_reducible refine (bytes_equal_any d.A2 f.A2 d.l f.l _ _ d.c2 f.c2 rfl rfl _ (B := w.heap.size) (H2.out.below (HB.out _ _)) (H4.out.below (HB.out _ _))).mono ?_); rw [K4.out]; rintro e w2 ⟨rfl, rfl⟩))
            go_ret
            exact ⟨ret_bool (by first | rfl | rw [hr] | simpa using u0), below_alloc (below_new _ _) _⟩
        · skip
          have hr : sameB d.dd f.dd = false := by show decide (d.cap = f.cap ∧ d.down = f.down ∧ max d.fuse (-1) = max f.fuse (-1) ∧ d.s = f.s ∧ d.l = f.l) = false; rw [decide_eq_false_iff_not]; intro hh; exact h3 hh.2.2.2.1
          have K3 := hid (decide_eq_false h3); clear h3
          go_enter Try.func20, Try.ntmps20
          go_wp2_with (first | (go_at_call 52; (with_reducible refine (bytes_equal_any d.A1 f.A1 d.s f.s _ _ d.c1 f.c1 rfl rfl _ (B := w.heap.size) (H1.out.below (HB.out _ _)) (H3.out.below (HB.out _ _))).mono ?_); rw [K3.out]; rintro e w2 ⟨rfl, rfl⟩) | (go_at_call 52; (with_reducible refine (bytes_equal_any d.A2 f.A2 d.l f.l _ _ d.c2 f.c2 rfl rfl _ (B := w.heap.size) (H2.out.below (HB.out _ _)) (H4.out.below (HB.out _ _))).mono ?_); rw [K4.out]; rintro e w2 ⟨rfl, rfl⟩))
          go_ret
          exact ⟨ret_bool (by first | rfl | rw [hr] | simpa using u0), below_alloc (below_new _ _) _⟩
      · skip
        have hr : sameB d.dd f.dd = false := by show decide (d.cap = f.cap ∧ d.down = f.down ∧ max d.fuse (-1) = max f.fuse (-1) ∧ d.s = f.s ∧ d.l = f.l) = false; rw [decide_eq_false_iff_not]; intro hh; have := hh.2.2.1; omega
        go_enter Try.func20, Try.ntmps20
        go_wp2_with (first | (go_at_call 52; (with_reducible refine (bytes_equal_any d.A1 f.A1 d.s f.s _ _ d.c1 f.c1 rfl rfl _ (B := w.heap.size) (H1.out.below (HB.out _ _)) (H3.out.below (HB.out _ _))).mono ?_); rw [K3.out]; rintro e w2 ⟨rfl, rfl⟩) | (go_at_call 52; (with_reducible refine (bytes_equal_any d.A2 f.A2 d.l f.l _ _ d.c2 f.c2 rfl rfl _ (B := w.heap.size) (H2.out.below (HB.out _ _)) (H4.out.below (HB.out _ _))).mono ?_); rw [K4.out]; rintro e w2 ⟨rfl, rfl⟩))
        go_ret
        exact ⟨ret_bool (by first | rfl | rw [hr] | simpa using u0), below_alloc (below_new _ _) _⟩
    · skip
      have hr : sameB d.dd f.dd = false := by show decide (d.cap = f.cap ∧ d.down = f.down ∧ max d.fuse (-1) = max f.fuse (-1) ∧ d.s = f.s ∧ d.l = f.l) = false; rw [decide_eq_false_iff_not]; intro hh; exact h1 hh.2.1
      go_enter Try.func20, Try.ntmps20
      go_wp2_with (first | (go_at_call 52; (with_reducible refine (bytes_equal_any d.A1 f.A1 d.s f.s _ _ d.c1 f.c1 rfl rfl _ (B := w.heap.size) (H1.out.below (HB.out _ _)) (H3.out.below (HB.out _ _))).mono ?_); rw [K3.out]; rintro e w2 ⟨rfl, rfl⟩) | (go_at_call 52; (with_reducible refine (bytes_equal_any d.A2 f.A2 d.l f.l _ _ d.c2 f.c2 rfl rfl _ (B := w.heap.size) (H2.out.below (HB.out _ _)) (H4.out.below (HB.out _ _))).mono ?_); rw [K4.out]; rintro e w2 ⟨rfl, rfl⟩))
      go_ret
      exact ⟨ret_bool (by first | rfl | rw [hr] | simpa using u0), below_alloc (below_new _ _) _⟩
  · skip
    have hr : sameB d.dd f.dd = false := by show decide (d.cap = f.cap ∧ d.down = f.down ∧ max d.fuse (-1) = max f.fuse (-1) ∧ d.s = f.s ∧ d.l = f.l) = false; rw [decide_eq_false_iff_not]; intro hh; exact h0 hh.1
    go_enter Try.func20, Try.ntmps20
    go_wp2_with (first | (go_at_call 52; (with_reducible refine (bytes_equal_any d.A1 f.A1 d.s f.s _ _ d.c1 f.c1 rfl rfl _ (B := w.heap.size) (H1.out.below (HB.out _ _)) (H3.out.below (HB.out _ _))).mono ?_); rw [K3.out]; rintro e w2 ⟨rfl, rfl⟩) | (go_at_call 52; (with_reducible refine (bytes_equal_any d.A2 f.A2 d.l f.l _ _ d.c2 f.c2 rfl rfl _ (B := w.heap.size) (H2.out.below (HB.out _ _)) (H4.out.below (HB.out _ _))).mono ?_); rw [K4.out]; rintro e w2 ⟨rfl, rfl⟩))
    go_ret
    exact ⟨ret_bool (by first | rfl | rw [hr] | simpa using u0), below_alloc (below_new _ _) _⟩
theorem same_any (Z : Nat → Prop) (d f : Dk) (w : World) (hd : d.ok Z w) (hf : f.ok Z w) : Calls Try.prog 20 #[d.v, f.v] w fun e w' => e = .returned (.bool (sameB d.dd f.dd)) ∧ Below w.heap.size w w' := by
  by_cases u1 : d.fuse < -1 <;> by_cases u2 : f.fuse < -1
  · exact same_any_a Z d f u1 u2 w hd hf
  · exact same_any_b Z d f u1 u2 w hd hf
  · exact same_any_c Z d f u1 u2 w hd hf
  · exact same_any_d Z d f u1 u2 w hd hf
end Go.Proofs.Ythboeilpeggpoaa
