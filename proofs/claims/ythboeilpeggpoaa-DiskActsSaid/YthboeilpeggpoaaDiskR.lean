/-
  The document's disks: whether two are alike.
-/
import Derived.Test.YthboeilpeggpoaaDiskQ
namespace Go.Proofs.Ythboeilpeggpoaa
open Go.RowKit
set_option maxHeartbeats 1000000 in
theorem rsame_any_e (Z : Nat → Prop) (d f : Dk) (u1 : d.fuse = f.fuse) (w : World) (hd : d.ok Z w) (hf : f.ok Z w) :
    Calls Try.prog 21 #[d.v, f.v] w fun e w' => e = .returned (.bool (sameB d.dd f.dd)) ∧ Below w.heap.size w w' := by
  have H1 := hid hd.s1.bsl; have H2 := hid hd.s2.bsl; have H3 := hid hf.s1.bsl; have H4 := hid hf.s2.bsl; clear hd hf
  have Q1 := fun (o o2 : Obj) => conv_str (c := d.c1) rfl (H1.out.below (below_alloc (below_new w o) o2))
  have Q2 := fun (o o2 : Obj) => conv_str (c := d.c2) rfl (H2.out.below (below_alloc (below_new w o) o2))
  have Q3 := fun (o o2 : Obj) => conv_str (c := f.c1) rfl (H3.out.below (below_alloc (below_new w o) o2))
  have Q4 := fun (o o2 : Obj) => conv_str (c := f.c2) rfl (H4.out.below (below_alloc (below_new w o) o2))
  unfold Dk.v
  by_cases h0 : d.cap = f.cap
  · skip
    by_cases h1 : d.s = f.s
    · skip
      have K3 : (d.s == f.s) = true := by simp [h1]
      by_cases h2 : d.l = f.l
      · skip
        have K4 : (d.l == f.l) = true := by simp [h2]
        by_cases h3 : d.down = f.down
        · skip
          have hr : sameB d.dd f.dd = true := by show decide (d.cap = f.cap ∧ d.down = f.down ∧ max d.fuse (-1) = max f.fuse (-1) ∧ d.s = f.s ∧ d.l = f.l) = true; rw [decide_eq_true_eq]; exact ⟨h0, h3, by omega, h1, h2⟩
          clear h1 h2
          go_enter Try.func21, Try.ntmps21
          go_wp2
          go_ret
          exact ⟨ret_bool (by first | rfl | rw [hr] | simpa using u0), below_alloc (below_new _ _) _⟩
        · skip
          have hr : sameB d.dd f.dd = false := by show decide (d.cap = f.cap ∧ d.down = f.down ∧ max d.fuse (-1) = max f.fuse (-1) ∧ d.s = f.s ∧ d.l = f.l) = false; rw [decide_eq_false_iff_not]; intro hh; exact h3 hh.2.1
          clear h1 h2
          go_enter Try.func21, Try.ntmps21
          go_wp2
          go_ret
          exact ⟨ret_bool (by first | rfl | rw [hr] | simpa using u0), below_alloc (below_new _ _) _⟩
      · skip
        have hr : sameB d.dd f.dd = false := by show decide (d.cap = f.cap ∧ d.down = f.down ∧ max d.fuse (-1) = max f.fuse (-1) ∧ d.s = f.s ∧ d.l = f.l) = false; rw [decide_eq_false_iff_not]; intro hh; exact h2 hh.2.2.2.2
        have K4 : (d.l == f.l) = false := by simp [h2]
        clear h1 h2
        go_enter Try.func21, Try.ntmps21
        go_wp2
        go_ret
        exact ⟨ret_bool (by first | rfl | rw [hr] | simpa using u0), below_alloc (below_new _ _) _⟩
    · skip
      have hr : sameB d.dd f.dd = false := by show decide (d.cap = f.cap ∧ d.down = f.down ∧ max d.fuse (-1) = max f.fuse (-1) ∧ d.s = f.s ∧ d.l = f.l) = false; rw [decide_eq_false_iff_not]; intro hh; exact h1 hh.2.2.2.1
      have K3 : (d.s == f.s) = false := by simp [h1]
      clear h1
      go_enter Try.func21, Try.ntmps21
      go_wp2
      go_ret
      exact ⟨ret_bool (by first | rfl | rw [hr] | simpa using u0), below_alloc (below_new _ _) _⟩
  · skip
    have hr : sameB d.dd f.dd = false := by show decide (d.cap = f.cap ∧ d.down = f.down ∧ max d.fuse (-1) = max f.fuse (-1) ∧ d.s = f.s ∧ d.l = f.l) = false; rw [decide_eq_false_iff_not]; intro hh; exact h0 hh.1
    go_enter Try.func21, Try.ntmps21
    go_wp2
    go_ret
    exact ⟨ret_bool (by first | rfl | rw [hr] | simpa using u0), below_alloc (below_new _ _) _⟩
set_option maxHeartbeats 1000000 in
theorem rsame_any_a (Z : Nat → Prop) (d f : Dk) (u0 : ¬ d.fuse = f.fuse) (u1 : d.fuse < 0) (u2 : f.fuse < 0) (w : World) (hd : d.ok Z w) (hf : f.ok Z w) :
    Calls Try.prog 21 #[d.v, f.v] w fun e w' => e = .returned (.bool (sameB d.dd f.dd)) ∧ Below w.heap.size w w' := by
  have H1 := hid hd.s1.bsl; have H2 := hid hd.s2.bsl; have H3 := hid hf.s1.bsl; have H4 := hid hf.s2.bsl; clear hd hf
  have Q1 := fun (o o2 : Obj) => conv_str (c := d.c1) rfl (H1.out.below (below_alloc (below_new w o) o2))
  have Q2 := fun (o o2 : Obj) => conv_str (c := d.c2) rfl (H2.out.below (below_alloc (below_new w o) o2))
  have Q3 := fun (o o2 : Obj) => conv_str (c := f.c1) rfl (H3.out.below (below_alloc (below_new w o) o2))
  have Q4 := fun (o o2 : Obj) => conv_str (c := f.c2) rfl (H4.out.below (below_alloc (below_new w o) o2))
  unfold Dk.v
  by_cases h0 : d.cap = f.cap
  · skip
    by_cases h1 : d.s = f.s
    · skip
      have K3 : (d.s == f.s) = true := by simp [h1]
      by_cases h2 : d.l = f.l
      · skip
        have K4 : (d.l == f.l) = true := by simp [h2]
        by_cases h3 : d.down = f.down
        · skip
          have hr : sameB d.dd f.dd = true := by show decide (d.cap = f.cap ∧ d.down = f.down ∧ max d.fuse (-1) = max f.fuse (-1) ∧ d.s = f.s ∧ d.l = f.l) = true; rw [decide_eq_true_eq]; exact ⟨h0, h3, by omega, h1, h2⟩
          clear h1 h2
          go_enter Try.func21, Try.ntmps21
          go_wp2
          go_ret
          exact ⟨ret_bool (by first | rfl | rw [hr] | simpa using u0), below_alloc (below_new _ _) _⟩
        · skip
          have hr : sameB d.dd f.dd = false := by show decide (d.cap = f.cap ∧ d.down = f.down ∧ max d.fuse (-1) = max f.fuse (-1) ∧ d.s = f.s ∧ d.l = f.l) = false; rw [decide_eq_false_iff_not]; intro hh; exact h3 hh.2.1
          clear h1 h2
          go_enter Try.func21, Try.ntmps21
          go_wp2
          go_ret
          exact ⟨ret_bool (by first | rfl | rw [hr] | simpa using u0), below_alloc (below_new _ _) _⟩
      · skip
        have hr : sameB d.dd f.dd = false := by show decide (d.cap = f.cap ∧ d.down = f.down ∧ max d.fuse (-1) = max f.fuse (-1) ∧ d.s = f.s ∧ d.l = f.l) = false; rw [decide_eq_false_iff_not]; intro hh; exact h2 hh.2.2.2.2
        have K4 : (d.l == f.l) = false := by simp [h2]
        clear h1 h2
        go_enter Try.func21, Try.ntmps21
        go_wp2
        go_ret
        exact ⟨ret_bool (by first | rfl | rw [hr] | simpa using u0), below_alloc (below_new _ _) _⟩
    · skip
      have hr : sameB d.dd f.dd = false := by show decide (d.cap = f.cap ∧ d.down = f.down ∧ max d.fuse (-1) = max f.fuse (-1) ∧ d.s = f.s ∧ d.l = f.l) = false; rw [decide_eq_false_iff_not]; intro hh; exact h1 hh.2.2.2.1
      have K3 : (d.s == f.s) = false := by simp [h1]
      clear h1
      go_enter Try.func21, Try.ntmps21
      go_wp2
      go_ret
      exact ⟨ret_bool (by first | rfl | rw [hr] | simpa using u0), below_alloc (below_new _ _) _⟩
  · skip
    have hr : sameB d.dd f.dd = false := by show decide (d.cap = f.cap ∧ d.down = f.down ∧ max d.fuse (-1) = max f.fuse (-1) ∧ d.s = f.s ∧ d.l = f.l) = false; rw [decide_eq_false_iff_not]; intro hh; exact h0 hh.1
    go_enter Try.func21, Try.ntmps21
    go_wp2
    go_ret
    exact ⟨ret_bool (by first | rfl | rw [hr] | simpa using u0), below_alloc (below_new _ _) _⟩
set_option maxHeartbeats 1000000 in
theorem rsame_any_b (Z : Nat → Prop) (d f : Dk) (u0 : ¬ d.fuse = f.fuse) (u1 : d.fuse < 0) (u2 : ¬ f.fuse < 0) (w : World) (hd : d.ok Z w) (hf : f.ok Z w) :
    Calls Try.prog 21 #[d.v, f.v] w fun e w' => e = .returned (.bool (sameB d.dd f.dd)) ∧ Below w.heap.size w w' := by
  have H1 := hid hd.s1.bsl; have H2 := hid hd.s2.bsl; have H3 := hid hf.s1.bsl; have H4 := hid hf.s2.bsl; clear hd hf
  have Q1 := fun (o o2 : Obj) => conv_str (c := d.c1) rfl (H1.out.below (below_alloc (below_new w o) o2))
  have Q2 := fun (o o2 : Obj) => conv_str (c := d.c2) rfl (H2.out.below (below_alloc (below_new w o) o2))
  have Q3 := fun (o o2 : Obj) => conv_str (c := f.c1) rfl (H3.out.below (below_alloc (below_new w o) o2))
  have Q4 := fun (o o2 : Obj) => conv_str (c := f.c2) rfl (H4.out.below (below_alloc (below_new w o) o2))
  unfold Dk.v
  by_cases h0 : d.cap = f.cap
  · skip
    by_cases h1 : d.s = f.s
    · skip
      have K3 : (d.s == f.s) = true := by simp [h1]
      by_cases h2 : d.l = f.l
      · skip
        have K4 : (d.l == f.l) = true := by simp [h2]
        by_cases h3 : d.down = f.down
        · skip
          have hr : sameB d.dd f.dd = false := by show decide (d.cap = f.cap ∧ d.down = f.down ∧ max d.fuse (-1) = max f.fuse (-1) ∧ d.s = f.s ∧ d.l = f.l) = false; rw [decide_eq_false_iff_not]; intro hh; have := hh.2.2.1; omega
          clear h1 h2
          go_enter Try.func21, Try.ntmps21
          go_wp2
          go_ret
          exact ⟨ret_bool (by first | rfl | rw [hr] | simpa using u0), below_alloc (below_new _ _) _⟩
        · skip
          have hr : sameB d.dd f.dd = false := by show decide (d.cap = f.cap ∧ d.down = f.down ∧ max d.fuse (-1) = max f.fuse (-1) ∧ d.s = f.s ∧ d.l = f.l) = false; rw [decide_eq_false_iff_not]; intro hh; exact h3 hh.2.1
          clear h1 h2
          go_enter Try.func21, Try.ntmps21
          go_wp2
          go_ret
          exact ⟨ret_bool (by first | rfl | rw [hr] | simpa using u0), below_alloc (below_new _ _) _⟩
      · skip
        have hr : sameB d.dd f.dd = false := by show decide (d.cap = f.cap ∧ d.down = f.down ∧ max d.fuse (-1) = max f.fuse (-1) ∧ d.s = f.s ∧ d.l = f.l) = false; rw [decide_eq_false_iff_not]; intro hh; exact h2 hh.2.2.2.2
        have K4 : (d.l == f.l) = false := by simp [h2]
        clear h1 h2
        go_enter Try.func21, Try.ntmps21
        go_wp2
        go_ret
        exact ⟨ret_bool (by first | rfl | rw [hr] | simpa using u0), below_alloc (below_new _ _) _⟩
    · skip
      have hr : sameB d.dd f.dd = false := by show decide (d.cap = f.cap ∧ d.down = f.down ∧ max d.fuse (-1) = max f.fuse (-1) ∧ d.s = f.s ∧ d.l = f.l) = false; rw [decide_eq_false_iff_not]; intro hh; exact h1 hh.2.2.2.1
      have K3 : (d.s == f.s) = false := by simp [h1]
      clear h1
      go_enter Try.func21, Try.ntmps21
      go_wp2
      go_ret
      exact ⟨ret_bool (by first | rfl | rw [hr] | simpa using u0), below_alloc (below_new _ _) _⟩
  · skip
    have hr : sameB d.dd f.dd = false := by show decide (d.cap = f.cap ∧ d.down = f.down ∧ max d.fuse (-1) = max f.fuse (-1) ∧ d.s = f.s ∧ d.l = f.l) = false; rw [decide_eq_false_iff_not]; intro hh; exact h0 hh.1
    go_enter Try.func21, Try.ntmps21
    go_wp2
    go_ret
    exact ⟨ret_bool (by first | rfl | rw [hr] | simpa using u0), below_alloc (below_new _ _) _⟩
set_option maxHeartbeats 1000000 in
theorem rsame_any_c (Z : Nat → Prop) (d f : Dk) (u0 : ¬ d.fuse = f.fuse) (u1 : ¬ d.fuse < 0) (w : World) (hd : d.ok Z w) (hf : f.ok Z w) :
    Calls Try.prog 21 #[d.v, f.v] w fun e w' => e = .returned (.bool (sameB d.dd f.dd)) ∧ Below w.heap.size w w' := by
  have H1 := hid hd.s1.bsl; have H2 := hid hd.s2.bsl; have H3 := hid hf.s1.bsl; have H4 := hid hf.s2.bsl; clear hd hf
  have Q1 := fun (o o2 : Obj) => conv_str (c := d.c1) rfl (H1.out.below (below_alloc (below_new w o) o2))
  have Q2 := fun (o o2 : Obj) => conv_str (c := d.c2) rfl (H2.out.below (below_alloc (below_new w o) o2))
  have Q3 := fun (o o2 : Obj) => conv_str (c := f.c1) rfl (H3.out.below (below_alloc (below_new w o) o2))
  have Q4 := fun (o o2 : Obj) => conv_str (c := f.c2) rfl (H4.out.below (below_alloc (below_new w o) o2))
  unfold Dk.v
  by_cases h0 : d.cap = f.cap
  · skip
    by_cases h1 : d.s = f.s
    · skip
      have K3 : (d.s == f.s) = true := by simp [h1]
      by_cases h2 : d.l = f.l
      · skip
        have K4 : (d.l == f.l) = true := by simp [h2]
        by_cases h3 : d.down = f.down
        · skip
          have hr : sameB d.dd f.dd = false := by show decide (d.cap = f.cap ∧ d.down = f.down ∧ max d.fuse (-1) = max f.fuse (-1) ∧ d.s = f.s ∧ d.l = f.l) = false; rw [decide_eq_false_iff_not]; intro hh; have := hh.2.2.1; omega
          clear h1 h2
          go_enter Try.func21, Try.ntmps21
          go_wp2
          go_ret
          exact ⟨ret_bool (by first | rfl | rw [hr] | simpa using u0), below_alloc (below_new _ _) _⟩
        · skip
          have hr : sameB d.dd f.dd = false := by show decide (d.cap = f.cap ∧ d.down = f.down ∧ max d.fuse (-1) = max f.fuse (-1) ∧ d.s = f.s ∧ d.l = f.l) = false; rw [decide_eq_false_iff_not]; intro hh; exact h3 hh.2.1
          clear h1 h2
          go_enter Try.func21, Try.ntmps21
          go_wp2
          go_ret
          exact ⟨ret_bool (by first | rfl | rw [hr] | simpa using u0), below_alloc (below_new _ _) _⟩
      · skip
        have hr : sameB d.dd f.dd = false := by show decide (d.cap = f.cap ∧ d.down = f.down ∧ max d.fuse (-1) = max f.fuse (-1) ∧ d.s = f.s ∧ d.l = f.l) = false; rw [decide_eq_false_iff_not]; intro hh; exact h2 hh.2.2.2.2
        have K4 : (d.l == f.l) = false := by simp [h2]
        clear h1 h2
        go_enter Try.func21, Try.ntmps21
        go_wp2
        go_ret
        exact ⟨ret_bool (by first | rfl | rw [hr] | simpa using u0), below_alloc (below_new _ _) _⟩
    · skip
      have hr : sameB d.dd f.dd = false := by show decide (d.cap = f.cap ∧ d.down = f.down ∧ max d.fuse (-1) = max f.fuse (-1) ∧ d.s = f.s ∧ d.l = f.l) = false; rw [decide_eq_false_iff_not]; intro hh; exact h1 hh.2.2.2.1
      have K3 : (d.s == f.s) = false := by simp [h1]
      clear h1
      go_enter Try.func21, Try.ntmps21
      go_wp2
      go_ret
      exact ⟨ret_bool (by first | rfl | rw [hr] | simpa using u0), below_alloc (below_new _ _) _⟩
  · skip
    have hr : sameB d.dd f.dd = false := by show decide (d.cap = f.cap ∧ d.down = f.down ∧ max d.fuse (-1) = max f.fuse (-1) ∧ d.s = f.s ∧ d.l = f.l) = false; rw [decide_eq_false_iff_not]; intro hh; exact h0 hh.1
    go_enter Try.func21, Try.ntmps21
    go_wp2
    go_ret
    exact ⟨ret_bool (by first | rfl | rw [hr] | simpa using u0), below_alloc (below_new _ _) _⟩
theorem rsame_any (Z : Nat → Prop) (d f : Dk) (w : World) (hd : d.ok Z w) (hf : f.ok Z w) : Calls Try.prog 21 #[d.v, f.v] w fun e w' => e = .returned (.bool (sameB d.dd f.dd)) ∧ Below w.heap.size w w' := by
  by_cases u0 : d.fuse = f.fuse
  · exact rsame_any_e Z d f u0 w hd hf
  · by_cases u1 : d.fuse < 0
    · by_cases u2 : f.fuse < 0
      · exact rsame_any_a Z d f u0 u1 u2 w hd hf
      · exact rsame_any_b Z d f u0 u1 u2 w hd hf
    · exact rsame_any_c Z d f u0 u1 w hd hf
end Go.Proofs.Ythboeilpeggpoaa
