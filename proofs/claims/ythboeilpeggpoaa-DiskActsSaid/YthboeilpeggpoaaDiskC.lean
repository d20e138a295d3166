/-
  Disks: Crash of both packages.
-/
import Derived.Test.YthboeilpeggpoaaDiskB
import Derived.Test.YthboeilpeggpoaaRegZ
import Derived.Test.YthboeilpeggpoaaRegL
namespace Go.Proofs.Ythboeilpeggpoaa
open Go.RowKit
theorem below_of_agree {w W3 w4 : World} {X : Nat} (h0 : Below w.heap.size w W3) (hX : w.heap.size ≤ X) (h : Agree (fun k => k ≠ X) W3 w4) : Below w.heap.size w w4 :=
  h0.trans (h.below fun k hk => ⟨Nat.lt_of_lt_of_le hk h0.size, by omega⟩)
set_option maxHeartbeats 1000000 in
theorem crash_k (d : Dk) {Z : Nat → Prop} (k : Nat) (hk : k ≤ d.l.length) (hs : d.sm) (w : World) (hd : d.ok Z w) : Calls Try.prog 32 #[d.v, .int .i64 (k : Int)] w
    fun e w' => ∃ v, e = .returned (.agg #[.int .i64 d.cap, v, .slice none 0 0, .bool false, .int .i64 (-1)]) ∧ Own byteR 1 5 w.heap.size 0 w' v (d.s ++ d.l.take (k)) ∧ Below w.heap.size w w' := by
  have S1 := hid hd.s1.bsl; have S2 := hid hd.s2.bsl; have G := hid hd; clear hd
  obtain ⟨z1, z2⟩ := hs
  have hk1 : (d.l.take (k)).length = k := by rw [List.length_take]; omega
  have hk2 : k ≤ d.c2 := by have := G.out.g2; omega
  have ht2 : [d.s, d.l.take (k)].flatten.length ≤ 3000000 := by simp; omega
  have hz1' : d.s.length ≤ 2000000 := by omega
  have hz2' : k ≤ 2000000 := by omega
  have hb0 : Below w.heap.size w ((w.alloc (.cells #[.int .i64 d.cap, .slice d.A1 d.s.length d.c1, .slice d.A2 d.l.length d.c2, .bool d.down, .int .i64 d.fuse] 24)).alloc (.cells #[.int .i64 0, .slice none 0 0, .slice none 0 0, .bool false, .int .i64 0] 24)) := below_alloc (below_new _ _) _
  have HK := hid hk1; have HK2 := hid hk2; have HT2 := hid ht2; have HZ1 := hid hz1'; have HZ2 := hid hz2'; have HB := hid hb0; clear hk1 ht2 hz1' hz2' hb0
  have hcl : ((k : Nat) : Int) ≤ d.c2 := by omega
  obtain ⟨m, hm⟩ : ∃ m, [d.s, d.l.take (k)].flatten.length = m := ⟨_, rfl⟩
  have HM := hid hm; clear hm
  unfold Dk.v
  go_enter Try.func32, Try.ntmps32
  go_wp2_with fail
  refine reg_startZ (fun k => k ≠ w.heap.size + 1) (by kernel_rfl) fun w4 hHeld hU => ?_
  have hT := hHeld
  refine reg_rd 0 (v := ?_) rfl (by kernel_rfl) (by kernel_rfl) (by kernel_rfl) (fun _ _ _ h => h) (by rfl) (by assumption) ?_ ?_
  rotate_left
  · intro w hSw; go_simp; with_reducible rfl
  try simp only [Act.put, List.setIfInBounds_toArray, List.set_cons_zero, List.set_cons_succ]
  refine reg_rd 1 (v := ?_) rfl (by kernel_rfl) (by kernel_rfl) (by kernel_rfl) (fun _ _ _ h => h) (by rfl) (by assumption) ?_ ?_
  rotate_left
  · (intro w' hSw; obtain ⟨hq1, hq2⟩ := acell hSw; go_simp); with_reducible rfl
  try simp only [Act.put, List.setIfInBounds_toArray, List.set_cons_zero, List.set_cons_succ]
  refine reg_rd 2 (v := ?_) rfl (by kernel_rfl) (by kernel_rfl) (by kernel_rfl) (fun _ _ _ h => h) (by rfl) (by assumption) ?_ ?_
  rotate_left
  · intro w hSw; go_simp; with_reducible rfl
  try simp only [Act.put, List.setIfInBounds_toArray, List.set_cons_zero, List.set_cons_succ]
  refine reg_rd 3 (v := ?_) rfl (by kernel_rfl) (by kernel_rfl) (by kernel_rfl) (fun _ _ _ h => h) (by rfl) (by assumption) ?_ ?_
  rotate_left
  · (intro w' hSw; obtain ⟨hq1, hq2⟩ := acell hSw; go_simp); with_reducible rfl
  try simp only [Act.put, List.setIfInBounds_toArray, List.set_cons_zero, List.set_cons_succ]
  refine reg_rd 4 (v := ?_) rfl (by kernel_rfl) (by kernel_rfl) (by kernel_rfl) (fun _ _ _ h => h) (by rfl) (by assumption) ?_ ?_
  rotate_left
  · intro w hSw; go_simp; with_reducible rfl
  try simp only [Act.put, List.setIfInBounds_toArray, List.set_cons_zero, List.set_cons_succ]
  refine reg_rd 5 (v := ?_) rfl (by kernel_rfl) (by kernel_rfl) (by kernel_rfl) (fun _ _ _ h => h) (by rfl) (by assumption) ?_ ?_
  rotate_left
  · (intro w' hSw; obtain ⟨hq1, hq2⟩ := acell hSw; go_simp); with_reducible rfl
  try simp only [Act.put, List.setIfInBounds_toArray, List.set_cons_zero, List.set_cons_succ]
  refine reg_rd 6 (v := ?_) rfl (by kernel_rfl) (by kernel_rfl) (by kernel_rfl) (fun _ _ _ h => h) (by rfl) (by assumption) ?_ ?_
  rotate_left
  · intro w hSw; go_simp; with_reducible rfl
  try simp only [Act.put, List.setIfInBounds_toArray, List.set_cons_zero, List.set_cons_succ]
  refine reg_rd 7 (v := ?_) rfl (by kernel_rfl) (by kernel_rfl) (by kernel_rfl) (fun _ _ _ h => h) (by rfl) (by assumption) ?_ ?_
  rotate_left
  · intro w hSw; go_simp; with_reducible rfl
  try simp only [Act.put, List.setIfInBounds_toArray, List.set_cons_zero, List.set_cons_succ]
  refine wpAnyH_ready (rs := [8]) (by kernel_rfl) (by simp) ?_
  refine reg_do1 rfl (by rfl) (fun K hK => ?_)
  go_simp
  refine hK.out _ _ ?_ (fun hNext => ?_)
  · (repeat (first | assumption | exact agree_of_below (by assumption) | refine Agree.setCell ?_ (by simp) _ | refine Agree.alloc ?_ _))
  clear hK K hHeld
  refine wpAnyZ_base hNext fun hHeld => ?_
  clear hNext
  try simp only [Act.put, List.setIfInBounds_toArray, List.set_cons_zero, List.set_cons_succ]
  refine wpAnyH_ready (rs := [9]) (by kernel_rfl) (by simp) ?_
  refine reg_do1 rfl (by rfl) (fun K hK => ?_)
  go_simp
  (go_at_call 56; refine (concat_any _ [d.s, d.l.take (k)] 2 2 rfl (by omega) HT2.out _ (rows2 (q := w4.heap.size) (w := w4) _ (S1.out.below (below_of_agree HB.out (Nat.le_succ _) hT)) rfl G.out.g1 G.out.m1 ((S2.out.below (below_of_agree HB.out (Nat.le_succ _) hT)).take _) HK.out HK2.out G.out.m2 (below_of_agree HB.out (Nat.le_succ _) hT).size rfl)).mono ?_; rintro e wX ⟨v, rfl, hown, hbX⟩; have hU2 := below_then (below_alloc hU _) hbX; obtain ⟨hx1, hx2⟩ := bcell hU2; obtain ⟨AX, cX, rfl⟩ := hown.form2 HM.out; have HO := hid hown; clear hown)
  go_wp2_with fail
  refine hK.out _ _ ?_ (fun hNext => ?_)
  · (repeat (first | assumption | exact agree_of_below (by assumption) | refine Agree.setCell ?_ (by simp) _ | refine Agree.alloc ?_ _))
  clear hK K hHeld
  refine wpAnyZ_base hNext fun hHeld => ?_
  clear hNext
  try simp only [Act.put, List.setIfInBounds_toArray, List.set_cons_zero, List.set_cons_succ]
  refine reg_rd 10 (v := ?_) rfl (by kernel_rfl) (by kernel_rfl) (by kernel_rfl) (fun _ _ _ h => h) (by rfl) (by assumption) ?_ ?_
  rotate_left
  · intro w hSw; go_simp; with_reducible rfl
  try simp only [Act.put, List.setIfInBounds_toArray, List.set_cons_zero, List.set_cons_succ]
  refine wpAnyH_ready (rs := [11]) (by kernel_rfl) (by simp) ?_
  refine reg_do1 rfl (by rfl) (fun K hK => ?_)
  go_simp
  refine hK.out _ _ ?_ (fun hNext => ?_)
  · (repeat (first | assumption | exact agree_of_below (by assumption) | refine Agree.setCell ?_ (by simp) _ | refine Agree.alloc ?_ _))
  clear hK K hHeld
  refine wpAnyZ_base hNext fun hHeld => ?_
  clear hNext
  try simp only [Act.put, List.setIfInBounds_toArray, List.set_cons_zero, List.set_cons_succ]
  refine wpAnyH_done (by kernel_rfl) ?_ _
  go_wp2_with fail
  have hX : wX.there (w.heap.size + 1) 0 5 := there_new hU2 (by simp)
  have hbw := below_then HB.out hU2
  refine bodyPost_ret (w := wX.setCells (w.heap.size + 1) 0 [.int .i64 d.cap, .slice AX m cX, .slice none 0 0, .bool false, .int .i64 (-1)]) (results_cell rfl (b := w.heap.size + 1) (o := 0) [.int .i64 d.cap, .slice AX m cX, .slice none 0 0, .bool false, .int .i64 (-1)] rfl (World.rangeAt_setCells_same wX _ 0 _ hX) Try.underlying24 rfl (by kernel_rfl)) rfl ⟨.slice AX m cX, rfl, ?_, setCells_below hbw (by omega) _ _⟩
  have hO := HO.out
  rw [show [d.s, d.l.take (k)].flatten = d.s ++ d.l.take (k) by simp] at hO
  exact (hO.agree_but (X := w.heap.size + 1) (setCells_agree (by simp) _ _ _) (by have := hU.size; simp at this ⊢; omega) (Nat.zero_le _) (Nat.zero_le _)).low (by have := hU.size; simp at this ⊢; omega)
set_option maxHeartbeats 1000000 in
theorem crash_neg (d : Dk) {Z : Nat → Prop} (n : Int) (hn : n < 0) (hs : d.sm) (w : World) (hd : d.ok Z w) : Calls Try.prog 32 #[d.v, .int .i64 n] w
    fun e w' => ∃ v, e = .returned (.agg #[.int .i64 d.cap, v, .slice none 0 0, .bool false, .int .i64 (-1)]) ∧ Own byteR 1 5 w.heap.size 0 w' v (d.s ++ d.l.take (0)) ∧ Below w.heap.size w w' := by
  have S1 := hid hd.s1.bsl; have S2 := hid hd.s2.bsl; have G := hid hd; clear hd
  obtain ⟨z1, z2⟩ := hs
  have hk1 : (d.l.take (0)).length = 0 := by rw [List.length_take]; omega
  have hk2 : 0 ≤ d.c2 := by have := G.out.g2; omega
  have ht2 : [d.s, d.l.take (0)].flatten.length ≤ 3000000 := by simp; omega
  have hz1' : d.s.length ≤ 2000000 := by omega
  have hz2' : 0 ≤ 2000000 := by omega
  have hb0 : Below w.heap.size w ((w.alloc (.cells #[.int .i64 d.cap, .slice d.A1 d.s.length d.c1, .slice d.A2 d.l.length d.c2, .bool d.down, .int .i64 d.fuse] 24)).alloc (.cells #[.int .i64 0, .slice none 0 0, .slice none 0 0, .bool false, .int .i64 0] 24)) := below_alloc (below_new _ _) _
  have HK := hid hk1; have HK2 := hid hk2; have HT2 := hid ht2; have HZ1 := hid hz1'; have HZ2 := hid hz2'; have HB := hid hb0; clear hk1 ht2 hz1' hz2' hb0
  have hcl : ((0 : Nat) : Int) ≤ d.c2 := by omega
  obtain ⟨m, hm⟩ : ∃ m, [d.s, d.l.take (0)].flatten.length = m := ⟨_, rfl⟩
  have HM := hid hm; clear hm
  unfold Dk.v
  go_enter Try.func32, Try.ntmps32
  go_wp2_with fail
  refine reg_startZ (fun k => k ≠ w.heap.size + 1) (by kernel_rfl) fun w4 hHeld hU => ?_
  have hT := hHeld
  refine reg_rd 0 (v := ?_) rfl (by kernel_rfl) (by kernel_rfl) (by kernel_rfl) (fun _ _ _ h => h) (by rfl) (by assumption) ?_ ?_
  rotate_left
  · intro w hSw; go_simp; with_reducible rfl
  try simp only [Act.put, List.setIfInBounds_toArray, List.set_cons_zero, List.set_cons_succ]
  refine reg_rd 1 (v := ?_) rfl (by kernel_rfl) (by kernel_rfl) (by kernel_rfl) (fun _ _ _ h => h) (by rfl) (by assumption) ?_ ?_
  rotate_left
  · (intro w' hSw; obtain ⟨hq1, hq2⟩ := acell hSw; go_simp); with_reducible rfl
  try simp only [Act.put, List.setIfInBounds_toArray, List.set_cons_zero, List.set_cons_succ]
  refine reg_rd 2 (v := ?_) rfl (by kernel_rfl) (by kernel_rfl) (by kernel_rfl) (fun _ _ _ h => h) (by rfl) (by assumption) ?_ ?_
  rotate_left
  · intro w hSw; go_simp; with_reducible rfl
  try simp only [Act.put, List.setIfInBounds_toArray, List.set_cons_zero, List.set_cons_succ]
  refine reg_rd 3 (v := ?_) rfl (by kernel_rfl) (by kernel_rfl) (by kernel_rfl) (fun _ _ _ h => h) (by rfl) (by assumption) ?_ ?_
  rotate_left
  · (intro w' hSw; obtain ⟨hq1, hq2⟩ := acell hSw; go_simp); with_reducible rfl
  try simp only [Act.put, List.setIfInBounds_toArray, List.set_cons_zero, List.set_cons_succ]
  refine reg_rd 4 (v := ?_) rfl (by kernel_rfl) (by kernel_rfl) (by kernel_rfl) (fun _ _ _ h => h) (by rfl) (by assumption) ?_ ?_
  rotate_left
  · intro w hSw; go_simp; with_reducible rfl
  try simp only [Act.put, List.setIfInBounds_toArray, List.set_cons_zero, List.set_cons_succ]
  refine reg_rd 5 (v := ?_) rfl (by kernel_rfl) (by kernel_rfl) (by kernel_rfl) (fun _ _ _ h => h) (by rfl) (by assumption) ?_ ?_
  rotate_left
  · (intro w' hSw; obtain ⟨hq1, hq2⟩ := acell hSw; go_simp); with_reducible rfl
  try simp only [Act.put, List.setIfInBounds_toArray, List.set_cons_zero, List.set_cons_succ]
  refine reg_rd 6 (v := ?_) rfl (by kernel_rfl) (by kernel_rfl) (by kernel_rfl) (fun _ _ _ h => h) (by rfl) (by assumption) ?_ ?_
  rotate_left
  · intro w hSw; go_simp; with_reducible rfl
  try simp only [Act.put, List.setIfInBounds_toArray, List.set_cons_zero, List.set_cons_succ]
  refine reg_rd 7 (v := ?_) rfl (by kernel_rfl) (by kernel_rfl) (by kernel_rfl) (fun _ _ _ h => h) (by rfl) (by assumption) ?_ ?_
  rotate_left
  · intro w hSw; go_simp; with_reducible rfl
  try simp only [Act.put, List.setIfInBounds_toArray, List.set_cons_zero, List.set_cons_succ]
  refine wpAnyH_ready (rs := [8]) (by kernel_rfl) (by simp) ?_
  refine reg_do1 rfl (by rfl) (fun K hK => ?_)
  go_simp
  refine hK.out _ _ ?_ (fun hNext => ?_)
  · (repeat (first | assumption | exact agree_of_below (by assumption) | refine Agree.setCell ?_ (by simp) _ | refine Agree.alloc ?_ _))
  clear hK K hHeld
  refine wpAnyZ_base hNext fun hHeld => ?_
  clear hNext
  try simp only [Act.put, List.setIfInBounds_toArray, List.set_cons_zero, List.set_cons_succ]
  refine wpAnyH_ready (rs := [9]) (by kernel_rfl) (by simp) ?_
  refine reg_do1 rfl (by rfl) (fun K hK => ?_)
  go_simp
  (go_at_call 56; refine (concat_any _ [d.s, d.l.take (0)] 2 2 rfl (by omega) HT2.out _ (rows2 (q := w4.heap.size) (w := w4) _ (S1.out.below (below_of_agree HB.out (Nat.le_succ _) hT)) rfl G.out.g1 G.out.m1 ((S2.out.below (below_of_agree HB.out (Nat.le_succ _) hT)).take _) HK.out HK2.out G.out.m2 (below_of_agree HB.out (Nat.le_succ _) hT).size rfl)).mono ?_; rintro e wX ⟨v, rfl, hown, hbX⟩; have hU2 := below_then (below_alloc hU _) hbX; obtain ⟨hx1, hx2⟩ := bcell hU2; obtain ⟨AX, cX, rfl⟩ := hown.form2 HM.out; have HO := hid hown; clear hown)
  go_wp2_with fail
  refine hK.out _ _ ?_ (fun hNext => ?_)
  · (repeat (first | assumption | exact agree_of_below (by assumption) | refine Agree.setCell ?_ (by simp) _ | refine Agree.alloc ?_ _))
  clear hK K hHeld
  refine wpAnyZ_base hNext fun hHeld => ?_
  clear hNext
  try simp only [Act.put, List.setIfInBounds_toArray, List.set_cons_zero, List.set_cons_succ]
  refine reg_rd 10 (v := ?_) rfl (by kernel_rfl) (by kernel_rfl) (by kernel_rfl) (fun _ _ _ h => h) (by rfl) (by assumption) ?_ ?_
  rotate_left
  · intro w hSw; go_simp; with_reducible rfl
  try simp only [Act.put, List.setIfInBounds_toArray, List.set_cons_zero, List.set_cons_succ]
  refine wpAnyH_ready (rs := [11]) (by kernel_rfl) (by simp) ?_
  refine reg_do1 rfl (by rfl) (fun K hK => ?_)
  go_simp
  refine hK.out _ _ ?_ (fun hNext => ?_)
  · (repeat (first | assumption | exact agree_of_below (by assumption) | refine Agree.setCell ?_ (by simp) _ | refine Agree.alloc ?_ _))
  clear hK K hHeld
  refine wpAnyZ_base hNext fun hHeld => ?_
  clear hNext
  try simp only [Act.put, List.setIfInBounds_toArray, List.set_cons_zero, List.set_cons_succ]
  refine wpAnyH_done (by kernel_rfl) ?_ _
  go_wp2_with fail
  have hX : wX.there (w.heap.size + 1) 0 5 := there_new hU2 (by simp)
  have hbw := below_then HB.out hU2
  refine bodyPost_ret (w := wX.setCells (w.heap.size + 1) 0 [.int .i64 d.cap, .slice AX m cX, .slice none 0 0, .bool false, .int .i64 (-1)]) (results_cell rfl (b := w.heap.size + 1) (o := 0) [.int .i64 d.cap, .slice AX m cX, .slice none 0 0, .bool false, .int .i64 (-1)] rfl (World.rangeAt_setCells_same wX _ 0 _ hX) Try.underlying24 rfl (by kernel_rfl)) rfl ⟨.slice AX m cX, rfl, ?_, setCells_below hbw (by omega) _ _⟩
  have hO := HO.out
  rw [show [d.s, d.l.take (0)].flatten = d.s ++ d.l.take (0) by simp] at hO
  exact (hO.agree_but (X := w.heap.size + 1) (setCells_agree (by simp) _ _ _) (by have := hU.size; simp at this ⊢; omega) (Nat.zero_le _) (Nat.zero_le _)).low (by have := hU.size; simp at this ⊢; omega)
set_option maxHeartbeats 1000000 in
theorem crash_big (d : Dk) {Z : Nat → Prop} (n : Int) (hn : (d.l.length : Int) < n) (hs : d.sm) (w : World) (hd : d.ok Z w) : Calls Try.prog 32 #[d.v, .int .i64 n] w
    fun e w' => ∃ v, e = .returned (.agg #[.int .i64 d.cap, v, .slice none 0 0, .bool false, .int .i64 (-1)]) ∧ Own byteR 1 5 w.heap.size 0 w' v (d.s ++ d.l.take (d.l.length)) ∧ Below w.heap.size w w' := by
  have S1 := hid hd.s1.bsl; have S2 := hid hd.s2.bsl; have G := hid hd; clear hd
  obtain ⟨z1, z2⟩ := hs
  have hk1 : (d.l.take (d.l.length)).length = d.l.length := by rw [List.length_take]; omega
  have hk2 : d.l.length ≤ d.c2 := by have := G.out.g2; omega
  have ht2 : [d.s, d.l.take (d.l.length)].flatten.length ≤ 3000000 := by simp; omega
  have hz1' : d.s.length ≤ 2000000 := by omega
  have hz2' : d.l.length ≤ 2000000 := by omega
  have hb0 : Below w.heap.size w ((w.alloc (.cells #[.int .i64 d.cap, .slice d.A1 d.s.length d.c1, .slice d.A2 d.l.length d.c2, .bool d.down, .int .i64 d.fuse] 24)).alloc (.cells #[.int .i64 0, .slice none 0 0, .slice none 0 0, .bool false, .int .i64 0] 24)) := below_alloc (below_new _ _) _
  have HK := hid hk1; have HK2 := hid hk2; have HT2 := hid ht2; have HZ1 := hid hz1'; have HZ2 := hid hz2'; have HB := hid hb0; clear hk1 ht2 hz1' hz2' hb0
  have hcl : ((d.l.length : Nat) : Int) ≤ d.c2 := by omega
  obtain ⟨m, hm⟩ : ∃ m, [d.s, d.l.take (d.l.length)].flatten.length = m := ⟨_, rfl⟩
  have HM := hid hm; clear hm
  unfold Dk.v
  go_enter Try.func32, Try.ntmps32
  go_wp2_with fail
  refine reg_startZ (fun k => k ≠ w.heap.size + 1) (by kernel_rfl) fun w4 hHeld hU => ?_
  have hT := hHeld
  refine reg_rd 0 (v := ?_) rfl (by kernel_rfl) (by kernel_rfl) (by kernel_rfl) (fun _ _ _ h => h) (by rfl) (by assumption) ?_ ?_
  rotate_left
  · intro w hSw; go_simp; with_reducible rfl
  try simp only [Act.put, List.setIfInBounds_toArray, List.set_cons_zero, List.set_cons_succ]
  refine reg_rd 1 (v := ?_) rfl (by kernel_rfl) (by kernel_rfl) (by kernel_rfl) (fun _ _ _ h => h) (by rfl) (by assumption) ?_ ?_
  rotate_left
  · (intro w' hSw; obtain ⟨hq1, hq2⟩ := acell hSw; go_simp); with_reducible rfl
  try simp only [Act.put, List.setIfInBounds_toArray, List.set_cons_zero, List.set_cons_succ]
  refine reg_rd 2 (v := ?_) rfl (by kernel_rfl) (by kernel_rfl) (by kernel_rfl) (fun _ _ _ h => h) (by rfl) (by assumption) ?_ ?_
  rotate_left
  · intro w hSw; go_simp; with_reducible rfl
  try simp only [Act.put, List.setIfInBounds_toArray, List.set_cons_zero, List.set_cons_succ]
  refine reg_rd 3 (v := ?_) rfl (by kernel_rfl) (by kernel_rfl) (by kernel_rfl) (fun _ _ _ h => h) (by rfl) (by assumption) ?_ ?_
  rotate_left
  · (intro w' hSw; obtain ⟨hq1, hq2⟩ := acell hSw; go_simp); with_reducible rfl
  try simp only [Act.put, List.setIfInBounds_toArray, List.set_cons_zero, List.set_cons_succ]
  refine reg_rd 4 (v := ?_) rfl (by kernel_rfl) (by kernel_rfl) (by kernel_rfl) (fun _ _ _ h => h) (by rfl) (by assumption) ?_ ?_
  rotate_left
  · intro w hSw; go_simp; with_reducible rfl
  try simp only [Act.put, List.setIfInBounds_toArray, List.set_cons_zero, List.set_cons_succ]
  refine reg_rd 5 (v := ?_) rfl (by kernel_rfl) (by kernel_rfl) (by kernel_rfl) (fun _ _ _ h => h) (by rfl) (by assumption) ?_ ?_
  rotate_left
  · (intro w' hSw; obtain ⟨hq1, hq2⟩ := acell hSw; go_simp); with_reducible rfl
  try simp only [Act.put, List.setIfInBounds_toArray, List.set_cons_zero, List.set_cons_succ]
  refine reg_rd 6 (v := ?_) rfl (by kernel_rfl) (by kernel_rfl) (by kernel_rfl) (fun _ _ _ h => h) (by rfl) (by assumption) ?_ ?_
  rotate_left
  · intro w hSw; go_simp; with_reducible rfl
  try simp only [Act.put, List.setIfInBounds_toArray, List.set_cons_zero, List.set_cons_succ]
  refine reg_rd 7 (v := ?_) rfl (by kernel_rfl) (by kernel_rfl) (by kernel_rfl) (fun _ _ _ h => h) (by rfl) (by assumption) ?_ ?_
  rotate_left
  · intro w hSw; go_simp; with_reducible rfl
  try simp only [Act.put, List.setIfInBounds_toArray, List.set_cons_zero, List.set_cons_succ]
  refine wpAnyH_ready (rs := [8]) (by kernel_rfl) (by simp) ?_
  refine reg_do1 rfl (by rfl) (fun K hK => ?_)
  go_simp
  refine hK.out _ _ ?_ (fun hNext => ?_)
  · (repeat (first | assumption | exact agree_of_below (by assumption) | refine Agree.setCell ?_ (by simp) _ | refine Agree.alloc ?_ _))
  clear hK K hHeld
  refine wpAnyZ_base hNext fun hHeld => ?_
  clear hNext
  try simp only [Act.put, List.setIfInBounds_toArray, List.set_cons_zero, List.set_cons_succ]
  refine wpAnyH_ready (rs := [9]) (by kernel_rfl) (by simp) ?_
  refine reg_do1 rfl (by rfl) (fun K hK => ?_)
  go_simp
  (go_at_call 56; refine (concat_any _ [d.s, d.l.take (d.l.length)] 2 2 rfl (by omega) HT2.out _ (rows2 (q := w4.heap.size) (w := w4) _ (S1.out.below (below_of_agree HB.out (Nat.le_succ _) hT)) rfl G.out.g1 G.out.m1 ((S2.out.below (below_of_agree HB.out (Nat.le_succ _) hT)).take _) HK.out HK2.out G.out.m2 (below_of_agree HB.out (Nat.le_succ _) hT).size rfl)).mono ?_; rintro e wX ⟨v, rfl, hown, hbX⟩; have hU2 := below_then (below_alloc hU _) hbX; obtain ⟨hx1, hx2⟩ := bcell hU2; obtain ⟨AX, cX, rfl⟩ := hown.form2 HM.out; have HO := hid hown; clear hown)
  go_wp2_with fail
  refine hK.out _ _ ?_ (fun hNext => ?_)
  · (repeat (first | assumption | exact agree_of_below (by assumption) | refine Agree.setCell ?_ (by simp) _ | refine Agree.alloc ?_ _))
  clear hK K hHeld
  refine wpAnyZ_base hNext fun hHeld => ?_
  clear hNext
  try simp only [Act.put, List.setIfInBounds_toArray, List.set_cons_zero, List.set_cons_succ]
  refine reg_rd 10 (v := ?_) rfl (by kernel_rfl) (by kernel_rfl) (by kernel_rfl) (fun _ _ _ h => h) (by rfl) (by assumption) ?_ ?_
  rotate_left
  · intro w hSw; go_simp; with_reducible rfl
  try simp only [Act.put, List.setIfInBounds_toArray, List.set_cons_zero, List.set_cons_succ]
  refine wpAnyH_ready (rs := [11]) (by kernel_rfl) (by simp) ?_
  refine reg_do1 rfl (by rfl) (fun K hK => ?_)
  go_simp
  refine hK.out _ _ ?_ (fun hNext => ?_)
  · (repeat (first | assumption | exact agree_of_below (by assumption) | refine Agree.setCell ?_ (by simp) _ | refine Agree.alloc ?_ _))
  clear hK K hHeld
  refine wpAnyZ_base hNext fun hHeld => ?_
  clear hNext
  try simp only [Act.put, List.setIfInBounds_toArray, List.set_cons_zero, List.set_cons_succ]
  refine wpAnyH_done (by kernel_rfl) ?_ _
  go_wp2_with fail
  have hX : wX.there (w.heap.size + 1) 0 5 := there_new hU2 (by simp)
  have hbw := below_then HB.out hU2
  refine bodyPost_ret (w := wX.setCells (w.heap.size + 1) 0 [.int .i64 d.cap, .slice AX m cX, .slice none 0 0, .bool false, .int .i64 (-1)]) (results_cell rfl (b := w.heap.size + 1) (o := 0) [.int .i64 d.cap, .slice AX m cX, .slice none 0 0, .bool false, .int .i64 (-1)] rfl (World.rangeAt_setCells_same wX _ 0 _ hX) Try.underlying24 rfl (by kernel_rfl)) rfl ⟨.slice AX m cX, rfl, ?_, setCells_below hbw (by omega) _ _⟩
  have hO := HO.out
  rw [show [d.s, d.l.take (d.l.length)].flatten = d.s ++ d.l.take (d.l.length) by simp] at hO
  exact (hO.agree_but (X := w.heap.size + 1) (setCells_agree (by simp) _ _ _) (by have := hU.size; simp at this ⊢; omega) (Nat.zero_le _) (Nat.zero_le _)).low (by have := hU.size; simp at this ⊢; omega)
theorem crash_any (d : Dk) {Z : Nat → Prop} (n : Int) (hs : d.sm) (w : World) (hZ : ∀ k, w.heap.size ≤ k → Z k) (hd : d.ok Z w) : Calls Try.prog 32 #[d.v, .int .i64 n] w (RetD1 Z w (crashS d.dd n)) := by
  have fin : ∀ k : Nat, keepN n d.l.length = k → ∀ e w', (∃ v, e = .returned (.agg #[.int .i64 d.cap, v, .slice none 0 0, .bool false, .int .i64 (-1)]) ∧ Own byteR 1 5 w.heap.size 0 w' v (d.s ++ d.l.take k) ∧ Below w.heap.size w w') → RetD1 Z w (crashS d.dd n) e w' := by
    rintro k hk e w' ⟨v, rfl, hown, hb⟩
    obtain ⟨A, c, rfl, h1, h2, h3⟩ := hown.slz (Z := Z) hZ
    exact ⟨⟨d.cap, A, _, c, none, [], 0, false, -1⟩, rfl, by simp [crashS, Dk.dd, hk], ⟨h3, SlZ.nil, h1, h2, Nat.le_refl _, Nat.zero_le _, hd.i1, (show -9223372036854775808 ≤ (-1 : Int) ∧ (-1 : Int) ≤ 9223372036854775807 by decide)⟩, hb⟩
  by_cases h : n < 0
  · exact (crash_neg d n h hs w hd).mono (fin 0 (by unfold keepN; omega))
  · by_cases h2 : (d.l.length : Int) < n
    · exact (crash_big d n h2 hs w hd).mono (fin d.l.length (by unfold keepN; omega))
    · obtain ⟨k, rfl⟩ := Int.eq_ofNat_of_zero_le (Int.not_lt.1 h)
      exact (crash_k d k (by omega) hs w hd).mono (fin k (by unfold keepN; omega))
set_option maxHeartbeats 1000000 in
theorem rcrash_k (d : Dk) {Z : Nat → Prop} (k : Nat) (hk : k ≤ d.l.length) (hs : d.sm) (w : World) (hd : d.ok Z w) : Calls Try.prog 33 #[d.v, .int .i64 (k : Int)] w
    fun e w' => ∃ v, e = .returned (.agg #[.int .i64 d.cap, v, .slice none 0 0, .bool false, .int .i64 (-1)]) ∧ Own byteR 1 5 w.heap.size 0 w' v (d.s ++ d.l.take (k)) ∧ Below w.heap.size w w' := by
  have S1 := hid hd.s1.bsl; have S2 := hid hd.s2.bsl; have G := hid hd; clear hd
  obtain ⟨z1, z2⟩ := hs
  have hk1 : (d.l.take (k)).length = k := by rw [List.length_take]; omega
  have hk2 : k ≤ d.c2 := by have := G.out.g2; omega
  have ht2 : [d.s, d.l.take (k)].flatten.length ≤ 3000000 := by simp; omega
  have hz1' : d.s.length ≤ 2000000 := by omega
  have hz2' : k ≤ 2000000 := by omega
  have hb0 : Below w.heap.size w ((w.alloc (.cells #[.int .i64 d.cap, .slice d.A1 d.s.length d.c1, .slice d.A2 d.l.length d.c2, .bool d.down, .int .i64 d.fuse] 30)).alloc (.cells #[.int .i64 0, .slice none 0 0, .slice none 0 0, .bool false, .int .i64 0] 30)) := below_alloc (below_new _ _) _
  have HK := hid hk1; have HK2 := hid hk2; have HT2 := hid ht2; have HZ1 := hid hz1'; have HZ2 := hid hz2'; have HB := hid hb0; clear hk1 ht2 hz1' hz2' hb0
  have hcl : ((k : Nat) : Int) ≤ d.c2 := by omega
  obtain ⟨m, hm⟩ : ∃ m, (d.s ++ d.l.take (k)).length = m := ⟨_, rfl⟩
  have HM := hid hm; clear hm
  unfold Dk.v
  go_enter Try.func33, Try.ntmps33
  go_wp2_with fail
  refine reg_startZ (fun k => k ≠ w.heap.size + 1) (by kernel_rfl) fun w4 hHeld hU => ?_
  have hT := hHeld
  refine reg_rd 0 (v := ?_) rfl (by kernel_rfl) (by kernel_rfl) (by kernel_rfl) (fun _ _ _ h => h) (by rfl) (by assumption) ?_ ?_
  rotate_left
  · intro w hSw; go_simp; with_reducible rfl
  try simp only [Act.put, List.setIfInBounds_toArray, List.set_cons_zero, List.set_cons_succ]
  refine reg_rd 1 (v := ?_) rfl (by kernel_rfl) (by kernel_rfl) (by kernel_rfl) (fun _ _ _ h => h) (by rfl) (by assumption) ?_ ?_
  rotate_left
  · (intro w' hSw; obtain ⟨hq1, hq2⟩ := acell hSw; go_simp); with_reducible rfl
  try simp only [Act.put, List.setIfInBounds_toArray, List.set_cons_zero, List.set_cons_succ]
  refine reg_rd 2 (v := ?_) rfl (by kernel_rfl) (by kernel_rfl) (by kernel_rfl) (fun _ _ _ h => h) (by rfl) (by assumption) ?_ ?_
  rotate_left
  · intro w hSw; go_simp; with_reducible rfl
  try simp only [Act.put, List.setIfInBounds_toArray, List.set_cons_zero, List.set_cons_succ]
  refine reg_rd 3 (v := ?_) rfl (by kernel_rfl) (by kernel_rfl) (by kernel_rfl) (fun _ _ _ h => h) (by rfl) (by assumption) ?_ ?_
  rotate_left
  · (intro w' hSw; obtain ⟨hq1, hq2⟩ := acell hSw; go_simp); with_reducible rfl
  try simp only [Act.put, List.setIfInBounds_toArray, List.set_cons_zero, List.set_cons_succ]
  refine reg_rd 4 (v := ?_) rfl (by kernel_rfl) (by kernel_rfl) (by kernel_rfl) (fun _ _ _ h => h) (by rfl) (by assumption) ?_ ?_
  rotate_left
  · intro w hSw; go_simp; with_reducible rfl
  try simp only [Act.put, List.setIfInBounds_toArray, List.set_cons_zero, List.set_cons_succ]
  refine reg_rd 5 (v := ?_) rfl (by kernel_rfl) (by kernel_rfl) (by kernel_rfl) (fun _ _ _ h => h) (by rfl) (by assumption) ?_ ?_
  rotate_left
  · (intro w' hSw; obtain ⟨hq1, hq2⟩ := acell hSw; go_simp); with_reducible rfl
  try simp only [Act.put, List.setIfInBounds_toArray, List.set_cons_zero, List.set_cons_succ]
  refine reg_rd 6 (v := ?_) rfl (by kernel_rfl) (by kernel_rfl) (by kernel_rfl) (fun _ _ _ h => h) (by rfl) (by assumption) ?_ ?_
  rotate_left
  · intro w hSw; go_simp; with_reducible rfl
  try simp only [Act.put, List.setIfInBounds_toArray, List.set_cons_zero, List.set_cons_succ]
  refine reg_rd 7 (v := ?_) rfl (by kernel_rfl) (by kernel_rfl) (by kernel_rfl) (fun _ _ _ h => h) (by rfl) (by assumption) ?_ ?_
  rotate_left
  · intro w hSw; go_simp; with_reducible rfl
  try simp only [Act.put, List.setIfInBounds_toArray, List.set_cons_zero, List.set_cons_succ]
  refine wpAnyH_ready (rs := [8]) (by kernel_rfl) (by simp) ?_
  refine reg_do1 rfl (by rfl) (fun K hK => ?_)
  go_simp
  (go_at_call 58; refine (joined_any d.A1 d.A2 d.s (d.l.take (k)) _ _ d.c1 d.c2 rfl HK.out HZ1.out HZ2.out _ (S1.out.call (below_of_agree HB.out (Nat.le_succ _) hT)) (((S2.out.call (below_of_agree HB.out (Nat.le_succ _) hT))).take _)).mono ?_; rintro e wX ⟨v, rfl, hown, hbX⟩; have hU2 := below_then (hU) hbX; obtain ⟨hx1, hx2⟩ := bcell hU2; obtain ⟨AX, cX, rfl⟩ := hown.form2 HM.out; have HO := hid hown; clear hown)
  go_wp2_with fail
  refine hK.out _ _ ?_ (fun hNext => ?_)
  · (repeat (first | assumption | exact agree_of_below (by assumption) | refine Agree.setCell ?_ (by simp) _ | refine Agree.alloc ?_ _))
  clear hK K hHeld
  refine wpAnyZ_base hNext fun hHeld => ?_
  clear hNext
  try simp only [Act.put, List.setIfInBounds_toArray, List.set_cons_zero, List.set_cons_succ]
  refine reg_rd 9 (v := ?_) rfl (by kernel_rfl) (by kernel_rfl) (by kernel_rfl) (fun _ _ _ h => h) (by rfl) (by assumption) ?_ ?_
  rotate_left
  · intro w hSw; go_simp; with_reducible rfl
  try simp only [Act.put, List.setIfInBounds_toArray, List.set_cons_zero, List.set_cons_succ]
  refine wpAnyH_ready (rs := [10]) (by kernel_rfl) (by simp) ?_
  refine reg_do1 rfl (by rfl) (fun K hK => ?_)
  go_simp
  refine hK.out _ _ ?_ (fun hNext => ?_)
  · (repeat (first | assumption | exact agree_of_below (by assumption) | refine Agree.setCell ?_ (by simp) _ | refine Agree.alloc ?_ _))
  clear hK K hHeld
  refine wpAnyZ_base hNext fun hHeld => ?_
  clear hNext
  try simp only [Act.put, List.setIfInBounds_toArray, List.set_cons_zero, List.set_cons_succ]
  refine wpAnyH_done (by kernel_rfl) ?_ _
  go_wp2_with fail
  have hX : wX.there (w.heap.size + 1) 0 5 := there_new hU2 (by simp)
  have hbw := below_then HB.out hU2
  refine bodyPost_ret (w := wX.setCells (w.heap.size + 1) 0 [.int .i64 d.cap, .slice AX m cX, .slice none 0 0, .bool false, .int .i64 (-1)]) (results_cell rfl (b := w.heap.size + 1) (o := 0) [.int .i64 d.cap, .slice AX m cX, .slice none 0 0, .bool false, .int .i64 (-1)] rfl (World.rangeAt_setCells_same wX _ 0 _ hX) Try.underlying30 rfl (by kernel_rfl)) rfl ⟨.slice AX m cX, rfl, ?_, setCells_below hbw (by omega) _ _⟩
  have hO := HO.out
  rw [show d.s ++ d.l.take (k) = d.s ++ d.l.take (k) from rfl] at hO
  exact (hO.agree_but (X := w.heap.size + 1) (setCells_agree (by simp) _ _ _) (by have := hU.size; simp at this ⊢; omega) (Nat.zero_le _) (Nat.zero_le _)).low (by have := hU.size; simp at this ⊢; omega)
set_option maxHeartbeats 1000000 in
theorem rcrash_neg (d : Dk) {Z : Nat → Prop} (n : Int) (hn : n < 0) (hs : d.sm) (w : World) (hd : d.ok Z w) : Calls Try.prog 33 #[d.v, .int .i64 n] w
    fun e w' => ∃ v, e = .returned (.agg #[.int .i64 d.cap, v, .slice none 0 0, .bool false, .int .i64 (-1)]) ∧ Own byteR 1 5 w.heap.size 0 w' v (d.s ++ d.l.take (0)) ∧ Below w.heap.size w w' := by
  have S1 := hid hd.s1.bsl; have S2 := hid hd.s2.bsl; have G := hid hd; clear hd
  obtain ⟨z1, z2⟩ := hs
  have hk1 : (d.l.take (0)).length = 0 := by rw [List.length_take]; omega
  have hk2 : 0 ≤ d.c2 := by have := G.out.g2; omega
  have ht2 : [d.s, d.l.take (0)].flatten.length ≤ 3000000 := by simp; omega
  have hz1' : d.s.length ≤ 2000000 := by omega
  have hz2' : 0 ≤ 2000000 := by omega
  have hb0 : Below w.heap.size w ((w.alloc (.cells #[.int .i64 d.cap, .slice d.A1 d.s.length d.c1, .slice d.A2 d.l.length d.c2, .bool d.down, .int .i64 d.fuse] 30)).alloc (.cells #[.int .i64 0, .slice none 0 0, .slice none 0 0, .bool false, .int .i64 0] 30)) := below_alloc (below_new _ _) _
  have HK := hid hk1; have HK2 := hid hk2; have HT2 := hid ht2; have HZ1 := hid hz1'; have HZ2 := hid hz2'; have HB := hid hb0; clear hk1 ht2 hz1' hz2' hb0
  have hcl : ((0 : Nat) : Int) ≤ d.c2 := by omega
  obtain ⟨m, hm⟩ : ∃ m, (d.s ++ d.l.take (0)).length = m := ⟨_, rfl⟩
  have HM := hid hm; clear hm
  unfold Dk.v
  go_enter Try.func33, Try.ntmps33
  go_wp2_with fail
  refine reg_startZ (fun k => k ≠ w.heap.size + 1) (by kernel_rfl) fun w4 hHeld hU => ?_
  have hT := hHeld
  refine reg_rd 0 (v := ?_) rfl (by kernel_rfl) (by kernel_rfl) (by kernel_rfl) (fun _ _ _ h => h) (by rfl) (by assumption) ?_ ?_
  rotate_left
  · intro w hSw; go_simp; with_reducible rfl
  try simp only [Act.put, List.setIfInBounds_toArray, List.set_cons_zero, List.set_cons_succ]
  refine reg_rd 1 (v := ?_) rfl (by kernel_rfl) (by kernel_rfl) (by kernel_rfl) (fun _ _ _ h => h) (by rfl) (by assumption) ?_ ?_
  rotate_left
  · (intro w' hSw; obtain ⟨hq1, hq2⟩ := acell hSw; go_simp); with_reducible rfl
  try simp only [Act.put, List.setIfInBounds_toArray, List.set_cons_zero, List.set_cons_succ]
  refine reg_rd 2 (v := ?_) rfl (by kernel_rfl) (by kernel_rfl) (by kernel_rfl) (fun _ _ _ h => h) (by rfl) (by assumption) ?_ ?_
  rotate_left
  · intro w hSw; go_simp; with_reducible rfl
  try simp only [Act.put, List.setIfInBounds_toArray, List.set_cons_zero, List.set_cons_succ]
  refine reg_rd 3 (v := ?_) rfl (by kernel_rfl) (by kernel_rfl) (by kernel_rfl) (fun _ _ _ h => h) (by rfl) (by assumption) ?_ ?_
  rotate_left
  · (intro w' hSw; obtain ⟨hq1, hq2⟩ := acell hSw; go_simp); with_reducible rfl
  try simp only [Act.put, List.setIfInBounds_toArray, List.set_cons_zero, List.set_cons_succ]
  refine reg_rd 4 (v := ?_) rfl (by kernel_rfl) (by kernel_rfl) (by kernel_rfl) (fun _ _ _ h => h) (by rfl) (by assumption) ?_ ?_
  rotate_left
  · intro w hSw; go_simp; with_reducible rfl
  try simp only [Act.put, List.setIfInBounds_toArray, List.set_cons_zero, List.set_cons_succ]
  refine reg_rd 5 (v := ?_) rfl (by kernel_rfl) (by kernel_rfl) (by kernel_rfl) (fun _ _ _ h => h) (by rfl) (by assumption) ?_ ?_
  rotate_left
  · (intro w' hSw; obtain ⟨hq1, hq2⟩ := acell hSw; go_simp); with_reducible rfl
  try simp only [Act.put, List.setIfInBounds_toArray, List.set_cons_zero, List.set_cons_succ]
  refine reg_rd 6 (v := ?_) rfl (by kernel_rfl) (by kernel_rfl) (by kernel_rfl) (fun _ _ _ h => h) (by rfl) (by assumption) ?_ ?_
  rotate_left
  · intro w hSw; go_simp; with_reducible rfl
  try simp only [Act.put, List.setIfInBounds_toArray, List.set_cons_zero, List.set_cons_succ]
  refine reg_rd 7 (v := ?_) rfl (by kernel_rfl) (by kernel_rfl) (by kernel_rfl) (fun _ _ _ h => h) (by rfl) (by assumption) ?_ ?_
  rotate_left
  · intro w hSw; go_simp; with_reducible rfl
  try simp only [Act.put, List.setIfInBounds_toArray, List.set_cons_zero, List.set_cons_succ]
  refine wpAnyH_ready (rs := [8]) (by kernel_rfl) (by simp) ?_
  refine reg_do1 rfl (by rfl) (fun K hK => ?_)
  go_simp
  (go_at_call 58; refine (joined_any d.A1 d.A2 d.s (d.l.take (0)) _ _ d.c1 d.c2 rfl HK.out HZ1.out HZ2.out _ (S1.out.call (below_of_agree HB.out (Nat.le_succ _) hT)) (((S2.out.call (below_of_agree HB.out (Nat.le_succ _) hT))).take _)).mono ?_; rintro e wX ⟨v, rfl, hown, hbX⟩; have hU2 := below_then (hU) hbX; obtain ⟨hx1, hx2⟩ := bcell hU2; obtain ⟨AX, cX, rfl⟩ := hown.form2 HM.out; have HO := hid hown; clear hown)
  go_wp2_with fail
  refine hK.out _ _ ?_ (fun hNext => ?_)
  · (repeat (first | assumption | exact agree_of_below (by assumption) | refine Agree.setCell ?_ (by simp) _ | refine Agree.alloc ?_ _))
  clear hK K hHeld
  refine wpAnyZ_base hNext fun hHeld => ?_
  clear hNext
  try simp only [Act.put, List.setIfInBounds_toArray, List.set_cons_zero, List.set_cons_succ]
  refine reg_rd 9 (v := ?_) rfl (by kernel_rfl) (by kernel_rfl) (by kernel_rfl) (fun _ _ _ h => h) (by rfl) (by assumption) ?_ ?_
  rotate_left
  · intro w hSw; go_simp; with_reducible rfl
  try simp only [Act.put, List.setIfInBounds_toArray, List.set_cons_zero, List.set_cons_succ]
  refine wpAnyH_ready (rs := [10]) (by kernel_rfl) (by simp) ?_
  refine reg_do1 rfl (by rfl) (fun K hK => ?_)
  go_simp
  refine hK.out _ _ ?_ (fun hNext => ?_)
  · (repeat (first | assumption | exact agree_of_below (by assumption) | refine Agree.setCell ?_ (by simp) _ | refine Agree.alloc ?_ _))
  clear hK K hHeld
  refine wpAnyZ_base hNext fun hHeld => ?_
  clear hNext
  try simp only [Act.put, List.setIfInBounds_toArray, List.set_cons_zero, List.set_cons_succ]
  refine wpAnyH_done (by kernel_rfl) ?_ _
  go_wp2_with fail
  have hX : wX.there (w.heap.size + 1) 0 5 := there_new hU2 (by simp)
  have hbw := below_then HB.out hU2
  refine bodyPost_ret (w := wX.setCells (w.heap.size + 1) 0 [.int .i64 d.cap, .slice AX m cX, .slice none 0 0, .bool false, .int .i64 (-1)]) (results_cell rfl (b := w.heap.size + 1) (o := 0) [.int .i64 d.cap, .slice AX m cX, .slice none 0 0, .bool false, .int .i64 (-1)] rfl (World.rangeAt_setCells_same wX _ 0 _ hX) Try.underlying30 rfl (by kernel_rfl)) rfl ⟨.slice AX m cX, rfl, ?_, setCells_below hbw (by omega) _ _⟩
  have hO := HO.out
  rw [show d.s ++ d.l.take (0) = d.s ++ d.l.take (0) from rfl] at hO
  exact (hO.agree_but (X := w.heap.size + 1) (setCells_agree (by simp) _ _ _) (by have := hU.size; simp at this ⊢; omega) (Nat.zero_le _) (Nat.zero_le _)).low (by have := hU.size; simp at this ⊢; omega)
set_option maxHeartbeats 1000000 in
theorem rcrash_big (d : Dk) {Z : Nat → Prop} (n : Int) (hn : (d.l.length : Int) < n) (hs : d.sm) (w : World) (hd : d.ok Z w) : Calls Try.prog 33 #[d.v, .int .i64 n] w
    fun e w' => ∃ v, e = .returned (.agg #[.int .i64 d.cap, v, .slice none 0 0, .bool false, .int .i64 (-1)]) ∧ Own byteR 1 5 w.heap.size 0 w' v (d.s ++ d.l.take (d.l.length)) ∧ Below w.heap.size w w' := by
  have S1 := hid hd.s1.bsl; have S2 := hid hd.s2.bsl; have G := hid hd; clear hd
  obtain ⟨z1, z2⟩ := hs
  have hk1 : (d.l.take (d.l.length)).length = d.l.length := by rw [List.length_take]; omega
  have hk2 : d.l.length ≤ d.c2 := by have := G.out.g2; omega
  have ht2 : [d.s, d.l.take (d.l.length)].flatten.length ≤ 3000000 := by simp; omega
  have hz1' : d.s.length ≤ 2000000 := by omega
  have hz2' : d.l.length ≤ 2000000 := by omega
  have hb0 : Below w.heap.size w ((w.alloc (.cells #[.int .i64 d.cap, .slice d.A1 d.s.length d.c1, .slice d.A2 d.l.length d.c2, .bool d.down, .int .i64 d.fuse] 30)).alloc (.cells #[.int .i64 0, .slice none 0 0, .slice none 0 0, .bool false, .int .i64 0] 30)) := below_alloc (below_new _ _) _
  have HK := hid hk1; have HK2 := hid hk2; have HT2 := hid ht2; have HZ1 := hid hz1'; have HZ2 := hid hz2'; have HB := hid hb0; clear hk1 ht2 hz1' hz2' hb0
  have hcl : ((d.l.length : Nat) : Int) ≤ d.c2 := by omega
  obtain ⟨m, hm⟩ : ∃ m, (d.s ++ d.l.take (d.l.length)).length = m := ⟨_, rfl⟩
  have HM := hid hm; clear hm
  unfold Dk.v
  go_enter Try.func33, Try.ntmps33
  go_wp2_with fail
  refine reg_startZ (fun k => k ≠ w.heap.size + 1) (by kernel_rfl) fun w4 hHeld hU => ?_
  have hT := hHeld
  refine reg_rd 0 (v := ?_) rfl (by kernel_rfl) (by kernel_rfl) (by kernel_rfl) (fun _ _ _ h => h) (by rfl) (by assumption) ?_ ?_
  rotate_left
  · intro w hSw; go_simp; with_reducible rfl
  try simp only [Act.put, List.setIfInBounds_toArray, List.set_cons_zero, List.set_cons_succ]
  refine reg_rd 1 (v := ?_) rfl (by kernel_rfl) (by kernel_rfl) (by kernel_rfl) (fun _ _ _ h => h) (by rfl) (by assumption) ?_ ?_
  rotate_left
  · (intro w' hSw; obtain ⟨hq1, hq2⟩ := acell hSw; go_simp); with_reducible rfl
  try simp only [Act.put, List.setIfInBounds_toArray, List.set_cons_zero, List.set_cons_succ]
  refine reg_rd 2 (v := ?_) rfl (by kernel_rfl) (by kernel_rfl) (by kernel_rfl) (fun _ _ _ h => h) (by rfl) (by assumption) ?_ ?_
  rotate_left
  · intro w hSw; go_simp; with_reducible rfl
  try simp only [Act.put, List.setIfInBounds_toArray, List.set_cons_zero, List.set_cons_succ]
  refine reg_rd 3 (v := ?_) rfl (by kernel_rfl) (by kernel_rfl) (by kernel_rfl) (fun _ _ _ h => h) (by rfl) (by assumption) ?_ ?_
  rotate_left
  · (intro w' hSw; obtain ⟨hq1, hq2⟩ := acell hSw; go_simp); with_reducible rfl
  try simp only [Act.put, List.setIfInBounds_toArray, List.set_cons_zero, List.set_cons_succ]
  refine reg_rd 4 (v := ?_) rfl (by kernel_rfl) (by kernel_rfl) (by kernel_rfl) (fun _ _ _ h => h) (by rfl) (by assumption) ?_ ?_
  rotate_left
  · intro w hSw; go_simp; with_reducible rfl
  try simp only [Act.put, List.setIfInBounds_toArray, List.set_cons_zero, List.set_cons_succ]
  refine reg_rd 5 (v := ?_) rfl (by kernel_rfl) (by kernel_rfl) (by kernel_rfl) (fun _ _ _ h => h) (by rfl) (by assumption) ?_ ?_
  rotate_left
  · (intro w' hSw; obtain ⟨hq1, hq2⟩ := acell hSw; go_simp); with_reducible rfl
  try simp only [Act.put, List.setIfInBounds_toArray, List.set_cons_zero, List.set_cons_succ]
  refine reg_rd 6 (v := ?_) rfl (by kernel_rfl) (by kernel_rfl) (by kernel_rfl) (fun _ _ _ h => h) (by rfl) (by assumption) ?_ ?_
  rotate_left
  · intro w hSw; go_simp; with_reducible rfl
  try simp only [Act.put, List.setIfInBounds_toArray, List.set_cons_zero, List.set_cons_succ]
  refine reg_rd 7 (v := ?_) rfl (by kernel_rfl) (by kernel_rfl) (by kernel_rfl) (fun _ _ _ h => h) (by rfl) (by assumption) ?_ ?_
  rotate_left
  · intro w hSw; go_simp; with_reducible rfl
  try simp only [Act.put, List.setIfInBounds_toArray, List.set_cons_zero, List.set_cons_succ]
  refine wpAnyH_ready (rs := [8]) (by kernel_rfl) (by simp) ?_
  refine reg_do1 rfl (by rfl) (fun K hK => ?_)
  go_simp
  (go_at_call 58; refine (joined_any d.A1 d.A2 d.s (d.l.take (d.l.length)) _ _ d.c1 d.c2 rfl HK.out HZ1.out HZ2.out _ (S1.out.call (below_of_agree HB.out (Nat.le_succ _) hT)) (((S2.out.call (below_of_agree HB.out (Nat.le_succ _) hT))).take _)).mono ?_; rintro e wX ⟨v, rfl, hown, hbX⟩; have hU2 := below_then (hU) hbX; obtain ⟨hx1, hx2⟩ := bcell hU2; obtain ⟨AX, cX, rfl⟩ := hown.form2 HM.out; have HO := hid hown; clear hown)
  go_wp2_with fail
  refine hK.out _ _ ?_ (fun hNext => ?_)
  · (repeat (first | assumption | exact agree_of_below (by assumption) | refine Agree.setCell ?_ (by simp) _ | refine Agree.alloc ?_ _))
  clear hK K hHeld
  refine wpAnyZ_base hNext fun hHeld => ?_
  clear hNext
  try simp only [Act.put, List.setIfInBounds_toArray, List.set_cons_zero, List.set_cons_succ]
  refine reg_rd 9 (v := ?_) rfl (by kernel_rfl) (by kernel_rfl) (by kernel_rfl) (fun _ _ _ h => h) (by rfl) (by assumption) ?_ ?_
  rotate_left
  · intro w hSw; go_simp; with_reducible rfl
  try simp only [Act.put, List.setIfInBounds_toArray, List.set_cons_zero, List.set_cons_succ]
  refine wpAnyH_ready (rs := [10]) (by kernel_rfl) (by simp) ?_
  refine reg_do1 rfl (by rfl) (fun K hK => ?_)
  go_simp
  refine hK.out _ _ ?_ (fun hNext => ?_)
  · (repeat (first | assumption | exact agree_of_below (by assumption) | refine Agree.setCell ?_ (by simp) _ | refine Agree.alloc ?_ _))
  clear hK K hHeld
  refine wpAnyZ_base hNext fun hHeld => ?_
  clear hNext
  try simp only [Act.put, List.setIfInBounds_toArray, List.set_cons_zero, List.set_cons_succ]
  refine wpAnyH_done (by kernel_rfl) ?_ _
  go_wp2_with fail
  have hX : wX.there (w.heap.size + 1) 0 5 := there_new hU2 (by simp)
  have hbw := below_then HB.out hU2
  refine bodyPost_ret (w := wX.setCells (w.heap.size + 1) 0 [.int .i64 d.cap, .slice AX m cX, .slice none 0 0, .bool false, .int .i64 (-1)]) (results_cell rfl (b := w.heap.size + 1) (o := 0) [.int .i64 d.cap, .slice AX m cX, .slice none 0 0, .bool false, .int .i64 (-1)] rfl (World.rangeAt_setCells_same wX _ 0 _ hX) Try.underlying30 rfl (by kernel_rfl)) rfl ⟨.slice AX m cX, rfl, ?_, setCells_below hbw (by omega) _ _⟩
  have hO := HO.out
  rw [show d.s ++ d.l.take (d.l.length) = d.s ++ d.l.take (d.l.length) from rfl] at hO
  exact (hO.agree_but (X := w.heap.size + 1) (setCells_agree (by simp) _ _ _) (by have := hU.size; simp at this ⊢; omega) (Nat.zero_le _) (Nat.zero_le _)).low (by have := hU.size; simp at this ⊢; omega)
theorem rcrash_any (d : Dk) {Z : Nat → Prop} (n : Int) (hs : d.sm) (w : World) (hZ : ∀ k, w.heap.size ≤ k → Z k) (hd : d.ok Z w) : Calls Try.prog 33 #[d.v, .int .i64 n] w (RetD1 Z w (crashS d.dd n)) := by
  have fin : ∀ k : Nat, keepN n d.l.length = k → ∀ e w', (∃ v, e = .returned (.agg #[.int .i64 d.cap, v, .slice none 0 0, .bool false, .int .i64 (-1)]) ∧ Own byteR 1 5 w.heap.size 0 w' v (d.s ++ d.l.take k) ∧ Below w.heap.size w w') → RetD1 Z w (crashS d.dd n) e w' := by
    rintro k hk e w' ⟨v, rfl, hown, hb⟩
    obtain ⟨A, c, rfl, h1, h2, h3⟩ := hown.slz (Z := Z) hZ
    exact ⟨⟨d.cap, A, _, c, none, [], 0, false, -1⟩, rfl, by simp [crashS, Dk.dd, hk], ⟨h3, SlZ.nil, h1, h2, Nat.le_refl _, Nat.zero_le _, hd.i1, (show -9223372036854775808 ≤ (-1 : Int) ∧ (-1 : Int) ≤ 9223372036854775807 by decide)⟩, hb⟩
  by_cases h : n < 0
  · exact (rcrash_neg d n h hs w hd).mono (fin 0 (by unfold keepN; omega))
  · by_cases h2 : (d.l.length : Int) < n
    · exact (rcrash_big d n h2 hs w hd).mono (fin d.l.length (by unfold keepN; omega))
    · obtain ⟨k, rfl⟩ := Int.eq_ofNat_of_zero_le (Int.not_lt.1 h)
      exact (rcrash_k d k (by omega) hs w hd).mono (fin k (by unfold keepN; omega))
end Go.Proofs.Ythboeilpeggpoaa
