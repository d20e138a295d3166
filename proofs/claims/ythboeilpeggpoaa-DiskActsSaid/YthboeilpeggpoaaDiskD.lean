/-
  The document's disks: the beginning of an act; Write, Sync, Replace.
-/
import Derived.Test.YthboeilpeggpoaaDiskC
import Derived.Test.YthboeilpeggpoaaRegZ
import Derived.Test.YthboeilpeggpoaaRegL
namespace Go.Proofs.Ythboeilpeggpoaa
open Go.RowKit
theorem act_dd (d : Dk) (down : Bool) (fuse z : Int) (h : actS d.dd = ((d.at_ down fuse).dd, z)) : (d.at_ down fuse).dd = (actS d.dd).1 ∧ z = (actS d.dd).2 := by rw [h]; exact ⟨rfl, rfl⟩
theorem ract_down (d : Dk) {Z : Nat → Prop} (hdn : d.down = true) (w : World) (hd : d.ok Z w) : Calls Try.prog 57 #[d.v] w (RetD Z w (actS d.dd)) := by
  have G := hid hd; clear hd
  have hr : actS d.dd = ((d.at_ true d.fuse).dd, 11) := by simp [actS, Dk.dd, Dk.at_, hdn]
  rw [hr]
  clear hr
  rw [show d.v = .agg d.cells.toArray from rfl]
  unfold Dk.cells
  go_enter Try.func57, Try.ntmps57
  go_wp2
  exact bodyPost_ret (results_cell2 rfl (b := w.heap.size + 1) (o := 0) (d.at_ true d.fuse).cells rfl (range_new (by simp)) Try.underlying30 rfl (by kernel_rfl)) rfl ⟨d.at_ true d.fuse, rfl, rfl, (G.out.at_ true G.out.i2).below (below_alloc (below_new _ _) _), below_alloc (below_new _ _) _⟩
theorem ract_zero (d : Dk) {Z : Nat → Prop} (hdn : d.down = false) (hf : d.fuse = 0) (w : World) (hd : d.ok Z w) : Calls Try.prog 57 #[d.v] w (RetD Z w (actS d.dd)) := by
  have G := hid hd; clear hd
  have hr : actS d.dd = ((d.at_ true 0).dd, 11) := by simp [actS, Dk.dd, Dk.at_, hdn, hf]
  rw [hr]
  clear hr
  rw [show d.v = .agg d.cells.toArray from rfl]
  unfold Dk.cells
  go_enter Try.func57, Try.ntmps57
  go_wp2
  exact bodyPost_ret (results_cell2 rfl (b := w.heap.size + 1) (o := 0) (d.at_ true 0).cells rfl (range_new (by simp)) Try.underlying30 rfl (by kernel_rfl)) rfl ⟨d.at_ true 0, rfl, rfl, (G.out.at_ true ⟨by decide, by decide⟩).below (below_alloc (below_new _ _) _), below_alloc (below_new _ _) _⟩
theorem ract_pos (d : Dk) {Z : Nat → Prop} (hdn : d.down = false) (hf : 0 < d.fuse) (w : World) (hd : d.ok Z w) : Calls Try.prog 57 #[d.v] w (RetD Z w (actS d.dd)) := by
  have G := hid hd; clear hd
  have hr : actS d.dd = ((d.at_ false (d.fuse - 1)).dd, 0) := by simp [actS, Dk.dd, Dk.at_, hdn, hf]; omega
  rw [hr]
  clear hr
  have hf0 : ¬ d.fuse = 0 := by omega
  have hf1 := G.out.i2.2
  rw [show d.v = .agg d.cells.toArray from rfl]
  unfold Dk.cells
  go_enter Try.func57, Try.ntmps57
  go_wp2
  exact bodyPost_ret (results_cell2 rfl (b := w.heap.size + 1) (o := 0) (d.at_ false (d.fuse - 1)).cells rfl (range_new (by simp)) Try.underlying30 rfl (by kernel_rfl)) rfl ⟨d.at_ false (d.fuse - 1), rfl, rfl, (G.out.at_ false (by have := G.out.i2; omega)).below (below_alloc (below_new _ _) _), below_alloc (below_new _ _) _⟩
theorem ract_neg (d : Dk) {Z : Nat → Prop} (hdn : d.down = false) (hf : d.fuse < 0) (w : World) (hd : d.ok Z w) : Calls Try.prog 57 #[d.v] w (RetD Z w (actS d.dd)) := by
  have G := hid hd; clear hd
  have hr : actS d.dd = ((d.at_ false d.fuse).dd, 0) := by simp only [actS, Dk.dd, Dk.at_, hdn]; rw [if_neg (by simp), if_neg (by omega), if_neg (by omega)]
  rw [hr]
  clear hr
  have hf0 : ¬ d.fuse = 0 := by omega
  have hf1 : ¬ 0 < d.fuse := by omega
  rw [show d.v = .agg d.cells.toArray from rfl]
  unfold Dk.cells
  go_enter Try.func57, Try.ntmps57
  go_wp2
  exact bodyPost_ret (results_cell2 rfl (b := w.heap.size + 1) (o := 0) (d.at_ false d.fuse).cells rfl (range_new (by simp)) Try.underlying30 rfl (by kernel_rfl)) rfl ⟨d.at_ false d.fuse, rfl, rfl, (G.out.at_ false G.out.i2).below (below_alloc (below_new _ _) _), below_alloc (below_new _ _) _⟩
theorem ract_any (d : Dk) {Z : Nat → Prop} (w : World) (hd : d.ok Z w) : Calls Try.prog 57 #[d.v] w (RetD Z w (actS d.dd)) := by
  cases hdn : d.down with
  | true => exact ract_down d hdn w hd
  | false =>
    by_cases h0 : d.fuse = 0
    · exact ract_zero d hdn h0 w hd
    · by_cases h1 : 0 < d.fuse
      · exact ract_pos d hdn h1 w hd
      · exact ract_neg d hdn (by omega) w hd
theorem actS_z (x : DD) : (actS x).2 = 0 ∨ (actS x).2 = 11 := by
  unfold actS
  by_cases h1 : x.down = true <;> by_cases h2 : x.fuse = 0 <;> by_cases h3 : 0 < x.fuse <;> simp [h1, h2, h3]
theorem actS_ok {x : DD} (h : (actS x).2 = 0) : (actS x).1.down = false := by
  unfold actS at h ⊢
  split at h
  · simp at h
  · rename_i hd
    split at h
    · simp at h
    · rename_i hf
      rw [if_neg hd, if_neg hf]
      split
      · rfl
      · simpa using hd
theorem actS_same (x : DD) : (actS x).1.cap = x.cap ∧ (actS x).1.safe = x.safe ∧ (actS x).1.loose = x.loose := by
  unfold actS
  by_cases h1 : x.down = true <;> by_cases h2 : x.fuse = 0 <;> by_cases h3 : 0 < x.fuse <;> simp [h1, h2, h3]
/-- What a disk that came of an act is like. -/
theorem act_dk {d d1 : Dk} (h : d1.dd = (actS d.dd).1) : d1.cap = d.cap ∧ d1.s = d.s ∧ d1.l = d.l := by
  obtain ⟨h1, h2, h3⟩ := actS_same d.dd
  rw [← h] at h1 h2 h3
  exact ⟨h1, h2, h3⟩
theorem act_dn {d d1 : Dk} (h : d1.dd = (actS d.dd).1) (hz : (actS d.dd).2 = 0) : d1.down = false := by
  have := actS_ok hz
  rw [← h] at this
  exact this
/-- The blocks that a caller's disk may lie in, but its own ones from B to N. -/
abbrev But (Z : Nat → Prop) (B N : Nat) : Nat → Prop := fun k => Z k ∧ (k < B ∨ N ≤ k)
theorem but_up {Z : Nat → Prop} {B N M : Nat} (hZ : ∀ k, B ≤ k → Z k) (hB : B ≤ N) (hN : N ≤ M) : ∀ k, M ≤ k → But Z B N k := fun k hk => ⟨hZ k (by omega), Or.inr (by omega)⟩
set_option maxHeartbeats 1000000 in
theorem rwrite_err (d : Dk) {Z : Nat → Prop} (A : Option Addr) (b : Bytes) (n c : Nat) (hm : b.length = n) (hn : n ≤ 1000000) (hs : d.sm) (w : World) (hb : Sl byteR 1 w.heap.size w A b) (hZ : ∀ k, w.heap.size ≤ k → Z k) (hd : d.ok Z w) (hz : (actS d.dd).2 = 11) : Calls Try.prog 23 #[d.v, .slice A n c] w (RetD Z w (writeS d.dd b)) := by
  have HBB := hid hb; have HM := hid hm; clear hb hm
  obtain ⟨z1, z2⟩ := hs
  have hW : Below w.heap.size w ((w.alloc (.cells #[.int .i64 d.cap, .slice d.A1 d.s.length d.c1, .slice d.A2 d.l.length d.c2, .bool d.down, .int .i64 d.fuse] 30)).alloc (.cells #[.int .i64 0, .slice none 0 0, .slice none 0 0, .bool false, .int .i64 0] 30)) := below_alloc (below_new _ _) _
  have hd2 : d.ok (But Z w.heap.size (w.heap.size + 2)) ((w.alloc (.cells #[.int .i64 d.cap, .slice d.A1 d.s.length d.c1, .slice d.A2 d.l.length d.c2, .bool d.down, .int .i64 d.fuse] 30)).alloc (.cells #[.int .i64 0, .slice none 0 0, .slice none 0 0, .bool false, .int .i64 0] 30)) := (hd.shrink (Nat.le_refl _)).below hW
  have HW := hid hW; have HD := hid hd2; have G := hid hd; have HZ := hid hZ; clear hW hd2 hd hZ
  rw [show (writeS d.dd b) = ((actS d.dd).1, 11) from (by unfold writeS doS; rw [hz]; simp; rw [← hz])]
  unfold Dk.v
  go_enter Try.func23, Try.ntmps23
  go_wp2_with fail
  refine (ract_any (Z := But Z w.heap.size (w.heap.size + 2)) d _ HD.out).mono ?_; rintro e w1 ⟨d1, rfl, hdd, hok, hU⟩
  rw [hz]
  have HY := hid (act_dk hdd)
  have HDD := hid hdd; have HOK := hid hok; clear hdd hok
  obtain ⟨hx1, hx2⟩ := bcell hU
  have hsz : w.heap.size + 1 < w1.heap.size := by have := hU.size; simp at this; omega
  have hsz2 : w.heap.size < w1.heap.size := by omega
  have hne : w1.heap.size ≠ w.heap.size + 1 := by omega
  unfold Dk.v
  go_wp2_with fail
  have hX : w1.there (w.heap.size + 1) 0 5 := there_new hU (by simp)
  have hbw := below_then HW.out hU
  have hag : Agree (But Z w.heap.size (w.heap.size + 2)) w1 ((w1.setCells (w.heap.size + 1) 0 d1.cells).alloc (.cells d1.cells.toArray 30)) := (setCells_agree (by rintro ⟨_, h | h⟩ <;> omega) _ _ _).alloc _
  exact bodyPost_ret (w := (w1.setCells (w.heap.size + 1) 0 d1.cells).alloc (.cells d1.cells.toArray 30)) (results_cell2 rfl (b := w.heap.size + 1) (o := 0) d1.cells rfl (World.rangeAt_alloc (World.rangeAt_setCells_same _ _ 0 _ hX) _) Try.underlying30 rfl (by kernel_rfl)) rfl ⟨d1, rfl, HDD.out, (HOK.out.agree hag).mono (fun k h => h.1), below_alloc (setCells_below hbw (by omega) _ _) _⟩
set_option maxHeartbeats 1000000 in
theorem rwrite_full (d : Dk) {Z : Nat → Prop} (A : Option Addr) (b : Bytes) (n c : Nat) (hm : b.length = n) (hn : n ≤ 1000000) (hs : d.sm) (w : World) (hb : Sl byteR 1 w.heap.size w A b) (hZ : ∀ k, w.heap.size ≤ k → Z k) (hd : d.ok Z w) (hz : (actS d.dd).2 = 0) (hf : d.cap < ((longS d.dd + b.length : Nat) : Int)) : Calls Try.prog 23 #[d.v, .slice A n c] w (RetD Z w (writeS d.dd b)) := by
  have hfl : d.cap < (d.s.length : Int) + d.l.length + n := by rw [← hm]; simp [longS, Dk.dd] at hf; omega
  have HBB := hid hb; have HM := hid hm; clear hb hm
  obtain ⟨z1, z2⟩ := hs
  have hW : Below w.heap.size w ((w.alloc (.cells #[.int .i64 d.cap, .slice d.A1 d.s.length d.c1, .slice d.A2 d.l.length d.c2, .bool d.down, .int .i64 d.fuse] 30)).alloc (.cells #[.int .i64 0, .slice none 0 0, .slice none 0 0, .bool false, .int .i64 0] 30)) := below_alloc (below_new _ _) _
  have hd2 : d.ok (But Z w.heap.size (w.heap.size + 2)) ((w.alloc (.cells #[.int .i64 d.cap, .slice d.A1 d.s.length d.c1, .slice d.A2 d.l.length d.c2, .bool d.down, .int .i64 d.fuse] 30)).alloc (.cells #[.int .i64 0, .slice none 0 0, .slice none 0 0, .bool false, .int .i64 0] 30)) := (hd.shrink (Nat.le_refl _)).below hW
  have HW := hid hW; have HD := hid hd2; have G := hid hd; have HZ := hid hZ; clear hW hd2 hd hZ
  rw [show (writeS d.dd b) = ((actS d.dd).1, 9) from (by unfold writeS doS; rw [if_pos hz]; exact if_pos hf)]
  clear hf
  unfold Dk.v
  go_enter Try.func23, Try.ntmps23
  go_wp2_with fail
  refine (ract_any (Z := But Z w.heap.size (w.heap.size + 2)) d _ HD.out).mono ?_; rintro e w1 ⟨d1, rfl, hdd, hok, hU⟩
  rw [hz]
  have HY := hid (act_dk hdd)
  have HDD := hid hdd; have HOK := hid hok; clear hdd hok
  obtain ⟨hx1, hx2⟩ := bcell hU
  have hsz : w.heap.size + 1 < w1.heap.size := by have := hU.size; simp at this; omega
  have hsz2 : w.heap.size < w1.heap.size := by omega
  have hne : w1.heap.size ≠ w.heap.size + 1 := by omega
  unfold Dk.v
  go_wp2_with fail
  have hX : w1.there (w.heap.size + 1) 0 5 := there_new hU (by simp)
  have hbw := below_then HW.out hU
  have hag : Agree (But Z w.heap.size (w.heap.size + 2)) w1 ((w1.setCells (w.heap.size + 1) 0 d1.cells).alloc (.cells d1.cells.toArray 30)) := (setCells_agree (by rintro ⟨_, h | h⟩ <;> omega) _ _ _).alloc _
  exact bodyPost_ret (w := (w1.setCells (w.heap.size + 1) 0 d1.cells).alloc (.cells d1.cells.toArray 30)) (results_cell2 rfl (b := w.heap.size + 1) (o := 0) d1.cells rfl (World.rangeAt_alloc (World.rangeAt_setCells_same _ _ 0 _ hX) _) Try.underlying30 rfl (by kernel_rfl)) rfl ⟨d1, rfl, HDD.out, (HOK.out.agree hag).mono (fun k h => h.1), below_alloc (setCells_below hbw (by omega) _ _) _⟩
set_option maxHeartbeats 1000000 in
theorem rwrite_ok (d : Dk) {Z : Nat → Prop} (A : Option Addr) (b : Bytes) (n c : Nat) (hm : b.length = n) (hn : n ≤ 1000000) (hs : d.sm) (w : World) (hb : Sl byteR 1 w.heap.size w A b) (hZ : ∀ k, w.heap.size ≤ k → Z k) (hd : d.ok Z w) (hz : (actS d.dd).2 = 0) (hf : ¬ d.cap < ((longS d.dd + b.length : Nat) : Int)) : Calls Try.prog 23 #[d.v, .slice A n c] w (RetD Z w (writeS d.dd b)) := by
  have hfl : ¬ d.cap < (d.s.length : Int) + d.l.length + n := by rw [← hm]; simp [longS, Dk.dd] at hf; omega
  have HBB := hid hb; have HM := hid hm; clear hb hm
  obtain ⟨z1, z2⟩ := hs
  have hW : Below w.heap.size w ((w.alloc (.cells #[.int .i64 d.cap, .slice d.A1 d.s.length d.c1, .slice d.A2 d.l.length d.c2, .bool d.down, .int .i64 d.fuse] 30)).alloc (.cells #[.int .i64 0, .slice none 0 0, .slice none 0 0, .bool false, .int .i64 0] 30)) := below_alloc (below_new _ _) _
  have hd2 : d.ok (But Z w.heap.size (w.heap.size + 2)) ((w.alloc (.cells #[.int .i64 d.cap, .slice d.A1 d.s.length d.c1, .slice d.A2 d.l.length d.c2, .bool d.down, .int .i64 d.fuse] 30)).alloc (.cells #[.int .i64 0, .slice none 0 0, .slice none 0 0, .bool false, .int .i64 0] 30)) := (hd.shrink (Nat.le_refl _)).below hW
  have HW := hid hW; have HD := hid hd2; have G := hid hd; have HZ := hid hZ; clear hW hd2 hd hZ
  rw [show (writeS d.dd b) = (addS b (actS d.dd).1, 0) from (by unfold writeS doS; rw [if_pos hz]; exact if_neg hf)]
  clear hf
  unfold Dk.v
  go_enter Try.func23, Try.ntmps23
  go_wp2_with fail
  refine (ract_any (Z := But Z w.heap.size (w.heap.size + 2)) d _ HD.out).mono ?_; rintro e w1 ⟨d1, rfl, hdd, hok, hU⟩
  rw [hz]
  have HY := hid (act_dk hdd)
  have HDD := hid hdd; have HOK := hid hok; clear hdd hok
  obtain ⟨hx1, hx2⟩ := bcell hU
  have hsz : w.heap.size + 1 < w1.heap.size := by have := hU.size; simp at this; omega
  have hsz2 : w.heap.size < w1.heap.size := by omega
  have hne : w1.heap.size ≠ w.heap.size + 1 := by omega
  unfold Dk.v
  have hdn := act_dn HDD.out hz
  obtain ⟨m, hm⟩ : ∃ m, (d1.l ++ b).length = m := ⟨_, rfl⟩
  have HM2 := hid hm; clear hm
  have K1 : d1.s.length ≤ 2000000 := by rw [HY.out.2.1]; omega
  have K2 : d1.l.length ≤ 2000000 := by rw [HY.out.2.2]; omega
  go_wp2_with fail
  refine reg_startZ (fun k => k ≠ w.heap.size + 1) (by kernel_rfl) fun w4 hHeld hU4 => ?_
  have hT := hHeld
  refine reg_rd 0 (v := ?_) rfl (by kernel_rfl) (by kernel_rfl) (by kernel_rfl) (fun _ _ _ h => h) (by rfl) (by assumption) ?_ ?_
  rotate_left
  · intro w hSw; go_simp; with_reducible rfl
  try simp only [Act.put, List.setIfInBounds_toArray, List.set_cons_zero, List.set_cons_succ]
  refine reg_rd 1 (v := ?_) rfl (by kernel_rfl) (by kernel_rfl) (by kernel_rfl) (fun _ _ _ h => h) (by rfl) (by assumption) ?_ ?_
  rotate_left
  · (intro w' hSw; obtain ⟨hq1, hq2⟩ := acell hSw; first | (go_simp; done) | (go_simp; with_reducible rfl) | (obtain ⟨hq3, hq4⟩ := acell (hT.trans hSw); first | (go_simp; done) | (go_simp; with_reducible rfl)))
  try simp only [Act.put, List.setIfInBounds_toArray, List.set_cons_zero, List.set_cons_succ]
  refine reg_rd 2 (v := ?_) rfl (by kernel_rfl) (by kernel_rfl) (by kernel_rfl) (fun _ _ _ h => h) (by rfl) (by assumption) ?_ ?_
  rotate_left
  · intro w hSw; go_simp; with_reducible rfl
  try simp only [Act.put, List.setIfInBounds_toArray, List.set_cons_zero, List.set_cons_succ]
  refine reg_rd 3 (v := ?_) rfl (by kernel_rfl) (by kernel_rfl) (by kernel_rfl) (fun _ _ _ h => h) (by rfl) (by assumption) ?_ ?_
  rotate_left
  · (intro w' hSw; obtain ⟨hq1, hq2⟩ := acell hSw; first | (go_simp; done) | (go_simp; with_reducible rfl) | (obtain ⟨hq3, hq4⟩ := acell (hT.trans hSw); first | (go_simp; done) | (go_simp; with_reducible rfl)))
  try simp only [Act.put, List.setIfInBounds_toArray, List.set_cons_zero, List.set_cons_succ]
  refine reg_rd 4 (v := ?_) rfl (by kernel_rfl) (by kernel_rfl) (by kernel_rfl) (fun _ _ _ h => h) (by rfl) (by assumption) ?_ ?_
  rotate_left
  · intro w hSw; go_simp; with_reducible rfl
  try simp only [Act.put, List.setIfInBounds_toArray, List.set_cons_zero, List.set_cons_succ]
  refine reg_rd 5 (v := ?_) rfl (by kernel_rfl) (by kernel_rfl) (by kernel_rfl) (fun _ _ _ h => h) (by rfl) (by assumption) ?_ ?_
  rotate_left
  · (intro w' hSw; obtain ⟨hq1, hq2⟩ := acell hSw; first | (go_simp; done) | (go_simp; with_reducible rfl) | (obtain ⟨hq3, hq4⟩ := acell (hT.trans hSw); first | (go_simp; done) | (go_simp; with_reducible rfl)))
  try simp only [Act.put, List.setIfInBounds_toArray, List.set_cons_zero, List.set_cons_succ]
  refine reg_rd 6 (v := ?_) rfl (by kernel_rfl) (by kernel_rfl) (by kernel_rfl) (fun _ _ _ h => h) (by rfl) (by assumption) ?_ ?_
  rotate_left
  · intro w hSw; go_simp; with_reducible rfl
  try simp only [Act.put, List.setIfInBounds_toArray, List.set_cons_zero, List.set_cons_succ]
  refine reg_rd 8 (v := ?_) rfl (by kernel_rfl) (by kernel_rfl) (by kernel_rfl) (fun _ _ _ h => h) (by rfl) (by assumption) ?_ ?_
  rotate_left
  · intro w hSw; go_simp; with_reducible rfl
  try simp only [Act.put, List.setIfInBounds_toArray, List.set_cons_zero, List.set_cons_succ]
  refine reg_rd 9 (v := ?_) rfl (by kernel_rfl) (by kernel_rfl) (by kernel_rfl) (fun _ _ _ h => h) (by rfl) (by assumption) ?_ ?_
  rotate_left
  · (intro w' hSw; obtain ⟨hq1, hq2⟩ := acell hSw; first | (go_simp; done) | (go_simp; with_reducible rfl) | (obtain ⟨hq3, hq4⟩ := acell (hT.trans hSw); first | (go_simp; done) | (go_simp; with_reducible rfl)))
  try simp only [Act.put, List.setIfInBounds_toArray, List.set_cons_zero, List.set_cons_succ]
  refine wpAnyH_ready (rs := [7]) (by kernel_rfl) (by simp) ?_
  refine reg_do1 rfl (by rfl) (fun K hK => ?_)
  go_simp
  (go_at_call 58; refine (joined_any d1.A2 A d1.l b _ n d1.c2 c rfl HM.out K2 (by omega) _ ((HOK.out.s2.bsl.call (below_new _ _)).call hU4) (HBB.out.call (below_then HW.out (below_then (below_alloc hU _) hU4)))).mono ?_; rintro e wX ⟨v, rfl, hown, hbX⟩; have hUX := below_then (below_alloc hU _) (below_then hU4 hbX); obtain ⟨hy1, hy2⟩ := bcell (below_then hU4 hbX); obtain ⟨hx3, hx4⟩ := bcell hUX; obtain ⟨AX, cX, rfl⟩ := hown.form2 HM2.out; have HO := hid hown; clear hown; replace hT := hT.trans (agree_of_below hbX))
  go_wp2_with fail
  refine hK.out _ _ ?_ (fun hNext => ?_)
  · assumption
  clear hK K hHeld
  refine wpAnyZ_base hNext fun hHeld => ?_
  clear hNext
  try simp only [Act.put, List.setIfInBounds_toArray, List.set_cons_zero, List.set_cons_succ]
  refine reg_rd 10 (v := ?_) rfl (by kernel_rfl) (by kernel_rfl) (by kernel_rfl) (fun _ _ _ h => h) (by rfl) (by assumption) ?_ ?_
  rotate_left
  · intro w hSw; go_simp; with_reducible rfl
  try simp only [Act.put, List.setIfInBounds_toArray, List.set_cons_zero, List.set_cons_succ]
  refine wpAnyH_ready (rs := [11]) (by kernel_rfl) (by simp) ?_
  refine reg_do1 rfl (by rfl) (fun K hK => ?_)
  go_simp
  refine hK.out _ _ ?_ (fun hNext => ?_)
  · (repeat (first | assumption | exact agree_of_below (by assumption) | refine Agree.setCell ?_ (by simp) _ | refine Agree.alloc ?_ _))
  clear hK K hHeld
  refine wpAnyZ_base hNext fun hHeld => ?_
  clear hNext
  try simp only [Act.put, List.setIfInBounds_toArray, List.set_cons_zero, List.set_cons_succ]
  refine reg_rd 12 (v := ?_) rfl (by kernel_rfl) (by kernel_rfl) (by kernel_rfl) (fun _ _ _ h => h) (by rfl) (by assumption) ?_ ?_
  rotate_left
  · intro w hSw; go_simp; with_reducible rfl
  try simp only [Act.put, List.setIfInBounds_toArray, List.set_cons_zero, List.set_cons_succ]
  refine wpAnyH_done (by kernel_rfl) ?_ _
  go_wp2_with fail
  have hX : wX.there (w.heap.size + 1) 0 5 := there_new hUX (by simp)
  have hbw := below_then HW.out hUX
  have hws := hU4.size
  have hws2 := hU.size
  simp at hws hws2
  have hag : Agree (But Z w.heap.size (w.heap.size + 2)) w1 (wX.setCells (w.heap.size + 1) 0 [.int .i64 d1.cap, .slice d1.A1 d1.s.length d1.c1, .slice AX m cX, .bool false, .int .i64 d1.fuse]) := (((Agree.refl _).alloc _).trans (agree_of_below (below_then hU4 hbX))).trans (setCells_agree (by rintro ⟨_, h | h⟩ <;> omega) _ _ _)
  have hO := HO.out.agree_but (X := w.heap.size + 1) (setCells_agree (Z := fun k => k ≠ w.heap.size + 1) (X := w.heap.size + 1) (by simp) [.int .i64 d1.cap, .slice d1.A1 d1.s.length d1.c1, .slice AX m cX, .bool false, .int .i64 d1.fuse] 0 wX) (by omega) (Nat.zero_le _) (Nat.zero_le _)
  have hmm := HM2.out
  subst hmm
  obtain ⟨A', c', he, q1, q2, q3⟩ := hO.slz (Z := Z) (fun k hk => HZ.out k (by omega))
  simp only [Value.slice.injEq, true_and] at he
  obtain ⟨rfl, rfl⟩ := he
  exact bodyPost_ret (w := wX.setCells (w.heap.size + 1) 0 [.int .i64 d1.cap, .slice d1.A1 d1.s.length d1.c1, .slice AX (d1.l ++ b).length cX, .bool false, .int .i64 d1.fuse]) (results_cell2 rfl (b := w.heap.size + 1) (o := 0) [.int .i64 d1.cap, .slice d1.A1 d1.s.length d1.c1, .slice AX (d1.l ++ b).length cX, .bool false, .int .i64 d1.fuse] rfl (World.rangeAt_setCells_same wX _ 0 _ hX) Try.underlying30 rfl (by kernel_rfl)) rfl ⟨⟨d1.cap, d1.A1, d1.s, d1.c1, AX, d1.l ++ b, cX, false, d1.fuse⟩, rfl, (by rw [← HDD.out]; simp [addS, Dk.dd, hdn]), ⟨(HOK.out.s1.agree hag).mono (fun k h => h.1), q3, HOK.out.g1, HOK.out.m1, q1, q2, HOK.out.i1, HOK.out.i2⟩, setCells_below hbw (by omega) _ _⟩
theorem rwrite_any (d : Dk) {Z : Nat → Prop} (A : Option Addr) (b : Bytes) (n c : Nat) (hm : b.length = n) (hn : n ≤ 1000000) (hs : d.sm) (w : World) (hb : Sl byteR 1 w.heap.size w A b) (hZ : ∀ k, w.heap.size ≤ k → Z k) (hd : d.ok Z w) : Calls Try.prog 23 #[d.v, .slice A n c] w (RetD Z w (writeS d.dd b)) := by
  rcases actS_z d.dd with hz | hz
  · by_cases hf : d.cap < ((longS d.dd + b.length : Nat) : Int)
    · exact rwrite_full d A b n c hm hn hs w hb hZ hd hz hf
    · exact rwrite_ok d A b n c hm hn hs w hb hZ hd hz hf
  · exact rwrite_err d A b n c hm hn hs w hb hZ hd hz
set_option maxHeartbeats 1000000 in
theorem rsync_err (d : Dk) {Z : Nat → Prop} (hs : d.sm) (w : World) (hZ : ∀ k, w.heap.size ≤ k → Z k) (hd : d.ok Z w) (hz : (actS d.dd).2 = 11) : Calls Try.prog 25 #[d.v] w (RetD Z w (if (actS d.dd).2 = 0 then (allS (actS d.dd).1, 0) else actS d.dd)) := by
  obtain ⟨z1, z2⟩ := hs
  have hW : Below w.heap.size w ((w.alloc (.cells #[.int .i64 d.cap, .slice d.A1 d.s.length d.c1, .slice d.A2 d.l.length d.c2, .bool d.down, .int .i64 d.fuse] 30)).alloc (.cells #[.int .i64 0, .slice none 0 0, .slice none 0 0, .bool false, .int .i64 0] 30)) := below_alloc (below_new _ _) _
  have hd2 : d.ok (But Z w.heap.size (w.heap.size + 2)) ((w.alloc (.cells #[.int .i64 d.cap, .slice d.A1 d.s.length d.c1, .slice d.A2 d.l.length d.c2, .bool d.down, .int .i64 d.fuse] 30)).alloc (.cells #[.int .i64 0, .slice none 0 0, .slice none 0 0, .bool false, .int .i64 0] 30)) := (hd.shrink (Nat.le_refl _)).below hW
  have HW := hid hW; have HD := hid hd2; have G := hid hd; have HZ := hid hZ; clear hW hd2 hd hZ
  rw [show (if (actS d.dd).2 = 0 then (allS (actS d.dd).1, 0) else actS d.dd) = ((actS d.dd).1, 11) from (by rw [hz]; simp; rw [← hz])]
  unfold Dk.v
  go_enter Try.func25, Try.ntmps25
  go_wp2_with fail
  refine (ract_any (Z := But Z w.heap.size (w.heap.size + 2)) d _ HD.out).mono ?_; rintro e w1 ⟨d1, rfl, hdd, hok, hU⟩
  rw [hz]
  have HY := hid (act_dk hdd)
  have HDD := hid hdd; have HOK := hid hok; clear hdd hok
  obtain ⟨hx1, hx2⟩ := bcell hU
  have hsz : w.heap.size + 1 < w1.heap.size := by have := hU.size; simp at this; omega
  have hsz2 : w.heap.size < w1.heap.size := by omega
  have hne : w1.heap.size ≠ w.heap.size + 1 := by omega
  unfold Dk.v
  go_wp2_with fail
  have hX : w1.there (w.heap.size + 1) 0 5 := there_new hU (by simp)
  have hbw := below_then HW.out hU
  have hag : Agree (But Z w.heap.size (w.heap.size + 2)) w1 ((w1.setCells (w.heap.size + 1) 0 d1.cells).alloc (.cells d1.cells.toArray 30)) := (setCells_agree (by rintro ⟨_, h | h⟩ <;> omega) _ _ _).alloc _
  exact bodyPost_ret (w := (w1.setCells (w.heap.size + 1) 0 d1.cells).alloc (.cells d1.cells.toArray 30)) (results_cell2 rfl (b := w.heap.size + 1) (o := 0) d1.cells rfl (World.rangeAt_alloc (World.rangeAt_setCells_same _ _ 0 _ hX) _) Try.underlying30 rfl (by kernel_rfl)) rfl ⟨d1, rfl, HDD.out, (HOK.out.agree hag).mono (fun k h => h.1), below_alloc (setCells_below hbw (by omega) _ _) _⟩
set_option maxHeartbeats 1000000 in
theorem rsync_ok (d : Dk) {Z : Nat → Prop} (hs : d.sm) (w : World) (hZ : ∀ k, w.heap.size ≤ k → Z k) (hd : d.ok Z w) (hz : (actS d.dd).2 = 0) : Calls Try.prog 25 #[d.v] w (RetD Z w (if (actS d.dd).2 = 0 then (allS (actS d.dd).1, 0) else actS d.dd)) := by
  obtain ⟨z1, z2⟩ := hs
  have hW : Below w.heap.size w ((w.alloc (.cells #[.int .i64 d.cap, .slice d.A1 d.s.length d.c1, .slice d.A2 d.l.length d.c2, .bool d.down, .int .i64 d.fuse] 30)).alloc (.cells #[.int .i64 0, .slice none 0 0, .slice none 0 0, .bool false, .int .i64 0] 30)) := below_alloc (below_new _ _) _
  have hd2 : d.ok (But Z w.heap.size (w.heap.size + 2)) ((w.alloc (.cells #[.int .i64 d.cap, .slice d.A1 d.s.length d.c1, .slice d.A2 d.l.length d.c2, .bool d.down, .int .i64 d.fuse] 30)).alloc (.cells #[.int .i64 0, .slice none 0 0, .slice none 0 0, .bool false, .int .i64 0] 30)) := (hd.shrink (Nat.le_refl _)).below hW
  have HW := hid hW; have HD := hid hd2; have G := hid hd; have HZ := hid hZ; clear hW hd2 hd hZ
  rw [show (if (actS d.dd).2 = 0 then (allS (actS d.dd).1, 0) else actS d.dd) = (allS (actS d.dd).1, 0) from (by rw [if_pos hz])]
  unfold Dk.v
  go_enter Try.func25, Try.ntmps25
  go_wp2_with fail
  refine (ract_any (Z := But Z w.heap.size (w.heap.size + 2)) d _ HD.out).mono ?_; rintro e w1 ⟨d1, rfl, hdd, hok, hU⟩
  rw [hz]
  have HY := hid (act_dk hdd)
  have HDD := hid hdd; have HOK := hid hok; clear hdd hok
  obtain ⟨hx1, hx2⟩ := bcell hU
  have hsz : w.heap.size + 1 < w1.heap.size := by have := hU.size; simp at this; omega
  have hsz2 : w.heap.size < w1.heap.size := by omega
  have hne : w1.heap.size ≠ w.heap.size + 1 := by omega
  unfold Dk.v
  have hdn := act_dn HDD.out hz
  obtain ⟨m, hm⟩ : ∃ m, (d1.s ++ d1.l).length = m := ⟨_, rfl⟩
  have HM2 := hid hm; clear hm
  have K1 : d1.s.length ≤ 2000000 := by rw [HY.out.2.1]; omega
  have K2 : d1.l.length ≤ 2000000 := by rw [HY.out.2.2]; omega
  go_wp2_with fail
  refine reg_startZ (fun k => k ≠ w.heap.size + 1) (by kernel_rfl) fun w4 hHeld hU4 => ?_
  have hT := hHeld
  refine reg_rd 0 (v := ?_) rfl (by kernel_rfl) (by kernel_rfl) (by kernel_rfl) (fun _ _ _ h => h) (by rfl) (by assumption) ?_ ?_
  rotate_left
  · intro w hSw; go_simp; with_reducible rfl
  try simp only [Act.put, List.setIfInBounds_toArray, List.set_cons_zero, List.set_cons_succ]
  refine reg_rd 1 (v := ?_) rfl (by kernel_rfl) (by kernel_rfl) (by kernel_rfl) (fun _ _ _ h => h) (by rfl) (by assumption) ?_ ?_
  rotate_left
  · (intro w' hSw; obtain ⟨hq1, hq2⟩ := acell hSw; first | (go_simp; done) | (go_simp; with_reducible rfl) | (obtain ⟨hq3, hq4⟩ := acell (hT.trans hSw); first | (go_simp; done) | (go_simp; with_reducible rfl)))
  try simp only [Act.put, List.setIfInBounds_toArray, List.set_cons_zero, List.set_cons_succ]
  refine reg_rd 2 (v := ?_) rfl (by kernel_rfl) (by kernel_rfl) (by kernel_rfl) (fun _ _ _ h => h) (by rfl) (by assumption) ?_ ?_
  rotate_left
  · intro w hSw; go_simp; with_reducible rfl
  try simp only [Act.put, List.setIfInBounds_toArray, List.set_cons_zero, List.set_cons_succ]
  refine reg_rd 3 (v := ?_) rfl (by kernel_rfl) (by kernel_rfl) (by kernel_rfl) (fun _ _ _ h => h) (by rfl) (by assumption) ?_ ?_
  rotate_left
  · (intro w' hSw; obtain ⟨hq1, hq2⟩ := acell hSw; first | (go_simp; done) | (go_simp; with_reducible rfl) | (obtain ⟨hq3, hq4⟩ := acell (hT.trans hSw); first | (go_simp; done) | (go_simp; with_reducible rfl)))
  try simp only [Act.put, List.setIfInBounds_toArray, List.set_cons_zero, List.set_cons_succ]
  refine reg_rd 4 (v := ?_) rfl (by kernel_rfl) (by kernel_rfl) (by kernel_rfl) (fun _ _ _ h => h) (by rfl) (by assumption) ?_ ?_
  rotate_left
  · intro w hSw; go_simp; with_reducible rfl
  try simp only [Act.put, List.setIfInBounds_toArray, List.set_cons_zero, List.set_cons_succ]
  refine reg_rd 5 (v := ?_) rfl (by kernel_rfl) (by kernel_rfl) (by kernel_rfl) (fun _ _ _ h => h) (by rfl) (by assumption) ?_ ?_
  rotate_left
  · (intro w' hSw; obtain ⟨hq1, hq2⟩ := acell hSw; first | (go_simp; done) | (go_simp; with_reducible rfl) | (obtain ⟨hq3, hq4⟩ := acell (hT.trans hSw); first | (go_simp; done) | (go_simp; with_reducible rfl)))
  try simp only [Act.put, List.setIfInBounds_toArray, List.set_cons_zero, List.set_cons_succ]
  refine reg_rd 7 (v := ?_) rfl (by kernel_rfl) (by kernel_rfl) (by kernel_rfl) (fun _ _ _ h => h) (by rfl) (by assumption) ?_ ?_
  rotate_left
  · intro w hSw; go_simp; with_reducible rfl
  try simp only [Act.put, List.setIfInBounds_toArray, List.set_cons_zero, List.set_cons_succ]
  refine reg_rd 8 (v := ?_) rfl (by kernel_rfl) (by kernel_rfl) (by kernel_rfl) (fun _ _ _ h => h) (by rfl) (by assumption) ?_ ?_
  rotate_left
  · (intro w' hSw; obtain ⟨hq1, hq2⟩ := acell hSw; first | (go_simp; done) | (go_simp; with_reducible rfl) | (obtain ⟨hq3, hq4⟩ := acell (hT.trans hSw); first | (go_simp; done) | (go_simp; with_reducible rfl)))
  try simp only [Act.put, List.setIfInBounds_toArray, List.set_cons_zero, List.set_cons_succ]
  refine wpAnyH_ready (rs := [6]) (by kernel_rfl) (by simp) ?_
  refine reg_do1 rfl (by rfl) (fun K hK => ?_)
  go_simp
  (go_at_call 58; refine (joined_any d1.A1 d1.A2 d1.s d1.l _ _ d1.c1 d1.c2 rfl rfl K1 K2 _ ((HOK.out.s1.bsl.call (below_new _ _)).call hU4) ((HOK.out.s2.bsl.call (below_new _ _)).call hU4)).mono ?_; rintro e wX ⟨v, rfl, hown, hbX⟩; have hUX := below_then (below_alloc hU _) (below_then hU4 hbX); obtain ⟨hy1, hy2⟩ := bcell (below_then hU4 hbX); obtain ⟨hx3, hx4⟩ := bcell hUX; obtain ⟨AX, cX, rfl⟩ := hown.form2 HM2.out; have HO := hid hown; clear hown; replace hT := hT.trans (agree_of_below hbX))
  go_wp2_with fail
  refine hK.out _ _ ?_ (fun hNext => ?_)
  · assumption
  clear hK K hHeld
  refine wpAnyZ_base hNext fun hHeld => ?_
  clear hNext
  try simp only [Act.put, List.setIfInBounds_toArray, List.set_cons_zero, List.set_cons_succ]
  refine reg_rd 9 (v := ?_) rfl (by kernel_rfl) (by kernel_rfl) (by kernel_rfl) (fun _ _ _ h => h) (by rfl) (by assumption) ?_ ?_
  rotate_left
  · intro w hSw; go_simp; with_reducible rfl
  try simp only [Act.put, List.setIfInBounds_toArray, List.set_cons_zero, List.set_cons_succ]
  refine wpAnyH_ready (rs := [10]) (by kernel_rfl) (by simp) ?_
  refine reg_do1 rfl (by rfl) (fun K hK => ?_)
  go_simp
  refine hK.out _ _ ?_ (fun hNext => ?_)
  · (repeat (first | assumption | exact agree_of_below (by assumption) | refine Agree.setCell ?_ (by simp) _ | refine Agree.alloc ?_ _))
  clear hK K hHeld
  refine wpAnyZ_base hNext fun hHeld => ?_
  clear hNext
  try simp only [Act.put, List.setIfInBounds_toArray, List.set_cons_zero, List.set_cons_succ]
  refine reg_rd 11 (v := ?_) rfl (by kernel_rfl) (by kernel_rfl) (by kernel_rfl) (fun _ _ _ h => h) (by rfl) (by assumption) ?_ ?_
  rotate_left
  · intro w hSw; go_simp; with_reducible rfl
  try simp only [Act.put, List.setIfInBounds_toArray, List.set_cons_zero, List.set_cons_succ]
  refine wpAnyH_done (by kernel_rfl) ?_ _
  go_wp2_with fail
  have hX : wX.there (w.heap.size + 1) 0 5 := there_new hUX (by simp)
  have hbw := below_then HW.out hUX
  have hws := hU4.size
  have hws2 := hU.size
  simp at hws hws2
  have hag : Agree (But Z w.heap.size (w.heap.size + 2)) w1 (wX.setCells (w.heap.size + 1) 0 [.int .i64 d1.cap, .slice AX m cX, .slice none 0 0, .bool false, .int .i64 d1.fuse]) := (((Agree.refl _).alloc _).trans (agree_of_below (below_then hU4 hbX))).trans (setCells_agree (by rintro ⟨_, h | h⟩ <;> omega) _ _ _)
  have hO := HO.out.agree_but (X := w.heap.size + 1) (setCells_agree (Z := fun k => k ≠ w.heap.size + 1) (X := w.heap.size + 1) (by simp) [.int .i64 d1.cap, .slice AX m cX, .slice none 0 0, .bool false, .int .i64 d1.fuse] 0 wX) (by omega) (Nat.zero_le _) (Nat.zero_le _)
  have hmm := HM2.out
  subst hmm
  obtain ⟨A', c', he, q1, q2, q3⟩ := hO.slz (Z := Z) (fun k hk => HZ.out k (by omega))
  simp only [Value.slice.injEq, true_and] at he
  obtain ⟨rfl, rfl⟩ := he
  exact bodyPost_ret (w := wX.setCells (w.heap.size + 1) 0 [.int .i64 d1.cap, .slice AX (d1.s ++ d1.l).length cX, .slice none 0 0, .bool false, .int .i64 d1.fuse]) (results_cell2 rfl (b := w.heap.size + 1) (o := 0) [.int .i64 d1.cap, .slice AX (d1.s ++ d1.l).length cX, .slice none 0 0, .bool false, .int .i64 d1.fuse] rfl (World.rangeAt_setCells_same wX _ 0 _ hX) Try.underlying30 rfl (by kernel_rfl)) rfl ⟨⟨d1.cap, AX, d1.s ++ d1.l, cX, none, [], 0, false, d1.fuse⟩, rfl, (by rw [← HDD.out]; simp [allS, Dk.dd, hdn]), ⟨q3, SlZ.nil, q1, q2, Nat.le_refl _, Nat.zero_le _, HOK.out.i1, HOK.out.i2⟩, setCells_below hbw (by omega) _ _⟩
theorem rsync_any (d : Dk) {Z : Nat → Prop} (hs : d.sm) (w : World) (hZ : ∀ k, w.heap.size ≤ k → Z k) (hd : d.ok Z w) : Calls Try.prog 25 #[d.v] w (RetD Z w (if (actS d.dd).2 = 0 then (allS (actS d.dd).1, 0) else actS d.dd)) := by
  rcases actS_z d.dd with hz | hz
  · exact rsync_ok d hs w hZ hd hz
  · exact rsync_err d hs w hZ hd hz
set_option maxHeartbeats 1000000 in
theorem rreplace_err (d : Dk) {Z : Nat → Prop} (A : Option Addr) (b : Bytes) (n c : Nat) (hm : b.length = n) (hn : n ≤ 1000000) (hs : d.sm) (w : World) (hb : Sl byteR 1 w.heap.size w A b) (hZ : ∀ k, w.heap.size ≤ k → Z k) (hd : d.ok Z w) (hz : (actS d.dd).2 = 11) : Calls Try.prog 27 #[d.v, .slice A n c] w (RetD Z w (replaceS d.dd b)) := by
  have HBB := hid hb; have HM := hid hm; clear hb hm
  obtain ⟨z1, z2⟩ := hs
  have hW : Below w.heap.size w ((w.alloc (.cells #[.int .i64 d.cap, .slice d.A1 d.s.length d.c1, .slice d.A2 d.l.length d.c2, .bool d.down, .int .i64 d.fuse] 30)).alloc (.cells #[.int .i64 0, .slice none 0 0, .slice none 0 0, .bool false, .int .i64 0] 30)) := below_alloc (below_new _ _) _
  have hd2 : d.ok (But Z w.heap.size (w.heap.size + 2)) ((w.alloc (.cells #[.int .i64 d.cap, .slice d.A1 d.s.length d.c1, .slice d.A2 d.l.length d.c2, .bool d.down, .int .i64 d.fuse] 30)).alloc (.cells #[.int .i64 0, .slice none 0 0, .slice none 0 0, .bool false, .int .i64 0] 30)) := (hd.shrink (Nat.le_refl _)).below hW
  have HW := hid hW; have HD := hid hd2; have G := hid hd; have HZ := hid hZ; clear hW hd2 hd hZ
  rw [show (replaceS d.dd b) = ((actS d.dd).1, 11) from (by unfold replaceS doS; rw [hz]; simp; rw [← hz])]
  unfold Dk.v
  go_enter Try.func27, Try.ntmps27
  go_wp2_with fail
  refine (ract_any (Z := But Z w.heap.size (w.heap.size + 2)) d _ HD.out).mono ?_; rintro e w1 ⟨d1, rfl, hdd, hok, hU⟩
  rw [hz]
  have HY := hid (act_dk hdd)
  have HDD := hid hdd; have HOK := hid hok; clear hdd hok
  obtain ⟨hx1, hx2⟩ := bcell hU
  have hsz : w.heap.size + 1 < w1.heap.size := by have := hU.size; simp at this; omega
  have hsz2 : w.heap.size < w1.heap.size := by omega
  have hne : w1.heap.size ≠ w.heap.size + 1 := by omega
  unfold Dk.v
  go_wp2_with fail
  have hX : w1.there (w.heap.size + 1) 0 5 := there_new hU (by simp)
  have hbw := below_then HW.out hU
  have hag : Agree (But Z w.heap.size (w.heap.size + 2)) w1 ((w1.setCells (w.heap.size + 1) 0 d1.cells).alloc (.cells d1.cells.toArray 30)) := (setCells_agree (by rintro ⟨_, h | h⟩ <;> omega) _ _ _).alloc _
  exact bodyPost_ret (w := (w1.setCells (w.heap.size + 1) 0 d1.cells).alloc (.cells d1.cells.toArray 30)) (results_cell2 rfl (b := w.heap.size + 1) (o := 0) d1.cells rfl (World.rangeAt_alloc (World.rangeAt_setCells_same _ _ 0 _ hX) _) Try.underlying30 rfl (by kernel_rfl)) rfl ⟨d1, rfl, HDD.out, (HOK.out.agree hag).mono (fun k h => h.1), below_alloc (setCells_below hbw (by omega) _ _) _⟩
set_option maxHeartbeats 1000000 in
theorem rreplace_full (d : Dk) {Z : Nat → Prop} (A : Option Addr) (b : Bytes) (n c : Nat) (hm : b.length = n) (hn : n ≤ 1000000) (hs : d.sm) (w : World) (hb : Sl byteR 1 w.heap.size w A b) (hZ : ∀ k, w.heap.size ≤ k → Z k) (hd : d.ok Z w) (hz : (actS d.dd).2 = 0) (hf : d.cap < ((b.length : Nat) : Int)) : Calls Try.prog 27 #[d.v, .slice A n c] w (RetD Z w (replaceS d.dd b)) := by
  have hfl : d.cap < (n : Int) := by rw [← hm]; exact hf
  have HBB := hid hb; have HM := hid hm; clear hb hm
  obtain ⟨z1, z2⟩ := hs
  have hW : Below w.heap.size w ((w.alloc (.cells #[.int .i64 d.cap, .slice d.A1 d.s.length d.c1, .slice d.A2 d.l.length d.c2, .bool d.down, .int .i64 d.fuse] 30)).alloc (.cells #[.int .i64 0, .slice none 0 0, .slice none 0 0, .bool false, .int .i64 0] 30)) := below_alloc (below_new _ _) _
  have hd2 : d.ok (But Z w.heap.size (w.heap.size + 2)) ((w.alloc (.cells #[.int .i64 d.cap, .slice d.A1 d.s.length d.c1, .slice d.A2 d.l.length d.c2, .bool d.down, .int .i64 d.fuse] 30)).alloc (.cells #[.int .i64 0, .slice none 0 0, .slice none 0 0, .bool false, .int .i64 0] 30)) := (hd.shrink (Nat.le_refl _)).below hW
  have HW := hid hW; have HD := hid hd2; have G := hid hd; have HZ := hid hZ; clear hW hd2 hd hZ
  rw [show (replaceS d.dd b) = ((actS d.dd).1, 9) from (by unfold replaceS doS; rw [if_pos hz]; exact if_pos hf)]
  clear hf
  unfold Dk.v
  go_enter Try.func27, Try.ntmps27
  go_wp2_with fail
  refine (ract_any (Z := But Z w.heap.size (w.heap.size + 2)) d _ HD.out).mono ?_; rintro e w1 ⟨d1, rfl, hdd, hok, hU⟩
  rw [hz]
  have HY := hid (act_dk hdd)
  have HDD := hid hdd; have HOK := hid hok; clear hdd hok
  obtain ⟨hx1, hx2⟩ := bcell hU
  have hsz : w.heap.size + 1 < w1.heap.size := by have := hU.size; simp at this; omega
  have hsz2 : w.heap.size < w1.heap.size := by omega
  have hne : w1.heap.size ≠ w.heap.size + 1 := by omega
  unfold Dk.v
  go_wp2_with fail
  have hX : w1.there (w.heap.size + 1) 0 5 := there_new hU (by simp)
  have hbw := below_then HW.out hU
  have hag : Agree (But Z w.heap.size (w.heap.size + 2)) w1 ((w1.setCells (w.heap.size + 1) 0 d1.cells).alloc (.cells d1.cells.toArray 30)) := (setCells_agree (by rintro ⟨_, h | h⟩ <;> omega) _ _ _).alloc _
  exact bodyPost_ret (w := (w1.setCells (w.heap.size + 1) 0 d1.cells).alloc (.cells d1.cells.toArray 30)) (results_cell2 rfl (b := w.heap.size + 1) (o := 0) d1.cells rfl (World.rangeAt_alloc (World.rangeAt_setCells_same _ _ 0 _ hX) _) Try.underlying30 rfl (by kernel_rfl)) rfl ⟨d1, rfl, HDD.out, (HOK.out.agree hag).mono (fun k h => h.1), below_alloc (setCells_below hbw (by omega) _ _) _⟩
set_option maxHeartbeats 1000000 in
theorem rreplace_ok (d : Dk) {Z : Nat → Prop} (A : Option Addr) (b : Bytes) (n c : Nat) (hm : b.length = n) (hn : n ≤ 1000000) (hs : d.sm) (w : World) (hb : Sl byteR 1 w.heap.size w A b) (hZ : ∀ k, w.heap.size ≤ k → Z k) (hd : d.ok Z w) (hz : (actS d.dd).2 = 0) (hf : ¬ d.cap < ((b.length : Nat) : Int)) : Calls Try.prog 27 #[d.v, .slice A n c] w (RetD Z w (replaceS d.dd b)) := by
  have hfl : ¬ d.cap < (n : Int) := by rw [← hm]; exact hf
  have HBB := hid hb; have HM := hid hm; clear hb hm
  obtain ⟨z1, z2⟩ := hs
  have hW : Below w.heap.size w ((w.alloc (.cells #[.int .i64 d.cap, .slice d.A1 d.s.length d.c1, .slice d.A2 d.l.length d.c2, .bool d.down, .int .i64 d.fuse] 30)).alloc (.cells #[.int .i64 0, .slice none 0 0, .slice none 0 0, .bool false, .int .i64 0] 30)) := below_alloc (below_new _ _) _
  have hd2 : d.ok (But Z w.heap.size (w.heap.size + 2)) ((w.alloc (.cells #[.int .i64 d.cap, .slice d.A1 d.s.length d.c1, .slice d.A2 d.l.length d.c2, .bool d.down, .int .i64 d.fuse] 30)).alloc (.cells #[.int .i64 0, .slice none 0 0, .slice none 0 0, .bool false, .int .i64 0] 30)) := (hd.shrink (Nat.le_refl _)).below hW
  have HW := hid hW; have HD := hid hd2; have G := hid hd; have HZ := hid hZ; clear hW hd2 hd hZ
  rw [show (replaceS d.dd b) = (otherS b (actS d.dd).1, 0) from (by unfold replaceS doS; rw [if_pos hz]; exact if_neg hf)]
  clear hf
  unfold Dk.v
  go_enter Try.func27, Try.ntmps27
  go_wp2_with fail
  refine (ract_any (Z := But Z w.heap.size (w.heap.size + 2)) d _ HD.out).mono ?_; rintro e w1 ⟨d1, rfl, hdd, hok, hU⟩
  rw [hz]
  have HY := hid (act_dk hdd)
  have HDD := hid hdd; have HOK := hid hok; clear hdd hok
  obtain ⟨hx1, hx2⟩ := bcell hU
  have hsz : w.heap.size + 1 < w1.heap.size := by have := hU.size; simp at this; omega
  have hsz2 : w.heap.size < w1.heap.size := by omega
  have hne : w1.heap.size ≠ w.heap.size + 1 := by omega
  unfold Dk.v
  have hdn := act_dn HDD.out hz
  obtain ⟨m, hm⟩ : ∃ m, (([] : Bytes) ++ b).length = m := ⟨_, rfl⟩
  have HM2 := hid hm; clear hm
  have K1 : d1.s.length ≤ 2000000 := by rw [HY.out.2.1]; omega
  have K2 : d1.l.length ≤ 2000000 := by rw [HY.out.2.2]; omega
  go_wp2_with fail
  refine reg_startZ (fun k => k ≠ w.heap.size + 1) (by kernel_rfl) fun w4 hHeld hU4 => ?_
  have hT := hHeld
  refine reg_rd 0 (v := ?_) rfl (by kernel_rfl) (by kernel_rfl) (by kernel_rfl) (fun _ _ _ h => h) (by rfl) (by assumption) ?_ ?_
  rotate_left
  · intro w hSw; go_simp; with_reducible rfl
  try simp only [Act.put, List.setIfInBounds_toArray, List.set_cons_zero, List.set_cons_succ]
  refine reg_rd 1 (v := ?_) rfl (by kernel_rfl) (by kernel_rfl) (by kernel_rfl) (fun _ _ _ h => h) (by rfl) (by assumption) ?_ ?_
  rotate_left
  · (intro w' hSw; obtain ⟨hq1, hq2⟩ := acell hSw; first | (go_simp; done) | (go_simp; with_reducible rfl) | (obtain ⟨hq3, hq4⟩ := acell (hT.trans hSw); first | (go_simp; done) | (go_simp; with_reducible rfl)))
  try simp only [Act.put, List.setIfInBounds_toArray, List.set_cons_zero, List.set_cons_succ]
  refine reg_rd 2 (v := ?_) rfl (by kernel_rfl) (by kernel_rfl) (by kernel_rfl) (fun _ _ _ h => h) (by rfl) (by assumption) ?_ ?_
  rotate_left
  · intro w hSw; go_simp; with_reducible rfl
  try simp only [Act.put, List.setIfInBounds_toArray, List.set_cons_zero, List.set_cons_succ]
  refine reg_rd 4 (v := ?_) rfl (by kernel_rfl) (by kernel_rfl) (by kernel_rfl) (fun _ _ _ h => h) (by rfl) (by assumption) ?_ ?_
  rotate_left
  · intro w hSw; go_simp; with_reducible rfl
  try simp only [Act.put, List.setIfInBounds_toArray, List.set_cons_zero, List.set_cons_succ]
  refine reg_rd 5 (v := ?_) rfl (by kernel_rfl) (by kernel_rfl) (by kernel_rfl) (fun _ _ _ h => h) (by rfl) (by assumption) ?_ ?_
  rotate_left
  · (intro w' hSw; obtain ⟨hq1, hq2⟩ := acell hSw; first | (go_simp; done) | (go_simp; with_reducible rfl) | (obtain ⟨hq3, hq4⟩ := acell (hT.trans hSw); first | (go_simp; done) | (go_simp; with_reducible rfl)))
  try simp only [Act.put, List.setIfInBounds_toArray, List.set_cons_zero, List.set_cons_succ]
  refine wpAnyH_ready (rs := [3]) (by kernel_rfl) (by simp) ?_
  refine reg_do1 rfl (by rfl) (fun K hK => ?_)
  go_simp
  (go_at_call 58; refine (joined_any none A [] b 0 n 0 c rfl HM.out (by omega) (by omega) _ Sl.nil (HBB.out.call (below_then HW.out (below_then (below_alloc hU _) hU4)))).mono ?_; rintro e wX ⟨v, rfl, hown, hbX⟩; have hUX := below_then (below_alloc hU _) (below_then hU4 hbX); obtain ⟨hy1, hy2⟩ := bcell (below_then hU4 hbX); obtain ⟨hx3, hx4⟩ := bcell hUX; obtain ⟨AX, cX, rfl⟩ := hown.form2 HM2.out; have HO := hid hown; clear hown; replace hT := hT.trans (agree_of_below hbX))
  go_wp2_with fail
  refine hK.out _ _ ?_ (fun hNext => ?_)
  · assumption
  clear hK K hHeld
  refine wpAnyZ_base hNext fun hHeld => ?_
  clear hNext
  try simp only [Act.put, List.setIfInBounds_toArray, List.set_cons_zero, List.set_cons_succ]
  refine reg_rd 6 (v := ?_) rfl (by kernel_rfl) (by kernel_rfl) (by kernel_rfl) (fun _ _ _ h => h) (by rfl) (by assumption) ?_ ?_
  rotate_left
  · intro w hSw; go_simp; with_reducible rfl
  try simp only [Act.put, List.setIfInBounds_toArray, List.set_cons_zero, List.set_cons_succ]
  refine wpAnyH_ready (rs := [7]) (by kernel_rfl) (by simp) ?_
  refine reg_do1 rfl (by rfl) (fun K hK => ?_)
  go_simp
  refine hK.out _ _ ?_ (fun hNext => ?_)
  · (repeat (first | assumption | exact agree_of_below (by assumption) | refine Agree.setCell ?_ (by simp) _ | refine Agree.alloc ?_ _))
  clear hK K hHeld
  refine wpAnyZ_base hNext fun hHeld => ?_
  clear hNext
  try simp only [Act.put, List.setIfInBounds_toArray, List.set_cons_zero, List.set_cons_succ]
  refine reg_rd 8 (v := ?_) rfl (by kernel_rfl) (by kernel_rfl) (by kernel_rfl) (fun _ _ _ h => h) (by rfl) (by assumption) ?_ ?_
  rotate_left
  · intro w hSw; go_simp; with_reducible rfl
  try simp only [Act.put, List.setIfInBounds_toArray, List.set_cons_zero, List.set_cons_succ]
  refine wpAnyH_done (by kernel_rfl) ?_ _
  go_wp2_with fail
  have hX : wX.there (w.heap.size + 1) 0 5 := there_new hUX (by simp)
  have hbw := below_then HW.out hUX
  have hws := hU4.size
  have hws2 := hU.size
  simp at hws hws2
  have hag : Agree (But Z w.heap.size (w.heap.size + 2)) w1 (wX.setCells (w.heap.size + 1) 0 [.int .i64 d1.cap, .slice AX m cX, .slice none 0 0, .bool false, .int .i64 d1.fuse]) := (((Agree.refl _).alloc _).trans (agree_of_below (below_then hU4 hbX))).trans (setCells_agree (by rintro ⟨_, h | h⟩ <;> omega) _ _ _)
  have hO := HO.out.agree_but (X := w.heap.size + 1) (setCells_agree (Z := fun k => k ≠ w.heap.size + 1) (X := w.heap.size + 1) (by simp) [.int .i64 d1.cap, .slice AX m cX, .slice none 0 0, .bool false, .int .i64 d1.fuse] 0 wX) (by omega) (Nat.zero_le _) (Nat.zero_le _)
  have hmm := HM2.out
  subst hmm
  obtain ⟨A', c', he, q1, q2, q3⟩ := hO.slz (Z := Z) (fun k hk => HZ.out k (by omega))
  simp only [Value.slice.injEq, true_and] at he
  obtain ⟨rfl, rfl⟩ := he
  exact bodyPost_ret (w := wX.setCells (w.heap.size + 1) 0 [.int .i64 d1.cap, .slice AX (([] : Bytes) ++ b).length cX, .slice none 0 0, .bool false, .int .i64 d1.fuse]) (results_cell2 rfl (b := w.heap.size + 1) (o := 0) [.int .i64 d1.cap, .slice AX (([] : Bytes) ++ b).length cX, .slice none 0 0, .bool false, .int .i64 d1.fuse] rfl (World.rangeAt_setCells_same wX _ 0 _ hX) Try.underlying30 rfl (by kernel_rfl)) rfl ⟨⟨d1.cap, AX, ([] : Bytes) ++ b, cX, none, [], 0, false, d1.fuse⟩, rfl, (by rw [← HDD.out]; simp [otherS, Dk.dd, hdn]), ⟨q3, SlZ.nil, q1, q2, Nat.le_refl _, Nat.zero_le _, HOK.out.i1, HOK.out.i2⟩, setCells_below hbw (by omega) _ _⟩
theorem rreplace_any (d : Dk) {Z : Nat → Prop} (A : Option Addr) (b : Bytes) (n c : Nat) (hm : b.length = n) (hn : n ≤ 1000000) (hs : d.sm) (w : World) (hb : Sl byteR 1 w.heap.size w A b) (hZ : ∀ k, w.heap.size ≤ k → Z k) (hd : d.ok Z w) : Calls Try.prog 27 #[d.v, .slice A n c] w (RetD Z w (replaceS d.dd b)) := by
  rcases actS_z d.dd with hz | hz
  · by_cases hf : d.cap < ((b.length : Nat) : Int)
    · exact rreplace_full d A b n c hm hn hs w hb hZ hd hz hf
    · exact rreplace_ok d A b n c hm hn hs w hb hZ hd hz hf
  · exact rreplace_err d A b n c hm hn hs w hb hZ hd hz
end Go.Proofs.Ythboeilpeggpoaa
