/-
  Package disk: an act, with whatever it does.
-/
import Derived.Test.YthboeilpeggpoaaDiskD
import Derived.ScopeJumps
namespace Go.Proofs.Ythboeilpeggpoaa
open Go.RowKit
/-- A scope in which the run jumps ahead to one label, and no more. -/
theorem wp_scope_fwd {P : Program} {a : Act} {w : World} {Q : Exit → Act → World → Prop} {c rest : Code} (l : Nat) (hf : findLabel c l = some rest)
    (first : c.wp P (Exit.jump l (fun a w => rest.wp P (Exit.jump l (fun _ _ => False) Q) a w) Q) a w) : (Code.scope c).wp P Q a w :=
  wp_scope_jumps l (fun a w => rest.wp P (Exit.jump l (fun _ _ => False) Q) a w) (fun _ _ => 0) hf first fun a w h => wp_mono h fun e a w hq => by
    cases e with
    | goto l' => exact hq.2.elim
    | _ => exact hq
/-- What a function that is handed to an act does to the disk in block p. -/
def ClPost (p : Nat) (Z : Nat → Prop) (y : DD) (w1 : World) (e : Ending) (w2 : World) : Prop :=
  (∃ u, e = .returned u) ∧ ∃ x : Dk, w2.heap[p]? = some (.cells x.cells.toArray 24 (0, 0)) ∧ x.dd = y ∧ x.ok Z w2 ∧ Agree (fun k => k ≠ p) w1 w2
theorem dk_at {x : Dk} {w : World} {p t : Nat} (h : w.heap[p]? = some (.cells x.cells.toArray t (0, 0))) :
    w.cell? ⟨p, 0, none⟩ = some (.int .i64 x.cap) ∧ w.cell? ⟨p, 1, none⟩ = some (.slice x.A1 x.s.length x.c1) ∧ w.cell? ⟨p, 2, none⟩ = some (.slice x.A2 x.l.length x.c2) ∧ w.cell? ⟨p, 3, none⟩ = some (.bool x.down) ∧ w.cell? ⟨p, 4, none⟩ = some (.int .i64 x.fuse) := by
  have r := range_block h
  refine ⟨?_, ?_, ?_, ?_, ?_⟩
  · simpa using r 0 _ rfl
  · simpa using r 1 _ rfl
  · simpa using r 2 _ rfl
  · simpa using r 3 _ rfl
  · simpa using r 4 _ rfl
theorem doS_err {x : DD} {n : Int} {g : DD → DD} (h : (actS x).2 = 11) : doS x n g = ((actS x).1, 11) := by unfold doS; rw [if_neg (by rw [h]; decide), ← h]
theorem doS_full {x : DD} {n : Int} {g : DD → DD} (h : (actS x).2 = 0) (hf : x.cap < n) : doS x n g = ((actS x).1, 9) := by unfold doS; rw [if_pos h]; exact if_pos hf
theorem doS_ok {x : DD} {n : Int} {g : DD → DD} (h : (actS x).2 = 0) (hf : ¬ x.cap < n) : doS x n g = (g (actS x).1, 0) := by unfold doS; rw [if_pos h]; exact if_neg hf
set_option maxHeartbeats 1000000 in
theorem act_down_err (d : Dk) {Z : Nat → Prop} (n : Int) (f : Nat) (ext : Array Value) (g : DD → DD) (hdn : d.down = true) (w : World) (hd : d.ok Z w) :
    Calls Try.prog 53 #[d.v, .int .i64 n, .func (.func f) #[] ext] w (RetD Z w (doS d.dd n g)) := by
  have G := hid hd; clear hd
  have ha : actS d.dd = ((d.at_ true d.fuse).dd, 11) := by simp [actS, Dk.dd, Dk.at_, hdn]
  rw [show doS d.dd n g = ((d.at_ true d.fuse).dd, 11) from by rw [doS_err (by rw [ha]), ha]]
  clear ha
  rw [show d.v = .agg d.cells.toArray from rfl]
  unfold Dk.cells
  go_enter Try.func53, Try.ntmps53
  go_wp2_with fail
  refine wp_scope_fwd 0 rfl ?_
  go_wp2_with fail
  go_step3
  refine ⟨rfl, ?_⟩
  go_wp2_with fail
  simp only [Exit.jump]
  exact bodyPost_ret (results_cell2 rfl (b := w.heap.size + 1) (o := 0) (d.at_ true d.fuse).cells rfl (range_new (by simp)) Try.underlying24 rfl (by kernel_rfl)) rfl ⟨(d.at_ true d.fuse), rfl, rfl, (G.out.at_ true G.out.i2).below (below_alloc (below_new _ _) _), below_alloc (below_new _ _) _⟩
set_option maxHeartbeats 1000000 in
theorem act_zero_err (d : Dk) {Z : Nat → Prop} (n : Int) (f : Nat) (ext : Array Value) (g : DD → DD) (hdn : d.down = false) (hf : d.fuse = 0) (w : World) (hd : d.ok Z w) :
    Calls Try.prog 53 #[d.v, .int .i64 n, .func (.func f) #[] ext] w (RetD Z w (doS d.dd n g)) := by
  have G := hid hd; clear hd
  have ha : actS d.dd = ((d.at_ true 0).dd, 11) := by simp [actS, Dk.dd, Dk.at_, hdn, hf]
  rw [show doS d.dd n g = ((d.at_ true 0).dd, 11) from by rw [doS_err (by rw [ha]), ha]]
  clear ha
  rw [show d.v = .agg d.cells.toArray from rfl]
  unfold Dk.cells
  go_enter Try.func53, Try.ntmps53
  go_wp2_with fail
  refine wp_scope_fwd 0 rfl ?_
  go_wp2_with fail
  go_step3
  refine ⟨rfl, ?_⟩
  go_wp2_with fail
  simp only [Exit.jump]
  exact bodyPost_ret (results_cell2 rfl (b := w.heap.size + 1) (o := 0) (d.at_ true 0).cells rfl (range_new (by simp)) Try.underlying24 rfl (by kernel_rfl)) rfl ⟨(d.at_ true 0), rfl, rfl, (G.out.at_ true ⟨by decide, by decide⟩).below (below_alloc (below_new _ _) _), below_alloc (below_new _ _) _⟩
set_option maxHeartbeats 1000000 in
theorem act_pos_full (d : Dk) {Z : Nat → Prop} (n : Int) (f : Nat) (ext : Array Value) (g : DD → DD) (hdn : d.down = false) (hf : 0 < d.fuse) (hf9 : d.cap < n) (w : World) (hd : d.ok Z w) :
    Calls Try.prog 53 #[d.v, .int .i64 n, .func (.func f) #[] ext] w (RetD Z w (doS d.dd n g)) := by
  have G := hid hd; clear hd
  have ha : actS d.dd = ((d.at_ false (d.fuse - 1)).dd, 0) := by simp [actS, Dk.dd, Dk.at_, hdn, hf]; omega
  rw [show doS d.dd n g = ((d.at_ false (d.fuse - 1)).dd, 9) from by rw [doS_full (by rw [ha]) hf9, ha]]
  clear ha
  have hf0 : ¬ d.fuse = 0 := by omega
  have hf1 := G.out.i2.2
  rw [show d.v = .agg d.cells.toArray from rfl]
  unfold Dk.cells
  go_enter Try.func53, Try.ntmps53
  go_wp2_with fail
  refine wp_scope_fwd 0 rfl ?_
  go_wp2_with fail
  go_step3
  refine ⟨rfl, ?_⟩
  go_wp2_with fail
  simp only [Exit.jump]
  exact bodyPost_ret (results_cell2 rfl (b := w.heap.size + 1) (o := 0) (d.at_ false (d.fuse - 1)).cells rfl (range_new (by simp)) Try.underlying24 rfl (by kernel_rfl)) rfl ⟨(d.at_ false (d.fuse - 1)), rfl, rfl, (G.out.at_ false (by have := G.out.i2; omega)).below (below_alloc (below_new _ _) _), below_alloc (below_new _ _) _⟩
set_option maxHeartbeats 1000000 in
theorem act_pos_okw (d : Dk) {Z : Nat → Prop} (n : Int) (q : Nat) (g : DD → DD) (hdn : d.down = false) (hf : 0 < d.fuse) (hf9 : ¬ d.cap < n) (hs : d.sm) (w : World) (hd : d.ok Z w)
    (does : ∀ (x : Dk) (w1 : World), Below w.heap.size w w1 → w.heap.size + 2 ≤ w1.heap.size → w1.heap[w.heap.size]? = some (.cells x.cells.toArray 24 (0, 0)) → x.ok (But Z w.heap.size (w.heap.size + 2)) w1 → x.sm → Calls Try.prog 55 #[.pointer (some ⟨w.heap.size, 0, none⟩), .pointer (some ⟨q, 0, none⟩)] w1 (ClPost w.heap.size (But Z w.heap.size (w.heap.size + 2)) (g x.dd) w1)) :
    Calls Try.prog 53 #[d.v, .int .i64 n, .func (.func 55) #[] #[.pointer (some ⟨q, 0, none⟩)]] w (RetD Z w (doS d.dd n g)) := by
  have G := hid hd; have HDO := hid does; clear hd does
  have ha : actS d.dd = ((d.at_ false (d.fuse - 1)).dd, 0) := by simp [actS, Dk.dd, Dk.at_, hdn, hf]; omega
  rw [show doS d.dd n g = (g (d.at_ false (d.fuse - 1)).dd, 0) from by rw [doS_ok (by rw [ha]) hf9, ha]]
  clear ha
  have hf0 : ¬ d.fuse = 0 := by omega
  have hf1 := G.out.i2.2
  rw [show d.v = .agg d.cells.toArray from rfl]
  unfold Dk.cells
  go_enter Try.func53, Try.ntmps53
  go_wp2_with fail
  refine wp_scope_fwd 0 rfl ?_
  go_wp2_with fail
  have hb0 : Below w.heap.size w ((w.alloc (.cells (d.at_ false (d.fuse - 1)).cells.toArray 24)).alloc (.cells #[.int .i64 0, .slice none 0 0, .slice none 0 0, .bool false, .int .i64 0] 24)) := below_alloc (below_new _ _) _
  refine (HDO.out (d.at_ false (d.fuse - 1)) ((w.alloc (.cells (d.at_ false (d.fuse - 1)).cells.toArray 24)).alloc (.cells #[.int .i64 0, .slice none 0 0, .slice none 0 0, .bool false, .int .i64 0] 24)) hb0 (by simp) (by rw [Below.heap_alloc _ _ _ (by simp)]; exact heap_alloc_new w _) (((G.out.at_ false (by have := G.out.i2; omega)).shrink (Nat.le_refl _)).below hb0) ⟨hs.1, hs.2⟩).mono ?_
  rintro e w2 ⟨⟨u, rfl⟩, x, hx, hxd, hxo, hag⟩
  obtain ⟨c0, c1, c2, c3, c4⟩ := dk_at hx
  obtain ⟨hq1, hq2⟩ := acell hag
  have HXD := hid hxd; have HXO := hid hxo; have HX := hid hx; clear hxd hxo hx
  have hX : w2.there (w.heap.size + 1) 0 5 := by
    intro j hj
    have := there_new (Below.refl (((w.alloc (.cells (d.at_ false (d.fuse - 1)).cells.toArray 24)).alloc (.cells #[.int .i64 0, .slice none 0 0, .slice none 0 0, .bool false, .int .i64 0] 24))).heap.size ((w.alloc (.cells (d.at_ false (d.fuse - 1)).cells.toArray 24)).alloc (.cells #[.int .i64 0, .slice none 0 0, .slice none 0 0, .bool false, .int .i64 0] 24))) (b := w.heap.size + 1) (by simp) j hj
    rw [← hq1 (w.heap.size + 1) (0 + j) (by simp) (by omega), ← hq2 (w.heap.size + 1) (0 + j) (by simp) (by omega)] at this
    exact this
  go_wp2_with fail
  go_step3
  go_wp2_with fail
  simp only [Exit.jump]
  have hbw : Below w.heap.size w w2 := hb0.trans (hag.below fun k hk => ⟨Nat.lt_of_lt_of_le hk hb0.size, by omega⟩)
  have hag2 : Agree (But Z w.heap.size (w.heap.size + 2)) w2 (w2.setCells (w.heap.size + 1) 0 x.cells) := setCells_agree (by rintro ⟨_, h | h⟩ <;> omega) _ _ _
  exact bodyPost_ret (w := w2.setCells (w.heap.size + 1) 0 x.cells) (results_cell2 rfl (b := w.heap.size + 1) (o := 0) x.cells rfl (World.rangeAt_setCells_same _ _ 0 _ hX) Try.underlying24 rfl (by kernel_rfl)) rfl ⟨x, rfl, HXD.out, (HXO.out.agree hag2).mono (fun k h => h.1), setCells_below hbw (by omega) _ _⟩
set_option maxHeartbeats 1000000 in
theorem act_pos_oks (d : Dk) {Z : Nat → Prop} (n : Int) (g : DD → DD) (hdn : d.down = false) (hf : 0 < d.fuse) (hf9 : ¬ d.cap < n) (hs : d.sm) (w : World) (hd : d.ok Z w)
    (does : ∀ (x : Dk) (w1 : World), Below w.heap.size w w1 → w.heap.size + 2 ≤ w1.heap.size → w1.heap[w.heap.size]? = some (.cells x.cells.toArray 24 (0, 0)) → x.ok (But Z w.heap.size (w.heap.size + 2)) w1 → x.sm → Calls Try.prog 59 #[.pointer (some ⟨w.heap.size, 0, none⟩)] w1 (ClPost w.heap.size (But Z w.heap.size (w.heap.size + 2)) (g x.dd) w1)) :
    Calls Try.prog 53 #[d.v, .int .i64 n, .func (.func 59) #[] #[]] w (RetD Z w (doS d.dd n g)) := by
  have G := hid hd; have HDO := hid does; clear hd does
  have ha : actS d.dd = ((d.at_ false (d.fuse - 1)).dd, 0) := by simp [actS, Dk.dd, Dk.at_, hdn, hf]; omega
  rw [show doS d.dd n g = (g (d.at_ false (d.fuse - 1)).dd, 0) from by rw [doS_ok (by rw [ha]) hf9, ha]]
  clear ha
  have hf0 : ¬ d.fuse = 0 := by omega
  have hf1 := G.out.i2.2
  rw [show d.v = .agg d.cells.toArray from rfl]
  unfold Dk.cells
  go_enter Try.func53, Try.ntmps53
  go_wp2_with fail
  refine wp_scope_fwd 0 rfl ?_
  go_wp2_with fail
  have hb0 : Below w.heap.size w ((w.alloc (.cells (d.at_ false (d.fuse - 1)).cells.toArray 24)).alloc (.cells #[.int .i64 0, .slice none 0 0, .slice none 0 0, .bool false, .int .i64 0] 24)) := below_alloc (below_new _ _) _
  refine (HDO.out (d.at_ false (d.fuse - 1)) ((w.alloc (.cells (d.at_ false (d.fuse - 1)).cells.toArray 24)).alloc (.cells #[.int .i64 0, .slice none 0 0, .slice none 0 0, .bool false, .int .i64 0] 24)) hb0 (by simp) (by rw [Below.heap_alloc _ _ _ (by simp)]; exact heap_alloc_new w _) (((G.out.at_ false (by have := G.out.i2; omega)).shrink (Nat.le_refl _)).below hb0) ⟨hs.1, hs.2⟩).mono ?_
  rintro e w2 ⟨⟨u, rfl⟩, x, hx, hxd, hxo, hag⟩
  obtain ⟨c0, c1, c2, c3, c4⟩ := dk_at hx
  obtain ⟨hq1, hq2⟩ := acell hag
  have HXD := hid hxd; have HXO := hid hxo; have HX := hid hx; clear hxd hxo hx
  have hX : w2.there (w.heap.size + 1) 0 5 := by
    intro j hj
    have := there_new (Below.refl (((w.alloc (.cells (d.at_ false (d.fuse - 1)).cells.toArray 24)).alloc (.cells #[.int .i64 0, .slice none 0 0, .slice none 0 0, .bool false, .int .i64 0] 24))).heap.size ((w.alloc (.cells (d.at_ false (d.fuse - 1)).cells.toArray 24)).alloc (.cells #[.int .i64 0, .slice none 0 0, .slice none 0 0, .bool false, .int .i64 0] 24))) (b := w.heap.size + 1) (by simp) j hj
    rw [← hq1 (w.heap.size + 1) (0 + j) (by simp) (by omega), ← hq2 (w.heap.size + 1) (0 + j) (by simp) (by omega)] at this
    exact this
  go_wp2_with fail
  go_step3
  go_wp2_with fail
  simp only [Exit.jump]
  have hbw : Below w.heap.size w w2 := hb0.trans (hag.below fun k hk => ⟨Nat.lt_of_lt_of_le hk hb0.size, by omega⟩)
  have hag2 : Agree (But Z w.heap.size (w.heap.size + 2)) w2 (w2.setCells (w.heap.size + 1) 0 x.cells) := setCells_agree (by rintro ⟨_, h | h⟩ <;> omega) _ _ _
  exact bodyPost_ret (w := w2.setCells (w.heap.size + 1) 0 x.cells) (results_cell2 rfl (b := w.heap.size + 1) (o := 0) x.cells rfl (World.rangeAt_setCells_same _ _ 0 _ hX) Try.underlying24 rfl (by kernel_rfl)) rfl ⟨x, rfl, HXD.out, (HXO.out.agree hag2).mono (fun k h => h.1), setCells_below hbw (by omega) _ _⟩
set_option maxHeartbeats 1000000 in
theorem act_pos_okr (d : Dk) {Z : Nat → Prop} (n : Int) (q : Nat) (g : DD → DD) (hdn : d.down = false) (hf : 0 < d.fuse) (hf9 : ¬ d.cap < n) (hs : d.sm) (w : World) (hd : d.ok Z w)
    (does : ∀ (x : Dk) (w1 : World), Below w.heap.size w w1 → w.heap.size + 2 ≤ w1.heap.size → w1.heap[w.heap.size]? = some (.cells x.cells.toArray 24 (0, 0)) → x.ok (But Z w.heap.size (w.heap.size + 2)) w1 → x.sm → Calls Try.prog 60 #[.pointer (some ⟨w.heap.size, 0, none⟩), .pointer (some ⟨q, 0, none⟩)] w1 (ClPost w.heap.size (But Z w.heap.size (w.heap.size + 2)) (g x.dd) w1)) :
    Calls Try.prog 53 #[d.v, .int .i64 n, .func (.func 60) #[] #[.pointer (some ⟨q, 0, none⟩)]] w (RetD Z w (doS d.dd n g)) := by
  have G := hid hd; have HDO := hid does; clear hd does
  have ha : actS d.dd = ((d.at_ false (d.fuse - 1)).dd, 0) := by simp [actS, Dk.dd, Dk.at_, hdn, hf]; omega
  rw [show doS d.dd n g = (g (d.at_ false (d.fuse - 1)).dd, 0) from by rw [doS_ok (by rw [ha]) hf9, ha]]
  clear ha
  have hf0 : ¬ d.fuse = 0 := by omega
  have hf1 := G.out.i2.2
  rw [show d.v = .agg d.cells.toArray from rfl]
  unfold Dk.cells
  go_enter Try.func53, Try.ntmps53
  go_wp2_with fail
  refine wp_scope_fwd 0 rfl ?_
  go_wp2_with fail
  have hb0 : Below w.heap.size w ((w.alloc (.cells (d.at_ false (d.fuse - 1)).cells.toArray 24)).alloc (.cells #[.int .i64 0, .slice none 0 0, .slice none 0 0, .bool false, .int .i64 0] 24)) := below_alloc (below_new _ _) _
  refine (HDO.out (d.at_ false (d.fuse - 1)) ((w.alloc (.cells (d.at_ false (d.fuse - 1)).cells.toArray 24)).alloc (.cells #[.int .i64 0, .slice none 0 0, .slice none 0 0, .bool false, .int .i64 0] 24)) hb0 (by simp) (by rw [Below.heap_alloc _ _ _ (by simp)]; exact heap_alloc_new w _) (((G.out.at_ false (by have := G.out.i2; omega)).shrink (Nat.le_refl _)).below hb0) ⟨hs.1, hs.2⟩).mono ?_
  rintro e w2 ⟨⟨u, rfl⟩, x, hx, hxd, hxo, hag⟩
  obtain ⟨c0, c1, c2, c3, c4⟩ := dk_at hx
  obtain ⟨hq1, hq2⟩ := acell hag
  have HXD := hid hxd; have HXO := hid hxo; have HX := hid hx; clear hxd hxo hx
  have hX : w2.there (w.heap.size + 1) 0 5 := by
    intro j hj
    have := there_new (Below.refl (((w.alloc (.cells (d.at_ false (d.fuse - 1)).cells.toArray 24)).alloc (.cells #[.int .i64 0, .slice none 0 0, .slice none 0 0, .bool false, .int .i64 0] 24))).heap.size ((w.alloc (.cells (d.at_ false (d.fuse - 1)).cells.toArray 24)).alloc (.cells #[.int .i64 0, .slice none 0 0, .slice none 0 0, .bool false, .int .i64 0] 24))) (b := w.heap.size + 1) (by simp) j hj
    rw [← hq1 (w.heap.size + 1) (0 + j) (by simp) (by omega), ← hq2 (w.heap.size + 1) (0 + j) (by simp) (by omega)] at this
    exact this
  go_wp2_with fail
  go_step3
  go_wp2_with fail
  simp only [Exit.jump]
  have hbw : Below w.heap.size w w2 := hb0.trans (hag.below fun k hk => ⟨Nat.lt_of_lt_of_le hk hb0.size, by omega⟩)
  have hag2 : Agree (But Z w.heap.size (w.heap.size + 2)) w2 (w2.setCells (w.heap.size + 1) 0 x.cells) := setCells_agree (by rintro ⟨_, h | h⟩ <;> omega) _ _ _
  exact bodyPost_ret (w := w2.setCells (w.heap.size + 1) 0 x.cells) (results_cell2 rfl (b := w.heap.size + 1) (o := 0) x.cells rfl (World.rangeAt_setCells_same _ _ 0 _ hX) Try.underlying24 rfl (by kernel_rfl)) rfl ⟨x, rfl, HXD.out, (HXO.out.agree hag2).mono (fun k h => h.1), setCells_below hbw (by omega) _ _⟩
set_option maxHeartbeats 1000000 in
theorem act_neg_full (d : Dk) {Z : Nat → Prop} (n : Int) (f : Nat) (ext : Array Value) (g : DD → DD) (hdn : d.down = false) (hf : d.fuse < 0) (hf9 : d.cap < n) (w : World) (hd : d.ok Z w) :
    Calls Try.prog 53 #[d.v, .int .i64 n, .func (.func f) #[] ext] w (RetD Z w (doS d.dd n g)) := by
  have G := hid hd; clear hd
  have ha : actS d.dd = ((d.at_ false d.fuse).dd, 0) := by simp only [actS, Dk.dd, Dk.at_, hdn]; rw [if_neg (by simp), if_neg (by omega), if_neg (by omega)]
  rw [show doS d.dd n g = ((d.at_ false d.fuse).dd, 9) from by rw [doS_full (by rw [ha]) hf9, ha]]
  clear ha
  have hf0 : ¬ d.fuse = 0 := by omega
  have hf1 : ¬ 0 < d.fuse := by omega
  rw [show d.v = .agg d.cells.toArray from rfl]
  unfold Dk.cells
  go_enter Try.func53, Try.ntmps53
  go_wp2_with fail
  refine wp_scope_fwd 0 rfl ?_
  go_wp2_with fail
  go_step3
  refine ⟨rfl, ?_⟩
  go_wp2_with fail
  simp only [Exit.jump]
  exact bodyPost_ret (results_cell2 rfl (b := w.heap.size + 1) (o := 0) (d.at_ false d.fuse).cells rfl (range_new (by simp)) Try.underlying24 rfl (by kernel_rfl)) rfl ⟨(d.at_ false d.fuse), rfl, rfl, (G.out.at_ false G.out.i2).below (below_alloc (below_new _ _) _), below_alloc (below_new _ _) _⟩
set_option maxHeartbeats 1000000 in
theorem act_neg_okw (d : Dk) {Z : Nat → Prop} (n : Int) (q : Nat) (g : DD → DD) (hdn : d.down = false) (hf : d.fuse < 0) (hf9 : ¬ d.cap < n) (hs : d.sm) (w : World) (hd : d.ok Z w)
    (does : ∀ (x : Dk) (w1 : World), Below w.heap.size w w1 → w.heap.size + 2 ≤ w1.heap.size → w1.heap[w.heap.size]? = some (.cells x.cells.toArray 24 (0, 0)) → x.ok (But Z w.heap.size (w.heap.size + 2)) w1 → x.sm → Calls Try.prog 55 #[.pointer (some ⟨w.heap.size, 0, none⟩), .pointer (some ⟨q, 0, none⟩)] w1 (ClPost w.heap.size (But Z w.heap.size (w.heap.size + 2)) (g x.dd) w1)) :
    Calls Try.prog 53 #[d.v, .int .i64 n, .func (.func 55) #[] #[.pointer (some ⟨q, 0, none⟩)]] w (RetD Z w (doS d.dd n g)) := by
  have G := hid hd; have HDO := hid does; clear hd does
  have ha : actS d.dd = ((d.at_ false d.fuse).dd, 0) := by simp only [actS, Dk.dd, Dk.at_, hdn]; rw [if_neg (by simp), if_neg (by omega), if_neg (by omega)]
  rw [show doS d.dd n g = (g (d.at_ false d.fuse).dd, 0) from by rw [doS_ok (by rw [ha]) hf9, ha]]
  clear ha
  have hf0 : ¬ d.fuse = 0 := by omega
  have hf1 : ¬ 0 < d.fuse := by omega
  rw [show d.v = .agg d.cells.toArray from rfl]
  unfold Dk.cells
  go_enter Try.func53, Try.ntmps53
  go_wp2_with fail
  refine wp_scope_fwd 0 rfl ?_
  go_wp2_with fail
  have hb0 : Below w.heap.size w ((w.alloc (.cells (d.at_ false d.fuse).cells.toArray 24)).alloc (.cells #[.int .i64 0, .slice none 0 0, .slice none 0 0, .bool false, .int .i64 0] 24)) := below_alloc (below_new _ _) _
  refine (HDO.out (d.at_ false d.fuse) ((w.alloc (.cells (d.at_ false d.fuse).cells.toArray 24)).alloc (.cells #[.int .i64 0, .slice none 0 0, .slice none 0 0, .bool false, .int .i64 0] 24)) hb0 (by simp) (by rw [Below.heap_alloc _ _ _ (by simp)]; exact heap_alloc_new w _) (((G.out.at_ false G.out.i2).shrink (Nat.le_refl _)).below hb0) ⟨hs.1, hs.2⟩).mono ?_
  rintro e w2 ⟨⟨u, rfl⟩, x, hx, hxd, hxo, hag⟩
  obtain ⟨c0, c1, c2, c3, c4⟩ := dk_at hx
  obtain ⟨hq1, hq2⟩ := acell hag
  have HXD := hid hxd; have HXO := hid hxo; have HX := hid hx; clear hxd hxo hx
  have hX : w2.there (w.heap.size + 1) 0 5 := by
    intro j hj
    have := there_new (Below.refl (((w.alloc (.cells (d.at_ false d.fuse).cells.toArray 24)).alloc (.cells #[.int .i64 0, .slice none 0 0, .slice none 0 0, .bool false, .int .i64 0] 24))).heap.size ((w.alloc (.cells (d.at_ false d.fuse).cells.toArray 24)).alloc (.cells #[.int .i64 0, .slice none 0 0, .slice none 0 0, .bool false, .int .i64 0] 24))) (b := w.heap.size + 1) (by simp) j hj
    rw [← hq1 (w.heap.size + 1) (0 + j) (by simp) (by omega), ← hq2 (w.heap.size + 1) (0 + j) (by simp) (by omega)] at this
    exact this
  go_wp2_with fail
  go_step3
  go_wp2_with fail
  simp only [Exit.jump]
  have hbw : Below w.heap.size w w2 := hb0.trans (hag.below fun k hk => ⟨Nat.lt_of_lt_of_le hk hb0.size, by omega⟩)
  have hag2 : Agree (But Z w.heap.size (w.heap.size + 2)) w2 (w2.setCells (w.heap.size + 1) 0 x.cells) := setCells_agree (by rintro ⟨_, h | h⟩ <;> omega) _ _ _
  exact bodyPost_ret (w := w2.setCells (w.heap.size + 1) 0 x.cells) (results_cell2 rfl (b := w.heap.size + 1) (o := 0) x.cells rfl (World.rangeAt_setCells_same _ _ 0 _ hX) Try.underlying24 rfl (by kernel_rfl)) rfl ⟨x, rfl, HXD.out, (HXO.out.agree hag2).mono (fun k h => h.1), setCells_below hbw (by omega) _ _⟩
set_option maxHeartbeats 1000000 in
theorem act_neg_oks (d : Dk) {Z : Nat → Prop} (n : Int) (g : DD → DD) (hdn : d.down = false) (hf : d.fuse < 0) (hf9 : ¬ d.cap < n) (hs : d.sm) (w : World) (hd : d.ok Z w)
    (does : ∀ (x : Dk) (w1 : World), Below w.heap.size w w1 → w.heap.size + 2 ≤ w1.heap.size → w1.heap[w.heap.size]? = some (.cells x.cells.toArray 24 (0, 0)) → x.ok (But Z w.heap.size (w.heap.size + 2)) w1 → x.sm → Calls Try.prog 59 #[.pointer (some ⟨w.heap.size, 0, none⟩)] w1 (ClPost w.heap.size (But Z w.heap.size (w.heap.size + 2)) (g x.dd) w1)) :
    Calls Try.prog 53 #[d.v, .int .i64 n, .func (.func 59) #[] #[]] w (RetD Z w (doS d.dd n g)) := by
  have G := hid hd; have HDO := hid does; clear hd does
  have ha : actS d.dd = ((d.at_ false d.fuse).dd, 0) := by simp only [actS, Dk.dd, Dk.at_, hdn]; rw [if_neg (by simp), if_neg (by omega), if_neg (by omega)]
  rw [show doS d.dd n g = (g (d.at_ false d.fuse).dd, 0) from by rw [doS_ok (by rw [ha]) hf9, ha]]
  clear ha
  have hf0 : ¬ d.fuse = 0 := by omega
  have hf1 : ¬ 0 < d.fuse := by omega
  rw [show d.v = .agg d.cells.toArray from rfl]
  unfold Dk.cells
  go_enter Try.func53, Try.ntmps53
  go_wp2_with fail
  refine wp_scope_fwd 0 rfl ?_
  go_wp2_with fail
  have hb0 : Below w.heap.size w ((w.alloc (.cells (d.at_ false d.fuse).cells.toArray 24)).alloc (.cells #[.int .i64 0, .slice none 0 0, .slice none 0 0, .bool false, .int .i64 0] 24)) := below_alloc (below_new _ _) _
  refine (HDO.out (d.at_ false d.fuse) ((w.alloc (.cells (d.at_ false d.fuse).cells.toArray 24)).alloc (.cells #[.int .i64 0, .slice none 0 0, .slice none 0 0, .bool false, .int .i64 0] 24)) hb0 (by simp) (by rw [Below.heap_alloc _ _ _ (by simp)]; exact heap_alloc_new w _) (((G.out.at_ false G.out.i2).shrink (Nat.le_refl _)).below hb0) ⟨hs.1, hs.2⟩).mono ?_
  rintro e w2 ⟨⟨u, rfl⟩, x, hx, hxd, hxo, hag⟩
  obtain ⟨c0, c1, c2, c3, c4⟩ := dk_at hx
  obtain ⟨hq1, hq2⟩ := acell hag
  have HXD := hid hxd; have HXO := hid hxo; have HX := hid hx; clear hxd hxo hx
  have hX : w2.there (w.heap.size + 1) 0 5 := by
    intro j hj
    have := there_new (Below.refl (((w.alloc (.cells (d.at_ false d.fuse).cells.toArray 24)).alloc (.cells #[.int .i64 0, .slice none 0 0, .slice none 0 0, .bool false, .int .i64 0] 24))).heap.size ((w.alloc (.cells (d.at_ false d.fuse).cells.toArray 24)).alloc (.cells #[.int .i64 0, .slice none 0 0, .slice none 0 0, .bool false, .int .i64 0] 24))) (b := w.heap.size + 1) (by simp) j hj
    rw [← hq1 (w.heap.size + 1) (0 + j) (by simp) (by omega), ← hq2 (w.heap.size + 1) (0 + j) (by simp) (by omega)] at this
    exact this
  go_wp2_with fail
  go_step3
  go_wp2_with fail
  simp only [Exit.jump]
  have hbw : Below w.heap.size w w2 := hb0.trans (hag.below fun k hk => ⟨Nat.lt_of_lt_of_le hk hb0.size, by omega⟩)
  have hag2 : Agree (But Z w.heap.size (w.heap.size + 2)) w2 (w2.setCells (w.heap.size + 1) 0 x.cells) := setCells_agree (by rintro ⟨_, h | h⟩ <;> omega) _ _ _
  exact bodyPost_ret (w := w2.setCells (w.heap.size + 1) 0 x.cells) (results_cell2 rfl (b := w.heap.size + 1) (o := 0) x.cells rfl (World.rangeAt_setCells_same _ _ 0 _ hX) Try.underlying24 rfl (by kernel_rfl)) rfl ⟨x, rfl, HXD.out, (HXO.out.agree hag2).mono (fun k h => h.1), setCells_below hbw (by omega) _ _⟩
set_option maxHeartbeats 1000000 in
theorem act_neg_okr (d : Dk) {Z : Nat → Prop} (n : Int) (q : Nat) (g : DD → DD) (hdn : d.down = false) (hf : d.fuse < 0) (hf9 : ¬ d.cap < n) (hs : d.sm) (w : World) (hd : d.ok Z w)
    (does : ∀ (x : Dk) (w1 : World), Below w.heap.size w w1 → w.heap.size + 2 ≤ w1.heap.size → w1.heap[w.heap.size]? = some (.cells x.cells.toArray 24 (0, 0)) → x.ok (But Z w.heap.size (w.heap.size + 2)) w1 → x.sm → Calls Try.prog 60 #[.pointer (some ⟨w.heap.size, 0, none⟩), .pointer (some ⟨q, 0, none⟩)] w1 (ClPost w.heap.size (But Z w.heap.size (w.heap.size + 2)) (g x.dd) w1)) :
    Calls Try.prog 53 #[d.v, .int .i64 n, .func (.func 60) #[] #[.pointer (some ⟨q, 0, none⟩)]] w (RetD Z w (doS d.dd n g)) := by
  have G := hid hd; have HDO := hid does; clear hd does
  have ha : actS d.dd = ((d.at_ false d.fuse).dd, 0) := by simp only [actS, Dk.dd, Dk.at_, hdn]; rw [if_neg (by simp), if_neg (by omega), if_neg (by omega)]
  rw [show doS d.dd n g = (g (d.at_ false d.fuse).dd, 0) from by rw [doS_ok (by rw [ha]) hf9, ha]]
  clear ha
  have hf0 : ¬ d.fuse = 0 := by omega
  have hf1 : ¬ 0 < d.fuse := by omega
  rw [show d.v = .agg d.cells.toArray from rfl]
  unfold Dk.cells
  go_enter Try.func53, Try.ntmps53
  go_wp2_with fail
  refine wp_scope_fwd 0 rfl ?_
  go_wp2_with fail
  have hb0 : Below w.heap.size w ((w.alloc (.cells (d.at_ false d.fuse).cells.toArray 24)).alloc (.cells #[.int .i64 0, .slice none 0 0, .slice none 0 0, .bool false, .int .i64 0] 24)) := below_alloc (below_new _ _) _
  refine (HDO.out (d.at_ false d.fuse) ((w.alloc (.cells (d.at_ false d.fuse).cells.toArray 24)).alloc (.cells #[.int .i64 0, .slice none 0 0, .slice none 0 0, .bool false, .int .i64 0] 24)) hb0 (by simp) (by rw [Below.heap_alloc _ _ _ (by simp)]; exact heap_alloc_new w _) (((G.out.at_ false G.out.i2).shrink (Nat.le_refl _)).below hb0) ⟨hs.1, hs.2⟩).mono ?_
  rintro e w2 ⟨⟨u, rfl⟩, x, hx, hxd, hxo, hag⟩
  obtain ⟨c0, c1, c2, c3, c4⟩ := dk_at hx
  obtain ⟨hq1, hq2⟩ := acell hag
  have HXD := hid hxd; have HXO := hid hxo; have HX := hid hx; clear hxd hxo hx
  have hX : w2.there (w.heap.size + 1) 0 5 := by
    intro j hj
    have := there_new (Below.refl (((w.alloc (.cells (d.at_ false d.fuse).cells.toArray 24)).alloc (.cells #[.int .i64 0, .slice none 0 0, .slice none 0 0, .bool false, .int .i64 0] 24))).heap.size ((w.alloc (.cells (d.at_ false d.fuse).cells.toArray 24)).alloc (.cells #[.int .i64 0, .slice none 0 0, .slice none 0 0, .bool false, .int .i64 0] 24))) (b := w.heap.size + 1) (by simp) j hj
    rw [← hq1 (w.heap.size + 1) (0 + j) (by simp) (by omega), ← hq2 (w.heap.size + 1) (0 + j) (by simp) (by omega)] at this
    exact this
  go_wp2_with fail
  go_step3
  go_wp2_with fail
  simp only [Exit.jump]
  have hbw : Below w.heap.size w w2 := hb0.trans (hag.below fun k hk => ⟨Nat.lt_of_lt_of_le hk hb0.size, by omega⟩)
  have hag2 : Agree (But Z w.heap.size (w.heap.size + 2)) w2 (w2.setCells (w.heap.size + 1) 0 x.cells) := setCells_agree (by rintro ⟨_, h | h⟩ <;> omega) _ _ _
  exact bodyPost_ret (w := w2.setCells (w.heap.size + 1) 0 x.cells) (results_cell2 rfl (b := w.heap.size + 1) (o := 0) x.cells rfl (World.rangeAt_setCells_same _ _ 0 _ hX) Try.underlying24 rfl (by kernel_rfl)) rfl ⟨x, rfl, HXD.out, (HXO.out.agree hag2).mono (fun k h => h.1), setCells_below hbw (by omega) _ _⟩
theorem act_any_w (d : Dk) {Z : Nat → Prop} (n : Int) (q : Nat) (g : DD → DD) (hs : d.sm) (w : World) (hd : d.ok Z w)
    (does : ∀ (x : Dk) (w1 : World), Below w.heap.size w w1 → w.heap.size + 2 ≤ w1.heap.size → w1.heap[w.heap.size]? = some (.cells x.cells.toArray 24 (0, 0)) → x.ok (But Z w.heap.size (w.heap.size + 2)) w1 → x.sm → Calls Try.prog 55 #[.pointer (some ⟨w.heap.size, 0, none⟩), .pointer (some ⟨q, 0, none⟩)] w1 (ClPost w.heap.size (But Z w.heap.size (w.heap.size + 2)) (g x.dd) w1)) :
    Calls Try.prog 53 #[d.v, .int .i64 n, .func (.func 55) #[] #[.pointer (some ⟨q, 0, none⟩)]] w (RetD Z w (doS d.dd n g)) := by
  cases hdn : d.down with
  | true => exact act_down_err d n _ _ g hdn w hd
  | false =>
    by_cases h0 : d.fuse = 0
    · exact act_zero_err d n _ _ g hdn h0 w hd
    · by_cases h1 : 0 < d.fuse
      · by_cases h9 : d.cap < n
        · exact act_pos_full d n _ _ g hdn h1 h9 w hd
        · exact act_pos_okw d n q g hdn h1 h9 hs w hd does
      · by_cases h9 : d.cap < n
        · exact act_neg_full d n _ _ g hdn (by omega) h9 w hd
        · exact act_neg_okw d n q g hdn (by omega) h9 hs w hd does
theorem act_any_s (d : Dk) {Z : Nat → Prop} (n : Int) (g : DD → DD) (hs : d.sm) (w : World) (hd : d.ok Z w)
    (does : ∀ (x : Dk) (w1 : World), Below w.heap.size w w1 → w.heap.size + 2 ≤ w1.heap.size → w1.heap[w.heap.size]? = some (.cells x.cells.toArray 24 (0, 0)) → x.ok (But Z w.heap.size (w.heap.size + 2)) w1 → x.sm → Calls Try.prog 59 #[.pointer (some ⟨w.heap.size, 0, none⟩)] w1 (ClPost w.heap.size (But Z w.heap.size (w.heap.size + 2)) (g x.dd) w1)) :
    Calls Try.prog 53 #[d.v, .int .i64 n, .func (.func 59) #[] #[]] w (RetD Z w (doS d.dd n g)) := by
  cases hdn : d.down with
  | true => exact act_down_err d n _ _ g hdn w hd
  | false =>
    by_cases h0 : d.fuse = 0
    · exact act_zero_err d n _ _ g hdn h0 w hd
    · by_cases h1 : 0 < d.fuse
      · by_cases h9 : d.cap < n
        · exact act_pos_full d n _ _ g hdn h1 h9 w hd
        · exact act_pos_oks d n g hdn h1 h9 hs w hd does
      · by_cases h9 : d.cap < n
        · exact act_neg_full d n _ _ g hdn (by omega) h9 w hd
        · exact act_neg_oks d n g hdn (by omega) h9 hs w hd does
theorem act_any_r (d : Dk) {Z : Nat → Prop} (n : Int) (q : Nat) (g : DD → DD) (hs : d.sm) (w : World) (hd : d.ok Z w)
    (does : ∀ (x : Dk) (w1 : World), Below w.heap.size w w1 → w.heap.size + 2 ≤ w1.heap.size → w1.heap[w.heap.size]? = some (.cells x.cells.toArray 24 (0, 0)) → x.ok (But Z w.heap.size (w.heap.size + 2)) w1 → x.sm → Calls Try.prog 60 #[.pointer (some ⟨w.heap.size, 0, none⟩), .pointer (some ⟨q, 0, none⟩)] w1 (ClPost w.heap.size (But Z w.heap.size (w.heap.size + 2)) (g x.dd) w1)) :
    Calls Try.prog 53 #[d.v, .int .i64 n, .func (.func 60) #[] #[.pointer (some ⟨q, 0, none⟩)]] w (RetD Z w (doS d.dd n g)) := by
  cases hdn : d.down with
  | true => exact act_down_err d n _ _ g hdn w hd
  | false =>
    by_cases h0 : d.fuse = 0
    · exact act_zero_err d n _ _ g hdn h0 w hd
    · by_cases h1 : 0 < d.fuse
      · by_cases h9 : d.cap < n
        · exact act_pos_full d n _ _ g hdn h1 h9 w hd
        · exact act_pos_okr d n q g hdn h1 h9 hs w hd does
      · by_cases h9 : d.cap < n
        · exact act_neg_full d n _ _ g hdn (by omega) h9 w hd
        · exact act_neg_okr d n q g hdn (by omega) h9 hs w hd does
end Go.Proofs.Ythboeilpeggpoaa
