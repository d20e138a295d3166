/-
  Package disk: Write, Sync, Replace.
-/
import Derived.Test.YthboeilpeggpoaaDiskF
import Derived.IntWalk
import Derived.Test.YthboeilpeggpoaaRegL
namespace Go.Proofs.Ythboeilpeggpoaa
open Go.RowKit
theorem actw_any (d : Dk) {Z : Nat → Prop} (long : Int) (q : Nat) (A : Option Addr) (b : Bytes) (n c : Nat) (hm : b.length = n) (hn : n ≤ 1000000) (hs : d.sm) (w : World) (hd : d.ok Z w) (hZ : ∀ k, w.heap.size ≤ k → Z k) (hq : w.cell? ⟨q, 0, none⟩ = some (.slice A n c)) (hc : n ≤ c) (hc2 : c ≤ maxLen) (hb : Sl byteR 1 w.heap.size w A b) :
    Calls Try.prog 53 #[d.v, .int .i64 long, .func (.func 55) #[] #[.pointer (some ⟨q, 0, none⟩)]] w (RetD Z w (doS d.dd long (addS b))) := by
  refine act_any_w d long q (addS b) hs w hd fun x w1 h1 h2 h3 h4 h5 => ?_
  have hlt := World.block_lt_of_cell? w _ hq
  exact cl_w x w.heap.size q A b n c (Nat.ne_of_lt hlt) hm hn w1 h3 h5 h4 (by rintro ⟨_, h | h⟩ <;> omega) (but_up hZ (by omega) h2) ((h1.cell (p := ⟨q, 0, none⟩) hlt).trans hq) hc hc2 (hb.call h1)
theorem acts_any (d : Dk) {Z : Nat → Prop} (long : Int) (hs : d.sm) (w : World) (hd : d.ok Z w) (hZ : ∀ k, w.heap.size ≤ k → Z k) :
    Calls Try.prog 53 #[d.v, .int .i64 long, .func (.func 59) #[] #[]] w (RetD Z w (doS d.dd long (allS))) := by
  refine act_any_s d long (allS) hs w hd fun x w1 h1 h2 h3 h4 h5 => ?_
  exact cl_s x w.heap.size w1 h3 h5 h4 (by rintro ⟨_, h | h⟩ <;> omega) (but_up hZ (by omega) h2)
theorem actr_any (d : Dk) {Z : Nat → Prop} (long : Int) (q : Nat) (A : Option Addr) (b : Bytes) (n c : Nat) (hm : b.length = n) (hn : n ≤ 1000000) (hs : d.sm) (w : World) (hd : d.ok Z w) (hZ : ∀ k, w.heap.size ≤ k → Z k) (hq : w.cell? ⟨q, 0, none⟩ = some (.slice A n c)) (hc : n ≤ c) (hc2 : c ≤ maxLen) (hb : Sl byteR 1 w.heap.size w A b) :
    Calls Try.prog 53 #[d.v, .int .i64 long, .func (.func 60) #[] #[.pointer (some ⟨q, 0, none⟩)]] w (RetD Z w (doS d.dd long (otherS b))) := by
  refine act_any_r d long q (otherS b) hs w hd fun x w1 h1 h2 h3 h4 h5 => ?_
  have hlt := World.block_lt_of_cell? w _ hq
  exact cl_r x w.heap.size q A b n c (Nat.ne_of_lt hlt) hm hn w1 h3 h5 h4 (by rintro ⟨_, h | h⟩ <;> omega) (but_up hZ (by omega) h2) ((h1.cell (p := ⟨q, 0, none⟩) hlt).trans hq) hc hc2 (hb.call h1)
set_option maxHeartbeats 1000000 in
theorem write_any (d : Dk) {Z : Nat → Prop} (A : Option Addr) (b : Bytes) (n c : Nat) (hm : b.length = n) (hn : n ≤ 1000000) (hc : n ≤ c) (hc2 : c ≤ maxLen) (hs : d.sm) (w : World) (hb : Sl byteR 1 w.heap.size w A b) (hZ : ∀ k, w.heap.size ≤ k → Z k) (hd : d.ok Z w) : Calls Try.prog 22 #[d.v, .slice A n c] w (RetD Z w (writeS d.dd b)) := by
  have hW : Below w.heap.size w (((w.alloc (.cells #[.int .i64 d.cap, .slice d.A1 d.s.length d.c1, .slice d.A2 d.l.length d.c2, .bool d.down, .int .i64 d.fuse] 24)).alloc (.cells #[.slice A n c] 22)).alloc (.cells #[.int .i64 0, .slice none 0 0, .slice none 0 0, .bool false, .int .i64 0] 24)) := below_alloc (below_alloc (below_new _ _) _) _
  have hd2 : d.ok (But Z w.heap.size (w.heap.size + 3)) (((w.alloc (.cells #[.int .i64 d.cap, .slice d.A1 d.s.length d.c1, .slice d.A2 d.l.length d.c2, .bool d.down, .int .i64 d.fuse] 24)).alloc (.cells #[.slice A n c] 22)).alloc (.cells #[.int .i64 0, .slice none 0 0, .slice none 0 0, .bool false, .int .i64 0] 24)) := (hd.shrink (Nat.le_refl _)).below hW
  have hl1 : ((longS d.dd : Nat) : Int) ≤ 2000000 := by have := hs.1; have := hs.2; simp [longS, Dk.dd]; omega
  have hspec : writeS d.dd b = doS d.dd (((longS d.dd : Nat) : Int) + n) (addS b) := by rw [← hm]; rfl
  have HW := hid hW; have HD := hid hd2; have G := hid hd; have HZ := hid hZ; have HSM := hid hs; clear hW hd2 hd hZ hs
  have HBB := hid hb; have HM := hid hm; have HC := hid (And.intro hc hc2); clear hb hm hc hc2
  unfold Dk.v
  rw [hspec]
  clear hspec
  go_enter Try.func22, Try.ntmps22
  go_wp2_with fail
  have hwr : IntKind.i64.wrap (((longS d.dd : Nat) : Int) + n) = ((longS d.dd : Nat) : Int) + n := IntWalk.i64_in _ (by omega)
  refine reg_startZ (fun k => k ≠ w.heap.size + 2) (by kernel_rfl) fun w4 hHeld hU => ?_
  have hT := hHeld
  refine reg_rd 0 (v := ?_) rfl (by kernel_rfl) (by kernel_rfl) (by kernel_rfl) (fun _ _ _ h => h) (by rfl) (by assumption) ?_ ?_
  rotate_left
  · (intro w' hSw; obtain ⟨hq1, hq2⟩ := acell hSw; first | (go_simp; done) | (go_simp; with_reducible rfl) | (obtain ⟨hq3, hq4⟩ := acell (hT.trans hSw); first | (go_simp; done) | (go_simp; with_reducible rfl)))
  try simp only [Act.put, List.setIfInBounds_toArray, List.set_cons_zero, List.set_cons_succ]
  refine reg_rd 1 (v := ?_) rfl (by kernel_rfl) (by kernel_rfl) (by kernel_rfl) (fun _ _ _ h => h) (by rfl) (by assumption) ?_ ?_
  rotate_left
  · (intro w' hSw; obtain ⟨hq1, hq2⟩ := acell hSw; first | (go_simp; done) | (go_simp; with_reducible rfl) | (obtain ⟨hq3, hq4⟩ := acell (hT.trans hSw); first | (go_simp; done) | (go_simp; with_reducible rfl)))
  try simp only [Act.put, List.setIfInBounds_toArray, List.set_cons_zero, List.set_cons_succ]
  refine reg_rd 3 (v := ?_) rfl (by kernel_rfl) (by kernel_rfl) (by kernel_rfl) (fun _ _ _ h => h) (by rfl) (by assumption) ?_ ?_
  rotate_left
  · (intro w' hSw; obtain ⟨hq1, hq2⟩ := acell hSw; first | (go_simp; done) | (go_simp; with_reducible rfl) | (obtain ⟨hq3, hq4⟩ := acell (hT.trans hSw); first | (go_simp; done) | (go_simp; with_reducible rfl)))
  try simp only [Act.put, List.setIfInBounds_toArray, List.set_cons_zero, List.set_cons_succ]
  refine reg_rd 4 (v := ?_) rfl (by kernel_rfl) (by kernel_rfl) (by kernel_rfl) (fun _ _ _ h => h) (by rfl) (by assumption) ?_ ?_
  rotate_left
  · intro w hSw; go_simp; with_reducible rfl
  try simp only [Act.put, List.setIfInBounds_toArray, List.set_cons_zero, List.set_cons_succ]
  refine reg_rd 6 (v := ?_) rfl (by kernel_rfl) (by kernel_rfl) (by kernel_rfl) (fun _ _ _ h => h) (by rfl) (by assumption) ?_ ?_
  rotate_left
  · intro w hSw; go_simp; with_reducible rfl
  try simp only [Act.put, List.setIfInBounds_toArray, List.set_cons_zero, List.set_cons_succ]
  refine wpAnyH_ready (rs := [2]) (by kernel_rfl) (by simp) ?_
  refine reg_do1 rfl (by rfl) (fun K hK => ?_)
  go_simp
  first | (go_at_call 54; refine (long_any d HSM.out _).mono ?_; rintro e wX ⟨rfl, hbX⟩; replace hU := below_then hU hbX; replace hT := hT.trans (agree_of_below hbX)) | (go_at_call 53; refine (actw_any (Z := But Z w.heap.size (w.heap.size + 3)) d _ (w.heap.size + 1) A b n c HM.out hn HSM.out _ (HD.out.below hU) (but_up HZ.out (by omega) (by have := hU.size; simp at this; omega)) ((hU.cell (p := ⟨w.heap.size + 1, 0, none⟩) (by simp)).trans (by simp [go_sem])) HC.out.1 HC.out.2 (HBB.out.call (below_then HW.out hU))).mono ?_; rintro e wX ⟨d1, rfl, hdd, hok, hbX⟩; have hUX := below_then hU hbX; obtain ⟨hx3, hx4⟩ := bcell hUX; have HDD := hid hdd; have HOK := hid hok; clear hdd hok; replace hT := hT.trans (agree_of_below hbX); unfold Dk.v)
  go_wp2_with fail
  refine hK.out _ _ ?_ (fun hNext => ?_)
  · assumption
  clear hK K hHeld
  refine wpAnyZ_base hNext fun hHeld => ?_
  clear hNext
  try simp only [Act.put, List.setIfInBounds_toArray, List.set_cons_zero, List.set_cons_succ]
  refine reg_rd 5 (v := ?_) rfl (by kernel_rfl) (by kernel_rfl) (by kernel_rfl) (fun _ _ _ h => h) (by rfl) (by assumption) ?_ ?_
  rotate_left
  · intro w hSw; go_simp; with_reducible rfl
  try simp only [Act.put, List.setIfInBounds_toArray, List.set_cons_zero, List.set_cons_succ]
  refine wpAnyH_ready (rs := [7]) (by kernel_rfl) (by simp) ?_
  refine reg_do1 rfl (by rfl) (fun K hK => ?_)
  go_simp
  first | (go_at_call 54; refine (long_any d HSM.out _).mono ?_; rintro e wX ⟨rfl, hbX⟩; replace hU := below_then hU hbX; replace hT := hT.trans (agree_of_below hbX)) | (go_at_call 53; refine (actw_any (Z := But Z w.heap.size (w.heap.size + 3)) d _ (w.heap.size + 1) A b n c HM.out hn HSM.out _ (HD.out.below hU) (but_up HZ.out (by omega) (by have := hU.size; simp at this; omega)) ((hU.cell (p := ⟨w.heap.size + 1, 0, none⟩) (by simp)).trans (by simp [go_sem])) HC.out.1 HC.out.2 (HBB.out.call (below_then HW.out hU))).mono ?_; rintro e wX ⟨d1, rfl, hdd, hok, hbX⟩; have hUX := below_then hU hbX; obtain ⟨hx3, hx4⟩ := bcell hUX; have HDD := hid hdd; have HOK := hid hok; clear hdd hok; replace hT := hT.trans (agree_of_below hbX); unfold Dk.v)
  go_wp2_with fail
  refine hK.out _ _ ?_ (fun hNext => ?_)
  · (repeat (first | assumption | exact agree_of_below (by assumption) | refine Agree.setCell ?_ (by simp) _ | refine Agree.alloc ?_ _))
  clear hK K hHeld
  refine wpAnyZ_base hNext fun hHeld => ?_
  clear hNext
  try simp only [Act.put, List.setIfInBounds_toArray, List.set_cons_zero, List.set_cons_succ]
  refine reg_rd 8 (v := ?_) rfl (by kernel_rfl) (by kernel_rfl) (by kernel_rfl) (fun _ _ _ h => h) (by rfl) (by assumption) ?_ ?_
  rotate_left
  · intro w hSw; go_simp; with_reducible rfl
  try simp only [Act.put, List.setIfInBounds_toArray, List.set_cons_zero, List.set_cons_succ]
  refine reg_rd 9 (v := ?_) rfl (by kernel_rfl) (by kernel_rfl) (by kernel_rfl) (fun _ _ _ h => h) (by rfl) (by assumption) ?_ ?_
  rotate_left
  · intro w hSw; go_simp; with_reducible rfl
  try simp only [Act.put, List.setIfInBounds_toArray, List.set_cons_zero, List.set_cons_succ]
  refine wpAnyH_ready (rs := [10]) (by kernel_rfl) (by simp) ?_
  refine reg_do1 rfl (by rfl) (fun K hK => ?_)
  go_simp
  refine hK.out _ _ ?_ (fun hNext => ?_)
  · (repeat (first | assumption | exact agree_of_below (by assumption) | refine Agree.setCell ?_ (by simp) _ | refine Agree.alloc ?_ _))
  clear hK K hHeld
  refine wpAnyZ_base hNext fun hHeld => ?_
  clear hNext
  try simp only [Act.put, List.setIfInBounds_toArray, List.set_cons_zero, List.set_cons_succ]
  refine reg_rd 11 (v := ?_) rfl (by kernel_rfl) (by kernel_rfl) (by kernel_rfl) (fun _ _ _ h => h) (by rfl) (by assumption) ?_ ?_
  rotate_left
  · intro w hSw; go_simp; with_reducible rfl
  try simp only [Act.put, List.setIfInBounds_toArray, List.set_cons_zero, List.set_cons_succ]
  refine wpAnyH_done (by kernel_rfl) ?_ _
  go_wp2_with fail
  have hX : wX.there (w.heap.size + 2) 0 5 := there_new hUX (by simp)
  have hbw := below_then HW.out hUX
  have hag : Agree (But Z w.heap.size (w.heap.size + 3)) wX (wX.setCells (w.heap.size + 2) 0 d1.cells) := setCells_agree (by rintro ⟨_, h | h⟩ <;> omega) _ _ _
  exact bodyPost_ret (w := wX.setCells (w.heap.size + 2) 0 d1.cells) (results_cell2 rfl (b := w.heap.size + 2) (o := 0) d1.cells rfl (World.rangeAt_setCells_same wX _ 0 _ hX) Try.underlying24 rfl (by kernel_rfl)) rfl ⟨d1, rfl, HDD.out, (HOK.out.agree hag).mono (fun k h => h.1), setCells_below hbw (by omega) _ _⟩
set_option maxHeartbeats 1000000 in
theorem sync_any (d : Dk) {Z : Nat → Prop} (hs : d.sm) (w : World) (hZ : ∀ k, w.heap.size ≤ k → Z k) (hd : d.ok Z w) : Calls Try.prog 24 #[d.v] w (RetD Z w (syncS d.dd)) := by
  have hW : Below w.heap.size w ((w.alloc (.cells #[.int .i64 d.cap, .slice d.A1 d.s.length d.c1, .slice d.A2 d.l.length d.c2, .bool d.down, .int .i64 d.fuse] 24)).alloc (.cells #[.int .i64 0, .slice none 0 0, .slice none 0 0, .bool false, .int .i64 0] 24)) := below_alloc (below_new _ _) _
  have hd2 : d.ok (But Z w.heap.size (w.heap.size + 2)) ((w.alloc (.cells #[.int .i64 d.cap, .slice d.A1 d.s.length d.c1, .slice d.A2 d.l.length d.c2, .bool d.down, .int .i64 d.fuse] 24)).alloc (.cells #[.int .i64 0, .slice none 0 0, .slice none 0 0, .bool false, .int .i64 0] 24)) := (hd.shrink (Nat.le_refl _)).below hW
  have hl1 : ((longS d.dd : Nat) : Int) ≤ 2000000 := by have := hs.1; have := hs.2; simp [longS, Dk.dd]; omega
  have hspec : syncS d.dd = doS d.dd (((longS d.dd : Nat) : Int)) (allS) := rfl
  have HW := hid hW; have HD := hid hd2; have G := hid hd; have HZ := hid hZ; have HSM := hid hs; clear hW hd2 hd hZ hs
  unfold Dk.v
  rw [hspec]
  clear hspec
  go_enter Try.func24, Try.ntmps24
  go_wp2_with fail
  refine reg_startZ (fun k => k ≠ w.heap.size + 1) (by kernel_rfl) fun w4 hHeld hU => ?_
  have hT := hHeld
  refine reg_rd 0 (v := ?_) rfl (by kernel_rfl) (by kernel_rfl) (by kernel_rfl) (fun _ _ _ h => h) (by rfl) (by assumption) ?_ ?_
  rotate_left
  · (intro w' hSw; obtain ⟨hq1, hq2⟩ := acell hSw; first | (go_simp; done) | (go_simp; with_reducible rfl) | (obtain ⟨hq3, hq4⟩ := acell (hT.trans hSw); first | (go_simp; done) | (go_simp; with_reducible rfl)))
  try simp only [Act.put, List.setIfInBounds_toArray, List.set_cons_zero, List.set_cons_succ]
  refine reg_rd 1 (v := ?_) rfl (by kernel_rfl) (by kernel_rfl) (by kernel_rfl) (fun _ _ _ h => h) (by rfl) (by assumption) ?_ ?_
  rotate_left
  · (intro w' hSw; obtain ⟨hq1, hq2⟩ := acell hSw; first | (go_simp; done) | (go_simp; with_reducible rfl) | (obtain ⟨hq3, hq4⟩ := acell (hT.trans hSw); first | (go_simp; done) | (go_simp; with_reducible rfl)))
  try simp only [Act.put, List.setIfInBounds_toArray, List.set_cons_zero, List.set_cons_succ]
  refine wpAnyH_ready (rs := [2]) (by kernel_rfl) (by simp) ?_
  refine reg_do1 rfl (by rfl) (fun K hK => ?_)
  go_simp
  first | (go_at_call 54; refine (long_any d HSM.out _).mono ?_; rintro e wX ⟨rfl, hbX⟩; replace hU := below_then hU hbX; replace hT := hT.trans (agree_of_below hbX)) | (go_at_call 53; refine (acts_any (Z := But Z w.heap.size (w.heap.size + 2)) d _ HSM.out _ (HD.out.below hU) (but_up HZ.out (by omega) (by have := hU.size; simp at this; omega))).mono ?_; rintro e wX ⟨d1, rfl, hdd, hok, hbX⟩; have hUX := below_then hU hbX; obtain ⟨hx3, hx4⟩ := bcell hUX; have HDD := hid hdd; have HOK := hid hok; clear hdd hok; replace hT := hT.trans (agree_of_below hbX); unfold Dk.v)
  go_wp2_with fail
  refine hK.out _ _ ?_ (fun hNext => ?_)
  · assumption
  clear hK K hHeld
  refine wpAnyZ_base hNext fun hHeld => ?_
  clear hNext
  try simp only [Act.put, List.setIfInBounds_toArray, List.set_cons_zero, List.set_cons_succ]
  refine wpAnyH_ready (rs := [3]) (by kernel_rfl) (by simp) ?_
  refine reg_do1 rfl (by rfl) (fun K hK => ?_)
  go_simp
  first | (go_at_call 54; refine (long_any d HSM.out _).mono ?_; rintro e wX ⟨rfl, hbX⟩; replace hU := below_then hU hbX; replace hT := hT.trans (agree_of_below hbX)) | (go_at_call 53; refine (acts_any (Z := But Z w.heap.size (w.heap.size + 2)) d _ HSM.out _ (HD.out.below hU) (but_up HZ.out (by omega) (by have := hU.size; simp at this; omega))).mono ?_; rintro e wX ⟨d1, rfl, hdd, hok, hbX⟩; have hUX := below_then hU hbX; obtain ⟨hx3, hx4⟩ := bcell hUX; have HDD := hid hdd; have HOK := hid hok; clear hdd hok; replace hT := hT.trans (agree_of_below hbX); unfold Dk.v)
  go_wp2_with fail
  refine hK.out _ _ ?_ (fun hNext => ?_)
  · (repeat (first | assumption | exact agree_of_below (by assumption) | refine Agree.setCell ?_ (by simp) _ | refine Agree.alloc ?_ _))
  clear hK K hHeld
  refine wpAnyZ_base hNext fun hHeld => ?_
  clear hNext
  try simp only [Act.put, List.setIfInBounds_toArray, List.set_cons_zero, List.set_cons_succ]
  refine reg_rd 4 (v := ?_) rfl (by kernel_rfl) (by kernel_rfl) (by kernel_rfl) (fun _ _ _ h => h) (by rfl) (by assumption) ?_ ?_
  rotate_left
  · intro w hSw; go_simp; with_reducible rfl
  try simp only [Act.put, List.setIfInBounds_toArray, List.set_cons_zero, List.set_cons_succ]
  refine reg_rd 5 (v := ?_) rfl (by kernel_rfl) (by kernel_rfl) (by kernel_rfl) (fun _ _ _ h => h) (by rfl) (by assumption) ?_ ?_
  rotate_left
  · intro w hSw; go_simp; with_reducible rfl
  try simp only [Act.put, List.setIfInBounds_toArray, List.set_cons_zero, List.set_cons_succ]
  refine wpAnyH_ready (rs := [6]) (by kernel_rfl) (by simp) ?_
  refine reg_do1 rfl (by rfl) (fun K hK => ?_)
  go_simp
  refine hK.out _ _ ?_ (fun hNext => ?_)
  · (repeat (first | assumption | exact agree_of_below (by assumption) | refine Agree.setCell ?_ (by simp) _ | refine Agree.alloc ?_ _))
  clear hK K hHeld
  refine wpAnyZ_base hNext fun hHeld => ?_
  clear hNext
  try simp only [Act.put, List.setIfInBounds_toArray, List.set_cons_zero, List.set_cons_succ]
  refine reg_rd 7 (v := ?_) rfl (by kernel_rfl) (by kernel_rfl) (by kernel_rfl) (fun _ _ _ h => h) (by rfl) (by assumption) ?_ ?_
  rotate_left
  · intro w hSw; go_simp; with_reducible rfl
  try simp only [Act.put, List.setIfInBounds_toArray, List.set_cons_zero, List.set_cons_succ]
  refine wpAnyH_done (by kernel_rfl) ?_ _
  go_wp2_with fail
  have hX : wX.there (w.heap.size + 1) 0 5 := there_new hUX (by simp)
  have hbw := below_then HW.out hUX
  have hag : Agree (But Z w.heap.size (w.heap.size + 2)) wX (wX.setCells (w.heap.size + 1) 0 d1.cells) := setCells_agree (by rintro ⟨_, h | h⟩ <;> omega) _ _ _
  exact bodyPost_ret (w := wX.setCells (w.heap.size + 1) 0 d1.cells) (results_cell2 rfl (b := w.heap.size + 1) (o := 0) d1.cells rfl (World.rangeAt_setCells_same wX _ 0 _ hX) Try.underlying24 rfl (by kernel_rfl)) rfl ⟨d1, rfl, HDD.out, (HOK.out.agree hag).mono (fun k h => h.1), setCells_below hbw (by omega) _ _⟩
set_option maxHeartbeats 1000000 in
theorem replace_any (d : Dk) {Z : Nat → Prop} (A : Option Addr) (b : Bytes) (n c : Nat) (hm : b.length = n) (hn : n ≤ 1000000) (hc : n ≤ c) (hc2 : c ≤ maxLen) (hs : d.sm) (w : World) (hb : Sl byteR 1 w.heap.size w A b) (hZ : ∀ k, w.heap.size ≤ k → Z k) (hd : d.ok Z w) : Calls Try.prog 26 #[d.v, .slice A n c] w (RetD Z w (replaceS d.dd b)) := by
  have hW : Below w.heap.size w (((w.alloc (.cells #[.int .i64 d.cap, .slice d.A1 d.s.length d.c1, .slice d.A2 d.l.length d.c2, .bool d.down, .int .i64 d.fuse] 24)).alloc (.cells #[.slice A n c] 22)).alloc (.cells #[.int .i64 0, .slice none 0 0, .slice none 0 0, .bool false, .int .i64 0] 24)) := below_alloc (below_alloc (below_new _ _) _) _
  have hd2 : d.ok (But Z w.heap.size (w.heap.size + 3)) (((w.alloc (.cells #[.int .i64 d.cap, .slice d.A1 d.s.length d.c1, .slice d.A2 d.l.length d.c2, .bool d.down, .int .i64 d.fuse] 24)).alloc (.cells #[.slice A n c] 22)).alloc (.cells #[.int .i64 0, .slice none 0 0, .slice none 0 0, .bool false, .int .i64 0] 24)) := (hd.shrink (Nat.le_refl _)).below hW
  have hl1 : ((longS d.dd : Nat) : Int) ≤ 2000000 := by have := hs.1; have := hs.2; simp [longS, Dk.dd]; omega
  have hspec : replaceS d.dd b = doS d.dd ((n : Int)) (otherS b) := by rw [← hm]; rfl
  have HW := hid hW; have HD := hid hd2; have G := hid hd; have HZ := hid hZ; have HSM := hid hs; clear hW hd2 hd hZ hs
  have HBB := hid hb; have HM := hid hm; have HC := hid (And.intro hc hc2); clear hb hm hc hc2
  unfold Dk.v
  rw [hspec]
  clear hspec
  go_enter Try.func26, Try.ntmps26
  go_wp2_with fail
  have hU := Below.refl (((w.alloc (.cells #[.int .i64 d.cap, .slice d.A1 d.s.length d.c1, .slice d.A2 d.l.length d.c2, .bool d.down, .int .i64 d.fuse] 24)).alloc (.cells #[.slice A n c] 22)).alloc (.cells #[.int .i64 0, .slice none 0 0, .slice none 0 0, .bool false, .int .i64 0] 24)).heap.size (((w.alloc (.cells #[.int .i64 d.cap, .slice d.A1 d.s.length d.c1, .slice d.A2 d.l.length d.c2, .bool d.down, .int .i64 d.fuse] 24)).alloc (.cells #[.slice A n c] 22)).alloc (.cells #[.int .i64 0, .slice none 0 0, .slice none 0 0, .bool false, .int .i64 0] 24))
  refine (actr_any (Z := But Z w.heap.size (w.heap.size + 3)) d _ (w.heap.size + 1) A b n c HM.out hn HSM.out _ (HD.out.below hU) (but_up HZ.out (by omega) (by simp)) ((hU.cell (p := ⟨w.heap.size + 1, 0, none⟩) (by simp)).trans (by simp [go_sem])) HC.out.1 HC.out.2 (HBB.out.call (below_then HW.out hU))).mono ?_
  rintro e wX ⟨d1, rfl, hdd, hok, hbX⟩
  have hUX := below_then hU hbX
  obtain ⟨hx3, hx4⟩ := bcell hUX
  have HDD := hid hdd; have HOK := hid hok; clear hdd hok
  unfold Dk.v
  go_wp2_with fail
  have hX : wX.there (w.heap.size + 2) 0 5 := there_new hUX (by simp)
  have hbw := below_then HW.out hUX
  have hag : Agree (But Z w.heap.size (w.heap.size + 3)) wX (wX.setCells (w.heap.size + 2) 0 d1.cells) := setCells_agree (by rintro ⟨_, h | h⟩ <;> omega) _ _ _
  exact bodyPost_ret (w := wX.setCells (w.heap.size + 2) 0 d1.cells) (results_cell2 rfl (b := w.heap.size + 2) (o := 0) d1.cells rfl (World.rangeAt_setCells_same wX _ 0 _ hX) Try.underlying24 rfl (by kernel_rfl)) rfl ⟨d1, rfl, HDD.out, (HOK.out.agree hag).mono (fun k h => h.1), setCells_below hbw (by omega) _ _⟩
end Go.Proofs.Ythboeilpeggpoaa
