/-
  Package disk: what Write, Sync and Replace hand to an act.
-/
import Derived.Test.YthboeilpeggpoaaDiskE
import Derived.Test.YthboeilpeggpoaaRegL
namespace Go.Proofs.Ythboeilpeggpoaa
open Go.RowKit
theorem heap_set_row {w : World} {p j t : Nat} {C : Array Value} {fr : Nat × Nat} (h : w.heap[p]? = some (.cells C t fr)) (v : Value) : (w.setCell ⟨p, j, none⟩ v).heap[p]? = some (.cells (C.setIfInBounds j v) t fr) := by
  unfold World.setCell
  simp only [Option.isSome_none, Bool.false_eq_true, if_false]
  rw [Array.getElem?_modify]
  simp [h]
theorem frozen_row {w : World} {p j t : Nat} {C : Array Value} (h : w.heap[p]? = some (.cells C t (0, 0))) : w.frozen? ⟨p, j, none⟩ = false := by
  simp [World.frozen?, h]
theorem block_lt {w : World} {p : Nat} {o : Obj} (h : w.heap[p]? = some o) : p < w.heap.size := (Array.getElem?_eq_some_iff.1 h).1
theorem SlZ.to {k : Nat} {Z : Nat → Prop} {w w' : World} {A : Option Addr} {l : Bytes} {p : Nat} (h : SlZ byteZ k Z w A l) (hp : ¬ Z p) (hb : Agree (fun q => q ≠ p) w w') : SlZ byteZ k Z w' A l := h.agree (hb.mono fun q hq e => hp (e ▸ hq))
set_option maxHeartbeats 1000000 in
theorem cl_w (x : Dk) {Z : Nat → Prop} (p : Nat) (q : Nat) (A : Option Addr) (b : Bytes) (n c : Nat) (hpq : q ≠ p) (hm : b.length = n) (hn : n ≤ 1000000) (w1 : World) (hp : w1.heap[p]? = some (.cells x.cells.toArray 24 (0, 0))) (hs : x.sm) (hx : x.ok Z w1) (hpZ : ¬ Z p) (hZ : ∀ k, w1.heap.size ≤ k → Z k) (hq : w1.cell? ⟨q, 0, none⟩ = some (.slice A n c)) (hc : n ≤ c) (hc2 : c ≤ maxLen) (hb : Sl byteR 1 w1.heap.size w1 A b) :
    Calls Try.prog 55 #[.pointer (some ⟨p, 0, none⟩), .pointer (some ⟨q, 0, none⟩)] w1 (ClPost p Z (addS b x.dd) w1) := by
  obtain ⟨c0, c1, c2, c3, c4⟩ := dk_at hp
  have hlt := block_lt hp
  have fz := fun j => frozen_row (j := j) hp
  have HP := hid hp; have HX := hid hx; have HZ := hid hZ; have HPZ := hid hpZ; have HS := hid hs; clear hp hx hZ hpZ hs
  have hqlt := World.block_lt_of_cell? w1 _ hq
  have HM := hid hm; have HB := hid hb; have HC := hid (And.intro hc hc2); clear hm hb hc hc2
  have ht2 : [x.l, b].flatten.length ≤ 3000000 := by have := HS.out.2; have := HM.out; simp; omega
  obtain ⟨m, hm2⟩ : ∃ m, [x.l, b].flatten.length = m := ⟨_, rfl⟩
  have HM2 := hid hm2; have HT2 := hid ht2; clear hm2 ht2
  go_enter Try.func55, Try.ntmps55
  go_wp2_with fail
  refine reg_startZ (fun k => k ≠ p) (by kernel_rfl) fun w4 hHeld hU => ?_
  have hT := hHeld
  obtain ⟨hy1, hy2⟩ := bcell hU
  refine reg_rd 0 (v := ?_) rfl (by kernel_rfl) (by kernel_rfl) (by kernel_rfl) (fun _ _ _ h => h) (by rfl) (by assumption) ?_ ?_
  rotate_left
  · intro w hSw; go_simp; with_reducible rfl
  try simp only [Act.put, List.setIfInBounds_toArray, List.set_cons_zero, List.set_cons_succ]
  refine reg_rd 1 (v := ?_) rfl (by kernel_rfl) (by kernel_rfl) (by kernel_rfl) (fun _ _ _ h => h) (by rfl) (by assumption) ?_ ?_
  rotate_left
  · intro w hSw; go_simp; with_reducible rfl
  try simp only [Act.put, List.setIfInBounds_toArray, List.set_cons_zero, List.set_cons_succ]
  refine reg_rd 2 (v := ?_) rfl (by kernel_rfl) (by kernel_rfl) (by kernel_rfl) (fun _ _ _ h => h) (by rfl) (by assumption) ?_ ?_
  rotate_left
  · intro w hSw; go_simp; with_reducible rfl
  try simp only [Act.put, List.setIfInBounds_toArray, List.set_cons_zero, List.set_cons_succ]
  refine reg_rd 3 (v := ?_) rfl (by kernel_rfl) (by kernel_rfl) (by kernel_rfl) (fun _ _ _ h => h) (by rfl) (by assumption) ?_ ?_
  rotate_left
  · intro w hSw; go_simp; with_reducible rfl
  try simp only [Act.put, List.setIfInBounds_toArray, List.set_cons_zero, List.set_cons_succ]
  refine reg_rd 5 (v := ?_) rfl (by kernel_rfl) (by kernel_rfl) (by kernel_rfl) (fun _ _ _ h => h) (by rfl) (by assumption) ?_ ?_
  rotate_left
  · (intro w' hSw; obtain ⟨hq1, hq2⟩ := acell hSw; first | (go_simp; done) | (go_simp; with_reducible rfl) | (obtain ⟨hq3, hq4⟩ := acell (hT.trans hSw); first | (go_simp; done) | (go_simp; with_reducible rfl)))
  try simp only [Act.put, List.setIfInBounds_toArray, List.set_cons_zero, List.set_cons_succ]
  refine wpAnyH_ready (rs := [4]) (by kernel_rfl) (by simp) ?_
  refine reg_do1 rfl (by rfl) (fun K hK => ?_)
  go_simp
  refine hK.out _ _ ?_ (fun hNext => ?_)
  · assumption
  clear hK K hHeld
  refine wpAnyZ_base hNext fun hHeld => ?_
  clear hNext
  try simp only [Act.put, List.setIfInBounds_toArray, List.set_cons_zero, List.set_cons_succ]
  refine wpAnyH_ready (rs := [6]) (by kernel_rfl) (by simp) ?_
  refine reg_do1 rfl (by rfl) (fun K hK => ?_)
  go_simp
  refine hK.out _ _ ?_ (fun hNext => ?_)
  · (repeat (first | assumption | exact agree_of_below (by assumption) | refine Agree.setCell ?_ (by simp) _ | refine Agree.alloc ?_ _))
  clear hK K hHeld
  refine wpAnyZ_base hNext fun hHeld => ?_
  clear hNext
  try simp only [Act.put, List.setIfInBounds_toArray, List.set_cons_zero, List.set_cons_succ]
  refine wpAnyH_ready (rs := [7]) (by kernel_rfl) (by simp) ?_
  refine reg_do1 rfl (by rfl) (fun K hK => ?_)
  go_simp
  (go_at_call 56; refine (concat_any _ [x.l, b] 2 2 rfl (by omega) HT2.out _ (rows2 (q := w4.heap.size) (w := w4) _ (HX.out.s2.bsl.below hU) rfl HX.out.g2 HX.out.m2 (HB.out.below hU) HM.out HC.out.1 HC.out.2 hU.size rfl)).mono ?_; rintro e wX ⟨v, rfl, hown, hbX⟩; have hUX := below_then (below_alloc hU _) hbX; obtain ⟨hx3, hx4⟩ := bcell hUX; obtain ⟨AX, cX, rfl⟩ := hown.form2 HM2.out; have HO := hid hown; clear hown; replace hT := (hT.alloc _).trans (agree_of_below hbX))
  go_wp2_with fail
  refine hK.out _ _ ?_ (fun hNext => ?_)
  · (repeat (first | assumption | exact agree_of_below (by assumption) | refine Agree.setCell ?_ (by simp) _ | refine Agree.alloc ?_ _))
  clear hK K hHeld
  refine wpAnyZ_base hNext fun hHeld => ?_
  clear hNext
  try simp only [Act.put, List.setIfInBounds_toArray, List.set_cons_zero, List.set_cons_succ]
  refine reg_rd 8 (v := ?_) rfl (by kernel_rfl) (by kernel_rfl) (by kernel_rfl) (fun _ _ _ h => h) (by rfl) (by assumption) ?_ ?_
  rotate_left
  · intro w hSw; go_simp; with_reducible rfl
  try simp only [Act.put, List.setIfInBounds_toArray, List.set_cons_zero, List.set_cons_succ]
  refine reg_rd 9 (v := ?_) rfl (by kernel_rfl) (by kernel_rfl) (by kernel_rfl) (fun _ _ _ h => h) (by rfl) (by assumption) ?_ ?_
  rotate_left
  · intro w hSw; go_simp; with_reducible rfl
  try simp only [Act.put, List.setIfInBounds_toArray, List.set_cons_zero, List.set_cons_succ]
  refine wpAnyH_ready (rs := [10]) (by kernel_rfl) (by simp) ?_
  refine reg_do1 rfl (by rfl) (fun K hK => ?_)
  go_simp
  refine hK.out _ _ ?_ (fun hNext => ?_)
  · (repeat (first | assumption | exact agree_of_below (by assumption) | refine Agree.setCell ?_ (by simp) _ | refine Agree.alloc ?_ _))
  clear hK K hHeld
  refine wpAnyZ_base hNext fun hHeld => ?_
  clear hNext
  try simp only [Act.put, List.setIfInBounds_toArray, List.set_cons_zero, List.set_cons_succ]
  refine wpAnyH_done (by kernel_rfl) ?_ _
  go_wp2_with fail
  go_end0
  have hag : Agree (fun k => k ≠ p) w1 (wX.setCell ⟨p, 2, none⟩ (.slice AX m cX)) := (agree_of_below hUX).trans ((Agree.refl _).setCell (by simp) _)
  have hO := HO.out.agree_but (X := p) (show Agree (fun k => k ≠ p) wX (wX.setCell ⟨p, 2, none⟩ (.slice AX m cX)) from ((Agree.refl _).setCell (p := ⟨p, 2, none⟩) (by simp) _)) (by have := hU.size; first | omega | (simp; omega)) (Nat.zero_le _) (Nat.zero_le _)
  have hmm := HM2.out
  subst hmm
  obtain ⟨A', c', he, q1, q2, q3⟩ := hO.slz (Z := Z) (fun k hk => HZ.out k (by have := hU.size; first | omega | (simp at hk; omega)))
  simp only [Value.slice.injEq, true_and] at he
  obtain ⟨rfl, rfl⟩ := he
  refine ⟨⟨_, rfl⟩, ⟨x.cap, x.A1, x.s, x.c1, AX, [x.l, b].flatten, cX, x.down, x.fuse⟩, ?_, by simp [Dk.dd, addS], ⟨HX.out.s1.to HPZ.out hag, q3, HX.out.g1, HX.out.m1, q1, q2, HX.out.i1, HX.out.i2⟩, hag⟩
  have hp := (hUX.block p hlt).trans HP.out
  exact heap_set_row hp _
set_option maxHeartbeats 1000000 in
theorem cl_s (x : Dk) {Z : Nat → Prop} (p : Nat) (w1 : World) (hp : w1.heap[p]? = some (.cells x.cells.toArray 24 (0, 0))) (hs : x.sm) (hx : x.ok Z w1) (hpZ : ¬ Z p) (hZ : ∀ k, w1.heap.size ≤ k → Z k) :
    Calls Try.prog 59 #[.pointer (some ⟨p, 0, none⟩)] w1 (ClPost p Z (allS x.dd) w1) := by
  obtain ⟨c0, c1, c2, c3, c4⟩ := dk_at hp
  have hlt := block_lt hp
  have fz := fun j => frozen_row (j := j) hp
  have HP := hid hp; have HX := hid hx; have HZ := hid hZ; have HPZ := hid hpZ; have HS := hid hs; clear hp hx hZ hpZ hs
  have ht2 : [x.s, x.l].flatten.length ≤ 3000000 := by have := HS.out.2; have := HS.out.1; simp; omega
  obtain ⟨m, hm2⟩ : ∃ m, [x.s, x.l].flatten.length = m := ⟨_, rfl⟩
  have HM2 := hid hm2; have HT2 := hid ht2; clear hm2 ht2
  go_enter Try.func59, Try.ntmps59
  go_wp2_with fail
  refine reg_startZ (fun k => k ≠ p) (by kernel_rfl) fun w4 hHeld hU => ?_
  have hT := hHeld
  obtain ⟨hy1, hy2⟩ := bcell hU
  refine reg_rd 0 (v := ?_) rfl (by kernel_rfl) (by kernel_rfl) (by kernel_rfl) (fun _ _ _ h => h) (by rfl) (by assumption) ?_ ?_
  rotate_left
  · intro w hSw; go_simp; with_reducible rfl
  try simp only [Act.put, List.setIfInBounds_toArray, List.set_cons_zero, List.set_cons_succ]
  refine reg_rd 1 (v := ?_) rfl (by kernel_rfl) (by kernel_rfl) (by kernel_rfl) (fun _ _ _ h => h) (by rfl) (by assumption) ?_ ?_
  rotate_left
  · intro w hSw; go_simp; with_reducible rfl
  try simp only [Act.put, List.setIfInBounds_toArray, List.set_cons_zero, List.set_cons_succ]
  refine reg_rd 2 (v := ?_) rfl (by kernel_rfl) (by kernel_rfl) (by kernel_rfl) (fun _ _ _ h => h) (by rfl) (by assumption) ?_ ?_
  rotate_left
  · intro w hSw; go_simp; with_reducible rfl
  try simp only [Act.put, List.setIfInBounds_toArray, List.set_cons_zero, List.set_cons_succ]
  refine reg_rd 3 (v := ?_) rfl (by kernel_rfl) (by kernel_rfl) (by kernel_rfl) (fun _ _ _ h => h) (by rfl) (by assumption) ?_ ?_
  rotate_left
  · intro w hSw; go_simp; with_reducible rfl
  try simp only [Act.put, List.setIfInBounds_toArray, List.set_cons_zero, List.set_cons_succ]
  refine reg_rd 4 (v := ?_) rfl (by kernel_rfl) (by kernel_rfl) (by kernel_rfl) (fun _ _ _ h => h) (by rfl) (by assumption) ?_ ?_
  rotate_left
  · intro w hSw; go_simp; with_reducible rfl
  try simp only [Act.put, List.setIfInBounds_toArray, List.set_cons_zero, List.set_cons_succ]
  refine reg_rd 6 (v := ?_) rfl (by kernel_rfl) (by kernel_rfl) (by kernel_rfl) (fun _ _ _ h => h) (by rfl) (by assumption) ?_ ?_
  rotate_left
  · intro w hSw; go_simp; with_reducible rfl
  try simp only [Act.put, List.setIfInBounds_toArray, List.set_cons_zero, List.set_cons_succ]
  refine reg_rd 7 (v := ?_) rfl (by kernel_rfl) (by kernel_rfl) (by kernel_rfl) (fun _ _ _ h => h) (by rfl) (by assumption) ?_ ?_
  rotate_left
  · intro w hSw; go_simp; with_reducible rfl
  try simp only [Act.put, List.setIfInBounds_toArray, List.set_cons_zero, List.set_cons_succ]
  refine reg_rd 8 (v := ?_) rfl (by kernel_rfl) (by kernel_rfl) (by kernel_rfl) (fun _ _ _ h => h) (by rfl) (by assumption) ?_ ?_
  rotate_left
  · intro w hSw; go_simp; with_reducible rfl
  try simp only [Act.put, List.setIfInBounds_toArray, List.set_cons_zero, List.set_cons_succ]
  refine wpAnyH_ready (rs := [5, 9]) (by kernel_rfl) (by simp) ?_
  refine reg_do rfl (by rfl) (fun K hK => ?_) ?_
  focus
    go_simp
    refine hK.out _ _ ?_ (fun hNext => ?_)
    · assumption
    clear hK K hHeld
    refine wpAnyZ_base hNext fun hHeld => ?_
    clear hNext
    try simp only [Act.put, List.setIfInBounds_toArray, List.set_cons_zero, List.set_cons_succ]
    refine wpAnyH_ready (rs := [9]) (by kernel_rfl) (by simp) ?_
    refine reg_do1 rfl (by rfl) (fun K hK => ?_)
    go_simp
    refine hK.out _ _ ?_ (fun hNext => ?_)
    · assumption
    clear hK K hHeld
    refine wpAnyZ_base hNext fun hHeld => ?_
    clear hNext
    try simp only [Act.put, List.setIfInBounds_toArray, List.set_cons_zero, List.set_cons_succ]
    refine wpAnyH_ready (rs := [10]) (by kernel_rfl) (by simp) ?_
    refine reg_do1 rfl (by rfl) (fun K hK => ?_)
    go_simp
    refine hK.out _ _ ?_ (fun hNext => ?_)
    · (repeat (first | assumption | exact agree_of_below (by assumption) | refine Agree.setCell ?_ (by simp) _ | refine Agree.alloc ?_ _))
    clear hK K hHeld
    refine wpAnyZ_base hNext fun hHeld => ?_
    clear hNext
    try simp only [Act.put, List.setIfInBounds_toArray, List.set_cons_zero, List.set_cons_succ]
    refine wpAnyH_ready (rs := [11]) (by kernel_rfl) (by simp) ?_
    refine reg_do1 rfl (by rfl) (fun K hK => ?_)
    go_simp
    (go_at_call 56; refine (concat_any _ [x.s, x.l] 2 2 rfl (by omega) HT2.out _ (rows2 (q := w4.heap.size) (w := w4) _ (HX.out.s1.bsl.below hU) rfl HX.out.g1 HX.out.m1 (HX.out.s2.bsl.below hU) rfl HX.out.g2 HX.out.m2 hU.size rfl)).mono ?_; rintro e wX ⟨v, rfl, hown, hbX⟩; have hUX := below_then (below_alloc hU _) hbX; obtain ⟨hx3, hx4⟩ := bcell hUX; obtain ⟨AX, cX, rfl⟩ := hown.form2 HM2.out; have HO := hid hown; clear hown; replace hT := (hT.alloc _).trans (agree_of_below hbX))
    go_wp2_with fail
    refine hK.out _ _ ?_ (fun hNext => ?_)
    · (repeat (first | assumption | exact agree_of_below (by assumption) | refine Agree.setCell ?_ (by simp) _ | refine Agree.alloc ?_ _))
    clear hK K hHeld
    refine wpAnyZ_base hNext fun hHeld => ?_
    clear hNext
    try simp only [Act.put, List.setIfInBounds_toArray, List.set_cons_zero, List.set_cons_succ]
    refine reg_rd 12 (v := ?_) rfl (by kernel_rfl) (by kernel_rfl) (by kernel_rfl) (fun _ _ _ h => h) (by rfl) (by assumption) ?_ ?_
    rotate_left
    · intro w hSw; go_simp; with_reducible rfl
    try simp only [Act.put, List.setIfInBounds_toArray, List.set_cons_zero, List.set_cons_succ]
    refine reg_rd 13 (v := ?_) rfl (by kernel_rfl) (by kernel_rfl) (by kernel_rfl) (fun _ _ _ h => h) (by rfl) (by assumption) ?_ ?_
    rotate_left
    · intro w hSw; go_simp; with_reducible rfl
    try simp only [Act.put, List.setIfInBounds_toArray, List.set_cons_zero, List.set_cons_succ]
    refine wpAnyH_ready (rs := [14]) (by kernel_rfl) (by simp) ?_
    refine reg_do1 rfl (by rfl) (fun K hK => ?_)
    go_simp
    refine hK.out _ _ ?_ (fun hNext => ?_)
    · (repeat (first | assumption | exact agree_of_below (by assumption) | refine Agree.setCell ?_ (by simp) _ | refine Agree.alloc ?_ _))
    clear hK K hHeld
    refine wpAnyZ_base hNext fun hHeld => ?_
    clear hNext
    try simp only [Act.put, List.setIfInBounds_toArray, List.set_cons_zero, List.set_cons_succ]
    refine reg_rd 15 (v := ?_) rfl (by kernel_rfl) (by kernel_rfl) (by kernel_rfl) (fun _ _ _ h => h) (by rfl) (by assumption) ?_ ?_
    rotate_left
    · intro w hSw; go_simp; with_reducible rfl
    try simp only [Act.put, List.setIfInBounds_toArray, List.set_cons_zero, List.set_cons_succ]
    refine reg_rd 16 (v := ?_) rfl (by kernel_rfl) (by kernel_rfl) (by kernel_rfl) (fun _ _ _ h => h) (by rfl) (by assumption) ?_ ?_
    rotate_left
    · intro w hSw; go_simp; with_reducible rfl
    try simp only [Act.put, List.setIfInBounds_toArray, List.set_cons_zero, List.set_cons_succ]
    refine wpAnyH_ready (rs := [17]) (by kernel_rfl) (by simp) ?_
    refine reg_do1 rfl (by rfl) (fun K hK => ?_)
    go_simp
    refine hK.out _ _ ?_ (fun hNext => ?_)
    · (repeat (first | assumption | exact agree_of_below (by assumption) | refine Agree.setCell ?_ (by simp) _ | refine Agree.alloc ?_ _))
    clear hK K hHeld
    refine wpAnyZ_base hNext fun hHeld => ?_
    clear hNext
    try simp only [Act.put, List.setIfInBounds_toArray, List.set_cons_zero, List.set_cons_succ]
    refine wpAnyH_done (by kernel_rfl) ?_ _
  rotate_left 1
  refine reg_do1 rfl (by rfl) (fun K hK => ?_)
  focus
    go_simp
    refine hK.out _ _ ?_ (fun hNext => ?_)
    · assumption
    clear hK K hHeld
    refine wpAnyZ_base hNext fun hHeld => ?_
    clear hNext
    try simp only [Act.put, List.setIfInBounds_toArray, List.set_cons_zero, List.set_cons_succ]
    refine wpAnyH_ready (rs := [5]) (by kernel_rfl) (by simp) ?_
    refine reg_do1 rfl (by rfl) (fun K hK => ?_)
    go_simp
    refine hK.out _ _ ?_ (fun hNext => ?_)
    · assumption
    clear hK K hHeld
    refine wpAnyZ_base hNext fun hHeld => ?_
    clear hNext
    try simp only [Act.put, List.setIfInBounds_toArray, List.set_cons_zero, List.set_cons_succ]
    refine wpAnyH_ready (rs := [10]) (by kernel_rfl) (by simp) ?_
    refine reg_do1 rfl (by rfl) (fun K hK => ?_)
    go_simp
    refine hK.out _ _ ?_ (fun hNext => ?_)
    · (repeat (first | assumption | exact agree_of_below (by assumption) | refine Agree.setCell ?_ (by simp) _ | refine Agree.alloc ?_ _))
    clear hK K hHeld
    refine wpAnyZ_base hNext fun hHeld => ?_
    clear hNext
    try simp only [Act.put, List.setIfInBounds_toArray, List.set_cons_zero, List.set_cons_succ]
    refine wpAnyH_ready (rs := [11]) (by kernel_rfl) (by simp) ?_
    refine reg_do1 rfl (by rfl) (fun K hK => ?_)
    go_simp
    (go_at_call 56; refine (concat_any _ [x.s, x.l] 2 2 rfl (by omega) HT2.out _ (rows2 (q := w4.heap.size) (w := w4) _ (HX.out.s1.bsl.below hU) rfl HX.out.g1 HX.out.m1 (HX.out.s2.bsl.below hU) rfl HX.out.g2 HX.out.m2 hU.size rfl)).mono ?_; rintro e wX ⟨v, rfl, hown, hbX⟩; have hUX := below_then (below_alloc hU _) hbX; obtain ⟨hx3, hx4⟩ := bcell hUX; obtain ⟨AX, cX, rfl⟩ := hown.form2 HM2.out; have HO := hid hown; clear hown; replace hT := (hT.alloc _).trans (agree_of_below hbX))
    go_wp2_with fail
    refine hK.out _ _ ?_ (fun hNext => ?_)
    · (repeat (first | assumption | exact agree_of_below (by assumption) | refine Agree.setCell ?_ (by simp) _ | refine Agree.alloc ?_ _))
    clear hK K hHeld
    refine wpAnyZ_base hNext fun hHeld => ?_
    clear hNext
    try simp only [Act.put, List.setIfInBounds_toArray, List.set_cons_zero, List.set_cons_succ]
    refine reg_rd 12 (v := ?_) rfl (by kernel_rfl) (by kernel_rfl) (by kernel_rfl) (fun _ _ _ h => h) (by rfl) (by assumption) ?_ ?_
    rotate_left
    · intro w hSw; go_simp; with_reducible rfl
    try simp only [Act.put, List.setIfInBounds_toArray, List.set_cons_zero, List.set_cons_succ]
    refine reg_rd 13 (v := ?_) rfl (by kernel_rfl) (by kernel_rfl) (by kernel_rfl) (fun _ _ _ h => h) (by rfl) (by assumption) ?_ ?_
    rotate_left
    · intro w hSw; go_simp; with_reducible rfl
    try simp only [Act.put, List.setIfInBounds_toArray, List.set_cons_zero, List.set_cons_succ]
    refine wpAnyH_ready (rs := [14]) (by kernel_rfl) (by simp) ?_
    refine reg_do1 rfl (by rfl) (fun K hK => ?_)
    go_simp
    refine hK.out _ _ ?_ (fun hNext => ?_)
    · (repeat (first | assumption | exact agree_of_below (by assumption) | refine Agree.setCell ?_ (by simp) _ | refine Agree.alloc ?_ _))
    clear hK K hHeld
    refine wpAnyZ_base hNext fun hHeld => ?_
    clear hNext
    try simp only [Act.put, List.setIfInBounds_toArray, List.set_cons_zero, List.set_cons_succ]
    refine reg_rd 15 (v := ?_) rfl (by kernel_rfl) (by kernel_rfl) (by kernel_rfl) (fun _ _ _ h => h) (by rfl) (by assumption) ?_ ?_
    rotate_left
    · intro w hSw; go_simp; with_reducible rfl
    try simp only [Act.put, List.setIfInBounds_toArray, List.set_cons_zero, List.set_cons_succ]
    refine reg_rd 16 (v := ?_) rfl (by kernel_rfl) (by kernel_rfl) (by kernel_rfl) (fun _ _ _ h => h) (by rfl) (by assumption) ?_ ?_
    rotate_left
    · intro w hSw; go_simp; with_reducible rfl
    try simp only [Act.put, List.setIfInBounds_toArray, List.set_cons_zero, List.set_cons_succ]
    refine wpAnyH_ready (rs := [17]) (by kernel_rfl) (by simp) ?_
    refine reg_do1 rfl (by rfl) (fun K hK => ?_)
    go_simp
    refine hK.out _ _ ?_ (fun hNext => ?_)
    · (repeat (first | assumption | exact agree_of_below (by assumption) | refine Agree.setCell ?_ (by simp) _ | refine Agree.alloc ?_ _))
    clear hK K hHeld
    refine wpAnyZ_base hNext fun hHeld => ?_
    clear hNext
    try simp only [Act.put, List.setIfInBounds_toArray, List.set_cons_zero, List.set_cons_succ]
    refine wpAnyH_done (by kernel_rfl) ?_ _
  rotate_left 1
  all_goals
    go_wp2_with fail
    go_end0
    have hag : Agree (fun k => k ≠ p) w1 ((wX.setCell ⟨p, 1, none⟩ (.slice AX m cX)).setCell ⟨p, 2, none⟩ (.slice none 0 0)) := (agree_of_below hUX).trans (((Agree.refl _).setCell (by simp) _).setCell (by simp) _)
    have hO := HO.out.agree_but (X := p) (show Agree (fun k => k ≠ p) wX ((wX.setCell ⟨p, 1, none⟩ (.slice AX m cX)).setCell ⟨p, 2, none⟩ (.slice none 0 0)) from (((Agree.refl _).setCell (p := ⟨p, 1, none⟩) (by simp) _).setCell (p := ⟨p, 2, none⟩) (by simp) _)) (by have := hU.size; first | omega | (simp; omega)) (Nat.zero_le _) (Nat.zero_le _)
    have hmm := HM2.out
    subst hmm
    obtain ⟨A', c', he, q1, q2, q3⟩ := hO.slz (Z := Z) (fun k hk => HZ.out k (by have := hU.size; first | omega | (simp at hk; omega)))
    simp only [Value.slice.injEq, true_and] at he
    obtain ⟨rfl, rfl⟩ := he
    refine ⟨⟨_, rfl⟩, ⟨x.cap, AX, [x.s, x.l].flatten, cX, none, [], 0, x.down, x.fuse⟩, ?_, by simp [Dk.dd, allS], ⟨q3, SlZ.nil, q1, q2, Nat.le_refl _, Nat.zero_le _, HX.out.i1, HX.out.i2⟩, hag⟩
    have hp := (hUX.block p hlt).trans HP.out
    exact heap_set_row (heap_set_row hp _) _
set_option maxHeartbeats 1000000 in
theorem cl_r (x : Dk) {Z : Nat → Prop} (p : Nat) (q : Nat) (A : Option Addr) (b : Bytes) (n c : Nat) (hpq : q ≠ p) (hm : b.length = n) (hn : n ≤ 1000000) (w1 : World) (hp : w1.heap[p]? = some (.cells x.cells.toArray 24 (0, 0))) (hs : x.sm) (hx : x.ok Z w1) (hpZ : ¬ Z p) (hZ : ∀ k, w1.heap.size ≤ k → Z k) (hq : w1.cell? ⟨q, 0, none⟩ = some (.slice A n c)) (hc : n ≤ c) (hc2 : c ≤ maxLen) (hb : Sl byteR 1 w1.heap.size w1 A b) :
    Calls Try.prog 60 #[.pointer (some ⟨p, 0, none⟩), .pointer (some ⟨q, 0, none⟩)] w1 (ClPost p Z (otherS b x.dd) w1) := by
  obtain ⟨c0, c1, c2, c3, c4⟩ := dk_at hp
  have hlt := block_lt hp
  have fz := fun j => frozen_row (j := j) hp
  have HP := hid hp; have HX := hid hx; have HZ := hid hZ; have HPZ := hid hpZ; have HS := hid hs; clear hp hx hZ hpZ hs
  have hqlt := World.block_lt_of_cell? w1 _ hq
  have HM := hid hm; have HB := hid hb; clear hm hb hc hc2
  have HM2 := HM
  have hU := Below.refl w1.heap.size w1
  go_enter Try.func60, Try.ntmps60
  go_wp2_with fail
  refine (clone_any A b n c HM.out hn _ HB.out).mono ?_
  rintro e wX ⟨v, rfl, hown, hUX⟩
  obtain ⟨hx3, hx4⟩ := bcell hUX
  obtain ⟨AX, cX, rfl⟩ := hown.form2 HM2.out
  have HO := hid hown; clear hown
  go_wp2_with fail
  go_end0
  have hag : Agree (fun k => k ≠ p) w1 ((wX.setCell ⟨p, 1, none⟩ (.slice AX n cX)).setCell ⟨p, 2, none⟩ (.slice none 0 0)) := (agree_of_below hUX).trans (((Agree.refl _).setCell (by simp) _).setCell (by simp) _)
  have hO := HO.out.agree_but (X := p) (show Agree (fun k => k ≠ p) wX ((wX.setCell ⟨p, 1, none⟩ (.slice AX n cX)).setCell ⟨p, 2, none⟩ (.slice none 0 0)) from (((Agree.refl _).setCell (p := ⟨p, 1, none⟩) (by simp) _).setCell (p := ⟨p, 2, none⟩) (by simp) _)) (by have := hU.size; first | omega | (simp; omega)) (Nat.zero_le _) (Nat.zero_le _)
  have hmm := HM2.out
  subst hmm
  obtain ⟨A', c', he, q1, q2, q3⟩ := hO.slz (Z := Z) (fun k hk => HZ.out k (by have := hU.size; first | omega | (simp at hk; omega)))
  simp only [Value.slice.injEq, true_and] at he
  obtain ⟨rfl, rfl⟩ := he
  refine ⟨⟨_, rfl⟩, ⟨x.cap, AX, b, cX, none, [], 0, x.down, x.fuse⟩, ?_, by simp [Dk.dd, otherS], ⟨q3, SlZ.nil, q1, q2, Nat.le_refl _, Nat.zero_le _, HX.out.i1, HX.out.i2⟩, hag⟩
  have hp := (hUX.block p hlt).trans HP.out
  exact heap_set_row (heap_set_row hp _) _
end Go.Proofs.Ythboeilpeggpoaa
