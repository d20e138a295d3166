/-
  CrcTells: the sum of any bytes, their frame, and what stands ahead of any bytes, are as the document says.
-/
import Derived.Test.YtcafahcmalfepaaCrcI
import Derived.Test.YtcafahcmalfepaaCrcAlive
import Derived.Test.YtcafahcmalfepaaRegL
namespace Go.Proofs.Ytcafahcmalfepaa
open Go.RowKit Go.Deep
def fX : Except Int (Bytes × Bytes) → Bytes
  | .error _ => []
  | .ok (x, _) => x
def fL : Except Int (Bytes × Bytes) → Bytes
  | .error _ => []
  | .ok (_, l) => l
def fZ : Except Int (Bytes × Bytes) → Int
  | .error z => z
  | .ok _ => 0
theorem takeFZ_all {Z : Nat → Prop} {w w' : World} {e : Ending} {r : Except Int (Bytes × Bytes)} (h : TakeFZ Z w r e w') : ∃ A1 c1 A2 c2, e = .returned (.tuple #[.slice A1 (fX r).length c1, .slice A2 (fL r).length c2, .int .i64 (fZ r)]) ∧ Sl byteR 1 w'.heap.size w' A1 (fX r) ∧ Sl byteR 1 w'.heap.size w' A2 (fL r) ∧ Below w.heap.size w w' := by
  obtain ⟨hb, h⟩ := h
  match r, h with
  | .error z, h => exact ⟨none, 0, none, 0, h, Sl.nil, Sl.nil, hb⟩
  | .ok (x, l), h =>
    obtain ⟨A1, c1, A2, c2, h, _, s1, s2⟩ := h
    exact ⟨A1, c1, A2, c2, h, s1.bsl, s2.bsl, hb⟩
theorem tells_long (A1 A2 : Option Addr) (n1 n2 c1 c2 x : Nat) (hb : 3000 < n1 ∨ 3000 < n2) (w : World) :
    Calls Try.prog 3 #[.slice A1 n1 c1, .slice A2 n2 c2, .int .u32 (x : Int)] w fun e w' => e = .returned (.bool true) ∧ Below w.heap.size w w' := by
  by_cases h1 : 3000 < n1
  · have hi : (3000 : Int) < n1 := by omega
    go_enter Try.func3, Try.ntmps3
    go_wp2_with (go_at_call 13; refine (alive15 _).mono ?_; rintro e w9 ⟨rfl, hb9⟩)
    go_ret
    exact ⟨rfl, hb9⟩
  · have hi : ¬ (3000 : Int) < n1 := by omega
    have hj : (3000 : Int) < n2 := by omega
    go_enter Try.func3, Try.ntmps3
    go_wp2_with (go_at_call 13; refine (alive15 _).mono ?_; rintro e w9 ⟨rfl, hb9⟩)
    go_ret
    exact ⟨rfl, hb9⟩
set_option maxHeartbeats 4000000 in
set_option maxRecDepth 20000 in
theorem tells_main (A1 A2 : Option Addr) (b d : Bytes) (n1 n2 c1 c2 x : Nat) (hl1 : b.length = n1) (g1 : n1 ≤ c1) (m1 : c1 ≤ maxLen) (hl2 : d.length = n2) (g2 : n2 ≤ c2) (m2 : c2 ≤ maxLen) (hx : x < 4294967296) (h1 : n1 ≤ 3000) (h2 : n2 ≤ 3000) (w : World) (hs1 : Sl byteR 1 w.heap.size w A1 b) (hs2 : Sl byteR 1 w.heap.size w A2 d) :
    Calls Try.prog 3 #[.slice A1 n1 c1, .slice A2 n2 c2, .int .u32 (x : Int)] w fun e w' => e = .returned (.bool true) ∧ Below w.heap.size w w' := by
  have S1 := hid hs1; have S2 := hid hs2; have L1 := hid hl1; have L2 := hid hl2; have G1 := hid (And.intro g1 m1); have G2 := hid (And.intro g2 m2); clear hs1 hs2 g1 m1 g2 m2
  have hq1 : (([] : Bytes).length + b.length) * 1 ≤ 140737488355328 := by simp; omega
  have hq2 : ([] : Bytes).length + b.length ≤ maxLen := by simp [maxLen]; omega
  have Q1 := hid hq1; have Q2 := hid hq2; clear hq1 hq2 hl1 hl2
  have i1 : (n1 : Int) ≤ 3000 := by omega
  have i2 : (n2 : Int) ≤ 3000 := by omega
  obtain ⟨m, hm⟩ : ∃ m, (b ++ fr d).length = m := ⟨_, rfl⟩
  have HM := hid hm; clear hm
  go_enter Try.func3, Try.ntmps3
  go_wp2_with (at_builtin; refine wpl_app0 (W := w) (R := byteR) (B := 0) rfl (.tmp 24) (.tmp 25) _ rfl tabB _ [] b rfl (Own.made w (Nat.le_refl _)) (Nat.zero_le _) (below_new _ _) A1 n1 c1 (b.map byteV) rfl L1.out ((sl_bytes S1.out L1.out).alloc _) (cs_map _ _ _) (bytes_oneCell _) Q1.out Q2.out ?_; intro v1 w1 hown1 hbl1 _; obtain ⟨A0, c0, h0, k0, k0', s0⟩ := hown1.len (Nat.zero_le _) L1.out; subst h0)
  have S0 := hid s0; have HB1 := hid hbl1; have G0 := hid (And.intro k0 k0'); clear s0 hown1 hbl1 k0 k0'
  refine (ctake_any A0 b n1 c0 L1.out (by omega) G0.out.1 G0.out.2 _ w1 S0.out.slzW).mono ?_
  have h2t := fun w2 hb => rctake_any A1 b n1 c1 L1.out (by omega) G1.out.1 G1.out.2 _ w2 (S1.out.call (w' := w2) hb).slzW
  have H2T := hid h2t; clear h2t
  intro e w2 htk
  obtain ⟨A3, c3, A4, c4, rfl, s3, s4, hb2⟩ := takeFZ_all htk
  clear htk
  have HB2 := hid (below_then HB1.out hb2); have S3 := hid s3; have S4 := hid s4; have S02 := hid (S0.out.call hb2); clear s3 s4 hb2 S0
  have h2t := H2T.out w2 HB2.out
  have E1 := hid (rfl : takeF b = takeF b)
  obtain ⟨n3, hn3⟩ : ∃ n, (fX (takeF b)).length = n := ⟨_, rfl⟩
  obtain ⟨n4, hn4⟩ : ∃ n, (fL (takeF b)).length = n := ⟨_, rfl⟩
  have N3 := hid hn3; have N4 := hid hn4
  rw [hn3, hn4]
  generalize hzz : fZ (takeF b) = zz at *
  have HZ := hid hzz
  clear hn3 hn4 hzz
  go_wp2_with fail
  refine h2t.mono ?_
  clear h2t
  intro e w3 htk
  obtain ⟨A5, c5, A6, c6, rfl, s5, s6, hb3⟩ := takeFZ_all htk
  clear htk
  rw [N3.out, N4.out, HZ.out]
  have HB3 := hid (below_then HB2.out hb3); have S33 := hid (S3.out.call hb3); have S43 := hid (S4.out.call hb3); have S5 := hid s5; have S6 := hid s6; have S03 := hid (S02.out.call hb3)
  clear s5 s6 hb3 S3 S4 S02 H2T
  have S13 := hid (S1.out.call HB3.out); have S23 := hid (S2.out.call HB3.out)
  generalize fX (takeF b) = xx at *
  generalize fL (takeF b) = ll at *
  go_wp2_with fail
  refine reg_start (by kernel_rfl) fun w4 hHeld hz4 => ?_
  clear hz4
  have hT := hHeld
  refine reg_rd 0 (v := ?_) rfl (by kernel_rfl) (by kernel_rfl) (by kernel_rfl) (fun _ _ _ h => h) (by rfl) (by assumption) ?_ ?_
  rotate_left
  · intro w hSw; go_simp; with_reducible rfl
  try simp only [Act.put, List.setIfInBounds_toArray, List.set_cons_zero, List.set_cons_succ]
  refine reg_rd 2 (v := ?_) rfl (by kernel_rfl) (by kernel_rfl) (by kernel_rfl) (fun _ _ _ h => h) (by rfl) (by assumption) ?_ ?_
  rotate_left
  · intro w hSw; go_simp; with_reducible rfl
  try simp only [Act.put, List.setIfInBounds_toArray, List.set_cons_zero, List.set_cons_succ]
  refine wpAnyH_ready (rs := [1]) (by kernel_rfl) (by simp) ?_
  refine reg_do1 rfl (by rfl) (fun K hK => ?_)
  go_simp
  first | (go_at_call 16; refine (sum_any A0 b n1 c0 L1.out (by omega) _ (Nat.le_refl _) (S03.out.call hT)).mono ?_; rintro e wX ⟨rfl, hbX⟩; replace hT := below_then hT hbX) | (go_at_call 17; refine (rsum_any A1 b n1 c1 L1.out (by omega) _ (Nat.le_refl _) (S13.out.call hT)).mono ?_; rintro e wX ⟨rfl, rfl⟩) | (go_at_call 18; refine (more_any x hx A0 b n1 c0 L1.out (by omega) _ (Nat.le_refl _) (S03.out.call hT)).mono ?_; rintro e wX ⟨rfl, hbX⟩; replace hT := below_then hT hbX) | (go_at_call 19; refine (rmore_any x hx A1 b n1 c1 L1.out (by omega) _ (Nat.le_refl _) (S13.out.call hT)).mono ?_; rintro e wX ⟨rfl, rfl⟩) | (go_at_call 20; refine (frame_any A0 b n1 c0 L1.out G0.out.1 G0.out.2 (by omega) A2 d n2 c2 L2.out G2.out.1 G2.out.2 (by omega) _ (S03.out.call hT) (S23.out.call hT)).mono ?_; rintro e wX ⟨v, rfl, hown, hbX⟩; obtain ⟨AX, cX, rfl, _, _, sX⟩ := hown.len (Nat.zero_le _) HM.out; clear hown; replace hT := below_then hT hbX) | (go_at_call 21; refine (rframe_any A1 b n1 c1 L1.out G1.out.1 G1.out.2 (by omega) A2 d n2 c2 L2.out G2.out.1 G2.out.2 (by omega) _ (S13.out.call hT) (S23.out.call hT)).mono ?_; rintro e wX ⟨v, rfl, hown, hbX⟩; obtain ⟨AX, cX, rfl, _, _, sX⟩ := hown.len (Nat.zero_le _) HM.out; clear hown; replace hT := below_then hT hbX)
  go_wp2_with fail
  refine hK.out _ _ ?_ (fun hNext => ?_)
  · assumption
  clear hK K hHeld
  refine wpAnyH_base hNext.size hNext fun hHeld => ?_
  clear hNext
  try simp only [Act.put, List.setIfInBounds_toArray, List.set_cons_zero, List.set_cons_succ]
  refine wpAnyH_ready (rs := [3]) (by kernel_rfl) (by simp) ?_
  refine reg_do1 rfl (by rfl) (fun K hK => ?_)
  go_simp
  first | (go_at_call 16; refine (sum_any A0 b n1 c0 L1.out (by omega) _ (Nat.le_refl _) (S03.out.call hT)).mono ?_; rintro e wX ⟨rfl, hbX⟩; replace hT := below_then hT hbX) | (go_at_call 17; refine (rsum_any A1 b n1 c1 L1.out (by omega) _ (Nat.le_refl _) (S13.out.call hT)).mono ?_; rintro e wX ⟨rfl, rfl⟩) | (go_at_call 18; refine (more_any x hx A0 b n1 c0 L1.out (by omega) _ (Nat.le_refl _) (S03.out.call hT)).mono ?_; rintro e wX ⟨rfl, hbX⟩; replace hT := below_then hT hbX) | (go_at_call 19; refine (rmore_any x hx A1 b n1 c1 L1.out (by omega) _ (Nat.le_refl _) (S13.out.call hT)).mono ?_; rintro e wX ⟨rfl, rfl⟩) | (go_at_call 20; refine (frame_any A0 b n1 c0 L1.out G0.out.1 G0.out.2 (by omega) A2 d n2 c2 L2.out G2.out.1 G2.out.2 (by omega) _ (S03.out.call hT) (S23.out.call hT)).mono ?_; rintro e wX ⟨v, rfl, hown, hbX⟩; obtain ⟨AX, cX, rfl, _, _, sX⟩ := hown.len (Nat.zero_le _) HM.out; clear hown; replace hT := below_then hT hbX) | (go_at_call 21; refine (rframe_any A1 b n1 c1 L1.out G1.out.1 G1.out.2 (by omega) A2 d n2 c2 L2.out G2.out.1 G2.out.2 (by omega) _ (S13.out.call hT) (S23.out.call hT)).mono ?_; rintro e wX ⟨v, rfl, hown, hbX⟩; obtain ⟨AX, cX, rfl, _, _, sX⟩ := hown.len (Nat.zero_le _) HM.out; clear hown; replace hT := below_then hT hbX)
  go_wp2_with fail
  refine hK.out _ _ ?_ (fun hNext => ?_)
  · assumption
  clear hK K hHeld
  refine wpAnyH_base hNext.size hNext fun hHeld => ?_
  clear hNext
  try simp only [Act.put, List.setIfInBounds_toArray, List.set_cons_zero, List.set_cons_succ]
  refine reg_rd 4 (v := ?_) rfl (by kernel_rfl) (by kernel_rfl) (by kernel_rfl) (fun _ _ _ h => h) (by rfl) (by assumption) ?_ ?_
  rotate_left
  · intro w hSw; go_simp; with_reducible rfl
  try simp only [Act.put, List.setIfInBounds_toArray, List.set_cons_zero, List.set_cons_succ]
  refine reg_rd 5 (v := ?_) rfl (by kernel_rfl) (by kernel_rfl) (by kernel_rfl) (fun _ _ _ h => h) (by rfl) (by assumption) ?_ ?_
  rotate_left
  · intro w hSw; go_simp; with_reducible rfl
  try simp only [Act.put, List.setIfInBounds_toArray, List.set_cons_zero, List.set_cons_succ]
  refine reg_rd 6 (v := ?_) rfl (by kernel_rfl) (by kernel_rfl) (by kernel_rfl) (fun _ _ _ h => h) (by rfl) (by assumption) ?_ ?_
  rotate_left
  · intro w hSw; go_simp; with_reducible rfl
  try simp only [Act.put, List.setIfInBounds_toArray, List.set_cons_zero, List.set_cons_succ]
  refine reg_rd 7 (v := ?_) rfl (by kernel_rfl) (by kernel_rfl) (by kernel_rfl) (fun _ _ _ h => h) (by rfl) (by assumption) ?_ ?_
  rotate_left
  · intro w hSw; go_simp; with_reducible rfl
  try simp only [Act.put, List.setIfInBounds_toArray, List.set_cons_zero, List.set_cons_succ]
  refine reg_rd 9 (v := ?_) rfl (by kernel_rfl) (by kernel_rfl) (by kernel_rfl) (fun _ _ _ h => h) (by rfl) (by assumption) ?_ ?_
  rotate_left
  · intro w hSw; go_simp; with_reducible rfl
  try simp only [Act.put, List.setIfInBounds_toArray, List.set_cons_zero, List.set_cons_succ]
  refine reg_rd 10 (v := ?_) rfl (by kernel_rfl) (by kernel_rfl) (by kernel_rfl) (fun _ _ _ h => h) (by rfl) (by assumption) ?_ ?_
  rotate_left
  · intro w hSw; go_simp; with_reducible rfl
  try simp only [Act.put, List.setIfInBounds_toArray, List.set_cons_zero, List.set_cons_succ]
  refine wpAnyH_ready (rs := [8]) (by kernel_rfl) (by simp) ?_
  refine reg_do1 rfl (by rfl) (fun K hK => ?_)
  go_simp
  first | (go_at_call 16; refine (sum_any A0 b n1 c0 L1.out (by omega) _ (Nat.le_refl _) (S03.out.call hT)).mono ?_; rintro e wX ⟨rfl, hbX⟩; replace hT := below_then hT hbX) | (go_at_call 17; refine (rsum_any A1 b n1 c1 L1.out (by omega) _ (Nat.le_refl _) (S13.out.call hT)).mono ?_; rintro e wX ⟨rfl, rfl⟩) | (go_at_call 18; refine (more_any x hx A0 b n1 c0 L1.out (by omega) _ (Nat.le_refl _) (S03.out.call hT)).mono ?_; rintro e wX ⟨rfl, hbX⟩; replace hT := below_then hT hbX) | (go_at_call 19; refine (rmore_any x hx A1 b n1 c1 L1.out (by omega) _ (Nat.le_refl _) (S13.out.call hT)).mono ?_; rintro e wX ⟨rfl, rfl⟩) | (go_at_call 20; refine (frame_any A0 b n1 c0 L1.out G0.out.1 G0.out.2 (by omega) A2 d n2 c2 L2.out G2.out.1 G2.out.2 (by omega) _ (S03.out.call hT) (S23.out.call hT)).mono ?_; rintro e wX ⟨v, rfl, hown, hbX⟩; obtain ⟨AX, cX, rfl, _, _, sX⟩ := hown.len (Nat.zero_le _) HM.out; clear hown; replace hT := below_then hT hbX) | (go_at_call 21; refine (rframe_any A1 b n1 c1 L1.out G1.out.1 G1.out.2 (by omega) A2 d n2 c2 L2.out G2.out.1 G2.out.2 (by omega) _ (S13.out.call hT) (S23.out.call hT)).mono ?_; rintro e wX ⟨v, rfl, hown, hbX⟩; obtain ⟨AX, cX, rfl, _, _, sX⟩ := hown.len (Nat.zero_le _) HM.out; clear hown; replace hT := below_then hT hbX)
  go_wp2_with fail
  refine hK.out _ _ ?_ (fun hNext => ?_)
  · assumption
  clear hK K hHeld
  refine wpAnyH_base hNext.size hNext fun hHeld => ?_
  clear hNext
  try simp only [Act.put, List.setIfInBounds_toArray, List.set_cons_zero, List.set_cons_succ]
  refine wpAnyH_ready (rs := [11]) (by kernel_rfl) (by simp) ?_
  refine reg_do1 rfl (by rfl) (fun K hK => ?_)
  go_simp
  first | (go_at_call 16; refine (sum_any A0 b n1 c0 L1.out (by omega) _ (Nat.le_refl _) (S03.out.call hT)).mono ?_; rintro e wX ⟨rfl, hbX⟩; replace hT := below_then hT hbX) | (go_at_call 17; refine (rsum_any A1 b n1 c1 L1.out (by omega) _ (Nat.le_refl _) (S13.out.call hT)).mono ?_; rintro e wX ⟨rfl, rfl⟩) | (go_at_call 18; refine (more_any x hx A0 b n1 c0 L1.out (by omega) _ (Nat.le_refl _) (S03.out.call hT)).mono ?_; rintro e wX ⟨rfl, hbX⟩; replace hT := below_then hT hbX) | (go_at_call 19; refine (rmore_any x hx A1 b n1 c1 L1.out (by omega) _ (Nat.le_refl _) (S13.out.call hT)).mono ?_; rintro e wX ⟨rfl, rfl⟩) | (go_at_call 20; refine (frame_any A0 b n1 c0 L1.out G0.out.1 G0.out.2 (by omega) A2 d n2 c2 L2.out G2.out.1 G2.out.2 (by omega) _ (S03.out.call hT) (S23.out.call hT)).mono ?_; rintro e wX ⟨v, rfl, hown, hbX⟩; obtain ⟨AX, cX, rfl, _, _, sX⟩ := hown.len (Nat.zero_le _) HM.out; clear hown; replace hT := below_then hT hbX) | (go_at_call 21; refine (rframe_any A1 b n1 c1 L1.out G1.out.1 G1.out.2 (by omega) A2 d n2 c2 L2.out G2.out.1 G2.out.2 (by omega) _ (S13.out.call hT) (S23.out.call hT)).mono ?_; rintro e wX ⟨v, rfl, hown, hbX⟩; obtain ⟨AX, cX, rfl, _, _, sX⟩ := hown.len (Nat.zero_le _) HM.out; clear hown; replace hT := below_then hT hbX)
  go_wp2_with fail
  refine hK.out _ _ ?_ (fun hNext => ?_)
  · assumption
  clear hK K hHeld
  refine wpAnyH_base hNext.size hNext fun hHeld => ?_
  clear hNext
  try simp only [Act.put, List.setIfInBounds_toArray, List.set_cons_zero, List.set_cons_succ]
  refine reg_rd 12 (v := ?_) rfl (by kernel_rfl) (by kernel_rfl) (by kernel_rfl) (fun _ _ _ h => h) (by rfl) (by assumption) ?_ ?_
  rotate_left
  · intro w hSw; go_simp; with_reducible rfl
  try simp only [Act.put, List.setIfInBounds_toArray, List.set_cons_zero, List.set_cons_succ]
  refine reg_rd 13 (v := ?_) rfl (by kernel_rfl) (by kernel_rfl) (by kernel_rfl) (fun _ _ _ h => h) (by rfl) (by assumption) ?_ ?_
  rotate_left
  · intro w hSw; go_simp; with_reducible rfl
  try simp only [Act.put, List.setIfInBounds_toArray, List.set_cons_zero, List.set_cons_succ]
  refine reg_rd 14 (v := ?_) rfl (by kernel_rfl) (by kernel_rfl) (by kernel_rfl) (fun _ _ _ h => h) (by rfl) (by assumption) ?_ ?_
  rotate_left
  · intro w hSw; go_simp; with_reducible rfl
  try simp only [Act.put, List.setIfInBounds_toArray, List.set_cons_zero, List.set_cons_succ]
  refine reg_rd 15 (v := ?_) rfl (by kernel_rfl) (by kernel_rfl) (by kernel_rfl) (fun _ _ _ h => h) (by rfl) (by assumption) ?_ ?_
  rotate_left
  · intro w hSw; go_simp; with_reducible rfl
  try simp only [Act.put, List.setIfInBounds_toArray, List.set_cons_zero, List.set_cons_succ]
  refine reg_rd 16 (v := ?_) rfl (by kernel_rfl) (by kernel_rfl) (by kernel_rfl) (fun _ _ _ h => h) (by rfl) (by assumption) ?_ ?_
  rotate_left
  · intro w hSw; go_simp; with_reducible rfl
  try simp only [Act.put, List.setIfInBounds_toArray, List.set_cons_zero, List.set_cons_succ]
  refine reg_rd 19 (v := ?_) rfl (by kernel_rfl) (by kernel_rfl) (by kernel_rfl) (fun _ _ _ h => h) (by rfl) (by assumption) ?_ ?_
  rotate_left
  · intro w hSw; go_simp; with_reducible rfl
  try simp only [Act.put, List.setIfInBounds_toArray, List.set_cons_zero, List.set_cons_succ]
  refine reg_rd 20 (v := ?_) rfl (by kernel_rfl) (by kernel_rfl) (by kernel_rfl) (fun _ _ _ h => h) (by rfl) (by assumption) ?_ ?_
  rotate_left
  · intro w hSw; go_simp; with_reducible rfl
  try simp only [Act.put, List.setIfInBounds_toArray, List.set_cons_zero, List.set_cons_succ]
  refine wpAnyH_ready (rs := [17]) (by kernel_rfl) (by simp) ?_
  refine reg_do1 rfl (by rfl) (fun K hK => ?_)
  go_simp
  first | (go_at_call 16; refine (sum_any A0 b n1 c0 L1.out (by omega) _ (Nat.le_refl _) (S03.out.call hT)).mono ?_; rintro e wX ⟨rfl, hbX⟩; replace hT := below_then hT hbX) | (go_at_call 17; refine (rsum_any A1 b n1 c1 L1.out (by omega) _ (Nat.le_refl _) (S13.out.call hT)).mono ?_; rintro e wX ⟨rfl, rfl⟩) | (go_at_call 18; refine (more_any x hx A0 b n1 c0 L1.out (by omega) _ (Nat.le_refl _) (S03.out.call hT)).mono ?_; rintro e wX ⟨rfl, hbX⟩; replace hT := below_then hT hbX) | (go_at_call 19; refine (rmore_any x hx A1 b n1 c1 L1.out (by omega) _ (Nat.le_refl _) (S13.out.call hT)).mono ?_; rintro e wX ⟨rfl, rfl⟩) | (go_at_call 20; refine (frame_any A0 b n1 c0 L1.out G0.out.1 G0.out.2 (by omega) A2 d n2 c2 L2.out G2.out.1 G2.out.2 (by omega) _ (S03.out.call hT) (S23.out.call hT)).mono ?_; rintro e wX ⟨v, rfl, hown, hbX⟩; obtain ⟨AX, cX, rfl, _, _, sX⟩ := hown.len (Nat.zero_le _) HM.out; clear hown; replace hT := below_then hT hbX) | (go_at_call 21; refine (rframe_any A1 b n1 c1 L1.out G1.out.1 G1.out.2 (by omega) A2 d n2 c2 L2.out G2.out.1 G2.out.2 (by omega) _ (S13.out.call hT) (S23.out.call hT)).mono ?_; rintro e wX ⟨v, rfl, hown, hbX⟩; obtain ⟨AX, cX, rfl, _, _, sX⟩ := hown.len (Nat.zero_le _) HM.out; clear hown; replace hT := below_then hT hbX)
  go_wp2_with fail
  refine hK.out _ _ ?_ (fun hNext => ?_)
  · assumption
  clear hK K hHeld
  refine wpAnyH_base hNext.size hNext fun hHeld => ?_
  clear hNext
  try simp only [Act.put, List.setIfInBounds_toArray, List.set_cons_zero, List.set_cons_succ]
  refine reg_rd 18 (v := ?_) rfl (by kernel_rfl) (by kernel_rfl) (by kernel_rfl) (fun _ _ _ h => h) (by rfl) (by assumption) ?_ ?_
  rotate_left
  · (intro w' hSw; (first | have hq := conv_str (c := cX) HM.out (sX.below hSw) | skip); go_simp); with_reducible rfl
  try simp only [Act.put, List.setIfInBounds_toArray, List.set_cons_zero, List.set_cons_succ]
  refine wpAnyH_ready (rs := [21]) (by kernel_rfl) (by simp) ?_
  refine reg_do1 rfl (by rfl) (fun K hK => ?_)
  go_simp
  first | (go_at_call 16; refine (sum_any A0 b n1 c0 L1.out (by omega) _ (Nat.le_refl _) (S03.out.call hT)).mono ?_; rintro e wX ⟨rfl, hbX⟩; replace hT := below_then hT hbX) | (go_at_call 17; refine (rsum_any A1 b n1 c1 L1.out (by omega) _ (Nat.le_refl _) (S13.out.call hT)).mono ?_; rintro e wX ⟨rfl, rfl⟩) | (go_at_call 18; refine (more_any x hx A0 b n1 c0 L1.out (by omega) _ (Nat.le_refl _) (S03.out.call hT)).mono ?_; rintro e wX ⟨rfl, hbX⟩; replace hT := below_then hT hbX) | (go_at_call 19; refine (rmore_any x hx A1 b n1 c1 L1.out (by omega) _ (Nat.le_refl _) (S13.out.call hT)).mono ?_; rintro e wX ⟨rfl, rfl⟩) | (go_at_call 20; refine (frame_any A0 b n1 c0 L1.out G0.out.1 G0.out.2 (by omega) A2 d n2 c2 L2.out G2.out.1 G2.out.2 (by omega) _ (S03.out.call hT) (S23.out.call hT)).mono ?_; rintro e wX ⟨v, rfl, hown, hbX⟩; obtain ⟨AX, cX, rfl, _, _, sX⟩ := hown.len (Nat.zero_le _) HM.out; clear hown; replace hT := below_then hT hbX) | (go_at_call 21; refine (rframe_any A1 b n1 c1 L1.out G1.out.1 G1.out.2 (by omega) A2 d n2 c2 L2.out G2.out.1 G2.out.2 (by omega) _ (S13.out.call hT) (S23.out.call hT)).mono ?_; rintro e wX ⟨v, rfl, hown, hbX⟩; obtain ⟨AX, cX, rfl, _, _, sX⟩ := hown.len (Nat.zero_le _) HM.out; clear hown; replace hT := below_then hT hbX)
  go_wp2_with fail
  refine hK.out _ _ ?_ (fun hNext => ?_)
  · assumption
  clear hK K hHeld
  refine wpAnyH_base hNext.size hNext fun hHeld => ?_
  clear hNext
  try simp only [Act.put, List.setIfInBounds_toArray, List.set_cons_zero, List.set_cons_succ]
  refine reg_rd 22 (v := ?_) rfl (by kernel_rfl) (by kernel_rfl) (by kernel_rfl) (fun _ _ _ h => h) (by rfl) (by assumption) ?_ ?_
  rotate_left
  · (intro w' hSw; (first | have hq := conv_str (c := cX) HM.out (sX.below hSw) | skip); go_simp); with_reducible rfl
  try simp only [Act.put, List.setIfInBounds_toArray, List.set_cons_zero, List.set_cons_succ]
  refine reg_rd 23 (v := ?_) rfl (by kernel_rfl) (by kernel_rfl) (by kernel_rfl) (fun _ _ _ h => h) (by rfl) (by assumption) ?_ ?_
  rotate_left
  · intro w hSw; go_simp; with_reducible rfl
  try simp only [Act.put, List.setIfInBounds_toArray, List.set_cons_zero, List.set_cons_succ]
  refine reg_rd 24 (v := ?_) rfl (by kernel_rfl) (by kernel_rfl) (by kernel_rfl) (fun _ _ _ h => h) (by rfl) (by assumption) ?_ ?_
  rotate_left
  · intro w hSw; go_simp; with_reducible rfl
  try simp only [Act.put, List.setIfInBounds_toArray, List.set_cons_zero, List.set_cons_succ]
  refine reg_rd 25 (v := ?_) rfl (by kernel_rfl) (by kernel_rfl) (by kernel_rfl) (fun _ _ _ h => h) (by rfl) (by assumption) ?_ ?_
  rotate_left
  · intro w hSw; go_simp; with_reducible rfl
  try simp only [Act.put, List.setIfInBounds_toArray, List.set_cons_zero, List.set_cons_succ]
  refine wpAnyH_done (by kernel_rfl) ?_ _
  go_wp2_with fail
  refine (alive15 _).mono ?_
  rintro e w8 ⟨rfl, hb8⟩
  have hT8 := below_then hT hb8
  have HT8 := hid hT8
  have hv1 := conv_str (c := c3) N3.out (S33.out.below hT8)
  have hv2 := conv_str (c := c5) N3.out (S5.out.below hT8)
  have hv3 := conv_str (c := c4) N4.out (S43.out.below hT8)
  have hv4 := conv_str (c := c6) N4.out (S6.out.below hT8)
  have hv5 := conv_str (c := c0) L1.out (S03.out.below hT8)
  have hv6 := conv_str (c := c1) L1.out (S13.out.below hT8)
  clear hT8
  go_wp2_with (first
    | (go_at_call 22; refine (long_any n1 (by omega) _).mono ?_; rintro e wA ⟨rfl, hbA⟩)
    | (go_at_call 23; refine (rlong_any n1 (by omega) _).mono ?_; rintro e wB ⟨rfl, hbB⟩))
  go_ret
  exact ⟨rfl, below_then (below_then (below_then HB3.out HT8.out) hbA) hbB⟩
theorem tells_any (A1 A2 : Option Addr) (b d : Bytes) (n1 n2 c1 c2 x : Nat) (hl1 : b.length = n1) (g1 : n1 ≤ c1) (m1 : c1 ≤ maxLen) (hl2 : d.length = n2) (g2 : n2 ≤ c2) (m2 : c2 ≤ maxLen) (hx : x < 4294967296) (w : World) (hs1 : Sl byteR 1 w.heap.size w A1 b) (hs2 : Sl byteR 1 w.heap.size w A2 d) :
    Calls Try.prog 3 #[.slice A1 n1 c1, .slice A2 n2 c2, .int .u32 (x : Int)] w fun e w' => e = .returned (.bool true) ∧ Below w.heap.size w w' := by
  by_cases h : 3000 < n1 ∨ 3000 < n2
  · exact tells_long A1 A2 n1 n2 c1 c2 x h w
  · exact tells_main A1 A2 b d n1 n2 c1 c2 x hl1 g1 m1 hl2 g2 m2 hx (by omega) (by omega) w hs1 hs2
end Go.Proofs.Ytcafahcmalfepaa
