/-
  The walk of crc.Take, on.
-/
import Derived.Test.YtcafahcmalfepaaCrcC
import Derived.Test.YtcafahcmalfepaaRegL
import Derived.IntWalk
namespace Go.Proofs.Ytcafahcmalfepaa
open Go.RowKit Go.Deep
theorem takeFZ_ok {Z : Nat → Prop} {w w' : World} {e : Ending} {x l : Bytes} {A1 A2 : Option Addr} {c1 c2 : Nat} (hb : Below w.heap.size w w') (he : e = .returned (.tuple #[.slice A1 x.length c1, .slice A2 l.length c2, .int .i64 0])) (h : x.length ≤ c1 ∧ c1 ≤ maxLen ∧ l.length ≤ c2 ∧ c2 ≤ maxLen) (s1 : SlZ byteZ 1 Z w A1 x) (s2 : SlZ byteZ 1 Z w A2 l) : TakeFZ Z w (.ok (x, l)) e w' :=
  ⟨hb, A1, c1, A2, c2, he, h, s1.below hb, s2.below hb⟩
set_option maxHeartbeats 1000000 in
theorem ctake_large (A : Option Addr) (t r : Bytes) (n c nn : Nat) (hl : ((167 : UInt8) :: t).length = n) (hc1 : n ≤ c) (hc2 : c ≤ maxLen) (ht : t ≠ []) (htk : takeN t = .ok (nn, r)) (hnn : 100000 < nn) (Z : Nat → Prop) (w : World) (hs : SlZ byteZ 1 Z w A (167 :: t)) :
    Calls Try.prog 14 #[.slice A n c] w (TakeFZ Z w (.error 5)) := by
  obtain ⟨b, o, rfl, hc', hd, htl, f1, f2, f3, f4, f5, f6, f7⟩ := ctake_pre hl hc1 ht hs
  have HD := hid hd; have HT := hid htl; clear hs hl ht hd htl
  have hni : (100000 : Int) < nn := by omega
  go_enter Try.func14, Try.ntmps14
  go_wp2_with fail
  refine (take_any (some ⟨b, o + 1, none⟩) t (n - 1) (c - 1) HT.out (by omega) (by unfold maxLen at *; omega) w HD.out).mono ?_
  rw [htk]
  rintro e w' ⟨⟨q, rfl⟩, A', c', rfl, g1, g2, hs'⟩
  clear hs'
  go_wp2_with fail
  go_ret3
  exact ⟨below_drewN (Below.refl _ _) _, rfl⟩
set_option maxHeartbeats 1000000 in
theorem ctake_short (A : Option Addr) (t r : Bytes) (n c nn : Nat) (hl : ((167 : UInt8) :: t).length = n) (hc1 : n ≤ c) (hc2 : c ≤ maxLen) (ht : t ≠ []) (htk : takeN t = .ok (nn, r)) (hnn : nn ≤ 100000) (hsh : r.length < nn + 4) (Z : Nat → Prop) (w : World) (hs : SlZ byteZ 1 Z w A (167 :: t)) :
    Calls Try.prog 14 #[.slice A n c] w (TakeFZ Z w (.error 2)) := by
  obtain ⟨b, o, rfl, hc', hd, htl, f1, f2, f3, f4, f5, f6, f7⟩ := ctake_pre hl hc1 ht hs
  have HD := hid hd; have HT := hid htl; clear hs hl ht hd htl
  have hni : (nn : Int) ≤ 100000 := by omega
  have hri : (r.length : Int) < nn + 4 := by omega
  have hri2 : (r.length : Int) ≤ 100003 := by omega
  go_enter Try.func14, Try.ntmps14
  go_wp2_with fail
  refine (take_any (some ⟨b, o + 1, none⟩) t (n - 1) (c - 1) HT.out (by omega) (by unfold maxLen at *; omega) w HD.out).mono ?_
  rw [htk]
  rintro e w' ⟨⟨q, rfl⟩, A', c', rfl, g1, g2, hs'⟩
  clear hs'
  generalize r.length = rl at *
  go_wp2_with fail
  go_ret3
  exact ⟨below_drewN (Below.refl _ _) _, rfl⟩
set_option maxHeartbeats 4000000 in
set_option maxRecDepth 20000 in
theorem ctake_rest (A : Option Addr) (t r : Bytes) (n c nn : Nat) (hl : ((167 : UInt8) :: t).length = n) (hn : n ≤ 1000000) (hc1 : n ≤ c) (hc2 : c ≤ maxLen) (ht : t ≠ []) (htk : takeN t = .ok (nn, r)) (hnn : nn ≤ 100000) (hsh : nn + 4 ≤ r.length) (yes : Bool) (R : Except Int (Bytes × Bytes)) (hy : decide (be 4 (crcSum (((167 : UInt8) :: t).take (n - (r.length - nn)))) = (r.drop nn).take 4) = yes) (hR : R = bif yes then .ok (r.take nn, r.drop (nn + 4)) else .error 4) (Z : Nat → Prop) (w : World) (hs : SlZ byteZ 1 Z w A (167 :: t)) :
    Calls Try.prog 14 #[.slice A n c] w (TakeFZ Z w R) := by
  have HY := hid hy; have HRR := hid hR; clear hy hR
  obtain ⟨b, o, rfl, hc', hd, htl, f1, f2, f3, f4, f5, f6, f7⟩ := ctake_pre hl hc1 ht hs
  have HS := hid hs; have HL := hid hl; have HD := hid hd; have HT := hid htl; clear hs ht hd htl
  have hrn := takeN_shorter htk
  have hni : (nn : Int) ≤ 100000 := by omega
  have hri : ¬ (r.length : Int) < nn + 4 := by omega
  have hri2 : (r.length : Int) ≤ 1000000 := by have := HT.out; omega
  have hri3 : (nn : Int) ≤ r.length := by omega
  go_enter Try.func14, Try.ntmps14
  go_wp2_with fail
  refine (take_any (some ⟨b, o + 1, none⟩) t (n - 1) (c - 1) HT.out (by omega) (by unfold maxLen at *; omega) w HD.out).mono ?_
  rw [htk]
  rintro e w' ⟨⟨q, rfl⟩, A', c', rfl, g1, g2, hs'⟩
  obtain ⟨b2, o2, rfl, _, _, _⟩ := hs' (by rintro rfl; simp at hsh)
  have HS' := hid hs'; clear hs'
  generalize hrl : r.length = rl at *
  have HRL := hid hrl
  clear hrl
  have hge : (nn : Int) ≤ c' := by omega
  have hgt : nn < c' := by omega
  have hri4 : (nn : Int) + 4 ≤ rl := by omega
  clear hri
  have hgn : ¬ c' = nn := by omega
  go_wp2_with fail
  have hrn2 : rl ≤ n := by have := HT.out; omega
  have hd4 := HS'.out.drop nn
  rw [Nat.mul_one] at hd4
  have hr4 : ((r.drop nn).take 4).length = 4 := by rw [List.length_take, List.length_drop, HRL.out]; omega
  have hkk : (((167 : UInt8) :: t).take (n - (rl - nn))).length = n - (rl - nn) := by rw [List.length_take, HL.out]; omega
  have HSR := hid (hd4.take 4).bsl; have HD4 := hid hd4; have HR4 := hid hr4; have HK := hid hkk
  have HSB := hid (HS.out.take (n - (rl - nn))).bsl
  clear hd4 hr4 hkk
  have x1 : (4 : Int) ≤ ((c' - nn : Nat) : Int) := by omega
  have x2 : ((n - (rl - nn) : Nat) : Int) ≤ c := by omega
  have x3 : IntKind.i64.wrap ((n : Int) - ((rl - nn : Nat) : Int)) = ((n - (rl - nn) : Nat) : Int) := by rw [IntWalk.i64_in] <;> omega
  have x9 : IntKind.i64.wrap ((n - (rl - nn) : Nat) : Int) = ((n - (rl - nn) : Nat) : Int) := by rw [IntWalk.i64_in] <;> omega
  have x4 : (n : Int) - ((rl - nn : Nat) : Int) = ((n - (rl - nn) : Nat) : Int) := by omega
  have x5 : 4 < c' - nn ∨ c' - nn = 4 := by omega
  have x6 : nn ≤ rl := by omega
  have x7 : 4 ≤ rl - nn := by omega
  have x8 : (4 : Int) ≤ ((rl - nn : Nat) : Int) := by omega
  have X9 := hid (show n - (rl - nn) ≤ n by omega)
  have X10 := hid (show nn ≤ c' ∧ rl - nn ≤ c' - nn ∧ c' ≤ maxLen ∧ c' - nn ≤ maxLen from ⟨by omega, by omega, g2, by omega⟩)
  have X11 := hid (show r.length - nn = rl - nn by rw [HRL.out])
  go_quiet (fail)
  go_wp2_with fail
  clear hri3 hgt hgn hge hri4 g1
  generalize hk : n - (rl - nn) = k at *
  generalize c' - nn = c4 at *
  have HKN := hid hk; clear hk
  generalize hr4 : rl - nn = r4 at *
  have HR4L := hid hr4; clear hr4
  cases yes with
  | true =>
    refine reg_start (by kernel_rfl) fun w4 hHeld hz4 => ?_
    have hT := hHeld
    refine reg_rd 0 (v := ?_) rfl (by kernel_rfl) (by kernel_rfl) (by kernel_rfl) (fun _ _ _ h => h) (by rfl) (by assumption) ?_ ?_
    rotate_left
    · intro w hSw; go_simp; with_reducible rfl
    try simp only [Act.put, List.setIfInBounds_toArray, List.set_cons_zero, List.set_cons_succ]
    refine reg_rd 1 (v := ?_) rfl (by kernel_rfl) (by kernel_rfl) (by kernel_rfl) (fun _ _ _ h => h) (by rfl) (by assumption) ?_ ?_
    rotate_left
    · intro w hSw; go_simp; with_reducible rfl
    try simp only [Act.put, List.setIfInBounds_toArray, List.set_cons_zero, List.set_cons_succ]
    refine reg_rd 2 (v := ?_) rfl (by kernel_rfl) (by kernel_rfl) (by kernel_rfl) (fun _ _ _ h => h) (by rfl) (by assumption) ?_ ?_
    rotate_left
    · intro w hSw; go_simp; with_reducible rfl
    try simp only [Act.put, List.setIfInBounds_toArray, List.set_cons_zero, List.set_cons_succ]
    refine reg_rd 3 (v := ?_) rfl (by kernel_rfl) (by kernel_rfl) (by kernel_rfl) (fun _ _ _ h => h) (by rfl) (by assumption) ?_ ?_
    rotate_left
    · intro w hSw; go_simp; with_reducible rfl
    try simp only [Act.put, List.setIfInBounds_toArray, List.set_cons_zero, List.set_cons_succ]
    refine reg_rd 4 (v := ?_) rfl (by kernel_rfl) (by kernel_rfl) (by kernel_rfl) (fun _ _ _ h => h) (by rfl) (by assumption) ?_ ?_
    rotate_left
    · intro w hSw; go_simp; with_reducible rfl
    try simp only [Act.put, List.setIfInBounds_toArray, List.set_cons_zero, List.set_cons_succ]
    refine reg_rd 5 (v := ?_) rfl (by kernel_rfl) (by kernel_rfl) (by kernel_rfl) (fun _ _ _ h => h) (by rfl) (by assumption) ?_ ?_
    rotate_left
    · intro w hSw; go_simp; with_reducible rfl
    try simp only [Act.put, List.setIfInBounds_toArray, List.set_cons_zero, List.set_cons_succ]
    refine reg_rd 6 (v := ?_) rfl (by kernel_rfl) (by kernel_rfl) (by kernel_rfl) (fun _ _ _ h => h) (by rfl) (by assumption) ?_ ?_
    rotate_left
    · intro w hSw; go_simp; with_reducible rfl
    try simp only [Act.put, List.setIfInBounds_toArray, List.set_cons_zero, List.set_cons_succ]
    refine reg_rd 9 (v := ?_) rfl (by kernel_rfl) (by kernel_rfl) (by kernel_rfl) (fun _ _ _ h => h) (by rfl) (by assumption) ?_ ?_
    rotate_left
    · intro w hSw; go_simp; with_reducible rfl
    try simp only [Act.put, List.setIfInBounds_toArray, List.set_cons_zero, List.set_cons_succ]
    refine reg_rd 10 (v := ?_) rfl (by kernel_rfl) (by kernel_rfl) (by kernel_rfl) (fun _ _ _ h => h) (by rfl) (by assumption) ?_ ?_
    rotate_left
    · intro w hSw; go_simp; with_reducible rfl
    try simp only [Act.put, List.setIfInBounds_toArray, List.set_cons_zero, List.set_cons_succ]
    refine wpAnyH_ready (rs := [7]) (by kernel_rfl) (by simp) ?_
    refine reg_do1 rfl (by rfl) (fun K hK => ?_)
    go_simp
    first | (go_at_call 16; refine (sum_any (some ⟨b, o, none⟩) (((167 : UInt8) :: t).take k) k c HK.out (by omega) _ (Nat.le_refl _) (HSB.out.call (below_then (below_drewN (below_drewN (Below.refl _ _) _) _) hT))).mono ?_; rintro e wX ⟨rfl, hbX⟩; replace hT := below_then hT hbX) | (go_at_call 48; refine (four_ret (crcSum (((167 : UInt8) :: t).take k)) (crcSum_lt _) _).mono ?_; rintro e wX ⟨A4, rfl, s4, hbX⟩; replace hT := below_then hT hbX) | (go_at_call 47; refine (sequal_any A4 (some ⟨b2, o2 + nn, none⟩) (be 4 (crcSum (((167 : UInt8) :: t).take k))) ((r.drop nn).take 4) 4 4 4 c4 (be_length _ _) HR4.out (by decide) _ s4 (HSR.out.call (below_then (below_drewN (below_drewN (Below.refl _ _) _) _) hT))).mono ?_; rw [HY.out]; rintro e wX ⟨rfl, qX, rfl⟩; have hbX := below_drewN (Below.refl wX.heap.size wX) qX; replace hT := below_then hT hbX)
    go_wp2_with fail
    refine hK.out _ _ ?_ (fun hNext => ?_)
    · assumption
    clear hK K hHeld
    refine wpAnyH_base hNext.size hNext fun hHeld => ?_
    clear hNext
    try simp only [Act.put, List.setIfInBounds_toArray, List.set_cons_zero, List.set_cons_succ]
    refine wpAnyH_ready (rs := [8]) (by kernel_rfl) (by simp) ?_
    refine reg_do1 rfl (by rfl) (fun K hK => ?_)
    go_simp
    first | (go_at_call 16; refine (sum_any (some ⟨b, o, none⟩) (((167 : UInt8) :: t).take k) k c HK.out (by omega) _ (Nat.le_refl _) (HSB.out.call (below_then (below_drewN (below_drewN (Below.refl _ _) _) _) hT))).mono ?_; rintro e wX ⟨rfl, hbX⟩; replace hT := below_then hT hbX) | (go_at_call 48; refine (four_ret (crcSum (((167 : UInt8) :: t).take k)) (crcSum_lt _) _).mono ?_; rintro e wX ⟨A4, rfl, s4, hbX⟩; replace hT := below_then hT hbX) | (go_at_call 47; refine (sequal_any A4 (some ⟨b2, o2 + nn, none⟩) (be 4 (crcSum (((167 : UInt8) :: t).take k))) ((r.drop nn).take 4) 4 4 4 c4 (be_length _ _) HR4.out (by decide) _ s4 (HSR.out.call (below_then (below_drewN (below_drewN (Below.refl _ _) _) _) hT))).mono ?_; rw [HY.out]; rintro e wX ⟨rfl, qX, rfl⟩; have hbX := below_drewN (Below.refl wX.heap.size wX) qX; replace hT := below_then hT hbX)
    go_wp2_with fail
    refine hK.out _ _ ?_ (fun hNext => ?_)
    · assumption
    clear hK K hHeld
    refine wpAnyH_base hNext.size hNext fun hHeld => ?_
    clear hNext
    try simp only [Act.put, List.setIfInBounds_toArray, List.set_cons_zero, List.set_cons_succ]
    refine wpAnyH_ready (rs := [11]) (by kernel_rfl) (by simp) ?_
    refine reg_do1 rfl (by rfl) (fun K hK => ?_)
    go_simp
    first | (go_at_call 16; refine (sum_any (some ⟨b, o, none⟩) (((167 : UInt8) :: t).take k) k c HK.out (by omega) _ (Nat.le_refl _) (HSB.out.call (below_then (below_drewN (below_drewN (Below.refl _ _) _) _) hT))).mono ?_; rintro e wX ⟨rfl, hbX⟩; replace hT := below_then hT hbX) | (go_at_call 48; refine (four_ret (crcSum (((167 : UInt8) :: t).take k)) (crcSum_lt _) _).mono ?_; rintro e wX ⟨A4, rfl, s4, hbX⟩; replace hT := below_then hT hbX) | (go_at_call 47; refine (sequal_any A4 (some ⟨b2, o2 + nn, none⟩) (be 4 (crcSum (((167 : UInt8) :: t).take k))) ((r.drop nn).take 4) 4 4 4 c4 (be_length _ _) HR4.out (by decide) _ s4 (HSR.out.call (below_then (below_drewN (below_drewN (Below.refl _ _) _) _) hT))).mono ?_; rw [HY.out]; rintro e wX ⟨rfl, qX, rfl⟩; have hbX := below_drewN (Below.refl wX.heap.size wX) qX; replace hT := below_then hT hbX)
    go_wp2_with fail
    refine hK.out _ _ ?_ (fun hNext => ?_)
    · assumption
    clear hK K hHeld
    refine wpAnyH_base hNext.size hNext fun hHeld => ?_
    clear hNext
    try simp only [Act.put, List.setIfInBounds_toArray, List.set_cons_zero, List.set_cons_succ]
    refine reg_rd 12 (v := ?_) rfl (by kernel_rfl) (by kernel_rfl) (by kernel_rfl) (fun _ _ _ h => h) (by rfl) (by assumption) ?_ ?_
    rotate_left
    · intro w hSw; go_simp; with_reducible rfl
    try simp only [Act.put, List.setIfInBounds_toArray, List.set_cons_zero, List.set_cons_succ]
    refine wpAnyH_done (by kernel_rfl) ?_ _
    go_wp2_with fail
    have hR : R = .ok (r.take nn, r.drop (nn + 4)) := HRR.out
    have l1 : (r.take nn).length = nn := by rw [List.length_take, HRL.out]; omega
    have l2 : (r.drop (nn + 4)).length = r4 - 4 := by rw [List.length_drop, HRL.out, ← HR4L.out]; omega
    have L1 := hid l1; have L2 := hid l2; have HR' := hid hR; clear l1 l2 hR
    have hd := HS'.out.drop (nn + 4)
    rw [Nat.mul_one, ← Nat.add_assoc] at hd
    have HD5 := hid hd; clear hd
    rcases x5 with x5 | x5
    · have x6 : ¬ c4 = 4 := by omega
      go_quiet (fail)
      go_wp2_with fail
      go_ret3
      rw [HR'.out]
      exact takeFZ_ok (below_drewN (below_then (below_drewN (below_drewN (Below.refl _ _) _) _) hT) _) (by rw [L1.out, L2.out]; rfl) ⟨by rw [L1.out]; exact X10.out.1, X10.out.2.2.1, by rw [L2.out]; have := X10.out.2.1; omega, by have := X10.out.2.2.2; omega⟩ (HS'.out.take nn) HD5.out
    · subst x5
      have hr44 : r4 = 4 := by have := X10.out.2.1; omega
      subst hr44
      have hnil : r.drop (nn + 4) = [] := List.length_eq_zero_iff.1 L2.out
      have HNIL := hid hnil; clear hnil
      go_quiet (fail)
      go_wp2_with fail
      go_ret3
      rw [HR'.out]
      exact takeFZ_ok (below_drewN (below_then (below_drewN (below_drewN (Below.refl _ _) _) _) hT) _) (by rw [L1.out, L2.out]; rfl) ⟨by rw [L1.out]; exact X10.out.1, X10.out.2.2.1, by rw [L2.out]; omega, Nat.zero_le _⟩ (HS'.out.take nn) (A2 := some ⟨b2, o2 + nn, none⟩) (by rw [HNIL.out]; exact SlZ.nil)
  | false =>
    refine reg_start (by kernel_rfl) fun w4 hHeld hz4 => ?_
    have hT := hHeld
    refine reg_rd 0 (v := ?_) rfl (by kernel_rfl) (by kernel_rfl) (by kernel_rfl) (fun _ _ _ h => h) (by rfl) (by assumption) ?_ ?_
    rotate_left
    · intro w hSw; go_simp; with_reducible rfl
    try simp only [Act.put, List.setIfInBounds_toArray, List.set_cons_zero, List.set_cons_succ]
    refine reg_rd 1 (v := ?_) rfl (by kernel_rfl) (by kernel_rfl) (by kernel_rfl) (fun _ _ _ h => h) (by rfl) (by assumption) ?_ ?_
    rotate_left
    · intro w hSw; go_simp; with_reducible rfl
    try simp only [Act.put, List.setIfInBounds_toArray, List.set_cons_zero, List.set_cons_succ]
    refine reg_rd 2 (v := ?_) rfl (by kernel_rfl) (by kernel_rfl) (by kernel_rfl) (fun _ _ _ h => h) (by rfl) (by assumption) ?_ ?_
    rotate_left
    · intro w hSw; go_simp; with_reducible rfl
    try simp only [Act.put, List.setIfInBounds_toArray, List.set_cons_zero, List.set_cons_succ]
    refine reg_rd 3 (v := ?_) rfl (by kernel_rfl) (by kernel_rfl) (by kernel_rfl) (fun _ _ _ h => h) (by rfl) (by assumption) ?_ ?_
    rotate_left
    · intro w hSw; go_simp; with_reducible rfl
    try simp only [Act.put, List.setIfInBounds_toArray, List.set_cons_zero, List.set_cons_succ]
    refine reg_rd 4 (v := ?_) rfl (by kernel_rfl) (by kernel_rfl) (by kernel_rfl) (fun _ _ _ h => h) (by rfl) (by assumption) ?_ ?_
    rotate_left
    · intro w hSw; go_simp; with_reducible rfl
    try simp only [Act.put, List.setIfInBounds_toArray, List.set_cons_zero, List.set_cons_succ]
    refine reg_rd 5 (v := ?_) rfl (by kernel_rfl) (by kernel_rfl) (by kernel_rfl) (fun _ _ _ h => h) (by rfl) (by assumption) ?_ ?_
    rotate_left
    · intro w hSw; go_simp; with_reducible rfl
    try simp only [Act.put, List.setIfInBounds_toArray, List.set_cons_zero, List.set_cons_succ]
    refine reg_rd 6 (v := ?_) rfl (by kernel_rfl) (by kernel_rfl) (by kernel_rfl) (fun _ _ _ h => h) (by rfl) (by assumption) ?_ ?_
    rotate_left
    · intro w hSw; go_simp; with_reducible rfl
    try simp only [Act.put, List.setIfInBounds_toArray, List.set_cons_zero, List.set_cons_succ]
    refine reg_rd 9 (v := ?_) rfl (by kernel_rfl) (by kernel_rfl) (by kernel_rfl) (fun _ _ _ h => h) (by rfl) (by assumption) ?_ ?_
    rotate_left
    · intro w hSw; go_simp; with_reducible rfl
    try simp only [Act.put, List.setIfInBounds_toArray, List.set_cons_zero, List.set_cons_succ]
    refine reg_rd 10 (v := ?_) rfl (by kernel_rfl) (by kernel_rfl) (by kernel_rfl) (fun _ _ _ h => h) (by rfl) (by assumption) ?_ ?_
    rotate_left
    · intro w hSw; go_simp; with_reducible rfl
    try simp only [Act.put, List.setIfInBounds_toArray, List.set_cons_zero, List.set_cons_succ]
    refine wpAnyH_ready (rs := [7]) (by kernel_rfl) (by simp) ?_
    refine reg_do1 rfl (by rfl) (fun K hK => ?_)
    go_simp
    first | (go_at_call 16; refine (sum_any (some ⟨b, o, none⟩) (((167 : UInt8) :: t).take k) k c HK.out (by omega) _ (Nat.le_refl _) (HSB.out.call (below_then (below_drewN (below_drewN (Below.refl _ _) _) _) hT))).mono ?_; rintro e wX ⟨rfl, hbX⟩; replace hT := below_then hT hbX) | (go_at_call 48; refine (four_ret (crcSum (((167 : UInt8) :: t).take k)) (crcSum_lt _) _).mono ?_; rintro e wX ⟨A4, rfl, s4, hbX⟩; replace hT := below_then hT hbX) | (go_at_call 47; refine (sequal_any A4 (some ⟨b2, o2 + nn, none⟩) (be 4 (crcSum (((167 : UInt8) :: t).take k))) ((r.drop nn).take 4) 4 4 4 c4 (be_length _ _) HR4.out (by decide) _ s4 (HSR.out.call (below_then (below_drewN (below_drewN (Below.refl _ _) _) _) hT))).mono ?_; rw [HY.out]; rintro e wX ⟨rfl, qX, rfl⟩; have hbX := below_drewN (Below.refl wX.heap.size wX) qX; replace hT := below_then hT hbX)
    go_wp2_with fail
    refine hK.out _ _ ?_ (fun hNext => ?_)
    · assumption
    clear hK K hHeld
    refine wpAnyH_base hNext.size hNext fun hHeld => ?_
    clear hNext
    try simp only [Act.put, List.setIfInBounds_toArray, List.set_cons_zero, List.set_cons_succ]
    refine wpAnyH_ready (rs := [8]) (by kernel_rfl) (by simp) ?_
    refine reg_do1 rfl (by rfl) (fun K hK => ?_)
    go_simp
    first | (go_at_call 16; refine (sum_any (some ⟨b, o, none⟩) (((167 : UInt8) :: t).take k) k c HK.out (by omega) _ (Nat.le_refl _) (HSB.out.call (below_then (below_drewN (below_drewN (Below.refl _ _) _) _) hT))).mono ?_; rintro e wX ⟨rfl, hbX⟩; replace hT := below_then hT hbX) | (go_at_call 48; refine (four_ret (crcSum (((167 : UInt8) :: t).take k)) (crcSum_lt _) _).mono ?_; rintro e wX ⟨A4, rfl, s4, hbX⟩; replace hT := below_then hT hbX) | (go_at_call 47; refine (sequal_any A4 (some ⟨b2, o2 + nn, none⟩) (be 4 (crcSum (((167 : UInt8) :: t).take k))) ((r.drop nn).take 4) 4 4 4 c4 (be_length _ _) HR4.out (by decide) _ s4 (HSR.out.call (below_then (below_drewN (below_drewN (Below.refl _ _) _) _) hT))).mono ?_; rw [HY.out]; rintro e wX ⟨rfl, qX, rfl⟩; have hbX := below_drewN (Below.refl wX.heap.size wX) qX; replace hT := below_then hT hbX)
    go_wp2_with fail
    refine hK.out _ _ ?_ (fun hNext => ?_)
    · assumption
    clear hK K hHeld
    refine wpAnyH_base hNext.size hNext fun hHeld => ?_
    clear hNext
    try simp only [Act.put, List.setIfInBounds_toArray, List.set_cons_zero, List.set_cons_succ]
    refine wpAnyH_ready (rs := [11]) (by kernel_rfl) (by simp) ?_
    refine reg_do1 rfl (by rfl) (fun K hK => ?_)
    go_simp
    first | (go_at_call 16; refine (sum_any (some ⟨b, o, none⟩) (((167 : UInt8) :: t).take k) k c HK.out (by omega) _ (Nat.le_refl _) (HSB.out.call (below_then (below_drewN (below_drewN (Below.refl _ _) _) _) hT))).mono ?_; rintro e wX ⟨rfl, hbX⟩; replace hT := below_then hT hbX) | (go_at_call 48; refine (four_ret (crcSum (((167 : UInt8) :: t).take k)) (crcSum_lt _) _).mono ?_; rintro e wX ⟨A4, rfl, s4, hbX⟩; replace hT := below_then hT hbX) | (go_at_call 47; refine (sequal_any A4 (some ⟨b2, o2 + nn, none⟩) (be 4 (crcSum (((167 : UInt8) :: t).take k))) ((r.drop nn).take 4) 4 4 4 c4 (be_length _ _) HR4.out (by decide) _ s4 (HSR.out.call (below_then (below_drewN (below_drewN (Below.refl _ _) _) _) hT))).mono ?_; rw [HY.out]; rintro e wX ⟨rfl, qX, rfl⟩; have hbX := below_drewN (Below.refl wX.heap.size wX) qX; replace hT := below_then hT hbX)
    go_wp2_with fail
    refine hK.out _ _ ?_ (fun hNext => ?_)
    · assumption
    clear hK K hHeld
    refine wpAnyH_base hNext.size hNext fun hHeld => ?_
    clear hNext
    try simp only [Act.put, List.setIfInBounds_toArray, List.set_cons_zero, List.set_cons_succ]
    refine reg_rd 12 (v := ?_) rfl (by kernel_rfl) (by kernel_rfl) (by kernel_rfl) (fun _ _ _ h => h) (by rfl) (by assumption) ?_ ?_
    rotate_left
    · intro w hSw; go_simp; with_reducible rfl
    try simp only [Act.put, List.setIfInBounds_toArray, List.set_cons_zero, List.set_cons_succ]
    refine wpAnyH_done (by kernel_rfl) ?_ _
    go_wp2_with fail
    go_ret3
    have hR : R = .error 4 := HRR.out
    rw [hR]
    exact ⟨(below_then (below_drewN (below_drewN (Below.refl _ _) _) _) hT), rfl⟩
theorem ctake_any (A : Option Addr) (b : Bytes) (n c : Nat) (hl : b.length = n) (hn : n ≤ 1000000) (hc1 : n ≤ c) (hc2 : c ≤ maxLen) (Z : Nat → Prop) (w : World) (hs : SlZ byteZ 1 Z w A b) :
    Calls Try.prog 14 #[.slice A n c] w (TakeFZ Z w (takeF b)) := by
  match b, hl, hs with
  | [], hl, hs =>
    subst hl
    exact ctake_nil A c Z w
  | m :: t, hl, hs =>
    by_cases hm : m = 167
    · subst hm
      match t, hl, hs with
      | [], hl, hs =>
        subst hl
        exact ctake_one A c hc1 hc2 Z w hs
      | t0 :: t', hl, hs =>
        generalize ht' : t0 :: t' = t at *
        have htn : t ≠ [] := by rw [← ht']; simp
        clear ht'
        cases htk : takeN t with
        | error z =>
          rw [show takeF (167 :: t) = .error z by simp [takeF, htk]]
          exact ctake_err A t n c z hl hc1 hc2 htn htk Z w hs
        | ok p =>
          obtain ⟨nn, r⟩ := p
          by_cases h1 : 100000 < nn
          · rw [show takeF (167 :: t) = .error 5 by simp [takeF, htk, h1]]
            exact ctake_large A t r n c nn hl hc1 hc2 htn htk h1 Z w hs
          · by_cases h2 : r.length < nn + 4
            · rw [show takeF (167 :: t) = .error 2 by simp [takeF, htk, h1, h2]]
              exact ctake_short A t r n c nn hl hc1 hc2 htn htk (by omega) h2 Z w hs
            · refine ctake_rest A t r n c nn hl hn hc1 hc2 htn htk (by omega) (by omega) _ _ rfl ?_ Z w hs
              unfold takeF
              simp only [ne_eq, not_true_eq_false, if_false, htk, if_neg h1, if_neg h2, hl]
              by_cases h3 : be 4 (crcSum (((167 : UInt8) :: t).take (n - (r.length - nn)))) = (r.drop nn).take 4
              · rw [if_pos h3, decide_eq_true h3]; rfl
              · rw [if_neg h3, decide_eq_false h3]; rfl
    · rw [show takeF (m :: t) = .error 3 by simp [takeF, hm]]
      exact ctake_mark A m t n c hl hm Z w hs
end Go.Proofs.Ytcafahcmalfepaa
