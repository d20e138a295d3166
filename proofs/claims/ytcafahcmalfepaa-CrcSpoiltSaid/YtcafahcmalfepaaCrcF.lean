/-
  The walk of the reference of crc: Take.
-/
import Derived.Test.YtcafahcmalfepaaCrcE
import Derived.Test.YtcafahcmalfepaaTakeRefZ
import Derived.Test.YtcafahcmalfepaaRegL
import Derived.IntWalk
namespace Go.Proofs.Ytcafahcmalfepaa
open Go.RowKit Go.Deep
theorem rctake_nil (A : Option Addr) (c : Nat) (Z : Nat → Prop) (w : World) :
    Calls Try.prog 15 #[.slice A 0 c] w (TakeFZ Z w (takeF [])) := by
  go_enter Try.func15, Try.ntmps15
  go_wp2_with fail
  go_ret3
  exact ⟨Below.refl _ _, rfl⟩
theorem rctake_mark (A : Option Addr) (m : UInt8) (t : Bytes) (n c : Nat) (hl : (m :: t).length = n) (hm : m ≠ 167) (Z : Nat → Prop) (w : World) (hs : SlZ byteZ 1 Z w A (m :: t)) :
    Calls Try.prog 15 #[.slice A n c] w (TakeFZ Z w (.error 3)) := by
  obtain ⟨b, o, v, rfl, _, hv, hc⟩ := hs.bsl.get1 (i := 0) rfl
  rw [byte_at hv] at hc
  clear hs
  have hn0 : 0 < n := by rw [← hl]; simp
  have hne : ((m.toNat : Int) == 167) = false := by
    rw [beq_eq_false_iff_ne]
    exact fun h => hm (UInt8.toNat_inj.1 (by have : (167 : UInt8).toNat = 167 := rfl; omega))
  clear hl hm
  have hnz : ((n : Int) == 0) = false := by simp; omega
  rw [Nat.add_zero] at hc
  go_enter Try.func15, Try.ntmps15
  go_wp2_with fail
  go_ret3
  exact ⟨Below.refl _ _, rfl⟩
theorem rctake_one (A : Option Addr) (c : Nat) (hc1 : 1 ≤ c) (hc2 : c ≤ maxLen) (Z : Nat → Prop) (w : World) (hs : SlZ byteZ 1 Z w A [167]) :
    Calls Try.prog 15 #[.slice A 1 c] w (TakeFZ Z w (.error 2)) := by
  obtain ⟨b, o, v, rfl, _, hv, hc⟩ := hs.bsl.get1 (i := 0) rfl
  rw [byte_at hv, Nat.add_zero] at hc
  have hc' : w.cell? ⟨b, o, none⟩ = some (.int .u8 167) := hc
  clear hs hc
  by_cases h1 : c = 1
  · subst h1
    go_enter Try.func15, Try.ntmps15
    go_wp2_with fail
    refine (rtake_any (some ⟨b, o, none⟩) [] 0 0 rfl (Nat.le_refl _) (Nat.zero_le _) w (Z := Z) SlZ.nil).mono ?_
    rw [show takeN [] = .error 2 from rfl]
    rintro e w' ⟨⟨q, rfl⟩, rfl⟩
    go_wp2_with fail
    go_ret3
    exact ⟨below_drewN (Below.refl _ _) _, rfl⟩
  · have hc3 : 1 < c := by omega
    have hc4 : (1 : Int) ≤ c := by omega
    go_enter Try.func15, Try.ntmps15
    go_wp2_with fail
    refine (rtake_any (some ⟨b, o + 1, none⟩) [] 0 (c - 1) rfl (Nat.zero_le _) (by unfold maxLen at *; omega) w (Z := Z) SlZ.nil).mono ?_
    rw [show takeN [] = .error 2 from rfl]
    rintro e w' ⟨⟨q, rfl⟩, rfl⟩
    go_wp2_with fail
    go_ret3
    exact ⟨below_drewN (Below.refl _ _) _, rfl⟩
set_option maxHeartbeats 1000000 in
theorem rctake_err (A : Option Addr) (t : Bytes) (n c : Nat) (z : Int) (hl : ((167 : UInt8) :: t).length = n) (hc1 : n ≤ c) (hc2 : c ≤ maxLen) (ht : t ≠ []) (htk : takeN t = .error z) (Z : Nat → Prop) (w : World) (hs : SlZ byteZ 1 Z w A (167 :: t)) :
    Calls Try.prog 15 #[.slice A n c] w (TakeFZ Z w (.error z)) := by
  obtain ⟨b, o, rfl, hc', hd, htl, f1, f2, f3, f4, f5, f6, f7⟩ := ctake_pre hl hc1 ht hs
  have HD := hid hd; have HT := hid htl; clear hs hl ht hd htl
  go_enter Try.func15, Try.ntmps15
  go_wp2_with fail
  refine (rtake_any (some ⟨b, o + 1, none⟩) t (n - 1) (c - 1) HT.out (by omega) (by unfold maxLen at *; omega) w HD.out).mono ?_
  rw [htk]
  rintro e w' ⟨⟨q, rfl⟩, rfl⟩
  have hz : (z == 0) = false := by
    rcases takeN_err htk with h | h <;> subst h <;> rfl
  go_wp2_with fail
  go_ret3
  exact ⟨below_drewN (Below.refl _ _) _, rfl⟩
set_option maxHeartbeats 1000000 in
theorem rctake_large (A : Option Addr) (t r : Bytes) (n c nn : Nat) (hl : ((167 : UInt8) :: t).length = n) (hc1 : n ≤ c) (hc2 : c ≤ maxLen) (ht : t ≠ []) (htk : takeN t = .ok (nn, r)) (hnn : 100000 < nn) (Z : Nat → Prop) (w : World) (hs : SlZ byteZ 1 Z w A (167 :: t)) :
    Calls Try.prog 15 #[.slice A n c] w (TakeFZ Z w (.error 5)) := by
  obtain ⟨b, o, rfl, hc', hd, htl, f1, f2, f3, f4, f5, f6, f7⟩ := ctake_pre hl hc1 ht hs
  have HD := hid hd; have HT := hid htl; clear hs hl ht hd htl
  have hni : (100000 : Int) < nn := by omega
  go_enter Try.func15, Try.ntmps15
  go_wp2_with fail
  refine (rtake_any (some ⟨b, o + 1, none⟩) t (n - 1) (c - 1) HT.out (by omega) (by unfold maxLen at *; omega) w HD.out).mono ?_
  rw [htk]
  rintro e w' ⟨⟨q, rfl⟩, A', c', rfl, g1, g2, hs'⟩
  clear hs'
  go_wp2_with fail
  go_ret3
  exact ⟨below_drewN (Below.refl _ _) _, rfl⟩
set_option maxHeartbeats 1000000 in
theorem rctake_short (A : Option Addr) (t r : Bytes) (n c nn : Nat) (hl : ((167 : UInt8) :: t).length = n) (hc1 : n ≤ c) (hc2 : c ≤ maxLen) (ht : t ≠ []) (htk : takeN t = .ok (nn, r)) (hnn : nn ≤ 100000) (hsh : r.length < nn + 4) (Z : Nat → Prop) (w : World) (hs : SlZ byteZ 1 Z w A (167 :: t)) :
    Calls Try.prog 15 #[.slice A n c] w (TakeFZ Z w (.error 2)) := by
  obtain ⟨b, o, rfl, hc', hd, htl, f1, f2, f3, f4, f5, f6, f7⟩ := ctake_pre hl hc1 ht hs
  have HD := hid hd; have HT := hid htl; clear hs hl ht hd htl
  have hni : (nn : Int) ≤ 100000 := by omega
  have hri : (r.length : Int) < nn + 4 := by omega
  have hri2 : (r.length : Int) ≤ 100003 := by omega
  go_enter Try.func15, Try.ntmps15
  go_wp2_with fail
  refine (rtake_any (some ⟨b, o + 1, none⟩) t (n - 1) (c - 1) HT.out (by omega) (by unfold maxLen at *; omega) w HD.out).mono ?_
  rw [htk]
  rintro e w' ⟨⟨q, rfl⟩, A', c', rfl, g1, g2, hs'⟩
  clear hs'
  generalize r.length = rl at *
  go_wp2_with fail
  go_ret3
  exact ⟨below_drewN (Below.refl _ _) _, rfl⟩
set_option maxHeartbeats 4000000 in
set_option maxRecDepth 20000 in
theorem rctake_rest (A : Option Addr) (t r : Bytes) (n c nn : Nat) (hl : ((167 : UInt8) :: t).length = n) (hn : n ≤ 1000000) (hc1 : n ≤ c) (hc2 : c ≤ maxLen) (ht : t ≠ []) (htk : takeN t = .ok (nn, r)) (hnn : nn ≤ 100000) (hsh : nn + 4 ≤ r.length) (yes : Bool) (R : Except Int (Bytes × Bytes)) (hy : decide (be 4 (crcSum (((167 : UInt8) :: t).take (n - (r.length - nn)))) = (r.drop nn).take 4) = yes) (hR : R = bif yes then .ok (r.take nn, r.drop (nn + 4)) else .error 4) (Z : Nat → Prop) (w : World) (hs : SlZ byteZ 1 Z w A (167 :: t)) :
    Calls Try.prog 15 #[.slice A n c] w (TakeFZ Z w R) := by
  have HY := hid hy; have HRR := hid hR; clear hy hR
  obtain ⟨b, o, rfl, hc', hd, htl, f1, f2, f3, f4, f5, f6, f7⟩ := ctake_pre hl hc1 ht hs
  have HS := hid hs; have HL := hid hl; have HD := hid hd; have HT := hid htl; clear hs ht hd htl
  have hrn := takeN_shorter htk
  have hni : (nn : Int) ≤ 100000 := by omega
  have hri2 : (r.length : Int) ≤ 1000000 := by have := HT.out; omega
  have hri3 : (nn : Int) ≤ r.length := by omega
  go_enter Try.func15, Try.ntmps15
  go_wp2_with fail
  refine (rtake_any (some ⟨b, o + 1, none⟩) t (n - 1) (c - 1) HT.out (by omega) (by unfold maxLen at *; omega) w HD.out).mono ?_
  rw [htk]
  rintro e w' ⟨⟨q, rfl⟩, A', c', rfl, g1, g2, hs'⟩
  obtain ⟨b2, o2, rfl, _, _, _⟩ := hs' (by rintro rfl; simp at hsh)
  have HS' := hid hs'; clear hs'
  generalize hrl : r.length = rl at *
  have HRL := hid hrl
  clear hrl
  have hge : (nn : Int) ≤ c' := by omega
  have hri4 : (nn : Int) + 4 ≤ rl := by omega
  have hrn2 : rl ≤ n := by have := HT.out; omega
  have hd4 := HS'.out.drop nn
  rw [Nat.mul_one] at hd4
  have hr4 : ((r.drop nn).take 4).length = 4 := by rw [List.length_take, List.length_drop, HRL.out]; omega
  have hkk : (((167 : UInt8) :: t).take (n - (rl - nn))).length = n - (rl - nn) := by rw [List.length_take, HL.out]; omega
  have HSR := hid (hd4.take 4).bsl; have HR4 := hid hr4; have HK := hid hkk
  have HSB := hid (HS.out.take (n - (rl - nn))).bsl
  clear hd4 hr4 hkk
  have x2 : ((n - (rl - nn) : Nat) : Int) ≤ c := by omega
  have x4 : (n : Int) - rl + nn = ((n - (rl - nn) : Nat) : Int) := by omega
  have X9 := hid (show n - (rl - nn) ≤ n by omega)
  generalize hk : n - (rl - nn) = k at *
  have HKN := hid hk; clear hk
  go_wp2_with fail
  refine (rsum_any (some ⟨b, o, none⟩) (((167 : UInt8) :: t).take k) k c HK.out (by have := X9.out; omega) _ (B := w.heap.size) (Nat.le_of_eq (by simp)) (HSB.out.below (below_drewN (Below.refl _ _) _))).mono ?_
  rintro e w2 ⟨rfl, hw⟩
  subst hw
  have hs32 := crcSum_lt (((167 : UInt8) :: t).take k)
  have h4 : [Value.int .u8 (IntKind.u8.wrap ((crcSum (((167 : UInt8) :: t).take k) : Int) / 16777216)), .int .u8 (IntKind.u8.wrap ((crcSum (((167 : UInt8) :: t).take k) : Int) / 65536)), .int .u8 (IntKind.u8.wrap ((crcSum (((167 : UInt8) :: t).take k) : Int) / 256)), .int .u8 (IntKind.u8.wrap (crcSum (((167 : UInt8) :: t).take k) : Int))] = (be 4 (crcSum (((167 : UInt8) :: t).take k))).map byteV := by
    simp only [IntKind.wrap_u8]
    exact four_cells _
  have hbl : (be 4 (crcSum (((167 : UInt8) :: t).take k))).length = 4 := be_length _ _
  have H4 := hid h4; have HBL := hid hbl; clear h4 hbl
  generalize be 4 (crcSum (((167 : UInt8) :: t).take k)) = s4 at *
  generalize crcSum (((167 : UInt8) :: t).take k) = s at *
  have hgn : ¬ c' = nn := by omega
  have hgt : nn < c' := by omega
  obtain ⟨e4, he4⟩ : ∃ e4, nn + 4 = e4 := ⟨_, rfl⟩
  have x5 : (e4 : Int) ≤ c' := by omega
  have x6 : IntKind.i64.wrap (e4 : Int) = e4 := by rw [IntWalk.i64_in] <;> omega
  have x7 : (nn : Int) + 4 = e4 := by omega
  have x8 : (nn : Int) ≤ e4 := by omega
  have x9 : e4 - nn = 4 := by omega
  have x10 : nn ≤ e4 := by omega
  have X10 := hid (show nn ≤ c' ∧ rl - nn ≤ c' - nn ∧ c' ≤ maxLen ∧ c' - nn ≤ maxLen from ⟨by omega, by omega, g2, by omega⟩)
  clear hri3 hri4 g1
  cases yes with
  | true =>
    have he : s4 = (r.drop nn).take 4 := of_decide_eq_true HY.out
    have HE := hid he
    rw [← he] at HSR HR4
    clear he
    go_wp2_with fail
    refine reg_start (by kernel_rfl) fun w4 hHeld hz4 => ?_
    clear hz4
    have hT := hHeld
    refine reg_rd 0 (v := ?_) rfl (by kernel_rfl) (by kernel_rfl) (by kernel_rfl) (fun _ _ _ h => h) (by rfl) (by assumption) ?_ ?_
    rotate_left
    · intro w hSw; go_simp; with_reducible rfl
    try simp only [Act.put, List.setIfInBounds_toArray, List.set_cons_zero, List.set_cons_succ]
    refine reg_rd 1 (v := ?_) rfl (by kernel_rfl) (by kernel_rfl) (by kernel_rfl) (fun _ _ _ h => h) (by rfl) (by assumption) ?_ ?_
    rotate_left
    · intro w hSw; go_simp; with_reducible rfl
    try simp only [Act.put, List.setIfInBounds_toArray, List.set_cons_zero, List.set_cons_succ]
    refine reg_rd 2 (v := ?_) rfl (by kernel_rfl) (by kernel_rfl) (by kernel_rfl) (fun _ _ _ h => h) (by rfl) (by assumption) ?_ ?_
    rotate_left
    · intro w hSw; go_simp; with_reducible rfl
    try simp only [Act.put, List.setIfInBounds_toArray, List.set_cons_zero, List.set_cons_succ]
    refine reg_rd 3 (v := ?_) rfl (by kernel_rfl) (by kernel_rfl) (by kernel_rfl) (fun _ _ _ h => h) (by rfl) (by assumption) ?_ ?_
    rotate_left
    · intro w hSw; go_simp; with_reducible rfl
    try simp only [Act.put, List.setIfInBounds_toArray, List.set_cons_zero, List.set_cons_succ]
    refine reg_rd 4 (v := ?_) rfl (by kernel_rfl) (by kernel_rfl) (by kernel_rfl) (fun _ _ _ h => h) (by rfl) (by assumption) ?_ ?_
    rotate_left
    · intro w hSw; go_simp; with_reducible rfl
    try simp only [Act.put, List.setIfInBounds_toArray, List.set_cons_zero, List.set_cons_succ]
    refine reg_rd 5 (v := ?_) rfl (by kernel_rfl) (by kernel_rfl) (by kernel_rfl) (fun _ _ _ h => h) (by rfl) (by assumption) ?_ ?_
    rotate_left
    · intro w hSw; go_simp; with_reducible rfl
    try simp only [Act.put, List.setIfInBounds_toArray, List.set_cons_zero, List.set_cons_succ]
    refine reg_rd 6 (v := ?_) rfl (by kernel_rfl) (by kernel_rfl) (by kernel_rfl) (fun _ _ _ h => h) (by rfl) (by assumption) ?_ ?_
    rotate_left
    · intro w hSw; go_simp; with_reducible rfl
    try simp only [Act.put, List.setIfInBounds_toArray, List.set_cons_zero, List.set_cons_succ]
    refine reg_rd 7 (v := ?_) rfl (by kernel_rfl) (by kernel_rfl) (by kernel_rfl) (fun _ _ _ h => h) (by rfl) (by assumption) ?_ ?_
    rotate_left
    · intro w hSw; go_simp; with_reducible rfl
    try simp only [Act.put, List.setIfInBounds_toArray, List.set_cons_zero, List.set_cons_succ]
    refine reg_rd 8 (v := ?_) rfl (by kernel_rfl) (by kernel_rfl) (by kernel_rfl) (fun _ _ _ h => h) (by rfl) (by assumption) ?_ ?_
    rotate_left
    · intro w hSw; go_simp; with_reducible rfl
    try simp only [Act.put, List.setIfInBounds_toArray, List.set_cons_zero, List.set_cons_succ]
    refine reg_rd 9 (v := ?_) rfl (by kernel_rfl) (by kernel_rfl) (by kernel_rfl) (fun _ _ _ h => h) (by rfl) (by assumption) ?_ ?_
    rotate_left
    · intro w hSw; go_simp; with_reducible rfl
    try simp only [Act.put, List.setIfInBounds_toArray, List.set_cons_zero, List.set_cons_succ]
    refine reg_rd 10 (v := ?_) rfl (by kernel_rfl) (by kernel_rfl) (by kernel_rfl) (fun _ _ _ h => h) (by rfl) (by assumption) ?_ ?_
    rotate_left
    · intro w hSw; go_simp; with_reducible rfl
    try simp only [Act.put, List.setIfInBounds_toArray, List.set_cons_zero, List.set_cons_succ]
    refine reg_rd 13 (v := ?_) rfl (by kernel_rfl) (by kernel_rfl) (by kernel_rfl) (fun _ _ _ h => h) (by rfl) (by assumption) ?_ ?_
    rotate_left
    · intro w hSw; go_simp; with_reducible rfl
    try simp only [Act.put, List.setIfInBounds_toArray, List.set_cons_zero, List.set_cons_succ]
    refine reg_rd 14 (v := ?_) rfl (by kernel_rfl) (by kernel_rfl) (by kernel_rfl) (fun _ _ _ h => h) (by rfl) (by assumption) ?_ ?_
    rotate_left
    · intro w hSw; go_simp; with_reducible rfl
    try simp only [Act.put, List.setIfInBounds_toArray, List.set_cons_zero, List.set_cons_succ]
    refine reg_rd 15 (v := ?_) rfl (by kernel_rfl) (by kernel_rfl) (by kernel_rfl) (fun _ _ _ h => h) (by rfl) (by assumption) ?_ ?_
    rotate_left
    · intro w hSw; go_simp; with_reducible rfl
    try simp only [Act.put, List.setIfInBounds_toArray, List.set_cons_zero, List.set_cons_succ]
    refine reg_rd 16 (v := ?_) rfl (by kernel_rfl) (by kernel_rfl) (by kernel_rfl) (fun _ _ _ h => h) (by rfl) (by assumption) ?_ ?_
    rotate_left
    · intro w hSw; go_simp; with_reducible rfl
    try simp only [Act.put, List.setIfInBounds_toArray, List.set_cons_zero, List.set_cons_succ]
    refine reg_rd 17 (v := ?_) rfl (by kernel_rfl) (by kernel_rfl) (by kernel_rfl) (fun _ _ _ h => h) (by rfl) (by assumption) ?_ ?_
    rotate_left
    · intro w hSw; go_simp; with_reducible rfl
    try simp only [Act.put, List.setIfInBounds_toArray, List.set_cons_zero, List.set_cons_succ]
    refine reg_rd 18 (v := ?_) rfl (by kernel_rfl) (by kernel_rfl) (by kernel_rfl) (fun _ _ _ h => h) (by rfl) (by assumption) ?_ ?_
    rotate_left
    · (intro w' hSw; (first | have hq1 := conv_str (c := 4) HBL.out ((sl_made (B := 0) (cs_bytes.2 H4.out) (Nat.zero_le _) rfl).below hSw) | skip); (first | have hq2 := conv_str (c := c' - nn) HR4.out (HSR.out.below (below_then (below_drewN (Below.refl w.heap.size w) q) hSw)) | have hq2 := conv_str (c := c' - nn) HR4.out (HSR.out.below (below_then (below_drewN (Below.refl w.heap.size w) q) (below_then (below_then hT (below_new w4 _)) hSw))) | skip); go_simp); with_reducible rfl
    try simp only [Act.put, List.setIfInBounds_toArray, List.set_cons_zero, List.set_cons_succ]
    refine wpAnyH_ready (rs := [11]) (by kernel_rfl) (by simp) ?_
    refine reg_do1 rfl (by rfl) (fun K hK => ?_)
    go_simp
    refine hK.out _ _ ?_ (fun hNext => ?_)
    · (first | assumption | exact below_alloc (by assumption) _)
    clear hK K hHeld
    refine wpAnyH_base hNext.size hNext fun hHeld => ?_
    clear hNext
    try simp only [Act.put, List.setIfInBounds_toArray, List.set_cons_zero, List.set_cons_succ]
    refine reg_rd 12 (v := ?_) rfl (by kernel_rfl) (by kernel_rfl) (by kernel_rfl) (fun _ _ _ h => h) (by rfl) (by assumption) ?_ ?_
    rotate_left
    · (intro w' hSw; (first | have hq1 := conv_str (c := 4) HBL.out ((sl_made (B := 0) (cs_bytes.2 H4.out) (Nat.zero_le _) rfl).below hSw) | skip); (first | have hq2 := conv_str (c := c' - nn) HR4.out (HSR.out.below (below_then (below_drewN (Below.refl w.heap.size w) q) hSw)) | have hq2 := conv_str (c := c' - nn) HR4.out (HSR.out.below (below_then (below_drewN (Below.refl w.heap.size w) q) (below_then (below_then hT (below_new w4 _)) hSw))) | skip); go_simp); with_reducible rfl
    try simp only [Act.put, List.setIfInBounds_toArray, List.set_cons_zero, List.set_cons_succ]
    refine reg_rd 19 (v := ?_) rfl (by kernel_rfl) (by kernel_rfl) (by kernel_rfl) (fun _ _ _ h => h) (by rfl) (by assumption) ?_ ?_
    rotate_left
    · intro w hSw; go_simp; with_reducible rfl
    try simp only [Act.put, List.setIfInBounds_toArray, List.set_cons_zero, List.set_cons_succ]
    refine wpAnyH_done (by kernel_rfl) ?_ _
    go_wp2_with fail
    have hR : R = .ok (r.take nn, r.drop (nn + 4)) := HRR.out
    have l1 : (r.take nn).length = nn := by rw [List.length_take, HRL.out]; omega
    have l2 : (r.drop (nn + 4)).length = rl - e4 := by rw [List.length_drop, HRL.out, ← he4]
    have L1 := hid l1; have L2 := hid l2; have HR' := hid hR; clear l1 l2 hR
    have hd := HS'.out.drop (nn + 4)
    rw [Nat.mul_one, he4] at hd
    have hX : rl ≤ c' ∧ e4 ≤ rl := by have := X10.out; omega
    have HX := hid hX; have HD5 := hid hd; clear hd hX
    by_cases x11 : c' = e4
    · subst x11
      have hnil : r.drop (nn + 4) = [] := List.length_eq_zero_iff.1 (by rw [L2.out]; have := HX.out; omega)
      have HNIL := hid hnil; clear hnil
      go_quiet (fail)
      go_wp2_with fail
      go_ret3
      rw [HR'.out]
      exact takeFZ_ok (below_drewN (below_then (below_drewN (Below.refl _ _) _) (below_then hT (below_new _ _))) _) (by rw [L1.out, L2.out]; rfl) ⟨by rw [L1.out]; exact X10.out.1, X10.out.2.2.1, by rw [L2.out]; have := HX.out; omega, by have := X10.out.2.2.1; omega⟩ (HS'.out.take nn) (A2 := some ⟨b2, o2, none⟩) (by rw [HNIL.out]; exact SlZ.nil)
    · have x12 : e4 < c' := by have := HX.out; omega
      go_quiet (fail)
      go_wp2_with fail
      go_ret3
      rw [HR'.out]
      exact takeFZ_ok (below_drewN (below_then (below_drewN (Below.refl _ _) _) (below_then hT (below_new _ _))) _) (by rw [L1.out, L2.out]; rfl) ⟨by rw [L1.out]; exact X10.out.1, X10.out.2.2.1, by rw [L2.out]; have := HX.out; omega, by have := X10.out.2.2.1; omega⟩ (HS'.out.take nn) (A2 := some ⟨b2, o2 + e4, none⟩) (by rw [he4]; exact HD5.out)
  | false =>
    have hne : ¬ s4 = (r.drop nn).take 4 := of_decide_eq_false HY.out
    generalize (r.drop nn).take 4 = l4 at *
    have he1 : ((⟨s4.toArray⟩ : ByteArray).toList == (⟨l4.toArray⟩ : ByteArray).toList) = false := by rw [beq_eq_false_iff_ne]; intro h; rw [ByteArray.toList_eq, ByteArray.toList_eq] at h; exact hne (by simpa using h)
    have he2 : (s4 == l4) = false := by rw [beq_eq_false_iff_ne]; exact hne
    have he3 : (s4 != l4) = true := by simp [hne]
    go_wp2_with fail
    refine reg_start (by kernel_rfl) fun w4 hHeld hz4 => ?_
    clear hz4
    have hT := hHeld
    refine reg_rd 0 (v := ?_) rfl (by kernel_rfl) (by kernel_rfl) (by kernel_rfl) (fun _ _ _ h => h) (by rfl) (by assumption) ?_ ?_
    rotate_left
    · intro w hSw; go_simp; with_reducible rfl
    try simp only [Act.put, List.setIfInBounds_toArray, List.set_cons_zero, List.set_cons_succ]
    refine reg_rd 1 (v := ?_) rfl (by kernel_rfl) (by kernel_rfl) (by kernel_rfl) (fun _ _ _ h => h) (by rfl) (by assumption) ?_ ?_
    rotate_left
    · intro w hSw; go_simp; with_reducible rfl
    try simp only [Act.put, List.setIfInBounds_toArray, List.set_cons_zero, List.set_cons_succ]
    refine reg_rd 2 (v := ?_) rfl (by kernel_rfl) (by kernel_rfl) (by kernel_rfl) (fun _ _ _ h => h) (by rfl) (by assumption) ?_ ?_
    rotate_left
    · intro w hSw; go_simp; with_reducible rfl
    try simp only [Act.put, List.setIfInBounds_toArray, List.set_cons_zero, List.set_cons_succ]
    refine reg_rd 3 (v := ?_) rfl (by kernel_rfl) (by kernel_rfl) (by kernel_rfl) (fun _ _ _ h => h) (by rfl) (by assumption) ?_ ?_
    rotate_left
    · intro w hSw; go_simp; with_reducible rfl
    try simp only [Act.put, List.setIfInBounds_toArray, List.set_cons_zero, List.set_cons_succ]
    refine reg_rd 4 (v := ?_) rfl (by kernel_rfl) (by kernel_rfl) (by kernel_rfl) (fun _ _ _ h => h) (by rfl) (by assumption) ?_ ?_
    rotate_left
    · intro w hSw; go_simp; with_reducible rfl
    try simp only [Act.put, List.setIfInBounds_toArray, List.set_cons_zero, List.set_cons_succ]
    refine reg_rd 5 (v := ?_) rfl (by kernel_rfl) (by kernel_rfl) (by kernel_rfl) (fun _ _ _ h => h) (by rfl) (by assumption) ?_ ?_
    rotate_left
    · intro w hSw; go_simp; with_reducible rfl
    try simp only [Act.put, List.setIfInBounds_toArray, List.set_cons_zero, List.set_cons_succ]
    refine reg_rd 6 (v := ?_) rfl (by kernel_rfl) (by kernel_rfl) (by kernel_rfl) (fun _ _ _ h => h) (by rfl) (by assumption) ?_ ?_
    rotate_left
    · intro w hSw; go_simp; with_reducible rfl
    try simp only [Act.put, List.setIfInBounds_toArray, List.set_cons_zero, List.set_cons_succ]
    refine reg_rd 7 (v := ?_) rfl (by kernel_rfl) (by kernel_rfl) (by kernel_rfl) (fun _ _ _ h => h) (by rfl) (by assumption) ?_ ?_
    rotate_left
    · intro w hSw; go_simp; with_reducible rfl
    try simp only [Act.put, List.setIfInBounds_toArray, List.set_cons_zero, List.set_cons_succ]
    refine reg_rd 8 (v := ?_) rfl (by kernel_rfl) (by kernel_rfl) (by kernel_rfl) (fun _ _ _ h => h) (by rfl) (by assumption) ?_ ?_
    rotate_left
    · intro w hSw; go_simp; with_reducible rfl
    try simp only [Act.put, List.setIfInBounds_toArray, List.set_cons_zero, List.set_cons_succ]
    refine reg_rd 9 (v := ?_) rfl (by kernel_rfl) (by kernel_rfl) (by kernel_rfl) (fun _ _ _ h => h) (by rfl) (by assumption) ?_ ?_
    rotate_left
    · intro w hSw; go_simp; with_reducible rfl
    try simp only [Act.put, List.setIfInBounds_toArray, List.set_cons_zero, List.set_cons_succ]
    refine reg_rd 10 (v := ?_) rfl (by kernel_rfl) (by kernel_rfl) (by kernel_rfl) (fun _ _ _ h => h) (by rfl) (by assumption) ?_ ?_
    rotate_left
    · intro w hSw; go_simp; with_reducible rfl
    try simp only [Act.put, List.setIfInBounds_toArray, List.set_cons_zero, List.set_cons_succ]
    refine reg_rd 13 (v := ?_) rfl (by kernel_rfl) (by kernel_rfl) (by kernel_rfl) (fun _ _ _ h => h) (by rfl) (by assumption) ?_ ?_
    rotate_left
    · intro w hSw; go_simp; with_reducible rfl
    try simp only [Act.put, List.setIfInBounds_toArray, List.set_cons_zero, List.set_cons_succ]
    refine reg_rd 14 (v := ?_) rfl (by kernel_rfl) (by kernel_rfl) (by kernel_rfl) (fun _ _ _ h => h) (by rfl) (by assumption) ?_ ?_
    rotate_left
    · intro w hSw; go_simp; with_reducible rfl
    try simp only [Act.put, List.setIfInBounds_toArray, List.set_cons_zero, List.set_cons_succ]
    refine reg_rd 15 (v := ?_) rfl (by kernel_rfl) (by kernel_rfl) (by kernel_rfl) (fun _ _ _ h => h) (by rfl) (by assumption) ?_ ?_
    rotate_left
    · intro w hSw; go_simp; with_reducible rfl
    try simp only [Act.put, List.setIfInBounds_toArray, List.set_cons_zero, List.set_cons_succ]
    refine reg_rd 16 (v := ?_) rfl (by kernel_rfl) (by kernel_rfl) (by kernel_rfl) (fun _ _ _ h => h) (by rfl) (by assumption) ?_ ?_
    rotate_left
    · intro w hSw; go_simp; with_reducible rfl
    try simp only [Act.put, List.setIfInBounds_toArray, List.set_cons_zero, List.set_cons_succ]
    refine reg_rd 17 (v := ?_) rfl (by kernel_rfl) (by kernel_rfl) (by kernel_rfl) (fun _ _ _ h => h) (by rfl) (by assumption) ?_ ?_
    rotate_left
    · intro w hSw; go_simp; with_reducible rfl
    try simp only [Act.put, List.setIfInBounds_toArray, List.set_cons_zero, List.set_cons_succ]
    refine reg_rd 18 (v := ?_) rfl (by kernel_rfl) (by kernel_rfl) (by kernel_rfl) (fun _ _ _ h => h) (by rfl) (by assumption) ?_ ?_
    rotate_left
    · (intro w' hSw; (first | have hq1 := conv_str (c := 4) HBL.out ((sl_made (B := 0) (cs_bytes.2 H4.out) (Nat.zero_le _) rfl).below hSw) | skip); (first | have hq2 := conv_str (c := c' - nn) HR4.out (HSR.out.below (below_then (below_drewN (Below.refl w.heap.size w) q) hSw)) | have hq2 := conv_str (c := c' - nn) HR4.out (HSR.out.below (below_then (below_drewN (Below.refl w.heap.size w) q) (below_then (below_then hT (below_new w4 _)) hSw))) | skip); go_simp); with_reducible rfl
    try simp only [Act.put, List.setIfInBounds_toArray, List.set_cons_zero, List.set_cons_succ]
    refine wpAnyH_ready (rs := [11]) (by kernel_rfl) (by simp) ?_
    refine reg_do1 rfl (by rfl) (fun K hK => ?_)
    go_simp
    refine hK.out _ _ ?_ (fun hNext => ?_)
    · (first | assumption | exact below_alloc (by assumption) _)
    clear hK K hHeld
    refine wpAnyH_base hNext.size hNext fun hHeld => ?_
    clear hNext
    try simp only [Act.put, List.setIfInBounds_toArray, List.set_cons_zero, List.set_cons_succ]
    refine reg_rd 12 (v := ?_) rfl (by kernel_rfl) (by kernel_rfl) (by kernel_rfl) (fun _ _ _ h => h) (by rfl) (by assumption) ?_ ?_
    rotate_left
    · (intro w' hSw; (first | have hq1 := conv_str (c := 4) HBL.out ((sl_made (B := 0) (cs_bytes.2 H4.out) (Nat.zero_le _) rfl).below hSw) | skip); (first | have hq2 := conv_str (c := c' - nn) HR4.out (HSR.out.below (below_then (below_drewN (Below.refl w.heap.size w) q) hSw)) | have hq2 := conv_str (c := c' - nn) HR4.out (HSR.out.below (below_then (below_drewN (Below.refl w.heap.size w) q) (below_then (below_then hT (below_new w4 _)) hSw))) | skip); go_simp); with_reducible rfl
    try simp only [Act.put, List.setIfInBounds_toArray, List.set_cons_zero, List.set_cons_succ]
    refine reg_rd 19 (v := ?_) rfl (by kernel_rfl) (by kernel_rfl) (by kernel_rfl) (fun _ _ _ h => h) (by rfl) (by assumption) ?_ ?_
    rotate_left
    · intro w hSw; go_simp; with_reducible rfl
    try simp only [Act.put, List.setIfInBounds_toArray, List.set_cons_zero, List.set_cons_succ]
    refine wpAnyH_done (by kernel_rfl) ?_ _
    go_wp2_with fail
    go_ret3
    have hR : R = .error 4 := HRR.out
    rw [hR]
    exact ⟨below_then (below_drewN (Below.refl _ _) _) (below_then hT (below_new _ _)), rfl⟩
end Go.Proofs.Ytcafahcmalfepaa
