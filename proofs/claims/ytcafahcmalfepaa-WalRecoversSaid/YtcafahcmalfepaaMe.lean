/-
  Several texts in one: CrcB, TakeZ, RegL, CrcC, CrcD, OctetRef, CrcE, Wa, WalSpec, Wp.
-/
import Derived.Test.YtcafahcmalfepaaMd
import Derived.Deep.QuietTactic
import Derived.BigQuiet
import Derived.Deep.RegionHeld3
import Derived.IntWalk
/-
  The walks of package crc: four, Frame; slices.Equal on bytes.
-/
namespace Go.Proofs.Ytcafahcmalfepaa
open Go.RowKit Go.Deep
theorem byte_sh (n k : Nat) (p : Nat) (hp : p = 256 ^ k) : Value.int .u8 ((n : Int) / (p : Int) % 256) = byteV (UInt8.ofNat (n / 256 ^ k)) := by
  subst hp
  exact byteV_of (by rw [Int.natCast_emod, Int.natCast_ediv]; rfl)
theorem four_cells (n : Nat) : [Value.int .u8 ((n : Int) / 16777216 % 256), .int .u8 ((n : Int) / 65536 % 256), .int .u8 ((n : Int) / 256 % 256), .int .u8 ((n : Int) % 256)] = (be 4 n).map byteV := by
  have h3 := byte_sh n 3 16777216 (by decide)
  have h2 := byte_sh n 2 65536 (by decide)
  have h1 := byte_sh n 1 256 (by decide)
  have h0 : Value.int .u8 ((n : Int) % 256) = byteV (UInt8.ofNat (n / 256 ^ 0)) := byteV_of (by simp)
  have e3 : ((16777216 : Nat) : Int) = 16777216 := rfl
  have e2 : ((65536 : Nat) : Int) = 65536 := rfl
  have e1 : ((256 : Nat) : Int) = 256 := rfl
  rw [e3] at h3; rw [e2] at h2; rw [e1] at h1
  rw [h3, h2, h1, h0]
  rfl
theorem slnew {w : World} {q : Nat} (l : Bytes) (t : TypeId) (hq : q = w.heap.size) : Sl byteR 1 (w.alloc (.cells (l.map byteV).toArray t)).heap.size (w.alloc (.cells (l.map byteV).toArray t)) (some ⟨q, 0, none⟩) l :=
  sl_made (B := 0) (cs_map _ _ l) (Nat.zero_le _) hq
theorem four_any (n : Nat) (hn : n < 4294967296) (w : World) :
    Calls Try.prog 48 #[.int .u32 n] w fun e w' => e = .returned (.slice (some ⟨w.heap.size, 0, none⟩) 4 4) ∧ w' = w.alloc (.cells ((be 4 n).map byteV).toArray 5) := by
  have h4 := four_cells n
  rw [show (n : Int) / 16777216 % 256 = (n : Int) / 16777216 by omega] at h4
  go_enter Try.func48, Try.ntmps48
  go_wp2_with fail
  go_ret
  exact ⟨rfl, by rw [← h4]⟩
set_option maxHeartbeats 1000000 in
theorem frame_any (A1 : Option Addr) (b : Bytes) (n1 c1 : Nat) (e1 : b.length = n1) (g1 : n1 ≤ c1) (m1 : c1 ≤ maxLen) (z1 : n1 ≤ 900000) (A2 : Option Addr) (x : Bytes) (n2 c2 : Nat) (e2 : x.length = n2) (g2 : n2 ≤ c2) (m2 : c2 ≤ maxLen) (z2 : n2 ≤ 200000) (w : World)
    (hs1 : Sl byteR 1 w.heap.size w A1 b) (hs2 : Sl byteR 1 w.heap.size w A2 x) :
    Calls Try.prog 20 #[.slice A1 n1 c1, .slice A2 n2 c2] w (RetB w (b ++ fr x)) := by
  have hl := frB_length x
  have hnb := nb_le n2 (by omega)
  rw [e2] at hl
  have HS1 := hid hs1; have HS2 := hid hs2; have E1 := hid e1; have E2 := hid e2; have G1 := hid (And.intro g1 m1); clear hs1 hs2 e1 g1 m1
  have h0 : (n2 : Int) ≤ 200000 := by omega
  go_enter Try.func20, Try.ntmps20
  go_wp2_with fail
  refine (put_any (some ⟨w.heap.size, 0, none⟩) [167] 1 1 n2 rfl (Nat.le_refl _) (by decide) (by omega) (by omega) _ (slnew [167] 5 rfl)).mono ?_
  rintro e w1 ⟨v, rfl, hown, hb1⟩
  have H1 := hid (below_then (below_new w (.cells ([167].map byteV).toArray 5)) hb1)
  have HO := hid hown; clear hown
  have HB1 := hid hb1; clear hb1
  have hl1 : (([167] ++ encN n2).length + x.length) * 1 ≤ 140737488355328 := by simp [encN_length]; omega
  have hl2 : ([167] ++ encN n2).length + x.length ≤ maxLen := by simp [encN_length, maxLen]; omega
  have HL1 := hid hl1; have HL2 := hid hl2; clear hl1 hl2
  have hfb : ([167] ++ encN n2) ++ x = frB x := by unfold frB; rw [E2.out]; simp
  have HFB := hid hfb; clear hfb
  obtain ⟨m, hm⟩ : ∃ m, (frB x).length = m := ⟨_, rfl⟩
  have hm2 : m ≤ 300000 := by omega
  have HM := hid hm; clear hm hl
  go_wp2_with (at_builtin; refine wpl_app0 (W := w.alloc (.cells ([167].map byteV).toArray 5)) (R := byteR) (B := 0) rfl (.tmp 10) (.tmp 11) _ rfl tabB _ ([167] ++ encN n2) x rfl HO.out (Nat.zero_le _) HB1.out A2 n2 c2 (x.map byteV) rfl E2.out (sl_bytes (HS2.out.below H1.out) E2.out) (cs_map _ _ _) (bytes_oneCell _) HL1.out HL2.out ?_; intro v2 w2 hown2 hbl2 _; rw [HFB.out] at hown2; obtain ⟨Af, cf, hAf⟩ := hown2.form2 HM.out; subst hAf)
  have H2 := hid (below_then (below_new w (.cells ([167].map byteV).toArray 5)) hbl2)
  obtain ⟨Af', cf', he, gf, mf, hsf⟩ := hown2.len (Nat.zero_le _) HM.out
  simp only [Value.slice.injEq, true_and] at he
  obtain ⟨rfl, rfl⟩ := he
  have HF := hid hsf; clear hown2 hbl2 hsf
  refine (sum_any Af (frB x) m cf HM.out (by omega) w2 (Nat.le_refl _) HF.out).mono ?_
  rintro e w3 ⟨rfl, hb3⟩
  have H3 := hid (below_then H2.out hb3); have HF3 := hid (HF.out.call hb3); clear hb3 HF
  go_wp2_with fail
  refine (four_any (crcSum (frB x)) (crcSum_lt _) w3).mono ?_
  rintro e w4 ⟨rfl, rfl⟩
  have H4 := hid (below_then H3.out (below_new w3 (.cells ((be 4 (crcSum (frB x))).map byteV).toArray 5)))
  have hr := rows3 (q := (w3.alloc (.cells ((be 4 (crcSum (frB x))).map byteV).toArray 5)).heap.size) 22 (HS1.out.call H4.out) E1.out G1.out.1 G1.out.2 (HF3.out.call (below_new w3 (.cells ((be 4 (crcSum (frB x))).map byteV).toArray 5))) HM.out gf mf (slnew (be 4 (crcSum (frB x))) 5 (w := w3) rfl) (be_length _ _) (Nat.le_refl 4) (by decide) (Nat.le_refl _) rfl
  have HR := hid hr; clear hr
  have hfl : [b, frB x, be 4 (crcSum (frB x))].flatten = b ++ fr x := by simp [fr]
  have hflen : [b, frB x, be 4 (crcSum (frB x))].flatten.length ≤ 3000000 := by
    have := HM.out; have := E1.out
    simp only [List.flatten_cons, List.flatten_nil, List.length_append, List.length_nil, be_length]
    omega
  have HFL := hid hfl; have HFLE := hid hflen; clear hfl hflen
  generalize w3.alloc (.cells ((be 4 (crcSum (frB x))).map byteV).toArray 5) = w4 at *
  go_wp2_with fail
  refine (concat_any _ [b, frB x, be 4 (crcSum (frB x))] 3 3 rfl (by omega) HFLE.out _ HR.out).mono ?_
  rintro e w5 ⟨v5, rfl, hown5, hb5⟩
  rw [HFL.out] at hown5
  have HO5 := hid hown5; clear hown5
  go_wp2_with fail
  go_ret
  have hb6 := below_then (below_then H4.out (below_new _ _)) hb5
  exact ⟨v5, rfl, HO5.out.low (by have := H4.out.size; have := hb5.size; simp at *; omega), hb6⟩
end Go.Proofs.Ytcafahcmalfepaa
/-
  The walk of octet.Take, with the set of the blocks in which its bytes lie.
-/
namespace Go.Proofs.Ytcafahcmalfepaa
open Go.RowKit
theorem or_byte (n c : Nat) (hc : c < 256) (hn : n * 256 + c < 18446744073709551616) : bits .or .u64 ((n : Int) * 256) (c : Int) = (n * 256 + c : Nat) := by
  have h1 : n * 256 < 18446744073709551616 := Nat.lt_of_le_of_lt (Nat.le_add_right _ _) hn
  have h2 : c < 18446744073709551616 := by omega
  have h3 : ((n : Int) * 256) = ((n * 256 : Nat) : Int) := by omega
  rw [h3, u64_or_nat (n * 256) c h1 h2]
  have := Nat.shiftLeft_add_eq_or_of_lt (i := 8) (show c < 2 ^ 8 by omega) n
  rw [Nat.shiftLeft_eq] at this
  rw [← this]

theorem SlZ.get1b {α : Type} {R : ZRep α} {Z : Nat → Prop} {w : World} {A : Option Addr} {l : List α} (h : SlZ R 1 Z w A l) {i : Nat} {a : α} (hi : l[i]? = some a) :
    ∃ b o v, A = some ⟨b, o, none⟩ ∧ b < w.heap.size ∧ R.at_ Z w [v] a ∧ w.cell? ⟨b, o + i, none⟩ = some v := by
  obtain ⟨b, o, v, h1, _, h2, h3, h4⟩ := h.get1 hi
  exact ⟨b, o, v, h1, h2, h3, h4⟩
/-- What Take answers. -/
def TakeRetZ (Z : Nat → Prop) (w : World) (r : Except Int (Nat × Bytes)) (e : Ending) (w' : World) : Prop :=
  (∃ q, w' = w.drewN q) ∧ match r with
    | .error z => e = .returned (.tuple #[.int .u64 0, .slice none 0 0, .int .i64 z])
    | .ok (n, l) => ∃ A c, e = .returned (.tuple #[.int .u64 n, .slice A l.length c, .int .i64 0]) ∧ l.length ≤ c ∧ c ≤ maxLen ∧ SlZ byteZ 1 Z w A l
theorem byteR_eq {Z : Nat → Prop} {w : World} {v : Value} {c : UInt8} (h : byteZ.at_ Z w [v] c) : v = byteV c := by
  have h' : [v] = [byteV c] := h
  simpa using h'

theorem take_nil (A : Option Addr) (c : Nat) (Z : Nat → Prop) (w : World) :
    Calls Try.prog 46 #[.slice A 0 c] w (TakeRetZ Z w (takeN [])) := by
  go_enter Try.func46, Try.ntmps46
  go_wp2_with fail
  go_ret3
  exact ⟨⟨0, rfl⟩, rfl⟩

theorem take_one_form (A : Option Addr) (k : UInt8) (z : Int) (c : Nat) (hc1 : 1 ≤ c) (hc : c ≤ maxLen) (hk : (8 < k.toNat ∧ z = 3) ∨ (0 < k.toNat ∧ k.toNat ≤ 8 ∧ z = 2)) (w : World) {Z : Nat → Prop} (hs : SlZ byteZ 1 Z w A [k]) :
    Calls Try.prog 46 #[.slice A 1 c] w (TakeRetZ Z w (.error z)) := by
  obtain ⟨b, o, v, rfl, hb, hr, hcell⟩ := hs.get1b (i := 0) rfl
  rw [byteR_eq hr] at hcell
  unfold byteV at hcell
  rw [Nat.add_zero] at hcell
  unfold maxLen at hc
  have hkb : k.toNat < 256 := by have := k.toNat_lt; omega
  clear hs hr hb
  rcases hk with ⟨hk, rfl⟩ | ⟨hk, hk2, rfl⟩
  · by_cases h1 : c = 1
    · subst h1
      go_enter Try.func46, Try.ntmps46
      go_wp2_with fail
      go_quiet (fail)
      go_wp2_with fail
      go_ret3
      exact ⟨⟨_, rfl⟩, rfl⟩
    · go_enter Try.func46, Try.ntmps46
      go_wp2_with fail
      go_quiet (fail)
      go_wp2_with fail
      go_ret3
      exact ⟨⟨_, rfl⟩, rfl⟩
  · by_cases h1 : c = 1
    · subst h1
      go_enter Try.func46, Try.ntmps46
      go_wp2_with fail
      go_quiet (fail)
      go_wp2_with fail
      go_ret3
      exact ⟨⟨_, rfl⟩, rfl⟩
    · go_enter Try.func46, Try.ntmps46
      go_wp2_with fail
      go_quiet (fail)
      go_wp2_with fail
      go_ret3
      exact ⟨⟨_, rfl⟩, rfl⟩
theorem take_one_zero (A : Option Addr) (c : Nat) (hc1 : 1 ≤ c) (hc : c ≤ maxLen) (w : World) {Z : Nat → Prop} (hs : SlZ byteZ 1 Z w A [(0 : UInt8)]) :
    Calls Try.prog 46 #[.slice A 1 c] w (TakeRetZ Z w (.ok (0, []))) := by
  obtain ⟨b, o, v, rfl, hb, hr, hcell⟩ := hs.get1b (i := 0) rfl
  rw [byteR_eq hr, show byteV 0 = .int .u8 0 from rfl, Nat.add_zero] at hcell
  unfold maxLen at hc
  clear hs hr hb
  by_cases h1 : c = 1
  · subst h1
    go_enter Try.func46, Try.ntmps46
    go_wp2_with fail
    go_quiet (fail)
    go_wp2_with fail
    refine wp_loop_rounds 1 ?_; rw [rounds_succ]
    go_wp2_with fail
    go_quiet (fail)
    go_wp2_with fail
    go_ret3
    exact ⟨⟨_, World.drewN_drewN _ _ _⟩, _, _, rfl, by simp, by simp [maxLen], SlZ.nil⟩
  · go_enter Try.func46, Try.ntmps46
    go_wp2_with fail
    go_quiet (fail)
    go_wp2_with fail
    refine wp_loop_rounds 1 ?_; rw [rounds_succ]
    go_wp2_with fail
    go_quiet (fail)
    go_wp2_with fail
    go_ret3
    exact ⟨⟨_, World.drewN_drewN _ _ _⟩, _, _, rfl, by simp, by simp only [maxLen]; omega, SlZ.nil⟩

/-- What the walk wants of a slice of at least two bytes. -/
theorem two_cells {w : World} {Z : Nat → Prop} {A : Option Addr} {k r0 : UInt8} {r : Bytes} (hs : SlZ byteZ 1 Z w A (k :: r0 :: r)) :
    ∃ b o, A = some ⟨b, o, none⟩ ∧ w.cell? ⟨b, o, none⟩ = some (.int .u8 k.toNat) ∧ w.cell? ⟨b, o + 1, none⟩ = some (.int .u8 r0.toNat) ∧
      (∀ i c, (r0 :: r)[i]? = some c → w.cell? ⟨b, o + 1 + i, none⟩ = some (.int .u8 c.toNat)) := by
  obtain ⟨b, o, v, rfl, _, hr, hcell⟩ := hs.get1b (i := 0) rfl
  rw [byteR_eq hr, Nat.add_zero] at hcell
  have hall : ∀ i c, (r0 :: r)[i]? = some c → w.cell? ⟨b, o + 1 + i, none⟩ = some (.int .u8 c.toNat) := by
    intro i c hi
    obtain ⟨b', o', v', he, _, hr', hc'⟩ := hs.get1b (i := i + 1) (a := c) (by simpa using hi)
    simp only [Option.some.injEq, Addr.mk.injEq, and_true] at he
    obtain ⟨rfl, rfl⟩ := he
    rw [byteR_eq hr'] at hc'
    rw [show o + 1 + i = o + (i + 1) by omega]
    exact hc'
  exact ⟨b, o, rfl, hcell, by simpa using hall 0 r0 rfl, hall⟩
theorem take_two_form (A : Option Addr) (k r0 : UInt8) (r : Bytes) (m : Nat) (c : Nat) (hm : (k :: r0 :: r).length = m) (hc1 : m ≤ c) (hc : c ≤ maxLen) (hk : 8 < k.toNat ∨ (0 < k.toNat ∧ k.toNat ≤ 8 ∧ r0.toNat = 0)) (w : World) {Z : Nat → Prop} (hs : SlZ byteZ 1 Z w A (k :: r0 :: r)) :
    Calls Try.prog 46 #[.slice A m c] w (TakeRetZ Z w (.error 3)) := by
  obtain ⟨b, o, rfl, hc0, hcr0, _⟩ := two_cells hs
  unfold maxLen at hc
  have hm2 : 2 ≤ m := by rw [← hm]; simp
  have hkb : k.toNat < 256 := by have := k.toNat_lt; omega
  have hrb : r0.toNat < 256 := by have := r0.toNat_lt; omega
  clear hs hm
  rcases hk with hk | ⟨hk, hk2, hk3⟩
  · go_enter Try.func46, Try.ntmps46
    go_wp2_with fail
    go_quiet (fail)
    go_wp2_with fail
    go_ret3
    exact ⟨⟨_, rfl⟩, rfl⟩
  · rw [hk3] at hcr0
    clear hk3
    go_enter Try.func46, Try.ntmps46
    go_wp2_with fail
    go_quiet (fail)
    go_wp2_with fail
    go_ret3
    exact ⟨⟨_, rfl⟩, rfl⟩
theorem take_two_short (A : Option Addr) (k r0 : UInt8) (r : Bytes) (m : Nat) (c : Nat) (hm : (k :: r0 :: r).length = m) (hc1 : m ≤ c) (hc : c ≤ maxLen) (hk : k.toNat ≤ 8) (hr0 : 0 < r0.toNat) (hsh : m < k.toNat + 1) (w : World) {Z : Nat → Prop} (hs : SlZ byteZ 1 Z w A (k :: r0 :: r)) :
    Calls Try.prog 46 #[.slice A m c] w (TakeRetZ Z w (.error 2)) := by
  obtain ⟨b, o, rfl, hc0, hcr0, _⟩ := two_cells hs
  unfold maxLen at hc
  have hm2 : 2 ≤ m := by rw [← hm]; simp
  have hkb : k.toNat < 256 := by have := k.toNat_lt; omega
  have hrb : r0.toNat < 256 := by have := r0.toNat_lt; omega
  have hz : ((r0.toNat : Int) == 0) = false := by rw [beq_eq_false_iff_ne]; omega
  clear hs hm
  go_enter Try.func46, Try.ntmps46
  go_wp2_with fail
  go_quiet (fail)
  go_wp2_with fail
  go_ret3
  exact ⟨⟨_, rfl⟩, rfl⟩
set_option maxHeartbeats 1000000 in
theorem take_two_ok (A : Option Addr) (k r0 : UInt8) (r : Bytes) (m : Nat) (c : Nat) (hm : (k :: r0 :: r).length = m) (hc1 : m ≤ c) (hc : c ≤ maxLen) (hk : k.toNat ≤ 8) (hr0 : k.toNat = 0 ∨ 0 < r0.toNat) (hlen : k.toNat + 1 ≤ m) (w : World) {Z : Nat → Prop} (hs : SlZ byteZ 1 Z w A (k :: r0 :: r)) :
    Calls Try.prog 46 #[.slice A m c] w (TakeRetZ Z w (.ok (fromBE ((r0 :: r).take k.toNat), (r0 :: r).drop k.toNat))) := by
  obtain ⟨b, o, rfl, hc0, hcr0, hall⟩ := two_cells hs
  unfold maxLen at hc
  have hm2 : 2 ≤ m := by rw [← hm]; simp
  have hkb : k.toNat < 256 := by have := k.toNat_lt; omega
  have hrb : r0.toNat < 256 := by have := r0.toNat_lt; omega
  have hdr := hs.drop (k.toNat + 1)
  rw [List.drop_succ_cons, Nat.mul_one] at hdr
  have hl1 : (r0 :: r).length = m - 1 := by rw [← hm]; simp
  generalize hkn : k.toNat = kn at *
  have HM := hid hm; have HA := hid hall; have HD := hid hdr; have HL := hid hl1
  clear hs hm hall hdr hl1 hkn
  have fin : ∀ nq (A' : Option Addr) (n c' : Nat), SlZ byteZ 1 Z w A' ((r0 :: r).drop kn) → n = m - 1 - kn → c' = c - 1 - kn → TakeRetZ Z w (.ok (fromBE ((r0 :: r).take kn), (r0 :: r).drop kn)) (.returned (.tuple #[.int .u64 (fromBE ((r0 :: r).take kn)), .slice A' n c', .int .i64 0])) (w.drewN nq) := by
    intro nq A' n c' h1 h2 h3
    subst h2 h3
    have hl2 : ((r0 :: r).drop kn).length = m - 1 - kn := by rw [List.length_drop, HL.out]
    refine ⟨⟨nq, rfl⟩, A', c - 1 - kn, ?_, ?_, ?_, h1⟩
    · rw [hl2]
    · rw [hl2]; omega
    · unfold maxLen; omega
  have HF := hid fin; clear fin
  have hcases : kn = 0 ∨ (0 < kn ∧ 0 < r0.toNat) := by omega
  clear hr0
  rcases hcases with rfl | ⟨hk0, hr0⟩
  · go_enter Try.func46, Try.ntmps46
    go_wp2_with fail
    go_quiet (fail)
    go_wp2_with fail
    refine wp_loop_rounds 1 ?_; rw [rounds_succ]
    go_wp2_with fail
    go_quiet (fail)
    go_wp2_with fail
    go_ret3
    rw [World.drewN_drewN]
    exact HF.out _ _ _ _ HD.out rfl rfl
  · have hz : ((r0.toNat : Int) == 0) = false := by rw [beq_eq_false_iff_ne]; omega
    go_enter Try.func46, Try.ntmps46
    go_wp2_with fail
    go_quiet (fail)
    go_wp2_with fail
    have hzero : (Value.int .u64 0) = .int .u64 (fromBE ((r0 :: r).take 0) : Nat) := rfl
    have HZ := hid hzero; clear hzero
    go_loop [7, 46] (fun n i => ∃ j : Nat, j ≤ kn ∧ i = .int .i64 j ∧ n = .int .u64 (fromBE ((r0 :: r).take j) : Nat)) (fun _ i => kn - (intOf i).toNat)
    case atStart => exact ⟨0, Nat.zero_le _, rfl, HZ.out⟩
    case round =>
      obtain ⟨j, hj, rfl, rfl⟩ := hrel
      by_cases hlt : j < kn
      · have hjl : j < (r0 :: r).length := by rw [HL.out]; omega
        have hget : (r0 :: r)[j]? = some ((r0 :: r)[j]) := List.getElem?_eq_getElem hjl
        have hcell := HA.out j _ hget
        have hF := fromBE_lt ((r0 :: r).take j)
        have hFl : ((r0 :: r).take j).length = j := by rw [List.length_take]; omega
        rw [hFl] at hF
        have hpow : 256 ^ j ≤ 256 ^ 7 := Nat.pow_le_pow_right (by omega) (by omega)
        have hF2 : fromBE ((r0 :: r).take j) < 72057594037927936 := by omega
        have hsn : fromBE ((r0 :: r).take (j + 1)) = fromBE ((r0 :: r).take j) * 256 + ((r0 :: r)[j]).toNat := by
          rw [List.take_add_one, hget, ← fromBE_snoc]
          rfl
        have hcb : ((r0 :: r)[j]).toNat < 256 := by have := ((r0 :: r)[j]).toNat_lt; omega
        clear hF hpow hFl hget
        generalize (r0 :: r)[j] = cj at *
        generalize fromBE ((r0 :: r).take j) = F at *
        have hor := or_byte F cj.toNat hcb (by omega)
        have HS := hid hsn; clear hsn hjl
        go_wp2_with fail
        go_round
        case rel => exact ⟨j + 1, by omega, by go_num, by rw [HS.out]; go_num⟩
        case measure => simp [intOf]; omega
      · obtain rfl : kn = j := by omega
        by_cases hc2 : c - 1 = kn
        · go_wp2_with fail
          go_quiet (fail)
          go_wp2_with fail
          go_ret3
          rw [World.drewN_drewN]
          have hnil : (r0 :: r).drop kn = [] := List.drop_eq_nil_of_le (by rw [HL.out]; omega)
          exact HF.out _ _ _ _ (fun hn => absurd hnil hn) rfl (by omega)
        · go_wp2_with fail
          go_quiet (fail)
          go_wp2_with fail
          go_ret3
          rw [World.drewN_drewN]
          refine HF.out _ _ _ _ ?_ rfl rfl
          have := HD.out
          rw [show o + (kn + 1) = o + 1 + kn by omega] at this
          exact this

theorem take_any (A : Option Addr) (b : Bytes) (m c : Nat) (hm : b.length = m) (hc1 : m ≤ c) (hc : c ≤ maxLen) (w : World) {Z : Nat → Prop} (hs : SlZ byteZ 1 Z w A b) :
    Calls Try.prog 46 #[.slice A m c] w (TakeRetZ Z w (takeN b)) := by
  subst hm
  match b, hs, hc1 with
  | [], hs, hc1 => exact take_nil A c _ w
  | [k], hs, hc1 =>
    by_cases h8 : 8 < k.toNat
    · rw [show takeN [k] = .error 3 by simp [takeN, h8]]
      exact take_one_form A k 3 c hc1 hc (.inl ⟨h8, rfl⟩) w hs
    · by_cases h0 : 0 < k.toNat
      · rw [show takeN [k] = .error 2 by simp [takeN, h8, h0]]
        exact take_one_form A k 2 c hc1 hc (.inr ⟨h0, by omega, rfl⟩) w hs
      · have hk : k = 0 := by apply UInt8.toNat_inj.1; simpa using h0
        subst hk
        exact take_one_zero A c hc1 hc w hs
  | k :: r0 :: r, hs, hc1 =>
    by_cases h8 : 8 < k.toNat
    · rw [show takeN (k :: r0 :: r) = .error 3 by simp [takeN, h8]]
      exact take_two_form A k r0 r _ c rfl hc1 hc (.inl h8) w hs
    · by_cases h1 : 0 < k.toNat ∧ r0.toNat = 0
      · have hr : r0 = 0 := by apply UInt8.toNat_inj.1; simpa using h1.2
        subst hr
        rw [show takeN (k :: 0 :: r) = .error 3 by simp [takeN, h1.1]]
        exact take_two_form A k 0 r _ c rfl hc1 hc (.inr ⟨h1.1, by omega, rfl⟩) w hs
      · have hr : k.toNat = 0 ∨ 0 < r0.toNat := by omega
        have hne : ¬ (8 < k.toNat ∨ (0 < k.toNat ∧ (r0 :: r).head? = some 0)) := by
          rintro (h | ⟨h, h'⟩)
          · exact h8 h
          · simp at h'
            subst h'
            simp at hr
            omega
        by_cases hl : (r0 :: r).length < k.toNat
        · rw [show takeN (k :: r0 :: r) = .error 2 by rw [takeN, if_neg hne, if_pos hl]]
          exact take_two_short A k r0 r _ c rfl hc1 hc (by omega) (by simp at hl; omega) (by simp at hl ⊢; omega) w hs
        · rw [show takeN (k :: r0 :: r) = .ok (fromBE ((r0 :: r).take k.toNat), (r0 :: r).drop k.toNat) by rw [takeN, if_neg hne, if_neg hl]]
          exact take_two_ok A k r0 r _ c rfl hc1 hc (by omega) hr (by simp at hl ⊢; omega) w hs
end Go.Proofs.Ytcafahcmalfepaa
/-
  The steps through a region that draws its order: whatever is read is read from a base world; an unwanted operation, one that only reads, one that is carried out. Nothing here speaks of the program.
-/
namespace Go.Proofs.Ytcafahcmalfepaa
open Go.RowKit Go.Deep
section
variable {P : Program} {ops : Array Oper} {Q : Exit → Act → World → Prop} {md : Region.Mode} {S S' : World → Prop}
theorem wpOp_imp {K K' : Act → World → Prop} {i : Nat} {a : Act} {w : World} (h : ∀ a w, K a w → K' a w) (hh : wpOp P ops Q i K a w) : wpOp P ops Q i K' a w := wpOp_mono h hh
/-- More may be held. -/
theorem wpAnyH_more (hSS : ∀ w, S' w → S w) : ∀ (fuel : Nat) (listed : Array Bool) (a : Act) (w : World), wpAnyH P md ops Q S' fuel listed a w → wpAnyH P md ops Q S fuel listed a w
  | 0, _, _, _, h => h
  | fuel + 1, _, _, _, h => ⟨h.1, fun i hi => wpOp_mono (fun a' w' h' => ⟨hSS _ h'.1, wpAnyH_more hSS fuel _ a' w' h'.2⟩) (h.2 i hi)⟩
/-- From here on nothing of the world at hand turns. -/
theorem wpAnyH_base {B : Nat} {wb w : World} {fuel : Nat} {listed : Array Bool} {a : Act} (hB : B ≤ w.heap.size) (hb : Below B wb w)
    (h : Below w.heap.size w w → wpAnyH P md ops Q (Below w.heap.size w) fuel listed a w) : wpAnyH P md ops Q (Below B wb) fuel listed a w :=
  wpAnyH_more (fun w' h' => hb.trans (h'.mono hB)) _ _ _ _ (h (Below.refl _ _))
theorem reg_start {id : Nat} {a : Act} {w : World} (hm : P.follows .mixedOrders = true)
    (h : ∀ w0, Below w.heap.size w w0 → w0.heap.size = w.heap.size → wpAnyH P .any ops Q (Below w.heap.size w) ops.size (Array.replicate ops.size false) a w0) : (Code.region id ops true).wp P Q a w :=
  wp_region_held_drew (S := Below w.heap.size w) hm (Below.refl _ _).drew fun hs => h _ hs (by simp)
theorem below_pre {w w1 w2 : World} (h : Below w.heap.size w w1) (k : Below w1.heap.size w1 w2) : w.heap.size ≤ w1.heap.size ∧ Below w.heap.size w w2 := ⟨h.size, below_then h k⟩
/-- append to a row of the call's own, in a region. -/
theorem opw_app {α : Type} {R : Rep α} {k B base bytes : Nat} {e : TypeId} {w : World} {o : Oper} {a : Act} {K : Act → World → Prop} (s x : Operand) (t : TypeId)
    (ho : o.op = .call { callee := .builtin .append, args := #[s, x], argTypes := #[t, t] }) (T : Tab P t e k bytes) (v : Value) (l l2 : List α) (hs : a.eval s = v) (hown : Own R k e base B w v l) (hB : B ≤ base)
    (A : Option Addr) (m c : Nat) (ys : List Value) (hx : a.eval x = .slice A m c) (hm : l2.length = m) (hr : RdC w k A m ys) (hc : Cs R k B w ys l2)
    (h1 : ∀ u ∈ ys, u.oneCell' = true) (hlen : (l.length + l2.length) * bytes ≤ 140737488355328) (h63 : l.length + l2.length ≤ maxLen) (hbase : base ≤ w.heap.size)
    (h : ∀ v' w', Own R k e base B w' v' (l ++ l2) → Below base w w' → K (a.put o.dst v') w') : Oper.wp P o a w K Q := by
  obtain ⟨v', w', hrun, h2, h3, h4, h5⟩ := run_append_own_any (P := P) (w := w) t o.type T hown hB A m c ys hm hr hc h1 hlen h63 hbase
  unfold Oper.wp execOp
  simp only [ho, resolve, invoke, builtin, Sem.run_bind, Sem.run_pure, Result.andThen_ok, List.map_toArray, List.map_cons, List.map_nil, hs, hx, hrun]
  exact h v' w' h2 h3
/-- The operation that stands at a place of a written region. -/
def opNth : List Oper → Nat → Option Oper
  | [], _ => none
  | o :: _, 0 => some o
  | _ :: l, i + 1 => opNth l i
theorem opNth_spec : ∀ (l : List Oper) (i : Nat) (o : Oper), opNth l i = some o → l.toArray[i]? = some o
  | [], i, o, h => by cases h
  | _ :: _, 0, _, h => by simpa [opNth] using h
  | _ :: l, i + 1, o, h => by simpa using opNth_spec l i o h
section
variable {l : List Oper} {listed : Array Bool} {fuel : Nat} {a : Act} {w : World}
/-- An operation that nobody asks for. -/
theorem reg_un (i : Nat) {oi : Oper} (hi : opNth l i = some oi) (hs : Region.noSelect l.toArray = true) (hf : Region.free md l.toArray listed i = true) (hr : (Region.ready md l.toArray listed).contains i = true)
    (hQ : ∀ c a w, Q (.panic c) (a.put oi.dst undef) w → Q (.panic c) a w) (hu : Region.wanted oi (yielded l.toArray a.tmps) = false) (hS : S w)
    (h : wpAnyH P md l.toArray Q S fuel (listed.setIfInBounds i true) (a.put oi.dst undef) w) : wpAnyH P md l.toArray Q S (fuel + 1) listed a w :=
  wpAnyH_take (opNth_spec _ _ _ hi) hs hf hr hQ (Or.inr ⟨hu, rfl⟩) hS h
/-- An operation that yields its value wherever S holds. -/
theorem reg_rd (i : Nat) {oi : Oper} {v : Value} (hi : opNth l i = some oi) (hs : Region.noSelect l.toArray = true) (hf : Region.free md l.toArray listed i = true) (hr : (Region.ready md l.toArray listed).contains i = true)
    (hQ : ∀ c a w, Q (.panic c) (a.put oi.dst v) w → Q (.panic c) a w) (hu : Region.wanted oi (yielded l.toArray a.tmps) = true) (hS : S w)
    (hy : ∀ w, S w → (execOp a.eval oi).run P w = .ok (.value v) w) (h : wpAnyH P md l.toArray Q S fuel (listed.setIfInBounds i true) (a.put oi.dst v) w) : wpAnyH P md l.toArray Q S (fuel + 1) listed a w :=
  wpAnyH_take (opNth_spec _ _ _ hi) hs hf hr hQ (Or.inl ⟨hu, hy⟩) hS h
/-- An operation that is carried out. -/
theorem reg_do {i : Nat} {o : Oper} {rs : List Nat} (ho : opNth l i = some o) (hu : Region.wanted o (yielded l.toArray a.tmps) = true)
    (h : ∀ K' : Act → World → Prop, Shut (∀ a w, S w → (S w → wpAnyH P md l.toArray Q S fuel (listed.setIfInBounds i true) a w) → K' a w) → Oper.wp P o a w K' Q)
    (hs : AllReadyH P md l.toArray Q S fuel listed a w rs) : AllReadyH P md l.toArray Q S fuel listed a w (i :: rs) :=
  AllReadyH.cons (opNth_spec _ _ _ ho) (fun K' hK => by rw [if_pos hu]; exact h K' hK) hs
/-- The last of them. -/
theorem reg_do1 {i : Nat} {o : Oper} (ho : opNth l i = some o) (hu : Region.wanted o (yielded l.toArray a.tmps) = true)
    (h : ∀ K' : Act → World → Prop, Shut (∀ a w, S w → (S w → wpAnyH P md l.toArray Q S fuel (listed.setIfInBounds i true) a w) → K' a w) → Oper.wp P o a w K' Q) :
    AllReadyH P md l.toArray Q S fuel listed a w [i] := reg_do ho hu h AllReadyH.nil
end
end
end Go.Proofs.Ytcafahcmalfepaa
/-
  The walks of slices.Equal on bytes, and of crc.Take.
-/
namespace Go.Proofs.Ytcafahcmalfepaa
open Go.RowKit Go.Deep
theorem byte_at {B : Nat} {w : World} {v : Value} {c : UInt8} (h : byteR.at_ B w [v] c) : v = .int .u8 (c.toNat : Int) := by
  have h' : [v] = [byteV c] := h
  simpa [byteV] using h'
theorem sequal_any (A1 A2 : Option Addr) (l1 l2 : Bytes) (n m c1 c2 : Nat) {B1 B2 : Nat} (h1 : l1.length = n) (h2 : l2.length = m) (hn : n ≤ maxLen) (w : World) (hs1 : Sl byteR 1 B1 w A1 l1) (hs2 : Sl byteR 1 B2 w A2 l2) :
    Calls Try.prog 47 #[.slice A1 n c1, .slice A2 m c2] w fun e w' => e = .returned (.bool (decide (l1 = l2))) ∧ ∃ q, w' = w.drewN q := by
  unfold maxLen at hn
  by_cases hne : n = m
  · subst hne
    have HL1 := hid h1; have HL2 := hid h2; have HS1 := hid hs1; have HS2 := hid hs2; clear h1 h2 hs1 hs2
    go_enter Try.func47, Try.ntmps47
    go_wp2_with fail
    go_loopw [13] (fun i wr => ∃ k : Nat, k ≤ n ∧ i = .int .i64 k ∧ l1.take k = l2.take k ∧ ∃ q, wr = w.drewN q)
      (fun i _ => n - (intOf i).toNat)
    case atStart => exact ⟨0, Nat.zero_le _, rfl, rfl, 0, rfl⟩
    case round =>
      obtain ⟨k, hk, rfl, heq, q, rfl⟩ := hrel
      have HE := hid heq; clear heq
      by_cases hlt : k < n
      · obtain ⟨x1, hx1⟩ : ∃ x, l1[k]? = some x := ⟨_, List.getElem?_eq_getElem (by rw [HL1.out]; exact hlt)⟩
        obtain ⟨x2, hx2⟩ : ∃ x, l2[k]? = some x := ⟨_, List.getElem?_eq_getElem (by rw [HL2.out]; exact hlt)⟩
        obtain ⟨b1, o1, v1, rfl, _, hv1, hc1⟩ := HS1.out.get1 hx1
        obtain ⟨b2, o2, v2, rfl, _, hv2, hc2⟩ := HS2.out.get1 hx2
        rw [byte_at hv1] at hc1
        rw [byte_at hv2] at hc2
        clear hv1 hv2
        have hp1 : l1.take (k + 1) = l1.take k ++ [x1] := by rw [List.take_add_one, hx1]; rfl
        have hp2 : l2.take (k + 1) = l2.take k ++ [x2] := by rw [List.take_add_one, hx2]; rfl
        have hdec : (l1 = l2) → x1 = x2 := by intro h; rw [h, hx2] at hx1; simpa using hx1.symm
        clear hx1 hx2
        have HD := hid hdec; have HP1 := hid hp1; have HP2 := hid hp2; clear hdec hp1 hp2
        by_cases hx : x1 = x2
        · subst hx
          go_wp2_with fail
          go_quiet (fail)
          go_wp2_with fail
          go_roundw
          case rel => exact ⟨k + 1, by omega, by go_num, by rw [HP1.out, HP2.out, HE.out], _, rfl⟩
          case measure => simp [intOf]; omega
        · have hxb : ((x1.toNat : Int) == x2.toNat) = false := by
            rw [beq_eq_false_iff_ne]
            exact fun h => hx (UInt8.toNat_inj.1 (by omega))
          have HX := hid hx; clear hx
          go_wp2_with fail
          go_quiet (fail)
          go_wp2_with fail
          go_ret
          exact ⟨by rw [decide_eq_false (fun h => HX.out (HD.out h))]; rfl, _, World.drewN_drewN _ _ _⟩
      · obtain rfl : k = n := by omega
        go_wp2_with fail
        go_ret
        refine ⟨?_, q, rfl⟩
        have := HE.out
        rw [List.take_of_length_le (by rw [HL1.out]; omega), List.take_of_length_le (by rw [HL2.out]; omega)] at this
        rw [decide_eq_true this]
        rfl
  · have hb : decide (n = m) = false := by simpa using hne
    have hd : decide (l1 = l2) = false := decide_eq_false (fun h => hne (by rw [← h1, ← h2, h]))
    rw [hd]
    clear hd hs1 hs2 h1 h2
    go_enter Try.func47, Try.ntmps47
    go_wp2_with fail
    go_ret
    exact ⟨rfl, 0, rfl⟩
/-- What Take answers. -/
def TakeFZ (Z : Nat → Prop) (w : World) (r : Except Int (Bytes × Bytes)) (e : Ending) (w' : World) : Prop :=
  Below w.heap.size w w' ∧ match r with
    | .error z => e = .returned (.tuple #[.slice none 0 0, .slice none 0 0, .int .i64 z])
    | .ok (x, l) => ∃ A1 c1 A2 c2, e = .returned (.tuple #[.slice A1 x.length c1, .slice A2 l.length c2, .int .i64 0]) ∧ (x.length ≤ c1 ∧ c1 ≤ maxLen ∧ l.length ≤ c2 ∧ c2 ≤ maxLen) ∧ SlZ byteZ 1 Z w' A1 x ∧ SlZ byteZ 1 Z w' A2 l
theorem four_ret (n : Nat) (hn : n < 4294967296) (w : World) :
    Calls Try.prog 48 #[.int .u32 n] w fun e w' => ∃ A, e = .returned (.slice A 4 4) ∧ Sl byteR 1 w'.heap.size w' A (be 4 n) ∧ Below w.heap.size w w' := by
  refine (four_any n hn w).mono ?_
  rintro e w' ⟨rfl, rfl⟩
  exact ⟨_, rfl, slnew _ _ rfl, below_new _ _⟩
theorem ctake_nil (A : Option Addr) (c : Nat) (Z : Nat → Prop) (w : World) :
    Calls Try.prog 14 #[.slice A 0 c] w (TakeFZ Z w (takeF [])) := by
  go_enter Try.func14, Try.ntmps14
  go_wp2_with fail
  go_ret3
  exact ⟨Below.refl _ _, rfl⟩
theorem ctake_mark (A : Option Addr) (m : UInt8) (t : Bytes) (n c : Nat) (hl : (m :: t).length = n) (hm : m ≠ 167) (Z : Nat → Prop) (w : World) (hs : SlZ byteZ 1 Z w A (m :: t)) :
    Calls Try.prog 14 #[.slice A n c] w (TakeFZ Z w (.error 3)) := by
  obtain ⟨b, o, v, rfl, _, hv, hc⟩ := hs.bsl.get1 (i := 0) rfl
  rw [byte_at hv] at hc
  clear hs
  have hn0 : 0 < n := by rw [← hl]; simp
  have hne : ((m.toNat : Int) == 167) = false := by
    rw [beq_eq_false_iff_ne]
    exact fun h => hm (UInt8.toNat_inj.1 (by have : (167 : UInt8).toNat = 167 := rfl; omega))
  clear hl hm
  have hnz : ((n : Int) == 0) = false := by simp; omega
  rw [Nat.add_zero] at hc
  go_enter Try.func14, Try.ntmps14
  go_wp2_with fail
  go_ret3
  exact ⟨Below.refl _ _, rfl⟩
theorem ctake_one (A : Option Addr) (c : Nat) (hc1 : 1 ≤ c) (hc2 : c ≤ maxLen) (Z : Nat → Prop) (w : World) (hs : SlZ byteZ 1 Z w A [167]) :
    Calls Try.prog 14 #[.slice A 1 c] w (TakeFZ Z w (.error 2)) := by
  obtain ⟨b, o, v, rfl, _, hv, hc⟩ := hs.bsl.get1 (i := 0) rfl
  rw [byte_at hv, Nat.add_zero] at hc
  have hc' : w.cell? ⟨b, o, none⟩ = some (.int .u8 167) := hc
  clear hs hc
  by_cases h1 : c = 1
  · subst h1
    go_enter Try.func14, Try.ntmps14
    go_wp2_with fail
    refine (take_any (some ⟨b, o, none⟩) [] 0 0 rfl (Nat.le_refl _) (Nat.zero_le _) w (Z := Z) SlZ.nil).mono ?_
    rw [show takeN [] = .error 2 from rfl]
    rintro e w' ⟨⟨q, rfl⟩, rfl⟩
    go_wp2_with fail
    go_ret3
    exact ⟨below_drewN (Below.refl _ _) _, rfl⟩
  · have hc3 : 1 < c := by omega
    have hc4 : (1 : Int) ≤ c := by omega
    go_enter Try.func14, Try.ntmps14
    go_wp2_with fail
    refine (take_any (some ⟨b, o + 1, none⟩) [] 0 (c - 1) rfl (Nat.zero_le _) (by unfold maxLen at *; omega) w (Z := Z) SlZ.nil).mono ?_
    rw [show takeN [] = .error 2 from rfl]
    rintro e w' ⟨⟨q, rfl⟩, rfl⟩
    go_wp2_with fail
    go_ret3
    exact ⟨below_drewN (Below.refl _ _) _, rfl⟩
/-- What is known of a row that begins with a mark and goes on. -/
theorem ctake_pre {A : Option Addr} {t : Bytes} {n c : Nat} (hl : ((167 : UInt8) :: t).length = n) (hc1 : n ≤ c) (ht : t ≠ []) {Z : Nat → Prop} {w : World} (hs : SlZ byteZ 1 Z w A (167 :: t)) :
    ∃ b o, A = some ⟨b, o, none⟩ ∧ w.cell? ⟨b, o, none⟩ = some (.int .u8 167) ∧ SlZ byteZ 1 Z w (some ⟨b, o + 1, none⟩) t ∧ t.length = n - 1 ∧ 2 ≤ n ∧ 1 < c ∧ (1 : Int) ≤ n ∧ (1 : Int) ≤ c ∧ ((n : Int) == 0) = false ∧ 0 < n ∧ ¬ c = 1 := by
  obtain ⟨b, o, v, rfl, _, hv, hc⟩ := hs.bsl.get1 (i := 0) rfl
  rw [byte_at hv, Nat.add_zero] at hc
  have hp := List.length_pos_iff.2 ht
  have e : t.length + 1 = n := by rw [← hl]; simp
  exact ⟨b, o, rfl, hc, by simpa using hs.drop 1, by omega, by omega, by omega, by omega, by omega, by simp; omega, by omega, by omega⟩
set_option maxHeartbeats 1000000 in
theorem ctake_err (A : Option Addr) (t : Bytes) (n c : Nat) (z : Int) (hl : ((167 : UInt8) :: t).length = n) (hc1 : n ≤ c) (hc2 : c ≤ maxLen) (ht : t ≠ []) (htk : takeN t = .error z) (Z : Nat → Prop) (w : World) (hs : SlZ byteZ 1 Z w A (167 :: t)) :
    Calls Try.prog 14 #[.slice A n c] w (TakeFZ Z w (.error z)) := by
  obtain ⟨b, o, rfl, hc', hd, htl, f1, f2, f3, f4, f5, f6, f7⟩ := ctake_pre hl hc1 ht hs
  have HD := hid hd; have HT := hid htl; clear hs hl ht hd htl
  go_enter Try.func14, Try.ntmps14
  go_wp2_with fail
  refine (take_any (some ⟨b, o + 1, none⟩) t (n - 1) (c - 1) HT.out (by omega) (by unfold maxLen at *; omega) w HD.out).mono ?_
  rw [htk]
  rintro e w' ⟨⟨q, rfl⟩, rfl⟩
  have hz : (z == 0) = false := by
    rcases takeN_err htk with h | h <;> subst h <;> rfl
  go_wp2_with fail
  go_ret3
  exact ⟨below_drewN (Below.refl _ _) _, rfl⟩
end Go.Proofs.Ytcafahcmalfepaa
/-
  The walk of crc.Take, on.
-/
namespace Go.Proofs.Ytcafahcmalfepaa
open Go.RowKit Go.Deep
theorem takeFZ_ok {Z : Nat → Prop} {w w' : World} {e : Ending} {x l : Bytes} {A1 A2 : Option Addr} {c1 c2 : Nat} (hb : Below w.heap.size w w') (he : e = .returned (.tuple #[.slice A1 x.length c1, .slice A2 l.length c2, .int .i64 0])) (h : x.length ≤ c1 ∧ c1 ≤ maxLen ∧ l.length ≤ c2 ∧ c2 ≤ maxLen) (s1 : SlZ byteZ 1 Z w A1 x) (s2 : SlZ byteZ 1 Z w A2 l) : TakeFZ Z w (.ok (x, l)) e w' :=
  ⟨hb, A1, c1, A2, c2, he, h, s1.below hb, s2.below hb⟩
set_option maxHeartbeats 1000000 in
theorem ctake_large (A : Option Addr) (t r : Bytes) (n c nn : Nat) (hl : ((167 : UInt8) :: t).length = n) (hc1 : n ≤ c) (hc2 : c ≤ maxLen) (ht : t ≠ []) (htk : takeN t = .ok (nn, r)) (hnn : 100000 < nn) (Z : Nat → Prop) (w : World) (hs : SlZ byteZ 1 Z w A (167 :: t)) :
    Calls Try.prog 14 #[.slice A n c] w (TakeFZ Z w (.error 5)) := by
  obtain ⟨b, o, rfl, hc', hd, htl, f1, f2, f3, f4, f5, f6, f7⟩ := ctake_pre hl hc1 ht hs
  have HD := hid hd; have HT := hid htl; clear hs hl ht hd htl
  have hni : (100000 : Int) < nn := by omega
  go_enter Try.func14, Try.ntmps14
  go_wp2_with fail
  refine (take_any (some ⟨b, o + 1, none⟩) t (n - 1) (c - 1) HT.out (by omega) (by unfold maxLen at *; omega) w HD.out).mono ?_
  rw [htk]
  rintro e w' ⟨⟨q, rfl⟩, A', c', rfl, g1, g2, hs'⟩
  clear hs'
  go_wp2_with fail
  go_ret3
  exact ⟨below_drewN (Below.refl _ _) _, rfl⟩
set_option maxHeartbeats 1000000 in
theorem ctake_short (A : Option Addr) (t r : Bytes) (n c nn : Nat) (hl : ((167 : UInt8) :: t).length = n) (hc1 : n ≤ c) (hc2 : c ≤ maxLen) (ht : t ≠ []) (htk : takeN t = .ok (nn, r)) (hnn : nn ≤ 100000) (hsh : r.length < nn + 4) (Z : Nat → Prop) (w : World) (hs : SlZ byteZ 1 Z w A (167 :: t)) :
    Calls Try.prog 14 #[.slice A n c] w (TakeFZ Z w (.error 2)) := by
  obtain ⟨b, o, rfl, hc', hd, htl, f1, f2, f3, f4, f5, f6, f7⟩ := ctake_pre hl hc1 ht hs
  have HD := hid hd; have HT := hid htl; clear hs hl ht hd htl
  have hni : (nn : Int) ≤ 100000 := by omega
  have hri : (r.length : Int) < nn + 4 := by omega
  have hri2 : (r.length : Int) ≤ 100003 := by omega
  go_enter Try.func14, Try.ntmps14
  go_wp2_with fail
  refine (take_any (some ⟨b, o + 1, none⟩) t (n - 1) (c - 1) HT.out (by omega) (by unfold maxLen at *; omega) w HD.out).mono ?_
  rw [htk]
  rintro e w' ⟨⟨q, rfl⟩, A', c', rfl, g1, g2, hs'⟩
  clear hs'
  generalize r.length = rl at *
  go_wp2_with fail
  go_ret3
  exact ⟨below_drewN (Below.refl _ _) _, rfl⟩
set_option maxHeartbeats 4000000 in
set_option maxRecDepth 20000 in
theorem ctake_rest (A : Option Addr) (t r : Bytes) (n c nn : Nat) (hl : ((167 : UInt8) :: t).length = n) (hn : n ≤ 1000000) (hc1 : n ≤ c) (hc2 : c ≤ maxLen) (ht : t ≠ []) (htk : takeN t = .ok (nn, r)) (hnn : nn ≤ 100000) (hsh : nn + 4 ≤ r.length) (yes : Bool) (R : Except Int (Bytes × Bytes)) (hy : decide (be 4 (crcSum (((167 : UInt8) :: t).take (n - (r.length - nn)))) = (r.drop nn).take 4) = yes) (hR : R = bif yes then .ok (r.take nn, r.drop (nn + 4)) else .error 4) (Z : Nat → Prop) (w : World) (hs : SlZ byteZ 1 Z w A (167 :: t)) :
    Calls Try.prog 14 #[.slice A n c] w (TakeFZ Z w R) := by
  have HY := hid hy; have HRR := hid hR; clear hy hR
  obtain ⟨b, o, rfl, hc', hd, htl, f1, f2, f3, f4, f5, f6, f7⟩ := ctake_pre hl hc1 ht hs
  have HS := hid hs; have HL := hid hl; have HD := hid hd; have HT := hid htl; clear hs ht hd htl
  have hrn := takeN_shorter htk
  have hni : (nn : Int) ≤ 100000 := by omega
  have hri : ¬ (r.length : Int) < nn + 4 := by omega
  have hri2 : (r.length : Int) ≤ 1000000 := by have := HT.out; omega
  have hri3 : (nn : Int) ≤ r.length := by omega
  go_enter Try.func14, Try.ntmps14
  go_wp2_with fail
  refine (take_any (some ⟨b, o + 1, none⟩) t (n - 1) (c - 1) HT.out (by omega) (by unfold maxLen at *; omega) w HD.out).mono ?_
  rw [htk]
  rintro e w' ⟨⟨q, rfl⟩, A', c', rfl, g1, g2, hs'⟩
  obtain ⟨b2, o2, rfl, _, _, _⟩ := hs' (by rintro rfl; simp at hsh)
  have HS' := hid hs'; clear hs'
  generalize hrl : r.length = rl at *
  have HRL := hid hrl
  clear hrl
  have hge : (nn : Int) ≤ c' := by omega
  have hgt : nn < c' := by omega
  have hri4 : (nn : Int) + 4 ≤ rl := by omega
  clear hri
  have hgn : ¬ c' = nn := by omega
  go_wp2_with fail
  have hrn2 : rl ≤ n := by have := HT.out; omega
  have hd4 := HS'.out.drop nn
  rw [Nat.mul_one] at hd4
  have hr4 : ((r.drop nn).take 4).length = 4 := by rw [List.length_take, List.length_drop, HRL.out]; omega
  have hkk : (((167 : UInt8) :: t).take (n - (rl - nn))).length = n - (rl - nn) := by rw [List.length_take, HL.out]; omega
  have HSR := hid (hd4.take 4).bsl; have HD4 := hid hd4; have HR4 := hid hr4; have HK := hid hkk
  have HSB := hid (HS.out.take (n - (rl - nn))).bsl
  clear hd4 hr4 hkk
  have x1 : (4 : Int) ≤ ((c' - nn : Nat) : Int) := by omega
  have x2 : ((n - (rl - nn) : Nat) : Int) ≤ c := by omega
  have x3 : IntKind.i64.wrap ((n : Int) - ((rl - nn : Nat) : Int)) = ((n - (rl - nn) : Nat) : Int) := by rw [IntWalk.i64_in] <;> omega
  have x9 : IntKind.i64.wrap ((n - (rl - nn) : Nat) : Int) = ((n - (rl - nn) : Nat) : Int) := by rw [IntWalk.i64_in] <;> omega
  have x4 : (n : Int) - ((rl - nn : Nat) : Int) = ((n - (rl - nn) : Nat) : Int) := by omega
  have x5 : 4 < c' - nn ∨ c' - nn = 4 := by omega
  have x6 : nn ≤ rl := by omega
  have x7 : 4 ≤ rl - nn := by omega
  have x8 : (4 : Int) ≤ ((rl - nn : Nat) : Int) := by omega
  have X9 := hid (show n - (rl - nn) ≤ n by omega)
  have X10 := hid (show nn ≤ c' ∧ rl - nn ≤ c' - nn ∧ c' ≤ maxLen ∧ c' - nn ≤ maxLen from ⟨by omega, by omega, g2, by omega⟩)
  have X11 := hid (show r.length - nn = rl - nn by rw [HRL.out])
  go_quiet (fail)
  go_wp2_with fail
  clear hri3 hgt hgn hge hri4 g1
  generalize hk : n - (rl - nn) = k at *
  generalize c' - nn = c4 at *
  have HKN := hid hk; clear hk
  generalize hr4 : rl - nn = r4 at *
  have HR4L := hid hr4; clear hr4
  cases yes with
  | true =>
    refine reg_start (by kernel_rfl) fun w4 hHeld hz4 => ?_
    have hT := hHeld
    refine reg_rd 0 (v := ?_) rfl (by kernel_rfl) (by kernel_rfl) (by kernel_rfl) (fun _ _ _ h => h) (by rfl) (by assumption) ?_ ?_
    rotate_left
    · intro w hSw; go_simp; with_reducible rfl
    try simp only [Act.put, List.setIfInBounds_toArray, List.set_cons_zero, List.set_cons_succ]
    refine reg_rd 1 (v := ?_) rfl (by kernel_rfl) (by kernel_rfl) (by kernel_rfl) (fun _ _ _ h => h) (by rfl) (by assumption) ?_ ?_
    rotate_left
    · intro w hSw; go_simp; with_reducible rfl
    try simp only [Act.put, List.setIfInBounds_toArray, List.set_cons_zero, List.set_cons_succ]
    refine reg_rd 2 (v := ?_) rfl (by kernel_rfl) (by kernel_rfl) (by kernel_rfl) (fun _ _ _ h => h) (by rfl) (by assumption) ?_ ?_
    rotate_left
    · intro w hSw; go_simp; with_reducible rfl
    try simp only [Act.put, List.setIfInBounds_toArray, List.set_cons_zero, List.set_cons_succ]
    refine reg_rd 3 (v := ?_) rfl (by kernel_rfl) (by kernel_rfl) (by kernel_rfl) (fun _ _ _ h => h) (by rfl) (by assumption) ?_ ?_
    rotate_left
    · intro w hSw; go_simp; with_reducible rfl
    try simp only [Act.put, List.setIfInBounds_toArray, List.set_cons_zero, List.set_cons_succ]
    refine reg_rd 4 (v := ?_) rfl (by kernel_rfl) (by kernel_rfl) (by kernel_rfl) (fun _ _ _ h => h) (by rfl) (by assumption) ?_ ?_
    rotate_left
    · intro w hSw; go_simp; with_reducible rfl
    try simp only [Act.put, List.setIfInBounds_toArray, List.set_cons_zero, List.set_cons_succ]
    refine reg_rd 5 (v := ?_) rfl (by kernel_rfl) (by kernel_rfl) (by kernel_rfl) (fun _ _ _ h => h) (by rfl) (by assumption) ?_ ?_
    rotate_left
    · intro w hSw; go_simp; with_reducible rfl
    try simp only [Act.put, List.setIfInBounds_toArray, List.set_cons_zero, List.set_cons_succ]
    refine reg_rd 6 (v := ?_) rfl (by kernel_rfl) (by kernel_rfl) (by kernel_rfl) (fun _ _ _ h => h) (by rfl) (by assumption) ?_ ?_
    rotate_left
    · intro w hSw; go_simp; with_reducible rfl
    try simp only [Act.put, List.setIfInBounds_toArray, List.set_cons_zero, List.set_cons_succ]
    refine reg_rd 9 (v := ?_) rfl (by kernel_rfl) (by kernel_rfl) (by kernel_rfl) (fun _ _ _ h => h) (by rfl) (by assumption) ?_ ?_
    rotate_left
    · intro w hSw; go_simp; with_reducible rfl
    try simp only [Act.put, List.setIfInBounds_toArray, List.set_cons_zero, List.set_cons_succ]
    refine reg_rd 10 (v := ?_) rfl (by kernel_rfl) (by kernel_rfl) (by kernel_rfl) (fun _ _ _ h => h) (by rfl) (by assumption) ?_ ?_
    rotate_left
    · intro w hSw; go_simp; with_reducible rfl
    try simp only [Act.put, List.setIfInBounds_toArray, List.set_cons_zero, List.set_cons_succ]
    refine wpAnyH_ready (rs := [7]) (by kernel_rfl) (by simp) ?_
    refine reg_do1 rfl (by rfl) (fun K hK => ?_)
    go_simp
    first | (go_at_call 16; refine (sum_any (some ⟨b, o, none⟩) (((167 : UInt8) :: t).take k) k c HK.out (by omega) _ (Nat.le_refl _) (HSB.out.call (below_then (below_drewN (below_drewN (Below.refl _ _) _) _) hT))).mono ?_; rintro e wX ⟨rfl, hbX⟩; replace hT := below_then hT hbX) | (go_at_call 48; refine (four_ret (crcSum (((167 : UInt8) :: t).take k)) (crcSum_lt _) _).mono ?_; rintro e wX ⟨A4, rfl, s4, hbX⟩; replace hT := below_then hT hbX) | (go_at_call 47; refine (sequal_any A4 (some ⟨b2, o2 + nn, none⟩) (be 4 (crcSum (((167 : UInt8) :: t).take k))) ((r.drop nn).take 4) 4 4 4 c4 (be_length _ _) HR4.out (by decide) _ s4 (HSR.out.call (below_then (below_drewN (below_drewN (Below.refl _ _) _) _) hT))).mono ?_; rw [HY.out]; rintro e wX ⟨rfl, qX, rfl⟩; have hbX := below_drewN (Below.refl wX.heap.size wX) qX; replace hT := below_then hT hbX)
    go_wp2_with fail
    refine hK.out _ _ ?_ (fun hNext => ?_)
    · assumption
    clear hK K hHeld
    refine wpAnyH_base hNext.size hNext fun hHeld => ?_
    clear hNext
    try simp only [Act.put, List.setIfInBounds_toArray, List.set_cons_zero, List.set_cons_succ]
    refine wpAnyH_ready (rs := [8]) (by kernel_rfl) (by simp) ?_
    refine reg_do1 rfl (by rfl) (fun K hK => ?_)
    go_simp
    first | (go_at_call 16; refine (sum_any (some ⟨b, o, none⟩) (((167 : UInt8) :: t).take k) k c HK.out (by omega) _ (Nat.le_refl _) (HSB.out.call (below_then (below_drewN (below_drewN (Below.refl _ _) _) _) hT))).mono ?_; rintro e wX ⟨rfl, hbX⟩; replace hT := below_then hT hbX) | (go_at_call 48; refine (four_ret (crcSum (((167 : UInt8) :: t).take k)) (crcSum_lt _) _).mono ?_; rintro e wX ⟨A4, rfl, s4, hbX⟩; replace hT := below_then hT hbX) | (go_at_call 47; refine (sequal_any A4 (some ⟨b2, o2 + nn, none⟩) (be 4 (crcSum (((167 : UInt8) :: t).take k))) ((r.drop nn).take 4) 4 4 4 c4 (be_length _ _) HR4.out (by decide) _ s4 (HSR.out.call (below_then (below_drewN (below_drewN (Below.refl _ _) _) _) hT))).mono ?_; rw [HY.out]; rintro e wX ⟨rfl, qX, rfl⟩; have hbX := below_drewN (Below.refl wX.heap.size wX) qX; replace hT := below_then hT hbX)
    go_wp2_with fail
    refine hK.out _ _ ?_ (fun hNext => ?_)
    · assumption
    clear hK K hHeld
    refine wpAnyH_base hNext.size hNext fun hHeld => ?_
    clear hNext
    try simp only [Act.put, List.setIfInBounds_toArray, List.set_cons_zero, List.set_cons_succ]
    refine wpAnyH_ready (rs := [11]) (by kernel_rfl) (by simp) ?_
    refine reg_do1 rfl (by rfl) (fun K hK => ?_)
    go_simp
    first | (go_at_call 16; refine (sum_any (some ⟨b, o, none⟩) (((167 : UInt8) :: t).take k) k c HK.out (by omega) _ (Nat.le_refl _) (HSB.out.call (below_then (below_drewN (below_drewN (Below.refl _ _) _) _) hT))).mono ?_; rintro e wX ⟨rfl, hbX⟩; replace hT := below_then hT hbX) | (go_at_call 48; refine (four_ret (crcSum (((167 : UInt8) :: t).take k)) (crcSum_lt _) _).mono ?_; rintro e wX ⟨A4, rfl, s4, hbX⟩; replace hT := below_then hT hbX) | (go_at_call 47; refine (sequal_any A4 (some ⟨b2, o2 + nn, none⟩) (be 4 (crcSum (((167 : UInt8) :: t).take k))) ((r.drop nn).take 4) 4 4 4 c4 (be_length _ _) HR4.out (by decide) _ s4 (HSR.out.call (below_then (below_drewN (below_drewN (Below.refl _ _) _) _) hT))).mono ?_; rw [HY.out]; rintro e wX ⟨rfl, qX, rfl⟩; have hbX := below_drewN (Below.refl wX.heap.size wX) qX; replace hT := below_then hT hbX)
    go_wp2_with fail
    refine hK.out _ _ ?_ (fun hNext => ?_)
    · assumption
    clear hK K hHeld
    refine wpAnyH_base hNext.size hNext fun hHeld => ?_
    clear hNext
    try simp only [Act.put, List.setIfInBounds_toArray, List.set_cons_zero, List.set_cons_succ]
    refine reg_rd 12 (v := ?_) rfl (by kernel_rfl) (by kernel_rfl) (by kernel_rfl) (fun _ _ _ h => h) (by rfl) (by assumption) ?_ ?_
    rotate_left
    · intro w hSw; go_simp; with_reducible rfl
    try simp only [Act.put, List.setIfInBounds_toArray, List.set_cons_zero, List.set_cons_succ]
    refine wpAnyH_done (by kernel_rfl) ?_ _
    go_wp2_with fail
    have hR : R = .ok (r.take nn, r.drop (nn + 4)) := HRR.out
    have l1 : (r.take nn).length = nn := by rw [List.length_take, HRL.out]; omega
    have l2 : (r.drop (nn + 4)).length = r4 - 4 := by rw [List.length_drop, HRL.out, ← HR4L.out]; omega
    have L1 := hid l1; have L2 := hid l2; have HR' := hid hR; clear l1 l2 hR
    have hd := HS'.out.drop (nn + 4)
    rw [Nat.mul_one, ← Nat.add_assoc] at hd
    have HD5 := hid hd; clear hd
    rcases x5 with x5 | x5
    · have x6 : ¬ c4 = 4 := by omega
      go_quiet (fail)
      go_wp2_with fail
      go_ret3
      rw [HR'.out]
      exact takeFZ_ok (below_drewN (below_then (below_drewN (below_drewN (Below.refl _ _) _) _) hT) _) (by rw [L1.out, L2.out]; rfl) ⟨by rw [L1.out]; exact X10.out.1, X10.out.2.2.1, by rw [L2.out]; have := X10.out.2.1; omega, by have := X10.out.2.2.2; omega⟩ (HS'.out.take nn) HD5.out
    · subst x5
      have hr44 : r4 = 4 := by have := X10.out.2.1; omega
      subst hr44
      have hnil : r.drop (nn + 4) = [] := List.length_eq_zero_iff.1 L2.out
      have HNIL := hid hnil; clear hnil
      go_quiet (fail)
      go_wp2_with fail
      go_ret3
      rw [HR'.out]
      exact takeFZ_ok (below_drewN (below_then (below_drewN (below_drewN (Below.refl _ _) _) _) hT) _) (by rw [L1.out, L2.out]; rfl) ⟨by rw [L1.out]; exact X10.out.1, X10.out.2.2.1, by rw [L2.out]; omega, Nat.zero_le _⟩ (HS'.out.take nn) (A2 := some ⟨b2, o2 + nn, none⟩) (by rw [HNIL.out]; exact SlZ.nil)
  | false =>
    refine reg_start (by kernel_rfl) fun w4 hHeld hz4 => ?_
    have hT := hHeld
    refine reg_rd 0 (v := ?_) rfl (by kernel_rfl) (by kernel_rfl) (by kernel_rfl) (fun _ _ _ h => h) (by rfl) (by assumption) ?_ ?_
    rotate_left
    · intro w hSw; go_simp; with_reducible rfl
    try simp only [Act.put, List.setIfInBounds_toArray, List.set_cons_zero, List.set_cons_succ]
    refine reg_rd 1 (v := ?_) rfl (by kernel_rfl) (by kernel_rfl) (by kernel_rfl) (fun _ _ _ h => h) (by rfl) (by assumption) ?_ ?_
    rotate_left
    · intro w hSw; go_simp; with_reducible rfl
    try simp only [Act.put, List.setIfInBounds_toArray, List.set_cons_zero, List.set_cons_succ]
    refine reg_rd 2 (v := ?_) rfl (by kernel_rfl) (by kernel_rfl) (by kernel_rfl) (fun _ _ _ h => h) (by rfl) (by assumption) ?_ ?_
    rotate_left
    · intro w hSw; go_simp; with_reducible rfl
    try simp only [Act.put, List.setIfInBounds_toArray, List.set_cons_zero, List.set_cons_succ]
    refine reg_rd 3 (v := ?_) rfl (by kernel_rfl) (by kernel_rfl) (by kernel_rfl) (fun _ _ _ h => h) (by rfl) (by assumption) ?_ ?_
    rotate_left
    · intro w hSw; go_simp; with_reducible rfl
    try simp only [Act.put, List.setIfInBounds_toArray, List.set_cons_zero, List.set_cons_succ]
    refine reg_rd 4 (v := ?_) rfl (by kernel_rfl) (by kernel_rfl) (by kernel_rfl) (fun _ _ _ h => h) (by rfl) (by assumption) ?_ ?_
    rotate_left
    · intro w hSw; go_simp; with_reducible rfl
    try simp only [Act.put, List.setIfInBounds_toArray, List.set_cons_zero, List.set_cons_succ]
    refine reg_rd 5 (v := ?_) rfl (by kernel_rfl) (by kernel_rfl) (by kernel_rfl) (fun _ _ _ h => h) (by rfl) (by assumption) ?_ ?_
    rotate_left
    · intro w hSw; go_simp; with_reducible rfl
    try simp only [Act.put, List.setIfInBounds_toArray, List.set_cons_zero, List.set_cons_succ]
    refine reg_rd 6 (v := ?_) rfl (by kernel_rfl) (by kernel_rfl) (by kernel_rfl) (fun _ _ _ h => h) (by rfl) (by assumption) ?_ ?_
    rotate_left
    · intro w hSw; go_simp; with_reducible rfl
    try simp only [Act.put, List.setIfInBounds_toArray, List.set_cons_zero, List.set_cons_succ]
    refine reg_rd 9 (v := ?_) rfl (by kernel_rfl) (by kernel_rfl) (by kernel_rfl) (fun _ _ _ h => h) (by rfl) (by assumption) ?_ ?_
    rotate_left
    · intro w hSw; go_simp; with_reducible rfl
    try simp only [Act.put, List.setIfInBounds_toArray, List.set_cons_zero, List.set_cons_succ]
    refine reg_rd 10 (v := ?_) rfl (by kernel_rfl) (by kernel_rfl) (by kernel_rfl) (fun _ _ _ h => h) (by rfl) (by assumption) ?_ ?_
    rotate_left
    · intro w hSw; go_simp; with_reducible rfl
    try simp only [Act.put, List.setIfInBounds_toArray, List.set_cons_zero, List.set_cons_succ]
    refine wpAnyH_ready (rs := [7]) (by kernel_rfl) (by simp) ?_
    refine reg_do1 rfl (by rfl) (fun K hK => ?_)
    go_simp
    first | (go_at_call 16; refine (sum_any (some ⟨b, o, none⟩) (((167 : UInt8) :: t).take k) k c HK.out (by omega) _ (Nat.le_refl _) (HSB.out.call (below_then (below_drewN (below_drewN (Below.refl _ _) _) _) hT))).mono ?_; rintro e wX ⟨rfl, hbX⟩; replace hT := below_then hT hbX) | (go_at_call 48; refine (four_ret (crcSum (((167 : UInt8) :: t).take k)) (crcSum_lt _) _).mono ?_; rintro e wX ⟨A4, rfl, s4, hbX⟩; replace hT := below_then hT hbX) | (go_at_call 47; refine (sequal_any A4 (some ⟨b2, o2 + nn, none⟩) (be 4 (crcSum (((167 : UInt8) :: t).take k))) ((r.drop nn).take 4) 4 4 4 c4 (be_length _ _) HR4.out (by decide) _ s4 (HSR.out.call (below_then (below_drewN (below_drewN (Below.refl _ _) _) _) hT))).mono ?_; rw [HY.out]; rintro e wX ⟨rfl, qX, rfl⟩; have hbX := below_drewN (Below.refl wX.heap.size wX) qX; replace hT := below_then hT hbX)
    go_wp2_with fail
    refine hK.out _ _ ?_ (fun hNext => ?_)
    · assumption
    clear hK K hHeld
    refine wpAnyH_base hNext.size hNext fun hHeld => ?_
    clear hNext
    try simp only [Act.put, List.setIfInBounds_toArray, List.set_cons_zero, List.set_cons_succ]
    refine wpAnyH_ready (rs := [8]) (by kernel_rfl) (by simp) ?_
    refine reg_do1 rfl (by rfl) (fun K hK => ?_)
    go_simp
    first | (go_at_call 16; refine (sum_any (some ⟨b, o, none⟩) (((167 : UInt8) :: t).take k) k c HK.out (by omega) _ (Nat.le_refl _) (HSB.out.call (below_then (below_drewN (below_drewN (Below.refl _ _) _) _) hT))).mono ?_; rintro e wX ⟨rfl, hbX⟩; replace hT := below_then hT hbX) | (go_at_call 48; refine (four_ret (crcSum (((167 : UInt8) :: t).take k)) (crcSum_lt _) _).mono ?_; rintro e wX ⟨A4, rfl, s4, hbX⟩; replace hT := below_then hT hbX) | (go_at_call 47; refine (sequal_any A4 (some ⟨b2, o2 + nn, none⟩) (be 4 (crcSum (((167 : UInt8) :: t).take k))) ((r.drop nn).take 4) 4 4 4 c4 (be_length _ _) HR4.out (by decide) _ s4 (HSR.out.call (below_then (below_drewN (below_drewN (Below.refl _ _) _) _) hT))).mono ?_; rw [HY.out]; rintro e wX ⟨rfl, qX, rfl⟩; have hbX := below_drewN (Below.refl wX.heap.size wX) qX; replace hT := below_then hT hbX)
    go_wp2_with fail
    refine hK.out _ _ ?_ (fun hNext => ?_)
    · assumption
    clear hK K hHeld
    refine wpAnyH_base hNext.size hNext fun hHeld => ?_
    clear hNext
    try simp only [Act.put, List.setIfInBounds_toArray, List.set_cons_zero, List.set_cons_succ]
    refine wpAnyH_ready (rs := [11]) (by kernel_rfl) (by simp) ?_
    refine reg_do1 rfl (by rfl) (fun K hK => ?_)
    go_simp
    first | (go_at_call 16; refine (sum_any (some ⟨b, o, none⟩) (((167 : UInt8) :: t).take k) k c HK.out (by omega) _ (Nat.le_refl _) (HSB.out.call (below_then (below_drewN (below_drewN (Below.refl _ _) _) _) hT))).mono ?_; rintro e wX ⟨rfl, hbX⟩; replace hT := below_then hT hbX) | (go_at_call 48; refine (four_ret (crcSum (((167 : UInt8) :: t).take k)) (crcSum_lt _) _).mono ?_; rintro e wX ⟨A4, rfl, s4, hbX⟩; replace hT := below_then hT hbX) | (go_at_call 47; refine (sequal_any A4 (some ⟨b2, o2 + nn, none⟩) (be 4 (crcSum (((167 : UInt8) :: t).take k))) ((r.drop nn).take 4) 4 4 4 c4 (be_length _ _) HR4.out (by decide) _ s4 (HSR.out.call (below_then (below_drewN (below_drewN (Below.refl _ _) _) _) hT))).mono ?_; rw [HY.out]; rintro e wX ⟨rfl, qX, rfl⟩; have hbX := below_drewN (Below.refl wX.heap.size wX) qX; replace hT := below_then hT hbX)
    go_wp2_with fail
    refine hK.out _ _ ?_ (fun hNext => ?_)
    · assumption
    clear hK K hHeld
    refine wpAnyH_base hNext.size hNext fun hHeld => ?_
    clear hNext
    try simp only [Act.put, List.setIfInBounds_toArray, List.set_cons_zero, List.set_cons_succ]
    refine reg_rd 12 (v := ?_) rfl (by kernel_rfl) (by kernel_rfl) (by kernel_rfl) (fun _ _ _ h => h) (by rfl) (by assumption) ?_ ?_
    rotate_left
    · intro w hSw; go_simp; with_reducible rfl
    try simp only [Act.put, List.setIfInBounds_toArray, List.set_cons_zero, List.set_cons_succ]
    refine wpAnyH_done (by kernel_rfl) ?_ _
    go_wp2_with fail
    go_ret3
    have hR : R = .error 4 := HRR.out
    rw [hR]
    exact ⟨(below_then (below_drewN (below_drewN (Below.refl _ _) _) _) hT), rfl⟩
theorem ctake_any (A : Option Addr) (b : Bytes) (n c : Nat) (hl : b.length = n) (hn : n ≤ 1000000) (hc1 : n ≤ c) (hc2 : c ≤ maxLen) (Z : Nat → Prop) (w : World) (hs : SlZ byteZ 1 Z w A b) :
    Calls Try.prog 14 #[.slice A n c] w (TakeFZ Z w (takeF b)) := by
  match b, hl, hs with
  | [], hl, hs =>
    subst hl
    exact ctake_nil A c Z w
  | m :: t, hl, hs =>
    by_cases hm : m = 167
    · subst hm
      match t, hl, hs with
      | [], hl, hs =>
        subst hl
        exact ctake_one A c hc1 hc2 Z w hs
      | t0 :: t', hl, hs =>
        generalize ht' : t0 :: t' = t at *
        have htn : t ≠ [] := by rw [← ht']; simp
        clear ht'
        cases htk : takeN t with
        | error z =>
          rw [show takeF (167 :: t) = .error z by simp [takeF, htk]]
          exact ctake_err A t n c z hl hc1 hc2 htn htk Z w hs
        | ok p =>
          obtain ⟨nn, r⟩ := p
          by_cases h1 : 100000 < nn
          · rw [show takeF (167 :: t) = .error 5 by simp [takeF, htk, h1]]
            exact ctake_large A t r n c nn hl hc1 hc2 htn htk h1 Z w hs
          · by_cases h2 : r.length < nn + 4
            · rw [show takeF (167 :: t) = .error 2 by simp [takeF, htk, h1, h2]]
              exact ctake_short A t r n c nn hl hc1 hc2 htn htk (by omega) h2 Z w hs
            · refine ctake_rest A t r n c nn hl hn hc1 hc2 htn htk (by omega) (by omega) _ _ rfl ?_ Z w hs
              unfold takeF
              simp only [ne_eq, not_true_eq_false, if_false, htk, if_neg h1, if_neg h2, hl]
              by_cases h3 : be 4 (crcSum (((167 : UInt8) :: t).take (n - (r.length - nn)))) = (r.drop nn).take 4
              · rw [if_pos h3, decide_eq_true h3]; rfl
              · rw [if_neg h3, decide_eq_false h3]; rfl
    · rw [show takeF (m :: t) = .error 3 by simp [takeF, hm]]
      exact ctake_mark A m t n c hl hm Z w hs
end Go.Proofs.Ytcafahcmalfepaa
/-
  The walks of the reference of octet: Size, Put, Int, Text, List.
-/
namespace Go.Proofs.Ytcafahcmalfepaa
open Go.RowKit
theorem byteV_at {z : Int} {k B : Nat} {w : World} (h : z = (k % 256 : Nat)) : byteR.at_ B w [.int .u8 z] (UInt8.ofNat k) := by rw [byteV_of h]; exact (rfl : _ = _)
theorem rsize_any (n : Nat) (hn : n < 18446744073709551616) (w : World) :
    Calls Try.prog 55 #[.int .u64 n] w fun e w' => e = .returned (.int .i64 (1 + nb n : Nat)) ∧ w = w' := by
  have h8 := nb_le n hn
  go_enter Try.func55, Try.ntmps55
  go_wp2_with fail
  go_loop [0, 3] (fun x q => ∃ y j : Nat, y < 18446744073709551616 ∧ x = .int .u64 y ∧ q = .int .i64 (1 + j : Nat) ∧ j + nb y = nb n) (fun x _ => (intOf x).toNat)
  case atStart => exact ⟨n, 0, hn, rfl, rfl, by omega⟩
  case round =>
    obtain ⟨y, j, hy, rfl, rfl, hj⟩ := hrel
    by_cases h0 : y = 0
    · subst h0
      rw [nb_zero] at hj
      have HJ := hid hj; clear hj
      go_wp2_with fail
      go_ret
      exact ⟨ret_int (by have := HJ.out; omega), rfl⟩
    · have hs := nb_step y h0 hy
      have hj8 : j ≤ 8 := by omega
      have h1 : 0 < y := by omega
      have HS := hid hs; have HJ := hid hj; clear hs hj
      go_wp2_with fail
      go_round
      case rel => exact ⟨y / 256, j + 1, by omega, by go_num, by go_num, by have := HS.out; have := HJ.out; omega⟩
      case measure => simp [intOf]; omega

set_option maxHeartbeats 800000 in
theorem rput_any (A : Option Addr) (b : Bytes) (m c n : Nat) (hm : b.length = m) (hmc : m ≤ c) (hc : c ≤ maxLen) (hn : n < 18446744073709551616) (hb : m ≤ 1000000) (w : World) (hs : Sl byteR 1 w.heap.size w A b) :
    Calls Try.prog 53 #[.slice A m c, .int .u64 n] w (RetB w (b ++ encN n)) := by
  have h8 := nb_le n hn
  have hr := sl_bytes hs hm
  have hk8 : 1 + (nb n : Int) - 1 = (nb n % 256 : Nat) := by omega
  have hl1 : (([] : Bytes).length + b.length) * 1 ≤ 140737488355328 := by simp; omega
  have hl2 : ([] : Bytes).length + b.length ≤ maxLen := by simp [maxLen]; omega
  have hl3 : (([] ++ b).length + [UInt8.ofNat (nb n)].length) * 1 ≤ 140737488355328 := by simp; omega
  have hl4 : ([] ++ b).length + [UInt8.ofNat (nb n)].length ≤ maxLen := by simp [maxLen]; omega
  have HK := hid hk8; have HL1 := hid hl1; have HL2 := hid hl2; have HL3 := hid hl3; have HL4 := hid hl4; have HR := hid hr; have HM := hid hm
  clear hk8 hl1 hl2 hl3 hl4 hr hs hm
  go_enter Try.func53, Try.ntmps53
  go_wp2_with (first
    | (at_builtin; refine wpl_app0 (W := w) (R := byteR) (B := 0) rfl (.tmp 10) (.tmp 11) _ rfl tabB _ [] b rfl (Own.made w (Nat.le_refl _)) (Nat.zero_le _) (below_new _ _) A m c (b.map byteV) rfl HM.out (HR.out.alloc _) (cs_map _ _ _) (bytes_oneCell _) HL1.out HL2.out ?_; intro v0 w0 hown0 hbl0 _)
    | (go_at_call 55; refine (rsize_any n hn _).mono ?_; rintro e w' ⟨rfl, rfl⟩)
    | (at_builtin; refine wpl_one0 (W := w) (R := byteR) (B := 0) rfl (.tmp 16) (.tmp 19) _ rfl tabB _ ([] ++ b) (UInt8.ofNat (nb n)) rfl hown0 (Nat.zero_le _) hbl0 rfl rfl (byteV_at HK.out) (bytes1 _) HL3.out HL4.out ?_; intro v1 w1 hown1 hbl1 _))
  have HO := hid hown1; clear hown0 hown1 hbl0
  go_loopw [5, 7] (fun v i wr => ∃ q : Nat, q ≤ nb n ∧ i = .int .i64 ((q : Int) - 1) ∧ Own byteR 1 5 w.heap.size 0 wr v ((b ++ [UInt8.ofNat (nb n)]) ++ (be (nb n) n).take (nb n - q)) ∧ Below w.heap.size w wr)
    (fun _ i _ => (intOf i + 1).toNat)
  case atStart => exact ⟨nb n, Nat.le_refl _, by go_num, by simpa using HO.out, hbl1⟩
  case round =>
    obtain ⟨q, hq, rfl, hown, hbr⟩ := hrel
    cases q with
    | zero =>
      have HO2 := hid hown; clear hown
      go_wp2
      go_ret
      refine ⟨_, rfl, ?_, hbr⟩
      have := HO2.out
      rw [Nat.sub_zero, List.take_of_length_le (by rw [be_length]; omega)] at this
      simpa [encN] using this
    | succ p =>
      rw [show ((p + 1 : Nat) : Int) - 1 = (p : Int) by omega]
      have HO2 := hid hown; clear hown
      have hl : ((b ++ [UInt8.ofNat (nb n)]) ++ (be (nb n) n).take (nb n - (p + 1))).length ≤ 1000010 := by
        have hm' := HM.out
        simp only [List.length_append, List.length_cons, List.length_nil]
        have : (List.take (nb n - (p + 1)) (be (nb n) n)).length ≤ nb n := by rw [List.length_take, be_length]; omega
        omega
      have ht := be_take (nb n) n (nb n - (p + 1)) (by omega)
      rw [show nb n - 1 - (nb n - (p + 1)) = p by omega, show nb n - (p + 1) + 1 = nb n - p by omega] at ht
      generalize hL : (b ++ [UInt8.ofNat (nb n)]) ++ (be (nb n) n).take (nb n - (p + 1)) = L at *
      have HT := hid ht; have HL := hid hL; have HN := hid hl; clear ht hL hl
      go_wp2_with fail
      go_loop [8, 9] (fun x j => ∃ q : Nat, q ≤ p ∧ j = .int .i64 q ∧ x = .int .u64 (n / 256 ^ q : Nat)) (fun _ j => p - (intOf j).toNat)
      case atStart => exact ⟨0, Nat.zero_le _, rfl, by simp⟩
      case round =>
        obtain ⟨q, hqp, rfl, rfl⟩ := hrel
        have hy : n / 256 ^ q ≤ n := Nat.div_le_self _ _
        generalize hyq : n / 256 ^ q = y at *
        have HY := hid hyq; clear hyq
        by_cases hlt : q < p
        · go_wp2_with fail
          go_round
          case rel => exact ⟨q + 1, by omega, by go_num, by rw [Nat.pow_succ, ← Nat.div_div_eq_div_mul, HY.out]; go_num⟩
          case measure => simp [intOf]; omega
        · have hpq : q = p := by omega
          have HPQ := hid hpq; clear hpq
          have hyz : (y : Int) % 256 = (y % 256 : Nat) := by omega
          have HYZ := hid hyz; clear hyz
          go_wp2_with (first
            | (at_builtin; refine wpl_one0 (W := w) (R := byteR) (B := 0) rfl (.tmp 35) (.tmp 39) _ rfl tabB _ L (UInt8.ofNat y) rfl HO2.out (Nat.zero_le _) hbr rfl rfl (byteV_at HYZ.out) (bytes1 _) (by have := HN.out; omega) (by have := HN.out; simp [maxLen]; omega) ?_; intro v2 w2 hown2 hbl3 _))
          have HO3 := hid hown2; clear hown2
          go_roundw
          case rel =>
            refine ⟨p, by omega, by go_num, ?_, hbl3⟩
            have := HO3.out
            rw [← HL.out, List.append_assoc, ← HY.out, HPQ.out, ← HT.out] at this
            exact this
          case measure => simp [intOf]
end Go.Proofs.Ytcafahcmalfepaa
/-
  The walks of the reference of crc: sums, Long, Frame.
-/
namespace Go.Proofs.Ytcafahcmalfepaa
open Go.RowKit Go.Deep
set_option maxHeartbeats 1000000 in
set_option maxRecDepth 20000 in
theorem rmore_any (s : Nat) (hs32 : s < 4294967296) (A : Option Addr) (b : Bytes) (n c : Nat) (hm : b.length = n) (hn : n ≤ 9223372036854775807) (w : World) {B : Nat} (hB : B ≤ w.heap.size) (hs : Sl byteR 1 B w A b) :
    Calls Try.prog 19 #[.int .u32 s, .slice A n c] w fun e w' => e = .returned (.int .u32 (crcMore s b : Nat)) ∧ w' = w := by
  have HS := hid hs; have HM := hid hm; clear hs hm
  have hn63 : (n : Int) ≤ 9223372036854775807 := by omega
  have hs0 : s ^^^ 4294967295 < 4294967296 := xor32 hs32 (by decide)
  have hones := ones_u32' s hs32
  go_enter Try.func19, Try.ntmps19
  go_wp2_with fail
  go_loop [5, 6] (fun x i => ∃ k : Nat, k ≤ n ∧ i = .int .i64 k ∧ x = .int .u32 (crcRun (s ^^^ 4294967295) (b.take k) : Nat)) (fun _ i => n - (intOf i).toNat)
  case atStart => exact ⟨0, Nat.zero_le _, rfl, rfl⟩
  case round =>
    obtain ⟨k, hk, rfl, rfl⟩ := hrel
    by_cases hlt : k < n
    · obtain ⟨x, hx⟩ : ∃ x, b[k]? = some x := ⟨_, List.getElem?_eq_getElem (by rw [HM.out]; exact hlt)⟩
      obtain ⟨b0, o, v, rfl, hb0, hv, hcell⟩ := HS.out.get1 hx
      rw [byte_at hv] at hcell
      have hr := crcRun_take b (s ^^^ 4294967295) k x hx
      have hlt2 := crcRun_lt hs0 (b.take k)
      have HR := hid hr; clear hr hx hv
      generalize crcRun (s ^^^ 4294967295) (b.take k) = z at *
      have hbyte := bitRun_byte x z
      have hxl := x.toNat_lt
      generalize x.toNat = cn at *
      have HBY := hid hbyte; clear hbyte
      go_wp2_with fail
      go_loop [5, 7] (fun y i => ∃ q : Nat, q ≤ 8 ∧ i = .int .i64 q ∧ y = .int .u32 (bitRun cn q z : Nat)) (fun _ i => 8 - (intOf i).toNat)
      case atStart => exact ⟨0, by omega, rfl, rfl⟩
      case round =>
        obtain ⟨q, hq, rfl, rfl⟩ := hrel
        have hyl := bitRun_lt cn hlt2 q
        have hst : bitRun cn (q + 1) z = bitStep cn q (bitRun cn q z) := rfl
        have HST := hid hst; clear hst
        by_cases hq8 : q < 8
        · generalize bitRun cn q z = y at *
          have hcast : ((cn : Int) / 2 ^ q % 2) = ((cn / 2 ^ q % 2 : Nat) : Int) := by
            rw [Int.natCast_emod, Int.natCast_ediv]; simp
          by_cases hbit : cn / 2 ^ q % 2 = y % 2
          · have hb1 : ((cn : Int) / 2 ^ q % 2 != (y : Int) % 2) = false := by rw [hcast, hbit]; simp
            have hres : bitStep cn q y = y / 2 := by unfold bitStep; rw [if_pos hbit, Nat.xor_zero]
            have HRES := hid hres; clear hres hcast hbit
            go_wp2_with fail
            go_round
            case rel => exact ⟨q + 1, by omega, by go_num, by rw [HST.out, HRES.out]; go_num⟩
            case measure => simp [intOf]; omega
          · have hb1 : ((cn : Int) / 2 ^ q % 2 != (y : Int) % 2) = true := by
              rw [hcast]; simp only [bne_iff_ne, ne_eq]; omega
            have hres : bits .xor .u32 ((y : Int) / 2) 2197175160 = (bitStep cn q y : Nat) := by
              unfold bitStep
              rw [if_neg hbit, show ((y : Int) / 2) = ((y / 2 : Nat) : Int) by omega]
              exact u32_xor_nat (y / 2) 2197175160 (by omega) (by omega)
            have HRES := hid hres; clear hres hcast hbit
            go_wp2_with fail
            go_round
            case rel => exact ⟨q + 1, by omega, by go_num, by rw [HST.out, HRES.out]⟩
            case measure => simp [intOf]; omega
        · obtain rfl : q = 8 := by omega
          rw [HBY.out]
          go_wp2_with fail
          go_round
          case rel => exact ⟨k + 1, by omega, by go_num, by rw [HR.out]⟩
          case measure => simp [intOf]; omega
    · obtain rfl : k = n := by omega
      rw [List.take_of_length_le (by rw [HM.out]; omega)]
      have hz := crcRun_lt hs0 b
      have hones := ones_u32' _ hz
      go_wp2_with fail
      go_ret
      exact ⟨by first | rfl | (rw [hones]; rfl), rfl⟩
theorem rsum_any (A : Option Addr) (b : Bytes) (n c : Nat) (hm : b.length = n) (hn : n ≤ 9223372036854775807) (w : World) {B : Nat} (hB : B ≤ w.heap.size) (hs : Sl byteR 1 B w A b) :
    Calls Try.prog 17 #[.slice A n c] w fun e w' => e = .returned (.int .u32 (crcSum b : Nat)) ∧ w' = w := by
  have h := rmore_any 0 (by decide) A b n c hm hn w hB hs
  go_enter Try.func17, Try.ntmps17
  go_wp2_with fail
  refine h.mono ?_
  rintro e w1 ⟨rfl, rfl⟩
  go_wp2_with fail
  go_ret
  exact ⟨rfl, rfl⟩
theorem rlong_any (n : Nat) (hn : n ≤ 1000000) (w : World) :
    Calls Try.prog 23 #[.int .i64 n] w fun e w' => e = .returned (.int .i64 (frLong n : Nat)) ∧ Below w.heap.size w w' := by
  have h0 : (0 : Int) ≤ n := by omega
  have hn2 : (n : Int) ≤ 1000000 := by omega
  have h8 := nb_le n (by omega)
  go_enter Try.func23, Try.ntmps23
  go_wp2_with fail
  refine (rsize_any n (by omega) _).mono ?_
  rintro e w' ⟨rfl, rfl⟩
  go_wp2_with fail
  go_ret
  exact ⟨by first | rfl | (unfold frLong; go_num), Below.refl _ _⟩
theorem rdc_row (w : World) (cs : List Value) (t : TypeId) {n : Nat} (hn : cs.length = n) : RdC (w.alloc (.cells cs.toArray t)) 1 (some ⟨w.heap.size, 0, none⟩) n cs := by
  subst hn
  exact ⟨by simp, fun _ => (rdc_new (k := cs.length) w cs t rfl).2 Nat.one_pos⟩
set_option maxHeartbeats 1000000 in
theorem rframe_any (A1 : Option Addr) (b : Bytes) (n1 c1 : Nat) (e1 : b.length = n1) (g1 : n1 ≤ c1) (m1 : c1 ≤ maxLen) (z1 : n1 ≤ 900000) (A2 : Option Addr) (x : Bytes) (n2 c2 : Nat) (e2 : x.length = n2) (g2 : n2 ≤ c2) (m2 : c2 ≤ maxLen) (z2 : n2 ≤ 200000) (w : World)
    (hs1 : Sl byteR 1 w.heap.size w A1 b) (hs2 : Sl byteR 1 w.heap.size w A2 x) :
    Calls Try.prog 21 #[.slice A1 n1 c1, .slice A2 n2 c2] w (RetB w (b ++ fr x)) := by
  have hl := frB_length x
  have hnb := nb_le n2 (by omega)
  rw [e2] at hl
  have HS1 := hid hs1; have HS2 := hid hs2; have E1 := hid e1; have E2 := hid e2; have G1 := hid (And.intro g1 m1); clear hs1 hs2 e1 g1 m1
  have h0 : (n2 : Int) ≤ 200000 := by omega
  go_enter Try.func21, Try.ntmps21
  go_wp2_with fail
  refine (rput_any (some ⟨w.heap.size, 0, none⟩) [167] 1 1 n2 rfl (Nat.le_refl _) (by decide) (by omega) (by omega) _ (slnew [167] 5 rfl)).mono ?_
  rintro e w1 ⟨v, rfl, hown, hb1⟩
  have H1 := hid (below_then (below_new w (.cells ([167].map byteV).toArray 5)) hb1)
  have HO := hid hown; clear hown
  have HB1 := hid hb1; clear hb1
  have hl1 : (([167] ++ encN n2).length + x.length) * 1 ≤ 140737488355328 := by simp [encN_length]; omega
  have hl2 : ([167] ++ encN n2).length + x.length ≤ maxLen := by simp [encN_length, maxLen]; omega
  have HL1 := hid hl1; have HL2 := hid hl2; clear hl1 hl2
  have hfb : ([167] ++ encN n2) ++ x = frB x := by unfold frB; rw [E2.out]; simp
  have HFB := hid hfb; clear hfb
  obtain ⟨m, hm⟩ : ∃ m, (frB x).length = m := ⟨_, rfl⟩
  have hm2 : m ≤ 300000 := by omega
  have HM := hid hm; clear hm hl
  go_wp2_with (at_builtin; refine wpl_app0 (W := w.alloc (.cells ([167].map byteV).toArray 5)) (R := byteR) (B := 0) rfl (.tmp 13) (.tmp 14) _ rfl tabB _ ([167] ++ encN n2) x rfl HO.out (Nat.zero_le _) HB1.out A2 n2 c2 (x.map byteV) rfl E2.out (sl_bytes (HS2.out.below H1.out) E2.out) (cs_map _ _ _) (bytes_oneCell _) HL1.out HL2.out ?_; intro v2 w2 hown2 hbl2 _; rw [HFB.out] at hown2; obtain ⟨Af, cf, hAf⟩ := hown2.form2 HM.out; subst hAf)
  have H2 := hid (below_then (below_new w (.cells ([167].map byteV).toArray 5)) hbl2)
  have HO2 := hid (hown2.low (base' := w.heap.size) (by simp)); clear hown2 hbl2
  obtain ⟨Af', cf', he, gf, mf, hsf⟩ := HO2.out.len (Nat.zero_le _) HM.out
  simp only [Value.slice.injEq, true_and] at he
  obtain ⟨rfl, rfl⟩ := he
  have HF := hid hsf; clear hsf
  refine (rsum_any Af (frB x) m cf HM.out (by omega) w2 (Nat.le_refl _) HF.out).mono ?_
  rintro e w2' ⟨rfl, hw⟩
  subst hw
  have hs32 := crcSum_lt (frB x)
  have h4 := four_cells (crcSum (frB x))
  have hfr : frB x ++ be 4 (crcSum (frB x)) = fr x := rfl
  rw [show (crcSum (frB x) : Int) / 16777216 % 256 = (crcSum (frB x) : Int) / 16777216 by omega] at h4
  have hbl : (be 4 (crcSum (frB x))).length = 4 := be_length _ _
  have HFR := hid hfr; have H4 := hid h4; have HBL := hid hbl; clear hfr h4 hbl
  generalize be 4 (crcSum (frB x)) = s4 at *
  generalize crcSum (frB x) = s at *
  have hl3 : ((frB x).length + s4.length) * 1 ≤ 140737488355328 := by rw [HM.out, HBL.out]; omega
  have hl4 : (frB x).length + s4.length ≤ maxLen := by rw [HM.out, HBL.out]; unfold maxLen; omega
  have hfl : (fr x).length = m + 4 := by rw [← HFR.out, List.length_append, HM.out, HBL.out]
  have hl5 : (([] : Bytes).length + b.length) * 1 ≤ 140737488355328 := by rw [E1.out]; simp; omega
  have hl6 : ([] : Bytes).length + b.length ≤ maxLen := by rw [E1.out]; simp [maxLen]; omega
  have hl7 : (([] ++ b).length + (fr x).length) * 1 ≤ 140737488355328 := by rw [hfl, List.nil_append, E1.out]; omega
  have hl8 : ([] ++ b).length + (fr x).length ≤ maxLen := by rw [hfl, List.nil_append, E1.out]; unfold maxLen; omega
  have HL3 := hid hl3; have HL4 := hid hl4; have HL5 := hid hl5; have HL6 := hid hl6; have HL7 := hid hl7; have HL8 := hid hl8; have HFL := hid hfl; clear hl3 hl4 hl5 hl6 hl7 hl8 hfl
  go_wp2_with (first
    | (at_builtin; refine wpl_app0 (W := w) (R := byteR) (B := 0) rfl (.tmp 18) (.tmp 30) _ rfl tabB _ (frB x) s4 rfl (HO2.out.alloc (Nat.zero_le _) _) (Nat.zero_le _) (below_alloc H2.out _) (some ⟨w2'.heap.size, 0, none⟩) 4 4 [.int .u8 ((s : Int) / 16777216), .int .u8 ((s : Int) / 65536 % 256), .int .u8 ((s : Int) / 256 % 256), .int .u8 ((s : Int) % 256)] rfl HBL.out (rdc_row w2' _ _ rfl) (cs_bytes.2 H4.out) (by rw [H4.out]; exact bytes_oneCell _) HL3.out HL4.out ?_; intro v3 w3 hown3 hbl3 _; rw [HFR.out] at hown3; obtain ⟨A3, c3, h3⟩ := hown3.form2 HFL.out; subst h3; have HO3 := hid hown3; have H3 := hid hbl3; clear hown3 hbl3; obtain ⟨A3', c3', he, g3, m3, hs3⟩ := HO3.out.len (Nat.zero_le _) HFL.out; simp only [Value.slice.injEq, true_and] at he; obtain ⟨rfl, rfl⟩ := he; have HS3 := hid hs3; clear hs3)
    | (at_builtin; refine wpl_app0 (W := w3) (R := byteR) (B := 0) rfl (.tmp 32) (.tmp 33) _ rfl tabB _ [] b rfl (Own.made w3 (Nat.le_refl _)) (Nat.zero_le _) (below_new _ _) A1 n1 c1 (b.map byteV) rfl E1.out ((sl_bytes (HS1.out.below H3.out) E1.out).alloc _) (cs_map _ _ _) (bytes_oneCell _) HL5.out HL6.out ?_; intro v4 w4 hown4 hbl4 _)
    | (at_builtin; refine wpl_app0 (W := w3) (R := byteR) (B := 0) rfl (.tmp 35) (.tmp 36) _ rfl tabB _ ([] ++ b) (fr x) rfl hown4 (Nat.zero_le _) hbl4 A3 (m + 4) c3 ((fr x).map byteV) rfl HFL.out (sl_bytes (HS3.out.below hbl4) HFL.out) (cs_map _ _ _) (bytes_oneCell _) HL7.out HL8.out ?_; intro v5 w5 hown5 hbl5 _))
  go_ret
  exact ⟨_, rfl, hown5.low H3.out.size, below_then H3.out hbl5⟩
end Go.Proofs.Ytcafahcmalfepaa
/-
  Package crc and the document's: sums, frames, what stands ahead, told by their shadows.
-/
namespace Go.Proofs.Ytcafahcmalfepaa
open Go.RowKit
theorem TRel.two {c : Cx} {vs : Array Value} {x y : AV} (h : TRel c vs [x, y]) : ∃ u v, vs = #[u, v] ∧ RV c u x ∧ RV c v y := by
  obtain ⟨h1, h2⟩ := h
  obtain ⟨vs⟩ := vs
  match vs, h1 with
  | [u, v], _ => exact ⟨u, v, rfl, h2 0 u x rfl rfl, h2 1 v y rfl rfl⟩
theorem takeF_n {m : UInt8} {t : Bytes} (hm : ¬ m = 167) : takeF (m :: t) = .error 3 := by simp [takeF, hm]
theorem takeF_z {m : UInt8} {t : Bytes} {z : Int} (hm : m = 167) (ht : takeN t = .error z) : takeF (m :: t) = .error z := by simp [takeF, hm, ht]
theorem takeF_5 {m : UInt8} {t : Bytes} {n : Nat} {r : Bytes} (hm : m = 167) (ht : takeN t = .ok (n, r)) (h1 : 100000 < n) : takeF (m :: t) = .error 5 := by simp [takeF, hm, ht, h1]
theorem takeF_2 {m : UInt8} {t : Bytes} {n : Nat} {r : Bytes} (hm : m = 167) (ht : takeN t = .ok (n, r)) (h1 : ¬ 100000 < n) (h2 : r.length < n + 4) : takeF (m :: t) = .error 2 := by simp [takeF, hm, ht, h1, h2]
theorem takeF_k {m : UInt8} {t : Bytes} {n : Nat} {r : Bytes} (hm : m = 167) (ht : takeN t = .ok (n, r)) (h1 : ¬ 100000 < n) (h2 : ¬ r.length < n + 4) {K : Nat} (hK : K = t.length + 1 - (r.length - n)) :
    takeF (m :: t) = if be 4 (crcSum ((m :: t).take K)) = (r.drop n).take 4 then .ok (r.take n, r.drop (n + 4)) else .error 4 := by
  subst hm hK
  unfold takeF
  simp only [ht, h1, h2, if_false, ne_eq, not_true_eq_false, List.length_cons]
/-- A number of bytes. -/
theorem bytes_num {P : Program} {f : FuncId} {b : Bytes} {r : AV} {u : Value} (hfn : Callable P f) (hv : ∀ c, RV c u r)
    (h : ∀ A cap w, b.length ≤ cap → cap ≤ maxLen → Sl byteR 1 w.heap.size w A b → Calls P f #[.slice A b.length cap] w fun e w' => e = .returned u ∧ Below w.heap.size w w') : ASpec P f [bytesA b] r := by
  refine ⟨hfn, fun c vs hh hc ht => ?_⟩
  obtain ⟨v, rfl, hv1⟩ := ht.one
  obtain ⟨A, cap, rfl, g1, g2, hs⟩ := hv1.bytes
  refine (h A cap c.w g1 g2 hs).mono ?_
  rintro e w' ⟨rfl, hb⟩
  obtain ⟨q1, q2⟩ := Below.ev hc hh hb
  exact ⟨_, _, _, _, rfl, q1, q2, hv _, .one (.refl _)⟩
theorem sum15_spec (b : Bytes) (hb : b.length ≤ 9000000) : ASpec Try.prog 16 [bytesA b] (.int .u32 (crcSum b : Nat)) :=
  bytes_num ⟨_, Try.func16, by kernel_rfl, rfl⟩ (fun _ => .int _ _) fun A cap w h1 h2 hs => sum_any A b b.length cap rfl (by omega) w (Nat.le_refl _) hs
theorem rsum15_spec (b : Bytes) (hb : b.length ≤ 9000000) : ASpec Try.prog 17 [bytesA b] (.int .u32 (crcSum b : Nat)) :=
  bytes_num ⟨_, Try.func17, by kernel_rfl, rfl⟩ (fun _ => .int _ _) fun A cap w h1 h2 hs => (rsum_any A b b.length cap rfl (by omega) w (Nat.le_refl _) hs).mono fun _ _ h => ⟨h.1, h.2 ▸ Below.refl _ _⟩
theorem sh24 (a : Int) : ashift .shr .u32 a 24 = some ⟨(0 : Int) ≤ 24, .int .u32 (a.fdiv 16777216), none⟩ := rfl
theorem sh16 (a : Int) : ashift .shr .u32 a 16 = some ⟨(0 : Int) ≤ 16, .int .u32 (a.fdiv 65536), none⟩ := rfl
theorem sh8 (a : Int) : ashift .shr .u32 a 8 = some ⟨(0 : Int) ≤ 8, .int .u32 (a.fdiv 256), none⟩ := rfl
theorem w8 (m : Nat) : IntKind.u8.wrap (m : Int) = ((UInt8.ofNat m).toNat : Int) := by
  have e : (2 : Int) ^ IntKind.u8.bits = 256 := by decide
  simp only [IntKind.wrap, e, show IntKind.u8.signed = false from rfl, Bool.false_and, Bool.false_eq_true, if_false]
  rw [UInt8.toNat_ofNat']
  omega
theorem wf (m p : Nat) : IntKind.u8.wrap ((m : Int).fdiv (p : Int)) = ((UInt8.ofNat (m / p)).toNat : Int) := by
  rw [Int.fdiv_eq_ediv_of_nonneg _ (by omega), ← Int.natCast_ediv, w8]
theorem be4 (n : Nat) : be 4 n = [UInt8.ofNat (n / 16777216), UInt8.ofNat (n / 65536), UInt8.ofNat (n / 256), UInt8.ofNat n] := by
  have h : be 4 n = [UInt8.ofNat (n / 256 ^ 3), UInt8.ofNat (n / 256 ^ 2), UInt8.ofNat (n / 256 ^ 1), UInt8.ofNat (n / 256 ^ 0)] := rfl
  rw [h, Nat.pow_zero, Nat.div_one]
set_option maxRecDepth 20000 in
theorem four_spec (n : Nat) : ASpec Try.prog 48 [.int .u32 n] (bytesA (be 4 n)) := by
  have h3 : IntKind.u8.wrap ((n : Int).fdiv 16777216) = ((UInt8.ofNat (n / 16777216)).toNat : Int) := wf n 16777216
  have h2 : IntKind.u8.wrap ((n : Int).fdiv 65536) = ((UInt8.ofNat (n / 65536)).toNat : Int) := wf n 65536
  have h1 : IntKind.u8.wrap ((n : Int).fdiv 256) = ((UInt8.ofNat (n / 256)).toNat : Int) := wf n 256
  have h0 := w8 n
  refine ⟨⟨_, Try.func48, by kernel_rfl, rfl⟩, ACall.of Try.func48 rfl fun c0 hc0 => ?_⟩; simp only [Try.ntmps48, List.length_cons, List.length_nil, Nat.reduceAdd, Nat.reduceSub, List.replicate_succ, List.replicate_zero, List.cons_append, List.nil_append]; refine Run.god tab_ok follows_ok Try.func48 60 ?_; simp only [Try.results48, ↓sh24, ↓sh16, ↓sh8, h3, h2, h1, h0, Int.reduceLE, drun, aops, aone, afin, ares, aresL, ares1, aresOk, aresOk1, aop, needs, ext, aev, aconst, aput, aupd, abin, aconv, aelems, plains, tab_5, tab_22, tab_23, ok1, AV.cells, AV.whole, AV.plain, AV.bare, Option.getD_some, Option.bind_some, Option.map_some, List.set_cons_zero, List.set_cons_succ, List.length_cons, List.length_nil, List.getElem?_cons_zero, List.getElem?_cons_succ, List.map_cons, List.map_nil, List.cons_append, List.nil_append, List.all_cons, List.all_nil, List.replicate_succ, List.replicate_zero, true_and, and_true, if_true, if_false, Nat.reduceAdd, Nat.reduceLeDiff, Nat.reduceMul, Nat.reduceBEq, Nat.zero_add, Bool.and_self, Bool.and_false, Nat.reduceLT, Nat.reduceLeDiff, List.getD_eq_getElem?_getD, Bool.false_eq_true]
  ((repeat' (apply And.intro)) <;> try (first | rfl | omega | (unfold I64; omega)))
  rw [be4]
  simp only [bytesA, List.map_cons, List.map_nil, byteC]
  (repeat' (first | exact LeL.nil | exact Le1L.nil | exact Le.refl _ | exact Le1.refl _ | exact Le1.nil _ | exact Le1.tok _ _ _ | exact LeR.one (Le.refl _) | apply LeR.tup | apply LeL.cons | apply Le1L.cons | apply Le.agg | apply Le.one | apply LeR.one))
theorem frame15_spec (b x : Bytes) (hb : b.length ≤ 900000) (hx : x.length ≤ 200000) : ASpec Try.prog 20 [bytesA b, bytesA x] (bytesA (b ++ fr x)) := by
  refine bytes_pure ⟨_, Try.func20, by kernel_rfl, rfl⟩ fun c vs hh hc hr => ?_
  obtain ⟨u, v, rfl, hu, hv⟩ := hr.two
  obtain ⟨A, cap, rfl, g1, g2, hs⟩ := hu.bytes
  obtain ⟨A2, cap2, rfl, q1, q2, hs2⟩ := hv.bytes
  refine (frame_any A b b.length cap rfl g1 g2 hb A2 x x.length cap2 rfl q1 q2 hx c.w hs hs2).mono ?_
  rintro e w' ⟨v, rfl, h, hb⟩
  exact ⟨v, _, rfl, h, hb⟩
theorem rframe15_spec (b x : Bytes) (hb : b.length ≤ 900000) (hx : x.length ≤ 200000) : ASpec Try.prog 21 [bytesA b, bytesA x] (bytesA (b ++ fr x)) := by
  refine bytes_pure ⟨_, Try.func21, by kernel_rfl, rfl⟩ fun c vs hh hc hr => ?_
  obtain ⟨u, v, rfl, hu, hv⟩ := hr.two
  obtain ⟨A, cap, rfl, g1, g2, hs⟩ := hu.bytes
  obtain ⟨A2, cap2, rfl, q1, q2, hs2⟩ := hv.bytes
  refine (rframe_any A b b.length cap rfl g1 g2 hb A2 x x.length cap2 rfl q1 q2 hx c.w hs hs2).mono ?_
  rintro e w' ⟨v, rfl, h, hb⟩
  exact ⟨v, _, rfl, h, hb⟩
theorem drop_eq {α : Type} {l m : List α} {k : Nat} {x y : α} (hx : l[k]? = some x) (hy : m[k]? = some y) : l.drop k = m.drop k ↔ x = y ∧ l.drop (k + 1) = m.drop (k + 1) := by
  obtain ⟨h1, rfl⟩ := List.getElem?_eq_some_iff.1 hx
  obtain ⟨h2, rfl⟩ := List.getElem?_eq_some_iff.1 hy
  rw [List.drop_eq_getElem_cons h1, List.drop_eq_getElem_cons h2, List.cons.injEq]
set_option maxRecDepth 20000 in
theorem equalB_spec (l m : Bytes) (hl : l.length ≤ 1000000000000) : ASpec Try.prog 47 [bytesA l, bytesA m] (.bool (decide (l = m))) := by
  by_cases hlm : l.length = m.length
  · have hlm' : (l.length : Int) = m.length := by omega
    refine ⟨⟨_, Try.func47, by kernel_rfl, rfl⟩, ACall.of Try.func47 rfl fun c0 hc0 => ?_⟩; simp only [Try.ntmps47, List.length_cons, List.length_nil, Nat.reduceAdd, Nat.reduceSub, List.replicate_succ, List.replicate_zero, List.cons_append, List.nil_append]; refine Run.god tab_ok follows_ok Try.func47 60 ?_; simp only [bytesA, List.length_map, hlm', decide_true, ↓alt_f, drun, aops, aone, aop, needs, ext, aev, aconst, aput, aupd, acmp, ashift, abin, alen, tab_3, tab_22, ok1, Option.getD_some, Option.bind_some, List.set_cons_zero, List.set_cons_succ, List.getElem?_cons_zero, List.getElem?_cons_succ, List.length_map, List.nil_append, true_and, if_true, if_false, Bool.not_true, decide_true, List.getD_eq_getElem?_getD, Bool.false_eq_true]
    refine Run.loopV (α := Nat) (fun k => k ≤ l.length ∧ (l = m ↔ l.drop k = m.drop k)) (fun k => [(13, .int .i64 k)]) 0 (fun _ => []) (fun k => l.length - k) 0 ⟨Nat.zero_le _, Iff.rfl⟩ ?_ ?_
    · simp only [writes, junks, puts, hputs, List.filterMap_cons, List.filterMap_nil, Int.natCast_zero, List.set_cons_zero, List.set_cons_succ, List.take_nil, List.cons_append, List.nil_append, List.append_nil]
      (refine Weak.of (by simp [hc0]) ?_ ?_ <;> (repeat' (first | exact WkT.nil | exact WkH.nil _ | exact Le.refl _ | exact Le.junk _ | exact Le1.refl _ | exact Le1.nil _ | exact Le1.tok _ _ _ | exact Le1L.nil | rfl | apply WkT.cons | apply WkH.cons | apply LeB.same | apply LeB.box | apply Le1L.cons | apply Le.agg | apply Le.one)))
    · rintro k ⟨hI, hk2⟩ ih
      simp only [writes, junks, puts, hputs, List.filterMap_cons, List.filterMap_nil, List.set_cons_zero, List.set_cons_succ, List.take_nil, List.cons_append, List.nil_append, List.append_nil] at ih ⊢
      by_cases hk : k < l.length
      · obtain ⟨x, hx⟩ : ∃ x, l[k]? = some x := ⟨_, List.getElem?_eq_getElem hk⟩
        obtain ⟨y, hy⟩ : ∃ x, m[k]? = some x := ⟨_, List.getElem?_eq_getElem (by omega)⟩
        have hkk : (k : Int) < m.length := by omega
        rw [drop_eq hx hy] at hk2
        by_cases hxy : x = y
        · subst hxy
          refine Run.god tab_ok follows_ok Try.func47 60 ?_; simp only [hx, hy, hkk, hlm', byteC, List.getElem?_map, List.length_map, decide_true, ↓alt_t, ↓alt_f, drun, adops, adone, places, mayNeed, freeOk, rdOf, AV.id, wrOf, aops, aone, aop, needs, ext, aev, aconst, aput, aupd, aload, aindexAddr, acmp, aarith, ashift, abin, tab_3, tab_5, tab_22, ok1, cellsAs, TI.agg, Option.getD_some, Option.bind_some, Option.map_some, List.set_cons_zero, List.set_cons_succ, List.length_cons, List.length_nil, List.getElem?_cons_zero, List.getElem?_cons_succ, List.take_succ_cons, List.take_nil, List.length_map, List.cons_append, List.nil_append, List.append_nil, true_and, and_true, if_true, if_false, Nat.zero_add, Bool.not_true, decide_true, Nat.reduceLT, Nat.le_refl, Int.toNat_natCast, List.getD_eq_getElem?_getD, Bool.false_eq_true]
          ((repeat' (apply And.intro)) <;> try (first | rfl | omega | (unfold I64; omega)))
          refine ih (k + 1) _ ⟨by omega, by rw [hk2]; simp⟩ (by omega) ?_
          simp only [Int.natCast_add, Int.natCast_one]
          (refine Weak.of (by simp [hc0]) ?_ ?_ <;> (repeat' (first | exact WkT.nil | exact WkH.nil _ | exact Le.refl _ | exact Le.junk _ | exact Le1.refl _ | exact Le1.nil _ | exact Le1.tok _ _ _ | exact Le1L.nil | rfl | apply WkT.cons | apply WkH.cons | apply LeB.same | apply LeB.box | apply Le1L.cons | apply Le.agg | apply Le.one)))
        · have hxy' : ¬ (x.toNat : Int) = y.toNat := fun h => hxy (UInt8.toNat_inj.1 (by omega))
          refine Run.god tab_ok follows_ok Try.func47 60 ?_; simp only [Try.results47, hx, hy, hkk, hxy', hlm', byteC, List.getElem?_map, List.length_map, decide_true, decide_false, ↓alt_t, drun, adops, adone, places, mayNeed, freeOk, rdOf, AV.id, wrOf, aops, aone, afin, ares, aresL, ares1, aresOk, aresOk1, aop, needs, ext, aev, aconst, aput, aupd, aload, aindexAddr, acmp, ashift, abin, tab_3, tab_5, tab_22, ok1, cellsAs, TI.agg, Option.getD_some, Option.bind_some, Option.map_some, List.set_cons_zero, List.set_cons_succ, List.length_cons, List.length_nil, List.getElem?_cons_zero, List.getElem?_cons_succ, List.take_succ_cons, List.take_nil, List.length_map, List.cons_append, List.nil_append, List.append_nil, true_and, and_true, if_true, if_false, Nat.zero_add, Bool.not_false, decide_true, decide_false, Nat.reduceLT, Nat.le_refl, Int.toNat_natCast, List.getD_eq_getElem?_getD, Bool.false_eq_true]
          ((repeat' (apply And.intro)) <;> try (first | rfl | omega | (unfold I64; omega)))
          rw [show decide (l = m) = false by rw [decide_eq_false_iff_not, hk2]; exact fun h => hxy h.1]
          (repeat' (first | exact LeL.nil | exact Le1L.nil | exact Le.refl _ | exact Le1.refl _ | exact Le1.nil _ | exact Le1.tok _ _ _ | exact LeR.one (Le.refl _) | apply LeR.tup | apply LeL.cons | apply Le1L.cons | apply Le.agg | apply Le.one | apply LeR.one))
      · obtain rfl : k = l.length := by omega
        have hkk : ¬ (m.length : Int) < m.length := by omega
        refine Run.god tab_ok follows_ok Try.func47 60 ?_; simp only [Try.results47, hkk, hlm', ↓alt_f, drun, aops, aone, afin, ares, aresL, ares1, aresOk, aresOk1, aop, needs, ext, aev, aconst, aput, aupd, acmp, ashift, abin, tab_3, ok1, exitTo, Option.getD_some, Option.bind_some, Option.map_some, List.set_cons_zero, List.set_cons_succ, List.getElem?_cons_zero, List.getElem?_cons_succ, List.nil_append, true_and, and_true, if_true, if_false, beq_self_eq_true, decide_false, List.getD_eq_getElem?_getD, Bool.false_eq_true]
        rw [show decide (l = m) = true by rw [decide_eq_true_eq, hk2, hlm, List.drop_length, ← hlm, List.drop_length]]
        (repeat' (first | exact LeL.nil | exact Le1L.nil | exact Le.refl _ | exact Le1.refl _ | exact Le1.nil _ | exact Le1.tok _ _ _ | exact LeR.one (Le.refl _) | apply LeR.tup | apply LeL.cons | apply Le1L.cons | apply Le.agg | apply Le.one | apply LeR.one))
  · have hlm' : ¬ (l.length : Int) = m.length := by omega
    refine ⟨⟨_, Try.func47, by kernel_rfl, rfl⟩, ACall.of Try.func47 rfl fun c0 hc0 => ?_⟩; simp only [Try.ntmps47, List.length_cons, List.length_nil, Nat.reduceAdd, Nat.reduceSub, List.replicate_succ, List.replicate_zero, List.cons_append, List.nil_append]; refine Run.god tab_ok follows_ok Try.func47 60 ?_; simp only [Try.results47, bytesA, List.length_map, hlm', decide_false, ↓alt_t, drun, aops, aone, afin, ares, aresL, ares1, aresOk, aresOk1, aop, needs, ext, aev, aconst, aput, aupd, acmp, ashift, abin, alen, tab_3, tab_22, ok1, Option.getD_some, Option.bind_some, Option.map_some, List.set_cons_zero, List.set_cons_succ, List.getElem?_cons_zero, List.getElem?_cons_succ, List.length_map, List.nil_append, true_and, and_true, if_true, if_false, Bool.not_false, decide_false, List.getD_eq_getElem?_getD, Bool.false_eq_true]
    rw [show decide (l = m) = false by rw [decide_eq_false_iff_not]; intro h; exact hlm (by rw [h])]
    (repeat' (first | exact LeL.nil | exact Le1L.nil | exact Le.refl _ | exact Le1.refl _ | exact Le1.nil _ | exact Le1.tok _ _ _ | exact LeR.one (Le.refl _) | apply LeR.tup | apply LeL.cons | apply Le1L.cons | apply Le.agg | apply Le.one | apply LeR.one))
theorem wrap_n64 (n : Nat) (h : n < 9223372036854775808) : IntKind.i64.wrap (n : Int) = n := by
  have e : (2 : Int) ^ IntKind.i64.bits = 18446744073709551616 := by decide
  have e' : (2 : Int) ^ (IntKind.i64.bits - 1) = 9223372036854775808 := by decide
  simp only [IntKind.wrap, e, e', show IntKind.i64.signed = true from rfl, Bool.true_and, decide_eq_true_eq]
  split <;> omega
def takeFA : Except Int (Bytes × Bytes) → AV
  | .error z => .tup [bytesA [], bytesA [], .int .i64 z]
  | .ok (x, r) => .tup [bytesA x, bytesA r, .int .i64 0]
def rowsA (l : List Bytes) : AV := .sl 1 (l.map rowC) .no
theorem bytesOf4 (a b c d : Int) : bytesOf [[.int .u8 a], [.int .u8 b], [.int .u8 c], [.int .u8 d]] = [UInt8.ofNat a.toNat, UInt8.ofNat b.toNat, UInt8.ofNat c.toNat, UInt8.ofNat d.toNat] := rfl
set_option maxRecDepth 20000 in
set_option maxHeartbeats 1000000 in
theorem ctake15_spec (b : Bytes) (hb : b.length ≤ 8000000) : ASpec Try.prog 14 [bytesA b] (takeFA (takeF b)) := by
  match b, hb with
  | [], _ =>
    rw [show takeF [] = .error 2 from rfl]
    refine ⟨⟨_, Try.func14, by kernel_rfl, rfl⟩, ACall.of Try.func14 rfl fun c0 hc0 => ?_⟩; simp only [Try.ntmps14, List.length_cons, List.length_nil, Nat.reduceAdd, Nat.reduceSub, List.replicate_succ, List.replicate_zero, List.cons_append, List.nil_append]; refine Run.god tab_ok follows_ok Try.func14 60 ?_; simp only [Try.results14, bytesA, takeFA, Int.natCast_zero, ↓alt_t, drun, aops, aone, afin, ares, aresL, ares1, aresOk, aresOk1, aop, needs, ext, aev, aconst, aput, aupd, acmp, ashift, abin, alen, tab_3, tab_22, ok1, Option.getD_some, Option.bind_some, Option.map_some, List.set_cons_zero, List.set_cons_succ, List.length_nil, List.getElem?_cons_zero, List.getElem?_cons_succ, List.map_nil, List.nil_append, true_and, and_true, if_true, if_false, decide_true, List.getD_eq_getElem?_getD, Bool.false_eq_true]
    (repeat' (first | exact LeL.nil | exact Le1L.nil | exact Le.refl _ | exact Le1.refl _ | exact Le1.nil _ | exact Le1.tok _ _ _ | exact LeR.one (Le.refl _) | apply LeR.tup | apply LeL.cons | apply Le1L.cons | apply Le.agg | apply Le.one | apply LeR.one))
  | m :: t, hb =>
  simp only [List.length_cons] at hb
  by_cases hm : m = 167
  case neg =>
    have hm' : ¬ (m.toNat : Int) = 167 := fun h => hm (UInt8.toNat_inj.1 (by have e : (167 : UInt8).toNat = 167 := rfl; omega))
    rw [takeF_n hm]
    refine ⟨⟨_, Try.func14, by kernel_rfl, rfl⟩, ACall.of Try.func14 rfl fun c0 hc0 => ?_⟩; simp only [Try.ntmps14, List.length_cons, List.length_nil, Nat.reduceAdd, Nat.reduceSub, List.replicate_succ, List.replicate_zero, List.cons_append, List.nil_append]; refine Run.god tab_ok follows_ok Try.func14 60 ?_; simp only [Try.results14, bytesA, byteC, hm', succ_ne, decide_false, Int.toNat_zero, ↓alt_t, ↓alt_f, Int.reduceLE, drun, aops, aone, afin, ares, aresL, ares1, aresOk, aresOk1, aop, needs, ext, aev, aconst, aput, aupd, aload, aindexAddr, acmp, ashift, abin, alen, tab_3, tab_5, tab_22, ok1, cellsAs, TI.agg, Option.getD_some, Option.bind_some, Option.map_some, List.set_cons_zero, List.set_cons_succ, List.length_cons, List.length_nil, List.getElem?_cons_zero, List.getElem?_cons_succ, List.take_succ_cons, List.take_nil, List.map_cons, List.length_map, List.nil_append, true_and, and_true, if_true, if_false, Nat.zero_add, Bool.not_false, decide_false, Nat.reduceLT, Nat.le_refl, List.getD_eq_getElem?_getD, Bool.false_eq_true]
    ((repeat' (apply And.intro)) <;> try (first | rfl | omega | (unfold I64; omega)))
    simp only [takeFA, bytesA, List.map_nil]
    (repeat' (first | exact LeL.nil | exact Le1L.nil | exact Le.refl _ | exact Le1.refl _ | exact Le1.nil _ | exact Le1.tok _ _ _ | exact LeR.one (Le.refl _) | apply LeR.tup | apply LeL.cons | apply Le1L.cons | apply Le.agg | apply Le.one | apply LeR.one))
  have hm' : (m.toNat : Int) = 167 := by rw [hm]; rfl
  have hsp := take_spec t
  cases ht : takeN t with
  | error z =>
    rw [ht] at hsp
    have hz : ¬ z = 0 := by rcases takeN_err ht with h | h <;> omega
    rw [takeF_z hm ht]
    refine ⟨⟨_, Try.func14, by kernel_rfl, rfl⟩, ACall.of Try.func14 rfl fun c0 hc0 => ?_⟩; simp only [Try.ntmps14, List.length_cons, List.length_nil, Nat.reduceAdd, Nat.reduceSub, List.replicate_succ, List.replicate_zero, List.cons_append, List.nil_append]; refine Run.god tab_ok follows_ok Try.func14 60 ?_; simp only [bytesA, byteC, hm', succ_ne, decide_true, decide_false, Int.toNat_zero, Int.reduceToNat, ↓alt_f, Int.reduceLE, drun, aops, aone, aop, needs, ext, aev, aconst, aput, aupd, aload, aindexAddr, acmp, ashift, abin, alen, aslice, tab_3, tab_5, tab_22, ok1, cellsAs, TI.agg, Option.getD_some, Option.bind_some, Option.map_some, Option.map_none, List.set_cons_zero, List.set_cons_succ, List.length_cons, List.length_nil, List.getElem?_cons_zero, List.getElem?_cons_succ, List.drop_zero, List.drop_succ_cons, List.take_succ_cons, List.take_nil, List.map_cons, List.length_map, List.nil_append, true_and, if_true, if_false, Nat.reduceAdd, Nat.zero_add, Bool.not_true, decide_true, decide_false, Nat.reduceLT, Nat.le_refl, List.getD_eq_getElem?_getD, Option.isSome_none, Bool.false_eq_true]
    ((repeat' (apply And.intro)) <;> try (first | rfl | omega | (unfold I64; omega)))
    refine Ops.pure .free rfl rfl (hsp) (by simp only [bytesA, aev, Option.getD_some, List.getElem?_cons_zero, List.getElem?_cons_succ, List.map_cons, List.map_nil, List.nil_append, List.append_nil, List.getD_eq_getElem?_getD]; (repeat' (first | exact LeL.nil | exact Le1L.nil | exact Le.refl _ | exact Le1.refl _ | exact Le1.nil _ | exact Le1.tok _ _ _ | exact LeR.one (Le.refl _) | apply LeR.tup | apply LeL.cons | apply Le1L.cons | apply Le.agg | apply Le.one | apply LeR.one))) rfl rfl ?_
    refine Ops.god tab_ok follows_ok Try.func14 60 ?_; simp only [Try.results14, takeA, bytesA, hz, decide_false, ↓alt_t, drun, aops, aone, afin, ares, aresL, ares1, aresOk, aresOk1, aop, needs, ext, aev, aconst, aput, aupd, acmp, ashift, abin, tab_25, ok1, Option.getD_some, Option.bind_some, Option.map_some, List.set_cons_zero, List.set_cons_succ, List.getElem?_cons_zero, List.getElem?_cons_succ, List.map_nil, List.nil_append, true_and, and_true, if_true, if_false, Bool.not_false, decide_false, List.getD_eq_getElem?_getD, Bool.false_eq_true]
    ((repeat' (apply And.intro)) <;> try (first | rfl | omega | (unfold I64; omega)))
    simp only [takeFA, bytesA, List.map_nil]
    (repeat' (first | exact LeL.nil | exact Le1L.nil | exact Le.refl _ | exact Le1.refl _ | exact Le1.nil _ | exact Le1.tok _ _ _ | exact LeR.one (Le.refl _) | apply LeR.tup | apply LeL.cons | apply Le1L.cons | apply Le.agg | apply Le.one | apply LeR.one))
  | ok p =>
  obtain ⟨n, r⟩ := p
  obtain ⟨hn, hl⟩ := taken_small ht
  rw [ht] at hsp
  have hw : IntKind.u64.wrap (r.length : Int) = r.length := wrap_nat _ (by omega)
  by_cases h1 : 100000 < n
  · have h1' : (100000 : Int) < n := by omega
    rw [takeF_5 hm ht h1]
    refine ⟨⟨_, Try.func14, by kernel_rfl, rfl⟩, ACall.of Try.func14 rfl fun c0 hc0 => ?_⟩; simp only [Try.ntmps14, List.length_cons, List.length_nil, Nat.reduceAdd, Nat.reduceSub, List.replicate_succ, List.replicate_zero, List.cons_append, List.nil_append]; refine Run.god tab_ok follows_ok Try.func14 60 ?_; simp only [bytesA, byteC, hm', succ_ne, decide_true, decide_false, Int.toNat_zero, Int.reduceToNat, ↓alt_f, Int.reduceLE, drun, aops, aone, aop, needs, ext, aev, aconst, aput, aupd, aload, aindexAddr, acmp, ashift, abin, alen, aslice, tab_3, tab_5, tab_22, ok1, cellsAs, TI.agg, Option.getD_some, Option.bind_some, Option.map_some, Option.map_none, List.set_cons_zero, List.set_cons_succ, List.length_cons, List.length_nil, List.getElem?_cons_zero, List.getElem?_cons_succ, List.drop_zero, List.drop_succ_cons, List.take_succ_cons, List.take_nil, List.map_cons, List.length_map, List.nil_append, true_and, if_true, if_false, Nat.reduceAdd, Nat.zero_add, Bool.not_true, decide_true, decide_false, Nat.reduceLT, Nat.le_refl, List.getD_eq_getElem?_getD, Option.isSome_none, Bool.false_eq_true]
    ((repeat' (apply And.intro)) <;> try (first | rfl | omega | (unfold I64; omega)))
    refine Ops.pure .free rfl rfl (hsp) (by simp only [bytesA, aev, Option.getD_some, List.getElem?_cons_zero, List.getElem?_cons_succ, List.map_cons, List.map_nil, List.nil_append, List.append_nil, List.getD_eq_getElem?_getD]; (repeat' (first | exact LeL.nil | exact Le1L.nil | exact Le.refl _ | exact Le1.refl _ | exact Le1.nil _ | exact Le1.tok _ _ _ | exact LeR.one (Le.refl _) | apply LeR.tup | apply LeL.cons | apply Le1L.cons | apply Le.agg | apply Le.one | apply LeR.one))) rfl rfl ?_
    refine Ops.god tab_ok follows_ok Try.func14 60 ?_; simp only [Try.results14, takeA, bytesA, h1', decide_true, ↓alt_t, ↓alt_f, drun, aops, aone, afin, ares, aresL, ares1, aresOk, aresOk1, aop, needs, ext, aev, aconst, aput, aupd, acmp, ashift, abin, tab_25, tab_75, ok1, Option.getD_some, Option.bind_some, Option.map_some, List.set_cons_zero, List.set_cons_succ, List.getElem?_cons_zero, List.getElem?_cons_succ, List.nil_append, true_and, and_true, if_true, if_false, Bool.not_true, decide_true, List.getD_eq_getElem?_getD, Bool.false_eq_true]
    ((repeat' (apply And.intro)) <;> try (first | rfl | omega | (unfold I64; omega)))
    simp only [takeFA, bytesA, List.map_nil]
    (repeat' (first | exact LeL.nil | exact Le1L.nil | exact Le.refl _ | exact Le1.refl _ | exact Le1.nil _ | exact Le1.tok _ _ _ | exact LeR.one (Le.refl _) | apply LeR.tup | apply LeL.cons | apply Le1L.cons | apply Le.agg | apply Le.one | apply LeR.one))
  have h1' : ¬ (100000 : Int) < n := by omega
  have hw4 : IntKind.u64.wrap ((n : Int) + 4) = n + 4 := by
    have e := wrap_nat (n + 4) (by omega)
    rw [Int.natCast_add] at e
    exact e
  have hwn := wrap_n64 n (by omega)
  by_cases h2 : r.length < n + 4
  · have h2' : (r.length : Int) < n + 4 := by omega
    rw [takeF_2 hm ht h1 h2]
    refine ⟨⟨_, Try.func14, by kernel_rfl, rfl⟩, ACall.of Try.func14 rfl fun c0 hc0 => ?_⟩; simp only [Try.ntmps14, List.length_cons, List.length_nil, Nat.reduceAdd, Nat.reduceSub, List.replicate_succ, List.replicate_zero, List.cons_append, List.nil_append]; refine Run.god tab_ok follows_ok Try.func14 60 ?_; simp only [bytesA, byteC, hm', succ_ne, decide_true, decide_false, Int.toNat_zero, Int.reduceToNat, ↓alt_f, Int.reduceLE, drun, aops, aone, aop, needs, ext, aev, aconst, aput, aupd, aload, aindexAddr, acmp, ashift, abin, alen, aslice, tab_3, tab_5, tab_22, ok1, cellsAs, TI.agg, Option.getD_some, Option.bind_some, Option.map_some, Option.map_none, List.set_cons_zero, List.set_cons_succ, List.length_cons, List.length_nil, List.getElem?_cons_zero, List.getElem?_cons_succ, List.drop_zero, List.drop_succ_cons, List.take_succ_cons, List.take_nil, List.map_cons, List.length_map, List.nil_append, true_and, if_true, if_false, Nat.reduceAdd, Nat.zero_add, Bool.not_true, decide_true, decide_false, Nat.reduceLT, Nat.le_refl, List.getD_eq_getElem?_getD, Option.isSome_none, Bool.false_eq_true]
    ((repeat' (apply And.intro)) <;> try (first | rfl | omega | (unfold I64; omega)))
    refine Ops.pure .free rfl rfl (hsp) (by simp only [bytesA, aev, Option.getD_some, List.getElem?_cons_zero, List.getElem?_cons_succ, List.map_cons, List.map_nil, List.nil_append, List.append_nil, List.getD_eq_getElem?_getD]; (repeat' (first | exact LeL.nil | exact Le1L.nil | exact Le.refl _ | exact Le1.refl _ | exact Le1.nil _ | exact Le1.tok _ _ _ | exact LeR.one (Le.refl _) | apply LeR.tup | apply LeL.cons | apply Le1L.cons | apply Le.agg | apply Le.one | apply LeR.one))) rfl rfl ?_
    refine Ops.god tab_ok follows_ok Try.func14 60 ?_; simp only [Try.results14, takeA, bytesA, h1', h2', hw, hw4, List.length_map, decide_true, decide_false, ↓alt_t, ↓alt_f, drun, aops, aone, afin, ares, aresL, ares1, aresOk, aresOk1, aop, needs, ext, aev, aconst, aput, aupd, acmp, aarith, ashift, abin, aconv, alen, tab_3, tab_22, tab_25, tab_75, ok1, Option.getD_some, Option.bind_some, Option.map_some, List.set_cons_zero, List.set_cons_succ, List.getElem?_cons_zero, List.getElem?_cons_succ, List.length_map, List.nil_append, true_and, and_true, if_true, if_false, Bool.not_true, decide_true, decide_false, reduceCtorEq, List.getD_eq_getElem?_getD, Bool.false_eq_true]
    ((repeat' (apply And.intro)) <;> try (first | rfl | omega | (unfold I64; omega)))
    simp only [takeFA, bytesA, List.map_nil]
    (repeat' (first | exact LeL.nil | exact Le1L.nil | exact Le.refl _ | exact Le1.refl _ | exact Le1.nil _ | exact Le1.tok _ _ _ | exact LeR.one (Le.refl _) | apply LeR.tup | apply LeL.cons | apply Le1L.cons | apply Le.agg | apply Le.one | apply LeR.one))
  have h2' : ¬ (r.length : Int) < n + 4 := by omega
  obtain ⟨K, hK⟩ : ∃ K, K = (m :: t).length - (r.length - n) := ⟨_, rfl⟩
  simp only [List.length_cons] at hK
  have hK' : (((t.length + 1 : Nat) : Int) - ((r.length - n : Nat) : Int)).toNat = K := by omega
  have hs := sum15_spec ((m :: t).take K) (by rw [List.length_take]; simp only [List.length_cons]; omega)
  have h4 := four_spec (crcSum ((m :: t).take K))
  have he := equalB_spec (be 4 (crcSum ((m :: t).take K))) ((r.drop n).take 4) (by rw [be_length]; omega)
  have hd4 : (4 : Int) ≤ ((List.drop n (List.map byteC r)).length : Nat) := by rw [List.length_drop, List.length_map]; omega
  have hF : takeF (m :: t) = if be 4 (crcSum ((m :: t).take K)) = (r.drop n).take 4 then .ok (r.take n, r.drop (n + 4)) else .error 4 :=
    takeF_k hm ht h1 h2 hK
  rw [hF]
  have e1 : List.drop 4 (List.drop n (List.map byteC r)) = List.map byteC (r.drop (n + 4)) := by rw [List.drop_drop, List.map_drop]
  have e2 : List.take n (List.map byteC r) = List.map byteC (r.take n) := List.map_take.symm
  by_cases hq : be 4 (crcSum ((m :: t).take K)) = (r.drop n).take 4
  · rw [if_pos hq]
    rw [decide_eq_true hq] at he
    refine ⟨⟨_, Try.func14, by kernel_rfl, rfl⟩, ACall.of Try.func14 rfl fun c0 hc0 => ?_⟩; simp only [Try.ntmps14, List.length_cons, List.length_nil, Nat.reduceAdd, Nat.reduceSub, List.replicate_succ, List.replicate_zero, List.cons_append, List.nil_append]; refine Run.god tab_ok follows_ok Try.func14 60 ?_; simp only [bytesA, byteC, hm', succ_ne, decide_true, decide_false, Int.toNat_zero, Int.reduceToNat, ↓alt_f, Int.reduceLE, drun, aops, aone, aop, needs, ext, aev, aconst, aput, aupd, aload, aindexAddr, acmp, ashift, abin, alen, aslice, tab_3, tab_5, tab_22, ok1, cellsAs, TI.agg, Option.getD_some, Option.bind_some, Option.map_some, Option.map_none, List.set_cons_zero, List.set_cons_succ, List.length_cons, List.length_nil, List.getElem?_cons_zero, List.getElem?_cons_succ, List.drop_zero, List.drop_succ_cons, List.take_succ_cons, List.take_nil, List.map_cons, List.length_map, List.nil_append, true_and, if_true, if_false, Nat.reduceAdd, Nat.zero_add, Bool.not_true, decide_true, decide_false, Nat.reduceLT, Nat.le_refl, List.getD_eq_getElem?_getD, Option.isSome_none, Bool.false_eq_true]
    ((repeat' (apply And.intro)) <;> try (first | rfl | omega | (unfold I64; omega)))
    refine Ops.pure .free rfl rfl (hsp) (by simp only [bytesA, aev, Option.getD_some, List.getElem?_cons_zero, List.getElem?_cons_succ, List.map_cons, List.map_nil, List.nil_append, List.append_nil, List.getD_eq_getElem?_getD]; (repeat' (first | exact LeL.nil | exact Le1L.nil | exact Le.refl _ | exact Le1.refl _ | exact Le1.nil _ | exact Le1.tok _ _ _ | exact LeR.one (Le.refl _) | apply LeR.tup | apply LeL.cons | apply Le1L.cons | apply Le.agg | apply Le.one | apply LeR.one))) rfl rfl ?_
    refine Ops.god tab_ok follows_ok Try.func14 60 ?_; simp only [takeA, bytesA, h1', h2', hw, hw4, List.length_map, List.length_drop, decide_true, decide_false, ↓alt_f, drun, adops, adone, places, mayNeed, freeOk, rdOf, wrOf, aops, aone, aop, needs, ext, aev, aconst, aput, aupd, acmp, aarith, ashift, abin, aconv, alen, aslice, tab_3, tab_5, tab_22, tab_25, tab_75, ok1, Option.getD_some, Option.bind_some, Option.map_some, Option.map_none, List.set_cons_zero, List.set_cons_succ, List.length_cons, List.length_nil, List.getElem?_cons_zero, List.getElem?_cons_succ, List.length_map, List.cons_append, List.nil_append, List.append_nil, true_and, and_true, if_true, if_false, Nat.reduceAdd, Nat.zero_add, Bool.not_true, decide_true, decide_false, reduceCtorEq, Int.toNat_natCast, List.getD_eq_getElem?_getD, Option.isSome_none, Bool.false_eq_true]
    ((repeat' (apply And.intro)) <;> try (first | rfl | omega | (unfold I64; omega)))
    try simp only [hK']
    refine DOps.pure rfl .free rfl rfl (hs) (by simp only [bytesA, byteC, List.map_take, hm', aev, Option.getD_some, List.getElem?_cons_zero, List.getElem?_cons_succ, List.map_cons, List.map_nil, List.nil_append, List.append_nil, List.getD_eq_getElem?_getD]; (repeat' (first | exact LeL.nil | exact Le1L.nil | exact Le.refl _ | exact Le1.refl _ | exact Le1.nil _ | exact Le1.tok _ _ _ | exact LeR.one (Le.refl _) | apply LeR.tup | apply LeL.cons | apply Le1L.cons | apply Le.agg | apply Le.one | apply LeR.one))) rfl rfl ?_
    refine DOps.god tab_ok follows_ok Try.func14 60 rfl ?_; simp only [adops, adone, aop, aput, List.set_cons_zero, List.set_cons_succ, List.cons_append, List.nil_append, Nat.reduceAdd, Nat.zero_add]
    ((repeat' (apply And.intro)) <;> try (first | rfl | omega | (unfold I64; omega)))
    refine DOps.pure rfl .free rfl rfl (h4) (by simp only [aev, Option.getD_some, List.getElem?_cons_zero, List.getElem?_cons_succ, List.map_cons, List.map_nil, List.nil_append, List.append_nil, List.getD_eq_getElem?_getD]; (repeat' (first | exact LeL.nil | exact Le1L.nil | exact Le.refl _ | exact Le1.refl _ | exact Le1.nil _ | exact Le1.tok _ _ _ | exact LeR.one (Le.refl _) | apply LeR.tup | apply LeL.cons | apply Le1L.cons | apply Le.agg | apply Le.one | apply LeR.one))) rfl rfl ?_
    refine DOps.god tab_ok follows_ok Try.func14 60 rfl ?_; simp only [bytesA, Int.reduceToNat, Int.reduceLE, adops, adone, mayNeed, freeOk, rdOf, wrOf, aop, needs, aev, aconst, aput, aupd, aslice, tab_5, tab_22, ok1, Option.getD_some, Option.bind_some, Option.map_some, Option.map_none, List.set_cons_zero, List.set_cons_succ, List.getElem?_cons_zero, List.getElem?_cons_succ, List.cons_append, List.nil_append, true_and, and_true, if_false, Nat.reduceAdd, List.getD_eq_getElem?_getD, Option.isSome_none, Bool.false_eq_true]
    ((repeat' (apply And.intro)) <;> try (first | rfl | omega | (unfold I64; omega)))
    refine DOps.pure rfl .free rfl rfl (he) (by simp only [bytesA, List.map_take, List.map_drop, aev, Option.getD_some, List.getElem?_cons_zero, List.getElem?_cons_succ, List.map_cons, List.map_nil, List.nil_append, List.append_nil, List.getD_eq_getElem?_getD]; (repeat' (first | exact LeL.nil | exact Le1L.nil | exact Le.refl _ | exact Le1.refl _ | exact Le1.nil _ | exact Le1.tok _ _ _ | exact LeR.one (Le.refl _) | apply LeR.tup | apply LeL.cons | apply Le1L.cons | apply Le.agg | apply Le.one | apply LeR.one))) rfl rfl ?_
    refine DOps.god tab_ok follows_ok Try.func14 60 rfl ?_; simp only [Try.results14, Int.reduceToNat, ↓alt_f, Int.reduceLE, drun, adops, adone, places, mayNeed, freeOk, rdOf, wrOf, afin, ares, aresL, ares1, aresOk, aresOk1, aop, needs, aev, aconst, aput, aupd, aslice, tab_5, tab_22, ok1, Option.getD_some, Option.bind_some, Option.map_some, Option.map_none, List.set_cons_zero, List.set_cons_succ, List.length_cons, List.length_nil, List.getElem?_cons_zero, List.getElem?_cons_succ, List.cons_append, List.nil_append, List.append_nil, true_and, and_true, if_false, Nat.reduceAdd, Nat.zero_add, Bool.not_true, List.getD_eq_getElem?_getD, Option.isSome_none, Bool.false_eq_true]
    ((repeat' (apply And.intro)) <;> try (first | rfl | omega | (unfold I64; omega)))
    simp only [takeFA, bytesA, ← e1, ← e2]
    (repeat' (first | exact LeL.nil | exact Le1L.nil | exact Le.refl _ | exact Le1.refl _ | exact Le1.nil _ | exact Le1.tok _ _ _ | exact LeR.one (Le.refl _) | apply LeR.tup | apply LeL.cons | apply Le1L.cons | apply Le.agg | apply Le.one | apply LeR.one))
  · rw [if_neg hq]
    rw [decide_eq_false hq] at he
    refine ⟨⟨_, Try.func14, by kernel_rfl, rfl⟩, ACall.of Try.func14 rfl fun c0 hc0 => ?_⟩; simp only [Try.ntmps14, List.length_cons, List.length_nil, Nat.reduceAdd, Nat.reduceSub, List.replicate_succ, List.replicate_zero, List.cons_append, List.nil_append]; refine Run.god tab_ok follows_ok Try.func14 60 ?_; simp only [bytesA, byteC, hm', succ_ne, decide_true, decide_false, Int.toNat_zero, Int.reduceToNat, ↓alt_f, Int.reduceLE, drun, aops, aone, aop, needs, ext, aev, aconst, aput, aupd, aload, aindexAddr, acmp, ashift, abin, alen, aslice, tab_3, tab_5, tab_22, ok1, cellsAs, TI.agg, Option.getD_some, Option.bind_some, Option.map_some, Option.map_none, List.set_cons_zero, List.set_cons_succ, List.length_cons, List.length_nil, List.getElem?_cons_zero, List.getElem?_cons_succ, List.drop_zero, List.drop_succ_cons, List.take_succ_cons, List.take_nil, List.map_cons, List.length_map, List.nil_append, true_and, if_true, if_false, Nat.reduceAdd, Nat.zero_add, Bool.not_true, decide_true, decide_false, Nat.reduceLT, Nat.le_refl, List.getD_eq_getElem?_getD, Option.isSome_none, Bool.false_eq_true]
    ((repeat' (apply And.intro)) <;> try (first | rfl | omega | (unfold I64; omega)))
    refine Ops.pure .free rfl rfl (hsp) (by simp only [bytesA, aev, Option.getD_some, List.getElem?_cons_zero, List.getElem?_cons_succ, List.map_cons, List.map_nil, List.nil_append, List.append_nil, List.getD_eq_getElem?_getD]; (repeat' (first | exact LeL.nil | exact Le1L.nil | exact Le.refl _ | exact Le1.refl _ | exact Le1.nil _ | exact Le1.tok _ _ _ | exact LeR.one (Le.refl _) | apply LeR.tup | apply LeL.cons | apply Le1L.cons | apply Le.agg | apply Le.one | apply LeR.one))) rfl rfl ?_
    refine Ops.god tab_ok follows_ok Try.func14 60 ?_; simp only [takeA, bytesA, h1', h2', hw, hw4, List.length_map, List.length_drop, decide_true, decide_false, ↓alt_f, drun, adops, adone, places, mayNeed, freeOk, rdOf, wrOf, aops, aone, aop, needs, ext, aev, aconst, aput, aupd, acmp, aarith, ashift, abin, aconv, alen, aslice, tab_3, tab_5, tab_22, tab_25, tab_75, ok1, Option.getD_some, Option.bind_some, Option.map_some, Option.map_none, List.set_cons_zero, List.set_cons_succ, List.length_cons, List.length_nil, List.getElem?_cons_zero, List.getElem?_cons_succ, List.length_map, List.cons_append, List.nil_append, List.append_nil, true_and, and_true, if_true, if_false, Nat.reduceAdd, Nat.zero_add, Bool.not_true, decide_true, decide_false, reduceCtorEq, Int.toNat_natCast, List.getD_eq_getElem?_getD, Option.isSome_none, Bool.false_eq_true]
    ((repeat' (apply And.intro)) <;> try (first | rfl | omega | (unfold I64; omega)))
    try simp only [hK']
    refine DOps.pure rfl .free rfl rfl (hs) (by simp only [bytesA, byteC, List.map_take, hm', aev, Option.getD_some, List.getElem?_cons_zero, List.getElem?_cons_succ, List.map_cons, List.map_nil, List.nil_append, List.append_nil, List.getD_eq_getElem?_getD]; (repeat' (first | exact LeL.nil | exact Le1L.nil | exact Le.refl _ | exact Le1.refl _ | exact Le1.nil _ | exact Le1.tok _ _ _ | exact LeR.one (Le.refl _) | apply LeR.tup | apply LeL.cons | apply Le1L.cons | apply Le.agg | apply Le.one | apply LeR.one))) rfl rfl ?_
    refine DOps.god tab_ok follows_ok Try.func14 60 rfl ?_; simp only [adops, adone, aop, aput, List.set_cons_zero, List.set_cons_succ, List.cons_append, List.nil_append, Nat.reduceAdd, Nat.zero_add]
    ((repeat' (apply And.intro)) <;> try (first | rfl | omega | (unfold I64; omega)))
    refine DOps.pure rfl .free rfl rfl (h4) (by simp only [aev, Option.getD_some, List.getElem?_cons_zero, List.getElem?_cons_succ, List.map_cons, List.map_nil, List.nil_append, List.append_nil, List.getD_eq_getElem?_getD]; (repeat' (first | exact LeL.nil | exact Le1L.nil | exact Le.refl _ | exact Le1.refl _ | exact Le1.nil _ | exact Le1.tok _ _ _ | exact LeR.one (Le.refl _) | apply LeR.tup | apply LeL.cons | apply Le1L.cons | apply Le.agg | apply Le.one | apply LeR.one))) rfl rfl ?_
    refine DOps.god tab_ok follows_ok Try.func14 60 rfl ?_; simp only [bytesA, Int.reduceToNat, Int.reduceLE, adops, adone, mayNeed, freeOk, rdOf, wrOf, aop, needs, aev, aconst, aput, aupd, aslice, tab_5, tab_22, ok1, Option.getD_some, Option.bind_some, Option.map_some, Option.map_none, List.set_cons_zero, List.set_cons_succ, List.getElem?_cons_zero, List.getElem?_cons_succ, List.cons_append, List.nil_append, true_and, and_true, if_false, Nat.reduceAdd, List.getD_eq_getElem?_getD, Option.isSome_none, Bool.false_eq_true]
    ((repeat' (apply And.intro)) <;> try (first | rfl | omega | (unfold I64; omega)))
    refine DOps.pure rfl .free rfl rfl (he) (by simp only [bytesA, List.map_take, List.map_drop, aev, Option.getD_some, List.getElem?_cons_zero, List.getElem?_cons_succ, List.map_cons, List.map_nil, List.nil_append, List.append_nil, List.getD_eq_getElem?_getD]; (repeat' (first | exact LeL.nil | exact Le1L.nil | exact Le.refl _ | exact Le1.refl _ | exact Le1.nil _ | exact Le1.tok _ _ _ | exact LeR.one (Le.refl _) | apply LeR.tup | apply LeL.cons | apply Le1L.cons | apply Le.agg | apply Le.one | apply LeR.one))) rfl rfl ?_
    refine DOps.god tab_ok follows_ok Try.func14 60 rfl ?_; simp only [Try.results14, ↓alt_t, drun, adops, adone, freeOk, rdOf, wrOf, aops, aone, afin, ares, aresL, ares1, aresOk, aresOk1, aop, needs, ext, aev, aconst, aput, aupd, ok1, Option.getD_some, Option.bind_some, Option.map_some, List.set_cons_zero, List.set_cons_succ, List.getElem?_cons_zero, List.getElem?_cons_succ, List.cons_append, List.nil_append, true_and, and_true, if_false, Nat.reduceAdd, Bool.not_false, List.getD_eq_getElem?_getD, Bool.false_eq_true]
    ((repeat' (apply And.intro)) <;> try (first | rfl | omega | (unfold I64; omega)))
    simp only [takeFA, bytesA, List.map_nil]
    (repeat' (first | exact LeL.nil | exact Le1L.nil | exact Le.refl _ | exact Le1.refl _ | exact Le1.nil _ | exact Le1.tok _ _ _ | exact LeR.one (Le.refl _) | apply LeR.tup | apply LeL.cons | apply Le1L.cons | apply Le.agg | apply Le.one | apply LeR.one))
set_option maxRecDepth 20000 in
set_option maxHeartbeats 1000000 in
theorem rctake15_spec (b : Bytes) (hb : b.length ≤ 8000000) : ASpec Try.prog 15 [bytesA b] (takeFA (takeF b)) := by
  match b, hb with
  | [], _ =>
    rw [show takeF [] = .error 2 from rfl]
    refine ⟨⟨_, Try.func15, by kernel_rfl, rfl⟩, ACall.of Try.func15 rfl fun c0 hc0 => ?_⟩; simp only [Try.ntmps15, List.length_cons, List.length_nil, Nat.reduceAdd, Nat.reduceSub, List.replicate_succ, List.replicate_zero, List.cons_append, List.nil_append]; refine Run.god tab_ok follows_ok Try.func15 60 ?_; simp only [Try.results15, bytesA, takeFA, Int.natCast_zero, ↓alt_t, drun, aops, aone, afin, ares, aresL, ares1, aresOk, aresOk1, aop, needs, ext, aev, aconst, aput, aupd, acmp, ashift, abin, alen, tab_3, tab_22, ok1, Option.getD_some, Option.bind_some, Option.map_some, List.set_cons_zero, List.set_cons_succ, List.length_nil, List.getElem?_cons_zero, List.getElem?_cons_succ, List.map_nil, List.nil_append, true_and, and_true, if_true, if_false, decide_true, List.getD_eq_getElem?_getD, Bool.false_eq_true]
    (repeat' (first | exact LeL.nil | exact Le1L.nil | exact Le.refl _ | exact Le1.refl _ | exact Le1.nil _ | exact Le1.tok _ _ _ | exact LeR.one (Le.refl _) | apply LeR.tup | apply LeL.cons | apply Le1L.cons | apply Le.agg | apply Le.one | apply LeR.one))
  | m :: t, hb =>
  simp only [List.length_cons] at hb
  by_cases hm : m = 167
  case neg =>
    have hm' : ¬ (m.toNat : Int) = 167 := fun h => hm (UInt8.toNat_inj.1 (by have e : (167 : UInt8).toNat = 167 := rfl; omega))
    rw [takeF_n hm]
    refine ⟨⟨_, Try.func15, by kernel_rfl, rfl⟩, ACall.of Try.func15 rfl fun c0 hc0 => ?_⟩; simp only [Try.ntmps15, List.length_cons, List.length_nil, Nat.reduceAdd, Nat.reduceSub, List.replicate_succ, List.replicate_zero, List.cons_append, List.nil_append]; refine Run.god tab_ok follows_ok Try.func15 60 ?_; simp only [Try.results15, bytesA, byteC, hm', succ_ne, decide_false, Int.toNat_zero, ↓alt_t, ↓alt_f, Int.reduceLE, drun, aops, aone, afin, ares, aresL, ares1, aresOk, aresOk1, aop, needs, ext, aev, aconst, aput, aupd, aload, aindexAddr, acmp, ashift, abin, alen, tab_3, tab_5, tab_22, ok1, cellsAs, TI.agg, Option.getD_some, Option.bind_some, Option.map_some, List.set_cons_zero, List.set_cons_succ, List.length_cons, List.length_nil, List.getElem?_cons_zero, List.getElem?_cons_succ, List.take_succ_cons, List.take_nil, List.map_cons, List.length_map, List.nil_append, true_and, and_true, if_true, if_false, Nat.zero_add, Bool.not_false, decide_false, Nat.reduceLT, Nat.le_refl, List.getD_eq_getElem?_getD, Bool.false_eq_true]
    ((repeat' (apply And.intro)) <;> try (first | rfl | omega | (unfold I64; omega)))
    simp only [takeFA, bytesA, List.map_nil]
    (repeat' (first | exact LeL.nil | exact Le1L.nil | exact Le.refl _ | exact Le1.refl _ | exact Le1.nil _ | exact Le1.tok _ _ _ | exact LeR.one (Le.refl _) | apply LeR.tup | apply LeL.cons | apply Le1L.cons | apply Le.agg | apply Le.one | apply LeR.one))
  have hm' : (m.toNat : Int) = 167 := by rw [hm]; rfl
  have hsp := rtake_spec t
  cases ht : takeN t with
  | error z =>
    rw [ht] at hsp
    have hz : ¬ z = 0 := by rcases takeN_err ht with h | h <;> omega
    rw [takeF_z hm ht]
    refine ⟨⟨_, Try.func15, by kernel_rfl, rfl⟩, ACall.of Try.func15 rfl fun c0 hc0 => ?_⟩; simp only [Try.ntmps15, List.length_cons, List.length_nil, Nat.reduceAdd, Nat.reduceSub, List.replicate_succ, List.replicate_zero, List.cons_append, List.nil_append]; refine Run.god tab_ok follows_ok Try.func15 60 ?_; simp only [bytesA, byteC, hm', succ_ne, decide_true, decide_false, Int.toNat_zero, Int.reduceToNat, ↓alt_f, Int.reduceLE, drun, aops, aone, aop, needs, ext, aev, aconst, aput, aupd, aload, aindexAddr, acmp, ashift, abin, alen, aslice, tab_3, tab_5, tab_22, ok1, cellsAs, TI.agg, Option.getD_some, Option.bind_some, Option.map_some, Option.map_none, List.set_cons_zero, List.set_cons_succ, List.length_cons, List.length_nil, List.getElem?_cons_zero, List.getElem?_cons_succ, List.drop_zero, List.drop_succ_cons, List.take_succ_cons, List.take_nil, List.map_cons, List.length_map, List.nil_append, true_and, if_true, if_false, Nat.reduceAdd, Nat.zero_add, Bool.not_true, decide_true, decide_false, Nat.reduceLT, Nat.le_refl, List.getD_eq_getElem?_getD, Option.isSome_none, Bool.false_eq_true]
    ((repeat' (apply And.intro)) <;> try (first | rfl | omega | (unfold I64; omega)))
    refine Ops.pure .free rfl rfl (hsp) (by simp only [bytesA, aev, Option.getD_some, List.getElem?_cons_zero, List.getElem?_cons_succ, List.map_cons, List.map_nil, List.nil_append, List.append_nil, List.getD_eq_getElem?_getD]; (repeat' (first | exact LeL.nil | exact Le1L.nil | exact Le.refl _ | exact Le1.refl _ | exact Le1.nil _ | exact Le1.tok _ _ _ | exact LeR.one (Le.refl _) | apply LeR.tup | apply LeL.cons | apply Le1L.cons | apply Le.agg | apply Le.one | apply LeR.one))) rfl rfl ?_
    refine Ops.god tab_ok follows_ok Try.func15 60 ?_; simp only [Try.results15, takeA, bytesA, hz, decide_false, ↓alt_t, drun, aops, aone, afin, ares, aresL, ares1, aresOk, aresOk1, aop, needs, ext, aev, aconst, aput, aupd, acmp, ashift, abin, tab_25, ok1, Option.getD_some, Option.bind_some, Option.map_some, List.set_cons_zero, List.set_cons_succ, List.getElem?_cons_zero, List.getElem?_cons_succ, List.map_nil, List.nil_append, true_and, and_true, if_true, if_false, Bool.not_false, decide_false, List.getD_eq_getElem?_getD, Bool.false_eq_true]
    ((repeat' (apply And.intro)) <;> try (first | rfl | omega | (unfold I64; omega)))
    simp only [takeFA, bytesA, List.map_nil]
    (repeat' (first | exact LeL.nil | exact Le1L.nil | exact Le.refl _ | exact Le1.refl _ | exact Le1.nil _ | exact Le1.tok _ _ _ | exact LeR.one (Le.refl _) | apply LeR.tup | apply LeL.cons | apply Le1L.cons | apply Le.agg | apply Le.one | apply LeR.one))
  | ok p =>
  obtain ⟨n, r⟩ := p
  obtain ⟨hn, hl⟩ := taken_small ht
  rw [ht] at hsp
  have hw : IntKind.u64.wrap (r.length : Int) = r.length := wrap_nat _ (by omega)
  by_cases h1 : 100000 < n
  · have h1' : (100000 : Int) < n := by omega
    rw [takeF_5 hm ht h1]
    refine ⟨⟨_, Try.func15, by kernel_rfl, rfl⟩, ACall.of Try.func15 rfl fun c0 hc0 => ?_⟩; simp only [Try.ntmps15, List.length_cons, List.length_nil, Nat.reduceAdd, Nat.reduceSub, List.replicate_succ, List.replicate_zero, List.cons_append, List.nil_append]; refine Run.god tab_ok follows_ok Try.func15 60 ?_; simp only [bytesA, byteC, hm', succ_ne, decide_true, decide_false, Int.toNat_zero, Int.reduceToNat, ↓alt_f, Int.reduceLE, drun, aops, aone, aop, needs, ext, aev, aconst, aput, aupd, aload, aindexAddr, acmp, ashift, abin, alen, aslice, tab_3, tab_5, tab_22, ok1, cellsAs, TI.agg, Option.getD_some, Option.bind_some, Option.map_some, Option.map_none, List.set_cons_zero, List.set_cons_succ, List.length_cons, List.length_nil, List.getElem?_cons_zero, List.getElem?_cons_succ, List.drop_zero, List.drop_succ_cons, List.take_succ_cons, List.take_nil, List.map_cons, List.length_map, List.nil_append, true_and, if_true, if_false, Nat.reduceAdd, Nat.zero_add, Bool.not_true, decide_true, decide_false, Nat.reduceLT, Nat.le_refl, List.getD_eq_getElem?_getD, Option.isSome_none, Bool.false_eq_true]
    ((repeat' (apply And.intro)) <;> try (first | rfl | omega | (unfold I64; omega)))
    refine Ops.pure .free rfl rfl (hsp) (by simp only [bytesA, aev, Option.getD_some, List.getElem?_cons_zero, List.getElem?_cons_succ, List.map_cons, List.map_nil, List.nil_append, List.append_nil, List.getD_eq_getElem?_getD]; (repeat' (first | exact LeL.nil | exact Le1L.nil | exact Le.refl _ | exact Le1.refl _ | exact Le1.nil _ | exact Le1.tok _ _ _ | exact LeR.one (Le.refl _) | apply LeR.tup | apply LeL.cons | apply Le1L.cons | apply Le.agg | apply Le.one | apply LeR.one))) rfl rfl ?_
    refine Ops.god tab_ok follows_ok Try.func15 60 ?_; simp only [Try.results15, takeA, bytesA, h1', decide_true, ↓alt_t, ↓alt_f, drun, aops, aone, afin, ares, aresL, ares1, aresOk, aresOk1, aop, needs, ext, aev, aconst, aput, aupd, acmp, ashift, abin, tab_25, tab_75, ok1, Option.getD_some, Option.bind_some, Option.map_some, List.set_cons_zero, List.set_cons_succ, List.getElem?_cons_zero, List.getElem?_cons_succ, List.nil_append, true_and, and_true, if_true, if_false, Bool.not_true, decide_true, List.getD_eq_getElem?_getD, Bool.false_eq_true]
    ((repeat' (apply And.intro)) <;> try (first | rfl | omega | (unfold I64; omega)))
    simp only [takeFA, bytesA, List.map_nil]
    (repeat' (first | exact LeL.nil | exact Le1L.nil | exact Le.refl _ | exact Le1.refl _ | exact Le1.nil _ | exact Le1.tok _ _ _ | exact LeR.one (Le.refl _) | apply LeR.tup | apply LeL.cons | apply Le1L.cons | apply Le.agg | apply Le.one | apply LeR.one))
  have h1' : ¬ (100000 : Int) < n := by omega
  have hw4 : IntKind.u64.wrap ((n : Int) + 4) = n + 4 := by
    have e := wrap_nat (n + 4) (by omega)
    rw [Int.natCast_add] at e
    exact e
  have hwn := wrap_n64 n (by omega)
  by_cases h2 : r.length < n + 4
  · have h2' : (r.length : Int) < n + 4 := by omega
    rw [takeF_2 hm ht h1 h2]
    refine ⟨⟨_, Try.func15, by kernel_rfl, rfl⟩, ACall.of Try.func15 rfl fun c0 hc0 => ?_⟩; simp only [Try.ntmps15, List.length_cons, List.length_nil, Nat.reduceAdd, Nat.reduceSub, List.replicate_succ, List.replicate_zero, List.cons_append, List.nil_append]; refine Run.god tab_ok follows_ok Try.func15 60 ?_; simp only [bytesA, byteC, hm', succ_ne, decide_true, decide_false, Int.toNat_zero, Int.reduceToNat, ↓alt_f, Int.reduceLE, drun, aops, aone, aop, needs, ext, aev, aconst, aput, aupd, aload, aindexAddr, acmp, ashift, abin, alen, aslice, tab_3, tab_5, tab_22, ok1, cellsAs, TI.agg, Option.getD_some, Option.bind_some, Option.map_some, Option.map_none, List.set_cons_zero, List.set_cons_succ, List.length_cons, List.length_nil, List.getElem?_cons_zero, List.getElem?_cons_succ, List.drop_zero, List.drop_succ_cons, List.take_succ_cons, List.take_nil, List.map_cons, List.length_map, List.nil_append, true_and, if_true, if_false, Nat.reduceAdd, Nat.zero_add, Bool.not_true, decide_true, decide_false, Nat.reduceLT, Nat.le_refl, List.getD_eq_getElem?_getD, Option.isSome_none, Bool.false_eq_true]
    ((repeat' (apply And.intro)) <;> try (first | rfl | omega | (unfold I64; omega)))
    refine Ops.pure .free rfl rfl (hsp) (by simp only [bytesA, aev, Option.getD_some, List.getElem?_cons_zero, List.getElem?_cons_succ, List.map_cons, List.map_nil, List.nil_append, List.append_nil, List.getD_eq_getElem?_getD]; (repeat' (first | exact LeL.nil | exact Le1L.nil | exact Le.refl _ | exact Le1.refl _ | exact Le1.nil _ | exact Le1.tok _ _ _ | exact LeR.one (Le.refl _) | apply LeR.tup | apply LeL.cons | apply Le1L.cons | apply Le.agg | apply Le.one | apply LeR.one))) rfl rfl ?_
    refine Ops.god tab_ok follows_ok Try.func15 60 ?_; simp only [Try.results15, takeA, bytesA, h1', h2', hwn, List.length_map, decide_true, decide_false, ↓alt_t, ↓alt_f, drun, aops, aone, afin, ares, aresL, ares1, aresOk, aresOk1, aop, needs, ext, aev, aconst, aput, aupd, acmp, aarith, ashift, abin, aconv, alen, tab_3, tab_22, tab_25, tab_75, ok1, Option.getD_some, Option.bind_some, Option.map_some, List.set_cons_zero, List.set_cons_succ, List.getElem?_cons_zero, List.getElem?_cons_succ, List.length_map, List.nil_append, true_and, and_true, if_true, if_false, Bool.not_true, decide_true, decide_false, List.getD_eq_getElem?_getD, Bool.false_eq_true]
    ((repeat' (apply And.intro)) <;> try (first | rfl | omega | (unfold I64; omega)))
    simp only [takeFA, bytesA, List.map_nil]
    (repeat' (first | exact LeL.nil | exact Le1L.nil | exact Le.refl _ | exact Le1.refl _ | exact Le1.nil _ | exact Le1.tok _ _ _ | exact LeR.one (Le.refl _) | apply LeR.tup | apply LeL.cons | apply Le1L.cons | apply Le.agg | apply Le.one | apply LeR.one))
  have h2' : ¬ (r.length : Int) < n + 4 := by omega
  obtain ⟨K, hK⟩ : ∃ K, K = (m :: t).length - (r.length - n) := ⟨_, rfl⟩
  simp only [List.length_cons] at hK
  have hK' : (((t.length + 1 : Nat) : Int) - (r.length : Int) + (n : Int)).toNat = K := by omega
  have hs := rsum15_spec ((m :: t).take K) (by rw [List.length_take]; simp only [List.length_cons]; omega)
  have hd4 : (4 : Int) ≤ ((List.drop n (List.map byteC r)).length : Nat) := by rw [List.length_drop, List.length_map]; omega
  have hF : takeF (m :: t) = if be 4 (crcSum ((m :: t).take K)) = (r.drop n).take 4 then .ok (r.take n, r.drop (n + 4)) else .error 4 :=
    takeF_k hm ht h1 h2 hK
  rw [hF]
  have e1 : List.drop (n + 4) (List.map byteC r) = List.map byteC (r.drop (n + 4)) := List.map_drop.symm
  have e2 : List.take n (List.map byteC r) = List.map byteC (r.take n) := List.map_take.symm
  have e3 : List.drop n (List.take (n + 4) r) = List.take 4 (List.drop n r) := by rw [List.drop_take]; congr 1; omega
  have e4 : ((n : Int) + 4).toNat = n + 4 := by omega
  generalize hS : crcSum ((m :: t).take K) = s at *
  have g3 : IntKind.u8.wrap ((s : Int).fdiv 16777216) = ((UInt8.ofNat (s / 16777216)).toNat : Int) := wf s 16777216
  have g2 : IntKind.u8.wrap ((s : Int).fdiv 65536) = ((UInt8.ofNat (s / 65536)).toNat : Int) := wf s 65536
  have g1 : IntKind.u8.wrap ((s : Int).fdiv 256) = ((UInt8.ofNat (s / 256)).toNat : Int) := wf s 256
  have g0 := w8 s
  have b4 := fun (a b c d : Int) => bytesOf4 a b c d
  have hbe := (be4 s).symm
  by_cases hq : be 4 s = (r.drop n).take 4
  · rw [if_pos hq]
    refine ⟨⟨_, Try.func15, by kernel_rfl, rfl⟩, ACall.of Try.func15 rfl fun c0 hc0 => ?_⟩; simp only [Try.ntmps15, List.length_cons, List.length_nil, Nat.reduceAdd, Nat.reduceSub, List.replicate_succ, List.replicate_zero, List.cons_append, List.nil_append]; refine Run.god tab_ok follows_ok Try.func15 60 ?_; simp only [bytesA, byteC, hm', succ_ne, decide_true, decide_false, Int.toNat_zero, Int.reduceToNat, ↓alt_f, Int.reduceLE, drun, aops, aone, aop, needs, ext, aev, aconst, aput, aupd, aload, aindexAddr, acmp, ashift, abin, alen, aslice, tab_3, tab_5, tab_22, ok1, cellsAs, TI.agg, Option.getD_some, Option.bind_some, Option.map_some, Option.map_none, List.set_cons_zero, List.set_cons_succ, List.length_cons, List.length_nil, List.getElem?_cons_zero, List.getElem?_cons_succ, List.drop_zero, List.drop_succ_cons, List.take_succ_cons, List.take_nil, List.map_cons, List.length_map, List.nil_append, true_and, if_true, if_false, Nat.reduceAdd, Nat.zero_add, Bool.not_true, decide_true, decide_false, Nat.reduceLT, Nat.le_refl, List.getD_eq_getElem?_getD, Option.isSome_none, Bool.false_eq_true]
    ((repeat' (apply And.intro)) <;> try (first | rfl | omega | (unfold I64; omega)))
    refine Ops.pure .free rfl rfl (hsp) (by simp only [bytesA, aev, Option.getD_some, List.getElem?_cons_zero, List.getElem?_cons_succ, List.map_cons, List.map_nil, List.nil_append, List.append_nil, List.getD_eq_getElem?_getD]; (repeat' (first | exact LeL.nil | exact Le1L.nil | exact Le.refl _ | exact Le1.refl _ | exact Le1.nil _ | exact Le1.tok _ _ _ | exact LeR.one (Le.refl _) | apply LeR.tup | apply LeL.cons | apply Le1L.cons | apply Le.agg | apply Le.one | apply LeR.one))) rfl rfl ?_
    refine Ops.god tab_ok follows_ok Try.func15 60 ?_; simp only [takeA, bytesA, h1', h2', hwn, List.length_map, decide_true, decide_false, ↓alt_f, drun, aops, aone, aop, needs, ext, aev, aconst, aput, aupd, acmp, aarith, ashift, abin, aconv, alen, aslice, tab_3, tab_5, tab_22, tab_25, tab_75, ok1, Option.getD_some, Option.bind_some, Option.map_some, Option.map_none, List.set_cons_zero, List.set_cons_succ, List.length_cons, List.getElem?_cons_zero, List.getElem?_cons_succ, List.length_map, List.nil_append, true_and, if_true, if_false, Nat.reduceAdd, Nat.zero_add, Bool.not_true, decide_true, decide_false, List.getD_eq_getElem?_getD, Option.isSome_none, Bool.false_eq_true]
    ((repeat' (apply And.intro)) <;> try (first | rfl | omega | (unfold I64; omega)))
    try simp only [hK']
    refine Ops.pure .free rfl rfl (hs) (by simp only [bytesA, byteC, List.map_take, hm', aev, Option.getD_some, List.getElem?_cons_zero, List.getElem?_cons_succ, List.map_cons, List.map_nil, List.nil_append, List.append_nil, List.getD_eq_getElem?_getD]; (repeat' (first | exact LeL.nil | exact Le1L.nil | exact Le.refl _ | exact Le1.refl _ | exact Le1.nil _ | exact Le1.tok _ _ _ | exact LeR.one (Le.refl _) | apply LeR.tup | apply LeL.cons | apply Le1L.cons | apply Le.agg | apply Le.one | apply LeR.one))) rfl rfl ?_
    refine Ops.god tab_ok follows_ok Try.func15 60 ?_; simp only [Try.results15, ↓sh24, ↓sh16, ↓sh8, g3, g2, g1, g0, b4, e4, ← List.map_take, ← List.map_drop, bytesOf_map, UInt8.ofNat_toNat, hbe, e3, hq, decide_true, ↓alt_f, bytesOf_map, Int.reduceLE, drun, adops, adone, places, mayNeed, freeOk, rdOf, wrOf, aops, aone, afin, ares, aresL, ares1, aresOk, aresOk1, aop, needs, ext, aev, aconst, aput, aupd, acmp, aarith, ashift, abin, aconv, aslice, aelems, plains, tab_3, tab_5, tab_9, tab_22, tab_23, ok1, AV.cells, AV.whole, AV.plain, AV.bare, Option.getD_some, Option.bind_some, Option.map_some, Option.map_none, List.set_cons_zero, List.set_cons_succ, List.length_cons, List.length_nil, List.getElem?_cons_zero, List.getElem?_cons_succ, List.map_cons, List.map_nil, List.length_map, List.cons_append, List.nil_append, List.append_nil, List.all_cons, List.all_nil, List.replicate_succ, List.replicate_zero, true_and, and_true, if_true, if_false, Nat.reduceAdd, Nat.reduceLeDiff, Nat.reduceMul, Nat.reduceBEq, Nat.zero_add, Bool.and_self, Bool.and_false, Bool.not_true, decide_true, Nat.reduceLT, Nat.reduceLeDiff, Int.toNat_natCast, List.getD_eq_getElem?_getD, Option.isSome_none, Bool.false_eq_true]
    ((repeat' (apply And.intro)) <;> try (first | rfl | omega | (unfold I64; omega)))
    · rw [← hq, be4]; rfl
    simp only [takeFA, bytesA, ← e1, ← e2]
    (repeat' (first | exact LeL.nil | exact Le1L.nil | exact Le.refl _ | exact Le1.refl _ | exact Le1.nil _ | exact Le1.tok _ _ _ | exact LeR.one (Le.refl _) | apply LeR.tup | apply LeL.cons | apply Le1L.cons | apply Le.agg | apply Le.one | apply LeR.one))
  · rw [if_neg hq]
    refine ⟨⟨_, Try.func15, by kernel_rfl, rfl⟩, ACall.of Try.func15 rfl fun c0 hc0 => ?_⟩; simp only [Try.ntmps15, List.length_cons, List.length_nil, Nat.reduceAdd, Nat.reduceSub, List.replicate_succ, List.replicate_zero, List.cons_append, List.nil_append]; refine Run.god tab_ok follows_ok Try.func15 60 ?_; simp only [bytesA, byteC, hm', succ_ne, decide_true, decide_false, Int.toNat_zero, Int.reduceToNat, ↓alt_f, Int.reduceLE, drun, aops, aone, aop, needs, ext, aev, aconst, aput, aupd, aload, aindexAddr, acmp, ashift, abin, alen, aslice, tab_3, tab_5, tab_22, ok1, cellsAs, TI.agg, Option.getD_some, Option.bind_some, Option.map_some, Option.map_none, List.set_cons_zero, List.set_cons_succ, List.length_cons, List.length_nil, List.getElem?_cons_zero, List.getElem?_cons_succ, List.drop_zero, List.drop_succ_cons, List.take_succ_cons, List.take_nil, List.map_cons, List.length_map, List.nil_append, true_and, if_true, if_false, Nat.reduceAdd, Nat.zero_add, Bool.not_true, decide_true, decide_false, Nat.reduceLT, Nat.le_refl, List.getD_eq_getElem?_getD, Option.isSome_none, Bool.false_eq_true]
    ((repeat' (apply And.intro)) <;> try (first | rfl | omega | (unfold I64; omega)))
    refine Ops.pure .free rfl rfl (hsp) (by simp only [bytesA, aev, Option.getD_some, List.getElem?_cons_zero, List.getElem?_cons_succ, List.map_cons, List.map_nil, List.nil_append, List.append_nil, List.getD_eq_getElem?_getD]; (repeat' (first | exact LeL.nil | exact Le1L.nil | exact Le.refl _ | exact Le1.refl _ | exact Le1.nil _ | exact Le1.tok _ _ _ | exact LeR.one (Le.refl _) | apply LeR.tup | apply LeL.cons | apply Le1L.cons | apply Le.agg | apply Le.one | apply LeR.one))) rfl rfl ?_
    refine Ops.god tab_ok follows_ok Try.func15 60 ?_; simp only [takeA, bytesA, h1', h2', hwn, List.length_map, decide_true, decide_false, ↓alt_f, drun, aops, aone, aop, needs, ext, aev, aconst, aput, aupd, acmp, aarith, ashift, abin, aconv, alen, aslice, tab_3, tab_5, tab_22, tab_25, tab_75, ok1, Option.getD_some, Option.bind_some, Option.map_some, Option.map_none, List.set_cons_zero, List.set_cons_succ, List.length_cons, List.getElem?_cons_zero, List.getElem?_cons_succ, List.length_map, List.nil_append, true_and, if_true, if_false, Nat.reduceAdd, Nat.zero_add, Bool.not_true, decide_true, decide_false, List.getD_eq_getElem?_getD, Option.isSome_none, Bool.false_eq_true]
    ((repeat' (apply And.intro)) <;> try (first | rfl | omega | (unfold I64; omega)))
    try simp only [hK']
    refine Ops.pure .free rfl rfl (hs) (by simp only [bytesA, byteC, List.map_take, hm', aev, Option.getD_some, List.getElem?_cons_zero, List.getElem?_cons_succ, List.map_cons, List.map_nil, List.nil_append, List.append_nil, List.getD_eq_getElem?_getD]; (repeat' (first | exact LeL.nil | exact Le1L.nil | exact Le.refl _ | exact Le1.refl _ | exact Le1.nil _ | exact Le1.tok _ _ _ | exact LeR.one (Le.refl _) | apply LeR.tup | apply LeL.cons | apply Le1L.cons | apply Le.agg | apply Le.one | apply LeR.one))) rfl rfl ?_
    refine Ops.god tab_ok follows_ok Try.func15 60 ?_; simp only [Try.results15, ↓sh24, ↓sh16, ↓sh8, g3, g2, g1, g0, b4, e4, ← List.map_take, ← List.map_drop, bytesOf_map, UInt8.ofNat_toNat, hbe, e3, hq, decide_false, ↓alt_t, bytesOf_map, Int.reduceLE, drun, adops, adone, places, mayNeed, freeOk, rdOf, wrOf, aops, aone, afin, ares, aresL, ares1, aresOk, aresOk1, aop, needs, ext, aev, aconst, aput, aupd, acmp, aarith, ashift, abin, aconv, aslice, aelems, plains, tab_3, tab_5, tab_9, tab_22, tab_23, ok1, AV.cells, AV.whole, AV.plain, AV.bare, Option.getD_some, Option.bind_some, Option.map_some, List.set_cons_zero, List.set_cons_succ, List.length_cons, List.length_nil, List.getElem?_cons_zero, List.getElem?_cons_succ, List.map_cons, List.map_nil, List.length_map, List.cons_append, List.nil_append, List.all_cons, List.all_nil, List.replicate_succ, List.replicate_zero, true_and, and_true, if_true, if_false, Nat.reduceAdd, Nat.reduceLeDiff, Nat.reduceMul, Nat.reduceBEq, Nat.zero_add, Bool.and_self, Bool.and_false, Bool.not_false, decide_false, Nat.reduceLT, Nat.reduceLeDiff, Int.toNat_natCast, List.getD_eq_getElem?_getD, Option.isSome_none, Bool.false_eq_true]
    ((repeat' (apply And.intro)) <;> try (first | rfl | omega | (unfold I64; omega)))
    · rw [be4]; rfl
    simp only [takeFA, bytesA, List.map_nil]
    (repeat' (first | exact LeL.nil | exact Le1L.nil | exact Le.refl _ | exact Le1.refl _ | exact Le1.nil _ | exact Le1.tok _ _ _ | exact LeR.one (Le.refl _) | apply LeR.tup | apply LeL.cons | apply Le1L.cons | apply Le.agg | apply Le.one | apply LeR.one))
set_option maxRecDepth 20000 in
theorem scan15_spec (b : Bytes) (hb : b.length ≤ 8000000) : ASpec Try.prog 24 [bytesA b] (.tup [rowsA (scanS b).1, .int .i64 ((b.length : Int) - (scanS b).2.length)]) := by
  refine ⟨⟨_, Try.func24, by kernel_rfl, rfl⟩, ACall.of Try.func24 rfl fun c0 hc0 => ?_⟩; simp only [Try.ntmps24, List.length_cons, List.length_nil, Nat.reduceAdd, Nat.reduceSub, List.replicate_succ, List.replicate_zero, List.cons_append, List.nil_append]; refine Run.god tab_ok follows_ok Try.func24 60 ?_; simp only [bytesA, drun, aops, aone, aop, needs, ext, aev, aconst, aput, aupd, ok1, Option.getD_some, List.set_cons_zero, List.set_cons_succ, List.getElem?_cons_zero, List.getElem?_cons_succ, List.nil_append, true_and, if_false, List.getD_eq_getElem?_getD, Bool.false_eq_true]
  refine Run.weak (Weak.own 4 1 rfl) ?_
  simp only [List.set_cons_zero, List.set_cons_succ, List.length_nil, List.nil_append]
  refine Run.loopV (α := List Bytes × Bytes) (fun x => scanS b = (x.1 ++ (scanS x.2).1, (scanS x.2).2) ∧ x.1.length + x.2.length ≤ b.length) (fun x => [(4, .sl 1 (x.1.map rowC) (.own 0)), (5, bytesA x.2)]) 1 (fun x => [(0, .tok 1 x.1.length)]) (fun x => x.2.length) ([], b) ⟨by simp, by simp⟩ ?_ ?_
  · simp only [writes, junks, puts, hputs, List.filterMap_cons, List.filterMap_nil, List.set_cons_zero, List.set_cons_succ, List.length_nil, List.take_succ_cons, List.take_nil, List.map_nil, List.cons_append, List.nil_append, List.append_nil, bytesA]
    (refine Weak.of (by simp [hc0]) ?_ ?_ <;> (repeat' (first | exact WkT.nil | exact WkH.nil _ | exact Le.refl _ | exact Le.junk _ | exact Le1.refl _ | exact Le1.nil _ | exact Le1.tok _ _ _ | exact Le1L.nil | rfl | apply WkT.cons | apply WkH.cons | apply LeB.same | apply LeB.box | apply Le1L.cons | apply Le.agg | apply Le.one)))
  rintro ⟨m, y⟩ ⟨hI, hml⟩ ih
  simp only [writes, junks, puts, hputs, List.filterMap_cons, List.filterMap_nil, List.set_cons_zero, List.set_cons_succ, List.take_succ_cons, List.take_nil, List.cons_append, List.nil_append, List.append_nil] at hI hml ih ⊢
  have hsp := ctake15_spec y (by omega)
  cases hty : takeF y with
  | error z =>
    rw [hty] at hsp
    have hz : ¬ z = 0 := by rcases takeF_err hty with h | h | h | h <;> omega
    rw [scanS_err hty, List.append_nil] at hI
    rw [hI]
    refine Run.god tab_ok follows_ok Try.func24 60 ?_; simp only [bytesA, drun, aops, aone, aop, needs, ext, aev, aput, aupd, ok1, Option.getD_some, List.set_cons_zero, List.set_cons_succ, List.getElem?_cons_zero, List.getElem?_cons_succ, List.cons_append, List.nil_append, true_and, if_false, Nat.zero_add, List.getD_eq_getElem?_getD, Bool.false_eq_true]
    ((repeat' (apply And.intro)) <;> try (first | rfl | omega | (unfold I64; omega)))
    refine Ops.pure .free rfl rfl (hsp) (by simp only [bytesA, aev, Option.getD_some, List.getElem?_cons_zero, List.getElem?_cons_succ, List.map_cons, List.map_nil, List.nil_append, List.append_nil, List.getD_eq_getElem?_getD]; (repeat' (first | exact LeL.nil | exact Le1L.nil | exact Le.refl _ | exact Le1.refl _ | exact Le1.nil _ | exact Le1.tok _ _ _ | exact LeR.one (Le.refl _) | apply LeR.tup | apply LeL.cons | apply Le1L.cons | apply Le.agg | apply Le.one | apply LeR.one))) rfl rfl ?_
    refine Ops.god tab_ok follows_ok Try.func24 60 ?_; simp only [Try.results24, takeFA, bytesA, hz, List.length_map, decide_false, ↓alt_t, drun, aops, aone, afin, ares, aresL, ares1, aresOk, aresOk1, aop, needs, ext, aev, aconst, aput, aupd, acmp, aarith, ashift, abin, alen, tab_3, tab_22, tab_25, ok1, Option.getD_some, Option.bind_some, Option.map_some, List.set_cons_zero, List.set_cons_succ, List.getElem?_cons_zero, List.getElem?_cons_succ, List.map_nil, List.length_map, List.cons_append, List.nil_append, true_and, and_true, if_true, if_false, Bool.not_false, decide_false, List.getD_eq_getElem?_getD, Bool.false_eq_true]
    ((repeat' (apply And.intro)) <;> try (first | rfl | omega | (unfold I64; omega)))
    simp only [rowsA]
    (repeat' (first | exact LeL.nil | exact Le1L.nil | exact Le.refl _ | exact Le1.refl _ | exact Le1.nil _ | exact Le1.tok _ _ _ | exact LeR.one (Le.refl _) | apply LeR.tup | apply LeL.cons | apply Le1L.cons | apply Le.agg | apply Le.one | apply LeR.one))
  | ok p =>
    obtain ⟨x, r⟩ := p
    rw [hty] at hsp
    have hsh := (takeF_shorter hty).1
    rw [scanS_ok hty] at hI
    refine Run.god tab_ok follows_ok Try.func24 60 ?_; simp only [bytesA, drun, aops, aone, aop, needs, ext, aev, aput, aupd, ok1, Option.getD_some, List.set_cons_zero, List.set_cons_succ, List.getElem?_cons_zero, List.getElem?_cons_succ, List.cons_append, List.nil_append, true_and, if_false, Nat.zero_add, List.getD_eq_getElem?_getD, Bool.false_eq_true]
    ((repeat' (apply And.intro)) <;> try (first | rfl | omega | (unfold I64; omega)))
    refine Ops.pure .free rfl rfl (hsp) (by simp only [bytesA, aev, Option.getD_some, List.getElem?_cons_zero, List.getElem?_cons_succ, List.map_cons, List.map_nil, List.nil_append, List.append_nil, List.getD_eq_getElem?_getD]; (repeat' (first | exact LeL.nil | exact Le1L.nil | exact Le.refl _ | exact Le1.refl _ | exact Le1.nil _ | exact Le1.tok _ _ _ | exact LeR.one (Le.refl _) | apply LeR.tup | apply LeL.cons | apply Le1L.cons | apply Le.agg | apply Le.one | apply LeR.one))) rfl rfl ?_
    refine Ops.god tab_ok follows_ok Try.func24 60 ?_; simp only [takeFA, bytesA, List.length_map, decide_true, ↓alt_f, aappendM, drun, aops, aone, aop, needs, ext, aev, aconst, aput, aupd, acmp, ashift, abin, aelems, plains, asrc, aappend, tab_22, tab_25, tab_34, ok1, AV.cells, AV.whole, AV.plain, AV.bare, Option.getD_some, Option.bind_some, Option.map_some, List.set_cons_zero, List.set_cons_succ, List.length_cons, List.length_nil, List.getElem?_cons_zero, List.getElem?_cons_succ, List.getElem?_toArray, List.map_cons, List.map_nil, List.length_map, List.cons_append, List.nil_append, List.all_cons, List.all_nil, List.replicate_succ, List.replicate_zero, true_and, and_true, if_true, if_false, Nat.reduceLeDiff, Nat.reduceMul, Nat.reduceBEq, Nat.zero_add, Bool.and_self, Bool.and_false, Bool.not_true, decide_true, Nat.reduceLT, Nat.reduceLeDiff, List.getD_eq_getElem?_getD, Bool.false_eq_true]
    ((repeat' (apply And.intro)) <;> try (first | rfl | omega | (unfold I64; omega)))
    refine ih (m ++ [x], r) _ ⟨by rw [hI]; simp, by simp; omega⟩ (by dsimp only; omega) ?_
    simp only [List.length_cons, List.length_nil, List.map_cons, List.map_nil, Nat.zero_add, List.map_append, List.length_append, rowC, bytesA]
    (refine Weak.of (by simp [hc0]) ?_ ?_ <;> (repeat' (first | exact WkT.nil | exact WkH.nil _ | exact Le.refl _ | exact Le.junk _ | exact Le1.refl _ | exact Le1.nil _ | exact Le1.tok _ _ _ | exact Le1L.nil | rfl | apply WkT.cons | apply WkH.cons | apply LeB.same | apply LeB.box | apply Le1L.cons | apply Le.agg | apply Le.one)))
set_option maxRecDepth 20000 in
theorem rscan15_spec (b : Bytes) (hb : b.length ≤ 8000000) : ASpec Try.prog 25 [bytesA b] (.tup [rowsA (scanS b).1, .int .i64 ((b.length : Int) - (scanS b).2.length)]) := by
  refine ⟨⟨_, Try.func25, by kernel_rfl, rfl⟩, ACall.of Try.func25 rfl fun c0 hc0 => ?_⟩; simp only [Try.ntmps25, List.length_cons, List.length_nil, Nat.reduceAdd, Nat.reduceSub, List.replicate_succ, List.replicate_zero, List.cons_append, List.nil_append]; refine Run.god tab_ok follows_ok Try.func25 60 ?_; simp only [bytesA, drun, aops, aone, aop, needs, ext, aev, aconst, aput, aupd, aelems, plains, tab_22, tab_34, ok1, Option.getD_some, Option.bind_some, Option.map_some, List.set_cons_zero, List.set_cons_succ, List.length_nil, List.getElem?_cons_zero, List.getElem?_cons_succ, List.map_nil, List.cons_append, List.nil_append, List.all_nil, List.replicate_zero, true_and, and_true, if_true, if_false, Nat.reduceLeDiff, Nat.reduceMul, beq_self_eq_true, Bool.and_true, Nat.reduceLT, Nat.reduceLeDiff, List.getD_eq_getElem?_getD, Bool.false_eq_true]
  refine Run.loopV (α := List Bytes × Bytes) (fun x => scanS b = (x.1 ++ (scanS x.2).1, (scanS x.2).2) ∧ x.1.length + x.2.length ≤ b.length) (fun x => [(4, .sl 1 (x.1.map rowC) (.own 0)), (5, bytesA x.2)]) 1 (fun x => [(0, .tok 1 x.1.length)]) (fun x => x.2.length) ([], b) ⟨by simp, by simp⟩ ?_ ?_
  · simp only [writes, junks, puts, hputs, List.filterMap_cons, List.filterMap_nil, List.set_cons_zero, List.set_cons_succ, List.length_nil, List.take_succ_cons, List.take_nil, List.map_nil, List.cons_append, List.nil_append, List.append_nil, bytesA]
    (refine Weak.of (by simp [hc0]) ?_ ?_ <;> (repeat' (first | exact WkT.nil | exact WkH.nil _ | exact Le.refl _ | exact Le.junk _ | exact Le1.refl _ | exact Le1.nil _ | exact Le1.tok _ _ _ | exact Le1L.nil | rfl | apply WkT.cons | apply WkH.cons | apply LeB.same | apply LeB.box | apply Le1L.cons | apply Le.agg | apply Le.one)))
  rintro ⟨m, y⟩ ⟨hI, hml⟩ ih
  simp only [writes, junks, puts, hputs, List.filterMap_cons, List.filterMap_nil, List.set_cons_zero, List.set_cons_succ, List.take_succ_cons, List.take_nil, List.cons_append, List.nil_append, List.append_nil] at hI hml ih ⊢
  have hsp := rctake15_spec y (by omega)
  cases hty : takeF y with
  | error z =>
    rw [hty] at hsp
    have hz : ¬ z = 0 := by rcases takeF_err hty with h | h | h | h <;> omega
    rw [scanS_err hty, List.append_nil] at hI
    rw [hI]
    refine Run.god tab_ok follows_ok Try.func25 60 ?_; simp only [bytesA, drun, aops, aone, aop, needs, ext, aev, aput, aupd, ok1, Option.getD_some, List.set_cons_zero, List.set_cons_succ, List.getElem?_cons_zero, List.getElem?_cons_succ, List.cons_append, List.nil_append, true_and, if_false, Nat.zero_add, List.getD_eq_getElem?_getD, Bool.false_eq_true]
    ((repeat' (apply And.intro)) <;> try (first | rfl | omega | (unfold I64; omega)))
    refine Ops.pure .free rfl rfl (hsp) (by simp only [bytesA, aev, Option.getD_some, List.getElem?_cons_zero, List.getElem?_cons_succ, List.map_cons, List.map_nil, List.nil_append, List.append_nil, List.getD_eq_getElem?_getD]; (repeat' (first | exact LeL.nil | exact Le1L.nil | exact Le.refl _ | exact Le1.refl _ | exact Le1.nil _ | exact Le1.tok _ _ _ | exact LeR.one (Le.refl _) | apply LeR.tup | apply LeL.cons | apply Le1L.cons | apply Le.agg | apply Le.one | apply LeR.one))) rfl rfl ?_
    refine Ops.god tab_ok follows_ok Try.func25 60 ?_; simp only [Try.results25, takeFA, bytesA, hz, List.length_map, decide_false, ↓alt_t, drun, aops, aone, afin, ares, aresL, ares1, aresOk, aresOk1, aop, needs, ext, aev, aconst, aput, aupd, acmp, aarith, ashift, abin, alen, tab_3, tab_22, tab_25, ok1, Option.getD_some, Option.bind_some, Option.map_some, List.set_cons_zero, List.set_cons_succ, List.getElem?_cons_zero, List.getElem?_cons_succ, List.map_nil, List.length_map, List.cons_append, List.nil_append, true_and, and_true, if_true, if_false, Bool.not_false, decide_false, List.getD_eq_getElem?_getD, Bool.false_eq_true]
    ((repeat' (apply And.intro)) <;> try (first | rfl | omega | (unfold I64; omega)))
    simp only [rowsA]
    (repeat' (first | exact LeL.nil | exact Le1L.nil | exact Le.refl _ | exact Le1.refl _ | exact Le1.nil _ | exact Le1.tok _ _ _ | exact LeR.one (Le.refl _) | apply LeR.tup | apply LeL.cons | apply Le1L.cons | apply Le.agg | apply Le.one | apply LeR.one))
  | ok p =>
    obtain ⟨x, r⟩ := p
    rw [hty] at hsp
    have hsh := (takeF_shorter hty).1
    rw [scanS_ok hty] at hI
    refine Run.god tab_ok follows_ok Try.func25 60 ?_; simp only [bytesA, drun, aops, aone, aop, needs, ext, aev, aput, aupd, ok1, Option.getD_some, List.set_cons_zero, List.set_cons_succ, List.getElem?_cons_zero, List.getElem?_cons_succ, List.cons_append, List.nil_append, true_and, if_false, Nat.zero_add, List.getD_eq_getElem?_getD, Bool.false_eq_true]
    ((repeat' (apply And.intro)) <;> try (first | rfl | omega | (unfold I64; omega)))
    refine Ops.pure .free rfl rfl (hsp) (by simp only [bytesA, aev, Option.getD_some, List.getElem?_cons_zero, List.getElem?_cons_succ, List.map_cons, List.map_nil, List.nil_append, List.append_nil, List.getD_eq_getElem?_getD]; (repeat' (first | exact LeL.nil | exact Le1L.nil | exact Le.refl _ | exact Le1.refl _ | exact Le1.nil _ | exact Le1.tok _ _ _ | exact LeR.one (Le.refl _) | apply LeR.tup | apply LeL.cons | apply Le1L.cons | apply Le.agg | apply Le.one | apply LeR.one))) rfl rfl ?_
    refine Ops.god tab_ok follows_ok Try.func25 60 ?_; simp only [takeFA, bytesA, List.length_map, decide_true, ↓alt_f, aappendM, drun, aops, aone, aop, needs, ext, aev, aconst, aput, aupd, acmp, ashift, abin, aelems, plains, asrc, aappend, tab_22, tab_25, tab_34, ok1, AV.cells, AV.whole, AV.plain, AV.bare, Option.getD_some, Option.bind_some, Option.map_some, List.set_cons_zero, List.set_cons_succ, List.length_cons, List.length_nil, List.getElem?_cons_zero, List.getElem?_cons_succ, List.getElem?_toArray, List.map_cons, List.map_nil, List.length_map, List.cons_append, List.nil_append, List.all_cons, List.all_nil, List.replicate_succ, List.replicate_zero, true_and, and_true, if_true, if_false, Nat.reduceLeDiff, Nat.reduceMul, Nat.reduceBEq, Nat.zero_add, Bool.and_self, Bool.and_false, Bool.not_true, decide_true, Nat.reduceLT, Nat.reduceLeDiff, List.getD_eq_getElem?_getD, Bool.false_eq_true]
    ((repeat' (apply And.intro)) <;> try (first | rfl | omega | (unfold I64; omega)))
    refine ih (m ++ [x], r) _ ⟨by rw [hI]; simp, by simp; omega⟩ (by dsimp only; omega) ?_
    simp only [List.length_cons, List.length_nil, List.map_cons, List.map_nil, Nat.zero_add, List.map_append, List.length_append, rowC, bytesA]
    (refine Weak.of (by simp [hc0]) ?_ ?_ <;> (repeat' (first | exact WkT.nil | exact WkH.nil _ | exact Le.refl _ | exact Le.junk _ | exact Le1.refl _ | exact Le1.nil _ | exact Le1.tok _ _ _ | exact Le1L.nil | rfl | apply WkT.cons | apply WkH.cons | apply LeB.same | apply LeB.box | apply Le1L.cons | apply Le.agg | apply Le.one)))
set_option maxRecDepth 20000 in
theorem rows15_spec (l m : List Bytes) (hl : l.length ≤ 1000000000000) : ASpec Try.prog 26 [rowsA l, rowsA m] (.bool (decide (l = m))) := by
  by_cases hlm : l.length = m.length
  · have hlm' : (l.length : Int) = m.length := by omega
    refine ⟨⟨_, Try.func26, by kernel_rfl, rfl⟩, ACall.of Try.func26 rfl fun c0 hc0 => ?_⟩; simp only [Try.ntmps26, List.length_cons, List.length_nil, Nat.reduceAdd, Nat.reduceSub, List.replicate_succ, List.replicate_zero, List.cons_append, List.nil_append]; refine Run.god tab_ok follows_ok Try.func26 60 ?_; simp only [rowsA, List.length_map, hlm', decide_true, ↓alt_f, drun, aops, aone, aop, needs, ext, aev, aconst, aput, aupd, acmp, ashift, abin, alen, tab_3, tab_34, ok1, Option.getD_some, Option.bind_some, List.set_cons_zero, List.set_cons_succ, List.getElem?_cons_zero, List.getElem?_cons_succ, List.length_map, List.nil_append, true_and, if_true, if_false, Bool.not_true, decide_true, List.getD_eq_getElem?_getD, Bool.false_eq_true]
    refine Run.loopV (α := Nat) (fun k => k ≤ l.length ∧ (l = m ↔ l.drop k = m.drop k)) (fun k => [(5, .int .i64 k)]) 0 (fun _ => []) (fun k => l.length - k) 0 ⟨Nat.zero_le _, Iff.rfl⟩ ?_ ?_
    · simp only [writes, junks, puts, hputs, List.filterMap_cons, List.filterMap_nil, Int.natCast_zero, List.set_cons_zero, List.set_cons_succ, List.take_nil, List.cons_append, List.nil_append, List.append_nil]
      (refine Weak.of (by simp [hc0]) ?_ ?_ <;> (repeat' (first | exact WkT.nil | exact WkH.nil _ | exact Le.refl _ | exact Le.junk _ | exact Le1.refl _ | exact Le1.nil _ | exact Le1.tok _ _ _ | exact Le1L.nil | rfl | apply WkT.cons | apply WkH.cons | apply LeB.same | apply LeB.box | apply Le1L.cons | apply Le.agg | apply Le.one)))
    rintro k ⟨hI, hk2⟩ ih
    simp only [writes, junks, puts, hputs, List.filterMap_cons, List.filterMap_nil, List.set_cons_zero, List.set_cons_succ, List.take_nil, List.cons_append, List.nil_append, List.append_nil] at ih ⊢
    by_cases hk : k < l.length
    · obtain ⟨x, hx⟩ : ∃ x, l[k]? = some x := ⟨_, List.getElem?_eq_getElem hk⟩
      obtain ⟨y, hy⟩ : ∃ x, m[k]? = some x := ⟨_, List.getElem?_eq_getElem (by omega)⟩
      have hkk : (k : Int) < m.length := by omega
      rw [drop_eq hx hy] at hk2
      by_cases hxy : x = y
      · subst hxy
        refine Run.god tab_ok follows_ok Try.func26 60 ?_; simp only [hx, hy, hkk, hlm', rowC, bytesA, List.getElem?_map, List.length_map, decide_true, ↓alt_t, ↓alt_f, bytesOf_map, drun, adops, adone, places, mayNeed, freeOk, rdOf, AV.id, wrOf, aops, aone, aop, needs, ext, aev, aconst, aput, aupd, aload, aindexAddr, acmp, aarith, ashift, abin, aconv, alen, tab_3, tab_5, tab_9, tab_22, tab_34, ok1, cellsAs, TI.agg, Option.getD_some, Option.bind_some, Option.map_some, List.set_cons_zero, List.set_cons_succ, List.length_cons, List.length_nil, List.getElem?_cons_zero, List.getElem?_cons_succ, List.take_succ_cons, List.take_nil, List.length_map, List.cons_append, List.nil_append, List.append_nil, true_and, and_true, if_true, if_false, Nat.zero_add, Bool.not_true, decide_true, Nat.reduceLT, Nat.le_refl, Int.toNat_natCast, List.getD_eq_getElem?_getD, Bool.false_eq_true]
        ((repeat' (apply And.intro)) <;> try (first | rfl | omega | (unfold I64; omega)))
        refine ih (k + 1) _ ⟨by omega, by rw [hk2]; simp⟩ (by omega) ?_
        simp only [Int.natCast_add, Int.natCast_one]
        (refine Weak.of (by simp [hc0]) ?_ ?_ <;> (repeat' (first | exact WkT.nil | exact WkH.nil _ | exact Le.refl _ | exact Le.junk _ | exact Le1.refl _ | exact Le1.nil _ | exact Le1.tok _ _ _ | exact Le1L.nil | rfl | apply WkT.cons | apply WkH.cons | apply LeB.same | apply LeB.box | apply Le1L.cons | apply Le.agg | apply Le.one)))
      · refine Run.god tab_ok follows_ok Try.func26 60 ?_; simp only [Try.results26, hx, hy, hkk, hxy, hlm', rowC, bytesA, List.getElem?_map, List.length_map, decide_true, decide_false, ↓alt_t, bytesOf_map, drun, adops, adone, places, mayNeed, freeOk, rdOf, AV.id, wrOf, aops, aone, afin, ares, aresL, ares1, aresOk, aresOk1, aop, needs, ext, aev, aconst, aput, aupd, aload, aindexAddr, acmp, ashift, abin, aconv, alen, tab_3, tab_5, tab_9, tab_22, tab_34, ok1, cellsAs, TI.agg, Option.getD_some, Option.bind_some, Option.map_some, List.set_cons_zero, List.set_cons_succ, List.length_cons, List.length_nil, List.getElem?_cons_zero, List.getElem?_cons_succ, List.take_succ_cons, List.take_nil, List.length_map, List.cons_append, List.nil_append, List.append_nil, true_and, and_true, if_true, if_false, Nat.zero_add, Bool.not_false, decide_true, decide_false, Nat.reduceLT, Nat.le_refl, Int.toNat_natCast, List.getD_eq_getElem?_getD, Bool.false_eq_true]
        ((repeat' (apply And.intro)) <;> try (first | rfl | omega | (unfold I64; omega)))
        rw [show decide (l = m) = false by rw [decide_eq_false_iff_not, hk2]; exact fun h => hxy h.1]
        (repeat' (first | exact LeL.nil | exact Le1L.nil | exact Le.refl _ | exact Le1.refl _ | exact Le1.nil _ | exact Le1.tok _ _ _ | exact LeR.one (Le.refl _) | apply LeR.tup | apply LeL.cons | apply Le1L.cons | apply Le.agg | apply Le.one | apply LeR.one))
    · obtain rfl : k = l.length := by omega
      have hkk : ¬ (m.length : Int) < m.length := by omega
      refine Run.god tab_ok follows_ok Try.func26 60 ?_; simp only [Try.results26, hkk, hlm', List.length_map, ↓alt_f, drun, aops, aone, afin, ares, aresL, ares1, aresOk, aresOk1, aop, needs, ext, aev, aconst, aput, aupd, acmp, ashift, abin, alen, tab_3, tab_34, ok1, exitTo, Option.getD_some, Option.bind_some, Option.map_some, List.set_cons_zero, List.set_cons_succ, List.getElem?_cons_zero, List.getElem?_cons_succ, List.length_map, List.nil_append, true_and, and_true, if_true, if_false, beq_self_eq_true, decide_false, List.getD_eq_getElem?_getD, Bool.false_eq_true]
      rw [show decide (l = m) = true by rw [decide_eq_true_eq, hk2, hlm, List.drop_length, ← hlm, List.drop_length]]
      (repeat' (first | exact LeL.nil | exact Le1L.nil | exact Le.refl _ | exact Le1.refl _ | exact Le1.nil _ | exact Le1.tok _ _ _ | exact LeR.one (Le.refl _) | apply LeR.tup | apply LeL.cons | apply Le1L.cons | apply Le.agg | apply Le.one | apply LeR.one))
  · have hlm' : ¬ (l.length : Int) = m.length := by omega
    refine ⟨⟨_, Try.func26, by kernel_rfl, rfl⟩, ACall.of Try.func26 rfl fun c0 hc0 => ?_⟩; simp only [Try.ntmps26, List.length_cons, List.length_nil, Nat.reduceAdd, Nat.reduceSub, List.replicate_succ, List.replicate_zero, List.cons_append, List.nil_append]; refine Run.god tab_ok follows_ok Try.func26 60 ?_; simp only [Try.results26, rowsA, List.length_map, hlm', decide_false, ↓alt_t, drun, aops, aone, afin, ares, aresL, ares1, aresOk, aresOk1, aop, needs, ext, aev, aconst, aput, aupd, acmp, ashift, abin, alen, tab_3, tab_34, ok1, Option.getD_some, Option.bind_some, Option.map_some, List.set_cons_zero, List.set_cons_succ, List.getElem?_cons_zero, List.getElem?_cons_succ, List.length_map, List.nil_append, true_and, and_true, if_true, if_false, Bool.not_false, decide_false, List.getD_eq_getElem?_getD, Bool.false_eq_true]
    rw [show decide (l = m) = false by rw [decide_eq_false_iff_not]; intro h; exact hlm (by rw [h])]
    (repeat' (first | exact LeL.nil | exact Le1L.nil | exact Le.refl _ | exact Le1.refl _ | exact Le1.nil _ | exact Le1.tok _ _ _ | exact LeR.one (Le.refl _) | apply LeR.tup | apply LeL.cons | apply Le1L.cons | apply Le.agg | apply Le.one | apply LeR.one))
end Go.Proofs.Ytcafahcmalfepaa
/-
  A log of records on a disk, as data: what each act makes of it. Plain; no program.
-/
namespace Go.Proofs.Ytcafahcmalfepaa
structure WL where
  d : DD
  l : List Bytes
def allD (d : DD) : Bytes := d.safe ++ d.loose
def recordsS (d : DD) : List Bytes := (scanS (allD d)).1
def openS (d : DD) : WL × Int :=
  if d.down = true then (⟨d, []⟩, 11)
  else if (scanS (allD d)).2 = [] ∧ d.loose = [] then (⟨d, recordsS d⟩, 0)
  else if (replaceS d (frs (recordsS d))).2 = 0 then (⟨(replaceS d (frs (recordsS d))).1, recordsS d⟩, 0)
  else (⟨(replaceS d (frs (recordsS d))).1, []⟩, (replaceS d (frs (recordsS d))).2)
def largeB (l : List Bytes) : Bool := l.any fun x => decide (20000 < x.length)
def appendS (g : WL) (r : List Bytes) : WL × Int :=
  if largeB r = true then (g, 5)
  else if r = [] then (g, 0)
  else if (writeS g.d (frs r)).2 = 0 then
    (if (syncS (writeS g.d (frs r)).1).2 = 0 then (⟨(syncS (writeS g.d (frs r)).1).1, g.l ++ r⟩, 0) else (⟨(syncS (writeS g.d (frs r)).1).1, g.l⟩, (syncS (writeS g.d (frs r)).1).2))
  else (⟨(writeS g.d (frs r)).1, g.l⟩, (writeS g.d (frs r)).2)
def cutS (g : WL) (x : Bytes) : WL × Int :=
  if 20000 < x.length then (g, 5)
  else if (replaceS g.d (fr x)).2 = 0 then (⟨(replaceS g.d (fr x)).1, [x]⟩, 0)
  else (⟨(replaceS g.d (fr x)).1, g.l⟩, (replaceS g.d (fr x)).2)
def crashW (g : WL) (n : Int) : WL := ⟨crashS g.d n, []⟩
def blowW (g : WL) (n : Int) : WL := ⟨blowS g.d n, g.l⟩
def sameW (a b : WL) : Bool := sameB a.d b.d && decide (a.l = b.l)
theorem sameW_refl (a : WL) : sameW a a = true := by simp [sameW, sameB_refl]
/-- The bytes of a disk up to where the frames end. -/
theorem take_good (d : DD) : (allD d).take ((allD d).length - (scanS (allD d)).2.length) = frs (recordsS d) := by
  obtain ⟨h, _⟩ := scanS_split (allD d)
  have e : (allD d).length - (scanS (allD d)).2.length = (frs (scanS (allD d)).1).length := by
    have := congrArg List.length h
    rw [List.length_append] at this
    omega
  rw [e]
  unfold recordsS
  generalize scanS (allD d) = s at *
  rw [← h]
  exact List.take_left
/-! ### RECOVERS -/
/-- What a log of the records S holds; a beginning of the frames of M stands behind them in the disk. -/
structure Rec (S M : List Bytes) (y : DD) : Prop where
  right : rightB y = true
  safe : y.safe = frs S
  loose : y.loose = [] ∨ (y.loose = frs M ∧ y.down = true)
  long : (∀ x ∈ S, x.length ≤ 20000) ∧ ∀ x ∈ M, x.length ≤ 20000
/-- A beginning of frames: whole ones, and then none. -/
theorem scan_begin (M : List Bytes) (hM : ∀ x ∈ M, x.length ≤ 100000) (k : Nat) : ∃ j, j ≤ M.length ∧ (scanS ((frs M).take k)).1 = M.take j ∧ ((scanS ((frs M).take k)).2 = [] → (frs M).take k = frs (M.take j)) := by
  induction M generalizing k with
  | nil => 
    refine ⟨0, by simp, ?_, fun _ => by simp [frs]⟩
    have : takeF ((frs []).take k) = .error 2 := by simp [frs, takeF]
    rw [scanS_err this]; rfl
  | cons x M ih =>
    rw [frs_cons]
    by_cases hk : k < (fr x).length
    · rw [List.take_append_of_le_length (by omega)]
      obtain ⟨z, hz⟩ := takeF_cut x (hM x (by simp)) k hk
      refine ⟨0, by omega, by rw [scanS_err hz]; rfl, fun h => ?_⟩
      rw [scanS_err hz] at h
      have h : (fr x).take k = [] := h
      rw [h]; simp [frs]
    · obtain ⟨j, h1, h2, h3⟩ := ih (fun y hy => hM y (by simp [hy])) (k - (fr x).length)
      have e : (fr x ++ frs M).take k = fr x ++ (frs M).take (k - (fr x).length) := by
        rw [List.take_append, List.take_of_length_le (by omega)]
      refine ⟨j + 1, by simp; omega, ?_, fun h => ?_⟩
      · rw [e, scanS_ok (takeF_fr x _ (hM x (by simp))), h2]; rfl
      · rw [e] at h ⊢
        rw [scanS_ok (takeF_fr x _ (hM x (by simp)))] at h
        rw [h3 h, List.take_succ_cons, frs_cons]
end Go.Proofs.Ytcafahcmalfepaa
/-
  Logs on disks, in plain words: what holds of one, whatever is done. No program.
-/
namespace Go.Proofs.Ytcafahcmalfepaa
def i64 (n : Int) : Prop := -9223372036854775808 ≤ n ∧ n ≤ 9223372036854775807
theorem right_iff (d : DD) : rightB d = true ↔ 0 ≤ d.cap ∧ d.cap ≤ 1000000 ∧ ((d.safe.length + d.loose.length : Nat) : Int) ≤ d.cap := by
  unfold rightB; rw [decide_eq_true_eq]
theorem act_cases (d : DD) (hf : i64 d.fuse) : ∃ dn fu z, actS d = (⟨d.cap, d.safe, d.loose, dn, fu⟩, z) ∧ i64 fu ∧ ((z = 11 ∧ dn = true) ∨ (z = 0 ∧ dn = false ∧ d.down = false)) := by
  obtain ⟨ca, sa, lo, dn, fu⟩ := d
  unfold i64 at hf
  simp only at hf
  unfold actS i64
  dsimp only
  cases dn with
  | true => exact ⟨true, fu, 11, by simp, hf, .inl ⟨rfl, rfl⟩⟩
  | false =>
    by_cases h0 : fu = 0
    · exact ⟨true, 0, 11, by simp [h0], by omega, .inl ⟨rfl, rfl⟩⟩
    · by_cases hp : 0 < fu
      · exact ⟨false, fu - 1, 0, by simp [h0, hp], by omega, .inr ⟨rfl, rfl, rfl⟩⟩
      · exact ⟨false, fu, 0, by simp [h0, hp], hf, .inr ⟨rfl, rfl, rfl⟩⟩
theorem do_down {d : DD} {dn : Bool} {fu : Int} (ha : actS d = (⟨d.cap, d.safe, d.loose, dn, fu⟩, 11)) (n : Int) (f : DD → DD) : doS d n f = (⟨d.cap, d.safe, d.loose, dn, fu⟩, 11) := by
  unfold doS
  rw [ha]
  exact if_neg (by simp)
theorem do_full {d : DD} {dn : Bool} {fu : Int} (ha : actS d = (⟨d.cap, d.safe, d.loose, dn, fu⟩, 0)) {n : Int} (hn : d.cap < n) (f : DD → DD) : doS d n f = (⟨d.cap, d.safe, d.loose, dn, fu⟩, 9) := by
  unfold doS
  rw [ha]
  simp only [if_true]
  rw [if_pos hn]
theorem do_ok {d : DD} {dn : Bool} {fu : Int} (ha : actS d = (⟨d.cap, d.safe, d.loose, dn, fu⟩, 0)) {n : Int} (hn : ¬ d.cap < n) (f : DD → DD) : doS d n f = (f ⟨d.cap, d.safe, d.loose, dn, fu⟩, 0) := by
  unfold doS
  rw [ha]
  simp only [if_true]
  rw [if_neg hn]
theorem large_no {l : List Bytes} (h : ¬ largeB l = true) : ∀ x ∈ l, x.length ≤ 20000 := fun x hx => by
  unfold largeB at h
  rw [List.any_eq_true] at h
  exact Nat.le_of_not_lt fun hlt => h ⟨x, hx, by simpa using hlt⟩
theorem scanS_nil : scanS [] = ([], []) := scanS_err (z := 2) rfl
theorem scan_whole {S : List Bytes} (hS : ∀ x ∈ S, x.length ≤ 100000) : scanS (frs S) = (S, []) := by
  have := scanS_frs S hS []
  rw [List.append_nil, scanS_nil] at this
  simpa using this
/-- What holds of a log: its records are S; of M a beginning may stand behind them on the disk. -/
structure WInv (g : WL) (S M : List Bytes) : Prop where
  sl : g.l = S
  right : rightB g.d = true
  fuse : i64 g.d.fuse
  safe : g.d.safe = frs S
  small : ∀ x ∈ S, x.length ≤ 100000
  smM : ∀ x ∈ M, x.length ≤ 100000
  loose : g.d.loose = [] ∨ (g.d.down = true ∧ g.d.loose = frs M)
  up : M ≠ [] → g.d.down = true
theorem WInv.bare {g : WL} {S M : List Bytes} (h : WInv g S M) (hd : g.d.down = false) : M = [] ∧ g.d.loose = [] := by
  have hM : M = [] := Classical.byContradiction fun hn => by have := h.up hn; rw [hd] at this; cases this
  refine ⟨hM, ?_⟩
  rcases h.loose with e | ⟨e, _⟩
  · exact e
  · rw [hd] at e; cases e
theorem WInv.append {g : WL} {S M : List Bytes} (h : WInv g S M) (r : List Bytes) :
    ((appendS g r).2 = 0 ∧ WInv (appendS g r).1 (S ++ r) M) ∨ ((appendS g r).2 = 11 ∧ WInv (appendS g r).1 S (if M = [] then r else M)) ∨ (¬ (appendS g r).2 = 0 ∧ ¬ (appendS g r).2 = 11 ∧ WInv (appendS g r).1 S M) := by
  obtain ⟨r1, r2, r3⟩ := (right_iff _).1 h.right
  unfold appendS
  by_cases hl : largeB r = true
  · rw [if_pos hl]; exact .inr (.inr ⟨by simp, by simp, h⟩)
  rw [if_neg hl]
  by_cases hr : r = []
  · rw [if_pos hr]; subst hr; exact .inl ⟨rfl, by rw [List.append_nil]; exact h⟩
  rw [if_neg hr]
  have hsm : ∀ x ∈ r, x.length ≤ 100000 := fun x hx => by have := large_no hl x hx; omega
  obtain ⟨dn, fu, z, ha, hfu, hz⟩ := act_cases g.d h.fuse
  rcases hz with ⟨rfl, rfl⟩ | ⟨rfl, rfl, hdn⟩
  · have e : writeS g.d (frs r) = _ := do_down ha _ _
    rw [e]
    simp only
    rw [if_neg (by simp)]
    refine .inr (.inl ⟨rfl, h.sl, (right_iff _).2 ⟨r1, r2, r3⟩, hfu, h.safe, h.small, ?_, ?_, fun _ => rfl⟩)
    · split
      · exact hsm
      · exact h.smM
    · by_cases hM : M = []
      · rw [if_pos hM]
        refine .inl ?_
        rcases h.loose with e | ⟨_, e⟩
        · exact e
        · show g.d.loose = []; rw [e, hM]; rfl
      · rw [if_neg hM]
        rcases h.loose with e | ⟨_, e⟩
        · exact .inl e
        · exact .inr ⟨rfl, e⟩
  · obtain ⟨hM, hlo⟩ := h.bare hdn
    by_cases hc : g.d.cap < ((longS g.d + (frs r).length : Nat) : Int)
    · have e : writeS g.d (frs r) = _ := do_full ha hc _
      rw [e]
      simp only
      rw [if_neg (by simp)]
      exact .inr (.inr ⟨by simp, by simp, h.sl, (right_iff _).2 ⟨r1, r2, r3⟩, hfu, h.safe, h.small, h.smM, .inl hlo, fun hn => absurd hM hn⟩)
    · have e : writeS g.d (frs r) = _ := do_ok ha hc _
      rw [e]
      have hcl : ((g.d.safe.length + (frs r).length : Nat) : Int) ≤ g.d.cap := by unfold longS at hc; rw [hlo] at hc; simp only [List.length_nil] at hc; omega
      simp only [addS, hlo, List.nil_append, if_true]
      obtain ⟨dn2, fu2, z2, ha2, hfu2, hz2⟩ := act_cases ⟨g.d.cap, g.d.safe, frs r, false, fu⟩ hfu
      simp only at ha2
      rcases hz2 with ⟨rfl, rfl⟩ | ⟨rfl, rfl, _⟩
      · have e2 : syncS ⟨g.d.cap, g.d.safe, frs r, false, fu⟩ = _ := do_down ha2 _ _
        rw [e2]
        simp only
        rw [if_neg (by simp), if_pos hM]
        exact .inr (.inl ⟨rfl, h.sl, (right_iff _).2 ⟨r1, r2, hcl⟩, hfu2, h.safe, h.small, hsm, .inr ⟨rfl, rfl⟩, fun _ => rfl⟩)
      · have e2 : syncS ⟨g.d.cap, g.d.safe, frs r, false, fu⟩ = _ := do_ok ha2 (by simp only [longS]; omega) _
        rw [e2]
        simp only [if_true, allS]
        refine .inl ⟨trivial, ?_⟩
        refine ⟨by show g.l ++ r = S ++ r; rw [h.sl], (right_iff _).2 ⟨r1, r2, ?_⟩, hfu2, ?_, fun x hx => ?_, h.smM, .inl rfl, fun hn => absurd hM hn⟩
        · simp only [List.length_append, List.length_nil]; omega
        · show g.d.safe ++ frs r = frs (S ++ r); rw [h.safe, frs_append]
        · rcases List.mem_append.1 hx with hx | hx
          · exact h.small x hx
          · exact hsm x hx
theorem WInv.cut {g : WL} {S M : List Bytes} (h : WInv g S M) (x : Bytes) : ((cutS g x).2 = 0 ∧ WInv (cutS g x).1 [x] M) ∨ (¬ (cutS g x).2 = 0 ∧ WInv (cutS g x).1 S M) := by
  obtain ⟨r1, r2, r3⟩ := (right_iff _).1 h.right
  unfold cutS
  by_cases hl : 20000 < x.length
  · rw [if_pos hl]; exact .inr ⟨by simp, h⟩
  rw [if_neg hl]
  obtain ⟨dn, fu, z, ha, hfu, hz⟩ := act_cases g.d h.fuse
  rcases hz with ⟨rfl, rfl⟩ | ⟨rfl, rfl, hdn⟩
  · have e : replaceS g.d (fr x) = _ := do_down ha _ _
    rw [e]
    simp only
    rw [if_neg (by simp)]
    refine .inr ⟨by simp, h.sl, (right_iff _).2 ⟨r1, r2, r3⟩, hfu, h.safe, h.small, h.smM, ?_, fun _ => rfl⟩
    rcases h.loose with e | ⟨_, e⟩
    · exact .inl e
    · exact .inr ⟨rfl, e⟩
  · obtain ⟨hM, hlo⟩ := h.bare hdn
    by_cases hc : g.d.cap < (((fr x).length : Nat) : Int)
    · have e : replaceS g.d (fr x) = _ := do_full ha hc _
      rw [e]
      simp only
      rw [if_neg (by simp)]
      exact .inr ⟨by simp, h.sl, (right_iff _).2 ⟨r1, r2, r3⟩, hfu, h.safe, h.small, h.smM, .inl hlo, fun hn => absurd hM hn⟩
    · have e : replaceS g.d (fr x) = _ := do_ok ha hc _
      rw [e]
      simp only [if_true, otherS]
      refine .inl ⟨trivial, rfl, (right_iff _).2 ⟨r1, r2, ?_⟩, hfu, ?_, fun y hy => ?_, h.smM, .inl rfl, fun hn => absurd hM hn⟩
      · simp only [List.length_nil]; omega
      · show fr x = frs [x]; simp [frs]
      · simp only [List.mem_cons, List.not_mem_nil, or_false] at hy
        subst hy; omega
theorem WInv.blow {g : WL} {S M : List Bytes} (h : WInv g S M) (n : Int) (hn : i64 n) : WInv (blowW g n) S M := by
  obtain ⟨r1, r2, r3⟩ := (right_iff _).1 h.right
  unfold blowW blowS
  by_cases hd : g.d.down = true
  · rw [if_pos hd]; exact ⟨h.sl, h.right, h.fuse, h.safe, h.small, h.smM, h.loose, h.up⟩
  · rw [if_neg hd]; exact ⟨h.sl, (right_iff _).2 ⟨r1, r2, r3⟩, hn, h.safe, h.small, h.smM, h.loose, h.up⟩
theorem WInv.crash {g : WL} {S M : List Bytes} (h : WInv g S M) (n : Int) : (openS (crashS g.d n)).2 = 0 ∧ ∃ j, j ≤ M.length ∧ WInv (openS (crashS g.d n)).1 (S ++ M.take j) [] := by
  obtain ⟨r1, r2, r3⟩ := (right_iff _).1 h.right
  obtain ⟨T, hT⟩ : ∃ T, T = g.d.loose.take (keepN n g.d.loose.length) := ⟨_, rfl⟩
  have hTl : T.length ≤ g.d.loose.length := by rw [hT, List.length_take]; omega
  obtain ⟨j, hj, h1, h2⟩ : ∃ j, j ≤ M.length ∧ (scanS T).1 = M.take j ∧ ((scanS T).2 = [] → T = frs (M.take j)) := by
    rcases h.loose with e | ⟨_, e⟩
    · refine ⟨0, Nat.zero_le _, ?_, fun _ => ?_⟩ <;> rw [hT, e, List.take_nil] <;> first | (rw [scanS_nil]; rfl) | simp [frs]
    · rw [hT, e]
      exact scan_begin M h.smM _
  have hsmall : ∀ x ∈ S ++ M.take j, x.length ≤ 100000 := fun x hx => by
    rcases List.mem_append.1 hx with hx | hx
    · exact h.small x hx
    · exact h.smM x (List.mem_of_mem_take hx)
  have hcr : crashS g.d n = ⟨g.d.cap, frs S ++ T, [], false, -1⟩ := by unfold crashS; rw [hT, h.safe]
  have hlen : (((frs S ++ T).length : Nat) : Int) ≤ g.d.cap := by
    rw [List.length_append, ← h.safe]; omega
  rw [hcr]
  have hall : allD ⟨g.d.cap, frs S ++ T, [], false, -1⟩ = frs S ++ T := by simp [allD]
  have hsc := scanS_frs S h.small T
  have hrec : recordsS ⟨g.d.cap, frs S ++ T, [], false, -1⟩ = S ++ M.take j := by unfold recordsS; rw [hall, hsc, h1]
  have hi1 : i64 (-1) := by unfold i64; omega
  unfold openS
  rw [if_neg (by simp), hall, hsc, hrec]
  by_cases hq : (scanS T).2 = []
  · rw [if_pos ⟨hq, rfl⟩]
    refine ⟨rfl, j, hj, rfl, (right_iff _).2 ⟨r1, r2, ?_⟩, hi1, ?_, hsmall, fun x hx => by simp at hx, .inl rfl, fun hn => absurd rfl hn⟩
    · simp only [List.length_nil, Nat.add_zero]; exact hlen
    · show frs S ++ T = frs (S ++ M.take j)
      rw [frs_append, ← h2 hq]
  · rw [if_neg (fun h => hq h.1)]
    have hfl : (frs (S ++ M.take j)).length ≤ (frs S ++ T).length := by
      have := take_good ⟨g.d.cap, frs S ++ T, [], false, -1⟩
      rw [hall, hrec] at this
      rw [← this, List.length_take]; omega
    have ha : actS ⟨g.d.cap, frs S ++ T, [], false, -1⟩ = (⟨g.d.cap, frs S ++ T, [], false, -1⟩, 0) := by unfold actS; simp
    have e : replaceS ⟨g.d.cap, frs S ++ T, [], false, -1⟩ (frs (S ++ M.take j)) = _ := do_ok (d := ⟨g.d.cap, frs S ++ T, [], false, -1⟩) ha (by show ¬ g.d.cap < _; omega) _
    rw [e]
    simp only [if_true, otherS]
    refine ⟨trivial, j, hj, rfl, (right_iff _).2 ⟨r1, r2, ?_⟩, hi1, rfl, hsmall, fun x hx => by simp at hx, .inl rfl, fun hn => absurd rfl hn⟩
    simp only [List.length_nil, Nat.add_zero]; omega
theorem open_new (n : Int) (h0 : 0 ≤ n) : openS ⟨n, [], [], false, -1⟩ = (⟨⟨n, [], [], false, -1⟩, []⟩, 0) := by
  unfold openS recordsS
  have hall : allD ⟨n, [], [], false, -1⟩ = [] := rfl
  rw [hall, scanS_nil]
  simp
theorem WInv.new (n : Int) (h0 : 0 ≤ n) (h1 : n ≤ 1000000) : WInv ⟨⟨n, [], [], false, -1⟩, []⟩ [] [] :=
  ⟨rfl, (right_iff _).2 ⟨h0, h1, by simpa using h0⟩, by show i64 (-1); unfold i64; omega, by simp [frs], fun x hx => by simp at hx, fun x hx => by simp at hx, .inl rfl, fun hn => absurd rfl hn⟩
/-- A log that was opened without an error is opened as it is. -/
theorem open_twice (d : DD) (he : (openS d).2 = 0) : openS (openS d).1.d = ((openS d).1, 0) ∧ (openS d).1.d.loose = [] := by
  by_cases hd : d.down = true
  · unfold openS at he; rw [if_pos hd] at he; cases he
  · by_cases hq : (scanS (allD d)).2 = [] ∧ d.loose = []
    · have e : openS d = (⟨d, recordsS d⟩, 0) := by unfold openS; rw [if_neg hd, if_pos hq]
      rw [e]; exact ⟨e, hq.2⟩
    · by_cases hr : (replaceS d (frs (recordsS d))).2 = 0
      · have e : openS d = (⟨(replaceS d (frs (recordsS d))).1, recordsS d⟩, 0) := by unfold openS; rw [if_neg hd, if_neg hq, if_pos hr]
        rw [e]
        have hx : ∃ fu, (replaceS d (frs (recordsS d))).1 = ⟨d.cap, frs (recordsS d), [], false, fu⟩ := by
          unfold replaceS doS at hr ⊢
          unfold actS at hr ⊢
          rw [if_neg hd] at hr ⊢
          have hd' : d.down = false := by simpa using hd
          by_cases h0 : d.fuse = 0
          · rw [if_pos h0] at hr; rw [if_neg (by simp)] at hr; cases hr
          · rw [if_neg h0] at hr ⊢
            by_cases hp : 0 < d.fuse
            · rw [if_pos hp] at hr ⊢
              simp only [if_true] at hr ⊢
              by_cases hc : d.cap < ((frs (recordsS d)).length : Int)
              · rw [if_pos hc] at hr; cases hr
              · rw [if_neg hc]; exact ⟨_, rfl⟩
            · rw [if_neg hp] at hr ⊢
              simp only [if_true] at hr ⊢
              by_cases hc : d.cap < ((frs (recordsS d)).length : Int)
              · rw [if_pos hc] at hr; cases hr
              · rw [if_neg hc]; exact ⟨d.fuse, by simp [otherS, hd']⟩
        obtain ⟨fu, hx⟩ := hx
        rw [hx]
        have hs := (scanS_split (allD d)).2
        have hw : scanS (frs (recordsS d)) = (recordsS d, []) := scan_whole hs
        refine ⟨?_, rfl⟩
        unfold openS
        have hall : allD ⟨d.cap, frs (recordsS d), [], false, fu⟩ = frs (recordsS d) := by simp [allD]
        have hrec : recordsS ⟨d.cap, frs (recordsS d), [], false, fu⟩ = recordsS d := by
          show (scanS (allD _)).1 = _; rw [hall, hw]
        rw [if_neg (by simp), hall, hw, if_pos ⟨rfl, rfl⟩, hrec]
      · unfold openS at he; rw [if_neg hd, if_neg hq, if_neg hr] at he; exact absurd he hr
end Go.Proofs.Ytcafahcmalfepaa
