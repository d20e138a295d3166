/-
  The walk of octet.Take, with the set of the blocks in which its bytes lie.
-/
import Derived.Test.YtcafahcmalfepaaOctet
import Derived.Test.YtcafahcmalfepaaZRep
import Derived.Deep.QuietTactic
import Derived.BigQuiet
namespace Go.Proofs.Ytcafahcmalfepaa
open Go.RowKit
theorem or_byte (n c : Nat) (hc : c < 256) (hn : n * 256 + c < 18446744073709551616) : bits .or .u64 ((n : Int) * 256) (c : Int) = (n * 256 + c : Nat) := by
  have h1 : n * 256 < 18446744073709551616 := Nat.lt_of_le_of_lt (Nat.le_add_right _ _) hn
  have h2 : c < 18446744073709551616 := by omega
  have h3 : ((n : Int) * 256) = ((n * 256 : Nat) : Int) := by omega
  rw [h3, u64_or_nat (n * 256) c h1 h2]
  have := Nat.shiftLeft_add_eq_or_of_lt (i := 8) (show c < 2 ^ 8 by omega) n
  rw [Nat.shiftLeft_eq] at this
  rw [← this]

theorem SlZ.get1b {α : Type} {R : ZRep α} {Z : Nat → Prop} {w : World} {A : Option Addr} {l : List α} (h : SlZ R 1 Z w A l) {i : Nat} {a : α} (hi : l[i]? = some a) :
    ∃ b o v, A = some ⟨b, o, none⟩ ∧ b < w.heap.size ∧ R.at_ Z w [v] a ∧ w.cell? ⟨b, o + i, none⟩ = some v := by
  obtain ⟨b, o, v, h1, _, h2, h3, h4⟩ := h.get1 hi
  exact ⟨b, o, v, h1, h2, h3, h4⟩
/-- What Take answers. -/
def TakeRetZ (Z : Nat → Prop) (w : World) (r : Except Int (Nat × Bytes)) (e : Ending) (w' : World) : Prop :=
  (∃ q, w' = w.drewN q) ∧ match r with
    | .error z => e = .returned (.tuple #[.int .u64 0, .slice none 0 0, .int .i64 z])
    | .ok (n, l) => ∃ A c, e = .returned (.tuple #[.int .u64 n, .slice A l.length c, .int .i64 0]) ∧ l.length ≤ c ∧ c ≤ maxLen ∧ SlZ byteZ 1 Z w A l
theorem byteR_eq {Z : Nat → Prop} {w : World} {v : Value} {c : UInt8} (h : byteZ.at_ Z w [v] c) : v = byteV c := by
  have h' : [v] = [byteV c] := h
  simpa using h'

theorem take_nil (A : Option Addr) (c : Nat) (Z : Nat → Prop) (w : World) :
    Calls Try.prog 46 #[.slice A 0 c] w (TakeRetZ Z w (takeN [])) := by
  go_enter Try.func46, Try.ntmps46
  go_wp2_with fail
  go_ret3
  exact ⟨⟨0, rfl⟩, rfl⟩

theorem take_one_form (A : Option Addr) (k : UInt8) (z : Int) (c : Nat) (hc1 : 1 ≤ c) (hc : c ≤ maxLen) (hk : (8 < k.toNat ∧ z = 3) ∨ (0 < k.toNat ∧ k.toNat ≤ 8 ∧ z = 2)) (w : World) {Z : Nat → Prop} (hs : SlZ byteZ 1 Z w A [k]) :
    Calls Try.prog 46 #[.slice A 1 c] w (TakeRetZ Z w (.error z)) := by
  obtain ⟨b, o, v, rfl, hb, hr, hcell⟩ := hs.get1b (i := 0) rfl
  rw [byteR_eq hr] at hcell
  unfold byteV at hcell
  rw [Nat.add_zero] at hcell
  unfold maxLen at hc
  have hkb : k.toNat < 256 := by have := k.toNat_lt; omega
  clear hs hr hb
  rcases hk with ⟨hk, rfl⟩ | ⟨hk, hk2, rfl⟩
  · by_cases h1 : c = 1
    · subst h1
      go_enter Try.func46, Try.ntmps46
      go_wp2_with fail
      go_quiet (fail)
      go_wp2_with fail
      go_ret3
      exact ⟨⟨_, rfl⟩, rfl⟩
    · go_enter Try.func46, Try.ntmps46
      go_wp2_with fail
      go_quiet (fail)
      go_wp2_with fail
      go_ret3
      exact ⟨⟨_, rfl⟩, rfl⟩
  · by_cases h1 : c = 1
    · subst h1
      go_enter Try.func46, Try.ntmps46
      go_wp2_with fail
      go_quiet (fail)
      go_wp2_with fail
      go_ret3
      exact ⟨⟨_, rfl⟩, rfl⟩
    · go_enter Try.func46, Try.ntmps46
      go_wp2_with fail
      go_quiet (fail)
      go_wp2_with fail
      go_ret3
      exact ⟨⟨_, rfl⟩, rfl⟩
theorem take_one_zero (A : Option Addr) (c : Nat) (hc1 : 1 ≤ c) (hc : c ≤ maxLen) (w : World) {Z : Nat → Prop} (hs : SlZ byteZ 1 Z w A [(0 : UInt8)]) :
    Calls Try.prog 46 #[.slice A 1 c] w (TakeRetZ Z w (.ok (0, []))) := by
  obtain ⟨b, o, v, rfl, hb, hr, hcell⟩ := hs.get1b (i := 0) rfl
  rw [byteR_eq hr, show byteV 0 = .int .u8 0 from rfl, Nat.add_zero] at hcell
  unfold maxLen at hc
  clear hs hr hb
  by_cases h1 : c = 1
  · subst h1
    go_enter Try.func46, Try.ntmps46
    go_wp2_with fail
    go_quiet (fail)
    go_wp2_with fail
    refine wp_loop_rounds 1 ?_; rw [rounds_succ]
    go_wp2_with fail
    go_quiet (fail)
    go_wp2_with fail
    go_ret3
    exact ⟨⟨_, World.drewN_drewN _ _ _⟩, _, _, rfl, by simp, by simp [maxLen], SlZ.nil⟩
  · go_enter Try.func46, Try.ntmps46
    go_wp2_with fail
    go_quiet (fail)
    go_wp2_with fail
    refine wp_loop_rounds 1 ?_; rw [rounds_succ]
    go_wp2_with fail
    go_quiet (fail)
    go_wp2_with fail
    go_ret3
    exact ⟨⟨_, World.drewN_drewN _ _ _⟩, _, _, rfl, by simp, by simp only [maxLen]; omega, SlZ.nil⟩

/-- What the walk wants of a slice of at least two bytes. -/
theorem two_cells {w : World} {Z : Nat → Prop} {A : Option Addr} {k r0 : UInt8} {r : Bytes} (hs : SlZ byteZ 1 Z w A (k :: r0 :: r)) :
    ∃ b o, A = some ⟨b, o, none⟩ ∧ w.cell? ⟨b, o, none⟩ = some (.int .u8 k.toNat) ∧ w.cell? ⟨b, o + 1, none⟩ = some (.int .u8 r0.toNat) ∧
      (∀ i c, (r0 :: r)[i]? = some c → w.cell? ⟨b, o + 1 + i, none⟩ = some (.int .u8 c.toNat)) := by
  obtain ⟨b, o, v, rfl, _, hr, hcell⟩ := hs.get1b (i := 0) rfl
  rw [byteR_eq hr, Nat.add_zero] at hcell
  have hall : ∀ i c, (r0 :: r)[i]? = some c → w.cell? ⟨b, o + 1 + i, none⟩ = some (.int .u8 c.toNat) := by
    intro i c hi
    obtain ⟨b', o', v', he, _, hr', hc'⟩ := hs.get1b (i := i + 1) (a := c) (by simpa using hi)
    simp only [Option.some.injEq, Addr.mk.injEq, and_true] at he
    obtain ⟨rfl, rfl⟩ := he
    rw [byteR_eq hr'] at hc'
    rw [show o + 1 + i = o + (i + 1) by omega]
    exact hc'
  exact ⟨b, o, rfl, hcell, by simpa using hall 0 r0 rfl, hall⟩
theorem take_two_form (A : Option Addr) (k r0 : UInt8) (r : Bytes) (m : Nat) (c : Nat) (hm : (k :: r0 :: r).length = m) (hc1 : m ≤ c) (hc : c ≤ maxLen) (hk : 8 < k.toNat ∨ (0 < k.toNat ∧ k.toNat ≤ 8 ∧ r0.toNat = 0)) (w : World) {Z : Nat → Prop} (hs : SlZ byteZ 1 Z w A (k :: r0 :: r)) :
    Calls Try.prog 46 #[.slice A m c] w (TakeRetZ Z w (.error 3)) := by
  obtain ⟨b, o, rfl, hc0, hcr0, _⟩ := two_cells hs
  unfold maxLen at hc
  have hm2 : 2 ≤ m := by rw [← hm]; simp
  have hkb : k.toNat < 256 := by have := k.toNat_lt; omega
  have hrb : r0.toNat < 256 := by have := r0.toNat_lt; omega
  clear hs hm
  rcases hk with hk | ⟨hk, hk2, hk3⟩
  · go_enter Try.func46, Try.ntmps46
    go_wp2_with fail
    go_quiet (fail)
    go_wp2_with fail
    go_ret3
    exact ⟨⟨_, rfl⟩, rfl⟩
  · rw [hk3] at hcr0
    clear hk3
    go_enter Try.func46, Try.ntmps46
    go_wp2_with fail
    go_quiet (fail)
    go_wp2_with fail
    go_ret3
    exact ⟨⟨_, rfl⟩, rfl⟩
theorem take_two_short (A : Option Addr) (k r0 : UInt8) (r : Bytes) (m : Nat) (c : Nat) (hm : (k :: r0 :: r).length = m) (hc1 : m ≤ c) (hc : c ≤ maxLen) (hk : k.toNat ≤ 8) (hr0 : 0 < r0.toNat) (hsh : m < k.toNat + 1) (w : World) {Z : Nat → Prop} (hs : SlZ byteZ 1 Z w A (k :: r0 :: r)) :
    Calls Try.prog 46 #[.slice A m c] w (TakeRetZ Z w (.error 2)) := by
  obtain ⟨b, o, rfl, hc0, hcr0, _⟩ := two_cells hs
  unfold maxLen at hc
  have hm2 : 2 ≤ m := by rw [← hm]; simp
  have hkb : k.toNat < 256 := by have := k.toNat_lt; omega
  have hrb : r0.toNat < 256 := by have := r0.toNat_lt; omega
  have hz : ((r0.toNat : Int) == 0) = false := by rw [beq_eq_false_iff_ne]; omega
  clear hs hm
  go_enter Try.func46, Try.ntmps46
  go_wp2_with fail
  go_quiet (fail)
  go_wp2_with fail
  go_ret3
  exact ⟨⟨_, rfl⟩, rfl⟩
set_option maxHeartbeats 1000000 in
theorem take_two_ok (A : Option Addr) (k r0 : UInt8) (r : Bytes) (m : Nat) (c : Nat) (hm : (k :: r0 :: r).length = m) (hc1 : m ≤ c) (hc : c ≤ maxLen) (hk : k.toNat ≤ 8) (hr0 : k.toNat = 0 ∨ 0 < r0.toNat) (hlen : k.toNat + 1 ≤ m) (w : World) {Z : Nat → Prop} (hs : SlZ byteZ 1 Z w A (k :: r0 :: r)) :
    Calls Try.prog 46 #[.slice A m c] w (TakeRetZ Z w (.ok (fromBE ((r0 :: r).take k.toNat), (r0 :: r).drop k.toNat))) := by
  obtain ⟨b, o, rfl, hc0, hcr0, hall⟩ := two_cells hs
  unfold maxLen at hc
  have hm2 : 2 ≤ m := by rw [← hm]; simp
  have hkb : k.toNat < 256 := by have := k.toNat_lt; omega
  have hrb : r0.toNat < 256 := by have := r0.toNat_lt; omega
  have hdr := hs.drop (k.toNat + 1)
  rw [List.drop_succ_cons, Nat.mul_one] at hdr
  have hl1 : (r0 :: r).length = m - 1 := by rw [← hm]; simp
  generalize hkn : k.toNat = kn at *
  have HM := hid hm; have HA := hid hall; have HD := hid hdr; have HL := hid hl1
  clear hs hm hall hdr hl1 hkn
  have fin : ∀ nq (A' : Option Addr) (n c' : Nat), SlZ byteZ 1 Z w A' ((r0 :: r).drop kn) → n = m - 1 - kn → c' = c - 1 - kn → TakeRetZ Z w (.ok (fromBE ((r0 :: r).take kn), (r0 :: r).drop kn)) (.returned (.tuple #[.int .u64 (fromBE ((r0 :: r).take kn)), .slice A' n c', .int .i64 0])) (w.drewN nq) := by
    intro nq A' n c' h1 h2 h3
    subst h2 h3
    have hl2 : ((r0 :: r).drop kn).length = m - 1 - kn := by rw [List.length_drop, HL.out]
    refine ⟨⟨nq, rfl⟩, A', c - 1 - kn, ?_, ?_, ?_, h1⟩
    · rw [hl2]
    · rw [hl2]; omega
    · unfold maxLen; omega
  have HF := hid fin; clear fin
  have hcases : kn = 0 ∨ (0 < kn ∧ 0 < r0.toNat) := by omega
  clear hr0
  rcases hcases with rfl | ⟨hk0, hr0⟩
  · go_enter Try.func46, Try.ntmps46
    go_wp2_with fail
    go_quiet (fail)
    go_wp2_with fail
    refine wp_loop_rounds 1 ?_; rw [rounds_succ]
    go_wp2_with fail
    go_quiet (fail)
    go_wp2_with fail
    go_ret3
    rw [World.drewN_drewN]
    exact HF.out _ _ _ _ HD.out rfl rfl
  · have hz : ((r0.toNat : Int) == 0) = false := by rw [beq_eq_false_iff_ne]; omega
    go_enter Try.func46, Try.ntmps46
    go_wp2_with fail
    go_quiet (fail)
    go_wp2_with fail
    have hzero : (Value.int .u64 0) = .int .u64 (fromBE ((r0 :: r).take 0) : Nat) := rfl
    have HZ := hid hzero; clear hzero
    go_loop [7, 46] (fun n i => ∃ j : Nat, j ≤ kn ∧ i = .int .i64 j ∧ n = .int .u64 (fromBE ((r0 :: r).take j) : Nat)) (fun _ i => kn - (intOf i).toNat)
    case atStart => exact ⟨0, Nat.zero_le _, rfl, HZ.out⟩
    case round =>
      obtain ⟨j, hj, rfl, rfl⟩ := hrel
      by_cases hlt : j < kn
      · have hjl : j < (r0 :: r).length := by rw [HL.out]; omega
        have hget : (r0 :: r)[j]? = some ((r0 :: r)[j]) := List.getElem?_eq_getElem hjl
        have hcell := HA.out j _ hget
        have hF := fromBE_lt ((r0 :: r).take j)
        have hFl : ((r0 :: r).take j).length = j := by rw [List.length_take]; omega
        rw [hFl] at hF
        have hpow : 256 ^ j ≤ 256 ^ 7 := Nat.pow_le_pow_right (by omega) (by omega)
        have hF2 : fromBE ((r0 :: r).take j) < 72057594037927936 := by omega
        have hsn : fromBE ((r0 :: r).take (j + 1)) = fromBE ((r0 :: r).take j) * 256 + ((r0 :: r)[j]).toNat := by
          rw [List.take_add_one, hget, ← fromBE_snoc]
          rfl
        have hcb : ((r0 :: r)[j]).toNat < 256 := by have := ((r0 :: r)[j]).toNat_lt; omega
        clear hF hpow hFl hget
        generalize (r0 :: r)[j] = cj at *
        generalize fromBE ((r0 :: r).take j) = F at *
        have hor := or_byte F cj.toNat hcb (by omega)
        have HS := hid hsn; clear hsn hjl
        go_wp2_with fail
        go_round
        case rel => exact ⟨j + 1, by omega, by go_num, by rw [HS.out]; go_num⟩
        case measure => simp [intOf]; omega
      · obtain rfl : kn = j := by omega
        by_cases hc2 : c - 1 = kn
        · go_wp2_with fail
          go_quiet (fail)
          go_wp2_with fail
          go_ret3
          rw [World.drewN_drewN]
          have hnil : (r0 :: r).drop kn = [] := List.drop_eq_nil_of_le (by rw [HL.out]; omega)
          exact HF.out _ _ _ _ (fun hn => absurd hnil hn) rfl (by omega)
        · go_wp2_with fail
          go_quiet (fail)
          go_wp2_with fail
          go_ret3
          rw [World.drewN_drewN]
          refine HF.out _ _ _ _ ?_ rfl rfl
          have := HD.out
          rw [show o + (kn + 1) = o + 1 + kn by omega] at this
          exact this

theorem take_any (A : Option Addr) (b : Bytes) (m c : Nat) (hm : b.length = m) (hc1 : m ≤ c) (hc : c ≤ maxLen) (w : World) {Z : Nat → Prop} (hs : SlZ byteZ 1 Z w A b) :
    Calls Try.prog 46 #[.slice A m c] w (TakeRetZ Z w (takeN b)) := by
  subst hm
  match b, hs, hc1 with
  | [], hs, hc1 => exact take_nil A c _ w
  | [k], hs, hc1 =>
    by_cases h8 : 8 < k.toNat
    · rw [show takeN [k] = .error 3 by simp [takeN, h8]]
      exact take_one_form A k 3 c hc1 hc (.inl ⟨h8, rfl⟩) w hs
    · by_cases h0 : 0 < k.toNat
      · rw [show takeN [k] = .error 2 by simp [takeN, h8, h0]]
        exact take_one_form A k 2 c hc1 hc (.inr ⟨h0, by omega, rfl⟩) w hs
      · have hk : k = 0 := by apply UInt8.toNat_inj.1; simpa using h0
        subst hk
        exact take_one_zero A c hc1 hc w hs
  | k :: r0 :: r, hs, hc1 =>
    by_cases h8 : 8 < k.toNat
    · rw [show takeN (k :: r0 :: r) = .error 3 by simp [takeN, h8]]
      exact take_two_form A k r0 r _ c rfl hc1 hc (.inl h8) w hs
    · by_cases h1 : 0 < k.toNat ∧ r0.toNat = 0
      · have hr : r0 = 0 := by apply UInt8.toNat_inj.1; simpa using h1.2
        subst hr
        rw [show takeN (k :: 0 :: r) = .error 3 by simp [takeN, h1.1]]
        exact take_two_form A k 0 r _ c rfl hc1 hc (.inr ⟨h1.1, by omega, rfl⟩) w hs
      · have hr : k.toNat = 0 ∨ 0 < r0.toNat := by omega
        have hne : ¬ (8 < k.toNat ∨ (0 < k.toNat ∧ (r0 :: r).head? = some 0)) := by
          rintro (h | ⟨h, h'⟩)
          · exact h8 h
          · simp at h'
            subst h'
            simp at hr
            omega
        by_cases hl : (r0 :: r).length < k.toNat
        · rw [show takeN (k :: r0 :: r) = .error 2 by rw [takeN, if_neg hne, if_pos hl]]
          exact take_two_short A k r0 r _ c rfl hc1 hc (by omega) (by simp at hl; omega) (by simp at hl ⊢; omega) w hs
        · rw [show takeN (k :: r0 :: r) = .ok (fromBE ((r0 :: r).take k.toNat), (r0 :: r).drop k.toNat) by rw [takeN, if_neg hne, if_neg hl]]
          exact take_two_ok A k r0 r _ c rfl hc1 hc (by omega) hr (by simp at hl ⊢; omega) w hs
end Go.Proofs.Ytcafahcmalfepaa
