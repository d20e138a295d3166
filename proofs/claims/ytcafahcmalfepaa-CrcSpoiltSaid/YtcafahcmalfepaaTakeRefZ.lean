/-
  The walk of the reference of octet, on: Take.
-/
import Derived.Test.YtcafahcmalfepaaTakeZ
namespace Go.Proofs.Ytcafahcmalfepaa
open Go.RowKit
theorem all_cells {w : World} {Z : Nat → Prop} {A : Option Addr} {k : UInt8} {r : Bytes} (hs : SlZ byteZ 1 Z w A (k :: r)) :
    ∃ b o, A = some ⟨b, o, none⟩ ∧ w.cell? ⟨b, o, none⟩ = some (.int .u8 k.toNat) ∧ (∀ i c, r[i]? = some c → w.cell? ⟨b, o + (i + 1), none⟩ = some (.int .u8 c.toNat)) := by
  obtain ⟨b, o, v, rfl, _, hr, hcell⟩ := hs.get1b (i := 0) rfl
  rw [byteR_eq hr, Nat.add_zero] at hcell
  refine ⟨b, o, rfl, hcell, fun i c hi => ?_⟩
  obtain ⟨b', o', v', he, _, hr', hc'⟩ := hs.get1b (i := i + 1) (a := c) (by simpa using hi)
  simp only [Option.some.injEq, Addr.mk.injEq, and_true] at he
  obtain ⟨rfl, rfl⟩ := he
  rw [byteR_eq hr'] at hc'
  exact hc'
theorem rtake_nil (A : Option Addr) (c : Nat) (Z : Nat → Prop) (w : World) :
    Calls Try.prog 49 #[.slice A 0 c] w (TakeRetZ Z w (takeN [])) := by
  go_enter Try.func49, Try.ntmps49
  go_wp2_with fail
  go_ret3
  exact ⟨⟨0, rfl⟩, rfl⟩
theorem rtake_form (A : Option Addr) (k : UInt8) (r : Bytes) (m c : Nat) (hm : (k :: r).length = m) (hc1 : m ≤ c) (hc : c ≤ maxLen) (hk : 8 < k.toNat ∨ (0 < k.toNat ∧ k.toNat ≤ 8 ∧ r.head? = some 0)) (w : World) {Z : Nat → Prop} (hs : SlZ byteZ 1 Z w A (k :: r)) :
    Calls Try.prog 49 #[.slice A m c] w (TakeRetZ Z w (.error 3)) := by
  obtain ⟨b, o, rfl, hc0, hall⟩ := all_cells hs
  unfold maxLen at hc
  have hm1 : 1 ≤ m := by rw [← hm]; simp
  have hkb : k.toNat < 256 := by have := k.toNat_lt; omega
  rcases hk with hk | ⟨hk, hk2, hk3⟩
  · clear hs hm hall
    go_enter Try.func49, Try.ntmps49
    go_wp2_with fail
    go_ret3
    exact ⟨⟨0, rfl⟩, rfl⟩
  · cases r with
    | nil => simp at hk3
    | cons r0 r =>
      have hr0 : r0 = 0 := by simpa using hk3
      subst hr0
      have hcr := hall 0 0 rfl
      rw [show ((0 : UInt8).toNat : Int) = 0 from rfl, Nat.zero_add] at hcr
      have hm2 : 2 ≤ m := by rw [← hm]; simp
      clear hs hm hall hk3
      go_enter Try.func49, Try.ntmps49
      go_wp2_with fail
      go_ret3
      exact ⟨⟨0, rfl⟩, rfl⟩
theorem rtake_short (A : Option Addr) (k : UInt8) (r : Bytes) (m c : Nat) (hm : (k :: r).length = m) (hc1 : m ≤ c) (hc : c ≤ maxLen) (hk : k.toNat ≤ 8) (hr : r.head? ≠ some 0) (hsh : m < k.toNat + 1) (w : World) {Z : Nat → Prop} (hs : SlZ byteZ 1 Z w A (k :: r)) :
    Calls Try.prog 49 #[.slice A m c] w (TakeRetZ Z w (.error 2)) := by
  obtain ⟨b, o, rfl, hc0, hall⟩ := all_cells hs
  unfold maxLen at hc
  have hm1 : 1 ≤ m := by rw [← hm]; simp
  have hkb : k.toNat < 256 := by have := k.toNat_lt; omega
  have hk0 : 0 < k.toNat := by omega
  cases r with
  | nil =>
    have hm2 : m = 1 := by rw [← hm]; simp
    subst hm2
    clear hs hm hall
    go_enter Try.func49, Try.ntmps49
    go_wp2_with fail
    go_ret3
    exact ⟨⟨0, rfl⟩, rfl⟩
  | cons r0 r =>
    have hrn : r0.toNat ≠ 0 := by
      intro h
      apply hr
      have : r0 = 0 := UInt8.toNat_inj.1 h
      rw [this]; rfl
    have hrb : r0.toNat < 256 := by have := r0.toNat_lt; omega
    have hz : ((r0.toNat : Int) == 0) = false := by rw [beq_eq_false_iff_ne]; omega
    have hcr := hall 0 r0 rfl
    rw [Nat.zero_add] at hcr
    have hm2 : 2 ≤ m := by rw [← hm]; simp
    clear hs hm hall hr
    go_enter Try.func49, Try.ntmps49
    go_wp2_with fail
    go_ret3
    exact ⟨⟨0, rfl⟩, rfl⟩
set_option maxHeartbeats 1000000 in
theorem rtake_ok (A : Option Addr) (k : UInt8) (r : Bytes) (m c : Nat) (hm : (k :: r).length = m) (hc1 : m ≤ c) (hc : c ≤ maxLen) (hk : k.toNat ≤ 8) (hr : k.toNat = 0 ∨ r.head? ≠ some 0) (hlen : k.toNat + 1 ≤ m) (w : World) {Z : Nat → Prop} (hs : SlZ byteZ 1 Z w A (k :: r)) :
    Calls Try.prog 49 #[.slice A m c] w (TakeRetZ Z w (.ok (fromBE (r.take k.toNat), r.drop k.toNat))) := by
  obtain ⟨b, o, rfl, hc0, hall⟩ := all_cells hs
  unfold maxLen at hc
  have hm1 : 1 ≤ m := by rw [← hm]; simp
  have hkb : k.toNat < 256 := by have := k.toNat_lt; omega
  have hdr := hs.drop (k.toNat + 1)
  rw [List.drop_succ_cons, Nat.mul_one] at hdr
  have hl1 : r.length + 1 = m := by rw [← hm]; simp
  generalize hkn : k.toNat = kn at *
  have hcases : kn = 0 ∨ (0 < kn ∧ ∃ r0 r', r = r0 :: r' ∧ r0.toNat ≠ 0) := by
    rcases Nat.eq_zero_or_pos kn with h0 | h0
    · exact .inl h0
    · refine .inr ⟨h0, ?_⟩
      cases r with
      | nil => simp at hl1; omega
      | cons r0 r' =>
        refine ⟨r0, r', rfl, fun h => ?_⟩
        have : r0 = 0 := UInt8.toNat_inj.1 h
        subst this
        rcases hr with hr | hr
        · omega
        · exact hr rfl
  have HA := hid hall; have HD := hid hdr; have HL := hid hl1
  clear hs hm hall hdr hkn hr
  have fin : ∀ nq (A' : Option Addr) (n c' : Nat), SlZ byteZ 1 Z w A' (r.drop kn) → n = m - 1 - kn → c' = c - 1 - kn → TakeRetZ Z w (.ok (fromBE (r.take kn), r.drop kn)) (.returned (.tuple #[.int .u64 (fromBE (r.take kn)), .slice A' n c', .int .i64 0])) (w.drewN nq) := by
    intro nq A' n c' h1 h2 h3
    subst h2 h3
    have hl2 : (r.drop kn).length = m - 1 - kn := by rw [List.length_drop]; have := HL.out; omega
    refine ⟨⟨nq, rfl⟩, A', c - 1 - kn, ?_, ?_, ?_, h1⟩
    · rw [hl2]
    · rw [hl2]; omega
    · unfold maxLen; omega
  have HF := hid fin; clear fin hl1
  rcases hcases with rfl | ⟨hk0, r0, r', hrr, hr0⟩
  · go_enter Try.func49, Try.ntmps49
    go_wp2_with fail
    refine wp_loop_rounds 1 ?_; rw [rounds_succ]
    by_cases hc2 : c = 1
    · subst hc2
      go_wp2_with fail
      go_quiet (fail)
      go_wp2_with fail
      go_ret3
      exact HF.out _ _ _ _ (fun hn => absurd (by rw [List.drop_zero]; exact List.length_eq_zero_iff.1 (by have := HL.out; omega)) hn) (by omega) (by omega)
    · go_wp2_with fail
      go_quiet (fail)
      go_wp2_with fail
      go_ret3
      exact HF.out _ _ _ _ HD.out (by omega) (by omega)
  · have hcr := HA.out 0 r0 (by rw [hrr]; rfl)
    rw [Nat.zero_add] at hcr
    have hrb : r0.toNat < 256 := by have := r0.toNat_lt; omega
    have hz : ((r0.toNat : Int) == 0) = false := by rw [beq_eq_false_iff_ne]; omega
    have hm2 : 2 ≤ m := by omega
    clear hrr
    go_enter Try.func49, Try.ntmps49
    go_wp2_with fail
    have hzero : (Value.int .u64 0) = .int .u64 (fromBE (r.take 0) : Nat) := rfl
    have HZ := hid hzero; clear hzero
    go_loop [6, 7] (fun n i => ∃ j : Nat, j ≤ kn ∧ i = .int .i64 ((j : Int) + 1) ∧ n = .int .u64 (fromBE (r.take j) : Nat)) (fun _ i => kn + 1 - (intOf i).toNat)
    case atStart => exact ⟨0, Nat.zero_le _, rfl, HZ.out⟩
    case round =>
      obtain ⟨j, hj, rfl, rfl⟩ := hrel
      by_cases hlt : j < kn
      · have hjl : j < r.length := by have := HL.out; omega
        have hget : r[j]? = some (r[j]) := List.getElem?_eq_getElem hjl
        have hcell := HA.out j _ hget
        have hF := fromBE_lt (r.take j)
        have hFl : (r.take j).length = j := by rw [List.length_take]; omega
        rw [hFl] at hF
        have hpow : 256 ^ j ≤ 256 ^ 7 := Nat.pow_le_pow_right (by omega) (by omega)
        have hF2 : fromBE (r.take j) < 72057594037927936 := by omega
        have hsn : fromBE (r.take (j + 1)) = fromBE (r.take j) * 256 + (r[j]).toNat := by
          rw [List.take_add_one, hget, ← fromBE_snoc]
          rfl
        have hcb : (r[j]).toNat < 256 := by have := (r[j]).toNat_lt; omega
        clear hF hpow hFl hget
        generalize r[j] = cj at *
        generalize fromBE (r.take j) = F at *
        have HS := hid hsn; clear hsn hjl
        go_wp2_with fail
        go_round
        case rel => exact ⟨j + 1, by omega, by go_num, by rw [HS.out]; go_num⟩
        case measure => simp [intOf]; omega
      · obtain rfl : kn = j := by omega
        by_cases hc2 : c = 1 + kn
        · subst hc2
          go_wp2_with fail
          go_quiet (fail)
          go_wp2_with fail
          go_ret3
          have hnil : r.drop kn = [] := List.drop_eq_nil_of_le (by have := HL.out; omega)
          exact HF.out _ _ _ _ (fun hn => absurd hnil hn) (by omega) (by omega)
        · go_wp2_with fail
          go_quiet (fail)
          go_wp2_with fail
          go_ret3
          refine HF.out _ _ _ _ ?_ (by omega) (by omega)
          have := HD.out
          rw [show o + (kn + 1) = o + (1 + kn) by omega] at this
          exact this

theorem rtake_any (A : Option Addr) (b : Bytes) (m c : Nat) (hm : b.length = m) (hc1 : m ≤ c) (hc : c ≤ maxLen) (w : World) {Z : Nat → Prop} (hs : SlZ byteZ 1 Z w A b) :
    Calls Try.prog 49 #[.slice A m c] w (TakeRetZ Z w (takeN b)) := by
  subst hm
  match b, hs, hc1 with
  | [], hs, hc1 => exact rtake_nil A c _ w
  | k :: r, hs, hc1 =>
    by_cases hne : 8 < k.toNat ∨ (0 < k.toNat ∧ r.head? = some 0)
    · rw [show takeN (k :: r) = .error 3 by rw [takeN, if_pos hne]]
      refine rtake_form A k r _ c rfl hc1 hc ?_ w hs
      by_cases h8 : 8 < k.toNat
      · exact .inl h8
      · rcases hne with h | h
        · exact absurd h h8
        · exact .inr ⟨h.1, by omega, h.2⟩
    · have h8 : k.toNat ≤ 8 := by omega
      have hr : k.toNat = 0 ∨ r.head? ≠ some 0 := by
        rcases Nat.eq_zero_or_pos k.toNat with h | h
        · exact .inl h
        · exact .inr fun h' => hne (.inr ⟨h, h'⟩)
      by_cases hl : r.length < k.toNat
      · rw [show takeN (k :: r) = .error 2 by rw [takeN, if_neg hne, if_pos hl]]
        exact rtake_short A k r _ c rfl hc1 hc h8 (by rcases hr with h | h; (omega); exact h) (by simp; omega) w hs
      · rw [show takeN (k :: r) = .ok (fromBE (r.take k.toNat), r.drop k.toNat) by rw [takeN, if_neg hne, if_neg hl]]
        exact rtake_ok A k r _ c rfl hc1 hc h8 hr (by simp; omega) w hs
end Go.Proofs.Ytcafahcmalfepaa
