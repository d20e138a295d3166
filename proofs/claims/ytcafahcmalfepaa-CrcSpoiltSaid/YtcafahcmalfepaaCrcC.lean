/-
  The walks of slices.Equal on bytes, and of crc.Take.
-/
import Derived.Test.YtcafahcmalfepaaCrcB
import Derived.Test.YtcafahcmalfepaaTakeZ
import Derived.Test.YtcafahcmalfepaaRegL
import Derived.Deep.QuietTactic
import Derived.BigQuiet
namespace Go.Proofs.Ytcafahcmalfepaa
open Go.RowKit Go.Deep
theorem byte_at {B : Nat} {w : World} {v : Value} {c : UInt8} (h : byteR.at_ B w [v] c) : v = .int .u8 (c.toNat : Int) := by
  have h' : [v] = [byteV c] := h
  simpa [byteV] using h'
theorem sequal_any (A1 A2 : Option Addr) (l1 l2 : Bytes) (n m c1 c2 : Nat) {B1 B2 : Nat} (h1 : l1.length = n) (h2 : l2.length = m) (hn : n ≤ maxLen) (w : World) (hs1 : Sl byteR 1 B1 w A1 l1) (hs2 : Sl byteR 1 B2 w A2 l2) :
    Calls Try.prog 47 #[.slice A1 n c1, .slice A2 m c2] w fun e w' => e = .returned (.bool (decide (l1 = l2))) ∧ ∃ q, w' = w.drewN q := by
  unfold maxLen at hn
  by_cases hne : n = m
  · subst hne
    have HL1 := hid h1; have HL2 := hid h2; have HS1 := hid hs1; have HS2 := hid hs2; clear h1 h2 hs1 hs2
    go_enter Try.func47, Try.ntmps47
    go_wp2_with fail
    go_loopw [13] (fun i wr => ∃ k : Nat, k ≤ n ∧ i = .int .i64 k ∧ l1.take k = l2.take k ∧ ∃ q, wr = w.drewN q)
      (fun i _ => n - (intOf i).toNat)
    case atStart => exact ⟨0, Nat.zero_le _, rfl, rfl, 0, rfl⟩
    case round =>
      obtain ⟨k, hk, rfl, heq, q, rfl⟩ := hrel
      have HE := hid heq; clear heq
      by_cases hlt : k < n
      · obtain ⟨x1, hx1⟩ : ∃ x, l1[k]? = some x := ⟨_, List.getElem?_eq_getElem (by rw [HL1.out]; exact hlt)⟩
        obtain ⟨x2, hx2⟩ : ∃ x, l2[k]? = some x := ⟨_, List.getElem?_eq_getElem (by rw [HL2.out]; exact hlt)⟩
        obtain ⟨b1, o1, v1, rfl, _, hv1, hc1⟩ := HS1.out.get1 hx1
        obtain ⟨b2, o2, v2, rfl, _, hv2, hc2⟩ := HS2.out.get1 hx2
        rw [byte_at hv1] at hc1
        rw [byte_at hv2] at hc2
        clear hv1 hv2
        have hp1 : l1.take (k + 1) = l1.take k ++ [x1] := by rw [List.take_add_one, hx1]; rfl
        have hp2 : l2.take (k + 1) = l2.take k ++ [x2] := by rw [List.take_add_one, hx2]; rfl
        have hdec : (l1 = l2) → x1 = x2 := by intro h; rw [h, hx2] at hx1; simpa using hx1.symm
        clear hx1 hx2
        have HD := hid hdec; have HP1 := hid hp1; have HP2 := hid hp2; clear hdec hp1 hp2
        by_cases hx : x1 = x2
        · subst hx
          go_wp2_with fail
          go_quiet (fail)
          go_wp2_with fail
          go_roundw
          case rel => exact ⟨k + 1, by omega, by go_num, by rw [HP1.out, HP2.out, HE.out], _, rfl⟩
          case measure => simp [intOf]; omega
        · have hxb : ((x1.toNat : Int) == x2.toNat) = false := by
            rw [beq_eq_false_iff_ne]
            exact fun h => hx (UInt8.toNat_inj.1 (by omega))
          have HX := hid hx; clear hx
          go_wp2_with fail
          go_quiet (fail)
          go_wp2_with fail
          go_ret
          exact ⟨by rw [decide_eq_false (fun h => HX.out (HD.out h))]; rfl, _, World.drewN_drewN _ _ _⟩
      · obtain rfl : k = n := by omega
        go_wp2_with fail
        go_ret
        refine ⟨?_, q, rfl⟩
        have := HE.out
        rw [List.take_of_length_le (by rw [HL1.out]; omega), List.take_of_length_le (by rw [HL2.out]; omega)] at this
        rw [decide_eq_true this]
        rfl
  · have hb : decide (n = m) = false := by simpa using hne
    have hd : decide (l1 = l2) = false := decide_eq_false (fun h => hne (by rw [← h1, ← h2, h]))
    rw [hd]
    clear hd hs1 hs2 h1 h2
    go_enter Try.func47, Try.ntmps47
    go_wp2_with fail
    go_ret
    exact ⟨rfl, 0, rfl⟩
/-- What Take answers. -/
def TakeFZ (Z : Nat → Prop) (w : World) (r : Except Int (Bytes × Bytes)) (e : Ending) (w' : World) : Prop :=
  Below w.heap.size w w' ∧ match r with
    | .error z => e = .returned (.tuple #[.slice none 0 0, .slice none 0 0, .int .i64 z])
    | .ok (x, l) => ∃ A1 c1 A2 c2, e = .returned (.tuple #[.slice A1 x.length c1, .slice A2 l.length c2, .int .i64 0]) ∧ (x.length ≤ c1 ∧ c1 ≤ maxLen ∧ l.length ≤ c2 ∧ c2 ≤ maxLen) ∧ SlZ byteZ 1 Z w' A1 x ∧ SlZ byteZ 1 Z w' A2 l
theorem four_ret (n : Nat) (hn : n < 4294967296) (w : World) :
    Calls Try.prog 48 #[.int .u32 n] w fun e w' => ∃ A, e = .returned (.slice A 4 4) ∧ Sl byteR 1 w'.heap.size w' A (be 4 n) ∧ Below w.heap.size w w' := by
  refine (four_any n hn w).mono ?_
  rintro e w' ⟨rfl, rfl⟩
  exact ⟨_, rfl, slnew _ _ rfl, below_new _ _⟩
theorem ctake_nil (A : Option Addr) (c : Nat) (Z : Nat → Prop) (w : World) :
    Calls Try.prog 14 #[.slice A 0 c] w (TakeFZ Z w (takeF [])) := by
  go_enter Try.func14, Try.ntmps14
  go_wp2_with fail
  go_ret3
  exact ⟨Below.refl _ _, rfl⟩
theorem ctake_mark (A : Option Addr) (m : UInt8) (t : Bytes) (n c : Nat) (hl : (m :: t).length = n) (hm : m ≠ 167) (Z : Nat → Prop) (w : World) (hs : SlZ byteZ 1 Z w A (m :: t)) :
    Calls Try.prog 14 #[.slice A n c] w (TakeFZ Z w (.error 3)) := by
  obtain ⟨b, o, v, rfl, _, hv, hc⟩ := hs.bsl.get1 (i := 0) rfl
  rw [byte_at hv] at hc
  clear hs
  have hn0 : 0 < n := by rw [← hl]; simp
  have hne : ((m.toNat : Int) == 167) = false := by
    rw [beq_eq_false_iff_ne]
    exact fun h => hm (UInt8.toNat_inj.1 (by have : (167 : UInt8).toNat = 167 := rfl; omega))
  clear hl hm
  have hnz : ((n : Int) == 0) = false := by simp; omega
  rw [Nat.add_zero] at hc
  go_enter Try.func14, Try.ntmps14
  go_wp2_with fail
  go_ret3
  exact ⟨Below.refl _ _, rfl⟩
theorem ctake_one (A : Option Addr) (c : Nat) (hc1 : 1 ≤ c) (hc2 : c ≤ maxLen) (Z : Nat → Prop) (w : World) (hs : SlZ byteZ 1 Z w A [167]) :
    Calls Try.prog 14 #[.slice A 1 c] w (TakeFZ Z w (.error 2)) := by
  obtain ⟨b, o, v, rfl, _, hv, hc⟩ := hs.bsl.get1 (i := 0) rfl
  rw [byte_at hv, Nat.add_zero] at hc
  have hc' : w.cell? ⟨b, o, none⟩ = some (.int .u8 167) := hc
  clear hs hc
  by_cases h1 : c = 1
  · subst h1
    go_enter Try.func14, Try.ntmps14
    go_wp2_with fail
    refine (take_any (some ⟨b, o, none⟩) [] 0 0 rfl (Nat.le_refl _) (Nat.zero_le _) w (Z := Z) SlZ.nil).mono ?_
    rw [show takeN [] = .error 2 from rfl]
    rintro e w' ⟨⟨q, rfl⟩, rfl⟩
    go_wp2_with fail
    go_ret3
    exact ⟨below_drewN (Below.refl _ _) _, rfl⟩
  · have hc3 : 1 < c := by omega
    have hc4 : (1 : Int) ≤ c := by omega
    go_enter Try.func14, Try.ntmps14
    go_wp2_with fail
    refine (take_any (some ⟨b, o + 1, none⟩) [] 0 (c - 1) rfl (Nat.zero_le _) (by unfold maxLen at *; omega) w (Z := Z) SlZ.nil).mono ?_
    rw [show takeN [] = .error 2 from rfl]
    rintro e w' ⟨⟨q, rfl⟩, rfl⟩
    go_wp2_with fail
    go_ret3
    exact ⟨below_drewN (Below.refl _ _) _, rfl⟩
/-- What is known of a row that begins with a mark and goes on. -/
theorem ctake_pre {A : Option Addr} {t : Bytes} {n c : Nat} (hl : ((167 : UInt8) :: t).length = n) (hc1 : n ≤ c) (ht : t ≠ []) {Z : Nat → Prop} {w : World} (hs : SlZ byteZ 1 Z w A (167 :: t)) :
    ∃ b o, A = some ⟨b, o, none⟩ ∧ w.cell? ⟨b, o, none⟩ = some (.int .u8 167) ∧ SlZ byteZ 1 Z w (some ⟨b, o + 1, none⟩) t ∧ t.length = n - 1 ∧ 2 ≤ n ∧ 1 < c ∧ (1 : Int) ≤ n ∧ (1 : Int) ≤ c ∧ ((n : Int) == 0) = false ∧ 0 < n ∧ ¬ c = 1 := by
  obtain ⟨b, o, v, rfl, _, hv, hc⟩ := hs.bsl.get1 (i := 0) rfl
  rw [byte_at hv, Nat.add_zero] at hc
  have hp := List.length_pos_iff.2 ht
  have e : t.length + 1 = n := by rw [← hl]; simp
  exact ⟨b, o, rfl, hc, by simpa using hs.drop 1, by omega, by omega, by omega, by omega, by omega, by simp; omega, by omega, by omega⟩
set_option maxHeartbeats 1000000 in
theorem ctake_err (A : Option Addr) (t : Bytes) (n c : Nat) (z : Int) (hl : ((167 : UInt8) :: t).length = n) (hc1 : n ≤ c) (hc2 : c ≤ maxLen) (ht : t ≠ []) (htk : takeN t = .error z) (Z : Nat → Prop) (w : World) (hs : SlZ byteZ 1 Z w A (167 :: t)) :
    Calls Try.prog 14 #[.slice A n c] w (TakeFZ Z w (.error z)) := by
  obtain ⟨b, o, rfl, hc', hd, htl, f1, f2, f3, f4, f5, f6, f7⟩ := ctake_pre hl hc1 ht hs
  have HD := hid hd; have HT := hid htl; clear hs hl ht hd htl
  go_enter Try.func14, Try.ntmps14
  go_wp2_with fail
  refine (take_any (some ⟨b, o + 1, none⟩) t (n - 1) (c - 1) HT.out (by omega) (by unfold maxLen at *; omega) w HD.out).mono ?_
  rw [htk]
  rintro e w' ⟨⟨q, rfl⟩, rfl⟩
  have hz : (z == 0) = false := by
    rcases takeN_err htk with h | h <;> subst h <;> rfl
  go_wp2_with fail
  go_ret3
  exact ⟨below_drewN (Below.refl _ _) _, rfl⟩
end Go.Proofs.Ytcafahcmalfepaa
