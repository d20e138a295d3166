/-
  The walks of the reference of octet: Size, Put, Int, Text, List.
-/
import Derived.Test.YtpigfpnpabnnbaaOctetB
namespace Go.Proofs.Ytpigfpnpabnnbaa
open Go.RowKit
theorem byteV_at {z : Int} {k B : Nat} {w : World} (h : z = (k % 256 : Nat)) : byteR.at_ B w [.int .u8 z] (UInt8.ofNat k) := by rw [byteV_of h]; exact (rfl : _ = _)
theorem rsize_any (n : Nat) (hn : n < 18446744073709551616) (w : World) :
    Calls Try.prog 18 #[.int .u64 n] w fun e w' => e = .returned (.int .i64 (1 + nb n : Nat)) ∧ w = w' := by
  have h8 := nb_le n hn
  go_enter Try.func18, Try.ntmps18
  go_wp2_with fail
  go_loop [0, 3] (fun x q => ∃ y j : Nat, y < 18446744073709551616 ∧ x = .int .u64 y ∧ q = .int .i64 (1 + j : Nat) ∧ j + nb y = nb n) (fun x _ => (intOf x).toNat)
  case atStart => exact ⟨n, 0, hn, rfl, rfl, by omega⟩
  case round =>
    obtain ⟨y, j, hy, rfl, rfl, hj⟩ := hrel
    by_cases h0 : y = 0
    · subst h0
      rw [nb_zero] at hj
      have HJ := hid hj; clear hj
      go_wp2_with fail
      go_ret
      exact ⟨ret_int (by have := HJ.out; omega), rfl⟩
    · have hs := nb_step y h0 hy
      have hj8 : j ≤ 8 := by omega
      have h1 : 0 < y := by omega
      have HS := hid hs; have HJ := hid hj; clear hs hj
      go_wp2_with fail
      go_round
      case rel => exact ⟨y / 256, j + 1, by omega, by go_num, by go_num, by have := HS.out; have := HJ.out; omega⟩
      case measure => simp [intOf]; omega

set_option maxHeartbeats 800000 in
theorem rput_any (A : Option Addr) (b : Bytes) (m c n : Nat) (hm : b.length = m) (hmc : m ≤ c) (hc : c ≤ maxLen) (hn : n < 18446744073709551616) (hb : m ≤ 1000000) (w : World) (hs : Sl byteR 1 w.heap.size w A b) :
    Calls Try.prog 17 #[.slice A m c, .int .u64 n] w (RetB w (b ++ encN n)) := by
  have h8 := nb_le n hn
  have hr := sl_bytes hs hm
  have hk8 : 1 + (nb n : Int) - 1 = (nb n % 256 : Nat) := by omega
  have hl1 : (([] : Bytes).length + b.length) * 1 ≤ 140737488355328 := by simp; omega
  have hl2 : ([] : Bytes).length + b.length ≤ maxLen := by simp [maxLen]; omega
  have hl3 : (([] ++ b).length + [UInt8.ofNat (nb n)].length) * 1 ≤ 140737488355328 := by simp; omega
  have hl4 : ([] ++ b).length + [UInt8.ofNat (nb n)].length ≤ maxLen := by simp [maxLen]; omega
  have HK := hid hk8; have HL1 := hid hl1; have HL2 := hid hl2; have HL3 := hid hl3; have HL4 := hid hl4; have HR := hid hr; have HM := hid hm
  clear hk8 hl1 hl2 hl3 hl4 hr hs hm
  go_enter Try.func17, Try.ntmps17
  go_wp2_with (first
    | (at_builtin; refine wpl_app0 (W := w) (R := byteR) (B := 0) rfl (.tmp 10) (.tmp 11) _ rfl tabB _ [] b rfl (Own.made w (Nat.le_refl _)) (Nat.zero_le _) (below_new _ _) A m c (b.map byteV) rfl HM.out (HR.out.alloc _) (cs_map _ _ _) (bytes_oneCell _) HL1.out HL2.out ?_; intro v0 w0 hown0 hbl0 _)
    | (go_at_call 18; refine (rsize_any n hn _).mono ?_; rintro e w' ⟨rfl, rfl⟩)
    | (at_builtin; refine wpl_one0 (W := w) (R := byteR) (B := 0) rfl (.tmp 16) (.tmp 19) _ rfl tabB _ ([] ++ b) (UInt8.ofNat (nb n)) rfl hown0 (Nat.zero_le _) hbl0 rfl rfl (byteV_at HK.out) (bytes1 _) HL3.out HL4.out ?_; intro v1 w1 hown1 hbl1 _))
  have HO := hid hown1; clear hown0 hown1 hbl0
  go_loopw [5, 7] (fun v i wr => ∃ q : Nat, q ≤ nb n ∧ i = .int .i64 ((q : Int) - 1) ∧ Own byteR 1 5 w.heap.size 0 wr v ((b ++ [UInt8.ofNat (nb n)]) ++ (be (nb n) n).take (nb n - q)) ∧ Below w.heap.size w wr)
    (fun _ i _ => (intOf i + 1).toNat)
  case atStart => exact ⟨nb n, Nat.le_refl _, by go_num, by simpa using HO.out, hbl1⟩
  case round =>
    obtain ⟨q, hq, rfl, hown, hbr⟩ := hrel
    cases q with
    | zero =>
      have HO2 := hid hown; clear hown
      go_wp2
      go_ret
      refine ⟨_, rfl, ?_, hbr⟩
      have := HO2.out
      rw [Nat.sub_zero, List.take_of_length_le (by rw [be_length]; omega)] at this
      simpa [encN] using this
    | succ p =>
      rw [show ((p + 1 : Nat) : Int) - 1 = (p : Int) by omega]
      have HO2 := hid hown; clear hown
      have hl : ((b ++ [UInt8.ofNat (nb n)]) ++ (be (nb n) n).take (nb n - (p + 1))).length ≤ 1000010 := by
        have hm' := HM.out
        simp only [List.length_append, List.length_cons, List.length_nil]
        have : (List.take (nb n - (p + 1)) (be (nb n) n)).length ≤ nb n := by rw [List.length_take, be_length]; omega
        omega
      have ht := be_take (nb n) n (nb n - (p + 1)) (by omega)
      rw [show nb n - 1 - (nb n - (p + 1)) = p by omega, show nb n - (p + 1) + 1 = nb n - p by omega] at ht
      generalize hL : (b ++ [UInt8.ofNat (nb n)]) ++ (be (nb n) n).take (nb n - (p + 1)) = L at *
      have HT := hid ht; have HL := hid hL; have HN := hid hl; clear ht hL hl
      go_wp2_with fail
      go_loop [8, 9] (fun x j => ∃ q : Nat, q ≤ p ∧ j = .int .i64 q ∧ x = .int .u64 (n / 256 ^ q : Nat)) (fun _ j => p - (intOf j).toNat)
      case atStart => exact ⟨0, Nat.zero_le _, rfl, by simp⟩
      case round =>
        obtain ⟨q, hqp, rfl, rfl⟩ := hrel
        have hy : n / 256 ^ q ≤ n := Nat.div_le_self _ _
        generalize hyq : n / 256 ^ q = y at *
        have HY := hid hyq; clear hyq
        by_cases hlt : q < p
        · go_wp2_with fail
          go_round
          case rel => exact ⟨q + 1, by omega, by go_num, by rw [Nat.pow_succ, ← Nat.div_div_eq_div_mul, HY.out]; go_num⟩
          case measure => simp [intOf]; omega
        · have hpq : q = p := by omega
          have HPQ := hid hpq; clear hpq
          have hyz : (y : Int) % 256 = (y % 256 : Nat) := by omega
          have HYZ := hid hyz; clear hyz
          go_wp2_with (first
            | (at_builtin; refine wpl_one0 (W := w) (R := byteR) (B := 0) rfl (.tmp 35) (.tmp 39) _ rfl tabB _ L (UInt8.ofNat y) rfl HO2.out (Nat.zero_le _) hbr rfl rfl (byteV_at HYZ.out) (bytes1 _) (by have := HN.out; omega) (by have := HN.out; simp [maxLen]; omega) ?_; intro v2 w2 hown2 hbl3 _))
          have HO3 := hid hown2; clear hown2
          go_roundw
          case rel =>
            refine ⟨p, by omega, by go_num, ?_, hbl3⟩
            have := HO3.out
            rw [← HL.out, List.append_assoc, ← HY.out, HPQ.out, ← HT.out] at this
            exact this
          case measure => simp [intOf]
end Go.Proofs.Ytpigfpnpabnnbaa
