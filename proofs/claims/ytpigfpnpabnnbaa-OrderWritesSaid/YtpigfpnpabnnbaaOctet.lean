/-
  The walks of package octet: each function's contract.
-/
import Derived.Test.YtpigfpnpabnnbaaConv
import Derived.Test.YtpigfpnpabnnbaaLen
namespace Go.Proofs.Ytpigfpnpabnnbaa
open Go.RowKit

theorem size_any (n : Nat) (hn : n < 18446744073709551616) (w : World) :
    Calls Try.prog 15 #[.int .u64 n] w fun e w' => e = .returned (.int .i64 (1 + nb n : Nat)) ∧ w = w' := by
  have h8 := nb_le n hn
  have hb := bitLen_nb n hn
  have hb2 : Lib.bitLen n ≤ 64 := by omega
  have HB := hid hb; clear hb
  go_enter Try.func15, Try.ntmps15
  go_wp2_with (go_at_call 51; refine (len64_any _ _ (by omega) (by omega)).mono ?_; rintro e w' ⟨rfl, rfl⟩; rw [Int.toNat_natCast])
  go_ret
  exact ⟨ret_int (by have := HB.out; omega), rfl⟩

theorem clip_any (A : Option Addr) (n c : Nat) (hn : n ≤ c) (hc : c ≤ maxLen) (w : World) :
    Calls Try.prog 50 #[.slice A n c] w fun e w' => e = .returned (.slice A n n) ∧ w = w' := by
  unfold maxLen at hc
  go_enter Try.func50, Try.ntmps50
  go_wp2
  go_ret
  exact ⟨rfl, rfl⟩

set_option maxHeartbeats 400000 in
theorem put_any (A : Option Addr) (b : Bytes) (m c n : Nat) (hm : b.length = m) (hmc : m ≤ c) (hc : c ≤ maxLen) (hn : n < 18446744073709551616) (hb : m ≤ 1000000) (w : World) (hs : Sl byteR 1 w.heap.size w A b) :
    Calls Try.prog 14 #[.slice A m c, .int .u64 n] w (RetB w (b ++ encN n)) := by
  have h8 := nb_le n hn
  obtain ⟨xs, hr0', hcx⟩ := hs.cells
  rw [hm] at hr0'
  have hc0' : ∀ W : World, Cs byteR 1 0 W xs b := fun W => cs_bytes.2 (cs_bytes.1 hcx)
  have hk8 : 1 + (nb n : Int) - 1 = (nb n % 256 : Nat) := by omega
  have hl1 : (b.length + [UInt8.ofNat (nb n)].length) * 1 ≤ 140737488355328 := by simp; omega
  have hl2 : b.length + [UInt8.ofNat (nb n)].length ≤ maxLen := by simp [maxLen]; omega
  have HK := hid hk8; have HL1 := hid hl1; have HL2 := hid hl2; have HR := hid hr0'; have HC := hid hc0'
  clear hk8 hl1 hl2 hcx hr0' hc0' hs
  go_enter Try.func14, Try.ntmps14
  go_wp2_with (first
    | (go_at_call 15; refine (size_any n hn _).mono ?_; rintro e w' ⟨rfl, rfl⟩)
    | (go_at_call 50; refine (clip_any A m c hmc hc _).mono ?_; rintro e w' ⟨rfl, rfl⟩)
    | (at_builtin; refine wpl_append_full (R := byteR) (B := 0) rfl (.tmp 12) (.tmp 15) _ rfl tabB A m m xs b [UInt8.ofNat (nb n)] rfl hm rfl (HR.out.alloc _) (HC.out _) (Nat.zero_le _) ⟨w.heap.size, 0, none⟩ 1 1 [.int .u8 (1 + (nb n : Int) - 1)] rfl rfl Nat.one_pos (rdc_new _ _ _ rfl) (byte_one HK.out _) (bytes1 _) HL1.out HL2.out ?_; intro v1 w1 hown hbl))
  have hown2 := hown.low (base' := w.heap.size) (by simp)
  have hbl2 : Below w.heap.size w w1 := below_then (below_new _ _) hbl
  have HO := hid hown2; clear hown hbl hown2
  go_loopw [6, 7] (fun v i wr => ∃ q : Nat, q ≤ nb n ∧ i = .int .i64 ((q : Int) - 1) ∧ Own byteR 1 5 w.heap.size 0 wr v ((b ++ [UInt8.ofNat (nb n)]) ++ (be (nb n) n).take (nb n - q)) ∧ Below w.heap.size w wr)
    (fun _ i _ => (intOf i + 1).toNat)
  case atStart => exact ⟨nb n, Nat.le_refl _, by go_num, by simpa using HO.out, hbl2⟩
  case round =>
    obtain ⟨q, hq, rfl, hown, hbr⟩ := hrel
    cases q with
    | zero =>
      have HO2 := hid hown; clear hown
      go_wp2
      go_ret
      refine ⟨_, rfl, ?_, hbr⟩
      have := HO2.out
      rw [Nat.sub_zero, List.take_of_length_le (by rw [be_length]; omega)] at this
      simpa [encN] using this
    | succ p =>
      rw [show ((p + 1 : Nat) : Int) - 1 = (p : Int) by omega]
      have HO2 := hid hown; clear hown
      have hl : ((b ++ [UInt8.ofNat (nb n)]) ++ (be (nb n) n).take (nb n - (p + 1))).length ≤ 1000010 := by
        simp only [List.length_append, List.length_cons, List.length_nil]
        have : (List.take (nb n - (p + 1)) (be (nb n) n)).length ≤ nb n := by rw [List.length_take, be_length]; omega
        omega
      have hk := shr_byte n p
      have ht := be_take (nb n) n (nb n - (p + 1)) (by omega)
      rw [show nb n - 1 - (nb n - (p + 1)) = p by omega, show nb n - (p + 1) + 1 = nb n - p by omega] at ht
      generalize hL : (b ++ [UInt8.ofNat (nb n)]) ++ (be (nb n) n).take (nb n - (p + 1)) = L at *
      have HK1 := hid hk; have HT := hid ht; have HL := hid hL; have HN := hid hl; clear hk ht hL hl
      go_wp2_with (first
        | (at_builtin; refine wpl_append (R := byteR) (B := 0) rfl (.tmp 23) (.tmp 29) _ rfl tabB _ L [UInt8.ofNat (n / 256 ^ p)] rfl (HO2.out.alloc (Nat.zero_le _) _) (Nat.zero_le _) (some ⟨wr.heap.size, 0, none⟩) 1 1 [.int .u8 ((n : Int) / 2 ^ (8 * p) % 256)] rfl rfl (rdc_new _ _ _ rfl) (byte_one HK1.out _) (bytes1 _) (by have := HN.out; simp; omega) (by have := HN.out; simp [maxLen]; omega) (le_alloc hbr.size _) ?_; intro v2 w2 hown2 hbl3 _ _))
      have HO3 := hid hown2; clear hown2
      go_roundw
      case rel =>
        refine ⟨p, by omega, by go_num, ?_, ?_⟩
        · have := HO3.out
          rw [← HL.out, List.append_assoc, ← HT.out] at this
          exact this
        · exact (hbr.trans ((Below.refl _ _).alloc hbr.size _)).trans hbl3
      case measure => simp [intOf]
end Go.Proofs.Ytpigfpnpabnnbaa
