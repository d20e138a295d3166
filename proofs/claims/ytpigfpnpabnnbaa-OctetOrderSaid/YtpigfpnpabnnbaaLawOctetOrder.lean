/-
  OctetOrder: of two numbers the one written in fewer bytes is the lesser one; of two written in as many, the one whose bytes are the lesser ones.
-/
import Derived.Test.YtpigfpnpabnnbaaOctetAlive
import Derived.Test.YtpigfpnpabnnbaaOctetLaw
namespace Go.Proofs.Ytpigfpnpabnnbaa
open Go.RowKit
set_option maxHeartbeats 1000000 in
theorem order_any (n m : Nat) (hn : n < 18446744073709551616) (hm : m < 18446744073709551616) (w : World) : Calls Try.prog 3 #[.int .u64 n, .int .u64 m] w fun e w' => e = .returned (.bool true) ∧ Below w.heap.size w w' := by
  go_enter Try.func3, Try.ntmps3
  go_wp2_with fail
  refine (put_any none [] 0 0 n rfl (Nat.le_refl _) (Nat.zero_le _) hn (by omega) _ Sl.nil).mono ?_
  rintro e w1 ⟨v, rfl, hown, hbl⟩
  obtain ⟨A, c, rfl, hc1, hc2, hsl⟩ := hown.len (Nat.zero_le _) (m := 1 + nb n) (by rw [List.nil_append, encN_length])
  go_wp2_with fail
  refine (put_any none [] 0 0 m rfl (Nat.le_refl _) (Nat.zero_le _) hm (by omega) _ Sl.nil).mono ?_
  rintro e w2 ⟨v2, rfl, hown2, hbl2⟩
  obtain ⟨A2, c2, rfl, hc21, hc22, hsl2⟩ := hown2.len (Nat.zero_le _) (m := 1 + nb m) (by rw [List.nil_append, encN_length])
  have hb2 : Below w.heap.size w w2 := below_then hbl hbl2
  have hsl := (hsl.below hbl2).mono hbl2.size
  clear hown hown2
  have HS := hid hsl; have HS2 := hid hsl2; clear hsl hsl2
  have h1 := nb_le n hn
  have h2 := nb_le m hm
  have h3 : ((1 + (nb n : Int)) == 1 + (nb n : Int)) = true := by simp
  have h4 : ((1 + (nb n : Int)) != 1 + (nb n : Int)) = false := by simp
  by_cases hlt : nb n < nb m
  · have hnm := nb_less n m hn hm hlt
    have hge : ¬ nb m ≤ nb n := by omega
    have hne : ((1 + (nb n : Int)) != 1 + (nb m : Int)) = true := by simp; omega
    go_wp2_with (first
      | (go_at_call 15; refine (size_any n hn _).mono ?_; rintro e w' ⟨rfl, rfl⟩)
      | (go_at_call 16; refine (alive01 _).mono ?_; rintro e w3 ⟨rfl, hb3⟩))
    go_ret
    exact ⟨rfl, below_then hb2 hb3⟩
  · by_cases heq : nb n = nb m
    · have hls := enc_less n m hn hm heq
      have hl1 : ([] ++ encN n).length = 1 + nb n := by rw [List.nil_append, encN_length]
      have hl2 : ([] ++ encN m).length = 1 + nb m := by rw [List.nil_append, encN_length]
      rw [← heq] at *
      have HL := hid hls; have HL1 := hid hl1; have HL2 := hid hl2; clear hls hl1 hl2
      go_wp2_with (first
        | (go_at_call 15; refine (size_any n hn _).mono ?_; rintro e w' ⟨rfl, rfl⟩)
        | (go_at_call 16; refine (alive01 _).mono ?_; rintro e w3 ⟨rfl, hb3⟩; have hq1 := conv_str (c := c) HL1.out (HS.out.below hb3); have hq2 := conv_str (c := c2) HL2.out (HS2.out.below hb3)))
      go_ret
      exact ⟨by rw [HL.out]; simp, below_then hb2 hb3⟩
    · have hge : nb m ≤ nb n := by omega
      have hne : ((1 + (nb n : Int)) != 1 + (nb m : Int)) = true := by simp; omega
      go_wp2_with (first
        | (go_at_call 15; refine (size_any n hn _).mono ?_; rintro e w' ⟨rfl, rfl⟩)
        | (go_at_call 16; refine (alive01 _).mono ?_; rintro e w3 ⟨rfl, hb3⟩))
      go_ret
      exact ⟨rfl, below_then hb2 hb3⟩
end Go.Proofs.Ytpigfpnpabnnbaa
