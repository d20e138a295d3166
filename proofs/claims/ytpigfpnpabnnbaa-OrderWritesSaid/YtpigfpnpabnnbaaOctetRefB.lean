/-
  The walks of the reference of octet, on: Int, Text, List.
-/
import Derived.Test.YtpigfpnpabnnbaaOctetRef
namespace Go.Proofs.Ytpigfpnpabnnbaa
open Go.RowKit
theorem rint_any (A : Option Addr) (b : Bytes) (m c : Nat) (n : Int) (hm : b.length = m) (hmc : m ≤ c) (hc : c ≤ maxLen) (hn : -9223372036854775808 ≤ n) (hn' : n ≤ 9223372036854775807) (hb : m ≤ 1000000) (w : World) (hs : Sl byteR 1 w.heap.size w A b) :
    Calls Try.prog 20 #[.slice A m c, .int .i64 n] w (RetB w (b ++ encN (zig n))) := by
  have hz := zig_lt n hn hn'
  by_cases h : n < 0
  · have hk : 2 * (-(n + 1)) + 1 = (zig n : Nat) := by unfold zig; rw [if_pos h]; omega
    have HK := hid hk; clear hk
    go_enter Try.func20, Try.ntmps20
    go_wp2_with fail
    first | rw [HK.out] | rw [show (2 * (-1 + -n) + 1 : Int) = (zig n : Nat) by have := HK.out; omega] | go_show
    refine (rput_any A b m c (zig n) hm hmc hc hz hb _ hs).mono ?_; rintro e w' ⟨v, rfl, hown, hbl⟩
    go_wp2_with fail
    go_ret
    exact ⟨v, rfl, hown, hbl⟩
  · have hk : 2 * n = (zig n : Nat) := by unfold zig; rw [if_neg h]; omega
    have HK := hid hk; clear hk
    go_enter Try.func20, Try.ntmps20
    go_wp2_with fail
    rw [HK.out]
    refine (rput_any A b m c (zig n) hm hmc hc hz hb _ hs).mono ?_; rintro e w' ⟨v, rfl, hown, hbl⟩
    go_wp2_with fail
    go_ret
    exact ⟨v, rfl, hown, hbl⟩
theorem rtext_any (A : Option Addr) (b : Bytes) (m c : Nat) (s : ByteArray) (hm : b.length = m) (hmc : m ≤ c) (hc : c ≤ maxLen) (hs0 : s.size ≤ 1000000) (hb : m ≤ 1000000) (w : World) (hs : Sl byteR 1 w.heap.size w A b) :
    Calls Try.prog 22 #[.slice A m c, .string s] w (RetB w (b ++ encT (sb s))) := by
  have hl := encN_le s.size (by omega)
  go_enter Try.func22, Try.ntmps22
  go_wp2_with fail
  refine (rput_any A b m c s.size hm hmc hc (by omega) hb _ hs).mono ?_; rintro e w1 ⟨v, rfl, hown, hbl⟩
  have hsz := hbl.size
  have HO := hid hown; clear hown
  have hlen : (b ++ encN s.size).length + s.size ≤ 140737488355328 := by rw [List.length_append]; omega
  have HL := hid hlen; clear hlen
  go_wp2_with (first
    | (at_builtin; refine wpl_append_str rfl (.tmp 11) (.tmp 12) _ _ rfl tabB infoB Try.underlying9 _ (b ++ encN s.size) rfl HO.out s rfl HL.out hsz ?_; intro v2 w2 hown2 hbl2 _))
  go_ret
  refine ⟨v2, rfl, ?_, hbl.trans hbl2⟩
  rw [List.append_assoc] at hown2
  rw [encT, sb_length]
  exact hown2
set_option maxHeartbeats 400000 in
theorem rlist_any (A A2 : Option Addr) (b : Bytes) (l : List ByteArray) (m c m2 c2 : Nat) (hm : b.length = m) (hmc : m ≤ c) (hc : c ≤ maxLen) (hm2 : l.length = m2) (hb : m + tot (l.map sb) ≤ 900000) (w : World) (hs : Sl byteR 1 w.heap.size w A b) (hs2 : Sl strR 1 w.heap.size w A2 l) :
    Calls Try.prog 24 #[.slice A m c, .slice A2 m2 c2] w (RetB w (b ++ encL (l.map sb))) := by
  have hll := tot_length (l.map sb)
  rw [List.length_map] at hll
  have hn := encN_le l.length (by omega)
  subst hm2
  have hmx : (l.length : Int) ≤ 9223372036854775807 := by omega
  go_enter Try.func24, Try.ntmps24
  go_wp2_with fail
  refine (rput_any A b m c l.length hm hmc hc (by omega) (by omega) _ hs).mono ?_; rintro e w1 ⟨v, rfl, hown, hbl⟩
  have HO := hid hown; have HS2 := hid hs2; clear hown hs2 hs
  go_wp2_with fail
  go_loopw [5, 6] (fun v i wr => ∃ k : Nat, k ≤ l.length ∧ i = .int .i64 k ∧ Own byteR 1 5 w.heap.size 0 wr v ((b ++ encN l.length) ++ encRow ((l.map sb).take k)) ∧ Below w.heap.size w wr)
    (fun _ i _ => l.length - (intOf i).toNat)
  case atStart => exact ⟨0, Nat.zero_le _, rfl, by simpa [encRow] using HO.out, hbl⟩
  case round =>
    obtain ⟨k, hk, rfl, hown, hbr⟩ := hrel
    have HO2 := hid hown; clear hown
    by_cases hlt : k < l.length
    · obtain ⟨sb0, so, sv, rfl, hsb, hsr, hsc⟩ := HS2.out.get1 (List.getElem?_eq_getElem hlt)
      have hsr' : sv = .string l[k] := by have := hsr.1; simpa using this
      have hcell := (hbr.cell (p := ⟨sb0, so + k, none⟩) hsb).trans hsc
      rw [hsr'] at hcell
      clear hsc hsr hsb hsr'
      have hget : (l.map sb)[k]? = some (sb l[k]) := by simp [hlt]
      have hmem := tot_mem hget
      rw [sb_length] at hmem
      have htk := tot_take (l.map sb) k
      have hrl := encRow_le ((l.map sb).take k) (by omega)
      have hsucc := encRow_succ _ _ _ hget
      obtain ⟨A3, c3, rfl, hc3, hm3, hsl3⟩ := HO2.out.sl (Nat.zero_le _)
      have hlen : ((b ++ encN l.length) ++ encRow ((l.map sb).take k)).length ≤ 1000000 := by simp only [List.length_append]; omega
      generalize hL : (b ++ encN l.length) ++ encRow ((l.map sb).take k) = L at *
      generalize hsk : l[k] = sk at *
      have HL := hid hL; have HG := hid hget; have HSU := hid hsucc; have HSL := hid hsl3; clear hL hget hsucc hsl3 hsk
      go_wp2_with fail
      refine (rtext_any A3 L L.length c3 sk rfl hc3 hm3 (by omega) hlen _ HSL.out).mono ?_; rintro e w2 ⟨v2, rfl, hown2, hbl2⟩
      have HO3 := hid (hown2.low hbr.size); clear hown2
      go_wp2_with fail
      go_roundw
      case rel =>
        refine ⟨k + 1, by omega, by go_num, ?_, below_then hbr hbl2⟩
        rw [HSU.out, ← List.append_assoc, HL.out]
        exact HO3.out
      case measure => simp [intOf]; omega
    · have hk' : k = l.length := by omega
      have HK := hid hk'; clear hk'
      go_wp2_with fail
      go_ret
      refine ⟨_, rfl, ?_, hbr⟩
      have := HO2.out
      rw [HK.out, List.take_of_length_le (by simp), List.append_assoc] at this
      rw [encL_row, List.length_map]
      exact this
end Go.Proofs.Ytpigfpnpabnnbaa
