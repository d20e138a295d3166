/-
  The walks of octet, on: TakeList.
-/
import Derived.Test.YtpigfpnpabnnbaaTakeC
namespace Go.Proofs.Ytpigfpnpabnnbaa
open Go.RowKit
theorem tabS : Tab Try.prog 28 9 1 16 := by
  obtain ⟨i, h1, h2, h3, h4⟩ := info_parts (P := Try.prog) (e := 9) (z := .string ⟨#[]⟩) (size := 1) (bytes := 16) (by kernel_rfl)
  exact ⟨Try.underlying28, ⟨i, _, h1, h2, h3, h4, rfl⟩, by omega⟩
/-- Bytes as a string. -/
def mkS (s : Bytes) : ByteArray := ⟨s.toArray⟩
theorem sb_mkS (s : Bytes) : sb (mkS s) = s := rfl
/-- What TakeList answers. -/
def ListRet (B : Nat) (w : World) (r : Except Int (List Bytes × Bytes)) (e : Ending) (w' : World) : Prop :=
  Below w.heap.size w w' ∧ match r with
    | .error z => e = .returned (.tuple #[.slice none 0 0, .slice none 0 0, .int .i64 z])
    | .ok (l, r) => ∃ v A c, e = .returned (.tuple #[v, .slice A r.length c, .int .i64 0]) ∧ Own strR 1 9 w.heap.size 0 w' v (l.map mkS) ∧ r.length ≤ c ∧ c ≤ maxLen ∧ Sl byteR 1 B w' A r
set_option maxHeartbeats 1000000 in
theorem takelist_ok (A : Option Addr) (b r : Bytes) (m c n : Nat) (many most : Int) (hm : b.length = m) (hc1 : m ≤ c) (hc : c ≤ maxLen) (hm0 : m ≤ 1000000) (hmo : most ≤ 9223372036854775807) (hma : many ≤ 9223372036854775807) (ht : takeN b = .ok (n, r)) (hn : n ≤ max many 0) (w : World) {B : Nat} (hBw : B ≤ w.heap.size) (hs : Sl byteR 1 B w A b) :
    Calls Try.prog 29 #[.slice A m c, .int .i64 many, .int .i64 most] w (ListRet B w (takeTs most n r)) := by
  obtain ⟨hn64, hrl⟩ := taken_lt ht
  rw [hm] at hrl
  have HT := hid ht; have HM := hid hm; clear ht hm
  have hmx : (n : Int) ≤ (if many < 0 then 0 else many) := by split <;> omega
  go_enter Try.func29, Try.ntmps29
  go_wp2_with fail
  refine (take_any A b m c HM.out hc1 hc _ hs).mono ?_
  rw [HT.out]
  rintro e w1 ⟨⟨q, rfl⟩, A', c', rfl, hc2, hc3, hsl⟩
  have hstart : Below w.heap.size w (w.drewN q) := below_drewN (Below.refl _ _) _
  have HS := hid hsl; clear hsl hs
  go_wp2_with fail
  go_loopw [10, 12, 33] (fun rs v i wr => ∃ (k : Nat) (l : List Bytes) (r' : Bytes) (A2 : Option Addr) (c2 : Nat), k ≤ n ∧ i = .int .u64 k ∧ l.length = k ∧ r'.length + k ≤ r.length ∧ rs = .slice A2 r'.length c2 ∧ r'.length ≤ c2 ∧ c2 ≤ maxLen ∧ Sl byteR 1 B wr A2 r' ∧
      Own strR 1 9 w.heap.size 0 wr v (l.map mkS) ∧ takeTs most n r = glue l (takeTs most (n - k) r') ∧ Below w.heap.size w wr)
    (fun _ _ i _ => n - (intOf i).toNat)
  case atStart =>
    refine ⟨0, [], r, A', c', Nat.zero_le _, rfl, rfl, by omega, rfl, hc2, hc3, HS.out.below (below_drewN (Below.refl _ _) _), Own.nil _, ?_, hstart⟩
    rw [Nat.sub_zero]
    cases takeTs most n r with
    | error z => rfl
    | ok p => obtain ⟨l', r'⟩ := p; rfl
  case round =>
    obtain ⟨k, l, r', A2, c2, hk, rfl, hl, hr', rfl, hc4, hc5, hsl, hown, hspec, hbr⟩ := hrel
    have HL := hid hl; have HSL := hid hsl; have HO := hid hown; have HP := hid hspec; clear hl hsl hown hspec
    by_cases hlt : k < n
    · cases htt : takeT r' most with
      | error z =>
        have hz : (z != 0) = true := by
          rw [bne_iff_ne]
          rcases takeT_err htt with h | h | h <;> rw [h] <;> decide
        have HTT := hid htt; clear htt
        go_wp2_with fail
        refine (taketext_any A2 r' _ c2 most rfl hc4 hc5 hmo _ HSL.out).mono ?_
        rw [HTT.out]
        rintro e w2 ⟨⟨q2, rfl⟩, rfl⟩
        go_wp2_with fail
        go_ret3
        refine ⟨below_drewN hbr _, ?_⟩
        rw [HP.out, show n - k = (n - k - 1) + 1 by omega, takeTs_err HTT.out]
        rfl
      | ok p =>
        obtain ⟨s, r2⟩ := p
        have hsh := takeT_shorter htt
        have hs1 : (mkS s).size ≤ maxLen := by show s.toArray.size ≤ _; unfold maxLen; simp; omega
        have hs2 : ((l.map mkS).length + 1) * 16 ≤ 140737488355328 := by rw [List.length_map, HL.out]; omega
        have hs3 : (l.map mkS).length + 1 ≤ maxLen := by rw [List.length_map, HL.out]; unfold maxLen; omega
        have HS1 := hid hs1; have HS2 := hid hs2; have HS3 := hid hs3; clear hs1 hs2 hs3
        have HTT := hid htt; clear htt
        go_wp2_with fail
        refine (taketext_any A2 r' _ c2 most rfl hc4 hc5 hmo _ HSL.out).mono ?_
        rw [HTT.out]
        rintro e w2 ⟨⟨q2, rfl⟩, A3, c3, rfl, hc6, hc7, hsl3⟩
        have HSL3 := hid hsl3; clear hsl3
        have hbr2 : Below w.heap.size w (wr.drewN q2) := below_drewN hbr _
        go_wp2_with (first
          | (at_builtin; refine wpl_one0 (W := w) (R := strR) (B := 0) rfl (.tmp 45) (.tmp 47) _ rfl tabS _ (l.map mkS) (mkS s) rfl (HO.out.drewN _) (Nat.zero_le _) hbr2 rfl rfl (str_at HS1.out) (mem_one _ rfl) HS2.out HS3.out ?_; intro v2 w3 hown2 hbl3 hsz3))
        have HO2 := hid hown2; clear hown2
        go_roundw
        case rel =>
          refine ⟨k + 1, l ++ [s], r2, A3, c3, by omega, by go_num, by rw [List.length_append, HL.out]; rfl, by omega, rfl, hc6, hc7, ?_, by rw [List.map_append]; exact HO2.out, ?_, hbl3⟩
          · exact HSL3.out.below ((below_both hbr hbl3 (by simpa using hsz3)).mono hBw)
          · rw [HP.out, show n - k = (n - (k + 1)) + 1 by omega, takeTs_ok HTT.out]
        case measure => simp [intOf]; omega
    · obtain rfl : k = n := by omega
      go_wp2_with fail
      go_ret3
      refine ⟨hbr, ?_⟩
      rw [HP.out, Nat.sub_self]
      simp only [takeTs, glue, List.append_nil]
      exact ⟨_, A2, c2, rfl, HO.out, hc4, hc5, HSL.out⟩
theorem takelist_err (A : Option Addr) (b : Bytes) (m c : Nat) (many most z : Int) (hm : b.length = m) (hc1 : m ≤ c) (hc : c ≤ maxLen) (ht : takeN b = .error z) (w : World) {B : Nat} (hs : Sl byteR 1 B w A b) :
    Calls Try.prog 29 #[.slice A m c, .int .i64 many, .int .i64 most] w (ListRet B w (.error z)) := by
  have hzb : (z != 0) = true := by rw [bne_iff_ne]; rcases takeN_err ht with h | h <;> rw [h] <;> decide
  have HT := hid ht; clear ht
  go_enter Try.func29, Try.ntmps29
  go_wp2_with fail
  refine (take_any A b m c hm hc1 hc _ hs).mono ?_
  rw [HT.out]
  rintro e w1 ⟨⟨q, rfl⟩, rfl⟩
  go_wp2_with fail
  go_ret3
  exact ⟨below_drewN (Below.refl _ _) _, rfl⟩
theorem takelist_large (A : Option Addr) (b r : Bytes) (m c n : Nat) (many most : Int) (hm : b.length = m) (hc1 : m ≤ c) (hc : c ≤ maxLen) (hma : many ≤ 9223372036854775807) (ht : takeN b = .ok (n, r)) (hn : max many 0 < n) (w : World) {B : Nat} (hs : Sl byteR 1 B w A b) :
    Calls Try.prog 29 #[.slice A m c, .int .i64 many, .int .i64 most] w (ListRet B w (.error 5)) := by
  obtain ⟨hn64, _⟩ := taken_lt ht
  have HT := hid ht; clear ht
  by_cases hm0 : many < 0
  · have hn' : 0 < n := by omega
    clear hn
    go_enter Try.func29, Try.ntmps29
    go_wp2_with fail
    refine (take_any A b m c hm hc1 hc _ hs).mono ?_
    rw [HT.out]
    rintro e w1 ⟨⟨q, rfl⟩, A', c', rfl, hc2, hc3, hsl⟩
    go_wp2_with fail
    go_ret3
    exact ⟨below_drewN (Below.refl _ _) _, rfl⟩
  · have hn' : many < n := by omega
    clear hn
    go_enter Try.func29, Try.ntmps29
    go_wp2_with fail
    refine (take_any A b m c hm hc1 hc _ hs).mono ?_
    rw [HT.out]
    rintro e w1 ⟨⟨q, rfl⟩, A', c', rfl, hc2, hc3, hsl⟩
    go_wp2_with fail
    go_ret3
    exact ⟨below_drewN (Below.refl _ _) _, rfl⟩
theorem takelist_any (A : Option Addr) (b : Bytes) (m c : Nat) (many most : Int) (hm : b.length = m) (hc1 : m ≤ c) (hc : c ≤ maxLen) (hm0 : m ≤ 1000000) (hmo : most ≤ 9223372036854775807) (hma : many ≤ 9223372036854775807) (w : World) {B : Nat} (hBw : B ≤ w.heap.size) (hs : Sl byteR 1 B w A b) :
    Calls Try.prog 29 #[.slice A m c, .int .i64 many, .int .i64 most] w (ListRet B w (takeL b many most)) := by
  cases ht : takeN b with
  | error z =>
    rw [show takeL b many most = .error z by rw [takeL, ht]]
    exact takelist_err A b m c many most z hm hc1 hc ht w hs
  | ok p =>
    obtain ⟨n, r⟩ := p
    by_cases h1 : (max many 0).toNat < n
    · rw [show takeL b many most = .error 5 by rw [takeL, ht]; simp only; rw [if_pos h1]]
      exact takelist_large A b r m c n many most hm hc1 hc hma ht (by omega) w hs
    · rw [show takeL b many most = takeTs most n r by rw [takeL, ht]; simp only; rw [if_neg h1]]
      exact takelist_ok A b r m c n many most hm hc1 hc hm0 hmo hma ht (by omega) w hBw hs
end Go.Proofs.Ytpigfpnpabnnbaa
