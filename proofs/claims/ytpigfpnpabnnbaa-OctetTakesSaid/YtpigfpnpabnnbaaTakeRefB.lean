/-
  The walks of the reference of octet, on: TakeText, TakeList.
-/
import Derived.Test.YtpigfpnpabnnbaaTakeRef
namespace Go.Proofs.Ytpigfpnpabnnbaa
open Go.RowKit
theorem rtext_err (A : Option Addr) (b : Bytes) (m c : Nat) (most z : Int) (hm : b.length = m) (hc1 : m ≤ c) (hc : c ≤ maxLen) (hz : z ≠ 0) (ht : takeN b = .error z) (w : World) {B : Nat} (hs : Sl byteR 1 B w A b) :
    Calls Try.prog 28 #[.slice A m c, .int .i64 most] w (TextRet B w (.error z)) := by
  have hzb : (z != 0) = true := by rw [bne_iff_ne]; exact hz
  have HT := hid ht; clear ht
  go_enter Try.func28, Try.ntmps28
  go_wp2_with fail
  refine (rtake_any A b m c hm hc1 hc _ hs).mono ?_
  rw [HT.out]
  rintro e w1 ⟨⟨q, rfl⟩, rfl⟩
  go_wp2_with fail
  go_ret3
  exact ⟨⟨q, rfl⟩, rfl⟩
theorem rtext_large (A : Option Addr) (b r : Bytes) (m c n : Nat) (most z : Int) (hm : b.length = m) (hc1 : m ≤ c) (hc : c ≤ maxLen) (hmo : most ≤ 9223372036854775807) (ht : takeN b = .ok (n, r)) (hn : (max most 0 < n ∧ z = 5) ∨ (n ≤ max most 0 ∧ r.length < n ∧ z = 2)) (w : World) {B : Nat} (hs : Sl byteR 1 B w A b) :
    Calls Try.prog 28 #[.slice A m c, .int .i64 most] w (TextRet B w (.error z)) := by
  obtain ⟨hn64, hrl⟩ := taken_lt ht
  rw [hm] at hrl
  have HT := hid ht; clear ht
  unfold maxLen at hc
  rcases hn with ⟨hn, rfl⟩ | ⟨hn, hn2, rfl⟩
  · by_cases hm0 : most < 0
    · have hn' : 0 < n := by omega
      clear hn
      go_enter Try.func28, Try.ntmps28
      go_wp2_with fail
      refine (rtake_any A b m c hm hc1 (by unfold maxLen; omega) _ hs).mono ?_
      rw [HT.out]
      rintro e w1 ⟨⟨q, rfl⟩, A', c', rfl, hc2, hc3, hsl⟩
      unfold maxLen at hc3
      go_wp2_with fail
      go_ret3
      exact ⟨⟨q, rfl⟩, rfl⟩
    · have hn' : most < n := by omega
      clear hn
      go_enter Try.func28, Try.ntmps28
      go_wp2_with fail
      refine (rtake_any A b m c hm hc1 (by unfold maxLen; omega) _ hs).mono ?_
      rw [HT.out]
      rintro e w1 ⟨⟨q, rfl⟩, A', c', rfl, hc2, hc3, hsl⟩
      unfold maxLen at hc3
      go_wp2_with fail
      go_ret3
      exact ⟨⟨q, rfl⟩, rfl⟩
  · have h0n : 0 < n := by omega
    have hm0 : ¬ most < 0 := by omega
    have hn' : (n : Int) ≤ most := by omega
    clear hn
    go_enter Try.func28, Try.ntmps28
    go_wp2_with fail
    refine (rtake_any A b m c hm hc1 (by unfold maxLen; omega) _ hs).mono ?_
    rw [HT.out]
    rintro e w1 ⟨⟨q, rfl⟩, A', c', rfl, hc2, hc3, hsl⟩
    unfold maxLen at hc3
    go_wp2_with fail
    go_ret3
    exact ⟨⟨q, rfl⟩, rfl⟩

theorem rtext_ok (A : Option Addr) (b r : Bytes) (m c n : Nat) (most : Int) (hm : b.length = m) (hc1 : m ≤ c) (hc : c ≤ maxLen) (hmo : most ≤ 9223372036854775807) (ht : takeN b = .ok (n, r)) (hn : n ≤ max most 0) (hnr : n ≤ r.length) (w : World) {B : Nat} (hs : Sl byteR 1 B w A b) :
    Calls Try.prog 28 #[.slice A m c, .int .i64 most] w (TextRet B w (.ok (r.take n, r.drop n))) := by
  obtain ⟨hn64, hrl⟩ := taken_lt ht
  rw [hm] at hrl
  have HT := hid ht; clear ht
  unfold maxLen at hc
  have hmx : (n : Int) ≤ (if most < 0 then 0 else most) := by split <;> omega
  go_enter Try.func28, Try.ntmps28
  go_wp2_with fail
  refine (rtake_any A b m c hm hc1 (by unfold maxLen; omega) _ hs).mono ?_
  rw [HT.out]
  rintro e w1 ⟨⟨q, rfl⟩, A', c', rfl, hc2, hc3, hsl⟩
  have hlt : (r.take n).length = n := by rw [List.length_take]; omega
  have hld : (r.drop n).length = r.length - n := List.length_drop
  have hcv := str_drewN A' n c' _ (r.take n) hlt (hsl.take n)
  unfold maxLen at hc3
  generalize htn : r.take n = tn at *
  have HS := hid hsl; have HL := hid hlt; have HD := hid hld; clear hsl hs hlt hld htn
  by_cases hr0 : r.length = 0
  · have hr1 : r = [] := List.length_eq_zero_iff.1 hr0
    subst hr1
    have hn0 : n = 0 := by simpa using hnr
    subst hn0
    cases A' with
    | none =>
      go_wp2_with fail
      go_quiet (fail)
      go_wp2_with fail
      go_ret3
      exact ⟨⟨_, World.drewN_drewN _ _ _⟩, _, _, rfl, by simp, by unfold maxLen; omega, Sl.nil⟩
    | some ad =>
      by_cases hcn : c' = 0
      · subst hcn
        go_wp2_with fail
        go_quiet (fail)
        go_wp2_with fail
        go_ret3
        exact ⟨⟨_, World.drewN_drewN _ _ _⟩, _, _, rfl, by simp, by unfold maxLen; omega, Sl.nil⟩
      · go_wp2_with fail
        go_quiet (fail)
        go_wp2_with fail
        go_ret3
        exact ⟨⟨_, World.drewN_drewN _ _ _⟩, _, _, rfl, by simp, by unfold maxLen; omega, Sl.nil⟩
  · obtain ⟨b', o', rfl, _, _⟩ := HS.out (by rintro rfl; exact hr0 rfl)
    have hdr := HS.out.drop n
    rw [Nat.mul_one] at hdr
    have HDR := hid hdr; clear hdr
    by_cases hcn : c' = n
    · subst hcn
      go_wp2_with fail
      go_quiet (fail)
      go_wp2_with fail
      go_ret3
      refine ⟨⟨_, World.drewN_drewN _ _ _⟩, some ⟨b', o', none⟩, 0, by rw [HD.out]; simp <;> omega, ?_, by simp [maxLen], fun hne => absurd (List.drop_eq_nil_of_le (by omega)) hne⟩
      rw [HD.out]; omega
    · go_wp2_with fail
      go_quiet (fail)
      go_wp2_with fail
      go_ret3
      refine ⟨⟨_, World.drewN_drewN _ _ _⟩, some ⟨b', o' + n, none⟩, c' - n, by rw [HD.out]; rfl, ?_, by unfold maxLen; omega, HDR.out⟩
      rw [HD.out]; omega
theorem rtaketext_any (A : Option Addr) (b : Bytes) (m c : Nat) (most : Int) (hm : b.length = m) (hc1 : m ≤ c) (hc : c ≤ maxLen) (hmo : most ≤ 9223372036854775807) (w : World) {B : Nat} (hs : Sl byteR 1 B w A b) :
    Calls Try.prog 28 #[.slice A m c, .int .i64 most] w (TextRet B w (takeT b most)) := by
  cases ht : takeN b with
  | error z =>
    have hz : z ≠ 0 := by
      unfold takeN at ht
      split at ht
      · cases ht; decide
      · split at ht
        · cases ht; decide
        · split at ht <;> cases ht
          decide
    rw [show takeT b most = .error z by rw [takeT, ht]]
    exact rtext_err A b m c most z hm hc1 hc hz ht w hs
  | ok p =>
    obtain ⟨n, r⟩ := p
    by_cases h1 : (max most 0).toNat < n
    · rw [show takeT b most = .error 5 by rw [takeT, ht]; simp only; rw [if_pos h1]]
      exact rtext_large A b r m c n most 5 hm hc1 hc hmo ht (.inl ⟨by omega, rfl⟩) w hs
    · by_cases h2 : r.length < n
      · rw [show takeT b most = .error 2 by rw [takeT, ht]; simp only; rw [if_neg h1, if_pos h2]]
        exact rtext_large A b r m c n most 2 hm hc1 hc hmo ht (.inr ⟨by omega, h2, rfl⟩) w hs
      · rw [show takeT b most = .ok (r.take n, r.drop n) by rw [takeT, ht]; simp only; rw [if_neg h1, if_neg h2]]
        exact rtext_ok A b r m c n most hm hc1 hc hmo ht (by omega) (by omega) w hs
set_option maxHeartbeats 1000000 in
theorem rtakelist_ok (A : Option Addr) (b r : Bytes) (m c n : Nat) (many most : Int) (hm : b.length = m) (hc1 : m ≤ c) (hc : c ≤ maxLen) (hm0 : m ≤ 1000000) (hmo : most ≤ 9223372036854775807) (hma : many ≤ 9223372036854775807) (ht : takeN b = .ok (n, r)) (hn : n ≤ max many 0) (w : World) {B : Nat} (hBw : B ≤ w.heap.size) (hs : Sl byteR 1 B w A b) :
    Calls Try.prog 30 #[.slice A m c, .int .i64 many, .int .i64 most] w (ListRet B w (takeTs most n r)) := by
  obtain ⟨hn64, hrl⟩ := taken_lt ht
  rw [hm] at hrl
  have HT := hid ht; have HM := hid hm; clear ht hm
  have hmx : (n : Int) ≤ (if many < 0 then 0 else many) := by split <;> omega
  go_enter Try.func30, Try.ntmps30
  go_wp2_with fail
  refine (rtake_any A b m c HM.out hc1 hc _ hs).mono ?_
  rw [HT.out]
  rintro e w1 ⟨⟨q, rfl⟩, A', c', rfl, hc2, hc3, hsl⟩
  have hstart : Below w.heap.size w (w.drewN q) := below_drewN (Below.refl _ _) _
  have HS := hid hsl; clear hsl hs
  go_wp2_with fail
  go_loopw [10, 12, 13] (fun rs v i wr => ∃ (k : Nat) (l : List Bytes) (r' : Bytes) (A2 : Option Addr) (c2 : Nat), k ≤ n ∧ i = .int .u64 k ∧ l.length = k ∧ r'.length + k ≤ r.length ∧ rs = .slice A2 r'.length c2 ∧ r'.length ≤ c2 ∧ c2 ≤ maxLen ∧ Sl byteR 1 B wr A2 r' ∧
      Own strR 1 9 w.heap.size 0 wr v (l.map mkS) ∧ takeTs most n r = glue l (takeTs most (n - k) r') ∧ Below w.heap.size w wr)
    (fun _ _ i _ => n - (intOf i).toNat)
  case atStart =>
    refine ⟨0, [], r, A', c', Nat.zero_le _, rfl, rfl, by omega, rfl, hc2, hc3, HS.out.below ((below_alloc hstart _).mono hBw), Own.made _ (Nat.le_refl _), ?_, below_alloc hstart _⟩
    rw [Nat.sub_zero]
    cases takeTs most n r with
    | error z => rfl
    | ok p => obtain ⟨l', r'⟩ := p; rfl
  case round =>
    obtain ⟨k, l, r', A2, c2, hk, rfl, hl, hr', rfl, hc4, hc5, hsl, hown, hspec, hbr⟩ := hrel
    have HL := hid hl; have HSL := hid hsl; have HO := hid hown; have HP := hid hspec; clear hl hsl hown hspec
    by_cases hlt : k < n
    · cases htt : takeT r' most with
      | error z =>
        have hz : (z != 0) = true := by
          rw [bne_iff_ne]
          rcases takeT_err htt with h | h | h <;> rw [h] <;> decide
        have HTT := hid htt; clear htt
        go_wp2_with fail
        refine (rtaketext_any A2 r' _ c2 most rfl hc4 hc5 hmo _ HSL.out).mono ?_
        rw [HTT.out]
        rintro e w2 ⟨⟨q2, rfl⟩, rfl⟩
        go_wp2_with fail
        go_ret3
        refine ⟨below_drewN hbr _, ?_⟩
        rw [HP.out, show n - k = (n - k - 1) + 1 by omega, takeTs_err HTT.out]
        rfl
      | ok p =>
        obtain ⟨s, r2⟩ := p
        have hsh := takeT_shorter htt
        have hs1 : (mkS s).size ≤ maxLen := by show s.toArray.size ≤ _; unfold maxLen; simp; omega
        have hs2 : ((l.map mkS).length + 1) * 16 ≤ 140737488355328 := by rw [List.length_map, HL.out]; omega
        have hs3 : (l.map mkS).length + 1 ≤ maxLen := by rw [List.length_map, HL.out]; unfold maxLen; omega
        have HS1 := hid hs1; have HS2 := hid hs2; have HS3 := hid hs3; clear hs1 hs2 hs3
        have HTT := hid htt; clear htt
        go_wp2_with fail
        refine (rtaketext_any A2 r' _ c2 most rfl hc4 hc5 hmo _ HSL.out).mono ?_
        rw [HTT.out]
        rintro e w2 ⟨⟨q2, rfl⟩, A3, c3, rfl, hc6, hc7, hsl3⟩
        have HSL3 := hid hsl3; clear hsl3
        have hbr2 : Below w.heap.size w (wr.drewN q2) := below_drewN hbr _
        go_wp2_with (first
          | (at_builtin; refine wpl_one0 (W := w) (R := strR) (B := 0) rfl (.tmp 47) (.tmp 49) _ rfl tabS _ (l.map mkS) (mkS s) rfl (HO.out.drewN _) (Nat.zero_le _) hbr2 rfl rfl (str_at HS1.out) (mem_one _ rfl) HS2.out HS3.out ?_; intro v2 w3 hown2 hbl3 hsz3))
        have HO2 := hid hown2; clear hown2
        go_roundw
        case rel =>
          refine ⟨k + 1, l ++ [s], r2, A3, c3, by omega, by go_num, by rw [List.length_append, HL.out]; rfl, by omega, rfl, hc6, hc7, ?_, by rw [List.map_append]; exact HO2.out, ?_, hbl3⟩
          · exact HSL3.out.below ((below_both hbr hbl3 (by simpa using hsz3)).mono hBw)
          · rw [HP.out, show n - k = (n - (k + 1)) + 1 by omega, takeTs_ok HTT.out]
        case measure => simp [intOf]; omega
    · obtain rfl : k = n := by omega
      go_wp2_with fail
      go_ret3
      refine ⟨hbr, ?_⟩
      rw [HP.out, Nat.sub_self]
      simp only [takeTs, glue, List.append_nil]
      exact ⟨_, A2, c2, rfl, HO.out, hc4, hc5, HSL.out⟩
theorem rtakelist_err (A : Option Addr) (b : Bytes) (m c : Nat) (many most z : Int) (hm : b.length = m) (hc1 : m ≤ c) (hc : c ≤ maxLen) (ht : takeN b = .error z) (w : World) {B : Nat} (hs : Sl byteR 1 B w A b) :
    Calls Try.prog 30 #[.slice A m c, .int .i64 many, .int .i64 most] w (ListRet B w (.error z)) := by
  have hzb : (z != 0) = true := by rw [bne_iff_ne]; rcases takeN_err ht with h | h <;> rw [h] <;> decide
  have HT := hid ht; clear ht
  go_enter Try.func30, Try.ntmps30
  go_wp2_with fail
  refine (rtake_any A b m c hm hc1 hc _ hs).mono ?_
  rw [HT.out]
  rintro e w1 ⟨⟨q, rfl⟩, rfl⟩
  go_wp2_with fail
  go_ret3
  exact ⟨below_drewN (Below.refl _ _) _, rfl⟩
theorem rtakelist_large (A : Option Addr) (b r : Bytes) (m c n : Nat) (many most : Int) (hm : b.length = m) (hc1 : m ≤ c) (hc : c ≤ maxLen) (hma : many ≤ 9223372036854775807) (ht : takeN b = .ok (n, r)) (hn : max many 0 < n) (w : World) {B : Nat} (hs : Sl byteR 1 B w A b) :
    Calls Try.prog 30 #[.slice A m c, .int .i64 many, .int .i64 most] w (ListRet B w (.error 5)) := by
  obtain ⟨hn64, _⟩ := taken_lt ht
  have HT := hid ht; clear ht
  by_cases hm0 : many < 0
  · have hn' : 0 < n := by omega
    clear hn
    go_enter Try.func30, Try.ntmps30
    go_wp2_with fail
    refine (rtake_any A b m c hm hc1 hc _ hs).mono ?_
    rw [HT.out]
    rintro e w1 ⟨⟨q, rfl⟩, A', c', rfl, hc2, hc3, hsl⟩
    go_wp2_with fail
    go_ret3
    exact ⟨below_drewN (Below.refl _ _) _, rfl⟩
  · have hn' : many < n := by omega
    clear hn
    go_enter Try.func30, Try.ntmps30
    go_wp2_with fail
    refine (rtake_any A b m c hm hc1 hc _ hs).mono ?_
    rw [HT.out]
    rintro e w1 ⟨⟨q, rfl⟩, A', c', rfl, hc2, hc3, hsl⟩
    go_wp2_with fail
    go_ret3
    exact ⟨below_drewN (Below.refl _ _) _, rfl⟩
theorem rtakelist_any (A : Option Addr) (b : Bytes) (m c : Nat) (many most : Int) (hm : b.length = m) (hc1 : m ≤ c) (hc : c ≤ maxLen) (hm0 : m ≤ 1000000) (hmo : most ≤ 9223372036854775807) (hma : many ≤ 9223372036854775807) (w : World) {B : Nat} (hBw : B ≤ w.heap.size) (hs : Sl byteR 1 B w A b) :
    Calls Try.prog 30 #[.slice A m c, .int .i64 many, .int .i64 most] w (ListRet B w (takeL b many most)) := by
  cases ht : takeN b with
  | error z =>
    rw [show takeL b many most = .error z by rw [takeL, ht]]
    exact rtakelist_err A b m c many most z hm hc1 hc ht w hs
  | ok p =>
    obtain ⟨n, r⟩ := p
    by_cases h1 : (max many 0).toNat < n
    · rw [show takeL b many most = .error 5 by rw [takeL, ht]; simp only; rw [if_pos h1]]
      exact rtakelist_large A b r m c n many most hm hc1 hc hma ht (by omega) w hs
    · rw [show takeL b many most = takeTs most n r by rw [takeL, ht]; simp only; rw [if_neg h1]]
      exact rtakelist_ok A b r m c n many most hm hc1 hc hm0 hmo hma ht (by omega) w hBw hs
theorem rtakeint_any (A : Option Addr) (b : Bytes) (m c : Nat) (hm : b.length = m) (hc1 : m ≤ c) (hc : c ≤ maxLen) (w : World) {B : Nat} (hs : Sl byteR 1 B w A b) :
    Calls Try.prog 32 #[.slice A m c] w (IntRet B w (takeI b)) := by
  cases ht : takeN b with
  | error z =>
    rw [show takeI b = .error z by rw [takeI, ht]]
    have hzb : (z != 0) = true := by rw [bne_iff_ne]; rcases takeN_err ht with h | h <;> rw [h] <;> decide
    have HT := hid ht; clear ht
    go_enter Try.func32, Try.ntmps32
    go_wp2_with fail
    refine (rtake_any A b m c hm hc1 hc _ hs).mono ?_
    rw [HT.out]
    rintro e w1 ⟨⟨q, rfl⟩, rfl⟩
    go_wp2_with fail
    go_ret3
    exact ⟨⟨q, rfl⟩, rfl⟩
  | ok p =>
    obtain ⟨n, r⟩ := p
    obtain ⟨hn64, _⟩ := taken_lt ht
    rw [show takeI b = .ok (unzig n, r) by rw [takeI, ht]]
    have HT := hid ht; clear ht
    rcases (by omega : n % 2 = 0 ∨ n % 2 = 1) with h2 | h2
    · have hu : unzig n = (n : Int) / 2 := by rw [unzig, if_neg (by omega)]; omega
      have hb2 : ((n : Int) % 2 == 1) = false := by rw [beq_eq_false_iff_ne]; omega
      have HU := hid hu; clear hu h2
      go_enter Try.func32, Try.ntmps32
      go_wp2_with fail
      refine (rtake_any A b m c hm hc1 hc _ hs).mono ?_
      rw [HT.out]
      rintro e w1 ⟨⟨q, rfl⟩, A', c', rfl, hc2, hc3, hsl⟩
      go_wp2_with fail
      all_goals (try go_quiet (fail))
      all_goals (try go_wp2_with fail)
      go_ret3
      refine ⟨?_, A', c', ?_, hc2, hc3, hsl⟩
      · exact ⟨_, rfl⟩
      · rw [HU.out]; rfl
    · have hu : unzig n = -((n : Int) / 2) - 1 := by rw [unzig, if_pos h2]; omega
      have hb2 : ((n : Int) % 2 == 1) = true := by rw [beq_iff_eq]; omega
      have HU := hid hu; clear hu h2
      go_enter Try.func32, Try.ntmps32
      go_wp2_with fail
      refine (rtake_any A b m c hm hc1 hc _ hs).mono ?_
      rw [HT.out]
      rintro e w1 ⟨⟨q, rfl⟩, A', c', rfl, hc2, hc3, hsl⟩
      go_wp2_with fail
      all_goals (try go_quiet (fail))
      all_goals (try go_wp2_with fail)
      go_ret3
      refine ⟨?_, A', c', ?_, hc2, hc3, hsl⟩
      · exact ⟨_, rfl⟩
      · rw [HU.out]; rfl
end Go.Proofs.Ytpigfpnpabnnbaa
