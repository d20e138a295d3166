/-
  The walks of the reference of crc: sums, Long, Frame.
-/
import Derived.Test.YtcafahcmalfepaaCrcD
import Derived.Test.YtcafahcmalfepaaOctetRef
namespace Go.Proofs.Ytcafahcmalfepaa
open Go.RowKit Go.Deep
set_option maxHeartbeats 1000000 in
set_option maxRecDepth 20000 in
theorem rmore_any (s : Nat) (hs32 : s < 4294967296) (A : Option Addr) (b : Bytes) (n c : Nat) (hm : b.length = n) (hn : n ≤ 9223372036854775807) (w : World) {B : Nat} (hB : B ≤ w.heap.size) (hs : Sl byteR 1 B w A b) :
    Calls Try.prog 19 #[.int .u32 s, .slice A n c] w fun e w' => e = .returned (.int .u32 (crcMore s b : Nat)) ∧ w' = w := by
  have HS := hid hs; have HM := hid hm; clear hs hm
  have hn63 : (n : Int) ≤ 9223372036854775807 := by omega
  have hs0 : s ^^^ 4294967295 < 4294967296 := xor32 hs32 (by decide)
  have hones := ones_u32' s hs32
  go_enter Try.func19, Try.ntmps19
  go_wp2_with fail
  go_loop [5, 6] (fun x i => ∃ k : Nat, k ≤ n ∧ i = .int .i64 k ∧ x = .int .u32 (crcRun (s ^^^ 4294967295) (b.take k) : Nat)) (fun _ i => n - (intOf i).toNat)
  case atStart => exact ⟨0, Nat.zero_le _, rfl, rfl⟩
  case round =>
    obtain ⟨k, hk, rfl, rfl⟩ := hrel
    by_cases hlt : k < n
    · obtain ⟨x, hx⟩ : ∃ x, b[k]? = some x := ⟨_, List.getElem?_eq_getElem (by rw [HM.out]; exact hlt)⟩
      obtain ⟨b0, o, v, rfl, hb0, hv, hcell⟩ := HS.out.get1 hx
      rw [byte_at hv] at hcell
      have hr := crcRun_take b (s ^^^ 4294967295) k x hx
      have hlt2 := crcRun_lt hs0 (b.take k)
      have HR := hid hr; clear hr hx hv
      generalize crcRun (s ^^^ 4294967295) (b.take k) = z at *
      have hbyte := bitRun_byte x z
      have hxl := x.toNat_lt
      generalize x.toNat = cn at *
      have HBY := hid hbyte; clear hbyte
      go_wp2_with fail
      go_loop [5, 7] (fun y i => ∃ q : Nat, q ≤ 8 ∧ i = .int .i64 q ∧ y = .int .u32 (bitRun cn q z : Nat)) (fun _ i => 8 - (intOf i).toNat)
      case atStart => exact ⟨0, by omega, rfl, rfl⟩
      case round =>
        obtain ⟨q, hq, rfl, rfl⟩ := hrel
        have hyl := bitRun_lt cn hlt2 q
        have hst : bitRun cn (q + 1) z = bitStep cn q (bitRun cn q z) := rfl
        have HST := hid hst; clear hst
        by_cases hq8 : q < 8
        · generalize bitRun cn q z = y at *
          have hcast : ((cn : Int) / 2 ^ q % 2) = ((cn / 2 ^ q % 2 : Nat) : Int) := by
            rw [Int.natCast_emod, Int.natCast_ediv]; simp
          by_cases hbit : cn / 2 ^ q % 2 = y % 2
          · have hb1 : ((cn : Int) / 2 ^ q % 2 != (y : Int) % 2) = false := by rw [hcast, hbit]; simp
            have hres : bitStep cn q y = y / 2 := by unfold bitStep; rw [if_pos hbit, Nat.xor_zero]
            have HRES := hid hres; clear hres hcast hbit
            go_wp2_with fail
            go_round
            case rel => exact ⟨q + 1, by omega, by go_num, by rw [HST.out, HRES.out]; go_num⟩
            case measure => simp [intOf]; omega
          · have hb1 : ((cn : Int) / 2 ^ q % 2 != (y : Int) % 2) = true := by
              rw [hcast]; simp only [bne_iff_ne, ne_eq]; omega
            have hres : bits .xor .u32 ((y : Int) / 2) 2197175160 = (bitStep cn q y : Nat) := by
              unfold bitStep
              rw [if_neg hbit, show ((y : Int) / 2) = ((y / 2 : Nat) : Int) by omega]
              exact u32_xor_nat (y / 2) 2197175160 (by omega) (by omega)
            have HRES := hid hres; clear hres hcast hbit
            go_wp2_with fail
            go_round
            case rel => exact ⟨q + 1, by omega, by go_num, by rw [HST.out, HRES.out]⟩
            case measure => simp [intOf]; omega
        · obtain rfl : q = 8 := by omega
          rw [HBY.out]
          go_wp2_with fail
          go_round
          case rel => exact ⟨k + 1, by omega, by go_num, by rw [HR.out]⟩
          case measure => simp [intOf]; omega
    · obtain rfl : k = n := by omega
      rw [List.take_of_length_le (by rw [HM.out]; omega)]
      have hz := crcRun_lt hs0 b
      have hones := ones_u32' _ hz
      go_wp2_with fail
      go_ret
      exact ⟨by first | rfl | (rw [hones]; rfl), rfl⟩
theorem rsum_any (A : Option Addr) (b : Bytes) (n c : Nat) (hm : b.length = n) (hn : n ≤ 9223372036854775807) (w : World) {B : Nat} (hB : B ≤ w.heap.size) (hs : Sl byteR 1 B w A b) :
    Calls Try.prog 17 #[.slice A n c] w fun e w' => e = .returned (.int .u32 (crcSum b : Nat)) ∧ w' = w := by
  have h := rmore_any 0 (by decide) A b n c hm hn w hB hs
  go_enter Try.func17, Try.ntmps17
  go_wp2_with fail
  refine h.mono ?_
  rintro e w1 ⟨rfl, rfl⟩
  go_wp2_with fail
  go_ret
  exact ⟨rfl, rfl⟩
theorem rlong_any (n : Nat) (hn : n ≤ 1000000) (w : World) :
    Calls Try.prog 23 #[.int .i64 n] w fun e w' => e = .returned (.int .i64 (frLong n : Nat)) ∧ Below w.heap.size w w' := by
  have h0 : (0 : Int) ≤ n := by omega
  have hn2 : (n : Int) ≤ 1000000 := by omega
  have h8 := nb_le n (by omega)
  go_enter Try.func23, Try.ntmps23
  go_wp2_with fail
  refine (rsize_any n (by omega) _).mono ?_
  rintro e w' ⟨rfl, rfl⟩
  go_wp2_with fail
  go_ret
  exact ⟨by first | rfl | (unfold frLong; go_num), Below.refl _ _⟩
theorem rdc_row (w : World) (cs : List Value) (t : TypeId) {n : Nat} (hn : cs.length = n) : RdC (w.alloc (.cells cs.toArray t)) 1 (some ⟨w.heap.size, 0, none⟩) n cs := by
  subst hn
  exact ⟨by simp, fun _ => (rdc_new (k := cs.length) w cs t rfl).2 Nat.one_pos⟩
set_option maxHeartbeats 1000000 in
theorem rframe_any (A1 : Option Addr) (b : Bytes) (n1 c1 : Nat) (e1 : b.length = n1) (g1 : n1 ≤ c1) (m1 : c1 ≤ maxLen) (z1 : n1 ≤ 900000) (A2 : Option Addr) (x : Bytes) (n2 c2 : Nat) (e2 : x.length = n2) (g2 : n2 ≤ c2) (m2 : c2 ≤ maxLen) (z2 : n2 ≤ 200000) (w : World)
    (hs1 : Sl byteR 1 w.heap.size w A1 b) (hs2 : Sl byteR 1 w.heap.size w A2 x) :
    Calls Try.prog 21 #[.slice A1 n1 c1, .slice A2 n2 c2] w (RetB w (b ++ fr x)) := by
  have hl := frB_length x
  have hnb := nb_le n2 (by omega)
  rw [e2] at hl
  have HS1 := hid hs1; have HS2 := hid hs2; have E1 := hid e1; have E2 := hid e2; have G1 := hid (And.intro g1 m1); clear hs1 hs2 e1 g1 m1
  have h0 : (n2 : Int) ≤ 200000 := by omega
  go_enter Try.func21, Try.ntmps21
  go_wp2_with fail
  refine (rput_any (some ⟨w.heap.size, 0, none⟩) [167] 1 1 n2 rfl (Nat.le_refl _) (by decide) (by omega) (by omega) _ (slnew [167] 5 rfl)).mono ?_
  rintro e w1 ⟨v, rfl, hown, hb1⟩
  have H1 := hid (below_then (below_new w (.cells ([167].map byteV).toArray 5)) hb1)
  have HO := hid hown; clear hown
  have HB1 := hid hb1; clear hb1
  have hl1 : (([167] ++ encN n2).length + x.length) * 1 ≤ 140737488355328 := by simp [encN_length]; omega
  have hl2 : ([167] ++ encN n2).length + x.length ≤ maxLen := by simp [encN_length, maxLen]; omega
  have HL1 := hid hl1; have HL2 := hid hl2; clear hl1 hl2
  have hfb : ([167] ++ encN n2) ++ x = frB x := by unfold frB; rw [E2.out]; simp
  have HFB := hid hfb; clear hfb
  obtain ⟨m, hm⟩ : ∃ m, (frB x).length = m := ⟨_, rfl⟩
  have hm2 : m ≤ 300000 := by omega
  have HM := hid hm; clear hm hl
  go_wp2_with (at_builtin; refine wpl_app0 (W := w.alloc (.cells ([167].map byteV).toArray 5)) (R := byteR) (B := 0) rfl (.tmp 13) (.tmp 14) _ rfl tabB _ ([167] ++ encN n2) x rfl HO.out (Nat.zero_le _) HB1.out A2 n2 c2 (x.map byteV) rfl E2.out (sl_bytes (HS2.out.below H1.out) E2.out) (cs_map _ _ _) (bytes_oneCell _) HL1.out HL2.out ?_; intro v2 w2 hown2 hbl2 _; rw [HFB.out] at hown2; obtain ⟨Af, cf, hAf⟩ := hown2.form2 HM.out; subst hAf)
  have H2 := hid (below_then (below_new w (.cells ([167].map byteV).toArray 5)) hbl2)
  have HO2 := hid (hown2.low (base' := w.heap.size) (by simp)); clear hown2 hbl2
  obtain ⟨Af', cf', he, gf, mf, hsf⟩ := HO2.out.len (Nat.zero_le _) HM.out
  simp only [Value.slice.injEq, true_and] at he
  obtain ⟨rfl, rfl⟩ := he
  have HF := hid hsf; clear hsf
  refine (rsum_any Af (frB x) m cf HM.out (by omega) w2 (Nat.le_refl _) HF.out).mono ?_
  rintro e w2' ⟨rfl, hw⟩
  subst hw
  have hs32 := crcSum_lt (frB x)
  have h4 := four_cells (crcSum (frB x))
  have hfr : frB x ++ be 4 (crcSum (frB x)) = fr x := rfl
  rw [show (crcSum (frB x) : Int) / 16777216 % 256 = (crcSum (frB x) : Int) / 16777216 by omega] at h4
  have hbl : (be 4 (crcSum (frB x))).length = 4 := be_length _ _
  have HFR := hid hfr; have H4 := hid h4; have HBL := hid hbl; clear hfr h4 hbl
  generalize be 4 (crcSum (frB x)) = s4 at *
  generalize crcSum (frB x) = s at *
  have hl3 : ((frB x).length + s4.length) * 1 ≤ 140737488355328 := by rw [HM.out, HBL.out]; omega
  have hl4 : (frB x).length + s4.length ≤ maxLen := by rw [HM.out, HBL.out]; unfold maxLen; omega
  have hfl : (fr x).length = m + 4 := by rw [← HFR.out, List.length_append, HM.out, HBL.out]
  have hl5 : (([] : Bytes).length + b.length) * 1 ≤ 140737488355328 := by rw [E1.out]; simp; omega
  have hl6 : ([] : Bytes).length + b.length ≤ maxLen := by rw [E1.out]; simp [maxLen]; omega
  have hl7 : (([] ++ b).length + (fr x).length) * 1 ≤ 140737488355328 := by rw [hfl, List.nil_append, E1.out]; omega
  have hl8 : ([] ++ b).length + (fr x).length ≤ maxLen := by rw [hfl, List.nil_append, E1.out]; unfold maxLen; omega
  have HL3 := hid hl3; have HL4 := hid hl4; have HL5 := hid hl5; have HL6 := hid hl6; have HL7 := hid hl7; have HL8 := hid hl8; have HFL := hid hfl; clear hl3 hl4 hl5 hl6 hl7 hl8 hfl
  go_wp2_with (first
    | (at_builtin; refine wpl_app0 (W := w) (R := byteR) (B := 0) rfl (.tmp 18) (.tmp 30) _ rfl tabB _ (frB x) s4 rfl (HO2.out.alloc (Nat.zero_le _) _) (Nat.zero_le _) (below_alloc H2.out _) (some ⟨w2'.heap.size, 0, none⟩) 4 4 [.int .u8 ((s : Int) / 16777216), .int .u8 ((s : Int) / 65536 % 256), .int .u8 ((s : Int) / 256 % 256), .int .u8 ((s : Int) % 256)] rfl HBL.out (rdc_row w2' _ _ rfl) (cs_bytes.2 H4.out) (by rw [H4.out]; exact bytes_oneCell _) HL3.out HL4.out ?_; intro v3 w3 hown3 hbl3 _; rw [HFR.out] at hown3; obtain ⟨A3, c3, h3⟩ := hown3.form2 HFL.out; subst h3; have HO3 := hid hown3; have H3 := hid hbl3; clear hown3 hbl3; obtain ⟨A3', c3', he, g3, m3, hs3⟩ := HO3.out.len (Nat.zero_le _) HFL.out; simp only [Value.slice.injEq, true_and] at he; obtain ⟨rfl, rfl⟩ := he; have HS3 := hid hs3; clear hs3)
    | (at_builtin; refine wpl_app0 (W := w3) (R := byteR) (B := 0) rfl (.tmp 32) (.tmp 33) _ rfl tabB _ [] b rfl (Own.made w3 (Nat.le_refl _)) (Nat.zero_le _) (below_new _ _) A1 n1 c1 (b.map byteV) rfl E1.out ((sl_bytes (HS1.out.below H3.out) E1.out).alloc _) (cs_map _ _ _) (bytes_oneCell _) HL5.out HL6.out ?_; intro v4 w4 hown4 hbl4 _)
    | (at_builtin; refine wpl_app0 (W := w3) (R := byteR) (B := 0) rfl (.tmp 35) (.tmp 36) _ rfl tabB _ ([] ++ b) (fr x) rfl hown4 (Nat.zero_le _) hbl4 A3 (m + 4) c3 ((fr x).map byteV) rfl HFL.out (sl_bytes (HS3.out.below hbl4) HFL.out) (cs_map _ _ _) (bytes_oneCell _) HL7.out HL8.out ?_; intro v5 w5 hown5 hbl5 _))
  go_ret
  exact ⟨_, rfl, hown5.low H3.out.size, below_then H3.out hbl5⟩
end Go.Proofs.Ytcafahcmalfepaa
