/-
  The walks of package crc: four, Frame; slices.Equal on bytes.
-/
import Derived.Test.YtcafahcmalfepaaCrc
import Derived.Test.YtcafahcmalfepaaLibB
namespace Go.Proofs.Ytcafahcmalfepaa
open Go.RowKit Go.Deep
theorem byte_sh (n k : Nat) (p : Nat) (hp : p = 256 ^ k) : Value.int .u8 ((n : Int) / (p : Int) % 256) = byteV (UInt8.ofNat (n / 256 ^ k)) := by
  subst hp
  exact byteV_of (by rw [Int.natCast_emod, Int.natCast_ediv]; rfl)
theorem four_cells (n : Nat) : [Value.int .u8 ((n : Int) / 16777216 % 256), .int .u8 ((n : Int) / 65536 % 256), .int .u8 ((n : Int) / 256 % 256), .int .u8 ((n : Int) % 256)] = (be 4 n).map byteV := by
  have h3 := byte_sh n 3 16777216 (by decide)
  have h2 := byte_sh n 2 65536 (by decide)
  have h1 := byte_sh n 1 256 (by decide)
  have h0 : Value.int .u8 ((n : Int) % 256) = byteV (UInt8.ofNat (n / 256 ^ 0)) := byteV_of (by simp)
  have e3 : ((16777216 : Nat) : Int) = 16777216 := rfl
  have e2 : ((65536 : Nat) : Int) = 65536 := rfl
  have e1 : ((256 : Nat) : Int) = 256 := rfl
  rw [e3] at h3; rw [e2] at h2; rw [e1] at h1
  rw [h3, h2, h1, h0]
  rfl
theorem slnew {w : World} {q : Nat} (l : Bytes) (t : TypeId) (hq : q = w.heap.size) : Sl byteR 1 (w.alloc (.cells (l.map byteV).toArray t)).heap.size (w.alloc (.cells (l.map byteV).toArray t)) (some ⟨q, 0, none⟩) l :=
  sl_made (B := 0) (cs_map _ _ l) (Nat.zero_le _) hq
theorem four_any (n : Nat) (hn : n < 4294967296) (w : World) :
    Calls Try.prog 48 #[.int .u32 n] w fun e w' => e = .returned (.slice (some ⟨w.heap.size, 0, none⟩) 4 4) ∧ w' = w.alloc (.cells ((be 4 n).map byteV).toArray 5) := by
  have h4 := four_cells n
  rw [show (n : Int) / 16777216 % 256 = (n : Int) / 16777216 by omega] at h4
  go_enter Try.func48, Try.ntmps48
  go_wp2_with fail
  go_ret
  exact ⟨rfl, by rw [← h4]⟩
set_option maxHeartbeats 1000000 in
theorem frame_any (A1 : Option Addr) (b : Bytes) (n1 c1 : Nat) (e1 : b.length = n1) (g1 : n1 ≤ c1) (m1 : c1 ≤ maxLen) (z1 : n1 ≤ 900000) (A2 : Option Addr) (x : Bytes) (n2 c2 : Nat) (e2 : x.length = n2) (g2 : n2 ≤ c2) (m2 : c2 ≤ maxLen) (z2 : n2 ≤ 200000) (w : World)
    (hs1 : Sl byteR 1 w.heap.size w A1 b) (hs2 : Sl byteR 1 w.heap.size w A2 x) :
    Calls Try.prog 20 #[.slice A1 n1 c1, .slice A2 n2 c2] w (RetB w (b ++ fr x)) := by
  have hl := frB_length x
  have hnb := nb_le n2 (by omega)
  rw [e2] at hl
  have HS1 := hid hs1; have HS2 := hid hs2; have E1 := hid e1; have E2 := hid e2; have G1 := hid (And.intro g1 m1); clear hs1 hs2 e1 g1 m1
  have h0 : (n2 : Int) ≤ 200000 := by omega
  go_enter Try.func20, Try.ntmps20
  go_wp2_with fail
  refine (put_any (some ⟨w.heap.size, 0, none⟩) [167] 1 1 n2 rfl (Nat.le_refl _) (by decide) (by omega) (by omega) _ (slnew [167] 5 rfl)).mono ?_
  rintro e w1 ⟨v, rfl, hown, hb1⟩
  have H1 := hid (below_then (below_new w (.cells ([167].map byteV).toArray 5)) hb1)
  have HO := hid hown; clear hown
  have HB1 := hid hb1; clear hb1
  have hl1 : (([167] ++ encN n2).length + x.length) * 1 ≤ 140737488355328 := by simp [encN_length]; omega
  have hl2 : ([167] ++ encN n2).length + x.length ≤ maxLen := by simp [encN_length, maxLen]; omega
  have HL1 := hid hl1; have HL2 := hid hl2; clear hl1 hl2
  have hfb : ([167] ++ encN n2) ++ x = frB x := by unfold frB; rw [E2.out]; simp
  have HFB := hid hfb; clear hfb
  obtain ⟨m, hm⟩ : ∃ m, (frB x).length = m := ⟨_, rfl⟩
  have hm2 : m ≤ 300000 := by omega
  have HM := hid hm; clear hm hl
  go_wp2_with (at_builtin; refine wpl_app0 (W := w.alloc (.cells ([167].map byteV).toArray 5)) (R := byteR) (B := 0) rfl (.tmp 10) (.tmp 11) _ rfl tabB _ ([167] ++ encN n2) x rfl HO.out (Nat.zero_le _) HB1.out A2 n2 c2 (x.map byteV) rfl E2.out (sl_bytes (HS2.out.below H1.out) E2.out) (cs_map _ _ _) (bytes_oneCell _) HL1.out HL2.out ?_; intro v2 w2 hown2 hbl2 _; rw [HFB.out] at hown2; obtain ⟨Af, cf, hAf⟩ := hown2.form2 HM.out; subst hAf)
  have H2 := hid (below_then (below_new w (.cells ([167].map byteV).toArray 5)) hbl2)
  obtain ⟨Af', cf', he, gf, mf, hsf⟩ := hown2.len (Nat.zero_le _) HM.out
  simp only [Value.slice.injEq, true_and] at he
  obtain ⟨rfl, rfl⟩ := he
  have HF := hid hsf; clear hown2 hbl2 hsf
  refine (sum_any Af (frB x) m cf HM.out (by omega) w2 (Nat.le_refl _) HF.out).mono ?_
  rintro e w3 ⟨rfl, hb3⟩
  have H3 := hid (below_then H2.out hb3); have HF3 := hid (HF.out.call hb3); clear hb3 HF
  go_wp2_with fail
  refine (four_any (crcSum (frB x)) (crcSum_lt _) w3).mono ?_
  rintro e w4 ⟨rfl, rfl⟩
  have H4 := hid (below_then H3.out (below_new w3 (.cells ((be 4 (crcSum (frB x))).map byteV).toArray 5)))
  have hr := rows3 (q := (w3.alloc (.cells ((be 4 (crcSum (frB x))).map byteV).toArray 5)).heap.size) 22 (HS1.out.call H4.out) E1.out G1.out.1 G1.out.2 (HF3.out.call (below_new w3 (.cells ((be 4 (crcSum (frB x))).map byteV).toArray 5))) HM.out gf mf (slnew (be 4 (crcSum (frB x))) 5 (w := w3) rfl) (be_length _ _) (Nat.le_refl 4) (by decide) (Nat.le_refl _) rfl
  have HR := hid hr; clear hr
  have hfl : [b, frB x, be 4 (crcSum (frB x))].flatten = b ++ fr x := by simp [fr]
  have hflen : [b, frB x, be 4 (crcSum (frB x))].flatten.length ≤ 3000000 := by
    have := HM.out; have := E1.out
    simp only [List.flatten_cons, List.flatten_nil, List.length_append, List.length_nil, be_length]
    omega
  have HFL := hid hfl; have HFLE := hid hflen; clear hfl hflen
  generalize w3.alloc (.cells ((be 4 (crcSum (frB x))).map byteV).toArray 5) = w4 at *
  go_wp2_with fail
  refine (concat_any _ [b, frB x, be 4 (crcSum (frB x))] 3 3 rfl (by omega) HFLE.out _ HR.out).mono ?_
  rintro e w5 ⟨v5, rfl, hown5, hb5⟩
  rw [HFL.out] at hown5
  have HO5 := hid hown5; clear hown5
  go_wp2_with fail
  go_ret
  have hb6 := below_then (below_then H4.out (below_new _ _)) hb5
  exact ⟨v5, rfl, HO5.out.low (by have := H4.out.size; have := hb5.size; simp at *; omega), hb6⟩
end Go.Proofs.Ytcafahcmalfepaa
