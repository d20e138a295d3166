/-
  CrcPieces: a sum goes on; one byte that is another one has another sum.
-/
import Derived.Test.YtcafahcmalfepaaOwnSet
import Derived.Test.YtcafahcmalfepaaCrcAlive
namespace Go.Proofs.Ytcafahcmalfepaa
open Go.RowKit Go.Deep
theorem pieces_long (A1 A2 : Option Addr) (n1 n2 c1 c2 x : Nat) (hb : 3000 < n1 ∨ 3000 < n2) (w : World) :
    Calls Try.prog 4 #[.slice A1 n1 c1, .slice A2 n2 c2, .int .u8 (x : Int)] w fun e w' => e = .returned (.bool true) ∧ Below w.heap.size w w' := by
  by_cases h1 : 3000 < n1
  · have hi : (3000 : Int) < n1 := by omega
    go_enter Try.func4, Try.ntmps4
    go_wp2_with (go_at_call 13; refine (alive15 _).mono ?_; rintro e w9 ⟨rfl, hb9⟩)
    go_ret
    exact ⟨rfl, hb9⟩
  · have hi : ¬ (3000 : Int) < n1 := by omega
    have hj : (3000 : Int) < n2 := by omega
    go_enter Try.func4, Try.ntmps4
    go_wp2_with (go_at_call 13; refine (alive15 _).mono ?_; rintro e w9 ⟨rfl, hb9⟩)
    go_ret
    exact ⟨rfl, hb9⟩
set_option maxHeartbeats 2000000 in
set_option maxRecDepth 20000 in
theorem pieces_main (A1 A2 : Option Addr) (a b : Bytes) (n1 n2 c1 c2 x : Nat) (hl1 : a.length = n1) (g1 : n1 ≤ c1) (m1 : c1 ≤ maxLen) (hl2 : b.length = n2) (g2 : n2 ≤ c2) (m2 : c2 ≤ maxLen) (hx : x < 256) (h1 : n1 ≤ 3000) (h2 : n2 ≤ 3000) (w : World) (hs1 : Sl byteR 1 w.heap.size w A1 a) (hs2 : Sl byteR 1 w.heap.size w A2 b) :
    Calls Try.prog 4 #[.slice A1 n1 c1, .slice A2 n2 c2, .int .u8 (x : Int)] w fun e w' => e = .returned (.bool true) ∧ Below w.heap.size w w' := by
  have S1 := hid hs1; have S2 := hid hs2; have L1 := hid hl1; have L2 := hid hl2; clear hs1 hs2
  have hq1 : (([] : Bytes).length + a.length) * 1 ≤ 140737488355328 := by simp; omega
  have hq2 : ([] : Bytes).length + a.length ≤ maxLen := by simp [maxLen]; omega
  have hq3 : (([] ++ a).length + b.length) * 1 ≤ 140737488355328 := by simp; omega
  have hq4 : ([] ++ a).length + b.length ≤ maxLen := by simp [maxLen]; omega
  have Q1 := hid hq1; have Q2 := hid hq2; have Q3 := hid hq3; have Q4 := hid hq4; clear hq1 hq2 hq3 hq4
  have i1 : (n1 : Int) ≤ 3000 := by omega
  have i2 : (n2 : Int) ≤ 3000 := by omega
  have hm0 : ([] ++ a ++ b).length = n1 + n2 := by simp [hl1, hl2]
  obtain ⟨m, hm⟩ : ∃ m, n1 + n2 = m := ⟨_, rfl⟩
  obtain ⟨ab, hab⟩ : ∃ l, [] ++ a ++ b = l := ⟨_, rfl⟩
  rw [hm, hab] at hm0
  have LM := hid hm0; have HAB := hid hab; clear hm0 hl1 hl2 hab
  have hmi : (m : Int) ≤ 6000 := by omega
  go_enter Try.func4, Try.ntmps4
  go_wp2_with (first
    | (at_builtin; refine wpl_app0 (W := w) (R := byteR) (B := 0) rfl (.tmp 19) (.tmp 20) _ rfl tabB _ [] a rfl (Own.made w (Nat.le_refl _)) (Nat.zero_le _) (below_new _ _) A1 n1 c1 (a.map byteV) rfl L1.out ((sl_bytes S1.out L1.out).alloc _) (cs_map _ _ _) (bytes_oneCell _) Q1.out Q2.out ?_; intro v1 w1 hown1 hbl1 _)
    | (at_builtin; refine wpl_app0 (W := w) (R := byteR) (B := 0) rfl (.tmp 21) (.tmp 22) _ rfl tabB _ ([] ++ a) b rfl hown1 (Nat.zero_le _) hbl1 A2 n2 c2 (b.map byteV) rfl L2.out (sl_bytes (S2.out.below hbl1) L2.out) (cs_map _ _ _) (bytes_oneCell _) Q3.out Q4.out ?_; intro v2 w2 hown2 hbl2 _; rw [HAB.out] at hown2; clear hown1 hbl1; obtain ⟨A3, c3, h3⟩ := hown2.form2 LM.out; subst h3))
  have HO := hid hown2; have HB := hid hbl2; clear hown2 hbl2
  obtain ⟨A3', c3', he, g3, m3, hs3⟩ := HO.out.len (Nat.zero_le _) LM.out
  simp only [Value.slice.injEq, true_and] at he
  obtain ⟨rfl, rfl⟩ := he
  have S3 := hid hs3; clear hs3
  refine (sum_any A3 ab m c3 LM.out (by omega) w2 (Nat.le_refl _) S3.out).mono ?_
  rintro e w3 ⟨rfl, hb3⟩
  have HB3 := hid (below_then HB.out hb3); have HO3 := hid (HO.out.call (Nat.zero_le _) hb3); have S33 := hid (S3.out.call hb3); clear hb3 HO S3
  go_wp2_with fail
  refine (sum_any A1 a n1 c1 L1.out (by omega) w3 (Nat.le_refl _) (S1.out.call HB3.out)).mono ?_
  rintro e w4 ⟨rfl, hb4⟩
  have HB4 := hid (below_then HB3.out hb4); have HO4 := hid (HO3.out.call (Nat.zero_le _) hb4); have S34 := hid (S33.out.call hb4); clear hb4 HO3 S33
  go_wp2_with fail
  refine (more_any (crcSum a) (crcSum_lt a) A2 b n2 c2 L2.out (by omega) w4 (Nat.le_refl _) (S2.out.call HB4.out)).mono ?_
  rw [show crcMore (crcSum a) b = crcSum ab by rw [← HAB.out]; exact crc_pieces 0 a b]
  rintro e w5 ⟨rfl, hb5⟩
  have HB5 := hid (below_then HB4.out hb5); have HO5 := hid (HO4.out.call (Nat.zero_le _) hb5); have S35 := hid (S34.out.call hb5); clear hb5 HO4 S34
  have hsl := crcSum_lt ab
  by_cases hz : m = 0 ∨ x = 0
  · rcases hz with hz | hz
    · subst hz
      go_wp2_with (go_at_call 13; refine (alive15 _).mono ?_; rintro e w9 ⟨rfl, hb9⟩)
      go_ret
      exact ⟨rfl, below_then HB5.out hb9⟩
    · subst hz
      go_wp2_with (go_at_call 13; refine (alive15 _).mono ?_; rintro e w9 ⟨rfl, hb9⟩)
      all_goals go_ret
      all_goals exact ⟨rfl, below_then HB5.out hb9⟩
  · have hm0 : 0 < m := by omega
    have hx0 : ((x : Int) == 0) = false := by simp; omega
    have hmz : ((m : Int) == 0) = false := by simp; omega
    obtain ⟨k, hk⟩ : ∃ k : Nat, (n1 : Int) % m = k ∧ k < m := ⟨n1 % m, by omega, Nat.mod_lt _ hm0⟩
    obtain ⟨hk, hkm⟩ := hk
    obtain ⟨y, hy⟩ : ∃ y, ab[k]? = some y := ⟨_, List.getElem?_eq_getElem (by rw [LM.out]; exact hkm)⟩
    obtain ⟨g, rfl, hg1, hg2, hfz⟩ := own_block HO5.out hm0
    have hcell := S35.out.cellb hy
    have hf := hfz k
    rw [Nat.zero_add] at hcell
    obtain ⟨hxv, hxn⟩ := xor_other (y := y) hx (fun h => hz (.inr h))
    have hne := crc_set hy hxn
    have SS := hid (S35.out.setb (k := k) (by rw [LM.out]; exact hkm) (UInt8.ofNat (y.toNat ^^^ x)))
    have hlen : (ab.set k (UInt8.ofNat (y.toNat ^^^ x))).length = m := by rw [List.length_set]; exact LM.out
    have HBS := hid (HB5.out.trans (((Agree.refl w5).setCell (Z := fun j => j ≠ g) (p := ⟨g, k, none⟩) (by simp) (.int .u8 ((UInt8.ofNat (y.toNat ^^^ x)).toNat : Int))).below fun j hj => ⟨Nat.lt_of_lt_of_le hj HB5.out.size, by omega⟩))
    rw [Nat.zero_add] at SS
    have hsl2 := crcSum_lt (ab.set k (UInt8.ofNat (y.toNat ^^^ x)))
    generalize UInt8.ofNat (y.toNat ^^^ x) = y2 at *
    have hxn := hid hxn
    go_wp2_with fail
    refine (alive15 _).mono ?_
    rintro e w6 ⟨rfl, hb6⟩
    go_wp2_with fail
    refine (sum_any (some ⟨g, 0, none⟩) (ab.set k y2) m c3 hlen (by omega) w6 (B := (w5.setCell ⟨g, k, none⟩ (.int .u8 (y2.toNat : Int))).heap.size) hb6.size ((SS.out.mono (by simp)).below hb6)).mono ?_
    rintro e w7 ⟨rfl, hb7⟩
    have hd : ((crcSum (ab.set k y2) : Int) != (crcSum ab : Int)) = true := by simp only [bne_iff_ne, ne_eq]; omega
    go_wp2_with fail
    go_ret
    exact ⟨by first | rfl | (simp only [hd]; rfl), below_then (below_then HBS.out hb6) hb7⟩
theorem pieces_any (A1 A2 : Option Addr) (a b : Bytes) (n1 n2 c1 c2 x : Nat) (hl1 : a.length = n1) (g1 : n1 ≤ c1) (m1 : c1 ≤ maxLen) (hl2 : b.length = n2) (g2 : n2 ≤ c2) (m2 : c2 ≤ maxLen) (hx : x < 256) (w : World) (hs1 : Sl byteR 1 w.heap.size w A1 a) (hs2 : Sl byteR 1 w.heap.size w A2 b) :
    Calls Try.prog 4 #[.slice A1 n1 c1, .slice A2 n2 c2, .int .u8 (x : Int)] w fun e w' => e = .returned (.bool true) ∧ Below w.heap.size w w' := by
  by_cases h : 3000 < n1 ∨ 3000 < n2
  · exact pieces_long A1 A2 n1 n2 c1 c2 x h w
  · exact pieces_main A1 A2 a b n1 n2 c1 c2 x hl1 g1 m1 hl2 g2 m2 hx (by omega) (by omega) w hs1 hs2
end Go.Proofs.Ytcafahcmalfepaa
