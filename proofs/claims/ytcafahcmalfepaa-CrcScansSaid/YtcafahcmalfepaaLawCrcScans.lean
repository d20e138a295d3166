/-
  CrcScans: the frames that any bytes begin with, and how long they are, are as the document says.
-/
import Derived.Test.YtcafahcmalfepaaCrcI
import Derived.Test.YtcafahcmalfepaaCrcAlive
namespace Go.Proofs.Ytcafahcmalfepaa
open Go.RowKit Go.Deep
theorem own_row {Z : Nat → Prop} {base B : Nat} {w : World} {v : Value} {l : List Bytes} {e : TypeId} (h : Own (rowZ Z) 1 e base B w v l) (hB : B ≤ w.heap.size) : ∃ A c, v = .slice A l.length c ∧ l.length ≤ c ∧ c ≤ maxLen ∧ Sl (rowZ Z) 1 w.heap.size w A l := h.sl hB
set_option maxHeartbeats 2000000 in
set_option maxRecDepth 20000 in
theorem scans_any (A : Option Addr) (b : Bytes) (n c : Nat) (hl : b.length = n) (hc1 : n ≤ c) (hc2 : c ≤ maxLen) (w : World) (hs : Sl byteR 1 w.heap.size w A b) :
    Calls Try.prog 5 #[.slice A n c] w fun e w' => e = .returned (.bool true) ∧ Below w.heap.size w w' := by
  have HS := hid hs; have HL := hid hl; have HC := hid (And.intro hc1 hc2); clear hs hl
  have hn63 : (n : Int) ≤ 9223372036854775807 := by unfold maxLen at hc2; omega
  clear hc1 hc2
  by_cases hn : n ≤ 3000
  · have hni : (n : Int) ≤ 3000 := by omega
    go_enter Try.func5, Try.ntmps5
    go_wp2_with fail
    have hsl := scanS_le b
    rw [HL.out] at hsl
    have h1 := scan_any A b n c HL.out (by omega) HC.out.1 HC.out.2 _ w HS.out.slzW
    have h2 := fun w1 hb => rscan_any A b n c HL.out (by omega) HC.out.1 HC.out.2 _ w1 (HS.out.call (w' := w1) hb).slzW
    obtain ⟨L, hL⟩ : ∃ L, (scanS b).1 = L := ⟨_, rfl⟩
    obtain ⟨z, hz⟩ : ∃ z, (n : Int) - ((scanS b).2.length : Nat) = z := ⟨_, rfl⟩
    rw [hL, hz] at h1
    rw [hL] at hsl
    have H2 := hid h2; clear h2
    have hLn : L.length ≤ maxLen := by have := hsl.2; unfold maxLen; omega
    have HLN := hid hLn; have HLL := hid hL; have HZZ := hid hz; clear hL hz hsl hLn
    obtain ⟨m, hm⟩ : ∃ m, L.length = m := ⟨_, rfl⟩
    refine h1.mono ?_
    rintro e w1 ⟨v1, rfl, hown1, hb1⟩
    obtain ⟨A1, c1, rfl, g1, m1, s1⟩ := own_row hown1 hb1.size
    have HO1 := hid s1; have HB1 := hid hb1; clear hown1 s1 hb1
    rw [hm]
    go_wp2_with fail
    have h2 := H2.out w1 HB1.out
    rw [HLL.out, HZZ.out] at h2
    refine h2.mono ?_
    clear h2
    rintro e w2 ⟨v2, rfl, hown2, hb2⟩
    obtain ⟨A2, c2, rfl, g2, m2, s2⟩ := own_row hown2 hb2.size
    have HO2 := hid s2; have HB2 := hid (below_then HB1.out hb2)
    have HO12 := hid ((HO1.out.below hb2)); have hsz := hb2.size
    clear hown2 s2 hb2
    rw [hm]
    go_wp2_with fail
    refine (alive15 w2).mono ?_
    rintro e w3 ⟨rfl, hb3⟩
    go_wp2_with fail
    refine (rows_any A1 A2 L L m m c1 c2 hm hm (by rw [← hm]; exact HLN.out) w3 (Nat.le_trans hsz hb3.size) hb3.size (HO12.out.below (hb3.mono hsz)) (HO2.out.below hb3)).mono ?_
    rw [decide_eq_true rfl]
    rintro e w4 ⟨rfl, hb4⟩
    go_wp2_with fail
    go_ret
    exact ⟨rfl, below_then (below_then HB2.out hb3) hb4⟩
  · have hni : (3000 : Int) < n := by omega
    go_enter Try.func5, Try.ntmps5
    go_wp2_with (go_at_call 13; refine (alive15 _).mono ?_; rintro e w9 ⟨rfl, hb9⟩)
    go_ret
    exact ⟨rfl, hb9⟩
end Go.Proofs.Ytcafahcmalfepaa
