/-
  OctetTakes: what any bytes begin with, as a number, a text and a row, is as the document says.
-/
import Derived.Test.YtpigfpnpabnnbaaTakeFlat
import Derived.Test.YtpigfpnpabnnbaaTakeRefB
namespace Go.Proofs.Ytpigfpnpabnnbaa
open Go.RowKit
set_option maxHeartbeats 400000 in
theorem takes_long (A : Option Addr) (n c : Nat) (many long : Int) (hn : 4000 < n) (w : World) :
    Calls Try.prog 5 #[.slice A n c, .int .i64 many, .int .i64 long] w fun e w' => e = .returned (.bool true) ∧ Below w.heap.size w w' := by
  go_enter Try.func5, Try.ntmps5
  go_wp2_with (first
    | (go_at_call 16; refine (alive01 _).mono ?_; rintro e w3 ⟨rfl, hb3⟩))
  go_ret
  exact ⟨rfl, hb3⟩
set_option maxHeartbeats 2000000 in
theorem takes_any (A : Option Addr) (b : Bytes) (n c : Nat) (many long : Int) (hn : n ≤ 4000) (hbl : b.length = n) (hc : n ≤ c) (hc' : c ≤ maxLen) (wm : many ≤ 9223372036854775807) (wl : long ≤ 9223372036854775807) (w : World) (hs : Sl byteR 1 w.heap.size w A b) :
    Calls Try.prog 5 #[.slice A n c, .int .i64 many, .int .i64 long] w fun e w' => e = .returned (.bool true) ∧ Below w.heap.size w w' := by
  have HS := hid hs; have HL := hid hbl; have HC := hid hc'; clear hs hbl hc'
  have hb0 : Below w.heap.size w w := Below.refl _ _
  go_enter Try.func5, Try.ntmps5
  go_wp2_with fail
  refine (take_any A b n c HL.out hc HC.out _ HS.out).mono ?_; intro e w1 h
  obtain ⟨⟨q, rfl⟩, A1, c1, rfl, h1, _, s1⟩ := h.flat; clear h
  generalize hr1 : flat 0 (takeN b) = r1 at *
  obtain ⟨x1, y1, z1⟩ := r1
  simp only [] at *
  have s1 := hid s1
  have hb1 : Below w.heap.size w (w.drewN q) := below_drewN hb0 _
  have k1 : w.heap.size ≤ (w.drewN q).heap.size := by simp
  have k1' : Below w.heap.size w (w.drewN q) := below_drewN (Below.refl _ _) _
  generalize w.drewN q = w1 at *
  go_wp2_with fail
  refine (rtake_any A b n c HL.out hc HC.out _ (HS.out.below hb1)).mono ?_; intro e w2 h
  obtain ⟨⟨q, rfl⟩, A2, c2, rfl, h2, _, s2⟩ := h.flat; clear h
  rw [hr1] at *
  simp only [] at *
  have s2 := hid s2
  have hb2 : Below w.heap.size w (w1.drewN q) := below_drewN hb1 _
  have k2 : w1.heap.size ≤ (w1.drewN q).heap.size := by simp
  have k2' : Below w1.heap.size w1 (w1.drewN q) := below_drewN (Below.refl _ _) _
  generalize w1.drewN q = w2 at *
  go_wp2_with fail
  refine (taketext_any A b n c long HL.out hc HC.out wl _ (HS.out.below hb2)).mono ?_; intro e w3 h
  obtain ⟨⟨q, rfl⟩, A3, c3, rfl, h3, _, s3⟩ := h.flat; clear h
  generalize hr3 : flat [] (takeT b long) = r3 at *
  obtain ⟨x3, y3, z3⟩ := r3
  simp only [] at *
  have s3 := hid s3
  have hb3 : Below w.heap.size w (w2.drewN q) := below_drewN hb2 _
  have k3 : w2.heap.size ≤ (w2.drewN q).heap.size := by simp
  have k3' : Below w2.heap.size w2 (w2.drewN q) := below_drewN (Below.refl _ _) _
  generalize w2.drewN q = w3 at *
  go_wp2_with fail
  refine (rtaketext_any A b n c long HL.out hc HC.out wl _ (HS.out.below hb3)).mono ?_; intro e w4 h
  obtain ⟨⟨q, rfl⟩, A4, c4, rfl, h4, _, s4⟩ := h.flat; clear h
  rw [hr3] at *
  simp only [] at *
  have s4 := hid s4
  have hb4 : Below w.heap.size w (w3.drewN q) := below_drewN hb3 _
  have k4 : w3.heap.size ≤ (w3.drewN q).heap.size := by simp
  have k4' : Below w3.heap.size w3 (w3.drewN q) := below_drewN (Below.refl _ _) _
  generalize w3.drewN q = w4 at *
  have q1 := conv_str (c := c1) rfl (s1.out.below (below_both hb0 hb4 (by omega)))
  have q2 := conv_str (c := c2) rfl (s2.out.below (below_both hb1 hb4 (by omega)))
  have q3 := conv_str (c := c3) rfl (s3.out.below (below_both hb2 hb4 (by omega)))
  have q4 := conv_str (c := c4) rfl (s4.out.below (below_both hb3 hb4 (by omega)))
  go_wp2_with fail
  clear q1 q2 q3 q4
  refine (takelist_any A b n c many long HL.out hc HC.out (by omega) wl wm _ (by omega) (HS.out.below hb4)).mono ?_; intro e w5 h
  obtain ⟨hb5', B5, d5, A5, c5, rfl, g5, hd5, t5, h5, _, s5⟩ := h.flat (by omega); clear h
  generalize hr5 : flat [] (takeL b many long) = r5 at *
  obtain ⟨x5, y5, z5⟩ := r5
  simp only [] at *
  have s5 := hid s5
  have t5 := hid t5
  have hb5 : Below w.heap.size w w5 := below_then hb4 hb5'
  have k5 : w4.heap.size ≤ w5.heap.size := hb5'.size
  go_wp2_with fail
  refine (rtakelist_any A b n c many long HL.out hc HC.out (by omega) wl wm _ (by omega) (HS.out.below hb5)).mono ?_; intro e w6 h
  obtain ⟨hb6', B6, d6, A6, c6, rfl, g6, hd6, t6, h6, _, s6⟩ := h.flat (by omega); clear h
  rw [hr5] at *
  simp only [] at *
  have s6 := hid s6
  have t6 := hid t6
  have hb6 : Below w.heap.size w w6 := below_then hb5 hb6'
  have k6 : w5.heap.size ≤ w6.heap.size := hb6'.size
  go_wp2_with fail
  refine (takeint_any A b n c HL.out hc HC.out _ (HS.out.below hb6)).mono ?_; intro e w7 h
  obtain ⟨⟨q, rfl⟩, A7, c7, rfl, h7, _, s7⟩ := h.flat; clear h
  generalize hr7 : flat 0 (takeI b) = r7 at *
  obtain ⟨x7, y7, z7⟩ := r7
  simp only [] at *
  have s7 := hid s7
  have hb7 : Below w.heap.size w (w6.drewN q) := below_drewN hb6 _
  have k7 : w6.heap.size ≤ (w6.drewN q).heap.size := by simp
  have k7' : Below w6.heap.size w6 (w6.drewN q) := below_drewN (Below.refl _ _) _
  generalize w6.drewN q = w7 at *
  go_wp2_with fail
  refine (rtakeint_any A b n c HL.out hc HC.out _ (HS.out.below hb7)).mono ?_; intro e w8 h
  obtain ⟨⟨q, rfl⟩, A8, c8, rfl, h8, _, s8⟩ := h.flat; clear h
  rw [hr7] at *
  simp only [] at *
  have s8 := hid s8
  have hb8 : Below w.heap.size w (w7.drewN q) := below_drewN hb7 _
  have k8 : w7.heap.size ≤ (w7.drewN q).heap.size := by simp
  have k8' : Below w7.heap.size w7 (w7.drewN q) := below_drewN (Below.refl _ _) _
  generalize w7.drewN q = w8 at *
  have hT5 : Below w5.heap.size w5 w8 := below_then (below_then hb6' k7') k8'
  have hT6 : Below w6.heap.size w6 w8 := below_then k7' k8'
  go_wp2_with (first
    | (go_at_call 16; refine (alive01 _).mono ?_; rintro e w9 ⟨rfl, hb9⟩; have k9 := hb9.size)
    | (go_at_call 33; refine (strings_any (B := w8.heap.size) B5 B6 (x5.map mkS) (x5.map mkS) _ _ d5 d6 (List.length_map _) (List.length_map _) (Nat.le_trans g5 hd5) _ ((t5.out.below (below_then hT5 hb9)).mono (by omega)) ((t6.out.below (below_then hT6 hb9)).mono (by omega))).mono ?_; rw [decide_eq_true rfl]; rintro e w10 ⟨rfl, q, rfl⟩
       have hb10 : Below w.heap.size w (w9.drewN q) := below_drewN (below_then hb8 hb9) q
       have k10 : w9.heap.size ≤ (w9.drewN q).heap.size := by simp
       generalize w9.drewN q = w10 at *
       have q5 := conv_str (c := c5) rfl (s5.out.below (below_both hb5 hb10 (by omega)))
       have q6 := conv_str (c := c6) rfl (s6.out.below (below_both hb6 hb10 (by omega)))
       have q7 := conv_str (c := c7) rfl (s7.out.below (below_both hb6 hb10 (by omega)))
       have q8 := conv_str (c := c8) rfl (s8.out.below (below_both hb7 hb10 (by omega)))))
  go_ret
  exact ⟨rfl, hb10⟩
end Go.Proofs.Ytpigfpnpabnnbaa
