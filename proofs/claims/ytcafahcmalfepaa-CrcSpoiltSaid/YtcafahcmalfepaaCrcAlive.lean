/-
  The live question of the laws on sums and frames is answered true.
-/
import Derived.Test.YtcafahcmalfepaaCrcG
import Derived.Lib.SlBytesConst
namespace Go.Proofs.Ytcafahcmalfepaa
open Go.RowKit Go.Deep
theorem slnewm {w : World} {q : Nat} (l : Bytes) (t : TypeId) (fr : Nat × Nat) (hq : q = w.heap.size) : Sl byteR 1 (w.alloc (.cells (l.map byteV).toArray t fr)).heap.size (w.alloc (.cells (l.map byteV).toArray t fr)) (some ⟨q, 0, none⟩) l := by
  subst hq
  refine RdC.sl (xs := l.map byteV) ⟨by simp, fun _ => ⟨_, _, rfl, fun j u hu => ?_⟩⟩ (cs_map _ _ l) (by rintro b o h; cases h; simp)
  rw [Nat.zero_add, World.cell?_alloc_mark]
  simpa using hu
theorem sum19 : crcSum [49, 50, 51, 52, 53, 54, 55, 56, 57] = 3808858755 := by decide +kernel
theorem frl2 : frLong 2 = 9 := by rfl
theorem alive_take : takeF ([] ++ fr [97, 98]) = .ok ([97, 98], []) := by
  have := takeF_fr [97, 98] [] (by decide)
  rwa [List.append_nil] at this
set_option maxHeartbeats 2000000 in
set_option maxRecDepth 20000 in
theorem alive15 (w : World) : Calls Try.prog 13 #[] w fun e w' => e = .returned (.bool true) ∧ Below w.heap.size w w' := by
  have kc := fun (W : World) (C : Array Value) (n c : Nat) => Lib.run_convert_bytes_const (P := Try.prog) W 22 5 C n c Try.underlying22 Try.underlying5
  have kc1 := kc w #[.int .u8 97, .int .u8 98] 2 2
  go_enter Try.func13, Try.ntmps13
  go_wp2_with fail
  refine (frame_any none [] 0 0 rfl (Nat.le_refl _) (Nat.zero_le _) (by omega) (some ⟨w.heap.size, 0, none⟩) [97, 98] 2 2 rfl (Nat.le_refl _) (by decide) (by omega) _ Sl.nil (slnewm [97, 98] _ (2, 3) rfl)).mono ?_
  rintro e w1 ⟨v, rfl, hown, hb1⟩
  have hlen : ([] ++ fr [97, 98]).length = 9 := by rw [List.nil_append, fr_length]; rfl
  obtain ⟨A, c, rfl, g1, g2, hsl⟩ := hown.len (Nat.zero_le _) hlen
  have HB1 := hid (below_then (below_new w (.cells ([97, 98].map byteV).toArray 5 (2, 3))) hb1)
  have HSL := hid hsl; clear hown hb1 hsl
  go_wp2_with fail
  refine (ctake_any A ([] ++ fr [97, 98]) 9 c hlen (by omega) g1 g2 _ w1 HSL.out.slzW).mono ?_
  rw [alive_take]
  rintro e w2 ⟨hb2, A1, c1, A2, c2, rfl, ⟨k1, k2, k3, k4⟩, s1, s2⟩
  have HB2 := hid (below_then HB1.out hb2); have S1 := hid s1.bsl; clear hb2 s1 s2 hlen
  simp only [List.length_cons, List.length_nil] at k1 k3 ⊢
  have kc2 := kc w2 #[.int .u8 49, .int .u8 50, .int .u8 51, .int .u8 52, .int .u8 53, .int .u8 54, .int .u8 55, .int .u8 56, .int .u8 57] 9 9
  go_wp2_with fail
  refine (sum_any (some ⟨w2.heap.size, 0, none⟩) [49, 50, 51, 52, 53, 54, 55, 56, 57] 9 9 rfl (by omega) _ (Nat.le_refl _) (slnewm [49, 50, 51, 52, 53, 54, 55, 56, 57] _ (9, 10) rfl)).mono ?_
  rw [sum19]
  rintro e w3 ⟨rfl, hb3⟩
  have hb3' := below_then (below_new w2 (.cells ([49, 50, 51, 52, 53, 54, 55, 56, 57].map byteV).toArray 5 (9, 10))) hb3
  have hcv := conv_str (n := 2) (c := c1) rfl (S1.out.below hb3')
  have HB3 := hid (below_then HB2.out hb3'); clear hb3 hb3'
  go_wp2_with (go_at_call 22; refine (long_any 2 (by omega) _).mono ?_; rw [frl2]; rintro e w4 ⟨rfl, hb4⟩)
  go_ret
  exact ⟨rfl, below_then HB3.out hb4⟩
end Go.Proofs.Ytcafahcmalfepaa
