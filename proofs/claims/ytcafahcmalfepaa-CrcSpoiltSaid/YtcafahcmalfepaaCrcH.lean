/-
  The walk of the reference's Rows: whether rows of bytes are alike.
-/
import Derived.Test.YtcafahcmalfepaaCrcG
import Derived.Test.YtcafahcmalfepaaRegL
namespace Go.Proofs.Ytcafahcmalfepaa
open Go.RowKit Go.Deep
theorem rows_ne (A1 A2 : Option Addr) (n m c1 c2 : Nat) (hne : n ≠ m) (w : World) :
    Calls Try.prog 26 #[.slice A1 n c1, .slice A2 m c2] w fun e w' => e = .returned (.bool false) ∧ w' = w := by
  have hb : decide (n = m) = false := by simpa using hne
  go_enter Try.func26, Try.ntmps26
  go_wp2_with fail
  go_ret
  exact ⟨rfl, rfl⟩
set_option maxHeartbeats 2000000 in
set_option maxRecDepth 20000 in
theorem rows_any {Z1 Z2 : Nat → Prop} (A1 A2 : Option Addr) (l1 l2 : List Bytes) (n m c1 c2 : Nat) {B1 B2 : Nat} (h1 : l1.length = n) (h2 : l2.length = m) (hn : n ≤ maxLen) (w : World) (hB1 : B1 ≤ w.heap.size) (hB2 : B2 ≤ w.heap.size) (hs1 : Sl (rowZ Z1) 1 B1 w A1 l1) (hs2 : Sl (rowZ Z2) 1 B2 w A2 l2) :
    Calls Try.prog 26 #[.slice A1 n c1, .slice A2 m c2] w fun e w' => e = .returned (.bool (decide (l1 = l2))) ∧ Below w.heap.size w w' := by
  unfold maxLen at hn
  by_cases hne : n = m
  · subst hne
    have HL1 := hid h1; have HL2 := hid h2; have HS1 := hid hs1; have HS2 := hid hs2; clear h1 h2 hs1 hs2
    go_enter Try.func26, Try.ntmps26
    go_wp2_with fail
    go_loopw [5] (fun i wr => ∃ k : Nat, k ≤ n ∧ i = .int .i64 k ∧ l1.take k = l2.take k ∧ Below w.heap.size w wr)
      (fun i _ => n - (intOf i).toNat)
    case atStart => exact ⟨0, Nat.zero_le _, rfl, rfl, Below.refl _ _⟩
    case round =>
      obtain ⟨k, hk, rfl, heq, hbr⟩ := hrel
      have HE := hid heq; have HBR := hid hbr; clear heq hbr
      by_cases hlt : k < n
      · obtain ⟨x1, hx1⟩ : ∃ x, l1[k]? = some x := ⟨_, List.getElem?_eq_getElem (by rw [HL1.out]; exact hlt)⟩
        obtain ⟨x2, hx2⟩ : ∃ x, l2[k]? = some x := ⟨_, List.getElem?_eq_getElem (by rw [HL2.out]; exact hlt)⟩
        obtain ⟨b1, o1, v1, rfl, hb1, ⟨A3, c3, hv1, _, _, s1⟩, hc1⟩ := HS1.out.get1 hx1
        obtain ⟨b2, o2, v2, rfl, hb2, ⟨A4, c4, hv2, _, _, s2⟩, hc2⟩ := HS2.out.get1 hx2
        simp only [List.cons.injEq, and_true] at hv1 hv2
        subst hv1 hv2
        have hc1 := (HBR.out.cell (p := ⟨b1, o1 + k, none⟩) (Nat.lt_of_lt_of_le hb1 hB1)).trans hc1
        have hc2 := (HBR.out.cell (p := ⟨b2, o2 + k, none⟩) (Nat.lt_of_lt_of_le hb2 hB2)).trans hc2
        have S1 := hid (s1.bsl.call HBR.out); have S2 := hid (s2.bsl.call HBR.out); clear s1 s2
        have hb1 := Nat.lt_of_lt_of_le (Nat.lt_of_lt_of_le hb1 hB1) HBR.out.size
        have hb2 := Nat.lt_of_lt_of_le (Nat.lt_of_lt_of_le hb2 hB2) HBR.out.size
        have hp1 : l1.take (k + 1) = l1.take k ++ [x1] := by rw [List.take_add_one, hx1]; rfl
        have hp2 : l2.take (k + 1) = l2.take k ++ [x2] := by rw [List.take_add_one, hx2]; rfl
        have hdec : (l1 = l2) → x1 = x2 := by intro h; rw [h, hx2] at hx1; simpa using hx1.symm
        clear hx1 hx2
        have HD := hid hdec; have HP1 := hid hp1; have HP2 := hid hp2; clear hdec hp1 hp2
        by_cases hx : x1 = x2
        · subst hx
          go_wp2_with fail
          refine reg_start (by kernel_rfl) fun w4 hHeld hz4 => ?_
          clear hz4
          have HH := hid hHeld
          refine reg_rd 0 (v := ?_) rfl (by kernel_rfl) (by kernel_rfl) (by kernel_rfl) (fun _ _ _ h => h) (by rfl) (by assumption) ?_ ?_
          rotate_left
          · intro w hSw; go_simp; with_reducible rfl
          try simp only [Act.put, List.setIfInBounds_toArray, List.set_cons_zero, List.set_cons_succ]
          refine reg_rd 1 (v := ?_) rfl (by kernel_rfl) (by kernel_rfl) (by kernel_rfl) (fun _ _ _ h => h) (by rfl) (by assumption) ?_ ?_
          rotate_left
          · intro w hSw; go_simp; with_reducible rfl
          try simp only [Act.put, List.setIfInBounds_toArray, List.set_cons_zero, List.set_cons_succ]
          refine reg_rd 2 (v := ?_) rfl (by kernel_rfl) (by kernel_rfl) (by kernel_rfl) (fun _ _ _ h => h) (by rfl) (by assumption) ?_ ?_
          rotate_left
          · intro w hSw; go_simp; with_reducible rfl
          try simp only [Act.put, List.setIfInBounds_toArray, List.set_cons_zero, List.set_cons_succ]
          refine reg_rd 3 (v := ?_) rfl (by kernel_rfl) (by kernel_rfl) (by kernel_rfl) (fun _ _ _ h => h) (by rfl) (by assumption) ?_ ?_
          rotate_left
          · (intro w' hSw; (try obtain ⟨hq1, hq2⟩ := bcell hSw); have hq3 := conv_str (c := c3) rfl (S1.out.below hSw); have hq4 := conv_str (c := c4) rfl (S2.out.below hSw); go_simp); with_reducible rfl
          try simp only [Act.put, List.setIfInBounds_toArray, List.set_cons_zero, List.set_cons_succ]
          refine reg_rd 4 (v := ?_) rfl (by kernel_rfl) (by kernel_rfl) (by kernel_rfl) (fun _ _ _ h => h) (by rfl) (by assumption) ?_ ?_
          rotate_left
          · (intro w' hSw; (try obtain ⟨hq1, hq2⟩ := bcell hSw); have hq3 := conv_str (c := c3) rfl (S1.out.below hSw); have hq4 := conv_str (c := c4) rfl (S2.out.below hSw); go_simp); with_reducible rfl
          try simp only [Act.put, List.setIfInBounds_toArray, List.set_cons_zero, List.set_cons_succ]
          refine reg_rd 5 (v := ?_) rfl (by kernel_rfl) (by kernel_rfl) (by kernel_rfl) (fun _ _ _ h => h) (by rfl) (by assumption) ?_ ?_
          rotate_left
          · intro w hSw; go_simp; with_reducible rfl
          try simp only [Act.put, List.setIfInBounds_toArray, List.set_cons_zero, List.set_cons_succ]
          refine reg_rd 6 (v := ?_) rfl (by kernel_rfl) (by kernel_rfl) (by kernel_rfl) (fun _ _ _ h => h) (by rfl) (by assumption) ?_ ?_
          rotate_left
          · intro w hSw; go_simp; with_reducible rfl
          try simp only [Act.put, List.setIfInBounds_toArray, List.set_cons_zero, List.set_cons_succ]
          refine reg_rd 7 (v := ?_) rfl (by kernel_rfl) (by kernel_rfl) (by kernel_rfl) (fun _ _ _ h => h) (by rfl) (by assumption) ?_ ?_
          rotate_left
          · intro w hSw; go_simp; with_reducible rfl
          try simp only [Act.put, List.setIfInBounds_toArray, List.set_cons_zero, List.set_cons_succ]
          refine reg_rd 8 (v := ?_) rfl (by kernel_rfl) (by kernel_rfl) (by kernel_rfl) (fun _ _ _ h => h) (by rfl) (by assumption) ?_ ?_
          rotate_left
          · (intro w' hSw; (try obtain ⟨hq1, hq2⟩ := bcell hSw); have hq3 := conv_str (c := c3) rfl (S1.out.below hSw); have hq4 := conv_str (c := c4) rfl (S2.out.below hSw); go_simp); with_reducible rfl
          try simp only [Act.put, List.setIfInBounds_toArray, List.set_cons_zero, List.set_cons_succ]
          refine reg_rd 9 (v := ?_) rfl (by kernel_rfl) (by kernel_rfl) (by kernel_rfl) (fun _ _ _ h => h) (by rfl) (by assumption) ?_ ?_
          rotate_left
          · (intro w' hSw; (try obtain ⟨hq1, hq2⟩ := bcell hSw); have hq3 := conv_str (c := c3) rfl (S1.out.below hSw); have hq4 := conv_str (c := c4) rfl (S2.out.below hSw); go_simp); with_reducible rfl
          try simp only [Act.put, List.setIfInBounds_toArray, List.set_cons_zero, List.set_cons_succ]
          refine reg_rd 10 (v := ?_) rfl (by kernel_rfl) (by kernel_rfl) (by kernel_rfl) (fun _ _ _ h => h) (by rfl) (by assumption) ?_ ?_
          rotate_left
          · intro w hSw; go_simp; with_reducible rfl
          try simp only [Act.put, List.setIfInBounds_toArray, List.set_cons_zero, List.set_cons_succ]
          refine wpAnyH_done (by kernel_rfl) ?_ _
          go_wp2_with fail
          go_roundw
          case rel => exact ⟨k + 1, by omega, by go_num, by rw [HP1.out, HP2.out, HE.out], below_then HBR.out HH.out⟩
          case measure => simp [intOf]; omega
        · have he1 : ((⟨x1.toArray⟩ : ByteArray).toList == (⟨x2.toArray⟩ : ByteArray).toList) = false := by rw [beq_eq_false_iff_ne]; intro h; rw [ByteArray.toList_eq, ByteArray.toList_eq] at h; exact hx (by simpa using h)
          have he2 : (x1 == x2) = false := by rw [beq_eq_false_iff_ne]; exact hx
          have he3 : (x1 != x2) = true := by simp [hx]
          have HX := hid hx; clear hx
          go_wp2_with fail
          refine reg_start (by kernel_rfl) fun w4 hHeld hz4 => ?_
          clear hz4
          have HH := hid hHeld
          refine reg_rd 0 (v := ?_) rfl (by kernel_rfl) (by kernel_rfl) (by kernel_rfl) (fun _ _ _ h => h) (by rfl) (by assumption) ?_ ?_
          rotate_left
          · intro w hSw; go_simp; with_reducible rfl
          try simp only [Act.put, List.setIfInBounds_toArray, List.set_cons_zero, List.set_cons_succ]
          refine reg_rd 1 (v := ?_) rfl (by kernel_rfl) (by kernel_rfl) (by kernel_rfl) (fun _ _ _ h => h) (by rfl) (by assumption) ?_ ?_
          rotate_left
          · intro w hSw; go_simp; with_reducible rfl
          try simp only [Act.put, List.setIfInBounds_toArray, List.set_cons_zero, List.set_cons_succ]
          refine reg_rd 2 (v := ?_) rfl (by kernel_rfl) (by kernel_rfl) (by kernel_rfl) (fun _ _ _ h => h) (by rfl) (by assumption) ?_ ?_
          rotate_left
          · intro w hSw; go_simp; with_reducible rfl
          try simp only [Act.put, List.setIfInBounds_toArray, List.set_cons_zero, List.set_cons_succ]
          refine reg_rd 3 (v := ?_) rfl (by kernel_rfl) (by kernel_rfl) (by kernel_rfl) (fun _ _ _ h => h) (by rfl) (by assumption) ?_ ?_
          rotate_left
          · (intro w' hSw; (try obtain ⟨hq1, hq2⟩ := bcell hSw); have hq3 := conv_str (c := c3) rfl (S1.out.below hSw); have hq4 := conv_str (c := c4) rfl (S2.out.below hSw); go_simp); with_reducible rfl
          try simp only [Act.put, List.setIfInBounds_toArray, List.set_cons_zero, List.set_cons_succ]
          refine reg_rd 4 (v := ?_) rfl (by kernel_rfl) (by kernel_rfl) (by kernel_rfl) (fun _ _ _ h => h) (by rfl) (by assumption) ?_ ?_
          rotate_left
          · (intro w' hSw; (try obtain ⟨hq1, hq2⟩ := bcell hSw); have hq3 := conv_str (c := c3) rfl (S1.out.below hSw); have hq4 := conv_str (c := c4) rfl (S2.out.below hSw); go_simp); with_reducible rfl
          try simp only [Act.put, List.setIfInBounds_toArray, List.set_cons_zero, List.set_cons_succ]
          refine reg_rd 5 (v := ?_) rfl (by kernel_rfl) (by kernel_rfl) (by kernel_rfl) (fun _ _ _ h => h) (by rfl) (by assumption) ?_ ?_
          rotate_left
          · intro w hSw; go_simp; with_reducible rfl
          try simp only [Act.put, List.setIfInBounds_toArray, List.set_cons_zero, List.set_cons_succ]
          refine reg_rd 6 (v := ?_) rfl (by kernel_rfl) (by kernel_rfl) (by kernel_rfl) (fun _ _ _ h => h) (by rfl) (by assumption) ?_ ?_
          rotate_left
          · intro w hSw; go_simp; with_reducible rfl
          try simp only [Act.put, List.setIfInBounds_toArray, List.set_cons_zero, List.set_cons_succ]
          refine reg_rd 7 (v := ?_) rfl (by kernel_rfl) (by kernel_rfl) (by kernel_rfl) (fun _ _ _ h => h) (by rfl) (by assumption) ?_ ?_
          rotate_left
          · intro w hSw; go_simp; with_reducible rfl
          try simp only [Act.put, List.setIfInBounds_toArray, List.set_cons_zero, List.set_cons_succ]
          refine reg_rd 8 (v := ?_) rfl (by kernel_rfl) (by kernel_rfl) (by kernel_rfl) (fun _ _ _ h => h) (by rfl) (by assumption) ?_ ?_
          rotate_left
          · (intro w' hSw; (try obtain ⟨hq1, hq2⟩ := bcell hSw); have hq3 := conv_str (c := c3) rfl (S1.out.below hSw); have hq4 := conv_str (c := c4) rfl (S2.out.below hSw); go_simp); with_reducible rfl
          try simp only [Act.put, List.setIfInBounds_toArray, List.set_cons_zero, List.set_cons_succ]
          refine reg_rd 9 (v := ?_) rfl (by kernel_rfl) (by kernel_rfl) (by kernel_rfl) (fun _ _ _ h => h) (by rfl) (by assumption) ?_ ?_
          rotate_left
          · (intro w' hSw; (try obtain ⟨hq1, hq2⟩ := bcell hSw); have hq3 := conv_str (c := c3) rfl (S1.out.below hSw); have hq4 := conv_str (c := c4) rfl (S2.out.below hSw); go_simp); with_reducible rfl
          try simp only [Act.put, List.setIfInBounds_toArray, List.set_cons_zero, List.set_cons_succ]
          refine reg_rd 10 (v := ?_) rfl (by kernel_rfl) (by kernel_rfl) (by kernel_rfl) (fun _ _ _ h => h) (by rfl) (by assumption) ?_ ?_
          rotate_left
          · intro w hSw; go_simp; with_reducible rfl
          try simp only [Act.put, List.setIfInBounds_toArray, List.set_cons_zero, List.set_cons_succ]
          refine wpAnyH_done (by kernel_rfl) ?_ _
          go_wp2_with fail
          go_ret
          exact ⟨by rw [decide_eq_false (fun h => HX.out (HD.out h))]; rfl, below_then HBR.out HH.out⟩
      · obtain rfl : k = n := by omega
        go_wp2_with fail
        go_ret
        refine ⟨?_, HBR.out⟩
        have := HE.out
        rw [List.take_of_length_le (by rw [HL1.out]; omega), List.take_of_length_le (by rw [HL2.out]; omega)] at this
        rw [decide_eq_true this]
        rfl
  · refine (rows_ne A1 A2 n m c1 c2 hne w).mono ?_
    rintro e w' ⟨rfl, rfl⟩
    refine ⟨?_, Below.refl _ _⟩
    rw [decide_eq_false (fun h => hne (by rw [← h1, ← h2, h]))]
end Go.Proofs.Ytcafahcmalfepaa
