/-
  CrcBack: rows of bytes, framed, one behind the other, are found, whatever of a further frame stands behind, cut off before its end.
-/
import Derived.Test.YtcafahcmalfepaaCrcI
import Derived.Test.YtcafahcmalfepaaCrcAlive
import Derived.Test.YtcafahcmalfepaaRegL
namespace Go.Proofs.Ytcafahcmalfepaa
open Go.RowKit Go.Deep
theorem own_rowB {Z : Nat → Prop} {base B : Nat} {w : World} {v : Value} {l : List Bytes} {e : TypeId} (h : Own (rowZ Z) 1 e base B w v l) (hB : B ≤ w.heap.size) : ∃ A c, v = .slice A l.length c ∧ l.length ≤ c ∧ c ≤ maxLen ∧ Sl (rowZ Z) 1 w.heap.size w A l := h.sl hB
theorem frs_take (l : List Bytes) (k : Nat) (x : Bytes) (h : l[k]? = some x) : frs (l.take (k + 1)) = frs (l.take k) ++ fr x := by
  rw [List.take_add_one, h, frs_append]
  simp [frs]
set_option maxHeartbeats 4000000 in
set_option maxRecDepth 20000 in
theorem back_any (A0 : Option Addr) (l : List Bytes) (n c0 : Nat) (A1 : Option Addr) (d : Bytes) (n1 c1 : Nat) (cut : Int) (hl : l.length = n) (g0 : n ≤ c0) (m0 : c0 ≤ maxLen) (hd : d.length = n1) (g1 : n1 ≤ c1) (m1 : c1 ≤ maxLen) (hcut : -9223372036854775808 ≤ cut ∧ cut ≤ 9223372036854775807) (w : World) (hu : ∀ y ∈ l, y.length * 1 ≤ reachBytes) (hs : Sl (slR byteR 1) 1 w.heap.size w A0 l) (hsd : Sl byteR 1 w.heap.size w A1 d) :
    Calls Try.prog 6 #[.slice A0 n c0, .slice A1 n1 c1, .int .i64 cut] w fun e w' => e = .returned (.bool true) ∧ Below w.heap.size w w' := by
  have HS := hid hs; have HL := hid hl; have G0 := hid (And.intro g0 m0); have HSD := hid hsd; have HD := hid hd; have G1 := hid (And.intro g1 m1)
  have hn63 : (n : Int) ≤ 9223372036854775807 := by unfold maxLen at m0; omega
  have hn163 : (n1 : Int) ≤ 9223372036854775807 := by unfold maxLen at m1; omega
  clear hs hl g0 m0 hsd hd g1 m1
  go_enter Try.func6, Try.ntmps6
  go_wp2_with fail
  go_loopw [7, 8] (fun v i wr => ∃ k : Nat, k ≤ n ∧ k ≤ 30 ∧ i = .int .i64 k ∧ (frs (l.take k)).length ≤ 200000 ∧ (∀ y ∈ l.take k, y.length ≤ 3000) ∧ Own byteR 1 5 w.heap.size 0 wr v (frs (l.take k)) ∧ Below w.heap.size w wr) (fun _ i _ => n - (intOf i).toNat)
  case atStart => exact ⟨0, Nat.zero_le _, by omega, rfl, by simp [frs], by simp, Own.made w (Nat.le_refl _), below_new _ _⟩
  case round =>
    obtain ⟨k, hk, hk30, rfl, hfl, hall, hown, hb⟩ := hrel
    have HO := hid hown; have HB := hid hb; have HA := hid hall; clear hown hb hall
    by_cases hlt : k < n
    · obtain ⟨x, hx⟩ : ∃ x, l[k]? = some x := ⟨_, List.getElem?_eq_getElem (by rw [HL.out]; exact hlt)⟩
      obtain ⟨b0, o0, v, rfl, hb0, ⟨AX, cX, hv, gX, mX, sX⟩, hcell⟩ := HS.out.get1 hx
      simp only [List.cons.injEq, and_true] at hv
      subst hv
      have hcell := (HB.out.cell (p := ⟨b0, o0 + k, none⟩) hb0).trans hcell
      have hb0 := Nat.lt_of_lt_of_le hb0 HB.out.size
      have HX := hid (sX.call HB.out); have GX := hid (And.intro gX mX); have hft := frs_take l k x hx
      have HFT := hid hft; have HXK := hid hx; clear sX gX mX hft hx
      obtain ⟨m, hm⟩ : ∃ m, (frs (l.take k)).length = m := ⟨_, rfl⟩
      obtain ⟨Ao, co, rfl⟩ := HO.out.form2 hm
      rw [hm] at hfl
      have HM := hid hm; clear hm
      have hxu := hu x (List.mem_of_getElem? HXK.out)
      unfold reachBytes at hxu
      generalize hp : x.length = p at *
      have HP := hid hp
      have hxl : (p : Int) ≤ 140737488355328 := by omega
      have hmi : (m : Int) ≤ 200000 := by omega
      clear hp
      by_cases hal : k = 30 ∨ 3000 < m + p
      · rcases hal with hal | hal
        · subst hal
          go_wp2_with (go_at_call 13; refine (alive15 _).mono ?_; rintro e w9 ⟨rfl, hb9⟩)
          go_ret
          exact ⟨rfl, below_then HB.out hb9⟩
        · have ht : (3000 : Int) < m + p := by omega
          go_wp2_with (go_at_call 13; refine (alive15 _).mono ?_; rintro e w9 ⟨rfl, hb9⟩)
          all_goals go_ret
          all_goals exact ⟨rfl, below_then HB.out hb9⟩
      · have ht : (m : Int) + p ≤ 3000 := by omega
        have hk1 : ((k : Int) == 30) = false := by simp; omega
        obtain ⟨Ao', co', he, go, mo, so⟩ := HO.out.len (Nat.zero_le _) HM.out
        simp only [Value.slice.injEq, true_and] at he
        obtain ⟨rfl, rfl⟩ := he
        have SO := hid so; clear so
        have hnb := nb_le p (by omega)
        obtain ⟨q, hq⟩ : ∃ q, frLong p = q := ⟨_, rfl⟩
        have hq14 : q ≤ p + 14 := by unfold frLong at hq; omega
        obtain ⟨M2, hM2⟩ : ∃ M2, m + q = M2 := ⟨_, rfl⟩
        have hlen2 : (frs (l.take (k + 1))).length = M2 := by rw [HFT.out, List.length_append, HM.out, fr_length, HP.out, hq, hM2]
        have HLEN2 := hid hlen2; have HQ := hid hq; clear hlen2 hq
        have hne : ((M2 : Int) != (m : Int) + q) = false := by simp only [bne_eq_false_iff_eq]; omega
        have hM2i : (M2 : Int) ≤ 4000 := by omega
        have hqi : (q : Int) ≤ 4000 := by omega
        go_wp2_with fail
        refine (frame_any Ao (frs (l.take k)) m co HM.out go mo (by omega) AX x p cX HP.out GX.out.1 GX.out.2 (by omega) wr SO.out HX.out).mono ?_
        rintro e w2 ⟨v2, rfl, hown2, hb2⟩
        rw [← HFT.out] at hown2
        obtain ⟨A2, c2, rfl⟩ := hown2.form2 HLEN2.out
        have hcell2 := (hb2.cell (p := ⟨b0, o0 + k, none⟩) hb0).trans hcell
        have HO2 := hid (hown2.low (base' := w.heap.size) HB.out.size); have HB2 := hid (below_then HB.out hb2); clear hown2 hb2 hcell
        go_wp2_with (go_at_call 22; refine (long_any p (by omega) _).mono ?_; rw [HQ.out]; rintro e w3 ⟨rfl, hb3⟩)
        go_roundw
        case rel =>
          refine ⟨k + 1, by omega, by omega, by go_num, by rw [HLEN2.out]; omega, ?_, HO2.out.call (Nat.zero_le _) hb3, below_then HB2.out hb3⟩
          intro y hy
          rw [List.take_add_one, HXK.out, List.mem_append] at hy
          rcases hy with hy | hy
          · exact HA.out y hy
          · simp only [Option.toList_some, List.mem_singleton] at hy
            subst hy
            rw [HP.out]; omega
        case measure => simp [intOf]; omega
    · obtain rfl : k = n := by omega
      have htk : l.take k = l := List.take_of_length_le (by rw [HL.out]; omega)
      have HO0 := HO.out; have HA0 := HA.out
      rw [htk] at HO0 HA0 hfl
      clear HO HA htk
      have HO := hid HO0; have HA := hid HA0; clear HO0 HA0
      obtain ⟨m, hm⟩ : ∃ m, (frs l).length = m := ⟨_, rfl⟩
      obtain ⟨Ao, co, rfl⟩ := HO.out.form2 hm
      rw [hm] at hfl
      have HM := hid hm; clear hm
      obtain ⟨Ao', co', he, go, mo, so⟩ := HO.out.len (Nat.zero_le _) HM.out
      simp only [Value.slice.injEq, true_and] at he
      obtain ⟨rfl, rfl⟩ := he
      have SO := hid so; clear so
      have hmi : (m : Int) ≤ 200000 := by omega
      by_cases hn1 : 3000 < n1
      · have hn1i : (3000 : Int) < n1 := by omega
        go_wp2_with (go_at_call 13; refine (alive15 _).mono ?_; rintro e w9 ⟨rfl, hb9⟩)
        go_ret
        exact ⟨rfl, below_then HB.out hb9⟩
      · have hn1i : (n1 : Int) ≤ 3000 := by omega
        go_wp2_with fail
        refine (frame_any none [] 0 0 rfl (Nat.le_refl _) (Nat.zero_le _) (by omega) A1 d n1 c1 HD.out G1.out.1 G1.out.2 (by omega) wr Sl.nil (HSD.out.call HB.out)).mono ?_
        rw [List.nil_append]
        rintro e w2 ⟨v2, rfl, hown2, hb2⟩
        have hnb := nb_le n1 (by omega)
        obtain ⟨q, hq⟩ : ∃ q, (fr d).length = q := ⟨_, rfl⟩
        have hq2 : 1 ≤ q ∧ q ≤ 4000 := by rw [← hq, fr_length, HD.out]; unfold frLong; omega
        obtain ⟨A2, c2, rfl, g2, m2, s2⟩ := hown2.len (Nat.zero_le _) hq
        have HB2 := hid (below_then HB.out hb2); have S2 := hid s2; have SO2 := hid (SO.out.call hb2); have HQ := hid hq
        clear hown2 hb2 s2 hq
        obtain ⟨q1, hq1⟩ : ∃ q1, q - 1 = q1 := ⟨_, rfl⟩
        have x1 : (q : Int) - 1 = q1 := by omega
        have x2 : (q1 : Int) ≤ 4000 := by omega
        have x3 : (0 : Int) ≤ q1 := by omega
        have G0n := hid (Nat.le_trans G0.out.1 G0.out.2)
        rcases (show cut < 0 ∨ (q1 : Int) < cut ∨ (0 ≤ cut ∧ cut ≤ q1) by omega) with hcc | hcc | ⟨hcc1, hcc2⟩
        · skip
          have hmn : min (max cut 0) (q1 : Int) = 0 := by omega
          have htl : ((fr d).take 0).length = 0 := by rw [List.length_take, HQ.out]; omega
          have hKc : ((0 : Nat) : Int) ≤ c2 := by omega
          have hK4 : 0 ≤ 4000 := by omega
          have hK0 : (0 : Int) ≤ ((0 : Nat) : Int) := by omega
          obtain ⟨mk, hmk⟩ : ∃ mk, m + 0 = mk := ⟨_, rfl⟩
          have htot : ([] ++ frs l ++ (fr d).take 0).length = mk := by rw [List.nil_append, List.length_append, HM.out, htl, hmk]
          have hscan : scanS ([] ++ frs l ++ (fr d).take 0) = (l, (fr d).take 0) := by
            obtain ⟨z, hz⟩ := takeF_cut d (by rw [HD.out]; omega) 0 (by rw [HQ.out]; omega)
            rw [List.nil_append, scanS_frs l (fun y hy => by have := HA.out y hy; omega), scanS_err hz, List.append_nil]
          have hq1 : (([] : Bytes).length + (frs l).length) * 1 ≤ 140737488355328 := by rw [HM.out]; simp; omega
          have hq2 : ([] : Bytes).length + (frs l).length ≤ maxLen := by rw [HM.out]; simp [maxLen]; omega
          have hq3 : (([] ++ frs l).length + ((fr d).take 0).length) * 1 ≤ 140737488355328 := by rw [List.nil_append, HM.out, htl]; omega
          have hq4 : ([] ++ frs l).length + ((fr d).take 0).length ≤ maxLen := by rw [List.nil_append, HM.out, htl]; unfold maxLen; omega
          have HTL := hid htl; have HTOT := hid htot; have HSC := hid hscan; have Q1 := hid hq1; have Q2 := hid hq2; have Q3 := hid hq3; have Q4 := hid hq4
          have HNUM := hid (show (mk : Int) - ((0 : Nat) : Int) = m by omega)
          have HMK := hid (show mk ≤ 1000000 by omega)
          clear htl htot hscan hq1 hq2 hq3 hq4 hmk
          go_wp2_with fail
          refine reg_start (by kernel_rfl) fun w4 hHeld hz4 => ?_
          clear hz4
          have hT := hHeld
          refine reg_rd 1 (v := ?_) rfl (by kernel_rfl) (by kernel_rfl) (by kernel_rfl) (fun _ _ _ h => h) (by rfl) (by assumption) ?_ ?_
          rotate_left
          · intro w hSw; go_simp; with_reducible rfl
          try simp only [Act.put, List.setIfInBounds_toArray, List.set_cons_zero, List.set_cons_succ]
          refine reg_rd 3 (v := ?_) rfl (by kernel_rfl) (by kernel_rfl) (by kernel_rfl) (fun _ _ _ h => h) (by rfl) (by assumption) ?_ ?_
          rotate_left
          · intro w hSw; go_simp; with_reducible rfl
          try simp only [Act.put, List.setIfInBounds_toArray, List.set_cons_zero, List.set_cons_succ]
          refine reg_rd 4 (v := ?_) rfl (by kernel_rfl) (by kernel_rfl) (by kernel_rfl) (fun _ _ _ h => h) (by rfl) (by assumption) ?_ ?_
          rotate_left
          · intro w hSw; go_simp; with_reducible rfl
          try simp only [Act.put, List.setIfInBounds_toArray, List.set_cons_zero, List.set_cons_succ]
          refine wpAnyH_ready (rs := [0, 5]) (by kernel_rfl) (by simp) ?_
          refine reg_do rfl (by rfl) (fun K hK => ?_) ?_
          focus
            go_simp
            refine hK.out _ _ ?_ (fun hNext => ?_)
            · (first | assumption | exact below_alloc (by assumption) _)
            clear hK K hHeld
            have hHeld := hNext
            clear hNext
            try simp only [Act.put, List.setIfInBounds_toArray, List.set_cons_zero, List.set_cons_succ]
            refine wpAnyH_ready (rs := [2, 5]) (by kernel_rfl) (by simp) ?_
            refine reg_do rfl (by rfl) (fun K hK => ?_) ?_
            focus
              first | (refine opw_app (.tmp 67) (.tmp 68) _ rfl tabB _ [] (frs l) rfl (Own.made w4 (Nat.le_refl _)) (Nat.zero_le _) Ao m co ((frs l).map byteV) rfl HM.out ((sl_bytes (SO2.out.below hT) HM.out).alloc _) (cs_map _ _ _) (bytes_oneCell _) Q1.out Q2.out (by simp) ?_; intro v5 w5 hown5 hb5; have hb45 := (below_new w4 (.cells #[] 5)).trans hb5; have hT5 := below_then hT hb45) | (refine opw_app (.tmp 69) (.tmp 73) _ rfl tabB _ ([] ++ frs l) ((fr d).take 0) rfl hown5 (Nat.zero_le _) A2 (0) c2 (((fr d).take 0).map byteV) rfl HTL.out (sl_bytes ((S2.out.take (0)).below hT5) HTL.out) (cs_map _ _ _) (bytes_oneCell _) Q3.out Q4.out hb45.size ?_; intro v6 w6 hown6 hb6; have hT6 := hT5.trans (hb6.mono hT.size); obtain ⟨A6, c6, rfl, g6, m6, s6⟩ := hown6.len (Nat.zero_le _) HTOT.out; clear hown6) | (go_at_call 24; have hsc := scan_any A6 ([] ++ frs l ++ (fr d).take 0) mk c6 HTOT.out HMK.out g6 m6 _ _ s6.slzW; rw [HSC.out, HTL.out, HNUM.out] at hsc; refine hsc.mono ?_; clear hsc; rintro e w7 ⟨v7, rfl, hown7, hb7⟩; obtain ⟨A7, c7, hv7, g7, m7, s7⟩ := own_rowB hown7 hb7.size; rw [HL.out] at hv7; subst hv7; clear hown7; have hT7 := below_then hT6 hb7)
              refine hK.out _ _ ?_ (fun hNext => ?_)
              · assumption
              clear hK K hHeld
              have hHeld := hNext
              clear hNext
              try simp only [Act.put, List.setIfInBounds_toArray, List.set_cons_zero, List.set_cons_succ]
              refine wpAnyH_ready (rs := [5]) (by kernel_rfl) (by simp) ?_
              refine reg_do1 rfl (by rfl) (fun K hK => ?_)
              go_simp
              refine hK.out _ _ ?_ (fun hNext => ?_)
              · assumption
              clear hK K hHeld
              have hHeld := hNext
              clear hNext
              try simp only [Act.put, List.setIfInBounds_toArray, List.set_cons_zero, List.set_cons_succ]
              refine reg_rd 6 (v := ?_) rfl (by kernel_rfl) (by kernel_rfl) (by kernel_rfl) (fun _ _ _ h => h) (by rfl) (by assumption) ?_ ?_
              rotate_left
              · intro w hSw; go_simp; with_reducible rfl
              try simp only [Act.put, List.setIfInBounds_toArray, List.set_cons_zero, List.set_cons_succ]
              refine wpAnyH_ready (rs := [7]) (by kernel_rfl) (by simp) ?_
              refine reg_do1 rfl (by rfl) (fun K hK => ?_)
              first | (refine opw_app (.tmp 67) (.tmp 68) _ rfl tabB _ [] (frs l) rfl (Own.made w4 (Nat.le_refl _)) (Nat.zero_le _) Ao m co ((frs l).map byteV) rfl HM.out ((sl_bytes (SO2.out.below hT) HM.out).alloc _) (cs_map _ _ _) (bytes_oneCell _) Q1.out Q2.out (by simp) ?_; intro v5 w5 hown5 hb5; have hb45 := (below_new w4 (.cells #[] 5)).trans hb5; have hT5 := below_then hT hb45) | (refine opw_app (.tmp 69) (.tmp 73) _ rfl tabB _ ([] ++ frs l) ((fr d).take 0) rfl hown5 (Nat.zero_le _) A2 (0) c2 (((fr d).take 0).map byteV) rfl HTL.out (sl_bytes ((S2.out.take (0)).below hT5) HTL.out) (cs_map _ _ _) (bytes_oneCell _) Q3.out Q4.out hb45.size ?_; intro v6 w6 hown6 hb6; have hT6 := hT5.trans (hb6.mono hT.size); obtain ⟨A6, c6, rfl, g6, m6, s6⟩ := hown6.len (Nat.zero_le _) HTOT.out; clear hown6) | (go_at_call 24; have hsc := scan_any A6 ([] ++ frs l ++ (fr d).take 0) mk c6 HTOT.out HMK.out g6 m6 _ _ s6.slzW; rw [HSC.out, HTL.out, HNUM.out] at hsc; refine hsc.mono ?_; clear hsc; rintro e w7 ⟨v7, rfl, hown7, hb7⟩; obtain ⟨A7, c7, hv7, g7, m7, s7⟩ := own_rowB hown7 hb7.size; rw [HL.out] at hv7; subst hv7; clear hown7; have hT7 := below_then hT6 hb7)
              refine hK.out _ _ ?_ (fun hNext => ?_)
              · assumption
              clear hK K hHeld
              have hHeld := hNext
              clear hNext
              try simp only [Act.put, List.setIfInBounds_toArray, List.set_cons_zero, List.set_cons_succ]
              refine wpAnyH_ready (rs := [8]) (by kernel_rfl) (by simp) ?_
              refine reg_do1 rfl (by rfl) (fun K hK => ?_)
              go_simp
              first | (refine opw_app (.tmp 67) (.tmp 68) _ rfl tabB _ [] (frs l) rfl (Own.made w4 (Nat.le_refl _)) (Nat.zero_le _) Ao m co ((frs l).map byteV) rfl HM.out ((sl_bytes (SO2.out.below hT) HM.out).alloc _) (cs_map _ _ _) (bytes_oneCell _) Q1.out Q2.out (by simp) ?_; intro v5 w5 hown5 hb5; have hb45 := (below_new w4 (.cells #[] 5)).trans hb5; have hT5 := below_then hT hb45) | (refine opw_app (.tmp 69) (.tmp 73) _ rfl tabB _ ([] ++ frs l) ((fr d).take 0) rfl hown5 (Nat.zero_le _) A2 (0) c2 (((fr d).take 0).map byteV) rfl HTL.out (sl_bytes ((S2.out.take (0)).below hT5) HTL.out) (cs_map _ _ _) (bytes_oneCell _) Q3.out Q4.out hb45.size ?_; intro v6 w6 hown6 hb6; have hT6 := hT5.trans (hb6.mono hT.size); obtain ⟨A6, c6, rfl, g6, m6, s6⟩ := hown6.len (Nat.zero_le _) HTOT.out; clear hown6) | (go_at_call 24; have hsc := scan_any A6 ([] ++ frs l ++ (fr d).take 0) mk c6 HTOT.out HMK.out g6 m6 _ _ s6.slzW; rw [HSC.out, HTL.out, HNUM.out] at hsc; refine hsc.mono ?_; clear hsc; rintro e w7 ⟨v7, rfl, hown7, hb7⟩; obtain ⟨A7, c7, hv7, g7, m7, s7⟩ := own_rowB hown7 hb7.size; rw [HL.out] at hv7; subst hv7; clear hown7; have hT7 := below_then hT6 hb7)
              go_wp2_with fail
              refine hK.out _ _ ?_ (fun hNext => ?_)
              · assumption
              clear hK K hHeld
              have hHeld := hNext
              clear hNext
              try simp only [Act.put, List.setIfInBounds_toArray, List.set_cons_zero, List.set_cons_succ]
              refine reg_rd 9 (v := ?_) rfl (by kernel_rfl) (by kernel_rfl) (by kernel_rfl) (fun _ _ _ h => h) (by rfl) (by assumption) ?_ ?_
              rotate_left
              · intro w hSw; go_simp; with_reducible rfl
              try simp only [Act.put, List.setIfInBounds_toArray, List.set_cons_zero, List.set_cons_succ]
              refine reg_rd 10 (v := ?_) rfl (by kernel_rfl) (by kernel_rfl) (by kernel_rfl) (fun _ _ _ h => h) (by rfl) (by assumption) ?_ ?_
              rotate_left
              · intro w hSw; go_simp; with_reducible rfl
              try simp only [Act.put, List.setIfInBounds_toArray, List.set_cons_zero, List.set_cons_succ]
              refine reg_rd 11 (v := ?_) rfl (by kernel_rfl) (by kernel_rfl) (by kernel_rfl) (fun _ _ _ h => h) (by rfl) (by assumption) ?_ ?_
              rotate_left
              · intro w hSw; go_simp; with_reducible rfl
              try simp only [Act.put, List.setIfInBounds_toArray, List.set_cons_zero, List.set_cons_succ]
              refine reg_rd 12 (v := ?_) rfl (by kernel_rfl) (by kernel_rfl) (by kernel_rfl) (fun _ _ _ h => h) (by rfl) (by assumption) ?_ ?_
              rotate_left
              · intro w hSw; go_simp; with_reducible rfl
              try simp only [Act.put, List.setIfInBounds_toArray, List.set_cons_zero, List.set_cons_succ]
              refine reg_rd 13 (v := ?_) rfl (by kernel_rfl) (by kernel_rfl) (by kernel_rfl) (fun _ _ _ h => h) (by rfl) (by assumption) ?_ ?_
              rotate_left
              · intro w hSw; go_simp; with_reducible rfl
              try simp only [Act.put, List.setIfInBounds_toArray, List.set_cons_zero, List.set_cons_succ]
              refine wpAnyH_done (by kernel_rfl) ?_ _
            rotate_left 1
            refine reg_do1 rfl (by rfl) (fun K hK => ?_)
            focus
              go_simp
              refine hK.out _ _ ?_ (fun hNext => ?_)
              · assumption
              clear hK K hHeld
              have hHeld := hNext
              clear hNext
              try simp only [Act.put, List.setIfInBounds_toArray, List.set_cons_zero, List.set_cons_succ]
              refine reg_rd 6 (v := ?_) rfl (by kernel_rfl) (by kernel_rfl) (by kernel_rfl) (fun _ _ _ h => h) (by rfl) (by assumption) ?_ ?_
              rotate_left
              · intro w hSw; go_simp; with_reducible rfl
              try simp only [Act.put, List.setIfInBounds_toArray, List.set_cons_zero, List.set_cons_succ]
              refine wpAnyH_ready (rs := [2]) (by kernel_rfl) (by simp) ?_
              refine reg_do1 rfl (by rfl) (fun K hK => ?_)
              first | (refine opw_app (.tmp 67) (.tmp 68) _ rfl tabB _ [] (frs l) rfl (Own.made w4 (Nat.le_refl _)) (Nat.zero_le _) Ao m co ((frs l).map byteV) rfl HM.out ((sl_bytes (SO2.out.below hT) HM.out).alloc _) (cs_map _ _ _) (bytes_oneCell _) Q1.out Q2.out (by simp) ?_; intro v5 w5 hown5 hb5; have hb45 := (below_new w4 (.cells #[] 5)).trans hb5; have hT5 := below_then hT hb45) | (refine opw_app (.tmp 69) (.tmp 73) _ rfl tabB _ ([] ++ frs l) ((fr d).take 0) rfl hown5 (Nat.zero_le _) A2 (0) c2 (((fr d).take 0).map byteV) rfl HTL.out (sl_bytes ((S2.out.take (0)).below hT5) HTL.out) (cs_map _ _ _) (bytes_oneCell _) Q3.out Q4.out hb45.size ?_; intro v6 w6 hown6 hb6; have hT6 := hT5.trans (hb6.mono hT.size); obtain ⟨A6, c6, rfl, g6, m6, s6⟩ := hown6.len (Nat.zero_le _) HTOT.out; clear hown6) | (go_at_call 24; have hsc := scan_any A6 ([] ++ frs l ++ (fr d).take 0) mk c6 HTOT.out HMK.out g6 m6 _ _ s6.slzW; rw [HSC.out, HTL.out, HNUM.out] at hsc; refine hsc.mono ?_; clear hsc; rintro e w7 ⟨v7, rfl, hown7, hb7⟩; obtain ⟨A7, c7, hv7, g7, m7, s7⟩ := own_rowB hown7 hb7.size; rw [HL.out] at hv7; subst hv7; clear hown7; have hT7 := below_then hT6 hb7)
              refine hK.out _ _ ?_ (fun hNext => ?_)
              · assumption
              clear hK K hHeld
              have hHeld := hNext
              clear hNext
              try simp only [Act.put, List.setIfInBounds_toArray, List.set_cons_zero, List.set_cons_succ]
              refine wpAnyH_ready (rs := [7]) (by kernel_rfl) (by simp) ?_
              refine reg_do1 rfl (by rfl) (fun K hK => ?_)
              first | (refine opw_app (.tmp 67) (.tmp 68) _ rfl tabB _ [] (frs l) rfl (Own.made w4 (Nat.le_refl _)) (Nat.zero_le _) Ao m co ((frs l).map byteV) rfl HM.out ((sl_bytes (SO2.out.below hT) HM.out).alloc _) (cs_map _ _ _) (bytes_oneCell _) Q1.out Q2.out (by simp) ?_; intro v5 w5 hown5 hb5; have hb45 := (below_new w4 (.cells #[] 5)).trans hb5; have hT5 := below_then hT hb45) | (refine opw_app (.tmp 69) (.tmp 73) _ rfl tabB _ ([] ++ frs l) ((fr d).take 0) rfl hown5 (Nat.zero_le _) A2 (0) c2 (((fr d).take 0).map byteV) rfl HTL.out (sl_bytes ((S2.out.take (0)).below hT5) HTL.out) (cs_map _ _ _) (bytes_oneCell _) Q3.out Q4.out hb45.size ?_; intro v6 w6 hown6 hb6; have hT6 := hT5.trans (hb6.mono hT.size); obtain ⟨A6, c6, rfl, g6, m6, s6⟩ := hown6.len (Nat.zero_le _) HTOT.out; clear hown6) | (go_at_call 24; have hsc := scan_any A6 ([] ++ frs l ++ (fr d).take 0) mk c6 HTOT.out HMK.out g6 m6 _ _ s6.slzW; rw [HSC.out, HTL.out, HNUM.out] at hsc; refine hsc.mono ?_; clear hsc; rintro e w7 ⟨v7, rfl, hown7, hb7⟩; obtain ⟨A7, c7, hv7, g7, m7, s7⟩ := own_rowB hown7 hb7.size; rw [HL.out] at hv7; subst hv7; clear hown7; have hT7 := below_then hT6 hb7)
              refine hK.out _ _ ?_ (fun hNext => ?_)
              · assumption
              clear hK K hHeld
              have hHeld := hNext
              clear hNext
              try simp only [Act.put, List.setIfInBounds_toArray, List.set_cons_zero, List.set_cons_succ]
              refine wpAnyH_ready (rs := [8]) (by kernel_rfl) (by simp) ?_
              refine reg_do1 rfl (by rfl) (fun K hK => ?_)
              go_simp
              first | (refine opw_app (.tmp 67) (.tmp 68) _ rfl tabB _ [] (frs l) rfl (Own.made w4 (Nat.le_refl _)) (Nat.zero_le _) Ao m co ((frs l).map byteV) rfl HM.out ((sl_bytes (SO2.out.below hT) HM.out).alloc _) (cs_map _ _ _) (bytes_oneCell _) Q1.out Q2.out (by simp) ?_; intro v5 w5 hown5 hb5; have hb45 := (below_new w4 (.cells #[] 5)).trans hb5; have hT5 := below_then hT hb45) | (refine opw_app (.tmp 69) (.tmp 73) _ rfl tabB _ ([] ++ frs l) ((fr d).take 0) rfl hown5 (Nat.zero_le _) A2 (0) c2 (((fr d).take 0).map byteV) rfl HTL.out (sl_bytes ((S2.out.take (0)).below hT5) HTL.out) (cs_map _ _ _) (bytes_oneCell _) Q3.out Q4.out hb45.size ?_; intro v6 w6 hown6 hb6; have hT6 := hT5.trans (hb6.mono hT.size); obtain ⟨A6, c6, rfl, g6, m6, s6⟩ := hown6.len (Nat.zero_le _) HTOT.out; clear hown6) | (go_at_call 24; have hsc := scan_any A6 ([] ++ frs l ++ (fr d).take 0) mk c6 HTOT.out HMK.out g6 m6 _ _ s6.slzW; rw [HSC.out, HTL.out, HNUM.out] at hsc; refine hsc.mono ?_; clear hsc; rintro e w7 ⟨v7, rfl, hown7, hb7⟩; obtain ⟨A7, c7, hv7, g7, m7, s7⟩ := own_rowB hown7 hb7.size; rw [HL.out] at hv7; subst hv7; clear hown7; have hT7 := below_then hT6 hb7)
              go_wp2_with fail
              refine hK.out _ _ ?_ (fun hNext => ?_)
              · assumption
              clear hK K hHeld
              have hHeld := hNext
              clear hNext
              try simp only [Act.put, List.setIfInBounds_toArray, List.set_cons_zero, List.set_cons_succ]
              refine reg_rd 9 (v := ?_) rfl (by kernel_rfl) (by kernel_rfl) (by kernel_rfl) (fun _ _ _ h => h) (by rfl) (by assumption) ?_ ?_
              rotate_left
              · intro w hSw; go_simp; with_reducible rfl
              try simp only [Act.put, List.setIfInBounds_toArray, List.set_cons_zero, List.set_cons_succ]
              refine reg_rd 10 (v := ?_) rfl (by kernel_rfl) (by kernel_rfl) (by kernel_rfl) (fun _ _ _ h => h) (by rfl) (by assumption) ?_ ?_
              rotate_left
              · intro w hSw; go_simp; with_reducible rfl
              try simp only [Act.put, List.setIfInBounds_toArray, List.set_cons_zero, List.set_cons_succ]
              refine reg_rd 11 (v := ?_) rfl (by kernel_rfl) (by kernel_rfl) (by kernel_rfl) (fun _ _ _ h => h) (by rfl) (by assumption) ?_ ?_
              rotate_left
              · intro w hSw; go_simp; with_reducible rfl
              try simp only [Act.put, List.setIfInBounds_toArray, List.set_cons_zero, List.set_cons_succ]
              refine reg_rd 12 (v := ?_) rfl (by kernel_rfl) (by kernel_rfl) (by kernel_rfl) (fun _ _ _ h => h) (by rfl) (by assumption) ?_ ?_
              rotate_left
              · intro w hSw; go_simp; with_reducible rfl
              try simp only [Act.put, List.setIfInBounds_toArray, List.set_cons_zero, List.set_cons_succ]
              refine reg_rd 13 (v := ?_) rfl (by kernel_rfl) (by kernel_rfl) (by kernel_rfl) (fun _ _ _ h => h) (by rfl) (by assumption) ?_ ?_
              rotate_left
              · intro w hSw; go_simp; with_reducible rfl
              try simp only [Act.put, List.setIfInBounds_toArray, List.set_cons_zero, List.set_cons_succ]
              refine wpAnyH_done (by kernel_rfl) ?_ _
            rotate_left 1
          rotate_left 2
          refine reg_do1 rfl (by rfl) (fun K hK => ?_)
          focus
            go_simp
            refine hK.out _ _ ?_ (fun hNext => ?_)
            · assumption
            clear hK K hHeld
            have hHeld := hNext
            clear hNext
            try simp only [Act.put, List.setIfInBounds_toArray, List.set_cons_zero, List.set_cons_succ]
            refine reg_rd 6 (v := ?_) rfl (by kernel_rfl) (by kernel_rfl) (by kernel_rfl) (fun _ _ _ h => h) (by rfl) (by assumption) ?_ ?_
            rotate_left
            · intro w hSw; go_simp; with_reducible rfl
            try simp only [Act.put, List.setIfInBounds_toArray, List.set_cons_zero, List.set_cons_succ]
            refine wpAnyH_ready (rs := [0]) (by kernel_rfl) (by simp) ?_
            refine reg_do1 rfl (by rfl) (fun K hK => ?_)
            go_simp
            refine hK.out _ _ ?_ (fun hNext => ?_)
            · (first | assumption | exact below_alloc (by assumption) _)
            clear hK K hHeld
            have hHeld := hNext
            clear hNext
            try simp only [Act.put, List.setIfInBounds_toArray, List.set_cons_zero, List.set_cons_succ]
            refine wpAnyH_ready (rs := [2]) (by kernel_rfl) (by simp) ?_
            refine reg_do1 rfl (by rfl) (fun K hK => ?_)
            first | (refine opw_app (.tmp 67) (.tmp 68) _ rfl tabB _ [] (frs l) rfl (Own.made w4 (Nat.le_refl _)) (Nat.zero_le _) Ao m co ((frs l).map byteV) rfl HM.out ((sl_bytes (SO2.out.below hT) HM.out).alloc _) (cs_map _ _ _) (bytes_oneCell _) Q1.out Q2.out (by simp) ?_; intro v5 w5 hown5 hb5; have hb45 := (below_new w4 (.cells #[] 5)).trans hb5; have hT5 := below_then hT hb45) | (refine opw_app (.tmp 69) (.tmp 73) _ rfl tabB _ ([] ++ frs l) ((fr d).take 0) rfl hown5 (Nat.zero_le _) A2 (0) c2 (((fr d).take 0).map byteV) rfl HTL.out (sl_bytes ((S2.out.take (0)).below hT5) HTL.out) (cs_map _ _ _) (bytes_oneCell _) Q3.out Q4.out hb45.size ?_; intro v6 w6 hown6 hb6; have hT6 := hT5.trans (hb6.mono hT.size); obtain ⟨A6, c6, rfl, g6, m6, s6⟩ := hown6.len (Nat.zero_le _) HTOT.out; clear hown6) | (go_at_call 24; have hsc := scan_any A6 ([] ++ frs l ++ (fr d).take 0) mk c6 HTOT.out HMK.out g6 m6 _ _ s6.slzW; rw [HSC.out, HTL.out, HNUM.out] at hsc; refine hsc.mono ?_; clear hsc; rintro e w7 ⟨v7, rfl, hown7, hb7⟩; obtain ⟨A7, c7, hv7, g7, m7, s7⟩ := own_rowB hown7 hb7.size; rw [HL.out] at hv7; subst hv7; clear hown7; have hT7 := below_then hT6 hb7)
            refine hK.out _ _ ?_ (fun hNext => ?_)
            · assumption
            clear hK K hHeld
            have hHeld := hNext
            clear hNext
            try simp only [Act.put, List.setIfInBounds_toArray, List.set_cons_zero, List.set_cons_succ]
            refine wpAnyH_ready (rs := [7]) (by kernel_rfl) (by simp) ?_
            refine reg_do1 rfl (by rfl) (fun K hK => ?_)
            first | (refine opw_app (.tmp 67) (.tmp 68) _ rfl tabB _ [] (frs l) rfl (Own.made w4 (Nat.le_refl _)) (Nat.zero_le _) Ao m co ((frs l).map byteV) rfl HM.out ((sl_bytes (SO2.out.below hT) HM.out).alloc _) (cs_map _ _ _) (bytes_oneCell _) Q1.out Q2.out (by simp) ?_; intro v5 w5 hown5 hb5; have hb45 := (below_new w4 (.cells #[] 5)).trans hb5; have hT5 := below_then hT hb45) | (refine opw_app (.tmp 69) (.tmp 73) _ rfl tabB _ ([] ++ frs l) ((fr d).take 0) rfl hown5 (Nat.zero_le _) A2 (0) c2 (((fr d).take 0).map byteV) rfl HTL.out (sl_bytes ((S2.out.take (0)).below hT5) HTL.out) (cs_map _ _ _) (bytes_oneCell _) Q3.out Q4.out hb45.size ?_; intro v6 w6 hown6 hb6; have hT6 := hT5.trans (hb6.mono hT.size); obtain ⟨A6, c6, rfl, g6, m6, s6⟩ := hown6.len (Nat.zero_le _) HTOT.out; clear hown6) | (go_at_call 24; have hsc := scan_any A6 ([] ++ frs l ++ (fr d).take 0) mk c6 HTOT.out HMK.out g6 m6 _ _ s6.slzW; rw [HSC.out, HTL.out, HNUM.out] at hsc; refine hsc.mono ?_; clear hsc; rintro e w7 ⟨v7, rfl, hown7, hb7⟩; obtain ⟨A7, c7, hv7, g7, m7, s7⟩ := own_rowB hown7 hb7.size; rw [HL.out] at hv7; subst hv7; clear hown7; have hT7 := below_then hT6 hb7)
            refine hK.out _ _ ?_ (fun hNext => ?_)
            · assumption
            clear hK K hHeld
            have hHeld := hNext
            clear hNext
            try simp only [Act.put, List.setIfInBounds_toArray, List.set_cons_zero, List.set_cons_succ]
            refine wpAnyH_ready (rs := [8]) (by kernel_rfl) (by simp) ?_
            refine reg_do1 rfl (by rfl) (fun K hK => ?_)
            go_simp
            first | (refine opw_app (.tmp 67) (.tmp 68) _ rfl tabB _ [] (frs l) rfl (Own.made w4 (Nat.le_refl _)) (Nat.zero_le _) Ao m co ((frs l).map byteV) rfl HM.out ((sl_bytes (SO2.out.below hT) HM.out).alloc _) (cs_map _ _ _) (bytes_oneCell _) Q1.out Q2.out (by simp) ?_; intro v5 w5 hown5 hb5; have hb45 := (below_new w4 (.cells #[] 5)).trans hb5; have hT5 := below_then hT hb45) | (refine opw_app (.tmp 69) (.tmp 73) _ rfl tabB _ ([] ++ frs l) ((fr d).take 0) rfl hown5 (Nat.zero_le _) A2 (0) c2 (((fr d).take 0).map byteV) rfl HTL.out (sl_bytes ((S2.out.take (0)).below hT5) HTL.out) (cs_map _ _ _) (bytes_oneCell _) Q3.out Q4.out hb45.size ?_; intro v6 w6 hown6 hb6; have hT6 := hT5.trans (hb6.mono hT.size); obtain ⟨A6, c6, rfl, g6, m6, s6⟩ := hown6.len (Nat.zero_le _) HTOT.out; clear hown6) | (go_at_call 24; have hsc := scan_any A6 ([] ++ frs l ++ (fr d).take 0) mk c6 HTOT.out HMK.out g6 m6 _ _ s6.slzW; rw [HSC.out, HTL.out, HNUM.out] at hsc; refine hsc.mono ?_; clear hsc; rintro e w7 ⟨v7, rfl, hown7, hb7⟩; obtain ⟨A7, c7, hv7, g7, m7, s7⟩ := own_rowB hown7 hb7.size; rw [HL.out] at hv7; subst hv7; clear hown7; have hT7 := below_then hT6 hb7)
            go_wp2_with fail
            refine hK.out _ _ ?_ (fun hNext => ?_)
            · assumption
            clear hK K hHeld
            have hHeld := hNext
            clear hNext
            try simp only [Act.put, List.setIfInBounds_toArray, List.set_cons_zero, List.set_cons_succ]
            refine reg_rd 9 (v := ?_) rfl (by kernel_rfl) (by kernel_rfl) (by kernel_rfl) (fun _ _ _ h => h) (by rfl) (by assumption) ?_ ?_
            rotate_left
            · intro w hSw; go_simp; with_reducible rfl
            try simp only [Act.put, List.setIfInBounds_toArray, List.set_cons_zero, List.set_cons_succ]
            refine reg_rd 10 (v := ?_) rfl (by kernel_rfl) (by kernel_rfl) (by kernel_rfl) (fun _ _ _ h => h) (by rfl) (by assumption) ?_ ?_
            rotate_left
            · intro w hSw; go_simp; with_reducible rfl
            try simp only [Act.put, List.setIfInBounds_toArray, List.set_cons_zero, List.set_cons_succ]
            refine reg_rd 11 (v := ?_) rfl (by kernel_rfl) (by kernel_rfl) (by kernel_rfl) (fun _ _ _ h => h) (by rfl) (by assumption) ?_ ?_
            rotate_left
            · intro w hSw; go_simp; with_reducible rfl
            try simp only [Act.put, List.setIfInBounds_toArray, List.set_cons_zero, List.set_cons_succ]
            refine reg_rd 12 (v := ?_) rfl (by kernel_rfl) (by kernel_rfl) (by kernel_rfl) (fun _ _ _ h => h) (by rfl) (by assumption) ?_ ?_
            rotate_left
            · intro w hSw; go_simp; with_reducible rfl
            try simp only [Act.put, List.setIfInBounds_toArray, List.set_cons_zero, List.set_cons_succ]
            refine reg_rd 13 (v := ?_) rfl (by kernel_rfl) (by kernel_rfl) (by kernel_rfl) (fun _ _ _ h => h) (by rfl) (by assumption) ?_ ?_
            rotate_left
            · intro w hSw; go_simp; with_reducible rfl
            try simp only [Act.put, List.setIfInBounds_toArray, List.set_cons_zero, List.set_cons_succ]
            refine wpAnyH_done (by kernel_rfl) ?_ _
          rotate_left 1
          all_goals
            have HT7 := hid (below_then HB2.out hT7); have S7 := hid s7; have HS7 := hid hb7.size
            clear hT hT5 hT6 hT7 hb45 hb5 hb6 hb7 s6 s7 hown5
            go_wp2_with fail
            refine (alive15 _).mono ?_
            rintro e w8 ⟨rfl, hb8⟩
            have HT8 := hid (below_then HT7.out hb8)
            go_wp2_with fail
            refine (rows_any A7 A0 l l k k c7 c0 HL.out HL.out G0n.out w8 (Nat.le_refl _) HT8.out.size (S7.out.call hb8) ((HS.out.below HT8.out).imp fun cs a h => rowZ_of HT8.out.size h)).mono ?_
            rw [decide_eq_true rfl]
            rintro e w9 ⟨rfl, hb9⟩
            go_wp2_with fail
            go_ret
            exact ⟨rfl, below_then HT8.out hb9⟩
        · skip
          have hmn : min (max cut 0) (q1 : Int) = q1 := by omega
          have hmx : max (q1 : Int) 0 = q1 := by omega
          have htl : ((fr d).take q1).length = q1 := by rw [List.length_take, HQ.out]; omega
          have hKc : ((q1 : Nat) : Int) ≤ c2 := by omega
          have hK4 : q1 ≤ 4000 := by omega
          have hK0 : (0 : Int) ≤ ((q1 : Nat) : Int) := by omega
          obtain ⟨mk, hmk⟩ : ∃ mk, m + q1 = mk := ⟨_, rfl⟩
          have htot : ([] ++ frs l ++ (fr d).take q1).length = mk := by rw [List.nil_append, List.length_append, HM.out, htl, hmk]
          have hscan : scanS ([] ++ frs l ++ (fr d).take q1) = (l, (fr d).take q1) := by
            obtain ⟨z, hz⟩ := takeF_cut d (by rw [HD.out]; omega) q1 (by rw [HQ.out]; omega)
            rw [List.nil_append, scanS_frs l (fun y hy => by have := HA.out y hy; omega), scanS_err hz, List.append_nil]
          have hq1 : (([] : Bytes).length + (frs l).length) * 1 ≤ 140737488355328 := by rw [HM.out]; simp; omega
          have hq2 : ([] : Bytes).length + (frs l).length ≤ maxLen := by rw [HM.out]; simp [maxLen]; omega
          have hq3 : (([] ++ frs l).length + ((fr d).take q1).length) * 1 ≤ 140737488355328 := by rw [List.nil_append, HM.out, htl]; omega
          have hq4 : ([] ++ frs l).length + ((fr d).take q1).length ≤ maxLen := by rw [List.nil_append, HM.out, htl]; unfold maxLen; omega
          have HTL := hid htl; have HTOT := hid htot; have HSC := hid hscan; have Q1 := hid hq1; have Q2 := hid hq2; have Q3 := hid hq3; have Q4 := hid hq4
          have HNUM := hid (show (mk : Int) - ((q1 : Nat) : Int) = m by omega)
          have HMK := hid (show mk ≤ 1000000 by omega)
          clear htl htot hscan hq1 hq2 hq3 hq4 hmk
          go_wp2_with fail
          refine reg_start (by kernel_rfl) fun w4 hHeld hz4 => ?_
          clear hz4
          have hT := hHeld
          refine reg_rd 1 (v := ?_) rfl (by kernel_rfl) (by kernel_rfl) (by kernel_rfl) (fun _ _ _ h => h) (by rfl) (by assumption) ?_ ?_
          rotate_left
          · intro w hSw; go_simp; with_reducible rfl
          try simp only [Act.put, List.setIfInBounds_toArray, List.set_cons_zero, List.set_cons_succ]
          refine reg_rd 3 (v := ?_) rfl (by kernel_rfl) (by kernel_rfl) (by kernel_rfl) (fun _ _ _ h => h) (by rfl) (by assumption) ?_ ?_
          rotate_left
          · intro w hSw; go_simp; with_reducible rfl
          try simp only [Act.put, List.setIfInBounds_toArray, List.set_cons_zero, List.set_cons_succ]
          refine reg_rd 4 (v := ?_) rfl (by kernel_rfl) (by kernel_rfl) (by kernel_rfl) (fun _ _ _ h => h) (by rfl) (by assumption) ?_ ?_
          rotate_left
          · intro w hSw; go_simp; with_reducible rfl
          try simp only [Act.put, List.setIfInBounds_toArray, List.set_cons_zero, List.set_cons_succ]
          refine wpAnyH_ready (rs := [0, 5]) (by kernel_rfl) (by simp) ?_
          refine reg_do rfl (by rfl) (fun K hK => ?_) ?_
          focus
            go_simp
            refine hK.out _ _ ?_ (fun hNext => ?_)
            · (first | assumption | exact below_alloc (by assumption) _)
            clear hK K hHeld
            have hHeld := hNext
            clear hNext
            try simp only [Act.put, List.setIfInBounds_toArray, List.set_cons_zero, List.set_cons_succ]
            refine wpAnyH_ready (rs := [2, 5]) (by kernel_rfl) (by simp) ?_
            refine reg_do rfl (by rfl) (fun K hK => ?_) ?_
            focus
              first | (refine opw_app (.tmp 67) (.tmp 68) _ rfl tabB _ [] (frs l) rfl (Own.made w4 (Nat.le_refl _)) (Nat.zero_le _) Ao m co ((frs l).map byteV) rfl HM.out ((sl_bytes (SO2.out.below hT) HM.out).alloc _) (cs_map _ _ _) (bytes_oneCell _) Q1.out Q2.out (by simp) ?_; intro v5 w5 hown5 hb5; have hb45 := (below_new w4 (.cells #[] 5)).trans hb5; have hT5 := below_then hT hb45) | (refine opw_app (.tmp 69) (.tmp 73) _ rfl tabB _ ([] ++ frs l) ((fr d).take q1) rfl hown5 (Nat.zero_le _) A2 (q1) c2 (((fr d).take q1).map byteV) rfl HTL.out (sl_bytes ((S2.out.take (q1)).below hT5) HTL.out) (cs_map _ _ _) (bytes_oneCell _) Q3.out Q4.out hb45.size ?_; intro v6 w6 hown6 hb6; have hT6 := hT5.trans (hb6.mono hT.size); obtain ⟨A6, c6, rfl, g6, m6, s6⟩ := hown6.len (Nat.zero_le _) HTOT.out; clear hown6) | (go_at_call 24; have hsc := scan_any A6 ([] ++ frs l ++ (fr d).take q1) mk c6 HTOT.out HMK.out g6 m6 _ _ s6.slzW; rw [HSC.out, HTL.out, HNUM.out] at hsc; refine hsc.mono ?_; clear hsc; rintro e w7 ⟨v7, rfl, hown7, hb7⟩; obtain ⟨A7, c7, hv7, g7, m7, s7⟩ := own_rowB hown7 hb7.size; rw [HL.out] at hv7; subst hv7; clear hown7; have hT7 := below_then hT6 hb7)
              refine hK.out _ _ ?_ (fun hNext => ?_)
              · assumption
              clear hK K hHeld
              have hHeld := hNext
              clear hNext
              try simp only [Act.put, List.setIfInBounds_toArray, List.set_cons_zero, List.set_cons_succ]
              refine wpAnyH_ready (rs := [5]) (by kernel_rfl) (by simp) ?_
              refine reg_do1 rfl (by rfl) (fun K hK => ?_)
              go_simp
              refine hK.out _ _ ?_ (fun hNext => ?_)
              · assumption
              clear hK K hHeld
              have hHeld := hNext
              clear hNext
              try simp only [Act.put, List.setIfInBounds_toArray, List.set_cons_zero, List.set_cons_succ]
              refine reg_rd 6 (v := ?_) rfl (by kernel_rfl) (by kernel_rfl) (by kernel_rfl) (fun _ _ _ h => h) (by rfl) (by assumption) ?_ ?_
              rotate_left
              · intro w hSw; go_simp; with_reducible rfl
              try simp only [Act.put, List.setIfInBounds_toArray, List.set_cons_zero, List.set_cons_succ]
              refine wpAnyH_ready (rs := [7]) (by kernel_rfl) (by simp) ?_
              refine reg_do1 rfl (by rfl) (fun K hK => ?_)
              first | (refine opw_app (.tmp 67) (.tmp 68) _ rfl tabB _ [] (frs l) rfl (Own.made w4 (Nat.le_refl _)) (Nat.zero_le _) Ao m co ((frs l).map byteV) rfl HM.out ((sl_bytes (SO2.out.below hT) HM.out).alloc _) (cs_map _ _ _) (bytes_oneCell _) Q1.out Q2.out (by simp) ?_; intro v5 w5 hown5 hb5; have hb45 := (below_new w4 (.cells #[] 5)).trans hb5; have hT5 := below_then hT hb45) | (refine opw_app (.tmp 69) (.tmp 73) _ rfl tabB _ ([] ++ frs l) ((fr d).take q1) rfl hown5 (Nat.zero_le _) A2 (q1) c2 (((fr d).take q1).map byteV) rfl HTL.out (sl_bytes ((S2.out.take (q1)).below hT5) HTL.out) (cs_map _ _ _) (bytes_oneCell _) Q3.out Q4.out hb45.size ?_; intro v6 w6 hown6 hb6; have hT6 := hT5.trans (hb6.mono hT.size); obtain ⟨A6, c6, rfl, g6, m6, s6⟩ := hown6.len (Nat.zero_le _) HTOT.out; clear hown6) | (go_at_call 24; have hsc := scan_any A6 ([] ++ frs l ++ (fr d).take q1) mk c6 HTOT.out HMK.out g6 m6 _ _ s6.slzW; rw [HSC.out, HTL.out, HNUM.out] at hsc; refine hsc.mono ?_; clear hsc; rintro e w7 ⟨v7, rfl, hown7, hb7⟩; obtain ⟨A7, c7, hv7, g7, m7, s7⟩ := own_rowB hown7 hb7.size; rw [HL.out] at hv7; subst hv7; clear hown7; have hT7 := below_then hT6 hb7)
              refine hK.out _ _ ?_ (fun hNext => ?_)
              · assumption
              clear hK K hHeld
              have hHeld := hNext
              clear hNext
              try simp only [Act.put, List.setIfInBounds_toArray, List.set_cons_zero, List.set_cons_succ]
              refine wpAnyH_ready (rs := [8]) (by kernel_rfl) (by simp) ?_
              refine reg_do1 rfl (by rfl) (fun K hK => ?_)
              go_simp
              first | (refine opw_app (.tmp 67) (.tmp 68) _ rfl tabB _ [] (frs l) rfl (Own.made w4 (Nat.le_refl _)) (Nat.zero_le _) Ao m co ((frs l).map byteV) rfl HM.out ((sl_bytes (SO2.out.below hT) HM.out).alloc _) (cs_map _ _ _) (bytes_oneCell _) Q1.out Q2.out (by simp) ?_; intro v5 w5 hown5 hb5; have hb45 := (below_new w4 (.cells #[] 5)).trans hb5; have hT5 := below_then hT hb45) | (refine opw_app (.tmp 69) (.tmp 73) _ rfl tabB _ ([] ++ frs l) ((fr d).take q1) rfl hown5 (Nat.zero_le _) A2 (q1) c2 (((fr d).take q1).map byteV) rfl HTL.out (sl_bytes ((S2.out.take (q1)).below hT5) HTL.out) (cs_map _ _ _) (bytes_oneCell _) Q3.out Q4.out hb45.size ?_; intro v6 w6 hown6 hb6; have hT6 := hT5.trans (hb6.mono hT.size); obtain ⟨A6, c6, rfl, g6, m6, s6⟩ := hown6.len (Nat.zero_le _) HTOT.out; clear hown6) | (go_at_call 24; have hsc := scan_any A6 ([] ++ frs l ++ (fr d).take q1) mk c6 HTOT.out HMK.out g6 m6 _ _ s6.slzW; rw [HSC.out, HTL.out, HNUM.out] at hsc; refine hsc.mono ?_; clear hsc; rintro e w7 ⟨v7, rfl, hown7, hb7⟩; obtain ⟨A7, c7, hv7, g7, m7, s7⟩ := own_rowB hown7 hb7.size; rw [HL.out] at hv7; subst hv7; clear hown7; have hT7 := below_then hT6 hb7)
              go_wp2_with fail
              refine hK.out _ _ ?_ (fun hNext => ?_)
              · assumption
              clear hK K hHeld
              have hHeld := hNext
              clear hNext
              try simp only [Act.put, List.setIfInBounds_toArray, List.set_cons_zero, List.set_cons_succ]
              refine reg_rd 9 (v := ?_) rfl (by kernel_rfl) (by kernel_rfl) (by kernel_rfl) (fun _ _ _ h => h) (by rfl) (by assumption) ?_ ?_
              rotate_left
              · intro w hSw; go_simp; with_reducible rfl
              try simp only [Act.put, List.setIfInBounds_toArray, List.set_cons_zero, List.set_cons_succ]
              refine reg_rd 10 (v := ?_) rfl (by kernel_rfl) (by kernel_rfl) (by kernel_rfl) (fun _ _ _ h => h) (by rfl) (by assumption) ?_ ?_
              rotate_left
              · intro w hSw; go_simp; with_reducible rfl
              try simp only [Act.put, List.setIfInBounds_toArray, List.set_cons_zero, List.set_cons_succ]
              refine reg_rd 11 (v := ?_) rfl (by kernel_rfl) (by kernel_rfl) (by kernel_rfl) (fun _ _ _ h => h) (by rfl) (by assumption) ?_ ?_
              rotate_left
              · intro w hSw; go_simp; with_reducible rfl
              try simp only [Act.put, List.setIfInBounds_toArray, List.set_cons_zero, List.set_cons_succ]
              refine reg_rd 12 (v := ?_) rfl (by kernel_rfl) (by kernel_rfl) (by kernel_rfl) (fun _ _ _ h => h) (by rfl) (by assumption) ?_ ?_
              rotate_left
              · intro w hSw; go_simp; with_reducible rfl
              try simp only [Act.put, List.setIfInBounds_toArray, List.set_cons_zero, List.set_cons_succ]
              refine reg_rd 13 (v := ?_) rfl (by kernel_rfl) (by kernel_rfl) (by kernel_rfl) (fun _ _ _ h => h) (by rfl) (by assumption) ?_ ?_
              rotate_left
              · intro w hSw; go_simp; with_reducible rfl
              try simp only [Act.put, List.setIfInBounds_toArray, List.set_cons_zero, List.set_cons_succ]
              refine wpAnyH_done (by kernel_rfl) ?_ _
            rotate_left 1
            refine reg_do1 rfl (by rfl) (fun K hK => ?_)
            focus
              go_simp
              refine hK.out _ _ ?_ (fun hNext => ?_)
              · assumption
              clear hK K hHeld
              have hHeld := hNext
              clear hNext
              try simp only [Act.put, List.setIfInBounds_toArray, List.set_cons_zero, List.set_cons_succ]
              refine reg_rd 6 (v := ?_) rfl (by kernel_rfl) (by kernel_rfl) (by kernel_rfl) (fun _ _ _ h => h) (by rfl) (by assumption) ?_ ?_
              rotate_left
              · intro w hSw; go_simp; with_reducible rfl
              try simp only [Act.put, List.setIfInBounds_toArray, List.set_cons_zero, List.set_cons_succ]
              refine wpAnyH_ready (rs := [2]) (by kernel_rfl) (by simp) ?_
              refine reg_do1 rfl (by rfl) (fun K hK => ?_)
              first | (refine opw_app (.tmp 67) (.tmp 68) _ rfl tabB _ [] (frs l) rfl (Own.made w4 (Nat.le_refl _)) (Nat.zero_le _) Ao m co ((frs l).map byteV) rfl HM.out ((sl_bytes (SO2.out.below hT) HM.out).alloc _) (cs_map _ _ _) (bytes_oneCell _) Q1.out Q2.out (by simp) ?_; intro v5 w5 hown5 hb5; have hb45 := (below_new w4 (.cells #[] 5)).trans hb5; have hT5 := below_then hT hb45) | (refine opw_app (.tmp 69) (.tmp 73) _ rfl tabB _ ([] ++ frs l) ((fr d).take q1) rfl hown5 (Nat.zero_le _) A2 (q1) c2 (((fr d).take q1).map byteV) rfl HTL.out (sl_bytes ((S2.out.take (q1)).below hT5) HTL.out) (cs_map _ _ _) (bytes_oneCell _) Q3.out Q4.out hb45.size ?_; intro v6 w6 hown6 hb6; have hT6 := hT5.trans (hb6.mono hT.size); obtain ⟨A6, c6, rfl, g6, m6, s6⟩ := hown6.len (Nat.zero_le _) HTOT.out; clear hown6) | (go_at_call 24; have hsc := scan_any A6 ([] ++ frs l ++ (fr d).take q1) mk c6 HTOT.out HMK.out g6 m6 _ _ s6.slzW; rw [HSC.out, HTL.out, HNUM.out] at hsc; refine hsc.mono ?_; clear hsc; rintro e w7 ⟨v7, rfl, hown7, hb7⟩; obtain ⟨A7, c7, hv7, g7, m7, s7⟩ := own_rowB hown7 hb7.size; rw [HL.out] at hv7; subst hv7; clear hown7; have hT7 := below_then hT6 hb7)
              refine hK.out _ _ ?_ (fun hNext => ?_)
              · assumption
              clear hK K hHeld
              have hHeld := hNext
              clear hNext
              try simp only [Act.put, List.setIfInBounds_toArray, List.set_cons_zero, List.set_cons_succ]
              refine wpAnyH_ready (rs := [7]) (by kernel_rfl) (by simp) ?_
              refine reg_do1 rfl (by rfl) (fun K hK => ?_)
              first | (refine opw_app (.tmp 67) (.tmp 68) _ rfl tabB _ [] (frs l) rfl (Own.made w4 (Nat.le_refl _)) (Nat.zero_le _) Ao m co ((frs l).map byteV) rfl HM.out ((sl_bytes (SO2.out.below hT) HM.out).alloc _) (cs_map _ _ _) (bytes_oneCell _) Q1.out Q2.out (by simp) ?_; intro v5 w5 hown5 hb5; have hb45 := (below_new w4 (.cells #[] 5)).trans hb5; have hT5 := below_then hT hb45) | (refine opw_app (.tmp 69) (.tmp 73) _ rfl tabB _ ([] ++ frs l) ((fr d).take q1) rfl hown5 (Nat.zero_le _) A2 (q1) c2 (((fr d).take q1).map byteV) rfl HTL.out (sl_bytes ((S2.out.take (q1)).below hT5) HTL.out) (cs_map _ _ _) (bytes_oneCell _) Q3.out Q4.out hb45.size ?_; intro v6 w6 hown6 hb6; have hT6 := hT5.trans (hb6.mono hT.size); obtain ⟨A6, c6, rfl, g6, m6, s6⟩ := hown6.len (Nat.zero_le _) HTOT.out; clear hown6) | (go_at_call 24; have hsc := scan_any A6 ([] ++ frs l ++ (fr d).take q1) mk c6 HTOT.out HMK.out g6 m6 _ _ s6.slzW; rw [HSC.out, HTL.out, HNUM.out] at hsc; refine hsc.mono ?_; clear hsc; rintro e w7 ⟨v7, rfl, hown7, hb7⟩; obtain ⟨A7, c7, hv7, g7, m7, s7⟩ := own_rowB hown7 hb7.size; rw [HL.out] at hv7; subst hv7; clear hown7; have hT7 := below_then hT6 hb7)
              refine hK.out _ _ ?_ (fun hNext => ?_)
              · assumption
              clear hK K hHeld
              have hHeld := hNext
              clear hNext
              try simp only [Act.put, List.setIfInBounds_toArray, List.set_cons_zero, List.set_cons_succ]
              refine wpAnyH_ready (rs := [8]) (by kernel_rfl) (by simp) ?_
              refine reg_do1 rfl (by rfl) (fun K hK => ?_)
              go_simp
              first | (refine opw_app (.tmp 67) (.tmp 68) _ rfl tabB _ [] (frs l) rfl (Own.made w4 (Nat.le_refl _)) (Nat.zero_le _) Ao m co ((frs l).map byteV) rfl HM.out ((sl_bytes (SO2.out.below hT) HM.out).alloc _) (cs_map _ _ _) (bytes_oneCell _) Q1.out Q2.out (by simp) ?_; intro v5 w5 hown5 hb5; have hb45 := (below_new w4 (.cells #[] 5)).trans hb5; have hT5 := below_then hT hb45) | (refine opw_app (.tmp 69) (.tmp 73) _ rfl tabB _ ([] ++ frs l) ((fr d).take q1) rfl hown5 (Nat.zero_le _) A2 (q1) c2 (((fr d).take q1).map byteV) rfl HTL.out (sl_bytes ((S2.out.take (q1)).below hT5) HTL.out) (cs_map _ _ _) (bytes_oneCell _) Q3.out Q4.out hb45.size ?_; intro v6 w6 hown6 hb6; have hT6 := hT5.trans (hb6.mono hT.size); obtain ⟨A6, c6, rfl, g6, m6, s6⟩ := hown6.len (Nat.zero_le _) HTOT.out; clear hown6) | (go_at_call 24; have hsc := scan_any A6 ([] ++ frs l ++ (fr d).take q1) mk c6 HTOT.out HMK.out g6 m6 _ _ s6.slzW; rw [HSC.out, HTL.out, HNUM.out] at hsc; refine hsc.mono ?_; clear hsc; rintro e w7 ⟨v7, rfl, hown7, hb7⟩; obtain ⟨A7, c7, hv7, g7, m7, s7⟩ := own_rowB hown7 hb7.size; rw [HL.out] at hv7; subst hv7; clear hown7; have hT7 := below_then hT6 hb7)
              go_wp2_with fail
              refine hK.out _ _ ?_ (fun hNext => ?_)
              · assumption
              clear hK K hHeld
              have hHeld := hNext
              clear hNext
              try simp only [Act.put, List.setIfInBounds_toArray, List.set_cons_zero, List.set_cons_succ]
              refine reg_rd 9 (v := ?_) rfl (by kernel_rfl) (by kernel_rfl) (by kernel_rfl) (fun _ _ _ h => h) (by rfl) (by assumption) ?_ ?_
              rotate_left
              · intro w hSw; go_simp; with_reducible rfl
              try simp only [Act.put, List.setIfInBounds_toArray, List.set_cons_zero, List.set_cons_succ]
              refine reg_rd 10 (v := ?_) rfl (by kernel_rfl) (by kernel_rfl) (by kernel_rfl) (fun _ _ _ h => h) (by rfl) (by assumption) ?_ ?_
              rotate_left
              · intro w hSw; go_simp; with_reducible rfl
              try simp only [Act.put, List.setIfInBounds_toArray, List.set_cons_zero, List.set_cons_succ]
              refine reg_rd 11 (v := ?_) rfl (by kernel_rfl) (by kernel_rfl) (by kernel_rfl) (fun _ _ _ h => h) (by rfl) (by assumption) ?_ ?_
              rotate_left
              · intro w hSw; go_simp; with_reducible rfl
              try simp only [Act.put, List.setIfInBounds_toArray, List.set_cons_zero, List.set_cons_succ]
              refine reg_rd 12 (v := ?_) rfl (by kernel_rfl) (by kernel_rfl) (by kernel_rfl) (fun _ _ _ h => h) (by rfl) (by assumption) ?_ ?_
              rotate_left
              · intro w hSw; go_simp; with_reducible rfl
              try simp only [Act.put, List.setIfInBounds_toArray, List.set_cons_zero, List.set_cons_succ]
              refine reg_rd 13 (v := ?_) rfl (by kernel_rfl) (by kernel_rfl) (by kernel_rfl) (fun _ _ _ h => h) (by rfl) (by assumption) ?_ ?_
              rotate_left
              · intro w hSw; go_simp; with_reducible rfl
              try simp only [Act.put, List.setIfInBounds_toArray, List.set_cons_zero, List.set_cons_succ]
              refine wpAnyH_done (by kernel_rfl) ?_ _
            rotate_left 1
          rotate_left 2
          refine reg_do1 rfl (by rfl) (fun K hK => ?_)
          focus
            go_simp
            refine hK.out _ _ ?_ (fun hNext => ?_)
            · assumption
            clear hK K hHeld
            have hHeld := hNext
            clear hNext
            try simp only [Act.put, List.setIfInBounds_toArray, List.set_cons_zero, List.set_cons_succ]
            refine reg_rd 6 (v := ?_) rfl (by kernel_rfl) (by kernel_rfl) (by kernel_rfl) (fun _ _ _ h => h) (by rfl) (by assumption) ?_ ?_
            rotate_left
            · intro w hSw; go_simp; with_reducible rfl
            try simp only [Act.put, List.setIfInBounds_toArray, List.set_cons_zero, List.set_cons_succ]
            refine wpAnyH_ready (rs := [0]) (by kernel_rfl) (by simp) ?_
            refine reg_do1 rfl (by rfl) (fun K hK => ?_)
            go_simp
            refine hK.out _ _ ?_ (fun hNext => ?_)
            · (first | assumption | exact below_alloc (by assumption) _)
            clear hK K hHeld
            have hHeld := hNext
            clear hNext
            try simp only [Act.put, List.setIfInBounds_toArray, List.set_cons_zero, List.set_cons_succ]
            refine wpAnyH_ready (rs := [2]) (by kernel_rfl) (by simp) ?_
            refine reg_do1 rfl (by rfl) (fun K hK => ?_)
            first | (refine opw_app (.tmp 67) (.tmp 68) _ rfl tabB _ [] (frs l) rfl (Own.made w4 (Nat.le_refl _)) (Nat.zero_le _) Ao m co ((frs l).map byteV) rfl HM.out ((sl_bytes (SO2.out.below hT) HM.out).alloc _) (cs_map _ _ _) (bytes_oneCell _) Q1.out Q2.out (by simp) ?_; intro v5 w5 hown5 hb5; have hb45 := (below_new w4 (.cells #[] 5)).trans hb5; have hT5 := below_then hT hb45) | (refine opw_app (.tmp 69) (.tmp 73) _ rfl tabB _ ([] ++ frs l) ((fr d).take q1) rfl hown5 (Nat.zero_le _) A2 (q1) c2 (((fr d).take q1).map byteV) rfl HTL.out (sl_bytes ((S2.out.take (q1)).below hT5) HTL.out) (cs_map _ _ _) (bytes_oneCell _) Q3.out Q4.out hb45.size ?_; intro v6 w6 hown6 hb6; have hT6 := hT5.trans (hb6.mono hT.size); obtain ⟨A6, c6, rfl, g6, m6, s6⟩ := hown6.len (Nat.zero_le _) HTOT.out; clear hown6) | (go_at_call 24; have hsc := scan_any A6 ([] ++ frs l ++ (fr d).take q1) mk c6 HTOT.out HMK.out g6 m6 _ _ s6.slzW; rw [HSC.out, HTL.out, HNUM.out] at hsc; refine hsc.mono ?_; clear hsc; rintro e w7 ⟨v7, rfl, hown7, hb7⟩; obtain ⟨A7, c7, hv7, g7, m7, s7⟩ := own_rowB hown7 hb7.size; rw [HL.out] at hv7; subst hv7; clear hown7; have hT7 := below_then hT6 hb7)
            refine hK.out _ _ ?_ (fun hNext => ?_)
            · assumption
            clear hK K hHeld
            have hHeld := hNext
            clear hNext
            try simp only [Act.put, List.setIfInBounds_toArray, List.set_cons_zero, List.set_cons_succ]
            refine wpAnyH_ready (rs := [7]) (by kernel_rfl) (by simp) ?_
            refine reg_do1 rfl (by rfl) (fun K hK => ?_)
            first | (refine opw_app (.tmp 67) (.tmp 68) _ rfl tabB _ [] (frs l) rfl (Own.made w4 (Nat.le_refl _)) (Nat.zero_le _) Ao m co ((frs l).map byteV) rfl HM.out ((sl_bytes (SO2.out.below hT) HM.out).alloc _) (cs_map _ _ _) (bytes_oneCell _) Q1.out Q2.out (by simp) ?_; intro v5 w5 hown5 hb5; have hb45 := (below_new w4 (.cells #[] 5)).trans hb5; have hT5 := below_then hT hb45) | (refine opw_app (.tmp 69) (.tmp 73) _ rfl tabB _ ([] ++ frs l) ((fr d).take q1) rfl hown5 (Nat.zero_le _) A2 (q1) c2 (((fr d).take q1).map byteV) rfl HTL.out (sl_bytes ((S2.out.take (q1)).below hT5) HTL.out) (cs_map _ _ _) (bytes_oneCell _) Q3.out Q4.out hb45.size ?_; intro v6 w6 hown6 hb6; have hT6 := hT5.trans (hb6.mono hT.size); obtain ⟨A6, c6, rfl, g6, m6, s6⟩ := hown6.len (Nat.zero_le _) HTOT.out; clear hown6) | (go_at_call 24; have hsc := scan_any A6 ([] ++ frs l ++ (fr d).take q1) mk c6 HTOT.out HMK.out g6 m6 _ _ s6.slzW; rw [HSC.out, HTL.out, HNUM.out] at hsc; refine hsc.mono ?_; clear hsc; rintro e w7 ⟨v7, rfl, hown7, hb7⟩; obtain ⟨A7, c7, hv7, g7, m7, s7⟩ := own_rowB hown7 hb7.size; rw [HL.out] at hv7; subst hv7; clear hown7; have hT7 := below_then hT6 hb7)
            refine hK.out _ _ ?_ (fun hNext => ?_)
            · assumption
            clear hK K hHeld
            have hHeld := hNext
            clear hNext
            try simp only [Act.put, List.setIfInBounds_toArray, List.set_cons_zero, List.set_cons_succ]
            refine wpAnyH_ready (rs := [8]) (by kernel_rfl) (by simp) ?_
            refine reg_do1 rfl (by rfl) (fun K hK => ?_)
            go_simp
            first | (refine opw_app (.tmp 67) (.tmp 68) _ rfl tabB _ [] (frs l) rfl (Own.made w4 (Nat.le_refl _)) (Nat.zero_le _) Ao m co ((frs l).map byteV) rfl HM.out ((sl_bytes (SO2.out.below hT) HM.out).alloc _) (cs_map _ _ _) (bytes_oneCell _) Q1.out Q2.out (by simp) ?_; intro v5 w5 hown5 hb5; have hb45 := (below_new w4 (.cells #[] 5)).trans hb5; have hT5 := below_then hT hb45) | (refine opw_app (.tmp 69) (.tmp 73) _ rfl tabB _ ([] ++ frs l) ((fr d).take q1) rfl hown5 (Nat.zero_le _) A2 (q1) c2 (((fr d).take q1).map byteV) rfl HTL.out (sl_bytes ((S2.out.take (q1)).below hT5) HTL.out) (cs_map _ _ _) (bytes_oneCell _) Q3.out Q4.out hb45.size ?_; intro v6 w6 hown6 hb6; have hT6 := hT5.trans (hb6.mono hT.size); obtain ⟨A6, c6, rfl, g6, m6, s6⟩ := hown6.len (Nat.zero_le _) HTOT.out; clear hown6) | (go_at_call 24; have hsc := scan_any A6 ([] ++ frs l ++ (fr d).take q1) mk c6 HTOT.out HMK.out g6 m6 _ _ s6.slzW; rw [HSC.out, HTL.out, HNUM.out] at hsc; refine hsc.mono ?_; clear hsc; rintro e w7 ⟨v7, rfl, hown7, hb7⟩; obtain ⟨A7, c7, hv7, g7, m7, s7⟩ := own_rowB hown7 hb7.size; rw [HL.out] at hv7; subst hv7; clear hown7; have hT7 := below_then hT6 hb7)
            go_wp2_with fail
            refine hK.out _ _ ?_ (fun hNext => ?_)
            · assumption
            clear hK K hHeld
            have hHeld := hNext
            clear hNext
            try simp only [Act.put, List.setIfInBounds_toArray, List.set_cons_zero, List.set_cons_succ]
            refine reg_rd 9 (v := ?_) rfl (by kernel_rfl) (by kernel_rfl) (by kernel_rfl) (fun _ _ _ h => h) (by rfl) (by assumption) ?_ ?_
            rotate_left
            · intro w hSw; go_simp; with_reducible rfl
            try simp only [Act.put, List.setIfInBounds_toArray, List.set_cons_zero, List.set_cons_succ]
            refine reg_rd 10 (v := ?_) rfl (by kernel_rfl) (by kernel_rfl) (by kernel_rfl) (fun _ _ _ h => h) (by rfl) (by assumption) ?_ ?_
            rotate_left
            · intro w hSw; go_simp; with_reducible rfl
            try simp only [Act.put, List.setIfInBounds_toArray, List.set_cons_zero, List.set_cons_succ]
            refine reg_rd 11 (v := ?_) rfl (by kernel_rfl) (by kernel_rfl) (by kernel_rfl) (fun _ _ _ h => h) (by rfl) (by assumption) ?_ ?_
            rotate_left
            · intro w hSw; go_simp; with_reducible rfl
            try simp only [Act.put, List.setIfInBounds_toArray, List.set_cons_zero, List.set_cons_succ]
            refine reg_rd 12 (v := ?_) rfl (by kernel_rfl) (by kernel_rfl) (by kernel_rfl) (fun _ _ _ h => h) (by rfl) (by assumption) ?_ ?_
            rotate_left
            · intro w hSw; go_simp; with_reducible rfl
            try simp only [Act.put, List.setIfInBounds_toArray, List.set_cons_zero, List.set_cons_succ]
            refine reg_rd 13 (v := ?_) rfl (by kernel_rfl) (by kernel_rfl) (by kernel_rfl) (fun _ _ _ h => h) (by rfl) (by assumption) ?_ ?_
            rotate_left
            · intro w hSw; go_simp; with_reducible rfl
            try simp only [Act.put, List.setIfInBounds_toArray, List.set_cons_zero, List.set_cons_succ]
            refine wpAnyH_done (by kernel_rfl) ?_ _
          rotate_left 1
          all_goals
            have HT7 := hid (below_then HB2.out hT7); have S7 := hid s7; have HS7 := hid hb7.size
            clear hT hT5 hT6 hT7 hb45 hb5 hb6 hb7 s6 s7 hown5
            go_wp2_with fail
            refine (alive15 _).mono ?_
            rintro e w8 ⟨rfl, hb8⟩
            have HT8 := hid (below_then HT7.out hb8)
            go_wp2_with fail
            refine (rows_any A7 A0 l l k k c7 c0 HL.out HL.out G0n.out w8 (Nat.le_refl _) HT8.out.size (S7.out.call hb8) ((HS.out.below HT8.out).imp fun cs a h => rowZ_of HT8.out.size h)).mono ?_
            rw [decide_eq_true rfl]
            rintro e w9 ⟨rfl, hb9⟩
            go_wp2_with fail
            go_ret
            exact ⟨rfl, below_then HT8.out hb9⟩
        · obtain ⟨kk, rfl⟩ := Int.eq_ofNat_of_zero_le hcc1
          clear hcc1
          have hmn : min (kk : Int) (q1 : Int) = kk := by omega
          have hmx : max (kk : Int) 0 = kk := by omega
          have htl : ((fr d).take kk).length = kk := by rw [List.length_take, HQ.out]; omega
          have hKc : ((kk : Nat) : Int) ≤ c2 := by omega
          have hK4 : kk ≤ 4000 := by omega
          have hK0 : (0 : Int) ≤ ((kk : Nat) : Int) := by omega
          obtain ⟨mk, hmk⟩ : ∃ mk, m + kk = mk := ⟨_, rfl⟩
          have htot : ([] ++ frs l ++ (fr d).take kk).length = mk := by rw [List.nil_append, List.length_append, HM.out, htl, hmk]
          have hscan : scanS ([] ++ frs l ++ (fr d).take kk) = (l, (fr d).take kk) := by
            obtain ⟨z, hz⟩ := takeF_cut d (by rw [HD.out]; omega) kk (by rw [HQ.out]; omega)
            rw [List.nil_append, scanS_frs l (fun y hy => by have := HA.out y hy; omega), scanS_err hz, List.append_nil]
          have hq1 : (([] : Bytes).length + (frs l).length) * 1 ≤ 140737488355328 := by rw [HM.out]; simp; omega
          have hq2 : ([] : Bytes).length + (frs l).length ≤ maxLen := by rw [HM.out]; simp [maxLen]; omega
          have hq3 : (([] ++ frs l).length + ((fr d).take kk).length) * 1 ≤ 140737488355328 := by rw [List.nil_append, HM.out, htl]; omega
          have hq4 : ([] ++ frs l).length + ((fr d).take kk).length ≤ maxLen := by rw [List.nil_append, HM.out, htl]; unfold maxLen; omega
          have HTL := hid htl; have HTOT := hid htot; have HSC := hid hscan; have Q1 := hid hq1; have Q2 := hid hq2; have Q3 := hid hq3; have Q4 := hid hq4
          have HNUM := hid (show (mk : Int) - ((kk : Nat) : Int) = m by omega)
          have HMK := hid (show mk ≤ 1000000 by omega)
          clear htl htot hscan hq1 hq2 hq3 hq4 hmk
          go_wp2_with fail
          refine reg_start (by kernel_rfl) fun w4 hHeld hz4 => ?_
          clear hz4
          have hT := hHeld
          refine reg_rd 1 (v := ?_) rfl (by kernel_rfl) (by kernel_rfl) (by kernel_rfl) (fun _ _ _ h => h) (by rfl) (by assumption) ?_ ?_
          rotate_left
          · intro w hSw; go_simp; with_reducible rfl
          try simp only [Act.put, List.setIfInBounds_toArray, List.set_cons_zero, List.set_cons_succ]
          refine reg_rd 3 (v := ?_) rfl (by kernel_rfl) (by kernel_rfl) (by kernel_rfl) (fun _ _ _ h => h) (by rfl) (by assumption) ?_ ?_
          rotate_left
          · intro w hSw; go_simp; with_reducible rfl
          try simp only [Act.put, List.setIfInBounds_toArray, List.set_cons_zero, List.set_cons_succ]
          refine reg_rd 4 (v := ?_) rfl (by kernel_rfl) (by kernel_rfl) (by kernel_rfl) (fun _ _ _ h => h) (by rfl) (by assumption) ?_ ?_
          rotate_left
          · intro w hSw; go_simp; with_reducible rfl
          try simp only [Act.put, List.setIfInBounds_toArray, List.set_cons_zero, List.set_cons_succ]
          refine wpAnyH_ready (rs := [0, 5]) (by kernel_rfl) (by simp) ?_
          refine reg_do rfl (by rfl) (fun K hK => ?_) ?_
          focus
            go_simp
            refine hK.out _ _ ?_ (fun hNext => ?_)
            · (first | assumption | exact below_alloc (by assumption) _)
            clear hK K hHeld
            have hHeld := hNext
            clear hNext
            try simp only [Act.put, List.setIfInBounds_toArray, List.set_cons_zero, List.set_cons_succ]
            refine wpAnyH_ready (rs := [2, 5]) (by kernel_rfl) (by simp) ?_
            refine reg_do rfl (by rfl) (fun K hK => ?_) ?_
            focus
              first | (refine opw_app (.tmp 67) (.tmp 68) _ rfl tabB _ [] (frs l) rfl (Own.made w4 (Nat.le_refl _)) (Nat.zero_le _) Ao m co ((frs l).map byteV) rfl HM.out ((sl_bytes (SO2.out.below hT) HM.out).alloc _) (cs_map _ _ _) (bytes_oneCell _) Q1.out Q2.out (by simp) ?_; intro v5 w5 hown5 hb5; have hb45 := (below_new w4 (.cells #[] 5)).trans hb5; have hT5 := below_then hT hb45) | (refine opw_app (.tmp 69) (.tmp 73) _ rfl tabB _ ([] ++ frs l) ((fr d).take kk) rfl hown5 (Nat.zero_le _) A2 (kk) c2 (((fr d).take kk).map byteV) rfl HTL.out (sl_bytes ((S2.out.take (kk)).below hT5) HTL.out) (cs_map _ _ _) (bytes_oneCell _) Q3.out Q4.out hb45.size ?_; intro v6 w6 hown6 hb6; have hT6 := hT5.trans (hb6.mono hT.size); obtain ⟨A6, c6, rfl, g6, m6, s6⟩ := hown6.len (Nat.zero_le _) HTOT.out; clear hown6) | (go_at_call 24; have hsc := scan_any A6 ([] ++ frs l ++ (fr d).take kk) mk c6 HTOT.out HMK.out g6 m6 _ _ s6.slzW; rw [HSC.out, HTL.out, HNUM.out] at hsc; refine hsc.mono ?_; clear hsc; rintro e w7 ⟨v7, rfl, hown7, hb7⟩; obtain ⟨A7, c7, hv7, g7, m7, s7⟩ := own_rowB hown7 hb7.size; rw [HL.out] at hv7; subst hv7; clear hown7; have hT7 := below_then hT6 hb7)
              refine hK.out _ _ ?_ (fun hNext => ?_)
              · assumption
              clear hK K hHeld
              have hHeld := hNext
              clear hNext
              try simp only [Act.put, List.setIfInBounds_toArray, List.set_cons_zero, List.set_cons_succ]
              refine wpAnyH_ready (rs := [5]) (by kernel_rfl) (by simp) ?_
              refine reg_do1 rfl (by rfl) (fun K hK => ?_)
              go_simp
              refine hK.out _ _ ?_ (fun hNext => ?_)
              · assumption
              clear hK K hHeld
              have hHeld := hNext
              clear hNext
              try simp only [Act.put, List.setIfInBounds_toArray, List.set_cons_zero, List.set_cons_succ]
              refine reg_rd 6 (v := ?_) rfl (by kernel_rfl) (by kernel_rfl) (by kernel_rfl) (fun _ _ _ h => h) (by rfl) (by assumption) ?_ ?_
              rotate_left
              · intro w hSw; go_simp; with_reducible rfl
              try simp only [Act.put, List.setIfInBounds_toArray, List.set_cons_zero, List.set_cons_succ]
              refine wpAnyH_ready (rs := [7]) (by kernel_rfl) (by simp) ?_
              refine reg_do1 rfl (by rfl) (fun K hK => ?_)
              first | (refine opw_app (.tmp 67) (.tmp 68) _ rfl tabB _ [] (frs l) rfl (Own.made w4 (Nat.le_refl _)) (Nat.zero_le _) Ao m co ((frs l).map byteV) rfl HM.out ((sl_bytes (SO2.out.below hT) HM.out).alloc _) (cs_map _ _ _) (bytes_oneCell _) Q1.out Q2.out (by simp) ?_; intro v5 w5 hown5 hb5; have hb45 := (below_new w4 (.cells #[] 5)).trans hb5; have hT5 := below_then hT hb45) | (refine opw_app (.tmp 69) (.tmp 73) _ rfl tabB _ ([] ++ frs l) ((fr d).take kk) rfl hown5 (Nat.zero_le _) A2 (kk) c2 (((fr d).take kk).map byteV) rfl HTL.out (sl_bytes ((S2.out.take (kk)).below hT5) HTL.out) (cs_map _ _ _) (bytes_oneCell _) Q3.out Q4.out hb45.size ?_; intro v6 w6 hown6 hb6; have hT6 := hT5.trans (hb6.mono hT.size); obtain ⟨A6, c6, rfl, g6, m6, s6⟩ := hown6.len (Nat.zero_le _) HTOT.out; clear hown6) | (go_at_call 24; have hsc := scan_any A6 ([] ++ frs l ++ (fr d).take kk) mk c6 HTOT.out HMK.out g6 m6 _ _ s6.slzW; rw [HSC.out, HTL.out, HNUM.out] at hsc; refine hsc.mono ?_; clear hsc; rintro e w7 ⟨v7, rfl, hown7, hb7⟩; obtain ⟨A7, c7, hv7, g7, m7, s7⟩ := own_rowB hown7 hb7.size; rw [HL.out] at hv7; subst hv7; clear hown7; have hT7 := below_then hT6 hb7)
              refine hK.out _ _ ?_ (fun hNext => ?_)
              · assumption
              clear hK K hHeld
              have hHeld := hNext
              clear hNext
              try simp only [Act.put, List.setIfInBounds_toArray, List.set_cons_zero, List.set_cons_succ]
              refine wpAnyH_ready (rs := [8]) (by kernel_rfl) (by simp) ?_
              refine reg_do1 rfl (by rfl) (fun K hK => ?_)
              go_simp
              first | (refine opw_app (.tmp 67) (.tmp 68) _ rfl tabB _ [] (frs l) rfl (Own.made w4 (Nat.le_refl _)) (Nat.zero_le _) Ao m co ((frs l).map byteV) rfl HM.out ((sl_bytes (SO2.out.below hT) HM.out).alloc _) (cs_map _ _ _) (bytes_oneCell _) Q1.out Q2.out (by simp) ?_; intro v5 w5 hown5 hb5; have hb45 := (below_new w4 (.cells #[] 5)).trans hb5; have hT5 := below_then hT hb45) | (refine opw_app (.tmp 69) (.tmp 73) _ rfl tabB _ ([] ++ frs l) ((fr d).take kk) rfl hown5 (Nat.zero_le _) A2 (kk) c2 (((fr d).take kk).map byteV) rfl HTL.out (sl_bytes ((S2.out.take (kk)).below hT5) HTL.out) (cs_map _ _ _) (bytes_oneCell _) Q3.out Q4.out hb45.size ?_; intro v6 w6 hown6 hb6; have hT6 := hT5.trans (hb6.mono hT.size); obtain ⟨A6, c6, rfl, g6, m6, s6⟩ := hown6.len (Nat.zero_le _) HTOT.out; clear hown6) | (go_at_call 24; have hsc := scan_any A6 ([] ++ frs l ++ (fr d).take kk) mk c6 HTOT.out HMK.out g6 m6 _ _ s6.slzW; rw [HSC.out, HTL.out, HNUM.out] at hsc; refine hsc.mono ?_; clear hsc; rintro e w7 ⟨v7, rfl, hown7, hb7⟩; obtain ⟨A7, c7, hv7, g7, m7, s7⟩ := own_rowB hown7 hb7.size; rw [HL.out] at hv7; subst hv7; clear hown7; have hT7 := below_then hT6 hb7)
              go_wp2_with fail
              refine hK.out _ _ ?_ (fun hNext => ?_)
              · assumption
              clear hK K hHeld
              have hHeld := hNext
              clear hNext
              try simp only [Act.put, List.setIfInBounds_toArray, List.set_cons_zero, List.set_cons_succ]
              refine reg_rd 9 (v := ?_) rfl (by kernel_rfl) (by kernel_rfl) (by kernel_rfl) (fun _ _ _ h => h) (by rfl) (by assumption) ?_ ?_
              rotate_left
              · intro w hSw; go_simp; with_reducible rfl
              try simp only [Act.put, List.setIfInBounds_toArray, List.set_cons_zero, List.set_cons_succ]
              refine reg_rd 10 (v := ?_) rfl (by kernel_rfl) (by kernel_rfl) (by kernel_rfl) (fun _ _ _ h => h) (by rfl) (by assumption) ?_ ?_
              rotate_left
              · intro w hSw; go_simp; with_reducible rfl
              try simp only [Act.put, List.setIfInBounds_toArray, List.set_cons_zero, List.set_cons_succ]
              refine reg_rd 11 (v := ?_) rfl (by kernel_rfl) (by kernel_rfl) (by kernel_rfl) (fun _ _ _ h => h) (by rfl) (by assumption) ?_ ?_
              rotate_left
              · intro w hSw; go_simp; with_reducible rfl
              try simp only [Act.put, List.setIfInBounds_toArray, List.set_cons_zero, List.set_cons_succ]
              refine reg_rd 12 (v := ?_) rfl (by kernel_rfl) (by kernel_rfl) (by kernel_rfl) (fun _ _ _ h => h) (by rfl) (by assumption) ?_ ?_
              rotate_left
              · intro w hSw; go_simp; with_reducible rfl
              try simp only [Act.put, List.setIfInBounds_toArray, List.set_cons_zero, List.set_cons_succ]
              refine reg_rd 13 (v := ?_) rfl (by kernel_rfl) (by kernel_rfl) (by kernel_rfl) (fun _ _ _ h => h) (by rfl) (by assumption) ?_ ?_
              rotate_left
              · intro w hSw; go_simp; with_reducible rfl
              try simp only [Act.put, List.setIfInBounds_toArray, List.set_cons_zero, List.set_cons_succ]
              refine wpAnyH_done (by kernel_rfl) ?_ _
            rotate_left 1
            refine reg_do1 rfl (by rfl) (fun K hK => ?_)
            focus
              go_simp
              refine hK.out _ _ ?_ (fun hNext => ?_)
              · assumption
              clear hK K hHeld
              have hHeld := hNext
              clear hNext
              try simp only [Act.put, List.setIfInBounds_toArray, List.set_cons_zero, List.set_cons_succ]
              refine reg_rd 6 (v := ?_) rfl (by kernel_rfl) (by kernel_rfl) (by kernel_rfl) (fun _ _ _ h => h) (by rfl) (by assumption) ?_ ?_
              rotate_left
              · intro w hSw; go_simp; with_reducible rfl
              try simp only [Act.put, List.setIfInBounds_toArray, List.set_cons_zero, List.set_cons_succ]
              refine wpAnyH_ready (rs := [2]) (by kernel_rfl) (by simp) ?_
              refine reg_do1 rfl (by rfl) (fun K hK => ?_)
              first | (refine opw_app (.tmp 67) (.tmp 68) _ rfl tabB _ [] (frs l) rfl (Own.made w4 (Nat.le_refl _)) (Nat.zero_le _) Ao m co ((frs l).map byteV) rfl HM.out ((sl_bytes (SO2.out.below hT) HM.out).alloc _) (cs_map _ _ _) (bytes_oneCell _) Q1.out Q2.out (by simp) ?_; intro v5 w5 hown5 hb5; have hb45 := (below_new w4 (.cells #[] 5)).trans hb5; have hT5 := below_then hT hb45) | (refine opw_app (.tmp 69) (.tmp 73) _ rfl tabB _ ([] ++ frs l) ((fr d).take kk) rfl hown5 (Nat.zero_le _) A2 (kk) c2 (((fr d).take kk).map byteV) rfl HTL.out (sl_bytes ((S2.out.take (kk)).below hT5) HTL.out) (cs_map _ _ _) (bytes_oneCell _) Q3.out Q4.out hb45.size ?_; intro v6 w6 hown6 hb6; have hT6 := hT5.trans (hb6.mono hT.size); obtain ⟨A6, c6, rfl, g6, m6, s6⟩ := hown6.len (Nat.zero_le _) HTOT.out; clear hown6) | (go_at_call 24; have hsc := scan_any A6 ([] ++ frs l ++ (fr d).take kk) mk c6 HTOT.out HMK.out g6 m6 _ _ s6.slzW; rw [HSC.out, HTL.out, HNUM.out] at hsc; refine hsc.mono ?_; clear hsc; rintro e w7 ⟨v7, rfl, hown7, hb7⟩; obtain ⟨A7, c7, hv7, g7, m7, s7⟩ := own_rowB hown7 hb7.size; rw [HL.out] at hv7; subst hv7; clear hown7; have hT7 := below_then hT6 hb7)
              refine hK.out _ _ ?_ (fun hNext => ?_)
              · assumption
              clear hK K hHeld
              have hHeld := hNext
              clear hNext
              try simp only [Act.put, List.setIfInBounds_toArray, List.set_cons_zero, List.set_cons_succ]
              refine wpAnyH_ready (rs := [7]) (by kernel_rfl) (by simp) ?_
              refine reg_do1 rfl (by rfl) (fun K hK => ?_)
              first | (refine opw_app (.tmp 67) (.tmp 68) _ rfl tabB _ [] (frs l) rfl (Own.made w4 (Nat.le_refl _)) (Nat.zero_le _) Ao m co ((frs l).map byteV) rfl HM.out ((sl_bytes (SO2.out.below hT) HM.out).alloc _) (cs_map _ _ _) (bytes_oneCell _) Q1.out Q2.out (by simp) ?_; intro v5 w5 hown5 hb5; have hb45 := (below_new w4 (.cells #[] 5)).trans hb5; have hT5 := below_then hT hb45) | (refine opw_app (.tmp 69) (.tmp 73) _ rfl tabB _ ([] ++ frs l) ((fr d).take kk) rfl hown5 (Nat.zero_le _) A2 (kk) c2 (((fr d).take kk).map byteV) rfl HTL.out (sl_bytes ((S2.out.take (kk)).below hT5) HTL.out) (cs_map _ _ _) (bytes_oneCell _) Q3.out Q4.out hb45.size ?_; intro v6 w6 hown6 hb6; have hT6 := hT5.trans (hb6.mono hT.size); obtain ⟨A6, c6, rfl, g6, m6, s6⟩ := hown6.len (Nat.zero_le _) HTOT.out; clear hown6) | (go_at_call 24; have hsc := scan_any A6 ([] ++ frs l ++ (fr d).take kk) mk c6 HTOT.out HMK.out g6 m6 _ _ s6.slzW; rw [HSC.out, HTL.out, HNUM.out] at hsc; refine hsc.mono ?_; clear hsc; rintro e w7 ⟨v7, rfl, hown7, hb7⟩; obtain ⟨A7, c7, hv7, g7, m7, s7⟩ := own_rowB hown7 hb7.size; rw [HL.out] at hv7; subst hv7; clear hown7; have hT7 := below_then hT6 hb7)
              refine hK.out _ _ ?_ (fun hNext => ?_)
              · assumption
              clear hK K hHeld
              have hHeld := hNext
              clear hNext
              try simp only [Act.put, List.setIfInBounds_toArray, List.set_cons_zero, List.set_cons_succ]
              refine wpAnyH_ready (rs := [8]) (by kernel_rfl) (by simp) ?_
              refine reg_do1 rfl (by rfl) (fun K hK => ?_)
              go_simp
              first | (refine opw_app (.tmp 67) (.tmp 68) _ rfl tabB _ [] (frs l) rfl (Own.made w4 (Nat.le_refl _)) (Nat.zero_le _) Ao m co ((frs l).map byteV) rfl HM.out ((sl_bytes (SO2.out.below hT) HM.out).alloc _) (cs_map _ _ _) (bytes_oneCell _) Q1.out Q2.out (by simp) ?_; intro v5 w5 hown5 hb5; have hb45 := (below_new w4 (.cells #[] 5)).trans hb5; have hT5 := below_then hT hb45) | (refine opw_app (.tmp 69) (.tmp 73) _ rfl tabB _ ([] ++ frs l) ((fr d).take kk) rfl hown5 (Nat.zero_le _) A2 (kk) c2 (((fr d).take kk).map byteV) rfl HTL.out (sl_bytes ((S2.out.take (kk)).below hT5) HTL.out) (cs_map _ _ _) (bytes_oneCell _) Q3.out Q4.out hb45.size ?_; intro v6 w6 hown6 hb6; have hT6 := hT5.trans (hb6.mono hT.size); obtain ⟨A6, c6, rfl, g6, m6, s6⟩ := hown6.len (Nat.zero_le _) HTOT.out; clear hown6) | (go_at_call 24; have hsc := scan_any A6 ([] ++ frs l ++ (fr d).take kk) mk c6 HTOT.out HMK.out g6 m6 _ _ s6.slzW; rw [HSC.out, HTL.out, HNUM.out] at hsc; refine hsc.mono ?_; clear hsc; rintro e w7 ⟨v7, rfl, hown7, hb7⟩; obtain ⟨A7, c7, hv7, g7, m7, s7⟩ := own_rowB hown7 hb7.size; rw [HL.out] at hv7; subst hv7; clear hown7; have hT7 := below_then hT6 hb7)
              go_wp2_with fail
              refine hK.out _ _ ?_ (fun hNext => ?_)
              · assumption
              clear hK K hHeld
              have hHeld := hNext
              clear hNext
              try simp only [Act.put, List.setIfInBounds_toArray, List.set_cons_zero, List.set_cons_succ]
              refine reg_rd 9 (v := ?_) rfl (by kernel_rfl) (by kernel_rfl) (by kernel_rfl) (fun _ _ _ h => h) (by rfl) (by assumption) ?_ ?_
              rotate_left
              · intro w hSw; go_simp; with_reducible rfl
              try simp only [Act.put, List.setIfInBounds_toArray, List.set_cons_zero, List.set_cons_succ]
              refine reg_rd 10 (v := ?_) rfl (by kernel_rfl) (by kernel_rfl) (by kernel_rfl) (fun _ _ _ h => h) (by rfl) (by assumption) ?_ ?_
              rotate_left
              · intro w hSw; go_simp; with_reducible rfl
              try simp only [Act.put, List.setIfInBounds_toArray, List.set_cons_zero, List.set_cons_succ]
              refine reg_rd 11 (v := ?_) rfl (by kernel_rfl) (by kernel_rfl) (by kernel_rfl) (fun _ _ _ h => h) (by rfl) (by assumption) ?_ ?_
              rotate_left
              · intro w hSw; go_simp; with_reducible rfl
              try simp only [Act.put, List.setIfInBounds_toArray, List.set_cons_zero, List.set_cons_succ]
              refine reg_rd 12 (v := ?_) rfl (by kernel_rfl) (by kernel_rfl) (by kernel_rfl) (fun _ _ _ h => h) (by rfl) (by assumption) ?_ ?_
              rotate_left
              · intro w hSw; go_simp; with_reducible rfl
              try simp only [Act.put, List.setIfInBounds_toArray, List.set_cons_zero, List.set_cons_succ]
              refine reg_rd 13 (v := ?_) rfl (by kernel_rfl) (by kernel_rfl) (by kernel_rfl) (fun _ _ _ h => h) (by rfl) (by assumption) ?_ ?_
              rotate_left
              · intro w hSw; go_simp; with_reducible rfl
              try simp only [Act.put, List.setIfInBounds_toArray, List.set_cons_zero, List.set_cons_succ]
              refine wpAnyH_done (by kernel_rfl) ?_ _
            rotate_left 1
          rotate_left 2
          refine reg_do1 rfl (by rfl) (fun K hK => ?_)
          focus
            go_simp
            refine hK.out _ _ ?_ (fun hNext => ?_)
            · assumption
            clear hK K hHeld
            have hHeld := hNext
            clear hNext
            try simp only [Act.put, List.setIfInBounds_toArray, List.set_cons_zero, List.set_cons_succ]
            refine reg_rd 6 (v := ?_) rfl (by kernel_rfl) (by kernel_rfl) (by kernel_rfl) (fun _ _ _ h => h) (by rfl) (by assumption) ?_ ?_
            rotate_left
            · intro w hSw; go_simp; with_reducible rfl
            try simp only [Act.put, List.setIfInBounds_toArray, List.set_cons_zero, List.set_cons_succ]
            refine wpAnyH_ready (rs := [0]) (by kernel_rfl) (by simp) ?_
            refine reg_do1 rfl (by rfl) (fun K hK => ?_)
            go_simp
            refine hK.out _ _ ?_ (fun hNext => ?_)
            · (first | assumption | exact below_alloc (by assumption) _)
            clear hK K hHeld
            have hHeld := hNext
            clear hNext
            try simp only [Act.put, List.setIfInBounds_toArray, List.set_cons_zero, List.set_cons_succ]
            refine wpAnyH_ready (rs := [2]) (by kernel_rfl) (by simp) ?_
            refine reg_do1 rfl (by rfl) (fun K hK => ?_)
            first | (refine opw_app (.tmp 67) (.tmp 68) _ rfl tabB _ [] (frs l) rfl (Own.made w4 (Nat.le_refl _)) (Nat.zero_le _) Ao m co ((frs l).map byteV) rfl HM.out ((sl_bytes (SO2.out.below hT) HM.out).alloc _) (cs_map _ _ _) (bytes_oneCell _) Q1.out Q2.out (by simp) ?_; intro v5 w5 hown5 hb5; have hb45 := (below_new w4 (.cells #[] 5)).trans hb5; have hT5 := below_then hT hb45) | (refine opw_app (.tmp 69) (.tmp 73) _ rfl tabB _ ([] ++ frs l) ((fr d).take kk) rfl hown5 (Nat.zero_le _) A2 (kk) c2 (((fr d).take kk).map byteV) rfl HTL.out (sl_bytes ((S2.out.take (kk)).below hT5) HTL.out) (cs_map _ _ _) (bytes_oneCell _) Q3.out Q4.out hb45.size ?_; intro v6 w6 hown6 hb6; have hT6 := hT5.trans (hb6.mono hT.size); obtain ⟨A6, c6, rfl, g6, m6, s6⟩ := hown6.len (Nat.zero_le _) HTOT.out; clear hown6) | (go_at_call 24; have hsc := scan_any A6 ([] ++ frs l ++ (fr d).take kk) mk c6 HTOT.out HMK.out g6 m6 _ _ s6.slzW; rw [HSC.out, HTL.out, HNUM.out] at hsc; refine hsc.mono ?_; clear hsc; rintro e w7 ⟨v7, rfl, hown7, hb7⟩; obtain ⟨A7, c7, hv7, g7, m7, s7⟩ := own_rowB hown7 hb7.size; rw [HL.out] at hv7; subst hv7; clear hown7; have hT7 := below_then hT6 hb7)
            refine hK.out _ _ ?_ (fun hNext => ?_)
            · assumption
            clear hK K hHeld
            have hHeld := hNext
            clear hNext
            try simp only [Act.put, List.setIfInBounds_toArray, List.set_cons_zero, List.set_cons_succ]
            refine wpAnyH_ready (rs := [7]) (by kernel_rfl) (by simp) ?_
            refine reg_do1 rfl (by rfl) (fun K hK => ?_)
            first | (refine opw_app (.tmp 67) (.tmp 68) _ rfl tabB _ [] (frs l) rfl (Own.made w4 (Nat.le_refl _)) (Nat.zero_le _) Ao m co ((frs l).map byteV) rfl HM.out ((sl_bytes (SO2.out.below hT) HM.out).alloc _) (cs_map _ _ _) (bytes_oneCell _) Q1.out Q2.out (by simp) ?_; intro v5 w5 hown5 hb5; have hb45 := (below_new w4 (.cells #[] 5)).trans hb5; have hT5 := below_then hT hb45) | (refine opw_app (.tmp 69) (.tmp 73) _ rfl tabB _ ([] ++ frs l) ((fr d).take kk) rfl hown5 (Nat.zero_le _) A2 (kk) c2 (((fr d).take kk).map byteV) rfl HTL.out (sl_bytes ((S2.out.take (kk)).below hT5) HTL.out) (cs_map _ _ _) (bytes_oneCell _) Q3.out Q4.out hb45.size ?_; intro v6 w6 hown6 hb6; have hT6 := hT5.trans (hb6.mono hT.size); obtain ⟨A6, c6, rfl, g6, m6, s6⟩ := hown6.len (Nat.zero_le _) HTOT.out; clear hown6) | (go_at_call 24; have hsc := scan_any A6 ([] ++ frs l ++ (fr d).take kk) mk c6 HTOT.out HMK.out g6 m6 _ _ s6.slzW; rw [HSC.out, HTL.out, HNUM.out] at hsc; refine hsc.mono ?_; clear hsc; rintro e w7 ⟨v7, rfl, hown7, hb7⟩; obtain ⟨A7, c7, hv7, g7, m7, s7⟩ := own_rowB hown7 hb7.size; rw [HL.out] at hv7; subst hv7; clear hown7; have hT7 := below_then hT6 hb7)
            refine hK.out _ _ ?_ (fun hNext => ?_)
            · assumption
            clear hK K hHeld
            have hHeld := hNext
            clear hNext
            try simp only [Act.put, List.setIfInBounds_toArray, List.set_cons_zero, List.set_cons_succ]
            refine wpAnyH_ready (rs := [8]) (by kernel_rfl) (by simp) ?_
            refine reg_do1 rfl (by rfl) (fun K hK => ?_)
            go_simp
            first | (refine opw_app (.tmp 67) (.tmp 68) _ rfl tabB _ [] (frs l) rfl (Own.made w4 (Nat.le_refl _)) (Nat.zero_le _) Ao m co ((frs l).map byteV) rfl HM.out ((sl_bytes (SO2.out.below hT) HM.out).alloc _) (cs_map _ _ _) (bytes_oneCell _) Q1.out Q2.out (by simp) ?_; intro v5 w5 hown5 hb5; have hb45 := (below_new w4 (.cells #[] 5)).trans hb5; have hT5 := below_then hT hb45) | (refine opw_app (.tmp 69) (.tmp 73) _ rfl tabB _ ([] ++ frs l) ((fr d).take kk) rfl hown5 (Nat.zero_le _) A2 (kk) c2 (((fr d).take kk).map byteV) rfl HTL.out (sl_bytes ((S2.out.take (kk)).below hT5) HTL.out) (cs_map _ _ _) (bytes_oneCell _) Q3.out Q4.out hb45.size ?_; intro v6 w6 hown6 hb6; have hT6 := hT5.trans (hb6.mono hT.size); obtain ⟨A6, c6, rfl, g6, m6, s6⟩ := hown6.len (Nat.zero_le _) HTOT.out; clear hown6) | (go_at_call 24; have hsc := scan_any A6 ([] ++ frs l ++ (fr d).take kk) mk c6 HTOT.out HMK.out g6 m6 _ _ s6.slzW; rw [HSC.out, HTL.out, HNUM.out] at hsc; refine hsc.mono ?_; clear hsc; rintro e w7 ⟨v7, rfl, hown7, hb7⟩; obtain ⟨A7, c7, hv7, g7, m7, s7⟩ := own_rowB hown7 hb7.size; rw [HL.out] at hv7; subst hv7; clear hown7; have hT7 := below_then hT6 hb7)
            go_wp2_with fail
            refine hK.out _ _ ?_ (fun hNext => ?_)
            · assumption
            clear hK K hHeld
            have hHeld := hNext
            clear hNext
            try simp only [Act.put, List.setIfInBounds_toArray, List.set_cons_zero, List.set_cons_succ]
            refine reg_rd 9 (v := ?_) rfl (by kernel_rfl) (by kernel_rfl) (by kernel_rfl) (fun _ _ _ h => h) (by rfl) (by assumption) ?_ ?_
            rotate_left
            · intro w hSw; go_simp; with_reducible rfl
            try simp only [Act.put, List.setIfInBounds_toArray, List.set_cons_zero, List.set_cons_succ]
            refine reg_rd 10 (v := ?_) rfl (by kernel_rfl) (by kernel_rfl) (by kernel_rfl) (fun _ _ _ h => h) (by rfl) (by assumption) ?_ ?_
            rotate_left
            · intro w hSw; go_simp; with_reducible rfl
            try simp only [Act.put, List.setIfInBounds_toArray, List.set_cons_zero, List.set_cons_succ]
            refine reg_rd 11 (v := ?_) rfl (by kernel_rfl) (by kernel_rfl) (by kernel_rfl) (fun _ _ _ h => h) (by rfl) (by assumption) ?_ ?_
            rotate_left
            · intro w hSw; go_simp; with_reducible rfl
            try simp only [Act.put, List.setIfInBounds_toArray, List.set_cons_zero, List.set_cons_succ]
            refine reg_rd 12 (v := ?_) rfl (by kernel_rfl) (by kernel_rfl) (by kernel_rfl) (fun _ _ _ h => h) (by rfl) (by assumption) ?_ ?_
            rotate_left
            · intro w hSw; go_simp; with_reducible rfl
            try simp only [Act.put, List.setIfInBounds_toArray, List.set_cons_zero, List.set_cons_succ]
            refine reg_rd 13 (v := ?_) rfl (by kernel_rfl) (by kernel_rfl) (by kernel_rfl) (fun _ _ _ h => h) (by rfl) (by assumption) ?_ ?_
            rotate_left
            · intro w hSw; go_simp; with_reducible rfl
            try simp only [Act.put, List.setIfInBounds_toArray, List.set_cons_zero, List.set_cons_succ]
            refine wpAnyH_done (by kernel_rfl) ?_ _
          rotate_left 1
          all_goals
            have HT7 := hid (below_then HB2.out hT7); have S7 := hid s7; have HS7 := hid hb7.size
            clear hT hT5 hT6 hT7 hb45 hb5 hb6 hb7 s6 s7 hown5
            go_wp2_with fail
            refine (alive15 _).mono ?_
            rintro e w8 ⟨rfl, hb8⟩
            have HT8 := hid (below_then HT7.out hb8)
            go_wp2_with fail
            refine (rows_any A7 A0 l l k k c7 c0 HL.out HL.out G0n.out w8 (Nat.le_refl _) HT8.out.size (S7.out.call hb8) ((HS.out.below HT8.out).imp fun cs a h => rowZ_of HT8.out.size h)).mono ?_
            rw [decide_eq_true rfl]
            rintro e w9 ⟨rfl, hb9⟩
            go_wp2_with fail
            go_ret
            exact ⟨rfl, below_then HT8.out hb9⟩
end Go.Proofs.Ytcafahcmalfepaa
