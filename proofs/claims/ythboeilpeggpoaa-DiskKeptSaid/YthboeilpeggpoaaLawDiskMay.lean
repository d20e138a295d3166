/-
  DiskMay: whether a disk may be, whether two are alike, and a new one, are as the document says.
-/
import Derived.Test.YthboeilpeggpoaaDiskAlive
import Derived.Test.YthboeilpeggpoaaRegL
namespace Go.Proofs.Ythboeilpeggpoaa
open Go.RowKit
theorem short_sm {d : Dk} (h : shortB d.dd = true) : d.sm := by
  have h : decide (d.s.length ≤ 2000 ∧ d.l.length ≤ 2000) = true := h
  rw [decide_eq_true_eq] at h
  exact ⟨by omega, by omega⟩
set_option maxHeartbeats 4000000 in
set_option maxRecDepth 20000 in
theorem may_any (a b : Dk) (n : Int) (w : World) (ha : a.ok (fun k => k < w.heap.size) w) (hb : b.ok (fun k => k < w.heap.size) w) :
    Calls Try.prog 3 #[a.v, b.v, .int .i64 n] w fun e w' => e = .returned (.bool true) ∧ Below w.heap.size w w' := by
  have HA := hid ha; have HB := hid hb; clear ha hb
  have W0 : Below w.heap.size w ((w.alloc (.cells a.cells.toArray 24)).alloc (.cells b.cells.toArray 24)) := below_alloc (below_new _ _) _
  have DA : DkAt w.heap.size ((w.alloc (.cells a.cells.toArray 24)).alloc (.cells b.cells.toArray 24)) a := (DkAt.new w a _).below (below_new _ _)
  have DB : DkAt (w.heap.size + 1) ((w.alloc (.cells a.cells.toArray 24)).alloc (.cells b.cells.toArray 24)) b := by
    have := DkAt.new (w.alloc (.cells a.cells.toArray 24)) b 24
    rwa [World.size_alloc] at this
  have HW := hid W0; have HDA := hid DA; have HDB := hid DB; clear W0 DA DB
  cases hsa : shortB a.dd with
  | false =>
    unfold Dk.v
    go_enter Try.func3, Try.ntmps3
    go_wp2_with fail
    refine (short_any a _).mono ?_
    rintro e w1 ⟨rfl, hb1⟩
    rw [hsa]
    go_wp2_with (go_at_call 14; refine (alive16 _).mono ?_; rintro e w3 ⟨rfl, hb3⟩)
    go_ret
    exact ⟨rfl, below_then (below_then HW.out hb1) hb3⟩
  | true =>
    unfold Dk.v
    go_enter Try.func3, Try.ntmps3
    go_wp2_with fail
    refine (short_any a _).mono ?_
    rintro e w1 ⟨rfl, hb1⟩
    rw [hsa]
    have hSA := short_sm hsa
    have H1 := hid (below_then HW.out hb1)
    have A1 := HDA.out.below hb1
    have B1 := HDB.out.below hb1
    have FB := B1.facts
    obtain ⟨⟨q0, q1, q2, q3, q4⟩, _, _⟩ := FB
    have HA1 := hid A1; have HB1 := hid B1; have HSA := hid hSA; clear A1 B1 hb1 HDA HDB hSA hsa
    go_wp2_with fail
    clear q0 q1 q2 q3 q4
    refine (short_any b _).mono ?_
    rintro e w2 ⟨rfl, hb2⟩
    have H2 := hid (below_then H1.out hb2)
    have HA2 := hid (HA1.out.below hb2); have HB2 := hid (HB1.out.below hb2)
    clear hb2 HA1 HB1 H1
    cases hsb : shortB b.dd with
    | false =>
      go_wp2_with (go_at_call 14; refine (alive16 _).mono ?_; rintro e w3 ⟨rfl, hb3⟩)
      go_ret
      exact ⟨rfl, below_then H2.out hb3⟩
    | true =>
      have HSB := hid (short_sm hsb); clear hsb
      go_wp2_with fail
      refine (new_any (fun _ => True) n _).mono ?_
      rintro e w3 ⟨d1, rfl, hd1, ok1, hb3⟩
      have HD1 := hid hd1; have OK1 := hid ok1
      have H3 := hid (below_then H2.out hb3)
      have HA3 := hid (HA2.out.below hb3); have HB3 := hid (HB2.out.below hb3)
      clear hb3 HA2 HB2 H2 hd1 ok1
      unfold Dk.v
      go_wp2_with fail
      refine (rnew_any (fun _ => True) n (w3.alloc (.cells d1.cells.toArray 24))).mono ?_
      rintro e w4 ⟨d2, rfl, hd2, ok2, hb4⟩
      have HD2 := hid hd2; have OK2 := hid (ok2.below (below_new w4 (.cells d2.cells.toArray 30)))
      have HE1 := hid (((DkAt.new w3 d1 24).below hb4).below (below_new w4 (.cells d2.cells.toArray 30)))
      have HE2 := hid (DkAt.new w4 d2 30)
      have hb5 := below_then (below_then (below_new w3 (.cells d1.cells.toArray 24)) hb4) (below_new w4 (.cells d2.cells.toArray 30))
      have H4 := hid (below_then H3.out hb5)
      have HA4 := hid (HA3.out.below hb5); have HB4 := hid (HB3.out.below hb5)
      have OK1' := hid ((OK1.out).below hb5)
      have DD := hid (HD1.out.trans hd2.symm)
      clear hb4 hb5 HA3 HB3 H3 hd2 ok2
      unfold Dk.v
      go_wp2_with fail
      refine reg_start (by kernel_rfl) fun w5 hHeld hz5 => ?_
      clear hz5
      have hT := hHeld
      have same12 : sameB d1.dd d2.dd = true := sameB_of DD.out
      have HS12 := hid same12; clear same12
      refine wpAnyH_ready (rs := [0]) (by kernel_rfl) (by simp) ?_
      refine reg_do1 rfl (by rfl) (fun K hK => ?_)
      go_simp
      first | (go_at_call 14; refine (alive16 _).mono ?_; rintro e wX ⟨rfl, hbX⟩; replace hT := below_then hT hbX) | (go_at_call 17; refine (right_any a HSA.out _).mono ?_; rintro e wX ⟨rfl, hbX⟩; replace hT := below_then hT hbX) | (go_at_call 19; refine (plain_any _ _).mono ?_; rintro e wX ⟨rfl, hbX⟩; replace hT := below_then hT hbX) | (go_at_call 18; refine (rright_any a HSA.out _).mono ?_; rintro e wX ⟨rfl, hbX⟩; replace hT := below_then hT hbX) | (go_at_call 20; refine (same_any (fun k => k < w.heap.size) a b _ (HA.out.below (below_then H4.out hT)) (HB.out.below (below_then H4.out hT))).mono ?_; rintro e wX ⟨rfl, hbX⟩; replace hT := below_then hT hbX) | (go_at_call 21; have k1 := HA.out.below (below_then H4.out hT); have k2 := HB.out.below (below_then H4.out hT); (with_reducible refine (rsame_any (fun k => k < w.heap.size) a b _ k1 k2).mono ?_); clear k1 k2; rintro e wX ⟨rfl, hbX⟩; replace hT := below_then hT hbX) | (go_at_call 21; refine (rsame_any (fun _ => True) d1 d2 _ (OK1'.out.below hT) (OK2.out.below hT)).mono ?_; rw [HS12.out]; rintro e wX ⟨rfl, hbX⟩; replace hT := below_then hT hbX)
      go_wp2_with fail
      refine hK.out _ _ ?_ (fun hNext => ?_)
      · assumption
      clear hK K hHeld
      refine wpAnyH_base hNext.size hNext fun hHeld => ?_
      clear hNext
      try simp only [Act.put, List.setIfInBounds_toArray, List.set_cons_zero, List.set_cons_succ]
      refine reg_rd 1 (v := ?_) rfl (by kernel_rfl) (by kernel_rfl) (by kernel_rfl) (fun _ _ _ h => h) (by rfl) (by assumption) ?_ ?_
      rotate_left
      · intro w hSw; go_simp; with_reducible rfl
      try simp only [Act.put, List.setIfInBounds_toArray, List.set_cons_zero, List.set_cons_succ]
      refine reg_rd 2 (v := ?_) rfl (by kernel_rfl) (by kernel_rfl) (by kernel_rfl) (fun _ _ _ h => h) (by rfl) (by assumption) ?_ ?_
      rotate_left
      · (intro w' hSw; first | (go_simp; done) | (go_simp; with_reducible rfl) | (obtain ⟨⟨q0, q1, q2, q3, q4⟩, _, _⟩ := (HA4.out.below (below_then hT hSw)).facts; first | (go_simp; done) | (go_simp; with_reducible rfl)) | (obtain ⟨⟨q0, q1, q2, q3, q4⟩, _, _⟩ := (HB4.out.below (below_then hT hSw)).facts; first | (go_simp; done) | (go_simp; with_reducible rfl)) | (obtain ⟨⟨q0, q1, q2, q3, q4⟩, _, _⟩ := (HE1.out.below (below_then hT hSw)).facts; first | (go_simp; done) | (go_simp; with_reducible rfl)) | (obtain ⟨⟨q0, q1, q2, q3, q4⟩, _, _⟩ := (HE2.out.below (below_then hT hSw)).facts; first | (go_simp; done) | (go_simp; with_reducible rfl)))
      try simp only [Act.put, List.setIfInBounds_toArray, List.set_cons_zero, List.set_cons_succ]
      refine reg_rd 4 (v := ?_) rfl (by kernel_rfl) (by kernel_rfl) (by kernel_rfl) (fun _ _ _ h => h) (by rfl) (by assumption) ?_ ?_
      rotate_left
      · (intro w' hSw; first | (go_simp; done) | (go_simp; with_reducible rfl) | (obtain ⟨⟨q0, q1, q2, q3, q4⟩, _, _⟩ := (HA4.out.below (below_then hT hSw)).facts; first | (go_simp; done) | (go_simp; with_reducible rfl)) | (obtain ⟨⟨q0, q1, q2, q3, q4⟩, _, _⟩ := (HB4.out.below (below_then hT hSw)).facts; first | (go_simp; done) | (go_simp; with_reducible rfl)) | (obtain ⟨⟨q0, q1, q2, q3, q4⟩, _, _⟩ := (HE1.out.below (below_then hT hSw)).facts; first | (go_simp; done) | (go_simp; with_reducible rfl)) | (obtain ⟨⟨q0, q1, q2, q3, q4⟩, _, _⟩ := (HE2.out.below (below_then hT hSw)).facts; first | (go_simp; done) | (go_simp; with_reducible rfl)))
      try simp only [Act.put, List.setIfInBounds_toArray, List.set_cons_zero, List.set_cons_succ]
      refine wpAnyH_ready (rs := [3]) (by kernel_rfl) (by simp) ?_
      refine reg_do1 rfl (by rfl) (fun K hK => ?_)
      go_simp
      first | (go_at_call 14; refine (alive16 _).mono ?_; rintro e wX ⟨rfl, hbX⟩; replace hT := below_then hT hbX) | (go_at_call 17; refine (right_any a HSA.out _).mono ?_; rintro e wX ⟨rfl, hbX⟩; replace hT := below_then hT hbX) | (go_at_call 19; refine (plain_any _ _).mono ?_; rintro e wX ⟨rfl, hbX⟩; replace hT := below_then hT hbX) | (go_at_call 18; refine (rright_any a HSA.out _).mono ?_; rintro e wX ⟨rfl, hbX⟩; replace hT := below_then hT hbX) | (go_at_call 20; refine (same_any (fun k => k < w.heap.size) a b _ (HA.out.below (below_then H4.out hT)) (HB.out.below (below_then H4.out hT))).mono ?_; rintro e wX ⟨rfl, hbX⟩; replace hT := below_then hT hbX) | (go_at_call 21; have k1 := HA.out.below (below_then H4.out hT); have k2 := HB.out.below (below_then H4.out hT); (with_reducible refine (rsame_any (fun k => k < w.heap.size) a b _ k1 k2).mono ?_); clear k1 k2; rintro e wX ⟨rfl, hbX⟩; replace hT := below_then hT hbX) | (go_at_call 21; refine (rsame_any (fun _ => True) d1 d2 _ (OK1'.out.below hT) (OK2.out.below hT)).mono ?_; rw [HS12.out]; rintro e wX ⟨rfl, hbX⟩; replace hT := below_then hT hbX)
      go_wp2_with fail
      refine hK.out _ _ ?_ (fun hNext => ?_)
      · assumption
      clear hK K hHeld
      refine wpAnyH_base hNext.size hNext fun hHeld => ?_
      clear hNext
      try simp only [Act.put, List.setIfInBounds_toArray, List.set_cons_zero, List.set_cons_succ]
      refine wpAnyH_ready (rs := [5]) (by kernel_rfl) (by simp) ?_
      refine reg_do1 rfl (by rfl) (fun K hK => ?_)
      go_simp
      first | (go_at_call 14; refine (alive16 _).mono ?_; rintro e wX ⟨rfl, hbX⟩; replace hT := below_then hT hbX) | (go_at_call 17; refine (right_any a HSA.out _).mono ?_; rintro e wX ⟨rfl, hbX⟩; replace hT := below_then hT hbX) | (go_at_call 19; refine (plain_any _ _).mono ?_; rintro e wX ⟨rfl, hbX⟩; replace hT := below_then hT hbX) | (go_at_call 18; refine (rright_any a HSA.out _).mono ?_; rintro e wX ⟨rfl, hbX⟩; replace hT := below_then hT hbX) | (go_at_call 20; refine (same_any (fun k => k < w.heap.size) a b _ (HA.out.below (below_then H4.out hT)) (HB.out.below (below_then H4.out hT))).mono ?_; rintro e wX ⟨rfl, hbX⟩; replace hT := below_then hT hbX) | (go_at_call 21; have k1 := HA.out.below (below_then H4.out hT); have k2 := HB.out.below (below_then H4.out hT); (with_reducible refine (rsame_any (fun k => k < w.heap.size) a b _ k1 k2).mono ?_); clear k1 k2; rintro e wX ⟨rfl, hbX⟩; replace hT := below_then hT hbX) | (go_at_call 21; refine (rsame_any (fun _ => True) d1 d2 _ (OK1'.out.below hT) (OK2.out.below hT)).mono ?_; rw [HS12.out]; rintro e wX ⟨rfl, hbX⟩; replace hT := below_then hT hbX)
      go_wp2_with fail
      refine hK.out _ _ ?_ (fun hNext => ?_)
      · assumption
      clear hK K hHeld
      refine wpAnyH_base hNext.size hNext fun hHeld => ?_
      clear hNext
      try simp only [Act.put, List.setIfInBounds_toArray, List.set_cons_zero, List.set_cons_succ]
      refine wpAnyH_ready (rs := [6]) (by kernel_rfl) (by simp) ?_
      refine reg_do1 rfl (by rfl) (fun K hK => ?_)
      go_simp
      first | (go_at_call 14; refine (alive16 _).mono ?_; rintro e wX ⟨rfl, hbX⟩; replace hT := below_then hT hbX) | (go_at_call 17; refine (right_any a HSA.out _).mono ?_; rintro e wX ⟨rfl, hbX⟩; replace hT := below_then hT hbX) | (go_at_call 19; refine (plain_any _ _).mono ?_; rintro e wX ⟨rfl, hbX⟩; replace hT := below_then hT hbX) | (go_at_call 18; refine (rright_any a HSA.out _).mono ?_; rintro e wX ⟨rfl, hbX⟩; replace hT := below_then hT hbX) | (go_at_call 20; refine (same_any (fun k => k < w.heap.size) a b _ (HA.out.below (below_then H4.out hT)) (HB.out.below (below_then H4.out hT))).mono ?_; rintro e wX ⟨rfl, hbX⟩; replace hT := below_then hT hbX) | (go_at_call 21; have k1 := HA.out.below (below_then H4.out hT); have k2 := HB.out.below (below_then H4.out hT); (with_reducible refine (rsame_any (fun k => k < w.heap.size) a b _ k1 k2).mono ?_); clear k1 k2; rintro e wX ⟨rfl, hbX⟩; replace hT := below_then hT hbX) | (go_at_call 21; refine (rsame_any (fun _ => True) d1 d2 _ (OK1'.out.below hT) (OK2.out.below hT)).mono ?_; rw [HS12.out]; rintro e wX ⟨rfl, hbX⟩; replace hT := below_then hT hbX)
      go_wp2_with fail
      refine hK.out _ _ ?_ (fun hNext => ?_)
      · assumption
      clear hK K hHeld
      refine wpAnyH_base hNext.size hNext fun hHeld => ?_
      clear hNext
      try simp only [Act.put, List.setIfInBounds_toArray, List.set_cons_zero, List.set_cons_succ]
      refine reg_rd 7 (v := ?_) rfl (by kernel_rfl) (by kernel_rfl) (by kernel_rfl) (fun _ _ _ h => h) (by rfl) (by assumption) ?_ ?_
      rotate_left
      · intro w hSw; go_simp; with_reducible rfl
      try simp only [Act.put, List.setIfInBounds_toArray, List.set_cons_zero, List.set_cons_succ]
      refine reg_rd 8 (v := ?_) rfl (by kernel_rfl) (by kernel_rfl) (by kernel_rfl) (fun _ _ _ h => h) (by rfl) (by assumption) ?_ ?_
      rotate_left
      · intro w hSw; go_simp; with_reducible rfl
      try simp only [Act.put, List.setIfInBounds_toArray, List.set_cons_zero, List.set_cons_succ]
      refine reg_rd 9 (v := ?_) rfl (by kernel_rfl) (by kernel_rfl) (by kernel_rfl) (fun _ _ _ h => h) (by rfl) (by assumption) ?_ ?_
      rotate_left
      · intro w hSw; go_simp; with_reducible rfl
      try simp only [Act.put, List.setIfInBounds_toArray, List.set_cons_zero, List.set_cons_succ]
      refine reg_rd 10 (v := ?_) rfl (by kernel_rfl) (by kernel_rfl) (by kernel_rfl) (fun _ _ _ h => h) (by rfl) (by assumption) ?_ ?_
      rotate_left
      · (intro w' hSw; first | (go_simp; done) | (go_simp; with_reducible rfl) | (obtain ⟨⟨q0, q1, q2, q3, q4⟩, _, _⟩ := (HA4.out.below (below_then hT hSw)).facts; first | (go_simp; done) | (go_simp; with_reducible rfl)) | (obtain ⟨⟨q0, q1, q2, q3, q4⟩, _, _⟩ := (HB4.out.below (below_then hT hSw)).facts; first | (go_simp; done) | (go_simp; with_reducible rfl)) | (obtain ⟨⟨q0, q1, q2, q3, q4⟩, _, _⟩ := (HE1.out.below (below_then hT hSw)).facts; first | (go_simp; done) | (go_simp; with_reducible rfl)) | (obtain ⟨⟨q0, q1, q2, q3, q4⟩, _, _⟩ := (HE2.out.below (below_then hT hSw)).facts; first | (go_simp; done) | (go_simp; with_reducible rfl)))
      try simp only [Act.put, List.setIfInBounds_toArray, List.set_cons_zero, List.set_cons_succ]
      refine reg_rd 11 (v := ?_) rfl (by kernel_rfl) (by kernel_rfl) (by kernel_rfl) (fun _ _ _ h => h) (by rfl) (by assumption) ?_ ?_
      rotate_left
      · (intro w' hSw; first | (go_simp; done) | (go_simp; with_reducible rfl) | (obtain ⟨⟨q0, q1, q2, q3, q4⟩, _, _⟩ := (HA4.out.below (below_then hT hSw)).facts; first | (go_simp; done) | (go_simp; with_reducible rfl)) | (obtain ⟨⟨q0, q1, q2, q3, q4⟩, _, _⟩ := (HB4.out.below (below_then hT hSw)).facts; first | (go_simp; done) | (go_simp; with_reducible rfl)) | (obtain ⟨⟨q0, q1, q2, q3, q4⟩, _, _⟩ := (HE1.out.below (below_then hT hSw)).facts; first | (go_simp; done) | (go_simp; with_reducible rfl)) | (obtain ⟨⟨q0, q1, q2, q3, q4⟩, _, _⟩ := (HE2.out.below (below_then hT hSw)).facts; first | (go_simp; done) | (go_simp; with_reducible rfl)))
      try simp only [Act.put, List.setIfInBounds_toArray, List.set_cons_zero, List.set_cons_succ]
      refine reg_rd 13 (v := ?_) rfl (by kernel_rfl) (by kernel_rfl) (by kernel_rfl) (fun _ _ _ h => h) (by rfl) (by assumption) ?_ ?_
      rotate_left
      · (intro w' hSw; first | (go_simp; done) | (go_simp; with_reducible rfl) | (obtain ⟨⟨q0, q1, q2, q3, q4⟩, _, _⟩ := (HA4.out.below (below_then hT hSw)).facts; first | (go_simp; done) | (go_simp; with_reducible rfl)) | (obtain ⟨⟨q0, q1, q2, q3, q4⟩, _, _⟩ := (HB4.out.below (below_then hT hSw)).facts; first | (go_simp; done) | (go_simp; with_reducible rfl)) | (obtain ⟨⟨q0, q1, q2, q3, q4⟩, _, _⟩ := (HE1.out.below (below_then hT hSw)).facts; first | (go_simp; done) | (go_simp; with_reducible rfl)) | (obtain ⟨⟨q0, q1, q2, q3, q4⟩, _, _⟩ := (HE2.out.below (below_then hT hSw)).facts; first | (go_simp; done) | (go_simp; with_reducible rfl)))
      try simp only [Act.put, List.setIfInBounds_toArray, List.set_cons_zero, List.set_cons_succ]
      refine reg_rd 15 (v := ?_) rfl (by kernel_rfl) (by kernel_rfl) (by kernel_rfl) (fun _ _ _ h => h) (by rfl) (by assumption) ?_ ?_
      rotate_left
      · (intro w' hSw; first | (go_simp; done) | (go_simp; with_reducible rfl) | (obtain ⟨⟨q0, q1, q2, q3, q4⟩, _, _⟩ := (HA4.out.below (below_then hT hSw)).facts; first | (go_simp; done) | (go_simp; with_reducible rfl)) | (obtain ⟨⟨q0, q1, q2, q3, q4⟩, _, _⟩ := (HB4.out.below (below_then hT hSw)).facts; first | (go_simp; done) | (go_simp; with_reducible rfl)) | (obtain ⟨⟨q0, q1, q2, q3, q4⟩, _, _⟩ := (HE1.out.below (below_then hT hSw)).facts; first | (go_simp; done) | (go_simp; with_reducible rfl)) | (obtain ⟨⟨q0, q1, q2, q3, q4⟩, _, _⟩ := (HE2.out.below (below_then hT hSw)).facts; first | (go_simp; done) | (go_simp; with_reducible rfl)))
      try simp only [Act.put, List.setIfInBounds_toArray, List.set_cons_zero, List.set_cons_succ]
      refine wpAnyH_ready (rs := [12]) (by kernel_rfl) (by simp) ?_
      refine reg_do1 rfl (by rfl) (fun K hK => ?_)
      go_simp
      first | (go_at_call 14; refine (alive16 _).mono ?_; rintro e wX ⟨rfl, hbX⟩; replace hT := below_then hT hbX) | (go_at_call 17; refine (right_any a HSA.out _).mono ?_; rintro e wX ⟨rfl, hbX⟩; replace hT := below_then hT hbX) | (go_at_call 19; refine (plain_any _ _).mono ?_; rintro e wX ⟨rfl, hbX⟩; replace hT := below_then hT hbX) | (go_at_call 18; refine (rright_any a HSA.out _).mono ?_; rintro e wX ⟨rfl, hbX⟩; replace hT := below_then hT hbX) | (go_at_call 20; refine (same_any (fun k => k < w.heap.size) a b _ (HA.out.below (below_then H4.out hT)) (HB.out.below (below_then H4.out hT))).mono ?_; rintro e wX ⟨rfl, hbX⟩; replace hT := below_then hT hbX) | (go_at_call 21; have k1 := HA.out.below (below_then H4.out hT); have k2 := HB.out.below (below_then H4.out hT); (with_reducible refine (rsame_any (fun k => k < w.heap.size) a b _ k1 k2).mono ?_); clear k1 k2; rintro e wX ⟨rfl, hbX⟩; replace hT := below_then hT hbX) | (go_at_call 21; refine (rsame_any (fun _ => True) d1 d2 _ (OK1'.out.below hT) (OK2.out.below hT)).mono ?_; rw [HS12.out]; rintro e wX ⟨rfl, hbX⟩; replace hT := below_then hT hbX)
      go_wp2_with fail
      refine hK.out _ _ ?_ (fun hNext => ?_)
      · assumption
      clear hK K hHeld
      refine wpAnyH_base hNext.size hNext fun hHeld => ?_
      clear hNext
      try simp only [Act.put, List.setIfInBounds_toArray, List.set_cons_zero, List.set_cons_succ]
      refine wpAnyH_ready (rs := [14]) (by kernel_rfl) (by simp) ?_
      refine reg_do1 rfl (by rfl) (fun K hK => ?_)
      go_simp
      first | (go_at_call 14; refine (alive16 _).mono ?_; rintro e wX ⟨rfl, hbX⟩; replace hT := below_then hT hbX) | (go_at_call 17; refine (right_any a HSA.out _).mono ?_; rintro e wX ⟨rfl, hbX⟩; replace hT := below_then hT hbX) | (go_at_call 19; refine (plain_any _ _).mono ?_; rintro e wX ⟨rfl, hbX⟩; replace hT := below_then hT hbX) | (go_at_call 18; refine (rright_any a HSA.out _).mono ?_; rintro e wX ⟨rfl, hbX⟩; replace hT := below_then hT hbX) | (go_at_call 20; refine (same_any (fun k => k < w.heap.size) a b _ (HA.out.below (below_then H4.out hT)) (HB.out.below (below_then H4.out hT))).mono ?_; rintro e wX ⟨rfl, hbX⟩; replace hT := below_then hT hbX) | (go_at_call 21; have k1 := HA.out.below (below_then H4.out hT); have k2 := HB.out.below (below_then H4.out hT); (with_reducible refine (rsame_any (fun k => k < w.heap.size) a b _ k1 k2).mono ?_); clear k1 k2; rintro e wX ⟨rfl, hbX⟩; replace hT := below_then hT hbX) | (go_at_call 21; refine (rsame_any (fun _ => True) d1 d2 _ (OK1'.out.below hT) (OK2.out.below hT)).mono ?_; rw [HS12.out]; rintro e wX ⟨rfl, hbX⟩; replace hT := below_then hT hbX)
      go_wp2_with fail
      refine hK.out _ _ ?_ (fun hNext => ?_)
      · assumption
      clear hK K hHeld
      refine wpAnyH_base hNext.size hNext fun hHeld => ?_
      clear hNext
      try simp only [Act.put, List.setIfInBounds_toArray, List.set_cons_zero, List.set_cons_succ]
      refine wpAnyH_ready (rs := [16]) (by kernel_rfl) (by simp) ?_
      refine reg_do1 rfl (by rfl) (fun K hK => ?_)
      go_simp
      first | (go_at_call 14; refine (alive16 _).mono ?_; rintro e wX ⟨rfl, hbX⟩; replace hT := below_then hT hbX) | (go_at_call 17; refine (right_any a HSA.out _).mono ?_; rintro e wX ⟨rfl, hbX⟩; replace hT := below_then hT hbX) | (go_at_call 19; refine (plain_any _ _).mono ?_; rintro e wX ⟨rfl, hbX⟩; replace hT := below_then hT hbX) | (go_at_call 18; refine (rright_any a HSA.out _).mono ?_; rintro e wX ⟨rfl, hbX⟩; replace hT := below_then hT hbX) | (go_at_call 20; refine (same_any (fun k => k < w.heap.size) a b _ (HA.out.below (below_then H4.out hT)) (HB.out.below (below_then H4.out hT))).mono ?_; rintro e wX ⟨rfl, hbX⟩; replace hT := below_then hT hbX) | (go_at_call 21; have k1 := HA.out.below (below_then H4.out hT); have k2 := HB.out.below (below_then H4.out hT); (with_reducible refine (rsame_any (fun k => k < w.heap.size) a b _ k1 k2).mono ?_); clear k1 k2; rintro e wX ⟨rfl, hbX⟩; replace hT := below_then hT hbX) | (go_at_call 21; refine (rsame_any (fun _ => True) d1 d2 _ (OK1'.out.below hT) (OK2.out.below hT)).mono ?_; rw [HS12.out]; rintro e wX ⟨rfl, hbX⟩; replace hT := below_then hT hbX)
      go_wp2_with fail
      refine hK.out _ _ ?_ (fun hNext => ?_)
      · assumption
      clear hK K hHeld
      refine wpAnyH_base hNext.size hNext fun hHeld => ?_
      clear hNext
      try simp only [Act.put, List.setIfInBounds_toArray, List.set_cons_zero, List.set_cons_succ]
      refine wpAnyH_ready (rs := [17]) (by kernel_rfl) (by simp) ?_
      refine reg_do1 rfl (by rfl) (fun K hK => ?_)
      go_simp
      first | (go_at_call 14; refine (alive16 _).mono ?_; rintro e wX ⟨rfl, hbX⟩; replace hT := below_then hT hbX) | (go_at_call 17; refine (right_any a HSA.out _).mono ?_; rintro e wX ⟨rfl, hbX⟩; replace hT := below_then hT hbX) | (go_at_call 19; refine (plain_any _ _).mono ?_; rintro e wX ⟨rfl, hbX⟩; replace hT := below_then hT hbX) | (go_at_call 18; refine (rright_any a HSA.out _).mono ?_; rintro e wX ⟨rfl, hbX⟩; replace hT := below_then hT hbX) | (go_at_call 20; refine (same_any (fun k => k < w.heap.size) a b _ (HA.out.below (below_then H4.out hT)) (HB.out.below (below_then H4.out hT))).mono ?_; rintro e wX ⟨rfl, hbX⟩; replace hT := below_then hT hbX) | (go_at_call 21; have k1 := HA.out.below (below_then H4.out hT); have k2 := HB.out.below (below_then H4.out hT); (with_reducible refine (rsame_any (fun k => k < w.heap.size) a b _ k1 k2).mono ?_); clear k1 k2; rintro e wX ⟨rfl, hbX⟩; replace hT := below_then hT hbX) | (go_at_call 21; refine (rsame_any (fun _ => True) d1 d2 _ (OK1'.out.below hT) (OK2.out.below hT)).mono ?_; rw [HS12.out]; rintro e wX ⟨rfl, hbX⟩; replace hT := below_then hT hbX)
      go_wp2_with fail
      refine hK.out _ _ ?_ (fun hNext => ?_)
      · assumption
      clear hK K hHeld
      refine wpAnyH_base hNext.size hNext fun hHeld => ?_
      clear hNext
      try simp only [Act.put, List.setIfInBounds_toArray, List.set_cons_zero, List.set_cons_succ]
      refine reg_rd 18 (v := ?_) rfl (by kernel_rfl) (by kernel_rfl) (by kernel_rfl) (fun _ _ _ h => h) (by rfl) (by assumption) ?_ ?_
      rotate_left
      · intro w hSw; go_simp; with_reducible rfl
      try simp only [Act.put, List.setIfInBounds_toArray, List.set_cons_zero, List.set_cons_succ]
      refine reg_rd 19 (v := ?_) rfl (by kernel_rfl) (by kernel_rfl) (by kernel_rfl) (fun _ _ _ h => h) (by rfl) (by assumption) ?_ ?_
      rotate_left
      · intro w hSw; go_simp; with_reducible rfl
      try simp only [Act.put, List.setIfInBounds_toArray, List.set_cons_zero, List.set_cons_succ]
      refine reg_rd 20 (v := ?_) rfl (by kernel_rfl) (by kernel_rfl) (by kernel_rfl) (fun _ _ _ h => h) (by rfl) (by assumption) ?_ ?_
      rotate_left
      · intro w hSw; go_simp; with_reducible rfl
      try simp only [Act.put, List.setIfInBounds_toArray, List.set_cons_zero, List.set_cons_succ]
      refine reg_rd 21 (v := ?_) rfl (by kernel_rfl) (by kernel_rfl) (by kernel_rfl) (fun _ _ _ h => h) (by rfl) (by assumption) ?_ ?_
      rotate_left
      · (intro w' hSw; first | (go_simp; done) | (go_simp; with_reducible rfl) | (obtain ⟨⟨q0, q1, q2, q3, q4⟩, _, _⟩ := (HA4.out.below (below_then hT hSw)).facts; first | (go_simp; done) | (go_simp; with_reducible rfl)) | (obtain ⟨⟨q0, q1, q2, q3, q4⟩, _, _⟩ := (HB4.out.below (below_then hT hSw)).facts; first | (go_simp; done) | (go_simp; with_reducible rfl)) | (obtain ⟨⟨q0, q1, q2, q3, q4⟩, _, _⟩ := (HE1.out.below (below_then hT hSw)).facts; first | (go_simp; done) | (go_simp; with_reducible rfl)) | (obtain ⟨⟨q0, q1, q2, q3, q4⟩, _, _⟩ := (HE2.out.below (below_then hT hSw)).facts; first | (go_simp; done) | (go_simp; with_reducible rfl)))
      try simp only [Act.put, List.setIfInBounds_toArray, List.set_cons_zero, List.set_cons_succ]
      refine reg_rd 23 (v := ?_) rfl (by kernel_rfl) (by kernel_rfl) (by kernel_rfl) (fun _ _ _ h => h) (by rfl) (by assumption) ?_ ?_
      rotate_left
      · (intro w' hSw; first | (go_simp; done) | (go_simp; with_reducible rfl) | (obtain ⟨⟨q0, q1, q2, q3, q4⟩, _, _⟩ := (HA4.out.below (below_then hT hSw)).facts; first | (go_simp; done) | (go_simp; with_reducible rfl)) | (obtain ⟨⟨q0, q1, q2, q3, q4⟩, _, _⟩ := (HB4.out.below (below_then hT hSw)).facts; first | (go_simp; done) | (go_simp; with_reducible rfl)) | (obtain ⟨⟨q0, q1, q2, q3, q4⟩, _, _⟩ := (HE1.out.below (below_then hT hSw)).facts; first | (go_simp; done) | (go_simp; with_reducible rfl)) | (obtain ⟨⟨q0, q1, q2, q3, q4⟩, _, _⟩ := (HE2.out.below (below_then hT hSw)).facts; first | (go_simp; done) | (go_simp; with_reducible rfl)))
      try simp only [Act.put, List.setIfInBounds_toArray, List.set_cons_zero, List.set_cons_succ]
      refine wpAnyH_ready (rs := [22]) (by kernel_rfl) (by simp) ?_
      refine reg_do1 rfl (by rfl) (fun K hK => ?_)
      go_simp
      first | (go_at_call 14; refine (alive16 _).mono ?_; rintro e wX ⟨rfl, hbX⟩; replace hT := below_then hT hbX) | (go_at_call 17; refine (right_any a HSA.out _).mono ?_; rintro e wX ⟨rfl, hbX⟩; replace hT := below_then hT hbX) | (go_at_call 19; refine (plain_any _ _).mono ?_; rintro e wX ⟨rfl, hbX⟩; replace hT := below_then hT hbX) | (go_at_call 18; refine (rright_any a HSA.out _).mono ?_; rintro e wX ⟨rfl, hbX⟩; replace hT := below_then hT hbX) | (go_at_call 20; refine (same_any (fun k => k < w.heap.size) a b _ (HA.out.below (below_then H4.out hT)) (HB.out.below (below_then H4.out hT))).mono ?_; rintro e wX ⟨rfl, hbX⟩; replace hT := below_then hT hbX) | (go_at_call 21; have k1 := HA.out.below (below_then H4.out hT); have k2 := HB.out.below (below_then H4.out hT); (with_reducible refine (rsame_any (fun k => k < w.heap.size) a b _ k1 k2).mono ?_); clear k1 k2; rintro e wX ⟨rfl, hbX⟩; replace hT := below_then hT hbX) | (go_at_call 21; refine (rsame_any (fun _ => True) d1 d2 _ (OK1'.out.below hT) (OK2.out.below hT)).mono ?_; rw [HS12.out]; rintro e wX ⟨rfl, hbX⟩; replace hT := below_then hT hbX)
      go_wp2_with fail
      refine hK.out _ _ ?_ (fun hNext => ?_)
      · assumption
      clear hK K hHeld
      refine wpAnyH_base hNext.size hNext fun hHeld => ?_
      clear hNext
      try simp only [Act.put, List.setIfInBounds_toArray, List.set_cons_zero, List.set_cons_succ]
      refine wpAnyH_ready (rs := [24]) (by kernel_rfl) (by simp) ?_
      refine reg_do1 rfl (by rfl) (fun K hK => ?_)
      go_simp
      first | (go_at_call 14; refine (alive16 _).mono ?_; rintro e wX ⟨rfl, hbX⟩; replace hT := below_then hT hbX) | (go_at_call 17; refine (right_any a HSA.out _).mono ?_; rintro e wX ⟨rfl, hbX⟩; replace hT := below_then hT hbX) | (go_at_call 19; refine (plain_any _ _).mono ?_; rintro e wX ⟨rfl, hbX⟩; replace hT := below_then hT hbX) | (go_at_call 18; refine (rright_any a HSA.out _).mono ?_; rintro e wX ⟨rfl, hbX⟩; replace hT := below_then hT hbX) | (go_at_call 20; refine (same_any (fun k => k < w.heap.size) a b _ (HA.out.below (below_then H4.out hT)) (HB.out.below (below_then H4.out hT))).mono ?_; rintro e wX ⟨rfl, hbX⟩; replace hT := below_then hT hbX) | (go_at_call 21; have k1 := HA.out.below (below_then H4.out hT); have k2 := HB.out.below (below_then H4.out hT); (with_reducible refine (rsame_any (fun k => k < w.heap.size) a b _ k1 k2).mono ?_); clear k1 k2; rintro e wX ⟨rfl, hbX⟩; replace hT := below_then hT hbX) | (go_at_call 21; refine (rsame_any (fun _ => True) d1 d2 _ (OK1'.out.below hT) (OK2.out.below hT)).mono ?_; rw [HS12.out]; rintro e wX ⟨rfl, hbX⟩; replace hT := below_then hT hbX)
      go_wp2_with fail
      refine hK.out _ _ ?_ (fun hNext => ?_)
      · assumption
      clear hK K hHeld
      refine wpAnyH_base hNext.size hNext fun hHeld => ?_
      clear hNext
      try simp only [Act.put, List.setIfInBounds_toArray, List.set_cons_zero, List.set_cons_succ]
      refine reg_rd 25 (v := ?_) rfl (by kernel_rfl) (by kernel_rfl) (by kernel_rfl) (fun _ _ _ h => h) (by rfl) (by assumption) ?_ ?_
      rotate_left
      · intro w hSw; go_simp; with_reducible rfl
      try simp only [Act.put, List.setIfInBounds_toArray, List.set_cons_zero, List.set_cons_succ]
      refine reg_rd 26 (v := ?_) rfl (by kernel_rfl) (by kernel_rfl) (by kernel_rfl) (fun _ _ _ h => h) (by rfl) (by assumption) ?_ ?_
      rotate_left
      · intro w hSw; go_simp; with_reducible rfl
      try simp only [Act.put, List.setIfInBounds_toArray, List.set_cons_zero, List.set_cons_succ]
      refine reg_rd 27 (v := ?_) rfl (by kernel_rfl) (by kernel_rfl) (by kernel_rfl) (fun _ _ _ h => h) (by rfl) (by assumption) ?_ ?_
      rotate_left
      · intro w hSw; go_simp; with_reducible rfl
      try simp only [Act.put, List.setIfInBounds_toArray, List.set_cons_zero, List.set_cons_succ]
      refine reg_rd 28 (v := ?_) rfl (by kernel_rfl) (by kernel_rfl) (by kernel_rfl) (fun _ _ _ h => h) (by rfl) (by assumption) ?_ ?_
      rotate_left
      · intro w hSw; go_simp; with_reducible rfl
      try simp only [Act.put, List.setIfInBounds_toArray, List.set_cons_zero, List.set_cons_succ]
      refine reg_rd 29 (v := ?_) rfl (by kernel_rfl) (by kernel_rfl) (by kernel_rfl) (fun _ _ _ h => h) (by rfl) (by assumption) ?_ ?_
      rotate_left
      · intro w hSw; go_simp; with_reducible rfl
      try simp only [Act.put, List.setIfInBounds_toArray, List.set_cons_zero, List.set_cons_succ]
      refine reg_rd 30 (v := ?_) rfl (by kernel_rfl) (by kernel_rfl) (by kernel_rfl) (fun _ _ _ h => h) (by rfl) (by assumption) ?_ ?_
      rotate_left
      · intro w hSw; go_simp; with_reducible rfl
      try simp only [Act.put, List.setIfInBounds_toArray, List.set_cons_zero, List.set_cons_succ]
      refine reg_rd 31 (v := ?_) rfl (by kernel_rfl) (by kernel_rfl) (by kernel_rfl) (fun _ _ _ h => h) (by rfl) (by assumption) ?_ ?_
      rotate_left
      · intro w hSw; go_simp; with_reducible rfl
      try simp only [Act.put, List.setIfInBounds_toArray, List.set_cons_zero, List.set_cons_succ]
      refine wpAnyH_done (by kernel_rfl) ?_ _
      go_wp2_with fail
      go_ret
      exact ⟨rfl, below_then H4.out hT⟩
end Go.Proofs.Ythboeilpeggpoaa
