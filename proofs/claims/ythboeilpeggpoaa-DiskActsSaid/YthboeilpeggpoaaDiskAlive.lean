/-
  The live question of the laws on disks is answered true.
-/
import Derived.Test.YthboeilpeggpoaaDiskG
import Derived.Lib.SlBytesConst
namespace Go.Proofs.Ythboeilpeggpoaa
open Go.RowKit
theorem dk_of {d : Dk} {cap fuse : Int} {s l : Bytes} {down : Bool} (h : d.dd = ⟨cap, s, l, down, fuse⟩) : ∃ A1 c1 A2 c2, d = ⟨cap, A1, s, c1, A2, l, c2, down, fuse⟩ := by
  obtain ⟨cap', A1, s', c1, A2, l', c2, down', fuse'⟩ := d
  simp only [Dk.dd, DD.mk.injEq] at h
  obtain ⟨rfl, rfl, rfl, rfl, rfl⟩ := h
  exact ⟨_, _, _, _, rfl⟩
theorem sl_new {w : World} {q : Nat} (l : Bytes) (t : TypeId) (hq : q = w.heap.size) : Sl byteR 1 (w.alloc (.cells (l.map byteV).toArray t)).heap.size (w.alloc (.cells (l.map byteV).toArray t)) (some ⟨q, 0, none⟩) l :=
  sl_made (B := 0) (cs_map _ _ l) (Nat.zero_le _) hq
theorem a16_1 : newD 10 = (⟨10, [], [], false, -1⟩, 0) := by rfl
theorem a16_2 : writeS ⟨10, [], [], false, -1⟩ [97, 98] = (⟨10, [], [97, 98], false, -1⟩, 0) := by rfl
theorem a16_3 : blowS ⟨10, [], [97, 98], false, -1⟩ 1 = ⟨10, [], [97, 98], false, 1⟩ := by rfl
theorem a16_4 : syncS ⟨10, [], [97, 98], false, 1⟩ = (⟨10, [97, 98], [], false, 0⟩, 0) := by rfl
theorem a16_5 : writeS ⟨10, [97, 98], [], false, 0⟩ [99] = (⟨10, [97, 98], [], true, 0⟩, 11) := by rfl
theorem a16_6 : crashS ⟨10, [97, 98], [], true, 0⟩ 9 = ⟨10, [97, 98], [], false, -1⟩ := by rfl
theorem a16_7 : readS ⟨10, [97, 98], [], false, -1⟩ = ([97, 98], 0) := by rfl
/-- A row of bytes that a conversion has marked. -/
theorem sl_newm {w : World} {q : Nat} (l : Bytes) (t : TypeId) (fr : Nat × Nat) (hq : q = w.heap.size) : Sl byteR 1 (w.alloc (.cells (l.map byteV).toArray t fr)).heap.size (w.alloc (.cells (l.map byteV).toArray t fr)) (some ⟨q, 0, none⟩) l := by
  subst hq
  refine RdC.sl (xs := l.map byteV) ⟨by simp, fun _ => ⟨_, _, rfl, fun j u hu => ?_⟩⟩ (cs_map _ _ l) (by rintro b o h; cases h; simp)
  rw [Nat.zero_add, World.cell?_alloc_mark]
  simpa using hu
/-- A disk that lies in block X, which may be written. -/
structure DkAt (X : Nat) (w : World) (x : Dk) : Prop where
  lt : X < w.heap.size
  fz : ∀ j, j < 5 → w.frozen? ⟨X, j, none⟩ = false
  r : w.rangeAt X 0 x.cells
section
variable {X : Nat} {w w' : World} {x y : Dk}
theorem DkAt.below (h : DkAt X w x) (hb : Below w.heap.size w w') : DkAt X w' x :=
  ⟨Nat.lt_of_lt_of_le h.lt hb.size, fun j hj => (hb.frozen (p := ⟨X, j, none⟩) h.lt).trans (h.fz j hj), fun j v hv => (hb.cell (p := ⟨X, 0 + j, none⟩) h.lt).trans (h.r j v hv)⟩
theorem DkAt.there (h : DkAt X w x) : w.there X 0 5 := fun j hj => by
  rw [Nat.zero_add]
  refine ⟨?_, h.fz j hj⟩
  have := h.r j (x.cells[j]'hj) (List.getElem?_eq_getElem hj)
  rw [Nat.zero_add] at this
  rw [this]; rfl
theorem DkAt.set (h : DkAt X w x) : DkAt X (w.setCells X 0 y.cells) y := by
  have hag := setCells_agree (Z := fun _ => False) (X := X) (by simp) y.cells 0 w
  exact ⟨Nat.lt_of_lt_of_le h.lt hag.size, fun j hj => by rw [World.frozen?_setCells]; exact h.fz j hj, World.rangeAt_setCells_same _ _ 0 _ h.there⟩
theorem DkAt.new (w : World) (x : Dk) (t : TypeId) : DkAt w.heap.size (w.alloc (.cells x.cells.toArray t)) x :=
  ⟨by simp, fun j _ => World.frozen?_alloc_new _ _ _ _, range_new rfl⟩
theorem DkAt.facts (h : DkAt X w x) : (w.cell? ⟨X, 0, none⟩ = some (.int .i64 x.cap) ∧ w.cell? ⟨X, 1, none⟩ = some (.slice x.A1 x.s.length x.c1) ∧ w.cell? ⟨X, 2, none⟩ = some (.slice x.A2 x.l.length x.c2) ∧ w.cell? ⟨X, 3, none⟩ = some (.bool x.down) ∧ w.cell? ⟨X, 4, none⟩ = some (.int .i64 x.fuse)) ∧
    (w.frozen? ⟨X, 0, none⟩ = false ∧ w.frozen? ⟨X, 1, none⟩ = false ∧ w.frozen? ⟨X, 2, none⟩ = false ∧ w.frozen? ⟨X, 3, none⟩ = false ∧ w.frozen? ⟨X, 4, none⟩ = false) ∧ X < w.heap.size := by
  have r := h.r
  refine ⟨⟨?_, ?_, ?_, ?_, ?_⟩, ⟨h.fz 0 (by omega), h.fz 1 (by omega), h.fz 2 (by omega), h.fz 3 (by omega), h.fz 4 (by omega)⟩, h.lt⟩
  · simpa using r 0 _ rfl
  · simpa using r 1 _ rfl
  · simpa using r 2 _ rfl
  · simpa using r 3 _ rfl
  · simpa using r 4 _ rfl
end
/-- The world in which the variable's block was laid, and nothing else turned since. -/
abbrev NotX (X : Nat) : Nat → Prop := fun k => k ≠ X
set_option maxHeartbeats 4000000 in
set_option maxRecDepth 20000 in
theorem alive16 (w : World) : Calls Try.prog 14 #[] w fun e w' => e = .returned (.bool true) ∧ Below w.heap.size w w' := by
  have kc := fun (W : World) (C : Array Value) (n c : Nat) => Lib.run_convert_bytes_const (P := Try.prog) W 22 5 C n c Try.underlying22 Try.underlying5
  go_enter Try.func14, Try.ntmps14
  go_wp2_with fail
  refine (new_any (fun _ => True) 10 _).mono ?_
  rw [a16_1]
  rintro e w1 ⟨d1, rfl, hdd, hok, hb1⟩
  obtain ⟨A1, c1, A2, c2, rfl⟩ := dk_of hdd
  have HO := hid ((hok.shrink (N := w1.heap.size + 1) (Nat.le_refl _)).mono (Z' := NotX w1.heap.size) (by rintro k ⟨_, h | h⟩ <;> simp <;> omega))
  have HB := hid hb1
  clear hok hb1 hdd
  unfold Dk.v
  have kc1 := kc (w1.alloc (.cells #[.int .i64 10, .slice A1 0 c1, .slice A2 0 c2, .bool false, .int .i64 (-1)] 24)) #[.int .u8 97, .int .u8 98] 2 2
  simp only [World.size_alloc] at kc1
  go_wp2_with fail
  have hU0 : Below w.heap.size w ((w1.alloc (.cells (Dk.cells ⟨10, A1, [], c1, A2, [], c2, false, -1⟩).toArray 24)).alloc (.cells ([97, 98].map byteV).toArray 5 (2, 3))) := below_alloc (below_alloc HB.out _) _
  refine (write_any (Z := NotX w1.heap.size) ⟨10, A1, [], c1, A2, [], c2, false, -1⟩ (some ⟨w1.heap.size + 1, 0, none⟩) [97, 98] 2 2 rfl (by omega) (by omega) (by decide) ⟨by simp, by simp⟩ _ (sl_newm [97, 98] _ (2, 3) (by simp)) (by intro k hk; simp at hk ⊢; omega) ((HO.out.below (below_new _ (.cells (Dk.cells ⟨10, A1, [], c1, A2, [], c2, false, -1⟩).toArray 24))).below (below_new _ _))).mono ?_
  rw [show writeS (Dk.dd ⟨10, A1, [], c1, A2, [], c2, false, -1⟩) [97, 98] = _ from a16_2]
  rintro e w2 ⟨d2, rfl, hdd, hok, hb2⟩
  obtain ⟨B1, e1, B2, e2, rfl⟩ := dk_of hdd
  have hU := below_then hU0 hb2
  have hD2 : DkAt w1.heap.size w2 (⟨10, A1, [], c1, A2, [], c2, false, -1⟩ : Dk) := ((DkAt.new w1 _ 24).below (below_new _ _)).below hb2
  have HO2 := hid (hok.agree (setCells_agree (X := w1.heap.size) (by simp) (Dk.cells (⟨10, B1, [], e1, B2, [97, 98], e2, false, -1⟩ : Dk)) 0 w2))
  have HD2 := hid (hD2.set (y := (⟨10, B1, [], e1, B2, [97, 98], e2, false, -1⟩ : Dk)))
  have HU2 := hid (setCells_below (X := w1.heap.size) hU HB.out.size (Dk.cells (⟨10, B1, [], e1, B2, [97, 98], e2, false, -1⟩ : Dk)) 0)
  have F := hD2.facts
  simp only [List.length_nil] at F
  obtain ⟨⟨q0, q1, q2, q3, q4⟩, ⟨z0, z1, z2, z3, z4⟩, hlt⟩ := F
  clear hdd hok hb2 hU hU0 hD2 kc1
  unfold Dk.v
  go_wp2_with fail
  clear q0 q1 q2 q3 q4 z0 z1 z2 z3 z4
  refine (blow_any (Z := NotX w1.heap.size) (⟨10, B1, [], e1, B2, [97, 98], e2, false, -1⟩ : Dk) 1 (by decide) (w2.setCells w1.heap.size 0 (Dk.cells (⟨10, B1, [], e1, B2, [97, 98], e2, false, -1⟩ : Dk))) HO2.out).mono ?_
  rw [show blowS (Dk.dd (⟨10, B1, [], e1, B2, [97, 98], e2, false, -1⟩ : Dk)) 1 = _ from a16_3]
  rintro e w3 ⟨d3, rfl, hdd, hok, hb3⟩
  obtain ⟨G1, g1, G2, g2, rfl⟩ := dk_of hdd
  have HO3 := hid hok; have HD3 := hid (HD2.out.below hb3); have HU3 := hid (below_then HU2.out hb3)
  clear hdd hok hb3 HO2 HD2 HU2
  unfold Dk.v
  go_wp2_with fail
  refine (sync_any (Z := NotX w1.heap.size) ⟨10, G1, [], g1, G2, [97, 98], g2, false, 1⟩ ⟨by simp, by simp⟩ w3 (by intro k hk; have := HD3.out.lt; simp; omega) HO3.out).mono ?_
  rw [show syncS (Dk.dd ⟨10, G1, [], g1, G2, [97, 98], g2, false, 1⟩) = _ from a16_4]
  rintro e w4 ⟨d4, rfl, hdd, hok, hb4⟩
  obtain ⟨F1, f1, F2, f2, rfl⟩ := dk_of hdd
  have hD4 := HD3.out.below hb4
  have HO4 := hid (hok.agree (setCells_agree (X := w1.heap.size) (by simp) (Dk.cells (⟨10, F1, [97, 98], f1, F2, [], f2, false, 0⟩ : Dk)) 0 w4))
  have HD4 := hid (hD4.set (y := (⟨10, F1, [97, 98], f1, F2, [], f2, false, 0⟩ : Dk)))
  have HU4 := hid (setCells_below (X := w1.heap.size) (below_then HU3.out hb4) HB.out.size (Dk.cells (⟨10, F1, [97, 98], f1, F2, [], f2, false, 0⟩ : Dk)) 0)
  obtain ⟨⟨q0, q1, q2, q3, q4⟩, ⟨z0, z1, z2, z3, z4⟩, hlt4⟩ := hD4.facts
  clear hdd hok hb4 hD4 HO3 HD3 HU3
  unfold Dk.v
  have kc4 := kc (w4.setCells w1.heap.size 0 (Dk.cells (⟨10, F1, [97, 98], f1, F2, [], f2, false, 0⟩ : Dk))) #[.int .u8 99] 1 1
  simp only [World.size_setCell, World.setCells, Dk.cells, Nat.zero_add, Nat.reduceAdd, List.length_cons, List.length_nil] at kc4
  go_wp2_with fail
  clear q0 q1 q2 q3 q4 z0 z1 z2 z3 z4
  have hz4 : (w4.setCells w1.heap.size 0 (Dk.cells (⟨10, F1, [97, 98], f1, F2, [], f2, false, 0⟩ : Dk))).heap.size = w4.heap.size := by simp [World.setCells, Dk.cells]
  have HZ4 := hid hz4; clear hz4
  refine (write_any (Z := NotX w1.heap.size) (⟨10, F1, [97, 98], f1, F2, [], f2, false, 0⟩ : Dk) (some ⟨w4.heap.size, 0, none⟩) [99] 1 1 rfl (by omega) (by omega) (by decide) ⟨by simp, by simp⟩ ((w4.setCells w1.heap.size 0 (Dk.cells (⟨10, F1, [97, 98], f1, F2, [], f2, false, 0⟩ : Dk))).alloc (.cells ([99].map byteV).toArray 5 (1, 2))) (sl_newm [99] _ (1, 2) HZ4.out.symm) (by intro k hk; simp [HZ4.out] at hk; simp; omega) (HO4.out.below (below_new _ _))).mono ?_
  rw [show writeS (Dk.dd (⟨10, F1, [97, 98], f1, F2, [], f2, false, 0⟩ : Dk)) [99] = _ from a16_5]
  rintro e w5 ⟨d5, rfl, hdd, hok, hb5⟩
  obtain ⟨H1, h1, H2, h2, rfl⟩ := dk_of hdd
  have hD5 := (HD4.out.below (below_new _ _)).below hb5
  have HO5 := hid (hok.agree (setCells_agree (X := w1.heap.size) (by simp) (Dk.cells (⟨10, H1, [97, 98], h1, H2, [], h2, true, 0⟩ : Dk)) 0 w5))
  have HD5 := hid (hD5.set (y := (⟨10, H1, [97, 98], h1, H2, [], h2, true, 0⟩ : Dk)))
  have HU5 := hid (setCells_below (X := w1.heap.size) (below_then (below_alloc HU4.out _) hb5) HB.out.size (Dk.cells (⟨10, H1, [97, 98], h1, H2, [], h2, true, 0⟩ : Dk)) 0)
  obtain ⟨⟨q0, q1, q2, q3, q4⟩, ⟨z0, z1, z2, z3, z4⟩, hlt5⟩ := hD5.facts
  clear hdd hok hb5 hD5 HO4 HD4 HU4 kc4
  unfold Dk.v
  go_wp2_with fail
  clear q0 q1 q2 q3 q4 z0 z1 z2 z3 z4
  refine (crash_any (Z := NotX w1.heap.size) (⟨10, H1, [97, 98], h1, H2, [], h2, true, 0⟩ : Dk) 9 ⟨by simp, by simp⟩ (w5.setCells w1.heap.size 0 (Dk.cells (⟨10, H1, [97, 98], h1, H2, [], h2, true, 0⟩ : Dk))) (by intro k hk; have := HD5.out.lt; simp; omega) HO5.out).mono ?_
  rw [show crashS (Dk.dd (⟨10, H1, [97, 98], h1, H2, [], h2, true, 0⟩ : Dk)) 9 = _ from a16_6]
  rintro e w6 ⟨d6, rfl, hdd, hok, hb6⟩
  obtain ⟨J1, j1, J2, j2, rfl⟩ := dk_of hdd
  have HO6 := hid hok; have hD6 := HD5.out.below hb6; have HU6 := hid (below_then HU5.out hb6)
  clear hdd hok hb6 HO5 HD5 HU5
  unfold Dk.v
  go_wp2_with fail
  refine (read_any (⟨10, J1, [97, 98], j1, J2, [], j2, false, -1⟩ : Dk) ⟨by simp, by simp⟩ w6 HO6.out).mono ?_
  rw [show readS (Dk.dd ⟨10, J1, [97, 98], j1, J2, [], j2, false, -1⟩) = _ from a16_7]
  rintro e w7 ⟨v, rfl, hown, hb7⟩
  obtain ⟨L, k, rfl, _, _, sl⟩ := hown.len (Nat.zero_le _) (m := 2) rfl
  have hcs := conv_str (n := 2) (c := k) rfl sl
  have hD7 := hD6.below hb7
  obtain ⟨⟨q0, q1, q2, q3, q4⟩, ⟨z0, z1, z2, z3, z4⟩, hlt7⟩ := hD7.facts
  have hE := below_then HU6.out hb7
  clear hown sl
  go_wp2_with fail
  go_ret
  exact ⟨rfl, hE⟩
end Go.Proofs.Ythboeilpeggpoaa
