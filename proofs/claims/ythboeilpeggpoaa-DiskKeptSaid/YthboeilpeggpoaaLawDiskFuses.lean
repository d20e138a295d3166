/-
  DiskFuses: a disk with a fuse bears just so many acts.
-/
import Derived.Test.YthboeilpeggpoaaLawDiskReplaces
namespace Go.Proofs.Ythboeilpeggpoaa
open Go.RowKit
/-- A disk that is up, and right, with a fuse of m. -/
def Fz (y : DD) (m : Int) : Prop := y.down = false ∧ y.fuse = m ∧ 0 ≤ y.cap ∧ y.cap ≤ 1000000 ∧ ((y.safe.length + y.loose.length : Nat) : Int) ≤ y.cap
theorem fz_act {y : DD} {m : Int} (h : Fz y m) (hm : 0 < m) : actS y = (⟨y.cap, y.safe, y.loose, false, m - 1⟩, 0) := by
  obtain ⟨cap, safe, loose, down, fuse⟩ := y
  obtain ⟨h1, h2, _⟩ := h
  simp only at h1 h2
  subst h1 h2
  unfold actS
  rw [if_neg (by simp), if_neg (by simp; omega), if_pos (by simpa using hm)]
theorem fz_do {y : DD} {m long : Int} {g : DD → DD} (h : Fz y m) (hm : 0 < m) (hg : ∀ x : DD, x.cap = y.cap → x.safe = y.safe → x.loose = y.loose → ¬ y.cap < long → (g x).cap = y.cap ∧ (g x).down = x.down ∧ (g x).fuse = x.fuse ∧ (((g x).safe.length + (g x).loose.length : Nat) : Int) ≤ y.cap) :
    ((doS y long g).2 == 11) = false ∧ Fz (doS y long g).1 (m - 1) := by
  have ha := fz_act h hm
  unfold doS
  rw [ha]
  simp only [if_true]
  by_cases hl : y.cap < long
  · rw [if_pos hl]
    exact ⟨rfl, rfl, rfl, h.2.2⟩
  · rw [if_neg hl]
    obtain ⟨g1, g2, g3, g4⟩ := hg ⟨y.cap, y.safe, y.loose, false, m - 1⟩ rfl rfl rfl hl
    exact ⟨rfl, g2, g3, by rw [g1]; exact h.2.2.1, by rw [g1]; exact h.2.2.2.1, by rw [g1]; exact g4⟩
theorem fz_write {y : DD} {m : Int} (b : Bytes) (h : Fz y m) (hm : 0 < m) : ((writeS y b).2 == 11) = false ∧ Fz (writeS y b).1 (m - 1) :=
  fz_do h hm fun x h1 h2 h3 hl => ⟨h1, rfl, rfl, by simp only [addS, List.length_append]; rw [h2, h3]; unfold longS at hl; omega⟩
theorem fz_sync {y : DD} {m : Int} (h : Fz y m) (hm : 0 < m) : ((syncS y).2 == 11) = false ∧ Fz (syncS y).1 (m - 1) :=
  fz_do h hm fun x h1 h2 h3 hl => ⟨h1, rfl, rfl, by simp only [allS, List.length_append, List.length_nil]; rw [h2, h3]; unfold longS at hl; omega⟩
theorem fz_replace {y : DD} {m : Int} (b : Bytes) (h : Fz y m) (hm : 0 < m) : ((replaceS y b).2 == 11) = false ∧ Fz (replaceS y b).1 (m - 1) :=
  fz_do h hm fun x h1 h2 h3 hl => ⟨h1, rfl, rfl, by simp only [otherS, List.length_nil]; omega⟩
theorem fz_blow {y : DD} (m : Int) (h1 : y.down = false) (h2 : rightB y = true) : Fz (blowS y m) m := by
  unfold rightB at h2
  rw [decide_eq_true_eq] at h2
  unfold blowS
  rw [if_neg (by simp [h1])]
  exact ⟨h1, rfl, h2⟩
theorem fz_end {y : DD} (h : Fz y 0) : syncS y = (⟨y.cap, y.safe, y.loose, true, 0⟩, 11) := by
  obtain ⟨cap, safe, loose, down, fuse⟩ := y
  obtain ⟨h1, h2, _⟩ := h
  simp only at h1 h2
  subst h1 h2
  simp [syncS, doS, actS]
theorem down_write (cap f : Int) (s l b : Bytes) : writeS ⟨cap, s, l, true, f⟩ b = (⟨cap, s, l, true, f⟩, 11) := by simp [writeS, doS, actS]
theorem down_read (cap f : Int) (s l : Bytes) : readS ⟨cap, s, l, true, f⟩ = ([], 11) := by simp [readS]
theorem crash_sync {cap f : Int} {s l : Bytes} (dn : Bool) (h : ((s.length + l.length : Nat) : Int) ≤ cap) : (syncS (crashS ⟨cap, s, l, dn, f⟩ 0)).2 = 0 ∧ (syncS (crashS ⟨cap, s, l, dn, f⟩ 0)).1.down = false := by
  have hk : keepN 0 l.length = 0 := by unfold keepN; omega
  have hl : ¬ cap < ((longS ⟨cap, s ++ l.take 0, [], false, -1⟩ : Nat) : Int) := by simp [longS]; omega
  have hc : crashS ⟨cap, s, l, dn, f⟩ 0 = ⟨cap, s ++ l.take 0, [], false, -1⟩ := by simp [crashS, hk]
  rw [hc]
  unfold syncS doS
  have ha : actS ⟨cap, s ++ l.take 0, [], false, -1⟩ = (⟨cap, s ++ l.take 0, [], false, -1⟩, 0) := by simp [actS]
  rw [ha]
  simp only [if_true]
  rw [if_neg hl]
  exact ⟨rfl, rfl⟩
theorem nat_u8 {n : Int} (h : (Lit.int .u8 n).wf = true) : ∃ m : Nat, n = m ∧ m < 256 := by
  simp [Lit.wf, IntKind.min, IntKind.max, IntKind.signed, IntKind.bits] at h
  obtain ⟨m, rfl⟩ := Int.eq_ofNat_of_zero_le h.1
  exact ⟨m, rfl, by omega⟩
theorem fz_sm {x : Dk} {m : Int} (h : Fz x.dd m) : x.sm := by
  have h1 : x.cap ≤ 1000000 := h.2.2.2.1
  have h2 : ((x.s.length + x.l.length : Nat) : Int) ≤ x.cap := h.2.2.2.2
  exact ⟨by omega, by omega⟩
set_option maxHeartbeats 4000000 in
set_option maxRecDepth 20000 in
theorem fuses_far (d : Dk) (A : Option Addr) (b : Bytes) (n c fz : Nat) (hm : b.length = n) (hc : n ≤ c) (hc2 : c ≤ maxLen) (hfz : fz < 256) (w : World) (hd : d.ok (fun k => k < w.heap.size) w) (hb : Sl byteR 1 w.heap.size w A b) (hsa : shortB d.dd = false) :
    Calls Try.prog 6 #[d.v, .int .u8 (fz : Int), .slice A n c] w fun e w' => e = .returned (.bool true) ∧ Below w.heap.size w w' := by
  have DA : DkAt w.heap.size (w.alloc (.cells (Dk.cells d).toArray 24)) d := DkAt.new w d _
  have HDA := hid DA; have HD := hid hd; have HB := hid hb; have HM := hid hm; have HC := hid (And.intro hc hc2); clear DA hd hb hm hc hc2
  have W0 : Below w.heap.size w (w.alloc (.cells (Dk.cells d).toArray 24)) := below_new _ _
  have HW := hid W0; clear W0
  rw [show d.v = .agg #[.int .i64 d.cap, .slice d.A1 d.s.length d.c1, .slice d.A2 d.l.length d.c2, .bool d.down, .int .i64 d.fuse] from rfl]
  go_enter Try.func6, Try.ntmps6
  go_wp2_with fail
  refine (short_any d _).mono ?_
  rintro e w1 ⟨rfl, hb1⟩
  rw [hsa]
  go_wp2_with (go_at_call 14; refine (alive16 _).mono ?_; rintro e w9 ⟨rfl, hb9⟩)
  go_ret
  exact ⟨rfl, below_then (below_then HW.out hb1) hb9⟩
set_option maxHeartbeats 4000000 in
set_option maxRecDepth 20000 in
theorem fuses_long (d : Dk) (A : Option Addr) (b : Bytes) (n c fz : Nat) (hm : b.length = n) (hc : n ≤ c) (hc2 : c ≤ maxLen) (hfz : fz < 256) (w : World) (hd : d.ok (fun k => k < w.heap.size) w) (hb : Sl byteR 1 w.heap.size w A b) (hsa : shortB d.dd = true) (hl : 2000 < n) (hl2 : n ≤ 9223372036854775807) :
    Calls Try.prog 6 #[d.v, .int .u8 (fz : Int), .slice A n c] w fun e w' => e = .returned (.bool true) ∧ Below w.heap.size w w' := by
  have DA : DkAt w.heap.size (w.alloc (.cells (Dk.cells d).toArray 24)) d := DkAt.new w d _
  have HDA := hid DA; have HD := hid hd; have HB := hid hb; have HM := hid hm; have HC := hid (And.intro hc hc2); clear DA hd hb hm hc hc2
  have W0 : Below w.heap.size w (w.alloc (.cells (Dk.cells d).toArray 24)) := below_new _ _
  have HW := hid W0; clear W0
  rw [show d.v = .agg #[.int .i64 d.cap, .slice d.A1 d.s.length d.c1, .slice d.A2 d.l.length d.c2, .bool d.down, .int .i64 d.fuse] from rfl]
  have hl3 : (2000 : Int) < n := by omega
  go_enter Try.func6, Try.ntmps6
  go_wp2_with fail
  refine (short_any d _).mono ?_
  rintro e w1 ⟨rfl, hb1⟩
  rw [hsa]
  go_wp2_with (go_at_call 14; refine (alive16 _).mono ?_; rintro e w9 ⟨rfl, hb9⟩)
  go_ret
  exact ⟨rfl, below_then (below_then HW.out hb1) hb9⟩
set_option maxHeartbeats 4000000 in
set_option maxRecDepth 20000 in
theorem fuses_down (d : Dk) (A : Option Addr) (b : Bytes) (n c fz : Nat) (hm : b.length = n) (hc : n ≤ c) (hc2 : c ≤ maxLen) (hfz : fz < 256) (w : World) (hd : (d.at_ true d.fuse).ok (fun k => k < w.heap.size) w) (hb : Sl byteR 1 w.heap.size w A b) (hsa : shortB (d.at_ true d.fuse).dd = true) (hl : n ≤ 2000) :
    Calls Try.prog 6 #[(d.at_ true d.fuse).v, .int .u8 (fz : Int), .slice A n c] w fun e w' => e = .returned (.bool true) ∧ Below w.heap.size w w' := by
  have DA : DkAt w.heap.size (w.alloc (.cells (Dk.cells (d.at_ true d.fuse)).toArray 24)) (d.at_ true d.fuse) := DkAt.new w (d.at_ true d.fuse) _
  have HDA := hid DA; have HD := hid hd; have HB := hid hb; have HM := hid hm; have HC := hid (And.intro hc hc2); clear DA hd hb hm hc hc2
  have W0 : Below w.heap.size w (w.alloc (.cells (Dk.cells (d.at_ true d.fuse)).toArray 24)) := below_new _ _
  have HW := hid W0; clear W0
  rw [show (d.at_ true d.fuse).v = .agg #[.int .i64 d.cap, .slice d.A1 d.s.length d.c1, .slice d.A2 d.l.length d.c2, .bool true, .int .i64 d.fuse] from rfl]
  have hl3 : (n : Int) ≤ 2000 := by omega
  have HSM := hid (short_sm hsa)
  go_enter Try.func6, Try.ntmps6
  go_wp2_with fail
  refine (short_any (d.at_ true d.fuse) _).mono ?_
  rintro e w1 ⟨rfl, hb1⟩
  rw [hsa]
  have H1 := hid (below_then HW.out hb1)
  have D1 := HDA.out.below hb1
  obtain ⟨⟨q0, q1, q2, q3, q4⟩, _, _⟩ := D1.facts
  simp only [Dk.at_] at q0 q1 q2 q3 q4
  have HD1 := hid D1; clear D1 hb1 hsa HDA
  go_wp2_with (go_at_call 14; refine (alive16 _).mono ?_; rintro e w9 ⟨rfl, hb9⟩)
  go_ret
  exact ⟨rfl, below_then H1.out hb9⟩
set_option maxHeartbeats 4000000 in
set_option maxRecDepth 20000 in
theorem fuses_wrong (d : Dk) (A : Option Addr) (b : Bytes) (n c fz : Nat) (hm : b.length = n) (hc : n ≤ c) (hc2 : c ≤ maxLen) (hfz : fz < 256) (w : World) (hd : (d.at_ false d.fuse).ok (fun k => k < w.heap.size) w) (hb : Sl byteR 1 w.heap.size w A b) (hsa : shortB (d.at_ false d.fuse).dd = true) (hl : n ≤ 2000) (hrt : rightB (d.at_ false d.fuse).dd = false) :
    Calls Try.prog 6 #[(d.at_ false d.fuse).v, .int .u8 (fz : Int), .slice A n c] w fun e w' => e = .returned (.bool true) ∧ Below w.heap.size w w' := by
  have DA : DkAt w.heap.size (w.alloc (.cells (Dk.cells (d.at_ false d.fuse)).toArray 24)) (d.at_ false d.fuse) := DkAt.new w (d.at_ false d.fuse) _
  have HDA := hid DA; have HD := hid hd; have HB := hid hb; have HM := hid hm; have HC := hid (And.intro hc hc2); clear DA hd hb hm hc hc2
  have W0 : Below w.heap.size w (w.alloc (.cells (Dk.cells (d.at_ false d.fuse)).toArray 24)) := below_new _ _
  have HW := hid W0; clear W0
  rw [show (d.at_ false d.fuse).v = .agg #[.int .i64 d.cap, .slice d.A1 d.s.length d.c1, .slice d.A2 d.l.length d.c2, .bool false, .int .i64 d.fuse] from rfl]
  have hl3 : (n : Int) ≤ 2000 := by omega
  have HSM := hid (short_sm hsa)
  go_enter Try.func6, Try.ntmps6
  go_wp2_with fail
  refine (short_any (d.at_ false d.fuse) _).mono ?_
  rintro e w1 ⟨rfl, hb1⟩
  rw [hsa]
  have H1 := hid (below_then HW.out hb1)
  have D1 := HDA.out.below hb1
  obtain ⟨⟨q0, q1, q2, q3, q4⟩, _, _⟩ := D1.facts
  simp only [Dk.at_] at q0 q1 q2 q3 q4
  have HD1 := hid D1; clear D1 hb1 hsa HDA
  go_wp2_with fail
  clear q0 q1 q2 q3 q4
  refine (plain_any (d.at_ false d.fuse) _).mono ?_
  rintro e w2 ⟨rfl, hb2⟩
  have H2 := hid (below_then H1.out hb2)
  have HD2 := hid (HD1.out.below hb2); clear hb2 HD1 H1
  go_wp2_with fail
  refine (rright_any (d.at_ false d.fuse) HSM.out _).mono ?_
  rintro e w3 ⟨rfl, hb3⟩
  rw [hrt]
  have H3 := hid (below_then H2.out hb3)
  have D3 := HD2.out.below hb3
  clear hb3 HD2 H2
  go_wp2_with (go_at_call 14; refine (alive16 _).mono ?_; rintro e w9 ⟨rfl, hb9⟩)
  go_ret
  exact ⟨rfl, below_then H3.out hb9⟩
set_option maxHeartbeats 4000000 in
set_option maxRecDepth 20000 in
theorem fuses_main (d : Dk) (A : Option Addr) (b : Bytes) (n c fz : Nat) (hm : b.length = n) (hc : n ≤ c) (hc2 : c ≤ maxLen) (hfz : fz < 256) (w : World) (hd : (d.at_ false d.fuse).ok (fun k => k < w.heap.size) w) (hb : Sl byteR 1 w.heap.size w A b) (hsa : shortB (d.at_ false d.fuse).dd = true) (hl : n ≤ 2000) (hrt : rightB (d.at_ false d.fuse).dd = true) :
    Calls Try.prog 6 #[(d.at_ false d.fuse).v, .int .u8 (fz : Int), .slice A n c] w fun e w' => e = .returned (.bool true) ∧ Below w.heap.size w w' := by
  have DA : DkAt w.heap.size (w.alloc (.cells (Dk.cells (d.at_ false d.fuse)).toArray 24)) (d.at_ false d.fuse) := DkAt.new w (d.at_ false d.fuse) _
  have HDA := hid DA; have HD := hid hd; have HB := hid hb; have HM := hid hm; have HC := hid (And.intro hc hc2); clear DA hd hb hm hc hc2
  have W0 : Below w.heap.size w (w.alloc (.cells (Dk.cells (d.at_ false d.fuse)).toArray 24)) := below_new _ _
  have HW := hid W0; clear W0
  rw [show (d.at_ false d.fuse).v = .agg #[.int .i64 d.cap, .slice d.A1 d.s.length d.c1, .slice d.A2 d.l.length d.c2, .bool false, .int .i64 d.fuse] from rfl]
  have hl3 : (n : Int) ≤ 2000 := by omega
  have HSM := hid (short_sm hsa)
  go_enter Try.func6, Try.ntmps6
  go_wp2_with fail
  refine (short_any (d.at_ false d.fuse) _).mono ?_
  rintro e w1 ⟨rfl, hb1⟩
  rw [hsa]
  have H1 := hid (below_then HW.out hb1)
  have D1 := HDA.out.below hb1
  obtain ⟨⟨q0, q1, q2, q3, q4⟩, _, _⟩ := D1.facts
  simp only [Dk.at_] at q0 q1 q2 q3 q4
  have HD1 := hid D1; clear D1 hb1 hsa HDA
  go_wp2_with fail
  clear q0 q1 q2 q3 q4
  refine (plain_any (d.at_ false d.fuse) _).mono ?_
  rintro e w2 ⟨rfl, hb2⟩
  have H2 := hid (below_then H1.out hb2)
  have HD2 := hid (HD1.out.below hb2); clear hb2 HD1 H1
  go_wp2_with fail
  refine (rright_any (d.at_ false d.fuse) HSM.out _).mono ?_
  rintro e w3 ⟨rfl, hb3⟩
  rw [hrt]
  have H3 := hid (below_then H2.out hb3)
  have D3 := HD2.out.below hb3
  clear hb3 HD2 H2
  have HRT := hid hrt; clear hrt
  obtain ⟨⟨q0, q1, q2, q3, q4⟩, _, _⟩ := D3.facts
  simp only [Dk.at_] at q0 q1 q2 q3 q4
  have hf1 : (0 : Int) ≤ (fz : Int) := by omega
  have hf2 : (fz : Int) ≤ 255 := by omega
  go_wp2_with fail
  clear q0 q1 q2 q3 q4
  obtain ⟨m, hmz, hm20⟩ : ∃ m : Nat, (fz : Int) % 20 = m ∧ m < 20 := ⟨fz % 20, by omega, by omega⟩
  rw [hmz]
  refine (blow_any (Z := fun _ => True) (d.at_ false d.fuse) m (by omega) w3 ((HD.out.below H3.out).mono (fun _ _ => trivial))).mono ?_
  rintro e w4 ⟨x0, rfl, hx0, ok0, hb4⟩
  have hF0 : Fz x0.dd m := by rw [hx0]; exact fz_blow m rfl HRT.out
  have OK0 := hid (((ok0.shrink (N := w4.heap.size + 1) (Nat.le_refl _)).mono (Z' := NotX w4.heap.size) (by rintro k ⟨_, h | h⟩ <;> simp <;> omega)).below (below_new w4 (.cells x0.cells.toArray 24)))
  have DX0 := hid (DkAt.new w4 x0 24)
  have H4 := hid (below_then (below_then H3.out hb4) (below_new w4 (.cells x0.cells.toArray 24)))
  have hwX : w.heap.size ≤ w4.heap.size := (below_then H3.out hb4).size
  have HF0 := hid hF0; have HWX := hid hwX
  clear hF0 ok0 hb4 hx0 D3 hmz hf1 hf2 hwX HRT HSM H3
  rw [show x0.v = .agg x0.cells.toArray from rfl]
  unfold Dk.cells
  go_wp2_with fail
  go_loopw [9] (fun i wr => ∃ (k : Nat) (x : Dk), k ≤ m ∧ i = .int .i64 k ∧ DkAt w4.heap.size wr x ∧ x.ok (NotX w4.heap.size) wr ∧ Fz x.dd ((m : Int) - k) ∧ Below w.heap.size w wr) (fun i _ => m - (intOf i).toNat)
  case atStart => exact ⟨0, x0, Nat.zero_le _, rfl, DX0.out, OK0.out, by simpa using HF0.out, H4.out⟩
  case round =>
    obtain ⟨k, x, hk, rfl, dx, okx, hf, hbr⟩ := hrel
    have hsm := fz_sm hf
    have hlX := dx.lt
    obtain ⟨⟨q0, q1, q2, q3, q4⟩, _, _⟩ := dx.facts
    have DX := hid dx; have OKX := hid okx; have HF := hid hf; have HBR := hid hbr; have HSMX := hid hsm; clear dx okx hf hbr hsm
    by_cases hlt : k < m
    · have hk3 : k % 3 = 0 ∨ k % 3 = 1 ∨ k % 3 = 2 := by omega
      rcases hk3 with h3 | h3 | h3
      · have t1 : ((k : Int) % 3 == 0) = true := by simp; omega
        go_wp2_with fail
        clear q0 q1 q2 q3 q4
        refine (write_any (Z := NotX w4.heap.size) x A b n c HM.out (by omega) HC.out.1 HC.out.2 HSMX.out _ (HB.out.call HBR.out) (by intro j hj; simp; omega) OKX.out).mono ?_
        rintro e w5 ⟨y, rfl, hy, oky, hb5⟩
        obtain ⟨hz, hfy⟩ := fz_write b HF.out (by omega)
        rw [← hy] at hfy
        obtain ⟨v, hv⟩ : ∃ v : Dk, y = v.at_ false v.fuse := ⟨y, by obtain ⟨_, _, _, _, _, _, _, dn, _⟩ := y; have : dn = false := hfy.1; subst this; rfl⟩
        subst hv
        generalize (writeS x.dd b).2 = zz at *
        obtain ⟨⟨p0, p1, p2, p3, p4⟩, ⟨z0, z1, z2, z3, z4⟩, _⟩ := (DX.out.below hb5).facts
        have HFY := hid hfy; have OKY := hid oky; have HB5 := hid hb5; clear hfy oky hb5 hy
        rw [show (v.at_ false v.fuse).v = .agg #[.int .i64 v.cap, .slice v.A1 v.s.length v.c1, .slice v.A2 v.l.length v.c2, .bool false, .int .i64 v.fuse] from rfl]
        go_wp2_with fail
        go_roundw
        case rel => exact ⟨k + 1, (v.at_ false v.fuse), by omega, by go_num, (DX.out.below HB5.out).set (y := (v.at_ false v.fuse)), OKY.out.agree (setCells_agree (by simp) (Dk.cells (v.at_ false v.fuse)) 0 w5), by rw [show (m : Int) - ((k + 1 : Nat) : Int) = (m : Int) - k - 1 by omega]; exact HFY.out, setCells_below (below_then HBR.out HB5.out) HWX.out (Dk.cells (v.at_ false v.fuse)) 0⟩
        case measure => simp [intOf]; omega
      · have t1 : ((k : Int) % 3 == 0) = false := by simp; omega
        have t2 : ((k : Int) % 3 == 1) = true := by simp; omega
        go_wp2_with fail
        clear q0 q1 q2 q3 q4
        refine (sync_any (Z := NotX w4.heap.size) x HSMX.out _ (by intro j hj; simp; omega) OKX.out).mono ?_
        rintro e w5 ⟨y, rfl, hy, oky, hb5⟩
        obtain ⟨hz, hfy⟩ := fz_sync HF.out (by omega)
        rw [← hy] at hfy
        obtain ⟨v, hv⟩ : ∃ v : Dk, y = v.at_ false v.fuse := ⟨y, by obtain ⟨_, _, _, _, _, _, _, dn, _⟩ := y; have : dn = false := hfy.1; subst this; rfl⟩
        subst hv
        generalize (syncS x.dd).2 = zz at *
        obtain ⟨⟨p0, p1, p2, p3, p4⟩, ⟨z0, z1, z2, z3, z4⟩, _⟩ := (DX.out.below hb5).facts
        have HFY := hid hfy; have OKY := hid oky; have HB5 := hid hb5; clear hfy oky hb5 hy
        rw [show (v.at_ false v.fuse).v = .agg #[.int .i64 v.cap, .slice v.A1 v.s.length v.c1, .slice v.A2 v.l.length v.c2, .bool false, .int .i64 v.fuse] from rfl]
        go_wp2_with fail
        go_roundw
        case rel => exact ⟨k + 1, (v.at_ false v.fuse), by omega, by go_num, (DX.out.below HB5.out).set (y := (v.at_ false v.fuse)), OKY.out.agree (setCells_agree (by simp) (Dk.cells (v.at_ false v.fuse)) 0 w5), by rw [show (m : Int) - ((k + 1 : Nat) : Int) = (m : Int) - k - 1 by omega]; exact HFY.out, setCells_below (below_then HBR.out HB5.out) HWX.out (Dk.cells (v.at_ false v.fuse)) 0⟩
        case measure => simp [intOf]; omega
      · have t1 : ((k : Int) % 3 == 0) = false := by simp; omega
        have t2 : ((k : Int) % 3 == 1) = false := by simp; omega
        go_wp2_with fail
        clear q0 q1 q2 q3 q4
        refine (replace_any (Z := NotX w4.heap.size) x A b n c HM.out (by omega) HC.out.1 HC.out.2 HSMX.out _ (HB.out.call HBR.out) (by intro j hj; simp; omega) OKX.out).mono ?_
        rintro e w5 ⟨y, rfl, hy, oky, hb5⟩
        obtain ⟨hz, hfy⟩ := fz_replace b HF.out (by omega)
        rw [← hy] at hfy
        obtain ⟨v, hv⟩ : ∃ v : Dk, y = v.at_ false v.fuse := ⟨y, by obtain ⟨_, _, _, _, _, _, _, dn, _⟩ := y; have : dn = false := hfy.1; subst this; rfl⟩
        subst hv
        generalize (replaceS x.dd b).2 = zz at *
        obtain ⟨⟨p0, p1, p2, p3, p4⟩, ⟨z0, z1, z2, z3, z4⟩, _⟩ := (DX.out.below hb5).facts
        have HFY := hid hfy; have OKY := hid oky; have HB5 := hid hb5; clear hfy oky hb5 hy
        rw [show (v.at_ false v.fuse).v = .agg #[.int .i64 v.cap, .slice v.A1 v.s.length v.c1, .slice v.A2 v.l.length v.c2, .bool false, .int .i64 v.fuse] from rfl]
        go_wp2_with fail
        go_roundw
        case rel => exact ⟨k + 1, (v.at_ false v.fuse), by omega, by go_num, (DX.out.below HB5.out).set (y := (v.at_ false v.fuse)), OKY.out.agree (setCells_agree (by simp) (Dk.cells (v.at_ false v.fuse)) 0 w5), by rw [show (m : Int) - ((k + 1 : Nat) : Int) = (m : Int) - k - 1 by omega]; exact HFY.out, setCells_below (below_then HBR.out HB5.out) HWX.out (Dk.cells (v.at_ false v.fuse)) 0⟩
        case measure => simp [intOf]; omega
    · obtain rfl : k = m := by omega
      go_wp2_with fail
      clear q0 q1 q2 q3 q4
      have hf0 : Fz x.dd 0 := by have := HF.out; rwa [Int.sub_self] at this
      have he := fz_end hf0
      have hle : ((x.s.length + x.l.length : Nat) : Int) ≤ x.cap := hf0.2.2.2.2
      refine (sync_any (Z := NotX w4.heap.size) x HSMX.out _ (by intro j hj; simp; omega) OKX.out).mono ?_
      rintro e w5 ⟨y, rfl, hy, oky, hb5⟩
      have hy : y.dd = ⟨x.cap, x.s, x.l, true, 0⟩ := hy.trans (by rw [he]; rfl)
      rw [show (syncS x.dd).2 = 11 by rw [he]]
      obtain ⟨Y1, y1, Y2, y2, rfl⟩ := dk_of hy
      have OKY := hid ((oky.mono (Z' := fun _ => True) (fun _ _ => trivial)).below (below_new w5 (.cells (Dk.cells (⟨x.cap, Y1, x.s, y1, Y2, x.l, y2, true, 0⟩ : Dk)).toArray 24)))
      have DY := hid (DkAt.new w5 (⟨x.cap, Y1, x.s, y1, Y2, x.l, y2, true, 0⟩ : Dk) 24)
      have H5 := hid (below_then (below_then HBR.out hb5) (below_new w5 (.cells (Dk.cells (⟨x.cap, Y1, x.s, y1, Y2, x.l, y2, true, 0⟩ : Dk)).toArray 24)))
      have HLE := hid hle
      have HSY := hid (show Dk.sm (⟨x.cap, Y1, x.s, y1, Y2, x.l, y2, true, 0⟩ : Dk) from ⟨HSMX.out.1, HSMX.out.2⟩)
      clear hf0 he hle oky hb5 hy DX OKX HF HBR
      unfold Dk.v
      go_wp2_with fail
      refine (write_any (Z := fun _ => True) (⟨x.cap, Y1, x.s, y1, Y2, x.l, y2, true, 0⟩ : Dk) A b n c HM.out (by omega) HC.out.1 HC.out.2 HSY.out (w5.alloc (.cells (Dk.cells (⟨x.cap, Y1, x.s, y1, Y2, x.l, y2, true, 0⟩ : Dk)).toArray 24)) (HB.out.call H5.out) (fun _ _ => trivial) OKY.out).mono ?_
      rintro e w6 ⟨u, rfl, hu, oku, hb6⟩
      rw [show (writeS (Dk.dd (⟨x.cap, Y1, x.s, y1, Y2, x.l, y2, true, 0⟩ : Dk)) b).2 = 11 by rw [show Dk.dd (⟨x.cap, Y1, x.s, y1, Y2, x.l, y2, true, 0⟩ : Dk) = ⟨x.cap, x.s, x.l, true, 0⟩ from rfl, down_write]]
      have hb6' := below_then hb6 (below_new w6 (.cells u.cells.toArray 24))
      have OKY6 := hid (OKY.out.below hb6'); have DY6 := DY.out.below hb6'; have H6 := hid (below_then H5.out hb6')
      obtain ⟨⟨q0, q1, q2, q3, q4⟩, _, _⟩ := (DY.out.below hb6).facts
      have HDY6 := hid DY6; clear DY6 hu oku hb6 hb6' OKY DY H5
      rw [show u.v = .agg u.cells.toArray from rfl]
      unfold Dk.cells
      go_wp2_with fail
      clear q0 q1 q2 q3 q4
      refine (read_any (⟨x.cap, Y1, x.s, y1, Y2, x.l, y2, true, 0⟩ : Dk) HSY.out (w6.alloc (.cells u.cells.toArray 24)) OKY6.out).mono ?_
      rintro e w7 ⟨rv, rfl, hown, hb7⟩
      rw [show (readS (Dk.dd (⟨x.cap, Y1, x.s, y1, Y2, x.l, y2, true, 0⟩ : Dk))).2 = 11 by rw [show Dk.dd (⟨x.cap, Y1, x.s, y1, Y2, x.l, y2, true, 0⟩ : Dk) = ⟨x.cap, x.s, x.l, true, 0⟩ from rfl, down_read]]
      have OKY7 := hid (OKY6.out.below hb7); have DY7 := HDY6.out.below hb7; have H7 := hid (below_then H6.out hb7)
      obtain ⟨⟨q0, q1, q2, q3, q4⟩, _, _⟩ := DY7.facts
      have HDY7 := hid DY7; clear DY7 hown hb7 OKY6 HDY6 H6
      go_wp2_with fail
      clear q0 q1 q2 q3 q4
      refine (crash_any (Z := fun _ => True) (⟨x.cap, Y1, x.s, y1, Y2, x.l, y2, true, 0⟩ : Dk) 0 HSY.out w7 (fun _ _ => trivial) OKY7.out).mono ?_
      rintro e w8 ⟨c8, rfl, hc8, okc, hb8⟩
      have hs8 : c8.sm := by
        obtain ⟨_, g2, g3, _⟩ := dk_eq hc8
        have k2 : c8.s = x.s ++ x.l.take (keepN 0 x.l.length) := g2
        have k3 : c8.l = [] := g3
        have hk0 : keepN 0 x.l.length = 0 := by unfold keepN; omega
        rw [hk0] at k2
        exact ⟨by rw [k2]; simpa using HSMX.out.1, by rw [k3]; exact Nat.zero_le _⟩
      obtain ⟨he8, hd8⟩ := crash_sync (f := 0) (s := x.s) (l := x.l) true HLE.out
      rw [show (⟨x.cap, x.s, x.l, true, 0⟩ : DD) = Dk.dd (⟨x.cap, Y1, x.s, y1, Y2, x.l, y2, true, 0⟩ : Dk) from rfl, ← hc8] at he8 hd8
      have H8 := hid (below_then H7.out hb8); have HDY8 := hid (HDY7.out.below hb8)
      have HE8 := hid he8; have HD8 := hid hd8; have OKC := hid okc; have HS8 := hid hs8
      clear hc8 okc hb8 OKY7 HDY7 H7 he8 hd8 hs8
      rw [show c8.v = .agg c8.cells.toArray from rfl]
      unfold Dk.cells
      go_wp2_with fail
      refine (sync_any (Z := fun _ => True) c8 HS8.out w8 (fun _ _ => trivial) OKC.out).mono ?_
      rintro e w9 ⟨z, rfl, hz, okz, hb9⟩
      rw [HE8.out]
      have hdz : z.down = false := by
        have : z.dd.down = false := by rw [hz]; exact HD8.out
        exact this
      obtain ⟨v, rfl⟩ : ∃ v : Dk, z = v.at_ false v.fuse := ⟨z, by obtain ⟨_, _, _, _, _, _, _, dn, _⟩ := z; have : dn = false := hdz; subst this; rfl⟩
      have hb9' := below_then hb9 (below_new w9 (.cells (v.at_ false v.fuse).cells.toArray 24))
      have DZ := hid (DkAt.new w9 (v.at_ false v.fuse) 24)
      have H9 := hid (below_then H8.out hb9'); have HDY9 := hid (HDY8.out.below hb9')
      clear hz okz hb9 hb9' hdz H8 HDY8
      rw [show (v.at_ false v.fuse).v = .agg #[.int .i64 v.cap, .slice v.A1 v.s.length v.c1, .slice v.A2 v.l.length v.c2, .bool false, .int .i64 v.fuse] from rfl]
      go_wp2_with (go_at_call 14; refine (alive16 _).mono ?_; rintro e wE ⟨rfl, hbE⟩; obtain ⟨⟨_, _, _, a3, _⟩, _, _⟩ := (HDY9.out.below hbE).facts; obtain ⟨⟨_, _, _, b3, _⟩, _, _⟩ := (DZ.out.below hbE).facts; simp only [Dk.at_] at b3)
      go_ret
      exact ⟨rfl, below_then H9.out hbE⟩
theorem fuses_any (d : Dk) (A : Option Addr) (b : Bytes) (n c fz : Nat) (hm : b.length = n) (hc : n ≤ c) (hc2 : c ≤ maxLen) (hfz : fz < 256) (w : World) (hd : d.ok (fun k => k < w.heap.size) w) (hb : Sl byteR 1 w.heap.size w A b) :
    Calls Try.prog 6 #[d.v, .int .u8 (fz : Int), .slice A n c] w fun e w' => e = .returned (.bool true) ∧ Below w.heap.size w w' := by
  by_cases hl : n ≤ 2000
  · cases hsa : shortB d.dd with
    | false => exact fuses_far d A b n c fz hm hc hc2 hfz w hd hb hsa
    | true =>
      cases hdn : d.down with
      | true =>
        have hq : d = d.at_ true d.fuse := by obtain ⟨_, _, _, _, _, _, _, dn, _⟩ := d; have : dn = true := hdn; subst this; rfl
        rw [hq] at hsa hd ⊢
        exact fuses_down d A b n c fz hm hc hc2 hfz w hd hb hsa hl
      | false =>
        have hq : d = d.at_ false d.fuse := by obtain ⟨_, _, _, _, _, _, _, dn, _⟩ := d; have : dn = false := hdn; subst this; rfl
        rw [hq] at hsa hd ⊢
        cases hrt : rightB (d.at_ false d.fuse).dd with
        | false => exact fuses_wrong d A b n c fz hm hc hc2 hfz w hd hb hsa hl hrt
        | true => exact fuses_main d A b n c fz hm hc hc2 hfz w hd hb hsa hl hrt
  · cases hsa : shortB d.dd with
    | false => exact fuses_far d A b n c fz hm hc hc2 hfz w hd hb hsa
    | true => exact fuses_long d A b n c fz hm hc hc2 hfz w hd hb hsa (by omega) (by unfold maxLen at hc2; omega)
end Go.Proofs.Ythboeilpeggpoaa
