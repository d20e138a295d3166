/-
  DiskReplaces: what is replaced is there, alone, behind any crash.
-/
import Derived.Test.YthboeilpeggpoaaLawDiskMay
namespace Go.Proofs.Ythboeilpeggpoaa
open Go.RowKit
/-- What a replacement comes to. -/
theorem replaceS_ways (x : DD) (b : Bytes) (h : rightB x = true) :
    ((replaceS x b).2 = 0 ∧ ∃ f, (replaceS x b).1 = ⟨x.cap, b, [], false, f⟩) ∨
    ((replaceS x b).2 = 9 ∧ x.cap < (b.length : Int) ∧ ∃ f, (replaceS x b).1 = ⟨x.cap, x.safe, x.loose, false, f⟩) ∨
    ((replaceS x b).2 = 11 ∧ (x.down = true ∨ x.fuse = 0) ∧ ∃ f, (replaceS x b).1 = ⟨x.cap, x.safe, x.loose, true, f⟩) := by
  obtain ⟨cap, safe, loose, down, fuse⟩ := x
  unfold replaceS doS actS otherS
  by_cases h1 : down = true
  · right; right
    simp [h1]
  · by_cases h2 : fuse = 0
    · right; right
      simp [h1, h2]
    · have hd : down = false := by simpa using h1
      by_cases h4 : cap < (b.length : Int)
      · right; left
        by_cases h3 : 0 < fuse <;> simp [h2, h3, h4, hd]
      · left
        by_cases h3 : 0 < fuse <;> simp [h2, h3, h4, hd]
theorem read_crash (cap f k : Int) (b : Bytes) : readS (crashS ⟨cap, b, [], false, f⟩ k) = (b, 0) := by simp [readS, crashS]
theorem short_len {d : Dk} (h : shortB d.dd = true) : d.s.length ≤ 2000 ∧ d.l.length ≤ 2000 := by
  have h : decide (d.s.length ≤ 2000 ∧ d.l.length ≤ 2000) = true := h
  rwa [decide_eq_true_eq] at h
theorem dk_eq {d : Dk} {x : DD} (h : d.dd = x) : d.cap = x.cap ∧ d.s = x.safe ∧ d.l = x.loose ∧ d.down = x.down ∧ d.fuse = x.fuse := by subst h; exact ⟨rfl, rfl, rfl, rfl, rfl⟩
theorem crash_sm {d e : Dk} {k : Int} (h : e.dd = crashS d.dd k) (h1 : d.s.length ≤ 400000) (h2 : d.l.length ≤ 400000) : e.sm := by
  obtain ⟨_, e2, e3, _⟩ := dk_eq h
  have q2 : e.s = d.s ++ d.l.take (keepN k d.l.length) := e2
  have q3 : e.l = [] := e3
  refine ⟨?_, ?_⟩
  · rw [q2, List.length_append, List.length_take]; omega
  · rw [q3]; exact Nat.zero_le _
set_option maxHeartbeats 4000000 in
set_option maxRecDepth 20000 in
theorem replaces_far (d : Dk) (A : Option Addr) (b : Bytes) (n c : Nat) (keep : Int) (hm : b.length = n) (hc : n ≤ c) (hc2 : c ≤ maxLen) (hk : -9223372036854775808 ≤ keep ∧ keep ≤ 9223372036854775807) (w : World) (hd : d.ok (fun k => k < w.heap.size) w) (hb : Sl byteR 1 w.heap.size w A b) (hsa : shortB d.dd = false) :
    Calls Try.prog 7 #[d.v, .slice A n c, .int .i64 keep] w fun e w' => e = .returned (.bool true) ∧ Below w.heap.size w w' := by
  have DA : DkAt w.heap.size (w.alloc (.cells d.cells.toArray 24)) d := DkAt.new w d _
  have HDA := hid DA; have HD := hid hd; have HB := hid hb; have HM := hid hm; have HC := hid (And.intro hc hc2); have HK := hid hk; clear DA hd hb hm hc hc2 hk
  have W0 : Below w.heap.size w (w.alloc (.cells d.cells.toArray 24)) := below_new _ _
  have HW := hid W0; clear W0
  unfold Dk.v
  go_enter Try.func7, Try.ntmps7
  go_wp2_with fail
  refine (short_any d _).mono ?_
  rintro e w1 ⟨rfl, hb1⟩
  rw [hsa]
  go_wp2_with (go_at_call 14; refine (alive16 _).mono ?_; rintro e w3 ⟨rfl, hb3⟩)
  go_ret
  exact ⟨rfl, below_then (below_then HW.out hb1) hb3⟩
set_option maxHeartbeats 4000000 in
set_option maxRecDepth 20000 in
theorem replaces_long (d : Dk) (A : Option Addr) (b : Bytes) (n c : Nat) (keep : Int) (hm : b.length = n) (hc : n ≤ c) (hc2 : c ≤ maxLen) (hk : -9223372036854775808 ≤ keep ∧ keep ≤ 9223372036854775807) (w : World) (hd : d.ok (fun k => k < w.heap.size) w) (hb : Sl byteR 1 w.heap.size w A b) (hsa : shortB d.dd = true) (hl : 2000 < n) (hl2 : n ≤ 9223372036854775807) :
    Calls Try.prog 7 #[d.v, .slice A n c, .int .i64 keep] w fun e w' => e = .returned (.bool true) ∧ Below w.heap.size w w' := by
  have DA : DkAt w.heap.size (w.alloc (.cells d.cells.toArray 24)) d := DkAt.new w d _
  have HDA := hid DA; have HD := hid hd; have HB := hid hb; have HM := hid hm; have HC := hid (And.intro hc hc2); have HK := hid hk; clear DA hd hb hm hc hc2 hk
  have W0 : Below w.heap.size w (w.alloc (.cells d.cells.toArray 24)) := below_new _ _
  have HW := hid W0; clear W0
  have hl3 : (2000 : Int) < n := by omega
  unfold Dk.v
  go_enter Try.func7, Try.ntmps7
  go_wp2_with fail
  refine (short_any d _).mono ?_
  rintro e w1 ⟨rfl, hb1⟩
  rw [hsa]
  go_wp2_with (go_at_call 14; refine (alive16 _).mono ?_; rintro e w3 ⟨rfl, hb3⟩)
  go_ret
  exact ⟨rfl, below_then (below_then HW.out hb1) hb3⟩
set_option maxHeartbeats 4000000 in
set_option maxRecDepth 20000 in
theorem replaces_wrong (d : Dk) (A : Option Addr) (b : Bytes) (n c : Nat) (keep : Int) (hm : b.length = n) (hc : n ≤ c) (hc2 : c ≤ maxLen) (hk : -9223372036854775808 ≤ keep ∧ keep ≤ 9223372036854775807) (w : World) (hd : d.ok (fun k => k < w.heap.size) w) (hb : Sl byteR 1 w.heap.size w A b) (hsa : shortB d.dd = true) (hl : n ≤ 2000) (hrt : rightB d.dd = false) :
    Calls Try.prog 7 #[d.v, .slice A n c, .int .i64 keep] w fun e w' => e = .returned (.bool true) ∧ Below w.heap.size w w' := by
  have DA : DkAt w.heap.size (w.alloc (.cells d.cells.toArray 24)) d := DkAt.new w d _
  have HDA := hid DA; have HD := hid hd; have HB := hid hb; have HM := hid hm; have HC := hid (And.intro hc hc2); have HK := hid hk; clear DA hd hb hm hc hc2 hk
  have W0 : Below w.heap.size w (w.alloc (.cells d.cells.toArray 24)) := below_new _ _
  have HW := hid W0; clear W0
  have hl3 : (n : Int) ≤ 2000 := by omega
  have HSM := hid (short_sm hsa); have HSA := hid hsa
  unfold Dk.v
  go_enter Try.func7, Try.ntmps7
  go_wp2_with fail
  refine (short_any d _).mono ?_
  rintro e w1 ⟨rfl, hb1⟩
  rw [hsa]
  have H1 := hid (below_then HW.out hb1)
  have D1 := HDA.out.below hb1
  obtain ⟨⟨q0, q1, q2, q3, q4⟩, _, _⟩ := D1.facts
  have HD1 := hid D1; clear D1 hb1 hsa HDA
  go_wp2_with fail
  clear q0 q1 q2 q3 q4
  refine (plain_any d _).mono ?_
  rintro e w2 ⟨rfl, hb2⟩
  have H2 := hid (below_then H1.out hb2)
  have HD2 := hid (HD1.out.below hb2); clear hb2 HD1 H1
  go_wp2_with fail
  refine (rright_any d HSM.out _).mono ?_
  rintro e w3 ⟨rfl, hb3⟩
  rw [hrt]
  have H3 := hid (below_then H2.out hb3)
  have D3 := HD2.out.below hb3
  clear hb3 HD2 H2
  go_wp2_with (go_at_call 14; refine (alive16 _).mono ?_; rintro e w9 ⟨rfl, hb9⟩)
  go_ret
  exact ⟨rfl, below_then H3.out hb9⟩
set_option maxHeartbeats 4000000 in
set_option maxRecDepth 20000 in
theorem replaces_ok (d : Dk) (A : Option Addr) (b : Bytes) (n c : Nat) (keep : Int) (hm : b.length = n) (hc : n ≤ c) (hc2 : c ≤ maxLen) (hk : -9223372036854775808 ≤ keep ∧ keep ≤ 9223372036854775807) (w : World) (hd : d.ok (fun k => k < w.heap.size) w) (hb : Sl byteR 1 w.heap.size w A b) (hsa : shortB d.dd = true) (hl : n ≤ 2000) (hrt : rightB d.dd = true) (hz : (replaceS d.dd b).2 = 0) (f : Int) (hx : (replaceS d.dd b).1 = ⟨d.cap, b, [], false, f⟩) :
    Calls Try.prog 7 #[d.v, .slice A n c, .int .i64 keep] w fun e w' => e = .returned (.bool true) ∧ Below w.heap.size w w' := by
  have DA : DkAt w.heap.size (w.alloc (.cells d.cells.toArray 24)) d := DkAt.new w d _
  have HDA := hid DA; have HD := hid hd; have HB := hid hb; have HM := hid hm; have HC := hid (And.intro hc hc2); have HK := hid hk; clear DA hd hb hm hc hc2 hk
  have W0 : Below w.heap.size w (w.alloc (.cells d.cells.toArray 24)) := below_new _ _
  have HW := hid W0; clear W0
  have hl3 : (n : Int) ≤ 2000 := by omega
  have HSM := hid (short_sm hsa); have HSA := hid hsa
  unfold Dk.v
  go_enter Try.func7, Try.ntmps7
  go_wp2_with fail
  refine (short_any d _).mono ?_
  rintro e w1 ⟨rfl, hb1⟩
  rw [hsa]
  have H1 := hid (below_then HW.out hb1)
  have D1 := HDA.out.below hb1
  obtain ⟨⟨q0, q1, q2, q3, q4⟩, _, _⟩ := D1.facts
  have HD1 := hid D1; clear D1 hb1 hsa HDA
  go_wp2_with fail
  clear q0 q1 q2 q3 q4
  refine (plain_any d _).mono ?_
  rintro e w2 ⟨rfl, hb2⟩
  have H2 := hid (below_then H1.out hb2)
  have HD2 := hid (HD1.out.below hb2); clear hb2 HD1 H1
  go_wp2_with fail
  refine (rright_any d HSM.out _).mono ?_
  rintro e w3 ⟨rfl, hb3⟩
  rw [hrt]
  have H3 := hid (below_then H2.out hb3)
  have D3 := HD2.out.below hb3
  clear hb3 HD2 H2
  obtain ⟨⟨q0, q1, q2, q3, q4⟩, _, _⟩ := D3.facts
  have HD3 := hid D3; clear D3
  go_wp2_with fail
  clear q0 q1 q2 q3 q4
  refine (replace_any (Z := fun _ => True) d A b n c HM.out (by omega) HC.out.1 HC.out.2 HSM.out _ (HB.out.call H3.out) (fun _ _ => trivial) ((HD.out.below H3.out).mono (fun _ _ => trivial))).mono ?_
  rintro e w4 ⟨d1, rfl, hd1, ok1, hb4⟩
  rw [hz]
  have hd1 := hd1.trans hx
  obtain ⟨e0, e1, e2, e3, e4⟩ := dk_eq hd1
  have hs1 : d1.s.length ≤ 400000 := by rw [e1]; show b.length ≤ _; rw [HM.out]; omega
  have hs2 : d1.l.length ≤ 400000 := by rw [e2]; exact Nat.zero_le _
  have HE := hid (And.intro e0 (And.intro e1 (And.intro e2 (And.intro e3 e4))))
  have HD1 := hid hd1; have HS1 := hid (And.intro hs1 hs2)
  have DX := hid (DkAt.new w4 d1 24)
  have OK1 := hid (ok1.below (below_new w4 (.cells d1.cells.toArray 24)))
  have H4 := hid (below_then (below_then H3.out hb4) (below_new w4 (.cells d1.cells.toArray 24)))
  have DD4 := hid ((HD3.out.below hb4).below (below_new w4 (.cells d1.cells.toArray 24)))
  clear hd1 e0 e1 e2 e3 e4 hs1 hs2 ok1 hb4 H3 HD3
  unfold Dk.v
  go_wp2_with fail
  refine (crash_any (Z := fun _ => True) d1 keep ⟨by have := HS1.out.1; omega, by have := HS1.out.2; omega⟩ (w4.alloc (.cells d1.cells.toArray 24)) (fun _ _ => trivial) OK1.out).mono ?_
  rintro e w5 ⟨d2, rfl, hd2, ok2, hb5⟩
  have HSM2 := hid (crash_sm hd2 HS1.out.1 HS1.out.2)
  have HD2 := hid hd2; have OK2 := hid ok2
  have HBX5 := hid hb5; have H5 := hid (below_then H4.out hb5); have DX5 := hid (DX.out.below hb5); have DD5 := hid (DD4.out.below hb5)
  clear hd2 ok2 hb5 H4 DX DD4
  unfold Dk.v
  go_wp2_with fail
  refine (read_any d2 HSM2.out w5 OK2.out).mono ?_
  rintro e w6 ⟨v, rfl, hown, hb6⟩
  have HBX := hid (below_then HBX5.out hb6); have H6 := hid (below_then H5.out hb6); have DX6 := DX5.out.below hb6; have DD6 := DD5.out.below hb6
  clear hb6 H5 DX5 DD5
  have hr : readS d2.dd = (b, 0) := by rw [HD2.out, HD1.out]; exact read_crash _ _ _ _
  rw [hr] at hown ⊢
  obtain ⟨AV, cV, rfl, _, _, sV⟩ := hown.len (Nat.zero_le _) HM.out
  have HSV := hid sV; clear hown sV hr
  have HDX := hid DX6; clear DX6 DD6
  go_wp2_with (go_at_call 14; refine (alive16 _).mono ?_; rintro e w7 ⟨rfl, hb7⟩; have k1 := conv_str (c := cV) HM.out (HSV.out.below hb7); have k2 := conv_str (c := c) HM.out (HB.out.below (below_then H6.out hb7)); obtain ⟨⟨_, _, _, q3, _⟩, _, _⟩ := (HDX.out.below hb7).facts; rw [HE.out.2.2.2.1] at q3)
  go_ret
  exact ⟨rfl, below_then H6.out hb7⟩
set_option maxHeartbeats 4000000 in
set_option maxRecDepth 20000 in
theorem replaces_full (d : Dk) (A : Option Addr) (b : Bytes) (n c : Nat) (keep : Int) (hm : b.length = n) (hc : n ≤ c) (hc2 : c ≤ maxLen) (hk : -9223372036854775808 ≤ keep ∧ keep ≤ 9223372036854775807) (w : World) (hd : d.ok (fun k => k < w.heap.size) w) (hb : Sl byteR 1 w.heap.size w A b) (hsa : shortB d.dd = true) (hl : n ≤ 2000) (hrt : rightB d.dd = true) (hf : d.cap < (b.length : Int)) (hz : (replaceS d.dd b).2 = 9) (f : Int) (hx : (replaceS d.dd b).1 = ⟨d.cap, d.s, d.l, false, f⟩) :
    Calls Try.prog 7 #[d.v, .slice A n c, .int .i64 keep] w fun e w' => e = .returned (.bool true) ∧ Below w.heap.size w w' := by
  have HF := hid (show d.cap < (n : Int) by rw [← hm]; exact hf); clear hf
  have DA : DkAt w.heap.size (w.alloc (.cells d.cells.toArray 24)) d := DkAt.new w d _
  have HDA := hid DA; have HD := hid hd; have HB := hid hb; have HM := hid hm; have HC := hid (And.intro hc hc2); have HK := hid hk; clear DA hd hb hm hc hc2 hk
  have W0 : Below w.heap.size w (w.alloc (.cells d.cells.toArray 24)) := below_new _ _
  have HW := hid W0; clear W0
  have hl3 : (n : Int) ≤ 2000 := by omega
  have HSM := hid (short_sm hsa); have HSA := hid hsa
  unfold Dk.v
  go_enter Try.func7, Try.ntmps7
  go_wp2_with fail
  refine (short_any d _).mono ?_
  rintro e w1 ⟨rfl, hb1⟩
  rw [hsa]
  have H1 := hid (below_then HW.out hb1)
  have D1 := HDA.out.below hb1
  obtain ⟨⟨q0, q1, q2, q3, q4⟩, _, _⟩ := D1.facts
  have HD1 := hid D1; clear D1 hb1 hsa HDA
  go_wp2_with fail
  clear q0 q1 q2 q3 q4
  refine (plain_any d _).mono ?_
  rintro e w2 ⟨rfl, hb2⟩
  have H2 := hid (below_then H1.out hb2)
  have HD2 := hid (HD1.out.below hb2); clear hb2 HD1 H1
  go_wp2_with fail
  refine (rright_any d HSM.out _).mono ?_
  rintro e w3 ⟨rfl, hb3⟩
  rw [hrt]
  have H3 := hid (below_then H2.out hb3)
  have D3 := HD2.out.below hb3
  clear hb3 HD2 H2
  obtain ⟨⟨q0, q1, q2, q3, q4⟩, _, _⟩ := D3.facts
  have HD3 := hid D3; clear D3
  go_wp2_with fail
  clear q0 q1 q2 q3 q4
  refine (replace_any (Z := fun _ => True) d A b n c HM.out (by omega) HC.out.1 HC.out.2 HSM.out _ (HB.out.call H3.out) (fun _ _ => trivial) ((HD.out.below H3.out).mono (fun _ _ => trivial))).mono ?_
  rintro e w4 ⟨d1, rfl, hd1, ok1, hb4⟩
  rw [hz]
  have hd1 := hd1.trans hx
  have h6 := short_len HSA.out
  have h6 := short_len HSA.out
  have h6 := short_len HSA.out
  obtain ⟨e0, e1, e2, e3, e4⟩ := dk_eq hd1
  have hs1 : d1.s.length ≤ 400000 := by rw [e1]; show d.s.length ≤ _; have := h6.1; omega
  have hs2 : d1.l.length ≤ 400000 := by rw [e2]; show d.l.length ≤ _; have := h6.2; omega
  have HE := hid (And.intro e0 (And.intro e1 (And.intro e2 (And.intro e3 e4))))
  have HD1 := hid hd1; have HS1 := hid (And.intro hs1 hs2)
  have DX := hid (DkAt.new w4 d1 24)
  have OK1 := hid (ok1.below (below_new w4 (.cells d1.cells.toArray 24)))
  have H4 := hid (below_then (below_then H3.out hb4) (below_new w4 (.cells d1.cells.toArray 24)))
  have DD4 := hid ((HD3.out.below hb4).below (below_new w4 (.cells d1.cells.toArray 24)))
  clear hd1 e0 e1 e2 e3 e4 hs1 hs2 ok1 hb4 H3 HD3
  unfold Dk.v
  go_wp2_with fail
  refine (crash_any (Z := fun _ => True) d1 keep ⟨by have := HS1.out.1; omega, by have := HS1.out.2; omega⟩ (w4.alloc (.cells d1.cells.toArray 24)) (fun _ _ => trivial) OK1.out).mono ?_
  rintro e w5 ⟨d2, rfl, hd2, ok2, hb5⟩
  have HSM2 := hid (crash_sm hd2 HS1.out.1 HS1.out.2)
  have HD2 := hid hd2; have OK2 := hid ok2
  have HBX5 := hid hb5; have H5 := hid (below_then H4.out hb5); have DX5 := hid (DX.out.below hb5); have DD5 := hid (DD4.out.below hb5)
  clear hd2 ok2 hb5 H4 DX DD4
  unfold Dk.v
  go_wp2_with fail
  refine (read_any d2 HSM2.out w5 OK2.out).mono ?_
  rintro e w6 ⟨v, rfl, hown, hb6⟩
  have HBX := hid (below_then HBX5.out hb6); have H6 := hid (below_then H5.out hb6); have DX6 := DX5.out.below hb6; have DD6 := DD5.out.below hb6
  clear hb6 H5 DX5 DD5
  obtain ⟨⟨x0, x1, x2, x3, x4⟩, _, _⟩ := DX6.facts
  obtain ⟨⟨q0, q1, q2, q3, q4⟩, _, _⟩ := DD6.facts
  rw [HE.out.2.2.2.1] at x3
  have q0 := q0; have hf9 := HF.out
  have HDX := hid DX6; have HDD := hid DD6; clear DX6 DD6 hown
  generalize (readS d2.dd).2 = zz at *
  go_wp2_with (go_at_call 14; refine (alive16 _).mono ?_; rintro e w7 ⟨rfl, hb7⟩; obtain ⟨⟨y0, y1, y2, y3, y4⟩, _, _⟩ := (HDX.out.below hb7).facts; obtain ⟨⟨p0, p1, p2, p3, p4⟩, _, _⟩ := (HDD.out.below hb7).facts; rw [HE.out.2.1] at y1; rw [HE.out.2.2.1] at y2; have k1 := conv_str (c := d1.c1) rfl ((show SlZ byteZ 1 (fun _ => True) w7 d1.A1 d.s from HE.out.2.1 ▸ (OK1.out.s1.below (below_then HBX.out hb7))).bsl); have k2 := conv_str (c := d1.c2) rfl ((show SlZ byteZ 1 (fun _ => True) w7 d1.A2 d.l from HE.out.2.2.1 ▸ (OK1.out.s2.below (below_then HBX.out hb7))).bsl); have k3 := conv_str (c := d.c1) rfl (HD.out.below (below_then H6.out hb7)).s1.bsl; have k4 := conv_str (c := d.c2) rfl (HD.out.below (below_then H6.out hb7)).s2.bsl; clear x0 x1 x2 x3 x4 q0 q1 q2 q3 q4)
  go_ret
  exact ⟨rfl, below_then H6.out hb7⟩
set_option maxHeartbeats 4000000 in
set_option maxRecDepth 20000 in
theorem replaces_down1 (d : Dk) (A : Option Addr) (b : Bytes) (n c : Nat) (keep : Int) (hm : b.length = n) (hc : n ≤ c) (hc2 : c ≤ maxLen) (hk : -9223372036854775808 ≤ keep ∧ keep ≤ 9223372036854775807) (w : World) (hd : d.ok (fun k => k < w.heap.size) w) (hb : Sl byteR 1 w.heap.size w A b) (hsa : shortB d.dd = true) (hl : n ≤ 2000) (hrt : rightB d.dd = true) (hf : d.down = true) (hz : (replaceS d.dd b).2 = 11) (f : Int) (hx : (replaceS d.dd b).1 = ⟨d.cap, d.s, d.l, true, f⟩) :
    Calls Try.prog 7 #[d.v, .slice A n c, .int .i64 keep] w fun e w' => e = .returned (.bool true) ∧ Below w.heap.size w w' := by
  have HF := hid hf; clear hf
  have DA : DkAt w.heap.size (w.alloc (.cells d.cells.toArray 24)) d := DkAt.new w d _
  have HDA := hid DA; have HD := hid hd; have HB := hid hb; have HM := hid hm; have HC := hid (And.intro hc hc2); have HK := hid hk; clear DA hd hb hm hc hc2 hk
  have W0 : Below w.heap.size w (w.alloc (.cells d.cells.toArray 24)) := below_new _ _
  have HW := hid W0; clear W0
  have hl3 : (n : Int) ≤ 2000 := by omega
  have HSM := hid (short_sm hsa); have HSA := hid hsa
  unfold Dk.v
  go_enter Try.func7, Try.ntmps7
  go_wp2_with fail
  refine (short_any d _).mono ?_
  rintro e w1 ⟨rfl, hb1⟩
  rw [hsa]
  have H1 := hid (below_then HW.out hb1)
  have D1 := HDA.out.below hb1
  obtain ⟨⟨q0, q1, q2, q3, q4⟩, _, _⟩ := D1.facts
  have HD1 := hid D1; clear D1 hb1 hsa HDA
  go_wp2_with fail
  clear q0 q1 q2 q3 q4
  refine (plain_any d _).mono ?_
  rintro e w2 ⟨rfl, hb2⟩
  have H2 := hid (below_then H1.out hb2)
  have HD2 := hid (HD1.out.below hb2); clear hb2 HD1 H1
  go_wp2_with fail
  refine (rright_any d HSM.out _).mono ?_
  rintro e w3 ⟨rfl, hb3⟩
  rw [hrt]
  have H3 := hid (below_then H2.out hb3)
  have D3 := HD2.out.below hb3
  clear hb3 HD2 H2
  obtain ⟨⟨q0, q1, q2, q3, q4⟩, _, _⟩ := D3.facts
  have HD3 := hid D3; clear D3
  go_wp2_with fail
  clear q0 q1 q2 q3 q4
  refine (replace_any (Z := fun _ => True) d A b n c HM.out (by omega) HC.out.1 HC.out.2 HSM.out _ (HB.out.call H3.out) (fun _ _ => trivial) ((HD.out.below H3.out).mono (fun _ _ => trivial))).mono ?_
  rintro e w4 ⟨d1, rfl, hd1, ok1, hb4⟩
  rw [hz]
  have hd1 := hd1.trans hx
  have h6 := short_len HSA.out
  have h6 := short_len HSA.out
  obtain ⟨e0, e1, e2, e3, e4⟩ := dk_eq hd1
  have hs1 : d1.s.length ≤ 400000 := by rw [e1]; show d.s.length ≤ _; have := h6.1; omega
  have hs2 : d1.l.length ≤ 400000 := by rw [e2]; show d.l.length ≤ _; have := h6.2; omega
  have HE := hid (And.intro e0 (And.intro e1 (And.intro e2 (And.intro e3 e4))))
  have HD1 := hid hd1; have HS1 := hid (And.intro hs1 hs2)
  have DX := hid (DkAt.new w4 d1 24)
  have OK1 := hid (ok1.below (below_new w4 (.cells d1.cells.toArray 24)))
  have H4 := hid (below_then (below_then H3.out hb4) (below_new w4 (.cells d1.cells.toArray 24)))
  have DD4 := hid ((HD3.out.below hb4).below (below_new w4 (.cells d1.cells.toArray 24)))
  clear hd1 e0 e1 e2 e3 e4 hs1 hs2 ok1 hb4 H3 HD3
  unfold Dk.v
  go_wp2_with fail
  refine (crash_any (Z := fun _ => True) d1 keep ⟨by have := HS1.out.1; omega, by have := HS1.out.2; omega⟩ (w4.alloc (.cells d1.cells.toArray 24)) (fun _ _ => trivial) OK1.out).mono ?_
  rintro e w5 ⟨d2, rfl, hd2, ok2, hb5⟩
  have HSM2 := hid (crash_sm hd2 HS1.out.1 HS1.out.2)
  have HD2 := hid hd2; have OK2 := hid ok2
  have HBX5 := hid hb5; have H5 := hid (below_then H4.out hb5); have DX5 := hid (DX.out.below hb5); have DD5 := hid (DD4.out.below hb5)
  clear hd2 ok2 hb5 H4 DX DD4
  unfold Dk.v
  go_wp2_with fail
  refine (read_any d2 HSM2.out w5 OK2.out).mono ?_
  rintro e w6 ⟨v, rfl, hown, hb6⟩
  have HBX := hid (below_then HBX5.out hb6); have H6 := hid (below_then H5.out hb6); have DX6 := DX5.out.below hb6; have DD6 := DD5.out.below hb6
  clear hb6 H5 DX5 DD5
  obtain ⟨⟨x0, x1, x2, x3, x4⟩, _, _⟩ := DX6.facts
  obtain ⟨⟨q0, q1, q2, q3, q4⟩, _, _⟩ := DD6.facts
  rw [HE.out.2.2.2.1] at x3
  rw [HF.out] at q3
  have HDX := hid DX6; have HDD := hid DD6; clear DX6 DD6 hown
  generalize (readS d2.dd).2 = zz at *
  go_wp2_with (go_at_call 14; refine (alive16 _).mono ?_; rintro e w7 ⟨rfl, hb7⟩; obtain ⟨⟨y0, y1, y2, y3, y4⟩, _, _⟩ := (HDX.out.below hb7).facts; obtain ⟨⟨p0, p1, p2, p3, p4⟩, _, _⟩ := (HDD.out.below hb7).facts; rw [HE.out.2.1] at y1; rw [HE.out.2.2.1] at y2; have k1 := conv_str (c := d1.c1) rfl ((show SlZ byteZ 1 (fun _ => True) w7 d1.A1 d.s from HE.out.2.1 ▸ (OK1.out.s1.below (below_then HBX.out hb7))).bsl); have k2 := conv_str (c := d1.c2) rfl ((show SlZ byteZ 1 (fun _ => True) w7 d1.A2 d.l from HE.out.2.2.1 ▸ (OK1.out.s2.below (below_then HBX.out hb7))).bsl); have k3 := conv_str (c := d.c1) rfl (HD.out.below (below_then H6.out hb7)).s1.bsl; have k4 := conv_str (c := d.c2) rfl (HD.out.below (below_then H6.out hb7)).s2.bsl; clear x0 x1 x2 x3 x4 q0 q1 q2 q3 q4)
  go_ret
  exact ⟨rfl, below_then H6.out hb7⟩
set_option maxHeartbeats 4000000 in
set_option maxRecDepth 20000 in
theorem replaces_down2 (d : Dk) (A : Option Addr) (b : Bytes) (n c : Nat) (keep : Int) (hm : b.length = n) (hc : n ≤ c) (hc2 : c ≤ maxLen) (hk : -9223372036854775808 ≤ keep ∧ keep ≤ 9223372036854775807) (w : World) (hd : d.ok (fun k => k < w.heap.size) w) (hb : Sl byteR 1 w.heap.size w A b) (hsa : shortB d.dd = true) (hl : n ≤ 2000) (hrt : rightB d.dd = true) (hf0 : d.down = false) (hf : d.fuse = 0) (hz : (replaceS d.dd b).2 = 11) (f : Int) (hx : (replaceS d.dd b).1 = ⟨d.cap, d.s, d.l, true, f⟩) :
    Calls Try.prog 7 #[d.v, .slice A n c, .int .i64 keep] w fun e w' => e = .returned (.bool true) ∧ Below w.heap.size w w' := by
  have HF := hid (And.intro hf0 hf); clear hf0 hf
  have DA : DkAt w.heap.size (w.alloc (.cells d.cells.toArray 24)) d := DkAt.new w d _
  have HDA := hid DA; have HD := hid hd; have HB := hid hb; have HM := hid hm; have HC := hid (And.intro hc hc2); have HK := hid hk; clear DA hd hb hm hc hc2 hk
  have W0 : Below w.heap.size w (w.alloc (.cells d.cells.toArray 24)) := below_new _ _
  have HW := hid W0; clear W0
  have hl3 : (n : Int) ≤ 2000 := by omega
  have HSM := hid (short_sm hsa); have HSA := hid hsa
  unfold Dk.v
  go_enter Try.func7, Try.ntmps7
  go_wp2_with fail
  refine (short_any d _).mono ?_
  rintro e w1 ⟨rfl, hb1⟩
  rw [hsa]
  have H1 := hid (below_then HW.out hb1)
  have D1 := HDA.out.below hb1
  obtain ⟨⟨q0, q1, q2, q3, q4⟩, _, _⟩ := D1.facts
  have HD1 := hid D1; clear D1 hb1 hsa HDA
  go_wp2_with fail
  clear q0 q1 q2 q3 q4
  refine (plain_any d _).mono ?_
  rintro e w2 ⟨rfl, hb2⟩
  have H2 := hid (below_then H1.out hb2)
  have HD2 := hid (HD1.out.below hb2); clear hb2 HD1 H1
  go_wp2_with fail
  refine (rright_any d HSM.out _).mono ?_
  rintro e w3 ⟨rfl, hb3⟩
  rw [hrt]
  have H3 := hid (below_then H2.out hb3)
  have D3 := HD2.out.below hb3
  clear hb3 HD2 H2
  obtain ⟨⟨q0, q1, q2, q3, q4⟩, _, _⟩ := D3.facts
  have HD3 := hid D3; clear D3
  go_wp2_with fail
  clear q0 q1 q2 q3 q4
  refine (replace_any (Z := fun _ => True) d A b n c HM.out (by omega) HC.out.1 HC.out.2 HSM.out _ (HB.out.call H3.out) (fun _ _ => trivial) ((HD.out.below H3.out).mono (fun _ _ => trivial))).mono ?_
  rintro e w4 ⟨d1, rfl, hd1, ok1, hb4⟩
  rw [hz]
  have hd1 := hd1.trans hx
  have h6 := short_len HSA.out
  obtain ⟨e0, e1, e2, e3, e4⟩ := dk_eq hd1
  have hs1 : d1.s.length ≤ 400000 := by rw [e1]; show d.s.length ≤ _; have := h6.1; omega
  have hs2 : d1.l.length ≤ 400000 := by rw [e2]; show d.l.length ≤ _; have := h6.2; omega
  have HE := hid (And.intro e0 (And.intro e1 (And.intro e2 (And.intro e3 e4))))
  have HD1 := hid hd1; have HS1 := hid (And.intro hs1 hs2)
  have DX := hid (DkAt.new w4 d1 24)
  have OK1 := hid (ok1.below (below_new w4 (.cells d1.cells.toArray 24)))
  have H4 := hid (below_then (below_then H3.out hb4) (below_new w4 (.cells d1.cells.toArray 24)))
  have DD4 := hid ((HD3.out.below hb4).below (below_new w4 (.cells d1.cells.toArray 24)))
  clear hd1 e0 e1 e2 e3 e4 hs1 hs2 ok1 hb4 H3 HD3
  unfold Dk.v
  go_wp2_with fail
  refine (crash_any (Z := fun _ => True) d1 keep ⟨by have := HS1.out.1; omega, by have := HS1.out.2; omega⟩ (w4.alloc (.cells d1.cells.toArray 24)) (fun _ _ => trivial) OK1.out).mono ?_
  rintro e w5 ⟨d2, rfl, hd2, ok2, hb5⟩
  have HSM2 := hid (crash_sm hd2 HS1.out.1 HS1.out.2)
  have HD2 := hid hd2; have OK2 := hid ok2
  have HBX5 := hid hb5; have H5 := hid (below_then H4.out hb5); have DX5 := hid (DX.out.below hb5); have DD5 := hid (DD4.out.below hb5)
  clear hd2 ok2 hb5 H4 DX DD4
  unfold Dk.v
  go_wp2_with fail
  refine (read_any d2 HSM2.out w5 OK2.out).mono ?_
  rintro e w6 ⟨v, rfl, hown, hb6⟩
  have HBX := hid (below_then HBX5.out hb6); have H6 := hid (below_then H5.out hb6); have DX6 := DX5.out.below hb6; have DD6 := DD5.out.below hb6
  clear hb6 H5 DX5 DD5
  obtain ⟨⟨x0, x1, x2, x3, x4⟩, _, _⟩ := DX6.facts
  obtain ⟨⟨q0, q1, q2, q3, q4⟩, _, _⟩ := DD6.facts
  rw [HE.out.2.2.2.1] at x3
  rw [HF.out.1] at q3; rw [HF.out.2] at q4
  have HDX := hid DX6; have HDD := hid DD6; clear DX6 DD6 hown
  generalize (readS d2.dd).2 = zz at *
  go_wp2_with (go_at_call 14; refine (alive16 _).mono ?_; rintro e w7 ⟨rfl, hb7⟩; obtain ⟨⟨y0, y1, y2, y3, y4⟩, _, _⟩ := (HDX.out.below hb7).facts; obtain ⟨⟨p0, p1, p2, p3, p4⟩, _, _⟩ := (HDD.out.below hb7).facts; rw [HE.out.2.1] at y1; rw [HE.out.2.2.1] at y2; have k1 := conv_str (c := d1.c1) rfl ((show SlZ byteZ 1 (fun _ => True) w7 d1.A1 d.s from HE.out.2.1 ▸ (OK1.out.s1.below (below_then HBX.out hb7))).bsl); have k2 := conv_str (c := d1.c2) rfl ((show SlZ byteZ 1 (fun _ => True) w7 d1.A2 d.l from HE.out.2.2.1 ▸ (OK1.out.s2.below (below_then HBX.out hb7))).bsl); have k3 := conv_str (c := d.c1) rfl (HD.out.below (below_then H6.out hb7)).s1.bsl; have k4 := conv_str (c := d.c2) rfl (HD.out.below (below_then H6.out hb7)).s2.bsl; clear x0 x1 x2 x3 x4 q0 q1 q2 q3 q4)
  go_ret
  exact ⟨rfl, below_then H6.out hb7⟩
theorem replaces_any (d : Dk) (A : Option Addr) (b : Bytes) (n c : Nat) (keep : Int) (hm : b.length = n) (hc : n ≤ c) (hc2 : c ≤ maxLen) (hk : -9223372036854775808 ≤ keep ∧ keep ≤ 9223372036854775807) (w : World) (hd : d.ok (fun k => k < w.heap.size) w) (hb : Sl byteR 1 w.heap.size w A b) :
    Calls Try.prog 7 #[d.v, .slice A n c, .int .i64 keep] w fun e w' => e = .returned (.bool true) ∧ Below w.heap.size w w' := by
  cases hsa : shortB d.dd with
  | false => exact replaces_far d A b n c keep hm hc hc2 hk w hd hb hsa
  | true =>
    by_cases hl : n ≤ 2000
    · cases hrt : rightB d.dd with
      | false => exact replaces_wrong d A b n c keep hm hc hc2 hk w hd hb hsa hl hrt
      | true =>
        rcases replaceS_ways d.dd b hrt with ⟨hz, f, hx⟩ | ⟨hz, hf, f, hx⟩ | ⟨hz, hf, f, hx⟩
        · exact replaces_ok d A b n c keep hm hc hc2 hk w hd hb hsa hl hrt hz f hx
        · exact replaces_full d A b n c keep hm hc hc2 hk w hd hb hsa hl hrt hf hz f hx
        · cases hdn : d.down with
          | true => exact replaces_down1 d A b n c keep hm hc hc2 hk w hd hb hsa hl hrt hdn hz f hx
          | false =>
            have hf0 : d.fuse = 0 := by
              rcases hf with h | h
              · have h : d.down = true := h
                rw [hdn] at h; cases h
              · exact h
            exact replaces_down2 d A b n c keep hm hc hc2 hk w hd hb hsa hl hrt hdn hf0 hz f hx
    · exact replaces_long d A b n c keep hm hc hc2 hk w hd hb hsa (by omega) (by unfold maxLen at hc2; omega)
end Go.Proofs.Ythboeilpeggpoaa
