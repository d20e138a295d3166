/-
  DiskKept: whatever is done with a new disk, what was synced or replaced last is there behind a crash.
-/
import Derived.Test.YthboeilpeggpoaaKeptR
import Derived.Test.YthboeilpeggpoaaRegL
namespace Go.Proofs.Ythboeilpeggpoaa
open Go.RowKit
/-- What is done: its kind, a number, bytes. -/
def actP (B : Nat) (w : World) (cs : List Value) (a : Int × Int × Bytes) : Prop :=
  ∃ A c, cs = [.int .i64 a.1, .int .i64 a.2.1, .slice A a.2.2.length c] ∧ a.2.2.length ≤ c ∧ c ≤ maxLen ∧ Sl byteR 1 B w A a.2.2 ∧ (-9223372036854775808 ≤ a.2.1 ∧ a.2.1 ≤ 9223372036854775807)
def actR : Rep (Int × Int × Bytes) :=
  ⟨actP, fun hB ⟨A, c, h1, h2, h3, h4, h5⟩ => ⟨A, c, h1, h2, h3, h4.mono hB, h5⟩, fun hb ⟨A, c, h1, h2, h3, h4, h5⟩ => ⟨A, c, h1, h2, h3, h4.below hb, h5⟩⟩
theorem own_sl {α : Type} {R : Rep α} {k base n c : Nat} {e : TypeId} {w : World} {A : Option Addr} {l : List α} (h : Own R k e base 0 w (.slice A n c) l) : l.length = n ∧ n ≤ c ∧ c ≤ maxLen ∧ Sl R k w.heap.size w A l := by
  obtain ⟨A', c', he, h1, h2, h3⟩ := h.sl (Nat.zero_le _)
  simp only [Value.slice.injEq] at he
  obtain ⟨rfl, rfl, rfl⟩ := he
  exact ⟨rfl, h1, h2, h3⟩
theorem size_set (b : Nat) : ∀ (vs : List Value) (o : Nat) (w : World), (w.setCells b o vs).heap.size = w.heap.size
  | [], _, _ => rfl
  | v :: r, o, w => by rw [World.setCells, size_set b r]; simp
/-- The act that the round is about, in its box. -/
def ActAt (Y : Nat) (w : World) (v0 v1 v2 : Value) : Prop := w.rangeAt Y 0 [v0, v1, v2] ∧ Y < w.heap.size
theorem ActAt.new (w : World) (v0 v1 v2 : Value) (t : TypeId) : ActAt w.heap.size (w.alloc (.cells #[v0, v1, v2] t)) v0 v1 v2 := ⟨range_new (cs := [v0, v1, v2]) rfl, by simp⟩
theorem ActAt.agree {Y : Nat} {w w' : World} {v0 v1 v2 : Value} {Z : Nat → Prop} (h : ActAt Y w v0 v1 v2) (ha : Agree Z w w') (hZ : Z Y) : ActAt Y w' v0 v1 v2 := ⟨ha.range h.2 hZ h.1, Nat.lt_of_lt_of_le h.2 ha.size⟩
theorem ActAt.below {Y : Nat} {w w' : World} {v0 v1 v2 : Value} (h : ActAt Y w v0 v1 v2) (hb : Below w.heap.size w w') : ActAt Y w' v0 v1 v2 := h.agree (Z := fun _ => True) (agree_of_below hb) trivial
theorem ActAt.facts {Y : Nat} {w : World} {v0 v1 v2 : Value} (h : ActAt Y w v0 v1 v2) : w.cell? ⟨Y, 0, none⟩ = some v0 ∧ w.cell? ⟨Y, 1, none⟩ = some v1 ∧ w.cell? ⟨Y, 2, none⟩ = some v2 :=
  ⟨by simpa using h.1 0 _ rfl, by simpa using h.1 1 _ rfl, by simpa using h.1 2 _ rfl⟩
theorem kr_new {w w1 : World} {d : Dk} (hb : Below w.heap.size w w1) (hd : d.ok (fun _ => True) w1) (t : TypeId) : Kr w1.heap.size w (w1.alloc (.cells d.cells.toArray t)) d (.slice none 0 0) (.slice none 0 0) [] [] :=
  ⟨DkAt.new w1 d t, ((hd.shrink (N := w1.heap.size + 1) (Nat.le_refl _)).below (below_new w1 (.cells d.cells.toArray t))).mono (by rintro k ⟨_, h⟩; exact ⟨by omega, by simp [Value.ownBlock], by simp [Value.ownBlock]⟩), Own.nil _, Own.nil _, by simp [Value.ownBlock], by simp [Value.ownBlock], .inl rfl, hb.size, below_then hb (below_new w1 (.cells d.cells.toArray t))⟩
set_option maxHeartbeats 4000000 in
set_option maxRecDepth 20000 in
theorem kept_no (size : Int) (A : Option Addr) (n c : Nat) (keep : Int) (hn : n ≤ c) (hc : c ≤ maxLen) (h : 40 < n ∨ size < 0 ∨ 1000000 < size) (w : World) :
    Calls Try.prog 5 #[.int .i64 size, .slice A n c, .int .i64 keep] w fun e w' => e = .returned (.bool true) ∧ Below w.heap.size w w' := by
  go_enter Try.func5, Try.ntmps5
  go_wp2_with fail
  refine (new_any (fun _ => True) size _).mono ?_
  rintro e w1 ⟨d1, rfl, hd1, ok1, hb1⟩
  have HB := hid hb1; clear hb1 ok1 hd1
  by_cases hs : size < 0 ∨ 1000000 < size
  · rw [show (newD size).2 = 1 by unfold newD; rw [if_pos hs]]
    rw [show d1.v = .agg d1.cells.toArray from rfl]
    unfold Dk.cells
    go_wp2_with (go_at_call 14; refine (alive16 _).mono ?_; rintro e w9 ⟨rfl, hb9⟩)
    go_ret
    exact ⟨rfl, below_then (below_then HB.out (below_new w1 (.cells d1.cells.toArray 24))) hb9⟩
  · rw [show (newD size).2 = 0 by unfold newD; rw [if_neg hs]]
    rw [show d1.v = .agg d1.cells.toArray from rfl]
    unfold Dk.cells
    have h40 : (40 : Int) < n := by omega
    clear hs h
    go_wp2_with (go_at_call 14; refine (alive16 _).mono ?_; rintro e w9 ⟨rfl, hb9⟩)
    go_ret
    exact ⟨rfl, below_then (below_then HB.out (below_new w1 (.cells d1.cells.toArray 24))) hb9⟩
set_option maxHeartbeats 8000000 in
set_option maxRecDepth 20000 in
theorem kept_ok (size : Int) (A : Option Addr) (l : List (Int × Int × Bytes)) (n c : Nat) (keep : Int) (hm : l.length = n) (hn : n ≤ c) (hc : c ≤ maxLen) (h40 : n ≤ 40) (hs1 : 0 ≤ size) (hs2 : size ≤ 1000000) (w : World) (hs : Sl actR 3 w.heap.size w A l) :
    Calls Try.prog 5 #[.int .i64 size, .slice A n c, .int .i64 keep] w fun e w' => e = .returned (.bool true) ∧ Below w.heap.size w w' := by
  have HS := hid hs; have HM := hid hm; have HC := hid (And.intro hn hc); clear hs hm hn hc
  have h40i : (n : Int) ≤ 40 := by omega
  go_enter Try.func5, Try.ntmps5
  go_wp2_with fail
  refine (new_any (fun _ => True) size _).mono ?_
  rintro e w1 ⟨d1, rfl, hd1, ok1, hb1⟩
  rw [show (newD size).2 = 0 by unfold newD; rw [if_neg (by omega)]]
  have kp1 : Kp [] [] d1.dd := by
    rw [hd1]
    unfold newD
    rw [if_neg (by omega)]
    exact ⟨rfl, rfl, by simp [rightB]; omega⟩
  have KR0 := hid (((kr_new hb1 ok1 24).new1 5 rfl).new2 5 rfl)
  have KP0 := hid kp1
  have HX := hid hb1.size
  clear kp1 hd1 ok1 hb1
  rw [show d1.v = .agg d1.cells.toArray from rfl]
  unfold Dk.cells
  go_wp2_with fail
  go_loopw [9, 10, 11] (fun vs vl i wr => ∃ (k : Nat) (x : Dk) (S L : Bytes), k ≤ n ∧ i = .int .i64 k ∧ Kr w1.heap.size w wr x vs vl S L ∧ Kp S L x.dd) (fun _ _ i _ => n - (intOf i).toNat)
  case atStart => exact ⟨0, d1, [], [], Nat.zero_le _, rfl, by have := KR0.out; simp only [World.size_alloc] at this ⊢; exact this, KP0.out⟩
  case round =>
    obtain ⟨k, x, S, L, hk, rfl, kr, kp⟩ := hrel
    have KR := hid kr; have KP := hid kp; clear kr kp KR0 KP0
    by_cases hlt : k < n
    · obtain ⟨⟨kind, N, b⟩, hx⟩ : ∃ a, l[k]? = some a := ⟨_, List.getElem?_eq_getElem (by rw [HM.out]; exact hlt)⟩
      obtain ⟨b0, o0, cs, rfl, hb0, hcl, ⟨A', c', rfl, hc1, hc2, hsb, hN1, hN2⟩, hcell⟩ := HS.out.get hx
      have hb0r : b0 < wr.heap.size := Nat.lt_of_lt_of_le hb0 KR.out.bl.size
      have hcb := KR.out.bl
      have c0 := (hcb.cell (p := ⟨b0, o0 + k * 3 + 0, none⟩) hb0).trans (hcell 0 _ rfl); have c1 := (hcb.cell (p := ⟨b0, o0 + k * 3 + 1, none⟩) hb0).trans (hcell 1 _ rfl); have c2 := (hcb.cell (p := ⟨b0, o0 + k * 3 + 2, none⟩) hb0).trans (hcell 2 _ rfl)
      clear hx hcl hcell hcb
      try simp only [Nat.add_zero] at c0
      have HN := hid (And.intro hN1 hN2); have HSB := hid hsb; have HCB := hid (And.intro hc1 hc2)
      clear hsb hN1 hN2 hc1 hc2
      by_cases hbl : b.length ≤ 300
      · have hbi : (b.length : Int) ≤ 300 := by omega
        have B0 := hid (below_new wr (.cells #[.int .i64 kind, .int .i64 N, .slice A' b.length c'] 50))
        have KR1 := hid (KR.out.below B0.out)
        generalize hbn : b.length = m at *
        have HBN := hid hbn; clear hbn
        have AT1 := hid (ActAt.new wr (.int .i64 kind) (.int .i64 N) (.slice A' m c') 50)
        obtain ⟨AL, cL, hAL⟩ := KR.out.loose.form2 rfl
        subst hAL
        rcases (show kind = 0 ∨ kind = 1 ∨ kind = 2 ∨ kind = 3 ∨ kind = 4 ∨ (kind ≠ 0 ∧ kind ≠ 1 ∧ kind ≠ 2 ∧ kind ≠ 3 ∧ kind ≠ 4) by omega) with rfl | rfl | rfl | rfl | rfl | hkd
        · skip
          obtain ⟨⟨q0, q1, q2, q3, q4⟩, _, hlX⟩ := KR.out.at_.facts
          go_wp2_with fail
          clear q0 q1 q2 q3 q4
          refine (write_any (Z := Zk w1.heap.size u9 (.slice AL L.length cL)) x A' b m c' HBN.out (by omega) HCB.out.1 HCB.out.2 (kp_sm KP.out).1 _ (HSB.out.call KR1.out.bl) KR1.out.hZ KR1.out.ok).mono ?_
          rintro e w5 ⟨y, rfl, hy, oky, hb5⟩
          have hkp := kp_write b KP.out
          rw [← hy] at hkp
          have KR5 := hid (KR1.out.below hb5); have AT5 := hid (AT1.out.below hb5)
          obtain ⟨⟨p0, p1, p2, p3, p4⟩, ⟨z0, z1, z2, z3, z4⟩, hlX5⟩ := KR5.out.at_.facts
          have KR6s := KR5.out.set oky
          simp only [World.setCells, Dk.cells, Nat.zero_add, Nat.reduceAdd] at KR6s
          have KR6 := hid KR6s; clear KR6s
          have hne1 : ¬ (w1.heap.size = wr.heap.size) := by omega
          have hne2 : ¬ (wr.heap.size = w1.heap.size) := by omega
          obtain ⟨x0, x1, x2⟩ := AT5.out.facts
          have hlB := AT5.out.2
          clear oky hb5
          rw [show y.v = .agg y.cells.toArray from rfl]
          unfold Dk.cells
          rcases hkp with ⟨hz, hk⟩ | ⟨hz | hz, hk⟩
          · rw [hz]
            have HK := hid hk; clear hk hz hy
            go_wp2_with (at_builtin; refine wpl_app (W := w) (R := byteR) (B := 0) rfl (.tmp 60) (.tmp 62) _ rfl tabB _ L b rfl KR6.out.loose (Nat.zero_le _) KR6.out.bl A' m c' (b.map byteV) rfl HBN.out (sl_bytes (HSB.out.below KR6.out.bl) HBN.out) (cs_map _ _ _) (bytes_oneCell _) (by have := (kp_sm KP.out).2; have := HBN.out; (try simp only [List.length_append, List.length_nil, List.length_take]); omega) (by have := (kp_sm KP.out).2; have := HBN.out; unfold maxLen; (try simp only [List.length_append, List.length_nil, List.length_take]); omega) ?_; intro v6 w6 r1 r2 r3 r4; have KR7 := hid (KR6.out.app2 r1 r2 r3 r4); obtain ⟨⟨q0, q1, q2, q3, q4⟩, _, _⟩ := KR7.out.at_.facts; clear r1 r2 r3 r4)
            refine (plain_any y _).mono ?_
            rintro e w8 ⟨rfl, hb8⟩
            have KR8 := hid (KR7.out.below hb8); clear hb8
            go_wp2_with fail
            refine (rright_any y (kp_sm HK.out).1 _).mono ?_
            rintro e w9 ⟨rfl, hb9⟩
            have KR9 := hid (KR8.out.below hb9); clear hb9 KR8
            rw [show rightB y.dd = true from HK.out.2.2]
            go_wp2_with fail
            go_roundw
            case rel => exact ⟨k + 1, y, S, (L ++ b), by omega, by go_num, KR9.out, HK.out⟩
            case measure => simp [intOf]; omega
          · rw [hz]
            have HK := hid hk; clear hk hz hy
            go_wp2_with fail
            refine (plain_any y _).mono ?_
            rintro e w8 ⟨rfl, hb8⟩
            have KR8 := hid (KR6.out.below hb8); clear hb8
            go_wp2_with fail
            refine (rright_any y (kp_sm HK.out).1 _).mono ?_
            rintro e w9 ⟨rfl, hb9⟩
            have KR9 := hid (KR8.out.below hb9); clear hb9 KR8
            rw [show rightB y.dd = true from HK.out.2.2]
            go_wp2_with fail
            go_roundw
            case rel => exact ⟨k + 1, y, S, L, by omega, by go_num, KR9.out, HK.out⟩
            case measure => simp [intOf]; omega
          · rw [hz]
            have HK := hid hk; clear hk hz hy
            go_wp2_with fail
            refine (plain_any y _).mono ?_
            rintro e w8 ⟨rfl, hb8⟩
            have KR8 := hid (KR6.out.below hb8); clear hb8
            go_wp2_with fail
            refine (rright_any y (kp_sm HK.out).1 _).mono ?_
            rintro e w9 ⟨rfl, hb9⟩
            have KR9 := hid (KR8.out.below hb9); clear hb9 KR8
            rw [show rightB y.dd = true from HK.out.2.2]
            go_wp2_with fail
            go_roundw
            case rel => exact ⟨k + 1, y, S, L, by omega, by go_num, KR9.out, HK.out⟩
            case measure => simp [intOf]; omega
        · skip
          obtain ⟨⟨q0, q1, q2, q3, q4⟩, _, hlX⟩ := KR.out.at_.facts
          go_wp2_with fail
          clear q0 q1 q2 q3 q4
          refine (sync_any (Z := Zk w1.heap.size u9 (.slice AL L.length cL)) x (kp_sm KP.out).1 _ KR1.out.hZ KR1.out.ok).mono ?_
          rintro e w5 ⟨y, rfl, hy, oky, hb5⟩
          have hkp := kp_sync KP.out
          rw [← hy] at hkp
          have KR5 := hid (KR1.out.below hb5); have AT5 := hid (AT1.out.below hb5)
          obtain ⟨⟨p0, p1, p2, p3, p4⟩, ⟨z0, z1, z2, z3, z4⟩, hlX5⟩ := KR5.out.at_.facts
          have KR6s := KR5.out.set oky
          simp only [World.setCells, Dk.cells, Nat.zero_add, Nat.reduceAdd] at KR6s
          have KR6 := hid KR6s; clear KR6s
          have hne1 : ¬ (w1.heap.size = wr.heap.size) := by omega
          have hne2 : ¬ (wr.heap.size = w1.heap.size) := by omega
          obtain ⟨x0, x1, x2⟩ := AT5.out.facts
          have hlB := AT5.out.2
          clear oky hb5
          rw [show y.v = .agg y.cells.toArray from rfl]
          unfold Dk.cells
          rcases hkp with ⟨hz, hk⟩ | ⟨hz | hz, hk⟩
          · rw [hz]
            have HK := hid hk; clear hk hz hy
            go_wp2_with (at_builtin; refine wpl_app (W := w) (R := byteR) (B := 0) rfl (.tmp 73) (.tmp 74) _ rfl tabB _ S L rfl KR6.out.safe (Nat.zero_le _) KR6.out.bl AL L.length cL (L.map byteV) rfl rfl (sl_bytes (own_sl KR6.out.loose).2.2.2 rfl) (cs_map _ _ _) (bytes_oneCell _) (by have := (kp_sm KP.out).2; have := HBN.out; (try simp only [List.length_append, List.length_nil, List.length_take]); omega) (by have := (kp_sm KP.out).2; have := HBN.out; unfold maxLen; (try simp only [List.length_append, List.length_nil, List.length_take]); omega) ?_; intro v6 w6 r1 r2 r3 r4; have KR7 := hid ((KR6.out.app1 r1 r2 r3 r4).new2 5 rfl); obtain ⟨⟨q0, q1, q2, q3, q4⟩, _, _⟩ := (KR6.out.app1 r1 r2 r3 r4).at_.facts; have hlX6 := (KR6.out.app1 r1 r2 r3 r4).at_.lt; clear r1 r2 r3 r4)
            refine (plain_any y _).mono ?_
            rintro e w8 ⟨rfl, hb8⟩
            have KR8 := hid (KR7.out.below hb8); clear hb8
            go_wp2_with fail
            refine (rright_any y (kp_sm HK.out).1 _).mono ?_
            rintro e w9 ⟨rfl, hb9⟩
            have KR9 := hid (KR8.out.below hb9); clear hb9 KR8
            rw [show rightB y.dd = true from HK.out.2.2]
            go_wp2_with fail
            go_roundw
            case rel => exact ⟨k + 1, y, (S ++ L), [], by omega, by go_num, KR9.out, HK.out⟩
            case measure => simp [intOf]; omega
          · rw [hz]
            have HK := hid hk; clear hk hz hy
            go_wp2_with fail
            refine (plain_any y _).mono ?_
            rintro e w8 ⟨rfl, hb8⟩
            have KR8 := hid (KR6.out.below hb8); clear hb8
            go_wp2_with fail
            refine (rright_any y (kp_sm HK.out).1 _).mono ?_
            rintro e w9 ⟨rfl, hb9⟩
            have KR9 := hid (KR8.out.below hb9); clear hb9 KR8
            rw [show rightB y.dd = true from HK.out.2.2]
            go_wp2_with fail
            go_roundw
            case rel => exact ⟨k + 1, y, S, L, by omega, by go_num, KR9.out, HK.out⟩
            case measure => simp [intOf]; omega
          · rw [hz]
            have HK := hid hk; clear hk hz hy
            go_wp2_with fail
            refine (plain_any y _).mono ?_
            rintro e w8 ⟨rfl, hb8⟩
            have KR8 := hid (KR6.out.below hb8); clear hb8
            go_wp2_with fail
            refine (rright_any y (kp_sm HK.out).1 _).mono ?_
            rintro e w9 ⟨rfl, hb9⟩
            have KR9 := hid (KR8.out.below hb9); clear hb9 KR8
            rw [show rightB y.dd = true from HK.out.2.2]
            go_wp2_with fail
            go_roundw
            case rel => exact ⟨k + 1, y, S, L, by omega, by go_num, KR9.out, HK.out⟩
            case measure => simp [intOf]; omega
        · skip
          obtain ⟨⟨q0, q1, q2, q3, q4⟩, _, hlX⟩ := KR.out.at_.facts
          go_wp2_with fail
          clear q0 q1 q2 q3 q4
          refine (replace_any (Z := Zk w1.heap.size u9 (.slice AL L.length cL)) x A' b m c' HBN.out (by omega) HCB.out.1 HCB.out.2 (kp_sm KP.out).1 _ (HSB.out.call KR1.out.bl) KR1.out.hZ KR1.out.ok).mono ?_
          rintro e w5 ⟨y, rfl, hy, oky, hb5⟩
          have hkp := kp_replace b KP.out
          rw [← hy] at hkp
          have KR5 := hid (KR1.out.below hb5); have AT5 := hid (AT1.out.below hb5)
          obtain ⟨⟨p0, p1, p2, p3, p4⟩, ⟨z0, z1, z2, z3, z4⟩, hlX5⟩ := KR5.out.at_.facts
          have KR6s := KR5.out.set oky
          simp only [World.setCells, Dk.cells, Nat.zero_add, Nat.reduceAdd] at KR6s
          have KR6 := hid KR6s; clear KR6s
          have hne1 : ¬ (w1.heap.size = wr.heap.size) := by omega
          have hne2 : ¬ (wr.heap.size = w1.heap.size) := by omega
          obtain ⟨x0, x1, x2⟩ := AT5.out.facts
          have hlB := AT5.out.2
          clear oky hb5
          rw [show y.v = .agg y.cells.toArray from rfl]
          unfold Dk.cells
          rcases hkp with ⟨hz, hk⟩ | ⟨hz | hz, hk⟩
          · rw [hz]
            have HK := hid hk; clear hk hz hy
            have NR := hid (KR6.out.new1 5 rfl)
            have NRo := NR.out.safe; simp only [World.size_setCell] at NRo
            have NRs := hid NRo; clear NRo
            go_wp2_with (at_builtin; refine wpl_app (W := w) (R := byteR) (B := 0) rfl (.tmp 88) (.tmp 90) _ rfl tabB _ [] b rfl NRs.out (Nat.zero_le _) NR.out.bl A' m c' (b.map byteV) rfl HBN.out (sl_bytes (HSB.out.below NR.out.bl) HBN.out) (cs_map _ _ _) (bytes_oneCell _) (by have := (kp_sm KP.out).2; have := HBN.out; (try simp only [List.length_append, List.length_nil, List.length_take]); omega) (by have := (kp_sm KP.out).2; have := HBN.out; unfold maxLen; (try simp only [List.length_append, List.length_nil, List.length_take]); omega) ?_; intro v6 w6 r1 r2 r3 r4; have KR7 := hid (((show Kr _ _ _ _ _ _ _ _ from NR.out).app1 r1 r2 (by simp only [World.size_setCell]; exact r3) (by simp only [World.size_setCell]; exact r4)).new2 5 rfl); obtain ⟨⟨q0, q1, q2, q3, q4⟩, _, hlX6⟩ := ((show Kr _ _ _ _ _ _ _ _ from NR.out).app1 r1 r2 (by simp only [World.size_setCell]; exact r3) (by simp only [World.size_setCell]; exact r4)).at_.facts; clear r1 r2 r3 r4)
            refine (plain_any y _).mono ?_
            rintro e w8 ⟨rfl, hb8⟩
            have KR8 := hid (KR7.out.below hb8); clear hb8
            go_wp2_with fail
            refine (rright_any y (kp_sm HK.out).1 _).mono ?_
            rintro e w9 ⟨rfl, hb9⟩
            have KR9 := hid (KR8.out.below hb9); clear hb9 KR8
            rw [show rightB y.dd = true from HK.out.2.2]
            go_wp2_with fail
            go_roundw
            case rel => exact ⟨k + 1, y, b, [], by omega, by go_num, KR9.out, HK.out⟩
            case measure => simp [intOf]; omega
          · rw [hz]
            have HK := hid hk; clear hk hz hy
            go_wp2_with fail
            refine (plain_any y _).mono ?_
            rintro e w8 ⟨rfl, hb8⟩
            have KR8 := hid (KR6.out.below hb8); clear hb8
            go_wp2_with fail
            refine (rright_any y (kp_sm HK.out).1 _).mono ?_
            rintro e w9 ⟨rfl, hb9⟩
            have KR9 := hid (KR8.out.below hb9); clear hb9 KR8
            rw [show rightB y.dd = true from HK.out.2.2]
            go_wp2_with fail
            go_roundw
            case rel => exact ⟨k + 1, y, S, L, by omega, by go_num, KR9.out, HK.out⟩
            case measure => simp [intOf]; omega
          · rw [hz]
            have HK := hid hk; clear hk hz hy
            go_wp2_with fail
            refine (plain_any y _).mono ?_
            rintro e w8 ⟨rfl, hb8⟩
            have KR8 := hid (KR6.out.below hb8); clear hb8
            go_wp2_with fail
            refine (rright_any y (kp_sm HK.out).1 _).mono ?_
            rintro e w9 ⟨rfl, hb9⟩
            have KR9 := hid (KR8.out.below hb9); clear hb9 KR8
            rw [show rightB y.dd = true from HK.out.2.2]
            go_wp2_with fail
            go_roundw
            case rel => exact ⟨k + 1, y, S, L, by omega, by go_num, KR9.out, HK.out⟩
            case measure => simp [intOf]; omega
        · skip
          obtain ⟨⟨q0, q1, q2, q3, q4⟩, _, hlX⟩ := KR.out.at_.facts
          go_wp2_with fail
          clear q0 q1 q2 q3 q4
          refine (blow_any (Z := Zk w1.heap.size u9 (.slice AL L.length cL)) x N HN.out _ KR1.out.ok).mono ?_
          rintro e w5 ⟨y, rfl, hy, oky, hb5⟩
          have hkp := kp_blow N KP.out
          rw [← hy] at hkp
          have KR5 := hid (KR1.out.below hb5); have AT5 := hid (AT1.out.below hb5)
          obtain ⟨⟨p0, p1, p2, p3, p4⟩, ⟨z0, z1, z2, z3, z4⟩, hlX5⟩ := KR5.out.at_.facts
          have KR6s := KR5.out.set oky
          simp only [World.setCells, Dk.cells, Nat.zero_add, Nat.reduceAdd] at KR6s
          have KR6 := hid KR6s; clear KR6s
          have hne1 : ¬ (w1.heap.size = wr.heap.size) := by omega
          have hne2 : ¬ (wr.heap.size = w1.heap.size) := by omega
          obtain ⟨x0, x1, x2⟩ := AT5.out.facts
          have hlB := AT5.out.2
          clear oky hb5
          rw [show y.v = .agg y.cells.toArray from rfl]
          unfold Dk.cells
          have HK := hid hkp; clear hkp hy
          go_wp2_with fail
          refine (plain_any y _).mono ?_
          rintro e w8 ⟨rfl, hb8⟩
          have KR8 := hid (KR6.out.below hb8); clear hb8
          go_wp2_with fail
          refine (rright_any y (kp_sm HK.out).1 _).mono ?_
          rintro e w9 ⟨rfl, hb9⟩
          have KR9 := hid (KR8.out.below hb9); clear hb9 KR8
          rw [show rightB y.dd = true from HK.out.2.2]
          go_wp2_with fail
          go_roundw
          case rel => exact ⟨k + 1, y, S, L, by omega, by go_num, KR9.out, HK.out⟩
          case measure => simp [intOf]; omega
        · skip
          obtain ⟨⟨q0, q1, q2, q3, q4⟩, _, hlX⟩ := KR.out.at_.facts
          go_wp2_with fail
          clear q0 q1 q2 q3 q4
          refine (crash_any (Z := Zk w1.heap.size u9 (.slice AL L.length cL)) x N (kp_sm KP.out).1 _ KR1.out.hZ KR1.out.ok).mono ?_
          rintro e w5 ⟨y, rfl, hy, oky, hb5⟩
          have hkp := kp_crash N KP.out
          rw [← hy] at hkp
          have KR5 := hid (KR1.out.below hb5); have AT5 := hid (AT1.out.below hb5)
          obtain ⟨⟨p0, p1, p2, p3, p4⟩, ⟨z0, z1, z2, z3, z4⟩, hlX5⟩ := KR5.out.at_.facts
          have KR6s := KR5.out.set oky
          simp only [World.setCells, Dk.cells, Nat.zero_add, Nat.reduceAdd] at KR6s
          have KR6 := hid KR6s; clear KR6s
          have hne1 : ¬ (w1.heap.size = wr.heap.size) := by omega
          have hne2 : ¬ (wr.heap.size = w1.heap.size) := by omega
          obtain ⟨x0, x1, x2⟩ := AT5.out.facts
          have hlB := AT5.out.2
          clear oky hb5
          rw [show y.v = .agg y.cells.toArray from rfl]
          unfold Dk.cells
          rcases (show N < 0 ∨ (L.length : Int) < N ∨ (0 ≤ N ∧ N ≤ L.length) by omega) with hN | hN | ⟨hN1, hN2⟩
          · skip
            have hkn : keepN N L.length = 0 := by unfold keepN; omega
            rw [hkn] at hkp
            have HK := hid hkp; clear hkp hy
            have hkc : ((0 : Nat) : Int) ≤ cL := by have := (own_sl KR6.out.loose).2.1; omega
            have hlL : (L.length : Int) ≤ 1000000 := by have := (kp_sm KP.out).2.2; omega
            have htl : (L.take (0)).length = 0 := by rw [List.length_take]; omega
            have HTL := hid htl; clear htl
            go_wp2_with (at_builtin; refine wpl_app (W := w) (R := byteR) (B := 0) rfl (.tmp 105) (.tmp 113) _ rfl tabB _ S (L.take (0)) rfl KR6.out.safe (Nat.zero_le _) KR6.out.bl AL (0) cL ((L.take (0)).map byteV) rfl HTL.out (sl_bytes ((own_sl KR6.out.loose).2.2.2.take _) HTL.out) (cs_map _ _ _) (bytes_oneCell _) (by have := (kp_sm KP.out).2; have := HBN.out; (try simp only [List.length_append, List.length_nil, List.length_take]); omega) (by have := (kp_sm KP.out).2; have := HBN.out; unfold maxLen; (try simp only [List.length_append, List.length_nil, List.length_take]); omega) ?_; intro v6 w6 r1 r2 r3 r4; have KR7 := hid ((KR6.out.app1 r1 r2 r3 r4).new2 5 rfl); obtain ⟨⟨q0, q1, q2, q3, q4⟩, _, _⟩ := (KR6.out.app1 r1 r2 r3 r4).at_.facts; have hlX6 := (KR6.out.app1 r1 r2 r3 r4).at_.lt; clear r1 r2 r3 r4)
            refine (plain_any y _).mono ?_
            rintro e w8 ⟨rfl, hb8⟩
            have KR8 := hid (KR7.out.below hb8); clear hb8
            go_wp2_with fail
            refine (rright_any y (kp_sm HK.out).1 _).mono ?_
            rintro e w9 ⟨rfl, hb9⟩
            have KR9 := hid (KR8.out.below hb9); clear hb9 KR8
            rw [show rightB y.dd = true from HK.out.2.2]
            go_wp2_with fail
            go_roundw
            case rel => exact ⟨k + 1, y, (S ++ L.take (0)), [], by omega, by go_num, KR9.out, HK.out⟩
            case measure => simp [intOf]; omega
          · skip
            have hkn : keepN N L.length = L.length := by unfold keepN; omega
            rw [hkn] at hkp
            have HK := hid hkp; clear hkp hy
            have hkc : ((L.length : Nat) : Int) ≤ cL := by have := (own_sl KR6.out.loose).2.1; omega
            have hlL : (L.length : Int) ≤ 1000000 := by have := (kp_sm KP.out).2.2; omega
            have htl : (L.take (L.length)).length = L.length := by rw [List.length_take]; omega
            have HTL := hid htl; clear htl
            go_wp2_with (at_builtin; refine wpl_app (W := w) (R := byteR) (B := 0) rfl (.tmp 105) (.tmp 113) _ rfl tabB _ S (L.take (L.length)) rfl KR6.out.safe (Nat.zero_le _) KR6.out.bl AL (L.length) cL ((L.take (L.length)).map byteV) rfl HTL.out (sl_bytes ((own_sl KR6.out.loose).2.2.2.take _) HTL.out) (cs_map _ _ _) (bytes_oneCell _) (by have := (kp_sm KP.out).2; have := HBN.out; (try simp only [List.length_append, List.length_nil, List.length_take]); omega) (by have := (kp_sm KP.out).2; have := HBN.out; unfold maxLen; (try simp only [List.length_append, List.length_nil, List.length_take]); omega) ?_; intro v6 w6 r1 r2 r3 r4; have KR7 := hid ((KR6.out.app1 r1 r2 r3 r4).new2 5 rfl); obtain ⟨⟨q0, q1, q2, q3, q4⟩, _, _⟩ := (KR6.out.app1 r1 r2 r3 r4).at_.facts; have hlX6 := (KR6.out.app1 r1 r2 r3 r4).at_.lt; clear r1 r2 r3 r4)
            refine (plain_any y _).mono ?_
            rintro e w8 ⟨rfl, hb8⟩
            have KR8 := hid (KR7.out.below hb8); clear hb8
            go_wp2_with fail
            refine (rright_any y (kp_sm HK.out).1 _).mono ?_
            rintro e w9 ⟨rfl, hb9⟩
            have KR9 := hid (KR8.out.below hb9); clear hb9 KR8
            rw [show rightB y.dd = true from HK.out.2.2]
            go_wp2_with fail
            go_roundw
            case rel => exact ⟨k + 1, y, (S ++ L.take (L.length)), [], by omega, by go_num, KR9.out, HK.out⟩
            case measure => simp [intOf]; omega
          · obtain ⟨kn, rfl⟩ := Int.eq_ofNat_of_zero_le hN1
            clear hN1
            have hkn : keepN (kn : Int) L.length = kn := by unfold keepN; omega
            rw [hkn] at hkp
            have HK := hid hkp; clear hkp hy
            have hkc : ((kn : Nat) : Int) ≤ cL := by have := (own_sl KR6.out.loose).2.1; omega
            have hlL : (L.length : Int) ≤ 1000000 := by have := (kp_sm KP.out).2.2; omega
            have htl : (L.take (kn)).length = kn := by rw [List.length_take]; omega
            have HTL := hid htl; clear htl
            go_wp2_with (at_builtin; refine wpl_app (W := w) (R := byteR) (B := 0) rfl (.tmp 105) (.tmp 113) _ rfl tabB _ S (L.take (kn)) rfl KR6.out.safe (Nat.zero_le _) KR6.out.bl AL (kn) cL ((L.take (kn)).map byteV) rfl HTL.out (sl_bytes ((own_sl KR6.out.loose).2.2.2.take _) HTL.out) (cs_map _ _ _) (bytes_oneCell _) (by have := (kp_sm KP.out).2; have := HBN.out; (try simp only [List.length_append, List.length_nil, List.length_take]); omega) (by have := (kp_sm KP.out).2; have := HBN.out; unfold maxLen; (try simp only [List.length_append, List.length_nil, List.length_take]); omega) ?_; intro v6 w6 r1 r2 r3 r4; have KR7 := hid ((KR6.out.app1 r1 r2 r3 r4).new2 5 rfl); obtain ⟨⟨q0, q1, q2, q3, q4⟩, _, _⟩ := (KR6.out.app1 r1 r2 r3 r4).at_.facts; have hlX6 := (KR6.out.app1 r1 r2 r3 r4).at_.lt; clear r1 r2 r3 r4)
            refine (plain_any y _).mono ?_
            rintro e w8 ⟨rfl, hb8⟩
            have KR8 := hid (KR7.out.below hb8); clear hb8
            go_wp2_with fail
            refine (rright_any y (kp_sm HK.out).1 _).mono ?_
            rintro e w9 ⟨rfl, hb9⟩
            have KR9 := hid (KR8.out.below hb9); clear hb9 KR8
            rw [show rightB y.dd = true from HK.out.2.2]
            go_wp2_with fail
            go_roundw
            case rel => exact ⟨k + 1, y, (S ++ L.take (kn)), [], by omega, by go_num, KR9.out, HK.out⟩
            case measure => simp [intOf]; omega
        · skip
          have t0 : (kind == 0) = false := by simp; omega
          have t1 : (kind == 1) = false := by simp; omega
          have t2 : (kind == 2) = false := by simp; omega
          have t3 : (kind == 3) = false := by simp; omega
          have t4 : (kind == 4) = false := by simp; omega
          clear hkd
          have KR6 := KR1; have HK := KP
          obtain ⟨⟨q0, q1, q2, q3, q4⟩, _, hlX⟩ := KR.out.at_.facts
          go_wp2_with fail
          refine (plain_any x _).mono ?_
          rintro e w8 ⟨rfl, hb8⟩
          clear q0 q1 q2 q3 q4 t0 t1 t2 t3 t4 hlX
          unfold Dk.v
          have KR8 := hid (KR6.out.below hb8); clear hb8
          go_wp2_with fail
          refine (rright_any x (kp_sm HK.out).1 _).mono ?_
          rintro e w9 ⟨rfl, hb9⟩
          have KR9 := hid (KR8.out.below hb9); clear hb9 KR8
          rw [show rightB x.dd = true from HK.out.2.2]
          go_wp2_with fail
          go_roundw
          case rel => exact ⟨k + 1, x, S, L, by omega, by go_num, KR9.out, HK.out⟩
          case measure => simp [intOf]; omega
      · have hbi : (300 : Int) < b.length := by omega
        have B0 := hid (below_new wr (.cells #[.int .i64 kind, .int .i64 N, .slice A' b.length c'] 50))
        generalize b.length = m at *
        go_wp2_with (go_at_call 14; refine (alive16 _).mono ?_; rintro e w9 ⟨rfl, hb9⟩)
        go_ret
        exact ⟨rfl, below_then (below_then KR.out.bl B0.out) hb9⟩
    · obtain rfl : k = n := by omega
      obtain ⟨AS, cS, hAS⟩ := KR.out.safe.form2 rfl
      subst hAS
      obtain ⟨AL, cL, hAL⟩ := KR.out.loose.form2 rfl
      subst hAL
      obtain ⟨⟨q0, q1, q2, q3, q4⟩, _, hlX⟩ := KR.out.at_.facts
      go_wp2_with fail
      clear q0 q1 q2 q3 q4
      refine (crash_any (Z := fun _ => True) x keep (kp_sm KP.out).1 _ (fun _ _ => trivial) (KR.out.ok.mono fun _ _ => trivial)).mono ?_
      rintro e w8 ⟨c8, rfl, hc8, okc, hb8⟩
      have HSM := hid (kp_sm (x := c8) (by rw [hc8]; exact kp_crash keep KP.out)).1
      have hrd : readS c8.dd = (S ++ L.take (keepN keep L.length), 0) := by rw [hc8]; exact kp_read keep KP.out
      have HRD := hid hrd
      have KR8 := hid (KR.out.below hb8)
      clear hc8 hb8 hrd KR
      go_wp2_with fail
      refine (read_any (Z := fun _ => True) c8 HSM.out _ okc).mono ?_
      rintro e w9 ⟨rv, rfl, hown, hb9⟩
      rw [HRD.out] at hown ⊢
      have KR9 := hid (KR8.out.below hb9); clear hb9 KR8 okc
      obtain ⟨m, hm⟩ : ∃ m, (S ++ L.take (keepN keep L.length)).length = m := ⟨_, rfl⟩
      obtain ⟨Ab, cb, rfl⟩ := hown.form2 hm
      have HO := hid hown; have HMM := hid hm; clear hown
      obtain ⟨M, hM⟩ : ∃ M, ([] ++ S ++ L).length = M := ⟨_, rfl⟩
      have HMA := hid hM
      have hq : keepN keep L.length ≤ L.length := by unfold keepN; omega
      rw [List.length_append, List.length_take, Nat.min_eq_left hq] at hm
      rw [List.nil_append, List.length_append] at hM
      have HGE := hid (show (S.length : Int) ≤ m by omega)
      have HLE := hid (show (m : Int) ≤ M by omega)
      have HCASE := hid (show keep < (L.length : Int) ∨ (¬ keep < (L.length : Int) ∧ m = M) by
        by_cases h : keep < (L.length : Int)
        · exact .inl h
        · refine .inr ⟨h, ?_⟩
          have : keepN keep L.length = L.length := by unfold keepN; omega
          omega)
      clear hm hM hq
      have hl1 : (([] : Bytes).length + S.length) * 1 ≤ 140737488355328 := by have := (kp_sm KP.out).2; simp; omega
      have hl2 : ([] : Bytes).length + S.length ≤ maxLen := by have := (kp_sm KP.out).2; simp [maxLen]; omega
      have hl3 : (([] ++ S).length + L.length) * 1 ≤ 140737488355328 := by have := (kp_sm KP.out).2; simp; omega
      have hl4 : ([] ++ S).length + L.length ≤ maxLen := by have := (kp_sm KP.out).2; simp [maxLen]; omega
      have HL1 := hid hl1; have HL2 := hid hl2; have HL3 := hid hl3; have HL4 := hid hl4; clear hl1 hl2 hl3 hl4
      go_wp2_with (first
        | (at_builtin; refine wpl_app0 (W := w9) (R := byteR) (B := 0) rfl (.tmp 139) (.tmp 140) _ rfl tabB _ [] S rfl (Own.made w9 (Nat.le_refl _)) (Nat.zero_le _) (below_new _ _) AS S.length cS (S.map byteV) rfl rfl ((sl_bytes (own_sl KR9.out.safe).2.2.2 rfl).alloc _) (cs_map _ _ _) (bytes_oneCell _) HL1.out HL2.out ?_; intro v1 w10 hown1 hbl1 _)
        | (at_builtin; refine wpl_app0 (W := w9) (R := byteR) (B := 0) rfl (.tmp 141) (.tmp 142) _ rfl tabB _ ([] ++ S) L rfl hown1 (Nat.zero_le _) hbl1 AL L.length cL (L.map byteV) rfl rfl (sl_bytes ((own_sl KR9.out.loose).2.2.2.below hbl1) rfl) (cs_map _ _ _) (bytes_oneCell _) HL3.out HL4.out ?_; intro v2 w11 hown2 hbl2 _; clear hown1 hbl1; obtain ⟨AA, cA, hAA⟩ := hown2.form2 HMA.out; subst hAA; have HO2 := hid hown2; have HB2 := hid hbl2; clear hown2 hbl2))
      have SB := hid ((own_sl HO.out).2.2.2.call (HB2.out))
      have hsa := (own_sl HO2.out).2.2.2.take m
      rw [List.nil_append, show (S ++ L).take m = S ++ L.take (keepN keep L.length) by rw [← HMM.out]; exact kp_end S L keep] at hsa
      have SA := hid hsa; clear hsa
      have hmc : (m : Int) ≤ cA := by have := (own_sl HO2.out).2.1; have := HLE.out; omega
      have hge := HGE.out; have hle := HLE.out
      refine reg_start (by kernel_rfl) fun w12 hHeld hz12 => ?_
      have hT := hHeld
      rcases HCASE.out with hcase | ⟨hkl, hcase⟩
      · skip
        refine wpAnyH_ready (rs := [0]) (by kernel_rfl) (by simp) ?_
        refine reg_do1 rfl (by rfl) (fun K hK => ?_)
        go_simp
        (go_at_call 14; refine (alive16 _).mono ?_; rintro e wX ⟨rfl, hbX⟩; replace hT := below_then hT hbX)
        go_wp2_with fail
        refine hK.out _ _ ?_ (fun hNext => ?_)
        · assumption
        clear hK K hHeld
        have hHeld := hNext
        clear hNext
        try simp only [Act.put, List.setIfInBounds_toArray, List.set_cons_zero, List.set_cons_succ]
        refine reg_rd 1 (v := ?_) rfl (by kernel_rfl) (by kernel_rfl) (by kernel_rfl) (fun _ _ _ h => h) (by rfl) (by assumption) ?_ ?_
        rotate_left
        · intro w hSw; go_simp; with_reducible rfl
        try simp only [Act.put, List.setIfInBounds_toArray, List.set_cons_zero, List.set_cons_succ]
        refine reg_rd 2 (v := ?_) rfl (by kernel_rfl) (by kernel_rfl) (by kernel_rfl) (fun _ _ _ h => h) (by rfl) (by assumption) ?_ ?_
        rotate_left
        · intro w hSw; go_simp; with_reducible rfl
        try simp only [Act.put, List.setIfInBounds_toArray, List.set_cons_zero, List.set_cons_succ]
        refine reg_rd 3 (v := ?_) rfl (by kernel_rfl) (by kernel_rfl) (by kernel_rfl) (fun _ _ _ h => h) (by rfl) (by assumption) ?_ ?_
        rotate_left
        · intro w hSw; go_simp; with_reducible rfl
        try simp only [Act.put, List.setIfInBounds_toArray, List.set_cons_zero, List.set_cons_succ]
        refine reg_rd 4 (v := ?_) rfl (by kernel_rfl) (by kernel_rfl) (by kernel_rfl) (fun _ _ _ h => h) (by rfl) (by assumption) ?_ ?_
        rotate_left
        · intro w hSw; go_simp; with_reducible rfl
        try simp only [Act.put, List.setIfInBounds_toArray, List.set_cons_zero, List.set_cons_succ]
        refine reg_rd 5 (v := ?_) rfl (by kernel_rfl) (by kernel_rfl) (by kernel_rfl) (fun _ _ _ h => h) (by rfl) (by assumption) ?_ ?_
        rotate_left
        · intro w hSw; go_simp; with_reducible rfl
        try simp only [Act.put, List.setIfInBounds_toArray, List.set_cons_zero, List.set_cons_succ]
        refine reg_rd 6 (v := ?_) rfl (by kernel_rfl) (by kernel_rfl) (by kernel_rfl) (fun _ _ _ h => h) (by rfl) (by assumption) ?_ ?_
        rotate_left
        · intro w hSw; go_simp; with_reducible rfl
        try simp only [Act.put, List.setIfInBounds_toArray, List.set_cons_zero, List.set_cons_succ]
        refine reg_rd 7 (v := ?_) rfl (by kernel_rfl) (by kernel_rfl) (by kernel_rfl) (fun _ _ _ h => h) (by rfl) (by assumption) ?_ ?_
        rotate_left
        · intro w hSw; go_simp; with_reducible rfl
        try simp only [Act.put, List.setIfInBounds_toArray, List.set_cons_zero, List.set_cons_succ]
        refine reg_rd 8 (v := ?_) rfl (by kernel_rfl) (by kernel_rfl) (by kernel_rfl) (fun _ _ _ h => h) (by rfl) (by assumption) ?_ ?_
        rotate_left
        · intro w hSw; go_simp; with_reducible rfl
        try simp only [Act.put, List.setIfInBounds_toArray, List.set_cons_zero, List.set_cons_succ]
        refine reg_rd 9 (v := ?_) rfl (by kernel_rfl) (by kernel_rfl) (by kernel_rfl) (fun _ _ _ h => h) (by rfl) (by assumption) ?_ ?_
        rotate_left
        · intro w hSw; go_simp; with_reducible rfl
        try simp only [Act.put, List.setIfInBounds_toArray, List.set_cons_zero, List.set_cons_succ]
        refine reg_rd 10 (v := ?_) rfl (by kernel_rfl) (by kernel_rfl) (by kernel_rfl) (fun _ _ _ h => h) (by rfl) (by assumption) ?_ ?_
        rotate_left
        · intro w hSw; go_simp; with_reducible rfl
        try simp only [Act.put, List.setIfInBounds_toArray, List.set_cons_zero, List.set_cons_succ]
        refine reg_rd 11 (v := ?_) rfl (by kernel_rfl) (by kernel_rfl) (by kernel_rfl) (fun _ _ _ h => h) (by rfl) (by assumption) ?_ ?_
        rotate_left
        · intro w hSw; go_simp; with_reducible rfl
        try simp only [Act.put, List.setIfInBounds_toArray, List.set_cons_zero, List.set_cons_succ]
        refine reg_rd 12 (v := ?_) rfl (by kernel_rfl) (by kernel_rfl) (by kernel_rfl) (fun _ _ _ h => h) (by rfl) (by assumption) ?_ ?_
        rotate_left
        · intro w hSw; go_simp; with_reducible rfl
        try simp only [Act.put, List.setIfInBounds_toArray, List.set_cons_zero, List.set_cons_succ]
        refine reg_rd 13 (v := ?_) rfl (by kernel_rfl) (by kernel_rfl) (by kernel_rfl) (fun _ _ _ h => h) (by rfl) (by assumption) ?_ ?_
        rotate_left
        · intro w hSw; go_simp; with_reducible rfl
        try simp only [Act.put, List.setIfInBounds_toArray, List.set_cons_zero, List.set_cons_succ]
        refine reg_rd 14 (v := ?_) rfl (by kernel_rfl) (by kernel_rfl) (by kernel_rfl) (fun _ _ _ h => h) (by rfl) (by assumption) ?_ ?_
        rotate_left
        · intro w hSw; go_simp; with_reducible rfl
        try simp only [Act.put, List.setIfInBounds_toArray, List.set_cons_zero, List.set_cons_succ]
        refine reg_rd 15 (v := ?_) rfl (by kernel_rfl) (by kernel_rfl) (by kernel_rfl) (fun _ _ _ h => h) (by rfl) (by assumption) ?_ ?_
        rotate_left
        · intro w hSw; go_simp; with_reducible rfl
        try simp only [Act.put, List.setIfInBounds_toArray, List.set_cons_zero, List.set_cons_succ]
        refine reg_rd 16 (v := ?_) rfl (by kernel_rfl) (by kernel_rfl) (by kernel_rfl) (fun _ _ _ h => h) (by rfl) (by assumption) ?_ ?_
        rotate_left
        · intro w hSw; go_simp; with_reducible rfl
        try simp only [Act.put, List.setIfInBounds_toArray, List.set_cons_zero, List.set_cons_succ]
        refine reg_rd 17 (v := ?_) rfl (by kernel_rfl) (by kernel_rfl) (by kernel_rfl) (fun _ _ _ h => h) (by rfl) (by assumption) ?_ ?_
        rotate_left
        · intro w hSw; go_simp; with_reducible rfl
        try simp only [Act.put, List.setIfInBounds_toArray, List.set_cons_zero, List.set_cons_succ]
        refine reg_rd 18 (v := ?_) rfl (by kernel_rfl) (by kernel_rfl) (by kernel_rfl) (fun _ _ _ h => h) (by rfl) (by assumption) ?_ ?_
        rotate_left
        · intro w hSw; go_simp; with_reducible rfl
        try simp only [Act.put, List.setIfInBounds_toArray, List.set_cons_zero, List.set_cons_succ]
        refine reg_rd 19 (v := ?_) rfl (by kernel_rfl) (by kernel_rfl) (by kernel_rfl) (fun _ _ _ h => h) (by rfl) (by assumption) ?_ ?_
        rotate_left
        · intro w hSw; go_simp; with_reducible rfl
        try simp only [Act.put, List.setIfInBounds_toArray, List.set_cons_zero, List.set_cons_succ]
        refine reg_rd 20 (v := ?_) rfl (by kernel_rfl) (by kernel_rfl) (by kernel_rfl) (fun _ _ _ h => h) (by rfl) (by assumption) ?_ ?_
        rotate_left
        · intro w hSw; go_simp; with_reducible rfl
        try simp only [Act.put, List.setIfInBounds_toArray, List.set_cons_zero, List.set_cons_succ]
        refine reg_rd 21 (v := ?_) rfl (by kernel_rfl) (by kernel_rfl) (by kernel_rfl) (fun _ _ _ h => h) (by rfl) (by assumption) ?_ ?_
        rotate_left
        · (intro w' hSw; have hq1 := conv_str (c := cb) HMM.out (SB.out.below hSw); have hq2 := conv_str (c := cA) HMM.out (SA.out.below hSw); go_simp); with_reducible rfl
        try simp only [Act.put, List.setIfInBounds_toArray, List.set_cons_zero, List.set_cons_succ]
        refine reg_rd 22 (v := ?_) rfl (by kernel_rfl) (by kernel_rfl) (by kernel_rfl) (fun _ _ _ h => h) (by rfl) (by assumption) ?_ ?_
        rotate_left
        · intro w hSw; go_simp; with_reducible rfl
        try simp only [Act.put, List.setIfInBounds_toArray, List.set_cons_zero, List.set_cons_succ]
        refine reg_rd 23 (v := ?_) rfl (by kernel_rfl) (by kernel_rfl) (by kernel_rfl) (fun _ _ _ h => h) (by rfl) (by assumption) ?_ ?_
        rotate_left
        · intro w hSw; go_simp; with_reducible rfl
        try simp only [Act.put, List.setIfInBounds_toArray, List.set_cons_zero, List.set_cons_succ]
        refine reg_rd 24 (v := ?_) rfl (by kernel_rfl) (by kernel_rfl) (by kernel_rfl) (fun _ _ _ h => h) (by rfl) (by assumption) ?_ ?_
        rotate_left
        · intro w hSw; go_simp; with_reducible rfl
        try simp only [Act.put, List.setIfInBounds_toArray, List.set_cons_zero, List.set_cons_succ]
        refine reg_rd 25 (v := ?_) rfl (by kernel_rfl) (by kernel_rfl) (by kernel_rfl) (fun _ _ _ h => h) (by rfl) (by assumption) ?_ ?_
        rotate_left
        · intro w hSw; go_simp; with_reducible rfl
        try simp only [Act.put, List.setIfInBounds_toArray, List.set_cons_zero, List.set_cons_succ]
        refine reg_rd 26 (v := ?_) rfl (by kernel_rfl) (by kernel_rfl) (by kernel_rfl) (fun _ _ _ h => h) (by rfl) (by assumption) ?_ ?_
        rotate_left
        · (intro w' hSw; have hq1 := conv_str (c := cb) HMM.out (SB.out.below hSw); have hq2 := conv_str (c := cA) HMM.out (SA.out.below hSw); go_simp); with_reducible rfl
        try simp only [Act.put, List.setIfInBounds_toArray, List.set_cons_zero, List.set_cons_succ]
        refine reg_rd 27 (v := ?_) rfl (by kernel_rfl) (by kernel_rfl) (by kernel_rfl) (fun _ _ _ h => h) (by rfl) (by assumption) ?_ ?_
        rotate_left
        · intro w hSw; go_simp; with_reducible rfl
        try simp only [Act.put, List.setIfInBounds_toArray, List.set_cons_zero, List.set_cons_succ]
        refine reg_rd 28 (v := ?_) rfl (by kernel_rfl) (by kernel_rfl) (by kernel_rfl) (fun _ _ _ h => h) (by rfl) (by assumption) ?_ ?_
        rotate_left
        · intro w hSw; go_simp; with_reducible rfl
        try simp only [Act.put, List.setIfInBounds_toArray, List.set_cons_zero, List.set_cons_succ]
        refine reg_rd 29 (v := ?_) rfl (by kernel_rfl) (by kernel_rfl) (by kernel_rfl) (fun _ _ _ h => h) (by rfl) (by assumption) ?_ ?_
        rotate_left
        · intro w hSw; go_simp; with_reducible rfl
        try simp only [Act.put, List.setIfInBounds_toArray, List.set_cons_zero, List.set_cons_succ]
        refine reg_rd 30 (v := ?_) rfl (by kernel_rfl) (by kernel_rfl) (by kernel_rfl) (fun _ _ _ h => h) (by rfl) (by assumption) ?_ ?_
        rotate_left
        · intro w hSw; go_simp; with_reducible rfl
        try simp only [Act.put, List.setIfInBounds_toArray, List.set_cons_zero, List.set_cons_succ]
        refine reg_rd 31 (v := ?_) rfl (by kernel_rfl) (by kernel_rfl) (by kernel_rfl) (fun _ _ _ h => h) (by rfl) (by assumption) ?_ ?_
        rotate_left
        · intro w hSw; go_simp; with_reducible rfl
        try simp only [Act.put, List.setIfInBounds_toArray, List.set_cons_zero, List.set_cons_succ]
        refine reg_rd 32 (v := ?_) rfl (by kernel_rfl) (by kernel_rfl) (by kernel_rfl) (fun _ _ _ h => h) (by rfl) (by assumption) ?_ ?_
        rotate_left
        · intro w hSw; go_simp; with_reducible rfl
        try simp only [Act.put, List.setIfInBounds_toArray, List.set_cons_zero, List.set_cons_succ]
        refine reg_rd 33 (v := ?_) rfl (by kernel_rfl) (by kernel_rfl) (by kernel_rfl) (fun _ _ _ h => h) (by rfl) (by assumption) ?_ ?_
        rotate_left
        · intro w hSw; go_simp; with_reducible rfl
        try simp only [Act.put, List.setIfInBounds_toArray, List.set_cons_zero, List.set_cons_succ]
        refine reg_rd 34 (v := ?_) rfl (by kernel_rfl) (by kernel_rfl) (by kernel_rfl) (fun _ _ _ h => h) (by rfl) (by assumption) ?_ ?_
        rotate_left
        · intro w hSw; go_simp; with_reducible rfl
        try simp only [Act.put, List.setIfInBounds_toArray, List.set_cons_zero, List.set_cons_succ]
        refine reg_un 35 rfl (by kernel_rfl) (by kernel_rfl) (by kernel_rfl) (fun _ _ _ h => h) (by rfl) (by assumption) ?_
        try simp only [Act.put, List.setIfInBounds_toArray, List.set_cons_zero, List.set_cons_succ]
        refine reg_un 36 rfl (by kernel_rfl) (by kernel_rfl) (by kernel_rfl) (fun _ _ _ h => h) (by rfl) (by assumption) ?_
        try simp only [Act.put, List.setIfInBounds_toArray, List.set_cons_zero, List.set_cons_succ]
        refine reg_un 37 rfl (by kernel_rfl) (by kernel_rfl) (by kernel_rfl) (fun _ _ _ h => h) (by rfl) (by assumption) ?_
        try simp only [Act.put, List.setIfInBounds_toArray, List.set_cons_zero, List.set_cons_succ]
        refine reg_un 38 rfl (by kernel_rfl) (by kernel_rfl) (by kernel_rfl) (fun _ _ _ h => h) (by rfl) (by assumption) ?_
        try simp only [Act.put, List.setIfInBounds_toArray, List.set_cons_zero, List.set_cons_succ]
        refine reg_un 39 rfl (by kernel_rfl) (by kernel_rfl) (by kernel_rfl) (fun _ _ _ h => h) (by rfl) (by assumption) ?_
        try simp only [Act.put, List.setIfInBounds_toArray, List.set_cons_zero, List.set_cons_succ]
        refine reg_rd 40 (v := ?_) rfl (by kernel_rfl) (by kernel_rfl) (by kernel_rfl) (fun _ _ _ h => h) (by rfl) (by assumption) ?_ ?_
        rotate_left
        · intro w hSw; go_simp; with_reducible rfl
        try simp only [Act.put, List.setIfInBounds_toArray, List.set_cons_zero, List.set_cons_succ]
        refine reg_rd 41 (v := ?_) rfl (by kernel_rfl) (by kernel_rfl) (by kernel_rfl) (fun _ _ _ h => h) (by rfl) (by assumption) ?_ ?_
        rotate_left
        · intro w hSw; go_simp; with_reducible rfl
        try simp only [Act.put, List.setIfInBounds_toArray, List.set_cons_zero, List.set_cons_succ]
        refine reg_rd 42 (v := ?_) rfl (by kernel_rfl) (by kernel_rfl) (by kernel_rfl) (fun _ _ _ h => h) (by rfl) (by assumption) ?_ ?_
        rotate_left
        · intro w hSw; go_simp; with_reducible rfl
        try simp only [Act.put, List.setIfInBounds_toArray, List.set_cons_zero, List.set_cons_succ]
        refine wpAnyH_done (by kernel_rfl) ?_ _
        go_wp2_with fail
        go_ret
        exact ⟨rfl, below_then (below_then KR9.out.bl HB2.out) hT⟩
      · subst hcase
        have hk2 : (L.length : Int) ≤ keep := by omega
        have hk3 : (decide (keep < (L.length : Int))) = false := by simp; omega
        refine wpAnyH_ready (rs := [0]) (by kernel_rfl) (by simp) ?_
        refine reg_do1 rfl (by rfl) (fun K hK => ?_)
        go_simp
        (go_at_call 14; refine (alive16 _).mono ?_; rintro e wX ⟨rfl, hbX⟩; replace hT := below_then hT hbX)
        go_wp2_with fail
        refine hK.out _ _ ?_ (fun hNext => ?_)
        · assumption
        clear hK K hHeld
        have hHeld := hNext
        clear hNext
        try simp only [Act.put, List.setIfInBounds_toArray, List.set_cons_zero, List.set_cons_succ]
        refine reg_rd 1 (v := ?_) rfl (by kernel_rfl) (by kernel_rfl) (by kernel_rfl) (fun _ _ _ h => h) (by rfl) (by assumption) ?_ ?_
        rotate_left
        · intro w hSw; go_simp; with_reducible rfl
        try simp only [Act.put, List.setIfInBounds_toArray, List.set_cons_zero, List.set_cons_succ]
        refine reg_rd 2 (v := ?_) rfl (by kernel_rfl) (by kernel_rfl) (by kernel_rfl) (fun _ _ _ h => h) (by rfl) (by assumption) ?_ ?_
        rotate_left
        · intro w hSw; go_simp; with_reducible rfl
        try simp only [Act.put, List.setIfInBounds_toArray, List.set_cons_zero, List.set_cons_succ]
        refine reg_rd 3 (v := ?_) rfl (by kernel_rfl) (by kernel_rfl) (by kernel_rfl) (fun _ _ _ h => h) (by rfl) (by assumption) ?_ ?_
        rotate_left
        · intro w hSw; go_simp; with_reducible rfl
        try simp only [Act.put, List.setIfInBounds_toArray, List.set_cons_zero, List.set_cons_succ]
        refine reg_rd 4 (v := ?_) rfl (by kernel_rfl) (by kernel_rfl) (by kernel_rfl) (fun _ _ _ h => h) (by rfl) (by assumption) ?_ ?_
        rotate_left
        · intro w hSw; go_simp; with_reducible rfl
        try simp only [Act.put, List.setIfInBounds_toArray, List.set_cons_zero, List.set_cons_succ]
        refine reg_rd 5 (v := ?_) rfl (by kernel_rfl) (by kernel_rfl) (by kernel_rfl) (fun _ _ _ h => h) (by rfl) (by assumption) ?_ ?_
        rotate_left
        · intro w hSw; go_simp; with_reducible rfl
        try simp only [Act.put, List.setIfInBounds_toArray, List.set_cons_zero, List.set_cons_succ]
        refine reg_rd 6 (v := ?_) rfl (by kernel_rfl) (by kernel_rfl) (by kernel_rfl) (fun _ _ _ h => h) (by rfl) (by assumption) ?_ ?_
        rotate_left
        · intro w hSw; go_simp; with_reducible rfl
        try simp only [Act.put, List.setIfInBounds_toArray, List.set_cons_zero, List.set_cons_succ]
        refine reg_rd 7 (v := ?_) rfl (by kernel_rfl) (by kernel_rfl) (by kernel_rfl) (fun _ _ _ h => h) (by rfl) (by assumption) ?_ ?_
        rotate_left
        · intro w hSw; go_simp; with_reducible rfl
        try simp only [Act.put, List.setIfInBounds_toArray, List.set_cons_zero, List.set_cons_succ]
        refine reg_rd 8 (v := ?_) rfl (by kernel_rfl) (by kernel_rfl) (by kernel_rfl) (fun _ _ _ h => h) (by rfl) (by assumption) ?_ ?_
        rotate_left
        · intro w hSw; go_simp; with_reducible rfl
        try simp only [Act.put, List.setIfInBounds_toArray, List.set_cons_zero, List.set_cons_succ]
        refine reg_rd 9 (v := ?_) rfl (by kernel_rfl) (by kernel_rfl) (by kernel_rfl) (fun _ _ _ h => h) (by rfl) (by assumption) ?_ ?_
        rotate_left
        · intro w hSw; go_simp; with_reducible rfl
        try simp only [Act.put, List.setIfInBounds_toArray, List.set_cons_zero, List.set_cons_succ]
        refine reg_rd 10 (v := ?_) rfl (by kernel_rfl) (by kernel_rfl) (by kernel_rfl) (fun _ _ _ h => h) (by rfl) (by assumption) ?_ ?_
        rotate_left
        · intro w hSw; go_simp; with_reducible rfl
        try simp only [Act.put, List.setIfInBounds_toArray, List.set_cons_zero, List.set_cons_succ]
        refine reg_rd 11 (v := ?_) rfl (by kernel_rfl) (by kernel_rfl) (by kernel_rfl) (fun _ _ _ h => h) (by rfl) (by assumption) ?_ ?_
        rotate_left
        · intro w hSw; go_simp; with_reducible rfl
        try simp only [Act.put, List.setIfInBounds_toArray, List.set_cons_zero, List.set_cons_succ]
        refine reg_rd 12 (v := ?_) rfl (by kernel_rfl) (by kernel_rfl) (by kernel_rfl) (fun _ _ _ h => h) (by rfl) (by assumption) ?_ ?_
        rotate_left
        · intro w hSw; go_simp; with_reducible rfl
        try simp only [Act.put, List.setIfInBounds_toArray, List.set_cons_zero, List.set_cons_succ]
        refine reg_rd 13 (v := ?_) rfl (by kernel_rfl) (by kernel_rfl) (by kernel_rfl) (fun _ _ _ h => h) (by rfl) (by assumption) ?_ ?_
        rotate_left
        · intro w hSw; go_simp; with_reducible rfl
        try simp only [Act.put, List.setIfInBounds_toArray, List.set_cons_zero, List.set_cons_succ]
        refine reg_rd 14 (v := ?_) rfl (by kernel_rfl) (by kernel_rfl) (by kernel_rfl) (fun _ _ _ h => h) (by rfl) (by assumption) ?_ ?_
        rotate_left
        · intro w hSw; go_simp; with_reducible rfl
        try simp only [Act.put, List.setIfInBounds_toArray, List.set_cons_zero, List.set_cons_succ]
        refine reg_rd 15 (v := ?_) rfl (by kernel_rfl) (by kernel_rfl) (by kernel_rfl) (fun _ _ _ h => h) (by rfl) (by assumption) ?_ ?_
        rotate_left
        · intro w hSw; go_simp; with_reducible rfl
        try simp only [Act.put, List.setIfInBounds_toArray, List.set_cons_zero, List.set_cons_succ]
        refine reg_rd 16 (v := ?_) rfl (by kernel_rfl) (by kernel_rfl) (by kernel_rfl) (fun _ _ _ h => h) (by rfl) (by assumption) ?_ ?_
        rotate_left
        · intro w hSw; go_simp; with_reducible rfl
        try simp only [Act.put, List.setIfInBounds_toArray, List.set_cons_zero, List.set_cons_succ]
        refine reg_rd 17 (v := ?_) rfl (by kernel_rfl) (by kernel_rfl) (by kernel_rfl) (fun _ _ _ h => h) (by rfl) (by assumption) ?_ ?_
        rotate_left
        · intro w hSw; go_simp; with_reducible rfl
        try simp only [Act.put, List.setIfInBounds_toArray, List.set_cons_zero, List.set_cons_succ]
        refine reg_rd 18 (v := ?_) rfl (by kernel_rfl) (by kernel_rfl) (by kernel_rfl) (fun _ _ _ h => h) (by rfl) (by assumption) ?_ ?_
        rotate_left
        · intro w hSw; go_simp; with_reducible rfl
        try simp only [Act.put, List.setIfInBounds_toArray, List.set_cons_zero, List.set_cons_succ]
        refine reg_rd 19 (v := ?_) rfl (by kernel_rfl) (by kernel_rfl) (by kernel_rfl) (fun _ _ _ h => h) (by rfl) (by assumption) ?_ ?_
        rotate_left
        · intro w hSw; go_simp; with_reducible rfl
        try simp only [Act.put, List.setIfInBounds_toArray, List.set_cons_zero, List.set_cons_succ]
        refine reg_rd 20 (v := ?_) rfl (by kernel_rfl) (by kernel_rfl) (by kernel_rfl) (fun _ _ _ h => h) (by rfl) (by assumption) ?_ ?_
        rotate_left
        · intro w hSw; go_simp; with_reducible rfl
        try simp only [Act.put, List.setIfInBounds_toArray, List.set_cons_zero, List.set_cons_succ]
        refine reg_rd 21 (v := ?_) rfl (by kernel_rfl) (by kernel_rfl) (by kernel_rfl) (fun _ _ _ h => h) (by rfl) (by assumption) ?_ ?_
        rotate_left
        · (intro w' hSw; have hq1 := conv_str (c := cb) HMM.out (SB.out.below hSw); have hq2 := conv_str (c := cA) HMM.out (SA.out.below hSw); go_simp); with_reducible rfl
        try simp only [Act.put, List.setIfInBounds_toArray, List.set_cons_zero, List.set_cons_succ]
        refine reg_rd 22 (v := ?_) rfl (by kernel_rfl) (by kernel_rfl) (by kernel_rfl) (fun _ _ _ h => h) (by rfl) (by assumption) ?_ ?_
        rotate_left
        · intro w hSw; go_simp; with_reducible rfl
        try simp only [Act.put, List.setIfInBounds_toArray, List.set_cons_zero, List.set_cons_succ]
        refine reg_rd 23 (v := ?_) rfl (by kernel_rfl) (by kernel_rfl) (by kernel_rfl) (fun _ _ _ h => h) (by rfl) (by assumption) ?_ ?_
        rotate_left
        · intro w hSw; go_simp; with_reducible rfl
        try simp only [Act.put, List.setIfInBounds_toArray, List.set_cons_zero, List.set_cons_succ]
        refine reg_rd 24 (v := ?_) rfl (by kernel_rfl) (by kernel_rfl) (by kernel_rfl) (fun _ _ _ h => h) (by rfl) (by assumption) ?_ ?_
        rotate_left
        · intro w hSw; go_simp; with_reducible rfl
        try simp only [Act.put, List.setIfInBounds_toArray, List.set_cons_zero, List.set_cons_succ]
        refine reg_rd 25 (v := ?_) rfl (by kernel_rfl) (by kernel_rfl) (by kernel_rfl) (fun _ _ _ h => h) (by rfl) (by assumption) ?_ ?_
        rotate_left
        · intro w hSw; go_simp; with_reducible rfl
        try simp only [Act.put, List.setIfInBounds_toArray, List.set_cons_zero, List.set_cons_succ]
        refine reg_rd 26 (v := ?_) rfl (by kernel_rfl) (by kernel_rfl) (by kernel_rfl) (fun _ _ _ h => h) (by rfl) (by assumption) ?_ ?_
        rotate_left
        · (intro w' hSw; have hq1 := conv_str (c := cb) HMM.out (SB.out.below hSw); have hq2 := conv_str (c := cA) HMM.out (SA.out.below hSw); go_simp); with_reducible rfl
        try simp only [Act.put, List.setIfInBounds_toArray, List.set_cons_zero, List.set_cons_succ]
        refine reg_rd 27 (v := ?_) rfl (by kernel_rfl) (by kernel_rfl) (by kernel_rfl) (fun _ _ _ h => h) (by rfl) (by assumption) ?_ ?_
        rotate_left
        · intro w hSw; go_simp; with_reducible rfl
        try simp only [Act.put, List.setIfInBounds_toArray, List.set_cons_zero, List.set_cons_succ]
        refine reg_rd 28 (v := ?_) rfl (by kernel_rfl) (by kernel_rfl) (by kernel_rfl) (fun _ _ _ h => h) (by rfl) (by assumption) ?_ ?_
        rotate_left
        · intro w hSw; go_simp; with_reducible rfl
        try simp only [Act.put, List.setIfInBounds_toArray, List.set_cons_zero, List.set_cons_succ]
        refine reg_rd 29 (v := ?_) rfl (by kernel_rfl) (by kernel_rfl) (by kernel_rfl) (fun _ _ _ h => h) (by rfl) (by assumption) ?_ ?_
        rotate_left
        · intro w hSw; go_simp; with_reducible rfl
        try simp only [Act.put, List.setIfInBounds_toArray, List.set_cons_zero, List.set_cons_succ]
        refine reg_rd 30 (v := ?_) rfl (by kernel_rfl) (by kernel_rfl) (by kernel_rfl) (fun _ _ _ h => h) (by rfl) (by assumption) ?_ ?_
        rotate_left
        · intro w hSw; go_simp; with_reducible rfl
        try simp only [Act.put, List.setIfInBounds_toArray, List.set_cons_zero, List.set_cons_succ]
        refine reg_rd 31 (v := ?_) rfl (by kernel_rfl) (by kernel_rfl) (by kernel_rfl) (fun _ _ _ h => h) (by rfl) (by assumption) ?_ ?_
        rotate_left
        · intro w hSw; go_simp; with_reducible rfl
        try simp only [Act.put, List.setIfInBounds_toArray, List.set_cons_zero, List.set_cons_succ]
        refine reg_rd 32 (v := ?_) rfl (by kernel_rfl) (by kernel_rfl) (by kernel_rfl) (fun _ _ _ h => h) (by rfl) (by assumption) ?_ ?_
        rotate_left
        · intro w hSw; go_simp; with_reducible rfl
        try simp only [Act.put, List.setIfInBounds_toArray, List.set_cons_zero, List.set_cons_succ]
        refine reg_rd 33 (v := ?_) rfl (by kernel_rfl) (by kernel_rfl) (by kernel_rfl) (fun _ _ _ h => h) (by rfl) (by assumption) ?_ ?_
        rotate_left
        · intro w hSw; go_simp; with_reducible rfl
        try simp only [Act.put, List.setIfInBounds_toArray, List.set_cons_zero, List.set_cons_succ]
        refine reg_rd 34 (v := ?_) rfl (by kernel_rfl) (by kernel_rfl) (by kernel_rfl) (fun _ _ _ h => h) (by rfl) (by assumption) ?_ ?_
        rotate_left
        · intro w hSw; go_simp; with_reducible rfl
        try simp only [Act.put, List.setIfInBounds_toArray, List.set_cons_zero, List.set_cons_succ]
        refine reg_rd 35 (v := ?_) rfl (by kernel_rfl) (by kernel_rfl) (by kernel_rfl) (fun _ _ _ h => h) (by rfl) (by assumption) ?_ ?_
        rotate_left
        · intro w hSw; go_simp; with_reducible rfl
        try simp only [Act.put, List.setIfInBounds_toArray, List.set_cons_zero, List.set_cons_succ]
        refine reg_rd 36 (v := ?_) rfl (by kernel_rfl) (by kernel_rfl) (by kernel_rfl) (fun _ _ _ h => h) (by rfl) (by assumption) ?_ ?_
        rotate_left
        · intro w hSw; go_simp; with_reducible rfl
        try simp only [Act.put, List.setIfInBounds_toArray, List.set_cons_zero, List.set_cons_succ]
        refine reg_rd 37 (v := ?_) rfl (by kernel_rfl) (by kernel_rfl) (by kernel_rfl) (fun _ _ _ h => h) (by rfl) (by assumption) ?_ ?_
        rotate_left
        · intro w hSw; go_simp; with_reducible rfl
        try simp only [Act.put, List.setIfInBounds_toArray, List.set_cons_zero, List.set_cons_succ]
        refine reg_rd 38 (v := ?_) rfl (by kernel_rfl) (by kernel_rfl) (by kernel_rfl) (fun _ _ _ h => h) (by rfl) (by assumption) ?_ ?_
        rotate_left
        · intro w hSw; go_simp; with_reducible rfl
        try simp only [Act.put, List.setIfInBounds_toArray, List.set_cons_zero, List.set_cons_succ]
        refine reg_rd 39 (v := ?_) rfl (by kernel_rfl) (by kernel_rfl) (by kernel_rfl) (fun _ _ _ h => h) (by rfl) (by assumption) ?_ ?_
        rotate_left
        · intro w hSw; go_simp; with_reducible rfl
        try simp only [Act.put, List.setIfInBounds_toArray, List.set_cons_zero, List.set_cons_succ]
        refine reg_rd 40 (v := ?_) rfl (by kernel_rfl) (by kernel_rfl) (by kernel_rfl) (fun _ _ _ h => h) (by rfl) (by assumption) ?_ ?_
        rotate_left
        · intro w hSw; go_simp; with_reducible rfl
        try simp only [Act.put, List.setIfInBounds_toArray, List.set_cons_zero, List.set_cons_succ]
        refine reg_rd 41 (v := ?_) rfl (by kernel_rfl) (by kernel_rfl) (by kernel_rfl) (fun _ _ _ h => h) (by rfl) (by assumption) ?_ ?_
        rotate_left
        · intro w hSw; go_simp; with_reducible rfl
        try simp only [Act.put, List.setIfInBounds_toArray, List.set_cons_zero, List.set_cons_succ]
        refine reg_rd 42 (v := ?_) rfl (by kernel_rfl) (by kernel_rfl) (by kernel_rfl) (fun _ _ _ h => h) (by rfl) (by assumption) ?_ ?_
        rotate_left
        · intro w hSw; go_simp; with_reducible rfl
        try simp only [Act.put, List.setIfInBounds_toArray, List.set_cons_zero, List.set_cons_succ]
        refine wpAnyH_done (by kernel_rfl) ?_ _
        go_wp2_with fail
        go_ret
        exact ⟨rfl, below_then (below_then KR9.out.bl HB2.out) hT⟩
end Go.Proofs.Ythboeilpeggpoaa
