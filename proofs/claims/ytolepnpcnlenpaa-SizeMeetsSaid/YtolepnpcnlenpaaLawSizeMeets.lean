/-
  SizeMeets: how many replicas any two groups have in common at least is as the document says, and each two groups have at least so many: the walk.
-/
import Derived.Test.YtolepnpcnlenpaaSizeAlive
import Derived.Test.YtolepnpcnlenpaaMem
import Derived.Deep.RegionHeld3
namespace Go.Proofs.Ytolepnpcnlenpaa
open Go.RowKit
/-- How many below k. -/
def cnt (p : Nat → Bool) (k : Nat) : Nat := ((List.range k).filter p).length
theorem cnt_succ (p : Nat → Bool) (k : Nat) : cnt p (k + 1) = cnt p k + if p k then 1 else 0 := by
  simp only [cnt, List.range_succ, List.filter_append, List.length_append, List.filter_cons, List.filter_nil]
  split <;> simp
theorem cnt_le (p : Nat → Bool) (k : Nat) : cnt p k ≤ k := by
  have := List.length_filter_le p (List.range k)
  simpa [cnt] using this
theorem cnt_and (p q : Nat → Bool) (k : Nat) : cnt p k + cnt q k ≤ cnt (fun i => p i && q i) k + k := by
  induction k with
  | zero => simp [cnt]
  | succ k ih =>
    rw [cnt_succ, cnt_succ, cnt_succ]
    cases p k <;> cases q k <;> simp <;> omega
def inR (l : List Bool) (i : Nat) : Bool := l[i]?.getD false
theorem meets_law {x y both n : Int} (h : x + y ≤ both + n) (hx : 0 ≤ x) (hy : 0 ≤ y) (hb : 0 ≤ both) : meetI x y n ≤ both := by
  unfold meetI within; omega
theorem boolR_eq {w : World} {v : Value} {b : Bool} (h : boolR w [v] b) : v = .bool b := by simpa [boolR] using h

theorem meets_no (F T : Int) (A B : Option Addr) (a b : List Bool) (ca cb : Nat) (ha : a.length ≤ maxLen) (hb : b.length ≤ maxLen) (hs : sizeOk F T = false ∨ 60 < a.length ∨ 60 < b.length) (w : World) :
    Calls Try.prog 5 #[szV F T, .slice A a.length ca, .slice B b.length cb] w fun e w' => e = .returned (.bool true) ∧ Below w.heap.size w w' := by
  unfold maxLen at ha hb
  cases h : sizeOk F T
  · go_enter Try.func5, Try.ntmps5
    go_wp2_with fail
    refine (rright_any F T _).mono ?_; rintro e w1 ⟨rfl, hb1⟩
    rw [h]
    go_wp2_with fail
    refine (alive07 _).mono ?_; rintro e w2 ⟨rfl, hb2⟩
    go_wp2_with fail
    go_ret
    exact ⟨rfl, below_then (below_then (below_alloc (below_new _ _) _) hb1) hb2⟩
  · rw [h] at hs
    simp only [Bool.true_eq_false, false_or] at hs
    by_cases h1 : 60 < a.length
    · go_enter Try.func5, Try.ntmps5
      go_wp2_with fail
      refine (rright_any F T _).mono ?_; rintro e w1 ⟨rfl, hb1⟩
      rw [h]
      go_wp2_with fail
      refine (alive07 _).mono ?_; rintro e w2 ⟨rfl, hb2⟩
      go_wp2_with fail
      go_ret
      exact ⟨rfl, below_then (below_then (below_alloc (below_new _ _) _) hb1) hb2⟩
    · have h2 : 60 < b.length := by omega
      go_enter Try.func5, Try.ntmps5
      go_wp2_with fail
      refine (rright_any F T _).mono ?_; rintro e w1 ⟨rfl, hb1⟩
      rw [h]
      go_wp2_with fail
      refine (alive07 _).mono ?_; rintro e w2 ⟨rfl, hb2⟩
      go_wp2_with fail
      go_ret
      exact ⟨rfl, below_then (below_then (below_alloc (below_new _ _) _) hb1) hb2⟩
set_option maxHeartbeats 4000000 in
theorem meets_yes (F T : Int) (A B : Option Addr) (a b : List Bool) (ca cb : Nat) (ha : a.length ≤ 60) (hb : b.length ≤ 60) (h : sizeOk F T = true) (w : World)
    (sa : Sl boolR 1 w A a) (sb : Sl boolR 1 w B b) :
    Calls Try.prog 5 #[szV F T, .slice A a.length ca, .slice B b.length cb] w fun e w' => e = .returned (.bool true) ∧ Below w.heap.size w w' := by
  obtain ⟨l1, l2, l3, l4⟩ := sizeOk_iff.1 h
  go_enter Try.func5, Try.ntmps5
  go_wp2_with fail
  refine (rright_any F T _).mono ?_; rintro e w1 ⟨rfl, hb1⟩
  rw [h]
  have A0 := cellB hb1 (b := w.heap.size) (o := 0) (v := .int .i64 F) (by simp [go_sem])
  have A1 := cellB hb1 (b := w.heap.size) (o := 1) (v := .int .i64 T) (by simp [go_sem])
  have B0 := cellB hb1 (b := w.heap.size + 1) (o := 0) (v := .int .i64 F) (by simp [go_sem])
  have B1 := cellB hb1 (b := w.heap.size + 1) (o := 1) (v := .int .i64 T) (by simp [go_sem])
  have hbw := below_then (below_alloc (below_new w _) _) hb1
  clear hb1
  have HSA := hid sa; have HSB := hid sb; clear sa sb
  go_wp2_with fail
  go_loopw [8, 9, 10, 11] (fun x y z i wr => ∃ k : Nat, (k : Int) ≤ 3 * F + 2 * T + 1 ∧ i = .int .i64 k ∧ x = .int .i64 (cnt (inR a) k : Nat) ∧ y = .int .i64 (cnt (inR b) k : Nat) ∧ z = .int .i64 (cnt (fun i => inR a i && inR b i) k : Nat) ∧
      wr.cell? ⟨w.heap.size, 0, none⟩ = some (.int .i64 F) ∧ wr.cell? ⟨w.heap.size, 1, none⟩ = some (.int .i64 T) ∧ wr.cell? ⟨w.heap.size + 1, 0, none⟩ = some (.int .i64 F) ∧ wr.cell? ⟨w.heap.size + 1, 1, none⟩ = some (.int .i64 T) ∧ Below w.heap.size w wr)
    (fun _ _ _ i _ => 26 - (intOf i).toNat)
  case atStart => exact ⟨0, by omega, rfl, rfl, rfl, rfl, A0, A1, B0, B1, hbw⟩
  case round =>
    obtain ⟨k, hk, rfl, rfl, rfl, rfl, C0, C1, D0, D1, hbr⟩ := hrel
    clear A0 A1 B0 B1 hbw
    have c1 := cnt_le (inR a) k
    have c2 := cnt_le (inR b) k
    have c3 := cnt_le (fun i => inR a i && inR b i) k
    go_wp2_with fail
    refine (rN_any F T h _).mono ?_; rintro e w5 ⟨rfl, hb5⟩
    have E0 := cellB hb5 C0
    have E1 := cellB hb5 C1
    have G0 := cellB hb5 D0
    have G1 := cellB hb5 D1
    have hbr5 := below_then hbr hb5
    clear C0 C1 D0 D1 hbr hb5
    by_cases hlt : (k : Int) < 3 * F + 2 * T + 1
    · have s1 := cnt_succ (inR a) k
      have s2 := cnt_succ (inR b) k
      have s3 := cnt_succ (fun i => inR a i && inR b i) k
      rcases Nat.lt_or_ge k a.length with ka | ka <;> rcases Nat.lt_or_ge k b.length with kb | kb
      · obtain ⟨ba, oa, va, rfl, ha1, ha2, ha3⟩ := HSA.out.get1 (List.getElem?_eq_getElem ka)
        rw [boolR_eq ha2] at ha3
        have ha4 := (hbr5.cell (p := ⟨ba, oa + k, none⟩) ha1).trans ha3
        have i1 : inR a k = a[k] := by simp [inR, ka]
        clear ha1 ha2 ha3
        obtain ⟨bb, ob, vb, rfl, hb1, hb2, hb3⟩ := HSB.out.get1 (List.getElem?_eq_getElem kb)
        rw [boolR_eq hb2] at hb3
        have hb4 := (hbr5.cell (p := ⟨bb, ob + k, none⟩) hb1).trans hb3
        have i2 : inR b k = b[k] := by simp [inR, kb]
        clear hb1 hb2 hb3
        rw [i1] at s1; rw [i2] at s2; simp only [i1, i2] at s3
        generalize a[k] = xa at *
        generalize b[k] = xb at *
        clear i1 i2
        have HS1 := hid s1; have HS2 := hid s2; have HS3 := hid s3; clear s1 s2 s3
        go_wp2_with fail
        go_quiet (fail)
        go_wp2_with fail
        all_goals
          go_roundw
          case rel => exact ⟨k + 1, by omega, by go_num, by rw [HS1.out]; simp [*], by rw [HS2.out]; simp [*], by rw [HS3.out]; simp [*], E0, E1, G0, G1, below_drewN hbr5 _⟩
          case measure => simp [intOf]; omega
      · obtain ⟨ba, oa, va, rfl, ha1, ha2, ha3⟩ := HSA.out.get1 (List.getElem?_eq_getElem ka)
        rw [boolR_eq ha2] at ha3
        have ha4 := (hbr5.cell (p := ⟨ba, oa + k, none⟩) ha1).trans ha3
        have i1 : inR a k = a[k] := by simp [inR, ka]
        clear ha1 ha2 ha3
        have db : decide (k < b.length) = false := by simp; omega
        have i2 : inR b k = false := by simp [inR, kb]
        rw [i1] at s1; rw [i2] at s2; simp only [i1, i2] at s3
        generalize a[k] = xa at *
        clear i1 i2
        have HS1 := hid s1; have HS2 := hid s2; have HS3 := hid s3; clear s1 s2 s3
        go_wp2_with fail
        go_quiet (fail)
        go_wp2_with fail
        all_goals
          go_roundw
          case rel => exact ⟨k + 1, by omega, by go_num, by rw [HS1.out]; simp [*], by rw [HS2.out]; simp [*], by rw [HS3.out]; simp [*], E0, E1, G0, G1, below_drewN hbr5 _⟩
          case measure => simp [intOf]; omega
      · have da : decide (k < a.length) = false := by simp; omega
        have i1 : inR a k = false := by simp [inR, ka]
        obtain ⟨bb, ob, vb, rfl, hb1, hb2, hb3⟩ := HSB.out.get1 (List.getElem?_eq_getElem kb)
        rw [boolR_eq hb2] at hb3
        have hb4 := (hbr5.cell (p := ⟨bb, ob + k, none⟩) hb1).trans hb3
        have i2 : inR b k = b[k] := by simp [inR, kb]
        clear hb1 hb2 hb3
        rw [i1] at s1; rw [i2] at s2; simp only [i1, i2] at s3
        generalize b[k] = xb at *
        clear i1 i2
        have HS1 := hid s1; have HS2 := hid s2; have HS3 := hid s3; clear s1 s2 s3
        go_wp2_with fail
        go_quiet (fail)
        go_wp2_with fail
        all_goals
          go_roundw
          case rel => exact ⟨k + 1, by omega, by go_num, by rw [HS1.out]; simp [*], by rw [HS2.out]; simp [*], by rw [HS3.out]; simp [*], E0, E1, G0, G1, below_drewN hbr5 _⟩
          case measure => simp [intOf]; omega
      · have da : decide (k < a.length) = false := by simp; omega
        have i1 : inR a k = false := by simp [inR, ka]
        have db : decide (k < b.length) = false := by simp; omega
        have i2 : inR b k = false := by simp [inR, kb]
        rw [i1] at s1; rw [i2] at s2; simp only [i1, i2] at s3
        clear i1 i2
        have HS1 := hid s1; have HS2 := hid s2; have HS3 := hid s3; clear s1 s2 s3
        go_wp2_with fail
        go_quiet (fail)
        go_wp2_with fail
        all_goals
          go_roundw
          case rel => exact ⟨k + 1, by omega, by go_num, by rw [HS1.out]; simp [*], by rw [HS2.out]; simp [*], by rw [HS3.out]; simp [*], E0, E1, G0, G1, below_drewN hbr5 _⟩
          case measure => simp [intOf]; omega
    · have hk' : (k : Int) = 3 * F + 2 * T + 1 := by omega
      have hca := cnt_and (inR a) (inR b) k
      have m1 : meetI (cnt (inR a) k : Nat) (cnt (inR b) k : Nat) (3 * F + 2 * T + 1) ≤ (cnt (fun i => inR a i && inR b i) k : Nat) := meets_law (by omega) (by omega) (by omega) (by omega)
      clear hk' hca
      have en : IntKind.i64.wrap (-(b.length : Int)) = -(b.length : Int) := IntWalk.i64_in _ (by omega)
      go_wp2_with fail
      go_region_held3 (fun w' => w'.cell? ⟨w.heap.size, 0, none⟩ = some (.int .i64 F) ∧ w'.cell? ⟨w.heap.size, 1, none⟩ = some (.int .i64 T) ∧ w'.cell? ⟨w.heap.size + 1, 0, none⟩ = some (.int .i64 F) ∧ w'.cell? ⟨w.heap.size + 1, 1, none⟩ = some (.int .i64 T) ∧ Below w.heap.size w w') (first | exact ⟨E0, E1, G0, G1, hbr5.drew⟩ | (have hS := ‹_ ∧ _ ∧ _ ∧ _ ∧ _›; exact ⟨cellB hb hS.1, cellB hb hS.2.1, cellB hb hS.2.2.1, cellB hb hS.2.2.2.1, below_then hS.2.2.2.2 hb⟩))
        (first
          | (go_at_call 8; refine (alive07 _).mono ?_; rintro e w' ⟨rfl, hb⟩)
          | (go_at_call 26; refine (meet_any F T _ _ h _).mono ?_; rintro e w' ⟨rfl, hb⟩)
          | (go_at_call 27; refine (rmeet_any F T _ _ h _).mono ?_; rintro e w' ⟨rfl, hb⟩))
      obtain ⟨_, _, _, _, hb6⟩ := ‹_ ∧ _ ∧ _ ∧ _ ∧ _›
      go_wp2_with fail
      go_ret
      exact ⟨rfl, hb6⟩
end Go.Proofs.Ytolepnpcnlenpaa
