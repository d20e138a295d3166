/-
  The walks of package size (and of the reference): each function's contract: what it answers, and that nothing that was there has turned.
-/
import Derived.Test.YtgonmnjgodleeaaDoorRows
import Derived.Test.YtgonmnjgodleeaaDoorBase
namespace Go.Proofs.YtgonmnjgodleeaaDoor
open Go.RowKit

/-- A size by value. -/
abbrev szV (F T : Int) : Value := .agg #[.int .i64 F, .int .i64 T]
/-- Whether a size may be. -/
def sizeOk (F T : Int) : Bool := decide (1 ≤ F ∧ F ≤ 5 ∧ 0 ≤ T ∧ T ≤ F)
theorem sizeOk_iff {F T : Int} : sizeOk F T = true ↔ 1 ≤ F ∧ F ≤ 5 ∧ 0 ≤ T ∧ T ≤ F := by simp [sizeOk]
theorem sizeOk_no {F T : Int} (h : ¬ (1 ≤ F ∧ F ≤ 5 ∧ 0 ≤ T ∧ T ≤ F)) : sizeOk F T = false := by simp [sizeOk]; omega
theorem sizeOk_yes {F T : Int} (h : 1 ≤ F ∧ F ≤ 5 ∧ 0 ≤ T ∧ T ≤ F) : sizeOk F T = true := sizeOk_iff.2 h

theorem right_any (F T : Int) (w : World) :
    Calls Tryd.prog 29 #[szV F T] w fun e w' => e = .returned (.bool (sizeOk F T)) ∧ Below w.heap.size w w' := by
  by_cases h1 : 1 ≤ F
  · by_cases h2 : F ≤ 5
    · by_cases h3 : 0 ≤ T
      · by_cases h4 : T ≤ F
        · go_enter Tryd.func29, Tryd.ntmps29
          go_wp2
          go_ret
          exact ⟨ret_bool (by rw [sizeOk_yes ⟨h1, h2, h3, h4⟩]), below_new _ _⟩
        · go_enter Tryd.func29, Tryd.ntmps29
          go_wp2
          go_ret
          exact ⟨ret_bool (by rw [sizeOk_no (by omega)]), below_new _ _⟩
      · go_enter Tryd.func29, Tryd.ntmps29
        go_wp2
        go_ret
        exact ⟨ret_bool (by rw [sizeOk_no (by omega)]), below_new _ _⟩
    · go_enter Tryd.func29, Tryd.ntmps29
      go_wp2
      go_ret
      exact ⟨ret_bool (by rw [sizeOk_no (by omega)]), below_new _ _⟩
  · go_enter Tryd.func29, Tryd.ntmps29
    go_wp2
    go_ret
    exact ⟨ret_bool (by rw [sizeOk_no (by omega)]), below_new _ _⟩

theorem rright_any (F T : Int) (w : World) :
    Calls Tryd.prog 7 #[szV F T] w fun e w' => e = .returned (.bool (sizeOk F T)) ∧ Below w.heap.size w w' := by
  by_cases h1 : 1 ≤ F
  · by_cases h2 : F ≤ 5
    · by_cases h3 : 0 ≤ T
      · by_cases h4 : T ≤ F
        · go_enter Tryd.func7, Tryd.ntmps7
          go_wp2
          go_ret
          exact ⟨ret_bool (by rw [sizeOk_yes ⟨h1, h2, h3, h4⟩]), below_new _ _⟩
        · go_enter Tryd.func7, Tryd.ntmps7
          go_wp2
          go_ret
          exact ⟨ret_bool (by rw [sizeOk_no (by omega)]), below_new _ _⟩
      · go_enter Tryd.func7, Tryd.ntmps7
        go_wp2
        go_ret
        exact ⟨ret_bool (by rw [sizeOk_no (by omega)]), below_new _ _⟩
    · go_enter Tryd.func7, Tryd.ntmps7
      go_wp2
      go_ret
      exact ⟨ret_bool (by rw [sizeOk_no (by omega)]), below_new _ _⟩
  · go_enter Tryd.func7, Tryd.ntmps7
    go_wp2
    go_ret
    exact ⟨ret_bool (by rw [sizeOk_no (by omega)]), below_new _ _⟩

/-! ### the numbers: by floats -/
theorem pair_any (F T : Int) (w : World) :
    Calls Tryd.prog 41 #[szV F T] w fun e w' => e = .returned (.complex .f64 (floatOfInt .f64 F) (floatOfInt .f64 T)) ∧ Below w.heap.size w w' := by
  go_enter Tryd.func41, Tryd.ntmps41
  go_wp2
  go_ret
  exact ⟨rfl, below_new _ _⟩

/-- What 'of' comes to: so often F, so often T, reckoned in floats. -/
def ofVal (F T : Int) (a b : Nat) : Option Int :=
  (floatBits .mul .f64 (floatOfInt .f64 F) a).bind fun x => (floatBits .mul .f64 (floatOfInt .f64 T) b).bind fun y => (floatBits .add .f64 x y).bind fun s => floatToIntVal .f64 s .i64

theorem of_any (F T : Int) (a b : Nat) (n : Int) (h : ofVal F T a b = some n) (h0 : 0 ≤ n) (h1 : n ≤ 100000) (w : World) :
    Calls Tryd.prog 37 #[szV F T, .complex .f64 a b] w fun e w' => e = .returned (.int .i64 (n + 1)) ∧ Below w.heap.size w w' := by
  simp only [ofVal, Option.bind_eq_some_iff] at h
  obtain ⟨x, hx, y, hy, s, hs, h⟩ := h
  have q1 := fun (w : World) => run_float_arith (P := Tryd.prog) w .mul 76 .f64 _ _ _ hx
  have q2 := fun (w : World) => run_float_arith (P := Tryd.prog) w .mul 76 .f64 _ _ _ hy
  have q3 := fun (w : World) => run_float_arith (P := Tryd.prog) w .add 76 .f64 _ _ _ hs
  have q4 := fun (w : World) => run_convert_float_int (P := Tryd.prog) w 76 3 .f64 .i64 s n (by rw [Tryd.underlying76]; rfl) Tryd.underlying3 h
  clear hx hy hs h
  go_enter Tryd.func37, Tryd.ntmps37
  go_wp2_with (go_at_call 41; refine (pair_any _ _ _).mono ?_; rintro e w' ⟨rfl, hb⟩)
  go_ret
  exact ⟨rfl, below_then (below_new _ _) hb⟩

/-- All sizes that may be, tried. -/
def ofTable (a b : Nat) (p q : Int) : Bool := (List.range 6).all fun f => (List.range 6).all fun t => ofVal (f : Int) (t : Int) a b == some (p * f + q * t)
theorem of_table {a b : Nat} {p q : Int} (h : ofTable a b p q = true) {F T : Int} (hs : sizeOk F T = true) : ofVal F T a b = some (p * F + q * T) := by
  obtain ⟨h1, h2, h3, h4⟩ := sizeOk_iff.1 hs
  obtain ⟨f, rfl⟩ := Int.eq_ofNat_of_zero_le (show 0 ≤ F by omega)
  obtain ⟨t, rfl⟩ := Int.eq_ofNat_of_zero_le h3
  simp only [ofTable, List.all_eq_true, List.mem_range, beq_iff_eq] at h
  exact h f (by omega) t (by omega)

theorem tabN : ofTable 4613937818241073152 4611686018427387904 3 2 = true := by decide +kernel
theorem zN_any (F T : Int) (hs : sizeOk F T = true) (w : World) :
    Calls Tryd.prog 31 #[szV F T] w fun e w' => e = .returned (.int .i64 (3 * F + 2 * T + 1)) ∧ Below w.heap.size w w' := by
  have hb := sizeOk_iff.1 hs
  have h := of_table tabN hs
  go_enter Tryd.func31, Tryd.ntmps31
  go_wp2_with (go_at_call 37; refine (of_any _ _ _ _ _ h (by omega) (by omega) _).mono ?_; rintro e w' ⟨rfl, hb⟩)
  go_ret
  exact ⟨ret_int (by omega), below_then (below_new _ _) hb⟩

theorem rN_any (F T : Int) (hs : sizeOk F T = true) (w : World) :
    Calls Tryd.prog 11 #[szV F T] w fun e w' => e = .returned (.int .i64 (3 * F + 2 * T + 1)) ∧ Below w.heap.size w w' := by
  have hb := sizeOk_iff.1 hs
  go_enter Tryd.func11, Tryd.ntmps11
  go_wp2
  go_ret
  exact ⟨ret_int (by omega), below_new _ _⟩

theorem tabFast : ofTable 4613937818241073152 4607182418800017408 3 1 = true := by decide +kernel
theorem tabProof : ofTable 4611686018427387904 4607182418800017408 2 1 = true := by decide +kernel
theorem zProof_any (F T : Int) (hs : sizeOk F T = true) (w : World) :
    Calls Tryd.prog 24 #[szV F T] w fun e w' => e = .returned (.int .i64 (2 * F + T + 1)) ∧ Below w.heap.size w w' := by
  have hb := sizeOk_iff.1 hs
  have h := of_table tabProof hs
  go_enter Tryd.func24, Tryd.ntmps24
  go_wp2_with (go_at_call 37; refine (of_any _ _ _ _ _ h (by omega) (by omega) _).mono ?_; rintro e w' ⟨rfl, hb⟩)
  go_ret
  exact ⟨ret_int (by omega), below_then (below_new _ _) hb⟩

theorem rProof_any (F T : Int) (hs : sizeOk F T = true) (w : World) :
    Calls Tryd.prog 26 #[szV F T] w fun e w' => e = .returned (.int .i64 (2 * F + T + 1)) ∧ Below w.heap.size w w' := by
  have hb := sizeOk_iff.1 hs
  go_enter Tryd.func26, Tryd.ntmps26
  go_wp2
  go_ret
  exact ⟨ret_int (by omega), below_new _ _⟩

theorem tabMost : ofTable 4611686018427387904 4611686018427387904 2 2 = true := by decide +kernel
theorem tabVouch : ofTable 4607182418800017408 4607182418800017408 1 1 = true := by decide +kernel
theorem tabWeak : ofTable 4607182418800017408 0 1 0 = true := by decide +kernel
end Go.Proofs.YtgonmnjgodleeaaDoor
