/-
  Layer 19: the best value of a tally, by its shadow.
-/
import Derived.Test.YtgonmnjgodleeaaDoorPa
namespace Go.Proofs.YtgonmnjgodleeaaDoor
open Go.RowKit
/-- A view and a value, counted in the order in which they first stand. -/
abbrev Ck := Int × Bts
def kE (q : Ck) : AV := .agg [.int .i64 q.1, .str q.2]
def addC (m : List (Ck × Nat)) (x : Ck) : List (Ck × Nat) := match m.findIdx? (fun p => p.1 == x) with
  | some j => m.modify j fun p => (p.1, p.2 + 1)
  | none => m ++ [(x, 1)]
def mpC (m : List (Ck × Nat)) : List (AV × AV) := m.map fun p => (kE p.1, .int .i64 p.2)
theorem akeq_kE (x y : Ck) : akeq (kE x) (kE y) = some (decide (x = y)) := by
  obtain ⟨a, b⟩ := x
  obtain ⟨c, d⟩ := y
  simp only [kE, akeq, akeqs, if_true, Option.map_some, Bool.and_true, Prod.mk.injEq, Option.some.injEq]
  rw [Bool.eq_iff_iff]; simp
theorem afind_mpC (x : Ck) : ∀ (m : List (Ck × Nat)) (i : Nat), afind (kE x) (mpC m) i = some ((m.findIdx? (fun p => p.1 == x)).map (· + i))
  | [], i => rfl
  | p :: m, i => by
    have ih := afind_mpC x m (i + 1)
    simp only [mpC, List.map_cons, afind, akeq_kE] at ih ⊢
    rw [List.findIdx?_cons]
    by_cases h : x = p.1
    · subst h
      simp
    · have h' : ¬ (p.1 == x) = true := by simp; exact fun e => h e.symm
      rw [decide_eq_false h]
      simp only [h', ih]
      cases m.findIdx? (fun p => p.1 == x) with
      | none => rfl
      | some j => simp; omega
def cntC (m : List (Ck × Nat)) (x : Ck) : Nat := match m.findIdx? (fun p => p.1 == x) with
  | some j => (m[j]?.map (·.2)).getD 0
  | none => 0
theorem idxC {m : List (Ck × Nat)} {x : Ck} {j : Nat} (h : m.findIdx? (fun p => p.1 == x) = some j) : ∃ n, m[j]? = some (x, n) ∧ j < m.length ∧ cntC m x = n ∧ ∀ i, i < j → ∀ p, m[i]? = some p → p.1 ≠ x := by
  have h0 := h
  rw [List.findIdx?_eq_some_iff_getElem] at h
  obtain ⟨h1, h2, h3⟩ := h
  have e : m[j]? = some (x, (m[j]).2) := by
    rw [List.getElem?_eq_getElem h1]
    simp only [beq_iff_eq] at h2
    rw [← h2]
  refine ⟨(m[j]).2, e, h1, by unfold cntC; rw [h0]; simp only [e]; rfl, fun i hi p hp => ?_⟩
  have := h3 i hi
  obtain ⟨hl, rfl⟩ := List.getElem?_eq_some_iff.1 hp
  simpa using this
theorem addC_cases (m : List (Ck × Nat)) (x : Ck) : (∃ j n, m.findIdx? (fun p => p.1 == x) = some j ∧ m[j]? = some (x, n) ∧ addC m x = m.set j (x, n + 1)) ∨ (m.findIdx? (fun p => p.1 == x) = none ∧ addC m x = m ++ [(x, 1)]) := by
  unfold addC
  cases h : m.findIdx? (fun p => p.1 == x) with
  | none => exact .inr ⟨rfl, rfl⟩
  | some j =>
    obtain ⟨n, h1, h2, _⟩ := idxC h
    refine .inl ⟨j, n, rfl, h1, ?_⟩
    apply List.ext_getElem?
    intro i
    obtain ⟨_, he⟩ := List.getElem?_eq_some_iff.1 h1
    simp only [List.getElem?_modify, List.getElem?_set]
    by_cases hij : j = i
    · subst hij
      simp [h2, he]
    · simp [hij]
theorem mpC_set {m : List (Ck × Nat)} {j n : Nat} {x : Ck} (h : m[j]? = some (x, n)) (hf : m.findIdx? (fun p => p.1 == x) = some j) : pset (mpC m) j (.int .i64 ((n : Int) + 1)) = mpC (addC m x) := by
  rcases addC_cases m x with ⟨j', n', h1, h2, h3⟩ | ⟨h1, _⟩
  · rw [hf] at h1
    cases h1
    rw [h] at h2
    cases h2
    rw [h3]
    apply List.ext_getElem?
    intro i
    rw [getElem?_pset]
    unfold mpC
    rw [List.getElem?_map, List.getElem?_map, List.getElem?_set]
    have hj := (List.getElem?_eq_some_iff.1 h).1
    by_cases hij : j = i
    · subst hij
      have he := (List.getElem?_eq_some_iff.1 h).2
      simp [hj, he]
    · simp [hij]
  · rw [hf] at h1; cases h1
theorem mpC_add {m : List (Ck × Nat)} {x : Ck} (hf : m.findIdx? (fun p => p.1 == x) = none) : mpC m ++ [(kE x, .int .i64 1)] = mpC (addC m x) := by
  rcases addC_cases m x with ⟨j', n', h1, h2, h3⟩ | ⟨h1, h3⟩
  · rw [hf] at h1; cases h1
  · rw [h3]; simp [mpC]
theorem mpC_bel (m : List (Ck × Nat)) (n : Nat) : (ABlk.map (mpC m)).bel n = true := by
  simp [ABlk.bel, mpC, kE, AV.bel, belL]
theorem findIdx_set_ne {m : List (Ck × Nat)} {j n : Nat} {x y : Ck} (hj : ∃ k, m[j]? = some (x, k)) : (m.set j (x, n)).findIdx? (fun p => p.1 == y) = m.findIdx? (fun p => p.1 == y) := by
  induction m generalizing j with
  | nil => simp
  | cons p m ih =>
    obtain ⟨k, hk⟩ := hj
    cases j with
    | zero =>
      simp only [List.getElem?_cons_zero, Option.some.injEq] at hk
      subst hk
      simp [List.findIdx?_cons]
    | succ j =>
      simp only [List.set_cons_succ, List.findIdx?_cons]
      rw [ih ⟨k, by simpa using hk⟩]
theorem cnt_addC (m : List (Ck × Nat)) (x y : Ck) : cntC (addC m x) y = cntC m y + (if x = y then 1 else 0) := by
  rcases addC_cases m x with ⟨j, n, h1, h2, h3⟩ | ⟨h1, h3⟩
  · rw [h3]
    unfold cntC
    rw [findIdx_set_ne ⟨n, h2⟩]
    have hj := (List.getElem?_eq_some_iff.1 h2).1
    cases h : m.findIdx? (fun p => p.1 == y) with
    | none =>
      by_cases hxy : x = y
      · subst hxy; rw [h1] at h; cases h
      · simp [hxy]
    | some i =>
      obtain ⟨k, g1, g2, _⟩ := idxC h
      simp only
      rw [List.getElem?_set]
      by_cases hij : j = i
      · subst hij
        rw [h2] at g1
        cases g1
        have he := (List.getElem?_eq_some_iff.1 h2).2
        simp [hj, he]
      · have hxy : ¬ x = y := fun e => by subst e; rw [h1] at h; cases h; exact hij rfl
        simp [hij, hxy]
  · rw [h3]
    unfold cntC
    rw [List.findIdx?_append]
    cases h : m.findIdx? (fun p => p.1 == y) with
    | some i =>
      obtain ⟨k, g1, g2, _⟩ := idxC h
      have hxy : ¬ x = y := fun e => by subst e; rw [h1] at h; cases h
      simp [hxy, List.getElem?_append_left g2]
    | none =>
      by_cases hxy : x = y
      · subst hxy
        simp
      · simp [hxy]
end Go.Proofs.YtgonmnjgodleeaaDoor
