/-
  What binds, told by its shadow: the program's.
-/
import Derived.Test.YtgonmnjgodleeaaRq
namespace Go.Proofs.Ytgonmnjgodleeaa
open Go.RowKit
/-- How many reports tell which value, in the order in which they first do. -/
def addM (m : List (Bts × Nat)) (x : Bts) : List (Bts × Nat) := match m.findIdx? (fun p => p.1 == x) with
  | some j => m.modify j fun p => (p.1, p.2 + 1)
  | none => m ++ [(x, 1)]
def mpE (m : List (Bts × Nat)) : List (AV × AV) := m.map fun p => (.str p.1, .int .i64 p.2)
theorem afind_mpE (x : Bts) : ∀ (m : List (Bts × Nat)) (i : Nat), afind (.str x) (mpE m) i = some ((m.findIdx? (fun p => p.1 == x)).map (· + i))
  | [], i => rfl
  | p :: m, i => by
    have ih := afind_mpE x m (i + 1)
    simp only [mpE, List.map_cons, afind, akeq] at ih ⊢
    rw [List.findIdx?_cons]
    by_cases h : x = p.1
    · subst h
      simp
    · have h' : ¬ (p.1 == x) = true := by simp; exact fun e => h e.symm
      rw [decide_eq_false h]
      simp only [h', ih]
      cases m.findIdx? (fun p => p.1 == x) with
      | none => rfl
      | some j => simp; omega
/-- What is counted. -/
def told (c : Int) : List Rp → List (Bts × Nat) → List (Bts × Nat)
  | [], m => m
  | r :: l, m => told c l (if tells c r then addM m r.value else m)
def val (m : List (Bts × Nat)) (x : Bts) : Nat := match m.find? (fun p => p.1 == x) with | some p => p.2 | none => 0
def okM (m : List (Bts × Nat)) : Prop := m.Pairwise (fun p q => p.1 ≠ q.1) ∧ ∀ p ∈ m, 0 < p.2
theorem idx_find {m : List (Bts × Nat)} {x : Bts} {j : Nat} (h : m.findIdx? (fun p => p.1 == x) = some j) : ∃ n, m[j]? = some (x, n) ∧ j < m.length ∧ ∀ i, i < j → ∀ p, m[i]? = some p → p.1 ≠ x := by
  rw [List.findIdx?_eq_some_iff_getElem] at h
  obtain ⟨h1, h2, h3⟩ := h
  refine ⟨(m[j]).2, ?_, h1, fun i hi p hp => ?_⟩
  · rw [List.getElem?_eq_getElem h1]
    simp only [beq_iff_eq] at h2
    rw [← h2]
  · have := h3 i hi
    obtain ⟨hl, rfl⟩ := List.getElem?_eq_some_iff.1 hp
    simpa using this
/-- An entry is what was counted. -/
theorem val_mem {m : List (Bts × Nat)} (hm : okM m) {p : Bts × Nat} (hp : p ∈ m) : val m p.1 = p.2 := by
  unfold val
  cases h : m.find? (fun q => q.1 == p.1) with
  | none =>
    rw [List.find?_eq_none] at h
    exact absurd (by simp) (h p hp)
  | some q =>
    have h1 := List.find?_some h
    have h2 := List.mem_of_find?_eq_some h
    simp only [beq_iff_eq] at h1
    have : q = p := by
      refine Classical.byContradiction fun hne => ?_
      have hpw := hm.1
      rw [List.pairwise_iff_getElem] at hpw
      obtain ⟨i, hi, rfl⟩ := List.getElem_of_mem hp
      obtain ⟨j, hj, rfl⟩ := List.getElem_of_mem h2
      rcases Nat.lt_trichotomy i j with h | h | h
      · exact hpw i j hi hj h h1.symm
      · subst h; exact hne rfl
      · exact hpw j i hj hi h h1
    rw [this]
theorem addM_cases (m : List (Bts × Nat)) (x : Bts) : (∃ j n, m.findIdx? (fun p => p.1 == x) = some j ∧ m[j]? = some (x, n) ∧ addM m x = m.set j (x, n + 1)) ∨ (m.findIdx? (fun p => p.1 == x) = none ∧ (∀ p ∈ m, p.1 ≠ x) ∧ addM m x = m ++ [(x, 1)]) := by
  unfold addM
  cases h : m.findIdx? (fun p => p.1 == x) with
  | none =>
    refine .inr ⟨rfl, fun p hp => ?_, rfl⟩
    rw [List.findIdx?_eq_none_iff] at h
    simpa using h p hp
  | some j =>
    obtain ⟨n, h1, h2, _⟩ := idx_find h
    refine .inl ⟨j, n, rfl, h1, ?_⟩
    apply List.ext_getElem?
    intro i
    rw [List.getElem?_modify, List.getElem?_set]
    by_cases hij : j = i
    · subst hij
      have he := (List.getElem?_eq_some_iff.1 h1).2
      simp [h2, he]
    · simp [hij]
theorem addM_ok {m : List (Bts × Nat)} (hm : okM m) (x : Bts) : okM (addM m x) := by
  rcases addM_cases m x with ⟨j, n, _, h1, h2⟩ | ⟨_, h1, h2⟩
  · rw [h2]
    have hj := (List.getElem?_eq_some_iff.1 h1).1
    refine ⟨?_, fun p hp => ?_⟩
    · have := hm.1
      rw [List.pairwise_iff_getElem] at this ⊢
      intro a b ha hb hab
      simp only [List.length_set] at ha hb
      have e : ∀ i (hi : i < m.length), ((m.set j (x, n + 1))[i]'(by simpa using hi)).1 = m[i].1 := fun i hi => by
        rw [List.getElem_set]
        split
        · rename_i hji
          subst hji
          rw [(List.getElem?_eq_some_iff.1 h1).2]
        · rfl
      rw [e a ha, e b hb]
      exact this a b ha hb hab
    · rcases List.mem_or_eq_of_mem_set hp with h | rfl
      · exact hm.2 p h
      · simp
  · rw [h2]
    refine ⟨?_, fun p hp => ?_⟩
    · rw [List.pairwise_append]
      exact ⟨hm.1, by simp, fun a ha b hb => by simp at hb; subst hb; exact h1 a ha⟩
    · rcases List.mem_append.1 hp with h | h
      · exact hm.2 p h
      · simp at h; subst h; simp
theorem val_none {m : List (Bts × Nat)} {x : Bts} (h : ∀ p ∈ m, p.1 ≠ x) : val m x = 0 := by
  unfold val
  have : m.find? (fun p => p.1 == x) = none := by
    rw [List.find?_eq_none]
    intro p hp; simpa using h p hp
  rw [this]
theorem val_addM {m : List (Bts × Nat)} (hm : okM m) (x y : Bts) : val (addM m x) y = val m y + if x = y then 1 else 0 := by
  have hm' := addM_ok hm x
  rcases addM_cases m x with ⟨j, n, _, h1, h2⟩ | ⟨_, h1, h2⟩
  · have hj := (List.getElem?_eq_some_iff.1 h1).1
    by_cases hxy : x = y
    · subst hxy
      rw [if_pos rfl]
      have e1 := val_mem hm (p := (x, n)) (List.mem_of_getElem? h1)
      have e2 := val_mem hm' (p := (x, n + 1)) (by rw [h2]; exact List.mem_of_getElem? (List.getElem?_set_self hj))
      simp only at e1 e2
      rw [e1, e2]
    · rw [if_neg hxy]
      by_cases hy : ∃ p ∈ m, p.1 = y
      · obtain ⟨p, hp, rfl⟩ := hy
        have e1 := val_mem hm hp
        have hp' : p ∈ addM m x := by
          rw [h2]
          obtain ⟨i, hi⟩ := List.getElem?_of_mem hp
          have hij : j ≠ i := fun e => by subst e; rw [h1] at hi; cases hi; exact hxy rfl
          exact List.mem_of_getElem? (i := i) (by rw [List.getElem?_set_ne hij]; exact hi)
        rw [val_mem hm' hp', e1]; rfl
      · have hn : ∀ p ∈ m, p.1 ≠ y := fun p hp e => hy ⟨p, hp, e⟩
        rw [val_none hn, val_none]
        intro p hp
        rw [h2] at hp
        rcases List.mem_or_eq_of_mem_set hp with h | rfl
        · exact hn p h
        · exact hxy
  · by_cases hxy : x = y
    · subst hxy
      rw [if_pos rfl, val_none h1]
      exact val_mem hm' (p := (x, 1)) (by rw [h2]; simp)
    · rw [if_neg hxy]
      by_cases hy : ∃ p ∈ m, p.1 = y
      · obtain ⟨p, hp, rfl⟩ := hy
        rw [val_mem hm hp, val_mem hm' (by rw [h2]; simp [hp])]; rfl
      · have hn : ∀ p ∈ m, p.1 ≠ y := fun p hp e => hy ⟨p, hp, e⟩
        rw [val_none hn, val_none]
        intro p hp
        rw [h2] at hp
        rcases List.mem_append.1 hp with h | h
        · exact hn p h
        · simp at h; subst h; exact hxy
theorem told_ok (c : Int) : ∀ (l : List Rp) (m : List (Bts × Nat)), okM m → okM (told c l m)
  | [], m, h => h
  | r :: l, m, h => told_ok c l _ (by split; exact addM_ok h _; exact h)
theorem told_val (c : Int) (x : Bts) : ∀ (l : List Rp) (m : List (Bts × Nat)), okM m → val (told c l m) x = val m x + cnt c x l
  | [], m, _ => by simp [told, cnt]
  | r :: l, m, h => by
    rw [told]
    have ih := told_val c x l
    unfold cnt at ih ⊢
    rw [List.countP_cons]
    by_cases ht : tells c r = true
    · rw [if_pos ht, ih _ (addM_ok h _), val_addM h]
      by_cases hx : r.value = x
      · rw [if_pos hx, if_pos (by simp [ht, hx])]; omega
      · rw [if_neg hx, if_neg (by simp [hx])]; omega
    · rw [if_neg ht, ih _ h, if_neg (by simp [ht])]; omega
theorem okM_nil : okM [] := ⟨List.Pairwise.nil, by simp⟩
/-- Each entry: its value is told so often. -/
theorem told_entry {c : Int} {l : List Rp} {p : Bts × Nat} (h : p ∈ told c l []) : p.2 = cnt c p.1 l := by
  rw [← val_mem (told_ok c l [] okM_nil) h, told_val c p.1 l [] okM_nil]
  simp [val]
/-- What is told is there. -/
theorem told_there {c : Int} {l : List Rp} {x : Bts} (h : 0 < cnt c x l) : ∃ p ∈ told c l [], p.1 = x := by
  refine Classical.byContradiction fun hn => ?_
  have h1 := told_val c x l [] okM_nil
  rw [val_none fun p hp e => hn ⟨p, hp, e⟩] at h1
  omega
end Go.Proofs.Ytgonmnjgodleeaa
