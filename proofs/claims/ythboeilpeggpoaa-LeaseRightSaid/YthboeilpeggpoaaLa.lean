/-
  Books of leases, in plain words. Nothing here speaks of the program.
-/
import Derived.Test.YthboeilpeggpoaaBase
namespace Go.Proofs.Ythboeilpeggpoaa
structure Ses where
  id : Int
  span : Int
  till : Int
deriving DecidableEq
structure Bk where
  now : Int
  l : List Ses
deriving DecidableEq
def okS (n : Int) (x : Ses) : Bool := decide (1 ≤ x.id) && decide (1 ≤ x.span) && decide (x.span ≤ 1000) && decide (n < x.till) && decide (x.till ≤ n + x.span)
/-- Each may be, and each Id is greater than the last. -/
def okL (n : Int) : Int → List Ses → Bool
  | _, [] => true
  | b, x :: l => okS n x && decide (b < x.id) && okL n x.id l
def rightB (b : Bk) : Bool := decide (0 ≤ b.now) && decide (b.now ≤ 1000000000) && decide ((b.l.length : Int) ≤ 50) && okL b.now 0 b.l
def hasL (l : List Ses) (id : Int) : Bool := l.any fun x => decide (x.id = id)
def atL (l : List Ses) (id : Int) : Nat := (l.takeWhile fun x => decide (x.id < id)).length
def openB (b : Bk) (id span : Int) : Bk × Int :=
  if id < 1 ∨ span < 1 ∨ 1000 < span then (b, 1) else if hasL b.l id = true then (b, 7) else if 50 ≤ (b.l.length : Int) then (b, 9) else (⟨b.now, b.l.take (atL b.l id) ++ ⟨id, span, b.now + span⟩ :: b.l.drop (atL b.l id)⟩, 0)
def touchL (now id : Int) (l : List Ses) : List Ses := l.map fun x => if x.id = id then ⟨x.id, x.span, now + x.span⟩ else x
def touchB (b : Bk) (id : Int) : Bk × Int := if hasL b.l id = true then (⟨b.now, touchL b.now id b.l⟩, 0) else (b, 14)
def closeB (b : Bk) (id : Int) : Bk × Int := if hasL b.l id = true then (⟨b.now, b.l.filter fun x => !decide (x.id = id)⟩, 0) else (b, 14)
def goneL (now : Int) (l : List Ses) : List Int := (l.filter fun x => decide (x.till ≤ now)).map (·.id)
def leftL (now : Int) (l : List Ses) : List Ses := l.filter fun x => !decide (x.till ≤ now)
def tickB (b : Bk) (now : Int) : Bk × List Int × Int := if now < b.now then (b, [], 15) else if 1000000000 < now then (b, [], 5) else (⟨now, leftL now b.l⟩, goneL now b.l, 0)
/-! ### sorted rows -/
def sortedS (l : List Ses) : Prop := l.Pairwise fun x y => x.id < y.id
theorem okL_mem {n : Int} : ∀ {l : List Ses} {b : Int}, okL n b l = true → ∀ x ∈ l, okS n x = true ∧ b < x.id
  | [], b, _, x, h => by simp at h
  | y :: l, b, h, x, hx => by
    simp only [okL, Bool.and_eq_true, decide_eq_true_eq] at h
    rcases List.mem_cons.1 hx with rfl | hx
    · exact ⟨h.1.1, h.1.2⟩
    · obtain ⟨g1, g2⟩ := okL_mem h.2 x hx
      exact ⟨g1, by omega⟩
theorem okL_sorted {n : Int} : ∀ {l : List Ses} {b : Int}, okL n b l = true → sortedS l
  | [], b, _ => List.Pairwise.nil
  | y :: l, b, h => by
    simp only [okL, Bool.and_eq_true, decide_eq_true_eq] at h
    exact List.Pairwise.cons (fun x hx => (okL_mem h.2 x hx).2) (okL_sorted h.2)
theorem okL_of {n : Int} : ∀ {l : List Ses} {b : Int}, sortedS l → (∀ x ∈ l, okS n x = true ∧ b < x.id) → okL n b l = true
  | [], b, _, _ => rfl
  | y :: l, b, hs, h => by
    simp only [okL, Bool.and_eq_true, decide_eq_true_eq]
    obtain ⟨g1, g2⟩ := h y List.mem_cons_self
    have hs' := List.pairwise_cons.1 hs
    exact ⟨⟨g1, g2⟩, okL_of hs'.2 fun x hx => ⟨(h x (List.mem_cons_of_mem _ hx)).1, hs'.1 x hx⟩⟩
theorem okS_id {n : Int} {x : Ses} (h : okS n x = true) : 1 ≤ x.id ∧ 1 ≤ x.span ∧ x.span ≤ 1000 ∧ n < x.till ∧ x.till ≤ n + x.span := by
  simp only [okS, Bool.and_eq_true, decide_eq_true_eq] at h; omega
theorem rightB_iff {b : Bk} : rightB b = true ↔ 0 ≤ b.now ∧ b.now ≤ 1000000000 ∧ (b.l.length : Int) ≤ 50 ∧ sortedS b.l ∧ ∀ x ∈ b.l, okS b.now x = true := by
  simp only [rightB, Bool.and_eq_true, decide_eq_true_eq]
  constructor
  · rintro ⟨⟨⟨h1, h2⟩, h3⟩, h4⟩
    exact ⟨h1, h2, h3, okL_sorted h4, fun x hx => (okL_mem h4 x hx).1⟩
  · rintro ⟨h1, h2, h3, h4, h5⟩
    exact ⟨⟨⟨h1, h2⟩, h3⟩, okL_of h4 fun x hx => ⟨h5 x hx, by have := okS_id (h5 x hx); omega⟩⟩
/-- Where an Id stands: all before are less, none behind is. -/
theorem atL_of {l : List Ses} {id : Int} {i : Nat} (hi : i ≤ l.length) (h1 : ∀ (j : Nat) x, j < i → l[j]? = some x → x.id < id) (h2 : ∀ (j : Nat) x, i ≤ j → l[j]? = some x → ¬ x.id < id) : i = atL l id := by
  induction l generalizing i with
  | nil => simp [atL] at hi ⊢; omega
  | cons y l ih =>
    unfold atL
    rw [List.takeWhile_cons]
    by_cases hy : y.id < id
    · rw [decide_eq_true hy]
      cases i with
      | zero => exact absurd hy (h2 0 y (Nat.le_refl _) rfl)
      | succ i =>
        have := ih (i := i) (by simpa using hi) (fun j x hj hx => h1 (j + 1) x (by omega) (by simpa using hx)) (fun j x hj hx => h2 (j + 1) x (by omega) (by simpa using hx))
        simp only [if_true, List.length_cons]
        rw [this]; rfl
    · rw [decide_eq_false hy]
      cases i with
      | zero => simp
      | succ i => exact absurd (h1 0 y (by omega) rfl) hy
theorem atL_le (l : List Ses) (id : Int) : atL l id ≤ l.length := (List.takeWhile_sublist _).length_le
theorem atL_lt {l : List Ses} {id : Int} {j : Nat} {x : Ses} (hj : j < atL l id) (hx : l[j]? = some x) : x.id < id := by
  induction l generalizing j with
  | nil => simp at hx
  | cons y l ih =>
    unfold atL at hj
    rw [List.takeWhile_cons] at hj
    by_cases hy : y.id < id
    · rw [decide_eq_true hy] at hj
      simp only [if_true, List.length_cons] at hj
      cases j with
      | zero => simp at hx; subst hx; exact hy
      | succ j => exact ih (j := j) (by unfold atL; omega) (by simpa using hx)
    · rw [decide_eq_false hy] at hj
      simp at hj
theorem atL_ge {l : List Ses} (hs : sortedS l) {id : Int} {j : Nat} {x : Ses} (hj : atL l id ≤ j) (hx : l[j]? = some x) : ¬ x.id < id := by
  induction l generalizing j with
  | nil => simp at hx
  | cons y l ih =>
    have hs' := List.pairwise_cons.1 hs
    unfold atL at hj
    rw [List.takeWhile_cons] at hj
    by_cases hy : y.id < id
    · rw [decide_eq_true hy] at hj
      simp only [if_true, List.length_cons] at hj
      cases j with
      | zero => omega
      | succ j => exact ih hs'.2 (j := j) (by unfold atL; omega) (by simpa using hx)
    · cases j with
      | zero => simp at hx; subst hx; exact hy
      | succ j =>
        have := hs'.1 x (List.mem_of_getElem? (by simpa using hx))
        omega
/-- An Id is there just if it stands at its place. -/
theorem has_at {l : List Ses} (hs : sortedS l) {id : Int} : hasL l id = true ↔ ∃ x, l[atL l id]? = some x ∧ x.id = id := by
  constructor
  · intro h
    simp only [hasL, List.any_eq_true, decide_eq_true_eq] at h
    obtain ⟨x, hx, rfl⟩ := h
    obtain ⟨j, hj⟩ := List.getElem?_of_mem hx
    have h1 : ¬ j < atL l x.id := fun h => by have := atL_lt h hj; omega
    have h2 : ¬ atL l x.id < j := fun h => by
      obtain ⟨y, hy⟩ : ∃ y, l[atL l x.id]? = some y := ⟨_, List.getElem?_eq_getElem (by have := (List.getElem?_eq_some_iff.1 hj).1; omega)⟩
      have g1 := atL_ge hs (Nat.le_refl _) hy
      unfold sortedS at hs
      rw [List.pairwise_iff_getElem] at hs
      obtain ⟨q1, rfl⟩ := List.getElem?_eq_some_iff.1 hj
      obtain ⟨q2, rfl⟩ := List.getElem?_eq_some_iff.1 hy
      have := hs _ _ q2 q1 h
      omega
    have : j = atL l x.id := by omega
    exact ⟨x, this ▸ hj, rfl⟩
  · rintro ⟨x, hx, rfl⟩
    simp only [hasL, List.any_eq_true, decide_eq_true_eq]
    exact ⟨x, List.mem_of_getElem? hx, rfl⟩
end Go.Proofs.Ythboeilpeggpoaa
