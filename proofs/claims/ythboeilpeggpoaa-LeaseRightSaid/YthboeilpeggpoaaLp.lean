/-
  Laws of books, in plain words. Nothing here speaks of the program.
-/
import Derived.Test.YthboeilpeggpoaaLa
namespace Go.Proofs.Ythboeilpeggpoaa
theorem sorted_mem_eq : ∀ {l m : List Ses}, sortedS l → sortedS m → (∀ x, x ∈ l ↔ x ∈ m) → l = m
  | [], [], _, _, _ => rfl
  | [], y :: m, _, _, h => by have := (h y).2 List.mem_cons_self; simp at this
  | x :: l, [], _, _, h => by have := (h x).1 List.mem_cons_self; simp at this
  | x :: l, y :: m, hl, hm, h => by
    have hl' := List.pairwise_cons.1 hl
    have hm' := List.pairwise_cons.1 hm
    have hxy : x = y := by
      have h1 := (h x).1 List.mem_cons_self
      have h2 := (h y).2 List.mem_cons_self
      rcases List.mem_cons.1 h1 with h1 | h1
      · exact h1
      · rcases List.mem_cons.1 h2 with h2 | h2
        · exact h2.symm
        · have g1 := hm'.1 x h1
          have g2 := hl'.1 y h2
          omega
    subst hxy
    have key : ∀ z, z ∈ l ↔ z ∈ m := fun z => by
      constructor
      · intro hz
        rcases List.mem_cons.1 ((h z).1 (List.mem_cons_of_mem _ hz)) with e | e
        · subst e; have := hl'.1 z hz; omega
        · exact e
      · intro hz
        rcases List.mem_cons.1 ((h z).2 (List.mem_cons_of_mem _ hz)) with e | e
        · subst e; have := hm'.1 z hz; omega
        · exact e
    rw [sorted_mem_eq hl'.2 hm'.2 key]
theorem sorted_sub {l m : List Ses} (h : l.Sublist m) (hm : sortedS m) : sortedS l := List.Pairwise.sublist h hm
def insL (l : List Ses) (x : Ses) : List Ses := l.take (atL l x.id) ++ x :: l.drop (atL l x.id)
theorem insL_mem {l : List Ses} {x y : Ses} : y ∈ insL l x ↔ y = x ∨ y ∈ l := by
  unfold insL
  have : l = l.take (atL l x.id) ++ l.drop (atL l x.id) := (List.take_append_drop _ _).symm
  conv => rhs; rw [this]
  simp only [List.mem_append, List.mem_cons]
  constructor
  · rintro (h | h | h)
    · exact .inr (.inl h)
    · exact .inl h
    · exact .inr (.inr h)
  · rintro (h | h | h)
    · exact .inr (.inl h)
    · exact .inl h
    · exact .inr (.inr h)
theorem insL_len (l : List Ses) (x : Ses) : (insL l x).length = l.length + 1 := by
  unfold insL
  simp
  have := atL_le l x.id
  omega
theorem has_mem {l : List Ses} {id : Int} : hasL l id = true ↔ ∃ x ∈ l, x.id = id := by simp [hasL]
theorem insL_sorted {l : List Ses} (hs : sortedS l) {x : Ses} (hx : hasL l x.id = false) : sortedS (insL l x) := by
  unfold insL sortedS
  rw [List.pairwise_append]
  have hlt : ∀ a ∈ l.take (atL l x.id), a.id < x.id := fun a ha => by
    obtain ⟨j, hj⟩ := List.getElem?_of_mem ha
    rw [List.getElem?_take] at hj
    split at hj
    · rename_i h; exact atL_lt h hj
    · cases hj
  have hgt : ∀ b ∈ l.drop (atL l x.id), x.id < b.id := fun b hb => by
    obtain ⟨j, hj⟩ := List.getElem?_of_mem hb
    rw [List.getElem?_drop] at hj
    have h1 := atL_ge (id := x.id) hs (by omega) hj
    have h2 : ¬ b.id = x.id := fun e => by
      have : hasL l x.id = true := has_mem.2 ⟨b, List.mem_of_getElem? hj, e⟩
      rw [hx] at this; cases this
    omega
  refine ⟨sorted_sub (List.take_sublist _ _) hs, List.pairwise_cons.2 ⟨hgt, sorted_sub (List.drop_sublist _ _) hs⟩, fun a ha b hb => ?_⟩
  have h1 := hlt a ha
  rcases List.mem_cons.1 hb with rfl | hb
  · exact h1
  · have := hgt b hb; omega
theorem open_right {b : Bk} (h : rightB b = true) (id span : Int) : rightB (openB b id span).1 = true := by
  unfold openB
  split
  · exact h
  · rename_i hg
    split
    · exact h
    · rename_i hh
      split
      · exact h
      · rename_i h50
        obtain ⟨h1, h2, h3, h4, h5⟩ := rightB_iff.1 h
        have hh' : hasL b.l id = false := by simpa using hh
        have hm : ∀ y, y ∈ insL b.l ⟨id, span, b.now + span⟩ ↔ y = ⟨id, span, b.now + span⟩ ∨ y ∈ b.l := fun y => insL_mem
        rw [rightB_iff]
        refine ⟨h1, h2, ?_, insL_sorted h4 (x := ⟨id, span, b.now + span⟩) hh', fun y hy => ?_⟩
        · have := insL_len b.l ⟨id, span, b.now + span⟩
          unfold insL at this
          simp only at this ⊢
          omega
        · rcases (hm y).1 hy with rfl | hy
          · simp only [okS, Bool.and_eq_true, decide_eq_true_eq]; omega
          · exact h5 y hy
theorem touch_mem {n id : Int} {l : List Ses} {y : Ses} : y ∈ touchL n id l ↔ ∃ x ∈ l, y = if x.id = id then ⟨x.id, x.span, n + x.span⟩ else x := by
  simp [touchL, eq_comm]
theorem touch_ids (n id : Int) (l : List Ses) : (touchL n id l).map (·.id) = l.map (·.id) := by
  unfold touchL
  rw [List.map_map]
  apply List.map_congr_left
  intro x _
  simp only [Function.comp]
  split <;> rfl
theorem sorted_ids {l m : List Ses} (h : l.map (·.id) = m.map (·.id)) (hm : sortedS m) : sortedS l := by
  have h1 : (m.map (·.id)).Pairwise (· < ·) := List.pairwise_map.2 hm
  rw [← h] at h1
  exact List.pairwise_map.1 h1
theorem touchB_fst (b : Bk) (id : Int) : (touchB b id).1 = ⟨b.now, touchL b.now id b.l⟩ := by
  unfold touchB
  split
  · rfl
  · rename_i hh
    have : touchL b.now id b.l = b.l := by
      unfold touchL
      conv => rhs; rw [← List.map_id b.l]
      apply List.map_congr_left
      intro x hx
      have hne : ¬ x.id = id := fun e => hh (has_mem.2 ⟨x, hx, e⟩)
      simp [hne]
    rw [this]
theorem closeB_fst (b : Bk) (id : Int) : (closeB b id).1 = ⟨b.now, b.l.filter fun x => !decide (x.id = id)⟩ := by
  unfold closeB
  split
  · rfl
  · rename_i hh
    have : (b.l.filter fun x => !decide (x.id = id)) = b.l := by
      rw [List.filter_eq_self]
      intro x hx
      have hne : ¬ x.id = id := fun e => hh (has_mem.2 ⟨x, hx, e⟩)
      simp [hne]
    rw [this]
theorem touch_right {b : Bk} (h : rightB b = true) (id : Int) : rightB (touchB b id).1 = true := by
  obtain ⟨h1, h2, h3, h4, h5⟩ := rightB_iff.1 h
  rw [touchB_fst, rightB_iff]
  refine ⟨h1, h2, by simpa [touchL] using h3, sorted_ids (touch_ids _ _ _) h4, fun y hy => ?_⟩
  obtain ⟨x, hx, rfl⟩ := touch_mem.1 hy
  have := okS_id (h5 x hx)
  split
  · simp only [okS, Bool.and_eq_true, decide_eq_true_eq]; omega
  · exact h5 x hx
theorem close_right {b : Bk} (h : rightB b = true) (id : Int) : rightB (closeB b id).1 = true := by
  obtain ⟨h1, h2, h3, h4, h5⟩ := rightB_iff.1 h
  rw [closeB_fst, rightB_iff]
  have hsub : (b.l.filter fun x => !decide (x.id = id)).Sublist b.l := List.filter_sublist
  refine ⟨h1, h2, ?_, sorted_sub hsub h4, fun y hy => h5 y (hsub.subset hy)⟩
  have := hsub.length_le
  simp only; omega
theorem tick_right {b : Bk} (h : rightB b = true) (now : Int) : rightB (tickB b now).1 = true := by
  unfold tickB
  split
  · exact h
  · split
    · exact h
    · obtain ⟨h1, h2, h3, h4, h5⟩ := rightB_iff.1 h
      rw [rightB_iff]
      have hsub : (leftL now b.l).Sublist b.l := List.filter_sublist
      refine ⟨by dsimp only; omega, by dsimp only; omega, ?_, sorted_sub hsub h4, fun y hy => ?_⟩
      · have := hsub.length_le
        simp only; omega
      · have h6 := okS_id (h5 y (hsub.subset hy))
        simp only [leftL, List.mem_filter, Bool.not_eq_true', decide_eq_false_iff_not] at hy
        simp only [okS, Bool.and_eq_true, decide_eq_true_eq]; omega
theorem right_small {b : Bk} (h : rightB b = true) : b.l.length ≤ 1000000 := by
  obtain ⟨_, _, h3, _⟩ := rightB_iff.1 h; omega
theorem right_sorted {b : Bk} (h : rightB b = true) : sortedS b.l := (rightB_iff.1 h).2.2.2.1
theorem right_now {b : Bk} (h : rightB b = true) : 0 ≤ b.now ∧ b.now ≤ 1000000000 := ⟨(rightB_iff.1 h).1, (rightB_iff.1 h).2.1⟩
theorem right_spans {b : Bk} (h : rightB b = true) : ∀ x ∈ b.l, -9223372036854775808 ≤ b.now + x.span ∧ b.now + x.span ≤ 9223372036854775807 := fun x hx => by
  have h1 := right_now h
  have := okS_id ((rightB_iff.1 h).2.2.2.2 x hx)
  omega
/-- What was closed is gone. -/
theorem close_gone (b : Bk) (id : Int) : hasL (closeB b id).1.l id = false := by
  rw [closeB_fst, Bool.eq_false_iff]
  intro h
  obtain ⟨x, hx, e⟩ := has_mem.1 h
  simp only [List.mem_filter, Bool.not_eq_true', decide_eq_false_iff_not] at hx
  exact hx.2 e
/-- Two ticks. -/
theorem left_two {a1 a2 : Int} (h : a1 ≤ a2) (l : List Ses) : leftL a2 (leftL a1 l) = leftL a2 l := by
  unfold leftL
  rw [List.filter_filter]
  apply List.filter_congr
  intro x _
  by_cases h2 : x.till ≤ a2 <;> by_cases h1 : x.till ≤ a1 <;> simp [h1, h2]
  omega
theorem gone_two {a1 a2 : Int} (h : a1 ≤ a2) (l : List Ses) : (goneL a1 l).length + (goneL a2 (leftL a1 l)).length = (goneL a2 l).length := by
  unfold goneL leftL
  simp only [List.length_map]
  induction l with
  | nil => rfl
  | cons x l ih =>
    by_cases h1 : x.till ≤ a1
    · have h2 : x.till ≤ a2 := by omega
      simp only [List.filter_cons, h1, h2, decide_true, Bool.not_true, if_true, if_false, Bool.false_eq_true, List.length_cons]; omega
    · by_cases h2 : x.till ≤ a2
      · simp only [List.filter_cons, h1, h2, decide_true, decide_false, Bool.not_false, if_true, if_false, Bool.false_eq_true, List.length_cons]; omega
      · simp only [List.filter_cons, h1, h2, decide_false, Bool.not_false, if_true, if_false, Bool.false_eq_true]; omega
theorem tick_ok {b : Bk} {now : Int} (h : (tickB b now).2.2 = 0) : b.now ≤ now ∧ now ≤ 1000000000 ∧ tickB b now = (⟨now, leftL now b.l⟩, goneL now b.l, 0) := by
  unfold tickB at h ⊢
  by_cases h1 : now < b.now
  · rw [if_pos h1] at h; cases h
  · rw [if_neg h1] at h ⊢
    by_cases h2 : 1000000000 < now
    · rw [if_pos h2] at h; cases h
    · rw [if_neg h2]
      exact ⟨by omega, by omega, rfl⟩
theorem tick_two {x : Bk} {a1 a2 : Int} (h1 : (tickB x a1).2.2 = 0) (h2 : (tickB (tickB x a1).1 a2).2.2 = 0) (h3 : (tickB x a2).2.2 = 0) : (tickB (tickB x a1).1 a2).1 = (tickB x a2).1 ∧ (tickB x a1).2.1.length + (tickB (tickB x a1).1 a2).2.1.length = (tickB x a2).2.1.length := by
  obtain ⟨_, _, e1⟩ := tick_ok h1
  obtain ⟨_, _, e3⟩ := tick_ok h3
  obtain ⟨g, _, e2⟩ := tick_ok h2
  rw [e1] at g
  rw [e2, e3, e1]
  simp only at g ⊢
  exact ⟨by rw [left_two g], gone_two g _⟩
/-- Opened, ticked. -/
theorem open_ok {b : Bk} {id span : Int} (h : (openB b id span).2 = 0) : 1 ≤ id ∧ 1 ≤ span ∧ span ≤ 1000 ∧ hasL b.l id = false ∧ (b.l.length : Int) < 50 ∧ (openB b id span).1 = ⟨b.now, insL b.l ⟨id, span, b.now + span⟩⟩ := by
  unfold openB at h ⊢
  by_cases h1 : id < 1 ∨ span < 1 ∨ 1000 < span
  · rw [if_pos h1] at h; cases h
  · rw [if_neg h1] at h ⊢
    cases hh : hasL b.l id with
    | true => rw [hh, if_pos rfl] at h; cases h
    | false =>
      rw [hh, if_neg (by simp)] at h
      rw [if_neg (by simp)]
      by_cases h2 : 50 ≤ (b.l.length : Int)
      · rw [if_pos h2] at h; cases h
      · rw [if_neg h2]
        exact ⟨by omega, by omega, by omega, rfl, by omega, rfl⟩
theorem has_ins {l : List Ses} {x : Ses} (id : Int) : hasL (insL l x) id = (decide (x.id = id) || hasL l id) := by
  rw [Bool.eq_iff_iff, has_mem, Bool.or_eq_true, decide_eq_true_eq, has_mem]
  constructor
  · rintro ⟨y, hy, e⟩
    rcases insL_mem.1 hy with rfl | hy
    · exact .inl e
    · exact .inr ⟨y, hy, e⟩
  · rintro (e | ⟨y, hy, e⟩)
    · exact ⟨x, insL_mem.2 (.inl rfl), e⟩
    · exact ⟨y, insL_mem.2 (.inr hy), e⟩
/-- Of a session that alone bears its Id: it is left just if its time is not over. -/
theorem has_left {l : List Ses} (hs : sortedS l) {x : Ses} (hx : x ∈ l) (now : Int) : hasL (leftL now l) x.id = decide (now < x.till) ∧ (x.id ∈ goneL now l ↔ x.till ≤ now) := by
  have huniq : ∀ y ∈ l, y.id = x.id → y = x := fun y hy e => by
    obtain ⟨i, hi⟩ := List.getElem?_of_mem hy
    obtain ⟨j, hj⟩ := List.getElem?_of_mem hx
    unfold sortedS at hs
    rw [List.pairwise_iff_getElem] at hs
    obtain ⟨q1, rfl⟩ := List.getElem?_eq_some_iff.1 hi
    obtain ⟨q2, rfl⟩ := List.getElem?_eq_some_iff.1 hj
    rcases Nat.lt_trichotomy i j with h | h | h
    · have := hs _ _ q1 q2 h; omega
    · subst h; rfl
    · have := hs _ _ q2 q1 h; omega
  constructor
  · rw [Bool.eq_iff_iff, has_mem, decide_eq_true_eq]
    constructor
    · rintro ⟨y, hy, e⟩
      simp only [leftL, List.mem_filter, Bool.not_eq_true', decide_eq_false_iff_not] at hy
      have := huniq y hy.1 e
      subst this; omega
    · intro h
      exact ⟨x, by simp only [leftL, List.mem_filter, Bool.not_eq_true', decide_eq_false_iff_not]; exact ⟨hx, by omega⟩, rfl⟩
  · simp only [goneL, List.mem_map, List.mem_filter, decide_eq_true_eq]
    constructor
    · rintro ⟨y, ⟨hy, h⟩, e⟩
      have := huniq y hy e
      subst this; exact h
    · exact fun h => ⟨x, ⟨hx, h⟩, rfl⟩
end Go.Proofs.Ythboeilpeggpoaa
