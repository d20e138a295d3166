/-
  A session's end; two sessions; in plain words. Nothing here speaks of the program.
-/
import Derived.Test.YthboeilpeggpoaaLp
namespace Go.Proofs.Ythboeilpeggpoaa
theorem ends_gone {b : Bk} (hr : rightB b = true) {id span : Int} (h0 : (openB b id span).2 = 0) (hn : b.now ≤ 100000000) {w : Int} (h1 : span ≤ w) (h2 : w ≤ 10000) :
    (tickB (openB b id span).1 (b.now + w)).2.2 = 0 ∧ hasL (tickB (openB b id span).1 (b.now + w)).1.l id = false ∧ id ∈ (tickB (openB b id span).1 (b.now + w)).2.1 := by
  have hb := right_now hr
  obtain ⟨g1, g2, g3, g4, g5, g6⟩ := open_ok h0
  have hor := right_sorted (open_right hr id span)
  rw [g6] at hor ⊢
  simp only at hor
  have hm : (⟨id, span, b.now + span⟩ : Ses) ∈ insL b.l ⟨id, span, b.now + span⟩ := insL_mem.2 (.inl rfl)
  obtain ⟨q1, q2⟩ := has_left hor hm (b.now + w)
  unfold tickB
  rw [if_neg (by dsimp only; omega), if_neg (by omega)]
  refine ⟨rfl, ?_, ?_⟩
  · rw [q1, decide_eq_false (by dsimp only; omega)]
  · exact q2.2 (by dsimp only; omega)
theorem ends_left {b : Bk} (hr : rightB b = true) {id span : Int} (h0 : (openB b id span).2 = 0) (hn : b.now ≤ 100000000) {w : Int} (h1 : 0 ≤ w) (h2 : w < span) :
    (tickB (openB b id span).1 (b.now + w)).2.2 = 0 ∧ hasL (tickB (openB b id span).1 (b.now + w)).1.l id = true ∧ (tickB (openB b id span).1 (b.now + w)).1.now = b.now + w ∧ (touchB (tickB (openB b id span).1 (b.now + w)).1 id).2 = 0 ∧
      ∀ m, 0 ≤ m → m ≤ 10000 → (tickB (touchB (tickB (openB b id span).1 (b.now + w)).1 id).1 (b.now + w + m)).2.2 = 0 ∧ hasL (tickB (touchB (tickB (openB b id span).1 (b.now + w)).1 id).1 (b.now + w + m)).1.l id = decide (m < span) := by
  have hb := right_now hr
  obtain ⟨g1, g2, g3, g4, g5, g6⟩ := open_ok h0
  have hrr := open_right hr id span
  have hor := right_sorted hrr
  have hts := right_sorted (touch_right (tick_right hrr (b.now + w)) id)
  rw [g6] at hor ⊢
  rw [g6] at hts
  simp only at hor
  have hm : (⟨id, span, b.now + span⟩ : Ses) ∈ insL b.l ⟨id, span, b.now + span⟩ := insL_mem.2 (.inl rfl)
  obtain ⟨q1, q2⟩ := has_left hor hm (b.now + w)
  have e : tickB ⟨b.now, insL b.l ⟨id, span, b.now + span⟩⟩ (b.now + w) = (⟨b.now + w, leftL (b.now + w) (insL b.l ⟨id, span, b.now + span⟩)⟩, goneL (b.now + w) (insL b.l ⟨id, span, b.now + span⟩), 0) := by
    unfold tickB
    rw [if_neg (by dsimp only; omega), if_neg (by omega)]
  rw [e] at hts ⊢
  simp only at hts ⊢
  have hh : hasL (leftL (b.now + w) (insL b.l ⟨id, span, b.now + span⟩)) id = true := by
    rw [q1]; exact decide_eq_true (by dsimp only; omega)
  refine ⟨trivial, hh, trivial, ?_, fun m m0 m1 => ?_⟩
  · unfold touchB; rw [if_pos hh]
  · rw [touchB_fst] at hts ⊢
    simp only at hts ⊢
    have hm2 : (⟨id, span, b.now + w + span⟩ : Ses) ∈ touchL (b.now + w) id (leftL (b.now + w) (insL b.l ⟨id, span, b.now + span⟩)) := by
      rw [touch_mem]
      refine ⟨⟨id, span, b.now + span⟩, ?_, by simp⟩
      simp only [leftL, List.mem_filter, Bool.not_eq_true', decide_eq_false_iff_not]
      exact ⟨hm, by omega⟩
    obtain ⟨r1, _⟩ := has_left hts hm2 (b.now + w + m)
    unfold tickB
    rw [if_neg (by dsimp only; omega), if_neg (by omega)]
    refine ⟨rfl, ?_⟩
    rw [r1]
    by_cases hms : m < span
    · rw [decide_eq_true hms, decide_eq_true (by dsimp only; omega)]
    · rw [decide_eq_false hms, decide_eq_false (by dsimp only; omega)]
theorem open_snd (b : Bk) (id span : Int) : (openB b id span).2 = if id < 1 ∨ span < 1 ∨ 1000 < span then 1 else if hasL b.l id = true then 7 else if 50 ≤ (b.l.length : Int) then 9 else 0 := by
  unfold openB; split; rfl; split; rfl; split <;> rfl
theorem open_no {b : Bk} {id span : Int} (h : ¬ (openB b id span).2 = 0) : (openB b id span).1 = b := by
  unfold openB at h ⊢
  split
  · rfl
  · rename_i g1
    rw [if_neg g1] at h
    split
    · rfl
    · rename_i g2
      rw [if_neg g2] at h
      split
      · rfl
      · rename_i g3
        rw [if_neg g3] at h
        exact absurd rfl h
theorem open_len (b : Bk) (id span : Int) : b.l.length ≤ (openB b id span).1.l.length ∧ (openB b id span).1.l.length ≤ b.l.length + 1 := by
  by_cases h : (openB b id span).2 = 0
  · obtain ⟨_, _, _, _, _, e⟩ := open_ok h
    rw [e]; simp only [insL_len]; omega
  · rw [open_no h]; omega
theorem open_has (b : Bk) {id span id' : Int} (hne : ¬ id = id') : hasL (openB b id span).1.l id' = hasL b.l id' := by
  by_cases h : (openB b id span).2 = 0
  · obtain ⟨_, _, _, _, _, e⟩ := open_ok h
    rw [e]; simp only [has_ins, hne, decide_false, Bool.false_or]
  · rw [open_no h]
/-- Opened one behind another: whichever first. -/
theorem open_swap {b : Bk} (hr : rightB b = true) {i k x y : Int} (hik : ¬ i = k) (hl : (b.l.length : Int) ≤ 48) :
    (openB (openB b k y).1 i x).2 = (openB b i x).2 ∧ (openB (openB b i x).1 k y).2 = (openB b k y).2 ∧ (openB (openB b i x).1 k y).1 = (openB (openB b k y).1 i x).1 := by
  have hki : ¬ k = i := fun e => hik e.symm
  have l1 := open_len b i x
  have l2 := open_len b k y
  have e1 : (openB (openB b k y).1 i x).2 = (openB b i x).2 := by
    rw [open_snd, open_snd, open_has b hki]
    split; rfl; split; rfl; rw [if_neg (by omega), if_neg (by omega)]
  have e2 : (openB (openB b i x).1 k y).2 = (openB b k y).2 := by
    rw [open_snd, open_snd, open_has b hik]
    split; rfl; split; rfl; rw [if_neg (by omega), if_neg (by omega)]
  refine ⟨e1, e2, ?_⟩
  have r1 := right_sorted (open_right (open_right hr i x) k y)
  have r2 := right_sorted (open_right (open_right hr k y) i x)
  by_cases hi : (openB b i x).2 = 0
  · by_cases hk : (openB b k y).2 = 0
    · obtain ⟨_, _, _, _, _, q1⟩ := open_ok hi
      obtain ⟨_, _, _, _, _, q2⟩ := open_ok hk
      obtain ⟨_, _, _, _, _, q3⟩ := open_ok (e2.trans hk)
      obtain ⟨_, _, _, _, _, q4⟩ := open_ok (e1.trans hi)
      rw [q3] at r1 ⊢
      rw [q4] at r2 ⊢
      rw [q1] at r1 ⊢
      rw [q2] at r2 ⊢
      simp only at r1 r2 ⊢
      congr 1
      refine sorted_mem_eq r1 r2 fun z => ?_
      rw [insL_mem, insL_mem, insL_mem, insL_mem]
      constructor
      · rintro (h | h | h)
        · exact .inr (.inl h)
        · exact .inl h
        · exact .inr (.inr h)
      · rintro (h | h | h)
        · exact .inr (.inl h)
        · exact .inl h
        · exact .inr (.inr h)
    · rw [open_no (fun e => hk (e2.symm.trans e)), open_no hk]
  · rw [open_no hi, open_no (fun e => hi (e1.symm.trans e))]
theorem strike_touch (a : Bk) {i k : Int} : (closeB (touchB a i).1 k).1 = (touchB (closeB a k).1 i).1 := by
  rw [closeB_fst, touchB_fst, touchB_fst, closeB_fst]
  simp only [Bk.mk.injEq, true_and]
  unfold touchL
  rw [List.filter_map]
  congr 1
  apply List.filter_congr
  intro x _
  simp only [Function.comp]
  split <;> rfl
theorem open_there {b : Bk} {i k x y : Int} (hik : ¬ i = k) (h : (openB b i x).2 = 0) : hasL (openB (openB b i x).1 k y).1.l i = true := by
  rw [open_has _ (fun e => hik e.symm)]
  obtain ⟨_, _, _, _, _, e⟩ := open_ok h
  rw [e]
  simp only [has_ins, decide_true, Bool.true_or]
end Go.Proofs.Ythboeilpeggpoaa
