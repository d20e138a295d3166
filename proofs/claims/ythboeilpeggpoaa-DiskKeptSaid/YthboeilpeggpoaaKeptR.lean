/-
  DiskKept, parts of its walk: the disk's variable and the two rows of the call's own beside one another; and the plain law.
-/
import Derived.Test.YthboeilpeggpoaaLawDiskFuses
import Derived.Test.YthboeilpeggpoaaOwn2
namespace Go.Proofs.Ythboeilpeggpoaa
open Go.RowKit
/-- What has been synced, and what has been written since. -/
def Kp (S L : Bytes) (y : DD) : Prop := y.safe = S ∧ y.loose = L ∧ rightB y = true
theorem kp_act {S L : Bytes} {y : DD} (h : Kp S L y) : Kp S L (actS y).1 ∧ ((actS y).2 = 0 ∨ (actS y).2 = 11) ∧ (actS y).1.cap = y.cap := by
  obtain ⟨h1, h2, h3⟩ := h
  unfold actS
  split
  · exact ⟨⟨h1, h2, h3⟩, .inr rfl, rfl⟩
  · split
    · exact ⟨⟨h1, h2, h3⟩, .inr rfl, rfl⟩
    · split
      · exact ⟨⟨h1, h2, h3⟩, .inl rfl, rfl⟩
      · exact ⟨⟨h1, h2, h3⟩, .inl rfl, rfl⟩
theorem kp_do {S L S2 L2 : Bytes} {y : DD} {long : Int} {g : DD → DD} (h : Kp S L y) (hg : ∀ x, Kp S L x → x.cap = y.cap → ¬ y.cap < long → Kp S2 L2 (g x)) :
    ((doS y long g).2 = 0 ∧ Kp S2 L2 (doS y long g).1) ∨ (((doS y long g).2 = 9 ∨ (doS y long g).2 = 11) ∧ Kp S L (doS y long g).1) := by
  obtain ⟨a1, a2, a3⟩ := kp_act h
  unfold doS
  split
  · by_cases hl : y.cap < long
    · rw [if_pos hl]
      exact .inr ⟨.inl rfl, a1⟩
    · rw [if_neg hl]
      exact .inl ⟨rfl, hg _ a1 a3 hl⟩
  · rename_i h0
    exact .inr ⟨.inr (a2.resolve_left h0), a1⟩
theorem kp_write {S L : Bytes} {y : DD} (b : Bytes) (h : Kp S L y) :
    ((writeS y b).2 = 0 ∧ Kp S (L ++ b) (writeS y b).1) ∨ (((writeS y b).2 = 9 ∨ (writeS y b).2 = 11) ∧ Kp S L (writeS y b).1) := by
  refine kp_do h fun x ⟨h1, h2, h3⟩ hc hl => ⟨h1, by simp [addS, h2], ?_⟩
  have e1 := h.1; have e2 := h.2.1
  simp only [longS, e1, e2] at hl
  unfold rightB at h3 ⊢
  rw [decide_eq_true_eq] at h3 ⊢
  simp only [addS, List.length_append, h1, h2] at *
  omega
theorem kp_sync {S L : Bytes} {y : DD} (h : Kp S L y) :
    ((syncS y).2 = 0 ∧ Kp (S ++ L) [] (syncS y).1) ∨ (((syncS y).2 = 9 ∨ (syncS y).2 = 11) ∧ Kp S L (syncS y).1) := by
  refine kp_do h fun x ⟨h1, h2, h3⟩ hc hl => ⟨by simp [allS, h1, h2], rfl, ?_⟩
  unfold rightB at h3 ⊢
  rw [decide_eq_true_eq] at h3 ⊢
  simp only [allS, List.length_append, List.length_nil, h1, h2] at *
  omega
theorem kp_replace {S L : Bytes} {y : DD} (b : Bytes) (h : Kp S L y) :
    ((replaceS y b).2 = 0 ∧ Kp b [] (replaceS y b).1) ∨ (((replaceS y b).2 = 9 ∨ (replaceS y b).2 = 11) ∧ Kp S L (replaceS y b).1) := by
  refine kp_do h fun x ⟨h1, h2, h3⟩ hc hl => ⟨rfl, rfl, ?_⟩
  unfold rightB at h3 ⊢
  rw [decide_eq_true_eq] at h3 ⊢
  simp only [otherS, List.length_nil] at *
  omega
theorem kp_blow {S L : Bytes} {y : DD} (n : Int) (h : Kp S L y) : Kp S L (blowS y n) := by
  unfold blowS
  split
  · exact h
  · exact h
theorem kp_crash {S L : Bytes} {y : DD} (n : Int) (h : Kp S L y) : Kp (S ++ L.take (keepN n L.length)) [] (crashS y n) := by
  obtain ⟨h1, h2, h3⟩ := h
  refine ⟨by simp [crashS, h1, h2], rfl, ?_⟩
  unfold rightB at h3 ⊢
  rw [decide_eq_true_eq] at h3 ⊢
  simp only [crashS, List.length_append, List.length_nil, List.length_take, h1, h2] at *
  omega
theorem kp_sm {S L : Bytes} {x : Dk} (h : Kp S L x.dd) : x.sm ∧ S.length ≤ 1000000 ∧ L.length ≤ 1000000 := by
  obtain ⟨h1, h2, h3⟩ := h
  unfold rightB at h3
  rw [decide_eq_true_eq] at h3
  rw [h1, h2] at h3
  have e1 : x.s = S := h1
  have e2 : x.l = L := h2
  exact ⟨⟨by rw [e1]; omega, by rw [e2]; omega⟩, by omega, by omega⟩
/-- At the end. -/
theorem kp_read {S L : Bytes} {y : DD} (n : Int) (h : Kp S L y) : readS (crashS y n) = (S ++ L.take (keepN n L.length), 0) := by
  obtain ⟨h1, h2, _⟩ := h
  simp [readS, crashS, h1, h2]
theorem kp_end (S L : Bytes) (n : Int) : (S ++ L).take (S ++ L.take (keepN n L.length)).length = S ++ L.take (keepN n L.length) := by
  have hk : keepN n L.length ≤ L.length := by unfold keepN; omega
  rw [List.length_append, List.length_take, Nat.min_eq_left hk, List.take_append, List.take_of_length_le (by omega)]
  congr 2
  omega

/-! ### rows -/
/-- Blocks that the disk's rows may lie in. -/
def Zk (X : Nat) (vs vl : Value) (k : Nat) : Prop := k ≠ X ∧ vs.ownBlock ≠ some k ∧ vl.ownBlock ≠ some k
structure Kr (X : Nat) (w0 w : World) (x : Dk) (vs vl : Value) (S L : Bytes) : Prop where
  at_ : DkAt X w x
  ok : x.ok (Zk X vs vl) w
  safe : Own byteR 1 5 w0.heap.size 0 w vs S
  loose : Own byteR 1 5 w0.heap.size 0 w vl L
  ns : vs.ownBlock ≠ some X
  nl : vl.ownBlock ≠ some X
  ne : vs.ownBlock = none ∨ vs.ownBlock ≠ vl.ownBlock
  hX : w0.heap.size ≤ X
  bl : Below w0.heap.size w0 w
section
variable {X : Nat} {w0 w w' : World} {x y : Dk} {vs vl v' : Value} {S L l2 : Bytes}
theorem own_lt {α : Type} {R : Rep α} {k B base : Nat} {e : TypeId} {w : World} {v : Value} {l : List α} (h : Own R k e base B w v l) {q : Nat} (hq : v.ownBlock = some q) : base ≤ q ∧ q < w.heap.size := by
  obtain ⟨xs, h1, _⟩ := h
  exact h1.lt q hq
theorem DkAt.agree (h : DkAt X w x) {Z : Nat → Prop} (hb : Agree Z w w') (hX : Z X) : DkAt X w' x :=
  ⟨Nat.lt_of_lt_of_le h.lt hb.size, fun j hj => (hb.frozen (p := ⟨X, j, none⟩) h.lt hX).trans (h.fz j hj), fun j v hv => (hb.cell (p := ⟨X, 0 + j, none⟩) h.lt hX).trans (h.r j v hv)⟩
theorem Kr.below (h : Kr X w0 w x vs vl S L) (hb : Below w.heap.size w w') : Kr X w0 w' x vs vl S L :=
  ⟨h.at_.below hb, h.ok.below hb, h.safe.call (Nat.zero_le _) hb, h.loose.call (Nat.zero_le _) hb, h.ns, h.nl, h.ne, h.hX, below_then h.bl hb⟩
theorem Kr.hZ (h : Kr X w0 w x vs vl S L) : ∀ k, w.heap.size ≤ k → Zk X vs vl k := fun k hk =>
  ⟨by have := h.at_.lt; omega, fun e => by have := own_lt h.safe e; omega, fun e => by have := own_lt h.loose e; omega⟩
/-- Where the disk is another one. -/
theorem Kr.set (h : Kr X w0 w x vs vl S L) (hy : y.ok (Zk X vs vl) w) : Kr X w0 (w.setCells X 0 y.cells) y vs vl S L := by
  have ha : Agree (fun k => k ≠ X) w (w.setCells X 0 y.cells) := setCells_agree (by simp) y.cells 0 w
  have hg : w.grownBy (w.setCells X 0 y.cells) (some X) := ⟨ha.os, ha.tape, ha.output, ha.size, fun k hk hne => ha.block k hk (by rintro rfl; exact hne rfl)⟩
  have hb := setCells_below h.bl h.hX y.cells 0
  have hb0 : Below 0 w (w.setCells X 0 y.cells) := ⟨ha.os, ha.tape, ha.output, ha.size, fun k hk => absurd hk (Nat.not_lt_zero _)⟩
  exact ⟨h.at_.set, hy.agree (ha.mono fun k hk => hk.1), h.safe.keep hg (.inr h.ns) hb0, h.loose.keep hg (.inr h.nl) hb0, h.ns, h.nl, h.ne, h.hX, hb⟩
theorem below0 (hb : Below w0.heap.size w w') : Below 0 w w' := hb.mono (Nat.zero_le _)
/-- More of what was written. -/
theorem Kr.app2 (h : Kr X w0 w x vs vl S L) (q1 : Own byteR 1 5 w0.heap.size 0 w' v' (L ++ l2)) (q2 : Below w0.heap.size w0 w') (q3 : w.grownBy w' vl.ownBlock) (q4 : v'.ownBlock = vl.ownBlock ∨ v'.ownBlock = some w.heap.size) : Kr X w0 w' x vs v' S (L ++ l2) := by
  have hlX := h.at_.lt
  have ha : Agree (fun k => vl.ownBlock ≠ some k) w w' := agree_grown q3 fun k hk e => hk e.symm
  have hb0 : Below 0 w w' := ⟨q3.os, q3.tape, q3.output, q3.size, fun k hk => absurd hk (Nat.not_lt_zero _)⟩
  refine ⟨h.at_.agree ha h.nl, ?_, h.safe.keep q3 h.ne hb0, q1, h.ns, ?_, ?_, h.hX, q2⟩
  · refine ((h.ok.shrink (N := w.heap.size + 1) (Nat.le_refl _)).agree (ha.mono fun k hk => hk.1.2.2)).mono ?_
    rintro k ⟨⟨k1, k2, k3⟩, k4⟩
    refine ⟨k1, k2, ?_⟩
    rcases q4 with q4 | q4
    · rw [q4]; exact k3
    · rw [q4]; intro e; have e := Option.some.inj e; omega
  · rcases q4 with q4 | q4
    · rw [q4]; exact h.nl
    · rw [q4]; intro e; have e := Option.some.inj e; omega
  · rcases q4 with q4 | q4
    · rw [q4]; exact h.ne
    · rw [q4]
      refine .inr fun e => ?_
      have := own_lt h.safe e
      omega
theorem Kr.app1 (h : Kr X w0 w x vs vl S L) (q1 : Own byteR 1 5 w0.heap.size 0 w' v' (S ++ l2)) (q2 : Below w0.heap.size w0 w') (q3 : w.grownBy w' vs.ownBlock) (q4 : v'.ownBlock = vs.ownBlock ∨ v'.ownBlock = some w.heap.size) : Kr X w0 w' x v' vl (S ++ l2) L := by
  have hlX := h.at_.lt
  have ha : Agree (fun k => vs.ownBlock ≠ some k) w w' := agree_grown q3 fun k hk e => hk e.symm
  have hb0 : Below 0 w w' := ⟨q3.os, q3.tape, q3.output, q3.size, fun k hk => absurd hk (Nat.not_lt_zero _)⟩
  have hne' : vl.ownBlock = none ∨ vl.ownBlock ≠ vs.ownBlock := by
    cases hv : vl.ownBlock with
    | none => exact .inl rfl
    | some q =>
      refine .inr fun e => ?_
      rcases h.ne with h1 | h1
      · rw [h1] at e; cases e
      · exact h1 (by rw [hv]; exact e.symm)
  refine ⟨h.at_.agree ha h.ns, ?_, q1, h.loose.keep q3 hne' hb0, ?_, h.nl, ?_, h.hX, q2⟩
  · refine ((h.ok.shrink (N := w.heap.size + 1) (Nat.le_refl _)).agree (ha.mono fun k hk => hk.1.2.1)).mono ?_
    rintro k ⟨⟨k1, k2, k3⟩, k4⟩
    refine ⟨k1, ?_, k3⟩
    rcases q4 with q4 | q4
    · rw [q4]; exact k2
    · rw [q4]; intro e; have e := Option.some.inj e; omega
  · rcases q4 with q4 | q4
    · rw [q4]; exact h.ns
    · rw [q4]; intro e; have e := Option.some.inj e; omega
  · rcases q4 with q4 | q4
    · rw [q4]; exact h.ne
    · rw [q4]
      refine .inr fun e => ?_
      have := own_lt h.loose e.symm
      omega
/-- A new empty row. -/
theorem Kr.new2 (h : Kr X w0 w x vs vl S L) (e : TypeId) (he : e = 5) : Kr X w0 (w.alloc (.cells #[] e)) x vs (.slice (some ⟨w.heap.size, 0, none⟩) 0 0) S [] := by
  subst he
  have hlX := h.at_.lt
  have h2 := h.below (below_new w (.cells #[] 5))
  refine ⟨h2.at_, ?_, h2.safe, Own.made w h.bl.size, h.ns, ?_, .inr fun e => ?_, h.hX, h2.bl⟩
  · refine ((h.ok.shrink (N := w.heap.size + 1) (Nat.le_refl _)).below (below_new w (.cells #[] 5))).mono ?_
    rintro k ⟨⟨k1, k2, k3⟩, k4⟩
    exact ⟨k1, k2, by simp [Value.ownBlock]; omega⟩
  · simp [Value.ownBlock]; omega
  · have := own_lt h.safe (q := w.heap.size) (by rw [e]; rfl)
    omega
theorem Kr.new1 (h : Kr X w0 w x vs vl S L) (e : TypeId) (he : e = 5) : Kr X w0 (w.alloc (.cells #[] e)) x (.slice (some ⟨w.heap.size, 0, none⟩) 0 0) vl [] L := by
  subst he
  have hlX := h.at_.lt
  have h2 := h.below (below_new w (.cells #[] 5))
  refine ⟨h2.at_, ?_, Own.made w h.bl.size, h2.loose, ?_, h.nl, .inr fun e => ?_, h.hX, h2.bl⟩
  · refine ((h.ok.shrink (N := w.heap.size + 1) (Nat.le_refl _)).below (below_new w (.cells #[] 5))).mono ?_
    rintro k ⟨⟨k1, k2, k3⟩, k4⟩
    exact ⟨k1, by simp [Value.ownBlock]; omega, k3⟩
  · simp [Value.ownBlock]; omega
  · have := own_lt h.loose (q := w.heap.size) (by rw [← e]; rfl)
    omega
end
end Go.Proofs.Ythboeilpeggpoaa
