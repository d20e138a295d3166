/-
  Clients, in plain words: what holds of one, and why it believes what it should.
-/
import Derived.Test.YtkamcoechjdgpaaCh
namespace Go.Proofs.Ytkamcoechjdgpaa
def cntB (l : List Bool) : Nat := l.countP fun b => b
theorem pig : ∀ (bad : List Bool) (b : Int) (ids : List Int), ids.Pairwise (· < ·) → (∀ i ∈ ids, b ≤ i ∧ bad[(i - b).toNat]? = some true) → ids.length ≤ cntB bad
  | [], b, ids, hp, h => by
    cases ids with
    | nil => exact Nat.zero_le _
    | cons i l => have := (h i List.mem_cons_self).2; simp at this
  | x :: bad, b, [], _, _ => Nat.zero_le _
  | x :: bad, b, i :: ids, hp, h => by
    obtain ⟨h1, h2⟩ := List.pairwise_cons.1 hp
    have hx : cntB bad ≤ cntB (x :: bad) := by unfold cntB; rw [List.countP_cons]; exact Nat.le_add_right _ _
    have step : ∀ j, b < j → (x :: bad)[(j - b).toNat]? = some true → bad[(j - (b + 1)).toNat]? = some true := fun j hj e => by
      have : (j - b).toNat = (j - (b + 1)).toNat + 1 := by omega
      rw [this, List.getElem?_cons_succ] at e
      exact e
    obtain ⟨hb, hi⟩ := h i List.mem_cons_self
    by_cases e : i = b
    · subst e
      have hx1 : x = true := by simpa using hi
      have := pig bad (i + 1) ids h2 fun j hj => by
        have g1 := h1 j hj
        exact ⟨by omega, step j (by omega) (h j (List.mem_cons_of_mem _ hj)).2⟩
      subst hx1
      unfold cntB at this ⊢
      rw [List.countP_cons]
      simp only [List.length_cons, if_true]
      omega
    · have := pig bad (b + 1) (i :: ids) hp fun j hj => by
        have g1 : b < j := by
          rcases List.mem_cons.1 hj with rfl | hj
          · omega
          · have := h1 j hj; omega
        exact ⟨by omega, step j g1 (h j hj).2⟩
      omega
theorem putG_sorted {l : List Giv} (hs : sortedG l) {i : Int} {x : Rpl} (hx : hasL l i = false) : sortedG (putG l i x) := by
  have hd : l = l.take (atL l i) ++ l.drop (atL l i) := (List.take_append_drop _ _).symm
  have hp : (l.take (atL l i) ++ l.drop (atL l i)).Pairwise fun x y => x.id < y.id := by rw [← hd]; exact hs
  obtain ⟨p1, p2, p3⟩ := List.pairwise_append.1 hp
  unfold sortedG putG
  refine List.pairwise_append.2 ⟨p1, List.pairwise_cons.2 ⟨fun y hy => ?_, p2⟩, fun a ha y hy => ?_⟩
  · obtain ⟨j, hj⟩ := List.getElem?_of_mem hy
    rw [List.getElem?_drop] at hj
    have h1 := atL_ge hs (Nat.le_add_right _ _) hj
    have h2 : ¬ y.id = i := by
      intro e
      have : hasL l i = true := by
        unfold hasL; rw [List.any_eq_true]
        exact ⟨y, List.mem_of_getElem? hj, by simp [e]⟩
      rw [this] at hx; cases hx
    show i < y.id
    omega
  · rcases List.mem_cons.1 hy with rfl | hy
    · obtain ⟨j, hj⟩ := List.getElem?_of_mem ha
      rw [List.getElem?_take] at hj
      split at hj
      · rename_i hlt; exact atL_lt hlt hj
      · cases hj
    · exact p3 a ha y hy
/-- What holds of a client that heard k words; since 'fr' it waits. -/
structure InvC (id n : Int) (l : List Wd) (k fr : Nat) (c : Cl) : Prop where
  idq : c.id = id
  seq0 : 0 ≤ c.seq
  seqk : c.seq ≤ k
  frk : fr ≤ k
  srt : sortedG c.got
  src : ∀ g ∈ c.got, 0 ≤ g.id ∧ g.id < n ∧ ∃ j w, fr ≤ j ∧ j < k ∧ l[j]? = some w ∧ ¬ w.kind = 0 ∧ w.by_ = g.id ∧ w.x = g.x
  glen : c.got.length ≤ k
  dlen : c.don.length ≤ k
  dpw : c.don.Pairwise fun a b => a.o.b < b.o.b
  dall : ∀ a ∈ c.don, a.x.b = a.o.b ∧ a.o.a = id ∧ a.o.b ≤ c.seq ∧ (c.opn = true → a.o.b < c.seq)
  oopn : c.opn = true → c.o.b = c.seq ∧ c.o.a = id
theorem inv0 (id n : Int) (l : List Wd) : InvC id n l 0 0 ⟨id, 0, false, ord0, [], []⟩ :=
  ⟨rfl, Int.le_refl _, Int.le_refl _, Nat.le_refl _, List.Pairwise.nil, fun g h => by simp at h, Nat.le_refl _, Nat.le_refl _, List.Pairwise.nil, fun g h => by simp at h, fun h => by cases h⟩
theorem InvC.more {id n : Int} {l : List Wd} {k fr : Nat} {c : Cl} (h : InvC id n l k fr c) : InvC id n l (k + 1) fr c :=
  ⟨h.idq, h.seq0, by have := h.seqk; omega, by have := h.frk; omega, h.srt, fun g hg => by
    obtain ⟨h1, h2, j, w, h3, h4, h5⟩ := h.src g hg
    exact ⟨h1, h2, j, w, h3, by omega, h5⟩, by have := h.glen; omega, by have := h.dlen; omega, h.dpw, h.dall, h.oopn⟩
theorem ask_out (c : Cl) (o : Ord) : (askCl c o = (⟨c.id, c.seq + 1, true, asked c o, [], c.don⟩, asked c o, 0) ∧ c.opn = false) ∨ ∃ e, askCl c o = (c, ord0, e) ∧ ¬ e = 0 := by
  unfold askCl
  split
  · exact .inr ⟨7, rfl, by decide⟩
  · rename_i h1
    split
    · exact .inr ⟨9, rfl, by decide⟩
    · split
      · exact .inl ⟨rfl, by simpa using h1⟩
      · exact .inr ⟨1, rfl, by decide⟩
theorem InvC.ask {id n : Int} {l : List Wd} {k fr : Nat} {c : Cl} (h : InvC id n l k fr c) (ho : c.opn = false) (o : Ord) : InvC id n l (k + 1) k ⟨c.id, c.seq + 1, true, asked c o, [], c.don⟩ :=
  ⟨h.idq, by have := h.seq0; simp only; omega, by have := h.seqk; simp only; omega, by omega, List.Pairwise.nil, fun g hg => by simp at hg, Nat.zero_le _, by have := h.dlen; simp only; omega, h.dpw, fun a ha => by
    obtain ⟨h1, h2, h3, _⟩ := h.dall a ha
    exact ⟨h1, h2, by simp only; omega, fun _ => by simp only; omega⟩, fun _ => ⟨rfl, h.idq⟩⟩
/-- What a hearing comes to. -/
theorem hear_out (s : Sz) (c : Cl) (by_ : Int) (x : Rpl) : (hearCl s c by_ x).2 = false ∧ ((hearCl s c by_ x).1 = c ∨ (hasL c.got by_ = false ∧ 0 ≤ by_ ∧ by_ < s.n ∧ (hearCl s c by_ x).1 = ⟨c.id, c.seq, c.opn, c.o, putG c.got by_ x, c.don⟩))
    ∨ (hearCl s c by_ x = (⟨c.id, c.seq, false, ord0, [], c.don ++ [⟨c.o, x⟩]⟩, true) ∧ hasL c.got by_ = false ∧ 0 ≤ by_ ∧ by_ < s.n ∧ c.opn = true ∧ x.b = c.seq ∧ s.weak ≤ cntX x (putG c.got by_ x)) := by
  unfold hearCl
  split
  · exact .inl ⟨rfl, .inl rfl⟩
  · rename_i h
    have g1 : hasL c.got by_ = false := by cases e : hasL c.got by_ <;> simp_all
    have g2 : 0 ≤ by_ := by rcases Int.lt_or_le by_ 0 with e | e; exact absurd (.inr (.inl e)) h; exact e
    have g3 : by_ < s.n := by rcases Int.lt_or_le by_ s.n with e | e; exact e; exact absurd (.inr (.inr (.inl e))) h
    have g4 : c.opn = true := by cases e : c.opn with | true => rfl | false => exact absurd (.inr (.inr (.inr (.inl e)))) h
    have g5 : x.b = c.seq := Classical.byContradiction fun e => h (.inr (.inr (.inr (.inr (.inr e)))))
    split
    · exact .inl ⟨rfl, .inr ⟨g1, g2, g3, rfl⟩⟩
    · rename_i h2
      exact .inr ⟨rfl, g1, g2, g3, g4, g5, by omega⟩
theorem put_src {id n : Int} {l : List Wd} {k fr : Nat} {c : Cl} (h : InvC id n l k fr c) {w : Wd} (hw : l[k]? = some w) (hk : ¬ w.kind = 0) (h0 : 0 ≤ w.by_) (h1 : w.by_ < n) :
    ∀ g ∈ putG c.got w.by_ w.x, 0 ≤ g.id ∧ g.id < n ∧ ∃ j w', fr ≤ j ∧ j < k + 1 ∧ l[j]? = some w' ∧ ¬ w'.kind = 0 ∧ w'.by_ = g.id ∧ w'.x = g.x := fun g hg => by
  rcases putG_mem hg with hg | rfl
  · obtain ⟨h1, h2, j, w, h3, h4, h5⟩ := h.src g hg
    exact ⟨h1, h2, j, w, h3, by omega, h5⟩
  · exact ⟨h0, h1, k, w, h.frk, Nat.lt_succ_self _, hw, hk, rfl, rfl⟩
theorem InvC.hear {id : Int} {s : Sz} {l : List Wd} {k fr : Nat} {c : Cl} (h : InvC id s.n l k fr c) {w : Wd} (hw : l[k]? = some w) (hk : ¬ w.kind = 0) : InvC id s.n l (k + 1) fr (hearCl s c w.by_ w.x).1 := by
  rcases hear_out s c w.by_ w.x with ⟨_, e | ⟨g1, g2, g3, e⟩⟩ | ⟨e, g1, g2, g3, g4, g5, g6⟩
  · rw [e]; exact h.more
  · rw [e]
    refine ⟨h.idq, h.seq0, by have := h.seqk; simp only; omega, by have := h.frk; omega, putG_sorted h.srt g1, put_src h hw hk g2 g3, ?_, by have := h.dlen; simp only; omega, h.dpw, h.dall, h.oopn⟩
    simp only [putG_len]
    have := h.glen; omega
  · rw [e]
    obtain ⟨o1, o2⟩ := h.oopn g4
    refine ⟨h.idq, h.seq0, by have := h.seqk; simp only; omega, by have := h.frk; omega, List.Pairwise.nil, fun g hg => by simp at hg, Nat.zero_le _, ?_, ?_, fun a ha => ?_, fun e => by cases e⟩
    · simp only [List.length_append, List.length_cons, List.length_nil]
      have := h.dlen; omega
    · refine List.pairwise_append.2 ⟨h.dpw, List.pairwise_singleton _ _, fun a ha b hb => ?_⟩
      simp only [List.mem_cons, List.not_mem_nil, or_false] at hb
      subst hb
      have := (h.dall a ha).2.2.2 g4
      simp only; omega
    · rcases List.mem_append.1 ha with ha | ha
      · obtain ⟨q1, q2, q3, _⟩ := h.dall a ha
        exact ⟨q1, q2, q3, fun e => by cases e⟩
      · simp only [List.mem_cons, List.not_mem_nil, or_false] at ha
        subst ha
        exact ⟨by simp only; omega, o2, by simp only; omega, fun e => by cases e⟩
/-- Given by one that is not bad. -/
def goodV (bad : List Bool) (x : Rpl) (v : Wd) : Bool := decide (¬ v.kind = 0) && decide (0 ≤ v.by_) && decide (v.by_ < (bad.length : Int)) && decide (v.x = x) && !(bad.getD v.by_.toNat false)
def goodB (bad : List Bool) (x : Rpl) (l : List Wd) (fr i : Nat) : Bool := ((l.take i).drop fr).any (goodV bad x)
theorem goodB_step {bad : List Bool} {x : Rpl} {l : List Wd} {fr i : Nat} {v : Wd} (hv : l[i]? = some v) (hf : fr ≤ i) : goodB bad x l fr (i + 1) = (goodB bad x l fr i || goodV bad x v) := by
  unfold goodB
  have hl : (l.take i).length = i := by have := (List.getElem?_eq_some_iff.1 hv).1; simp; omega
  rw [List.take_add_one, hv, List.drop_append_of_le_length (by omega), List.any_append]
  simp
theorem goodB_zero {bad : List Bool} {x : Rpl} {l : List Wd} {fr : Nat} : goodB bad x l fr fr = false := by
  unfold goodB
  rw [List.drop_eq_nil_of_le (by simp; omega)]; rfl
theorem believes {id : Int} {s : Sz} {l : List Wd} {k fr : Nat} {c : Cl} {bad : List Bool} (h : InvC id s.n l k fr c) (hb : (bad.length : Int) = s.n) {w : Wd} (hw : l[k]? = some w) (hk : ¬ w.kind = 0)
    (hm : (cntB bad : Int) ≤ s.f) (hh : (hearCl s c w.by_ w.x).2 = true) : goodB bad w.x l fr (k + 1) = true := by
  rcases hear_out s c w.by_ w.x with ⟨e, _⟩ | ⟨_, g1, g2, g3, g4, g5, g6⟩
  · rw [e] at hh; cases hh
  have hsrc := put_src h hw hk g2 g3
  have hst : sortedG (putG c.got w.by_ w.x) := putG_sorted h.srt g1
  generalize putG c.got w.by_ w.x = m at hsrc hst g6
  have hex : ∃ g ∈ m, g.x = w.x ∧ bad.getD g.id.toNat false = false := by
    refine Classical.byContradiction fun hno => ?_
    have hlen : ((m.filter fun g => decide (g.x = w.x)).map (·.id)).length ≤ cntB bad := by
      refine pig bad 0 _ ?_ fun i hi => ?_
      · rw [List.pairwise_map]
        exact List.Pairwise.sublist List.filter_sublist hst
      · obtain ⟨g, hg, rfl⟩ := List.mem_map.1 hi
        obtain ⟨hg1, hg2⟩ := List.mem_filter.1 hg
        obtain ⟨q1, q2, _⟩ := hsrc g hg1
        refine ⟨q1, ?_⟩
        rw [Int.sub_zero]
        have hlt : g.id.toNat < bad.length := by omega
        rw [List.getElem?_eq_getElem hlt]
        cases hbb : bad[g.id.toNat] with
        | true => rfl
        | false =>
          refine absurd ⟨g, hg1, by simpa using hg2, ?_⟩ hno
          rw [List.getD_eq_getElem?_getD, List.getElem?_eq_getElem hlt, hbb]; rfl
    rw [List.length_map, ← List.countP_eq_length_filter] at hlen
    unfold cntX at g6
    unfold Sz.weak at g6
    omega
  obtain ⟨g, hg, hgx, hgb⟩ := hex
  obtain ⟨q1, q2, j, v, q3, q4, q5, q6, q7, q8⟩ := hsrc g hg
  unfold goodB
  rw [List.any_eq_true]
  refine ⟨v, ?_, ?_⟩
  · refine List.mem_of_getElem? (i := j - fr) ?_
    rw [List.getElem?_drop, List.getElem?_take, if_pos (by omega), ← q5]
    congr 1; omega
  · unfold goodV
    rw [q7, q8, hgx, hgb]
    simp [q6, q1]; omega
theorem few_ok {l : List Wd} (h : fewW l = true) : l.length ≤ 60 ∧ ∀ w ∈ l, w.x.l.length ≤ 1000 := by
  unfold fewW at h
  rw [Bool.and_eq_true, decide_eq_true_eq, List.all_eq_true] at h
  refine ⟨h.1, fun w hw => ?_⟩
  have := h.2 w hw
  unfold okW shR at this
  simp only [Bool.and_eq_true, decide_eq_true_eq] at this
  omega
theorem InvC.names {id n : Int} {l : List Wd} {k fr : Nat} {c : Cl} (h : InvC id n l k fr c) (hf : fewW l = true) : ∀ g ∈ c.got, g.x.l.length ≤ 1000 := fun g hg => by
  obtain ⟨_, _, j, w, _, _, q5, _, _, q8⟩ := h.src g hg
  rw [← q8]
  exact (few_ok hf).2 w (List.mem_of_getElem? q5)
/-- What a hearing comes to, for the law. -/
theorem hear_law {id : Int} {s : Sz} {l : List Wd} {k fr : Nat} {c : Cl} {bad : List Bool} (h : InvC id s.n l k fr c) (hb : (bad.length : Int) = s.n) {w : Wd} (hw : l[k]? = some w) (hk : ¬ w.kind = 0) :
    (∃ c', hearCl s c w.by_ w.x = (c', false) ∧ c'.don.length = c.don.length ∧ InvC id s.n l (k + 1) fr c') ∨
    (∃ D, hearCl s c w.by_ w.x = (⟨c.id, c.seq, false, ord0, [], D⟩, true) ∧ D.length = c.don.length + 1 ∧ D[c.don.length]? = some ⟨c.o, w.x⟩ ∧ c.opn = true ∧ w.x.b = c.seq ∧ InvC id s.n l (k + 1) fr ⟨c.id, c.seq, false, ord0, [], D⟩ ∧ ((cntB bad : Int) ≤ s.f → goodB bad w.x l fr (k + 1) = true)) := by
  have hi := h.hear hw hk
  have hg := fun hm => believes (bad := bad) h hb hw hk hm
  rcases hear_out s c w.by_ w.x with ⟨e2, e⟩ | ⟨e, g1, g2, g3, g4, g5, g6⟩
  · refine .inl ⟨(hearCl s c w.by_ w.x).1, by rw [← e2], ?_, hi⟩
    rcases e with e | ⟨_, _, _, e⟩ <;> rw [e]
  · rw [e] at hi hg
    exact .inr ⟨_, e, by simp, by simp, g4, g5, hi, fun hm => hg hm rfl⟩
theorem cntB_take {l : List Bool} {k : Nat} {b : Bool} (h : l[k]? = some b) : cntB (l.take (k + 1)) = cntB (l.take k) + if b = true then 1 else 0 := by
  unfold cntB
  rw [List.take_add_one, h, List.countP_append]
  cases b <;> simp
theorem cntB_le (l : List Bool) (k : Nat) : cntB (l.take k) ≤ k := by
  have := List.countP_le_length (p := fun b : Bool => b) (l := l.take k)
  rw [List.length_take] at this
  unfold cntB; omega
theorem hear_law2 {id : Int} {s : Sz} {l : List Wd} {k fr : Nat} {c : Cl} {bad : List Bool} (h : InvC id s.n l k fr c) (hb : (bad.length : Int) = s.n) {w : Wd} (hw : l[k]? = some w) (hk : ¬ w.kind = 0) :
    ∃ c2 b, hearCl s c w.by_ w.x = (c2, b) ∧ decide ((c2.don.length : Int) = c.don.length + 1) = b ∧ InvC id s.n l (k + 1) fr c2 ∧
    (b = true → (c.don.length : Int) < c2.don.length ∧ c2.don[c.don.length]? = some ⟨c.o, w.x⟩ ∧ c.opn = true ∧ c2.opn = false ∧ w.x.b = c.seq ∧ ((cntB bad : Int) ≤ s.f → goodB bad w.x l fr (k + 1) = true)) := by
  rcases hear_law (bad := bad) h hb hw hk with ⟨c2, e, hdl2, hI2⟩ | ⟨D, e, hDl, hlast, hopn, hxb, hI2, hgood⟩
  · exact ⟨c2, false, e, decide_eq_false (by omega), hI2, fun h => by cases h⟩
  · exact ⟨_, true, e, decide_eq_true (by simp only; omega), hI2, fun _ => ⟨by simp only; omega, hlast, hopn, rfl, hxb, hgood⟩⟩
theorem goodV_yes {bad : List Bool} {x : Rpl} {v : Wd} {bb : Bool} (q1 : ¬ v.kind = 0) (q2 : 0 ≤ v.by_) (q3 : v.by_ < (bad.length : Int)) (q4 : v.x = x) (hbb : bad[v.by_.toNat]? = some bb) : goodV bad x v = !bb := by
  have hg : bad.getD v.by_.toNat false = bb := by rw [List.getD_eq_getElem?_getD, hbb]; rfl
  unfold goodV
  rw [hg, decide_eq_true q1, decide_eq_true q2, decide_eq_true q3, decide_eq_true q4]
  rfl
end Go.Proofs.Ytkamcoechjdgpaa
