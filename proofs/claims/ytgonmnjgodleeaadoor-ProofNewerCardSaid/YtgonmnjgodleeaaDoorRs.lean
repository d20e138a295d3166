/-
  What reports say, in plain words: what may be, what is a certificate, what binds. Nothing here speaks of the program.
-/
import Derived.Test.YtgonmnjgodleeaaDoorBase
namespace Go.Proofs.YtgonmnjgodleeaaDoor
abbrev Bts := List UInt8
/-- A size: how many may be bad, how many faulty. -/
structure Sz where
  f : Int
  t : Int
deriving DecidableEq
def Sz.right (s : Sz) : Bool := decide (1 ≤ s.f) && decide (s.f ≤ 5) && decide (0 ≤ s.t) && decide (s.t ≤ s.f)
def Sz.n (s : Sz) : Int := 3 * s.f + 2 * s.t + 1
def Sz.fast (s : Sz) : Int := 3 * s.f + s.t + 1
def Sz.proof (s : Sz) : Int := 2 * s.f + s.t + 1
def Sz.most (s : Sz) : Int := 2 * s.f + 2 * s.t + 1
def Sz.vouch (s : Sz) : Int := s.f + s.t + 1
structure Acc where
  by_ : Int
  view : Int
  value : Bts
deriving DecidableEq
structure Rp where
  by_ : Int
  for_ : Int
  has : Bool
  view : Int
  value : Bts
  proof : List Acc
deriving DecidableEq
def mayA (a : Acc) : Bool := decide (0 ≤ a.by_) && decide (0 ≤ a.view) && decide (a.view ≤ 100000) && decide ((a.value.length : Int) ≤ 6000)
/-- Each by one behind the last. -/
def rises : Int → List Int → Bool
  | _, [] => true
  | b, x :: l => decide (b < x) && rises x l
def rightT (l : List Acc) : Bool := l.all mayA && rises (-1) (l.map (·.by_))
def rightP (s : Sz) (p : List Acc) : Bool := s.right && decide ((p.length : Int) = s.proof) && rightT p && p.all (fun a => decide (a.by_ < s.n)) && p.all fun a => decide (a.view = (p.map (·.view)).headD 0 ∧ a.value = (p.map (·.value)).headD [])
def mayR (s : Sz) (r : Rp) : Bool :=
  s.right && decide (0 ≤ r.by_) && decide (r.by_ < s.n) && decide (1 ≤ r.for_) && decide (r.for_ ≤ 100000) &&
  (if r.has then decide (0 ≤ r.view) && decide (r.view < r.for_) && decide ((r.value.length : Int) ≤ 6000) else decide (r.view = 0) && decide (r.value = [])) &&
  (match r.proof with | [] => true | a :: p => rightP s (a :: p) && decide (a.view < r.for_))
def rightR (s : Sz) (v : Int) (l : List Rp) : Bool := s.right && decide ((l.length : Int) = s.most) && l.all (fun r => mayR s r && decide (r.for_ = v)) && rises (-1) (l.map (·.by_))
/-- The newest proof's view and value. -/
def bst : List Rp → Int → Bts → Int × Bts
  | [], b, v => (b, v)
  | r :: l, b, v => match r.proof with
    | [] => bst l b v
    | a :: _ => if b < a.view then bst l a.view a.value else bst l b v
/-- Does a report tell a value above a view? -/
def tells (c : Int) (r : Rp) : Bool := r.has && decide (c < r.view)
def cnt (c : Int) (x : Bts) (l : List Rp) : Nat := l.countP fun r => tells c r && decide (r.value = x)
def bnd (q c : Int) (l m : List Rp) : Option Bts := (m.find? fun r => tells c r && decide (q ≤ (cnt c r.value l : Int))).map (·.value)
def binds (s : Sz) (l : List Rp) : Bts × Bool := match bnd s.vouch (bst l (-1) []).1 l l with
  | some x => (x, true)
  | none => ((bst l (-1) []).2, decide (-1 < (bst l (-1) []).1))
def vouches (s : Sz) (v : Int) (l : List Rp) (x : Bts) : Bool := rightR s v l && (!(binds s l).2 || decide ((binds s l).1 = x))
theorem cnt_le (c : Int) (x : Bts) (l : List Rp) : cnt c x l ≤ l.length := List.countP_le_length
theorem cnt_two (c : Int) {x y : Bts} (h : x ≠ y) (l : List Rp) : cnt c x l + cnt c y l ≤ l.length := by
  induction l with
  | nil => simp [cnt]
  | cons r l ih =>
    unfold cnt at ih ⊢
    rw [List.countP_cons, List.countP_cons, List.length_cons]
    by_cases h1 : (tells c r && decide (r.value = x)) = true
    · have h2 : ¬ (tells c r && decide (r.value = y)) = true := by
        simp only [Bool.and_eq_true, decide_eq_true_eq] at h1 ⊢
        rintro ⟨_, h2⟩
        exact h (h1.2.symm.trans h2)
      rw [if_pos h1, if_neg h2]; omega
    · rw [if_neg h1]
      split <;> omega
/-- Where it binds, it binds to one. -/
theorem bnd_one {s : Sz} {v c : Int} {l : List Rp} (hr : rightR s v l = true) {x y : Bts} (hx : s.vouch ≤ cnt c x l) (hy : s.vouch ≤ cnt c y l) : x = y := by
  refine Classical.byContradiction fun h => ?_
  have := cnt_two c h l
  simp only [rightR, Bool.and_eq_true, decide_eq_true_eq] at hr
  have hl := hr.1.1.2
  unfold Sz.vouch at hx hy
  unfold Sz.most at hl
  omega
theorem cnt_pos {c : Int} {x : Bts} {l : List Rp} (h : 0 < cnt c x l) : ∃ r ∈ l, tells c r = true ∧ r.value = x := by
  unfold cnt at h
  obtain ⟨r, hr, h2⟩ := List.countP_pos_iff.1 h
  simp only [Bool.and_eq_true, decide_eq_true_eq] at h2
  exact ⟨r, hr, h2.1, h2.2⟩
theorem vouch_pos {s : Sz} (h : s.right = true) : 0 < s.vouch := by
  simp only [Sz.right, Bool.and_eq_true, decide_eq_true_eq] at h
  unfold Sz.vouch
  omega
/-- Whichever value has so many, it is the one. -/
theorem binds_of {s : Sz} {v : Int} {l : List Rp} (hr : rightR s v l = true) {x : Bts} (hx : s.vouch ≤ (cnt (bst l (-1) []).1 x l : Int)) : binds s l = (x, true) := by
  have hs : s.right = true := by simp only [rightR, Bool.and_eq_true] at hr; exact hr.1.1.1
  have hp := vouch_pos hs
  unfold binds
  cases hb : bnd s.vouch (bst l (-1) []).1 l l with
  | none =>
    exfalso
    obtain ⟨r, h1, h2, rfl⟩ := cnt_pos (c := (bst l (-1) []).1) (x := x) (l := l) (by omega)
    unfold bnd at hb
    simp only [Option.map_eq_none_iff, List.find?_eq_none] at hb
    exact hb r h1 (by simp [h2, hx])
  | some y =>
    simp only [Prod.mk.injEq, and_true]
    unfold bnd at hb
    simp only [Option.map_eq_some_iff] at hb
    obtain ⟨r, h1, rfl⟩ := hb
    have := List.find?_some h1
    simp only [Bool.and_eq_true, decide_eq_true_eq] at this
    exact bnd_one hr this.2 hx
/-- If none has so many: the newest proof's. -/
theorem binds_none {s : Sz} {l : List Rp} (h : ∀ x, ¬ s.vouch ≤ (cnt (bst l (-1) []).1 x l : Int)) : binds s l = ((bst l (-1) []).2, decide (-1 < (bst l (-1) []).1)) := by
  unfold binds
  cases hb : bnd s.vouch (bst l (-1) []).1 l l with
  | none => rfl
  | some y =>
    exfalso
    unfold bnd at hb
    simp only [Option.map_eq_some_iff] at hb
    obtain ⟨r, h1, rfl⟩ := hb
    have := List.find?_some h1
    simp only [Bool.and_eq_true, decide_eq_true_eq] at this
    exact h _ this.2
theorem binds_cases (s : Sz) (l : List Rp) : (∃ x, s.vouch ≤ (cnt (bst l (-1) []).1 x l : Int)) ∨ ∀ x, ¬ s.vouch ≤ (cnt (bst l (-1) []).1 x l : Int) := by
  by_cases h : ∃ x, s.vouch ≤ (cnt (bst l (-1) []).1 x l : Int)
  · exact .inl h
  · exact .inr fun x hx => h ⟨x, hx⟩
/-- The newest proof is one of them, or what there was. -/
theorem bst_mem : ∀ (l : List Rp) (b : Int) (v : Bts), bst l b v = (b, v) ∨ (b < (bst l b v).1 ∧ ∃ r ∈ l, ∃ a p, r.proof = a :: p ∧ a.view = (bst l b v).1 ∧ a.value = (bst l b v).2)
  | [], b, v => .inl rfl
  | r :: l, b, v => by
    unfold bst
    split
    · rcases bst_mem l b v with h | ⟨h, r', h1, a, p, h2⟩
      · exact .inl h
      · exact .inr ⟨h, r', List.mem_cons_of_mem _ h1, a, p, h2⟩
    · rename_i a p hp
      split
      · rename_i hlt
        rcases bst_mem l a.view a.value with h | ⟨h, r', h1, a', p', h2⟩
        · rw [h]; exact .inr ⟨hlt, r, List.mem_cons_self, a, p, hp, rfl, rfl⟩
        · exact .inr ⟨by omega, r', List.mem_cons_of_mem _ h1, a', p', h2⟩
      · rcases bst_mem l b v with h | ⟨h, r', h1, a', p', h2⟩
        · exact .inl h
        · exact .inr ⟨h, r', List.mem_cons_of_mem _ h1, a', p', h2⟩
theorem bst_ge : ∀ (l : List Rp) (b : Int) (v : Bts), b ≤ (bst l b v).1 := fun l b v => by
  rcases bst_mem l b v with h | ⟨h, _⟩
  · rw [h]; exact Int.le_refl _
  · omega
/-- FREE: what a certificate says. -/
theorem free_plain {s : Sz} {v : Int} {l : List Rp} (hr : rightR s v l = true) :
    ((binds s l).2 = false → (binds s l).1 = []) ∧ ((binds s l).2 = true → l.any (fun r => (r.has && decide (r.value = (binds s l).1)) || (match r.proof with | [] => false | a :: _ => decide (a.value = (binds s l).1))) = true) := by
  have hs : s.right = true := by simp only [rightR, Bool.and_eq_true] at hr; exact hr.1.1.1
  have hp := vouch_pos hs
  rcases binds_cases s l with ⟨x, hx⟩ | hn
  · rw [binds_of hr hx]
    refine ⟨fun h => (by cases h), fun _ => ?_⟩
    obtain ⟨r, h1, h2, h3⟩ := cnt_pos (c := (bst l (-1) []).1) (x := x) (l := l) (by omega)
    refine List.any_eq_true.2 ⟨r, h1, ?_⟩
    unfold tells at h2
    simp only [Bool.and_eq_true] at h2
    simp [h2.1, h3]
  · rw [binds_none hn]
    rcases bst_mem l (-1) [] with h | ⟨h, r, h1, a, p, h2, h3, h4⟩
    · rw [h]
      simp
    · refine ⟨fun h' => ?_, fun _ => List.any_eq_true.2 ⟨r, h1, ?_⟩⟩
      · simp only [decide_eq_false_iff_not] at h'
        exact absurd h h'
      · rw [h2]
        simp [h4]
/-! ### what was chosen -/
theorem rises_count (q : Int → Bool) : ∀ (m : Nat) (a : Nat) (bs : List Int), rises ((a : Int) - 1) bs = true → (∀ b ∈ bs, b < ((a + m : Nat) : Int)) → bs.countP q ≤ (List.range' a m).countP fun i : Nat => q (i : Int)
  | m, a, [], _, _ => by simp
  | 0, a, b :: bs, h, hb => by
    simp only [rises, Bool.and_eq_true, decide_eq_true_eq] at h
    have := hb b List.mem_cons_self
    omega
  | m + 1, a, b :: bs, h, hb => by
    rw [List.range'_succ, List.countP_cons (l := List.range' (a + 1) m)]
    simp only [rises, Bool.and_eq_true, decide_eq_true_eq] at h
    by_cases hba : b = a
    · subst hba
      have ih := rises_count q m (a + 1) bs (by have := h.2; rw [show ((a + 1 : Nat) : Int) - 1 = a by omega]; exact this) (fun b hb' => by have := hb b (List.mem_cons_of_mem _ hb'); omega)
      rw [List.countP_cons]
      omega
    · have ih := rises_count q m (a + 1) (b :: bs) (by simp only [rises, Bool.and_eq_true, decide_eq_true_eq]; exact ⟨by omega, h.2⟩) (fun b' hb' => by have := hb b' hb'; omega)
      split <;> omega
theorem range_countP (l : List Bool) (g : Bool → Bool) : (List.range' 0 l.length).countP (fun i : Nat => g (l.getD i false)) = l.countP g := by
  have : l = (List.range' 0 l.length).map fun i => l.getD i false := by
    apply List.ext_getElem?
    intro i
    rw [List.getElem?_map]
    by_cases h : i < l.length
    · simp [h]
    · simp [h]
  conv => rhs; rw [this]
  rw [List.countP_map]
  rfl
theorem by_count {s : Sz} {v : Int} {l : List Rp} (hr : rightR s v l = true) (m : List Bool) (hm : (m.length : Int) = s.n) (g : Bool → Bool) : l.countP (fun r => g (m.getD r.by_.toNat false)) ≤ m.countP g := by
  simp only [rightR, Bool.and_eq_true, List.all_eq_true, decide_eq_true_eq] at hr
  obtain ⟨⟨_, hall⟩, hri⟩ := hr
  have h := rises_count (fun i => g (m.getD i.toNat false)) m.length 0 (l.map (·.by_)) (by simpa using hri) (fun b hb => by
    obtain ⟨r, hr, rfl⟩ := List.mem_map.1 hb
    have := (hall r hr).1
    simp only [mayR, Bool.and_eq_true, decide_eq_true_eq] at this
    omega)
  simp only [Int.toNat_natCast] at h
  rw [range_countP m g, List.countP_map] at h
  exact h
theorem countP_mono_of {α : Type} {p q : α → Bool} {l : List α} (h : ∀ x ∈ l, p x = true → q x = true) : l.countP p ≤ l.countP q := List.countP_mono_left h
theorem countP_three {α : Type} (p q r : α → Bool) (l : List α) (h : ∀ x ∈ l, p x = true ∨ q x = true ∨ r x = true) : l.length ≤ l.countP p + l.countP q + l.countP r := by
  induction l with
  | nil => simp
  | cons x l ih =>
    have ih := ih fun y hy => h y (List.mem_cons_of_mem _ hy)
    rw [List.countP_cons, List.countP_cons, List.countP_cons, List.length_cons]
    rcases h x List.mem_cons_self with h | h | h <;> rw [if_pos h] <;> (repeat' split) <;> omega
theorem countP_not_id (m : List Bool) : m.countP (fun b => !b) + m.countP id = m.length := by
  induction m with
  | nil => rfl
  | cons b m ih =>
    rw [List.countP_cons, List.countP_cons, List.length_cons]
    cases b <;> simp only [Bool.not_true, Bool.not_false, id_eq, Bool.false_eq_true, if_true, if_false] <;> omega
/-- CHOSEN. -/
theorem chosen_plain {s : Sz} {v pv : Int} {x : Bts} {l : List Rp} {bad inn : List Bool} (hr : rightR s v l = true) (hpv : 0 ≤ pv) (hbl : (bad.length : Int) = s.n) (hil : (inn.length : Int) = s.n) (hb : (bad.countP id : Int) ≤ s.f) (hi : s.fast ≤ (inn.countP id : Int))
    (H1 : ∀ r ∈ l, ∀ a p, r.proof = a :: p → pv ≤ a.view → a.value = x)
    (H2 : ∀ r ∈ l, bad.getD r.by_.toNat false = false → (r.has = true → pv < r.view → r.value = x) ∧ (inn.getD r.by_.toNat false = true → r.has = true ∧ pv ≤ r.view ∧ r.value = x)) : binds s l = (x, true) := by
  have hs : s.right = true := by simp only [rightR, Bool.and_eq_true] at hr; exact hr.1.1.1
  have hlen : (l.length : Int) = s.most := by simp only [rightR, Bool.and_eq_true, decide_eq_true_eq] at hr; exact hr.1.1.2
  have hs' := hs
  simp only [Sz.right, Bool.and_eq_true, decide_eq_true_eq] at hs'
  by_cases hc : pv ≤ (bst l (-1) []).1
  · have hx : (bst l (-1) []).2 = x := by
      rcases bst_mem l (-1) [] with h | ⟨h, r, h1, a, p, h2, h3, h4⟩
      · rw [h] at hc; simp only at hc; omega
      · rw [← h4]; exact H1 r h1 a p h2 (by omega)
    have hone : ∀ y, s.vouch ≤ (cnt (bst l (-1) []).1 y l : Int) → y = x := fun y hy => by
      refine Classical.byContradiction fun hne => ?_
      have h1 : cnt (bst l (-1) []).1 y l ≤ l.countP fun r => id (bad.getD r.by_.toNat false) := countP_mono_of fun r hr' h => by
        simp only [tells, Bool.and_eq_true, decide_eq_true_eq] at h
        obtain ⟨⟨h2, h3⟩, rfl⟩ := h
        cases hbd : bad.getD r.by_.toNat false with
        | true => rfl
        | false => exact absurd ((H2 r hr' hbd).1 h2 (by omega)) hne
      have h2 := by_count hr bad hbl id
      unfold Sz.vouch at hy
      omega
    rcases binds_cases s l with ⟨y, hy⟩ | hn
    · rw [binds_of hr hy, hone y hy]
    · rw [binds_none hn, hx]
      congr 1
      rw [decide_eq_true_eq]
      omega
  · refine binds_of hr ?_
    have h1 := by_count hr bad hbl id
    have h2 := by_count hr inn hil fun b => !b
    have h3 := countP_not_id inn
    have h4 := countP_three (fun r : Rp => tells (bst l (-1) []).1 r && decide (r.value = x)) (fun r => id (bad.getD r.by_.toNat false)) (fun r => !(inn.getD r.by_.toNat false)) l fun r hr' => by
      cases hbd : bad.getD r.by_.toNat false with
      | true => exact .inr (.inl rfl)
      | false =>
        cases hin : inn.getD r.by_.toNat false with
        | false => exact .inr (.inr rfl)
        | true =>
          obtain ⟨g1, g2, g3⟩ := (H2 r hr' hbd).2 hin
          refine .inl ?_
          simp only [tells, g1, Bool.true_and, Bool.and_eq_true, decide_eq_true_eq]
          exact ⟨by omega, g3⟩
    show s.vouch ≤ ((l.countP fun r => tells (bst l (-1) []).1 r && decide (r.value = x) : Nat) : Int)
    unfold Sz.vouch
    unfold Sz.most at hlen
    unfold Sz.n at hil hbl
    unfold Sz.fast at hi
    omega
end Go.Proofs.YtgonmnjgodleeaaDoor
