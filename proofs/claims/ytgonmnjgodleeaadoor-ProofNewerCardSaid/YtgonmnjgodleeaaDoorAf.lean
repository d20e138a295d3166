/-
  The shadow of a run: a value told as another one; what does not hang on a run's own blocks; calls of functions that write nothing of the caller's. Nothing here speaks of the program.
-/
import Derived.Test.YtgonmnjgodleeaaDoorAe
namespace Go.Proofs.YtgonmnjgodleeaaDoor
open Go.RowKit
/-! ### a value told as another -/
inductive Le1 : AV → AV → Prop where
  | refl (a : AV) : Le1 a a
  | nil (k : Nat) : Le1 .nils (.sl k [] .no)
  | tok (k : Nat) (l : List (List AV)) (t : Tk) : Le1 (.sl k l t) (.sl k l .no)
inductive Le1L : List AV → List AV → Prop where
  | nil : Le1L [] []
  | cons {a b : AV} {as bs : List AV} (h : Le1 a b) (hs : Le1L as bs) : Le1L (a :: as) (b :: bs)
inductive Le : AV → AV → Prop where
  | refl (a : AV) : Le a a
  | one {a b : AV} (h : Le1 a b) : Le a b
  | agg {as bs : List AV} (h : Le1L as bs) : Le (.agg as) (.agg bs)
  | junk (a : AV) : Le a .junk
inductive LeL : List AV → List AV → Prop where
  | nil : LeL [] []
  | cons {a b : AV} {as bs : List AV} (h : Le a b) (hs : LeL as bs) : LeL (a :: as) (b :: bs)
/-- The same, of a result. -/
inductive LeR : AV → AV → Prop where
  | one {a b : AV} (h : Le a b) : LeR a b
  | tup {as bs : List AV} (h : LeL as bs) : LeR (.tup as) (.tup bs)
theorem RV.nil_sl {c : Cx} (k : Nat) : RV c (.slice none 0 0) (.sl k [] .no) :=
  .sl k [] .no none 0 0 0 0 (fun _ _ => undef) rfl (Nat.le_refl _) (Nat.zero_le _) (fun h => absurd rfl h) (fun j e h => by simp at h) (fun j e i a h => by simp at h) (fun j e i a h => by simp at h) trivial
theorem Le1.rv {a b : AV} (h : Le1 a b) {c : Cx} {v : Value} (hv : RV c v a) : RV c v b := by
  cases h with
  | refl => exact hv
  | nil k => cases hv; exact .nil_sl k
  | tok k l t => exact hv.bare
theorem Le1.cell {a b : AV} (h : Le1 a b) (ha : a.cell = true) : b.cell = true := by
  cases h <;> first | exact ha | rfl
theorem Le1L.len {as bs : List AV} (h : Le1L as bs) : as.length = bs.length := by
  induction h with
  | nil => rfl
  | cons _ _ ih => simp [ih]
theorem Le1L.get {as bs : List AV} (h : Le1L as bs) : ∀ (i : Nat) b, bs[i]? = some b → ∃ a, as[i]? = some a ∧ Le1 a b := by
  induction h with
  | nil => intro i b h; simp at h
  | cons h _ ih =>
    intro i b hb
    cases i with
    | zero => simp at hb; subst hb; exact ⟨_, rfl, h⟩
    | succ i => obtain ⟨a, h1, h2⟩ := ih i b (by simpa using hb); exact ⟨a, by simpa using h1, h2⟩
theorem Le.rv {a b : AV} (h : Le a b) {c : Cx} {v : Value} (hv : RV c v a) : RV c v b := by
  cases h with
  | refl => exact hv
  | one h => exact h.rv hv
  | junk => exact .junk _
  | agg h =>
    cases hv with
    | agg vs _ hs hc hr =>
      refine .agg vs _ (by rw [hs, h.len]) (fun i b hb => ?_) (fun i v b hv hb => ?_)
      · obtain ⟨a, h1, h2⟩ := h.get i b hb; exact h2.cell (hc i a h1)
      · obtain ⟨a, h1, h2⟩ := h.get i b hb; exact h2.rv (hr i v a hv h1)
theorem LeL.len {as bs : List AV} (h : LeL as bs) : as.length = bs.length := by
  induction h with
  | nil => rfl
  | cons _ _ ih => simp [ih]
theorem LeL.get {as bs : List AV} (h : LeL as bs) : ∀ (i : Nat) b, bs[i]? = some b → ∃ a, as[i]? = some a ∧ Le a b := by
  induction h with
  | nil => intro i b h; simp at h
  | cons h _ ih =>
    intro i b hb
    cases i with
    | zero => simp at hb; subst hb; exact ⟨_, rfl, h⟩
    | succ i => obtain ⟨a, h1, h2⟩ := ih i b (by simpa using hb); exact ⟨a, by simpa using h1, h2⟩
theorem LeL.rel {as bs : List AV} (h : LeL as bs) {c : Cx} {vs : Array Value} (hv : TRel c vs as) : TRel c vs bs :=
  ⟨by rw [hv.1, h.len], fun i v b hv' hb => by obtain ⟨a, h1, h2⟩ := h.get i b hb; exact h2.rv (hv.2 i v a hv' h1)⟩
theorem LeR.rv {a b : AV} (h : LeR a b) {c : Cx} {v : Value} (hv : RV c v a) : RV c v b := by
  cases h with
  | one h => exact h.rv hv
  | tup h =>
    cases hv with
    | tup vs _ hs hr => exact .tup vs _ (by rw [hs, h.len]) fun i v b hv hb => by obtain ⟨a, h1, h2⟩ := h.get i b hb; exact h2.rv (hr i v a hv h1)
/-! ### what hangs on the first n blocks alone -/
mutual
def AV.bel (n : Nat) : AV → Bool
  | .ptr i _ => decide (i < n)
  | .eptr i _ _ _ => decide (i < n)
  | .msl i _ _ _ _ => decide (i < n)
  | .msu i _ _ => decide (i < n)
  | .mp i => decide (i < n)
  | .sl _ _ (.own i) => decide (i < n)
  | .agg cs => belL n cs
  | .tup vs => belL n vs
  | .psl _ l => belLL n l
  | .rptr cs => belL n cs
  | .fn _ a b => belL n a && belL n b
  | .iface _ v => v.bel n
  | .cnd _ v => v.bel n
  | _ => true
def belL (n : Nat) : List AV → Bool
  | [] => true
  | a :: l => a.bel n && belL n l
def belLL (n : Nat) : List (List AV) → Bool
  | [] => true
  | a :: l => belL n a && belLL n l
end
def ABlk.bel (n : Nat) : ABlk → Bool
  | .box cs => belL n cs
  | .rows _ l => belLL n l
  | .map l => l.all fun p => p.1.bel n && p.2.bel n
  | .iter m _ _ => decide (m < n)
  | _ => true
theorem belL_get {n : Nat} : ∀ {l : List AV}, belL n l = true → ∀ (i : Nat) a, l[i]? = some a → a.bel n = true
  | [], _, i, a, h => by simp at h
  | b :: l, h, i, a, ha => by
    simp only [belL, Bool.and_eq_true] at h
    cases i with
    | zero => simp at ha; subst ha; exact h.1
    | succ i => exact belL_get h.2 i a (by simpa using ha)
theorem belLL_get {n : Nat} : ∀ {l : List (List AV)}, belLL n l = true → ∀ (i : Nat) a, l[i]? = some a → belL n a = true
  | [], _, i, a, h => by simp at h
  | b :: l, h, i, a, ha => by
    simp only [belLL, Bool.and_eq_true] at h
    cases i with
    | zero => simp at ha; subst ha; exact h.1
    | succ i => exact belLL_get h.2 i a (by simpa using ha)
theorem AV.plain_bel {a : AV} (h : a.plain = true) (n : Nat) : a.bel n = true := by
  cases a with
  | sl k l t => cases t <;> first | rfl | cases h
  | _ => first | rfl | cases h
theorem RV.xfer {c c2 : Cx} {n : Nat} (him : ∀ b o, c.im b o → c2.im b o ∧ c2.w.cell? ⟨b, o, none⟩ = c.w.cell? ⟨b, o, none⟩) (hid : ∀ i, i < n → (∀ x, c.h[i]? = some x → x.isfree = false → ∃ y, c2.h[i]? = some y ∧ y.isfree = false) ∧ (∀ y, c2.h[i]? = some y → ∃ x, c.h[i]? = some x ∧ x.istok = y.istok ∧ ∀ k m, y = .tok k m → x = .tok k m) ∧ c2.ρ i = c.ρ i) (hblk : ∀ i b, i < n → c.ρ i = some b → c2.w.heap[b]? = c.w.heap[b]?)
    {v : Value} {a : AV} (h : RV c v a) (ha : a.bel n = true) : RV c2 v a := by
  have hkn : ∀ i, i < n → c.known i → c2.known i := fun i hi ⟨x, hx, hf⟩ => (hid i hi).1 x hx hf
  have hnt : ∀ i, i < n → (∀ x, c.h[i]? = some x → x.istok = false) → ∀ x, c2.h[i]? = some x → x.istok = false := fun i hi h x hx => by obtain ⟨y, hy, e, _⟩ := (hid i hi).2.1 x hx; rw [← e]; exact h y hy
  induction h with
  | int k n => exact .int k n
  | bool b => exact .bool b
  | str s l h => exact .str s l h
  | nilp => exact .nilp
  | ptr i o b hk hb ht =>
    have hi : i < n := by simpa [AV.bel] using ha
    exact .ptr i o b (hkn i hi hk) ((hid i hi).2.2.trans hb) (hnt i hi ht)
  | rptr cs b o vs hc _ ih =>
    simp only [AV.bel] at ha
    refine .rptr cs b o vs (fun i a hi => ?_) (fun i a hi => ih i a hi (belL_get ha i a hi))
    obtain ⟨h1, h2, h3⟩ := hc i a hi
    obtain ⟨g1, g2⟩ := him _ _ h2
    exact ⟨h1, g1, g2.trans h3⟩
  | sl k l t A m cap b o vs hn hcap hm hA hk hc _ ht ih =>
    refine .sl k l t A m cap b o vs hn hcap hm hA hk (fun j e i a he hi => ?_) (fun j e i a he hi => ih j e i a he hi (AV.plain_bel (hc j e i a he hi).1 n)) ?_
    · obtain ⟨h1, h2, h3⟩ := hc j e i a he hi
      obtain ⟨g1, g2⟩ := him _ _ h2
      exact ⟨h1, g1, g2.trans h3⟩
    · cases t with
      | no => trivial
      | own i =>
        have hi : i < n := by simpa [AV.bel] using ha
        obtain ⟨g1, g2⟩ := ht
        refine ⟨hkn i hi g1, fun k' n' e => ?_⟩
        obtain ⟨y, hy, _, e2⟩ := (hid i hi).2.1 _ e
        rw [e2 k' n' rfl] at hy
        obtain ⟨q1, q2, q3⟩ := g2 k' n' hy
        refine ⟨q1, q2, fun e => ?_⟩
        rcases q3 e with q3 | ⟨b, us, e', w1, w2, w3, w4⟩
        · exact .inl q3
        · exact .inr ⟨b, us, e', (hid i hi).2.2.trans w1, w2, (hblk i b hi w1).trans w3, w4⟩
  | psl k l A m cap b o vs hn hcap hm hA hk hc _ ih =>
    simp only [AV.bel] at ha
    refine .psl k l A m cap b o vs hn hcap hm hA hk (fun j e i a he hi => ?_) (fun j e i a he hi => ih j e i a he hi (belL_get (belLL_get ha j e he) i a hi))
    obtain ⟨h1, h2, h3⟩ := hc j e i a he hi
    obtain ⟨g1, g2⟩ := him _ _ h2
    exact ⟨h1, g1, g2.trans h3⟩
  | nils => exact .nils
  | agg vs cs hs hc _ ih =>
    simp only [AV.bel] at ha
    exact .agg vs cs hs hc fun i v a hv hi => ih i v a hv hi (belL_get ha i a hi)
  | tup vs cs hs _ ih =>
    simp only [AV.bel] at ha
    exact .tup vs cs hs fun i v a hv hi => ih i v a hv hi (belL_get ha i a hi)
  | fn f v1 v2 a1 a2 h1 h2 _ _ r1 r2 =>
    simp only [AV.bel, Bool.and_eq_true] at ha
    exact .fn f v1 v2 a1 a2 h1 h2 (fun i v a hv hi => r1 i v a hv hi (belL_get ha.1 i a hi)) (fun i v a hv hi => r2 i v a hv hi (belL_get ha.2 i a hi))
  | nilf => exact .nilf
  | iface t v a _ ih => simp only [AV.bel] at ha; exact .iface t v a (ih ha)
  | nilI => exact .nilI
  | mp i b hk hb ht =>
    have hi : i < n := by simpa [AV.bel] using ha
    exact .mp i b (hkn i hi hk) ((hid i hi).2.2.trans hb) (hnt i hi ht)
  | nilm => exact .nilm
  | msl i k o m cap b o' hk hb ht h1 h2 h3 =>
    have hi : i < n := by simpa [AV.bel] using ha
    exact .msl i k o m cap b o' (hkn i hi hk) ((hid i hi).2.2.trans hb) (hnt i hi ht) h1 h2 h3
  | msu i k m cap b hk hb ht h1 h2 h3 =>
    have hi : i < n := by simpa [AV.bel] using ha
    obtain ⟨vs, e, f, q1, q2⟩ := h3
    exact .msu i k m cap b (hkn i hi hk) ((hid i hi).2.2.trans hb) (hnt i hi ht) h1 h2 ⟨vs, e, f, (hblk i b hi hb).trans q1, q2⟩
  | eptr i k j o b hk hb ht =>
    have hi : i < n := by simpa [AV.bel] using ha
    exact .eptr i k j o b (hkn i hi hk) ((hid i hi).2.2.trans hb) (hnt i hi ht)
  | cnd g v a _ ih => simp only [AV.bel] at ha; exact .cnd g v a fun hg => ih hg ha
  | junk v => exact .junk v
/-! ### calls that write nothing of the caller's -/
/-- It returns what reads as res, whatever else there is. -/
structure ASpec (P : Program) (f : FuncId) (args : List AV) (res : AV) : Prop where
  fn : Callable P f
  run : ACall P f args [] fun r _ => LeR r res
/-- It returns a row of its own. -/
structure OSpec (P : Program) (f : FuncId) (args : List AV) (k : Nat) (l : List (List AV)) : Prop where
  fn : Callable P f
  run : ACall P f args [] fun r h' => ∃ i, r = .sl k l (.own i) ∧ h'[i]? = some (.tok k l.length)
/-- The caller's blocks, as a callee that has no part in them sees them. -/
def Cx.shut (c : Cx) : Cx := ⟨c.ρ, [], c.w, fun b o => b < c.w.heap.size ∧ ¬ c.im b o⟩
section
variable {P : Program} {f : FuncId} {c : Cx}
theorem Cx.shut_im {b o : Nat} : c.shut.im b o ↔ c.im b o := by
  constructor
  · rintro ⟨h1, h2, _⟩
    exact Classical.byContradiction fun h => h2 ⟨h1, h⟩
  · intro h
    exact ⟨h.1, fun h2 => h2.2 h, fun i x hx => by simp [Cx.shut] at hx⟩
theorem Cx.shut_rel : RelH c.shut :=
  ⟨fun i j x y b hx => by simp [Cx.shut] at hx, fun i x b hx => by simp [Cx.shut] at hx, fun i x hx => by simp [Cx.shut] at hx, fun b o h => ⟨h.1, fun i x hx => by simp [Cx.shut] at hx⟩⟩
theorem Cx.open_ (hc : RelH c) {c' : Cx} (hev : Ev c.shut c') : RelH ⟨c.ρ, c.h, c'.w, c.X⟩ ∧ Ev c ⟨c.ρ, c.h, c'.w, c.X⟩ ∧ ∀ b o, c'.im b o → Cx.im ⟨c.ρ, c.h, c'.w, c.X⟩ b o := by
  have hold : ∀ b, b < c.w.heap.size → c'.w.heap[b]? = c.w.heap[b]? := fun b hb => (hev.fr b hb (by rintro ⟨i, x, hx, _⟩; simp [Cx.shut] at hx)).1
  have hsz : c.w.heap.size ≤ c'.w.heap.size := hev.size
  have hE : Ev c ⟨c.ρ, c.h, c'.w, c.X⟩ := ⟨hev.os, hev.tape, hev.output, hsz, rfl, fun b o h => ⟨⟨Nat.lt_of_lt_of_le h.1 hsz, h.2⟩, cell_of_block (hold b h.1)⟩, fun b hb hm => ⟨hold b hb, hm⟩, Nat.le_refl _,
    fun i x hx hf => ⟨x, hx, hf, fun ht => ⟨ht, rfl⟩, fun k n e => ⟨n, e, .inr ⟨rfl, rfl, fun b hb => hold b (hc.here i x b hx hb)⟩⟩⟩, keep_old hold⟩
  refine ⟨⟨hc.inj, fun i x b hx hb => Nat.lt_of_lt_of_le (hc.here i x b hx hb) hsz, fun i x hx => (hc.blk i x hx).mono hE rfl fun b _ hb => hold b (hc.here i x b hx hb), fun b o h => ⟨Nat.lt_of_lt_of_le (hc.xs b o h).1 hsz, (hc.xs b o h).2⟩⟩, hE, fun b o h => ?_⟩
  have hx : ¬ (b < c.w.heap.size ∧ ¬ c.im b o) := by have := h.2.1; rw [hev.x] at this; exact this
  by_cases hb : b < c.w.heap.size
  · have him : c.im b o := Classical.byContradiction fun hn => hx ⟨hb, hn⟩
    exact (hE.im b o him).1
  · exact ⟨h.1, fun hX => hb (hc.xs b o hX).1, fun i x hix hρ => absurd (hc.here i x b hix hρ) hb⟩
theorem TRel.shut {vs : Array Value} {args : List AV} (h : TRel c vs args) (hb : belL 0 args = true) : TRel c.shut vs args :=
  ⟨h.1, fun i v x hv hx => (h.2 i v x hv hx).xfer (fun b o h => ⟨Cx.shut_im.2 h, rfl⟩) (fun i hi => absurd hi (Nat.not_lt_zero i)) (fun i b hi => absurd hi (Nat.not_lt_zero i)) (belL_get hb i x hx)⟩
theorem ACall.pure {args args' : List AV} {res : AV} {h : List ABlk} {R : AV → List ABlk → Prop} (hs : ASpec P f args res) (hle : LeL args' args) (ha : belL 0 args = true) (hr : res.bel 0 = true) (hR : R res h) : ACall P f args' h R := by
  intro c vs hch hc ht
  subst hch
  refine (hs.run c.shut vs rfl Cx.shut_rel ((hle.rel ht).shut ha)).mono ?_
  rintro e w' ⟨v, ρ', r, h', rfl, g1, g2, g3, g4⟩
  obtain ⟨q1, q2, q3⟩ := Cx.open_ hc g2
  exact ⟨v, c.ρ, res, c.h, rfl, q1, q2, (g4.rv g3).xfer (fun b o h => ⟨q3 b o h, rfl⟩) (fun i hi => absurd hi (Nat.not_lt_zero i)) (fun i b hi => absurd hi (Nat.not_lt_zero i)) hr, hR⟩
theorem ACall.own {args args' : List AV} {k : Nat} {l : List (List AV)} {h : List ABlk} {R : AV → List ABlk → Prop} (hs : OSpec P f args k l) (hle : LeL args' args) (ha : belL 0 args = true) (hR : R (.sl k l (.own h.length)) (h ++ [.tok k l.length])) : ACall P f args' h R := by
  intro c vs hch hc ht
  subst hch
  refine (hs.run c.shut vs rfl Cx.shut_rel ((hle.rel ht).shut ha)).mono ?_
  rintro e w' ⟨v, ρ', r, h', rfl, g1, g2, g3, i, rfl, hi⟩
  have hbig : ∀ b, ρ' i = some b → c.w.heap.size ≤ b := fun b hb => by
    rcases Nat.lt_or_ge b c.w.heap.size with hlt | hge
    · exact absurd ⟨i, _, hi, rfl, hb⟩ (g2.fr b hlt (by rintro ⟨i, x, hx, _⟩; simp [Cx.shut] at hx)).2
    · exact hge
  have hold : ∀ b, b < c.w.heap.size → w'.heap[b]? = c.w.heap[b]? := fun b hb => (g2.fr b hb (by rintro ⟨i, x, hx, _⟩; simp [Cx.shut] at hx)).1
  have hsz : c.w.heap.size ≤ w'.heap.size := g2.size
  have hcase : ∀ (j : Nat) y b, (c.h ++ [ABlk.tok k l.length])[j]? = some y → setρ c.ρ c.h.length (ρ' i) j = some b → (j = c.h.length ∧ y = .tok k l.length ∧ ρ' i = some b ∧ c.w.heap.size ≤ b) ∨ (j ≠ c.h.length ∧ c.h[j]? = some y ∧ c.ρ j = some b ∧ b < c.w.heap.size) := fun j y b hy hb => by
    by_cases hj : j = c.h.length
    · subst hj
      rw [setρ_same] at hb
      rw [List.getElem?_append_right (Nat.le_refl _)] at hy
      simp at hy
      exact .inl ⟨rfl, hy.symm, hb, hbig b hb⟩
    · rw [setρ_ne _ _ hj] at hb
      have hjl : j < c.h.length := by
        have := (List.getElem?_eq_some_iff.1 hy).1
        simp at this; omega
      rw [List.getElem?_append_left hjl] at hy
      exact .inr ⟨hj, hy, hb, hc.here j y b hy hb⟩
  have hρ : ∀ (j : Nat) x, c.h[j]? = some x → setρ c.ρ c.h.length (ρ' i) j = c.ρ j := fun j x hx => by
    have : j < c.h.length := (List.getElem?_eq_some_iff.1 hx).1
    exact setρ_ne _ _ (by omega)
  have hev : Ev c ⟨setρ c.ρ c.h.length (ρ' i), c.h ++ [.tok k l.length], w', c.X⟩ := by
    refine ⟨g2.os, g2.tape, g2.output, hsz, rfl, fun b o h => ⟨⟨Nat.lt_of_lt_of_le h.1 hsz, h.2.1, fun j y hy hb => ?_⟩, cell_of_block (hold b h.1)⟩, fun b hb hm => ⟨hold b hb, ?_⟩, by simp, fun j x hx hf => ?_, keep_old hold⟩
    · rcases hcase j y b hy hb with ⟨_, _, _, hge⟩ | ⟨_, q1, q2, _⟩
      · have := h.1; omega
      · exact h.2.2 j y q1 q2
    · rintro ⟨j, y, hy, hl, hj⟩
      rcases hcase j y b hy hj with ⟨_, _, _, hge⟩ | ⟨_, q1, q2, _⟩
      · omega
      · exact hm ⟨j, y, q1, hl, q2⟩
    · have hj : j < c.h.length := (List.getElem?_eq_some_iff.1 hx).1
      exact ⟨x, by rw [List.getElem?_append_left hj]; exact hx, hf, fun ht => ⟨ht, hρ j x hx⟩, fun k n e => ⟨n, e, .inr ⟨rfl, hρ j x hx, fun b hb => hold b (hc.here j x b hx hb)⟩⟩⟩
  have hrel : RelH ⟨setρ c.ρ c.h.length (ρ' i), c.h ++ [.tok k l.length], w', c.X⟩ := by
    refine ⟨fun j j' y y' b hy hy' ly ly' hb hb' => ?_, fun j y b hy hb => ?_, fun j y hy => ?_, fun b o h => ⟨Nat.lt_of_lt_of_le (hc.xs b o h).1 hsz, fun j y hy hl hb => ?_⟩⟩
    · rcases hcase j y b hy hb with ⟨rfl, _, _, q⟩ | ⟨_, q1, q2, q3⟩ <;> rcases hcase j' y' b hy' hb' with ⟨rfl, _, _, w⟩ | ⟨_, w1, w2, w3⟩
      · rfl
      · omega
      · omega
      · exact hc.inj j j' y y' b q1 w1 ly ly' q2 w2
    · rcases hcase j y b hy hb with ⟨_, _, q, _⟩ | ⟨_, q1, q2, q3⟩
      · exact g1.here i _ b hi q
      · exact Nat.lt_of_lt_of_le q3 hsz
    · by_cases hj : j = c.h.length
      · subst hj
        rw [List.getElem?_append_right (Nat.le_refl _)] at hy
        simp at hy
        subst hy
        intro b hb
        simp only [setρ_same] at hb
        exact g1.blk i _ hi b hb
      · have hjl : j < c.h.length := by
          have := (List.getElem?_eq_some_iff.1 hy).1
          simp at this; omega
        rw [List.getElem?_append_left hjl] at hy
        exact (hc.blk j y hy).mono hev (hρ j y hy) fun b _ hb => hold b (hc.here j y b hy hb)
    · rcases hcase j y b hy hb with ⟨_, _, _, q⟩ | ⟨_, q1, q2, q3⟩
      · have := (hc.xs b o h).1; omega
      · exact (hc.xs b o h).2 j y q1 hl q2
  have him : ∀ b o, (Cx.mk ρ' h' w' c.shut.X).im b o → (Cx.mk (setρ c.ρ c.h.length (ρ' i)) (c.h ++ [.tok k l.length]) w' c.X).im b o := fun b o h => by
    have hx : ¬ (b < c.w.heap.size ∧ ¬ c.im b o) := h.2.1
    by_cases hb : b < c.w.heap.size
    · have him : c.im b o := Classical.byContradiction fun hn => hx ⟨hb, hn⟩
      exact (hev.im b o him).1
    · refine ⟨h.1, fun hX => hb (hc.xs b o hX).1, fun j y hy hρj => ?_⟩
      rcases hcase j y b hy hρj with ⟨_, rfl, q, _⟩ | ⟨_, q1, q2, q3⟩
      · exact h.2.2 i _ hi q
      · omega
  obtain ⟨A, cap, xs, rfl, hcap, hm, hf, ⟨_, htk⟩, hcell⟩ := g3.flat
  refine ⟨_, _, _, _, rfl, hrel, hev, ?_, hR⟩
  have hf' : Flat ⟨setρ c.ρ c.h.length (ρ' i), c.h ++ [.tok k l.length], w', c.X⟩ k l xs := ⟨hf.len, hf.el, fun j e m a he ha => by
    obtain ⟨w1, u, w2, w3⟩ := hf.rv j e m a he ha
    exact ⟨w1, u, w2, w3.xfer (n := 0) (fun b o h => ⟨him b o h, rfl⟩) (fun i hi => absurd hi (Nat.not_lt_zero i)) (fun i b hi => absurd hi (Nat.not_lt_zero i)) (AV.plain_bel w1 0)⟩⟩
  have ht' : TkOk ⟨setρ c.ρ c.h.length (ρ' i), c.h ++ [.tok k l.length], w', c.X⟩ A l.length cap k (.own c.h.length) := by
    have hlast : (c.h ++ [ABlk.tok k l.length])[c.h.length]? = some (.tok k l.length) := by simp
    refine ⟨⟨_, hlast, rfl⟩, fun k' n' e => ?_⟩
    simp only [hlast] at e
    cases e
    refine ⟨rfl, Nat.le_refl _, fun _ => ?_⟩
    obtain ⟨_, _, q⟩ := htk k l.length hi
    rcases q rfl with q | ⟨b, vs, e, w1, w2, w3, w4⟩
    · exact .inl q
    · exact .inr ⟨b, vs, e, by simp only [setρ_same]; exact w1, w2, w3, w4⟩
  by_cases hl : l = []
  · have hxs : xs = [] := by have := hf.len; rw [hl] at this; simpa using this
    exact RV.sl_of hf' hcap hm 0 0 (fun h => absurd hl h) (fun q u hq => by rw [hxs] at hq; simp at hq) ht' rfl
  · obtain ⟨b, o, hA, hcc⟩ := hcell hl
    exact RV.sl_of hf' hcap hm b o (fun _ => hA) (fun q u hq => ⟨him _ _ (hcc q u hq).1, (hcc q u hq).2⟩) ht' rfl
/-! ### the state told more weakly -/
end
/-- Temporaries told as others, that hang on the first n blocks alone. -/
inductive WkT (n : Nat) : List AV → List AV → Prop where
  | nil : WkT n [] []
  | cons {a b : AV} {as bs : List AV} (h : Le a b) (hb : b.bel n = true) (hs : WkT n as bs) : WkT n (a :: as) (b :: bs)
/-- Blocks told as others. -/
inductive LeB (n : Nat) : ABlk → ABlk → Prop where
  | same (x : ABlk) (h : x.bel n = true) : LeB n x x
  | box {as bs : List AV} (h : Le1L as bs) (hb : belL n bs = true) : LeB n (.box as) (.box bs)
inductive WkH (n : Nat) : List ABlk → List ABlk → Prop where
  | nil (l : List ABlk) : WkH n l []
  | cons {a b : ABlk} {as bs : List ABlk} (h : LeB n a b) (hs : WkH n as bs) : WkH n (a :: as) (b :: bs)
theorem WkT.len {n : Nat} {as bs : List AV} (h : WkT n as bs) : as.length = bs.length := by
  induction h with
  | nil => rfl
  | cons _ _ _ ih => simp [ih]
theorem WkT.get {n : Nat} {as bs : List AV} (h : WkT n as bs) : ∀ (i : Nat) b, bs[i]? = some b → ∃ a, as[i]? = some a ∧ Le a b ∧ b.bel n = true := by
  induction h with
  | nil => intro i b h; simp at h
  | cons h hb _ ih =>
    intro i b hb'
    cases i with
    | zero => simp at hb'; subst hb'; exact ⟨_, rfl, h, hb⟩
    | succ i => obtain ⟨a, h1, h2⟩ := ih i b (by simpa using hb'); exact ⟨a, by simpa using h1, h2⟩
theorem WkH.get {n : Nat} {as bs : List ABlk} (h : WkH n as bs) : ∀ (i : Nat) b, bs[i]? = some b → ∃ a, as[i]? = some a ∧ LeB n a b := by
  induction h with
  | nil => intro i b h; simp at h
  | cons h _ ih =>
    intro i b hb'
    cases i with
    | zero => simp at hb'; subst hb'; exact ⟨_, rfl, h⟩
    | succ i => obtain ⟨a, h1, h2⟩ := ih i b (by simpa using hb'); exact ⟨a, by simpa using h1, h2⟩
theorem LeB.same_kind {n : Nat} {a b : ABlk} (h : LeB n a b) : a.live = b.live ∧ a.isfree = b.isfree ∧ a.istok = b.istok ∧ (∀ o, b.fix o ↔ a.fix o) ∧ (∀ k m, b = .tok k m ↔ a = .tok k m) := by
  cases h with
  | same => exact ⟨rfl, rfl, rfl, fun _ => Iff.rfl, fun _ _ => Iff.rfl⟩
  | box => exact ⟨rfl, rfl, rfl, fun _ => Iff.rfl, fun k m => ⟨(fun h => by cases h), (fun h => by cases h)⟩⟩
theorem Weak.of {P : Program} {c0 : Cx} {s s' : AState} (hn : c0.h.length ≤ s'.h.length) (ht : WkT s'.h.length s.t s'.t) (hh : WkH s'.h.length s.h s'.h) : Weak P c0 s s' := by
  refine ⟨fun ρ w vs h1 h2 h3 => ⟨ρ, ?_⟩⟩
  have him : ∀ b o, (Cx.mk ρ s.h w c0.X).im b o → (Cx.mk ρ s'.h w c0.X).im b o := fun b o h => ⟨h.1, h.2.1, fun i y hy hb => by
    obtain ⟨x, hx, hle⟩ := hh.get i y hy
    exact (hle.same_kind.2.2.2.1 o).2 (h.2.2 i x hx hb)⟩
  have hxf : ∀ v b, RV ⟨ρ, s.h, w, c0.X⟩ v b → b.bel s'.h.length = true → RV ⟨ρ, s'.h, w, c0.X⟩ v b := by
    intro v b hv hb
    refine hv.xfer (fun b o h => ⟨him b o h, rfl⟩) (fun i hi => ⟨fun x hx hf => ?_, fun y hy => ?_, rfl⟩) (fun _ _ _ _ => rfl) hb
    · have hy := List.getElem?_eq_getElem hi
      obtain ⟨x', hx', l1⟩ := hh.get i _ hy
      rw [hx] at hx'
      cases hx'
      exact ⟨_, hy, l1.same_kind.2.1.symm.trans hf⟩
    · obtain ⟨x, hx, l1⟩ := hh.get i y hy
      exact ⟨x, hx, l1.same_kind.2.2.1, fun k m e => (l1.same_kind.2.2.2.2 k m).1 e⟩
  have hev : Ev c0 ⟨ρ, s'.h, w, c0.X⟩ := by
    refine ⟨h2.os, h2.tape, h2.output, h2.size, rfl, fun b o h => ⟨him b o (h2.im b o h).1, (h2.im b o h).2⟩, fun b hb hm => ⟨(h2.fr b hb hm).1, ?_⟩, hn, fun i x hx hf => ?_, h2.keep⟩
    · rintro ⟨i, y, hy, hl, hρ⟩
      obtain ⟨x, hx, l1⟩ := hh.get i y hy
      exact (h2.fr b hb hm).2 ⟨i, x, hx, l1.same_kind.1.trans hl, hρ⟩
    · obtain ⟨y, hy, hyf, g1, g2⟩ := h2.id i x hx hf
      have hi : i < s'.h.length := Nat.lt_of_lt_of_le (List.getElem?_eq_some_iff.1 hx).1 hn
      have hy' := List.getElem?_eq_getElem hi
      obtain ⟨y2, hy2, l1⟩ := hh.get i _ hy'
      simp only at hy
      rw [hy] at hy2
      cases hy2
      exact ⟨_, hy', l1.same_kind.2.1.symm.trans hyf, fun ht => ⟨l1.same_kind.2.2.1.symm.trans (g1 ht).1, (g1 ht).2⟩, fun k m e => g2 k m ((l1.same_kind.2.2.2.2 k m).1 e)⟩
  refine ⟨⟨fun i j x y b hx hy lx ly hb hb' => ?_, fun i x b hx hb => ?_, fun i x hx => ?_, fun b o h => ⟨(h1.xs b o h).1, fun i x hx hl hb => ?_⟩⟩, hev, h3.1.trans ht.len, fun i v b hv hb => ?_⟩
  · obtain ⟨x', hx', l1⟩ := hh.get i x hx
    obtain ⟨y', hy', l2⟩ := hh.get j y hy
    exact h1.inj i j x' y' b hx' hy' (l1.same_kind.1.trans lx) (l2.same_kind.1.trans ly) hb hb'
  · obtain ⟨x', hx', l1⟩ := hh.get i x hx
    exact h1.here i x' b hx' hb
  · obtain ⟨x', hx', l1⟩ := hh.get i x hx
    have hk := h1.blk i x' hx'
    cases l1 with
    | same _ hb =>
      cases x with
      | free => exact hk
      | dead => trivial
      | tok k n => exact hk
      | box cs =>
        obtain ⟨b, us, e, q1, q2, q3, q4⟩ := hk
        exact ⟨b, us, e, q1, q2, q3, fun j a ha => by obtain ⟨w1, v, w2, w3⟩ := q4 j a ha; exact ⟨w1, v, w2, hxf v a w3 (belL_get hb j a ha)⟩⟩
      | rows k l =>
        obtain ⟨b, us, e, q1, q2, q3, q4⟩ := hk
        exact ⟨b, us, e, q1, q2, q3, fun j y m a hy ha => by obtain ⟨v, w2, w3⟩ := q4 j y m a hy ha; exact ⟨v, w2, hxf v a w3 (belL_get (belLL_get hb j y hy) m a ha)⟩⟩
      | map l =>
        obtain ⟨b, es, q1, q2, q3, q4⟩ := hk
        exact ⟨b, es, q1, q2, q3, fun j e p he hp => by
          have := List.all_eq_true.1 hb p (List.mem_of_getElem? hp)
          simp only [Bool.and_eq_true] at this
          obtain ⟨w0, w1, w2⟩ := q4 j e p he hp
          exact ⟨w0, hxf _ _ w1 this.1, hxf _ _ w2 this.2⟩⟩
      | iter m n seen =>
        obtain ⟨b, mb, sa, q1, q2, q3, q4⟩ := hk
        exact ⟨b, mb, sa, q1, q2, q3, hxf _ _ q4 (by simpa [AV.bel, ABlk.bel] using hb)⟩
    | box hle hb =>
      obtain ⟨b, us, e, q1, q2, q3, q4⟩ := hk
      exact ⟨b, us, e, q1, q2, q3.trans hle.len, fun j a ha => by
        obtain ⟨a', ha', l2⟩ := hle.get j a ha
        obtain ⟨w1, v, w2, w3⟩ := q4 j a' ha'
        exact ⟨l2.cell w1, v, w2, hxf v a (l2.rv w3) (belL_get hb j a ha)⟩⟩
  · obtain ⟨x', hx', l1⟩ := hh.get i x hx
    exact (h1.xs b o h).2 i x' hx' (l1.same_kind.1.trans hl) hb
  · obtain ⟨a, g1, g2, g3⟩ := ht.get i b hb
    exact hxf v b (g2.rv (h3.2 i v a hv g1)) g3
/-- A nil slice gets a token. -/
theorem Weak.own {P : Program} {c0 : Cx} {s : AState} (j k : Nat) (hj : s.t[j]? = some .nils) : Weak P c0 s ⟨s.t.set j (.sl k [] (.own s.h.length)), s.h ++ [.tok k 0]⟩ := by
  refine ⟨fun ρ w vs h1 h2 h3 => ?_⟩
  obtain ⟨g1, g2⟩ := Cx.grow h1
  obtain ⟨q1, q2⟩ := Cx.unborn g1 s.h.length k (by simp)
  have e : (s.h ++ [ABlk.free]).set s.h.length (.tok k 0) = s.h ++ [.tok k 0] := by simp
  simp only [e] at q1 q2
  have hev := g2.trans q2
  refine ⟨_, q1, h2.trans hev, by simp [h3.1], fun i v x hv hx => ?_⟩
  rw [List.getElem?_set] at hx
  split at hx
  · rename_i hij
    subst hij
    split at hx
    · cases hx
      have hr := h3.2 j v _ hv hj
      cases hr
      have hlast : (s.h ++ [ABlk.tok k 0])[s.h.length]? = some (.tok k 0) := by simp
      refine .sl k [] _ none 0 0 0 0 (fun _ _ => undef) rfl (Nat.le_refl _) (Nat.zero_le _) (fun h => absurd rfl h) (fun j e h => by simp at h) (fun j e i a h => by simp at h) (fun j e i a h => by simp at h) ⟨⟨_, hlast, rfl⟩, fun k' n' e => ?_⟩
      simp only [hlast] at e
      cases e
      exact ⟨rfl, Nat.le_refl _, fun _ => .inl rfl⟩
    · cases hx
  · exact (h3.2 i v x hv hx).mono hev
theorem Weak.trans {P : Program} {c0 : Cx} {s1 s2 s3 : AState} (h : Weak P c0 s1 s2) (g : Weak P c0 s2 s3) : Weak P c0 s1 s3 := ⟨h.h.trans g.h⟩
theorem Run.weak {P : Program} {f : FuncId} {c0 : Cx} {R : AV → List ABlk → Prop} {k : List Item} {s s' : AState} (hw : Weak P c0 s s') (h : Run P f c0 R k s') : Run P f c0 R k s := ⟨ARun.weak hw.h h.h⟩
theorem Run.loop {P : Program} {f : FuncId} {c0 : Cx} {R : AV → List ABlk → Prop} {k : List Item} {s : AState} {α : Type} (L : α → AState) (μ : α → Nat) {c : Code} (x0 : α) (hw : Weak P c0 s (L x0))
    (round : ∀ x, (∀ x' s', μ x' < μ x → Weak P c0 s' (L x') → Run P f c0 R (.inLoop c :: k) s') → Run P f c0 R (.code c :: .inLoop c :: k) (L x)) : Run P f c0 R (.code (.loop c) :: k) s :=
  ⟨ARun.loop L μ x0 hw.h fun x ih => (round x fun x' s' h1 h2 => ⟨ih x' s' h1 h2.h⟩).h⟩
section
variable {P : Program} {f : FuncId} {c0 : Cx} {R : AV → List ABlk → Prop} {T : TabT} {k : List Item} {s : AState} {ops : Array Oper} {n : Nat} {o : Oper} {rest : List Oper}
/-- A call in a plain region. -/
theorem Ops.call (hw : Wanted ops s.t o.guard true) {x : Operand} {as : Array Operand} {ts : Array TypeId} (ho : o.op = .call { callee := .value x, args := as, argTypes := ts })
    {g : FuncId} {fi ca : List AV} (hx : aev s.t x = .fn (.func g) fi ca) (hg : Callable P g) (h : ACall P g (fi ++ as.toList.map (aev s.t) ++ ca) s.h fun r h' => Ops P f c0 R ops (n + 1) rest k ⟨aput s.t o.dst r, h'⟩) : Ops P f c0 R ops n (o :: rest) k s :=
  ⟨AOps.call hw ho hx hg (h.mono fun _ _ h => h.h)⟩
theorem Ops.go (hT : TabOk P T) {fn : Func} (hf : P.funcs[f]? = some fn) (m : Nat) (h : aops P f c0 R T ops k (arun P f c0 R T fn.results.toList m k) n rest s) : Ops P f c0 R ops n rest k s :=
  ⟨aops_ok hT (fun s h => arun_ok hT hf m k s h) rest n s h⟩
theorem ACall.of {fn : Func} {c : Code} {args : List AV} {h : List ABlk} (hf : P.funcs[f]? = some fn) (hb : fn.body = some c)
    (H : ∀ c0 : Cx, c0.h = h → Run P f c0 R [.code c] ⟨args ++ List.replicate (fn.ntmps - args.length) .junk, h⟩) : ACall P f args h R := ACall.body hf hb fun c0 hc => (H c0 hc).h
end
/-- The temporaries that a text writes. -/
def writes : Code → List Nat
  | .region _ ops _ => ops.toList.filterMap (·.dst)
  | .seq a b => writes a ++ writes b
  | .cond _ a b => writes a ++ writes b
  | .block _ c => writes c
  | .loop c => writes c
  | .scope c => writes c
  | _ => []
def junks (t : List AV) : List Nat → List AV
  | [] => t
  | j :: js => junks (t.set j .junk) js
def puts (t : List AV) : List (Nat × AV) → List AV
  | [] => t
  | (j, v) :: js => puts (t.set j v) js
def hputs (h : List ABlk) : List (Nat × ABlk) → List ABlk
  | [] => h
  | (j, v) :: js => hputs (h.set j v) js
/-- A loop: V what the carried temporaries are, n how many blocks stay, B which of them are others, I what holds of what is carried. -/
theorem Run.loopV {P : Program} {f : FuncId} {c0 : Cx} {R : AV → List ABlk → Prop} {k : List Item} {s : AState} {α : Type} (I : α → Prop) (V : α → List (Nat × AV)) (n : Nat) (B : α → List (Nat × ABlk)) (μ : α → Nat) {c : Code} (x0 : α) (h0 : I x0)
    (hw : Weak P c0 s ⟨puts (junks s.t (writes c)) (V x0), hputs (s.h.take n) (B x0)⟩)
    (round : ∀ x, I x → (∀ x' s', I x' → μ x' < μ x → Weak P c0 s' ⟨puts (junks s.t (writes c)) (V x'), hputs (s.h.take n) (B x')⟩ → Run P f c0 R (.inLoop c :: k) s') → Run P f c0 R (.code c :: .inLoop c :: k) ⟨puts (junks s.t (writes c)) (V x), hputs (s.h.take n) (B x)⟩) : Run P f c0 R (.code (.loop c) :: k) s :=
  Run.loop (α := { x : α // I x }) (fun x => ⟨puts (junks s.t (writes c)) (V x.1), hputs (s.h.take n) (B x.1)⟩) (fun x => μ x.1) ⟨x0, h0⟩ hw fun x ih => round x.1 x.2 fun x' s' hx' h1 h2 => ih ⟨x', hx'⟩ s' h1 h2
end Go.Proofs.YtgonmnjgodleeaaDoor
