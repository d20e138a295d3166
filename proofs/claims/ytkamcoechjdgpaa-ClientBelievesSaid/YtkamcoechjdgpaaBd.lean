/-
  The shadow of a run: calls that make rows which may be written, and calls that take them. Nothing here speaks of the program.
-/
import Derived.Test.YtkamcoechjdgpaaBb
namespace Go.Proofs.Ytkamcoechjdgpaa
open Go.RowKit
/-- It returns rows of its own, which may be written. -/
structure MSpec (P : Program) (f : FuncId) (args : List AV) (k : Nat) (l : List (List AV)) : Prop where
  fn : Callable P f
  ne : l ≠ []
  pos : 0 < k
  run : ACall P f args [] fun r h' => ∃ i cap L, r = .msl i k 0 l.length cap ∧ h'[i]? = some (.rows k L) ∧ cap ≤ L.length ∧ L.take l.length = l
section
variable {P : Program} {f : FuncId}
theorem ACall.newAt {args args' : List AV} {k : Nat} {l : List (List AV)} {h : List ABlk} {R : AV → List ABlk → Prop} {sl : Nat} (hfr : h[sl]? = some .free) (hs : MSpec P f args k l) (hle : LeL args' args) (ha : belL 0 args = true) (hbl : belLL 0 l = true) (hR : R (.msu sl k l.length) (h.set sl (.rows k l))) : ACall P f args' h R := by
  intro c vs hch hc ht
  subst hch
  have hsl : sl < c.h.length := (List.getElem?_eq_some_iff.1 hfr).1
  refine (hs.run c.shut vs rfl Cx.shut_rel ((hle.rel ht).shut ha)).mono ?_
  rintro e w' ⟨v, ρ', r, h', rfl, g1, g2, g3, i, cap, L, rfl, hi, hcL, hLl⟩
  have hbig : ∀ b, ρ' i = some b → c.w.heap.size ≤ b := fun b hb => by
    rcases Nat.lt_or_ge b c.w.heap.size with hlt | hge
    · exact absurd ⟨i, _, hi, rfl, hb⟩ (g2.fr b hlt (by rintro ⟨i, x, hx, _⟩; simp [Cx.shut] at hx)).2
    · exact hge
  have hold : ∀ b, b < c.w.heap.size → w'.heap[b]? = c.w.heap[b]? := fun b hb => (g2.fr b hb (by rintro ⟨i, x, hx, _⟩; simp [Cx.shut] at hx)).1
  have hsz : c.w.heap.size ≤ w'.heap.size := g2.size
  have hcase : ∀ (j : Nat) y b, (c.h.set sl (ABlk.rows k l))[j]? = some y → setρ c.ρ sl (ρ' i) j = some b → (j = sl ∧ y = .rows k l ∧ ρ' i = some b ∧ c.w.heap.size ≤ b) ∨ (j ≠ sl ∧ c.h[j]? = some y ∧ c.ρ j = some b ∧ b < c.w.heap.size) := fun j y b hy hb => by
    by_cases hj : j = sl
    · subst hj
      rw [setρ_same] at hb
      rw [List.getElem?_set_self hsl] at hy
      simp at hy
      exact .inl ⟨rfl, hy.symm, hb, hbig b hb⟩
    · rw [setρ_ne _ _ hj] at hb
      rw [List.getElem?_set_ne (Ne.symm hj)] at hy
      exact .inr ⟨hj, hy, hb, hc.here j y b hy hb⟩
  have hρ : ∀ (j : Nat), j ≠ sl → setρ c.ρ sl (ρ' i) j = c.ρ j := fun j hx => setρ_ne _ _ hx
  have hev : Ev c ⟨setρ c.ρ sl (ρ' i), c.h.set sl (.rows k l), w', c.X⟩ := by
    refine ⟨g2.os, g2.tape, g2.output, hsz, rfl, fun b o h => ⟨⟨Nat.lt_of_lt_of_le h.1 hsz, h.2.1, fun j y hy hb => ?_⟩, cell_of_block (hold b h.1)⟩, fun b hb hm => ⟨hold b hb, ?_⟩, by simp, fun j x hx hf => ?_, keep_old hold⟩
    · rcases hcase j y b hy hb with ⟨_, _, _, hge⟩ | ⟨_, q1, q2, _⟩
      · have := h.1; omega
      · exact h.2.2 j y q1 q2
    · rintro ⟨j, y, hy, hl, hj⟩
      rcases hcase j y b hy hj with ⟨_, _, _, hge⟩ | ⟨_, q1, q2, _⟩
      · omega
      · exact hm ⟨j, y, q1, hl, q2⟩
    · have hj : j ≠ sl := by rintro rfl; rw [hfr] at hx; cases hx; cases hf
      exact ⟨x, by rw [List.getElem?_set_ne (Ne.symm hj)]; exact hx, hf, fun ht => ⟨ht, hρ j hj⟩, fun k n e => ⟨n, e, .inr ⟨rfl, hρ j hj, fun b hb => hold b (hc.here j x b hx hb)⟩⟩⟩
  have him : ∀ b o, (Cx.mk ρ' h' w' c.shut.X).im b o → (Cx.mk (setρ c.ρ sl (ρ' i)) (c.h.set sl (.rows k l)) w' c.X).im b o := fun b o h => by
    have hx : ¬ (b < c.w.heap.size ∧ ¬ c.im b o) := h.2.1
    by_cases hb : b < c.w.heap.size
    · have him : c.im b o := Classical.byContradiction fun hn => hx ⟨hb, hn⟩
      exact (hev.im b o him).1
    · refine ⟨h.1, fun hX => hb (hc.xs b o hX).1, fun j y hy hρj => ?_⟩
      rcases hcase j y b hy hρj with ⟨_, rfl, q, _⟩ | ⟨_, q1, q2, q3⟩
      · exact (h.2.2 i (.rows k L) hi q : False)
      · omega
  have hxf : ∀ v a, RV ⟨ρ', h', w', c.shut.X⟩ v a → a.bel 0 = true → RV ⟨setρ c.ρ sl (ρ' i), c.h.set sl (.rows k l), w', c.X⟩ v a := fun v a hv hb =>
    RV.xfer (c := ⟨ρ', h', w', c.shut.X⟩) (c2 := ⟨setρ c.ρ sl (ρ' i), c.h.set sl (.rows k l), w', c.X⟩) (n := 0) (fun b o h => ⟨him b o h, rfl⟩) (fun i hi => absurd hi (Nat.not_lt_zero i)) (fun i b hi => absurd hi (Nat.not_lt_zero i)) hv hb
  cases g3 with
  | msl _ _ _ _ _ b o' hkn hb hnt hcap hm ho =>
    obtain ⟨us, te, hR2⟩ := RowsAt.of g1 hi hb
    have hszr := hR2.size hs.pos
    have hl0 : 0 < l.length := List.length_pos_iff.2 hs.ne
    obtain rfl : o' = 0 := by rw [ho (by omega)]; simp
    have hget : ∀ (j : Nat) x, l[j]? = some x → L[j]? = some x := fun j x hx => by
      rw [← hLl, List.getElem?_take] at hx
      split at hx
      · exact hx
      · cases hx
    have hrel : RelH ⟨setρ c.ρ sl (ρ' i), c.h.set sl (.rows k l), w', c.X⟩ := by
      refine ⟨fun j j' y y' b hy hy' ly ly' hb hb' => ?_, fun j y b hy hb => ?_, fun j y hy => ?_, fun b o h => ⟨Nat.lt_of_lt_of_le (hc.xs b o h).1 hsz, fun j y hy hl hb => ?_⟩⟩
      · rcases hcase j y b hy hb with ⟨rfl, _, _, q⟩ | ⟨_, q1, q2, q3⟩ <;> rcases hcase j' y' b hy' hb' with ⟨rfl, _, _, w⟩ | ⟨_, w1, w2, w3⟩
        · rfl
        · omega
        · omega
        · exact hc.inj j j' y y' b q1 w1 ly ly' q2 w2
      · rcases hcase j y b hy hb with ⟨_, _, q, _⟩ | ⟨_, q1, q2, q3⟩
        · exact g1.here i _ b hi q
        · exact Nat.lt_of_lt_of_le q3 hsz
      · by_cases hj : j = sl
        · subst hj
          rw [List.getElem?_set_self hsl] at hy
          simp at hy
          subst hy
          refine ⟨b, us, te, by simp only [setρ_same]; exact hb, hR2.hh, fun q x hx => hR2.el q x (hget q x hx), fun q x m a hx ha => ?_⟩
          obtain ⟨v, q1, q2⟩ := hR2.rv q x m a (hget q x hx) ha
          exact ⟨v, q1, hxf v a q2 (belL_get (belLL_get hbl q x hx) m a ha)⟩
        · rw [List.getElem?_set_ne (Ne.symm hj)] at hy
          exact (hc.blk j y hy).mono hev (hρ j hj) fun b _ hb => hold b (hc.here j y b hy hb)
      · rcases hcase j y b hy hb with ⟨_, _, _, q⟩ | ⟨_, q1, q2, q3⟩
        · have := (hc.xs b o h).1; omega
        · exact (hc.xs b o h).2 j y q1 hl q2
    have hlast : (c.h.set sl (ABlk.rows k l))[sl]? = some (.rows k l) := List.getElem?_set_self hsl
    refine ⟨_, _, _, _, rfl, hrel, hev, .msu sl k l.length cap b ⟨_, hlast, rfl⟩ (by simp only [setρ_same]; exact hb) (fun x hx => ?_) hcap hm ⟨us, te, (0, 0), hR2.hh, Nat.le_trans (Nat.mul_le_mul_right _ hcL) hszr⟩, hR⟩
    have hx2 : (c.h.set sl (ABlk.rows k l))[sl]? = some x := hx
    rw [hlast] at hx2
    cases hx2; rfl
theorem ACall.grown {args : List AV} {h : List ABlk} {R : AV → List ABlk → Prop} (H : ACall P f args (h ++ [.free]) R) : ACall P f args h R := by
  intro c vs hch hc ht
  subst hch
  obtain ⟨q1, q2⟩ := Cx.grow hc
  refine (H _ vs rfl q1 (ht.mono q2)).mono ?_
  rintro e w' ⟨v, ρ', r, h', rfl, g1, g2, g3, hR⟩
  exact ⟨v, ρ', r, h', rfl, g1, q2.trans g2, g3, hR⟩
/-- An empty row of its own, or nil. -/
theorem OSpec.nil {args : List AV} {k : Nat} (hfn : Callable P f) (H : ACall P f args [] fun r _ => r = .nils ∨ ∃ i k' o, r = .msl i k' o 0 0) : OSpec P f args k [] := by
  refine ⟨hfn, fun c vs hch hc ht => (H c vs hch hc ht).mono ?_⟩
  rintro e w' ⟨v, ρ', r, h', rfl, g1, g2, g3, hr⟩
  have hv : ∃ A, v = .slice A 0 0 := by
    rcases hr with rfl | ⟨i, k', o, rfl⟩
    · cases g3; exact ⟨_, rfl⟩
    · cases g3; exact ⟨_, rfl⟩
  obtain ⟨A, rfl⟩ := hv
  obtain ⟨q1, q2⟩ := Cx.grow g1
  have hfr : (h' ++ [ABlk.free])[h'.length]? = some .free := by simp
  obtain ⟨q3, q4⟩ := Cx.unborn q1 h'.length k hfr
  have hlast : ((h' ++ [ABlk.free]).set h'.length (.tok k 0))[h'.length]? = some (.tok k 0) := List.getElem?_set_self (by simp)
  refine ⟨_, _, .sl k [] (.own h'.length), _, rfl, q3, g2.trans (q2.trans q4), ?_, h'.length, rfl, hlast⟩
  refine .sl k [] _ A 0 0 0 0 (fun _ _ => undef) rfl (Nat.le_refl _) (Nat.zero_le _) (fun h => absurd rfl h) (fun j e h => by simp at h) (fun j e i a h => by simp at h) (fun j e i a h => by simp at h) ⟨⟨_, hlast, rfl⟩, fun k' n' e => ?_⟩
  have e2 : ((h' ++ [ABlk.free]).set h'.length (.tok k 0))[h'.length]? = some (.tok k' n') := e
  rw [hlast] at e2
  cases e2
  exact ⟨rfl, Nat.le_refl _, fun _ => .inl rfl⟩
/-! ### a callee that takes one block of its caller's -/
def Cx.one (c : Cx) (i : Nat) : Cx := ⟨fun q => if q = 0 then c.ρ i else none, [(c.h[i]?).getD .dead], c.w, fun b o => b < c.w.heap.size ∧ ¬ c.im b o ∧ c.ρ i ≠ some b⟩
/-- Blocks that may be lent. -/
def Lent (x : ABlk) : Prop := (∃ k L, x = .rows k L ∧ belLL 0 L = true) ∨ ∃ k, x = .tok k 0
theorem Lent.fix {x : ABlk} (h : Lent x) (o : Nat) : ¬ x.fix o := by
  rcases h with ⟨k, L, rfl, _⟩ | ⟨k, rfl⟩
  · exact fun h => h
  · intro h; have : o < 0 * k := h; omega
theorem Lent.live {x : ABlk} (h : Lent x) : x.live = true := by rcases h with ⟨k, L, rfl, _⟩ | ⟨k, rfl⟩ <;> rfl
theorem Lent.free {x : ABlk} (h : Lent x) : x.isfree = false := by rcases h with ⟨k, L, rfl, _⟩ | ⟨k, rfl⟩ <;> rfl
section
variable {c : Cx} {i : Nat} {X0 : ABlk}
theorem Cx.one_get (hi : c.h[i]? = some X0) (q : Nat) (x : ABlk) (hx : (c.one i).h[q]? = some x) : q = 0 ∧ x = X0 := by
  simp only [Cx.one, hi, Option.getD_some] at hx
  match q, hx with
  | 0, hx => simp at hx; exact ⟨rfl, hx.symm⟩
  | q + 1, hx => simp at hx
theorem Cx.one_im (hi : c.h[i]? = some X0) {b o : Nat} (h : c.im b o) : (c.one i).im b o := by
  refine ⟨h.1, fun hx => hx.2.1 h, fun q x hx hb => ?_⟩
  obtain ⟨rfl, rfl⟩ := Cx.one_get hi q x hx
  exact h.2.2 i _ hi (by simpa [Cx.one] using hb)
theorem Cx.one_xfer (hi : c.h[i]? = some X0) {v : Value} {a : AV} (h : RV c v a) (ha : a.bel 0 = true) : RV (c.one i) v a :=
  h.xfer (fun b o h => ⟨Cx.one_im hi h, rfl⟩) (fun i hi => absurd hi (Nat.not_lt_zero i)) (fun i b hi => absurd hi (Nat.not_lt_zero i)) ha
theorem Cx.one_rel (hc : RelH c) (hi : c.h[i]? = some X0) (hX : Lent X0) : RelH (c.one i) := by
  refine ⟨fun q r x y b hx hy _ _ hb hb' => ?_, fun q x b hx hb => ?_, fun q x hx => ?_, fun b o h => ⟨h.1, fun q x hx _ hb => ?_⟩⟩
  · obtain ⟨rfl, _⟩ := Cx.one_get hi q x hx
    obtain ⟨rfl, _⟩ := Cx.one_get hi r y hy
    rfl
  · obtain ⟨rfl, rfl⟩ := Cx.one_get hi q x hx
    exact hc.here i _ b hi (by simpa [Cx.one] using hb)
  · obtain ⟨rfl, rfl⟩ := Cx.one_get hi q x hx
    have hb := hc.blk i _ hi
    rcases hX with ⟨k, L, rfl, hL⟩ | ⟨k, rfl⟩
    · obtain ⟨b, vs, e, h1, h2, h3, h4⟩ := hb
      exact ⟨b, vs, e, by simpa [Cx.one] using h1, h2, h3, fun q x m a hx ha => by
        obtain ⟨v, g1, g2⟩ := h4 q x m a hx ha
        exact ⟨v, g1, Cx.one_xfer hi g2 (belL_get (belLL_get hL q x hx) m a ha)⟩⟩
    · intro b h
      exact hb b (by simpa [Cx.one] using h)
  · obtain ⟨rfl, rfl⟩ := Cx.one_get hi q x hx
    exact h.2.2 (by simpa [Cx.one] using hb)
/-- An argument, as the callee sees it. -/
inductive OneA (i : Nat) : AV → AV → Prop where
  | le {a b : AV} (h : Le a b) (hb : b.bel 0 = true) : OneA i a b
  | msu (k n : Nat) : OneA i (.msu i k n) (.msu 0 k n)
  | own (k : Nat) (l : List (List AV)) : OneA i (.sl k l (.own i)) (.sl k l (.own 0))
inductive OneL (i : Nat) : List AV → List AV → Prop where
  | nil : OneL i [] []
  | cons {a b : AV} {as bs : List AV} (h : OneA i a b) (hs : OneL i as bs) : OneL i (a :: as) (b :: bs)
theorem OneA.rv (hi : c.h[i]? = some X0) (hX : Lent X0) {a b : AV} (h : OneA i a b) {v : Value} (hv : RV c v a) : RV (c.one i) v b := by
  have h0 : (c.one i).h[0]? = some X0 := by simp [Cx.one, hi]
  have hkn : (c.one i).known 0 := ⟨X0, h0, hX.free⟩
  cases h with
  | le h hb => exact Cx.one_xfer hi (h.rv hv) hb
  | msu k n =>
    cases hv with
    | msu _ _ _ cap b hk hb ht h1 h2 h3 =>
      refine .msu 0 k n cap b hkn (by simpa [Cx.one] using hb) (fun x hx => ?_) h1 h2 h3
      rw [h0] at hx
      cases hx
      exact ht _ hi
  | own k l =>
    cases hv with
    | sl _ _ _ A n cap b o vs hn hcap hm hA hk hc hr ht =>
      refine .sl k l _ A n cap b o vs hn hcap hm hA hk (fun j e m a he ha => ?_) (fun j e m a he ha => Cx.one_xfer hi (hr j e m a he ha) (AV.plain_bel (hc j e m a he ha).1 0)) ⟨hkn, fun k' n' e => ?_⟩
      · obtain ⟨g1, g2, g3⟩ := hc j e m a he ha
        exact ⟨g1, Cx.one_im hi g2, g3⟩
      · rw [h0] at e
        cases e
        obtain ⟨_, g⟩ := ht
        obtain ⟨q1, q2, q3⟩ := g _ _ hi
        refine ⟨q1, q2, fun e => ?_⟩
        rcases q3 e with q | ⟨b, vs, e', w1, w2, w3, w4⟩
        · exact .inl q
        · exact .inr ⟨b, vs, e', by simpa [Cx.one] using w1, w2, w3, w4⟩
theorem OneL.rel (hi : c.h[i]? = some X0) (hX : Lent X0) {as bs : List AV} (h : OneL i as bs) : ∀ {vs : Array Value}, TRel c vs as → TRel (c.one i) vs bs := by
  have len : ∀ {as bs}, OneL i as bs → as.length = bs.length := by
    intro as bs h
    induction h with
    | nil => rfl
    | cons _ _ ih => simp [ih]
  have get : ∀ {as bs}, OneL i as bs → ∀ (j : Nat) b, bs[j]? = some b → ∃ a, as[j]? = some a ∧ OneA i a b := by
    intro as bs h
    induction h with
    | nil => intro j b h; simp at h
    | cons h _ ih =>
      intro j b hb
      cases j with
      | zero => simp at hb; subst hb; exact ⟨_, rfl, h⟩
      | succ j => obtain ⟨a, h1, h2⟩ := ih j b (by simpa using hb); exact ⟨a, by simpa using h1, h2⟩
  intro vs hv
  refine ⟨by rw [hv.1, len h], fun j v b hv' hb => ?_⟩
  obtain ⟨a, h1, h2⟩ := get h j b hb
  exact h2.rv hi hX (hv.2 j v a hv' h1)
end
/-- A callee that takes one block of its caller's, and leaves none of it: what it answers lies where no one writes any more. -/
theorem ACall.one {args args' : List AV} {h : List ABlk} {R : AV → List ABlk → Prop} {i : Nat} {X0 : ABlk} {res : AV} (hi : h[i]? = some X0) (hX : Lent X0)
    (H : ACall P f args [X0] fun r _ => LeR r res) (hres : res.bel 0 = true) (harg : OneL i args' args) (hR : R res (h.set i .dead)) : ACall P f args' h R := by
  intro c vs hch hc ht
  subst hch
  have hrel := Cx.one_rel hc hi hX
  refine (H (c.one i) vs (by simp [Cx.one, hi]) hrel (harg.rel hi hX ht)).mono ?_
  rintro e w' ⟨v, ρ', r, h', rfl, g1, g2, g3, hle⟩
  have hil : i < c.h.length := (List.getElem?_eq_some_iff.1 hi).1
  have hmut : ∀ b, (c.one i).mutb b → c.ρ i = some b := by
    rintro b ⟨q, x, hx, _, hb⟩
    obtain ⟨rfl, rfl⟩ := Cx.one_get hi q x hx
    simpa [Cx.one] using hb
  have hsz : c.w.heap.size ≤ w'.heap.size := g2.size
  have hold : ∀ b, b < c.w.heap.size → c.ρ i ≠ some b → w'.heap[b]? = c.w.heap[b]? := fun b hb h1 => (g2.fr b hb fun hm => h1 (hmut b hm)).1
  have hget : ∀ (q : Nat) x, (c.h.set i .dead)[q]? = some x → (q = i ∧ x = .dead) ∨ (q ≠ i ∧ c.h[q]? = some x) := fun q x hx => by
    by_cases hq : q = i
    · subst hq
      rw [List.getElem?_set_self hil] at hx
      exact .inl ⟨rfl, (Option.some.inj hx).symm⟩
    · rw [List.getElem?_set_ne (Ne.symm hq)] at hx
      exact .inr ⟨hq, hx⟩
  have hoth : ∀ (q : Nat) x b, q ≠ i → c.h[q]? = some x → x.live = true → c.ρ q = some b → c.ρ i ≠ some b := fun q x b h1 hx hl hb e => h1 (hc.inj q i x _ b hx hi hl hX.live hb e)
  have hnx : ∀ b o, c.X b o → c.ρ i ≠ some b := fun b o hX' e => (hc.xs b o hX').2 i _ hi hX.live e
  have him0 : ∀ b o, c.im b o → c.ρ i ≠ some b := fun b o h e => hX.fix o (h.2.2 i _ hi e)
  have hdead : ∀ (q : Nat) x b o, (c.h.set i .dead)[q]? = some x → c.ρ q = some b → (c.ρ i = some b ∨ c.im b o) → x.fix o := fun q x b o hx hb hcase => by
    rcases hget q x hx with ⟨_, rfl⟩ | ⟨h1, hx'⟩
    · trivial
    · by_cases hl : x.live = true
      · rcases hcase with h | h
        · exact absurd h (hoth q x b h1 hx' hl hb)
        · exact h.2.2 q x hx' hb
      · cases x <;> first | exact absurd rfl hl | trivial
  have hev : Ev c ⟨c.ρ, c.h.set i .dead, w', c.X⟩ := by
    refine ⟨g2.os, g2.tape, g2.output, hsz, rfl, fun b o h => ⟨⟨Nat.lt_of_lt_of_le h.1 hsz, h.2.1, fun q x hx hb => hdead q x b o hx hb (.inr h)⟩, cell_of_block (hold b h.1 (him0 b o h))⟩, fun b hb hm => ⟨hold b hb (fun e => hm ⟨i, _, hi, hX.live, e⟩), ?_⟩, by simp, fun q x hx hf => ?_, g2.keep⟩
    · rintro ⟨q, x, hx, hl, hb⟩
      rcases hget q x hx with ⟨_, rfl⟩ | ⟨_, hx'⟩
      · cases hl
      · exact hm ⟨q, x, hx', hl, hb⟩
    · by_cases hq : q = i
      · subst hq
        rw [hi] at hx
        cases hx
        exact ⟨.dead, List.getElem?_set_self hil, rfl, fun ht => ⟨rfl, rfl⟩, fun k n e => by cases e⟩
      · refine ⟨x, by rw [List.getElem?_set_ne (Ne.symm hq)]; exact hx, hf, fun ht => ⟨ht, rfl⟩, fun k n e => ⟨n, e, .inr ⟨rfl, rfl, fun b hb => ?_⟩⟩⟩
        exact hold b (hc.here q x b hx hb) (hoth q x b hq hx (by rw [e]; rfl) hb)
  refine ⟨v, c.ρ, res, c.h.set i .dead, rfl, ?_, hev, ?_, hR⟩
  · refine ⟨fun q r x y b hx hy lx ly hb hb' => ?_, fun q x b hx hb => ?_, fun q x hx => ?_, fun b o hX' => ⟨Nat.lt_of_lt_of_le (hc.xs b o hX').1 hsz, fun q x hx hl hb => ?_⟩⟩
    · rcases hget q x hx with ⟨_, rfl⟩ | ⟨_, hx'⟩
      · cases lx
      · rcases hget r y hy with ⟨_, rfl⟩ | ⟨_, hy'⟩
        · cases ly
        · exact hc.inj q r x y b hx' hy' lx ly hb hb'
    · have hql : q < c.h.length := by have := (List.getElem?_eq_some_iff.1 hx).1; simpa using this
      exact Nat.lt_of_lt_of_le (hc.here q _ b (List.getElem?_eq_getElem hql) hb) hsz
    · rcases hget q x hx with ⟨_, rfl⟩ | ⟨h1, hx'⟩
      · trivial
      · exact (hc.blk q x hx').mono hev rfl fun b hl hb => hold b (hc.here q x b hx' hb) (hoth q x b h1 hx' hl hb)
    · rcases hget q x hx with ⟨_, rfl⟩ | ⟨_, hx'⟩
      · cases hl
      · exact (hc.xs b o hX').2 q x hx' hl hb
  · refine RV.xfer (c := ⟨ρ', h', w', (c.one i).X⟩) (c2 := ⟨c.ρ, c.h.set i .dead, w', c.X⟩) (n := 0) (fun b o h => ⟨⟨h.1, ?_, fun q x hx hb => ?_⟩, rfl⟩) (fun i hi => absurd hi (Nat.not_lt_zero i)) (fun i b hi => absurd hi (Nat.not_lt_zero i)) (hle.rv g3) hres
    · intro hX'
      have h2 := (hc.xs b o hX').1
      have hx2 : ¬ (b < c.w.heap.size ∧ ¬ c.im b o ∧ c.ρ i ≠ some b) := by have := h.2.1; rw [g2.x] at this; exact this
      exact hx2 ⟨h2, fun hm => hm.2.1 hX', hnx b o hX'⟩
    · have hx2 : ¬ (b < c.w.heap.size ∧ ¬ c.im b o ∧ c.ρ i ≠ some b) := by have := h.2.1; rw [g2.x] at this; exact this
      refine hdead q x b o hx hb ?_
      have hql : q < c.h.length := by have := (List.getElem?_eq_some_iff.1 hx).1; simpa using this
      have hlt := hc.here q _ b (List.getElem?_eq_getElem hql) hb
      by_cases e1 : c.ρ i = some b
      · exact .inl e1
      · exact .inr (Classical.byContradiction fun hn => hx2 ⟨hlt, hn, e1⟩)
end
section
variable {P : Program} {f : FuncId} {c0 : Cx} {R : AV → List ABlk → Prop} {ops : Array Oper} {n sl : Nat} {o : Oper} {rest : List Oper} {fp : List (List Nat × List Nat)} {k : List Item} {s : AState}
/-- A call, in a drawn region, that makes rows. -/
theorem DOps.made (ho : ops[n]? = some o) (hw : Wanted ops s.t o.guard true) {x : Operand} {as : Array Operand} {ts : Array TypeId} (hop : o.op = .call { callee := .value x, args := as, argTypes := ts })
    {g : FuncId} {fi ca : List AV} (hx : aev s.t x = .fn (.func g) fi ca) {args : List AV} {kk : Nat} {l : List (List AV)} (hs : MSpec P g args kk l) (hle : LeL (fi ++ as.toList.map (aev s.t) ++ ca) args) (ha : belL 0 args = true) (hbl : belLL 0 l = true)
    (hfr : s.h[sl]? = some .free) (h : DOps P f c0 R ops (n + 1) (sl + 1) rest (fp ++ [([sl], [sl])]) k ⟨aput s.t o.dst (.msu sl kk l.length), s.h.set sl (.rows kk l)⟩) : DOps P f c0 R ops n sl (o :: rest) fp k s :=
  DOps.cons (e := ⟨.msu sl kk l.length, [(sl, .rows kk l)], [sl]⟩) (StepOk.call ho hw hop hx hs.fn _ fun h' hh => ACall.newAt (by rw [hh sl (by simp)]; exact hfr) hs hle ha hbl ⟨rfl, rfl⟩) h
theorem Ops.made (hw : Wanted ops s.t o.guard true) {x : Operand} {as : Array Operand} {ts : Array TypeId} (hop : o.op = .call { callee := .value x, args := as, argTypes := ts })
    {g : FuncId} {fi ca : List AV} (hx : aev s.t x = .fn (.func g) fi ca) {args : List AV} {kk : Nat} {l : List (List AV)} (hs : MSpec P g args kk l) (hle : LeL (fi ++ as.toList.map (aev s.t) ++ ca) args) (ha : belL 0 args = true) (hbl : belLL 0 l = true)
    (h : Ops P f c0 R ops (n + 1) rest k ⟨aput s.t o.dst (.msu s.h.length kk l.length), s.h ++ [.rows kk l]⟩) : Ops P f c0 R ops n (o :: rest) k s :=
  Ops.call hw hop hx hs.fn (ACall.grown (ACall.newAt (sl := s.h.length) (by simp) hs hle ha hbl (by
    have e1 : (s.h ++ [ABlk.free]).set s.h.length (.rows kk l) = s.h ++ [.rows kk l] := by rw [List.set_append_right _ _ (Nat.le_refl _)]; simp
    rw [e1]; exact h)))
/-- A call that takes a block of its caller's, in a drawn region. -/
theorem DOps.lent (ho : ops[n]? = some o) (hw : Wanted ops s.t o.guard true) {x : Operand} {as : Array Operand} {ts : Array TypeId} (hop : o.op = .call { callee := .value x, args := as, argTypes := ts })
    {g : FuncId} {fi ca : List AV} (hx : aev s.t x = .fn (.func g) fi ca) (hg : Callable P g) {args : List AV} {i : Nat} {X0 : ABlk} {res : AV} (hi : s.h[i]? = some X0) (hX : Lent X0) (H : ACall P g args [X0] fun r _ => LeR r res) (hres : res.bel 0 = true)
    (harg : OneL i (fi ++ as.toList.map (aev s.t) ++ ca) args) (h : DOps P f c0 R ops (n + 1) (sl + 1) rest (fp ++ [([i], [i])]) k ⟨aput s.t o.dst res, s.h.set i .dead⟩) : DOps P f c0 R ops n sl (o :: rest) fp k s :=
  DOps.cons (e := ⟨res, [(i, .dead)], [i]⟩) (StepOk.call ho hw hop hx hg _ fun h' hh => ACall.one (by rw [hh i (by simp)]; exact hi) hX H hres harg ⟨rfl, rfl⟩) h
theorem Ops.lent (hw : Wanted ops s.t o.guard true) {x : Operand} {as : Array Operand} {ts : Array TypeId} (hop : o.op = .call { callee := .value x, args := as, argTypes := ts })
    {g : FuncId} {fi ca : List AV} (hx : aev s.t x = .fn (.func g) fi ca) (hg : Callable P g) {args : List AV} {i : Nat} {X0 : ABlk} {res : AV} (hi : s.h[i]? = some X0) (hX : Lent X0) (H : ACall P g args [X0] fun r _ => LeR r res) (hres : res.bel 0 = true)
    (harg : OneL i (fi ++ as.toList.map (aev s.t) ++ ca) args) (h : Ops P f c0 R ops (n + 1) rest k ⟨aput s.t o.dst res, s.h.set i .dead⟩) : Ops P f c0 R ops n (o :: rest) k s :=
  Ops.call hw hop hx hg (ACall.one hi hX H hres harg h)
end
end Go.Proofs.Ytkamcoechjdgpaa
