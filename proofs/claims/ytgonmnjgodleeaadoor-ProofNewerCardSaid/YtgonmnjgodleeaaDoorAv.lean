/-
  The shadow of a run, its words: values without addresses (AV), what lies in the blocks that a run has made for itself (ABlk). Nothing here speaks of the program.
-/
import Derived.Test.YtgonmnjgodleeaaDoorBase
namespace Go.Proofs.YtgonmnjgodleeaaDoor
open Go.RowKit

/-- Whether a slice may be appended to: not known; or yes (it is full, or a row of the run's own), by the token i. -/
inductive Tk where
  | no
  | own (i : Nat)
/-- A value, as what it reads as. -/
inductive AV where
  | int (k : IntKind) (n : Int)
  | bool (b : Bool)
  | str (s : List UInt8)
  | nilp
  | ptr (i o : Nat)
  | rptr (cs : List AV)
  | sl (k : Nat) (l : List (List AV)) (t : Tk)
  | psl (k : Nat) (l : List (List AV))
  | nils
  | agg (cs : List AV)
  | tup (vs : List AV)
  | fn (f : Fn) (first captured : List AV)
  | nilf
  | iface (t : TypeId) (v : AV)
  | nilI
  | mp (i : Nat)
  | nilm
  | msl (i k o n cap : Nat)
  | msu (i k n : Nat)
  | eptr (i k j o : Nat)
  | cnd (g : Bool) (v : AV)
  | junk
/-- What a block of the run's own holds. -/
inductive ABlk where
  | free
  | dead
  | box (cs : List AV)
  | tok (k n : Nat)
  | rows (k : Nat) (l : List (List AV))
  | map (l : List (AV × AV))
  | iter (m n : Nat) (seen : List Nat)
/-- The value of one cell. -/
def AV.cell : AV → Bool
  | .agg _ | .tup _ | .cnd _ _ | .junk => false
  | _ => true
/-- Of one cell, and nothing in it is of the run's own. -/
def AV.plain : AV → Bool
  | .int _ _ | .bool _ | .str _ | .nilp | .sl _ _ .no | .nils | .nilf | .nilI | .nilm => true
  | _ => false
def AV.cells : AV → List AV
  | .agg cs => cs
  | v => [v]
def ABlk.istok : ABlk → Bool
  | .tok _ _ => true
  | _ => false
def ABlk.isfree : ABlk → Bool
  | .free => true
  | _ => false
def ABlk.live : ABlk → Bool
  | .free | .dead => false
  | _ => true

/-- Where the run's own blocks lie, what they hold, the world, and which old cells are a caller's own. -/
structure Cx where
  ρ : Nat → Option Nat
  h : List ABlk
  w : World
  X : Nat → Nat → Prop
/-- May this cell of such a block be read for good? -/
def ABlk.fix (o : Nat) : ABlk → Prop
  | .free | .dead => True
  | .tok k n => o < n * k
  | _ => False
/-- A cell that no one writes any more. -/
def Cx.im (c : Cx) (b o : Nat) : Prop := b < c.w.heap.size ∧ ¬ c.X b o ∧ ∀ i x, c.h[i]? = some x → c.ρ i = some b → x.fix o
/-- A block that may be written. -/
def Cx.mutb (c : Cx) (b : Nat) : Prop := ∃ i x, c.h[i]? = some x ∧ x.live = true ∧ c.ρ i = some b
/-- A block that is there, by its number. -/
def Cx.known (c : Cx) (i : Nat) : Prop := ∃ x, c.h[i]? = some x ∧ x.isfree = false
/-- What is known of a slice that may be appended to. -/
def TkOk (c : Cx) (A : Option Addr) (n cap k : Nat) : Tk → Prop
  | .no => True
  | .own i => c.known i ∧ ∀ k' n', c.h[i]? = some (.tok k' n') → k' = k ∧ n ≤ n' ∧ (n' = n → cap = n ∨ ∃ b vs e, c.ρ i = some b ∧ A = some ⟨b, 0, none⟩ ∧ c.w.heap[b]? = some (.cells vs e (0, 0)) ∧ vs.size = cap * k ∧ 0 < n)
/-- A value reads as. -/
inductive RV (c : Cx) : Value → AV → Prop where
  | int (k : IntKind) (n : Int) : RV c (.int k n) (.int k n)
  | bool (b : Bool) : RV c (.bool b) (.bool b)
  | str (s : ByteArray) (l : List UInt8) (h : s.data.toList = l) : RV c (.string s) (.str l)
  | nilp : RV c (.pointer none) .nilp
  | ptr (i o b : Nat) (hk : c.known i) (hb : c.ρ i = some b) (ht : ∀ x, c.h[i]? = some x → x.istok = false) : RV c (.pointer (some ⟨b, o, none⟩)) (.ptr i o)
  | rptr (cs : List AV) (b o : Nat) (vs : Nat → Value) (hc : ∀ (i : Nat) a, cs[i]? = some a → a.cell = true ∧ c.im b (o + i) ∧ c.w.cell? ⟨b, o + i, none⟩ = some (vs i))
      (hr : ∀ (i : Nat) a, cs[i]? = some a → RV c (vs i) a) : RV c (.pointer (some ⟨b, o, none⟩)) (.rptr cs)
  | sl (k : Nat) (l : List (List AV)) (t : Tk) (A : Option Addr) (n cap b o : Nat) (vs : Nat → Nat → Value) (hn : l.length = n) (hcap : n ≤ cap) (hm : cap ≤ maxLen) (hA : l ≠ [] → A = some ⟨b, o, none⟩)
      (hk : ∀ (j : Nat) e, l[j]? = some e → e.length = k)
      (hc : ∀ (j : Nat) e (i : Nat) a, l[j]? = some e → e[i]? = some a → a.plain = true ∧ c.im b (o + j * k + i) ∧ c.w.cell? ⟨b, o + j * k + i, none⟩ = some (vs j i))
      (hr : ∀ (j : Nat) e (i : Nat) a, l[j]? = some e → e[i]? = some a → RV c (vs j i) a)
      (ht : TkOk c A n cap k t) : RV c (.slice A n cap) (.sl k l t)
  | psl (k : Nat) (l : List (List AV)) (A : Option Addr) (n cap b o : Nat) (vs : Nat → Nat → Value) (hn : l.length = n) (hcap : n ≤ cap) (hm : cap ≤ maxLen) (hA : l ≠ [] → A = some ⟨b, o, none⟩)
      (hk : ∀ (j : Nat) e, l[j]? = some e → e.length = k)
      (hc : ∀ (j : Nat) e (i : Nat) a, l[j]? = some e → e[i]? = some a → a.cell = true ∧ c.im b (o + j * k + i) ∧ c.w.cell? ⟨b, o + j * k + i, none⟩ = some (vs j i))
      (hr : ∀ (j : Nat) e (i : Nat) a, l[j]? = some e → e[i]? = some a → RV c (vs j i) a) : RV c (.slice A n cap) (.psl k l)
  | nils : RV c (.slice none 0 0) .nils
  | agg (vs : Array Value) (cs : List AV) (hs : vs.size = cs.length) (hc : ∀ (i : Nat) a, cs[i]? = some a → a.cell = true) (hr : ∀ (i : Nat) v a, vs[i]? = some v → cs[i]? = some a → RV c v a) : RV c (.agg vs) (.agg cs)
  | tup (vs : Array Value) (cs : List AV) (hs : vs.size = cs.length) (hr : ∀ (i : Nat) v a, vs[i]? = some v → cs[i]? = some a → RV c v a) : RV c (.tuple vs) (.tup cs)
  | fn (f : Fn) (v1 v2 : Array Value) (a1 a2 : List AV) (h1 : v1.size = a1.length) (h2 : v2.size = a2.length) (r1 : ∀ (i : Nat) v a, v1[i]? = some v → a1[i]? = some a → RV c v a) (r2 : ∀ (i : Nat) v a, v2[i]? = some v → a2[i]? = some a → RV c v a) : RV c (.func f v1 v2) (.fn f a1 a2)
  | nilf : RV c .nilFunc .nilf
  | iface (t : TypeId) (v : Value) (a : AV) (h : RV c v a) : RV c (.iface t v) (.iface t a)
  | nilI : RV c .nilIface .nilI
  | mp (i b : Nat) (hk : c.known i) (hb : c.ρ i = some b) (ht : ∀ x, c.h[i]? = some x → x.istok = false) : RV c (.map (some b)) (.mp i)
  | nilm : RV c (.map none) .nilm
  | msl (i k o n cap b o' : Nat) (hk : c.known i) (hb : c.ρ i = some b) (ht : ∀ x, c.h[i]? = some x → x.istok = false) (hcap : n ≤ cap) (hm : cap ≤ maxLen) (ho : 0 < cap → o' = o * k) : RV c (.slice (some ⟨b, o', none⟩) n cap) (.msl i k o n cap)
  | msu (i k n cap b : Nat) (hk : c.known i) (hb : c.ρ i = some b) (ht : ∀ x, c.h[i]? = some x → x.istok = false) (hcap : n ≤ cap) (hm : cap ≤ maxLen) (hs : ∃ vs e f, c.w.heap[b]? = some (.cells vs e f) ∧ cap * k ≤ vs.size) : RV c (.slice (some ⟨b, 0, none⟩) n cap) (.msu i k n)
  | eptr (i k j o b : Nat) (hk : c.known i) (hb : c.ρ i = some b) (ht : ∀ x, c.h[i]? = some x → x.istok = false) : RV c (.pointer (some ⟨b, j * k + o, none⟩)) (.eptr i k j o)
  | cnd (g : Bool) (v : Value) (a : AV) (h : g = true → RV c v a) : RV c v (.cnd g a)
  | junk (v : Value) : RV c v .junk
/-- A block of the run's own is as it should be. -/
def BlkOk (c : Cx) (i : Nat) : ABlk → Prop
  | .free => c.ρ i = none
  | .dead => True
  | .box cs => ∃ b vs e, c.ρ i = some b ∧ c.w.heap[b]? = some (.cells vs e (0, 0)) ∧ vs.size = cs.length ∧ ∀ (j : Nat) a, cs[j]? = some a → a.cell = true ∧ ∃ v, vs[j]? = some v ∧ RV c v a
  | .tok _ _ => ∀ b, c.ρ i = some b → ∃ vs e, c.w.heap[b]? = some (.cells vs e (0, 0))
  | .rows k l => ∃ b vs e, c.ρ i = some b ∧ c.w.heap[b]? = some (.cells vs e (0, 0)) ∧ (∀ (j : Nat) x, l[j]? = some x → x.length = k) ∧
      ∀ (j : Nat) x (m : Nat) a, l[j]? = some x → x[m]? = some a → ∃ v, vs[j * k + m]? = some v ∧ RV c v a
  | .map l => ∃ b es, c.ρ i = some b ∧ c.w.heap[b]? = some (.map es l.length) ∧ es.size = l.length ∧ ∀ (j : Nat) e p, es[j]? = some e → l[j]? = some p → e.born = j ∧ RV c e.key p.1 ∧ RV c e.val p.2
  | .iter m n seen => ∃ b mb sa, c.ρ i = some b ∧ c.w.heap[b]? = some (.mapIter (some mb) n sa n) ∧ sa.toList = seen ∧ RV c (.map (some mb)) (.mp m)
/-- The blocks are as they should be. -/
structure RelH (c : Cx) : Prop where
  inj : ∀ (i j : Nat) x y b, c.h[i]? = some x → c.h[j]? = some y → x.live = true → y.live = true → c.ρ i = some b → c.ρ j = some b → i = j
  here : ∀ (i : Nat) x b, c.h[i]? = some x → c.ρ i = some b → b < c.w.heap.size
  blk : ∀ (i : Nat) x, c.h[i]? = some x → BlkOk c i x
  xs : ∀ b o, c.X b o → b < c.w.heap.size ∧ ∀ (i : Nat) x, c.h[i]? = some x → x.live = true → c.ρ i ≠ some b
/-- How a run goes on from a state of its blocks to another. -/
structure Ev (c c' : Cx) : Prop where
  os : c'.w.os = c.w.os
  tape : c'.w.tape = c.w.tape
  output : c'.w.output = c.w.output
  size : c.w.heap.size ≤ c'.w.heap.size
  x : c'.X = c.X
  im : ∀ b o, c.im b o → c'.im b o ∧ c'.w.cell? ⟨b, o, none⟩ = c.w.cell? ⟨b, o, none⟩
  fr : ∀ b, b < c.w.heap.size → ¬ c.mutb b → c'.w.heap[b]? = c.w.heap[b]? ∧ ¬ c'.mutb b
  len : c.h.length ≤ c'.h.length
  id : ∀ (i : Nat) x, c.h[i]? = some x → x.isfree = false → ∃ y, c'.h[i]? = some y ∧ y.isfree = false ∧ (x.istok = false → y.istok = false ∧ c'.ρ i = c.ρ i) ∧
    ∀ k n', y = .tok k n' → ∃ n, x = .tok k n ∧ (n < n' ∨ (n = n' ∧ c'.ρ i = c.ρ i ∧ ∀ b, c.ρ i = some b → c'.w.heap[b]? = c.w.heap[b]?))
  keep : ∀ (b : Nat) vs e f, c.w.heap[b]? = some (.cells vs e f) → ∃ vs', c'.w.heap[b]? = some (.cells vs' e f) ∧ vs'.size = vs.size
theorem Ev.refl (c : Cx) : Ev c c := ⟨rfl, rfl, rfl, Nat.le_refl _, rfl, fun _ _ h => ⟨h, rfl⟩, fun _ _ h => ⟨rfl, h⟩, Nat.le_refl _, fun _ x h hf => ⟨x, h, hf, fun ht => ⟨ht, rfl⟩, fun _ n e => ⟨n, e, .inr ⟨rfl, rfl, fun _ _ => rfl⟩⟩⟩, fun _ vs _ _ h => ⟨vs, h, rfl⟩⟩
/-- Cells that are there stay as many. -/
theorem keep_old {w w' : World} (h : ∀ b, b < w.heap.size → w'.heap[b]? = w.heap[b]?) : ∀ (b : Nat) vs e f, w.heap[b]? = some (.cells vs e f) → ∃ vs', w'.heap[b]? = some (.cells vs' e f) ∧ vs'.size = vs.size :=
  fun b vs e f hb => ⟨vs, by rw [h b (Array.getElem?_eq_some_iff.1 hb).1]; exact hb, rfl⟩
theorem Ev.trans {a b c : Cx} (h : Ev a b) (k : Ev b c) : Ev a c := by
  refine ⟨k.os.trans h.os, k.tape.trans h.tape, k.output.trans h.output, Nat.le_trans h.size k.size, k.x.trans h.x, fun b o hi => ?_, fun b hb hm => ?_, Nat.le_trans h.len k.len, fun i x hx hf => ?_, fun b vs e f h0 => ?_⟩
  · obtain ⟨h1, h2⟩ := h.im b o hi
    obtain ⟨h3, h4⟩ := k.im b o h1
    exact ⟨h3, h4.trans h2⟩
  · obtain ⟨h1, h2⟩ := h.fr b hb hm
    obtain ⟨h3, h4⟩ := k.fr b (Nat.lt_of_lt_of_le hb h.size) h2
    exact ⟨h3.trans h1, h4⟩
  · obtain ⟨y, hy, hyf, h1, h2⟩ := h.id i x hx hf
    obtain ⟨z, hz, hzf, h3, h4⟩ := k.id i y hy hyf
    refine ⟨z, hz, hzf, fun ht => ?_, fun kk n' e => ?_⟩
    · obtain ⟨g1, g2⟩ := h1 ht
      obtain ⟨g3, g4⟩ := h3 g1
      exact ⟨g3, g4.trans g2⟩
    · obtain ⟨n1, e1, g1⟩ := h4 kk n' e
      obtain ⟨n0, e0, g0⟩ := h2 kk n1 e1
      refine ⟨n0, e0, ?_⟩
      rcases g0 with g0 | ⟨rfl, g01, g02⟩ <;> rcases g1 with g1 | ⟨rfl, g11, g12⟩
      · exact .inl (by omega)
      · exact .inl g0
      · exact .inl g1
      · refine .inr ⟨rfl, g11.trans g01, fun b hb => ?_⟩
        rw [g12 b (g01.trans hb), g02 b hb]
  · obtain ⟨v1, q1, q2⟩ := h.keep b vs e f h0
    obtain ⟨v2, q3, q4⟩ := k.keep b v1 e f q1
    exact ⟨v2, q3, q4.trans q2⟩
theorem Ev.known {c c' : Cx} (h : Ev c c') {i : Nat} (hk : c.known i) : c'.known i := by
  obtain ⟨x, hx, hf⟩ := hk
  obtain ⟨y, hy, hyf, _⟩ := h.id i x hx hf
  exact ⟨y, hy, hyf⟩
theorem TkOk.mono {c c' : Cx} (h : Ev c c') {A : Option Addr} {n cap k : Nat} {t : Tk} (ht : TkOk c A n cap k t) : TkOk c' A n cap k t := by
  cases t with
  | no => trivial
  | own i =>
    obtain ⟨hk, ht⟩ := ht
    refine ⟨h.known hk, fun k' n' e => ?_⟩
    obtain ⟨x, hx, hf⟩ := hk
    obtain ⟨y, hy, hyf, _, h2⟩ := h.id i x hx hf
    rw [e] at hy
    obtain rfl := Option.some.inj hy
    obtain ⟨n0, rfl, g⟩ := h2 k' n' rfl
    obtain ⟨g1, g2, g3⟩ := ht k' n0 hx
    rcases g with g | ⟨rfl, g4, g5⟩
    · exact ⟨g1, by omega, fun e => by omega⟩
    · refine ⟨g1, g2, fun e => ?_⟩
      rcases g3 e with g3 | ⟨b, vs, e, q1, q2, q3, q4⟩
      · exact .inl g3
      · exact .inr ⟨b, vs, e, g4.trans q1, q2, (g5 b q1).trans q3, q4⟩
theorem RV.mono {c c' : Cx} (h : Ev c c') {v : Value} {a : AV} (hr : RV c v a) : RV c' v a := by
  have hid : ∀ (i b : Nat), c.known i → c.ρ i = some b → (∀ x, c.h[i]? = some x → x.istok = false) → c'.known i ∧ c'.ρ i = some b ∧ ∀ x, c'.h[i]? = some x → x.istok = false := by
    intro i b hk hb ht
    refine ⟨h.known hk, ?_⟩
    obtain ⟨x, hx, hf⟩ := hk
    obtain ⟨y, hy, hyf, h1, _⟩ := h.id i x hx hf
    obtain ⟨g1, g2⟩ := h1 (ht x hx)
    refine ⟨g2.trans hb, fun z hz => ?_⟩
    rw [hy] at hz
    obtain rfl := Option.some.inj hz
    exact g1
  induction hr with
  | int k n => exact .int k n
  | bool b => exact .bool b
  | str s l h => exact .str s l h
  | nilp => exact .nilp
  | ptr i o b hk hb ht => obtain ⟨g1, g2, g3⟩ := hid i b hk hb ht; exact .ptr i o b g1 g2 g3
  | rptr cs b o vs hc _ ih =>
    refine .rptr cs b o vs (fun i a ha => ?_) (fun i a ha => ih i a ha)
    obtain ⟨h1, h2, h3⟩ := hc i a ha
    obtain ⟨g1, g2⟩ := h.im _ _ h2
    exact ⟨h1, g1, g2.trans h3⟩
  | sl k l t A n cap b o vs hn hcap hm hA hk hc _ ht ih =>
    refine .sl k l t A n cap b o vs hn hcap hm hA hk (fun j e i a he ha => ?_) (fun j e i a he ha => ih j e i a he ha) (ht.mono h)
    obtain ⟨h1, h2, h3⟩ := hc j e i a he ha
    obtain ⟨g1, g2⟩ := h.im _ _ h2
    exact ⟨h1, g1, g2.trans h3⟩
  | psl k l A n cap b o vs hn hcap hm hA hk hc _ ih =>
    refine .psl k l A n cap b o vs hn hcap hm hA hk (fun j e i a he ha => ?_) (fun j e i a he ha => ih j e i a he ha)
    obtain ⟨h1, h2, h3⟩ := hc j e i a he ha
    obtain ⟨g1, g2⟩ := h.im _ _ h2
    exact ⟨h1, g1, g2.trans h3⟩
  | nils => exact .nils
  | agg vs cs hs hc _ ih => exact .agg vs cs hs hc ih
  | tup vs cs hs _ ih => exact .tup vs cs hs ih
  | fn f v1 v2 a1 a2 h1 h2 _ _ r1 r2 => exact .fn f v1 v2 a1 a2 h1 h2 r1 r2
  | nilf => exact .nilf
  | iface t v a _ ih => exact .iface t v a ih
  | nilI => exact .nilI
  | mp i b hk hb ht => obtain ⟨g1, g2, g3⟩ := hid i b hk hb ht; exact .mp i b g1 g2 g3
  | nilm => exact .nilm
  | msl i k o n cap b o' hk hb ht h1 h2 h3 => obtain ⟨g1, g2, g3⟩ := hid i b hk hb ht; exact .msl i k o n cap b o' g1 g2 g3 h1 h2 h3
  | msu i k n cap b hk hb ht h1 h2 h3 =>
    obtain ⟨g1, g2, g3⟩ := hid i b hk hb ht
    obtain ⟨vs, e, f, q1, q2⟩ := h3
    obtain ⟨vs', q3, q4⟩ := h.keep b vs e f q1
    exact .msu i k n cap b g1 g2 g3 h1 h2 ⟨vs', e, f, q3, by rw [q4]; exact q2⟩
  | eptr i k j o b hk hb ht => obtain ⟨g1, g2, g3⟩ := hid i b hk hb ht; exact .eptr i k j o b g1 g2 g3
  | cnd g v a _ ih => exact .cnd g v a ih
  | junk v => exact .junk v
theorem AV.plain_cell {a : AV} (h : a.plain = true) : a.cell = true := by cases a <;> first | rfl | cases h
theorem BlkOk.mono {c c' : Cx} (h : Ev c c') {i : Nat} {x : ABlk} (hρ : c'.ρ i = c.ρ i) (hw : ∀ b, x.live = true → c.ρ i = some b → c'.w.heap[b]? = c.w.heap[b]?) (hx : BlkOk c i x) : BlkOk c' i x := by
  cases x with
  | free => exact hρ.trans hx
  | dead => trivial
  | box cs =>
    obtain ⟨b, vs, e, h1, h2, h3, h4⟩ := hx
    refine ⟨b, vs, e, hρ.trans h1, (hw b rfl h1).trans h2, h3, fun j a ha => ?_⟩
    obtain ⟨g1, v, g2, g3⟩ := h4 j a ha
    exact ⟨g1, v, g2, g3.mono h⟩
  | tok k n =>
    intro b hb
    obtain ⟨vs, e, h1⟩ := hx b (hρ.symm.trans hb)
    exact ⟨vs, e, (hw b rfl (hρ.symm.trans hb)).trans h1⟩
  | rows k l =>
    obtain ⟨b, vs, e, h1, h2, h3, h4⟩ := hx
    refine ⟨b, vs, e, hρ.trans h1, (hw b rfl h1).trans h2, h3, fun j x m a hx ha => ?_⟩
    obtain ⟨v, g2, g3⟩ := h4 j x m a hx ha
    exact ⟨v, g2, g3.mono h⟩
  | map l =>
    obtain ⟨b, es, h1, h2, h3, h4⟩ := hx
    refine ⟨b, es, hρ.trans h1, (hw b rfl h1).trans h2, h3, fun j e p he hp => ?_⟩
    obtain ⟨g0, g1, g2⟩ := h4 j e p he hp
    exact ⟨g0, g1.mono h, g2.mono h⟩
  | iter m n seen =>
    obtain ⟨b, mb, sa, h1, h2, h3, h4⟩ := hx
    exact ⟨b, mb, sa, hρ.trans h1, (hw b rfl h1).trans h2, h3, h4.mono h⟩
end Go.Proofs.YtgonmnjgodleeaaDoor
