/-
  Words for memory: how cells read as a thing (Rep); a slice that reads as a list (Sl); a row of the call's own (Own); append. Nothing here speaks of the program.
-/
import Derived.Test.YtgonmnjgodleeaaDoorBase
import Derived.Deep.Slices
import Derived.Deep.AppendLies
import Derived.Laws.OwnMore
import Derived.Laws.AppendOwnNone
import Derived.Maps.AppendAt
namespace Go.Proofs.YtgonmnjgodleeaaDoor
open Go.ChangeShapes Go.WideShapes Go.ChangeAt Go.RowKit Go.Deep

/-- How cells read as a thing, in a world, where what they lead to lies below block B. -/
structure Rep (α : Type) where
  at_ : Nat → World → List Value → α → Prop
  mono : ∀ {B B' w cs a}, B ≤ B' → at_ B w cs a → at_ B' w cs a
  stable : ∀ {B w w' cs a}, Below B w w' → at_ B w cs a → at_ B w' cs a

/-- A thing that lies in its cells alone. -/
def plR {α : Type} (p : List Value → α → Prop) : Rep α := ⟨fun _ _ => p, fun _ h => h, fun _ h => h⟩
def intR (k : IntKind) : Rep Int := plR fun cs n => cs = [.int k n] ∧ (Lit.int k n).wf = true
def boolR : Rep Bool := plR fun cs b => cs = [.bool b]
def strR : Rep ByteArray := plR fun cs s => cs = [.string s] ∧ s.size ≤ maxLen
/-- A byte as a cell. -/
def byteV (c : UInt8) : Value := .int .u8 c.toNat
def byteR : Rep UInt8 := plR fun cs c => cs = [byteV c]

/-- The m elements at A, k cells each, are these cells. -/
def RdC (w : World) (k : Nat) (A : Option Addr) (m : Nat) (xs : List Value) : Prop :=
  xs.length = m * k ∧ (0 < m → ∃ b o, A = some ⟨b, o, none⟩ ∧ ∀ j u, xs[j]? = some u → w.cell? ⟨b, o + j, none⟩ = some u)
/-- These cells, k for each, read as l. -/
def Cs {α : Type} (R : Rep α) (k B : Nat) (w : World) (xs : List Value) (l : List α) : Prop :=
  xs.length = l.length * k ∧ ∀ (j : Nat) a, l[j]? = some a → R.at_ B w ((xs.drop (j * k)).take k) a
/-- The slice at A reads as l. -/
def Sl {α : Type} (R : Rep α) (k B : Nat) (w : World) (A : Option Addr) (l : List α) : Prop :=
  l ≠ [] → ∃ b o, A = some ⟨b, o, none⟩ ∧ b < B ∧ ∀ (j : Nat) a, l[j]? = some a → ∃ cs, cs.length = k ∧ R.at_ B w cs a ∧ ∀ i u, cs[i]? = some u → w.cell? ⟨b, o + j * k + i, none⟩ = some u
/-- A row of the call's own (its block is from base on) that reads as l. -/
def Own {α : Type} (R : Rep α) (k : Nat) (e : TypeId) (base B : Nat) (w : World) (v : Value) (l : List α) : Prop :=
  ∃ xs, w.ownsRow base e k v l.length xs ∧ Cs R k B w xs l

section
variable {α : Type} {R : Rep α} {k B B' : Nat} {w w' : World} {A : Option Addr} {l l2 : List α}
theorem Sl.nil : Sl R k B w A [] := fun h => absurd rfl h
theorem Sl.mono (h : Sl R k B w A l) (hB : B ≤ B') : Sl R k B' w A l := fun hn => by
  obtain ⟨b, o, rfl, hlt, hc⟩ := h hn
  refine ⟨b, o, rfl, Nat.lt_of_lt_of_le hlt hB, fun j a hj => ?_⟩
  obtain ⟨cs, hl, hr, hcs⟩ := hc j a hj
  exact ⟨cs, hl, R.mono hB hr, hcs⟩
theorem Sl.below (h : Sl R k B w A l) (hb : Below B w w') : Sl R k B w' A l := fun hn => by
  obtain ⟨b, o, rfl, hlt, hc⟩ := h hn
  refine ⟨b, o, rfl, hlt, fun j a hj => ?_⟩
  obtain ⟨cs, hl, hr, hcs⟩ := hc j a hj
  exact ⟨cs, hl, R.stable hb hr, fun i u hu => (hb.cell (p := ⟨b, _, none⟩) hlt).trans (hcs i u hu)⟩
/-- Behind a call. -/
theorem Sl.call (h : Sl R k w.heap.size w A l) (hb : Below w.heap.size w w') : Sl R k w'.heap.size w' A l := (h.below hb).mono hb.size
/-- A slice's one cell. -/
def slR (R : Rep α) (k : Nat) : Rep (List α) :=
  ⟨fun B w cs l => ∃ A c, cs = [.slice A l.length c] ∧ l.length ≤ c ∧ c ≤ maxLen ∧ Sl R k B w A l,
   fun hB ⟨A, c, h1, h2, h3, h4⟩ => ⟨A, c, h1, h2, h3, h4.mono hB⟩, fun hb ⟨A, c, h1, h2, h3, h4⟩ => ⟨A, c, h1, h2, h3, h4.below hb⟩⟩
/-- An element of k cells. -/
theorem Sl.get (h : Sl R k B w A l) {i : Nat} {a : α} (hi : l[i]? = some a) :
    ∃ b o cs, A = some ⟨b, o, none⟩ ∧ b < B ∧ cs.length = k ∧ R.at_ B w cs a ∧ ∀ j u, cs[j]? = some u → w.cell? ⟨b, o + i * k + j, none⟩ = some u := by
  obtain ⟨b, o, rfl, hlt, hc⟩ := h (by rintro rfl; simp at hi)
  obtain ⟨cs, hl, hr, hcs⟩ := hc i a hi
  exact ⟨b, o, cs, rfl, hlt, hl, hr, hcs⟩
/-- An element of one cell. -/
theorem Sl.get1 (h : Sl R 1 B w A l) {i : Nat} {a : α} (hi : l[i]? = some a) :
    ∃ b o v, A = some ⟨b, o, none⟩ ∧ b < B ∧ R.at_ B w [v] a ∧ w.cell? ⟨b, o + i, none⟩ = some v := by
  obtain ⟨b, o, cs, rfl, hlt, hl, hr, hcs⟩ := h.get hi
  match cs, hl with
  | [v], _ => exact ⟨b, o, v, rfl, hlt, hr, by simpa using hcs 0 v rfl⟩
theorem Sl.take (h : Sl R k B w A l) (n : Nat) : Sl R k B w A (l.take n) := fun hn => by
  obtain ⟨b, o, rfl, hlt, hc⟩ := h (by rintro rfl; simp at hn)
  refine ⟨b, o, rfl, hlt, fun j a hj => hc j a ?_⟩
  rw [List.getElem?_take] at hj
  split at hj
  · exact hj
  · cases hj
theorem Sl.drop {b o : Nat} (h : Sl R k B w (some ⟨b, o, none⟩) l) (n : Nat) : Sl R k B w (some ⟨b, o + n * k, none⟩) (l.drop n) := fun hn => by
  obtain ⟨b', o', he, hlt, hc⟩ := h (by rintro rfl; simp at hn)
  simp only [Option.some.injEq, Addr.mk.injEq, and_true] at he
  obtain ⟨rfl, rfl⟩ := he
  refine ⟨b, _, rfl, hlt, fun j a hj => ?_⟩
  rw [List.getElem?_drop] at hj
  obtain ⟨cs, hl, hr, hcs⟩ := hc _ a hj
  refine ⟨cs, hl, hr, fun i u hu => ?_⟩
  rw [← hcs i u hu]
  congr 2
  rw [Nat.add_mul]
  omega

theorem below_both {B : Nat} {w a b : World} (h : Below B w a) (h' : Below B w b) (hs : a.heap.size ≤ b.heap.size) : Below B a b :=
  ⟨h'.os.trans h.os.symm, h'.tape.trans h.tape.symm, h'.output.trans h.output.symm, hs, fun k hk => (h'.block k hk).trans (h.block k hk).symm⟩

/-! ### cells -/
theorem Cs.nil : Cs R k B w [] ([] : List α) := ⟨by simp, fun j a h => by simp at h⟩
theorem Cs.mono {xs : List Value} (h : Cs R k B w xs l) (hB : B ≤ B') : Cs R k B' w xs l := ⟨h.1, fun j a hj => R.mono hB (h.2 j a hj)⟩
theorem Cs.below {xs : List Value} (h : Cs R k B w xs l) (hb : Below B w w') : Cs R k B w' xs l := ⟨h.1, fun j a hj => R.stable hb (h.2 j a hj)⟩
theorem Cs.append {xs ys : List Value} (h : Cs R k B w xs l) (h2 : Cs R k B w ys l2) : Cs R k B w (xs ++ ys) (l ++ l2) := by
  refine ⟨by simp [h.1, h2.1, Nat.add_mul], fun j a hj => ?_⟩
  rw [List.getElem?_append] at hj
  split at hj
  · rename_i hlt
    have := h.2 j a hj
    have hle : (j + 1) * k ≤ l.length * k := Nat.mul_le_mul_right k hlt
    rw [Nat.add_mul, ← h.1] at hle
    rw [List.drop_append_of_le_length (by omega), List.take_append_of_le_length (by rw [List.length_drop]; omega)]
    exact this
  · rename_i hge
    have := h2.2 _ a hj
    have hle : l.length * k ≤ j * k := Nat.mul_le_mul_right k (by omega)
    rw [List.drop_append, List.drop_eq_nil_of_le (by rw [h.1]; exact hle), List.nil_append, h.1, ← Nat.sub_mul]
    exact this
theorem Cs.one {xs : List Value} {a : α} (hl : xs.length = k) (h : R.at_ B w xs a) : Cs R k B w xs [a] := by
  refine ⟨by simp [hl], fun j b hj => ?_⟩
  match j, hj with
  | 0, hj =>
    simp at hj
    subst hj
    rw [Nat.zero_mul, List.drop_zero, List.take_of_length_le (by omega)]
    exact h
theorem Sl.cells (h : Sl R k B w A l) : ∃ xs, RdC w k A l.length xs ∧ Cs R k B w xs l := by
  by_cases hn : l = []
  · subst hn
    exact ⟨[], ⟨by simp, fun h => absurd h (by simp)⟩, Cs.nil⟩
  · obtain ⟨b, o, rfl, hlt, hc⟩ := h hn
    have key : ∀ n, n ≤ l.length → ∃ xs : List Value, xs.length = n * k ∧ (∀ j u, xs[j]? = some u → w.cell? ⟨b, o + j, none⟩ = some u) ∧ Cs R k B w xs (l.take n) := by
      intro n
      induction n with
      | zero => exact fun _ => ⟨[], by simp, fun j u h => by simp at h, by simpa using Cs.nil⟩
      | succ n ih =>
        intro hn'
        obtain ⟨xs, hx, hcell, hcs⟩ := ih (by omega)
        have hget : l[n]? = some l[n] := List.getElem?_eq_getElem (by omega)
        obtain ⟨cs, hl, hr, hcc⟩ := hc n _ hget
        refine ⟨xs ++ cs, by rw [List.length_append, hx, hl, Nat.add_mul]; omega, fun j u hj => ?_, ?_⟩
        · rw [List.getElem?_append] at hj
          split at hj
          · exact hcell j u hj
          · rename_i hge
            have := hcc _ u hj
            rw [hx] at this hge
            rw [← this]
            congr 2
            omega
        · rw [List.take_add_one, hget]
          exact hcs.append (Cs.one hl hr)
    obtain ⟨xs, hx, hcell, hcs⟩ := key l.length (Nat.le_refl _)
    rw [List.take_length] at hcs
    exact ⟨xs, ⟨hx, fun _ => ⟨b, o, rfl, hcell⟩⟩, hcs⟩
theorem RdC.sl {xs : List Value} (hr : RdC w k A l.length xs) (hc : Cs R k B w xs l) (hA : ∀ b o, A = some ⟨b, o, none⟩ → b < B) : Sl R k B w A l := fun hn => by
  obtain ⟨b, o, rfl, hcell⟩ := hr.2 (List.length_pos_iff.2 hn)
  refine ⟨b, o, rfl, hA b o rfl, fun j a hj => ⟨_, ?_, hc.2 j a hj, fun i u hu => ?_⟩⟩
  · have hjl : j < l.length := (List.getElem?_eq_some_iff.1 hj).1
    have : (j + 1) * k ≤ l.length * k := Nat.mul_le_mul_right k hjl
    rw [Nat.add_mul, ← hc.1] at this
    simp only [List.length_take, List.length_drop]
    omega
  · rw [List.getElem?_take] at hu
    split at hu
    · rw [List.getElem?_drop] at hu
      rw [Nat.add_assoc]
      exact hcell _ u hu
    · cases hu
theorem RdC.below {m : Nat} {xs : List Value} (h : RdC w k A m xs) (hk : ∀ p : Addr, p.block < B → w'.cell? p = w.cell? p) (hA : ∀ b o, A = some ⟨b, o, none⟩ → b < B) : RdC w' k A m xs :=
  ⟨h.1, fun hm => by
    obtain ⟨b, o, rfl, hc⟩ := h.2 hm
    exact ⟨b, o, rfl, fun j u hu => (hk ⟨b, o + j, none⟩ (hA b o rfl)).trans (hc j u hu)⟩⟩

/-! ### rows of the call's own -/
variable {e : TypeId} {base : Nat} {v : Value}
theorem Own.nil (w : World) : Own R k e base B w (.slice none 0 0) ([] : List α) := ⟨[], World.ownsRow_nil _ _ _ _, Cs.nil⟩
theorem Own.alloc (h : Own R k e base B w v l) (hB : B ≤ w.heap.size) (o : Obj) : Own R k e base B (w.alloc o) v l := by
  obtain ⟨xs, h1, h2⟩ := h
  exact ⟨xs, h1.alloc o, h2.below ((Below.refl _ _).alloc hB o)⟩
theorem Own.drew (h : Own R k e base B w v l) : Own R k e base B w.drew v l := by
  obtain ⟨xs, h1, h2⟩ := h
  exact ⟨xs, h1, h2.below (Below.refl _ _).drew⟩
theorem Own.drewN (h : Own R k e base B w v l) (n : Nat) : Own R k e base B (w.drewN n) v l := by
  obtain ⟨xs, h1, h2⟩ := h
  exact ⟨xs, h1, h2.below (below_drewN (Below.refl _ _) n)⟩
/-- Behind a call. -/
theorem Own.call (h : Own R k e base B w v l) (hB : B ≤ w.heap.size) (hb : Below w.heap.size w w') : Own R k e base B w' v l := by
  obtain ⟨xs, h1, h2⟩ := h
  exact ⟨xs, h1.kept (row := none) ⟨hb.os, hb.tape, hb.output, hb.size, fun i hi _ => hb.block i hi⟩ (by cases hv : v.ownBlock <;> simp), h2.below (hb.mono hB)⟩
theorem Own.low (h : Own R k e base B w v l) {base' : Nat} (hb : base' ≤ base) : Own R k e base' B w v l := by
  obtain ⟨xs, ⟨h1, h2⟩, h3⟩ := h
  refine ⟨xs, ⟨h1, ?_⟩, h3⟩
  rcases h2 with h2 | ⟨g, cap, cur, hv, hg, r⟩
  · exact .inl h2
  · exact .inr ⟨g, cap, cur, hv, Nat.le_trans hb hg, r⟩
theorem Own.monoB (h : Own R k e base B w v l) (hB : B ≤ B') : Own R k e base B' w v l := by
  obtain ⟨xs, h1, h3⟩ := h
  exact ⟨xs, h1, h3.mono hB⟩
theorem Own.form (h : Own R k e base B w v l) : ∃ A c, v = .slice A l.length c ∧ l.length ≤ c ∧ c ≤ maxLen ∧ (A = none ∨ ∃ g, A = some ⟨g, 0, none⟩ ∧ base ≤ g ∧ g < w.heap.size) := by
  obtain ⟨xs, ⟨h1, h2⟩, _⟩ := h
  rcases h2 with ⟨rfl, h0⟩ | ⟨g, cap, cur, rfl, hg, hh, hnc, hm, _⟩
  · exact ⟨none, 0, by rw [h0], by omega, Nat.zero_le _, .inl rfl⟩
  · exact ⟨_, cap, rfl, hnc, hm, .inr ⟨g, rfl, hg, (Array.getElem?_eq_some_iff.1 hh).1⟩⟩
theorem Own.rdc (h : Own R k e base B w v l) : ∃ A c xs, v = .slice A l.length c ∧ l.length ≤ c ∧ c ≤ maxLen ∧ RdC w k A l.length xs ∧ Cs R k B w xs l ∧ (A = none ∨ ∃ g, A = some ⟨g, 0, none⟩ ∧ base ≤ g ∧ g < w.heap.size) := by
  obtain ⟨A, c, rfl, hc, hm, hA⟩ := h.form
  obtain ⟨xs, h1, h3⟩ := h
  refine ⟨A, c, xs, rfl, hc, hm, ⟨h1.1, fun hp => ?_⟩, h3, hA⟩
  obtain ⟨g, cap, hv, _, _⟩ := h1.form hp
  simp only [Value.slice.injEq, true_and] at hv
  obtain ⟨rfl, rfl⟩ := hv
  refine ⟨g, 0, rfl, fun j u hu => ?_⟩
  have hj : j < l.length * k := by rw [← h1.1]; exact (List.getElem?_eq_some_iff.1 hu).1
  rw [Nat.zero_add, h1.cellAt j hj, hu]
/-- A row of the call's own reads as a slice. -/
theorem Own.sl (h : Own R k e base B w v l) (hB : B ≤ w.heap.size) : ∃ A c, v = .slice A l.length c ∧ l.length ≤ c ∧ c ≤ maxLen ∧ Sl R k w.heap.size w A l := by
  obtain ⟨A, c, xs, rfl, hc, hm, hr, hcs, hA⟩ := h.rdc
  refine ⟨A, c, rfl, hc, hm, hr.sl (hcs.mono hB) fun b o hbo => ?_⟩
  subst hbo
  rcases hA with hA | ⟨g, hg, _, hlt⟩
  · cases hA
  · simp only [Option.some.injEq, Addr.mk.injEq] at hg
    omega
end

theorem Own.made {α : Type} {R : Rep α} {k B : Nat} {e : TypeId} {base : Nat} (w : World) (hb : base ≤ w.heap.size) : Own R k e base B (w.alloc (.cells #[] e)) (.slice (some ⟨w.heap.size, 0, none⟩) 0 0) ([] : List α) :=
  ⟨[], World.ownsRow_made w #[] 0 hb (Nat.zero_le _) (by simp), Cs.nil⟩
theorem sl_rdc {α : Type} {R : Rep α} {k B m : Nat} {w : World} {A : Option Addr} {l : List α} (h : Sl R k B w A l) (hm : l.length = m) : ∃ xs, RdC w k A m xs ∧ Cs R k B w xs l := by
  subst hm
  exact h.cells

/-! ### append -/
/-- What an append wants of the tables. -/
structure Tab (P : Program) (t e : TypeId) (k bytes : Nat) : Prop where
  ht : P.underlying t = some (.slice e)
  hi : ∃ i z, P.info? e = some i ∧ i.zero = some z ∧ i.size = k ∧ i.bytes = bytes ∧ z.cells.size = k
  hk : 0 < k
section
variable {P : Program} {α : Type} {R : Rep α} {k B : Nat} {w : World} {l l2 : List α} {e : TypeId} {base bytes : Nat} {v : Value}

theorem run_append_of_nil (t ty : TypeId) (i : TypeInfo) (ht : P.underlying t = some (.slice e)) (hi : P.info? e = some i) (n : Nat) (xs : List Value) (hown : w.ownsRow base e k v n xs) (c : Nat) :
    (Builtin.append_ #[t, t] ty #[v, .slice none 0 c]).run P w = .ok v w := by
  rcases hown.2 with ⟨rfl, rfl⟩ | ⟨g, cap, cur, rfl, _, _, hnc, _⟩
  · simp [Builtin.append_, run_underlying ht, sizeOf, typeInfo, hi, Builtin.lenOf, Builtin.firstCells]
  · simp [Builtin.append_, run_underlying ht, sizeOf, typeInfo, hi, Builtin.lenOf, Builtin.firstCells, hnc, storeCells]

/-- append onto a row of the call's own, whatever is appended. -/
theorem run_append_own_any (t ty : TypeId) (T : Tab P t e k bytes) (hown : Own R k e base B w v l) (hB : B ≤ base) (A : Option Addr) (m c : Nat) (ys : List Value) (hm : l2.length = m) (hr : RdC w k A m ys) (hc : Cs R k B w ys l2)
    (h1 : ∀ u ∈ ys, u.oneCell' = true) (hlen : (l.length + l2.length) * bytes ≤ 140737488355328) (h63 : l.length + l2.length ≤ maxLen) (hbase : base ≤ w.heap.size) :
    ∃ v' w', (Builtin.append_ #[t, t] ty #[v, .slice A m c]).run P w = .ok v' w' ∧ Own R k e base B w' v' (l ++ l2) ∧ Below base w w' ∧ w.grownBy w' v.ownBlock ∧ (v'.ownBlock = v.ownBlock ∨ v'.ownBlock = some w.heap.size) := by
  obtain ⟨i, z, hi, hz, hs, hb, hzc⟩ := T.hi
  obtain ⟨xs, ho, hxs⟩ := hown
  subst hm
  have hrow : ∀ q, v.ownBlock = some q → base ≤ q := fun q hq => (ho.lt q hq).1
  have fin : ∀ (ad : Addr) (_ : ∀ j u, ys[j]? = some u → w.cell? (ad.add j) = some u), ∃ v' w', (Builtin.append_ #[t, t] ty #[v, .slice (some ad) l2.length c]).run P w = .ok v' w' ∧ Own R k e base B w' v' (l ++ l2) ∧ Below base w w' ∧ w.grownBy w' v.ownBlock ∧ (v'.ownBlock = v.ownBlock ∨ v'.ownBlock = some w.heap.size) := by
    intro ad hcells
    obtain ⟨v', w', hrun, h2, h3, h4, h5⟩ := run_append_own_at (P := P) w base t ty e i z k bytes T.ht hi hz hs hb hzc T.hk v l.length xs ho ad l2.length c ys hr.1 hcells h1 h63 hlen hbase
    have hbl : Below base w w' := (Below.refl _ _).grown h3 hbase hrow
    exact ⟨v', w', hrun, ⟨xs ++ ys, by rw [List.length_append]; exact h2, (hxs.append hc).below (hbl.mono hB)⟩, hbl, h3, h5⟩
  rcases Nat.eq_zero_or_pos l2.length with h0 | hpos
  · have hl2 : l2 = [] := List.length_eq_zero_iff.1 h0
    subst hl2
    have hy : ys = [] := List.length_eq_zero_iff.1 (by simpa using hr.1)
    subst hy
    cases A with
    | none => exact ⟨v, w, run_append_of_nil t ty i T.ht hi l.length xs ho c, by rw [List.append_nil]; exact ⟨xs, ho, hxs⟩, Below.refl _ _, World.grownBy.refl w _, .inl rfl⟩
    | some ad => exact fin ad fun j u h => by simp at h
  · obtain ⟨b, o, rfl, hcell⟩ := hr.2 hpos
    exact fin ⟨b, o, none⟩ fun j u hu => by rw [Addr.add_mid]; exact hcell j u hu

theorem wpl_append {ops : Array Oper} {rest : List Oper} {o : Oper} {a : Act} {Q : Exit → Act → World → Prop} (hgd : o.guard = none) (s x : Operand) (t : TypeId)
    (ho : o.op = .call { callee := .builtin .append, args := #[s, x], argTypes := #[t, t] }) (T : Tab P t e k bytes) (v : Value) (l l2 : List α) (hs : a.eval s = v) (hown : Own R k e base B w v l) (hB : B ≤ base)
    (A : Option Addr) (m c : Nat) (ys : List Value) (hx : a.eval x = .slice A m c) (hm : l2.length = m) (hr : RdC w k A m ys) (hc : Cs R k B w ys l2)
    (h1 : ∀ u ∈ ys, u.oneCell' = true) (hlen : (l.length + l2.length) * bytes ≤ 140737488355328) (h63 : l.length + l2.length ≤ maxLen) (hbase : base ≤ w.heap.size)
    (h : ∀ v' w', Own R k e base B w' v' (l ++ l2) → Below base w w' → w.grownBy w' v.ownBlock → (v'.ownBlock = v.ownBlock ∨ v'.ownBlock = some w.heap.size) → wpList P ops Q rest (a.put o.dst v') w') : wpList P ops Q (o :: rest) a w := by
  obtain ⟨v', w', hrun, h2, h3, h4, h5⟩ := run_append_own_any (P := P) (w := w) t o.type T hown hB A m c ys hm hr hc h1 hlen h63 hbase
  refine wpList_plain hgd fun _ hK => ?_
  unfold Oper.wp execOp
  simp only [ho, resolve, invoke, builtin, Sem.run_bind, Sem.run_pure, Result.andThen_ok, List.map_toArray, List.map_cons, List.map_nil, hs, hx, hrun]
  exact hK _ _ (h v' w' h2 h3 h4 h5)

/-- append onto a slice that is full (s[:n:n]), whatever is appended, but not nothing: a row of the call's own. -/
theorem wpl_append_full {ops : Array Oper} {rest : List Oper} {o : Oper} {a : Act} {Q : Exit → Act → World → Prop} (hgd : o.guard = none) (s x : Operand) (t : TypeId)
    (ho : o.op = .call { callee := .builtin .append, args := #[s, x], argTypes := #[t, t] }) (T : Tab P t e k bytes) (A0 : Option Addr) (n cap : Nat) (xs : List Value) (l l2 : List α) (hs : a.eval s = .slice A0 n cap) (hn : l.length = n)
    (hcap : cap = n) (hr0 : RdC w k A0 n xs) (hc0 : Cs R k B w xs l) (hB : B ≤ w.heap.size)
    (ad : Addr) (m c : Nat) (ys : List Value) (hx : a.eval x = .slice (some ad) m c) (hm : l2.length = m) (hm0 : 0 < m) (hr : RdC w k (some ad) m ys) (hc : Cs R k B w ys l2)
    (h1 : ∀ u ∈ ys, u.oneCell' = true) (hlen : (l.length + l2.length) * bytes ≤ 140737488355328) (h63 : l.length + l2.length ≤ maxLen)
    (h : ∀ v' w', Own R k e w.heap.size B w' v' (l ++ l2) → Below w.heap.size w w' → wpList P ops Q rest (a.put o.dst v') w') : wpList P ops Q (o :: rest) a w := by
  obtain ⟨i, z, hi, hz, hsz, hb, hzc⟩ := T.hi
  subst hn hm hcap
  have hnone : A0 = none → l.length = 0 ∧ l.length = 0 := by
    intro hA
    rcases Nat.eq_zero_or_pos l.length with h0 | hp
    · exact ⟨h0, h0⟩
    · obtain ⟨b, o2, hA', _⟩ := hr0.2 hp
      rw [hA] at hA'
      cases hA'
  obtain ⟨b', o', hae, hcy⟩ := hr.2 hm0
  simp only [Option.some.injEq] at hae
  subst hae
  have holds : ∀ q, A0 = some q → ∀ j u, xs[j]? = some u → w.cell? (q.add j) = some u := by
    intro q hq j u hu
    rcases Nat.eq_zero_or_pos l.length with h0 | hp
    · have hx0 : xs = [] := List.length_eq_zero_iff.1 (by rw [hr0.1, h0, Nat.zero_mul])
      subst hx0
      simp at hu
    · obtain ⟨b, o2, hA, hcell⟩ := hr0.2 hp
      rw [hA] at hq
      cases hq
      rw [Addr.add_mid]
      exact hcell j u hu
  refine wpList_append_grows (P := P) w hgd s x t ho e i z k bytes T.ht hi hz hsz hb hzc T.hk A0 l.length l.length xs hs hnone hr0.1 holds ⟨b', o', none⟩ l2.length c ys hx hr.1
    (fun j u hu => by rw [Addr.add_mid]; exact hcy j u hu) h1 (by omega) h63 hlen (fun v' w' h2 h3 => ?_)
  have hbl : Below w.heap.size w w' := (Below.refl _ _).grown h3 (Nat.le_refl _) (fun q hq => by cases hq)
  exact h v' w' ⟨xs ++ ys, by rw [List.length_append]; exact h2, (hc0.append hc).below (hbl.mono hB)⟩ hbl
end

/-! ### one element behind -/
theorem rdc_new (w : World) (cs : List Value) (t : TypeId) {k : Nat} (hl : cs.length = k) : RdC (w.alloc (.cells cs.toArray t)) k (some ⟨w.heap.size, 0, none⟩) 1 cs :=
  ⟨by simp [hl], fun _ => ⟨_, _, rfl, fun j u hu => by
    have hj : j < cs.length := (List.getElem?_eq_some_iff.1 hu).1
    rw [Nat.zero_add, World.cell?_alloc_new]
    simpa using hu⟩⟩

theorem cell_alloc {w : World} {p : Addr} {u : Value} (h : w.cell? p = some u) (o : Obj) : (w.alloc o).cell? p = some u := by
  rw [World.cell?_alloc_lt _ _ _ (World.block_lt_of_cell? w _ h)]
  exact h
theorem le_alloc {B : Nat} {w : World} (h : B ≤ w.heap.size) (o : Obj) : B ≤ (w.alloc o).heap.size := by simp; omega
theorem RdC.alloc {w : World} {k m : Nat} {A : Option Addr} {xs : List Value} (h : RdC w k A m xs) (o : Obj) : RdC (w.alloc o) k A m xs :=
  ⟨h.1, fun hm => by
    obtain ⟨b, o', rfl, hc⟩ := h.2 hm
    exact ⟨b, o', rfl, fun j u hu => cell_alloc (hc j u hu) o⟩⟩

/-! ### append as a call's walk meets it: W is the world in which the call began -/
section
variable {P : Program} {α : Type} {R : Rep α} {k B : Nat} {w W : World} {e : TypeId} {bytes : Nat}
theorem wpl_app {ops : Array Oper} {rest : List Oper} {o : Oper} {a : Act} {Q : Exit → Act → World → Prop} (hgd : o.guard = none) (s x : Operand) (t : TypeId)
    (ho : o.op = .call { callee := .builtin .append, args := #[s, x], argTypes := #[t, t] }) (T : Tab P t e k bytes) (v : Value) (l l2 : List α) (hs : a.eval s = v) (hown : Own R k e W.heap.size B w v l) (hB : B ≤ W.heap.size) (hbl : Below W.heap.size W w)
    (A : Option Addr) (m c : Nat) (ys : List Value) (hx : a.eval x = .slice A m c) (hm : l2.length = m) (hr : RdC w k A m ys) (hc : Cs R k B w ys l2)
    (h1 : ∀ u ∈ ys, u.oneCell' = true) (hlen : (l.length + l2.length) * bytes ≤ 140737488355328) (h63 : l.length + l2.length ≤ maxLen)
    (h : ∀ v' w', Own R k e W.heap.size B w' v' (l ++ l2) → Below W.heap.size W w' → w.grownBy w' v.ownBlock → (v'.ownBlock = v.ownBlock ∨ v'.ownBlock = some w.heap.size) → wpList P ops Q rest (a.put o.dst v') w') : wpList P ops Q (o :: rest) a w :=
  wpl_append hgd s x t ho T v l l2 hs hown hB A m c ys hx hm hr hc h1 hlen h63 hbl.size fun v' w' q1 q2 q3 q4 => h v' w' q1 (hbl.trans q2) q3 q4
/-- One element behind. -/
theorem wpl_one {ops : Array Oper} {rest : List Oper} {o : Oper} {a : Act} {Q : Exit → Act → World → Prop} {te : TypeId} {cs : List Value} (hgd : o.guard = none) (s x : Operand) (t : TypeId)
    (ho : o.op = .call { callee := .builtin .append, args := #[s, x], argTypes := #[t, t] }) (T : Tab P t e k bytes) (v : Value) (l : List α) (y : α) (hs : a.eval s = v) (hown : Own R k e W.heap.size B w v l) (hB : B ≤ W.heap.size) (hbl : Below W.heap.size W w)
    (hx : a.eval x = .slice (some ⟨w.heap.size, 0, none⟩) 1 1) (hk : cs.length = k) (hR : R.at_ B w cs y) (h1 : ∀ u ∈ cs, u.oneCell' = true) (hlen : (l.length + 1) * bytes ≤ 140737488355328) (h63 : l.length + 1 ≤ maxLen)
    (h : ∀ v' w', Own R k e W.heap.size B w' v' (l ++ [y]) → Below W.heap.size W w' → (w.alloc (.cells cs.toArray te)).grownBy w' v.ownBlock → (v'.ownBlock = v.ownBlock ∨ v'.ownBlock = some (w.heap.size + 1)) → wpList P ops Q rest (a.put o.dst v') w') :
    wpList P ops Q (o :: rest) a (w.alloc (.cells cs.toArray te)) :=
  wpl_app (W := W) hgd s x t ho T v l [y] hs (hown.alloc (Nat.le_trans hB hbl.size) _) hB (below_alloc hbl _) _ 1 1 cs hx rfl (rdc_new w cs te hk) (Cs.one hk (R.stable ((Below.refl _ _).alloc (Nat.le_trans hB hbl.size) _) hR)) h1 hlen h63
    fun v' w' q1 q2 q3 q4 => h v' w' q1 q2 q3 (by rw [World.size_alloc] at q4; exact q4)
end

section
variable {P : Program} {α : Type} {R : Rep α} {k B : Nat} {w W : World} {e : TypeId} {bytes : Nat}
theorem wpl_app0 {ops : Array Oper} {rest : List Oper} {o : Oper} {a : Act} {Q : Exit → Act → World → Prop} (hgd : o.guard = none) (s x : Operand) (t : TypeId)
    (ho : o.op = .call { callee := .builtin .append, args := #[s, x], argTypes := #[t, t] }) (T : Tab P t e k bytes) (v : Value) (l l2 : List α) (hs : a.eval s = v) (hown : Own R k e W.heap.size B w v l) (hB : B ≤ W.heap.size) (hbl : Below W.heap.size W w)
    (A : Option Addr) (m c : Nat) (ys : List Value) (hx : a.eval x = .slice A m c) (hm : l2.length = m) (hr : RdC w k A m ys) (hc : Cs R k B w ys l2)
    (h1 : ∀ u ∈ ys, u.oneCell' = true) (hlen : (l.length + l2.length) * bytes ≤ 140737488355328) (h63 : l.length + l2.length ≤ maxLen)
    (h : ∀ v' w', Own R k e W.heap.size B w' v' (l ++ l2) → Below W.heap.size W w' → w.heap.size ≤ w'.heap.size → wpList P ops Q rest (a.put o.dst v') w') : wpList P ops Q (o :: rest) a w :=
  wpl_app (W := W) hgd s x t ho T v l l2 hs hown hB hbl A m c ys hx hm hr hc h1 hlen h63 fun v' w' q1 q2 q3 _ => h v' w' q1 q2 q3.size
theorem wpl_one0 {ops : Array Oper} {rest : List Oper} {o : Oper} {a : Act} {Q : Exit → Act → World → Prop} {te : TypeId} {cs : List Value} (hgd : o.guard = none) (s x : Operand) (t : TypeId)
    (ho : o.op = .call { callee := .builtin .append, args := #[s, x], argTypes := #[t, t] }) (T : Tab P t e k bytes) (v : Value) (l : List α) (y : α) (hs : a.eval s = v) (hown : Own R k e W.heap.size B w v l) (hB : B ≤ W.heap.size) (hbl : Below W.heap.size W w)
    (hx : a.eval x = .slice (some ⟨w.heap.size, 0, none⟩) 1 1) (hk : cs.length = k) (hR : R.at_ B w cs y) (h1 : ∀ u ∈ cs, u.oneCell' = true) (hlen : (l.length + 1) * bytes ≤ 140737488355328) (h63 : l.length + 1 ≤ maxLen)
    (h : ∀ v' w', Own R k e W.heap.size B w' v' (l ++ [y]) → Below W.heap.size W w' → w.heap.size ≤ w'.heap.size → wpList P ops Q rest (a.put o.dst v') w') : wpList P ops Q (o :: rest) a (w.alloc (.cells cs.toArray te)) :=
  wpl_one (W := W) hgd s x t ho T v l y hs hown hB hbl hx hk hR h1 hlen h63 fun v' w' q1 q2 q3 _ => h v' w' q1 q2 (by have := q3.size; simp at this; omega)
end

/-! ### bytes -/
theorem str_at {B : Nat} {w : World} {q : ByteArray} (h : q.size ≤ maxLen) : strR.at_ B w [.string q] q := ⟨rfl, h⟩
theorem mem_one (v : Value) (h : v.oneCell' = true) : ∀ u ∈ [v], u.oneCell' = true := by
  intro u hu
  simp only [List.mem_singleton] at hu
  subst hu
  exact h
theorem byteV_of {z : Int} {k : Nat} (h : z = (k % 256 : Nat)) : Value.int .u8 z = byteV (UInt8.ofNat k) := by
  rw [h]
  simp [byteV]
theorem byte_one {z : Int} {k : Nat} (h : z = (k % 256 : Nat)) (w : World) : Cs byteR 1 0 w [.int .u8 z] [UInt8.ofNat k] := Cs.one rfl (by rw [byteV_of h]; exact (rfl : _ = _))
theorem bytes1 {k : IntKind} (z : Int) : ∀ u ∈ [Value.int k z], u.oneCell' = true := by
  intro u hu
  simp only [List.mem_singleton] at hu
  subst hu
  rfl
theorem cs_bytes {B : Nat} {w : World} {xs : List Value} {l : List UInt8} : Cs byteR 1 B w xs l ↔ xs = l.map byteV := by
  constructor
  · rintro ⟨h1, h2⟩
    apply List.ext_getElem?
    intro j
    rw [List.getElem?_map]
    by_cases hj : j < l.length
    · have := h2 j _ (List.getElem?_eq_getElem hj)
      simp only [byteR, plR, Nat.mul_one] at this
      rw [List.getElem?_eq_getElem hj]
      have hx : (List.take 1 (List.drop j xs))[0]? = xs[j]? := by rw [List.getElem?_take, if_pos (by omega), List.getElem?_drop, Nat.add_zero]
      rw [← hx, this]
      rfl
    · rw [List.getElem?_eq_none (by omega), List.getElem?_eq_none (by omega)]
      rfl
  · rintro rfl
    refine ⟨by simp, fun j a hj => ?_⟩
    simp only [byteR, plR, Nat.mul_one]
    have hjl : j < l.length := (List.getElem?_eq_some_iff.1 hj).1
    rw [List.drop_eq_getElem_cons (by simpa using hjl)]
    simp only [List.take_succ_cons, List.take_zero, List.getElem_map]
    congr 2
    rw [List.getElem?_eq_getElem hjl] at hj
    exact Option.some.inj hj
theorem sl_bytes {B m : Nat} {w : World} {A : Option Addr} {l : List UInt8} (h : Sl byteR 1 B w A l) (hm : l.length = m) : RdC w 1 A m (l.map byteV) := by
  obtain ⟨xs, h1, h2⟩ := sl_rdc h hm
  rw [← cs_bytes.1 h2]
  exact h1
theorem cs_map (B : Nat) (w : World) (l : List UInt8) : Cs byteR 1 B w (l.map byteV) l := cs_bytes.2 rfl
theorem bytes_oneCell (l : List UInt8) : ∀ u ∈ l.map byteV, u.oneCell' = true := by
  intro u hu
  obtain ⟨c, _, rfl⟩ := List.mem_map.1 hu
  rfl
end Go.Proofs.YtgonmnjgodleeaaDoor
