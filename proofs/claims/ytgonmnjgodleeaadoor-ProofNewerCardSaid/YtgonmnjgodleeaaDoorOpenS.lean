/-
  Out of an argument's reading: structs, field by field. Nothing here speaks of the program.
-/
import Derived.Test.YtgonmnjgodleeaaDoorRep
import Derived.Test.YtgonmnjgodleeaaDoorOpen
namespace Go.Proofs.YtgonmnjgodleeaaDoor
open Go.ChangeShapes Go.WideShapes Go.ChangeAt Go.RowKit Go.Deep

/-- The blocks of Z that were there are as they were. -/
structure Agree (Z : Nat → Prop) (w w' : World) : Prop where
  os : w'.os = w.os
  tape : w'.tape = w.tape
  output : w'.output = w.output
  size : w.heap.size ≤ w'.heap.size
  block : ∀ k, k < w.heap.size → Z k → w'.heap[k]? = w.heap[k]?

section
variable {Z Z' : Nat → Prop} {a b c w w' : World}
theorem Agree.refl (w : World) : Agree Z w w := ⟨rfl, rfl, rfl, Nat.le_refl _, fun _ _ _ => rfl⟩
theorem Agree.trans (h : Agree Z a b) (k : Agree Z b c) : Agree Z a c :=
  ⟨k.os.trans h.os, k.tape.trans h.tape, k.output.trans h.output, Nat.le_trans h.size k.size, fun i hi hz => (k.block i (Nat.lt_of_lt_of_le hi h.size) hz).trans (h.block i hi hz)⟩
theorem Agree.mono (h : Agree Z w w') (hZ : ∀ k, Z' k → Z k) : Agree Z' w w' := ⟨h.os, h.tape, h.output, h.size, fun k hk hz => h.block k hk (hZ k hz)⟩
theorem agree_of_below (h : Below w.heap.size w w') : Agree Z w w' := ⟨h.os, h.tape, h.output, h.size, fun k hk _ => h.block k hk⟩
theorem Agree.below {B : Nat} (h : Agree Z w w') (hB : ∀ k, k < B → k < w.heap.size ∧ Z k) : Below B w w' := ⟨h.os, h.tape, h.output, h.size, fun k hk => h.block k (hB k hk).1 (hB k hk).2⟩
theorem Agree.drew (h : Agree Z w w') : Agree Z w w'.drew := ⟨h.os, h.tape, h.output, h.size, h.block⟩
theorem Agree.drewN (h : Agree Z w w') (n : Nat) : Agree Z w (w'.drewN n) := ⟨h.os, h.tape, h.output, h.size, h.block⟩
theorem Agree.alloc (h : Agree Z w w') (o : Obj) : Agree Z w (w'.alloc o) :=
  h.trans (agree_of_below ((Below.refl _ _).alloc (Nat.le_refl _) o))
theorem Agree.setCell (h : Agree Z w w') {p : Addr} (hp : ¬ Z p.block) (v : Value) : Agree Z w (w'.setCell p v) := by
  refine h.trans ⟨rfl, rfl, rfl, ?_, fun k hk hz => Below.heap_setCell w' p v k (fun e => hp (e ▸ hz))⟩
  simp
theorem Agree.cell (h : Agree Z w w') {p : Addr} (h1 : p.block < w.heap.size) (h2 : Z p.block) : w'.cell? p = w.cell? p := World.cell?_of_block (w := w) (h.block p.block h1 h2)
theorem Agree.frozen (h : Agree Z w w') {p : Addr} (h1 : p.block < w.heap.size) (h2 : Z p.block) : w'.frozen? p = w.frozen? p := World.frozen?_of_block (w := w) (h.block p.block h1 h2)
/-- For the walk: what old cells and marks are. -/
theorem acell (h : Agree Z w w') : (∀ b o, b < w.heap.size → Z b → w'.cell? ⟨b, o, none⟩ = w.cell? ⟨b, o, none⟩) ∧ (∀ b o, b < w.heap.size → Z b → w'.frozen? ⟨b, o, none⟩ = w.frozen? ⟨b, o, none⟩) :=
  ⟨fun b o h1 h2 => h.cell (p := ⟨b, o, none⟩) h1 h2, fun b o h1 h2 => h.frozen (p := ⟨b, o, none⟩) h1 h2⟩
end

/-- How cells read as a thing, in a world, where what they lead to lies in blocks of Z. -/
structure ZRep (α : Type) where
  at_ : (Nat → Prop) → World → List Value → α → Prop
  mono : ∀ {Z Z' : Nat → Prop} {w cs a}, (∀ k, Z k → Z' k) → at_ Z w cs a → at_ Z' w cs a
  stable : ∀ {Z w w' cs a}, Agree Z w w' → at_ Z w cs a → at_ Z w' cs a
  narrow : ∀ {Z w cs a}, at_ Z w cs a → at_ (fun k => Z k ∧ k < w.heap.size) w cs a
/-- A thing that lies in its cells alone. -/
def pz {α : Type} (p : List Value → α → Prop) : ZRep α := ⟨fun _ _ => p, fun _ h => h, fun _ h => h, fun h => h⟩
def intP (k : IntKind) (cs : List Value) (n : Int) : Prop := cs = [.int k n] ∧ (Lit.int k n).wf = true
def strP (cs : List Value) (s : ByteArray) : Prop := cs = [.string s] ∧ s.size ≤ maxLen
def byteP (cs : List Value) (c : UInt8) : Prop := cs = [byteV c]
abbrev byteZ : ZRep UInt8 := pz byteP
abbrev strZ : ZRep ByteArray := pz strP
abbrev intZ (k : IntKind) : ZRep Int := pz (intP k)

/-- The slice at A reads as l; it lies in Z. -/
def SlZ {α : Type} (R : ZRep α) (k : Nat) (Z : Nat → Prop) (w : World) (A : Option Addr) (l : List α) : Prop :=
  l ≠ [] → ∃ b o, A = some ⟨b, o, none⟩ ∧ Z b ∧ b < w.heap.size ∧ ∀ (j : Nat) a, l[j]? = some a → ∃ cs, cs.length = k ∧ R.at_ Z w cs a ∧ ∀ i u, cs[i]? = some u → w.cell? ⟨b, o + j * k + i, none⟩ = some u
section
variable {α : Type} {R : ZRep α} {k : Nat} {Z Z' : Nat → Prop} {w w' : World} {A : Option Addr} {l : List α}
theorem SlZ.nil : SlZ R k Z w A [] := fun h => absurd rfl h
theorem SlZ.mono (h : SlZ R k Z w A l) (hZ : ∀ k, Z k → Z' k) : SlZ R k Z' w A l := fun hn => by
  obtain ⟨b, o, rfl, hb, hlt, hc⟩ := h hn
  refine ⟨b, o, rfl, hZ b hb, hlt, fun j a hj => ?_⟩
  obtain ⟨cs, hl, hr, hcs⟩ := hc j a hj
  exact ⟨cs, hl, R.mono hZ hr, hcs⟩
theorem SlZ.narrow (h : SlZ R k Z w A l) : SlZ R k (fun k => Z k ∧ k < w.heap.size) w A l := fun hn => by
  obtain ⟨b, o, rfl, hb, hlt, hc⟩ := h hn
  refine ⟨b, o, rfl, ⟨hb, hlt⟩, hlt, fun j a hj => ?_⟩
  obtain ⟨cs, hl, hr, hcs⟩ := hc j a hj
  exact ⟨cs, hl, R.narrow hr, hcs⟩
theorem SlZ.agree (h : SlZ R k Z w A l) (hb : Agree Z w w') : SlZ R k Z w' A l := fun hn => by
  obtain ⟨b, o, rfl, hz, hlt, hc⟩ := h hn
  refine ⟨b, o, rfl, hz, Nat.lt_of_lt_of_le hlt hb.size, fun j a hj => ?_⟩
  obtain ⟨cs, hl, hr, hcs⟩ := hc j a hj
  exact ⟨cs, hl, R.stable hb hr, fun i u hu => (hb.cell (p := ⟨b, _, none⟩) hlt hz).trans (hcs i u hu)⟩
theorem SlZ.below (h : SlZ R k Z w A l) (hb : Below w.heap.size w w') : SlZ R k Z w' A l := h.agree (agree_of_below hb)
/-- Where every block that is made from here on may be in the set. -/
theorem SlZ.shrink {B N : Nat} (h : SlZ R k Z w A l) (hB : w.heap.size ≤ B) : SlZ R k (fun k => Z k ∧ (k < B ∨ N ≤ k)) w A l :=
  h.narrow.mono fun _ ⟨h1, h2⟩ => ⟨h1, .inl (Nat.lt_of_lt_of_le h2 hB)⟩
/-- A slice's one cell. -/
def slZ (R : ZRep α) (k : Nat) : ZRep (List α) :=
  ⟨fun Z w cs l => ∃ A c, cs = [.slice A l.length c] ∧ l.length ≤ c ∧ c ≤ maxLen ∧ SlZ R k Z w A l,
   fun hZ ⟨A, c, h1, h2, h3, h4⟩ => ⟨A, c, h1, h2, h3, h4.mono hZ⟩, fun hb ⟨A, c, h1, h2, h3, h4⟩ => ⟨A, c, h1, h2, h3, h4.agree hb⟩,
   fun ⟨A, c, h1, h2, h3, h4⟩ => ⟨A, c, h1, h2, h3, h4.narrow⟩⟩
theorem SlZ.get (h : SlZ R k Z w A l) {i : Nat} {a : α} (hi : l[i]? = some a) :
    ∃ b o cs, A = some ⟨b, o, none⟩ ∧ Z b ∧ b < w.heap.size ∧ cs.length = k ∧ R.at_ Z w cs a ∧ ∀ j u, cs[j]? = some u → w.cell? ⟨b, o + i * k + j, none⟩ = some u := by
  obtain ⟨b, o, rfl, hz, hlt, hc⟩ := h (by rintro rfl; simp at hi)
  obtain ⟨cs, hl, hr, hcs⟩ := hc i a hi
  exact ⟨b, o, cs, rfl, hz, hlt, hl, hr, hcs⟩
theorem SlZ.get1 (h : SlZ R 1 Z w A l) {i : Nat} {a : α} (hi : l[i]? = some a) :
    ∃ b o v, A = some ⟨b, o, none⟩ ∧ Z b ∧ b < w.heap.size ∧ R.at_ Z w [v] a ∧ w.cell? ⟨b, o + i, none⟩ = some v := by
  obtain ⟨b, o, cs, rfl, hz, hlt, hl, hr, hcs⟩ := h.get hi
  match cs, hl with
  | [v], _ => exact ⟨b, o, v, rfl, hz, hlt, hr, by simpa using hcs 0 v rfl⟩
theorem SlZ.take (h : SlZ R k Z w A l) (n : Nat) : SlZ R k Z w A (l.take n) := fun hn => by
  obtain ⟨b, o, rfl, hz, hlt, hc⟩ := h (by rintro rfl; simp at hn)
  refine ⟨b, o, rfl, hz, hlt, fun j a hj => hc j a ?_⟩
  rw [List.getElem?_take] at hj
  split at hj
  · exact hj
  · cases hj
theorem SlZ.drop {b o : Nat} (h : SlZ R k Z w (some ⟨b, o, none⟩) l) (n : Nat) : SlZ R k Z w (some ⟨b, o + n * k, none⟩) (l.drop n) := fun hn => by
  obtain ⟨b', o', he, hz, hlt, hc⟩ := h (by rintro rfl; simp at hn)
  simp only [Option.some.injEq, Addr.mk.injEq, and_true] at he
  obtain ⟨rfl, rfl⟩ := he
  refine ⟨b, _, rfl, hz, hlt, fun j a hj => ?_⟩
  rw [List.getElem?_drop] at hj
  obtain ⟨cs, hl, hr, hcs⟩ := hc _ a hj
  refine ⟨cs, hl, hr, fun i u hu => ?_⟩
  rw [← hcs i u hu]
  congr 2
  rw [Nat.add_mul]
  omega
end
section
variable {α : Type} {p : List Value → α → Prop} {k B : Nat} {Z : Nat → Prop} {w w' : World} {A : Option Addr} {l : List α}
/-- To the words without a set. -/
theorem SlZ.sl (h : SlZ (pz p) k Z w A l) : Sl (plR p) k w.heap.size w A l := fun hn => by
  obtain ⟨b, o, rfl, _, hlt, hc⟩ := h hn
  exact ⟨b, o, rfl, hlt, fun j a hj => hc j a hj⟩
theorem Sl.slz (h : Sl (plR p) k B w A l) (hB : B ≤ w.heap.size) (hZ : ∀ k, k < B → Z k) : SlZ (pz p) k Z w A l := fun hn => by
  obtain ⟨b, o, rfl, hlt, hc⟩ := h hn
  exact ⟨b, o, rfl, hZ b hlt, Nat.lt_of_lt_of_le hlt hB, fun j a hj => hc j a hj⟩
theorem Sl.slzW (h : Sl (plR p) k w.heap.size w A l) : SlZ (pz p) k (fun k => k < w.heap.size) w A l := h.slz (Nat.le_refl _) fun _ h => h
/-- A row of the call's own. -/
theorem Own.slz {e : TypeId} {base : Nat} {v : Value} (h : Own (plR p) k e base B w v l) (hZ : ∀ k, base ≤ k → Z k) :
    ∃ A c, v = .slice A l.length c ∧ l.length ≤ c ∧ c ≤ maxLen ∧ SlZ (pz p) k Z w A l := by
  obtain ⟨A, c, xs, rfl, hc, hm, hr, hcs, hA⟩ := h.rdc
  refine ⟨A, c, rfl, hc, hm, fun hn => ?_⟩
  obtain ⟨b, o, rfl, hcell⟩ := hr.2 (List.length_pos_iff.2 hn)
  obtain ⟨g, hg, hb, hlt⟩ : ∃ g, some (⟨b, o, none⟩ : Addr) = some ⟨g, 0, none⟩ ∧ base ≤ g ∧ g < w.heap.size := by
    rcases hA with hA | h
    · cases hA
    · exact h
  simp only [Option.some.injEq, Addr.mk.injEq, and_true] at hg
  obtain ⟨rfl, rfl⟩ := hg
  refine ⟨b, 0, rfl, hZ b hb, hlt, fun j a hj => ⟨_, ?_, hcs.2 j a hj, fun i u hu => ?_⟩⟩
  · have hjl : j < l.length := (List.getElem?_eq_some_iff.1 hj).1
    have : (j + 1) * k ≤ l.length * k := Nat.mul_le_mul_right k hjl
    rw [Nat.add_mul, ← hcs.1] at this
    simp only [List.length_take, List.length_drop]
    omega
  · rw [List.getElem?_take] at hu
    split at hu
    · rw [List.getElem?_drop] at hu
      rw [Nat.add_assoc]
      exact hcell _ u hu
    · cases hu
end
theorem SlZ.bsl {k : Nat} {Z : Nat → Prop} {w : World} {A : Option Addr} {l : List UInt8} (h : SlZ byteZ k Z w A l) : Sl byteR k w.heap.size w A l := h.sl
theorem SlZ.ssl {k : Nat} {Z : Nat → Prop} {w : World} {A : Option Addr} {l : List ByteArray} (h : SlZ strZ k Z w A l) : Sl strR k w.heap.size w A l := h.sl
/-- A block that was just made. -/
theorem range_new {w : World} {cs : List Value} {t : TypeId} {b : Nat} (hb : b = w.heap.size) : (w.alloc (.cells cs.toArray t)).rangeAt b 0 cs := fun j v h => by
  subst hb
  rw [Nat.zero_add, World.cell?_alloc_new]
  simpa using h
/-- A block as it stands in the heap. -/
theorem range_block {w : World} {cs : List Value} {t : TypeId} {b : Nat} {fr : Nat × Nat} (h : w.heap[b]? = some (.cells cs.toArray t fr)) : w.rangeAt b 0 cs := fun j v hj => by
  rw [Nat.zero_add, cell_of_row w b j _ t fr h]
  simpa using hj
theorem Agree.range {Z : Nat → Prop} {w w' : World} (h : Agree Z w w') {b o : Nat} {cs : List Value} (hb : b < w.heap.size) (hz : Z b) (hr : w.rangeAt b o cs) : w'.rangeAt b o cs := fun j v hj =>
  (h.cell (p := ⟨b, o + j, none⟩) hb hz).trans (hr j v hj)
end Go.Proofs.YtgonmnjgodleeaaDoor
namespace Go.Proofs.YtgonmnjgodleeaaDoor
open Go.ChangeShapes Go.WideShapes Go.ChangeAt Go.RowKit Go.Deep
theorem inReach_each {H : Type} {P : Program} : ∀ {ts : List TypeId} {ds : List (DataW H)} {i : Nat} {t : TypeId} {d : DataW H}, ts[i]? = some t → ds[i]? = some d → (∀ n ∈ DataW.weightsEach P ts ds, n ≤ reachBytes) → InReach P t d
  | t0 :: ts, d0 :: ds, 0, t, d, ht, hd, h => by
    simp at ht hd
    subst ht hd
    exact fun n hn => h n (by simp only [DataW.weightsEach, List.mem_append]; exact Or.inl hn)
  | t0 :: ts, d0 :: ds, i + 1, t, d, ht, hd, h => inReach_each (ts := ts) (ds := ds) (i := i) (by simpa using ht) (by simpa using hd) fun n hn => h n (by simp only [DataW.weightsEach, List.mem_append]; exact Or.inr hn)
  | [], _, _, _, _, ht, _, _ => by simp at ht
  | _ :: _, [], _, _, _, _, hd, _ => by simp at hd
section
variable {P : Program} {H : Type} {enc : TypeId × Value → H} {w : World} {base : Nat} {sp : Nat → Bool} {hd : Bool} {t : TypeId}
theorem open_fields {fs : Array Field} {fuel : Nat} {cs : List Value} {x : DataW H × List MemPlace} (ht : P.underlying t = some (.struct fs)) (h : DataW.trod enc P w base sp hd fuel t cs = some x) (hr : InReach P t x.1) :
    cs.length = P.cellsOf t ∧ ∀ (i : Nat) (f : Field), fs[i]? = some f → ∀ {α : Type} {R : Rep α}, Opens P f.type R → ∃ a, R.at_ w.heap.size w ((cs.drop f.offset).take (P.cellsOf f.type)) a := by
  obtain ⟨xs, n, _, rfl, hlen, hxl, hg⟩ := DataW.trod_struct ht h
  refine ⟨hlen, fun i f hf α R hR => ?_⟩
  have hi : i < xs.length := by rw [hxl]; exact (Array.getElem?_eq_some_iff.1 hf).1
  have h1 := hg i f hf
  rw [List.getElem?_eq_getElem hi] at h1
  refine hR enc w base sp hd n _ xs[i] h1 ?_
  unfold InReach at hr
  simp only [DataW.weights, ht] at hr
  exact inReach_each (ts := fs.toList.map (·.type)) (ds := xs.map (·.1)) (i := i) (by rw [List.getElem?_map, Array.getElem?_toList, hf]; rfl) (by rw [List.getElem?_map, List.getElem?_eq_getElem hi]; rfl) hr
end
end Go.Proofs.YtgonmnjgodleeaaDoor
