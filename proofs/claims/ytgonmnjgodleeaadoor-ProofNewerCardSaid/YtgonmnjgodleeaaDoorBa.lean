/-
  The shadow of a run: rows that the run may write: built, made, copied into. Nothing here speaks of the program.
-/
import Derived.Test.YtgonmnjgodleeaaDoorAn
import Derived.Test.YtgonmnjgodleeaaDoorAa
import Derived.Laws.MakeOwn
namespace Go.Proofs.YtgonmnjgodleeaaDoor
open Go.RowKit
def any (_ : AV) : Bool := true
section
variable {P : Program} {T : TabT} {c : Cx}
theorem FlatP.any {p : AV → Bool} {k : Nat} {l : List (List AV)} {xs : List Value} (h : FlatP p c k l xs) : FlatP any c k l xs := ⟨h.len, h.el, fun j e i a he ha => ⟨rfl, (h.rv j e i a he ha).2⟩⟩
theorem FlatP.app {p : AV → Bool} {k : Nat} {l m : List (List AV)} {xs ys : List Value} (h : FlatP p c k l xs) (g : FlatP p c k m ys) : FlatP p c k (l ++ m) (xs ++ ys) := by
  refine ⟨by simp [h.len, g.len, Nat.add_mul], fun j e he => ?_, fun j e i a he ha => ?_⟩
  · rw [List.getElem?_append] at he
    split at he
    · exact h.el j e he
    · exact g.el _ e he
  · rw [List.getElem?_append] at he
    split at he
    · rename_i hj
      obtain ⟨q1, u, q2, q3⟩ := h.rv j e i a he ha
      refine ⟨q1, u, ?_, q3⟩
      rw [List.getElem?_append_left (List.getElem?_eq_some_iff.1 q2).1]
      exact q2
    · rename_i hj
      obtain ⟨q1, u, q2, q3⟩ := g.rv _ e i a he ha
      refine ⟨q1, u, ?_, q3⟩
      have e1 : (j - l.length) * k + l.length * k = j * k := by rw [← Nat.add_mul]; congr 1; omega
      rw [List.getElem?_append_right (by rw [h.len]; omega), h.len, show j * k + i - l.length * k = (j - l.length) * k + i by omega]
      exact q2
theorem FlatP.take {p : AV → Bool} {k : Nat} {l : List (List AV)} {xs : List Value} (h : FlatP p c k l xs) (m : Nat) (hm : m ≤ l.length) : FlatP p c k (l.take m) (xs.take (m * k)) := by
  have hmk : m * k ≤ l.length * k := Nat.mul_le_mul_right _ hm
  refine ⟨by rw [List.length_take, List.length_take, h.len]; simp [Nat.min_eq_left hm, Nat.min_eq_left hmk], fun j e he => ?_, fun j e i a he ha => ?_⟩
  · rw [List.getElem?_take] at he
    split at he
    · exact h.el j e he
    · cases he
  · rw [List.getElem?_take] at he
    split at he
    · rename_i hj
      obtain ⟨q1, u, q2, q3⟩ := h.rv j e i a he ha
      refine ⟨q1, u, ?_, q3⟩
      have hi : i < k := by rw [← h.el j e he]; exact (List.getElem?_eq_some_iff.1 ha).1
      have : (j + 1) * k ≤ m * k := Nat.mul_le_mul_right _ hj
      rw [Nat.add_mul] at this
      rw [List.getElem?_take_of_lt (by omega)]
      exact q2
    · cases he
/-- Rows of the run's own, at a block. -/
structure RowsAt (c : Cx) (i k : Nat) (L : List (List AV)) (b : Nat) (vs : Array Value) (e : TypeId) : Prop where
  hi : c.h[i]? = some (.rows k L)
  hb : c.ρ i = some b
  hh : c.w.heap[b]? = some (.cells vs e (0, 0))
  el : ∀ (j : Nat) x, L[j]? = some x → x.length = k
  rv : ∀ (j : Nat) x (m : Nat) a, L[j]? = some x → x[m]? = some a → ∃ v, vs[j * k + m]? = some v ∧ RV c v a
theorem RowsAt.of (hc : RelH c) {i k : Nat} {L : List (List AV)} {b : Nat} (hi : c.h[i]? = some (.rows k L)) (hb : c.ρ i = some b) : ∃ vs e, RowsAt c i k L b vs e := by
  obtain ⟨b', vs, e, h1, h2, h3, h4⟩ := hc.blk i _ hi
  rw [hb] at h1
  obtain rfl := Option.some.inj h1
  exact ⟨vs, e, hi, hb, h2, h3, h4⟩
theorem RowsAt.size {i k : Nat} {L : List (List AV)} {b : Nat} {vs : Array Value} {e : TypeId} (h : RowsAt c i k L b vs e) (hk : 0 < k) : L.length * k ≤ vs.size := by
  cases hL : L.length with
  | zero => simp
  | succ n =>
    have hlt : n < L.length := by omega
    have hx := List.getElem?_eq_getElem hlt
    have hl := h.el n _ hx
    obtain ⟨v, h1, _⟩ := h.rv n _ (k - 1) _ hx (List.getElem?_eq_getElem (by omega))
    have := (Array.getElem?_eq_some_iff.1 h1).1
    rw [Nat.add_mul]; omega
/-- A part of the rows, as values. -/
theorem RowsAt.part {i k : Nat} {L : List (List AV)} {b : Nat} {vs : Array Value} {e : TypeId} (h : RowsAt c i k L b vs e) (hk : 0 < k) (o m : Nat) (hm : o + m ≤ L.length) {p : AV → Bool} (hp : ∀ x ∈ (L.drop o).take m, ∀ a ∈ x, p a = true) :
    FlatP p c k ((L.drop o).take m) ((vs.toList.drop (o * k)).take (m * k)) ∧ ∀ (j : Nat) v, ((vs.toList.drop (o * k)).take (m * k))[j]? = some v → c.w.cell? ⟨b, o * k + j, none⟩ = some v := by
  have hs := h.size hk
  have h1 : (o + m) * k ≤ L.length * k := Nat.mul_le_mul_right _ hm
  rw [Nat.add_mul] at h1
  have hg : ∀ (j : Nat) x, ((L.drop o).take m)[j]? = some x → L[o + j]? = some x ∧ j < m := fun j x hx => by
    rw [List.getElem?_take] at hx
    split at hx
    · rw [List.getElem?_drop] at hx; exact ⟨hx, by assumption⟩
    · cases hx
  refine ⟨⟨?_, fun j x hx => h.el _ x (hg j x hx).1, fun j x q a hx ha => ?_⟩, fun j v hv => ?_⟩
  · simp only [List.length_take, List.length_drop, Array.length_toList]
    rw [Nat.min_eq_left (by omega), Nat.min_eq_left (by omega)]
  · obtain ⟨hx', hjm⟩ := hg j x hx
    obtain ⟨v, h2, h3⟩ := h.rv _ x q a hx' ha
    refine ⟨hp x (List.mem_of_getElem? hx) a (List.mem_of_getElem? ha), v, ?_, h3⟩
    have hq : q < k := by rw [← h.el _ x hx']; exact (List.getElem?_eq_some_iff.1 ha).1
    have h4 : (j + 1) * k ≤ m * k := Nat.mul_le_mul_right _ hjm
    rw [Nat.add_mul] at h4
    rw [List.getElem?_take_of_lt (by omega), List.getElem?_drop, Array.getElem?_toList, ← Nat.add_assoc, ← Nat.add_mul]
    exact h2
  · rw [cell_of_row c.w b _ vs e (0, 0) h.hh]
    rw [List.getElem?_take] at hv
    split at hv
    · rw [List.getElem?_drop, Array.getElem?_toList] at hv; exact hv
    · cases hv
theorem FlatP.oneC {k : Nat} {l : List (List AV)} {xs : List Value} (hk : 0 < k) (h : FlatP AV.cell c k l xs) : ∀ u ∈ xs, u.oneCell' = true := by
  intro u hu
  obtain ⟨q, hq⟩ := List.getElem?_of_mem hu
  have hql := (List.getElem?_eq_some_iff.1 hq).1
  rw [h.len] at hql
  have hj : q / k < l.length := (Nat.div_lt_iff_lt_mul hk).2 hql
  have hx := List.getElem?_eq_getElem hj
  have hi : q % k < (l[q / k]).length := by rw [h.el _ _ hx]; exact Nat.mod_lt _ hk
  obtain ⟨h1, v, h2, h3⟩ := h.rv _ _ (q % k) _ hx (List.getElem?_eq_getElem hi)
  rw [show q / k * k + q % k = q by rw [Nat.mul_comm]; exact Nat.div_add_mod q k, hq] at h2
  cases h2
  exact h3.one h1
/-- Rows written over a part of the rows. -/
theorem RowsAt.write (hc : RelH c) {i k : Nat} {L : List (List AV)} {b : Nat} {vs : Array Value} {e : TypeId} (h : RowsAt c i k L b vs e) (hk : 0 < k) {Y : List (List AV)} {news : List Value} {p : AV → Bool} (hf : FlatP p c k Y news) (o : Nat) (ho : o + Y.length ≤ L.length) {w' : World}
    (hw : w' = c.w.setRow b (vs.toList.take (o * k) ++ news ++ vs.toList.drop (o * k + news.length)).toArray) :
    RelH ⟨c.ρ, c.h.set i (.rows k (L.take o ++ Y ++ L.drop (o + Y.length))), w', c.X⟩ ∧ Ev c ⟨c.ρ, c.h.set i (.rows k (L.take o ++ Y ++ L.drop (o + Y.length))), w', c.X⟩ := by
  subst hw
  have hs := h.size hk
  have h1 : (o + Y.length) * k ≤ L.length * k := Nat.mul_le_mul_right _ ho
  rw [Nat.add_mul] at h1
  have hnl := hf.len
  refine Cx.write hc i (.rows k L) (.rows k (L.take o ++ Y ++ L.drop (o + Y.length))) b h.hi h.hb rfl rfl _ (by simp) rfl rfl rfl (fun b' hb' => setRow_other _ _ _ _ hb') (fun o h => h.elim) (.inl ⟨rfl, rfl⟩) (fun vs' e' f h0 => by rw [h.hh] at h0; cases h0; exact ⟨_, setRow_heap _ _ _ _ _ _ h.hh, by simp; omega⟩) fun hev => ?_
  have hget : ∀ (j : Nat) x, (L.take o ++ Y ++ L.drop (o + Y.length))[j]? = some x → (j < o ∧ L[j]? = some x) ∨ (o ≤ j ∧ j < o + Y.length ∧ Y[j - o]? = some x) ∨ (o + Y.length ≤ j ∧ L[j]? = some x) := fun j x hx => by
    have hol : (L.take o).length = o := by rw [List.length_take]; omega
    rw [List.append_assoc, List.getElem?_append, hol] at hx
    split at hx
    · rename_i hj; rw [List.getElem?_take_of_lt hj] at hx; exact .inl ⟨hj, hx⟩
    · rename_i hj
      rw [List.getElem?_append] at hx
      split at hx
      · exact .inr (.inl ⟨by omega, by omega, hx⟩)
      · rw [List.getElem?_drop] at hx
        exact .inr (.inr ⟨by omega, by rw [← hx]; congr 1; omega⟩)
  refine ⟨b, _, e, h.hb, setRow_heap _ _ _ _ _ _ h.hh, fun j x hx => ?_, fun j x m a hx ha => ?_⟩
  · rcases hget j x hx with ⟨_, g⟩ | ⟨_, _, g⟩ | ⟨_, g⟩
    · exact h.el j x g
    · exact hf.el _ x g
    · exact h.el j x g
  · have hlay := getElem?_layV (cs := vs.toList) (xs := news) (o := o * k) (by simp; omega) (j * k + m)
    simp only [List.getElem?_toArray, hlay]
    rcases hget j x hx with ⟨hj, g⟩ | ⟨hj1, hj2, g⟩ | ⟨hj, g⟩
    · obtain ⟨v, g2, g3⟩ := h.rv j x m a g ha
      have hm : m < k := by rw [← h.el j x g]; exact (List.getElem?_eq_some_iff.1 ha).1
      have : (j + 1) * k ≤ o * k := Nat.mul_le_mul_right _ hj
      rw [Nat.add_mul] at this
      exact ⟨v, by rw [if_pos (by omega)]; simpa using g2, g3.mono hev⟩
    · obtain ⟨_, v, g2, g3⟩ := hf.rv _ x m a g ha
      have hm : m < k := by rw [← hf.el _ x g]; exact (List.getElem?_eq_some_iff.1 ha).1
      have e1 : (j - o) * k + o * k = j * k := by rw [← Nat.add_mul]; congr 1; omega
      have e2 : (j - o + 1) * k ≤ Y.length * k := Nat.mul_le_mul_right _ (by omega)
      rw [Nat.add_mul] at e2
      refine ⟨v, ?_, g3.mono hev⟩
      rw [if_neg (by omega), if_pos (by omega), show j * k + m - o * k = (j - o) * k + m by omega]
      exact g2
    · obtain ⟨v, g2, g3⟩ := h.rv j x m a g ha
      have e1 : (o + Y.length) * k ≤ j * k := Nat.mul_le_mul_right _ hj
      rw [Nat.add_mul] at e1
      exact ⟨v, by rw [if_neg (by omega), if_neg (by omega)]; simpa using g2, g3.mono hev⟩
/-- New rows. -/
theorem Cx.newRows (hc : RelH c) {slot : Nat} (hsl : c.h[slot]? = some .free) {k : Nat} {L : List (List AV)} {cells : Array Value} {p : AV → Bool} (hf : FlatP p c k L cells.toList) (e : TypeId) (w' : World) (hw : w'.heap = c.w.heap.push (.cells cells e)) (h1 : w'.os = c.w.os) (h2 : w'.tape = c.w.tape) (h3 : w'.output = c.w.output) (n cap : Nat) (hn : n ≤ cap) (hm : cap ≤ maxLen) :
    RelH ⟨setρ c.ρ slot (some c.w.heap.size), c.h.set slot (.rows k L), w', c.X⟩ ∧ Ev c ⟨setρ c.ρ slot (some c.w.heap.size), c.h.set slot (.rows k L), w', c.X⟩ ∧
      RV ⟨setρ c.ρ slot (some c.w.heap.size), c.h.set slot (.rows k L), w', c.X⟩ (.slice (some ⟨c.w.heap.size, 0, none⟩) n cap) (.msl slot k 0 n cap) := by
  have hslt : slot < c.h.length := (List.getElem?_eq_some_iff.1 hsl).1
  obtain ⟨q1, q2⟩ := Cx.alloc hc slot .free hsl (.rows k L) (.inl rfl) rfl w' (.cells cells e) hw h1 h2 h3 (fun hev =>
    ⟨c.w.heap.size, cells, e, setρ_same _ _ _, (by show w'.heap[c.w.heap.size]? = _; rw [hw]; simp), hf.el, fun j x m a hx ha => by
      obtain ⟨_, u, g2, g3⟩ := hf.rv j x m a hx ha
      exact ⟨u, by simpa using g2, g3.mono hev⟩⟩)
  refine ⟨q1, q2, .msl _ _ _ _ _ c.w.heap.size 0 ⟨_, List.getElem?_set_self hslt, rfl⟩ (setρ_same _ _ _) (fun x hx => ?_) hn hm (fun _ => by simp)⟩
  simp only [List.getElem?_set_self hslt] at hx
  cases hx; rfl
theorem abuildM_ok (hT : TabOk P T) (hc : RelH c) {t : Nat} {ti ei : TI} (ht : TIok P t ti) (hs : ti.sort = .sl) (he : T ti.elem = some ei) {slot : Nat} (hsl : c.h[slot]? = some .free) {a : Act} {tm : List AV} (hr : TRel c a.tmps tm) (n : Nat) (ps : Array (Nat × Operand)) {q : Prop × List (List AV)}
    (hq : aelems ei.size (ps.toList.map fun q => (q.1, aev tm q.2)) (List.replicate n ei.zero) = some q) (hsm : n * ei.size ≤ 16777216) (hpos : 0 < ei.size) (hp : q.1) :
    ∃ v ρ' w', (Instr.buildSlice t n (ps.map fun (i, x) => (i, a.eval x))).run P c.w = .ok v w' ∧ RelH ⟨ρ', c.h.set slot (.rows ei.size q.2), w', c.X⟩ ∧ Ev c ⟨ρ', c.h.set slot (.rows ei.size q.2), w', c.X⟩ ∧ RV ⟨ρ', c.h.set slot (.rows ei.size q.2), w', c.X⟩ v (.msl slot ei.size 0 n n) := by
  obtain ⟨d, hd, hso⟩ := ht.desc
  unfold sortOk at hso
  rw [hs] at hso
  subst hso
  obtain ⟨ie, z, hi1, hi2, hi3, hi4, hi5, hi6⟩ := (hT _ _ he).info
  have hzl := (hT _ _ he).zl
  obtain ⟨r, hf, hfl, hlen⟩ := aelems_fill (c := c) _ (ps.toList.map fun q => (q.1, a.eval q.2)) (List.replicate n ei.zero) _ q (by simp) (hr.parts ps.toList) (zeros_flat (c := c) hi5 hzl hi6 n) hq hp
  have hrun : (Instr.buildSlice t n (ps.map fun (i, x) => (i, a.eval x))).run P c.w = .ok (.slice (some ⟨c.w.heap.size, 0, none⟩) n n) (c.w.alloc (.cells r ti.elem)) := by
    have e : (ps.map fun (i, x) => (i, a.eval x)).toList = ps.toList.map fun q => (q.1, a.eval q.2) := by simp
    by_cases hn : n = 0
    · subst hn
      have hps : ps.toList.map (fun q => (q.1, aev tm q.2)) = [] := by
        cases hh : ps.toList.map (fun q => (q.1, aev tm q.2)) with
        | nil => rfl
        | cons x rest =>
          exfalso
          rw [hh] at hq
          obtain ⟨i, y⟩ := x
          simp only [aelems] at hq
          split at hq
          · simp only [Option.map_eq_some_iff] at hq
            obtain ⟨q', _, rfl⟩ := hq
            obtain ⟨⟨_, h2⟩, _⟩ := hp
            simp at h2
          · cases hq
      have hps0 : ps = #[] := by
        have : ps.toList = [] := by simpa using hps
        simpa using this
      subst hps0
      have hr0 : r = #[] := by
        simp only [Array.toList_empty, List.map_nil, Instr.fill, Option.some.injEq] at hf
        rw [← hf]; simp
      subst hr0
      simp [Instr.buildSlice, run_underlying hd, sizeOf, typeInfo, hi1, Instr.fill, newRow, Array.range_zero']
    · refine run_buildSlice c.w t ti.elem n _ r ie z hd hi1 hi4 (by rw [hi2]; omega) (by rw [hi2]; exact Nat.mul_ne_zero hn (by omega)) ?_
      rw [e, hi2]
      exact hf
  have hm : n ≤ 16777216 := Nat.le_trans (Nat.le_mul_of_pos_right n hpos) hsm
  obtain ⟨h1, h2, h3⟩ := Cx.newRows hc hsl (L := q.2) (cells := r) hfl ti.elem (c.w.alloc (.cells r ti.elem)) rfl rfl rfl rfl n n (Nat.le_refl _) (by unfold maxLen; omega)
  exact ⟨_, _, _, hrun, h1, h2, h3⟩
theorem amakeSlice_ok (hT : TabOk P T) (hc : RelH c) {t : Nat} {ti ei : TI} (ht : TIok P t ti) (hs : ti.sort = .sl) (he : T ti.elem = some ei) {slot : Nat} (hsl : c.h[slot]? = some .free) {kl kc : IntKind} {l m : Int} (h0 : 0 ≤ l) (hlm : l ≤ m) (hsm : m.toNat * ei.size ≤ 16777216) (hby : m.toNat * ei.bytes ≤ 140737488355328) (hpos : 0 < ei.size) :
    ∃ v ρ' w', (Instr.makeSlice t (.int kl l) (.int kc m)).run P c.w = .ok v w' ∧ RelH ⟨ρ', c.h.set slot (.rows ei.size (List.replicate m.toNat ei.zero)), w', c.X⟩ ∧ Ev c ⟨ρ', c.h.set slot (.rows ei.size (List.replicate m.toNat ei.zero)), w', c.X⟩ ∧
      RV ⟨ρ', c.h.set slot (.rows ei.size (List.replicate m.toNat ei.zero)), w', c.X⟩ v (.msl slot ei.size 0 l.toNat m.toNat) := by
  obtain ⟨d, hd, hso⟩ := ht.desc
  unfold sortOk at hso
  rw [hs] at hso
  subst hso
  obtain ⟨ie, z, hi1, hi2, hi3, hi4, hi5, hi6⟩ := (hT _ _ he).info
  have hzl := (hT _ _ he).zl
  have hm : m.toNat ≤ 16777216 := Nat.le_trans (Nat.le_mul_of_pos_right _ hpos) hsm
  have hrun := run_makeSlice (P := P) c.w t ti.elem ie z hd hi1 hi4 kl kc l m h0 hlm (by rw [hi2]; exact hsm) (by
    rw [hi3]
    have : (ei.bytes : Int) * m = ((m.toNat * ei.bytes : Nat) : Int) := by
      rw [Int.natCast_mul, Int.mul_comm]; congr 1; omega
    rw [this]; omega) (by omega)
  have hfl := zeros_flat (c := c) hi5 hzl hi6 m.toNat
  rw [hi2] at hrun
  obtain ⟨h1, h2, h3⟩ := Cx.newRows hc hsl (L := List.replicate m.toNat ei.zero) (cells := madeCells z.cells (m.toNat * ei.size)) hfl ti.elem (c.w.alloc (.cells (madeCells z.cells (m.toNat * ei.size)) ti.elem)) rfl rfl rfl rfl l.toNat m.toNat (by omega) (by unfold maxLen; omega)
  exact ⟨_, _, _, hrun, h1, h2, h3⟩
/-- 'copy', its run. -/
theorem run_copy_at {t u el : Nat} {ie : TypeInfo} (hd : P.underlying t = some (.slice el)) (hi : P.info? el = some ie) (ty : TypeId) {W w' : World} {B : Option Addr} {n cap m : Nat} {vx : Value} {news : List Value} {sl : Nat} (hsl : (Builtin.lenOf vx).run P W = .ok sl W) (hm : Nat.min sl n = m)
    (hn : (Builtin.firstCells ie.size m vx).run P W = .ok news.toArray W) (hst : match B with | none => w' = W | some a => (storeCells a news).run P W = .ok () w') :
    (Builtin.copy_ #[t, u] ty #[.slice B n cap, vx]).run P W = .ok (goInt m) w' := by
  subst hm
  cases B with
  | none => subst hst; simp [Builtin.copy_, run_underlying hd, sizeOf, typeInfo, hi, hsl, hn]
  | some a => simp [Builtin.copy_, run_underlying hd, sizeOf, typeInfo, hi, hsl, hn, hst]
theorem Addr.add_none (b o n : Nat) : (Addr.mk b o none).add n = ⟨b, o + n, none⟩ := by
  unfold Addr.add; split
  · rename_i h; rw [h]; rfl
  · rfl
theorem acopy_core (hT : TabOk P T) (hc : RelH c) {t u : Nat} {ti ei : TI} (ht : TIok P t ti) (hs : ti.sort = .sl) (he : T ti.elem = some ei) (hpos : 0 < ei.size) {i o n cap b o' : Nat} {L : List (List AV)} {vs : Array Value} {e : TypeId} (hR : RowsAt c i ei.size L b vs e) (hncap : n ≤ cap) (ho' : 0 < cap → o' = o * ei.size)
    {Y : List (List AV)} {news : List Value} (hf : FlatP AV.cell c ei.size Y news) {vx : Value} {sl : Nat} (hsl : (Builtin.lenOf vx).run P c.w = .ok sl c.w) (hm : Nat.min sl n = Y.length) (hnews : (Builtin.firstCells ei.size Y.length vx).run P c.w = .ok news.toArray c.w) (hoL : o + Y.length ≤ L.length) (ty : TypeId) :
    ∃ w', (Builtin.copy_ #[t, u] ty #[.slice (some ⟨b, o', none⟩) n cap, vx]).run P c.w = .ok (.int .i64 Y.length) w' ∧ RelH ⟨c.ρ, c.h.set i (.rows ei.size (L.take o ++ Y ++ L.drop (o + Y.length))), w', c.X⟩ ∧ Ev c ⟨c.ρ, c.h.set i (.rows ei.size (L.take o ++ Y ++ L.drop (o + Y.length))), w', c.X⟩ := by
  obtain ⟨d, hd, hso⟩ := ht.desc
  unfold sortOk at hso
  rw [hs] at hso
  subst hso
  obtain ⟨ie, z, hi1, hi2, hi3, hi4, hi5, hi6⟩ := (hT _ _ he).info
  have hsz := hR.size hpos
  have h1 : (o + Y.length) * ei.size ≤ L.length * ei.size := Nat.mul_le_mul_right _ hoL
  rw [Nat.add_mul] at h1
  by_cases hY : Y = []
  · subst hY
    have hn0 : news = [] := by have := hf.len; simpa using this
    subst hn0
    refine ⟨c.w, run_copy_at hd hi1 ty hsl hm (news := []) (by rw [hi2]; exact hnews) (by simp [storeCells]), ?_⟩
    have e1 : L.take o ++ [] ++ L.drop (o + ([] : List (List AV)).length) = L := by simp
    rw [e1]
    have e2 : c.h.set i (.rows ei.size L) = c.h := by
      obtain ⟨g1, g2⟩ := List.getElem?_eq_some_iff.1 hR.hi
      rw [← g2, List.set_getElem_self]
    rw [e2]
    exact ⟨hc, Ev.refl c⟩
  · have hYl : 0 < Y.length := List.length_pos_iff.2 hY
    have hcap : 0 < cap := by
      have : Nat.min sl n ≤ n := Nat.min_le_right _ _
      omega
    obtain rfl := ho' hcap
    have hst := run_storeCells_at P b (o * ei.size) e news 0 vs c.w hR.hh (by rw [hf.len]; omega) (hf.oneC hpos)
    simp only [Nat.add_zero] at hst
    refine ⟨_, run_copy_at hd hi1 ty hsl hm (news := news) (by rw [hi2]; exact hnews) hst, ?_⟩
    exact hR.write hc hpos hf o hoL rfl
theorem acopy_ok (hT : TabOk P T) (hc : RelH c) {t u : Nat} {ti : TI} (ht : TIok P t ti) {vd vx : Value} {d x : AV} (hd : RV c vd d) (hx : RV c vx x) {r : ARes} (hr : acopy T c.h ti d x = some r) (hp : r.p) (ty : TypeId) :
    ∃ q w', (Builtin.copy_ #[t, u] ty #[vd, vx]).run P c.w = .ok q w' ∧ Comes c r q w' := by
  unfold acopy at hr
  split at hr
  · rename_i i k o n cp
    split at hr
    · rename_i k' L ei hi hs he
      cases hd with
      | msl _ _ _ _ _ b o' hkn hb hnt hcap hm ho =>
        obtain ⟨vs, e, hR⟩ := RowsAt.of hc hi hb
        split at hr
        · rename_i k2 l tk
          cases hr
          obtain ⟨rfl, rfl, rfl, hpos, hoL⟩ := hp
          obtain ⟨A, cap2, xs, rfl, hcap2, hm2, hf, _, hcell⟩ := hx.flat
          have hft := hf.take (min l.length n) (Nat.min_le_left _ _)
          have hlm : (l.take (min l.length n)).length = min l.length n := by rw [List.length_take]; omega
          obtain ⟨w', h1, h2, h3⟩ := acopy_core (u := u) hT hc ht hs he hpos hR hcap ho (Y := l.take (min l.length n)) (news := xs.take (min l.length n * ei.size)) ⟨hft.len, hft.el, fun j y i a hy ha => by obtain ⟨g1, g2⟩ := hft.rv j y i a hy ha; exact ⟨AV.plain_cell g1, g2⟩⟩
            (vx := .slice A l.length cap2) (sl := l.length) (by simp [Builtin.lenOf]) (by rw [hlm]) (by
              rw [hlm]
              by_cases hl : l = []
              · subst hl
                have : xs = [] := by have := hf.len; simpa using this
                subst this
                cases A with
                | none => simp [Builtin.firstCells]
                | some a => simpa using run_firstCells_some c.w ei.size 0 a _ cap2 [] (by simp) (fun j v h => by simp at h)
              · obtain ⟨bb, oo, rfl, hcc⟩ := hcell hl
                refine run_firstCells_some c.w ei.size _ _ _ cap2 _ (by rw [hft.len, hlm]) fun j v hj => ?_
                rw [Addr.add_none]
                rw [List.getElem?_take] at hj
                split at hj
                · exact (hcc j v hj).2
                · cases hj) (by rw [hlm]; exact hoL) ty
          rw [hlm] at h1 h2 h3
          exact ⟨_, w', h1, c.ρ, h2, h3, .int _ _⟩
        · rename_i j k2 o2 n2 cp2
          split at hr
          · rename_i k3 M hj
            cases hr
            obtain ⟨rfl, rfl, rfl, rfl, hpos, hoL, hoM, hcl⟩ := hp
            cases hx with
            | msl _ _ _ _ _ b2 o2' hkn2 hb2 hnt2 hcap2 hm2 ho2 =>
              obtain ⟨vs2, e2, hR2⟩ := RowsAt.of hc hj hb2
              obtain ⟨hf, hcell⟩ := hR2.part hpos o2 (min n2 n) hoM hcl
              have hlm : ((M.drop o2).take (min n2 n)).length = min n2 n := by simp; omega
              obtain ⟨w', h1, h2, h3⟩ := acopy_core (u := u) hT hc ht hs he hpos hR hcap ho hf (vx := .slice (some ⟨b2, o2', none⟩) n2 cp2) (sl := n2) (by simp [Builtin.lenOf]) (by rw [hlm]) (by
                rw [hlm]
                by_cases hz : min n2 n = 0
                · rw [hz]
                  simpa using run_firstCells_some c.w ei.size 0 ⟨b2, o2', none⟩ n2 cp2 [] (by simp) (fun j v h => by simp at h)
                · obtain rfl := ho2 (by omega)
                  refine run_firstCells_some c.w ei.size _ _ _ cp2 _ (by rw [hf.len, hlm]) fun j v hj => ?_
                  rw [Addr.add_none]
                  exact hcell j v hj) (by rw [hlm]; exact hoL) ty
              rw [hlm] at h1 h2 h3
              exact ⟨_, w', h1, c.ρ, h2, h3, .int _ _⟩
          · cases hr
        · cases hr
    · cases hr
  · cases hr
theorem zeroCells_flat {ei : TI} {z : Value} (hz : z.cells.size = ei.zero.length) (hzl : ei.zero.length = ei.size) (hzr : ∀ (j : Nat) v a, z.cells[j]? = some v → ei.zero[j]? = some a → a.plain = true ∧ ∀ c, RV c v a) (n : Nat) :
    FlatP AV.cell c ei.size (List.replicate n ei.zero) (Builtin.zeroCells z.cells n).toList := by
  have h := zeros_flat (c := c) hz hzl hzr n
  have hs : z.cells.size = ei.size := hz.trans hzl
  simp only [Builtin.zeroCells, hs] at h ⊢
  exact h
/-- 'clear' of rows. -/
theorem aclear_ok (hT : TabOk P T) (hc : RelH c) {t : Nat} {ti : TI} (ht : TIok P t ti) {v : Value} {x : AV} (hv : RV c v x) {r : ARes} (hr : aclear T c.h ti x = some r) (hp : r.p) (ty : TypeId) :
    ∃ q w', (Builtin.clear_ #[t] ty #[v]).run P c.w = .ok q w' ∧ Comes c r q w' := by
  unfold aclear at hr
  split at hr
  · rename_i i k o n cp
    split at hr
    · rename_i e k' L hs he hi
      cases hr
      obtain ⟨rfl, rfl, hpos, hoL⟩ := hp
      obtain ⟨d, hd, hso⟩ := ht.desc
      unfold sortOk at hso
      rw [hs] at hso
      subst hso
      obtain ⟨ie, z, hi1, hi2, hi3, hi4, hi5, hi6⟩ := (hT _ _ he).info
      have hzl := (hT _ _ he).zl
      have hfl := zeroCells_flat (c := c) hi5 hzl hi6 n
      cases hv with
      | msl _ _ _ _ _ b o' hkn hb hnt hcap hm ho =>
        obtain ⟨vs, te, hR⟩ := RowsAt.of hc hi hb
        have hsz := hR.size hpos
        have h1 : (o + n) * e.size ≤ L.length * e.size := Nat.mul_le_mul_right _ hoL
        rw [Nat.add_mul] at h1
        by_cases hn : n = 0
        · subst hn
          have e1 : L.take o ++ List.replicate 0 e.zero ++ L.drop (o + 0) = L := by simp
          have e2 : c.h.set i (.rows e.size L) = c.h := by
            obtain ⟨g1, g2⟩ := List.getElem?_eq_some_iff.1 hR.hi
            rw [← g2, List.set_getElem_self]
          refine ⟨.tuple #[], c.w, by simp [Builtin.clear_, Sem.run_bind, run_underlying hd], c.ρ, ?_, ?_, .junk _⟩
          · simp only [e1, aupd, e2]; exact hc
          · simp only [e1, aupd, e2]; exact Ev.refl c
        · obtain rfl := ho (by omega)
          have hlr : (List.replicate n e.zero).length = n := by simp
          have hst := run_storeCells_at P b (o * e.size) te (Builtin.zeroCells z.cells n).toList 0 vs c.w hR.hh (by rw [hfl.len, hlr]; omega) (hfl.oneC hpos)
          simp only [Nat.add_zero] at hst
          obtain ⟨g1, g2⟩ := hR.write hc hpos hfl o (by rw [hlr]; exact hoL) rfl
          rw [hlr] at g1 g2
          refine ⟨.tuple #[], _, ?_, c.ρ, g1, g2, .junk _⟩
          · have hzv : (zeroValue ti.elem).run P c.w = .ok z c.w := by simp [zeroValue, typeInfo, hi1, hi4]
            simp [Builtin.clear_, Sem.run_bind, run_underlying hd, hzv, hn, hst]
    · cases hr
  · cases hr
theorem asrcM_ok (hc : RelH c) {k : Nat} (hk : 0 < k) {u : Nat} {ui : TI} (hu : TIok P u ui) {v : Value} {x : AV} (hv : RV c v x) {q : Prop × List (List AV)} (hy : asrcM k c.h ui x = some q) (hq : q.1) :
    (∃ d, P.underlying u = some d ∧ ((∃ e, d = .slice e) ∨ d = .string)) ∧ ∃ news, FlatP AV.cell c k q.2 news ∧ (∀ w, (Builtin.lenOf v).run P w = .ok q.2.length w) ∧ ∀ w : World, w.heap = c.w.heap → (Builtin.firstCells k q.2.length v).run P w = .ok news.toArray w := by
  unfold asrcM at hy
  split at hy
  · rename_i j k2 o2 n2 cp2
    split at hy
    · rename_i k3 M hs hj
      cases hy
      obtain ⟨rfl, rfl, hoM, hcl⟩ := hq
      obtain ⟨d, hd, hso⟩ := hu.desc
      unfold sortOk at hso
      rw [hs] at hso
      subst hso
      cases hv with
      | msl _ _ _ _ _ b2 o2' hkn2 hb2 hnt2 hcap2 hm2 ho2 =>
        obtain ⟨vs2, e2, hR2⟩ := RowsAt.of hc hj hb2
        obtain ⟨hf, hcell⟩ := hR2.part hk o2 n2 hoM hcl
        have hlm : ((M.drop o2).take n2).length = n2 := by simp; omega
        refine ⟨⟨_, hd, .inl ⟨_, rfl⟩⟩, _, hf, fun w => by rw [hlm]; simp [Builtin.lenOf], fun w hw => ?_⟩
        rw [hlm]
        by_cases hz : n2 = 0
        · subst hz
          simpa using run_firstCells_some w k3 0 ⟨b2, o2', none⟩ 0 cp2 [] (by simp) (fun j v h => by simp at h)
        · obtain rfl := ho2 (by omega)
          refine run_firstCells_some w k3 _ _ _ cp2 _ (by rw [hf.len, hlm]) fun j v hj => ?_
          rw [Addr.add_none, cell_of_block (show w.heap[b2]? = c.w.heap[b2]? by rw [hw])]
          exact hcell j v hj
    · cases hy
  · rw [Option.map_eq_some_iff] at hy
    obtain ⟨y, hy, rfl⟩ := hy
    obtain ⟨h1, news, h2, h3, h4⟩ := asrc_ok hu hv hy
    exact ⟨h1, news, ⟨h2.len, h2.el, fun j y i a hy ha => by obtain ⟨g1, g2⟩ := h2.rv j y i a hy ha; exact ⟨AV.plain_cell g1, g2⟩⟩, h3, h4⟩
theorem aappendM_ok (hT : TabOk P T) (hc : RelH c) {t u : Nat} {ti ui : TI} (ht : TIok P t ti) (hu : TIok P u ui) {slot : Nat} {v vx : Value} {s x : AV} (hv : RV c v s) (hx : RV c vx x)
    (hslot : s = .nils → c.h[slot]? = some .free) {r : ARes} (hr : aappendM T slot c.h ti ui s x = some r) (hp : r.p) (ty : TypeId) :
    ∃ q ρ' w', (Builtin.append_ #[t, u] ty #[v, vx]).run P c.w = .ok q w' ∧ RelH ⟨ρ', aupd c.h r.d, w', c.X⟩ ∧ Ev c ⟨ρ', aupd c.h r.d, w', c.X⟩ ∧ RV ⟨ρ', aupd c.h r.d, w', c.X⟩ q r.v := by
  unfold aappendM at hr
  split at hr
  · rename_i i k o n cap
    split at hr
    · rename_i e k' L hs he hi
      obtain ⟨d, hd, hso⟩ := ht.desc
      unfold sortOk at hso
      rw [hs] at hso
      subst hso
      simp only [Option.bind_eq_some_iff] at hr
      obtain ⟨q, hy, hr⟩ := hr
      split at hr
      · rename_i hfit
        cases hr
        obtain ⟨rfl, rfl, hpos, hoL, hq⟩ := hp
        obtain ⟨⟨du, hdu, hn⟩, news, hf, hlen, hnews⟩ := asrcM_ok hc hpos hu hx hy hq
        obtain ⟨ie, z, hi1, hi2, hi3, hi4, hi5, hi6⟩ := (hT _ _ he).info
        cases hv with
        | msl _ _ _ _ _ b o' hkn hb hnt hcap hm ho =>
          obtain ⟨vs, te, hR⟩ := RowsAt.of hc hi hb
          have hsz := hR.size hpos
          have h1 : (o + n + q.2.length) * e.size ≤ L.length * e.size := Nat.mul_le_mul_right _ hoL
          rw [Nat.add_mul] at h1
          by_cases hY : q.2 = []
          · have hn0 : news = [] := by have := hf.len; rw [hY] at this; simpa using this
            subst hn0
            have hrun := run_append_in (P := P) (W := c.w) hd hdu hn hi1 hlen (by rw [hi2]; exact hnews) ty (A := some ⟨b, o', none⟩) (n := n) (cap := cap) hfit (w' := c.w) (by simp [storeCells])
            have e1 : L.take (o + n) ++ q.2 ++ L.drop (o + n + q.2.length) = L := by rw [hY]; simp
            have e2 : c.h.set i (.rows e.size L) = c.h := by
              obtain ⟨g1, g2⟩ := List.getElem?_eq_some_iff.1 hR.hi
              rw [← g2, List.set_getElem_self]
            simp only [e1, aupd, e2]
            exact ⟨_, c.ρ, c.w, hrun, hc, Ev.refl c, .msl _ _ _ _ _ b o' hkn hb hnt hfit hm ho⟩
          · have hYl : 0 < q.2.length := List.length_pos_iff.2 hY
            obtain rfl := ho (by omega)
            have hst := run_storeCells_at P b ((o + n) * e.size) te news 0 vs c.w hR.hh (by rw [hf.len]; omega) (hf.oneC hpos)
            simp only [Nat.add_zero] at hst
            have ea : (Addr.mk b (o * e.size) none).add (n * ie.size) = ⟨b, (o + n) * e.size, none⟩ := by rw [Addr.add_none, hi2, Nat.add_mul]
            have hrun := run_append_in (P := P) (W := c.w) hd hdu hn hi1 hlen (by rw [hi2]; exact hnews) ty (A := some ⟨b, o * e.size, none⟩) (n := n) (cap := cap) hfit (w' := _) (by simp only [ea]; exact hst)
            obtain ⟨g1, g2⟩ := hR.write hc hpos hf (o + n) hoL rfl
            exact ⟨_, c.ρ, _, hrun, g1, g2, .msl _ _ _ _ _ b _ (g2.known hkn) hb (fun y hy => by
              have hil : i < c.h.length := (List.getElem?_eq_some_iff.1 hi).1
              have hy2 : (c.h.set i (.rows e.size (L.take (o + n) ++ q.2 ++ L.drop (o + n + q.2.length))))[i]? = some y := hy
              rw [List.getElem?_set_self hil] at hy2
              cases hy2; rfl) hfit hm (fun _ => rfl)⟩
      · cases hr
    · cases hr
  · exact aappend_ok hT hc ht hu hv hx hslot hr hp ty
theorem acap_ok {t : Nat} {ti : TI} (ht : TIok P t ti) {v : Value} {x : AV} (hv : RV c v x) {r : ARes} (hr : acap ti x = some r) (ty : TypeId) : r.d = none ∧ ∃ q, (Builtin.cap_ #[t] ty #[v]).run P c.w = .ok q c.w ∧ RV c q r.v := by
  obtain ⟨d, hd, hso⟩ := ht.desc
  unfold sortOk at hso
  unfold acap at hr
  split at hr <;> first | cases hr; done | skip
  all_goals (split at hr <;> first | cases hr; done | skip)
  all_goals (rename_i hs; rw [hs] at hso; subst hso; cases hr)
  · cases hv; exact ⟨rfl, _, by simp [Builtin.cap_, Sem.run_bind, run_underlying hd, goInt], .int _ _⟩
  · cases hv; exact ⟨rfl, _, by simp [Builtin.cap_, Sem.run_bind, run_underlying hd, goInt], .int _ _⟩
end
end Go.Proofs.YtgonmnjgodleeaaDoor
