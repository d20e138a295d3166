/-
  The shadow of a run: append, structs and rows that are built, conversions; and all simple operations together. Nothing here speaks of the program.
-/
import Derived.Test.YtgonmnjgodleeaaDoorAz
import Derived.Great.BuildSlice
namespace Go.Proofs.YtgonmnjgodleeaaDoor
open Go.RowKit
section
variable {P : Program} {T : TabT} {c : Cx}
theorem aappend_ok (hT : TabOk P T) (hc : RelH c) {t u : Nat} {ti ui : TI} (ht : TIok P t ti) (hu : TIok P u ui) {slot : Nat} {v vx : Value} {s x : AV} (hv : RV c v s) (hx : RV c vx x)
    (hslot : s = .nils → c.h[slot]? = some .free) {r : ARes} (hr : aappend T slot c.h ti ui s x = some r) (hp : r.p) (ty : TypeId) :
    ∃ q ρ' w', (Builtin.append_ #[t, u] ty #[v, vx]).run P c.w = .ok q w' ∧ RelH ⟨ρ', aupd c.h r.d, w', c.X⟩ ∧ Ev c ⟨ρ', aupd c.h r.d, w', c.X⟩ ∧ RV ⟨ρ', aupd c.h r.d, w', c.X⟩ q r.v := by
  obtain ⟨d, hd, hso⟩ := ht.desc
  unfold sortOk at hso
  unfold aappend at hr
  split at hr
  · rename_i e hs he
    rw [hs] at hso
    subst hso
    simp only [Option.bind_eq_some_iff] at hr
    obtain ⟨y, hy, hr⟩ := hr
    obtain ⟨ie, z, hi1, hi2, hi3, hi4, hi5, _⟩ := (hT _ _ he).info
    have hzs : z.cells.size = ie.size := by rw [hi5, (hT _ _ he).zl, hi2]
    rw [← hi2] at hy
    obtain ⟨⟨du, hdu, hn⟩, news, hf, hlen, hnews⟩ := asrc_ok hu hx hy
    split at hr
    · cases hr
      cases hv
      obtain ⟨p1, p2⟩ := hp
      rw [← hi3] at p1
      have := append_core (P := P) hc hd hdu hn hi1 hi4 hzs hf hlen hnews ty none 0 slot [] [] .free (Nat.le_refl _) (by unfold maxLen; omega) Flat.nil (hslot rfl) (fun h => absurd rfl h) (.inl ⟨rfl, rfl, rfl⟩) (by simpa using p1) (by simpa using p2)
      simp only [List.length_nil, Nat.zero_add, List.nil_append, hi2] at this
      exact this
    · rename_i k l i
      split at hr
      · rename_i k' n hi
        cases hr
        obtain ⟨rfl, rfl, rfl, p1, p2⟩ := hp
        obtain ⟨A, cap, xs, rfl, hcap, hm, hfl, htk, hcell⟩ := hv.flat
        obtain ⟨_, htk⟩ := htk
        obtain ⟨_, _, g3⟩ := htk _ _ hi
        rw [← hi3] at p1
        rw [← hi2] at hfl hi g3
        have := append_core (P := P) hc hd hdu hn hi1 hi4 hzs hf hlen hnews ty A cap i l xs _ hcap hm hfl hi hcell (.inr ⟨rfl, g3 rfl⟩) p1 p2
        rw [hi2] at this
        exact this
      · cases hr
    · cases hr
  · cases hr
/-- A part laid into cells. -/
theorem fill_one {place : Nat → Option (Nat × Nat)} {cells : Array Value} {i o s : Nat} {v : Value} {rest : List (Nat × Value)} (hp : place i = some (o, s)) (hs : v.cells.size = s) (hle : o + s ≤ cells.size) :
    ∃ cells' : Array Value, Instr.fill place cells ((i, v) :: rest) = Instr.fill place cells' rest ∧ cells'.size = cells.size ∧ ∀ j : Nat, cells'[j]? = if j < o then cells[j]? else if j < o + s then v.cells[j - o]? else cells[j]? := by
  obtain ⟨g1, g2⟩ := Great.foldl_set o v.cells.toList 0 cells
  refine ⟨_, ?_, g1, fun j => ?_⟩
  · conv => lhs; unfold Instr.fill
    simp only [hp, hs]
    rw [if_neg (by simp; omega)]
    congr 1
    rw [← Array.foldl_toList]
    congr 1
    simp
  · rw [g2 j]
    simp only [Nat.add_zero, Array.length_toList, hs]
    by_cases h1 : j < o
    · rw [if_neg (by omega), if_pos h1]
    · rw [if_neg h1]
      by_cases h2 : j < o + s
      · rw [if_pos ⟨by omega, h2, by omega⟩, if_pos h2]; simp
      · rw [if_neg (by omega), if_neg h2]
/-- Cells, one by one. -/
def CellsAt (c : Cx) (vs : Array Value) (cs : List AV) : Prop := vs.size = cs.length ∧ ∀ (j : Nat) v a, vs[j]? = some v → cs[j]? = some a → a.cell = true ∧ RV c v a
theorem CellsAt.lay {vs vs' : Array Value} {cs : List AV} (h : CellsAt c vs cs) {v : Value} {x : AV} (hv : RV c v x) (hx : x.whole = true) {o s : Nat} (hs : x.cells.length = s) (ho : o + s ≤ cs.length) (hz : vs'.size = vs.size)
    (hj : ∀ j : Nat, vs'[j]? = if j < o then vs[j]? else if j < o + s then v.cells[j - o]? else vs[j]?) : CellsAt c vs' (lay cs o x.cells) := by
  obtain ⟨q1, q2⟩ := hv.cells hx
  refine ⟨by rw [hz, h.1, length_lay (by omega)], fun j u a hu ha => ?_⟩
  rw [hj j] at hu
  rw [getElem?_lay (by omega), hs] at ha
  split at hu
  · rename_i h1; rw [if_pos h1] at ha; exact h.2 j u a hu ha
  · rename_i h1
    rw [if_neg h1] at ha
    split at hu
    · rename_i h2; rw [if_pos h2] at ha; exact q2 _ u a hu ha
    · rename_i h2; rw [if_neg h2] at ha; exact h.2 j u a hu ha
theorem abuild_fill (hT : TabOk P T) {ti : TI} {place : Nat → Option (Nat × Nat)} (hpl : ∀ (i o ft : Nat) fi, ti.offs[i]? = some (o, ft) → T ft = some fi → place i = some (o, fi.size)) :
    ∀ (parts : List (Nat × AV)) (vals : List (Nat × Value)) (cs : List AV) (vs : Array Value) (q : Prop × List AV), vals.length = parts.length → (∀ (j : Nat) p v, parts[j]? = some p → vals[j]? = some v → v.1 = p.1 ∧ RV c v.2 p.2) → CellsAt c vs cs → abuild T ti parts cs = some q → q.1 →
      ∃ r, Instr.fill place vs vals = some r ∧ CellsAt c r q.2
  | [], [], cs, vs, q, _, _, h, hq, _ => by
    simp only [abuild, Option.some.injEq] at hq
    subst hq
    exact ⟨vs, rfl, h⟩
  | (i, x) :: parts, [], cs, vs, q, hl, _, _, _, _ => by simp at hl
  | [], _ :: _, cs, vs, q, hl, _, _, _, _ => by simp at hl
  | (i, x) :: parts, (i', v) :: vals, cs, vs, q, hl, hr, h, hq, hp => by
    obtain ⟨e1, e2⟩ := hr 0 _ _ rfl rfl
    simp only at e1 e2
    subst e1
    simp only [abuild] at hq
    split at hq
    · rename_i o ft ho hw
      simp only [Option.bind_eq_some_iff, Option.map_eq_some_iff] at hq
      obtain ⟨fi, hfi, q', hq', rfl⟩ := hq
      obtain ⟨⟨p1, p2⟩, p3⟩ := hp
      obtain ⟨q1, _⟩ := e2.cells hw
      obtain ⟨vs', hf, hz, hj⟩ := fill_one (rest := vals) (hpl _ o ft fi ho hfi) (q1.trans p1) (by rw [h.1]; exact p2)
      obtain ⟨r, hr1, hr2⟩ := abuild_fill hT hpl parts vals _ vs' q' (by simpa using hl) (fun j p w hp hw => hr (j + 1) p w (by simpa using hp) (by simpa using hw)) (h.lay e2 hw p1 p2 hz hj) hq' p3
      exact ⟨r, hf.trans hr1, hr2⟩
    · cases hq
theorem mapM_places (hT : TabOk P T) : ∀ (fs : List Field), (∀ f ∈ fs, ∃ i, P.info? f.type = some i ∧ i.size ≠ 0) → ∃ places, fs.mapM (fun f => (P.info? f.type).map fun i => (f.offset, i.size)) = some places ∧
    ∀ (j : Nat) f fi, fs[j]? = some f → T f.type = some fi → places[j]? = some (f.offset, fi.size)
  | [], _ => ⟨[], by simp, fun j f fi h => by simp at h⟩
  | f :: fs, h => by
    obtain ⟨i, hi, _⟩ := h f (by simp)
    obtain ⟨pl, h1, h2⟩ := mapM_places hT fs (fun g hg => h g (by simp [hg]))
    refine ⟨(f.offset, i.size) :: pl, by simp [List.mapM_cons, hi, h1], fun j g fi hj hfi => ?_⟩
    cases j with
    | zero =>
      simp only [List.getElem?_cons_zero, Option.some.injEq] at hj
      subst hj
      obtain ⟨i', _, w1, w2, _⟩ := (hT _ _ hfi).info
      rw [hi] at w1
      cases w1
      simp [w2]
    | succ j => simpa using h2 j g fi (by simpa using hj) hfi
theorem TRel.parts {a : Act} {t : List AV} (h : TRel c a.tmps t) (ps : List (Nat × Operand)) : ∀ (j : Nat) p v, (ps.map fun q => (q.1, aev t q.2))[j]? = some p → (ps.map fun q => (q.1, a.eval q.2))[j]? = some v → v.1 = p.1 ∧ RV c v.2 p.2 := by
  intro j p v hp hv
  rw [List.getElem?_map] at hp hv
  simp only [Option.map_eq_some_iff] at hp hv
  obtain ⟨q, hq, rfl⟩ := hp
  obtain ⟨q', hq', rfl⟩ := hv
  rw [hq] at hq'
  cases hq'
  exact ⟨rfl, h.ev _⟩
theorem abuild_ok (hT : TabOk P T) {t : Nat} {ti : TI} (ht : TIok P t ti) (hs : ti.sort = .st) {a : Act} {tm : List AV} (hr : TRel c a.tmps tm) (ps : Array (Nat × Operand)) {q : Prop × List AV}
    (hq : abuild T ti (ps.toList.map fun q => (q.1, aev tm q.2)) ti.zero = some q) (hp : q.1) :
    ∃ v, (Instr.build t (ps.map fun (i, x) => (i, a.eval x))).run P c.w = .ok v c.w ∧ RV c v (.agg q.2) := by
  obtain ⟨d, hd, hso⟩ := ht.desc
  unfold sortOk at hso
  rw [hs] at hso
  obtain ⟨fs, rfl, h1, h2⟩ := hso
  obtain ⟨it, z, hi1, hi2, hi3, hi4, hi5, hi6⟩ := ht.info
  obtain ⟨pl, hm, hpl⟩ := mapM_places hT fs.toList h2
  obtain ⟨r, hf, hcr⟩ := abuild_fill (c := c) hT (ti := ti) (place := (pl.toArray[·]?)) (fun i o ft fi ho hfi => by
      rw [← h1, List.getElem?_map] at ho
      simp only [Option.map_eq_some_iff] at ho
      obtain ⟨f, hf, he⟩ := ho
      cases he
      simpa using hpl i f fi hf hfi) _ (ps.toList.map fun q => (q.1, a.eval q.2)) ti.zero z.cells q (by simp) (hr.parts ps.toList) ⟨hi5, fun j v x hv hx => ⟨AV.plain_cell (hi6 j v x hv hx).1, (hi6 j v x hv hx).2 c⟩⟩ hq hp
  refine ⟨.agg r, run_build c.w t _ r ?_, .agg r q.2 hcr.1 (fun j x hx => ?_) (fun j v x hv hx => (hcr.2 j v x hv hx).2)⟩
  · unfold Program.built
    simp only [hi1, hd, hi4, hm]
    have e : (ps.map fun (i, x) => (i, a.eval x)).toList = ps.toList.map fun q => (q.1, a.eval q.2) := by simp
    rw [e]
    exact hf
  · have hj : j < r.size := by rw [hcr.1]; exact (List.getElem?_eq_some_iff.1 hx).1
    exact (hcr.2 j r[j] x (Array.getElem?_eq_getElem hj) hx).1
theorem RV.bare {v : Value} {a : AV} (h : RV c v a) : RV c v a.bare := by
  cases h with
  | sl k l t A n cap b o vs hn hcap hm hA hk hc hr ht => exact .sl k l .no A n cap b o vs hn hcap hm hA hk hc hr trivial
  | ptr i o b h1 h2 h3 => exact .ptr i o b h1 h2 h3
  | mp i b h1 h2 h3 => exact .mp i b h1 h2 h3
  | msl i k o n cap b o' h1 h2 h3 h4 h5 h6 => exact .msl i k o n cap b o' h1 h2 h3 h4 h5 h6
  | msu i k n cap b h1 h2 h3 h4 h5 h6 => exact .msu i k n cap b h1 h2 h3 h4 h5 h6
  | eptr i k j o b h1 h2 h3 => exact .eptr i k j o b h1 h2 h3
  | _ => constructor <;> assumption
theorem AV.bare_cell {a : AV} (h : a.cell = true) : a.bare.cell = true := by cases a <;> first | rfl | cases h
theorem RV.bcells {v : Value} {a : AV} (h : RV c v a) (ha : a.whole = true) : v.cells.size = (a.cells.map AV.bare).length ∧ ∀ (j : Nat) u x, v.cells[j]? = some u → (a.cells.map AV.bare)[j]? = some x → x.cell = true ∧ RV c u x := by
  obtain ⟨q1, q2⟩ := h.cells ha
  refine ⟨by simpa using q1, fun j u x hu hx => ?_⟩
  rw [List.getElem?_map] at hx
  simp only [Option.map_eq_some_iff] at hx
  obtain ⟨y, hy, rfl⟩ := hx
  obtain ⟨g1, g2⟩ := q2 j u y hu hy
  exact ⟨AV.bare_cell g1, g2.bare⟩
theorem FlatP.set {k : Nat} {l : List (List AV)} {xs xs' : List Value} (h : FlatP AV.cell c k l xs) {v : Value} {x : AV} (hv : RV c v x) (hx : x.whole = true) {i : Nat} (hi : i < l.length) (hk : x.cells.length = k) (hz : xs'.length = xs.length)
    (hj : ∀ j : Nat, xs'[j]? = if j < i * k then xs[j]? else if j < i * k + k then v.cells[j - i * k]? else xs[j]?) : FlatP AV.cell c k (l.set i (x.cells.map AV.bare)) xs' := by
  obtain ⟨q1, q2⟩ := hv.bcells hx
  rw [List.length_map] at q1
  refine ⟨by rw [hz, h.len, List.length_set], fun j e he => ?_, fun j e m a he ha => ?_⟩
  · rw [List.getElem?_set] at he
    by_cases hji : i = j
    · subst hji; rw [if_pos rfl, if_pos hi] at he; cases he; simpa using hk
    · rw [if_neg hji] at he; exact h.el j e he
  · rw [List.getElem?_set] at he
    by_cases hji : i = j
    · subst hji
      rw [if_pos rfl, if_pos hi] at he
      cases he
      have hm : m < k := by rw [← hk]; simpa using (List.getElem?_eq_some_iff.1 ha).1
      have hmv : m < v.cells.size := by rw [q1, hk]; exact hm
      obtain ⟨g1, g2⟩ := q2 m _ a (Array.getElem?_eq_getElem hmv) ha
      refine ⟨g1, _, ?_, g2⟩
      rw [hj, if_neg (by omega), if_pos (by omega), show i * k + m - i * k = m by omega]
      exact Array.getElem?_eq_getElem hmv
    · rw [if_neg hji] at he
      obtain ⟨g1, u, g2, g3⟩ := h.rv j e m a he ha
      have hm : m < k := by rw [← h.el j e he]; exact (List.getElem?_eq_some_iff.1 ha).1
      refine ⟨g1, u, ?_, g3⟩
      rw [hj]
      rcases Nat.lt_or_gt_of_ne hji with hlt | hgt
      · have : (i + 1) * k ≤ j * k := Nat.mul_le_mul_right k hlt
        rw [Nat.add_mul] at this
        rw [if_neg (by omega), if_neg (by omega)]; exact g2
      · have : (j + 1) * k ≤ i * k := Nat.mul_le_mul_right k hgt
        rw [Nat.add_mul] at this
        rw [if_pos (by omega)]; exact g2
theorem aelems_fill {k : Nat} : ∀ (parts : List (Nat × AV)) (vals : List (Nat × Value)) (l : List (List AV)) (vs : Array Value) (q : Prop × List (List AV)), vals.length = parts.length → (∀ (j : Nat) p v, parts[j]? = some p → vals[j]? = some v → v.1 = p.1 ∧ RV c v.2 p.2) → FlatP AV.cell c k l vs.toList → aelems k parts l = some q → q.1 →
      ∃ r, Instr.fill (fun i => some (i * k, k)) vs vals = some r ∧ FlatP AV.cell c k q.2 r.toList ∧ q.2.length = l.length
  | [], [], l, vs, q, _, _, h, hq, _ => by
    simp only [aelems, Option.some.injEq] at hq
    subst hq
    exact ⟨vs, rfl, h, rfl⟩
  | (i, x) :: parts, [], cs, vs, q, hl, _, _, _, _ => by simp at hl
  | [], _ :: _, cs, vs, q, hl, _, _, _, _ => by simp at hl
  | (i, x) :: parts, (i', v) :: vals, l, vs, q, hl, hr, h, hq, hp => by
    obtain ⟨e1, e2⟩ := hr 0 _ _ rfl rfl
    simp only at e1 e2
    subst e1
    simp only [aelems] at hq
    split at hq
    · rename_i hw
      simp only [Option.map_eq_some_iff] at hq
      obtain ⟨q', hq', rfl⟩ := hq
      obtain ⟨⟨p1, p2⟩, p3⟩ := hp
      obtain ⟨q1, _⟩ := e2.cells hw
      have hle : i' * k + k ≤ vs.size := by
        have := h.len
        simp only [Array.length_toList] at this
        have h2 : (i' + 1) * k ≤ l.length * k := Nat.mul_le_mul_right k p2
        rw [Nat.add_mul] at h2; omega
      obtain ⟨vs', hf, hz, hj⟩ := fill_one (place := fun i => some (i * k, k)) (rest := vals) (i := i') rfl (q1.trans p1) hle
      obtain ⟨r, hr1, hr2, hr3⟩ := aelems_fill parts vals (l.set i' (x.cells.map AV.bare)) vs' q' (by simpa using hl) (fun j p w hp hw => hr (j + 1) p w (by simpa using hp) (by simpa using hw)) (h.set e2 hw p2 p1 (by simpa using hz) (fun j => by simpa using hj j)) hq' p3
      exact ⟨r, hf.trans hr1, hr2, by rw [hr3, List.length_set]⟩
    · cases hq
theorem flat_plain {k : Nat} {l : List (List AV)} {xs : List Value} (h : FlatP AV.cell c k l xs) (hp : plains l = true) : Flat c k l xs :=
  ⟨h.len, h.el, fun j e i a he ha => by
    obtain ⟨_, g⟩ := h.rv j e i a he ha
    refine ⟨?_, g⟩
    have h1 := (List.all_eq_true.1 hp) e (List.mem_of_getElem? he)
    exact (List.all_eq_true.1 h1) a (List.mem_of_getElem? ha)⟩
end
end Go.Proofs.YtgonmnjgodleeaaDoor
