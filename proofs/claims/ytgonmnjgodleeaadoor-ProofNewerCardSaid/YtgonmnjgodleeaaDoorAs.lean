/-
  The shadow of a run: what one simple operation is said to do (aop), it does. Nothing here speaks of the program.
-/
import Derived.Test.YtgonmnjgodleeaaDoorAt
namespace Go.Proofs.YtgonmnjgodleeaaDoor
open Go.RowKit
/-- The temporaries read as. -/
def TRel (c : Cx) (vs : Array Value) (t : List AV) : Prop := vs.size = t.length ∧ ∀ (i : Nat) v x, vs[i]? = some v → t[i]? = some x → RV c v x
theorem TRel.mono {c c' : Cx} (h : Ev c c') {vs : Array Value} {t : List AV} (ht : TRel c vs t) : TRel c' vs t := ⟨ht.1, fun i v x hv hx => (ht.2 i v x hv hx).mono h⟩
theorem aconst_ok (c : Cx) (v : Value) : RV c v (aconst v) := by
  unfold aconst
  split
  · exact .int _ _
  · exact .bool _
  · exact .str _ _ rfl
  · exact .nilp
  · exact .nils
  · exact .nilf
  · exact .nilI
  · exact .nilm
  · exact .junk _
theorem TRel.ev {c : Cx} {a : Act} {t : List AV} (h : TRel c a.tmps t) (x : Operand) : RV c (a.eval x) (aev t x) := by
  cases x with
  | const v => exact aconst_ok c v
  | global g => exact .junk _
  | func f => exact .fn _ _ _ _ _ rfl rfl (fun i v a hv => by simp at hv) (fun i v a hv => by simp at hv)
  | tmp i =>
    simp only [Act.eval, aev]
    by_cases hi : i < t.length
    · have hi' : i < a.tmps.size := by rw [h.1]; exact hi
      have := h.2 i a.tmps[i] t[i] (Array.getElem?_eq_getElem hi') (List.getElem?_eq_getElem hi)
      simpa [Array.getD_eq_getD_getElem?, List.getD_eq_getElem?_getD, hi, hi'] using this
    · rw [List.getD_eq_getElem?_getD, List.getElem?_eq_none (Nat.le_of_not_lt hi)]
      exact .junk _
theorem TRel.put {c : Cx} {a : Act} {t : List AV} (h : TRel c a.tmps t) (d : Option Tmp) {v : Value} {x : AV} (hv : RV c v x) : TRel c (a.put d v).tmps (aput t d x) := by
  cases d with
  | none => exact h
  | some i =>
    refine ⟨by simp [Act.put, aput, h.1], fun j u y hu hy => ?_⟩
    simp only [Act.put, aput] at hu hy
    rw [Array.getElem?_setIfInBounds] at hu
    rw [List.getElem?_set] at hy
    by_cases hj : i = j
    · subst hj
      simp only [if_true] at hu hy
      split at hu
      · split at hy
        · cases hu; cases hy; exact hv
        · cases hy
      · cases hu
    · simp only [hj, if_false] at hu hy
      exact h.2 j u y hu hy
def OpOk (P : Program) (c : Cx) (s : Sem Next) (r : ARes) : Prop :=
  ∃ nx v ρ' w', s.run P c.w = .ok nx w' ∧ (nx = .value v ∨ (nx = .skip ∧ v = undef)) ∧ RelH ⟨ρ', aupd c.h r.d, w', c.X⟩ ∧ Ev c ⟨ρ', aupd c.h r.d, w', c.X⟩ ∧ RV ⟨ρ', aupd c.h r.d, w', c.X⟩ v r.v
theorem OpOk.pure {P : Program} {c : Cx} (hc : RelH c) {s : Sem Next} {r : ARes} {v : Value} (hs : s.run P c.w = .ok (.value v) c.w) (hv : RV c v r.v) (hd : r.d = none) : OpOk P c s r :=
  ⟨_, v, c.ρ, c.w, hs, .inl rfl, by rw [hd]; exact hc, by rw [hd]; exact Ev.refl c, by rw [hd]; exact hv⟩
section
variable {P : Program} {T : TabT} (hT : TabOk P T) {c : Cx} (hc : RelH c)
include hc
theorem BlkOk.cells {i : Nat} {cs : List AV} {b : Nat} (hi : c.h[i]? = some (.box cs)) (hb : c.ρ i = some b) (o : Nat) : Cells c b o (cs.drop o) := by
  obtain ⟨b', vs, e, h1, h2, h3, h4⟩ := hc.blk i _ hi
  rw [hb] at h1
  obtain rfl := Option.some.inj h1
  intro j a ha
  rw [List.getElem?_drop] at ha
  obtain ⟨g1, v, g2, g3⟩ := h4 _ a ha
  exact ⟨g1, v, by rw [cell_of_row c.w b (o + j) vs e (0, 0) h2]; exact g2, g3⟩
theorem BlkOk.rcells {i k : Nat} {l : List (List AV)} {b : Nat} (hi : c.h[i]? = some (.rows k l)) (hb : c.ρ i = some b) (j o n : Nat) (hj : j < l.length) (hcl : (((l.getD j []).drop o).take n).all AV.cell = true) : Cells c b (j * k + o) (((l.getD j []).drop o).take n) := by
  obtain ⟨b', vs, e, h1, h2, h3, h4⟩ := hc.blk i _ hi
  rw [hb] at h1
  obtain rfl := Option.some.inj h1
  intro m a ha
  have hcell := List.all_eq_true.1 hcl a (List.mem_of_getElem? ha)
  rw [List.getElem?_take] at ha
  split at ha
  · rw [List.getElem?_drop, List.getD_eq_getElem?_getD, List.getElem?_eq_getElem hj] at ha
    obtain ⟨v, g2, g3⟩ := h4 j _ _ a (List.getElem?_eq_getElem hj) ha
    exact ⟨hcell, v, by rw [cell_of_row c.w b _ vs e (0, 0) h2, Nat.add_assoc]; exact g2, g3⟩
  · cases ha
omit hc in
theorem RV.rcells {b o : Nat} {cs : List AV} {p : Option Addr} (h : RV c (.pointer p) (.rptr cs)) : ∃ b o, p = some ⟨b, o, none⟩ ∧ Cells c b o cs := by
  cases h with
  | rptr _ b o vs hc hr => exact ⟨b, o, rfl, fun j a ha => ⟨(hc j a ha).1, vs j, (hc j a ha).2.2, hr j a ha⟩⟩
omit hc in
theorem Cells.take {b o : Nat} {xs : List AV} (h : Cells c b o xs) (n : Nat) : Cells c b o (xs.take n) := fun j a ha => by
  rw [List.getElem?_take] at ha
  split at ha
  · exact h j a ha
  · cases ha
theorem aload_ok {t : Nat} {ti : TI} (ht : TIok P t ti) {v : Value} {x : AV} (hv : RV c v x) {r : ARes} (hr : aload c.h ti x = some r) (hp : r.p) :
    r.d = none ∧ ∃ u, (Instr.loadAt t v).run P c.w = .ok u c.w ∧ RV c u r.v := by
  unfold aload at hr
  split at hr
  · rename_i i o
    cases hv with
    | ptr _ _ b hk hb hn =>
      split at hr
      · rename_i cs hi
        simp only [Option.map_eq_some_iff] at hr
        obtain ⟨y, hy, rfl⟩ := hr
        exact ⟨rfl, load_ok ht ((BlkOk.cells hc hi hb o).take ti.size) (by simp; simp at hp; omega) hy⟩
      · cases hr
  · rename_i cs
    simp only [Option.map_eq_some_iff] at hr
    obtain ⟨y, hy, rfl⟩ := hr
    cases hv with
    | rptr _ b o vs h1 h2 =>
      exact ⟨rfl, load_ok ht ((show Cells c b o cs from fun j a ha => ⟨(h1 j a ha).1, vs j, (h1 j a ha).2.2, h2 j a ha⟩).take ti.size) (by simp; simp at hp; omega) hy⟩
  · rename_i i k j o
    cases hv with
    | eptr _ _ _ _ b hk hb hn =>
      split at hr
      · rename_i k' l hi
        split at hr
        · rename_i hcl
          simp only [Option.map_eq_some_iff] at hr
          obtain ⟨y, hy, rfl⟩ := hr
          obtain ⟨rfl, hj, ho⟩ := hp
          have hlen : (l.getD j []).length = k' := by
            obtain ⟨_, _, _, _, _, h3, _⟩ := hc.blk i _ hi
            rw [List.getD_eq_getElem?_getD, List.getElem?_eq_getElem hj]
            exact h3 j _ (List.getElem?_eq_getElem hj)
          exact ⟨rfl, load_ok ht (BlkOk.rcells hc hi hb j o ti.size hj hcl) (by rw [List.length_take, List.length_drop, hlen]; omega) hy⟩
        · cases hr
      · cases hr
  · cases hr
/-- A new variable. -/
theorem new_ok {slot : Nat} (hs : c.h[slot]? = some .free) (cs : List AV) (vs : Array Value) (e : TypeId) (hl : vs.size = cs.length) (h : ∀ (j : Nat) v a, vs[j]? = some v → cs[j]? = some a → a.cell = true ∧ RV c v a) :
    RelH ⟨setρ c.ρ slot (some c.w.heap.size), c.h.set slot (.box cs), c.w.alloc (.cells vs e), c.X⟩ ∧ Ev c ⟨setρ c.ρ slot (some c.w.heap.size), c.h.set slot (.box cs), c.w.alloc (.cells vs e), c.X⟩ ∧
      RV ⟨setρ c.ρ slot (some c.w.heap.size), c.h.set slot (.box cs), c.w.alloc (.cells vs e), c.X⟩ (.pointer (some ⟨c.w.heap.size, 0, none⟩)) (.ptr slot 0) := by
  have hsl : slot < c.h.length := (List.getElem?_eq_some_iff.1 hs).1
  obtain ⟨h1, h2⟩ := Cx.alloc hc slot .free hs (.box cs) (.inl rfl) rfl (c.w.alloc (.cells vs e)) (.cells vs e) rfl rfl rfl rfl (fun hev => by
    refine ⟨c.w.heap.size, vs, e, setρ_same _ _ _, (by show (c.w.heap.push _)[c.w.heap.size]? = _; simp), hl, fun j a ha => ?_⟩
    have hj : j < vs.size := by rw [hl]; exact (List.getElem?_eq_some_iff.1 ha).1
    obtain ⟨g1, g2⟩ := h j vs[j] a (Array.getElem?_eq_getElem hj) ha
    exact ⟨g1, vs[j], Array.getElem?_eq_getElem hj, g2.mono hev⟩)
  refine ⟨h1, h2, .ptr _ _ _ ⟨_, List.getElem?_set_self hsl, rfl⟩ (setρ_same _ _ _) fun x hx => ?_⟩
  rw [List.getElem?_set_self hsl] at hx
  cases hx; rfl
omit hc in
theorem getElem?_lay {cs xs : List AV} {o : Nat} (ho : o + xs.length ≤ cs.length) (j : Nat) : (lay cs o xs)[j]? = if j < o then cs[j]? else if j < o + xs.length then xs[j - o]? else cs[j]? := by
  unfold lay
  by_cases h1 : j < o
  · rw [if_pos h1, List.append_assoc, List.getElem?_append_left (by simp; omega), List.getElem?_take, if_pos h1]
  · rw [if_neg h1, List.append_assoc, List.getElem?_append_right (by simp; omega)]
    have e1 : min o cs.length = o := by omega
    simp only [List.length_take, e1]
    by_cases h2 : j < o + xs.length
    · rw [if_pos h2, List.getElem?_append_left (by omega)]
    · rw [if_neg h2, List.getElem?_append_right (by omega), List.getElem?_drop]
      congr 1; omega
omit hc in
theorem getElem?_layV {cs xs : List Value} {o : Nat} (ho : o + xs.length ≤ cs.length) (j : Nat) : (cs.take o ++ xs ++ cs.drop (o + xs.length))[j]? = if j < o then cs[j]? else if j < o + xs.length then xs[j - o]? else cs[j]? := by
  by_cases h1 : j < o
  · rw [if_pos h1, List.append_assoc, List.getElem?_append_left (by simp; omega), List.getElem?_take, if_pos h1]
  · rw [if_neg h1, List.append_assoc, List.getElem?_append_right (by simp; omega)]
    have e1 : min o cs.length = o := by omega
    simp only [List.length_take, e1]
    by_cases h2 : j < o + xs.length
    · rw [if_pos h2, List.getElem?_append_left (by omega)]
    · rw [if_neg h2, List.getElem?_append_right (by omega), List.getElem?_drop]
      congr 1; omega
omit hc in
theorem length_lay {cs xs : List AV} {o : Nat} (ho : o + xs.length ≤ cs.length) : (lay cs o xs).length = cs.length := by
  unfold lay; simp; omega
theorem astore_ok {t : Nat} {ti : TI} (ht : TIok P t ti) {p u : Value} {x y : AV} (hp' : RV c p x) (hu : RV c u y) {r : ARes} (hr : astore c.h ti y x = some r) (hp : r.p) :
    ∃ ρ' w', (Instr.storeAt t p u).run P c.w = .ok () w' ∧ RelH ⟨ρ', aupd c.h r.d, w', c.X⟩ ∧ Ev c ⟨ρ', aupd c.h r.d, w', c.X⟩ := by
  unfold astore at hr
  split at hr
  · rename_i i o
    cases hp' with
    | ptr _ _ b hk hb hn =>
      split at hr
      · rename_i cs hi hy
        cases hr
        obtain ⟨ho, hl⟩ := hp
        obtain ⟨q1, q2⟩ := hu.cells hy
        obtain ⟨b', vs, e, h1, h2, h3, h4⟩ := hc.blk i _ hi
        rw [hb] at h1
        obtain rfl := Option.some.inj h1
        have h1c : ∀ v ∈ u.cells.toList, v.oneCell' = true := by
          intro v hv
          obtain ⟨j, hj⟩ := List.getElem?_of_mem hv
          have hj' : u.cells[j]? = some v := by simpa using hj
          have hjl : j < y.cells.length := by rw [← q1]; exact (Array.getElem?_eq_some_iff.1 hj').1
          obtain ⟨g1, g2⟩ := q2 j v _ hj' (List.getElem?_eq_getElem hjl)
          exact g2.one g1
        have hst := store_ok ht h2 (o := o) (q1.trans hl) (by rw [h3]; exact ho) h1c
        refine ⟨c.ρ, _, hst, ?_⟩
        have hux : u.cells.toList.length = ti.size := by simp [q1, hl]
        refine Cx.write hc i (.box cs) (.box (lay cs o y.cells)) b hi hb rfl rfl _ (by simp) rfl rfl rfl (fun b' hb' => setRow_other _ _ _ _ hb') (fun o h => h.elim) (.inl ⟨rfl, rfl⟩) (fun vs' e' f h0 => by rw [h2] at h0; cases h0; exact ⟨_, setRow_heap _ _ _ _ _ _ h2, by simp; omega⟩) fun hev => ?_
        refine ⟨b, _, e, hb, setRow_heap _ _ _ _ _ _ h2, ?_, fun j a ha => ?_⟩
        · rw [length_lay (by omega)]; simp; omega
        · rw [getElem?_lay (by omega)] at ha
          have hva := getElem?_layV (cs := vs.toList) (xs := u.cells.toList) (o := o) (by rw [hux]; simp; omega) j
          rw [hux] at hva
          simp only [List.getElem?_toArray, hva]
          rw [hl] at ha
          split at ha
          · rename_i hj
            obtain ⟨g1, v, g2, g3⟩ := h4 j a ha
            exact ⟨g1, v, by rw [if_pos hj]; simpa using g2, g3.mono hev⟩
          · rename_i hj
            split at ha
            · rename_i hj2
              have hjl : j - o < u.cells.size := by rw [q1, hl]; omega
              obtain ⟨g1, g2⟩ := q2 (j - o) _ a (Array.getElem?_eq_getElem hjl) ha
              exact ⟨g1, _, by rw [if_neg hj, if_pos hj2, Array.getElem?_toList]; exact Array.getElem?_eq_getElem hjl, g2.mono hev⟩
            · rename_i hj2
              obtain ⟨g1, v, g2, g3⟩ := h4 j a ha
              exact ⟨g1, v, by rw [if_neg hj, if_neg hj2]; simpa using g2, g3.mono hev⟩
      · cases hr
  · rename_i i k j o
    cases hp' with
    | eptr _ _ _ _ b hk hb hn =>
      split at hr
      · rename_i k' l hi hy
        cases hr
        obtain ⟨rfl, hj, ho, hl, hz⟩ := hp
        obtain ⟨q1, q2⟩ := hu.cells hy
        obtain ⟨b', vs, e, h1, h2, h3, h4⟩ := hc.blk i _ hi
        rw [hb] at h1
        obtain rfl := Option.some.inj h1
        have hD : l.getD j [] = l[j] := by rw [List.getD_eq_getElem?_getD, List.getElem?_eq_getElem hj]; rfl
        rw [hD]
        have hlj : l[j].length = k' := h3 j _ (List.getElem?_eq_getElem hj)
        have h1c : ∀ v ∈ u.cells.toList, v.oneCell' = true := by
          intro v hv
          obtain ⟨j, hj⟩ := List.getElem?_of_mem hv
          have hj' : u.cells[j]? = some v := by simpa using hj
          have hjl : j < y.cells.length := by rw [← q1]; exact (Array.getElem?_eq_some_iff.1 hj').1
          obtain ⟨g1, g2⟩ := q2 j v _ hj' (List.getElem?_eq_getElem hjl)
          exact g2.one g1
        have hfit' : j * k' + o + ti.size ≤ vs.size := by
          obtain ⟨v, g2, _⟩ := h4 j _ (o + ti.size - 1) _ (List.getElem?_eq_getElem hj) (List.getElem?_eq_getElem (by omega))
          have := (Array.getElem?_eq_some_iff.1 g2).1
          omega
        have hst := store_ok ht h2 (o := j * k' + o) (q1.trans hl) hfit' h1c
        refine ⟨c.ρ, _, hst, ?_⟩
        have hux : u.cells.toList.length = ti.size := by simp [q1, hl]
        refine Cx.write hc i (.rows k' l) (.rows k' (l.set j (lay l[j] o y.cells))) b hi hb rfl rfl _ (by simp) rfl rfl rfl (fun b' hb' => setRow_other _ _ _ _ hb') (fun o h => h.elim) (.inl ⟨rfl, rfl⟩) (fun vs' e' f h0 => by rw [h2] at h0; cases h0; exact ⟨_, setRow_heap _ _ _ _ _ _ h2, by simp; omega⟩) fun hev => ?_
        refine ⟨b, _, e, hb, setRow_heap _ _ _ _ _ _ h2, fun j' x hx => ?_, fun j' x m a hx ha => ?_⟩
        · rw [List.getElem?_set] at hx
          by_cases hjj : j = j'
          · subst hjj
            rw [if_pos rfl, if_pos hj] at hx
            cases hx; rw [length_lay (by omega)]; exact hlj
          · rw [if_neg hjj] at hx
            exact h3 j' x hx
        · have hva := getElem?_layV (cs := vs.toList) (xs := u.cells.toList) (o := j * k' + o) (by rw [hux]; simp; omega) (j' * k' + m)
          rw [hux] at hva
          simp only [List.getElem?_toArray, hva]
          rw [List.getElem?_set] at hx
          by_cases hjj : j = j'
          · subst hjj
            rw [if_pos rfl, if_pos hj] at hx
            cases hx
            rw [getElem?_lay (by omega), hl] at ha
            split at ha
            · rename_i hm
              obtain ⟨v, g2, g3⟩ := h4 j _ m a (List.getElem?_eq_getElem hj) ha
              exact ⟨v, by rw [if_pos (by omega)]; simpa using g2, g3.mono hev⟩
            · rename_i hm
              split at ha
              · rename_i hm2
                have hjl : m - o < u.cells.size := by rw [q1, hl]; omega
                obtain ⟨g1, g2⟩ := q2 (m - o) _ a (Array.getElem?_eq_getElem hjl) ha
                refine ⟨_, ?_, g2.mono hev⟩
                rw [if_neg (by omega), if_pos (by omega), Array.getElem?_toList, show j * k' + m - (j * k' + o) = m - o by omega]
                exact Array.getElem?_eq_getElem hjl
              · rename_i hm2
                obtain ⟨v, g2, g3⟩ := h4 j _ m a (List.getElem?_eq_getElem hj) ha
                exact ⟨v, by rw [if_neg (by omega), if_neg (by omega)]; simpa using g2, g3.mono hev⟩
          · rw [if_neg hjj] at hx
            have hmk : m < k' := by rw [← h3 j' x hx]; exact (List.getElem?_eq_some_iff.1 ha).1
            obtain ⟨v, g2, g3⟩ := h4 j' x m a hx ha
            refine ⟨v, ?_, g3.mono hev⟩
            rcases Nat.lt_or_gt_of_ne hjj with hlt | hgt
            · have : (j + 1) * k' ≤ j' * k' := Nat.mul_le_mul_right k' hlt
              rw [Nat.add_mul] at this
              rw [if_neg (by omega), if_neg (by omega)]; simpa using g2
            · have : (j' + 1) * k' ≤ j * k' := Nat.mul_le_mul_right k' hgt
              rw [Nat.add_mul] at this
              rw [if_pos (by omega)]; simpa using g2
      · cases hr
  · cases hr
end
end Go.Proofs.YtgonmnjgodleeaaDoor
