/-
  The shadow of a run: rows that a call made and may be written on, their capacity not known; appends that make such rows; calls that take one of them. Nothing here speaks of the program.
-/
import Derived.Test.YtgonmnjgodleeaaAj
import Derived.Laws.Externs
import Derived.Lib.AppendZerosOnto
namespace Go.Proofs.Ytgonmnjgodleeaa
open Go.RowKit
section
variable {P : Program} {T : TabT} {c : Cx}
/-- Blocks told as others, the world as it is. -/
theorem Cx.retell (hc : RelH c) (i b : Nat) (x0 x : ABlk) (hi : c.h[i]? = some x0) (hb : c.ρ i = some b) (h0 : x0.istok = false) (h1 : x.istok = false) (hl : x0.live = true) (hxl : x.live = true) (hf : ∀ o, x0.fix o → x.fix o)
    (hx : Ev c ⟨c.ρ, c.h.set i x, c.w, c.X⟩ → BlkOk ⟨c.ρ, c.h.set i x, c.w, c.X⟩ i x) : RelH ⟨c.ρ, c.h.set i x, c.w, c.X⟩ ∧ Ev c ⟨c.ρ, c.h.set i x, c.w, c.X⟩ :=
  Cx.write hc i x0 x b hi hb hl hxl c.w rfl rfl rfl rfl (fun _ _ => rfl) (fun o h => ⟨hf o h, rfl⟩) (.inl ⟨h0, h1⟩) (fun vs e f h => ⟨vs, h, rfl⟩) hx
/-- What rows of unknown capacity are. -/
def padJ (k : Nat) (l : List (List AV)) (cap : Nat) : List (List AV) := l ++ List.replicate (cap - l.length) (List.replicate k .junk)
theorem resolve_core (hc : RelH c) {vs : Array Value} {t : List AV} (ht : TRel c vs t) {j i k : Nat} {l : List (List AV)} (hj : t[j]? = some (.msu i k l.length)) (hi : c.h[i]? = some (.rows k l)) :
    ∃ cap, l.length ≤ cap ∧ cap ≤ maxLen ∧ RelH ⟨c.ρ, c.h.set i (.rows k (padJ k l cap)), c.w, c.X⟩ ∧ Ev c ⟨c.ρ, c.h.set i (.rows k (padJ k l cap)), c.w, c.X⟩ ∧ TRel ⟨c.ρ, c.h.set i (.rows k (padJ k l cap)), c.w, c.X⟩ vs (t.set j (.msl i k 0 l.length cap)) := by
  have hjl : j < t.length := (List.getElem?_eq_some_iff.1 hj).1
  have hjv : j < vs.size := by rw [ht.1]; exact hjl
  have hv := ht.2 j vs[j] _ (Array.getElem?_eq_getElem hjv) hj
  generalize hvv : vs[j] = v at hv
  cases hv with
  | msu _ _ _ cap b hkn hb hnt hcap hm hs =>
    obtain ⟨us, e, f, hh, hsz⟩ := hs
    obtain ⟨b', us', e', hb', hh', hel, hrv⟩ := hc.blk i _ hi
    rw [hb] at hb'
    obtain rfl := Option.some.inj hb'
    rw [hh] at hh'
    cases hh'
    obtain ⟨q1, q2⟩ := Cx.retell hc i b _ (.rows k (padJ k l cap)) hi hb rfl rfl rfl rfl (fun o h => h.elim) fun hev => by
      refine ⟨b, us, e, hb, hh, fun q x hx => ?_, fun q x m a hx ha => ?_⟩
      · unfold padJ at hx
        rw [List.getElem?_append] at hx
        split at hx
        · exact hel q x hx
        · rw [List.getElem?_replicate] at hx
          split at hx
          · cases hx; simp
          · cases hx
      · unfold padJ at hx
        rw [List.getElem?_append] at hx
        split at hx
        · obtain ⟨v, g1, g2⟩ := hrv q x m a hx ha
          exact ⟨v, g1, g2.mono hev⟩
        · rw [List.getElem?_replicate] at hx
          split at hx
          · cases hx
            rw [List.getElem?_replicate] at ha
            split at ha
            · cases ha
              rename_i hq1 hq2 hm2
              have : (q + 1) * k ≤ cap * k := Nat.mul_le_mul_right _ (by omega)
              rw [Nat.add_mul] at this
              have hlt : q * k + m < us.size := by omega
              exact ⟨us[q * k + m], Array.getElem?_eq_getElem hlt, .junk _⟩
            · cases ha
          · cases hx
    refine ⟨cap, hcap, hm, q1, q2, by simp [ht.1], fun m v x hv hx => ?_⟩
    rw [List.getElem?_set] at hx
    split at hx
    · rename_i hjm
      subst hjm
      cases hx
      rw [Array.getElem?_eq_getElem hjv, hvv] at hv
      cases hv
      exact .msl _ _ _ _ _ b 0 (q2.known hkn) hb (fun y hy => by
        have hy2 : (c.h.set i (.rows k (padJ k l cap)))[i]? = some y := hy
        rw [List.getElem?_set_self (List.getElem?_eq_some_iff.1 hi).1] at hy2
        cases hy2; rfl) hcap hm (fun _ => by simp)
    · exact (ht.2 m v x hv hx).mono q2
/-! ### appends that make rows -/
/-- What a slice holds, and that it has no room for m more. -/
structure Grows (P : Program) (c : Cx) (k : Nat) (l : List (List AV)) (m : Nat) (v : Value) : Prop where
  ex : ∃ A cap olds, v = .slice A l.length cap ∧ cap < l.length + m ∧ FlatP AV.cell c k l olds ∧ ∀ w : World, w.heap = c.w.heap → (Builtin.firstCells k l.length (.slice A l.length cap)).run P w = .ok olds.toArray w
theorem FlatP.nil {p : AV → Bool} {c : Cx} {k : Nat} : FlatP p c k [] [] := ⟨by simp, fun j e h => by simp at h, fun j e i a h => by simp at h⟩
theorem Grows.nils {k m : Nat} (hm : 0 < m) {v : Value} (hv : RV c v .nils) : Grows P c k [] m v := by
  cases hv
  exact ⟨none, 0, [], rfl, by simpa using hm, .nil, fun w _ => by simp [Builtin.firstCells]⟩
theorem Grows.own {k m i : Nat} (hm : 0 < m) {v : Value} (hv : RV c v (.sl k [] (.own i))) (hi : c.h[i]? = some (.tok k 0)) : Grows P c k [] m v := by
  obtain ⟨A, cap, xs, rfl, hcap, hcm, hf, ⟨_, htk⟩, _⟩ := hv.flat
  obtain ⟨_, _, q⟩ := htk _ _ hi
  have hx : xs = [] := by have := hf.len; simpa using this
  have hc0 : cap = 0 := by
    rcases q rfl with q | ⟨b, vs, e, w1, w2, w3, w4, w5⟩
    · simpa using q
    · simp at w5
  subst hc0
  refine ⟨A, 0, [], rfl, by simpa using hm, .nil, fun w _ => ?_⟩
  cases A with
  | none => simp [Builtin.firstCells]
  | some a => simpa using run_firstCells_some w k 0 a 0 0 [] (by simp) (fun j v h => by simp at h)
theorem Grows.rows (hc : RelH c) {i k o n cap m : Nat} {L : List (List AV)} {v : Value} (hv : RV c v (.msl i k o n cap)) (hi : c.h[i]? = some (.rows k L)) (hk : 0 < k) (hon : o + n ≤ L.length) (hcl : ∀ x ∈ (L.drop o).take n, ∀ a ∈ x, a.cell = true) (hg : cap < n + m) : Grows P c k ((L.drop o).take n) m v := by
  cases hv with
  | msl _ _ _ _ _ b o' hkn hb hnt hcap hm ho =>
    obtain ⟨vs, e, hR⟩ := RowsAt.of hc hi hb
    obtain ⟨hf, hcell⟩ := hR.part hk o n hon hcl
    have hlm : ((L.drop o).take n).length = n := by simp; omega
    refine ⟨some ⟨b, o', none⟩, cap, _, by rw [hlm], by rw [hlm]; exact hg, hf, fun w hw => ?_⟩
    rw [hlm]
    by_cases hz : n = 0
    · subst hz
      simpa using run_firstCells_some w k 0 ⟨b, o', none⟩ 0 cap [] (by simp) (fun j v h => by simp at h)
    · obtain rfl := ho (by omega)
      refine run_firstCells_some w k _ _ _ cap _ (by rw [hf.len, hlm]) fun j v hj => ?_
      rw [Addr.add_none, cell_of_block (show w.heap[b]? = c.w.heap[b]? by rw [hw])]
      exact hcell j v hj
/-- The row that an append makes. -/
theorem grown_rows (hT : TabOk P T) (hc : RelH c) {ti e : TI} (he : T ti.elem = some e) {slot : Nat} (hsl : c.h[slot]? = some .free) {l y : List (List AV)} {olds news : List Value} (ho : FlatP AV.cell c e.size l olds) (hf : FlatP AV.cell c e.size y news) {z : Value}
    (hi5 : z.cells.size = e.zero.length) (hi6 : ∀ (j : Nat) (v : Value) (a : AV), z.cells[j]? = some v → e.zero[j]? = some a → a.plain = true ∧ ∀ (c : Cx), RV c v a) (cap' : Nat) (h1 : l.length + y.length ≤ cap') (h2 : cap' ≤ maxLen) :
    RelH ⟨setρ c.ρ slot (some c.w.heap.size), c.h.set slot (.rows e.size (l ++ y ++ List.replicate (cap' - (l.length + y.length)) e.zero)), c.w.drew.alloc (.cells ((olds ++ news).toArray ++ Builtin.zeroCells z.cells (cap' - (l.length + y.length))) ti.elem), c.X⟩ ∧
    Ev c ⟨setρ c.ρ slot (some c.w.heap.size), c.h.set slot (.rows e.size (l ++ y ++ List.replicate (cap' - (l.length + y.length)) e.zero)), c.w.drew.alloc (.cells ((olds ++ news).toArray ++ Builtin.zeroCells z.cells (cap' - (l.length + y.length))) ti.elem), c.X⟩ ∧
    RV ⟨setρ c.ρ slot (some c.w.heap.size), c.h.set slot (.rows e.size (l ++ y ++ List.replicate (cap' - (l.length + y.length)) e.zero)), c.w.drew.alloc (.cells ((olds ++ news).toArray ++ Builtin.zeroCells z.cells (cap' - (l.length + y.length))) ti.elem), c.X⟩ (.slice (some ⟨c.w.heap.size, 0, none⟩) (l.length + y.length) cap') (.msl slot e.size 0 (l.length + y.length) cap') := by
  have hfl := (ho.app hf).app (zeroCells_flat (c := c) hi5 (hT _ _ he).zl hi6 (cap' - (l.length + y.length)))
  exact Cx.newRows hc hsl (p := AV.cell) (cells := (olds ++ news).toArray ++ Builtin.zeroCells z.cells (cap' - (l.length + y.length))) (by simpa using hfl) ti.elem (c.w.drew.alloc (.cells ((olds ++ news).toArray ++ Builtin.zeroCells z.cells (cap' - (l.length + y.length))) ti.elem)) rfl rfl rfl rfl _ _ h1 h2
theorem grow_ok (hT : TabOk P T) (hc : RelH c) {t u : Nat} {ti ui e : TI} (ht : TIok P t ti) (hu : TIok P u ui) (hs : ti.sort = .sl) (he : T ti.elem = some e) (hpos : 0 < e.size) {slot : Nat} (hsl : c.h[slot]? = some .free) {v vx : Value} {x : AV} {l : List (List AV)} {q : Prop × List (List AV)}
    (hx : RV c vx x) (hy : asrcM e.size c.h ui x = some q) (hq : q.1) (hg : Grows P c e.size l q.2.length v) (hb1 : (l.length + q.2.length) * e.bytes ≤ 140737488355328) (hb2 : l.length + q.2.length ≤ 4611686018427387904) (ty : TypeId) :
    ∃ w' cap' r, l.length + q.2.length ≤ cap' ∧ cap' ≤ maxLen ∧ (Builtin.append_ #[t, u] ty #[v, vx]).run P c.w = .ok r w' ∧ RelH ⟨setρ c.ρ slot (some c.w.heap.size), c.h.set slot (.rows e.size (l ++ q.2 ++ List.replicate (cap' - (l.length + q.2.length)) e.zero)), w', c.X⟩ ∧
      Ev c ⟨setρ c.ρ slot (some c.w.heap.size), c.h.set slot (.rows e.size (l ++ q.2 ++ List.replicate (cap' - (l.length + q.2.length)) e.zero)), w', c.X⟩ ∧
      RV ⟨setρ c.ρ slot (some c.w.heap.size), c.h.set slot (.rows e.size (l ++ q.2 ++ List.replicate (cap' - (l.length + q.2.length)) e.zero)), w', c.X⟩ r (.msl slot e.size 0 (l.length + q.2.length) cap') := by
  obtain ⟨d, hd, hso⟩ := ht.desc
  unfold sortOk at hso
  rw [hs] at hso
  subst hso
  obtain ⟨ie, z, hi1, hi2, hi3, hi4, hi5, hi6⟩ := (hT _ _ he).info
  obtain ⟨⟨du, hdu, hn⟩, news, hf, hlen, hnews⟩ := asrcM_ok hc hpos hu hx hy hq
  obtain ⟨A, cap, olds, rfl, hlt, hfo, hold⟩ := hg.ex
  rw [← hi2] at hnews hold
  rw [← hi3] at hb1
  have hrun := run_append_out (P := P) (W := c.w) hd hdu hn hi1 hi4 hlen hnews ty (A := A) (n := l.length) (cap := cap) hlt hold hb2 hb1
  have hge := grownCap_ge c.w (l.length + q.2.length) cap ti.elem
  have hle := grownCap_le_maxLen c.w (l.length + q.2.length) cap ti.elem (by unfold maxLen; omega)
  obtain ⟨g1, g2, g3⟩ := grown_rows hT hc he hsl hfo hf hi5 hi6 _ hge hle
  exact ⟨_, _, _, hge, hle, hrun, g1, g2, g3⟩
theorem growZ_ok (hT : TabOk P T) (hc : RelH c) {t u : Nat} {ti ui e : TI} (ht : TIok P t ti) (hu : TIok P u ui) (hs : ti.sort = .sl) (he : T ti.elem = some e) (hpos : 0 < e.size) {slot : Nat} (hsl : c.h[slot]? = some .free) {v vx : Value} {l : List (List AV)} {kd kd' : IntKind} {m : Int}
    (hus : ui.sort = .int kd) (hx : RV c vx (.int kd' m)) (hm : 0 < m) (hg : Grows P c e.size l m.toNat v) (hb1 : (l.length + m.toNat) * e.bytes ≤ 140737488355328) (hb2 : l.length + m.toNat ≤ 4611686018427387904) (ty : TypeId) :
    ∃ w' cap' r, l.length + m.toNat ≤ cap' ∧ cap' ≤ maxLen ∧ (Builtin.append_ #[t, u] ty #[v, vx]).run P c.w = .ok r w' ∧ RelH ⟨setρ c.ρ slot (some c.w.heap.size), c.h.set slot (.rows e.size (l ++ List.replicate m.toNat e.zero ++ List.replicate (cap' - (l.length + m.toNat)) e.zero)), w', c.X⟩ ∧
      Ev c ⟨setρ c.ρ slot (some c.w.heap.size), c.h.set slot (.rows e.size (l ++ List.replicate m.toNat e.zero ++ List.replicate (cap' - (l.length + m.toNat)) e.zero)), w', c.X⟩ ∧
      RV ⟨setρ c.ρ slot (some c.w.heap.size), c.h.set slot (.rows e.size (l ++ List.replicate m.toNat e.zero ++ List.replicate (cap' - (l.length + m.toNat)) e.zero)), w', c.X⟩ r (.msl slot e.size 0 (l.length + m.toNat) cap') := by
  obtain ⟨d, hd, hso⟩ := ht.desc
  unfold sortOk at hso
  rw [hs] at hso
  subst hso
  obtain ⟨du, hdu, hsu⟩ := hu.desc
  unfold sortOk at hsu
  rw [hus] at hsu
  subst hsu
  obtain rfl := hx.ints
  obtain ⟨ie, z, hi1, hi2, hi3, hi4, hi5, hi6⟩ := (hT _ _ he).info
  obtain ⟨A, cap, olds, rfl, hlt, hfo, hold⟩ := hg.ex
  rw [← hi2] at hold
  obtain ⟨mm, rfl⟩ := Int.eq_ofNat_of_zero_le (Int.le_of_lt hm)
  simp only [Int.toNat_natCast] at *
  have hb1' : (l.length + mm) * ie.bytes ≤ 140737488355328 := by rw [hi3]; exact hb1
  have hrun := Lib.run_append_grow_zeros (P := P) c.w t u ty ti.elem ie z kd' kd hd hdu hi1 hi4 A l.length cap olds (hold c.w.drew rfl) mm (by omega) (by omega) hlt (by omega) (by rw [hi3]; have : mm * e.bytes ≤ (l.length + mm) * e.bytes := Nat.mul_le_mul_right _ (by omega); omega)
    (by have := growslice_fits hlt hb1'; omega)
  have hge := grownCap_ge c.w (l.length + mm) cap ti.elem
  have hle := grownCap_le_maxLen c.w (l.length + mm) cap ti.elem (by unfold maxLen; omega)
  have hz := zeroCells_flat (c := c) hi5 (hT _ _ he).zl hi6 mm
  obtain ⟨g1, g2, g3⟩ := grown_rows hT hc he hsl hfo hz hi5 hi6 _ (by simpa using hge) hle
  simp only [List.length_replicate] at g1 g2 g3
  have e1 : (olds ++ (Builtin.zeroCells z.cells mm).toList).toArray = olds.toArray ++ Builtin.zeroCells z.cells mm := by apply Array.ext'; simp
  rw [e1] at g1 g2 g3
  exact ⟨_, _, _, hge, hle, hrun, g1, g2, g3⟩
end
section
variable {P : Program} {T : TabT} {f : FuncId} {c0 : Cx} {R : AV → List ABlk → Prop} {k : List Item} {s : AState} {ops : Array Oper} {n : Nat} {o : Oper} {rest : List Oper}
theorem Run.resolve {j i kk : Nat} {l : List (List AV)} (hj : s.t[j]? = some (.msu i kk l.length)) (hi : s.h[i]? = some (.rows kk l)) (h : ∀ cap, l.length ≤ cap → cap ≤ maxLen → Run P f c0 R k ⟨s.t.set j (.msl i kk 0 l.length cap), s.h.set i (.rows kk (padJ kk l cap))⟩) : Run P f c0 R k s :=
  ⟨fun ρ w a g1 g2 g3 g4 => by
    obtain ⟨cap, h1, h2, q1, q2, q3⟩ := resolve_core g1 g3 hj hi
    exact (h cap h1 h2).h ρ w a q1 (g2.trans q2) q3 g4⟩
theorem Ops.resolve {j i kk : Nat} {l : List (List AV)} (hj : s.t[j]? = some (.msu i kk l.length)) (hi : s.h[i]? = some (.rows kk l)) (h : ∀ cap, l.length ≤ cap → cap ≤ maxLen → Ops P f c0 R ops n rest k ⟨s.t.set j (.msl i kk 0 l.length cap), s.h.set i (.rows kk (padJ kk l cap))⟩) : Ops P f c0 R ops n rest k s :=
  ⟨fun hd ρ w a g1 g2 g3 g4 => by
    obtain ⟨cap, h1, h2, q1, q2, q3⟩ := resolve_core g1 g3 hj hi
    exact (h cap h1 h2).h hd ρ w a q1 (g2.trans q2) q3 g4⟩
/-- What an append that makes a new row starts from. -/
inductive From (s : AState) (kk m : Nat) : AV → List (List AV) → Prop where
  | nils (hm : 0 < m) : From s kk m .nils []
  | own (i : Nat) (hm : 0 < m) (hi : s.h[i]? = some (.tok kk 0)) : From s kk m (.sl kk [] (.own i)) []
  | rows (i o n cap : Nat) (L : List (List AV)) (hi : s.h[i]? = some (.rows kk L)) (hon : o + n ≤ L.length) (hcl : ∀ x ∈ (L.drop o).take n, ∀ a ∈ x, a.cell = true) (hg : cap < n + m) : From s kk m (.msl i kk o n cap) ((L.drop o).take n)
theorem From.grows {ρ : Nat → Option Nat} {w : World} (hc : RelH ⟨ρ, s.h, w, c0.X⟩) {kk m : Nat} (hk : 0 < kk) {x : AV} {l : List (List AV)} (h : From s kk m x l) {v : Value} (hv : RV ⟨ρ, s.h, w, c0.X⟩ v x) : Grows P ⟨ρ, s.h, w, c0.X⟩ kk l m v := by
  cases h with
  | nils hm => exact Grows.nils hm hv
  | own i hm hi => exact Grows.own hm hv hi
  | rows i o n cap L hi hon hcl hg => exact Grows.rows hc hv hi hk hon hcl hg
/-- The same, a free place laid behind. -/
theorem From.ext {kk m : Nat} {x : AV} {l : List (List AV)} (h : From s kk m x l) : From ⟨s.t, s.h ++ [.free]⟩ kk m x l := by
  have key : ∀ (i : Nat) y, s.h[i]? = some y → (s.h ++ [ABlk.free])[i]? = some y := fun i y hy => by rw [List.getElem?_append_left (List.getElem?_eq_some_iff.1 hy).1]; exact hy
  cases h with
  | nils hm => exact .nils hm
  | own i hm hi => exact .own i hm (key i _ hi)
  | rows i o n cap L hi hon hcl hg => exact .rows i o n cap L (key i _ hi) hon hcl hg
theorem asrcM_ext {kk : Nat} {h : List ABlk} {ui : TI} {x : AV} {q : Prop × List (List AV)} (hy : asrcM kk h ui x = some q) : asrcM kk (h ++ [.free]) ui x = some q := by
  unfold asrcM at hy ⊢
  split at hy
  · rename_i j k2 o2 n2 cp
    split at hy
    · rename_i k3 M hs hj
      have : (h ++ [ABlk.free])[j]? = some (.rows k3 M) := by rw [List.getElem?_append_left (List.getElem?_eq_some_iff.1 hj).1]; exact hj
      simp only [hs, this]
      exact hy
    · cases hy
  · exact hy
/-- An append that makes a new row, which may be written. -/
theorem Ops.appendF (hT : TabOk P T) (hw : Wanted ops s.t o.guard true) {a0 a1 : Operand} {t u : TypeId} (hop : o.op = .call { callee := .builtin .append, args := #[a0, a1], argTypes := #[t, u] }) {ti ui e : TI} (hti : T t = some ti) (hui : T u = some ui) (hs : ti.sort = .sl) (he : T ti.elem = some e) (hpos : 0 < e.size)
    {q : Prop × List (List AV)} (hy : asrcM e.size s.h ui (aev s.t a1) = some q) (hq : q.1) {l : List (List AV)} (hx : From s e.size q.2.length (aev s.t a0) l) (hb1 : (l.length + q.2.length) * e.bytes ≤ 140737488355328) (hb2 : l.length + q.2.length ≤ 4611686018427387904)
    (h : ∀ cap, l.length + q.2.length ≤ cap → cap ≤ maxLen → Ops P f c0 R ops (n + 1) rest k ⟨aput s.t o.dst (.msl s.h.length e.size 0 (l.length + q.2.length) cap), s.h ++ [.rows e.size (l ++ q.2 ++ List.replicate (cap - (l.length + q.2.length)) e.zero)]⟩) : Ops P f c0 R ops n (o :: rest) k s := by
  refine ⟨fun hd ρ w a g1 g2 g3 g4 => ?_⟩
  obtain ⟨ho', hd'⟩ := range'_cons hd
  rw [List.length_cons, List.range'_succ]
  obtain ⟨dst, op, ty, pos, after, guard⟩ := o
  simp only at hop
  subst hop
  obtain ⟨r1, r2⟩ := Cx.grow g1
  have hfr : (s.h ++ [ABlk.free])[s.h.length]? = some .free := by simp
  have g3' := g3.mono r2
  obtain ⟨w', cap, r, h1, h2, hrun, q1, q2, q3⟩ := grow_ok (P := P) hT r1 (hT _ _ hti) (hT _ _ hui) hs he hpos hfr (g3'.ev a1) (asrcM_ext hy) hq (From.grows (s := ⟨s.t, s.h ++ [.free]⟩) r1 hpos hx.ext (g3'.ev a0)) hb1 hb2 ty
  have e1 : (s.h ++ [ABlk.free]).set s.h.length (.rows e.size (l ++ q.2 ++ List.replicate (cap - (l.length + q.2.length)) e.zero)) = s.h ++ [.rows e.size (l ++ q.2 ++ List.replicate (cap - (l.length + q.2.length)) e.zero)] := by
    rw [List.set_append_right _ _ (Nat.le_refl _)]; simp
  simp only [e1] at q1 q2 q3
  exact ((h cap h1 h2).h hd' _ w' (a.put dst r) q1 (g2.trans (r2.trans q2)) ((g3'.mono q2).put dst q3) (by cases dst <;> exact g4)).step fun bb cs _ => step_value (P := P) ho' (hw.ok g3) (by simp [execOp, Go.resolve, Go.invoke, Go.builtin, Sem.run_bind, hrun]) (.inl rfl)
/-- The same, zeros appended. -/
theorem Ops.appendZ (hT : TabOk P T) (hw : Wanted ops s.t o.guard true) {a0 a1 : Operand} {t u : TypeId} (hop : o.op = .call { callee := .builtin .append, args := #[a0, a1], argTypes := #[t, u] }) {ti ui e : TI} (hti : T t = some ti) (hui : T u = some ui) (hs : ti.sort = .sl) (he : T ti.elem = some e) (hpos : 0 < e.size)
    {kd kd' : IntKind} {m : Int} (hus : ui.sort = .int kd) (hy : aev s.t a1 = .int kd' m) (hm : 0 < m) {l : List (List AV)} (hx : From s e.size m.toNat (aev s.t a0) l) (hb1 : (l.length + m.toNat) * e.bytes ≤ 140737488355328) (hb2 : l.length + m.toNat ≤ 4611686018427387904)
    (h : ∀ cap, l.length + m.toNat ≤ cap → cap ≤ maxLen → Ops P f c0 R ops (n + 1) rest k ⟨aput s.t o.dst (.msl s.h.length e.size 0 (l.length + m.toNat) cap), s.h ++ [.rows e.size (l ++ List.replicate m.toNat e.zero ++ List.replicate (cap - (l.length + m.toNat)) e.zero)]⟩) : Ops P f c0 R ops n (o :: rest) k s := by
  refine ⟨fun hd ρ w a g1 g2 g3 g4 => ?_⟩
  obtain ⟨ho', hd'⟩ := range'_cons hd
  rw [List.length_cons, List.range'_succ]
  obtain ⟨dst, op, ty, pos, after, guard⟩ := o
  simp only at hop
  subst hop
  obtain ⟨r1, r2⟩ := Cx.grow g1
  have hfr : (s.h ++ [ABlk.free])[s.h.length]? = some .free := by simp
  have g3' := g3.mono r2
  have hvm := g3'.ev a1
  rw [hy] at hvm
  obtain ⟨w', cap, r, h1, h2, hrun, q1, q2, q3⟩ := growZ_ok (P := P) hT r1 (hT _ _ hti) (hT _ _ hui) hs he hpos hfr hus hvm hm (From.grows (s := ⟨s.t, s.h ++ [.free]⟩) r1 hpos hx.ext (g3'.ev a0)) hb1 hb2 ty
  have e1 : (s.h ++ [ABlk.free]).set s.h.length (.rows e.size (l ++ List.replicate m.toNat e.zero ++ List.replicate (cap - (l.length + m.toNat)) e.zero)) = s.h ++ [.rows e.size (l ++ List.replicate m.toNat e.zero ++ List.replicate (cap - (l.length + m.toNat)) e.zero)] := by
    rw [List.set_append_right _ _ (Nat.le_refl _)]; simp
  simp only [e1] at q1 q2 q3
  exact ((h cap h1 h2).h hd' _ w' (a.put dst r) q1 (g2.trans (r2.trans q2)) ((g3'.mono q2).put dst q3) (by cases dst <;> exact g4)).step fun bb cs _ => step_value (P := P) ho' (hw.ok g3) (by simp [execOp, Go.resolve, Go.invoke, Go.builtin, Sem.run_bind, hrun]) (.inl rfl)
end
end Go.Proofs.Ytgonmnjgodleeaa
