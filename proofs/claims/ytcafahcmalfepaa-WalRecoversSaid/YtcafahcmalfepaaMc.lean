/-
  Several texts in one: Aj, Bc, Bb, Bd, Be, Bf, Bg, Bh, Bi.
-/
import Derived.Test.YtcafahcmalfepaaMb
import Derived.Laws.Externs
import Derived.Lib.AppendZerosOnto
import Derived.ChangeKeysEq
import Derived.Lib.SlBytesConst
/-
  A call, in a drawn region, that returns a row of its own. Nothing here speaks of the program.
-/
namespace Go.Proofs.Ytcafahcmalfepaa
open Go.RowKit
theorem LeR.eq {a b : AV} (h : a = b) : LeR a b := h ▸ .one (.refl _)
section
variable {P : Program} {f : FuncId}
theorem ACall.ownAt {args args' : List AV} {k : Nat} {l : List (List AV)} {h : List ABlk} {R : AV → List ABlk → Prop} {sl : Nat} (hfr : h[sl]? = some .free) (hs : OSpec P f args k l) (hle : LeL args' args) (ha : belL 0 args = true) (hR : R (.sl k l (.own sl)) (h.set sl (.tok k l.length))) : ACall P f args' h R := by
  intro c vs hch hc ht
  subst hch
  have hsl : sl < c.h.length := (List.getElem?_eq_some_iff.1 hfr).1
  refine (hs.run c.shut vs rfl Cx.shut_rel ((hle.rel ht).shut ha)).mono ?_
  rintro e w' ⟨v, ρ', r, h', rfl, g1, g2, g3, i, rfl, hi⟩
  have hbig : ∀ b, ρ' i = some b → c.w.heap.size ≤ b := fun b hb => by
    rcases Nat.lt_or_ge b c.w.heap.size with hlt | hge
    · exact absurd ⟨i, _, hi, rfl, hb⟩ (g2.fr b hlt (by rintro ⟨i, x, hx, _⟩; simp [Cx.shut] at hx)).2
    · exact hge
  have hold : ∀ b, b < c.w.heap.size → w'.heap[b]? = c.w.heap[b]? := fun b hb => (g2.fr b hb (by rintro ⟨i, x, hx, _⟩; simp [Cx.shut] at hx)).1
  have hsz : c.w.heap.size ≤ w'.heap.size := g2.size
  have hcase : ∀ (j : Nat) y b, (c.h.set sl (ABlk.tok k l.length))[j]? = some y → setρ c.ρ sl (ρ' i) j = some b → (j = sl ∧ y = .tok k l.length ∧ ρ' i = some b ∧ c.w.heap.size ≤ b) ∨ (j ≠ sl ∧ c.h[j]? = some y ∧ c.ρ j = some b ∧ b < c.w.heap.size) := fun j y b hy hb => by
    by_cases hj : j = sl
    · subst hj
      rw [setρ_same] at hb
      rw [List.getElem?_set_self hsl] at hy
      simp at hy
      exact .inl ⟨rfl, hy.symm, hb, hbig b hb⟩
    · rw [setρ_ne _ _ hj] at hb
      rw [List.getElem?_set_ne (Ne.symm hj)] at hy
      exact .inr ⟨hj, hy, hb, hc.here j y b hy hb⟩
  have hρ : ∀ (j : Nat), j ≠ sl → setρ c.ρ sl (ρ' i) j = c.ρ j := fun j hx => setρ_ne _ _ hx
  have hev : Ev c ⟨setρ c.ρ sl (ρ' i), c.h.set sl (.tok k l.length), w', c.X⟩ := by
    refine ⟨g2.os, g2.tape, g2.output, hsz, rfl, fun b o h => ⟨⟨Nat.lt_of_lt_of_le h.1 hsz, h.2.1, fun j y hy hb => ?_⟩, cell_of_block (hold b h.1)⟩, fun b hb hm => ⟨hold b hb, ?_⟩, by simp, fun j x hx hf => ?_, keep_old hold⟩
    · rcases hcase j y b hy hb with ⟨_, _, _, hge⟩ | ⟨_, q1, q2, _⟩
      · have := h.1; omega
      · exact h.2.2 j y q1 q2
    · rintro ⟨j, y, hy, hl, hj⟩
      rcases hcase j y b hy hj with ⟨_, _, _, hge⟩ | ⟨_, q1, q2, _⟩
      · omega
      · exact hm ⟨j, y, q1, hl, q2⟩
    · have hj : j ≠ sl := by rintro rfl; rw [hfr] at hx; cases hx; cases hf
      exact ⟨x, by rw [List.getElem?_set_ne (Ne.symm hj)]; exact hx, hf, fun ht => ⟨ht, hρ j hj⟩, fun k n e => ⟨n, e, .inr ⟨rfl, hρ j hj, fun b hb => hold b (hc.here j x b hx hb)⟩⟩⟩
  have hrel : RelH ⟨setρ c.ρ sl (ρ' i), c.h.set sl (.tok k l.length), w', c.X⟩ := by
    refine ⟨fun j j' y y' b hy hy' ly ly' hb hb' => ?_, fun j y b hy hb => ?_, fun j y hy => ?_, fun b o h => ⟨Nat.lt_of_lt_of_le (hc.xs b o h).1 hsz, fun j y hy hl hb => ?_⟩⟩
    · rcases hcase j y b hy hb with ⟨rfl, _, _, q⟩ | ⟨_, q1, q2, q3⟩ <;> rcases hcase j' y' b hy' hb' with ⟨rfl, _, _, w⟩ | ⟨_, w1, w2, w3⟩
      · rfl
      · omega
      · omega
      · exact hc.inj j j' y y' b q1 w1 ly ly' q2 w2
    · rcases hcase j y b hy hb with ⟨_, _, q, _⟩ | ⟨_, q1, q2, q3⟩
      · exact g1.here i _ b hi q
      · exact Nat.lt_of_lt_of_le q3 hsz
    · by_cases hj : j = sl
      · subst hj
        rw [List.getElem?_set_self hsl] at hy
        simp at hy
        subst hy
        intro b hb
        simp only [setρ_same] at hb
        exact g1.blk i _ hi b hb
      · rw [List.getElem?_set_ne (Ne.symm hj)] at hy
        exact (hc.blk j y hy).mono hev (hρ j hj) fun b _ hb => hold b (hc.here j y b hy hb)
    · rcases hcase j y b hy hb with ⟨_, _, _, q⟩ | ⟨_, q1, q2, q3⟩
      · have := (hc.xs b o h).1; omega
      · exact (hc.xs b o h).2 j y q1 hl q2
  have him : ∀ b o, (Cx.mk ρ' h' w' c.shut.X).im b o → (Cx.mk (setρ c.ρ sl (ρ' i)) (c.h.set sl (.tok k l.length)) w' c.X).im b o := fun b o h => by
    have hx : ¬ (b < c.w.heap.size ∧ ¬ c.im b o) := h.2.1
    by_cases hb : b < c.w.heap.size
    · have him : c.im b o := Classical.byContradiction fun hn => hx ⟨hb, hn⟩
      exact (hev.im b o him).1
    · refine ⟨h.1, fun hX => hb (hc.xs b o hX).1, fun j y hy hρj => ?_⟩
      rcases hcase j y b hy hρj with ⟨_, rfl, q, _⟩ | ⟨_, q1, q2, q3⟩
      · exact h.2.2 i _ hi q
      · omega
  obtain ⟨A, cap, xs, rfl, hcap, hm, hf, ⟨_, htk⟩, hcell⟩ := g3.flat
  refine ⟨_, _, _, _, rfl, hrel, hev, ?_, hR⟩
  have hf' : Flat ⟨setρ c.ρ sl (ρ' i), c.h.set sl (.tok k l.length), w', c.X⟩ k l xs := ⟨hf.len, hf.el, fun j e m a he ha => by
    obtain ⟨w1, u, w2, w3⟩ := hf.rv j e m a he ha
    exact ⟨w1, u, w2, w3.xfer (n := 0) (fun b o h => ⟨him b o h, rfl⟩) (fun i hi => absurd hi (Nat.not_lt_zero i)) (fun i b hi => absurd hi (Nat.not_lt_zero i)) (AV.plain_bel w1 0)⟩⟩
  have ht' : TkOk ⟨setρ c.ρ sl (ρ' i), c.h.set sl (.tok k l.length), w', c.X⟩ A l.length cap k (.own sl) := by
    have hlast : (c.h.set sl (ABlk.tok k l.length))[sl]? = some (.tok k l.length) := List.getElem?_set_self hsl
    refine ⟨⟨_, hlast, rfl⟩, fun k' n' e => ?_⟩
    simp only [hlast] at e
    cases e
    refine ⟨rfl, Nat.le_refl _, fun _ => ?_⟩
    obtain ⟨_, _, q⟩ := htk k l.length hi
    rcases q rfl with q | ⟨b, vs, e, w1, w2, w3, w4⟩
    · exact .inl q
    · exact .inr ⟨b, vs, e, by simp only [setρ_same]; exact w1, w2, w3, w4⟩
  by_cases hl : l = []
  · have hxs : xs = [] := by have := hf.len; rw [hl] at this; simpa using this
    exact RV.sl_of hf' hcap hm 0 0 (fun h => absurd hl h) (fun q u hq => by rw [hxs] at hq; simp at hq) ht' rfl
  · obtain ⟨b, o, hA, hcc⟩ := hcell hl
    exact RV.sl_of hf' hcap hm b o (fun _ => hA) (fun q u hq => ⟨him _ _ (hcc q u hq).1, (hcc q u hq).2⟩) ht' rfl
end
section
variable {P : Program} {f : FuncId} {c0 : Cx} {R : AV → List ABlk → Prop} {ops : Array Oper} {n sl : Nat} {o : Oper} {rest : List Oper} {fp : List (List Nat × List Nat)} {k : List Item} {s : AState}
theorem DOps.own (ho : ops[n]? = some o) (hw : Wanted ops s.t o.guard true) {x : Operand} {as : Array Operand} {ts : Array TypeId} (hop : o.op = .call { callee := .value x, args := as, argTypes := ts })
    {g : FuncId} {fi ca : List AV} (hx : aev s.t x = .fn (.func g) fi ca) {args : List AV} {kk : Nat} {l : List (List AV)} (hs : OSpec P g args kk l) (hle : LeL (fi ++ as.toList.map (aev s.t) ++ ca) args) (ha : belL 0 args = true)
    (hfr : s.h[sl]? = some .free) (h : DOps P f c0 R ops (n + 1) (sl + 1) rest (fp ++ [([sl], [sl])]) k ⟨aput s.t o.dst (.sl kk l (.own sl)), s.h.set sl (.tok kk l.length)⟩) : DOps P f c0 R ops n sl (o :: rest) fp k s :=
  DOps.cons (e := ⟨.sl kk l (.own sl), [(sl, .tok kk l.length)], [sl]⟩) (StepOk.call ho hw hop hx hs.fn _ fun h' hh => ACall.ownAt (by rw [hh sl (by simp)]; exact hfr) hs hle ha ⟨rfl, rfl⟩) h
end
end Go.Proofs.Ytcafahcmalfepaa
/-
  The shadow of a run: rows that a call made and may be written on, their capacity not known; appends that make such rows; calls that take one of them. Nothing here speaks of the program.
-/
namespace Go.Proofs.Ytcafahcmalfepaa
open Go.RowKit
section
variable {P : Program} {T : TabT} {c : Cx}
/-- Blocks told as others, the world as it is. -/
theorem Cx.retell (hc : RelH c) (i b : Nat) (x0 x : ABlk) (hi : c.h[i]? = some x0) (hb : c.ρ i = some b) (h0 : x0.istok = false) (h1 : x.istok = false) (hl : x0.live = true) (hxl : x.live = true) (hf : ∀ o, x0.fix o → x.fix o)
    (hx : Ev c ⟨c.ρ, c.h.set i x, c.w, c.X⟩ → BlkOk ⟨c.ρ, c.h.set i x, c.w, c.X⟩ i x) : RelH ⟨c.ρ, c.h.set i x, c.w, c.X⟩ ∧ Ev c ⟨c.ρ, c.h.set i x, c.w, c.X⟩ :=
  Cx.write hc i x0 x b hi hb hl hxl c.w rfl rfl rfl rfl (fun _ _ => rfl) (fun o h => ⟨hf o h, rfl⟩) (.inl ⟨h0, h1⟩) (fun vs e f h => ⟨vs, h, rfl⟩) hx
/-- What rows of unknown capacity are. -/
def padJ (k : Nat) (l : List (List AV)) (cap : Nat) : List (List AV) := l ++ List.replicate (cap - l.length) (List.replicate k .junk)
theorem resolve_core (hc : RelH c) {vs : Array Value} {t : List AV} (ht : TRel c vs t) {j i k : Nat} {l : List (List AV)} (hj : t[j]? = some (.msu i k l.length)) (hi : c.h[i]? = some (.rows k l)) :
    ∃ cap, l.length ≤ cap ∧ cap ≤ maxLen ∧ RelH ⟨c.ρ, c.h.set i (.rows k (padJ k l cap)), c.w, c.X⟩ ∧ Ev c ⟨c.ρ, c.h.set i (.rows k (padJ k l cap)), c.w, c.X⟩ ∧ TRel ⟨c.ρ, c.h.set i (.rows k (padJ k l cap)), c.w, c.X⟩ vs (t.set j (.msl i k 0 l.length cap)) := by
  have hjl : j < t.length := (List.getElem?_eq_some_iff.1 hj).1
  have hjv : j < vs.size := by rw [ht.1]; exact hjl
  have hv := ht.2 j vs[j] _ (Array.getElem?_eq_getElem hjv) hj
  generalize hvv : vs[j] = v at hv
  cases hv with
  | msu _ _ _ cap b hkn hb hnt hcap hm hs =>
    obtain ⟨us, e, f, hh, hsz⟩ := hs
    obtain ⟨b', us', e', hb', hh', hel, hrv⟩ := hc.blk i _ hi
    rw [hb] at hb'
    obtain rfl := Option.some.inj hb'
    rw [hh] at hh'
    cases hh'
    obtain ⟨q1, q2⟩ := Cx.retell hc i b _ (.rows k (padJ k l cap)) hi hb rfl rfl rfl rfl (fun o h => h.elim) fun hev => by
      refine ⟨b, us, e, hb, hh, fun q x hx => ?_, fun q x m a hx ha => ?_⟩
      · unfold padJ at hx
        rw [List.getElem?_append] at hx
        split at hx
        · exact hel q x hx
        · rw [List.getElem?_replicate] at hx
          split at hx
          · cases hx; simp
          · cases hx
      · unfold padJ at hx
        rw [List.getElem?_append] at hx
        split at hx
        · obtain ⟨v, g1, g2⟩ := hrv q x m a hx ha
          exact ⟨v, g1, g2.mono hev⟩
        · rw [List.getElem?_replicate] at hx
          split at hx
          · cases hx
            rw [List.getElem?_replicate] at ha
            split at ha
            · cases ha
              rename_i hq1 hq2 hm2
              have : (q + 1) * k ≤ cap * k := Nat.mul_le_mul_right _ (by omega)
              rw [Nat.add_mul] at this
              have hlt : q * k + m < us.size := by omega
              exact ⟨us[q * k + m], Array.getElem?_eq_getElem hlt, .junk _⟩
            · cases ha
          · cases hx
    refine ⟨cap, hcap, hm, q1, q2, by simp [ht.1], fun m v x hv hx => ?_⟩
    rw [List.getElem?_set] at hx
    split at hx
    · rename_i hjm
      subst hjm
      cases hx
      rw [Array.getElem?_eq_getElem hjv, hvv] at hv
      cases hv
      exact .msl _ _ _ _ _ b 0 (q2.known hkn) hb (fun y hy => by
        have hy2 : (c.h.set i (.rows k (padJ k l cap)))[i]? = some y := hy
        rw [List.getElem?_set_self (List.getElem?_eq_some_iff.1 hi).1] at hy2
        cases hy2; rfl) hcap hm (fun _ => by simp)
    · exact (ht.2 m v x hv hx).mono q2
/-! ### appends that make rows -/
/-- What a slice holds, and that it has no room for m more. -/
structure Grows (P : Program) (c : Cx) (k : Nat) (l : List (List AV)) (m : Nat) (v : Value) : Prop where
  ex : ∃ A cap olds, v = .slice A l.length cap ∧ cap < l.length + m ∧ FlatP AV.cell c k l olds ∧ ∀ w : World, w.heap = c.w.heap → (Builtin.firstCells k l.length (.slice A l.length cap)).run P w = .ok olds.toArray w
theorem FlatP.nil {p : AV → Bool} {c : Cx} {k : Nat} : FlatP p c k [] [] := ⟨by simp, fun j e h => by simp at h, fun j e i a h => by simp at h⟩
theorem Grows.nils {k m : Nat} (hm : 0 < m) {v : Value} (hv : RV c v .nils) : Grows P c k [] m v := by
  cases hv
  exact ⟨none, 0, [], rfl, by simpa using hm, .nil, fun w _ => by simp [Builtin.firstCells]⟩
theorem Grows.own {k m i : Nat} (hm : 0 < m) {v : Value} (hv : RV c v (.sl k [] (.own i))) (hi : c.h[i]? = some (.tok k 0)) : Grows P c k [] m v := by
  obtain ⟨A, cap, xs, rfl, hcap, hcm, hf, ⟨_, htk⟩, _⟩ := hv.flat
  obtain ⟨_, _, q⟩ := htk _ _ hi
  have hx : xs = [] := by have := hf.len; simpa using this
  have hc0 : cap = 0 := by
    rcases q rfl with q | ⟨b, vs, e, w1, w2, w3, w4, w5⟩
    · simpa using q
    · simp at w5
  subst hc0
  refine ⟨A, 0, [], rfl, by simpa using hm, .nil, fun w _ => ?_⟩
  cases A with
  | none => simp [Builtin.firstCells]
  | some a => simpa using run_firstCells_some w k 0 a 0 0 [] (by simp) (fun j v h => by simp at h)
theorem Grows.rows (hc : RelH c) {i k o n cap m : Nat} {L : List (List AV)} {v : Value} (hv : RV c v (.msl i k o n cap)) (hi : c.h[i]? = some (.rows k L)) (hk : 0 < k) (hon : o + n ≤ L.length) (hcl : ∀ x ∈ (L.drop o).take n, ∀ a ∈ x, a.cell = true) (hg : cap < n + m) : Grows P c k ((L.drop o).take n) m v := by
  cases hv with
  | msl _ _ _ _ _ b o' hkn hb hnt hcap hm ho =>
    obtain ⟨vs, e, hR⟩ := RowsAt.of hc hi hb
    obtain ⟨hf, hcell⟩ := hR.part hk o n hon hcl
    have hlm : ((L.drop o).take n).length = n := by simp; omega
    refine ⟨some ⟨b, o', none⟩, cap, _, by rw [hlm], by rw [hlm]; exact hg, hf, fun w hw => ?_⟩
    rw [hlm]
    by_cases hz : n = 0
    · subst hz
      simpa using run_firstCells_some w k 0 ⟨b, o', none⟩ 0 cap [] (by simp) (fun j v h => by simp at h)
    · obtain rfl := ho (by omega)
      refine run_firstCells_some w k _ _ _ cap _ (by rw [hf.len, hlm]) fun j v hj => ?_
      rw [Addr.add_none, cell_of_block (show w.heap[b]? = c.w.heap[b]? by rw [hw])]
      exact hcell j v hj
/-- The row that an append makes. -/
theorem grown_rows (hT : TabOk P T) (hc : RelH c) {ti e : TI} (he : T ti.elem = some e) {slot : Nat} (hsl : c.h[slot]? = some .free) {l y : List (List AV)} {olds news : List Value} (ho : FlatP AV.cell c e.size l olds) (hf : FlatP AV.cell c e.size y news) {z : Value}
    (hi5 : z.cells.size = e.zero.length) (hi6 : ∀ (j : Nat) (v : Value) (a : AV), z.cells[j]? = some v → e.zero[j]? = some a → a.plain = true ∧ ∀ (c : Cx), RV c v a) (cap' : Nat) (h1 : l.length + y.length ≤ cap') (h2 : cap' ≤ maxLen) :
    RelH ⟨setρ c.ρ slot (some c.w.heap.size), c.h.set slot (.rows e.size (l ++ y ++ List.replicate (cap' - (l.length + y.length)) e.zero)), c.w.drew.alloc (.cells ((olds ++ news).toArray ++ Builtin.zeroCells z.cells (cap' - (l.length + y.length))) ti.elem), c.X⟩ ∧
    Ev c ⟨setρ c.ρ slot (some c.w.heap.size), c.h.set slot (.rows e.size (l ++ y ++ List.replicate (cap' - (l.length + y.length)) e.zero)), c.w.drew.alloc (.cells ((olds ++ news).toArray ++ Builtin.zeroCells z.cells (cap' - (l.length + y.length))) ti.elem), c.X⟩ ∧
    RV ⟨setρ c.ρ slot (some c.w.heap.size), c.h.set slot (.rows e.size (l ++ y ++ List.replicate (cap' - (l.length + y.length)) e.zero)), c.w.drew.alloc (.cells ((olds ++ news).toArray ++ Builtin.zeroCells z.cells (cap' - (l.length + y.length))) ti.elem), c.X⟩ (.slice (some ⟨c.w.heap.size, 0, none⟩) (l.length + y.length) cap') (.msl slot e.size 0 (l.length + y.length) cap') := by
  have hfl := (ho.app hf).app (zeroCells_flat (c := c) hi5 (hT _ _ he).zl hi6 (cap' - (l.length + y.length)))
  exact Cx.newRows hc hsl (p := AV.cell) (cells := (olds ++ news).toArray ++ Builtin.zeroCells z.cells (cap' - (l.length + y.length))) (by simpa using hfl) ti.elem (c.w.drew.alloc (.cells ((olds ++ news).toArray ++ Builtin.zeroCells z.cells (cap' - (l.length + y.length))) ti.elem)) rfl rfl rfl rfl _ _ h1 h2
theorem grow_ok (hT : TabOk P T) (hc : RelH c) {t u : Nat} {ti ui e : TI} (ht : TIok P t ti) (hu : TIok P u ui) (hs : ti.sort = .sl) (he : T ti.elem = some e) (hpos : 0 < e.size) {slot : Nat} (hsl : c.h[slot]? = some .free) {v vx : Value} {x : AV} {l : List (List AV)} {q : Prop × List (List AV)}
    (hx : RV c vx x) (hy : asrcM e.size c.h ui x = some q) (hq : q.1) (hg : Grows P c e.size l q.2.length v) (hb1 : (l.length + q.2.length) * e.bytes ≤ 140737488355328) (hb2 : l.length + q.2.length ≤ 4611686018427387904) (ty : TypeId) :
    ∃ w' cap' r, l.length + q.2.length ≤ cap' ∧ cap' ≤ maxLen ∧ (Builtin.append_ #[t, u] ty #[v, vx]).run P c.w = .ok r w' ∧ RelH ⟨setρ c.ρ slot (some c.w.heap.size), c.h.set slot (.rows e.size (l ++ q.2 ++ List.replicate (cap' - (l.length + q.2.length)) e.zero)), w', c.X⟩ ∧
      Ev c ⟨setρ c.ρ slot (some c.w.heap.size), c.h.set slot (.rows e.size (l ++ q.2 ++ List.replicate (cap' - (l.length + q.2.length)) e.zero)), w', c.X⟩ ∧
      RV ⟨setρ c.ρ slot (some c.w.heap.size), c.h.set slot (.rows e.size (l ++ q.2 ++ List.replicate (cap' - (l.length + q.2.length)) e.zero)), w', c.X⟩ r (.msl slot e.size 0 (l.length + q.2.length) cap') := by
  obtain ⟨d, hd, hso⟩ := ht.desc
  unfold sortOk at hso
  rw [hs] at hso
  subst hso
  obtain ⟨ie, z, hi1, hi2, hi3, hi4, hi5, hi6⟩ := (hT _ _ he).info
  obtain ⟨⟨du, hdu, hn⟩, news, hf, hlen, hnews⟩ := asrcM_ok hc hpos hu hx hy hq
  obtain ⟨A, cap, olds, rfl, hlt, hfo, hold⟩ := hg.ex
  rw [← hi2] at hnews hold
  rw [← hi3] at hb1
  have hrun := run_append_out (P := P) (W := c.w) hd hdu hn hi1 hi4 hlen hnews ty (A := A) (n := l.length) (cap := cap) hlt hold hb2 hb1
  have hge := grownCap_ge c.w (l.length + q.2.length) cap ti.elem
  have hle := grownCap_le_maxLen c.w (l.length + q.2.length) cap ti.elem (by unfold maxLen; omega)
  obtain ⟨g1, g2, g3⟩ := grown_rows hT hc he hsl hfo hf hi5 hi6 _ hge hle
  exact ⟨_, _, _, hge, hle, hrun, g1, g2, g3⟩
theorem growZ_ok (hT : TabOk P T) (hc : RelH c) {t u : Nat} {ti ui e : TI} (ht : TIok P t ti) (hu : TIok P u ui) (hs : ti.sort = .sl) (he : T ti.elem = some e) (hpos : 0 < e.size) {slot : Nat} (hsl : c.h[slot]? = some .free) {v vx : Value} {l : List (List AV)} {kd kd' : IntKind} {m : Int}
    (hus : ui.sort = .int kd) (hx : RV c vx (.int kd' m)) (hm : 0 < m) (hg : Grows P c e.size l m.toNat v) (hb1 : (l.length + m.toNat) * e.bytes ≤ 140737488355328) (hb2 : l.length + m.toNat ≤ 4611686018427387904) (ty : TypeId) :
    ∃ w' cap' r, l.length + m.toNat ≤ cap' ∧ cap' ≤ maxLen ∧ (Builtin.append_ #[t, u] ty #[v, vx]).run P c.w = .ok r w' ∧ RelH ⟨setρ c.ρ slot (some c.w.heap.size), c.h.set slot (.rows e.size (l ++ List.replicate m.toNat e.zero ++ List.replicate (cap' - (l.length + m.toNat)) e.zero)), w', c.X⟩ ∧
      Ev c ⟨setρ c.ρ slot (some c.w.heap.size), c.h.set slot (.rows e.size (l ++ List.replicate m.toNat e.zero ++ List.replicate (cap' - (l.length + m.toNat)) e.zero)), w', c.X⟩ ∧
      RV ⟨setρ c.ρ slot (some c.w.heap.size), c.h.set slot (.rows e.size (l ++ List.replicate m.toNat e.zero ++ List.replicate (cap' - (l.length + m.toNat)) e.zero)), w', c.X⟩ r (.msl slot e.size 0 (l.length + m.toNat) cap') := by
  obtain ⟨d, hd, hso⟩ := ht.desc
  unfold sortOk at hso
  rw [hs] at hso
  subst hso
  obtain ⟨du, hdu, hsu⟩ := hu.desc
  unfold sortOk at hsu
  rw [hus] at hsu
  subst hsu
  obtain rfl := hx.ints
  obtain ⟨ie, z, hi1, hi2, hi3, hi4, hi5, hi6⟩ := (hT _ _ he).info
  obtain ⟨A, cap, olds, rfl, hlt, hfo, hold⟩ := hg.ex
  rw [← hi2] at hold
  obtain ⟨mm, rfl⟩ := Int.eq_ofNat_of_zero_le (Int.le_of_lt hm)
  simp only [Int.toNat_natCast] at *
  have hb1' : (l.length + mm) * ie.bytes ≤ 140737488355328 := by rw [hi3]; exact hb1
  have hrun := Lib.run_append_grow_zeros (P := P) c.w t u ty ti.elem ie z kd' kd hd hdu hi1 hi4 A l.length cap olds (hold c.w.drew rfl) mm (by omega) (by omega) hlt (by omega) (by rw [hi3]; have : mm * e.bytes ≤ (l.length + mm) * e.bytes := Nat.mul_le_mul_right _ (by omega); omega)
    (by have := growslice_fits hlt hb1'; omega)
  have hge := grownCap_ge c.w (l.length + mm) cap ti.elem
  have hle := grownCap_le_maxLen c.w (l.length + mm) cap ti.elem (by unfold maxLen; omega)
  have hz := zeroCells_flat (c := c) hi5 (hT _ _ he).zl hi6 mm
  obtain ⟨g1, g2, g3⟩ := grown_rows hT hc he hsl hfo hz hi5 hi6 _ (by simpa using hge) hle
  simp only [List.length_replicate] at g1 g2 g3
  have e1 : (olds ++ (Builtin.zeroCells z.cells mm).toList).toArray = olds.toArray ++ Builtin.zeroCells z.cells mm := by apply Array.ext'; simp
  rw [e1] at g1 g2 g3
  exact ⟨_, _, _, hge, hle, hrun, g1, g2, g3⟩
end
section
variable {P : Program} {T : TabT} {f : FuncId} {c0 : Cx} {R : AV → List ABlk → Prop} {k : List Item} {s : AState} {ops : Array Oper} {n : Nat} {o : Oper} {rest : List Oper}
theorem Run.resolve {j i kk : Nat} {l : List (List AV)} (hj : s.t[j]? = some (.msu i kk l.length)) (hi : s.h[i]? = some (.rows kk l)) (h : ∀ cap, l.length ≤ cap → cap ≤ maxLen → Run P f c0 R k ⟨s.t.set j (.msl i kk 0 l.length cap), s.h.set i (.rows kk (padJ kk l cap))⟩) : Run P f c0 R k s :=
  ⟨fun ρ w a g1 g2 g3 g4 => by
    obtain ⟨cap, h1, h2, q1, q2, q3⟩ := resolve_core g1 g3 hj hi
    exact (h cap h1 h2).h ρ w a q1 (g2.trans q2) q3 g4⟩
theorem Ops.resolve {j i kk : Nat} {l : List (List AV)} (hj : s.t[j]? = some (.msu i kk l.length)) (hi : s.h[i]? = some (.rows kk l)) (h : ∀ cap, l.length ≤ cap → cap ≤ maxLen → Ops P f c0 R ops n rest k ⟨s.t.set j (.msl i kk 0 l.length cap), s.h.set i (.rows kk (padJ kk l cap))⟩) : Ops P f c0 R ops n rest k s :=
  ⟨fun hd ρ w a g1 g2 g3 g4 => by
    obtain ⟨cap, h1, h2, q1, q2, q3⟩ := resolve_core g1 g3 hj hi
    exact (h cap h1 h2).h hd ρ w a q1 (g2.trans q2) q3 g4⟩
/-- What an append that makes a new row starts from. -/
inductive From (s : AState) (kk m : Nat) : AV → List (List AV) → Prop where
  | nils (hm : 0 < m) : From s kk m .nils []
  | own (i : Nat) (hm : 0 < m) (hi : s.h[i]? = some (.tok kk 0)) : From s kk m (.sl kk [] (.own i)) []
  | rows (i o n cap : Nat) (L : List (List AV)) (hi : s.h[i]? = some (.rows kk L)) (hon : o + n ≤ L.length) (hcl : ∀ x ∈ (L.drop o).take n, ∀ a ∈ x, a.cell = true) (hg : cap < n + m) : From s kk m (.msl i kk o n cap) ((L.drop o).take n)
theorem From.grows {ρ : Nat → Option Nat} {w : World} (hc : RelH ⟨ρ, s.h, w, c0.X⟩) {kk m : Nat} (hk : 0 < kk) {x : AV} {l : List (List AV)} (h : From s kk m x l) {v : Value} (hv : RV ⟨ρ, s.h, w, c0.X⟩ v x) : Grows P ⟨ρ, s.h, w, c0.X⟩ kk l m v := by
  cases h with
  | nils hm => exact Grows.nils hm hv
  | own i hm hi => exact Grows.own hm hv hi
  | rows i o n cap L hi hon hcl hg => exact Grows.rows hc hv hi hk hon hcl hg
/-- The same, a free place laid behind. -/
theorem From.ext {kk m : Nat} {x : AV} {l : List (List AV)} (h : From s kk m x l) : From ⟨s.t, s.h ++ [.free]⟩ kk m x l := by
  have key : ∀ (i : Nat) y, s.h[i]? = some y → (s.h ++ [ABlk.free])[i]? = some y := fun i y hy => by rw [List.getElem?_append_left (List.getElem?_eq_some_iff.1 hy).1]; exact hy
  cases h with
  | nils hm => exact .nils hm
  | own i hm hi => exact .own i hm (key i _ hi)
  | rows i o n cap L hi hon hcl hg => exact .rows i o n cap L (key i _ hi) hon hcl hg
theorem asrcM_ext {kk : Nat} {h : List ABlk} {ui : TI} {x : AV} {q : Prop × List (List AV)} (hy : asrcM kk h ui x = some q) : asrcM kk (h ++ [.free]) ui x = some q := by
  unfold asrcM at hy ⊢
  split at hy
  · rename_i j k2 o2 n2 cp
    split at hy
    · rename_i k3 M hs hj
      have : (h ++ [ABlk.free])[j]? = some (.rows k3 M) := by rw [List.getElem?_append_left (List.getElem?_eq_some_iff.1 hj).1]; exact hj
      simp only [hs, this]
      exact hy
    · cases hy
  · exact hy
/-- An append that makes a new row, which may be written. -/
theorem Ops.appendF (hT : TabOk P T) (hw : Wanted ops s.t o.guard true) {a0 a1 : Operand} {t u : TypeId} (hop : o.op = .call { callee := .builtin .append, args := #[a0, a1], argTypes := #[t, u] }) {ti ui e : TI} (hti : T t = some ti) (hui : T u = some ui) (hs : ti.sort = .sl) (he : T ti.elem = some e) (hpos : 0 < e.size)
    {q : Prop × List (List AV)} (hy : asrcM e.size s.h ui (aev s.t a1) = some q) (hq : q.1) {l : List (List AV)} (hx : From s e.size q.2.length (aev s.t a0) l) (hb1 : (l.length + q.2.length) * e.bytes ≤ 140737488355328) (hb2 : l.length + q.2.length ≤ 4611686018427387904)
    (h : ∀ cap, l.length + q.2.length ≤ cap → cap ≤ maxLen → Ops P f c0 R ops (n + 1) rest k ⟨aput s.t o.dst (.msl s.h.length e.size 0 (l.length + q.2.length) cap), s.h ++ [.rows e.size (l ++ q.2 ++ List.replicate (cap - (l.length + q.2.length)) e.zero)]⟩) : Ops P f c0 R ops n (o :: rest) k s := by
  refine ⟨fun hd ρ w a g1 g2 g3 g4 => ?_⟩
  obtain ⟨ho', hd'⟩ := range'_cons hd
  rw [List.length_cons, List.range'_succ]
  obtain ⟨dst, op, ty, pos, after, guard⟩ := o
  simp only at hop
  subst hop
  obtain ⟨r1, r2⟩ := Cx.grow g1
  have hfr : (s.h ++ [ABlk.free])[s.h.length]? = some .free := by simp
  have g3' := g3.mono r2
  obtain ⟨w', cap, r, h1, h2, hrun, q1, q2, q3⟩ := grow_ok (P := P) hT r1 (hT _ _ hti) (hT _ _ hui) hs he hpos hfr (g3'.ev a1) (asrcM_ext hy) hq (From.grows (s := ⟨s.t, s.h ++ [.free]⟩) r1 hpos hx.ext (g3'.ev a0)) hb1 hb2 ty
  have e1 : (s.h ++ [ABlk.free]).set s.h.length (.rows e.size (l ++ q.2 ++ List.replicate (cap - (l.length + q.2.length)) e.zero)) = s.h ++ [.rows e.size (l ++ q.2 ++ List.replicate (cap - (l.length + q.2.length)) e.zero)] := by
    rw [List.set_append_right _ _ (Nat.le_refl _)]; simp
  simp only [e1] at q1 q2 q3
  exact ((h cap h1 h2).h hd' _ w' (a.put dst r) q1 (g2.trans (r2.trans q2)) ((g3'.mono q2).put dst q3) (by cases dst <;> exact g4)).step fun bb cs _ => step_value (P := P) ho' (hw.ok g3) (by simp [execOp, Go.resolve, Go.invoke, Go.builtin, Sem.run_bind, hrun]) (.inl rfl)
/-- The same, zeros appended. -/
theorem Ops.appendZ (hT : TabOk P T) (hw : Wanted ops s.t o.guard true) {a0 a1 : Operand} {t u : TypeId} (hop : o.op = .call { callee := .builtin .append, args := #[a0, a1], argTypes := #[t, u] }) {ti ui e : TI} (hti : T t = some ti) (hui : T u = some ui) (hs : ti.sort = .sl) (he : T ti.elem = some e) (hpos : 0 < e.size)
    {kd kd' : IntKind} {m : Int} (hus : ui.sort = .int kd) (hy : aev s.t a1 = .int kd' m) (hm : 0 < m) {l : List (List AV)} (hx : From s e.size m.toNat (aev s.t a0) l) (hb1 : (l.length + m.toNat) * e.bytes ≤ 140737488355328) (hb2 : l.length + m.toNat ≤ 4611686018427387904)
    (h : ∀ cap, l.length + m.toNat ≤ cap → cap ≤ maxLen → Ops P f c0 R ops (n + 1) rest k ⟨aput s.t o.dst (.msl s.h.length e.size 0 (l.length + m.toNat) cap), s.h ++ [.rows e.size (l ++ List.replicate m.toNat e.zero ++ List.replicate (cap - (l.length + m.toNat)) e.zero)]⟩) : Ops P f c0 R ops n (o :: rest) k s := by
  refine ⟨fun hd ρ w a g1 g2 g3 g4 => ?_⟩
  obtain ⟨ho', hd'⟩ := range'_cons hd
  rw [List.length_cons, List.range'_succ]
  obtain ⟨dst, op, ty, pos, after, guard⟩ := o
  simp only at hop
  subst hop
  obtain ⟨r1, r2⟩ := Cx.grow g1
  have hfr : (s.h ++ [ABlk.free])[s.h.length]? = some .free := by simp
  have g3' := g3.mono r2
  have hvm := g3'.ev a1
  rw [hy] at hvm
  obtain ⟨w', cap, r, h1, h2, hrun, q1, q2, q3⟩ := growZ_ok (P := P) hT r1 (hT _ _ hti) (hT _ _ hui) hs he hpos hfr hus hvm hm (From.grows (s := ⟨s.t, s.h ++ [.free]⟩) r1 hpos hx.ext (g3'.ev a0)) hb1 hb2 ty
  have e1 : (s.h ++ [ABlk.free]).set s.h.length (.rows e.size (l ++ List.replicate m.toNat e.zero ++ List.replicate (cap - (l.length + m.toNat)) e.zero)) = s.h ++ [.rows e.size (l ++ List.replicate m.toNat e.zero ++ List.replicate (cap - (l.length + m.toNat)) e.zero)] := by
    rw [List.set_append_right _ _ (Nat.le_refl _)]; simp
  simp only [e1] at q1 q2 q3
  exact ((h cap h1 h2).h hd' _ w' (a.put dst r) q1 (g2.trans (r2.trans q2)) ((g3'.mono q2).put dst q3) (by cases dst <;> exact g4)).step fun bb cs _ => step_value (P := P) ho' (hw.ok g3) (by simp [execOp, Go.resolve, Go.invoke, Go.builtin, Sem.run_bind, hrun]) (.inl rfl)
end
end Go.Proofs.Ytcafahcmalfepaa
/-
  The shadow of a run: rows that were written and stay as they are from here on. Nothing here speaks of the program.
-/
namespace Go.Proofs.Ytcafahcmalfepaa
open Go.RowKit
section
variable {P : Program}
/-- Rows, read for good once no one writes them. -/
theorem RV.frozen {c : Cx} (hc : RelH c) {v : Value} {i k o n cap : Nat} {L : List (List AV)} (hv : RV c v (.msl i k o n cap)) (hi : c.h[i]? = some (.rows k L)) (hk : 0 < k) (hon : o + n ≤ L.length) (hp : ∀ x ∈ (L.drop o).take n, ∀ a ∈ x, a.plain = true) :
    RelH ⟨c.ρ, c.h.set i .dead, c.w, c.X⟩ ∧ Ev c ⟨c.ρ, c.h.set i .dead, c.w, c.X⟩ ∧ RV ⟨c.ρ, c.h.set i .dead, c.w, c.X⟩ v (.sl k ((L.drop o).take n) .no) := by
  obtain ⟨q1, q2⟩ := Cx.freeze hc i _ hi rfl
  refine ⟨q1, q2, ?_⟩
  cases hv with
  | msl _ _ _ _ _ b o' hkn hb hnt hcap hm ho =>
    obtain ⟨vs, e, hR⟩ := RowsAt.of hc hi hb
    obtain ⟨hf, hcell⟩ := hR.part hk o n hon hp
    have hln : ((L.drop o).take n).length = n := by simp; omega
    have hbs : b < c.w.heap.size := hc.here i _ b hi hb
    refine RV.sl_of (t := .no) (FlatP.mono' q2 hf) (by omega) hm b o' (fun _ => rfl) (fun q u hq => ?_) trivial hln
    have hq' := (List.getElem?_eq_some_iff.1 hq).1
    rw [hf.len, hln] at hq'
    have hn0 : 0 < n := Nat.pos_of_ne_zero fun h => by rw [h] at hq'; simp at hq'
    obtain rfl := ho (by omega)
    refine ⟨⟨hbs, fun hX => (hc.xs b _ hX).2 i _ hi rfl hb, fun j x hj hjb => ?_⟩, hcell q u hq⟩
    by_cases hji : j = i
    · subst hji
      rw [show (Cx.mk c.ρ (c.h.set j .dead) c.w c.X).h = c.h.set j .dead from rfl, List.getElem?_set_self (List.getElem?_eq_some_iff.1 hi).1] at hj
      cases hj
      trivial
    · rw [show (Cx.mk c.ρ (c.h.set i .dead) c.w c.X).h = c.h.set i .dead from rfl, List.getElem?_set_ne (Ne.symm hji)] at hj
      by_cases hl : x.live = true
      · exact absurd (hc.inj j i x _ b hj hi hl rfl hjb hb) hji
      · cases x <;> first | exact absurd rfl hl | trivial
/-- A call's result, frozen. -/
theorem ACall.freeze {f : FuncId} {args : List AV} {h : List ABlk} {R : AV → List ABlk → Prop}
    (H : ACall P f args h fun r h' => ∃ i k o n cap L, r = .msl i k o n cap ∧ h'[i]? = some (.rows k L) ∧ 0 < k ∧ o + n ≤ L.length ∧ (∀ x ∈ (L.drop o).take n, ∀ a ∈ x, a.plain = true) ∧ R (.sl k ((L.drop o).take n) .no) (h'.set i .dead)) : ACall P f args h R := by
  intro c vs hch hc ht
  refine (H c vs hch hc ht).mono ?_
  rintro e w' ⟨v, ρ', r, h', rfl, g1, g2, g3, i, k, o, n, cap, L, rfl, hi, hk, hon, hp, hR⟩
  obtain ⟨q1, q2, q3⟩ := g3.frozen g1 hi hk hon hp
  exact ⟨v, ρ', _, _, rfl, q1, g2.trans q2, q3, hR⟩
/-- A temporary, frozen. -/
theorem Weak.freezeM {c0 : Cx} {s : AState} (j i k o n cap : Nat) (L : List (List AV)) (hj : s.t[j]? = some (.msl i k o n cap)) (hi : s.h[i]? = some (.rows k L)) (hk : 0 < k) (hon : o + n ≤ L.length) (hp : ∀ x ∈ (L.drop o).take n, ∀ a ∈ x, a.plain = true) :
    Weak P c0 s ⟨s.t.set j (.sl k ((L.drop o).take n) .no), s.h.set i .dead⟩ := by
  refine ⟨fun ρ w vs h1 h2 h3 => ?_⟩
  have hjl : j < s.t.length := (List.getElem?_eq_some_iff.1 hj).1
  have hjv : j < vs.size := by rw [h3.1]; exact hjl
  obtain ⟨q1, q2, q3⟩ := (h3.2 j vs[j] _ (Array.getElem?_eq_getElem hjv) hj).frozen h1 hi hk hon hp
  refine ⟨ρ, q1, h2.trans q2, by simp [h3.1], fun m v x hv hx => ?_⟩
  rw [List.getElem?_set] at hx
  split at hx
  · rename_i hjm
    subst hjm
    rw [Array.getElem?_eq_getElem hjv] at hv
    cases hv
    first
      | (cases hx; exact q3)
      | (split at hx
         · cases hx; exact q3
         · cases hx)
  · exact (h3.2 m v x hv hx).mono q2
end
end Go.Proofs.Ytcafahcmalfepaa
/-
  The shadow of a run: calls that make rows which may be written, and calls that take them. Nothing here speaks of the program.
-/
namespace Go.Proofs.Ytcafahcmalfepaa
open Go.RowKit
/-- It returns rows of its own, which may be written. -/
structure MSpec (P : Program) (f : FuncId) (args : List AV) (k : Nat) (l : List (List AV)) : Prop where
  fn : Callable P f
  ne : l ≠ []
  pos : 0 < k
  run : ACall P f args [] fun r h' => ∃ i cap L, r = .msl i k 0 l.length cap ∧ h'[i]? = some (.rows k L) ∧ cap ≤ L.length ∧ L.take l.length = l
section
variable {P : Program} {f : FuncId}
theorem ACall.newAt {args args' : List AV} {k : Nat} {l : List (List AV)} {h : List ABlk} {R : AV → List ABlk → Prop} {sl : Nat} (hfr : h[sl]? = some .free) (hs : MSpec P f args k l) (hle : LeL args' args) (ha : belL 0 args = true) (hbl : belLL 0 l = true) (hR : R (.msu sl k l.length) (h.set sl (.rows k l))) : ACall P f args' h R := by
  intro c vs hch hc ht
  subst hch
  have hsl : sl < c.h.length := (List.getElem?_eq_some_iff.1 hfr).1
  refine (hs.run c.shut vs rfl Cx.shut_rel ((hle.rel ht).shut ha)).mono ?_
  rintro e w' ⟨v, ρ', r, h', rfl, g1, g2, g3, i, cap, L, rfl, hi, hcL, hLl⟩
  have hbig : ∀ b, ρ' i = some b → c.w.heap.size ≤ b := fun b hb => by
    rcases Nat.lt_or_ge b c.w.heap.size with hlt | hge
    · exact absurd ⟨i, _, hi, rfl, hb⟩ (g2.fr b hlt (by rintro ⟨i, x, hx, _⟩; simp [Cx.shut] at hx)).2
    · exact hge
  have hold : ∀ b, b < c.w.heap.size → w'.heap[b]? = c.w.heap[b]? := fun b hb => (g2.fr b hb (by rintro ⟨i, x, hx, _⟩; simp [Cx.shut] at hx)).1
  have hsz : c.w.heap.size ≤ w'.heap.size := g2.size
  have hcase : ∀ (j : Nat) y b, (c.h.set sl (ABlk.rows k l))[j]? = some y → setρ c.ρ sl (ρ' i) j = some b → (j = sl ∧ y = .rows k l ∧ ρ' i = some b ∧ c.w.heap.size ≤ b) ∨ (j ≠ sl ∧ c.h[j]? = some y ∧ c.ρ j = some b ∧ b < c.w.heap.size) := fun j y b hy hb => by
    by_cases hj : j = sl
    · subst hj
      rw [setρ_same] at hb
      rw [List.getElem?_set_self hsl] at hy
      simp at hy
      exact .inl ⟨rfl, hy.symm, hb, hbig b hb⟩
    · rw [setρ_ne _ _ hj] at hb
      rw [List.getElem?_set_ne (Ne.symm hj)] at hy
      exact .inr ⟨hj, hy, hb, hc.here j y b hy hb⟩
  have hρ : ∀ (j : Nat), j ≠ sl → setρ c.ρ sl (ρ' i) j = c.ρ j := fun j hx => setρ_ne _ _ hx
  have hev : Ev c ⟨setρ c.ρ sl (ρ' i), c.h.set sl (.rows k l), w', c.X⟩ := by
    refine ⟨g2.os, g2.tape, g2.output, hsz, rfl, fun b o h => ⟨⟨Nat.lt_of_lt_of_le h.1 hsz, h.2.1, fun j y hy hb => ?_⟩, cell_of_block (hold b h.1)⟩, fun b hb hm => ⟨hold b hb, ?_⟩, by simp, fun j x hx hf => ?_, keep_old hold⟩
    · rcases hcase j y b hy hb with ⟨_, _, _, hge⟩ | ⟨_, q1, q2, _⟩
      · have := h.1; omega
      · exact h.2.2 j y q1 q2
    · rintro ⟨j, y, hy, hl, hj⟩
      rcases hcase j y b hy hj with ⟨_, _, _, hge⟩ | ⟨_, q1, q2, _⟩
      · omega
      · exact hm ⟨j, y, q1, hl, q2⟩
    · have hj : j ≠ sl := by rintro rfl; rw [hfr] at hx; cases hx; cases hf
      exact ⟨x, by rw [List.getElem?_set_ne (Ne.symm hj)]; exact hx, hf, fun ht => ⟨ht, hρ j hj⟩, fun k n e => ⟨n, e, .inr ⟨rfl, hρ j hj, fun b hb => hold b (hc.here j x b hx hb)⟩⟩⟩
  have him : ∀ b o, (Cx.mk ρ' h' w' c.shut.X).im b o → (Cx.mk (setρ c.ρ sl (ρ' i)) (c.h.set sl (.rows k l)) w' c.X).im b o := fun b o h => by
    have hx : ¬ (b < c.w.heap.size ∧ ¬ c.im b o) := h.2.1
    by_cases hb : b < c.w.heap.size
    · have him : c.im b o := Classical.byContradiction fun hn => hx ⟨hb, hn⟩
      exact (hev.im b o him).1
    · refine ⟨h.1, fun hX => hb (hc.xs b o hX).1, fun j y hy hρj => ?_⟩
      rcases hcase j y b hy hρj with ⟨_, rfl, q, _⟩ | ⟨_, q1, q2, q3⟩
      · exact (h.2.2 i (.rows k L) hi q : False)
      · omega
  have hxf : ∀ v a, RV ⟨ρ', h', w', c.shut.X⟩ v a → a.bel 0 = true → RV ⟨setρ c.ρ sl (ρ' i), c.h.set sl (.rows k l), w', c.X⟩ v a := fun v a hv hb =>
    RV.xfer (c := ⟨ρ', h', w', c.shut.X⟩) (c2 := ⟨setρ c.ρ sl (ρ' i), c.h.set sl (.rows k l), w', c.X⟩) (n := 0) (fun b o h => ⟨him b o h, rfl⟩) (fun i hi => absurd hi (Nat.not_lt_zero i)) (fun i b hi => absurd hi (Nat.not_lt_zero i)) hv hb
  cases g3 with
  | msl _ _ _ _ _ b o' hkn hb hnt hcap hm ho =>
    obtain ⟨us, te, hR2⟩ := RowsAt.of g1 hi hb
    have hszr := hR2.size hs.pos
    have hl0 : 0 < l.length := List.length_pos_iff.2 hs.ne
    obtain rfl : o' = 0 := by rw [ho (by omega)]; simp
    have hget : ∀ (j : Nat) x, l[j]? = some x → L[j]? = some x := fun j x hx => by
      rw [← hLl, List.getElem?_take] at hx
      split at hx
      · exact hx
      · cases hx
    have hrel : RelH ⟨setρ c.ρ sl (ρ' i), c.h.set sl (.rows k l), w', c.X⟩ := by
      refine ⟨fun j j' y y' b hy hy' ly ly' hb hb' => ?_, fun j y b hy hb => ?_, fun j y hy => ?_, fun b o h => ⟨Nat.lt_of_lt_of_le (hc.xs b o h).1 hsz, fun j y hy hl hb => ?_⟩⟩
      · rcases hcase j y b hy hb with ⟨rfl, _, _, q⟩ | ⟨_, q1, q2, q3⟩ <;> rcases hcase j' y' b hy' hb' with ⟨rfl, _, _, w⟩ | ⟨_, w1, w2, w3⟩
        · rfl
        · omega
        · omega
        · exact hc.inj j j' y y' b q1 w1 ly ly' q2 w2
      · rcases hcase j y b hy hb with ⟨_, _, q, _⟩ | ⟨_, q1, q2, q3⟩
        · exact g1.here i _ b hi q
        · exact Nat.lt_of_lt_of_le q3 hsz
      · by_cases hj : j = sl
        · subst hj
          rw [List.getElem?_set_self hsl] at hy
          simp at hy
          subst hy
          refine ⟨b, us, te, by simp only [setρ_same]; exact hb, hR2.hh, fun q x hx => hR2.el q x (hget q x hx), fun q x m a hx ha => ?_⟩
          obtain ⟨v, q1, q2⟩ := hR2.rv q x m a (hget q x hx) ha
          exact ⟨v, q1, hxf v a q2 (belL_get (belLL_get hbl q x hx) m a ha)⟩
        · rw [List.getElem?_set_ne (Ne.symm hj)] at hy
          exact (hc.blk j y hy).mono hev (hρ j hj) fun b _ hb => hold b (hc.here j y b hy hb)
      · rcases hcase j y b hy hb with ⟨_, _, _, q⟩ | ⟨_, q1, q2, q3⟩
        · have := (hc.xs b o h).1; omega
        · exact (hc.xs b o h).2 j y q1 hl q2
    have hlast : (c.h.set sl (ABlk.rows k l))[sl]? = some (.rows k l) := List.getElem?_set_self hsl
    refine ⟨_, _, _, _, rfl, hrel, hev, .msu sl k l.length cap b ⟨_, hlast, rfl⟩ (by simp only [setρ_same]; exact hb) (fun x hx => ?_) hcap hm ⟨us, te, (0, 0), hR2.hh, Nat.le_trans (Nat.mul_le_mul_right _ hcL) hszr⟩, hR⟩
    have hx2 : (c.h.set sl (ABlk.rows k l))[sl]? = some x := hx
    rw [hlast] at hx2
    cases hx2; rfl
theorem ACall.grown {args : List AV} {h : List ABlk} {R : AV → List ABlk → Prop} (H : ACall P f args (h ++ [.free]) R) : ACall P f args h R := by
  intro c vs hch hc ht
  subst hch
  obtain ⟨q1, q2⟩ := Cx.grow hc
  refine (H _ vs rfl q1 (ht.mono q2)).mono ?_
  rintro e w' ⟨v, ρ', r, h', rfl, g1, g2, g3, hR⟩
  exact ⟨v, ρ', r, h', rfl, g1, q2.trans g2, g3, hR⟩
/-- An empty row of its own, or nil. -/
theorem OSpec.nil {args : List AV} {k : Nat} (hfn : Callable P f) (H : ACall P f args [] fun r _ => r = .nils ∨ ∃ i k' o, r = .msl i k' o 0 0) : OSpec P f args k [] := by
  refine ⟨hfn, fun c vs hch hc ht => (H c vs hch hc ht).mono ?_⟩
  rintro e w' ⟨v, ρ', r, h', rfl, g1, g2, g3, hr⟩
  have hv : ∃ A, v = .slice A 0 0 := by
    rcases hr with rfl | ⟨i, k', o, rfl⟩
    · cases g3; exact ⟨_, rfl⟩
    · cases g3; exact ⟨_, rfl⟩
  obtain ⟨A, rfl⟩ := hv
  obtain ⟨q1, q2⟩ := Cx.grow g1
  have hfr : (h' ++ [ABlk.free])[h'.length]? = some .free := by simp
  obtain ⟨q3, q4⟩ := Cx.unborn q1 h'.length k hfr
  have hlast : ((h' ++ [ABlk.free]).set h'.length (.tok k 0))[h'.length]? = some (.tok k 0) := List.getElem?_set_self (by simp)
  refine ⟨_, _, .sl k [] (.own h'.length), _, rfl, q3, g2.trans (q2.trans q4), ?_, h'.length, rfl, hlast⟩
  refine .sl k [] _ A 0 0 0 0 (fun _ _ => undef) rfl (Nat.le_refl _) (Nat.zero_le _) (fun h => absurd rfl h) (fun j e h => by simp at h) (fun j e i a h => by simp at h) (fun j e i a h => by simp at h) ⟨⟨_, hlast, rfl⟩, fun k' n' e => ?_⟩
  have e2 : ((h' ++ [ABlk.free]).set h'.length (.tok k 0))[h'.length]? = some (.tok k' n') := e
  rw [hlast] at e2
  cases e2
  exact ⟨rfl, Nat.le_refl _, fun _ => .inl rfl⟩
/-! ### a callee that takes one block of its caller's -/
def Cx.one (c : Cx) (i : Nat) : Cx := ⟨fun q => if q = 0 then c.ρ i else none, [(c.h[i]?).getD .dead], c.w, fun b o => b < c.w.heap.size ∧ ¬ c.im b o ∧ c.ρ i ≠ some b⟩
/-- Blocks that may be lent. -/
def Lent (x : ABlk) : Prop := (∃ k L, x = .rows k L ∧ belLL 0 L = true) ∨ ∃ k, x = .tok k 0
theorem Lent.fix {x : ABlk} (h : Lent x) (o : Nat) : ¬ x.fix o := by
  rcases h with ⟨k, L, rfl, _⟩ | ⟨k, rfl⟩
  · exact fun h => h
  · intro h; have : o < 0 * k := h; omega
theorem Lent.live {x : ABlk} (h : Lent x) : x.live = true := by rcases h with ⟨k, L, rfl, _⟩ | ⟨k, rfl⟩ <;> rfl
theorem Lent.free {x : ABlk} (h : Lent x) : x.isfree = false := by rcases h with ⟨k, L, rfl, _⟩ | ⟨k, rfl⟩ <;> rfl
section
variable {c : Cx} {i : Nat} {X0 : ABlk}
theorem Cx.one_get (hi : c.h[i]? = some X0) (q : Nat) (x : ABlk) (hx : (c.one i).h[q]? = some x) : q = 0 ∧ x = X0 := by
  simp only [Cx.one, hi, Option.getD_some] at hx
  match q, hx with
  | 0, hx => simp at hx; exact ⟨rfl, hx.symm⟩
  | q + 1, hx => simp at hx
theorem Cx.one_im (hi : c.h[i]? = some X0) {b o : Nat} (h : c.im b o) : (c.one i).im b o := by
  refine ⟨h.1, fun hx => hx.2.1 h, fun q x hx hb => ?_⟩
  obtain ⟨rfl, rfl⟩ := Cx.one_get hi q x hx
  exact h.2.2 i _ hi (by simpa [Cx.one] using hb)
theorem Cx.one_xfer (hi : c.h[i]? = some X0) {v : Value} {a : AV} (h : RV c v a) (ha : a.bel 0 = true) : RV (c.one i) v a :=
  h.xfer (fun b o h => ⟨Cx.one_im hi h, rfl⟩) (fun i hi => absurd hi (Nat.not_lt_zero i)) (fun i b hi => absurd hi (Nat.not_lt_zero i)) ha
theorem Cx.one_rel (hc : RelH c) (hi : c.h[i]? = some X0) (hX : Lent X0) : RelH (c.one i) := by
  refine ⟨fun q r x y b hx hy _ _ hb hb' => ?_, fun q x b hx hb => ?_, fun q x hx => ?_, fun b o h => ⟨h.1, fun q x hx _ hb => ?_⟩⟩
  · obtain ⟨rfl, _⟩ := Cx.one_get hi q x hx
    obtain ⟨rfl, _⟩ := Cx.one_get hi r y hy
    rfl
  · obtain ⟨rfl, rfl⟩ := Cx.one_get hi q x hx
    exact hc.here i _ b hi (by simpa [Cx.one] using hb)
  · obtain ⟨rfl, rfl⟩ := Cx.one_get hi q x hx
    have hb := hc.blk i _ hi
    rcases hX with ⟨k, L, rfl, hL⟩ | ⟨k, rfl⟩
    · obtain ⟨b, vs, e, h1, h2, h3, h4⟩ := hb
      exact ⟨b, vs, e, by simpa [Cx.one] using h1, h2, h3, fun q x m a hx ha => by
        obtain ⟨v, g1, g2⟩ := h4 q x m a hx ha
        exact ⟨v, g1, Cx.one_xfer hi g2 (belL_get (belLL_get hL q x hx) m a ha)⟩⟩
    · intro b h
      exact hb b (by simpa [Cx.one] using h)
  · obtain ⟨rfl, rfl⟩ := Cx.one_get hi q x hx
    exact h.2.2 (by simpa [Cx.one] using hb)
/-- An argument, as the callee sees it. -/
inductive OneA (i : Nat) : AV → AV → Prop where
  | le {a b : AV} (h : Le a b) (hb : b.bel 0 = true) : OneA i a b
  | msu (k n : Nat) : OneA i (.msu i k n) (.msu 0 k n)
  | own (k : Nat) (l : List (List AV)) : OneA i (.sl k l (.own i)) (.sl k l (.own 0))
inductive OneL (i : Nat) : List AV → List AV → Prop where
  | nil : OneL i [] []
  | cons {a b : AV} {as bs : List AV} (h : OneA i a b) (hs : OneL i as bs) : OneL i (a :: as) (b :: bs)
theorem OneA.rv (hi : c.h[i]? = some X0) (hX : Lent X0) {a b : AV} (h : OneA i a b) {v : Value} (hv : RV c v a) : RV (c.one i) v b := by
  have h0 : (c.one i).h[0]? = some X0 := by simp [Cx.one, hi]
  have hkn : (c.one i).known 0 := ⟨X0, h0, hX.free⟩
  cases h with
  | le h hb => exact Cx.one_xfer hi (h.rv hv) hb
  | msu k n =>
    cases hv with
    | msu _ _ _ cap b hk hb ht h1 h2 h3 =>
      refine .msu 0 k n cap b hkn (by simpa [Cx.one] using hb) (fun x hx => ?_) h1 h2 h3
      rw [h0] at hx
      cases hx
      exact ht _ hi
  | own k l =>
    cases hv with
    | sl _ _ _ A n cap b o vs hn hcap hm hA hk hc hr ht =>
      refine .sl k l _ A n cap b o vs hn hcap hm hA hk (fun j e m a he ha => ?_) (fun j e m a he ha => Cx.one_xfer hi (hr j e m a he ha) (AV.plain_bel (hc j e m a he ha).1 0)) ⟨hkn, fun k' n' e => ?_⟩
      · obtain ⟨g1, g2, g3⟩ := hc j e m a he ha
        exact ⟨g1, Cx.one_im hi g2, g3⟩
      · rw [h0] at e
        cases e
        obtain ⟨_, g⟩ := ht
        obtain ⟨q1, q2, q3⟩ := g _ _ hi
        refine ⟨q1, q2, fun e => ?_⟩
        rcases q3 e with q | ⟨b, vs, e', w1, w2, w3, w4⟩
        · exact .inl q
        · exact .inr ⟨b, vs, e', by simpa [Cx.one] using w1, w2, w3, w4⟩
theorem OneL.rel (hi : c.h[i]? = some X0) (hX : Lent X0) {as bs : List AV} (h : OneL i as bs) : ∀ {vs : Array Value}, TRel c vs as → TRel (c.one i) vs bs := by
  have len : ∀ {as bs}, OneL i as bs → as.length = bs.length := by
    intro as bs h
    induction h with
    | nil => rfl
    | cons _ _ ih => simp [ih]
  have get : ∀ {as bs}, OneL i as bs → ∀ (j : Nat) b, bs[j]? = some b → ∃ a, as[j]? = some a ∧ OneA i a b := by
    intro as bs h
    induction h with
    | nil => intro j b h; simp at h
    | cons h _ ih =>
      intro j b hb
      cases j with
      | zero => simp at hb; subst hb; exact ⟨_, rfl, h⟩
      | succ j => obtain ⟨a, h1, h2⟩ := ih j b (by simpa using hb); exact ⟨a, by simpa using h1, h2⟩
  intro vs hv
  refine ⟨by rw [hv.1, len h], fun j v b hv' hb => ?_⟩
  obtain ⟨a, h1, h2⟩ := get h j b hb
  exact h2.rv hi hX (hv.2 j v a hv' h1)
end
/-- A callee that takes one block of its caller's, and leaves none of it: what it answers lies where no one writes any more. -/
theorem ACall.one {args args' : List AV} {h : List ABlk} {R : AV → List ABlk → Prop} {i : Nat} {X0 : ABlk} {res : AV} (hi : h[i]? = some X0) (hX : Lent X0)
    (H : ACall P f args [X0] fun r _ => LeR r res) (hres : res.bel 0 = true) (harg : OneL i args' args) (hR : R res (h.set i .dead)) : ACall P f args' h R := by
  intro c vs hch hc ht
  subst hch
  have hrel := Cx.one_rel hc hi hX
  refine (H (c.one i) vs (by simp [Cx.one, hi]) hrel (harg.rel hi hX ht)).mono ?_
  rintro e w' ⟨v, ρ', r, h', rfl, g1, g2, g3, hle⟩
  have hil : i < c.h.length := (List.getElem?_eq_some_iff.1 hi).1
  have hmut : ∀ b, (c.one i).mutb b → c.ρ i = some b := by
    rintro b ⟨q, x, hx, _, hb⟩
    obtain ⟨rfl, rfl⟩ := Cx.one_get hi q x hx
    simpa [Cx.one] using hb
  have hsz : c.w.heap.size ≤ w'.heap.size := g2.size
  have hold : ∀ b, b < c.w.heap.size → c.ρ i ≠ some b → w'.heap[b]? = c.w.heap[b]? := fun b hb h1 => (g2.fr b hb fun hm => h1 (hmut b hm)).1
  have hget : ∀ (q : Nat) x, (c.h.set i .dead)[q]? = some x → (q = i ∧ x = .dead) ∨ (q ≠ i ∧ c.h[q]? = some x) := fun q x hx => by
    by_cases hq : q = i
    · subst hq
      rw [List.getElem?_set_self hil] at hx
      exact .inl ⟨rfl, (Option.some.inj hx).symm⟩
    · rw [List.getElem?_set_ne (Ne.symm hq)] at hx
      exact .inr ⟨hq, hx⟩
  have hoth : ∀ (q : Nat) x b, q ≠ i → c.h[q]? = some x → x.live = true → c.ρ q = some b → c.ρ i ≠ some b := fun q x b h1 hx hl hb e => h1 (hc.inj q i x _ b hx hi hl hX.live hb e)
  have hnx : ∀ b o, c.X b o → c.ρ i ≠ some b := fun b o hX' e => (hc.xs b o hX').2 i _ hi hX.live e
  have him0 : ∀ b o, c.im b o → c.ρ i ≠ some b := fun b o h e => hX.fix o (h.2.2 i _ hi e)
  have hdead : ∀ (q : Nat) x b o, (c.h.set i .dead)[q]? = some x → c.ρ q = some b → (c.ρ i = some b ∨ c.im b o) → x.fix o := fun q x b o hx hb hcase => by
    rcases hget q x hx with ⟨_, rfl⟩ | ⟨h1, hx'⟩
    · trivial
    · by_cases hl : x.live = true
      · rcases hcase with h | h
        · exact absurd h (hoth q x b h1 hx' hl hb)
        · exact h.2.2 q x hx' hb
      · cases x <;> first | exact absurd rfl hl | trivial
  have hev : Ev c ⟨c.ρ, c.h.set i .dead, w', c.X⟩ := by
    refine ⟨g2.os, g2.tape, g2.output, hsz, rfl, fun b o h => ⟨⟨Nat.lt_of_lt_of_le h.1 hsz, h.2.1, fun q x hx hb => hdead q x b o hx hb (.inr h)⟩, cell_of_block (hold b h.1 (him0 b o h))⟩, fun b hb hm => ⟨hold b hb (fun e => hm ⟨i, _, hi, hX.live, e⟩), ?_⟩, by simp, fun q x hx hf => ?_, g2.keep⟩
    · rintro ⟨q, x, hx, hl, hb⟩
      rcases hget q x hx with ⟨_, rfl⟩ | ⟨_, hx'⟩
      · cases hl
      · exact hm ⟨q, x, hx', hl, hb⟩
    · by_cases hq : q = i
      · subst hq
        rw [hi] at hx
        cases hx
        exact ⟨.dead, List.getElem?_set_self hil, rfl, fun ht => ⟨rfl, rfl⟩, fun k n e => by cases e⟩
      · refine ⟨x, by rw [List.getElem?_set_ne (Ne.symm hq)]; exact hx, hf, fun ht => ⟨ht, rfl⟩, fun k n e => ⟨n, e, .inr ⟨rfl, rfl, fun b hb => ?_⟩⟩⟩
        exact hold b (hc.here q x b hx hb) (hoth q x b hq hx (by rw [e]; rfl) hb)
  refine ⟨v, c.ρ, res, c.h.set i .dead, rfl, ?_, hev, ?_, hR⟩
  · refine ⟨fun q r x y b hx hy lx ly hb hb' => ?_, fun q x b hx hb => ?_, fun q x hx => ?_, fun b o hX' => ⟨Nat.lt_of_lt_of_le (hc.xs b o hX').1 hsz, fun q x hx hl hb => ?_⟩⟩
    · rcases hget q x hx with ⟨_, rfl⟩ | ⟨_, hx'⟩
      · cases lx
      · rcases hget r y hy with ⟨_, rfl⟩ | ⟨_, hy'⟩
        · cases ly
        · exact hc.inj q r x y b hx' hy' lx ly hb hb'
    · have hql : q < c.h.length := by have := (List.getElem?_eq_some_iff.1 hx).1; simpa using this
      exact Nat.lt_of_lt_of_le (hc.here q _ b (List.getElem?_eq_getElem hql) hb) hsz
    · rcases hget q x hx with ⟨_, rfl⟩ | ⟨h1, hx'⟩
      · trivial
      · exact (hc.blk q x hx').mono hev rfl fun b hl hb => hold b (hc.here q x b hx' hb) (hoth q x b h1 hx' hl hb)
    · rcases hget q x hx with ⟨_, rfl⟩ | ⟨_, hx'⟩
      · cases hl
      · exact (hc.xs b o hX').2 q x hx' hl hb
  · refine RV.xfer (c := ⟨ρ', h', w', (c.one i).X⟩) (c2 := ⟨c.ρ, c.h.set i .dead, w', c.X⟩) (n := 0) (fun b o h => ⟨⟨h.1, ?_, fun q x hx hb => ?_⟩, rfl⟩) (fun i hi => absurd hi (Nat.not_lt_zero i)) (fun i b hi => absurd hi (Nat.not_lt_zero i)) (hle.rv g3) hres
    · intro hX'
      have h2 := (hc.xs b o hX').1
      have hx2 : ¬ (b < c.w.heap.size ∧ ¬ c.im b o ∧ c.ρ i ≠ some b) := by have := h.2.1; rw [g2.x] at this; exact this
      exact hx2 ⟨h2, fun hm => hm.2.1 hX', hnx b o hX'⟩
    · have hx2 : ¬ (b < c.w.heap.size ∧ ¬ c.im b o ∧ c.ρ i ≠ some b) := by have := h.2.1; rw [g2.x] at this; exact this
      refine hdead q x b o hx hb ?_
      have hql : q < c.h.length := by have := (List.getElem?_eq_some_iff.1 hx).1; simpa using this
      have hlt := hc.here q _ b (List.getElem?_eq_getElem hql) hb
      by_cases e1 : c.ρ i = some b
      · exact .inl e1
      · exact .inr (Classical.byContradiction fun hn => hx2 ⟨hlt, hn, e1⟩)
end
section
variable {P : Program} {f : FuncId} {c0 : Cx} {R : AV → List ABlk → Prop} {ops : Array Oper} {n sl : Nat} {o : Oper} {rest : List Oper} {fp : List (List Nat × List Nat)} {k : List Item} {s : AState}
/-- A call, in a drawn region, that makes rows. -/
theorem DOps.made (ho : ops[n]? = some o) (hw : Wanted ops s.t o.guard true) {x : Operand} {as : Array Operand} {ts : Array TypeId} (hop : o.op = .call { callee := .value x, args := as, argTypes := ts })
    {g : FuncId} {fi ca : List AV} (hx : aev s.t x = .fn (.func g) fi ca) {args : List AV} {kk : Nat} {l : List (List AV)} (hs : MSpec P g args kk l) (hle : LeL (fi ++ as.toList.map (aev s.t) ++ ca) args) (ha : belL 0 args = true) (hbl : belLL 0 l = true)
    (hfr : s.h[sl]? = some .free) (h : DOps P f c0 R ops (n + 1) (sl + 1) rest (fp ++ [([sl], [sl])]) k ⟨aput s.t o.dst (.msu sl kk l.length), s.h.set sl (.rows kk l)⟩) : DOps P f c0 R ops n sl (o :: rest) fp k s :=
  DOps.cons (e := ⟨.msu sl kk l.length, [(sl, .rows kk l)], [sl]⟩) (StepOk.call ho hw hop hx hs.fn _ fun h' hh => ACall.newAt (by rw [hh sl (by simp)]; exact hfr) hs hle ha hbl ⟨rfl, rfl⟩) h
theorem Ops.made (hw : Wanted ops s.t o.guard true) {x : Operand} {as : Array Operand} {ts : Array TypeId} (hop : o.op = .call { callee := .value x, args := as, argTypes := ts })
    {g : FuncId} {fi ca : List AV} (hx : aev s.t x = .fn (.func g) fi ca) {args : List AV} {kk : Nat} {l : List (List AV)} (hs : MSpec P g args kk l) (hle : LeL (fi ++ as.toList.map (aev s.t) ++ ca) args) (ha : belL 0 args = true) (hbl : belLL 0 l = true)
    (h : Ops P f c0 R ops (n + 1) rest k ⟨aput s.t o.dst (.msu s.h.length kk l.length), s.h ++ [.rows kk l]⟩) : Ops P f c0 R ops n (o :: rest) k s :=
  Ops.call hw hop hx hs.fn (ACall.grown (ACall.newAt (sl := s.h.length) (by simp) hs hle ha hbl (by
    have e1 : (s.h ++ [ABlk.free]).set s.h.length (.rows kk l) = s.h ++ [.rows kk l] := by rw [List.set_append_right _ _ (Nat.le_refl _)]; simp
    rw [e1]; exact h)))
/-- A call that takes a block of its caller's, in a drawn region. -/
theorem DOps.lent (ho : ops[n]? = some o) (hw : Wanted ops s.t o.guard true) {x : Operand} {as : Array Operand} {ts : Array TypeId} (hop : o.op = .call { callee := .value x, args := as, argTypes := ts })
    {g : FuncId} {fi ca : List AV} (hx : aev s.t x = .fn (.func g) fi ca) (hg : Callable P g) {args : List AV} {i : Nat} {X0 : ABlk} {res : AV} (hi : s.h[i]? = some X0) (hX : Lent X0) (H : ACall P g args [X0] fun r _ => LeR r res) (hres : res.bel 0 = true)
    (harg : OneL i (fi ++ as.toList.map (aev s.t) ++ ca) args) (h : DOps P f c0 R ops (n + 1) (sl + 1) rest (fp ++ [([i], [i])]) k ⟨aput s.t o.dst res, s.h.set i .dead⟩) : DOps P f c0 R ops n sl (o :: rest) fp k s :=
  DOps.cons (e := ⟨res, [(i, .dead)], [i]⟩) (StepOk.call ho hw hop hx hg _ fun h' hh => ACall.one (by rw [hh i (by simp)]; exact hi) hX H hres harg ⟨rfl, rfl⟩) h
theorem Ops.lent (hw : Wanted ops s.t o.guard true) {x : Operand} {as : Array Operand} {ts : Array TypeId} (hop : o.op = .call { callee := .value x, args := as, argTypes := ts })
    {g : FuncId} {fi ca : List AV} (hx : aev s.t x = .fn (.func g) fi ca) (hg : Callable P g) {args : List AV} {i : Nat} {X0 : ABlk} {res : AV} (hi : s.h[i]? = some X0) (hX : Lent X0) (H : ACall P g args [X0] fun r _ => LeR r res) (hres : res.bel 0 = true)
    (harg : OneL i (fi ++ as.toList.map (aev s.t) ++ ca) args) (h : Ops P f c0 R ops (n + 1) rest k ⟨aput s.t o.dst res, s.h.set i .dead⟩) : Ops P f c0 R ops n (o :: rest) k s :=
  Ops.call hw hop hx hg (ACall.one hi hX H hres harg h)
end
end Go.Proofs.Ytcafahcmalfepaa
/-
  The shadow of a run: slices that overlap, or do not; rows in a box that no one writes any more; a slice held against nil. Nothing here speaks of the program.
-/
namespace Go.Proofs.Ytcafahcmalfepaa
open Go.RowKit
section
variable {P : Program} {T : TabT} {f : FuncId} {c0 : Cx} {R : AV → List ABlk → Prop} {k : List Item} {s : AState} {ops : Array Oper} {n : Nat} {o : Oper} {rest : List Oper}
theorem run_nil_sl (d : Nat) (t : TypeId) {el : Nat} (hd : P.underlying t = some (.slice el)) (n cap : Nat) (w : World) : (Op.equalIn (d + 1) t (.slice none n cap) (.slice none 0 0)).run P w = .ok true w := by
  simp [Op.equalIn, run_underlying hd]
/-- Two slices in two blocks, the second one the run's own. -/
theorem run_overlaps_own (w : World) (tS tR e : TypeId) (ht : P.underlying tS = some (.slice e)) (size : Nat) (hz : ∀ w, (Go.sizeOf e).run P w = .ok size w)
    (a b : Addr) (la ca lb cb : Nat) (hne : a.block ≠ b.block) (tA tB : TypeId) (kA kB : Nat) (hsa : w.shape? a.block = some (tA, kA)) (hkA : kA ≠ 0) (hsb : w.shape? b.block = some (tB, kB)) (hkB : kB ≠ 0)
    (hfb : w.frozen? b = false) (hfe : w.frozen? { block := b.block, off := kB } = false) :
    (Extern.SlicesOverlaps.overlaps #[tS, tS] #[tR] #[.slice (some a) la ca, .slice (some b) lb cb]).run P w = .ok (.bool false) w := by
  have hnb : (a.block != b.block) = true := by simpa using hne
  have hnb' : (a.block == b.block) = false := by simpa using hne
  change Sem.run P (α := Value) (do
    let some t := (#[tS, tS] : Array TypeId)[0]? | stuck "slices.overlaps: no parameter types"
    let .slice elem ← underlying t | stuck "slices.overlaps: slice type expected"
    let size ← sizeOf elem
    match (some a : Option Addr), (some b : Option Addr) with
    | some a, some b =>
      if la = 0 ∨ lb = 0 ∨ size = 0 then pure (Value.bool false)
      else if a.block != b.block && (← frozen a) && (← frozen b) then unsupported .addressObserved
      else do
        if a.block != b.block then do
          noView a; noView b
          if ← mayBeOne a b then return Value.bool ((← choose (.extern "sameAddr.stringBytes" 2)) == 1)
        pure (Value.bool (a.block == b.block && a.off < b.off + lb * size && b.off < a.off + la * size))
    | _, _ => pure (Value.bool false)) w = _
  by_cases h0 : la = 0 ∨ lb = 0 ∨ size = 0
  · simp [run_underlying ht, hz, h0]
  · cases kA with
    | zero => exact absurd rfl hkA
    | succ kA =>
      cases kB with
      | zero => exact absurd rfl hkB
      | succ kB =>
        by_cases h1 : w.frozen? a = true
        · simp [run_underlying ht, hz, h0, hnb, hnb', frozen, noView, viewAt, mayBeOne, stringish, shape, Sem.run, hsa, hsb, hfb, hfe, h1]
        · have h1' : w.frozen? a = false := by simpa using h1
          by_cases h2 : w.frozen? { block := a.block, off := kA + 1 } = true
          · simp [run_underlying ht, hz, h0, hnb, hnb', frozen, noView, viewAt, mayBeOne, stringish, shape, Sem.run, hsa, hsb, hfb, hfe, h1', h2]
          · have h2' : w.frozen? { block := a.block, off := kA + 1 } = false := by simpa using h2
            simp [run_underlying ht, hz, h0, hnb, hnb', frozen, noView, viewAt, mayBeOne, stringish, shape, Sem.run, hsa, hsb, hfb, hfe, h1', h2']
theorem Ops.overlaps (hw : Wanted ops s.t o.guard true) {x a0 a1 : Operand} {ts : Array TypeId} (hop : o.op = .call { callee := .value x, args := #[a0, a1], argTypes := ts }) {g : FuncId} (hx : aev s.t x = .fn (.func g) [] [])
    {tS tR e : TypeId} {size : Nat} (hund : P.underlying tS = some (.slice e)) (hz : ∀ w, (Go.sizeOf e).run P w = .ok size w) (hext : ∀ args w v, (Extern.SlicesOverlaps.overlaps #[tS, tS] #[tR] args).run P w = .ok v w → (callFunc g args).run P w = .ok (.value v) w)
    {kk : Nat} (hk : 0 < kk) {y : List AV} {ys : List (List AV)} {tk : Tk} (h0 : aev s.t a0 = .sl kk (y :: ys) tk) {i oo m cap : Nat} {L : List (List AV)} (h1 : aev s.t a1 = .msl i kk oo m cap) (hi : s.h[i]? = some (.rows kk L)) (hL : L ≠ [])
    (h : Ops P f c0 R ops (n + 1) rest k ⟨aput s.t o.dst (.bool false), s.h⟩) : Ops P f c0 R ops n (o :: rest) k s := by
  refine ⟨fun hd ρ w a g1 g2 g3 g4 => ?_⟩
  obtain ⟨ho', hd'⟩ := range'_cons hd
  rw [List.length_cons, List.range'_succ]
  obtain ⟨dst, op, ty, pos, after, guard⟩ := o
  simp only at hop
  subst hop
  have hvx := g3.ev x
  rw [hx] at hvx
  have hv0 := g3.ev a0
  rw [h0] at hv0
  have hv1 := g3.ev a1
  rw [h1] at hv1
  generalize hevx : a.eval x = vx at hvx
  generalize hev0 : a.eval a0 = v0 at hv0
  generalize hev1 : a.eval a1 = v1 at hv1
  cases hvx with
  | fn _ u1 u2 _ _ l1 l2 r1 r2 =>
    obtain rfl : u1 = #[] := Array.eq_empty_of_size_eq_zero (by simpa using l1)
    obtain rfl : u2 = #[] := Array.eq_empty_of_size_eq_zero (by simpa using l2)
    cases hv1 with
    | msl _ _ _ _ _ b o' hkn hb hnt hcap hm ho =>
      obtain ⟨vs, te, hR⟩ := RowsAt.of g1 hi hb
      have hsz := hR.size hk
      have hLl : 0 < L.length := List.length_pos_iff.2 hL
      have hpos : 0 < L.length * kk := Nat.mul_pos hLl hk
      cases hv0 with
      | sl _ _ _ A q cap2 b2 o2 us hn hc2 hm2 hA hkk hcc hrr htt =>
        obtain rfl := hA (by simp)
        obtain ⟨y0, hy0⟩ : ∃ y0, y[0]? = some y0 := ⟨_, List.getElem?_eq_getElem (by rw [hkk 0 y rfl]; exact hk)⟩
        obtain ⟨_, him, hcell⟩ := hcc 0 y 0 y0 rfl hy0
        have hbb : b2 ≠ b := fun e => by
          subst e
          exact him.2.2 i _ hi hb
        have hsh : ∃ tA kA, w.shape? b2 = some (tA, kA) ∧ kA ≠ 0 := by
          simp only [World.cell?] at hcell
          split at hcell
          · rename_i cs te2 fr hh
            refine ⟨te2, cs.size, by simp only [World.shape?]; rw [hh], fun e => ?_⟩
            simp at hcell
            have := (Array.getElem?_eq_some_iff.1 hcell).1
            omega
          · cases hcell
        obtain ⟨tA, kA, hsa, hkA⟩ := hsh
        have hh : w.heap[b]? = some (.cells vs te (0, 0)) := hR.hh
        have hov := run_overlaps_own (P := P) w tS tR e hund size hz ⟨b2, o2, none⟩ ⟨b, o', none⟩ q cap2 m cap hbb tA te kA vs.size hsa hkA (by simp only [World.shape?]; rw [hh]) (by omega) (by simp only [World.frozen?]; rw [hh]; simp) (by simp only [World.frozen?]; rw [hh]; simp)
        have hcall := hext _ _ _ hov
        exact (h.h hd' ρ w (a.put dst (.bool false)) g1 g2 (g3.put dst (.bool false)) (by cases dst <;> exact g4)).step fun bb cs _ => step_value (P := P) ho' (hw.ok g3) (by simp [execOp, Go.resolve, Deferred.ofValue, Go.invoke, hevx, hev0, hev1, Sem.run_bind, hcall]) (.inl rfl)
/-- Rows in a box, frozen. -/
theorem Weak.freezeC (q m i kk oo nn cap : Nat) (L : List (List AV)) (cs : List AV) (hq : s.h[q]? = some (.box cs)) (hm : cs[m]? = some (.msl i kk oo nn cap)) (hi : s.h[i]? = some (.rows kk L)) (hk : 0 < kk) (hon : oo + nn ≤ L.length) (hp : ∀ x ∈ (L.drop oo).take nn, ∀ a ∈ x, a.plain = true) :
    Weak P c0 s ⟨s.t, (s.h.set i .dead).set q (.box (cs.set m (.sl kk ((L.drop oo).take nn) .no)))⟩ := by
  refine ⟨fun ρ w vs h1 h2 h3 => ?_⟩
  have hiq : i ≠ q := fun e => by subst e; rw [hi] at hq; cases hq
  obtain ⟨b, us, e, hb, hh, hsz, hall⟩ := h1.blk q _ hq
  have hml : m < cs.length := (List.getElem?_eq_some_iff.1 hm).1
  obtain ⟨hc1, v, hv, hr⟩ := hall m _ hm
  obtain ⟨q1, q2, q3⟩ := hr.frozen h1 hi hk hon hp
  have hq' : (s.h.set i .dead)[q]? = some (.box cs) := by rw [List.getElem?_set_ne hiq]; exact hq
  obtain ⟨q4, q5⟩ := Cx.retell q1 q b _ (.box (cs.set m (.sl kk ((L.drop oo).take nn) .no))) hq' hb rfl rfl rfl rfl (fun o h => h.elim) fun hev => by
    refine ⟨b, us, e, hb, hh, by simpa using hsz, fun j a ha => ?_⟩
    rw [List.getElem?_set] at ha
    split at ha
    · rename_i hjm
      subst hjm
      cases ha
      exact ⟨rfl, v, hv, q3.mono hev⟩
    · obtain ⟨g1, u, g2, g3⟩ := hall j a ha
      exact ⟨g1, u, g2, (g3.mono q2).mono hev⟩
  exact ⟨ρ, q4, h2.trans (q2.trans q5), h3.mono (q2.trans q5)⟩
/-- A nil row in a box, as an empty row of the run's own. -/
theorem Weak.ownC (q m kk : Nat) (cs : List AV) (hq : s.h[q]? = some (.box cs)) (hm : cs[m]? = some .nils) : Weak P c0 s ⟨s.t, (s.h ++ [ABlk.tok kk 0]).set q (.box (cs.set m (.sl kk [] (.own s.h.length))))⟩ := by
  refine ⟨fun ρ w vs h1 h2 h3 => ?_⟩
  obtain ⟨b, us, e, hb, hh, hsz, hall⟩ := h1.blk q _ hq
  have hml : m < cs.length := (List.getElem?_eq_some_iff.1 hm).1
  have hql : q < s.h.length := (List.getElem?_eq_some_iff.1 hq).1
  obtain ⟨hc1, v, hv, hr⟩ := hall m _ hm
  obtain ⟨g1, g2⟩ := Cx.grow h1
  obtain ⟨q1, q2⟩ := Cx.unborn g1 s.h.length kk (by simp)
  have e1 : (s.h ++ [ABlk.free]).set s.h.length (.tok kk 0) = s.h ++ [ABlk.tok kk 0] := by rw [List.set_append_right _ _ (Nat.le_refl _)]; simp
  simp only [e1] at q1 q2
  have hq' : (s.h ++ [ABlk.tok kk 0])[q]? = some (.box cs) := by rw [List.getElem?_append_left hql]; exact hq
  have hb' : setρ ρ s.h.length none q = some b := by rw [setρ_ne _ _ (by omega)]; exact hb
  have hq1 : q ≠ s.h.length := by omega
  have hlast : ((s.h ++ [ABlk.tok kk 0]).set q (.box (cs.set m (.sl kk [] (.own s.h.length)))))[s.h.length]? = some (.tok kk 0) := by
    rw [List.getElem?_set_ne hq1]; simp
  obtain ⟨q4, q5⟩ := Cx.retell q1 q b _ (.box (cs.set m (.sl kk [] (.own s.h.length)))) hq' hb' rfl rfl rfl rfl (fun o h => h.elim) fun hev => by
    refine ⟨b, us, e, hb', hh, by simpa using hsz, fun j a ha => ?_⟩
    rw [List.getElem?_set] at ha
    split at ha
    · rename_i hjm
      subst hjm
      cases ha
      cases hr
      refine ⟨rfl, _, hv, .sl kk [] _ none 0 0 0 0 (fun _ _ => undef) rfl (Nat.le_refl _) (Nat.zero_le _) (fun h => absurd rfl h) (fun j e h => by simp at h) (fun j e i a h => by simp at h) (fun j e i a h => by simp at h) ⟨⟨_, hlast, rfl⟩, fun k' n' e => ?_⟩⟩
      have e2 : ((s.h ++ [ABlk.tok kk 0]).set q (.box (cs.set m (.sl kk [] (.own s.h.length)))))[s.h.length]? = some (.tok k' n') := e
      rw [hlast] at e2
      cases e2
      exact ⟨rfl, Nat.le_refl _, fun _ => .inl rfl⟩
    · obtain ⟨g3, u, g4, g5⟩ := hall j a ha
      exact ⟨g3, u, g4, ((g5.mono g2).mono q2).mono hev⟩
  exact ⟨_, q4, h2.trans (g2.trans (q2.trans q5)), h3.mono (g2.trans (q2.trans q5))⟩
/-- An empty slice held against nil: it may be nil, or not. -/
theorem Ops.eqnil (hw : Wanted ops s.t o.guard true) {a0 a1 : Operand} {t u el : TypeId} (hop : o.op = .binOp .eql t a0 a1 u) (hd : P.underlying t = some (.slice el)) {kk : Nat} {l : List (List AV)} {tk : Tk} (h0 : aev s.t a0 = .sl kk l tk) (h1 : aev s.t a1 = .nils)
    (h : ∀ b, Ops P f c0 R ops (n + 1) rest k ⟨aput s.t o.dst (.bool b), s.h⟩) : Ops P f c0 R ops n (o :: rest) k s := by
  refine ⟨fun hdr ρ w a g1 g2 g3 g4 => ?_⟩
  obtain ⟨ho', hd'⟩ := range'_cons hdr
  rw [List.length_cons, List.range'_succ]
  obtain ⟨dst, op, ty, pos, after, guard⟩ := o
  simp only at hop
  subst hop
  have hv0 := g3.ev a0
  rw [h0] at hv0
  have hv1 := g3.ev a1
  rw [h1] at hv1
  generalize hev0 : a.eval a0 = v0 at hv0
  generalize hev1 : a.eval a1 = v1 at hv1
  cases hv1
  cases hv0 with
  | sl _ _ _ A q cap2 b2 o2 us hn hc2 hm2 hA hkk hcc hrr htt =>
    cases A with
    | none =>
      have he := run_nil_sl (P := P) 9999 t hd q cap2 w
      exact ((h true).h hd' ρ w (a.put dst (.bool true)) g1 g2 (g3.put dst (.bool true)) (by cases dst <;> exact g4)).step fun bb cs _ => step_value (P := P) ho' (hw.ok g3) (by simp [execOp, hev0, hev1, eqGuard, binOp, Op.equal, Op.maxDepth, Sem.run_bind, he]) (.inl rfl)
    | some a' =>
      have he := run_sl_nil (P := P) 9999 t hd a' q cap2 w
      exact ((h false).h hd' ρ w (a.put dst (.bool false)) g1 g2 (g3.put dst (.bool false)) (by cases dst <;> exact g4)).step fun bb cs _ => step_value (P := P) ho' (hw.ok g3) (by simp [execOp, hev0, hev1, eqGuard, binOp, Op.equal, Op.maxDepth, Sem.run_bind, he]) (.inl rfl)
end
end Go.Proofs.Ytcafahcmalfepaa
/-
  A callee that takes some blocks of its caller's, and gives them back changed; a method called through an interface. Nothing here speaks of the program.
-/
namespace Go.Proofs.Ytcafahcmalfepaa
open Go.RowKit
mutual
/-- A value as the callee sees it, to whom the blocks js are lent: the first of them is its block 0. -/
def AV.ren (js : List Nat) : AV → AV
  | .ptr i o => .ptr (js.idxOf i) o
  | .eptr i k j o => .eptr (js.idxOf i) k j o
  | .msl i k o n cap => .msl (js.idxOf i) k o n cap
  | .sl k l _ => .sl k l .no
  | .agg cs => .agg (renL js cs)
  | .tup vs => .tup (renL js vs)
  | .psl k l => .psl k (renLL js l)
  | .rptr cs => .rptr (renL js cs)
  | .fn f a b => .fn f (renL js a) (renL js b)
  | .iface t v => .iface t (v.ren js)
  | v => v
def renL (js : List Nat) : List AV → List AV
  | [] => []
  | a :: l => a.ren js :: renL js l
def renLL (js : List Nat) : List (List AV) → List (List AV)
  | [] => []
  | a :: l => renL js a :: renLL js l
end
mutual
/-- Hangs a value on no other blocks of the run's own than these? -/
def AV.among (js : List Nat) : AV → Bool
  | .ptr i _ => js.contains i
  | .eptr i _ _ _ => js.contains i
  | .msl i _ _ _ _ => js.contains i
  | .msu _ _ _ => false
  | .mp _ => false
  | .agg cs => amongL js cs
  | .tup vs => amongL js vs
  | .psl _ l => amongLL js l
  | .rptr cs => amongL js cs
  | .fn _ a b => amongL js a && amongL js b
  | .iface _ v => v.among js
  | .cnd _ _ => false
  | _ => true
def amongL (js : List Nat) : List AV → Bool
  | [] => true
  | a :: l => a.among js && amongL js l
def amongLL (js : List Nat) : List (List AV) → Bool
  | [] => true
  | a :: l => amongL js a && amongLL js l
end
theorem renL_get (js : List Nat) : ∀ (l : List AV) (i : Nat), (renL js l)[i]? = (l[i]?).map (AV.ren js)
  | [], i => by simp [renL]
  | a :: l, i => by
    cases i with
    | zero => simp [renL]
    | succ i => simpa [renL] using renL_get js l i
theorem renLL_get (js : List Nat) : ∀ (l : List (List AV)) (i : Nat), (renLL js l)[i]? = (l[i]?).map (renL js)
  | [], i => by simp [renLL]
  | a :: l, i => by
    cases i with
    | zero => simp [renLL]
    | succ i => simpa [renLL] using renLL_get js l i
theorem renL_len (js : List Nat) : ∀ l : List AV, (renL js l).length = l.length
  | [] => rfl
  | a :: l => by simp [renL, renL_len js l]
theorem renLL_len (js : List Nat) : ∀ l : List (List AV), (renLL js l).length = l.length
  | [] => rfl
  | a :: l => by simp [renLL, renLL_len js l]
theorem amongL_get {js : List Nat} : ∀ {l : List AV}, amongL js l = true → ∀ (i : Nat) a, l[i]? = some a → a.among js = true
  | [], _, i, a, h => by simp at h
  | b :: l, h, i, a, ha => by
    simp only [amongL, Bool.and_eq_true] at h
    cases i with
    | zero => simp at ha; subst ha; exact h.1
    | succ i => exact amongL_get h.2 i a (by simpa using ha)
theorem amongLL_get {js : List Nat} : ∀ {l : List (List AV)}, amongLL js l = true → ∀ (i : Nat) a, l[i]? = some a → amongL js a = true
  | [], _, i, a, h => by simp at h
  | b :: l, h, i, a, ha => by
    simp only [amongLL, Bool.and_eq_true] at h
    cases i with
    | zero => simp at ha; subst ha; exact h.1
    | succ i => exact amongLL_get h.2 i a (by simpa using ha)
theorem AV.ren_cell (js : List Nat) (a : AV) : (a.ren js).cell = a.cell := by cases a <;> rfl
theorem AV.ren_plain {a : AV} (h : a.plain = true) (js : List Nat) : a.ren js = a := by
  cases a with
  | sl k l t => cases t with | no => rfl | own i => cases h
  | _ => first | rfl | cases h
theorem AV.plain_among {a : AV} (h : a.plain = true) (js : List Nat) : a.among js = true := by
  cases a with
  | sl k l t => rfl
  | _ => first | rfl | cases h
/-- Blocks that may be lent. -/
def LentB (x : ABlk) : Prop := (∃ cs, x = .box cs ∧ belL 0 cs = true) ∨ ∃ k L, x = .rows k L ∧ belLL 0 L = true
theorem LentB.fix {x : ABlk} (h : LentB x) (o : Nat) : ¬ x.fix o := by
  rcases h with ⟨cs, rfl, _⟩ | ⟨k, L, rfl, _⟩ <;> exact fun h => h
theorem LentB.live {x : ABlk} (h : LentB x) : x.live = true := by rcases h with ⟨cs, rfl, _⟩ | ⟨k, L, rfl, _⟩ <;> rfl
theorem LentB.free {x : ABlk} (h : LentB x) : x.isfree = false := by rcases h with ⟨cs, rfl, _⟩ | ⟨k, L, rfl, _⟩ <;> rfl
theorem LentB.tok {x : ABlk} (h : LentB x) : x.istok = false := by rcases h with ⟨cs, rfl, _⟩ | ⟨k, L, rfl, _⟩ <;> rfl
theorem LentB.notok {x : ABlk} (h : LentB x) (k n : Nat) : x ≠ .tok k n := by rcases h with ⟨cs, rfl, _⟩ | ⟨k, L, rfl, _⟩ <;> simp
def Cx.lend (c : Cx) (js : List Nat) : Cx := ⟨fun q => (js[q]?).bind c.ρ, js.map fun i => (c.h[i]?).getD .dead, c.w, fun b o => b < c.w.heap.size ∧ ¬ c.im b o ∧ ∀ i ∈ js, c.ρ i ≠ some b⟩
section
variable {c : Cx} {js : List Nat}
theorem Cx.lend_get (hX : ∀ i ∈ js, ∃ x, c.h[i]? = some x ∧ LentB x) {q : Nat} {x : ABlk} (hx : (c.lend js).h[q]? = some x) : ∃ i, js[q]? = some i ∧ c.h[i]? = some x ∧ LentB x ∧ (c.lend js).ρ q = c.ρ i := by
  simp only [Cx.lend, List.getElem?_map, Option.map_eq_some_iff] at hx
  obtain ⟨i, hi, rfl⟩ := hx
  obtain ⟨y, hy, hl⟩ := hX i (List.mem_of_getElem? hi)
  rw [hy]
  exact ⟨i, hi, hy, hl, by simp [Cx.lend, hi]⟩
theorem Cx.lend_im (hX : ∀ i ∈ js, ∃ x, c.h[i]? = some x ∧ LentB x) {b o : Nat} (h : c.im b o) : (c.lend js).im b o := by
  refine ⟨h.1, fun hx => hx.2.1 h, fun q x hx hb => ?_⟩
  obtain ⟨i, _, h2, _, h4⟩ := Cx.lend_get hX hx
  exact h.2.2 i _ h2 (h4.symm.trans hb)
theorem Cx.lend_xfer (hX : ∀ i ∈ js, ∃ x, c.h[i]? = some x ∧ LentB x) {v : Value} {a : AV} (h : RV c v a) (ha : a.bel 0 = true) : RV (c.lend js) v a :=
  h.xfer (fun b o h => ⟨Cx.lend_im hX h, rfl⟩) (fun i hi => absurd hi (Nat.not_lt_zero i)) (fun i b hi => absurd hi (Nat.not_lt_zero i)) ha
theorem idx_get {i : Nat} (h : js.contains i = true) : js[js.idxOf i]? = some i ∧ i ∈ js := by
  have hm : i ∈ js := by simpa using h
  have hl : js.idxOf i < js.length := List.idxOf_lt_length_of_mem hm
  exact ⟨by rw [List.getElem?_eq_getElem hl, List.getElem_idxOf], hm⟩
theorem RV.ren (hX : ∀ i ∈ js, ∃ x, c.h[i]? = some x ∧ LentB x) {v : Value} {a : AV} (h : RV c v a) (ha : a.among js = true) : RV (c.lend js) v (a.ren js) := by
  have hkn : ∀ i, js.contains i = true → (c.lend js).known (js.idxOf i) ∧ (c.lend js).ρ (js.idxOf i) = c.ρ i ∧ ∀ x, (c.lend js).h[js.idxOf i]? = some x → x.istok = false := fun i hi => by
    obtain ⟨h1, h2⟩ := idx_get hi
    obtain ⟨x, hx, hl⟩ := hX i h2
    have h0 : (c.lend js).h[js.idxOf i]? = some x := by simp [Cx.lend, h1, hx]
    refine ⟨⟨x, h0, hl.free⟩, by simp [Cx.lend, h1], fun y hy => ?_⟩
    rw [h0] at hy; cases hy; exact hl.tok
  induction h with
  | int k n => exact .int k n
  | bool b => exact .bool b
  | str s l h => exact .str s l h
  | nilp => exact .nilp
  | ptr i o b hk hb ht =>
    obtain ⟨g1, g2, g3⟩ := hkn i ha
    exact .ptr _ o b g1 (g2.trans hb) g3
  | rptr cs b o vs hc _ ih =>
    simp only [AV.among] at ha
    refine .rptr _ b o vs (fun i a hi => ?_) (fun i a hi => ?_)
    · rw [renL_get, Option.map_eq_some_iff] at hi
      obtain ⟨a0, ha0, rfl⟩ := hi
      obtain ⟨h1, h2, h3⟩ := hc i a0 ha0
      exact ⟨by rw [AV.ren_cell]; exact h1, Cx.lend_im hX h2, h3⟩
    · rw [renL_get, Option.map_eq_some_iff] at hi
      obtain ⟨a0, ha0, rfl⟩ := hi
      exact ih i a0 ha0 (amongL_get ha i a0 ha0)
  | sl k l t A m cap b o vs hn hcap hm hA hk hc _ ht ih =>
    refine .sl k l .no A m cap b o vs hn hcap hm hA hk (fun j e i a he hi => ?_) (fun j e i a he hi => ?_) trivial
    · obtain ⟨h1, h2, h3⟩ := hc j e i a he hi
      exact ⟨h1, Cx.lend_im hX h2, h3⟩
    · have hp := (hc j e i a he hi).1
      have := ih j e i a he hi (AV.plain_among hp js)
      rwa [AV.ren_plain hp] at this
  | psl k l A m cap b o vs hn hcap hm hA hk hc _ ih =>
    simp only [AV.among] at ha
    refine .psl k _ A m cap b o vs (by rw [renLL_len]; exact hn) hcap hm (fun h => hA (by rintro rfl; exact h rfl)) (fun j e he => ?_) (fun j e i a he hi => ?_) (fun j e i a he hi => ?_)
    · rw [renLL_get, Option.map_eq_some_iff] at he
      obtain ⟨e0, he0, rfl⟩ := he
      rw [renL_len]; exact hk j e0 he0
    · rw [renLL_get, Option.map_eq_some_iff] at he
      obtain ⟨e0, he0, rfl⟩ := he
      rw [renL_get, Option.map_eq_some_iff] at hi
      obtain ⟨a0, ha0, rfl⟩ := hi
      obtain ⟨h1, h2, h3⟩ := hc j e0 i a0 he0 ha0
      exact ⟨by rw [AV.ren_cell]; exact h1, Cx.lend_im hX h2, h3⟩
    · rw [renLL_get, Option.map_eq_some_iff] at he
      obtain ⟨e0, he0, rfl⟩ := he
      rw [renL_get, Option.map_eq_some_iff] at hi
      obtain ⟨a0, ha0, rfl⟩ := hi
      exact ih j e0 i a0 he0 ha0 (amongL_get (amongLL_get ha j e0 he0) i a0 ha0)
  | nils => exact .nils
  | agg vs cs hs hc _ ih =>
    simp only [AV.among] at ha
    refine .agg vs _ (by rw [renL_len]; exact hs) (fun i a hi => ?_) fun i v a hv hi => ?_
    · rw [renL_get, Option.map_eq_some_iff] at hi
      obtain ⟨a0, ha0, rfl⟩ := hi
      rw [AV.ren_cell]; exact hc i a0 ha0
    · rw [renL_get, Option.map_eq_some_iff] at hi
      obtain ⟨a0, ha0, rfl⟩ := hi
      exact ih i v a0 hv ha0 (amongL_get ha i a0 ha0)
  | tup vs cs hs _ ih =>
    simp only [AV.among] at ha
    refine .tup vs _ (by rw [renL_len]; exact hs) fun i v a hv hi => ?_
    rw [renL_get, Option.map_eq_some_iff] at hi
    obtain ⟨a0, ha0, rfl⟩ := hi
    exact ih i v a0 hv ha0 (amongL_get ha i a0 ha0)
  | fn f v1 v2 a1 a2 h1 h2 _ _ r1 r2 =>
    simp only [AV.among, Bool.and_eq_true] at ha
    refine .fn f v1 v2 _ _ (by rw [renL_len]; exact h1) (by rw [renL_len]; exact h2) (fun i v a hv hi => ?_) (fun i v a hv hi => ?_)
    · rw [renL_get, Option.map_eq_some_iff] at hi
      obtain ⟨a0, ha0, rfl⟩ := hi
      exact r1 i v a0 hv ha0 (amongL_get ha.1 i a0 ha0)
    · rw [renL_get, Option.map_eq_some_iff] at hi
      obtain ⟨a0, ha0, rfl⟩ := hi
      exact r2 i v a0 hv ha0 (amongL_get ha.2 i a0 ha0)
  | nilf => exact .nilf
  | iface t v a _ ih => simp only [AV.among] at ha; exact .iface t v _ (ih ha)
  | nilI => exact .nilI
  | mp i b hk hb ht => cases ha
  | nilm => exact .nilm
  | msl i k o m cap b o' hk hb ht h1 h2 h3 =>
    obtain ⟨g1, g2, g3⟩ := hkn i ha
    exact .msl _ k o m cap b o' g1 (g2.trans hb) g3 h1 h2 h3
  | msu i k m cap b hk hb ht h1 h2 h3 => cases ha
  | eptr i k j o b hk hb ht =>
    obtain ⟨g1, g2, g3⟩ := hkn i ha
    exact .eptr _ k j o b g1 (g2.trans hb) g3
  | cnd g v a _ ih => cases ha
  | junk v => exact .junk v
theorem renL_rel (hX : ∀ i ∈ js, ∃ x, c.h[i]? = some x ∧ LentB x) {vs : Array Value} {as : List AV} (h : TRel c vs as) (ha : amongL js as = true) : TRel (c.lend js) vs (renL js as) := by
  refine ⟨by rw [renL_len]; exact h.1, fun i v x hv hx => ?_⟩
  rw [renL_get, Option.map_eq_some_iff] at hx
  obtain ⟨a0, ha0, rfl⟩ := hx
  exact (h.2 i v a0 hv ha0).ren hX (amongL_get ha i a0 ha0)
theorem Cx.lend_rel (hc : RelH c) (hj : js.Nodup) (hX : ∀ i ∈ js, ∃ x, c.h[i]? = some x ∧ LentB x) : RelH (c.lend js) := by
  refine ⟨fun q r x y b hx hy _ _ hb hb' => ?_, fun q x b hx hb => ?_, fun q x hx => ?_, fun b o h => ⟨h.1, fun q x hx _ hb => ?_⟩⟩
  · obtain ⟨i, h1, h2, h3, h4⟩ := Cx.lend_get hX hx
    obtain ⟨i', g1, g2, g3, g4⟩ := Cx.lend_get hX hy
    have e := hc.inj i i' _ _ b h2 g2 h3.live g3.live (h4.symm.trans hb) (g4.symm.trans hb')
    subst e
    obtain ⟨z1, z2⟩ := List.getElem?_eq_some_iff.1 h1
    obtain ⟨w1, w2⟩ := List.getElem?_eq_some_iff.1 g1
    exact (List.getElem_inj hj).1 (z2.trans w2.symm)
  · obtain ⟨i, h1, h2, h3, h4⟩ := Cx.lend_get hX hx
    exact hc.here i _ b h2 (h4.symm.trans hb)
  · obtain ⟨i, h1, h2, h3, h4⟩ := Cx.lend_get hX hx
    have hb := hc.blk i _ h2
    rcases h3 with ⟨cs, rfl, hcs⟩ | ⟨k, L, rfl, hL⟩
    · obtain ⟨b, vs, e, q1, q2, q3, q4⟩ := hb
      exact ⟨b, vs, e, h4.trans q1, q2, q3, fun m a ha => by
        obtain ⟨z1, v, z2, z3⟩ := q4 m a ha
        exact ⟨z1, v, z2, Cx.lend_xfer hX z3 (belL_get hcs m a ha)⟩⟩
    · obtain ⟨b, vs, e, q1, q2, q3, q4⟩ := hb
      exact ⟨b, vs, e, h4.trans q1, q2, q3, fun q x m a hx ha => by
        obtain ⟨v, g1, g2⟩ := q4 q x m a hx ha
        exact ⟨v, g1, Cx.lend_xfer hX g2 (belL_get (belLL_get hL q x hx) m a ha)⟩⟩
  · obtain ⟨i, h1, h2, h3, h4⟩ := Cx.lend_get hX hx
    exact h.2.2 i (List.mem_of_getElem? h1) (h4.symm.trans hb)
end
/-- The blocks, given back. -/
def putBack (h : List ABlk) : List Nat → List ABlk → List ABlk
  | i :: js, y :: ys => putBack (h.set i y) js ys
  | _, _ => h
theorem putBack_len : ∀ (js : List Nat) (YS : List ABlk) (h : List ABlk), (putBack h js YS).length = h.length
  | [], _, h => by simp [putBack]
  | i :: js, [], h => by simp [putBack]
  | i :: js, y :: ys, h => by rw [putBack, putBack_len js ys]; simp
theorem putBack_out : ∀ (js : List Nat) (YS : List ABlk) (h : List ABlk) {q : Nat}, q ∉ js → (putBack h js YS)[q]? = h[q]?
  | [], _, h, q, _ => by simp [putBack]
  | i :: js, [], h, q, _ => by simp [putBack]
  | i :: js, y :: ys, h, q, hq => by
    rw [putBack, putBack_out js ys _ (fun e => hq (List.mem_cons_of_mem _ e)), List.getElem?_set_ne (fun e => hq (by rw [e]; exact List.mem_cons_self))]
theorem putBack_in : ∀ (js : List Nat) (YS : List ABlk) (h : List ABlk) {p q : Nat} {y : ABlk}, js.Nodup → js[p]? = some q → YS[p]? = some y → q < h.length → (putBack h js YS)[q]? = some y
  | [], _, h, p, q, y, _, h1, _, _ => by simp at h1
  | i :: js, [], h, p, q, y, _, _, h2, _ => by simp at h2
  | i :: js, z :: ys, h, p, q, y, hj, h1, h2, h3 => by
    obtain ⟨hn, hj⟩ := List.nodup_cons.1 hj
    rw [putBack]
    cases p with
    | zero =>
      simp at h1 h2
      subst h1 h2
      rw [putBack_out js ys _ hn, List.getElem?_set_self h3]
    | succ p => exact putBack_in js ys _ hj (by simpa using h1) (by simpa using h2) (by simpa using h3)
/-- It turns the blocks XS, lent to it, into YS. -/
structure BSpec (P : Program) (f : FuncId) (args : List AV) (XS YS : List ABlk) (res : AV) : Prop where
  fn : Callable P f
  run : ACall P f args XS fun r h' => LeR r res ∧ WkH 0 h' YS
theorem LeB.blk {c : Cx} {i : Nat} {x y : ABlk} (h : LeB 0 x y) (hb : BlkOk c i x) : BlkOk c i y := by
  cases h with
  | same _ _ => exact hb
  | box h _ =>
    obtain ⟨b, vs, e, q1, q2, q3, q4⟩ := hb
    refine ⟨b, vs, e, q1, q2, q3.trans h.len, fun j a ha => ?_⟩
    obtain ⟨a0, h0, hl⟩ := h.get j a ha
    obtain ⟨z1, v, z2, z3⟩ := q4 j a0 h0
    exact ⟨hl.cell z1, v, z2, hl.rv z3⟩
theorem ACall.lend {P : Program} {f : FuncId} {args args' : List AV} {h : List ABlk} {R : AV → List ABlk → Prop} {js : List Nat} {XS YS : List ABlk} {res : AV} (hj : js.Nodup) (hXS : js.map (fun i => (h[i]?).getD .dead) = XS) (hX : ∀ i ∈ js, ∃ x, h[i]? = some x ∧ LentB x) (hY : ∀ y ∈ YS, LentB y) (hlen : YS.length = js.length)
    (hin : amongL js args' = true) (hle : LeL (renL js args') args) (H : BSpec P f args XS YS res) (hres : res.bel 0 = true) (hR : R res (putBack h js YS)) : ACall P f args' h R := by
  intro c vs hch hc ht
  subst hch
  have hrel := Cx.lend_rel hc hj hX
  refine (H.run (c.lend js) vs hXS hrel (hle.rel (renL_rel hX ht hin))).mono ?_
  rintro e w' ⟨v, ρ', r, h', rfl, g1, g2, g3, hle, hwk⟩
  have hil : ∀ i ∈ js, i < c.h.length := fun i hi => by obtain ⟨x, hx, _⟩ := hX i hi; exact (List.getElem?_eq_some_iff.1 hx).1
  have hmut : ∀ b, (c.lend js).mutb b → ∃ i ∈ js, c.ρ i = some b := by
    rintro b ⟨q, x, hx, _, hb⟩
    obtain ⟨i, h1, h2, h3, h4⟩ := Cx.lend_get hX hx
    exact ⟨i, List.mem_of_getElem? h1, h4.symm.trans hb⟩
  have hsz : c.w.heap.size ≤ w'.heap.size := g2.size
  have hold : ∀ b, b < c.w.heap.size → (∀ i ∈ js, c.ρ i ≠ some b) → w'.heap[b]? = c.w.heap[b]? := fun b hb h1 => (g2.fr b hb fun hm => by obtain ⟨i, hi, e⟩ := hmut b hm; exact h1 i hi e).1
  have hget : ∀ (q : Nat) x, (putBack c.h js YS)[q]? = some x → (∃ p, js[p]? = some q ∧ YS[p]? = some x) ∨ (q ∉ js ∧ c.h[q]? = some x) := fun q x hx => by
    by_cases hq : q ∈ js
    · obtain ⟨p, hp⟩ := List.getElem?_of_mem hq
      have hpl : p < YS.length := by rw [hlen]; exact (List.getElem?_eq_some_iff.1 hp).1
      have e := putBack_in js YS c.h hj hp (List.getElem?_eq_getElem hpl) (hil q hq)
      rw [hx] at e
      exact .inl ⟨p, hp, by rw [List.getElem?_eq_getElem hpl]; exact e.symm⟩
    · rw [putBack_out js YS c.h hq] at hx
      exact .inr ⟨hq, hx⟩
  have hoth : ∀ (q : Nat) x b, q ∉ js → c.h[q]? = some x → x.live = true → c.ρ q = some b → ∀ i ∈ js, c.ρ i ≠ some b := fun q x b h1 hx hl hb i hi e => by
    obtain ⟨y, hy, hyl⟩ := hX i hi
    have := hc.inj q i x y b hx hy hl hyl.live hb e
    subst this
    exact h1 hi
  have hnx : ∀ b o, c.X b o → ∀ i ∈ js, c.ρ i ≠ some b := fun b o hX' i hi e => by
    obtain ⟨y, hy, hyl⟩ := hX i hi
    exact (hc.xs b o hX').2 i _ hy hyl.live e
  have him0 : ∀ b o, c.im b o → ∀ i ∈ js, c.ρ i ≠ some b := fun b o h i hi e => by
    obtain ⟨y, hy, hyl⟩ := hX i hi
    exact hyl.fix o (h.2.2 i _ hy e)
  -- the callee's blocks lie where the caller's lie
  have hsame : ∀ (p q : Nat) y, js[p]? = some q → YS[p]? = some y → ρ' p = c.ρ q ∧ ∃ z, h'[p]? = some z ∧ LeB 0 z y := fun p q y hp hy => by
    obtain ⟨x, hx, hxl⟩ := hX q (List.mem_of_getElem? hp)
    have h0 : (c.lend js).h[p]? = some x := by simp [Cx.lend, hp, hx]
    obtain ⟨z, hz, hzl⟩ := hwk.get p y hy
    obtain ⟨y', k1, k2, k3, k4⟩ := g2.id p x h0 hxl.free
    exact ⟨(k3 hxl.tok).2.trans (by simp [Cx.lend, hp]), z, hz, hzl⟩
  have hdead : ∀ (q : Nat) x b o, (putBack c.h js YS)[q]? = some x → c.ρ q = some b → ((∃ i ∈ js, c.ρ i = some b) ∨ c.im b o) → q ∉ js → x.fix o := fun q x b o hx hb hcase hq => by
    rcases hget q x hx with ⟨p, hp, _⟩ | ⟨h1, hx'⟩
    · exact absurd (List.mem_of_getElem? hp) hq
    · by_cases hl : x.live = true
      · rcases hcase with ⟨i, hi, h⟩ | h
        · exact absurd h (hoth q x b h1 hx' hl hb i hi)
        · exact h.2.2 q x hx' hb
      · cases x <;> first | exact absurd rfl hl | trivial
  have hev : Ev c ⟨c.ρ, putBack c.h js YS, w', c.X⟩ := by
    refine ⟨g2.os, g2.tape, g2.output, hsz, rfl, fun b o h => ⟨⟨Nat.lt_of_lt_of_le h.1 hsz, h.2.1, fun q x hx hb => ?_⟩, cell_of_block (hold b h.1 (him0 b o h))⟩, fun b hb hm => ⟨hold b hb (fun i hi e => ?_), ?_⟩, by rw [putBack_len]; exact Nat.le_refl _, fun q x hx hf => ?_, g2.keep⟩
    · by_cases hq : q ∈ js
      · exact absurd hb (him0 b o h q hq)
      · exact hdead q x b o hx hb (.inr h) hq
    · obtain ⟨y, hy, hyl⟩ := hX i hi
      exact hm ⟨i, _, hy, hyl.live, e⟩
    · rintro ⟨q, x, hx, hl, hb⟩
      rcases hget q x hx with ⟨p, hp, _⟩ | ⟨_, hx'⟩
      · obtain ⟨y, hy, hyl⟩ := hX q (List.mem_of_getElem? hp)
        exact hm ⟨q, y, hy, hyl.live, hb⟩
      · exact hm ⟨q, x, hx', hl, hb⟩
    · by_cases hq : q ∈ js
      · obtain ⟨p, hp⟩ := List.getElem?_of_mem hq
        have hpl : p < YS.length := by rw [hlen]; exact (List.getElem?_eq_some_iff.1 hp).1
        have hyb := hY _ (List.getElem_mem hpl)
        exact ⟨YS[p], putBack_in js YS c.h hj hp (List.getElem?_eq_getElem hpl) (hil q hq), hyb.free, fun _ => ⟨hyb.tok, rfl⟩, fun k n' e => absurd e (hyb.notok k n')⟩
      · refine ⟨x, by show (putBack c.h js YS)[q]? = _; rw [putBack_out js YS c.h hq]; exact hx, hf, fun ht => ⟨ht, rfl⟩, fun k n e => ⟨n, e, .inr ⟨rfl, rfl, fun b hb => ?_⟩⟩⟩
        exact hold b (hc.here q x b hx hb) (hoth q x b hq hx (by rw [e]; rfl) hb)
  have him' : ∀ b o, (Cx.mk ρ' h' w' (c.lend js).X).im b o → (Cx.mk c.ρ (putBack c.h js YS) w' c.X).im b o := fun b o h => by
    have hx2 : ¬ (b < c.w.heap.size ∧ ¬ c.im b o ∧ ∀ i ∈ js, c.ρ i ≠ some b) := h.2.1
    refine ⟨h.1, fun hX' => hx2 ⟨(hc.xs b o hX').1, fun hm => hm.2.1 hX', hnx b o hX'⟩, fun q x hx hb => ?_⟩
    rcases hget q x hx with ⟨p, hp, hy⟩ | ⟨hq, hx'⟩
    · obtain ⟨k1, z, k2, k3⟩ := hsame p q x hp hy
      have := h.2.2 p z k2 (k1.trans hb)
      exact (k3.same_kind.2.2.2.1 o).2 this
    · refine hdead q x b o hx hb ?_ hq
      have hql : q < c.h.length := (List.getElem?_eq_some_iff.1 hx').1
      have hlt := hc.here q _ b hx' hb
      by_cases e1 : ∃ i ∈ js, c.ρ i = some b
      · exact .inl e1
      · exact .inr (Classical.byContradiction fun hn => hx2 ⟨hlt, hn, fun i hi e => e1 ⟨i, hi, e⟩⟩)
  have hxf : ∀ {v : Value} {a : AV}, RV ⟨ρ', h', w', (c.lend js).X⟩ v a → a.bel 0 = true → RV ⟨c.ρ, putBack c.h js YS, w', c.X⟩ v a := fun h ha =>
    h.xfer (n := 0) (fun b o h => ⟨him' b o h, rfl⟩) (fun i hi => absurd hi (Nat.not_lt_zero i)) (fun i b hi => absurd hi (Nat.not_lt_zero i)) ha
  refine ⟨v, c.ρ, res, putBack c.h js YS, rfl, ?_, hev, hxf (hle.rv g3) hres, hR⟩
  refine ⟨fun q r x y b hx hy lx ly hb hb' => ?_, fun q x b hx hb => ?_, fun q x hx => ?_, fun b o hX' => ⟨Nat.lt_of_lt_of_le (hc.xs b o hX').1 hsz, fun q x hx hl hb => ?_⟩⟩
  · have key : ∀ (q : Nat) x, (putBack c.h js YS)[q]? = some x → x.live = true → ∃ y, c.h[q]? = some y ∧ y.live = true := fun q x hx hl => by
      rcases hget q x hx with ⟨p, hp, _⟩ | ⟨_, hx'⟩
      · obtain ⟨y, hy, hyl⟩ := hX q (List.mem_of_getElem? hp)
        exact ⟨y, hy, hyl.live⟩
      · exact ⟨x, hx', hl⟩
    obtain ⟨x', hx', lx'⟩ := key q x hx lx
    obtain ⟨y', hy', ly'⟩ := key r y hy ly
    exact hc.inj q r x' y' b hx' hy' lx' ly' hb hb'
  · have hql : q < c.h.length := by have := (List.getElem?_eq_some_iff.1 hx).1; simpa [putBack_len] using this
    exact Nat.lt_of_lt_of_le (hc.here q _ b (List.getElem?_eq_getElem hql) hb) hsz
  · rcases hget q x hx with ⟨p, hp, hy⟩ | ⟨h1, hx'⟩
    · obtain ⟨k1, z, k2, k3⟩ := hsame p q x hp hy
      have hb := k3.blk (g1.blk p z k2)
      rcases hY x (List.mem_of_getElem? hy) with ⟨cs, rfl, hcs⟩ | ⟨k, L, rfl, hL⟩
      · obtain ⟨b, us, e, q1, q2, q3, q4⟩ := hb
        exact ⟨b, us, e, k1.symm.trans q1, q2, q3, fun m a ha => by
          obtain ⟨z1, u, z2, z3⟩ := q4 m a ha
          exact ⟨z1, u, z2, hxf z3 (belL_get hcs m a ha)⟩⟩
      · obtain ⟨b, us, e, q1, q2, q3, q4⟩ := hb
        exact ⟨b, us, e, k1.symm.trans q1, q2, q3, fun j x m a hx ha => by
          obtain ⟨u, z2, z3⟩ := q4 j x m a hx ha
          exact ⟨u, z2, hxf z3 (belL_get (belLL_get hL j x hx) m a ha)⟩⟩
    · exact (hc.blk q x hx').mono hev rfl fun b hl hb => hold b (hc.here q x b hx' hb) (hoth q x b h1 hx' hl hb)
  · rcases hget q x hx with ⟨p, hp, _⟩ | ⟨_, hx'⟩
    · obtain ⟨y, hy, hyl⟩ := hX q (List.mem_of_getElem? hp)
      exact (hc.xs b o hX').2 q y hy hyl.live hb
    · exact (hc.xs b o hX').2 q x hx' hl hb
end Go.Proofs.Ytcafahcmalfepaa
/-
  Calls with blocks lent; methods called through an interface. Nothing here speaks of the program.
-/
namespace Go.Proofs.Ytcafahcmalfepaa
open Go.RowKit
theorem putBack_eq : ∀ (js : List Nat) (YS : List ABlk) (h : List ABlk), aupds h (js.zip YS) = putBack h js YS
  | [], _, h => by simp [putBack, aupds]
  | i :: js, [], h => by simp [putBack, aupds]
  | i :: js, y :: ys, h => by rw [List.zip_cons_cons, aupds, putBack, putBack_eq js ys]
/-- How a method of a value behind an interface is reached: the function, the receiver as it stands. -/
structure MethodAt (P : Program) (t : TypeId) (name : String) (g : FuncId) : Prop where
  fn : Callable P g
  finds : ∀ u w, (method (P.types.size + Made.depth) t u name).run P w = .ok (g, u) w
theorem MethodAt.of {P : Program} {t : TypeId} {name : String} {g : FuncId} (hfn : Callable P g) {ti : TypeInfo} {m : Method} {d : TypeDesc} (hi : P.info? t = some ti) (hm : ti.methods.find? (fun m => m.name == name) = some m) (hp : m.path = #[]) (hf : m.func = some (g, false))
    (hu : P.underlying t = some d) (hd : ∀ e, d ≠ .pointer e) : MethodAt P t name g := by
  refine ⟨hfn, fun u w => ?_⟩
  have e1 : P.types.size + Made.depth = (P.types.size + 99) + 1 := rfl
  have h1 : ∀ w, (typeInfo t).run P w = .ok ti w := fun w => by simp [typeInfo, hi]
  have h2 := run_underlying (P := P) hu
  rw [e1, method]
  simp only [Sem.run_bind, h1, Result.andThen_ok, hm, hp]
  simp only [follow, hf, Sem.run_bind, Sem.run_pure, Result.andThen_ok, receiverAt, h2]
  cases d with
  | pointer e => exact absurd rfl (hd e)
  | _ => simp [Place.get, Sem.run_bind, Sem.run_pure, hf]
section
variable {P : Program} {f : FuncId} {c0 : Cx} {R : AV → List ABlk → Prop} {ops : Array Oper} {n sl : Nat} {o : Oper} {rest : List Oper} {fp : List (List Nat × List Nat)} {k : List Item} {s : AState}
theorem cons_rel {c : Cx} {u : Value} {v : AV} {a : Act} {t : List AV} (hu : RV c u v) (as : Array Operand) (h : TRel c a.tmps t) : TRel c (#[u] ++ as.map a.eval) (v :: as.toList.map (aev t)) := by
  refine ⟨by simp [Nat.add_comm], fun i x y hx hy => ?_⟩
  cases i with
  | zero =>
    rw [Array.getElem?_append, if_pos (by simp)] at hx
    simp at hx hy
    subst hx hy; exact hu
  | succ i =>
    rw [Array.getElem?_append] at hx
    simp only [List.getElem?_cons_succ, List.getElem?_map, Option.map_eq_some_iff] at hy
    rw [if_neg (by simp)] at hx
    simp only [Array.getElem?_map, Option.map_eq_some_iff] at hx
    obtain ⟨z, hz, rfl⟩ := hx
    obtain ⟨z', hz', rfl⟩ := hy
    have e : (#[u] : Array Value).size = 1 := rfl
    rw [e, Nat.add_sub_cancel] at hz
    rw [Array.getElem?_toList, hz] at hz'
    cases hz'
    exact h.ev z
theorem run_invoke {o : Oper} {r : Operand} {as : Array Operand} {ts : Array TypeId} {name : String} (hop : o.op = .call { callee := .invoke r name, args := as, argTypes := ts }) {t : TypeId} {g : FuncId} (hm : MethodAt P t name g) {a : Act} {u : Value} (hev : a.eval r = .iface t u) (w : World) :
    (execOp a.eval o).run P w = .ok (.enter g (#[u] ++ as.map a.eval)) w := by
  obtain ⟨dst, op, ty, pos, after, guard⟩ := o
  simp only at hop
  subst hop
  have h1 := hm.finds u w
  have h2 := fun vs => run_callFunc hm.fn vs w
  simp only [execOp, resolve, invoke, Sem.run_bind, Sem.run_pure, Result.andThen_ok, hev]
  have e : (#[Value.iface t u] ++ as.map a.eval)[0]? = some (.iface t u) := by
    rw [Array.getElem?_append, if_pos (by simp)]; rfl
  have e2 : (#[Value.iface t u] ++ as.map a.eval).extract 1 (#[Value.iface t u] ++ as.map a.eval).size = as.map a.eval := by
    apply Array.toList_inj.1
    simp
    exact List.take_of_length_le (by simp)
  rw [e]
  simp only [callMethod, e2, Sem.run_bind, run_program, Result.andThen_ok, h1, h2]
/-- A method's call through an interface, in a plain region. -/
theorem AOps.invoke (hw : Wanted ops s.t o.guard true) {r : Operand} {as : Array Operand} {ts : Array TypeId} {name : String} (hop : o.op = .call { callee := .invoke r name, args := as, argTypes := ts }) {t : TypeId} {v : AV} (hx : aev s.t r = .iface t v) {g : FuncId} (hm : MethodAt P t name g)
    (h : ACall P g (v :: as.toList.map (aev s.t)) s.h fun r h' => AOps P f c0 R ops (n + 1) rest k ⟨aput s.t o.dst r, h'⟩) : AOps P f c0 R ops n (o :: rest) k s := fun hd ρ w a h1 h2 h3 h4 => by
  obtain ⟨hon, hd'⟩ := range'_cons hd
  rw [List.length_cons, List.range'_succ]
  have hv := h3.ev r
  rw [hx] at hv
  generalize hev : a.eval r = z at hv
  cases hv with
  | iface _ u _ hu =>
    have hargs := cons_rel hu as h3
    have hex := run_invoke hop hm hev w
    generalize #[u] ++ as.map a.eval = us at hargs hex
    intro b cs hb hk
    obtain ⟨e, w', fr, ⟨v, ρ', r, h', rfl, g1, g2, g3, g4⟩, hs, hfn, hl⟩ := h ⟨ρ, s.h, w, c0.X⟩ _ rfl h1 hargs (b.at a (.inRegion ops (n :: List.range' (n + 1) rest.length) :: k) :: cs)
    have hgo := stepG_op (P := P) (b := b) (k := k) (cs := cs) (w := w) (rest := List.range' (n + 1) rest.length) hon (hw.ok h3)
    have henter : step P (lone (b.at a (.inRegion ops (n :: List.range' (n + 1) rest.length) :: k)) cs w) =
        .next (lone (Frame.enter P g us .normal) (b.at a (.inRegion ops (n :: List.range' (n + 1) rest.length) :: k) :: cs) w) :=
      step_lone_go (by rw [hgo]; simp [stepG.apply, hex, Frame.at])
    have hfin : (b.at a (.inRegion ops (n :: List.range' (n + 1) rest.length) :: k)).finish v = b.at (a.put o.dst v) (.inRegion ops (List.range' (n + 1) rest.length) :: k) := by
      rw [Frame.finish_at, hon]; rfl
    obtain ⟨v', w'', fr', q1, q2, q3⟩ := g4 hd' ρ' w' (a.put o.dst v) g1 (h2.trans g2) ((h3.mono g2).put o.dst g3) (by cases o.dst <;> exact h4) b cs hb hk
    refine ⟨v', w'', fr', q1, Steps.head henter (Steps.trans hs (Steps.head ?_ q2)), q3⟩
    rw [← hfin]; exact step_leave_returned hl
theorem Ops.invoke (hw : Wanted ops s.t o.guard true) {r : Operand} {as : Array Operand} {ts : Array TypeId} {name : String} (hop : o.op = .call { callee := .invoke r name, args := as, argTypes := ts }) {t : TypeId} {v : AV} (hx : aev s.t r = .iface t v) {g : FuncId} (hm : MethodAt P t name g)
    (h : ACall P g (v :: as.toList.map (aev s.t)) s.h fun r h' => Ops P f c0 R ops (n + 1) rest k ⟨aput s.t o.dst r, h'⟩) : Ops P f c0 R ops n (o :: rest) k s :=
  ⟨AOps.invoke hw hop hx hm (h.mono fun _ _ h => h.h)⟩
theorem StepOk.invoke {i : Nat} (ho : ops[i]? = some o) (hw : Wanted ops s.t o.guard true) {r : Operand} {as : Array Operand} {ts : Array TypeId} {name : String} (hop : o.op = .call { callee := .invoke r name, args := as, argTypes := ts }) {t : TypeId} {v : AV} (hx : aev s.t r = .iface t v) {g : FuncId} (hm : MethodAt P t name g) (e : Ent)
    (h : ∀ h' : List ABlk, (∀ y ∈ e.rd, h'[y]? = s.h[y]?) → ACall P g (v :: as.toList.map (aev s.t)) h' fun r h'' => r = e.v ∧ h'' = aupds h' e.d) : StepOk P c0 ops i o s e := by
  intro s' hl ht hh a w K Q ⟨ρ, h1, h2, h3, h4⟩ hK
  have hxo := looks_op ht
  rw [hop] at hxo
  have hx' : aev s'.t r = .iface t v := (hxo r (by simp [Op.operands, Call.operands])).trans hx
  have has : as.toList.map (aev s'.t) = as.toList.map (aev s.t) := List.map_congr_left fun z hz => hxo z (by simp at hz; simp [Op.operands, Call.operands, hz])
  have hv := h3.ev r
  rw [hx'] at hv
  generalize hev : a.eval r = z at hv
  cases hv with
  | iface _ u _ hu =>
    have hargs := cons_rel hu as h3
    rw [has] at hargs
    have hex := run_invoke hop hm hev w
    unfold wpOp
    simp only [ho]
    rw [(looks_guard ht hw).ok h3, if_pos rfl]
    refine .inl ?_
    unfold Oper.wp
    rw [hex, Oper.upon_enter]
    refine (h s'.h hh ⟨ρ, s'.h, w, c0.X⟩ _ rfl h1 hargs).mono ?_
    rintro e' w' ⟨v, ρ', r, h', rfl, g1, g2, g3, rfl, rfl⟩
    exact hK _ _ ⟨ρ', g1, h2.trans g2, (h3.mono g2).put o.dst g3, by cases o.dst <;> exact h4⟩
/-- The blocks js, as they are, may be lent. -/
def LentAll (h : List ABlk) (js : List Nat) (XS : List ABlk) : Prop := js.map (fun i => (h[i]?).getD .dead) = XS ∧ ∀ i ∈ js, ∃ x, h[i]? = some x ∧ LentB x
theorem LentAll.nil {h : List ABlk} : LentAll h [] [] := ⟨rfl, fun i hi => by simp at hi⟩
theorem LentAll.cons {h : List ABlk} {i : Nat} {x : ABlk} {js : List Nat} {XS : List ABlk} (hi : h[i]? = some x) (hx : LentB x) (hs : LentAll h js XS) : LentAll h (i :: js) (x :: XS) :=
  ⟨by rw [List.map_cons, hi, hs.1]; rfl, fun j hj => by
    rcases List.mem_cons.1 hj with rfl | hj
    · exact ⟨x, hi, hx⟩
    · exact hs.2 j hj⟩
theorem LentAll.congr {h h' : List ABlk} {js : List Nat} {XS : List ABlk} (hs : LentAll h js XS) (e : ∀ y ∈ js, h'[y]? = h[y]?) : LentAll h' js XS :=
  ⟨by rw [← hs.1]; exact List.map_congr_left fun i hi => by rw [e i hi], fun i hi => by rw [e i hi]; exact hs.2 i hi⟩
/-- Calls with blocks lent: of a function's value, of a method; in a plain region, in a drawn one. -/
theorem Ops.callB (hw : Wanted ops s.t o.guard true) {x : Operand} {as : Array Operand} {ts : Array TypeId} (hop : o.op = .call { callee := .value x, args := as, argTypes := ts }) {g : FuncId} {fi ca : List AV} (hx : aev s.t x = .fn (.func g) fi ca)
    {js : List Nat} {args : List AV} {XS YS : List ABlk} {res : AV} (hj : js.Nodup) (hX : LentAll s.h js XS) (hY : ∀ y ∈ YS, LentB y) (hlen : YS.length = js.length) (hin : amongL js (fi ++ as.toList.map (aev s.t) ++ ca) = true) (hle : LeL (renL js (fi ++ as.toList.map (aev s.t) ++ ca)) args) (H : BSpec P g args XS YS res) (hres : res.bel 0 = true)
    (h : Ops P f c0 R ops (n + 1) rest k ⟨aput s.t o.dst res, putBack s.h js YS⟩) : Ops P f c0 R ops n (o :: rest) k s :=
  Ops.call hw hop hx H.fn (ACall.lend hj hX.1 hX.2 hY hlen hin hle H hres h)
theorem Ops.invokeB (hw : Wanted ops s.t o.guard true) {r : Operand} {as : Array Operand} {ts : Array TypeId} {name : String} (hop : o.op = .call { callee := .invoke r name, args := as, argTypes := ts }) {t : TypeId} {v : AV} (hx : aev s.t r = .iface t v) {g : FuncId} (hm : MethodAt P t name g)
    {js : List Nat} {args : List AV} {XS YS : List ABlk} {res : AV} (hj : js.Nodup) (hX : LentAll s.h js XS) (hY : ∀ y ∈ YS, LentB y) (hlen : YS.length = js.length) (hin : amongL js (v :: as.toList.map (aev s.t)) = true) (hle : LeL (renL js (v :: as.toList.map (aev s.t))) args) (H : BSpec P g args XS YS res) (hres : res.bel 0 = true)
    (h : Ops P f c0 R ops (n + 1) rest k ⟨aput s.t o.dst res, putBack s.h js YS⟩) : Ops P f c0 R ops n (o :: rest) k s :=
  Ops.invoke hw hop hx hm (ACall.lend hj hX.1 hX.2 hY hlen hin hle H hres h)
theorem zip_fst {js : List Nat} {YS : List ABlk} (hlen : YS.length = js.length) : (js.zip YS).map (·.1) = js := by
  have : (js.zip YS).map Prod.fst = js := List.map_fst_zip (by omega)
  exact this
theorem DOps.callB (ho : ops[n]? = some o) (hw : Wanted ops s.t o.guard true) {x : Operand} {as : Array Operand} {ts : Array TypeId} (hop : o.op = .call { callee := .value x, args := as, argTypes := ts }) {g : FuncId} {fi ca : List AV} (hx : aev s.t x = .fn (.func g) fi ca)
    {js : List Nat} {args : List AV} {XS YS : List ABlk} {res : AV} (hj : js.Nodup) (hX : LentAll s.h js XS) (hY : ∀ y ∈ YS, LentB y) (hlen : YS.length = js.length) (hin : amongL js (fi ++ as.toList.map (aev s.t) ++ ca) = true) (hle : LeL (renL js (fi ++ as.toList.map (aev s.t) ++ ca)) args) (H : BSpec P g args XS YS res) (hres : res.bel 0 = true)
    (h : DOps P f c0 R ops (n + 1) (sl + 1) rest (fp ++ [(js, js)]) k ⟨aput s.t o.dst res, putBack s.h js YS⟩) : DOps P f c0 R ops n sl (o :: rest) fp k s := by
  refine DOps.cons (e := ⟨res, js.zip YS, js⟩) (sl' := sl + 1) (StepOk.call ho hw hop hx H.fn _ fun h' hh => ACall.lend hj (hX.congr hh).1 (hX.congr hh).2 hY hlen hin hle H hres ⟨rfl, (putBack_eq js YS h').symm⟩) ?_
  simp only [Ent.fp, Ent.wr, Ent.app, zip_fst hlen, putBack_eq]
  exact h
theorem DOps.invokeB (ho : ops[n]? = some o) (hw : Wanted ops s.t o.guard true) {r : Operand} {as : Array Operand} {ts : Array TypeId} {name : String} (hop : o.op = .call { callee := .invoke r name, args := as, argTypes := ts }) {t : TypeId} {v : AV} (hx : aev s.t r = .iface t v) {g : FuncId} (hm : MethodAt P t name g)
    {js : List Nat} {args : List AV} {XS YS : List ABlk} {res : AV} (hj : js.Nodup) (hX : LentAll s.h js XS) (hY : ∀ y ∈ YS, LentB y) (hlen : YS.length = js.length) (hin : amongL js (v :: as.toList.map (aev s.t)) = true) (hle : LeL (renL js (v :: as.toList.map (aev s.t))) args) (H : BSpec P g args XS YS res) (hres : res.bel 0 = true)
    (h : DOps P f c0 R ops (n + 1) (sl + 1) rest (fp ++ [(js, js)]) k ⟨aput s.t o.dst res, putBack s.h js YS⟩) : DOps P f c0 R ops n sl (o :: rest) fp k s := by
  refine DOps.cons (e := ⟨res, js.zip YS, js⟩) (sl' := sl + 1) (StepOk.invoke ho hw hop hx hm _ fun h' hh => ACall.lend hj (hX.congr hh).1 (hX.congr hh).2 hY hlen hin hle H hres ⟨rfl, (putBack_eq js YS h').symm⟩) ?_
  simp only [Ent.fp, Ent.wr, Ent.app, zip_fst hlen, putBack_eq]
  exact h
end
end Go.Proofs.Ytcafahcmalfepaa
/-
  A row of the run's own, known by another number. Nothing here speaks of the program.
-/
namespace Go.Proofs.Ytcafahcmalfepaa
open Go.RowKit
mutual
/-- Hangs a value on blocks of the run's own that are such alone? -/
def AV.refs (p : Nat → Bool) : AV → Bool
  | .ptr i _ => p i
  | .eptr i _ _ _ => p i
  | .msl i _ _ _ _ => p i
  | .msu i _ _ => p i
  | .mp i => p i
  | .sl _ _ (.own i) => p i
  | .agg cs => refsL p cs
  | .tup vs => refsL p vs
  | .psl _ l => refsLL p l
  | .rptr cs => refsL p cs
  | .fn _ a b => refsL p a && refsL p b
  | .iface _ v => v.refs p
  | .cnd _ v => v.refs p
  | _ => true
def refsL (p : Nat → Bool) : List AV → Bool
  | [] => true
  | a :: l => a.refs p && refsL p l
def refsLL (p : Nat → Bool) : List (List AV) → Bool
  | [] => true
  | a :: l => refsL p a && refsLL p l
end
def ABlk.refs (p : Nat → Bool) : ABlk → Bool
  | .box cs => refsL p cs
  | .rows _ l => refsLL p l
  | .map l => l.all fun q => q.1.refs p && q.2.refs p
  | .iter m _ _ => p m
  | _ => true
theorem refsL_get {p : Nat → Bool} : ∀ {l : List AV}, refsL p l = true → ∀ (i : Nat) a, l[i]? = some a → a.refs p = true
  | [], _, i, a, h => by simp at h
  | b :: l, h, i, a, ha => by
    simp only [refsL, Bool.and_eq_true] at h
    cases i with
    | zero => simp at ha; subst ha; exact h.1
    | succ i => exact refsL_get h.2 i a (by simpa using ha)
theorem refsLL_get {p : Nat → Bool} : ∀ {l : List (List AV)}, refsLL p l = true → ∀ (i : Nat) a, l[i]? = some a → refsL p a = true
  | [], _, i, a, h => by simp at h
  | b :: l, h, i, a, ha => by
    simp only [refsLL, Bool.and_eq_true] at h
    cases i with
    | zero => simp at ha; subst ha; exact h.1
    | succ i => exact refsLL_get h.2 i a (by simpa using ha)
theorem AV.plain_refs {a : AV} (h : a.plain = true) (p : Nat → Bool) : a.refs p = true := by
  cases a with
  | sl k l t => cases t <;> first | rfl | cases h
  | _ => first | rfl | cases h
theorem RV.xferP {c c2 : Cx} {p : Nat → Bool} (him : ∀ b o, c.im b o → c2.im b o ∧ c2.w.cell? ⟨b, o, none⟩ = c.w.cell? ⟨b, o, none⟩) (hid : ∀ i, p i = true → (∀ x, c.h[i]? = some x → x.isfree = false → ∃ y, c2.h[i]? = some y ∧ y.isfree = false) ∧ (∀ y, c2.h[i]? = some y → ∃ x, c.h[i]? = some x ∧ x.istok = y.istok ∧ ∀ k m, y = .tok k m → x = .tok k m) ∧ c2.ρ i = c.ρ i) (hblk : ∀ i b, p i = true → c.ρ i = some b → c2.w.heap[b]? = c.w.heap[b]?)
    {v : Value} {a : AV} (h : RV c v a) (ha : a.refs p = true) : RV c2 v a := by
  have hkn : ∀ i, p i = true → c.known i → c2.known i := fun i hi ⟨x, hx, hf⟩ => (hid i hi).1 x hx hf
  have hnt : ∀ i, p i = true → (∀ x, c.h[i]? = some x → x.istok = false) → ∀ x, c2.h[i]? = some x → x.istok = false := fun i hi h x hx => by obtain ⟨y, hy, e, _⟩ := (hid i hi).2.1 x hx; rw [← e]; exact h y hy
  induction h with
  | int k n => exact .int k n
  | bool b => exact .bool b
  | str s l h => exact .str s l h
  | nilp => exact .nilp
  | ptr i o b hk hb ht =>
    have hi : p i = true := by simpa [AV.refs] using ha
    exact .ptr i o b (hkn i hi hk) ((hid i hi).2.2.trans hb) (hnt i hi ht)
  | rptr cs b o vs hc _ ih =>
    simp only [AV.refs] at ha
    refine .rptr cs b o vs (fun i a hi => ?_) (fun i a hi => ih i a hi (refsL_get ha i a hi))
    obtain ⟨h1, h2, h3⟩ := hc i a hi
    obtain ⟨g1, g2⟩ := him _ _ h2
    exact ⟨h1, g1, g2.trans h3⟩
  | sl k l t A m cap b o vs hn hcap hm hA hk hc _ ht ih =>
    refine .sl k l t A m cap b o vs hn hcap hm hA hk (fun j e i a he hi => ?_) (fun j e i a he hi => ih j e i a he hi (AV.plain_refs (hc j e i a he hi).1 p)) ?_
    · obtain ⟨h1, h2, h3⟩ := hc j e i a he hi
      obtain ⟨g1, g2⟩ := him _ _ h2
      exact ⟨h1, g1, g2.trans h3⟩
    · cases t with
      | no => trivial
      | own i =>
        have hi : p i = true := by simpa [AV.refs] using ha
        obtain ⟨g1, g2⟩ := ht
        refine ⟨hkn i hi g1, fun k' n' e => ?_⟩
        obtain ⟨y, hy, _, e2⟩ := (hid i hi).2.1 _ e
        rw [e2 k' n' rfl] at hy
        obtain ⟨q1, q2, q3⟩ := g2 k' n' hy
        refine ⟨q1, q2, fun e => ?_⟩
        rcases q3 e with q3 | ⟨b, us, e', w1, w2, w3, w4⟩
        · exact .inl q3
        · exact .inr ⟨b, us, e', (hid i hi).2.2.trans w1, w2, (hblk i b hi w1).trans w3, w4⟩
  | psl k l A m cap b o vs hn hcap hm hA hk hc _ ih =>
    simp only [AV.refs] at ha
    refine .psl k l A m cap b o vs hn hcap hm hA hk (fun j e i a he hi => ?_) (fun j e i a he hi => ih j e i a he hi (refsL_get (refsLL_get ha j e he) i a hi))
    obtain ⟨h1, h2, h3⟩ := hc j e i a he hi
    obtain ⟨g1, g2⟩ := him _ _ h2
    exact ⟨h1, g1, g2.trans h3⟩
  | nils => exact .nils
  | agg vs cs hs hc _ ih =>
    simp only [AV.refs] at ha
    exact .agg vs cs hs hc fun i v a hv hi => ih i v a hv hi (refsL_get ha i a hi)
  | tup vs cs hs _ ih =>
    simp only [AV.refs] at ha
    exact .tup vs cs hs fun i v a hv hi => ih i v a hv hi (refsL_get ha i a hi)
  | fn f v1 v2 a1 a2 h1 h2 _ _ r1 r2 =>
    simp only [AV.refs, Bool.and_eq_true] at ha
    exact .fn f v1 v2 a1 a2 h1 h2 (fun i v a hv hi => r1 i v a hv hi (refsL_get ha.1 i a hi)) (fun i v a hv hi => r2 i v a hv hi (refsL_get ha.2 i a hi))
  | nilf => exact .nilf
  | iface t v a _ ih => simp only [AV.refs] at ha; exact .iface t v a (ih ha)
  | nilI => exact .nilI
  | mp i b hk hb ht =>
    have hi : p i = true := by simpa [AV.refs] using ha
    exact .mp i b (hkn i hi hk) ((hid i hi).2.2.trans hb) (hnt i hi ht)
  | nilm => exact .nilm
  | msl i k o m cap b o' hk hb ht h1 h2 h3 =>
    have hi : p i = true := by simpa [AV.refs] using ha
    exact .msl i k o m cap b o' (hkn i hi hk) ((hid i hi).2.2.trans hb) (hnt i hi ht) h1 h2 h3
  | msu i k m cap b hk hb ht h1 h2 h3 =>
    have hi : p i = true := by simpa [AV.refs] using ha
    obtain ⟨vs, e, f, q1, q2⟩ := h3
    exact .msu i k m cap b (hkn i hi hk) ((hid i hi).2.2.trans hb) (hnt i hi ht) h1 h2 ⟨vs, e, f, (hblk i b hi hb).trans q1, q2⟩
  | eptr i k j o b hk hb ht =>
    have hi : p i = true := by simpa [AV.refs] using ha
    exact .eptr i k j o b (hkn i hi hk) ((hid i hi).2.2.trans hb) (hnt i hi ht)
  | cnd g v a _ ih => simp only [AV.refs] at ha; exact .cnd g v a fun hg => ih hg ha
  | junk v => exact .junk v
/-- A row by the token i2 is one by the token i from now on. -/
theorem Weak.retok {P : Program} {c0 : Cx} {s : AState} (j i i2 k n k1 n1 : Nat) (l : List (List AV)) (h0 : c0.h.length ≤ i) (h02 : c0.h.length ≤ i2) (hne : i ≠ i2) (hj : s.t[j]? = some (.sl k l (.own i2))) (hi2 : s.h[i2]? = some (.tok k n)) (hi : s.h[i]? = some (.tok k1 n1))
    (ht : refsL (fun q => q != i && q != i2) (s.t.set j .junk) = true) (hh : (s.h.all fun x => x.refs fun q => q != i && q != i2) = true) : Weak P c0 s ⟨s.t.set j (.sl k l (.own i)), (s.h.set i (.tok k n)).set i2 .dead⟩ := by
  refine ⟨fun ρ w vs h1 h2 h3 => ?_⟩
  have hil : i < s.h.length := (List.getElem?_eq_some_iff.1 hi).1
  have hi2l : i2 < s.h.length := (List.getElem?_eq_some_iff.1 hi2).1
  have hjl : j < s.t.length := (List.getElem?_eq_some_iff.1 hj).1
  let ρ' : Nat → Option Nat := fun q => if q = i then ρ i2 else if q = i2 then none else ρ q
  have e1 : ρ' i = ρ i2 := if_pos rfl
  have e2 : ρ' i2 = none := by show (if i2 = i then _ else if i2 = i2 then _ else _) = _; rw [if_neg (Ne.symm hne), if_pos rfl]
  have e3 : ∀ q, q ≠ i → q ≠ i2 → ρ' q = ρ q := fun q a b => by show (if q = i then _ else if q = i2 then _ else _) = _; rw [if_neg a, if_neg b]
  let H := (s.h.set i (.tok k n)).set i2 .dead
  have g1 : H[i]? = some (.tok k n) := by
    show ((s.h.set i (.tok k n)).set i2 .dead)[i]? = _
    rw [List.getElem?_set_ne (Ne.symm hne), List.getElem?_set_self hil]
  have g2 : H[i2]? = some .dead := by
    show ((s.h.set i (.tok k n)).set i2 .dead)[i2]? = _
    rw [List.getElem?_set_self (by simpa using hi2l)]
  have g3 : ∀ q, q ≠ i → q ≠ i2 → H[q]? = s.h[q]? := fun q a b => by
    show ((s.h.set i (.tok k n)).set i2 .dead)[q]? = _
    rw [List.getElem?_set_ne (Ne.symm b), List.getElem?_set_ne (Ne.symm a)]
  -- a live block of the new heap is one of the old
  have back : ∀ (q : Nat) x b, H[q]? = some x → ρ' q = some b → ∃ q', s.h[q']? = some x ∧ ρ q' = some b ∧ (q' = q ∨ q' = i2 ∧ q = i) := fun q x b hx hb => by
    by_cases a : q = i
    · subst a
      rw [g1] at hx; cases hx
      rw [e1] at hb
      exact ⟨i2, hi2, hb, .inr ⟨rfl, rfl⟩⟩
    · by_cases b' : q = i2
      · subst b'; rw [e2] at hb; cases hb
      · rw [g3 q a b'] at hx; rw [e3 q a b'] at hb
        exact ⟨q, hx, hb, .inl rfl⟩
  have him : ∀ b o, (Cx.mk ρ s.h w c0.X).im b o → (Cx.mk ρ' H w c0.X).im b o := fun b o h => ⟨h.1, h.2.1, fun q x hx hb => by
    obtain ⟨q', hx', hb', _⟩ := back q x b hx hb
    exact h.2.2 q' x hx' hb'⟩
  have hX : ∀ {v : Value} {a : AV}, RV ⟨ρ, s.h, w, c0.X⟩ v a → a.refs (fun q => q != i && q != i2) = true → RV ⟨ρ', H, w, c0.X⟩ v a := fun hv ha =>
    hv.xferP (c2 := ⟨ρ', H, w, c0.X⟩) (fun b o h => ⟨him b o h, rfl⟩) (fun q hq => by
      simp only [Bool.and_eq_true, bne_iff_ne, ne_eq] at hq
      have e := g3 q hq.1 hq.2
      refine ⟨fun x hx hf => ⟨x, by show H[q]? = _; rw [e]; exact hx, hf⟩, fun y hy => ⟨y, by have hy' : H[q]? = some y := hy; rw [e] at hy'; exact hy', rfl, fun _ _ h => h⟩, e3 q hq.1 hq.2⟩) (fun q b hq hb => rfl) ha
  have hblk : ∀ (q : Nat) x, q ≠ i → q ≠ i2 → s.h[q]? = some x → BlkOk ⟨ρ', H, w, c0.X⟩ q x := fun q x a b hx => by
    have hb := h1.blk q x hx
    have hr : x.refs (fun q => q != i && q != i2) = true := List.all_eq_true.1 hh x (List.mem_of_getElem? hx)
    have eq := e3 q a b
    cases x with
    | free => exact eq.trans hb
    | dead => trivial
    | box cs =>
      obtain ⟨b', us, e, q1, q2, q3, q4⟩ := hb
      exact ⟨b', us, e, eq.trans q1, q2, q3, fun m a ha => by
        obtain ⟨z1, v, z2, z3⟩ := q4 m a ha
        exact ⟨z1, v, z2, hX z3 (refsL_get hr m a ha)⟩⟩
    | tok k n => exact fun b' hb' => hb b' (eq.symm.trans hb')
    | rows k L =>
      obtain ⟨b', us, e, q1, q2, q3, q4⟩ := hb
      exact ⟨b', us, e, eq.trans q1, q2, q3, fun j x m a hx ha => by
        obtain ⟨v, z2, z3⟩ := q4 j x m a hx ha
        exact ⟨v, z2, hX z3 (refsL_get (refsLL_get hr j x hx) m a ha)⟩⟩
    | map l =>
      obtain ⟨b', es, q1, q2, q3, q4⟩ := hb
      exact ⟨b', es, eq.trans q1, q2, q3, fun j e p he hp => by
        obtain ⟨z1, z2, z3⟩ := q4 j e p he hp
        have hr' := List.all_eq_true.1 hr p (List.mem_of_getElem? hp)
        simp only [Bool.and_eq_true] at hr'
        exact ⟨z1, hX z2 hr'.1, hX z3 hr'.2⟩⟩
    | iter m nn seen =>
      obtain ⟨b', mb, sa, q1, q2, q3, q4⟩ := hb
      exact ⟨b', mb, sa, eq.trans q1, q2, q3, hX q4 hr⟩
  refine ⟨ρ', ?_, ?_, ?_⟩
  · refine ⟨fun q r x y b hx hy lx ly hb hb' => ?_, fun q x b hx hb => ?_, fun q x hx => ?_, fun b o hX' => ⟨(h1.xs b o hX').1, fun q x hx hl hb => ?_⟩⟩
    · obtain ⟨q', u1, u2, u3⟩ := back q x b hx hb
      obtain ⟨r', v1, v2, v3⟩ := back r y b hy hb'
      have := h1.inj q' r' x y b u1 v1 lx ly u2 v2
      have hq2 : q ≠ i2 := fun e => by have hb0 : ρ' q = some b := hb; rw [e, e2] at hb0; cases hb0
      have hr2 : r ≠ i2 := fun e => by have hb0 : ρ' r = some b := hb'; rw [e, e2] at hb0; cases hb0
      omega
    · obtain ⟨q', u1, u2, _⟩ := back q x b hx hb
      exact h1.here q' x b u1 u2
    · have hx' : H[q]? = some x := hx
      by_cases a : q = i
      · subst a
        rw [g1] at hx'; cases hx'
        intro b hb
        exact h1.blk i2 _ hi2 b (e1.symm.trans hb)
      · by_cases b' : q = i2
        · subst b'; rw [g2] at hx'; cases hx'; trivial
        · rw [g3 q a b'] at hx'
          exact hblk q x a b' hx'
    · obtain ⟨q', u1, u2, _⟩ := back q x b hx hb
      exact (h1.xs b o hX').2 q' x u1 hl u2
  · refine ⟨h2.os, h2.tape, h2.output, h2.size, h2.x, fun b o h => ⟨him b o (h2.im b o h).1, (h2.im b o h).2⟩, fun b hb hm => ⟨(h2.fr b hb hm).1, ?_⟩, ?_, fun q x hx hf => ?_, h2.keep⟩
    · rintro ⟨q, x, hx, hl, hb'⟩
      obtain ⟨q', u1, u2, _⟩ := back q x b hx hb'
      exact (h2.fr b hb hm).2 ⟨q', x, u1, hl, u2⟩
    · show c0.h.length ≤ ((s.h.set i (.tok k n)).set i2 .dead).length
      simpa using h2.len
    · have hql : q < c0.h.length := (List.getElem?_eq_some_iff.1 hx).1
      obtain ⟨y, k1', k2, k3, k4⟩ := h2.id q x hx hf
      have a : q ≠ i := by omega
      have b : q ≠ i2 := by omega
      refine ⟨y, by show H[q]? = _; rw [g3 q a b]; exact k1', k2, fun ht => ⟨(k3 ht).1, (e3 q a b).trans (k3 ht).2⟩, fun k n' e => ?_⟩
      obtain ⟨m, z1, z2⟩ := k4 k n' e
      refine ⟨m, z1, ?_⟩
      rcases z2 with z2 | ⟨z2, z3, z4⟩
      · exact .inl z2
      · exact .inr ⟨z2, (e3 q a b).trans z3, z4⟩
  · refine ⟨by simp [h3.1], fun m v x hv hx => ?_⟩
    by_cases hm : m = j
    · subst hm
      rw [List.getElem?_set_self hjl] at hx
      cases hx
      have hr := h3.2 m v _ hv hj
      cases hr with
      | sl _ _ _ A nn cap b o us hn hcap hm hA hk hc hrr ht' =>
        refine .sl k l _ A nn cap b o us hn hcap hm hA hk (fun j e i a he hi => ?_) (fun j e i a he hi => hX (hrr j e i a he hi) (AV.plain_refs (hc j e i a he hi).1 _)) ⟨⟨_, g1, rfl⟩, fun k' n' e => ?_⟩
        · obtain ⟨z1, z2, z3⟩ := hc j e i a he hi
          exact ⟨z1, him _ _ z2, z3⟩
        · have e' : H[i]? = some (.tok k' n') := e
          rw [g1] at e'
          cases e'
          obtain ⟨_, q⟩ := ht'
          obtain ⟨z1, z2, z3⟩ := q k n hi2
          refine ⟨z1, z2, fun e => ?_⟩
          rcases z3 e with z3 | ⟨b, us, e', w1, w2, w3, w4⟩
          · exact .inl z3
          · exact .inr ⟨b, us, e', e1.trans w1, w2, w3, w4⟩
    · rw [List.getElem?_set_ne (Ne.symm hm)] at hx
      refine hX (h3.2 m v x hv hx) (refsL_get ht m x ?_)
      rw [List.getElem?_set_ne (Ne.symm hm)]; exact hx
end Go.Proofs.Ytcafahcmalfepaa
/-
  A literal row of bytes, converted to its own type. Nothing here speaks of the program.
-/
namespace Go.Proofs.Ytcafahcmalfepaa
open Go.RowKit
section
variable {P : Program} {f : FuncId} {c0 : Cx} {R : AV → List ABlk → Prop} {ops : Array Oper} {m : Nat} {o1 o2 : Oper} {rest : List Oper} {k : List Item} {s : AState}
theorem Ops.litConv {T : TabT} (hT : TabOk P T) {t : TypeId} {d1 n : Nat} {ps : Array (Nat × Operand)} (hw1 : Wanted ops s.t o1.guard true) (h1 : o1.op = .buildSlice t n ps) (hd1 : o1.dst = some d1) (h2 : o2.op = .convert t t (.tmp d1)) {ti ei : TI} (hti : T t = some ti) (hs : ti.sort = .sl) (he : T ti.elem = some ei)
    (h8 : P.underlying ti.elem = some (.int .u8)) {q : Prop × List (List AV)} (hq : aelems ei.size (ps.toList.map fun q => (q.1, aev s.t q.2)) (List.replicate n ei.zero) = some q) (hsm : n * ei.size ≤ 16777216) (hn0 : 0 < n) (hpos : 0 < ei.size) (hp : q.1) (hpl : plains q.2 = true) (hlt : d1 < s.t.length)
    (hw2 : Wanted ops (aput s.t (some d1) (.sl ei.size q.2 .no)) o2.guard true)
    (h : Ops P f c0 R ops (m + 1 + 1) rest k ⟨aput (aput s.t (some d1) (.sl ei.size q.2 .no)) o2.dst (.sl ei.size q.2 .no), s.h⟩) : Ops P f c0 R ops m (o1 :: o2 :: rest) k s := by
  refine ⟨fun hdr ρ w a g1 g2 g3 g4 => ?_⟩
  obtain ⟨ho', hd'⟩ := range'_cons hdr
  obtain ⟨ho2, hd2⟩ := range'_cons hd'
  rw [List.length_cons, List.length_cons, List.range'_succ, List.range'_succ]
  obtain ⟨dst, op, ty, pos, after, guard⟩ := o1
  obtain ⟨dst2, op2, ty2, pos2, after2, guard2⟩ := o2
  simp only at h1 h2 hd1
  subst h1 h2 hd1
  have ht := hT _ _ hti
  obtain ⟨d, hd, hso⟩ := ht.desc
  unfold sortOk at hso
  rw [hs] at hso
  subst hso
  obtain ⟨ie, z, hi1, hi2, hi3, hi4, hi5, hi6⟩ := (hT _ _ he).info
  have hzl := (hT _ _ he).zl
  obtain ⟨r, hf, hfl, hlen⟩ := aelems_fill (c := ⟨ρ, s.h, w, c0.X⟩) _ (ps.toList.map fun q => (q.1, a.eval q.2)) (List.replicate n ei.zero) _ q (by simp) (g3.parts ps.toList) (zeros_flat (c := ⟨ρ, s.h, w, c0.X⟩) hi5 hzl hi6 n) hq hp
  have hlen' : q.2.length = n := by simpa using hlen
  have hrun : (Instr.buildSlice t n (ps.map fun (i, x) => (i, a.eval x))).run P w = .ok (.slice (some ⟨w.heap.size, 0, none⟩) n n) (w.alloc (.cells r ti.elem)) := by
    have e : (ps.map fun (i, x) => (i, a.eval x)).toList = ps.toList.map fun q => (q.1, a.eval q.2) := by simp
    refine run_buildSlice w t ti.elem n _ r ie z hd hi1 hi4 (by rw [hi2]; omega) (by rw [hi2]; exact Nat.mul_ne_zero (by omega) (by omega)) ?_
    rw [e, hi2]
    exact hf
  have hm : n ≤ 16777216 := Nat.le_trans (Nat.le_mul_of_pos_right n hpos) hsm
  have hrun2 := Lib.run_convert_bytes_const (P := P) w t ti.elem r n n hd h8
  obtain ⟨q1, q2⟩ := Cx.push (c := ⟨ρ, s.h, w, c0.X⟩) g1 (w.alloc (.cells r ti.elem (r.size, r.size + 1))) (.cells r ti.elem (r.size, r.size + 1)) rfl rfl rfl rfl
  have hblk : (w.alloc (.cells r ti.elem (r.size, r.size + 1))).heap[w.heap.size]? = some (.cells r ti.elem (r.size, r.size + 1)) := by show (w.heap.push _)[w.heap.size]? = _; simp
  have hcell : ∀ (j : Nat) u, r.toList[j]? = some u → (Cx.mk ρ s.h (w.alloc (.cells r ti.elem (r.size, r.size + 1))) c0.X).im w.heap.size (0 + j) ∧ (w.alloc (.cells r ti.elem (r.size, r.size + 1))).cell? ⟨w.heap.size, 0 + j, none⟩ = some u := fun j u hj => by
    rw [Nat.zero_add]
    refine ⟨⟨by show w.heap.size < (w.heap.push _).size; simp, (fun h => by have := (g1.xs _ _ h).1; exact absurd this (Nat.lt_irrefl _)), fun i x hx hb => absurd (g1.here i x _ hx hb) (Nat.lt_irrefl _)⟩, ?_⟩
    rw [cell_of_row _ _ j r ti.elem (r.size, r.size + 1) hblk]
    simpa using hj
  have hv : RV ⟨ρ, s.h, w.alloc (.cells r ti.elem (r.size, r.size + 1)), c0.X⟩ (.slice (some ⟨w.heap.size, 0, none⟩) n n) (.sl ei.size q.2 .no) :=
    RV.sl_of ((flat_plain hfl hpl).mono' q2) (by omega) (by unfold maxLen; omega) w.heap.size 0 (fun _ => rfl) hcell (t := .no) trivial hlen'
  have g3b : TRel ⟨ρ, s.h, w.alloc (.cells r ti.elem (r.size, r.size + 1)), c0.X⟩ (a.put (some d1) (.slice (some ⟨w.heap.size, 0, none⟩) n n)).tmps (aput s.t (some d1) (.sl ei.size q.2 .no)) := (g3.mono q2).put (some d1) hv
  have hsz : a.tmps.size = s.t.length := g3.1
  have hev : (a.put (some d1) (.slice (some ⟨w.heap.size, 0, none⟩) n n)).eval (.tmp d1) = .slice (some ⟨w.heap.size, 0, none⟩) n n := by
    simp [Act.put, Act.eval, hsz, hlt]
  have hS : Goes P f (fun v w' => ∃ ρ' r h', RelH ⟨ρ', h', w', c0.X⟩ ∧ Ev c0 ⟨ρ', h', w', c0.X⟩ ∧ RV ⟨ρ', h', w', c0.X⟩ v r ∧ R r h') (Item.inRegion ops ((m + 1) :: List.range' (m + 1 + 1) rest.length) :: k) (a.put (some d1) (.slice (some ⟨w.heap.size, 0, none⟩) n n)) (w.alloc (.cells r ti.elem)) :=
    (h.h hd2 ρ _ _ q1 (g2.trans q2) (g3b.put dst2 hv) (by cases dst2 <;> exact g4)).step fun bb cs _ => step_value (P := P) ho2 (hw2.ok g3b) (by simp [execOp, hev, Sem.run_bind, hrun2]) (.inl rfl)
  exact hS.step fun bb cs _ => step_value (P := P) ho' (hw1.ok g3) (by simp [execOp, Sem.run_bind, hrun]) (.inl rfl)
theorem Run.reg {ops : Array Oper} {id : Nat} (h : Ops P f c0 R ops 0 ops.toList k s) : Run P f c0 R (.code (.region id ops false) :: k) s := ⟨ARun.region h.h⟩
theorem Ops.one {T : TabT} (hT : TabOk P T) (hw : Wanted ops s.t o1.guard true) {r : ARes} (hr : aop T s.h.length s.t (ext s.t s.h o1.op) o1.op = some r) (hp : r.p) (h : Ops P f c0 R ops (m + 1) rest k ⟨aput s.t o1.dst r.v, aupd (ext s.t s.h o1.op) r.d⟩) : Ops P f c0 R ops m (o1 :: rest) k s := ⟨AOps.op hT hw hr hp h.h⟩
end
end Go.Proofs.Ytcafahcmalfepaa
