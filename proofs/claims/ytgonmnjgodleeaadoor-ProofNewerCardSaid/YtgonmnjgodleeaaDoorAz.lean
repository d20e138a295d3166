/-
  The shadow of a run: append, rows and structs that are built, strings and bytes. Nothing here speaks of the program.
-/
import Derived.Test.YtgonmnjgodleeaaDoorAy
namespace Go.Proofs.YtgonmnjgodleeaaDoor
open Go.RowKit
section
variable {P : Program} {T : TabT} {c : Cx}
/-- What is appended, as the model reads it. -/
theorem asrc_ok {k : Nat} {u : Nat} {ui : TI} (hu : TIok P u ui) {v : Value} {x : AV} (hv : RV c v x) {y : List (List AV)} (hy : asrc k ui x = some y) :
    (∃ d, P.underlying u = some d ∧ ((∃ e, d = .slice e) ∨ d = .string)) ∧ ∃ news, Flat c k y news ∧ (∀ w, (Builtin.lenOf v).run P w = .ok y.length w) ∧ ∀ w : World, w.heap = c.w.heap → (Builtin.firstCells k y.length v).run P w = .ok news.toArray w := by
  obtain ⟨d, hd, hso⟩ := hu.desc
  unfold sortOk at hso
  unfold asrc at hy
  split at hy
  · rename_i k' l' tk
    split at hy
    · rename_i hs
      rw [hs] at hso
      subst hso
      split at hy
      · rename_i hk
        subst hk
        cases hy
        obtain ⟨A, cap, xs, rfl, hcap, hm, hf, _, hc⟩ := hv.flat
        refine ⟨⟨_, hd, .inl ⟨_, rfl⟩⟩, xs, hf, fun w => by simp [Builtin.lenOf], fun w hw => ?_⟩
        by_cases hn : y = []
        · subst hn
          have : xs = [] := by have := hf.len; simpa using this
          subst this
          cases A with
          | none => simp [Builtin.firstCells]
          | some a => exact run_firstCells_some w k' 0 a _ cap [] (by simp) (fun j v h => by simp at h)
        · obtain ⟨b, o, rfl, hcell⟩ := hc hn
          refine run_firstCells_some w k' y.length _ _ cap xs hf.len fun j v hj => ?_
          rw [Addr.add_mid, cell_of_block (show w.heap[b]? = c.w.heap[b]? by rw [hw])]
          exact (hcell j v hj).2
      · cases hy
    · cases hy
  · split at hy
    · rename_i hs
      rw [hs] at hso
      subst hso
      cases hy
      cases hv
      exact ⟨⟨_, hd, .inl ⟨_, rfl⟩⟩, [], Flat.nil, fun w => by simp [Builtin.lenOf], fun w _ => by simp [Builtin.firstCells]⟩
    · cases hy
  · rename_i s
    split at hy
    · rename_i hs
      rw [hs] at hso
      subst hso
      split at hy
      · rename_i hk
        subst hk
        cases hy
        cases hv with
        | str q _ hq =>
          subst hq
          refine ⟨⟨_, hd, .inr rfl⟩, q.data.toList.map fun b => Value.int .u8 b.toNat, ⟨by simp, fun j e he => ?_, fun j e i a he ha => ?_⟩, fun w => by simp [Builtin.lenOf], fun w _ => ?_⟩
          · rw [List.getElem?_map] at he
            simp only [Option.map_eq_some_iff] at he
            obtain ⟨b, _, rfl⟩ := he
            rfl
          · rw [List.getElem?_map] at he
            simp only [Option.map_eq_some_iff] at he
            obtain ⟨b, hb, rfl⟩ := he
            match i, ha with
            | 0, ha =>
              simp only [byteC, List.getElem?_cons_zero, Option.some.injEq] at ha
              subst ha
              exact ⟨rfl, .int .u8 b.toNat, by rw [Nat.mul_one, Nat.add_zero, List.getElem?_map, hb]; rfl, .int _ _⟩
          · have e1 : q.extract 0 (q.data.toList.map byteC).length = q := by
              apply ByteArray.ext
              simp [ByteArray.data_extract]
            simp only [Builtin.firstCells, e1, Sem.run_pure]
            congr 1
            apply Array.ext'
            simp
      · cases hy
    · cases hy
  · cases hy
section
variable {t u el : Nat} {du : TypeDesc} {ie : TypeInfo} {z : Value} {W : World}
theorem run_append_in (hd : P.underlying t = some (.slice el)) (hdu : P.underlying u = some du) (hn : (∃ e, du = .slice e) ∨ du = .string) (hi : P.info? el = some ie) {vx : Value} {m : Nat} {news : List Value}
    (hlen : ∀ w, (Builtin.lenOf vx).run P w = .ok m w) (hnews : ∀ w : World, w.heap = W.heap → (Builtin.firstCells ie.size m vx).run P w = .ok news.toArray w) (ty : TypeId) {A : Option Addr} {n cap : Nat} (hfit : n + m ≤ cap) {w' : World}
    (hst : match A with | none => w' = W | some a => (storeCells (a.add (n * ie.size)) news).run P W = .ok () w') :
    (Builtin.append_ #[t, u] ty #[.slice A n cap, vx]).run P W = .ok (.slice A (n + m) cap) w' := by
  have hN := hnews W rfl
  rcases hn with ⟨e, rfl⟩ | rfl
  all_goals cases A with
  | none => subst hst; simp [Builtin.append_, run_underlying hd, run_underlying hdu, sizeOf, typeInfo, hi, hlen, hfit, hN]
  | some a => simp [Builtin.append_, run_underlying hd, run_underlying hdu, sizeOf, typeInfo, hi, hlen, hfit, hN, hst]
theorem run_append_out (hd : P.underlying t = some (.slice el)) (hdu : P.underlying u = some du) (hn : (∃ e, du = .slice e) ∨ du = .string) (hi : P.info? el = some ie) (hz : ie.zero = some z) {vx : Value} {m : Nat} {news olds : List Value}
    (hlen : ∀ w, (Builtin.lenOf vx).run P w = .ok m w) (hnews : ∀ w : World, w.heap = W.heap → (Builtin.firstCells ie.size m vx).run P w = .ok news.toArray w) (ty : TypeId) {A : Option Addr} {n cap : Nat} (hgrow : cap < n + m)
    (holds : ∀ w : World, w.heap = W.heap → (Builtin.firstCells ie.size n (.slice A n cap)).run P w = .ok olds.toArray w)
    (h63 : n + m ≤ 4611686018427387904) (h48 : (n + m) * ie.bytes ≤ 140737488355328) :
    (Builtin.append_ #[t, u] ty #[.slice A n cap, vx]).run P W = .ok (.slice (some ⟨W.heap.size, 0, none⟩) (n + m) (grownCap W (n + m) cap el))
      (W.drew.alloc (.cells ((olds ++ news).toArray ++ Builtin.zeroCells z.cells (grownCap W (n + m) cap el - (n + m))) el)) := by
  have hN := hnews W.drew rfl
  have hO := holds W.drew rfl
  have hnn : ¬ (n + m ≤ cap) := by omega
  have h63' : ¬ (9223372036854775807 < ((n : Int) + (m : Int))) := by omega
  have h48' : ¬ (281474976710656 < Builtin.nextslicecap (n + m) cap * ie.bytes) := by have := growslice_fits hgrow h48; omega
  have hsz : W.drew.heap.size = W.heap.size := rfl
  rcases hn with ⟨e, rfl⟩ | rfl
  all_goals
    simp [Builtin.append_, run_underlying hd, run_underlying hdu, sizeOf, typeInfo, zeroValue, hi, hz, hlen, hnn, h63', h48', Question.forced, hN, hO, newRow, grownCap]
    congr 2
    apply Array.ext'
    simp
end
theorem im_old {c c' : Cx} (h : Ev c c') {b o : Nat} {xs : List Value} (hc : ∀ (q : Nat) u, xs[q]? = some u → c.im b (o + q) ∧ c.w.cell? ⟨b, o + q, none⟩ = some u) : ∀ (q : Nat) u, xs[q]? = some u → c'.im b (o + q) ∧ c'.w.cell? ⟨b, o + q, none⟩ = some u := fun q u hq => by
  obtain ⟨h1, h2⟩ := hc q u hq
  obtain ⟨g1, g2⟩ := h.im _ _ h1
  exact ⟨g1, g2.trans h2⟩
/-- A free place becomes a token without a block. -/
theorem Cx.unbornN (hc : RelH c) (i k n : Nat) (hi : c.h[i]? = some .free) : RelH ⟨c.ρ, c.h.set i (.tok k n), c.w, c.X⟩ ∧ Ev c ⟨c.ρ, c.h.set i (.tok k n), c.w, c.X⟩ := by
  have hil : i < c.h.length := (List.getElem?_eq_some_iff.1 hi).1
  have hρ : c.ρ i = none := hc.blk i _ hi
  have hcase : ∀ (j : Nat) y, (c.h.set i (ABlk.tok k n))[j]? = some y → (j = i ∧ y = .tok k n) ∨ (j ≠ i ∧ c.h[j]? = some y) := fun j y hy => by
    by_cases hj : j = i
    · subst hj
      rw [List.getElem?_set_self hil] at hy
      exact .inl ⟨rfl, (Option.some.inj hy).symm⟩
    · rw [List.getElem?_set_ne (Ne.symm hj)] at hy
      exact .inr ⟨hj, hy⟩
  have hev : Ev c ⟨c.ρ, c.h.set i (.tok k n), c.w, c.X⟩ := by
    refine ⟨rfl, rfl, rfl, Nat.le_refl _, rfl, fun b o h => ⟨⟨h.1, h.2.1, fun j y hy hj => ?_⟩, rfl⟩, fun b hb hm => ⟨rfl, ?_⟩, by simp, fun j y hy hf' => ?_, fun _ vs _ _ h => ⟨vs, h, rfl⟩⟩
    · rcases hcase j y hy with ⟨rfl, rfl⟩ | ⟨_, g⟩
      · rw [hρ] at hj; cases hj
      · exact h.2.2 j y g hj
    · rintro ⟨j, y, hy, ly, hj⟩
      rcases hcase j y hy with ⟨rfl, rfl⟩ | ⟨_, g⟩
      · rw [hρ] at hj; cases hj
      · exact hm ⟨j, y, g, ly, hj⟩
    · by_cases hj : j = i
      · subst hj
        rw [hi] at hy
        cases hy
        cases hf'
      · exact ⟨y, by rw [List.getElem?_set_ne (Ne.symm hj)]; exact hy, hf', fun ht => ⟨ht, rfl⟩, fun k n e => ⟨n, e, .inr ⟨rfl, rfl, fun _ _ => rfl⟩⟩⟩
  refine ⟨⟨fun j j' y y' b1 hy hy' ly ly' hb1 hb1' => ?_, fun j y b1 hy hb1 => ?_, fun j y hy => ?_, fun b o h => ⟨(hc.xs b o h).1, fun j y hy ly hb => by
    rcases hcase j y hy with ⟨rfl, rfl⟩ | ⟨_, g⟩
    · rw [hρ] at hb; cases hb
    · exact (hc.xs b o h).2 j y g ly hb⟩⟩, hev⟩
  · rcases hcase j y hy with ⟨rfl, rfl⟩ | ⟨_, g⟩ <;> rcases hcase j' y' hy' with ⟨rfl, rfl⟩ | ⟨_, g'⟩
    · rfl
    · rw [hρ] at hb1; cases hb1
    · rw [hρ] at hb1'; cases hb1'
    · exact hc.inj j j' y y' b1 g g' ly ly' hb1 hb1'
  · rcases hcase j y hy with ⟨rfl, rfl⟩ | ⟨_, g⟩
    · rw [hρ] at hb1; cases hb1
    · exact hc.here j y b1 g hb1
  · rcases hcase j y hy with ⟨rfl, rfl⟩ | ⟨hj, g⟩
    · intro b hb; rw [hρ] at hb; cases hb
    · exact (hc.blk j y g).mono hev rfl fun b' ly hb' => rfl
theorem Cx.unborn (hc : RelH c) (i k : Nat) (hi : c.h[i]? = some .free) : RelH ⟨c.ρ, c.h.set i (.tok k 0), c.w, c.X⟩ ∧ Ev c ⟨c.ρ, c.h.set i (.tok k 0), c.w, c.X⟩ := Cx.unbornN hc i k 0 hi
theorem append_core (hc : RelH c) {t u el : Nat} {du : TypeDesc} {ie : TypeInfo} {z : Value} (hd : P.underlying t = some (.slice el)) (hdu : P.underlying u = some du) (hn : (∃ e, du = .slice e) ∨ du = .string) (hi : P.info? el = some ie) (hz : ie.zero = some z) (hzs : z.cells.size = ie.size)
    {vx : Value} {y : List (List AV)} {news : List Value} (hf : Flat c ie.size y news) (hlen : ∀ w, (Builtin.lenOf vx).run P w = .ok y.length w) (hnews : ∀ w : World, w.heap = c.w.heap → (Builtin.firstCells ie.size y.length vx).run P w = .ok news.toArray w) (ty : TypeId)
    (A : Option Addr) (cap i : Nat) (l : List (List AV)) (olds : List Value) (x0 : ABlk) (hcap : l.length ≤ cap) (hcm : cap ≤ maxLen) (hfo : Flat c ie.size l olds) (hix : c.h[i]? = some x0)
    (hoc : l ≠ [] → ∃ b o, A = some ⟨b, o, none⟩ ∧ ∀ (q : Nat) u, olds[q]? = some u → c.im b (o + q) ∧ c.w.cell? ⟨b, o + q, none⟩ = some u)
    (hx0 : (x0 = .free ∧ A = none ∧ cap = 0) ∨ (x0 = .tok ie.size l.length ∧ (cap = l.length ∨ ∃ b vs e', c.ρ i = some b ∧ A = some ⟨b, 0, none⟩ ∧ c.w.heap[b]? = some (.cells vs e' (0, 0)) ∧ vs.size = cap * ie.size ∧ 0 < l.length)))
    (hb1 : (l.length + y.length) * ie.bytes ≤ 140737488355328) (hb2 : l.length + y.length ≤ 4611686018427387904) :
    ∃ q ρ' w', (Builtin.append_ #[t, u] ty #[.slice A l.length cap, vx]).run P c.w = .ok q w' ∧ RelH ⟨ρ', c.h.set i (.tok ie.size (l.length + y.length)), w', c.X⟩ ∧ Ev c ⟨ρ', c.h.set i (.tok ie.size (l.length + y.length)), w', c.X⟩ ∧
      RV ⟨ρ', c.h.set i (.tok ie.size (l.length + y.length)), w', c.X⟩ q (.sl ie.size (l ++ y) (.own i)) := by
  have hil : i < c.h.length := (List.getElem?_eq_some_iff.1 hix).1
  have hset : (c.h.set i (.tok ie.size (l.length + y.length)))[i]? = some (.tok ie.size (l.length + y.length)) := List.getElem?_set_self hil
  have hnl := hf.len
  have hol := hfo.len
  by_cases hfit : l.length + y.length ≤ cap
  · by_cases hy0 : y = []
    · -- nothing is appended
      subst hy0
      have hn0 : news = [] := by simpa using hnl
      subst hn0
      have hrun := run_append_in (P := P) (W := c.w) hd hdu hn hi hlen hnews ty (A := A) (n := l.length) (cap := cap) hfit (w' := c.w) (by cases A <;> simp [storeCells])
      have hst : ∃ hr : RelH ⟨c.ρ, c.h.set i (.tok ie.size (l.length + ([] : List (List AV)).length)), c.w, c.X⟩, Ev c ⟨c.ρ, c.h.set i (.tok ie.size (l.length + ([] : List (List AV)).length)), c.w, c.X⟩ := by
        rcases hx0 with ⟨rfl, rfl, rfl⟩ | ⟨rfl, hx0⟩
        · have hl0 : l.length = 0 := by omega
          simp only [hl0, List.length_nil, Nat.add_zero]
          obtain ⟨h1, h2⟩ := Cx.unborn hc i ie.size hix
          exact ⟨h1, h2⟩
        · have : c.h.set i (.tok ie.size (l.length + ([] : List (List AV)).length)) = c.h := by
            simp only [List.length_nil, Nat.add_zero]
            obtain ⟨h1, h2⟩ := List.getElem?_eq_some_iff.1 hix
            rw [← h2, List.set_getElem_self]
          rw [this]
          exact ⟨hc, Ev.refl c⟩
      obtain ⟨hr, hev⟩ := hst
      refine ⟨_, c.ρ, c.w, hrun, hr, hev, ?_⟩
      rw [List.append_nil]
      have htk : TkOk ⟨c.ρ, c.h.set i (.tok ie.size (l.length + ([] : List (List AV)).length)), c.w, c.X⟩ A l.length cap ie.size (.own i) := by
        refine ⟨⟨_, hset, rfl⟩, fun k' n' e => ?_⟩
        rw [show (Cx.mk c.ρ (c.h.set i (.tok ie.size (l.length + ([] : List (List AV)).length))) c.w c.X).h = c.h.set i (.tok ie.size (l.length + ([] : List (List AV)).length)) from rfl, hset] at e
        cases e
        refine ⟨rfl, by simp, fun _ => ?_⟩
        rcases hx0 with ⟨rfl, rfl, rfl⟩ | ⟨rfl, hx0⟩
        · left; omega
        · rcases hx0 with h | ⟨b, vs, e', h1, h2, h3, h4, h5⟩
          · exact .inl h
          · exact .inr ⟨b, vs, e', h1, h2, h3, h4, by simpa using h5⟩
      by_cases hl : l = []
      · have hoe : olds = [] := by rw [hl] at hol; simpa using hol
        exact RV.sl_of (hfo.mono hev) hcap hcm 0 0 (fun h => absurd hl h) (fun q u hq => by rw [hoe] at hq; simp at hq) htk (by simp)
      · obtain ⟨b, o, hA, hcell⟩ := hoc hl
        exact RV.sl_of (hfo.mono hev) hcap hcm b o (fun _ => hA) (im_old hev hcell) htk (by simp)
    · -- there is room
      have hyl : 0 < y.length := List.length_pos_iff.2 hy0
      rcases hx0 with ⟨rfl, rfl, rfl⟩ | ⟨rfl, hx0⟩
      · omega
      rcases hx0 with hx0 | ⟨b, vs, e', hb, rfl, hh, hvs, _⟩
      · omega
      have hfit2 : l.length * ie.size + news.length ≤ vs.size := by rw [hnl, hvs, ← Nat.add_mul]; exact Nat.mul_le_mul_right _ hfit
      have hst := run_storeCells_at P b (l.length * ie.size) e' news 0 vs c.w hh (by simpa using hfit2) hf.one
      simp only [Nat.add_zero] at hst
      have hrun := run_append_in (P := P) (W := c.w) hd hdu hn hi hlen hnews ty (A := some ⟨b, 0, none⟩) (n := l.length) (cap := cap) hfit (by simpa [Addr.add_mid] using hst)
      have hcell : ∀ o : Nat, (c.w.setRow b (vs.toList.take (l.length * ie.size) ++ news ++ vs.toList.drop (l.length * ie.size + news.length)).toArray).cell? ⟨b, o, none⟩ =
          if o < l.length * ie.size then vs[o]? else if o < l.length * ie.size + news.length then news[o - l.length * ie.size]? else vs[o]? := fun o => by
        rw [cell_setRow_same c.w b o vs _ e' (0, 0) hh, List.getElem?_toArray, getElem?_layV (by simpa using hfit2)]
        simp
      have hw : ∀ o, c.w.cell? ⟨b, o, none⟩ = vs[o]? := fun o => cell_of_row c.w b o vs e' (0, 0) hh
      obtain ⟨X, hX⟩ : ∃ X, X = (vs.toList.take (l.length * ie.size) ++ news ++ vs.toList.drop (l.length * ie.size + news.length)).toArray := ⟨_, rfl⟩
      rw [← List.append_assoc] at hrun
      rw [← hX] at hrun hcell
      have hXs : X.size = vs.size := by rw [hX]; simp; omega
      have hother := fun b' hb' => setRow_other c.w b b' X hb'
      have hblk' := setRow_heap c.w b vs X e' (0, 0) hh
      have hsz : (c.w.setRow b X).heap.size = c.w.heap.size := by simp
      obtain ⟨hr, hev⟩ := Cx.write hc i (.tok ie.size l.length) (.tok ie.size (l.length + y.length)) b hix hb rfl rfl (c.w.setRow b X) hsz rfl rfl rfl hother
        (fun o ho => ⟨by show o < (l.length + y.length) * ie.size; have : o < l.length * ie.size := ho; rw [Nat.add_mul]; omega, by rw [hcell, if_pos (show o < l.length * ie.size from ho), hw]⟩) (.inr ⟨_, _, _, rfl, rfl, .inl (by omega)⟩)
        (fun vs' e2 f h0 => by rw [hh] at h0; cases h0; exact ⟨X, hblk', hXs⟩)
        (fun _ b' hb' => by rw [show (Cx.mk c.ρ (c.h.set i (.tok ie.size (l.length + y.length))) (c.w.setRow b X) c.X).ρ i = c.ρ i from rfl, hb] at hb'; cases hb'; exact ⟨X, e', hblk'⟩)
      refine ⟨_, c.ρ, _, hrun, hr, hev, RV.sl_of ((hfo.mono hev).append (hf.mono hev)) (by simpa using hfit) hcm b 0 (fun _ => rfl) (fun q u hq => ?_) ?_ (by simp)⟩
      · have hql : q < l.length * ie.size + news.length := by
          have := (List.getElem?_eq_some_iff.1 hq).1
          rw [List.length_append, hol] at this; exact this
        rw [Nat.zero_add]
        refine ⟨⟨?_, ?_, fun j x hj hjb => ?_⟩, ?_⟩
        · have := (Array.getElem?_eq_some_iff.1 hh).1
          simpa using this
        · exact fun h => (hc.xs _ _ h).2 i _ hix rfl hb
        · by_cases hji : j = i
          · subst hji
            simp only [hset] at hj
            cases hj
            show q < (l.length + y.length) * ie.size
            rw [Nat.add_mul, ← hnl]; exact hql
          · simp only [List.getElem?_set_ne (Ne.symm hji)] at hj
            by_cases hxl : x.live = true
            · exact absurd (hc.inj j i x _ b hj hix hxl rfl hjb hb) hji
            · cases x <;> first | exact absurd rfl hxl | trivial
        · rw [hcell]
          rw [List.getElem?_append, hol] at hq
          split at hq
          · rename_i hq1
            rw [if_pos hq1]
            have hl : l ≠ [] := by rintro rfl; simp at hq1
            obtain ⟨b', o', hA, hcc⟩ := hoc hl
            cases hA
            have := (hcc q u hq).2
            rw [Nat.zero_add, hw] at this
            exact this
          · rename_i hq1
            rw [if_neg hq1, if_pos (by omega)]
            exact hq
      · refine ⟨⟨_, hset, rfl⟩, fun k' n' e => ?_⟩
        simp only [hset] at e
        cases e
        exact ⟨rfl, by simp, fun _ => .inr ⟨b, X, e', hb, rfl, hblk', by rw [hXs, hvs], by simp; omega⟩⟩
  · -- a new row
    have hyl : 0 < y.length := by omega
    have holds : ∀ w : World, w.heap = c.w.heap → (Builtin.firstCells ie.size l.length (.slice A l.length cap)).run P w = .ok olds.toArray w := fun w hw => by
      by_cases hl : l = []
      · subst hl
        have : olds = [] := by simpa using hol
        subst this
        cases A with
        | none => simp [Builtin.firstCells]
        | some a => exact run_firstCells_some w ie.size 0 a _ cap [] (by simp) (fun j v h => by simp at h)
      · obtain ⟨b, o, rfl, hcc⟩ := hoc hl
        refine run_firstCells_some w ie.size l.length _ _ cap olds hol fun j v hj => ?_
        rw [Addr.add_mid, cell_of_block (show w.heap[b]? = c.w.heap[b]? by rw [hw])]
        exact (hcc j v hj).2
    have hrun := run_append_out (P := P) (W := c.w) hd hdu hn hi hz hlen hnews ty (A := A) (n := l.length) (cap := cap) (by omega) holds hb2 hb1
    have hge := grownCap_ge c.w (l.length + y.length) cap el
    have hle := grownCap_le_maxLen c.w (l.length + y.length) cap el (by unfold maxLen; omega)
    generalize hgc : grownCap c.w (l.length + y.length) cap el = gc at *
    generalize hcells : ((olds ++ news).toArray ++ Builtin.zeroCells z.cells (gc - (l.length + y.length))) = cells at *
    have hcs : cells.size = gc * ie.size := by
      rw [← hcells]
      simp only [Array.size_append, List.size_toArray, List.length_append, hol, hnl, size_zeroCells, hzs, ← Nat.add_mul]
      congr 1; omega
    have hpre : ∀ (q : Nat) u, (olds ++ news)[q]? = some u → cells[q]? = some u := fun q u hq => by
      rw [← hcells]
      have hlt := (List.getElem?_eq_some_iff.1 hq).1
      rw [Array.getElem?_append_left (by simpa using hlt)]
      simpa using hq
    obtain ⟨hr, hev⟩ := Cx.alloc hc i x0 hix (.tok ie.size (l.length + y.length)) (by
        rcases hx0 with ⟨rfl, _⟩ | ⟨rfl, _⟩
        · exact .inl rfl
        · exact .inr ⟨_, _, _, rfl, rfl, by omega⟩) rfl (c.w.drew.alloc (.cells cells el)) (.cells cells el) rfl rfl rfl rfl
      (fun _ b hb => by
        rw [show (Cx.mk (setρ c.ρ i (some c.w.heap.size)) (c.h.set i (.tok ie.size (l.length + y.length))) (c.w.drew.alloc (.cells cells el)) c.X).ρ i = some c.w.heap.size from setρ_same _ _ _] at hb
        cases hb
        exact ⟨cells, el, by show (c.w.heap.push _)[c.w.heap.size]? = _; simp⟩)
    have hblk : (c.w.drew.alloc (.cells cells el)).heap[c.w.heap.size]? = some (.cells cells el) := by show (c.w.heap.push _)[c.w.heap.size]? = _; simp
    refine ⟨_, _, _, hrun, hr, hev, RV.sl_of ((hfo.mono hev).append (hf.mono hev)) (by simpa using hge) hle c.w.heap.size 0 (fun _ => rfl) (fun q u hq => ?_) ?_ (by simp)⟩
    · have hql : q < l.length * ie.size + news.length := by
        have := (List.getElem?_eq_some_iff.1 hq).1
        rw [List.length_append, hol] at this; exact this
      rw [Nat.zero_add]
      refine ⟨⟨by show c.w.heap.size < (c.w.heap.push _).size; simp, (fun h => by have := (hc.xs _ _ h).1; omega), fun j x hj hjb => ?_⟩, ?_⟩
      · have : j = i := by
          by_cases hji : j = i
          · exact hji
          · simp only [List.getElem?_set_ne (Ne.symm hji)] at hj
            simp only [setρ_ne _ _ hji] at hjb
            have := hc.here j x _ hj hjb
            omega
        subst this
        simp only [hset] at hj
        cases hj
        show q < (l.length + y.length) * ie.size
        rw [Nat.add_mul, ← hnl]; exact hql
      · rw [cell_of_row _ _ q cells el (0, 0) hblk]
        exact hpre q u hq
    · refine ⟨⟨_, hset, rfl⟩, fun k' n' e => ?_⟩
      simp only [hset] at e
      cases e
      exact ⟨rfl, by simp, fun _ => .inr ⟨c.w.heap.size, cells, el, setρ_same _ _ _, rfl, hblk, hcs, by simp; omega⟩⟩
end
end Go.Proofs.YtgonmnjgodleeaaDoor
