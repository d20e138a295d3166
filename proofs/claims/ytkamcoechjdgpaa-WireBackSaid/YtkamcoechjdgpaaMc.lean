/-
  Several texts in one: Ab, Aj, Bc, Bb, Bd, Be, Bf, Bg, Bn, Bk.
-/
import Derived.Test.YtkamcoechjdgpaaMb
import Derived.Laws.Externs
import Derived.Lib.AppendZerosOnto
import Derived.ChangeKeysEq
/-
  A box that no one writes any more, and a text's way in short runs. Nothing here speaks of the program.
-/
namespace Go.Proofs.Ytkamcoechjdgpaa
open Go.RowKit
theorem Weak.freeze {P : Program} {c0 : Cx} {s : AState} (j i : Nat) (cs : List AV) (hj : s.t[j]? = some (.ptr i 0)) (hi : s.h[i]? = some (.box cs)) : Weak P c0 s ⟨s.t.set j (.rptr cs), s.h.set i .dead⟩ := by
  refine ⟨fun ρ w vs h1 h2 h3 => ?_⟩
  obtain ⟨q1, q2⟩ := Cx.freeze h1 i _ hi rfl
  have hil : i < s.h.length := (List.getElem?_eq_some_iff.1 hi).1
  refine ⟨ρ, q1, h2.trans q2, by simp [h3.1], fun m v x hv hx => ?_⟩
  rw [List.getElem?_set] at hx
  split at hx
  · rename_i hij
    subst hij
    split at hx
    · cases hx
      have hr := h3.2 j v _ hv hj
      obtain ⟨b, us, e, hb, hcell, hsz, hall⟩ := h1.blk i _ hi
      cases hr with
      | ptr _ _ b' hk hb' ht =>
        have hbb : b' = b := by
          have : some b' = some b := hb'.symm.trans hb
          exact Option.some.inj this
        subst hbb
        refine .rptr cs b' 0 (fun q => us.getD q undef) (fun q a ha => ?_) (fun q a ha => ?_)
        · obtain ⟨hc1, u, hu, hr⟩ := hall q a ha
          refine ⟨hc1, ⟨(Array.getElem?_eq_some_iff.1 hcell).1, fun hX => ?_, fun i' x hx hbi => ?_⟩, ?_⟩
          · exact (h1.xs _ _ hX).2 i _ hi rfl hb
          · by_cases hii : i' = i
            · subst hii
              simp only [List.getElem?_set_self hil] at hx
              cases hx
              trivial
            · simp only [List.getElem?_set_ne (Ne.symm hii)] at hx
              cases hl : x.live with
              | true => exact absurd (h1.inj i' i x _ b' hx hi hl rfl hbi hb) hii
              | false => cases x <;> first | trivial | cases hl
          · rw [cell_of_row w b' (0 + q) us e (0, 0) hcell, Nat.zero_add, hu]
            simp [Array.getD_eq_getD_getElem?, hu]
        · obtain ⟨hc1, u, hu, hr⟩ := hall q a ha
          have : us.getD q undef = u := by simp [Array.getD_eq_getD_getElem?, hu]
          show RV _ (us.getD q undef) a
          rw [this]
          exact hr.mono q2
    · cases hx
  · exact (h3.2 m v x hv hx).mono q2
theorem Run.unloop {P : Program} {f : FuncId} {c0 : Cx} {R : AV → List ABlk → Prop} {k : List Item} {s : AState} {c : Code} (h : Run P f c0 R (.code c :: .inLoop c :: k) s) : Run P f c0 R (.code (.loop c) :: k) s := ⟨ARun.loop1 h.h⟩
theorem Run.again {P : Program} {f : FuncId} {c0 : Cx} {R : AV → List ABlk → Prop} {k : List Item} {s : AState} {c : Code} (h : Run P f c0 R (.code c :: .inLoop c :: k) s) : Run P f c0 R (.inLoop c :: k) s := ⟨ARun.inLoop h.h⟩
end Go.Proofs.Ytkamcoechjdgpaa
/-
  A call, in a drawn region, that returns a row of its own. Nothing here speaks of the program.
-/
namespace Go.Proofs.Ytkamcoechjdgpaa
open Go.RowKit
section
variable {P : Program} {f : FuncId}
theorem ACall.ownAt {args args' : List AV} {k : Nat} {l : List (List AV)} {h : List ABlk} {R : AV → List ABlk → Prop} {sl : Nat} (hfr : h[sl]? = some .free) (hs : OSpec P f args k l) (hle : LeL args' args) (ha : belL 0 args = true) (hR : R (.sl k l (.own sl)) (h.set sl (.tok k l.length))) : ACall P f args' h R := by
  intro c vs hch hc ht
  subst hch
  have hsl : sl < c.h.length := (List.getElem?_eq_some_iff.1 hfr).1
  refine (hs.run c.shut vs rfl (Cx.shut_rel hc) ((hle.rel ht).shut ha)).mono ?_
  rintro e w' ⟨v, ρ', r, h', rfl, g1, g2, g3, i, rfl, hi⟩
  have hbig : ∀ b, ρ' i = some b → c.w.heap.size ≤ b := fun b hb => by
    rcases Nat.lt_or_ge b c.w.heap.size with hlt | hge
    · exact absurd ⟨i, _, hi, rfl, hb⟩ (g2.fr b hlt (by rintro ⟨i, x, hx, _⟩; simp [Cx.shut] at hx)).2
    · exact hge
  have hold : ∀ b, b < c.w.heap.size → w'.heap[b]? = c.w.heap[b]? := fun b hb => (g2.fr b hb (by rintro ⟨i, x, hx, _⟩; simp [Cx.shut] at hx)).1
  have hsz : c.w.heap.size ≤ w'.heap.size := g2.size
  have hcase : ∀ (j : Nat) y b, (c.h.set sl (ABlk.tok k l.length))[j]? = some y → setρ c.ρ sl (ρ' i) j = some b → (j = sl ∧ y = .tok k l.length ∧ ρ' i = some b ∧ c.w.heap.size ≤ b) ∨ (j ≠ sl ∧ c.h[j]? = some y ∧ c.ρ j = some b ∧ b < c.w.heap.size) := fun j y b hy hb => by
    by_cases hj : j = sl
    · subst hj
      rw [setρ_same] at hb
      rw [List.getElem?_set_self hsl] at hy
      simp at hy
      exact .inl ⟨rfl, hy.symm, hb, hbig b hb⟩
    · rw [setρ_ne _ _ hj] at hb
      rw [List.getElem?_set_ne (Ne.symm hj)] at hy
      exact .inr ⟨hj, hy, hb, hc.here j y b hy hb⟩
  have hρ : ∀ (j : Nat), j ≠ sl → setρ c.ρ sl (ρ' i) j = c.ρ j := fun j hx => setρ_ne _ _ hx
  have hev : Ev c ⟨setρ c.ρ sl (ρ' i), c.h.set sl (.tok k l.length), w', c.X⟩ := by
    refine ⟨g2.os, g2.tape, g2.output, hsz, rfl, fun b o h => ⟨⟨Nat.lt_of_lt_of_le h.1 hsz, h.2.1, fun j y hy hb => ?_⟩, cell_of_block (hold b h.1)⟩, fun b hb hm => ⟨hold b hb, ?_⟩, by simp, fun j x hx hf => ?_, keep_old hold, Uw.back (fun _ _ h => h.1) (fun b o hx hb => ⟨hb, fun hm => hm.2.1 hx⟩) (fun b hb x hx => .inl (by rw [← hold b hb]; exact hx)) g2.uw⟩
    · rcases hcase j y b hy hb with ⟨_, _, _, hge⟩ | ⟨_, q1, q2, _⟩
      · have := h.1; omega
      · exact h.2.2 j y q1 q2
    · rintro ⟨j, y, hy, hl, hj⟩
      rcases hcase j y b hy hj with ⟨_, _, _, hge⟩ | ⟨_, q1, q2, _⟩
      · omega
      · exact hm ⟨j, y, q1, hl, q2⟩
    · have hj : j ≠ sl := by rintro rfl; rw [hfr] at hx; cases hx; cases hf
      exact ⟨x, by rw [List.getElem?_set_ne (Ne.symm hj)]; exact hx, hf, fun ht => ⟨ht, hρ j hj⟩, fun k n e => ⟨n, e, .inr ⟨rfl, hρ j hj, fun b hb => hold b (hc.here j x b hx hb)⟩⟩⟩
  have hrel : RelH ⟨setρ c.ρ sl (ρ' i), c.h.set sl (.tok k l.length), w', c.X⟩ := by
    refine ⟨fun j j' y y' b hy hy' ly ly' hb hb' => ?_, fun j y b hy hb => ?_, fun j y hy => ?_, fun b o h => ⟨Nat.lt_of_lt_of_le (hc.xs b o h).1 hsz, fun j y hy hl hb => ?_⟩, hev.uw hc.uw⟩
    · rcases hcase j y b hy hb with ⟨rfl, _, _, q⟩ | ⟨_, q1, q2, q3⟩ <;> rcases hcase j' y' b hy' hb' with ⟨rfl, _, _, w⟩ | ⟨_, w1, w2, w3⟩
      · rfl
      · omega
      · omega
      · exact hc.inj j j' y y' b q1 w1 ly ly' q2 w2
    · rcases hcase j y b hy hb with ⟨_, _, q, _⟩ | ⟨_, q1, q2, q3⟩
      · exact g1.here i _ b hi q
      · exact Nat.lt_of_lt_of_le q3 hsz
    · by_cases hj : j = sl
      · subst hj
        rw [List.getElem?_set_self hsl] at hy
        simp at hy
        subst hy
        intro b hb
        simp only [setρ_same] at hb
        exact g1.blk i _ hi b hb
      · rw [List.getElem?_set_ne (Ne.symm hj)] at hy
        exact (hc.blk j y hy).mono hev (hρ j hj) fun b _ hb => hold b (hc.here j y b hy hb)
    · rcases hcase j y b hy hb with ⟨_, _, _, q⟩ | ⟨_, q1, q2, q3⟩
      · have := (hc.xs b o h).1; omega
      · exact (hc.xs b o h).2 j y q1 hl q2
  have him : ∀ b o, (Cx.mk ρ' h' w' c.shut.X).im b o → (Cx.mk (setρ c.ρ sl (ρ' i)) (c.h.set sl (.tok k l.length)) w' c.X).im b o := fun b o h => by
    have hx : ¬ (b < c.w.heap.size ∧ ¬ c.im b o) := h.2.1
    by_cases hb : b < c.w.heap.size
    · have him : c.im b o := Classical.byContradiction fun hn => hx ⟨hb, hn⟩
      exact (hev.im b o him).1
    · refine ⟨h.1, fun hX => hb (hc.xs b o hX).1, fun j y hy hρj => ?_⟩
      rcases hcase j y b hy hρj with ⟨_, rfl, q, _⟩ | ⟨_, q1, q2, q3⟩
      · exact h.2.2 i _ hi q
      · omega
  obtain ⟨A, cap, xs, rfl, hcap, hm, hf, ⟨_, htk⟩, hcell⟩ := g3.flat
  refine ⟨_, _, _, _, rfl, hrel, hev, ?_, hR⟩
  have hf' : Flat ⟨setρ c.ρ sl (ρ' i), c.h.set sl (.tok k l.length), w', c.X⟩ k l xs := ⟨hf.len, hf.el, fun j e m a he ha => by
    obtain ⟨w1, u, w2, w3⟩ := hf.rv j e m a he ha
    exact ⟨w1, u, w2, w3.xfer (n := 0) (fun b o h => ⟨him b o h, rfl⟩) (fun i hi => absurd hi (Nat.not_lt_zero i)) (fun i b hi => absurd hi (Nat.not_lt_zero i)) (AV.plain_bel w1 0)⟩⟩
  have ht' : TkOk ⟨setρ c.ρ sl (ρ' i), c.h.set sl (.tok k l.length), w', c.X⟩ A l.length cap k (.own sl) := by
    have hlast : (c.h.set sl (ABlk.tok k l.length))[sl]? = some (.tok k l.length) := List.getElem?_set_self hsl
    refine ⟨⟨_, hlast, rfl⟩, fun k' n' e => ?_⟩
    simp only [hlast] at e
    cases e
    refine ⟨rfl, Nat.le_refl _, fun _ => ?_⟩
    obtain ⟨_, _, q⟩ := htk k l.length hi
    rcases q rfl with q | ⟨b, vs, e, w1, w2, w3, w4⟩
    · exact .inl q
    · exact .inr ⟨b, vs, e, by simp only [setρ_same]; exact w1, w2, w3, w4⟩
  by_cases hl : l = []
  · have hxs : xs = [] := by have := hf.len; rw [hl] at this; simpa using this
    exact RV.sl_of hf' hcap hm 0 0 (fun h => absurd hl h) (fun q u hq => by rw [hxs] at hq; simp at hq) ht' rfl
  · obtain ⟨b, o, hA, hcc⟩ := hcell hl
    exact RV.sl_of hf' hcap hm b o (fun _ => hA) (fun q u hq => ⟨him _ _ (hcc q u hq).1, (hcc q u hq).2⟩) ht' rfl
end
section
variable {P : Program} {f : FuncId} {c0 : Cx} {R : AV → List ABlk → Prop} {ops : Array Oper} {n sl : Nat} {o : Oper} {rest : List Oper} {fp : List (List Nat × List Nat)} {k : List Item} {s : AState}
theorem DOps.own (ho : ops[n]? = some o) (hw : Wanted ops s.t o.guard true) {x : Operand} {as : Array Operand} {ts : Array TypeId} (hop : o.op = .call { callee := .value x, args := as, argTypes := ts })
    {g : FuncId} {fi ca : List AV} (hx : aev s.t x = .fn (.func g) fi ca) {args : List AV} {kk : Nat} {l : List (List AV)} (hs : OSpec P g args kk l) (hle : LeL (fi ++ as.toList.map (aev s.t) ++ ca) args) (ha : belL 0 args = true)
    (hfr : s.h[sl]? = some .free) (h : DOps P f c0 R ops (n + 1) (sl + 1) rest (fp ++ [([sl], [sl])]) k ⟨aput s.t o.dst (.sl kk l (.own sl)), s.h.set sl (.tok kk l.length)⟩) : DOps P f c0 R ops n sl (o :: rest) fp k s :=
  DOps.cons (e := ⟨.sl kk l (.own sl), [(sl, .tok kk l.length)], [sl]⟩) (StepOk.call ho hw hop hx hs.fn _ fun h' hh => ACall.ownAt (by rw [hh sl (by simp)]; exact hfr) hs hle ha ⟨rfl, rfl⟩) h
end
end Go.Proofs.Ytkamcoechjdgpaa
/-
  The shadow of a run: rows that a call made and may be written on, their capacity not known; appends that make such rows; calls that take one of them. Nothing here speaks of the program.
-/
namespace Go.Proofs.Ytkamcoechjdgpaa
open Go.RowKit
section
variable {P : Program} {T : TabT} {c : Cx}
theorem Cx.retell (hc : RelH c) (i b : Nat) (x0 x : ABlk) (hi : c.h[i]? = some x0) (hb : c.ρ i = some b) (h0 : x0.istok = false) (h1 : x.istok = false) (hl : x0.live = true) (hxl : x.live = true) (hf : ∀ o, x0.fix o → x.fix o)
    (hx : Ev c ⟨c.ρ, c.h.set i x, c.w, c.X⟩ → BlkOk ⟨c.ρ, c.h.set i x, c.w, c.X⟩ i x) : RelH ⟨c.ρ, c.h.set i x, c.w, c.X⟩ ∧ Ev c ⟨c.ρ, c.h.set i x, c.w, c.X⟩ :=
  Cx.write hc i x0 x b hi hb hl hxl c.w rfl rfl rfl rfl (fun _ _ => rfl) (fun o h => ⟨hf o h, rfl⟩) (.inl ⟨h0, h1⟩) (fun vs e f h => ⟨vs, h, rfl⟩) (fun _ h => .inl h) hx
/-! ### appends that make rows -/
end
section
variable {P : Program} {T : TabT} {f : FuncId} {c0 : Cx} {R : AV → List ABlk → Prop} {k : List Item} {s : AState} {ops : Array Oper} {n : Nat} {o : Oper} {rest : List Oper}
end
end Go.Proofs.Ytkamcoechjdgpaa
/-
  The shadow of a run: rows that were written and stay as they are from here on. Nothing here speaks of the program.
-/
namespace Go.Proofs.Ytkamcoechjdgpaa
open Go.RowKit
section
variable {P : Program}
theorem RV.frozen {c : Cx} (hc : RelH c) {v : Value} {i k o n cap : Nat} {L : List (List AV)} (hv : RV c v (.msl i k o n cap)) (hi : c.h[i]? = some (.rows k L)) (hk : 0 < k) (hon : o + n ≤ L.length) (hp : ∀ x ∈ (L.drop o).take n, ∀ a ∈ x, a.plain = true) :
    RelH ⟨c.ρ, c.h.set i .dead, c.w, c.X⟩ ∧ Ev c ⟨c.ρ, c.h.set i .dead, c.w, c.X⟩ ∧ RV ⟨c.ρ, c.h.set i .dead, c.w, c.X⟩ v (.sl k ((L.drop o).take n) .no) := by
  obtain ⟨q1, q2⟩ := Cx.freeze hc i _ hi rfl
  refine ⟨q1, q2, ?_⟩
  cases hv with
  | msl _ _ _ _ _ b o' hkn hb hnt hcap hm ho =>
    obtain ⟨vs, e, hR⟩ := RowsAt.of hc hi hb
    obtain ⟨hf, hcell⟩ := hR.part hk o n hon hp
    have hln : ((L.drop o).take n).length = n := by simp; omega
    have hbs : b < c.w.heap.size := hc.here i _ b hi hb
    refine RV.sl_of (t := .no) (FlatP.mono' q2 hf) (by omega) hm b o' (fun _ => rfl) (fun q u hq => ?_) trivial hln
    have hq' := (List.getElem?_eq_some_iff.1 hq).1
    rw [hf.len, hln] at hq'
    have hn0 : 0 < n := Nat.pos_of_ne_zero fun h => by rw [h] at hq'; simp at hq'
    obtain rfl := ho (by omega)
    refine ⟨⟨hbs, fun hX => (hc.xs b _ hX).2 i _ hi rfl hb, fun j x hj hjb => ?_⟩, hcell q u hq⟩
    by_cases hji : j = i
    · subst hji
      rw [show (Cx.mk c.ρ (c.h.set j .dead) c.w c.X).h = c.h.set j .dead from rfl, List.getElem?_set_self (List.getElem?_eq_some_iff.1 hi).1] at hj
      cases hj
      trivial
    · rw [show (Cx.mk c.ρ (c.h.set i .dead) c.w c.X).h = c.h.set i .dead from rfl, List.getElem?_set_ne (Ne.symm hji)] at hj
      by_cases hl : x.live = true
      · exact absurd (hc.inj j i x _ b hj hi hl rfl hjb hb) hji
      · cases x <;> first | exact absurd rfl hl | trivial
end
end Go.Proofs.Ytkamcoechjdgpaa
/-
  The shadow of a run: calls that make rows which may be written, and calls that take them. Nothing here speaks of the program.
-/
namespace Go.Proofs.Ytkamcoechjdgpaa
open Go.RowKit
section
variable {P : Program} {f : FuncId}
/-! ### a callee that takes one block of its caller's -/
section
variable {c : Cx} {i : Nat} {X0 : ABlk}
end
end
section
variable {P : Program} {f : FuncId} {c0 : Cx} {R : AV → List ABlk → Prop} {ops : Array Oper} {n sl : Nat} {o : Oper} {rest : List Oper} {fp : List (List Nat × List Nat)} {k : List Item} {s : AState}
end
end Go.Proofs.Ytkamcoechjdgpaa
/-
  The shadow of a run: slices that overlap, or do not; rows in a box that no one writes any more; a slice held against nil. Nothing here speaks of the program.
-/
namespace Go.Proofs.Ytkamcoechjdgpaa
open Go.RowKit
section
variable {P : Program} {T : TabT} {f : FuncId} {c0 : Cx} {R : AV → List ABlk → Prop} {k : List Item} {s : AState} {ops : Array Oper} {n : Nat} {o : Oper} {rest : List Oper}
theorem Weak.freezeC (q m i kk oo nn cap : Nat) (L : List (List AV)) (cs : List AV) (hq : s.h[q]? = some (.box cs)) (hm : cs[m]? = some (.msl i kk oo nn cap)) (hi : s.h[i]? = some (.rows kk L)) (hk : 0 < kk) (hon : oo + nn ≤ L.length) (hp : ∀ x ∈ (L.drop oo).take nn, ∀ a ∈ x, a.plain = true) :
    Weak P c0 s ⟨s.t, (s.h.set i .dead).set q (.box (cs.set m (.sl kk ((L.drop oo).take nn) .no)))⟩ := by
  refine ⟨fun ρ w vs h1 h2 h3 => ?_⟩
  have hiq : i ≠ q := fun e => by subst e; rw [hi] at hq; cases hq
  obtain ⟨b, us, e, hb, hh, hsz, hall⟩ := h1.blk q _ hq
  have hml : m < cs.length := (List.getElem?_eq_some_iff.1 hm).1
  obtain ⟨hc1, v, hv, hr⟩ := hall m _ hm
  obtain ⟨q1, q2, q3⟩ := hr.frozen h1 hi hk hon hp
  have hq' : (s.h.set i .dead)[q]? = some (.box cs) := by rw [List.getElem?_set_ne hiq]; exact hq
  obtain ⟨q4, q5⟩ := Cx.retell q1 q b _ (.box (cs.set m (.sl kk ((L.drop oo).take nn) .no))) hq' hb rfl rfl rfl rfl (fun o h => h.elim) fun hev => by
    refine ⟨b, us, e, hb, hh, by simpa using hsz, fun j a ha => ?_⟩
    rw [List.getElem?_set] at ha
    split at ha
    · rename_i hjm
      subst hjm
      cases ha
      exact ⟨rfl, v, hv, q3.mono hev⟩
    · obtain ⟨g1, u, g2, g3⟩ := hall j a ha
      exact ⟨g1, u, g2, (g3.mono q2).mono hev⟩
  exact ⟨ρ, q4, h2.trans (q2.trans q5), h3.mono (q2.trans q5)⟩
end
end Go.Proofs.Ytkamcoechjdgpaa
/-
  A callee that takes some blocks of its caller's, and gives them back changed; a method called through an interface. Nothing here speaks of the program.
-/
namespace Go.Proofs.Ytkamcoechjdgpaa
open Go.RowKit
mutual
def AV.ren (js : List Nat) : AV → AV
  | .ptr i o => .ptr (js.idxOf i) o
  | .eptr i k j o => .eptr (js.idxOf i) k j o
  | .msl i k o n cap => .msl (js.idxOf i) k o n cap
  | .sl k l _ => .sl k l .no
  | .agg cs => .agg (renL js cs)
  | .tup vs => .tup (renL js vs)
  | .psl k l => .psl k (renLL js l)
  | .rptr cs => .rptr (renL js cs)
  | .fn f a b => .fn f (renL js a) (renL js b)
  | .iface t v => .iface t (v.ren js)
  | v => v
def renL (js : List Nat) : List AV → List AV
  | [] => []
  | a :: l => a.ren js :: renL js l
def renLL (js : List Nat) : List (List AV) → List (List AV)
  | [] => []
  | a :: l => renL js a :: renLL js l
end
mutual
def AV.among (js : List Nat) : AV → Bool
  | .ptr i _ => js.contains i
  | .eptr i _ _ _ => js.contains i
  | .msl i _ _ _ _ => js.contains i
  | .msu _ _ _ => false
  | .mp _ => false
  | .agg cs => amongL js cs
  | .tup vs => amongL js vs
  | .psl _ l => amongLL js l
  | .rptr cs => amongL js cs
  | .fn _ a b => amongL js a && amongL js b
  | .iface _ v => v.among js
  | .cnd _ _ => false
  | _ => true
def amongL (js : List Nat) : List AV → Bool
  | [] => true
  | a :: l => a.among js && amongL js l
def amongLL (js : List Nat) : List (List AV) → Bool
  | [] => true
  | a :: l => amongL js a && amongLL js l
end
theorem renL_get (js : List Nat) : ∀ (l : List AV) (i : Nat), (renL js l)[i]? = (l[i]?).map (AV.ren js)
  | [], i => by simp [renL]
  | a :: l, i => by
    cases i with
    | zero => simp [renL]
    | succ i => simpa [renL] using renL_get js l i
theorem renLL_get (js : List Nat) : ∀ (l : List (List AV)) (i : Nat), (renLL js l)[i]? = (l[i]?).map (renL js)
  | [], i => by simp [renLL]
  | a :: l, i => by
    cases i with
    | zero => simp [renLL]
    | succ i => simpa [renLL] using renLL_get js l i
theorem renL_len (js : List Nat) : ∀ l : List AV, (renL js l).length = l.length
  | [] => rfl
  | a :: l => by simp [renL, renL_len js l]
theorem renLL_len (js : List Nat) : ∀ l : List (List AV), (renLL js l).length = l.length
  | [] => rfl
  | a :: l => by simp [renLL, renLL_len js l]
theorem amongL_get {js : List Nat} : ∀ {l : List AV}, amongL js l = true → ∀ (i : Nat) a, l[i]? = some a → a.among js = true
  | [], _, i, a, h => by simp at h
  | b :: l, h, i, a, ha => by
    simp only [amongL, Bool.and_eq_true] at h
    cases i with
    | zero => simp at ha; subst ha; exact h.1
    | succ i => exact amongL_get h.2 i a (by simpa using ha)
theorem amongLL_get {js : List Nat} : ∀ {l : List (List AV)}, amongLL js l = true → ∀ (i : Nat) a, l[i]? = some a → amongL js a = true
  | [], _, i, a, h => by simp at h
  | b :: l, h, i, a, ha => by
    simp only [amongLL, Bool.and_eq_true] at h
    cases i with
    | zero => simp at ha; subst ha; exact h.1
    | succ i => exact amongLL_get h.2 i a (by simpa using ha)
theorem AV.ren_cell (js : List Nat) (a : AV) : (a.ren js).cell = a.cell := by cases a <;> rfl
theorem AV.ren_plain {a : AV} (h : a.plain = true) (js : List Nat) : a.ren js = a := by
  cases a with
  | sl k l t => cases t with | no => rfl | own i => cases h
  | _ => first | rfl | cases h
theorem AV.plain_among {a : AV} (h : a.plain = true) (js : List Nat) : a.among js = true := by
  cases a with
  | sl k l t => rfl
  | _ => first | rfl | cases h
def LentB (x : ABlk) : Prop := (∃ cs, x = .box cs ∧ belL 0 cs = true) ∨ ∃ k L, x = .rows k L ∧ belLL 0 L = true
theorem LentB.cells {c : Cx} {i b : Nat} {x : ABlk} (h : LentB x) (hb : BlkOk c i x) (e : c.ρ i = some b) : ∃ vs t, c.w.heap[b]? = some (.cells vs t (0, 0)) := by
  rcases h with ⟨cs, rfl, _⟩ | ⟨k, L, rfl, _⟩
  all_goals
    obtain ⟨b', vs, t, q1, q2, _⟩ := hb
    rw [e] at q1; cases q1
    exact ⟨vs, t, q2⟩
theorem LentB.fix {x : ABlk} (h : LentB x) (o : Nat) : ¬ x.fix o := by
  rcases h with ⟨cs, rfl, _⟩ | ⟨k, L, rfl, _⟩ <;> exact fun h => h
theorem LentB.live {x : ABlk} (h : LentB x) : x.live = true := by rcases h with ⟨cs, rfl, _⟩ | ⟨k, L, rfl, _⟩ <;> rfl
theorem LentB.free {x : ABlk} (h : LentB x) : x.isfree = false := by rcases h with ⟨cs, rfl, _⟩ | ⟨k, L, rfl, _⟩ <;> rfl
theorem LentB.tok {x : ABlk} (h : LentB x) : x.istok = false := by rcases h with ⟨cs, rfl, _⟩ | ⟨k, L, rfl, _⟩ <;> rfl
theorem LentB.notok {x : ABlk} (h : LentB x) (k n : Nat) : x ≠ .tok k n := by rcases h with ⟨cs, rfl, _⟩ | ⟨k, L, rfl, _⟩ <;> simp
def Cx.lend (c : Cx) (js : List Nat) : Cx := ⟨fun q => (js[q]?).bind c.ρ, js.map fun i => (c.h[i]?).getD .dead, c.w, fun b o => b < c.w.heap.size ∧ ¬ c.im b o ∧ ∀ i ∈ js, c.ρ i ≠ some b⟩
section
variable {c : Cx} {js : List Nat}
theorem Cx.lend_get (hX : ∀ i ∈ js, ∃ x, c.h[i]? = some x ∧ LentB x) {q : Nat} {x : ABlk} (hx : (c.lend js).h[q]? = some x) : ∃ i, js[q]? = some i ∧ c.h[i]? = some x ∧ LentB x ∧ (c.lend js).ρ q = c.ρ i := by
  simp only [Cx.lend, List.getElem?_map, Option.map_eq_some_iff] at hx
  obtain ⟨i, hi, rfl⟩ := hx
  obtain ⟨y, hy, hl⟩ := hX i (List.mem_of_getElem? hi)
  rw [hy]
  exact ⟨i, hi, hy, hl, by simp [Cx.lend, hi]⟩
theorem Cx.lend_im (hX : ∀ i ∈ js, ∃ x, c.h[i]? = some x ∧ LentB x) {b o : Nat} (h : c.im b o) : (c.lend js).im b o := by
  refine ⟨h.1, fun hx => hx.2.1 h, fun q x hx hb => ?_⟩
  obtain ⟨i, _, h2, _, h4⟩ := Cx.lend_get hX hx
  exact h.2.2 i _ h2 (h4.symm.trans hb)
theorem Cx.lend_xfer (hX : ∀ i ∈ js, ∃ x, c.h[i]? = some x ∧ LentB x) {v : Value} {a : AV} (h : RV c v a) (ha : a.bel 0 = true) : RV (c.lend js) v a :=
  h.xfer (fun b o h => ⟨Cx.lend_im hX h, rfl⟩) (fun i hi => absurd hi (Nat.not_lt_zero i)) (fun i b hi => absurd hi (Nat.not_lt_zero i)) ha
theorem idx_get {i : Nat} (h : js.contains i = true) : js[js.idxOf i]? = some i ∧ i ∈ js := by
  have hm : i ∈ js := by simpa using h
  have hl : js.idxOf i < js.length := List.idxOf_lt_length_of_mem hm
  exact ⟨by rw [List.getElem?_eq_getElem hl, List.getElem_idxOf], hm⟩
theorem RV.ren (hX : ∀ i ∈ js, ∃ x, c.h[i]? = some x ∧ LentB x) {v : Value} {a : AV} (h : RV c v a) (ha : a.among js = true) : RV (c.lend js) v (a.ren js) := by
  have hkn : ∀ i, js.contains i = true → (c.lend js).known (js.idxOf i) ∧ (c.lend js).ρ (js.idxOf i) = c.ρ i ∧ ∀ x, (c.lend js).h[js.idxOf i]? = some x → x.istok = false := fun i hi => by
    obtain ⟨h1, h2⟩ := idx_get hi
    obtain ⟨x, hx, hl⟩ := hX i h2
    have h0 : (c.lend js).h[js.idxOf i]? = some x := by simp [Cx.lend, h1, hx]
    refine ⟨⟨x, h0, hl.free⟩, by simp [Cx.lend, h1], fun y hy => ?_⟩
    rw [h0] at hy; cases hy; exact hl.tok
  induction h with
  | int k n => exact .int k n
  | bool b => exact .bool b
  | str s l h => exact .str s l h
  | nilp => exact .nilp
  | ptr i o b hk hb ht =>
    obtain ⟨g1, g2, g3⟩ := hkn i ha
    exact .ptr _ o b g1 (g2.trans hb) g3
  | rptr cs b o vs hc _ ih =>
    simp only [AV.among] at ha
    refine .rptr _ b o vs (fun i a hi => ?_) (fun i a hi => ?_)
    · rw [renL_get, Option.map_eq_some_iff] at hi
      obtain ⟨a0, ha0, rfl⟩ := hi
      obtain ⟨h1, h2, h3⟩ := hc i a0 ha0
      exact ⟨by rw [AV.ren_cell]; exact h1, Cx.lend_im hX h2, h3⟩
    · rw [renL_get, Option.map_eq_some_iff] at hi
      obtain ⟨a0, ha0, rfl⟩ := hi
      exact ih i a0 ha0 (amongL_get ha i a0 ha0)
  | sl k l t A m cap b o vs hn hcap hm hA hk hc _ ht ih =>
    refine .sl k l .no A m cap b o vs hn hcap hm hA hk (fun j e i a he hi => ?_) (fun j e i a he hi => ?_) trivial
    · obtain ⟨h1, h2, h3⟩ := hc j e i a he hi
      exact ⟨h1, Cx.lend_im hX h2, h3⟩
    · have hp := (hc j e i a he hi).1
      have := ih j e i a he hi (AV.plain_among hp js)
      rwa [AV.ren_plain hp] at this
  | psl k l A m cap b o vs hn hcap hm hA hk hc _ ih =>
    simp only [AV.among] at ha
    refine .psl k _ A m cap b o vs (by rw [renLL_len]; exact hn) hcap hm (fun h => hA (by rintro rfl; exact h rfl)) (fun j e he => ?_) (fun j e i a he hi => ?_) (fun j e i a he hi => ?_)
    · rw [renLL_get, Option.map_eq_some_iff] at he
      obtain ⟨e0, he0, rfl⟩ := he
      rw [renL_len]; exact hk j e0 he0
    · rw [renLL_get, Option.map_eq_some_iff] at he
      obtain ⟨e0, he0, rfl⟩ := he
      rw [renL_get, Option.map_eq_some_iff] at hi
      obtain ⟨a0, ha0, rfl⟩ := hi
      obtain ⟨h1, h2, h3⟩ := hc j e0 i a0 he0 ha0
      exact ⟨by rw [AV.ren_cell]; exact h1, Cx.lend_im hX h2, h3⟩
    · rw [renLL_get, Option.map_eq_some_iff] at he
      obtain ⟨e0, he0, rfl⟩ := he
      rw [renL_get, Option.map_eq_some_iff] at hi
      obtain ⟨a0, ha0, rfl⟩ := hi
      exact ih j e0 i a0 he0 ha0 (amongL_get (amongLL_get ha j e0 he0) i a0 ha0)
  | nils => exact .nils
  | agg vs cs hs hc _ ih =>
    simp only [AV.among] at ha
    refine .agg vs _ (by rw [renL_len]; exact hs) (fun i a hi => ?_) fun i v a hv hi => ?_
    · rw [renL_get, Option.map_eq_some_iff] at hi
      obtain ⟨a0, ha0, rfl⟩ := hi
      rw [AV.ren_cell]; exact hc i a0 ha0
    · rw [renL_get, Option.map_eq_some_iff] at hi
      obtain ⟨a0, ha0, rfl⟩ := hi
      exact ih i v a0 hv ha0 (amongL_get ha i a0 ha0)
  | tup vs cs hs _ ih =>
    simp only [AV.among] at ha
    refine .tup vs _ (by rw [renL_len]; exact hs) fun i v a hv hi => ?_
    rw [renL_get, Option.map_eq_some_iff] at hi
    obtain ⟨a0, ha0, rfl⟩ := hi
    exact ih i v a0 hv ha0 (amongL_get ha i a0 ha0)
  | fn f v1 v2 a1 a2 h1 h2 _ _ r1 r2 =>
    simp only [AV.among, Bool.and_eq_true] at ha
    refine .fn f v1 v2 _ _ (by rw [renL_len]; exact h1) (by rw [renL_len]; exact h2) (fun i v a hv hi => ?_) (fun i v a hv hi => ?_)
    · rw [renL_get, Option.map_eq_some_iff] at hi
      obtain ⟨a0, ha0, rfl⟩ := hi
      exact r1 i v a0 hv ha0 (amongL_get ha.1 i a0 ha0)
    · rw [renL_get, Option.map_eq_some_iff] at hi
      obtain ⟨a0, ha0, rfl⟩ := hi
      exact r2 i v a0 hv ha0 (amongL_get ha.2 i a0 ha0)
  | nilf => exact .nilf
  | iface t v a _ ih => simp only [AV.among] at ha; exact .iface t v _ (ih ha)
  | nilI => exact .nilI
  | mp i b hk hb ht => cases ha
  | nilm => exact .nilm
  | msl i k o m cap b o' hk hb ht h1 h2 h3 =>
    obtain ⟨g1, g2, g3⟩ := hkn i ha
    exact .msl _ k o m cap b o' g1 (g2.trans hb) g3 h1 h2 h3
  | msu i k m cap b hk hb ht h1 h2 h3 => cases ha
  | eptr i k j o b hk hb ht =>
    obtain ⟨g1, g2, g3⟩ := hkn i ha
    exact .eptr _ k j o b g1 (g2.trans hb) g3
  | cnd g v a _ ih => cases ha
  | junk v => exact .junk v
theorem renL_rel (hX : ∀ i ∈ js, ∃ x, c.h[i]? = some x ∧ LentB x) {vs : Array Value} {as : List AV} (h : TRel c vs as) (ha : amongL js as = true) : TRel (c.lend js) vs (renL js as) := by
  refine ⟨by rw [renL_len]; exact h.1, fun i v x hv hx => ?_⟩
  rw [renL_get, Option.map_eq_some_iff] at hx
  obtain ⟨a0, ha0, rfl⟩ := hx
  exact (h.2 i v a0 hv ha0).ren hX (amongL_get ha i a0 ha0)
theorem Cx.lend_rel (hc : RelH c) (hj : js.Nodup) (hX : ∀ i ∈ js, ∃ x, c.h[i]? = some x ∧ LentB x) : RelH (c.lend js) := by
  refine ⟨fun q r x y b hx hy _ _ hb hb' => ?_, fun q x b hx hb => ?_, fun q x hx => ?_, fun b o h => ⟨h.1, fun q x hx _ hb => ?_⟩, hc.uw.sub fun b o hx hb => ⟨hb, fun hm => hm.2.1 hx, fun i hi e => by obtain ⟨y, hy, hyl⟩ := hX i hi; exact (hc.xs b o hx).2 i _ hy hyl.live e⟩⟩
  · obtain ⟨i, h1, h2, h3, h4⟩ := Cx.lend_get hX hx
    obtain ⟨i', g1, g2, g3, g4⟩ := Cx.lend_get hX hy
    have e := hc.inj i i' _ _ b h2 g2 h3.live g3.live (h4.symm.trans hb) (g4.symm.trans hb')
    subst e
    obtain ⟨z1, z2⟩ := List.getElem?_eq_some_iff.1 h1
    obtain ⟨w1, w2⟩ := List.getElem?_eq_some_iff.1 g1
    exact (List.getElem_inj hj).1 (z2.trans w2.symm)
  · obtain ⟨i, h1, h2, h3, h4⟩ := Cx.lend_get hX hx
    exact hc.here i _ b h2 (h4.symm.trans hb)
  · obtain ⟨i, h1, h2, h3, h4⟩ := Cx.lend_get hX hx
    have hb := hc.blk i _ h2
    rcases h3 with ⟨cs, rfl, hcs⟩ | ⟨k, L, rfl, hL⟩
    · obtain ⟨b, vs, e, q1, q2, q3, q4⟩ := hb
      exact ⟨b, vs, e, h4.trans q1, q2, q3, fun m a ha => by
        obtain ⟨z1, v, z2, z3⟩ := q4 m a ha
        exact ⟨z1, v, z2, Cx.lend_xfer hX z3 (belL_get hcs m a ha)⟩⟩
    · obtain ⟨b, vs, e, q1, q2, q3, q4⟩ := hb
      exact ⟨b, vs, e, h4.trans q1, q2, q3, fun q x m a hx ha => by
        obtain ⟨v, g1, g2⟩ := q4 q x m a hx ha
        exact ⟨v, g1, Cx.lend_xfer hX g2 (belL_get (belLL_get hL q x hx) m a ha)⟩⟩
  · obtain ⟨i, h1, h2, h3, h4⟩ := Cx.lend_get hX hx
    exact h.2.2 i (List.mem_of_getElem? h1) (h4.symm.trans hb)
end
def putBack (h : List ABlk) : List Nat → List ABlk → List ABlk
  | i :: js, y :: ys => putBack (h.set i y) js ys
  | _, _ => h
theorem putBack_len : ∀ (js : List Nat) (YS : List ABlk) (h : List ABlk), (putBack h js YS).length = h.length
  | [], _, h => by simp [putBack]
  | i :: js, [], h => by simp [putBack]
  | i :: js, y :: ys, h => by rw [putBack, putBack_len js ys]; simp
theorem putBack_out : ∀ (js : List Nat) (YS : List ABlk) (h : List ABlk) {q : Nat}, q ∉ js → (putBack h js YS)[q]? = h[q]?
  | [], _, h, q, _ => by simp [putBack]
  | i :: js, [], h, q, _ => by simp [putBack]
  | i :: js, y :: ys, h, q, hq => by
    rw [putBack, putBack_out js ys _ (fun e => hq (List.mem_cons_of_mem _ e)), List.getElem?_set_ne (fun e => hq (by rw [e]; exact List.mem_cons_self))]
theorem putBack_in : ∀ (js : List Nat) (YS : List ABlk) (h : List ABlk) {p q : Nat} {y : ABlk}, js.Nodup → js[p]? = some q → YS[p]? = some y → q < h.length → (putBack h js YS)[q]? = some y
  | [], _, h, p, q, y, _, h1, _, _ => by simp at h1
  | i :: js, [], h, p, q, y, _, _, h2, _ => by simp at h2
  | i :: js, z :: ys, h, p, q, y, hj, h1, h2, h3 => by
    obtain ⟨hn, hj⟩ := List.nodup_cons.1 hj
    rw [putBack]
    cases p with
    | zero =>
      simp at h1 h2
      subst h1 h2
      rw [putBack_out js ys _ hn, List.getElem?_set_self h3]
    | succ p => exact putBack_in js ys _ hj (by simpa using h1) (by simpa using h2) (by simpa using h3)
structure BSpec (P : Program) (f : FuncId) (args : List AV) (XS YS : List ABlk) (res : AV) : Prop where
  fn : Callable P f
  run : ACall P f args XS fun r h' => LeR r res ∧ WkH 0 h' YS
theorem LeB.blk {c : Cx} {i : Nat} {x y : ABlk} (h : LeB 0 x y) (hb : BlkOk c i x) : BlkOk c i y := by
  cases h with
  | same _ _ => exact hb
  | box h _ =>
    obtain ⟨b, vs, e, q1, q2, q3, q4⟩ := hb
    refine ⟨b, vs, e, q1, q2, q3.trans h.len, fun j a ha => ?_⟩
    obtain ⟨a0, h0, hl⟩ := h.get j a ha
    obtain ⟨z1, v, z2, z3⟩ := q4 j a0 h0
    exact ⟨hl.cell z1, v, z2, hl.rv z3⟩
theorem ACall.lend {P : Program} {f : FuncId} {args args' : List AV} {h : List ABlk} {R : AV → List ABlk → Prop} {js : List Nat} {XS YS : List ABlk} {res : AV} (hj : js.Nodup) (hXS : js.map (fun i => (h[i]?).getD .dead) = XS) (hX : ∀ i ∈ js, ∃ x, h[i]? = some x ∧ LentB x) (hY : ∀ y ∈ YS, LentB y) (hlen : YS.length = js.length)
    (hin : amongL js args' = true) (hle : LeL (renL js args') args) (H : BSpec P f args XS YS res) (hres : res.bel 0 = true) (hR : R res (putBack h js YS)) : ACall P f args' h R := by
  intro c vs hch hc ht
  subst hch
  have hrel := Cx.lend_rel hc hj hX
  refine (H.run (c.lend js) vs hXS hrel (hle.rel (renL_rel hX ht hin))).mono ?_
  rintro e w' ⟨v, ρ', r, h', rfl, g1, g2, g3, hle, hwk⟩
  have hil : ∀ i ∈ js, i < c.h.length := fun i hi => by obtain ⟨x, hx, _⟩ := hX i hi; exact (List.getElem?_eq_some_iff.1 hx).1
  have hmut : ∀ b, (c.lend js).mutb b → ∃ i ∈ js, c.ρ i = some b := by
    rintro b ⟨q, x, hx, _, hb⟩
    obtain ⟨i, h1, h2, h3, h4⟩ := Cx.lend_get hX hx
    exact ⟨i, List.mem_of_getElem? h1, h4.symm.trans hb⟩
  have hsz : c.w.heap.size ≤ w'.heap.size := g2.size
  have hold : ∀ b, b < c.w.heap.size → (∀ i ∈ js, c.ρ i ≠ some b) → w'.heap[b]? = c.w.heap[b]? := fun b hb h1 => (g2.fr b hb fun hm => by obtain ⟨i, hi, e⟩ := hmut b hm; exact h1 i hi e).1
  have hget : ∀ (q : Nat) x, (putBack c.h js YS)[q]? = some x → (∃ p, js[p]? = some q ∧ YS[p]? = some x) ∨ (q ∉ js ∧ c.h[q]? = some x) := fun q x hx => by
    by_cases hq : q ∈ js
    · obtain ⟨p, hp⟩ := List.getElem?_of_mem hq
      have hpl : p < YS.length := by rw [hlen]; exact (List.getElem?_eq_some_iff.1 hp).1
      have e := putBack_in js YS c.h hj hp (List.getElem?_eq_getElem hpl) (hil q hq)
      rw [hx] at e
      exact .inl ⟨p, hp, by rw [List.getElem?_eq_getElem hpl]; exact e.symm⟩
    · rw [putBack_out js YS c.h hq] at hx
      exact .inr ⟨hq, hx⟩
  have hoth : ∀ (q : Nat) x b, q ∉ js → c.h[q]? = some x → x.live = true → c.ρ q = some b → ∀ i ∈ js, c.ρ i ≠ some b := fun q x b h1 hx hl hb i hi e => by
    obtain ⟨y, hy, hyl⟩ := hX i hi
    have := hc.inj q i x y b hx hy hl hyl.live hb e
    subst this
    exact h1 hi
  have hnx : ∀ b o, c.X b o → ∀ i ∈ js, c.ρ i ≠ some b := fun b o hX' i hi e => by
    obtain ⟨y, hy, hyl⟩ := hX i hi
    exact (hc.xs b o hX').2 i _ hy hyl.live e
  have him0 : ∀ b o, c.im b o → ∀ i ∈ js, c.ρ i ≠ some b := fun b o h i hi e => by
    obtain ⟨y, hy, hyl⟩ := hX i hi
    exact hyl.fix o (h.2.2 i _ hy e)
  -- the callee's blocks lie where the caller's lie
  have hsame : ∀ (p q : Nat) y, js[p]? = some q → YS[p]? = some y → ρ' p = c.ρ q ∧ ∃ z, h'[p]? = some z ∧ LeB 0 z y := fun p q y hp hy => by
    obtain ⟨x, hx, hxl⟩ := hX q (List.mem_of_getElem? hp)
    have h0 : (c.lend js).h[p]? = some x := by simp [Cx.lend, hp, hx]
    obtain ⟨z, hz, hzl⟩ := hwk.get p y hy
    obtain ⟨y', k1, k2, k3, k4⟩ := g2.id p x h0 hxl.free
    exact ⟨(k3 hxl.tok).2.trans (by simp [Cx.lend, hp]), z, hz, hzl⟩
  have hdead : ∀ (q : Nat) x b o, (putBack c.h js YS)[q]? = some x → c.ρ q = some b → ((∃ i ∈ js, c.ρ i = some b) ∨ c.im b o) → q ∉ js → x.fix o := fun q x b o hx hb hcase hq => by
    rcases hget q x hx with ⟨p, hp, _⟩ | ⟨h1, hx'⟩
    · exact absurd (List.mem_of_getElem? hp) hq
    · by_cases hl : x.live = true
      · rcases hcase with ⟨i, hi, h⟩ | h
        · exact absurd h (hoth q x b h1 hx' hl hb i hi)
        · exact h.2.2 q x hx' hb
      · cases x <;> first | exact absurd rfl hl | trivial
  have hev : Ev c ⟨c.ρ, putBack c.h js YS, w', c.X⟩ := by
    refine ⟨g2.os, g2.tape, g2.output, hsz, rfl, fun b o h => ⟨⟨Nat.lt_of_lt_of_le h.1 hsz, h.2.1, fun q x hx hb => ?_⟩, cell_of_block (hold b h.1 (him0 b o h))⟩, fun b hb hm => ⟨hold b hb (fun i hi e => ?_), ?_⟩, by rw [putBack_len]; exact Nat.le_refl _, fun q x hx hf => ?_, g2.keep, Uw.back (fun _ _ h => h.1) (fun b o hx hb => ⟨hb, fun hm => hm.2.1 hx, hnx b o hx⟩) (fun b hb x hx => by
      by_cases e : ∃ i ∈ js, c.ρ i = some b
      · obtain ⟨i, hi, e⟩ := e
        obtain ⟨y, hy, hyl⟩ := hX i hi
        obtain ⟨vs, t, hh⟩ := hyl.cells (hc.blk i _ hy) e
        obtain ⟨vs', q1, _⟩ := g2.keep b vs t (0, 0) hh
        rw [q1] at hx; cases hx; exact .inr (OkObj.cells _ _)
      · exact .inl (by rw [← hold b hb fun i hi h => e ⟨i, hi, h⟩]; exact hx)) g2.uw⟩
    · by_cases hq : q ∈ js
      · exact absurd hb (him0 b o h q hq)
      · exact hdead q x b o hx hb (.inr h) hq
    · obtain ⟨y, hy, hyl⟩ := hX i hi
      exact hm ⟨i, _, hy, hyl.live, e⟩
    · rintro ⟨q, x, hx, hl, hb⟩
      rcases hget q x hx with ⟨p, hp, _⟩ | ⟨_, hx'⟩
      · obtain ⟨y, hy, hyl⟩ := hX q (List.mem_of_getElem? hp)
        exact hm ⟨q, y, hy, hyl.live, hb⟩
      · exact hm ⟨q, x, hx', hl, hb⟩
    · by_cases hq : q ∈ js
      · obtain ⟨p, hp⟩ := List.getElem?_of_mem hq
        have hpl : p < YS.length := by rw [hlen]; exact (List.getElem?_eq_some_iff.1 hp).1
        have hyb := hY _ (List.getElem_mem hpl)
        exact ⟨YS[p], putBack_in js YS c.h hj hp (List.getElem?_eq_getElem hpl) (hil q hq), hyb.free, fun _ => ⟨hyb.tok, rfl⟩, fun k n' e => absurd e (hyb.notok k n')⟩
      · refine ⟨x, by show (putBack c.h js YS)[q]? = _; rw [putBack_out js YS c.h hq]; exact hx, hf, fun ht => ⟨ht, rfl⟩, fun k n e => ⟨n, e, .inr ⟨rfl, rfl, fun b hb => ?_⟩⟩⟩
        exact hold b (hc.here q x b hx hb) (hoth q x b hq hx (by rw [e]; rfl) hb)
  have him' : ∀ b o, (Cx.mk ρ' h' w' (c.lend js).X).im b o → (Cx.mk c.ρ (putBack c.h js YS) w' c.X).im b o := fun b o h => by
    have hx2 : ¬ (b < c.w.heap.size ∧ ¬ c.im b o ∧ ∀ i ∈ js, c.ρ i ≠ some b) := h.2.1
    refine ⟨h.1, fun hX' => hx2 ⟨(hc.xs b o hX').1, fun hm => hm.2.1 hX', hnx b o hX'⟩, fun q x hx hb => ?_⟩
    rcases hget q x hx with ⟨p, hp, hy⟩ | ⟨hq, hx'⟩
    · obtain ⟨k1, z, k2, k3⟩ := hsame p q x hp hy
      have := h.2.2 p z k2 (k1.trans hb)
      exact (k3.same_kind.2.2.2.1 o).2 this
    · refine hdead q x b o hx hb ?_ hq
      have hql : q < c.h.length := (List.getElem?_eq_some_iff.1 hx').1
      have hlt := hc.here q _ b hx' hb
      by_cases e1 : ∃ i ∈ js, c.ρ i = some b
      · exact .inl e1
      · exact .inr (Classical.byContradiction fun hn => hx2 ⟨hlt, hn, fun i hi e => e1 ⟨i, hi, e⟩⟩)
  have hxf : ∀ {v : Value} {a : AV}, RV ⟨ρ', h', w', (c.lend js).X⟩ v a → a.bel 0 = true → RV ⟨c.ρ, putBack c.h js YS, w', c.X⟩ v a := fun h ha =>
    h.xfer (n := 0) (fun b o h => ⟨him' b o h, rfl⟩) (fun i hi => absurd hi (Nat.not_lt_zero i)) (fun i b hi => absurd hi (Nat.not_lt_zero i)) ha
  refine ⟨v, c.ρ, res, putBack c.h js YS, rfl, ?_, hev, hxf (hle.rv g3) hres, hR⟩
  refine ⟨fun q r x y b hx hy lx ly hb hb' => ?_, fun q x b hx hb => ?_, fun q x hx => ?_, fun b o hX' => ⟨Nat.lt_of_lt_of_le (hc.xs b o hX').1 hsz, fun q x hx hl hb => ?_⟩, hev.uw hc.uw⟩
  · have key : ∀ (q : Nat) x, (putBack c.h js YS)[q]? = some x → x.live = true → ∃ y, c.h[q]? = some y ∧ y.live = true := fun q x hx hl => by
      rcases hget q x hx with ⟨p, hp, _⟩ | ⟨_, hx'⟩
      · obtain ⟨y, hy, hyl⟩ := hX q (List.mem_of_getElem? hp)
        exact ⟨y, hy, hyl.live⟩
      · exact ⟨x, hx', hl⟩
    obtain ⟨x', hx', lx'⟩ := key q x hx lx
    obtain ⟨y', hy', ly'⟩ := key r y hy ly
    exact hc.inj q r x' y' b hx' hy' lx' ly' hb hb'
  · have hql : q < c.h.length := by have := (List.getElem?_eq_some_iff.1 hx).1; simpa [putBack_len] using this
    exact Nat.lt_of_lt_of_le (hc.here q _ b (List.getElem?_eq_getElem hql) hb) hsz
  · rcases hget q x hx with ⟨p, hp, hy⟩ | ⟨h1, hx'⟩
    · obtain ⟨k1, z, k2, k3⟩ := hsame p q x hp hy
      have hb := k3.blk (g1.blk p z k2)
      rcases hY x (List.mem_of_getElem? hy) with ⟨cs, rfl, hcs⟩ | ⟨k, L, rfl, hL⟩
      · obtain ⟨b, us, e, q1, q2, q3, q4⟩ := hb
        exact ⟨b, us, e, k1.symm.trans q1, q2, q3, fun m a ha => by
          obtain ⟨z1, u, z2, z3⟩ := q4 m a ha
          exact ⟨z1, u, z2, hxf z3 (belL_get hcs m a ha)⟩⟩
      · obtain ⟨b, us, e, q1, q2, q3, q4⟩ := hb
        exact ⟨b, us, e, k1.symm.trans q1, q2, q3, fun j x m a hx ha => by
          obtain ⟨u, z2, z3⟩ := q4 j x m a hx ha
          exact ⟨u, z2, hxf z3 (belL_get (belLL_get hL j x hx) m a ha)⟩⟩
    · exact (hc.blk q x hx').mono hev rfl fun b hl hb => hold b (hc.here q x b hx' hb) (hoth q x b h1 hx' hl hb)
  · rcases hget q x hx with ⟨p, hp, _⟩ | ⟨_, hx'⟩
    · obtain ⟨y, hy, hyl⟩ := hX q (List.mem_of_getElem? hp)
      exact (hc.xs b o hX').2 q y hy hyl.live hb
    · exact (hc.xs b o hX').2 q x hx' hl hb
end Go.Proofs.Ytkamcoechjdgpaa
/-
  Calls with blocks lent; methods called through an interface. Nothing here speaks of the program.
-/
namespace Go.Proofs.Ytkamcoechjdgpaa
open Go.RowKit
theorem putBack_eq : ∀ (js : List Nat) (YS : List ABlk) (h : List ABlk), aupds h (js.zip YS) = putBack h js YS
  | [], _, h => by simp [putBack, aupds]
  | i :: js, [], h => by simp [putBack, aupds]
  | i :: js, y :: ys, h => by rw [List.zip_cons_cons, aupds, putBack, putBack_eq js ys]
structure MethodAt (P : Program) (t : TypeId) (name : String) (g : FuncId) : Prop where
  fn : Callable P g
  finds : ∀ u w, (method (P.types.size + Made.depth) t u name).run P w = .ok (g, u) w
theorem MethodAt.of {P : Program} {t : TypeId} {name : String} {g : FuncId} (hfn : Callable P g) {ti : TypeInfo} {m : Method} {d : TypeDesc} (hi : P.info? t = some ti) (hm : ti.methods.find? (fun m => m.name == name) = some m) (hp : m.path = #[]) (hf : m.func = some (g, false))
    (hu : P.underlying t = some d) (hd : ∀ e, d ≠ .pointer e) : MethodAt P t name g := by
  refine ⟨hfn, fun u w => ?_⟩
  have e1 : P.types.size + Made.depth = (P.types.size + 99) + 1 := rfl
  have h1 : ∀ w, (typeInfo t).run P w = .ok ti w := fun w => by simp [typeInfo, hi]
  have h2 := run_underlying (P := P) hu
  rw [e1, method]
  simp only [Sem.run_bind, h1, Result.andThen_ok, hm, hp]
  simp only [follow, hf, Sem.run_bind, Sem.run_pure, Result.andThen_ok, receiverAt, h2]
  cases d with
  | pointer e => exact absurd rfl (hd e)
  | _ => simp [Place.get, Sem.run_bind, Sem.run_pure, hf]
section
variable {P : Program} {f : FuncId} {c0 : Cx} {R : AV → List ABlk → Prop} {ops : Array Oper} {n sl : Nat} {o : Oper} {rest : List Oper} {fp : List (List Nat × List Nat)} {k : List Item} {s : AState}
theorem cons_rel {c : Cx} {u : Value} {v : AV} {a : Act} {t : List AV} (hu : RV c u v) (as : Array Operand) (h : TRel c a.tmps t) : TRel c (#[u] ++ as.map a.eval) (v :: as.toList.map (aev t)) := by
  refine ⟨by simp [Nat.add_comm], fun i x y hx hy => ?_⟩
  cases i with
  | zero =>
    rw [Array.getElem?_append, if_pos (by simp)] at hx
    simp at hx hy
    subst hx hy; exact hu
  | succ i =>
    rw [Array.getElem?_append] at hx
    simp only [Y2, List.getElem?_map, Option.map_eq_some_iff] at hy
    rw [if_neg (by simp)] at hx
    simp only [Array.getElem?_map, Option.map_eq_some_iff] at hx
    obtain ⟨z, hz, rfl⟩ := hx
    obtain ⟨z', hz', rfl⟩ := hy
    have e : (#[u] : Array Value).size = 1 := rfl
    rw [e, Nat.add_sub_cancel] at hz
    rw [Array.getElem?_toList, hz] at hz'
    cases hz'
    exact h.ev z
theorem run_invoke {o : Oper} {r : Operand} {as : Array Operand} {ts : Array TypeId} {name : String} (hop : o.op = .call { callee := .invoke r name, args := as, argTypes := ts }) {t : TypeId} {g : FuncId} (hm : MethodAt P t name g) {a : Act} {u : Value} (hev : a.eval r = .iface t u) (w : World) :
    (execOp a.eval o).run P w = .ok (.enter g (#[u] ++ as.map a.eval)) w := by
  obtain ⟨dst, op, ty, pos, after, guard⟩ := o
  simp only at hop
  subst hop
  have h1 := hm.finds u w
  have h2 := fun vs => run_callFunc hm.fn vs w
  simp only [execOp, resolve, invoke, Sem.run_bind, Sem.run_pure, Result.andThen_ok, hev]
  have e : (#[Value.iface t u] ++ as.map a.eval)[0]? = some (.iface t u) := by
    rw [Array.getElem?_append, if_pos (by simp)]; rfl
  have e2 : (#[Value.iface t u] ++ as.map a.eval).extract 1 (#[Value.iface t u] ++ as.map a.eval).size = as.map a.eval := by
    apply Array.toList_inj.1
    simp
    exact List.take_of_length_le (by simp)
  rw [e]
  simp only [callMethod, e2, Sem.run_bind, run_program, Result.andThen_ok, h1, h2]
theorem AOps.invoke (hw : Wanted ops s.t o.guard true) {r : Operand} {as : Array Operand} {ts : Array TypeId} {name : String} (hop : o.op = .call { callee := .invoke r name, args := as, argTypes := ts }) {t : TypeId} {v : AV} (hx : aev s.t r = .iface t v) {g : FuncId} (hm : MethodAt P t name g)
    (h : ACall P g (v :: as.toList.map (aev s.t)) s.h fun r h' => AOps P f c0 R ops (n + 1) rest k ⟨aput s.t o.dst r, h'⟩) : AOps P f c0 R ops n (o :: rest) k s := fun hd ρ w a h1 h2 h3 h4 => by
  obtain ⟨hon, hd'⟩ := range'_cons hd
  rw [List.length_cons, List.range'_succ]
  have hv := h3.ev r
  rw [hx] at hv
  generalize hev : a.eval r = z at hv
  cases hv with
  | iface _ u _ hu =>
    have hargs := cons_rel hu as h3
    have hex := run_invoke hop hm hev w
    generalize #[u] ++ as.map a.eval = us at hargs hex
    intro b cs hb hk
    obtain ⟨e, w', fr, ⟨v, ρ', r, h', rfl, g1, g2, g3, g4⟩, hs, hfn, hl⟩ := h ⟨ρ, s.h, w, c0.X⟩ _ rfl h1 hargs (b.at a (.inRegion ops (n :: List.range' (n + 1) rest.length) :: k) :: cs)
    have hgo := stepG_op (P := P) (b := b) (k := k) (cs := cs) (w := w) (rest := List.range' (n + 1) rest.length) hon (hw.ok h3)
    have henter : step P (lone (b.at a (.inRegion ops (n :: List.range' (n + 1) rest.length) :: k)) cs w) =
        .next (lone (Frame.enter P g us .normal) (b.at a (.inRegion ops (n :: List.range' (n + 1) rest.length) :: k) :: cs) w) :=
      step_lone_go (by rw [hgo]; simp [stepG.apply, hex, Frame.at])
    have hfin : (b.at a (.inRegion ops (n :: List.range' (n + 1) rest.length) :: k)).finish v = b.at (a.put o.dst v) (.inRegion ops (List.range' (n + 1) rest.length) :: k) := by
      rw [Frame.finish_at, hon]; rfl
    obtain ⟨v', w'', fr', q1, q2, q3⟩ := g4 hd' ρ' w' (a.put o.dst v) g1 (h2.trans g2) ((h3.mono g2).put o.dst g3) (by cases o.dst <;> exact h4) b cs hb hk
    refine ⟨v', w'', fr', q1, Steps.head henter (Steps.trans hs (Steps.head ?_ q2)), q3⟩
    rw [← hfin]; exact step_leave_returned hl
theorem Ops.invoke (hw : Wanted ops s.t o.guard true) {r : Operand} {as : Array Operand} {ts : Array TypeId} {name : String} (hop : o.op = .call { callee := .invoke r name, args := as, argTypes := ts }) {t : TypeId} {v : AV} (hx : aev s.t r = .iface t v) {g : FuncId} (hm : MethodAt P t name g)
    (h : ACall P g (v :: as.toList.map (aev s.t)) s.h fun r h' => Ops P f c0 R ops (n + 1) rest k ⟨aput s.t o.dst r, h'⟩) : Ops P f c0 R ops n (o :: rest) k s :=
  ⟨AOps.invoke hw hop hx hm (h.mono fun _ _ h => h.h)⟩
theorem StepOk.invoke {i : Nat} (ho : ops[i]? = some o) (hw : Wanted ops s.t o.guard true) {r : Operand} {as : Array Operand} {ts : Array TypeId} {name : String} (hop : o.op = .call { callee := .invoke r name, args := as, argTypes := ts }) {t : TypeId} {v : AV} (hx : aev s.t r = .iface t v) {g : FuncId} (hm : MethodAt P t name g) (e : Ent)
    (h : ∀ h' : List ABlk, (∀ y ∈ e.rd, h'[y]? = s.h[y]?) → ACall P g (v :: as.toList.map (aev s.t)) h' fun r h'' => r = e.v ∧ h'' = aupds h' e.d) : StepOk P c0 ops i o s e := by
  intro s' hl ht hh a w K Q ⟨ρ, h1, h2, h3, h4⟩ hK
  have hxo := looks_op ht
  rw [hop] at hxo
  have hx' : aev s'.t r = .iface t v := (hxo r (by simp [Op.operands, Call.operands])).trans hx
  have has : as.toList.map (aev s'.t) = as.toList.map (aev s.t) := List.map_congr_left fun z hz => hxo z (by simp at hz; simp [Op.operands, Call.operands, hz])
  have hv := h3.ev r
  rw [hx'] at hv
  generalize hev : a.eval r = z at hv
  cases hv with
  | iface _ u _ hu =>
    have hargs := cons_rel hu as h3
    rw [has] at hargs
    have hex := run_invoke hop hm hev w
    unfold wpOp
    simp only [ho]
    rw [(looks_guard ht hw).ok h3, if_pos rfl]
    refine .inl ?_
    unfold Oper.wp
    rw [hex, Oper.upon_enter]
    refine (h s'.h hh ⟨ρ, s'.h, w, c0.X⟩ _ rfl h1 hargs).mono ?_
    rintro e' w' ⟨v, ρ', r, h', rfl, g1, g2, g3, rfl, rfl⟩
    exact hK _ _ ⟨ρ', g1, h2.trans g2, (h3.mono g2).put o.dst g3, by cases o.dst <;> exact h4⟩
def LentAll (h : List ABlk) (js : List Nat) (XS : List ABlk) : Prop := js.map (fun i => (h[i]?).getD .dead) = XS ∧ ∀ i ∈ js, ∃ x, h[i]? = some x ∧ LentB x
theorem LentAll.nil {h : List ABlk} : LentAll h [] [] := ⟨rfl, fun i hi => by simp at hi⟩
theorem LentAll.cons {h : List ABlk} {i : Nat} {x : ABlk} {js : List Nat} {XS : List ABlk} (hi : h[i]? = some x) (hx : LentB x) (hs : LentAll h js XS) : LentAll h (i :: js) (x :: XS) :=
  ⟨by rw [List.map_cons, hi, hs.1]; rfl, fun j hj => by
    rcases List.mem_cons.1 hj with rfl | hj
    · exact ⟨x, hi, hx⟩
    · exact hs.2 j hj⟩
theorem LentAll.congr {h h' : List ABlk} {js : List Nat} {XS : List ABlk} (hs : LentAll h js XS) (e : ∀ y ∈ js, h'[y]? = h[y]?) : LentAll h' js XS :=
  ⟨by rw [← hs.1]; exact List.map_congr_left fun i hi => by rw [e i hi], fun i hi => by rw [e i hi]; exact hs.2 i hi⟩
theorem Ops.callB (hw : Wanted ops s.t o.guard true) {x : Operand} {as : Array Operand} {ts : Array TypeId} (hop : o.op = .call { callee := .value x, args := as, argTypes := ts }) {g : FuncId} {fi ca : List AV} (hx : aev s.t x = .fn (.func g) fi ca)
    {js : List Nat} {args : List AV} {XS YS : List ABlk} {res : AV} (hj : js.Nodup) (hX : LentAll s.h js XS) (hY : ∀ y ∈ YS, LentB y) (hlen : YS.length = js.length) (hin : amongL js (fi ++ as.toList.map (aev s.t) ++ ca) = true) (hle : LeL (renL js (fi ++ as.toList.map (aev s.t) ++ ca)) args) (H : BSpec P g args XS YS res) (hres : res.bel 0 = true)
    (h : Ops P f c0 R ops (n + 1) rest k ⟨aput s.t o.dst res, putBack s.h js YS⟩) : Ops P f c0 R ops n (o :: rest) k s :=
  Ops.call hw hop hx H.fn (ACall.lend hj hX.1 hX.2 hY hlen hin hle H hres h)
theorem Ops.invokeB (hw : Wanted ops s.t o.guard true) {r : Operand} {as : Array Operand} {ts : Array TypeId} {name : String} (hop : o.op = .call { callee := .invoke r name, args := as, argTypes := ts }) {t : TypeId} {v : AV} (hx : aev s.t r = .iface t v) {g : FuncId} (hm : MethodAt P t name g)
    {js : List Nat} {args : List AV} {XS YS : List ABlk} {res : AV} (hj : js.Nodup) (hX : LentAll s.h js XS) (hY : ∀ y ∈ YS, LentB y) (hlen : YS.length = js.length) (hin : amongL js (v :: as.toList.map (aev s.t)) = true) (hle : LeL (renL js (v :: as.toList.map (aev s.t))) args) (H : BSpec P g args XS YS res) (hres : res.bel 0 = true)
    (h : Ops P f c0 R ops (n + 1) rest k ⟨aput s.t o.dst res, putBack s.h js YS⟩) : Ops P f c0 R ops n (o :: rest) k s :=
  Ops.invoke hw hop hx hm (ACall.lend hj hX.1 hX.2 hY hlen hin hle H hres h)
theorem zip_fst {js : List Nat} {YS : List ABlk} (hlen : YS.length = js.length) : (js.zip YS).map (·.1) = js := by
  have : (js.zip YS).map Prod.fst = js := List.map_fst_zip (by omega)
  exact this
theorem DOps.invokeB (ho : ops[n]? = some o) (hw : Wanted ops s.t o.guard true) {r : Operand} {as : Array Operand} {ts : Array TypeId} {name : String} (hop : o.op = .call { callee := .invoke r name, args := as, argTypes := ts }) {t : TypeId} {v : AV} (hx : aev s.t r = .iface t v) {g : FuncId} (hm : MethodAt P t name g)
    {js : List Nat} {args : List AV} {XS YS : List ABlk} {res : AV} (hj : js.Nodup) (hX : LentAll s.h js XS) (hY : ∀ y ∈ YS, LentB y) (hlen : YS.length = js.length) (hin : amongL js (v :: as.toList.map (aev s.t)) = true) (hle : LeL (renL js (v :: as.toList.map (aev s.t))) args) (H : BSpec P g args XS YS res) (hres : res.bel 0 = true)
    (h : DOps P f c0 R ops (n + 1) (sl + 1) rest (fp ++ [(js, js)]) k ⟨aput s.t o.dst res, putBack s.h js YS⟩) : DOps P f c0 R ops n sl (o :: rest) fp k s := by
  refine DOps.cons (e := ⟨res, js.zip YS, js⟩) (sl' := sl + 1) (StepOk.invoke ho hw hop hx hm _ fun h' hh => ACall.lend hj (hX.congr hh).1 (hX.congr hh).2 hY hlen hin hle H hres ⟨rfl, (putBack_eq js YS h').symm⟩) ?_
  simp only [Ent.fp, Ent.wr, Ent.app, zip_fst hlen, putBack_eq]
  exact h
end
end Go.Proofs.Ytkamcoechjdgpaa
/-
  A callee's answer that leads into the blocks that its caller lent it. Nothing here speaks of the program.
-/
namespace Go.Proofs.Ytkamcoechjdgpaa
open Go.RowKit
mutual
def AV.unr (js : List Nat) : AV → AV
  | .ptr i o => .ptr (js.getD i 0) o
  | .eptr i k j o => .eptr (js.getD i 0) k j o
  | .msl i k o n cap => .msl (js.getD i 0) k o n cap
  | .sl k l _ => .sl k l .no
  | .agg cs => .agg (unrL js cs)
  | .tup vs => .tup (unrL js vs)
  | .psl k l => .psl k (unrLL js l)
  | .rptr cs => .rptr (unrL js cs)
  | .fn f a b => .fn f (unrL js a) (unrL js b)
  | .iface t v => .iface t (v.unr js)
  | v => v
def unrL (js : List Nat) : List AV → List AV
  | [] => []
  | a :: l => a.unr js :: unrL js l
def unrLL (js : List Nat) : List (List AV) → List (List AV)
  | [] => []
  | a :: l => unrL js a :: unrLL js l
end
mutual
def AV.inn (n : Nat) : AV → Bool
  | .ptr i _ => decide (i < n)
  | .eptr i _ _ _ => decide (i < n)
  | .msl i _ _ _ _ => decide (i < n)
  | .msu _ _ _ => false
  | .mp _ => false
  | .agg cs => innL n cs
  | .tup vs => innL n vs
  | .psl _ l => innLL n l
  | .rptr cs => innL n cs
  | .fn _ a b => innL n a && innL n b
  | .iface _ v => v.inn n
  | .cnd _ _ => false
  | _ => true
def innL (n : Nat) : List AV → Bool
  | [] => true
  | a :: l => a.inn n && innL n l
def innLL (n : Nat) : List (List AV) → Bool
  | [] => true
  | a :: l => innL n a && innLL n l
end
theorem unrL_get (js : List Nat) : ∀ (l : List AV) (i : Nat), (unrL js l)[i]? = (l[i]?).map (AV.unr js)
  | [], i => by simp [unrL]
  | a :: l, i => by
    cases i with
    | zero => simp [unrL]
    | succ i => simpa [unrL] using unrL_get js l i
theorem unrLL_get (js : List Nat) : ∀ (l : List (List AV)) (i : Nat), (unrLL js l)[i]? = (l[i]?).map (unrL js)
  | [], i => by simp [unrLL]
  | a :: l, i => by
    cases i with
    | zero => simp [unrLL]
    | succ i => simpa [unrLL] using unrLL_get js l i
theorem unrL_len (js : List Nat) : ∀ l : List AV, (unrL js l).length = l.length
  | [] => rfl
  | a :: l => by simp [unrL, unrL_len js l]
theorem unrLL_len (js : List Nat) : ∀ l : List (List AV), (unrLL js l).length = l.length
  | [] => rfl
  | a :: l => by simp [unrLL, unrLL_len js l]
theorem innL_get {n : Nat} : ∀ {l : List AV}, innL n l = true → ∀ (i : Nat) a, l[i]? = some a → a.inn n = true
  | [], _, i, a, h => by simp at h
  | b :: l, h, i, a, ha => by
    simp only [innL, Bool.and_eq_true] at h
    cases i with
    | zero => simp at ha; subst ha; exact h.1
    | succ i => exact innL_get h.2 i a (by simpa using ha)
theorem innLL_get {n : Nat} : ∀ {l : List (List AV)}, innLL n l = true → ∀ (i : Nat) a, l[i]? = some a → innL n a = true
  | [], _, i, a, h => by simp at h
  | b :: l, h, i, a, ha => by
    simp only [innLL, Bool.and_eq_true] at h
    cases i with
    | zero => simp at ha; subst ha; exact h.1
    | succ i => exact innLL_get h.2 i a (by simpa using ha)
theorem AV.unr_cell (js : List Nat) (a : AV) : (a.unr js).cell = a.cell := by cases a <;> rfl
theorem AV.unr_plain {a : AV} (h : a.plain = true) (js : List Nat) : a.unr js = a := by
  cases a with
  | sl k l t => cases t with | no => rfl | own i => cases h
  | _ => first | rfl | cases h
theorem AV.plain_inn {a : AV} (h : a.plain = true) (n : Nat) : a.inn n = true := by
  cases a with
  | sl k l t => rfl
  | _ => first | rfl | cases h
theorem RV.unr {c c' : Cx} {js : List Nat} {n : Nat} (hkn : ∀ i, i < n → c'.known (js.getD i 0) ∧ c'.ρ (js.getD i 0) = c.ρ i ∧ ∀ x, c'.h[js.getD i 0]? = some x → x.istok = false) (him : ∀ b o, c.im b o → c'.im b o ∧ c'.w.cell? ⟨b, o, none⟩ = c.w.cell? ⟨b, o, none⟩) {v : Value} {a : AV} (h : RV c v a) (ha : a.inn n = true) : RV c' v (a.unr js) := by
  induction h with
  | int k n => exact .int k n
  | bool b => exact .bool b
  | str s l h => exact .str s l h
  | nilp => exact .nilp
  | ptr i o b hk hb ht =>
    obtain ⟨g1, g2, g3⟩ := hkn i (by simpa [AV.inn] using ha)
    exact .ptr _ o b g1 (g2.trans hb) g3
  | rptr cs b o vs hc _ ih =>
    simp only [AV.inn] at ha
    refine .rptr _ b o vs (fun i a hi => ?_) (fun i a hi => ?_)
    · rw [unrL_get, Option.map_eq_some_iff] at hi
      obtain ⟨a0, ha0, rfl⟩ := hi
      obtain ⟨h1, h2, h3⟩ := hc i a0 ha0
      exact ⟨by rw [AV.unr_cell]; exact h1, (him _ _ h2).1, (him _ _ h2).2.trans h3⟩
    · rw [unrL_get, Option.map_eq_some_iff] at hi
      obtain ⟨a0, ha0, rfl⟩ := hi
      exact ih i a0 ha0 (innL_get ha i a0 ha0)
  | sl k l t A m cap b o vs hn hcap hm hA hk hc _ ht ih =>
    refine .sl k l .no A m cap b o vs hn hcap hm hA hk (fun j e i a he hi => ?_) (fun j e i a he hi => ?_) trivial
    · obtain ⟨h1, h2, h3⟩ := hc j e i a he hi
      exact ⟨h1, (him _ _ h2).1, (him _ _ h2).2.trans h3⟩
    · have hp := (hc j e i a he hi).1
      have := ih j e i a he hi (AV.plain_inn hp n)
      rwa [AV.unr_plain hp] at this
  | psl k l A m cap b o vs hn hcap hm hA hk hc _ ih =>
    simp only [AV.inn] at ha
    refine .psl k _ A m cap b o vs (by rw [unrLL_len]; exact hn) hcap hm (fun h => hA (by rintro rfl; exact h rfl)) (fun j e he => ?_) (fun j e i a he hi => ?_) (fun j e i a he hi => ?_)
    · rw [unrLL_get, Option.map_eq_some_iff] at he
      obtain ⟨e0, he0, rfl⟩ := he
      rw [unrL_len]; exact hk j e0 he0
    · rw [unrLL_get, Option.map_eq_some_iff] at he
      obtain ⟨e0, he0, rfl⟩ := he
      rw [unrL_get, Option.map_eq_some_iff] at hi
      obtain ⟨a0, ha0, rfl⟩ := hi
      obtain ⟨h1, h2, h3⟩ := hc j e0 i a0 he0 ha0
      exact ⟨by rw [AV.unr_cell]; exact h1, (him _ _ h2).1, (him _ _ h2).2.trans h3⟩
    · rw [unrLL_get, Option.map_eq_some_iff] at he
      obtain ⟨e0, he0, rfl⟩ := he
      rw [unrL_get, Option.map_eq_some_iff] at hi
      obtain ⟨a0, ha0, rfl⟩ := hi
      exact ih j e0 i a0 he0 ha0 (innL_get (innLL_get ha j e0 he0) i a0 ha0)
  | nils => exact .nils
  | agg vs cs hs hc _ ih =>
    simp only [AV.inn] at ha
    refine .agg vs _ (by rw [unrL_len]; exact hs) (fun i a hi => ?_) fun i v a hv hi => ?_
    · rw [unrL_get, Option.map_eq_some_iff] at hi
      obtain ⟨a0, ha0, rfl⟩ := hi
      rw [AV.unr_cell]; exact hc i a0 ha0
    · rw [unrL_get, Option.map_eq_some_iff] at hi
      obtain ⟨a0, ha0, rfl⟩ := hi
      exact ih i v a0 hv ha0 (innL_get ha i a0 ha0)
  | tup vs cs hs _ ih =>
    simp only [AV.inn] at ha
    refine .tup vs _ (by rw [unrL_len]; exact hs) fun i v a hv hi => ?_
    rw [unrL_get, Option.map_eq_some_iff] at hi
    obtain ⟨a0, ha0, rfl⟩ := hi
    exact ih i v a0 hv ha0 (innL_get ha i a0 ha0)
  | fn f v1 v2 a1 a2 h1 h2 _ _ r1 r2 =>
    simp only [AV.inn, Bool.and_eq_true] at ha
    refine .fn f v1 v2 _ _ (by rw [unrL_len]; exact h1) (by rw [unrL_len]; exact h2) (fun i v a hv hi => ?_) (fun i v a hv hi => ?_)
    · rw [unrL_get, Option.map_eq_some_iff] at hi
      obtain ⟨a0, ha0, rfl⟩ := hi
      exact r1 i v a0 hv ha0 (innL_get ha.1 i a0 ha0)
    · rw [unrL_get, Option.map_eq_some_iff] at hi
      obtain ⟨a0, ha0, rfl⟩ := hi
      exact r2 i v a0 hv ha0 (innL_get ha.2 i a0 ha0)
  | nilf => exact .nilf
  | iface t v a _ ih => simp only [AV.inn] at ha; exact .iface t v _ (ih ha)
  | nilI => exact .nilI
  | mp i b hk hb ht => cases ha
  | nilm => exact .nilm
  | msl i k o m cap b o' hk hb ht h1 h2 h3 =>
    obtain ⟨g1, g2, g3⟩ := hkn i (by simpa [AV.inn] using ha)
    exact .msl _ k o m cap b o' g1 (g2.trans hb) g3 h1 h2 h3
  | msu i k m cap b hk hb ht h1 h2 h3 => cases ha
  | eptr i k j o b hk hb ht =>
    obtain ⟨g1, g2, g3⟩ := hkn i (by simpa [AV.inn] using ha)
    exact .eptr _ k j o b g1 (g2.trans hb) g3
  | cnd g v a _ ih => cases ha
  | junk v => exact .junk v
section
variable {c : Cx} {js : List Nat}
theorem ACall.lendP {P : Program} {f : FuncId} {args args' : List AV} {h : List ABlk} {R : AV → List ABlk → Prop} {js : List Nat} {XS YS : List ABlk} {res : AV} (hj : js.Nodup) (hXS : js.map (fun i => (h[i]?).getD .dead) = XS) (hX : ∀ i ∈ js, ∃ x, h[i]? = some x ∧ LentB x) (hY : ∀ y ∈ YS, LentB y) (hlen : YS.length = js.length)
    (hin : amongL js args' = true) (hle : LeL (renL js args') args) (H : BSpec P f args XS YS res) (hres : res.inn js.length = true) (hR : R (res.unr js) (putBack h js YS)) : ACall P f args' h R := by
  intro c vs hch hc ht
  subst hch
  have hrel := Cx.lend_rel hc hj hX
  refine (H.run (c.lend js) vs hXS hrel (hle.rel (renL_rel hX ht hin))).mono ?_
  rintro e w' ⟨v, ρ', r, h', rfl, g1, g2, g3, hle, hwk⟩
  have hil : ∀ i ∈ js, i < c.h.length := fun i hi => by obtain ⟨x, hx, _⟩ := hX i hi; exact (List.getElem?_eq_some_iff.1 hx).1
  have hmut : ∀ b, (c.lend js).mutb b → ∃ i ∈ js, c.ρ i = some b := by
    rintro b ⟨q, x, hx, _, hb⟩
    obtain ⟨i, h1, h2, h3, h4⟩ := Cx.lend_get hX hx
    exact ⟨i, List.mem_of_getElem? h1, h4.symm.trans hb⟩
  have hsz : c.w.heap.size ≤ w'.heap.size := g2.size
  have hold : ∀ b, b < c.w.heap.size → (∀ i ∈ js, c.ρ i ≠ some b) → w'.heap[b]? = c.w.heap[b]? := fun b hb h1 => (g2.fr b hb fun hm => by obtain ⟨i, hi, e⟩ := hmut b hm; exact h1 i hi e).1
  have hget : ∀ (q : Nat) x, (putBack c.h js YS)[q]? = some x → (∃ p, js[p]? = some q ∧ YS[p]? = some x) ∨ (q ∉ js ∧ c.h[q]? = some x) := fun q x hx => by
    by_cases hq : q ∈ js
    · obtain ⟨p, hp⟩ := List.getElem?_of_mem hq
      have hpl : p < YS.length := by rw [hlen]; exact (List.getElem?_eq_some_iff.1 hp).1
      have e := putBack_in js YS c.h hj hp (List.getElem?_eq_getElem hpl) (hil q hq)
      rw [hx] at e
      exact .inl ⟨p, hp, by rw [List.getElem?_eq_getElem hpl]; exact e.symm⟩
    · rw [putBack_out js YS c.h hq] at hx
      exact .inr ⟨hq, hx⟩
  have hoth : ∀ (q : Nat) x b, q ∉ js → c.h[q]? = some x → x.live = true → c.ρ q = some b → ∀ i ∈ js, c.ρ i ≠ some b := fun q x b h1 hx hl hb i hi e => by
    obtain ⟨y, hy, hyl⟩ := hX i hi
    have := hc.inj q i x y b hx hy hl hyl.live hb e
    subst this
    exact h1 hi
  have hnx : ∀ b o, c.X b o → ∀ i ∈ js, c.ρ i ≠ some b := fun b o hX' i hi e => by
    obtain ⟨y, hy, hyl⟩ := hX i hi
    exact (hc.xs b o hX').2 i _ hy hyl.live e
  have him0 : ∀ b o, c.im b o → ∀ i ∈ js, c.ρ i ≠ some b := fun b o h i hi e => by
    obtain ⟨y, hy, hyl⟩ := hX i hi
    exact hyl.fix o (h.2.2 i _ hy e)
  -- the callee's blocks lie where the caller's lie
  have hsame : ∀ (p q : Nat) y, js[p]? = some q → YS[p]? = some y → ρ' p = c.ρ q ∧ ∃ z, h'[p]? = some z ∧ LeB 0 z y := fun p q y hp hy => by
    obtain ⟨x, hx, hxl⟩ := hX q (List.mem_of_getElem? hp)
    have h0 : (c.lend js).h[p]? = some x := by simp [Cx.lend, hp, hx]
    obtain ⟨z, hz, hzl⟩ := hwk.get p y hy
    obtain ⟨y', k1, k2, k3, k4⟩ := g2.id p x h0 hxl.free
    exact ⟨(k3 hxl.tok).2.trans (by simp [Cx.lend, hp]), z, hz, hzl⟩
  have hdead : ∀ (q : Nat) x b o, (putBack c.h js YS)[q]? = some x → c.ρ q = some b → ((∃ i ∈ js, c.ρ i = some b) ∨ c.im b o) → q ∉ js → x.fix o := fun q x b o hx hb hcase hq => by
    rcases hget q x hx with ⟨p, hp, _⟩ | ⟨h1, hx'⟩
    · exact absurd (List.mem_of_getElem? hp) hq
    · by_cases hl : x.live = true
      · rcases hcase with ⟨i, hi, h⟩ | h
        · exact absurd h (hoth q x b h1 hx' hl hb i hi)
        · exact h.2.2 q x hx' hb
      · cases x <;> first | exact absurd rfl hl | trivial
  have hev : Ev c ⟨c.ρ, putBack c.h js YS, w', c.X⟩ := by
    refine ⟨g2.os, g2.tape, g2.output, hsz, rfl, fun b o h => ⟨⟨Nat.lt_of_lt_of_le h.1 hsz, h.2.1, fun q x hx hb => ?_⟩, cell_of_block (hold b h.1 (him0 b o h))⟩, fun b hb hm => ⟨hold b hb (fun i hi e => ?_), ?_⟩, by rw [putBack_len]; exact Nat.le_refl _, fun q x hx hf => ?_, g2.keep, Uw.back (fun _ _ h => h.1) (fun b o hx hb => ⟨hb, fun hm => hm.2.1 hx, hnx b o hx⟩) (fun b hb x hx => by
      by_cases e : ∃ i ∈ js, c.ρ i = some b
      · obtain ⟨i, hi, e⟩ := e
        obtain ⟨y, hy, hyl⟩ := hX i hi
        obtain ⟨vs, t, hh⟩ := hyl.cells (hc.blk i _ hy) e
        obtain ⟨vs', q1, _⟩ := g2.keep b vs t (0, 0) hh
        rw [q1] at hx; cases hx; exact .inr (OkObj.cells _ _)
      · exact .inl (by rw [← hold b hb fun i hi h => e ⟨i, hi, h⟩]; exact hx)) g2.uw⟩
    · by_cases hq : q ∈ js
      · exact absurd hb (him0 b o h q hq)
      · exact hdead q x b o hx hb (.inr h) hq
    · obtain ⟨y, hy, hyl⟩ := hX i hi
      exact hm ⟨i, _, hy, hyl.live, e⟩
    · rintro ⟨q, x, hx, hl, hb⟩
      rcases hget q x hx with ⟨p, hp, _⟩ | ⟨_, hx'⟩
      · obtain ⟨y, hy, hyl⟩ := hX q (List.mem_of_getElem? hp)
        exact hm ⟨q, y, hy, hyl.live, hb⟩
      · exact hm ⟨q, x, hx', hl, hb⟩
    · by_cases hq : q ∈ js
      · obtain ⟨p, hp⟩ := List.getElem?_of_mem hq
        have hpl : p < YS.length := by rw [hlen]; exact (List.getElem?_eq_some_iff.1 hp).1
        have hyb := hY _ (List.getElem_mem hpl)
        exact ⟨YS[p], putBack_in js YS c.h hj hp (List.getElem?_eq_getElem hpl) (hil q hq), hyb.free, fun _ => ⟨hyb.tok, rfl⟩, fun k n' e => absurd e (hyb.notok k n')⟩
      · refine ⟨x, by show (putBack c.h js YS)[q]? = _; rw [putBack_out js YS c.h hq]; exact hx, hf, fun ht => ⟨ht, rfl⟩, fun k n e => ⟨n, e, .inr ⟨rfl, rfl, fun b hb => ?_⟩⟩⟩
        exact hold b (hc.here q x b hx hb) (hoth q x b hq hx (by rw [e]; rfl) hb)
  have him' : ∀ b o, (Cx.mk ρ' h' w' (c.lend js).X).im b o → (Cx.mk c.ρ (putBack c.h js YS) w' c.X).im b o := fun b o h => by
    have hx2 : ¬ (b < c.w.heap.size ∧ ¬ c.im b o ∧ ∀ i ∈ js, c.ρ i ≠ some b) := h.2.1
    refine ⟨h.1, fun hX' => hx2 ⟨(hc.xs b o hX').1, fun hm => hm.2.1 hX', hnx b o hX'⟩, fun q x hx hb => ?_⟩
    rcases hget q x hx with ⟨p, hp, hy⟩ | ⟨hq, hx'⟩
    · obtain ⟨k1, z, k2, k3⟩ := hsame p q x hp hy
      have := h.2.2 p z k2 (k1.trans hb)
      exact (k3.same_kind.2.2.2.1 o).2 this
    · refine hdead q x b o hx hb ?_ hq
      have hql : q < c.h.length := (List.getElem?_eq_some_iff.1 hx').1
      have hlt := hc.here q _ b hx' hb
      by_cases e1 : ∃ i ∈ js, c.ρ i = some b
      · exact .inl e1
      · exact .inr (Classical.byContradiction fun hn => hx2 ⟨hlt, hn, fun i hi e => e1 ⟨i, hi, e⟩⟩)
  have hxf : ∀ {v : Value} {a : AV}, RV ⟨ρ', h', w', (c.lend js).X⟩ v a → a.bel 0 = true → RV ⟨c.ρ, putBack c.h js YS, w', c.X⟩ v a := fun h ha =>
    h.xfer (n := 0) (fun b o h => ⟨him' b o h, rfl⟩) (fun i hi => absurd hi (Nat.not_lt_zero i)) (fun i b hi => absurd hi (Nat.not_lt_zero i)) ha
  have hkn : ∀ i, i < js.length → (Cx.mk c.ρ (putBack c.h js YS) w' c.X).known (js.getD i 0) ∧ c.ρ (js.getD i 0) = ρ' i ∧ ∀ x, (putBack c.h js YS)[js.getD i 0]? = some x → x.istok = false := fun i hi => by
    have hjs : js[i]? = some (js.getD i 0) := by rw [List.getD_eq_getElem?_getD, List.getElem?_eq_getElem hi]; rfl
    have hyi : i < YS.length := by omega
    have hys : YS[i]? = some YS[i] := List.getElem?_eq_getElem hyi
    have hb := putBack_in js YS c.h hj hjs hys (hil _ (List.mem_of_getElem? hjs))
    have hyb := hY _ (List.getElem_mem hyi)
    exact ⟨⟨_, hb, hyb.free⟩, (hsame i _ _ hjs hys).1.symm, fun x hx => by rw [hb] at hx; cases hx; exact hyb.tok⟩
  refine ⟨v, c.ρ, res.unr js, putBack c.h js YS, rfl, ?_, hev, (hle.rv g3).unr hkn (fun b o h => ⟨him' b o h, rfl⟩) hres, hR⟩
  refine ⟨fun q r x y b hx hy lx ly hb hb' => ?_, fun q x b hx hb => ?_, fun q x hx => ?_, fun b o hX' => ⟨Nat.lt_of_lt_of_le (hc.xs b o hX').1 hsz, fun q x hx hl hb => ?_⟩, hev.uw hc.uw⟩
  · have key : ∀ (q : Nat) x, (putBack c.h js YS)[q]? = some x → x.live = true → ∃ y, c.h[q]? = some y ∧ y.live = true := fun q x hx hl => by
      rcases hget q x hx with ⟨p, hp, _⟩ | ⟨_, hx'⟩
      · obtain ⟨y, hy, hyl⟩ := hX q (List.mem_of_getElem? hp)
        exact ⟨y, hy, hyl.live⟩
      · exact ⟨x, hx', hl⟩
    obtain ⟨x', hx', lx'⟩ := key q x hx lx
    obtain ⟨y', hy', ly'⟩ := key r y hy ly
    exact hc.inj q r x' y' b hx' hy' lx' ly' hb hb'
  · have hql : q < c.h.length := by have := (List.getElem?_eq_some_iff.1 hx).1; simpa [putBack_len] using this
    exact Nat.lt_of_lt_of_le (hc.here q _ b (List.getElem?_eq_getElem hql) hb) hsz
  · rcases hget q x hx with ⟨p, hp, hy⟩ | ⟨h1, hx'⟩
    · obtain ⟨k1, z, k2, k3⟩ := hsame p q x hp hy
      have hb := k3.blk (g1.blk p z k2)
      rcases hY x (List.mem_of_getElem? hy) with ⟨cs, rfl, hcs⟩ | ⟨k, L, rfl, hL⟩
      · obtain ⟨b, us, e, q1, q2, q3, q4⟩ := hb
        exact ⟨b, us, e, k1.symm.trans q1, q2, q3, fun m a ha => by
          obtain ⟨z1, u, z2, z3⟩ := q4 m a ha
          exact ⟨z1, u, z2, hxf z3 (belL_get hcs m a ha)⟩⟩
      · obtain ⟨b, us, e, q1, q2, q3, q4⟩ := hb
        exact ⟨b, us, e, k1.symm.trans q1, q2, q3, fun j x m a hx ha => by
          obtain ⟨u, z2, z3⟩ := q4 j x m a hx ha
          exact ⟨u, z2, hxf z3 (belL_get (belLL_get hL j x hx) m a ha)⟩⟩
    · exact (hc.blk q x hx').mono hev rfl fun b hl hb => hold b (hc.here q x b hx' hb) (hoth q x b h1 hx' hl hb)
  · rcases hget q x hx with ⟨p, hp, _⟩ | ⟨_, hx'⟩
    · obtain ⟨y, hy, hyl⟩ := hX q (List.mem_of_getElem? hp)
      exact (hc.xs b o hX').2 q y hy hyl.live hb
    · exact (hc.xs b o hX').2 q x hx' hl hb
end
theorem putBack_same : ∀ {js : List Nat} {XS : List ABlk} {h : List ABlk}, LentAll h js XS → putBack h js XS = h
  | [], XS, h, _ => by simp [putBack]
  | i :: js, XS, h, hX => by
    obtain ⟨h1, h2⟩ := hX
    obtain ⟨x, hx, hl⟩ := h2 i List.mem_cons_self
    rw [List.map_cons, hx] at h1
    subst h1
    rw [putBack]
    have e : h.set i ((some x).getD .dead) = h := by
      apply List.ext_getElem?
      intro q
      rw [List.getElem?_set]
      by_cases hq : i = q
      · subst hq
        obtain ⟨g1, g2⟩ := List.getElem?_eq_some_iff.1 hx
        simp [g1, g2]
      · rw [if_neg hq]
    rw [e]
    exact putBack_same ⟨rfl, fun j hj => h2 j (List.mem_cons_of_mem _ hj)⟩
section
variable {P : Program} {f : FuncId} {c0 : Cx} {R : AV → List ABlk → Prop} {ops : Array Oper} {n sl : Nat} {o : Oper} {rest : List Oper} {fp : List (List Nat × List Nat)} {k : List Item} {s : AState}
theorem Ops.callP (hw : Wanted ops s.t o.guard true) {x : Operand} {as : Array Operand} {ts : Array TypeId} (hop : o.op = .call { callee := .value x, args := as, argTypes := ts }) {g : FuncId} {fi ca : List AV} (hx : aev s.t x = .fn (.func g) fi ca)
    {js : List Nat} {args : List AV} {XS : List ABlk} {res : AV} (hj : js.Nodup) (hX : LentAll s.h js XS) (hY : ∀ y ∈ XS, LentB y) (hlen : XS.length = js.length) (hin : amongL js (fi ++ as.toList.map (aev s.t) ++ ca) = true) (hle : LeL (renL js (fi ++ as.toList.map (aev s.t) ++ ca)) args) (H : BSpec P g args XS XS res) (hres : res.inn js.length = true)
    (h : Ops P f c0 R ops (n + 1) rest k ⟨aput s.t o.dst (res.unr js), s.h⟩) : Ops P f c0 R ops n (o :: rest) k s :=
  Ops.call hw hop hx H.fn (ACall.lendP hj hX.1 hX.2 hY hlen hin hle H hres (by rw [putBack_same hX]; exact h))
theorem DOps.callP (ho : ops[n]? = some o) (hw : Wanted ops s.t o.guard true) {x : Operand} {as : Array Operand} {ts : Array TypeId} (hop : o.op = .call { callee := .value x, args := as, argTypes := ts }) {g : FuncId} {fi ca : List AV} (hx : aev s.t x = .fn (.func g) fi ca)
    {js : List Nat} {args : List AV} {XS : List ABlk} {res : AV} (hj : js.Nodup) (hX : LentAll s.h js XS) (hY : ∀ y ∈ XS, LentB y) (hlen : XS.length = js.length) (hin : amongL js (fi ++ as.toList.map (aev s.t) ++ ca) = true) (hle : LeL (renL js (fi ++ as.toList.map (aev s.t) ++ ca)) args) (H : BSpec P g args XS XS res) (hres : res.inn js.length = true)
    (h : DOps P f c0 R ops (n + 1) (sl + 1) rest (fp ++ [(js, [])]) k ⟨aput s.t o.dst (res.unr js), s.h⟩) : DOps P f c0 R ops n sl (o :: rest) fp k s :=
  DOps.cons (e := ⟨res.unr js, [], js⟩) (sl' := sl + 1) (StepOk.call ho hw hop hx H.fn _ fun h' hh => ACall.lendP hj (hX.congr hh).1 (hX.congr hh).2 hY hlen hin hle H hres ⟨rfl, by rw [putBack_same (hX.congr hh)]; rfl⟩) h
end
end Go.Proofs.Ytkamcoechjdgpaa
/-
  Temporaries that no one asks for any more, forgotten. Nothing here speaks of the program.
-/
namespace Go.Proofs.Ytkamcoechjdgpaa
open Go.RowKit
def junkAt : List Nat → List AV → List AV
  | [], t => t
  | j :: js, t => junkAt js (t.set j .junk)
theorem TRel.junk {c : Cx} {vs : Array Value} {t : List AV} (h : TRel c vs t) (j : Nat) : TRel c vs (t.set j .junk) := by
  refine ⟨by simp [h.1], fun m v a hv ha => ?_⟩
  by_cases hm : j = m
  · subst hm
    rw [List.getElem?_set] at ha
    simp only [Ys] at ha
    split at ha
    · cases ha; exact .junk v
    · cases ha
  · rw [List.getElem?_set_ne hm] at ha
    exact h.2 m v a hv ha
theorem TRel.junkAt {c : Cx} {vs : Array Value} : ∀ (js : List Nat) {t : List AV}, TRel c vs t → TRel c vs (junkAt js t)
  | [], _, h => h
  | j :: js, _, h => TRel.junkAt js (h.junk j)
theorem Weak.junk {P : Program} {c0 : Cx} {s : AState} (js : List Nat) : Weak P c0 s ⟨junkAt js s.t, s.h⟩ := ⟨fun ρ _ _ h1 h2 h3 => ⟨ρ, h1, h2, h3.junkAt js⟩⟩
end Go.Proofs.Ytkamcoechjdgpaa
