/-
  A call, in a drawn region, that returns a row of its own. Nothing here speaks of the program.
-/
import Derived.Test.YtgonmnjgodleeaaAb
namespace Go.Proofs.Ytgonmnjgodleeaa
open Go.RowKit
theorem LeR.eq {a b : AV} (h : a = b) : LeR a b := h ▸ .one (.refl _)
section
variable {P : Program} {f : FuncId}
theorem ACall.ownAt {args args' : List AV} {k : Nat} {l : List (List AV)} {h : List ABlk} {R : AV → List ABlk → Prop} {sl : Nat} (hfr : h[sl]? = some .free) (hs : OSpec P f args k l) (hle : LeL args' args) (ha : belL 0 args = true) (hR : R (.sl k l (.own sl)) (h.set sl (.tok k l.length))) : ACall P f args' h R := by
  intro c vs hch hc ht
  subst hch
  have hsl : sl < c.h.length := (List.getElem?_eq_some_iff.1 hfr).1
  refine (hs.run c.shut vs rfl Cx.shut_rel ((hle.rel ht).shut ha)).mono ?_
  rintro e w' ⟨v, ρ', r, h', rfl, g1, g2, g3, i, rfl, hi⟩
  have hbig : ∀ b, ρ' i = some b → c.w.heap.size ≤ b := fun b hb => by
    rcases Nat.lt_or_ge b c.w.heap.size with hlt | hge
    · exact absurd ⟨i, _, hi, rfl, hb⟩ (g2.fr b hlt (by rintro ⟨i, x, hx, _⟩; simp [Cx.shut] at hx)).2
    · exact hge
  have hold : ∀ b, b < c.w.heap.size → w'.heap[b]? = c.w.heap[b]? := fun b hb => (g2.fr b hb (by rintro ⟨i, x, hx, _⟩; simp [Cx.shut] at hx)).1
  have hsz : c.w.heap.size ≤ w'.heap.size := g2.size
  have hcase : ∀ (j : Nat) y b, (c.h.set sl (ABlk.tok k l.length))[j]? = some y → setρ c.ρ sl (ρ' i) j = some b → (j = sl ∧ y = .tok k l.length ∧ ρ' i = some b ∧ c.w.heap.size ≤ b) ∨ (j ≠ sl ∧ c.h[j]? = some y ∧ c.ρ j = some b ∧ b < c.w.heap.size) := fun j y b hy hb => by
    by_cases hj : j = sl
    · subst hj
      rw [setρ_same] at hb
      rw [List.getElem?_set_self hsl] at hy
      simp at hy
      exact .inl ⟨rfl, hy.symm, hb, hbig b hb⟩
    · rw [setρ_ne _ _ hj] at hb
      rw [List.getElem?_set_ne (Ne.symm hj)] at hy
      exact .inr ⟨hj, hy, hb, hc.here j y b hy hb⟩
  have hρ : ∀ (j : Nat), j ≠ sl → setρ c.ρ sl (ρ' i) j = c.ρ j := fun j hx => setρ_ne _ _ hx
  have hev : Ev c ⟨setρ c.ρ sl (ρ' i), c.h.set sl (.tok k l.length), w', c.X⟩ := by
    refine ⟨g2.os, g2.tape, g2.output, hsz, rfl, fun b o h => ⟨⟨Nat.lt_of_lt_of_le h.1 hsz, h.2.1, fun j y hy hb => ?_⟩, cell_of_block (hold b h.1)⟩, fun b hb hm => ⟨hold b hb, ?_⟩, by simp, fun j x hx hf => ?_, keep_old hold⟩
    · rcases hcase j y b hy hb with ⟨_, _, _, hge⟩ | ⟨_, q1, q2, _⟩
      · have := h.1; omega
      · exact h.2.2 j y q1 q2
    · rintro ⟨j, y, hy, hl, hj⟩
      rcases hcase j y b hy hj with ⟨_, _, _, hge⟩ | ⟨_, q1, q2, _⟩
      · omega
      · exact hm ⟨j, y, q1, hl, q2⟩
    · have hj : j ≠ sl := by rintro rfl; rw [hfr] at hx; cases hx; cases hf
      exact ⟨x, by rw [List.getElem?_set_ne (Ne.symm hj)]; exact hx, hf, fun ht => ⟨ht, hρ j hj⟩, fun k n e => ⟨n, e, .inr ⟨rfl, hρ j hj, fun b hb => hold b (hc.here j x b hx hb)⟩⟩⟩
  have hrel : RelH ⟨setρ c.ρ sl (ρ' i), c.h.set sl (.tok k l.length), w', c.X⟩ := by
    refine ⟨fun j j' y y' b hy hy' ly ly' hb hb' => ?_, fun j y b hy hb => ?_, fun j y hy => ?_, fun b o h => ⟨Nat.lt_of_lt_of_le (hc.xs b o h).1 hsz, fun j y hy hl hb => ?_⟩⟩
    · rcases hcase j y b hy hb with ⟨rfl, _, _, q⟩ | ⟨_, q1, q2, q3⟩ <;> rcases hcase j' y' b hy' hb' with ⟨rfl, _, _, w⟩ | ⟨_, w1, w2, w3⟩
      · rfl
      · omega
      · omega
      · exact hc.inj j j' y y' b q1 w1 ly ly' q2 w2
    · rcases hcase j y b hy hb with ⟨_, _, q, _⟩ | ⟨_, q1, q2, q3⟩
      · exact g1.here i _ b hi q
      · exact Nat.lt_of_lt_of_le q3 hsz
    · by_cases hj : j = sl
      · subst hj
        rw [List.getElem?_set_self hsl] at hy
        simp at hy
        subst hy
        intro b hb
        simp only [setρ_same] at hb
        exact g1.blk i _ hi b hb
      · rw [List.getElem?_set_ne (Ne.symm hj)] at hy
        exact (hc.blk j y hy).mono hev (hρ j hj) fun b _ hb => hold b (hc.here j y b hy hb)
    · rcases hcase j y b hy hb with ⟨_, _, _, q⟩ | ⟨_, q1, q2, q3⟩
      · have := (hc.xs b o h).1; omega
      · exact (hc.xs b o h).2 j y q1 hl q2
  have him : ∀ b o, (Cx.mk ρ' h' w' c.shut.X).im b o → (Cx.mk (setρ c.ρ sl (ρ' i)) (c.h.set sl (.tok k l.length)) w' c.X).im b o := fun b o h => by
    have hx : ¬ (b < c.w.heap.size ∧ ¬ c.im b o) := h.2.1
    by_cases hb : b < c.w.heap.size
    · have him : c.im b o := Classical.byContradiction fun hn => hx ⟨hb, hn⟩
      exact (hev.im b o him).1
    · refine ⟨h.1, fun hX => hb (hc.xs b o hX).1, fun j y hy hρj => ?_⟩
      rcases hcase j y b hy hρj with ⟨_, rfl, q, _⟩ | ⟨_, q1, q2, q3⟩
      · exact h.2.2 i _ hi q
      · omega
  obtain ⟨A, cap, xs, rfl, hcap, hm, hf, ⟨_, htk⟩, hcell⟩ := g3.flat
  refine ⟨_, _, _, _, rfl, hrel, hev, ?_, hR⟩
  have hf' : Flat ⟨setρ c.ρ sl (ρ' i), c.h.set sl (.tok k l.length), w', c.X⟩ k l xs := ⟨hf.len, hf.el, fun j e m a he ha => by
    obtain ⟨w1, u, w2, w3⟩ := hf.rv j e m a he ha
    exact ⟨w1, u, w2, w3.xfer (n := 0) (fun b o h => ⟨him b o h, rfl⟩) (fun i hi => absurd hi (Nat.not_lt_zero i)) (fun i b hi => absurd hi (Nat.not_lt_zero i)) (AV.plain_bel w1 0)⟩⟩
  have ht' : TkOk ⟨setρ c.ρ sl (ρ' i), c.h.set sl (.tok k l.length), w', c.X⟩ A l.length cap k (.own sl) := by
    have hlast : (c.h.set sl (ABlk.tok k l.length))[sl]? = some (.tok k l.length) := List.getElem?_set_self hsl
    refine ⟨⟨_, hlast, rfl⟩, fun k' n' e => ?_⟩
    simp only [hlast] at e
    cases e
    refine ⟨rfl, Nat.le_refl _, fun _ => ?_⟩
    obtain ⟨_, _, q⟩ := htk k l.length hi
    rcases q rfl with q | ⟨b, vs, e, w1, w2, w3, w4⟩
    · exact .inl q
    · exact .inr ⟨b, vs, e, by simp only [setρ_same]; exact w1, w2, w3, w4⟩
  by_cases hl : l = []
  · have hxs : xs = [] := by have := hf.len; rw [hl] at this; simpa using this
    exact RV.sl_of hf' hcap hm 0 0 (fun h => absurd hl h) (fun q u hq => by rw [hxs] at hq; simp at hq) ht' rfl
  · obtain ⟨b, o, hA, hcc⟩ := hcell hl
    exact RV.sl_of hf' hcap hm b o (fun _ => hA) (fun q u hq => ⟨him _ _ (hcc q u hq).1, (hcc q u hq).2⟩) ht' rfl
end
section
variable {P : Program} {f : FuncId} {c0 : Cx} {R : AV → List ABlk → Prop} {ops : Array Oper} {n sl : Nat} {o : Oper} {rest : List Oper} {fp : List (List Nat × List Nat)} {k : List Item} {s : AState}
theorem DOps.own (ho : ops[n]? = some o) (hw : Wanted ops s.t o.guard true) {x : Operand} {as : Array Operand} {ts : Array TypeId} (hop : o.op = .call { callee := .value x, args := as, argTypes := ts })
    {g : FuncId} {fi ca : List AV} (hx : aev s.t x = .fn (.func g) fi ca) {args : List AV} {kk : Nat} {l : List (List AV)} (hs : OSpec P g args kk l) (hle : LeL (fi ++ as.toList.map (aev s.t) ++ ca) args) (ha : belL 0 args = true)
    (hfr : s.h[sl]? = some .free) (h : DOps P f c0 R ops (n + 1) (sl + 1) rest (fp ++ [([sl], [sl])]) k ⟨aput s.t o.dst (.sl kk l (.own sl)), s.h.set sl (.tok kk l.length)⟩) : DOps P f c0 R ops n sl (o :: rest) fp k s :=
  DOps.cons (e := ⟨.sl kk l (.own sl), [(sl, .tok kk l.length)], [sl]⟩) (StepOk.call ho hw hop hx hs.fn _ fun h' hh => ACall.ownAt (by rw [hh sl (by simp)]; exact hfr) hs hle ha ⟨rfl, rfl⟩) h
end
end Go.Proofs.Ytgonmnjgodleeaa
