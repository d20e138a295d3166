/-
  From contracts told with addresses to those told without: rows of bytes, rows of rows, a row of the call's own. Nothing here speaks of the program but for the types' numbers.
-/
import Derived.Test.YtgonmnjgodleeaaDoorTab
import Derived.Test.YtgonmnjgodleeaaDoorRep
import Derived.Test.YtgonmnjgodleeaaDoorOctetSpec
namespace Go.Proofs.YtgonmnjgodleeaaDoor
open Go.RowKit
/-- A row of bytes, as an element. -/
def rowC (b : Bytes) : List AV := [bytesA b]
theorem byteV_rv {c : Cx} {x : UInt8} {v : Value} {a : AV} (h : RV c v a) (ha : (byteC x)[0]? = some a) : v = byteV x := by
  simp only [byteC, List.getElem?_cons_zero, Option.some.injEq] at ha
  subst ha
  cases h; rfl
theorem RV.bytes {c : Cx} {v : Value} {b : Bytes} {t : Tk} (h : RV c v (.sl 1 (b.map byteC) t)) : ∃ A cap, v = .slice A b.length cap ∧ b.length ≤ cap ∧ cap ≤ maxLen ∧ Sl byteR 1 c.w.heap.size c.w A b := by
  obtain ⟨A, cap, xs, rfl, h1, h2, hf, _, hc⟩ := h.flat
  simp only [List.length_map] at h1 ⊢
  refine ⟨A, cap, rfl, h1, h2, fun hn => ?_⟩
  obtain ⟨bl, o, rfl, hcc⟩ := hc (by simpa using hn)
  obtain ⟨x0, hx0⟩ : ∃ x, b[0]? = some x := ⟨_, List.getElem?_eq_getElem (List.length_pos_iff.2 hn)⟩
  have key : ∀ (j : Nat) a, b[j]? = some a → c.im bl (o + j) ∧ c.w.cell? ⟨bl, o + j, none⟩ = some (byteV a) := fun j a hj => by
    obtain ⟨_, u, g1, g2⟩ := hf.rv j (byteC a) 0 _ (by rw [List.getElem?_map, hj]; rfl) rfl
    rw [Nat.mul_one, Nat.add_zero] at g1
    obtain ⟨w1, w2⟩ := hcc j u g1
    cases g2
    exact ⟨w1, w2⟩
  refine ⟨bl, o, rfl, (key 0 x0 hx0).1.1, fun j a hj => ⟨[byteV a], rfl, rfl, fun i u hu => ?_⟩⟩
  match i, hu with
  | 0, hu =>
    simp only [List.getElem?_cons_zero, Option.some.injEq] at hu
    subst hu
    rw [Nat.mul_one, Nat.add_zero]
    exact (key j a hj).2
theorem RV.rows {c : Cx} {v : Value} {L : List Bytes} {t : Tk} (h : RV c v (.sl 1 (L.map rowC) t)) : ∃ A cap, v = .slice A L.length cap ∧ L.length ≤ cap ∧ cap ≤ maxLen ∧ Sl (slR byteR 1) 1 c.w.heap.size c.w A L := by
  obtain ⟨A, cap, xs, rfl, h1, h2, hf, _, hc⟩ := h.flat
  simp only [List.length_map] at h1 ⊢
  refine ⟨A, cap, rfl, h1, h2, fun hn => ?_⟩
  obtain ⟨bl, o, rfl, hcc⟩ := hc (by simpa using hn)
  obtain ⟨x0, hx0⟩ : ∃ x, L[0]? = some x := ⟨_, List.getElem?_eq_getElem (List.length_pos_iff.2 hn)⟩
  have key : ∀ (j : Nat) a, L[j]? = some a → ∃ u, c.im bl (o + j) ∧ c.w.cell? ⟨bl, o + j, none⟩ = some u ∧ RV c u (bytesA a) := fun j a hj => by
    obtain ⟨_, u, g1, g2⟩ := hf.rv j (rowC a) 0 _ (by rw [List.getElem?_map, hj]; rfl) rfl
    rw [Nat.mul_one, Nat.add_zero] at g1
    obtain ⟨w1, w2⟩ := hcc j u g1
    exact ⟨u, w1, w2, g2⟩
  obtain ⟨u0, hi0, _⟩ := key 0 x0 hx0
  refine ⟨bl, o, rfl, hi0.1, fun j a hj => ?_⟩
  obtain ⟨u, g1, g2, g3⟩ := key j a hj
  obtain ⟨A', c', rfl, q1, q2, q3⟩ := g3.bytes
  refine ⟨[_], rfl, ⟨A', c', rfl, q1, q2, q3⟩, fun i u hu => ?_⟩
  match i, hu with
  | 0, hu =>
    simp only [List.getElem?_cons_zero, Option.some.injEq] at hu
    subst hu
    rw [Nat.mul_one, Nat.add_zero]
    exact g2
theorem Below.ev {c : Cx} (hc : RelH c) (hh : c.h = []) {w' : World} (hb : Below c.w.heap.size c.w w') : RelH ⟨c.ρ, [], w', c.X⟩ ∧ Ev c ⟨c.ρ, [], w', c.X⟩ := by
  have hno : ∀ (i : Nat) x, c.h[i]? ≠ some x := fun i x h => by rw [hh] at h; simp at h
  refine ⟨⟨fun i j x y b hx => by simp at hx, fun i x b hx => by simp at hx, fun i x hx => by simp at hx, fun b o h => ⟨Nat.lt_of_lt_of_le (hc.xs b o h).1 hb.size, fun i x hx => by simp at hx⟩⟩, ?_⟩
  refine ⟨hb.os, hb.tape, hb.output, hb.size, rfl, fun b o h => ⟨⟨Nat.lt_of_lt_of_le h.1 hb.size, h.2.1, fun i x hx => by simp at hx⟩, cell_of_block (hb.block b h.1)⟩, fun b hlt _ => ⟨hb.block b hlt, ?_⟩, by rw [hh]; exact Nat.le_refl _, fun i x hx => absurd hx (hno i x), keep_old hb.block⟩
  rintro ⟨i, x, hx, _⟩; simp at hx
/-- A row of the call's own: a token for it. -/
theorem own_spec {P : Program} {f : FuncId} {args : List AV} {b : Bytes} (hne : 0 < b.length) (hfn : Callable P f)
    (h : ∀ (c : Cx) (vs : Array Value), c.h = [] → RelH c → TRel c vs args → Calls P f vs c.w fun e w' => ∃ v t, e = .returned v ∧ Own byteR 1 t c.w.heap.size 0 w' v b ∧ Below c.w.heap.size c.w w') : OSpec P f args 1 (b.map byteC) := by
  refine ⟨hfn, fun c vs hh hc ht => (h c vs hh hc ht).mono ?_⟩
  rintro e w' ⟨v, t, rfl, ⟨xs, ⟨hxl, how⟩, hxs⟩, hb⟩
  obtain ⟨g1, g2⟩ := Below.ev hc hh hb
  rw [cs_bytes] at hxs
  subst hxs
  have hfl : ∀ c' : Cx, Flat c' 1 (b.map byteC) (b.map byteV) := fun c' => bytes_flat (c := c') b
  rcases how with ⟨rfl, hx0⟩ | ⟨g, cap, cur, rfl, hg, hcell, hn, hm, hcs, htake⟩
  · have hb0 : b = [] := by simpa using hx0
    subst hb0
    -- a token without a block
    obtain ⟨q1, q2⟩ := Cx.grow g1
    obtain ⟨r1, r2⟩ := Cx.unborn q1 0 1 (by simp)
    refine ⟨_, _, _, _, rfl, r1, (g2.trans q2).trans r2, ?_, 0, rfl, by simp⟩
    refine .sl 1 [] _ none 0 0 0 0 (fun _ _ => undef) rfl (Nat.le_refl _) (Nat.zero_le _) (fun h => absurd rfl h) (fun j e h => by simp at h) (fun j e i a h => by simp at h) (fun j e i a h => by simp at h) ⟨⟨_, by simp; rfl, rfl⟩, fun k' n' e => ?_⟩
    simp at e
    obtain ⟨rfl, rfl⟩ := e
    exact ⟨rfl, Nat.le_refl _, fun _ => .inl rfl⟩
  · have hgl : g < w'.heap.size := (Array.getElem?_eq_some_iff.1 hcell).1
    have hno : ∀ (i : Nat) x, c.h[i]? ≠ some x := fun i x h => by rw [hh] at h; simp at h
    have hone : ∀ (i : Nat) x, [ABlk.tok 1 b.length][i]? = some x → i = 0 ∧ x = .tok 1 b.length := fun i x h => by
      cases i with
      | zero => simp at h; exact ⟨rfl, h.symm⟩
      | succ i => simp at h
    have hrel : RelH ⟨fun _ => some g, [.tok 1 b.length], w', c.X⟩ := by
      refine ⟨fun i j x y bb hx hy _ _ _ _ => ?_, fun i x bb hx hbb => ?_, fun i x hx => ?_, fun bb o hX => ⟨Nat.lt_of_lt_of_le (hc.xs bb o hX).1 hb.size, fun i x hx _ hbb => ?_⟩⟩
      · rw [(hone i x hx).1, (hone j y hy).1]
      · cases hbb; exact hgl
      · obtain ⟨_, rfl⟩ := hone i x hx
        intro bb hbb
        cases hbb
        exact ⟨cur, t, hcell⟩
      · cases hbb
        have := (hc.xs _ o hX).1
        omega
    have hev : Ev c ⟨fun _ => some g, [.tok 1 b.length], w', c.X⟩ := by
      refine ⟨hb.os, hb.tape, hb.output, hb.size, rfl, fun bb o hX => ⟨⟨Nat.lt_of_lt_of_le hX.1 hb.size, hX.2.1, fun i x hx hbb => ?_⟩, cell_of_block (hb.block bb hX.1)⟩, fun bb hlt _ => ⟨hb.block bb hlt, ?_⟩, by rw [hh]; simp, fun i x hx => absurd hx (hno i x), keep_old hb.block⟩
      · cases hbb
        have := hX.1; omega
      · rintro ⟨i, x, hx, _, hbb⟩
        cases hbb; omega
    refine ⟨_, _, _, _, rfl, hrel, hev, RV.sl_of (t := .own 0) (hfl _) (by simpa using hn) hm g 0 (fun _ => rfl) (fun q u hq => ?_) ⟨⟨.tok 1 b.length, rfl, rfl⟩, fun k' n' e => ?_⟩ (by simp), 0, rfl, by simp⟩
    · have hql : q < b.length := by have := (List.getElem?_eq_some_iff.1 hq).1; simpa using this
      rw [Nat.zero_add]
      refine ⟨⟨hgl, fun hX => by have := (hc.xs _ _ hX).1; omega, fun i x hx hbb => ?_⟩, ?_⟩
      · obtain ⟨_, rfl⟩ := hone i x hx
        show q < b.length * 1
        omega
      · rw [cell_of_row w' g q cur t (0, 0) hcell]
        rw [← htake, List.getElem?_take] at hq
        split at hq
        · simpa using hq
        · cases hq
    · simp at e
      obtain ⟨rfl, rfl⟩ := e
      exact ⟨rfl, by simp, fun _ => .inr ⟨g, cur, t, rfl, rfl, hcell, by simpa using hcs, by simpa using hne⟩⟩
end Go.Proofs.YtgonmnjgodleeaaDoor
