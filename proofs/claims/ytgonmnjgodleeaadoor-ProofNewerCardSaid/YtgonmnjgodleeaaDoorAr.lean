/-
  The shadow of a run: how the blocks go on (a new one, one that is written, a row that is appended to). Nothing here speaks of the program.
-/
import Derived.Test.YtgonmnjgodleeaaDoorAv
namespace Go.Proofs.YtgonmnjgodleeaaDoor
open Go.RowKit
def setρ (ρ : Nat → Option Nat) (i : Nat) (b : Option Nat) : Nat → Option Nat := fun j => if j = i then b else ρ j
theorem setρ_same (ρ : Nat → Option Nat) (i : Nat) (b : Option Nat) : setρ ρ i b i = b := by simp [setρ]
theorem setρ_ne (ρ : Nat → Option Nat) {i j : Nat} (b : Option Nat) (h : j ≠ i) : setρ ρ i b j = ρ j := by simp [setρ, h]
theorem cell_of_block {w w' : World} {b o : Nat} (h : w'.heap[b]? = w.heap[b]?) : w'.cell? ⟨b, o, none⟩ = w.cell? ⟨b, o, none⟩ := World.cell?_of_block (a := ⟨b, o, none⟩) h
/-- One more place, free. -/
theorem Cx.grow {c : Cx} (hc : RelH c) : RelH ⟨setρ c.ρ c.h.length none, c.h ++ [.free], c.w, c.X⟩ ∧ Ev c ⟨setρ c.ρ c.h.length none, c.h ++ [.free], c.w, c.X⟩ := by
  have hρ : ∀ (i : Nat) x, c.h[i]? = some x → setρ c.ρ c.h.length none i = c.ρ i := fun i x hx => by
    have : i < c.h.length := (List.getElem?_eq_some_iff.1 hx).1
    exact setρ_ne _ _ (by omega)
  have hcase : ∀ (i : Nat) y b, (c.h ++ [ABlk.free])[i]? = some y → setρ c.ρ c.h.length none i = some b → c.h[i]? = some y ∧ c.ρ i = some b := fun i y b hy hb => by
    by_cases hi : i = c.h.length
    · subst hi; rw [setρ_same] at hb; cases hb
    · rw [setρ_ne _ _ hi] at hb
      refine ⟨?_, hb⟩
      by_cases hl : i < c.h.length
      · rwa [List.getElem?_append_left hl] at hy
      · rw [List.getElem?_eq_none (by simp; omega)] at hy; cases hy
  have hev : Ev c ⟨setρ c.ρ c.h.length none, c.h ++ [.free], c.w, c.X⟩ := by
    refine ⟨rfl, rfl, rfl, Nat.le_refl _, rfl, fun b o h => ⟨⟨h.1, h.2.1, fun i x hx hb => ?_⟩, rfl⟩, fun b hb hm => ⟨rfl, ?_⟩, by simp, fun i x hx hf => ?_, fun _ vs _ _ h => ⟨vs, h, rfl⟩⟩
    · obtain ⟨h1, h2⟩ := hcase i x b hx hb
      exact h.2.2 i x h1 h2
    · rintro ⟨i, x, hx, hl, hi⟩
      obtain ⟨h1, h2⟩ := hcase i x b hx hi
      exact hm ⟨i, x, h1, hl, h2⟩
    · have hi : i < c.h.length := (List.getElem?_eq_some_iff.1 hx).1
      refine ⟨x, by rw [List.getElem?_append_left hi]; exact hx, hf, fun ht => ⟨ht, hρ i x hx⟩, fun k n e => ⟨n, e, .inr ⟨rfl, hρ i x hx, fun _ _ => rfl⟩⟩⟩
  refine ⟨⟨fun i j x y b hx hy lx ly hi hj => ?_, fun i x b hx hb => ?_, fun i x hx => ?_, fun b o h => ⟨(hc.xs b o h).1, fun i x hx hl hb => by obtain ⟨g1, g2⟩ := hcase i x b hx hb; exact (hc.xs b o h).2 i x g1 hl g2⟩⟩, hev⟩
  · obtain ⟨h1, h2⟩ := hcase i x b hx hi
    obtain ⟨h3, h4⟩ := hcase j y b hy hj
    exact hc.inj i j x y b h1 h3 lx ly h2 h4
  · obtain ⟨h1, h2⟩ := hcase i x b hx hb
    exact hc.here i x b h1 h2
  · by_cases hl : i < c.h.length
    · have hx' : c.h[i]? = some x := by rw [← hx]; exact (List.getElem?_append_left hl).symm
      exact (hc.blk i x hx').mono hev (hρ i x hx') fun _ _ _ => rfl
    · have hi : i = c.h.length := by
        have := (List.getElem?_eq_some_iff.1 hx).1
        simp at this; omega
      subst hi
      simp at hx
      subst hx
      exact setρ_same _ _ _
/-- A block that is made anew, for a place that is free. -/
theorem Cx.alloc {c : Cx} (hc : RelH c) (i : Nat) (x0 : ABlk) (hi : c.h[i]? = some x0) (x : ABlk) (hx0 : x0 = .free ∨ ∃ k n n', x0 = .tok k n ∧ x = .tok k n' ∧ n < n') (hxf : x.isfree = false) (w' : World) (o : Obj) (hw : w'.heap = c.w.heap.push o) (h1 : w'.os = c.w.os) (h2 : w'.tape = c.w.tape) (h3 : w'.output = c.w.output)
    (hx : Ev c ⟨setρ c.ρ i (some c.w.heap.size), c.h.set i x, w', c.X⟩ → BlkOk ⟨setρ c.ρ i (some c.w.heap.size), c.h.set i x, w', c.X⟩ i x) :
    RelH ⟨setρ c.ρ i (some c.w.heap.size), c.h.set i x, w', c.X⟩ ∧ Ev c ⟨setρ c.ρ i (some c.w.heap.size), c.h.set i x, w', c.X⟩ := by
  have hil : i < c.h.length := (List.getElem?_eq_some_iff.1 hi).1
  have hold : ∀ b, b < c.w.heap.size → w'.heap[b]? = c.w.heap[b]? := fun b hb => by rw [hw, Array.getElem?_push_lt hb, Array.getElem?_eq_getElem hb]
  have hcase : ∀ (j : Nat) y b, (c.h.set i x)[j]? = some y → setρ c.ρ i (some c.w.heap.size) j = some b → (j = i ∧ y = x ∧ b = c.w.heap.size) ∨ (j ≠ i ∧ c.h[j]? = some y ∧ c.ρ j = some b ∧ b < c.w.heap.size) := fun j y b hy hb => by
    by_cases hj : j = i
    · subst hj
      rw [List.getElem?_set_self hil] at hy
      rw [setρ_same] at hb
      exact .inl ⟨rfl, (Option.some.inj hy).symm, (Option.some.inj hb).symm⟩
    · rw [List.getElem?_set_ne (Ne.symm hj)] at hy
      rw [setρ_ne _ _ hj] at hb
      exact .inr ⟨hj, hy, hb, hc.here j y b hy hb⟩
  have hev : Ev c ⟨setρ c.ρ i (some c.w.heap.size), c.h.set i x, w', c.X⟩ := by
    refine ⟨h1, h2, h3, by rw [hw]; simp, rfl, fun b o h => ⟨⟨by rw [hw]; simp; have := h.1; omega, h.2.1, fun j y hy hb => ?_⟩, cell_of_block (hold b h.1)⟩, fun b hb hm => ⟨hold b hb, ?_⟩, by simp, fun j y hy hf => ?_, keep_old hold⟩
    · rcases hcase j y b hy hb with ⟨_, _, rfl⟩ | ⟨_, g1, g2, _⟩
      · have := h.1; omega
      · exact h.2.2 j y g1 g2
    · rintro ⟨j, y, hy, hl, hj⟩
      rcases hcase j y b hy hj with ⟨_, _, rfl⟩ | ⟨_, g1, g2, _⟩
      · omega
      · exact hm ⟨j, y, g1, hl, g2⟩
    · by_cases hj : j = i
      · subst hj
        rw [hi] at hy
        obtain rfl := Option.some.inj hy
        rcases hx0 with rfl | ⟨k, n, n', rfl, rfl, hn⟩
        · cases hf
        · exact ⟨_, List.getElem?_set_self hil, rfl, (fun ht => by cases ht), fun k2 n2 e => by cases e; exact ⟨n, rfl, .inl hn⟩⟩
      · exact ⟨y, by rw [List.getElem?_set_ne (Ne.symm hj)]; exact hy, hf, fun ht => ⟨ht, setρ_ne _ _ hj⟩, fun k n e => ⟨n, e, .inr ⟨rfl, setρ_ne _ _ hj, fun b hb => hold b (hc.here j y b hy hb)⟩⟩⟩
  refine ⟨⟨fun j j' y y' b hy hy' ly ly' hb hb' => ?_, fun j y b hy hb => ?_, fun j y hy => ?_, fun b o h => ⟨by rw [hw]; simp; have := (hc.xs b o h).1; omega, fun j y hy hl hb => by
    rcases hcase j y b hy hb with ⟨_, _, rfl⟩ | ⟨_, g1, g2, _⟩
    · have := (hc.xs _ o h).1; omega
    · exact (hc.xs b o h).2 j y g1 hl g2⟩⟩, hev⟩
  · rcases hcase j y b hy hb with ⟨rfl, rfl, rfl⟩ | ⟨_, g1, g2, g3⟩ <;> rcases hcase j' y' _ hy' hb' with ⟨rfl, rfl, q⟩ | ⟨_, q1, q2, q3⟩
    · rfl
    · omega
    · omega
    · exact hc.inj j j' y y' b g1 q1 ly ly' g2 q2
  · rcases hcase j y b hy hb with ⟨rfl, rfl, rfl⟩ | ⟨_, g1, g2, g3⟩
    · rw [hw]; simp
    · rw [hw]; simp; omega
  · by_cases hj : j = i
    · subst hj
      rw [List.getElem?_set_self hil] at hy
      obtain rfl := Option.some.inj hy
      exact hx hev
    · rw [List.getElem?_set_ne (Ne.symm hj)] at hy
      exact (hc.blk j y hy).mono hev (setρ_ne _ _ hj) fun b _ hb => hold b (hc.here j y b hy hb)
/-- A block that is written. -/
theorem Cx.write {c : Cx} (hc : RelH c) (i : Nat) (x0 x : ABlk) (b : Nat) (hi : c.h[i]? = some x0) (hb : c.ρ i = some b) (hl : x0.live = true) (hxl : x.live = true)
    (w' : World) (hs : w'.heap.size = c.w.heap.size) (h1 : w'.os = c.w.os) (h2 : w'.tape = c.w.tape) (h3 : w'.output = c.w.output)
    (hw : ∀ b', b' ≠ b → w'.heap[b']? = c.w.heap[b']?)
    (hfix : ∀ o, x0.fix o → x.fix o ∧ w'.cell? ⟨b, o, none⟩ = c.w.cell? ⟨b, o, none⟩)
    (ht : (x0.istok = false ∧ x.istok = false) ∨ ∃ k n n', x0 = .tok k n ∧ x = .tok k n' ∧ (n < n' ∨ (n = n' ∧ w'.heap[b]? = c.w.heap[b]?)))
    (hkp : ∀ vs e f, c.w.heap[b]? = some (.cells vs e f) → ∃ vs', w'.heap[b]? = some (.cells vs' e f) ∧ vs'.size = vs.size)
    (hx : Ev c ⟨c.ρ, c.h.set i x, w', c.X⟩ → BlkOk ⟨c.ρ, c.h.set i x, w', c.X⟩ i x) :
    RelH ⟨c.ρ, c.h.set i x, w', c.X⟩ ∧ Ev c ⟨c.ρ, c.h.set i x, w', c.X⟩ := by
  have hil : i < c.h.length := (List.getElem?_eq_some_iff.1 hi).1
  have hcase : ∀ (j : Nat) y, (c.h.set i x)[j]? = some y → (j = i ∧ y = x) ∨ (j ≠ i ∧ c.h[j]? = some y) := fun j y hy => by
    by_cases hj : j = i
    · subst hj
      rw [List.getElem?_set_self hil] at hy
      exact .inl ⟨rfl, (Option.some.inj hy).symm⟩
    · rw [List.getElem?_set_ne (Ne.symm hj)] at hy
      exact .inr ⟨hj, hy⟩
  have hne : ∀ (j : Nat) y b', j ≠ i → c.h[j]? = some y → y.live = true → c.ρ j = some b' → b' ≠ b := fun j y b' hj hy ly hb' e => by
    subst e
    exact hj (hc.inj j i y x0 _ hy hi ly hl hb' hb)
  have hev : Ev c ⟨c.ρ, c.h.set i x, w', c.X⟩ := by
    refine ⟨h1, h2, h3, by simp [hs], rfl, fun b' o h => ?_, fun b' hb' hm => ?_, by simp, fun j y hy hf => ?_, fun b' vs e f h0 => (if hbb : b' = b then (by subst hbb; exact hkp vs e f h0) else ⟨vs, by rw [hw b' hbb]; exact h0, rfl⟩)⟩
    · by_cases hbb : b' = b
      · subst hbb
        obtain ⟨g1, g2⟩ := hfix o (h.2.2 i x0 hi hb)
        refine ⟨⟨by rw [hs]; exact h.1, h.2.1, fun j y hy hj => ?_⟩, g2⟩
        rcases hcase j y hy with ⟨rfl, rfl⟩ | ⟨_, g⟩
        · exact g1
        · exact h.2.2 j y g hj
      · refine ⟨⟨by rw [hs]; exact h.1, h.2.1, fun j y hy hj => ?_⟩, cell_of_block (hw b' hbb)⟩
        rcases hcase j y hy with ⟨rfl, rfl⟩ | ⟨_, g⟩
        · rw [hb] at hj; exact absurd (Option.some.inj hj).symm hbb
        · exact h.2.2 j y g hj
    · have hbb : b' ≠ b := fun e => hm ⟨i, x0, hi, hl, by rw [hb, e]⟩
      refine ⟨hw b' hbb, ?_⟩
      rintro ⟨j, y, hy, ly, hj⟩
      rcases hcase j y hy with ⟨rfl, rfl⟩ | ⟨_, g⟩
      · exact hm ⟨_, x0, hi, hl, hj⟩
      · exact hm ⟨j, y, g, ly, hj⟩
    · by_cases hj : j = i
      · subst hj
        rw [hi] at hy
        obtain rfl := Option.some.inj hy
        refine ⟨x, List.getElem?_set_self hil, (by cases x <;> first | rfl | cases hxl), fun ht' => ?_, fun k n e => ?_⟩
        · rcases ht with ⟨_, h⟩ | ⟨k, n, n', rfl, _⟩
          · exact ⟨h, rfl⟩
          · cases ht'
        · rcases ht with ⟨_, h⟩ | ⟨k', n1, n', rfl, rfl, g⟩
          · rw [e] at h; cases h
          · cases e
            refine ⟨n1, rfl, ?_⟩
            rcases g with g | ⟨rfl, g⟩
            · exact .inl g
            · refine .inr ⟨rfl, rfl, fun b' hb' => ?_⟩
              rw [hb] at hb'
              obtain rfl := Option.some.inj hb'
              exact g
      · refine ⟨y, by rw [List.getElem?_set_ne (Ne.symm hj)]; exact hy, hf, fun ht => ⟨ht, rfl⟩, fun k n e => ⟨n, e, .inr ⟨rfl, rfl, fun b' hb' => hw b' (hne j y b' hj hy (by rw [e]; rfl) hb')⟩⟩⟩
  refine ⟨⟨fun j j' y y' b1 hy hy' ly ly' hb1 hb1' => ?_, fun j y b1 hy hb1 => ?_, fun j y hy => ?_, fun b o h => ⟨by rw [hs]; exact (hc.xs b o h).1, fun j y hy ly hb => by
    rcases hcase j y hy with ⟨rfl, rfl⟩ | ⟨_, g⟩
    · exact (hc.xs b o h).2 _ x0 hi hl hb
    · exact (hc.xs b o h).2 j y g ly hb⟩⟩, hev⟩
  · rcases hcase j y hy with ⟨rfl, rfl⟩ | ⟨_, g⟩ <;> rcases hcase j' y' hy' with ⟨rfl, rfl⟩ | ⟨_, g'⟩
    · rfl
    · exact hc.inj _ j' x0 y' b1 hi g' hl ly' hb1 hb1'
    · exact hc.inj j _ y x0 b1 g hi ly hl hb1 hb1'
    · exact hc.inj j j' y y' b1 g g' ly ly' hb1 hb1'
  · rw [hs]
    rcases hcase j y hy with ⟨rfl, rfl⟩ | ⟨_, g⟩
    · exact hc.here _ x0 b1 hi hb1
    · exact hc.here j y b1 g hb1
  · rcases hcase j y hy with ⟨rfl, rfl⟩ | ⟨hj, g⟩
    · exact hx hev
    · exact (hc.blk j y g).mono hev rfl fun b' ly hb' => hw b' (hne j y b' hj g ly hb')
/-- A block that no one writes any more. -/
theorem Cx.freeze {c : Cx} (hc : RelH c) (i : Nat) (x0 : ABlk) (hi : c.h[i]? = some x0) (hf : x0.isfree = false) : RelH ⟨c.ρ, c.h.set i .dead, c.w, c.X⟩ ∧ Ev c ⟨c.ρ, c.h.set i .dead, c.w, c.X⟩ := by
  have hil : i < c.h.length := (List.getElem?_eq_some_iff.1 hi).1
  have hcase : ∀ (j : Nat) y, (c.h.set i ABlk.dead)[j]? = some y → (j = i ∧ y = .dead) ∨ (j ≠ i ∧ c.h[j]? = some y) := fun j y hy => by
    by_cases hj : j = i
    · subst hj
      rw [List.getElem?_set_self hil] at hy
      exact .inl ⟨rfl, (Option.some.inj hy).symm⟩
    · rw [List.getElem?_set_ne (Ne.symm hj)] at hy
      exact .inr ⟨hj, hy⟩
  have hev : Ev c ⟨c.ρ, c.h.set i .dead, c.w, c.X⟩ := by
    refine ⟨rfl, rfl, rfl, Nat.le_refl _, rfl, fun b o h => ⟨⟨h.1, h.2.1, fun j y hy hj => ?_⟩, rfl⟩, fun b hb hm => ⟨rfl, ?_⟩, by simp, fun j y hy hf' => ?_, fun _ vs _ _ h => ⟨vs, h, rfl⟩⟩
    · rcases hcase j y hy with ⟨rfl, rfl⟩ | ⟨_, g⟩
      · trivial
      · exact h.2.2 j y g hj
    · rintro ⟨j, y, hy, ly, hj⟩
      rcases hcase j y hy with ⟨rfl, rfl⟩ | ⟨_, g⟩
      · cases ly
      · exact hm ⟨j, y, g, ly, hj⟩
    · by_cases hj : j = i
      · subst hj
        exact ⟨.dead, List.getElem?_set_self hil, rfl, fun _ => ⟨rfl, rfl⟩, fun k n e => by cases e⟩
      · exact ⟨y, by rw [List.getElem?_set_ne (Ne.symm hj)]; exact hy, hf', fun ht => ⟨ht, rfl⟩, fun k n e => ⟨n, e, .inr ⟨rfl, rfl, fun _ _ => rfl⟩⟩⟩
  refine ⟨⟨fun j j' y y' b1 hy hy' ly ly' hb1 hb1' => ?_, fun j y b1 hy hb1 => ?_, fun j y hy => ?_, fun b o h => ⟨(hc.xs b o h).1, fun j y hy ly hb => by
    rcases hcase j y hy with ⟨rfl, rfl⟩ | ⟨_, g⟩
    · cases ly
    · exact (hc.xs b o h).2 j y g ly hb⟩⟩, hev⟩
  · rcases hcase j y hy with ⟨rfl, rfl⟩ | ⟨_, g⟩ <;> rcases hcase j' y' hy' with ⟨rfl, rfl⟩ | ⟨_, g'⟩
    · rfl
    · cases ly
    · cases ly'
    · exact hc.inj j j' y y' b1 g g' ly ly' hb1 hb1'
  · rcases hcase j y hy with ⟨rfl, rfl⟩ | ⟨_, g⟩
    · exact hc.here _ x0 b1 hi hb1
    · exact hc.here j y b1 g hb1
  · rcases hcase j y hy with ⟨rfl, rfl⟩ | ⟨hj, g⟩
    · trivial
    · exact (hc.blk j y g).mono hev rfl fun b' ly hb' => rfl
end Go.Proofs.YtgonmnjgodleeaaDoor
