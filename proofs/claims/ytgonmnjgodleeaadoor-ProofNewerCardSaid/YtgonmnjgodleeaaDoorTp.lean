/-
  A law's run, from its shadow: the arguments lie in the world as they were handed in.
-/
import Derived.Test.YtgonmnjgodleeaaDoorBr
namespace Go.Proofs.YtgonmnjgodleeaaDoor
open Go.RowKit
/-- Nothing of the run's own yet. -/
def Cx.top (w : World) : Cx := ⟨fun _ => none, [], w, fun _ _ => False⟩
theorem Cx.top_rel (w : World) : RelH (Cx.top w) :=
  ⟨fun i j x y b h => by simp [Cx.top] at h, fun i x b h => by simp [Cx.top] at h, fun i x h => by simp [Cx.top] at h, fun b o h => h.elim⟩
theorem Cx.top_im {w : World} {b o : Nat} (h : b < w.heap.size) : (Cx.top w).im b o := ⟨h, fun h => h, fun i x h => by simp [Cx.top] at h⟩
/-- A row, where it lies. -/
theorem RV.of_bytes {w : World} {A : Option Addr} {b : Bytes} {cap : Nat} (h : Sl byteR 1 w.heap.size w A b) (h1 : b.length ≤ cap) (h2 : cap ≤ maxLen) : RV (Cx.top w) (.slice A b.length cap) (bytesA b) := by
  have hg : ∃ B o, (b.map byteC ≠ [] → A = some ⟨B, o, none⟩) ∧ ∀ (q : Nat) u, (b.map byteV)[q]? = some u → B < w.heap.size ∧ w.cell? ⟨B, o + q, none⟩ = some u := by
    by_cases hn : b = []
    · subst hn
      exact ⟨0, 0, fun h => absurd rfl h, fun q u h => by simp at h⟩
    · obtain ⟨B, o, rfl, hlt, hc⟩ := h hn
      refine ⟨B, o, fun _ => rfl, fun q u hq => ⟨hlt, ?_⟩⟩
      rw [List.getElem?_map, Option.map_eq_some_iff] at hq
      obtain ⟨a, ha, rfl⟩ := hq
      obtain ⟨cs, hl, rfl, hcs⟩ := hc q a ha
      have := hcs 0 (byteV a) rfl
      rwa [Nat.mul_one, Nat.add_zero] at this
  obtain ⟨B, o, hA, hq⟩ := hg
  exact RV.sl_of (t := .no) (bytes_flat (c := Cx.top w) b) (by simpa using h1) h2 B o hA (fun q u hu => ⟨Cx.top_im (hq q u hu).1, (hq q u hu).2⟩) trivial (by simp)
theorem TRel.nil {c : Cx} : TRel c #[] [] := ⟨rfl, fun i v x h => by simp at h⟩
theorem TRel.cons {c : Cx} {v : Value} {x : AV} {vs : List Value} {xs : List AV} (h : RV c v x) (t : TRel c vs.toArray xs) : TRel c (v :: vs).toArray (x :: xs) := by
  refine ⟨by have := t.1; simpa using this, fun i u y hu hy => ?_⟩
  cases i with
  | zero => simp at hu hy; subst hu hy; exact h
  | succ i => exact t.2 i u y (by simpa using hu) (by simpa using hy)
theorem law_top {P : Program} {f : FuncId} {args : List AV} {v : Bool} (h : ASpec P f args (.bool v)) (w : World) (vs : Array Value) (ht : TRel (Cx.top w) vs args) : Calls P f vs w fun e w' => e = .returned (.bool v) ∧ Below w.heap.size w w' := by
  refine (h.run (Cx.top w) vs rfl (Cx.top_rel w) ht).mono ?_
  rintro e w' ⟨u, ρ', r, h', rfl, g1, g2, g3, hle⟩
  have hv := hle.rv g3
  cases hv
  refine ⟨rfl, g2.os, g2.tape, g2.output, g2.size, fun b hb => (g2.fr b hb ?_).1⟩
  rintro ⟨i, x, hx, _⟩; simp [Cx.top] at hx
end Go.Proofs.YtgonmnjgodleeaaDoor
