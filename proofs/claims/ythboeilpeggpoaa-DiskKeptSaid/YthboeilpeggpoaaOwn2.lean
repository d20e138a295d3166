/-
  Two rows of the call's own beside one another: an append to the one leaves the other alone. Nothing here speaks of the program.
-/
import Derived.Test.YthboeilpeggpoaaZRep
namespace Go.Proofs.Ythboeilpeggpoaa
open Go.RowKit
theorem Own.keep {α : Type} {R : Rep α} {k B base : Nat} {e : TypeId} {w w' : World} {v : Value} {l : List α} {row : Option Nat} (h : Own R k e base B w v l) (hg : w.grownBy w' row) (hne : v.ownBlock = none ∨ v.ownBlock ≠ row) (hb : Below B w w') : Own R k e base B w' v l := by
  obtain ⟨xs, h1, h2⟩ := h
  exact ⟨xs, h1.kept hg hne, h2.below hb⟩
/-- What lies in Z, none of which is the row that was written. -/
theorem agree_grown {Z : Nat → Prop} {w w' : World} {row : Option Nat} (hg : w.grownBy w' row) (hZ : ∀ k, Z k → some k ≠ row) : Agree Z w w' :=
  ⟨hg.os, hg.tape, hg.output, hg.size, fun k hk hz => hg.block k hk (by
    have := hZ k hz
    intro h
    exact this (by rw [← h]))⟩
end Go.Proofs.Ythboeilpeggpoaa
