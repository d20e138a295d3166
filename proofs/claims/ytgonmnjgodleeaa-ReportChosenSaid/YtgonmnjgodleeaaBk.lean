/-
  Temporaries that no one asks for any more, forgotten. Nothing here speaks of the program.
-/
import Derived.Test.YtgonmnjgodleeaaBb
namespace Go.Proofs.Ytgonmnjgodleeaa
open Go.RowKit
def junkAt : List Nat → List AV → List AV
  | [], t => t
  | j :: js, t => junkAt js (t.set j .junk)
theorem TRel.junk {c : Cx} {vs : Array Value} {t : List AV} (h : TRel c vs t) (j : Nat) : TRel c vs (t.set j .junk) := by
  refine ⟨by simp [h.1], fun m v a hv ha => ?_⟩
  by_cases hm : j = m
  · subst hm
    rw [List.getElem?_set] at ha
    simp only [if_true] at ha
    split at ha
    · cases ha; exact .junk v
    · cases ha
  · rw [List.getElem?_set_ne hm] at ha
    exact h.2 m v a hv ha
theorem TRel.junkAt {c : Cx} {vs : Array Value} : ∀ (js : List Nat) {t : List AV}, TRel c vs t → TRel c vs (junkAt js t)
  | [], _, h => h
  | j :: js, _, h => TRel.junkAt js (h.junk j)
theorem Weak.junk {P : Program} {c0 : Cx} {s : AState} (js : List Nat) : Weak P c0 s ⟨junkAt js s.t, s.h⟩ := ⟨fun ρ _ _ h1 h2 h3 => ⟨ρ, h1, h2, h3.junkAt js⟩⟩
theorem cut_at {P G : Prop} (k : P → G) (c : P) : G := k c
end Go.Proofs.Ytgonmnjgodleeaa
