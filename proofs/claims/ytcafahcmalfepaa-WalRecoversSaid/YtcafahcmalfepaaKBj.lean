/-
  A row by a new token told as one by the old one, on the way round a loop. Nothing here speaks of the program.
-/
import Derived.Test.YtcafahcmalfepaaMc
namespace Go.Proofs.Ytcafahcmalfepaa
open Go.RowKit
theorem Weak.via {P : Program} {c0 : Cx} {s : AState} {t : List AV} {h : List ABlk} (j i i2 k n k1 n1 : Nat) (l : List (List AV)) (hc0 : c0.h = []) (hne : i ≠ i2) (hj : t[j]? = some (.sl k l (.own i)))
    (hA : Weak P c0 s ⟨t.set j (.sl k l (.own i2)), s.h⟩) (hi2 : s.h[i2]? = some (.tok k n)) (hi : s.h[i]? = some (.tok k1 n1))
    (ht : refsL (fun q => q != i && q != i2) (t.set j .junk) = true) (hh : (s.h.all fun x => x.refs fun q => q != i && q != i2) = true)
    (hB : Weak P c0 ⟨t, (s.h.set i (.tok k n)).set i2 .dead⟩ ⟨t, h⟩) : Weak P c0 s ⟨t, h⟩ := by
  have hjl : j < t.length := (List.getElem?_eq_some_iff.1 hj).1
  have e1 : (t.set j (.sl k l (.own i2)))[j]? = some (.sl k l (.own i2)) := List.getElem?_set_self hjl
  have e2 : (t.set j (AV.sl k l (.own i2))).set j AV.junk = t.set j .junk := List.set_set ..
  have e3 : (t.set j (AV.sl k l (.own i2))).set j (.sl k l (.own i)) = t := by
    rw [List.set_set]
    obtain ⟨_, e⟩ := List.getElem?_eq_some_iff.1 hj
    rw [← e, List.set_getElem_self]
  have g := Weak.retok (P := P) (c0 := c0) (s := ⟨t.set j (.sl k l (.own i2)), s.h⟩) j i i2 k n k1 n1 l (by rw [hc0]; simp) (by rw [hc0]; simp) hne e1 hi2 hi (by rw [e2]; exact ht) hh
  rw [e3] at g
  exact hA.trans (g.trans hB)
end Go.Proofs.Ytcafahcmalfepaa
