/-
  Out of an argument's reading: structs, field by field. Nothing here speaks of the program.
-/
import Derived.Test.YtgonmnjgodleeaaOpen
import Derived.Test.YtgonmnjgodleeaaZRep
namespace Go.Proofs.Ytgonmnjgodleeaa
open Go.ChangeShapes Go.WideShapes Go.ChangeAt Go.RowKit Go.Deep
theorem inReach_each {H : Type} {P : Program} : ∀ {ts : List TypeId} {ds : List (DataW H)} {i : Nat} {t : TypeId} {d : DataW H}, ts[i]? = some t → ds[i]? = some d → (∀ n ∈ DataW.weightsEach P ts ds, n ≤ reachBytes) → InReach P t d
  | t0 :: ts, d0 :: ds, 0, t, d, ht, hd, h => by
    simp at ht hd
    subst ht hd
    exact fun n hn => h n (by simp only [DataW.weightsEach, List.mem_append]; exact Or.inl hn)
  | t0 :: ts, d0 :: ds, i + 1, t, d, ht, hd, h => inReach_each (ts := ts) (ds := ds) (i := i) (by simpa using ht) (by simpa using hd) fun n hn => h n (by simp only [DataW.weightsEach, List.mem_append]; exact Or.inr hn)
  | [], _, _, _, _, ht, _, _ => by simp at ht
  | _ :: _, [], _, _, _, _, hd, _ => by simp at hd
section
variable {P : Program} {H : Type} {enc : TypeId × Value → H} {w : World} {base : Nat} {sp : Nat → Bool} {hd : Bool} {t : TypeId}
theorem open_fields {fs : Array Field} {fuel : Nat} {cs : List Value} {x : DataW H × List MemPlace} (ht : P.underlying t = some (.struct fs)) (h : DataW.trod enc P w base sp hd fuel t cs = some x) (hr : InReach P t x.1) :
    cs.length = P.cellsOf t ∧ ∀ (i : Nat) (f : Field), fs[i]? = some f → ∀ {α : Type} {R : Rep α}, Opens P f.type R → ∃ a, R.at_ w.heap.size w ((cs.drop f.offset).take (P.cellsOf f.type)) a := by
  obtain ⟨xs, n, _, rfl, hlen, hxl, hg⟩ := DataW.trod_struct ht h
  refine ⟨hlen, fun i f hf α R hR => ?_⟩
  have hi : i < xs.length := by rw [hxl]; exact (Array.getElem?_eq_some_iff.1 hf).1
  have h1 := hg i f hf
  rw [List.getElem?_eq_getElem hi] at h1
  refine hR enc w base sp hd n _ xs[i] h1 ?_
  unfold InReach at hr
  simp only [DataW.weights, ht] at hr
  exact inReach_each (ts := fs.toList.map (·.type)) (ds := xs.map (·.1)) (i := i) (by rw [List.getElem?_map, Array.getElem?_toList, hf]; rfl) (by rw [List.getElem?_map, List.getElem?_eq_getElem hi]; rfl) hr
end
end Go.Proofs.Ytgonmnjgodleeaa
