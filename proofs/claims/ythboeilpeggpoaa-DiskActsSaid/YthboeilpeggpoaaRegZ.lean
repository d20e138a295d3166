/-
  A region that draws its order, where some of the call's own blocks (those outside Z) may be written.
-/
import Derived.Test.YthboeilpeggpoaaRegL
import Derived.Test.YthboeilpeggpoaaZRep
namespace Go.Proofs.Ythboeilpeggpoaa
open Go.RowKit Go.Deep
section
variable {P : Program} {ops : Array Oper} {Q : Exit → Act → World → Prop} {md : Region.Mode}
theorem reg_startZ (Z : Nat → Prop) {id : Nat} {a : Act} {w : World} (hm : P.follows .mixedOrders = true)
    (h : ∀ w0, Agree Z w w0 → Below w.heap.size w w0 → wpAnyH P .any ops Q (Agree Z w) ops.size (Array.replicate ops.size false) a w0) : (Code.region id ops true).wp P Q a w :=
  wp_region_held_drew (S := Agree Z w) hm (Agree.refl w).drew fun hs => h _ hs (Below.refl _ _).drew
/-- From here on nothing of Z turns of the world at hand. -/
theorem wpAnyZ_base {Z : Nat → Prop} {wb w : World} {fuel : Nat} {listed : Array Bool} {a : Act} (hb : Agree Z wb w)
    (h : Agree Z w w → wpAnyH P md ops Q (Agree Z w) fuel listed a w) : wpAnyH P md ops Q (Agree Z wb) fuel listed a w :=
  wpAnyH_more (fun _ h' => hb.trans h') _ _ _ _ (h (Agree.refl _))
end
/-! ### a struct that is laid into a block of the call's own -/
theorem setCells_agree {Z : Nat → Prop} {X : Nat} (hX : ¬ Z X) : ∀ (cs : List Value) (o : Nat) (w : World), Agree Z w (w.setCells X o cs)
  | [], _, w => Agree.refl w
  | v :: cs, o, w => ((Agree.refl w).setCell (p := ⟨X, o, none⟩) hX v).trans (setCells_agree hX cs (o + 1) _)
theorem setCells_below {w wX : World} {X : Nat} (hb : Below w.heap.size w wX) (hX : w.heap.size ≤ X) (cs : List Value) (o : Nat) : Below w.heap.size w (wX.setCells X o cs) :=
  hb.trans ((setCells_agree (Z := fun k => k ≠ X) (by simp) cs o wX).below fun k hk => ⟨Nat.lt_of_lt_of_le hk hb.size, by omega⟩)
theorem Own.agree_but {α : Type} {R : Rep α} {k B X base : Nat} {e : TypeId} {w w' : World} {v : Value} {l : List α} (h : Own R k e base B w v l) (hb : Agree (fun k => k ≠ X) w w') (hX : X < base) (hB : B ≤ X) (hBw : B ≤ w.heap.size) : Own R k e base B w' v l := by
  obtain ⟨xs, h1, h2⟩ := h
  refine ⟨xs, h1.kept (row := some X) ⟨hb.os, hb.tape, hb.output, hb.size, fun i hi hne => hb.block i hi (by simpa using hne)⟩ ?_, h2.below (hb.below fun k hk => ⟨by omega, by omega⟩)⟩
  cases hv : v.ownBlock with
  | none => exact .inl rfl
  | some q =>
    right
    have := (h1.lt q hv).1
    simp only [ne_eq, Option.some.injEq]
    omega
theorem there_new {w1 wX : World} {cs : List Value} {t : TypeId} {b : Nat} (hU : Below (w1.alloc (.cells cs.toArray t)).heap.size (w1.alloc (.cells cs.toArray t)) wX) (hb : b = w1.heap.size) : wX.there b 0 cs.length := by
  subst hb
  intro j hj
  have hlt : w1.heap.size < (w1.alloc (.cells cs.toArray t)).heap.size := by simp
  rw [hU.cell (p := ⟨w1.heap.size, 0 + j, none⟩) hlt, hU.frozen (p := ⟨w1.heap.size, 0 + j, none⟩) hlt, Nat.zero_add, World.cell?_alloc_new, World.frozen?_alloc_new]
  exact ⟨by simp [hj], rfl⟩
end Go.Proofs.Ythboeilpeggpoaa
