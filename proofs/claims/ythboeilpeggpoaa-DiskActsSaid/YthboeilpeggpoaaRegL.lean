/-
  The steps through a region that draws its order: whatever is read is read from a base world; an unwanted operation, one that only reads, one that is carried out. Nothing here speaks of the program.
-/
import Derived.Test.YthboeilpeggpoaaStr
import Derived.Deep.RegionHeld3
namespace Go.Proofs.Ythboeilpeggpoaa
open Go.RowKit Go.Deep
section
variable {P : Program} {ops : Array Oper} {Q : Exit → Act → World → Prop} {md : Region.Mode} {S S' : World → Prop}
theorem wpOp_imp {K K' : Act → World → Prop} {i : Nat} {a : Act} {w : World} (h : ∀ a w, K a w → K' a w) (hh : wpOp P ops Q i K a w) : wpOp P ops Q i K' a w := wpOp_mono h hh
/-- More may be held. -/
theorem wpAnyH_more (hSS : ∀ w, S' w → S w) : ∀ (fuel : Nat) (listed : Array Bool) (a : Act) (w : World), wpAnyH P md ops Q S' fuel listed a w → wpAnyH P md ops Q S fuel listed a w
  | 0, _, _, _, h => h
  | fuel + 1, _, _, _, h => ⟨h.1, fun i hi => wpOp_mono (fun a' w' h' => ⟨hSS _ h'.1, wpAnyH_more hSS fuel _ a' w' h'.2⟩) (h.2 i hi)⟩
/-- From here on nothing of the world at hand turns. -/
theorem wpAnyH_base {B : Nat} {wb w : World} {fuel : Nat} {listed : Array Bool} {a : Act} (hB : B ≤ w.heap.size) (hb : Below B wb w)
    (h : Below w.heap.size w w → wpAnyH P md ops Q (Below w.heap.size w) fuel listed a w) : wpAnyH P md ops Q (Below B wb) fuel listed a w :=
  wpAnyH_more (fun w' h' => hb.trans (h'.mono hB)) _ _ _ _ (h (Below.refl _ _))
theorem reg_start {id : Nat} {a : Act} {w : World} (hm : P.follows .mixedOrders = true)
    (h : ∀ w0, Below w.heap.size w w0 → w0.heap.size = w.heap.size → wpAnyH P .any ops Q (Below w.heap.size w) ops.size (Array.replicate ops.size false) a w0) : (Code.region id ops true).wp P Q a w :=
  wp_region_held_drew (S := Below w.heap.size w) hm (Below.refl _ _).drew fun hs => h _ hs (by simp)
theorem below_pre {w w1 w2 : World} (h : Below w.heap.size w w1) (k : Below w1.heap.size w1 w2) : w.heap.size ≤ w1.heap.size ∧ Below w.heap.size w w2 := ⟨h.size, below_then h k⟩
/-- append to a row of the call's own, in a region. -/
theorem opw_app {α : Type} {R : Rep α} {k B base bytes : Nat} {e : TypeId} {w : World} {o : Oper} {a : Act} {K : Act → World → Prop} (s x : Operand) (t : TypeId)
    (ho : o.op = .call { callee := .builtin .append, args := #[s, x], argTypes := #[t, t] }) (T : Tab P t e k bytes) (v : Value) (l l2 : List α) (hs : a.eval s = v) (hown : Own R k e base B w v l) (hB : B ≤ base)
    (A : Option Addr) (m c : Nat) (ys : List Value) (hx : a.eval x = .slice A m c) (hm : l2.length = m) (hr : RdC w k A m ys) (hc : Cs R k B w ys l2)
    (h1 : ∀ u ∈ ys, u.oneCell' = true) (hlen : (l.length + l2.length) * bytes ≤ 140737488355328) (h63 : l.length + l2.length ≤ maxLen) (hbase : base ≤ w.heap.size)
    (h : ∀ v' w', Own R k e base B w' v' (l ++ l2) → Below base w w' → K (a.put o.dst v') w') : Oper.wp P o a w K Q := by
  obtain ⟨v', w', hrun, h2, h3, h4, h5⟩ := run_append_own_any (P := P) (w := w) t o.type T hown hB A m c ys hm hr hc h1 hlen h63 hbase
  unfold Oper.wp execOp
  simp only [ho, resolve, invoke, builtin, Sem.run_bind, Sem.run_pure, Result.andThen_ok, List.map_toArray, List.map_cons, List.map_nil, hs, hx, hrun]
  exact h v' w' h2 h3
/-- The operation that stands at a place of a written region. -/
def opNth : List Oper → Nat → Option Oper
  | [], _ => none
  | o :: _, 0 => some o
  | _ :: l, i + 1 => opNth l i
theorem opNth_spec : ∀ (l : List Oper) (i : Nat) (o : Oper), opNth l i = some o → l.toArray[i]? = some o
  | [], i, o, h => by cases h
  | _ :: _, 0, _, h => by simpa [opNth] using h
  | _ :: l, i + 1, o, h => by simpa using opNth_spec l i o h
section
variable {l : List Oper} {listed : Array Bool} {fuel : Nat} {a : Act} {w : World}
/-- An operation that nobody asks for. -/
theorem reg_un (i : Nat) {oi : Oper} (hi : opNth l i = some oi) (hs : Region.noSelect l.toArray = true) (hf : Region.free md l.toArray listed i = true) (hr : (Region.ready md l.toArray listed).contains i = true)
    (hQ : ∀ c a w, Q (.panic c) (a.put oi.dst undef) w → Q (.panic c) a w) (hu : Region.wanted oi (yielded l.toArray a.tmps) = false) (hS : S w)
    (h : wpAnyH P md l.toArray Q S fuel (listed.setIfInBounds i true) (a.put oi.dst undef) w) : wpAnyH P md l.toArray Q S (fuel + 1) listed a w :=
  wpAnyH_take (opNth_spec _ _ _ hi) hs hf hr hQ (Or.inr ⟨hu, rfl⟩) hS h
/-- An operation that yields its value wherever S holds. -/
theorem reg_rd (i : Nat) {oi : Oper} {v : Value} (hi : opNth l i = some oi) (hs : Region.noSelect l.toArray = true) (hf : Region.free md l.toArray listed i = true) (hr : (Region.ready md l.toArray listed).contains i = true)
    (hQ : ∀ c a w, Q (.panic c) (a.put oi.dst v) w → Q (.panic c) a w) (hu : Region.wanted oi (yielded l.toArray a.tmps) = true) (hS : S w)
    (hy : ∀ w, S w → (execOp a.eval oi).run P w = .ok (.value v) w) (h : wpAnyH P md l.toArray Q S fuel (listed.setIfInBounds i true) (a.put oi.dst v) w) : wpAnyH P md l.toArray Q S (fuel + 1) listed a w :=
  wpAnyH_take (opNth_spec _ _ _ hi) hs hf hr hQ (Or.inl ⟨hu, hy⟩) hS h
/-- An operation that is carried out. -/
theorem reg_do {i : Nat} {o : Oper} {rs : List Nat} (ho : opNth l i = some o) (hu : Region.wanted o (yielded l.toArray a.tmps) = true)
    (h : ∀ K' : Act → World → Prop, Shut (∀ a w, S w → (S w → wpAnyH P md l.toArray Q S fuel (listed.setIfInBounds i true) a w) → K' a w) → Oper.wp P o a w K' Q)
    (hs : AllReadyH P md l.toArray Q S fuel listed a w rs) : AllReadyH P md l.toArray Q S fuel listed a w (i :: rs) :=
  AllReadyH.cons (opNth_spec _ _ _ ho) (fun K' hK => by rw [if_pos hu]; exact h K' hK) hs
/-- The last of them. -/
theorem reg_do1 {i : Nat} {o : Oper} (ho : opNth l i = some o) (hu : Region.wanted o (yielded l.toArray a.tmps) = true)
    (h : ∀ K' : Act → World → Prop, Shut (∀ a w, S w → (S w → wpAnyH P md l.toArray Q S fuel (listed.setIfInBounds i true) a w) → K' a w) → Oper.wp P o a w K' Q) :
    AllReadyH P md l.toArray Q S fuel listed a w [i] := reg_do ho hu h AllReadyH.nil
end
end
end Go.Proofs.Ythboeilpeggpoaa
