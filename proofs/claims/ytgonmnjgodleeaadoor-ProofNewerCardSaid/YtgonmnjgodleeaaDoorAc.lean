/-
  The shadow of a run: the operations of a region, calls, loops; a state told more weakly. Nothing here speaks of the program.
-/
import Derived.Test.YtgonmnjgodleeaaDoorAm
namespace Go.Proofs.YtgonmnjgodleeaaDoor
open Go.RowKit
section
variable {P : Program} {T : TabT} {f : FuncId} {c0 : Cx} {R : AV → List ABlk → Prop} {k k' : List Item} {s : AState}
/-- The operations of a region that are left, from number n on. -/
def AOps (P : Program) (f : FuncId) (c0 : Cx) (R : AV → List ABlk → Prop) (ops : Array Oper) (n : Nat) (rest : List Oper) (k : List Item) (s : AState) : Prop :=
  ops.toList.drop n = rest → ARun P f c0 R (.inRegion ops (List.range' n rest.length) :: k) s
theorem ARun.region {id : Nat} {ops : Array Oper} (h : AOps P f c0 R ops 0 ops.toList k s) : ARun P f c0 R (.code (.region id ops false) :: k) s := fun ρ w a h1 h2 h3 h4 => by
  have := h rfl ρ w a h1 h2 h3 h4
  rw [← List.range_eq_range', Array.length_toList] at this
  exact this.step fun _ _ _ => step_region
theorem AOps.nil {ops : Array Oper} {n : Nat} (h : ARun P f c0 R k s) : AOps P f c0 R ops n [] k s := fun _ ρ w a h1 h2 h3 h4 => (h ρ w a h1 h2 h3 h4).step fun _ _ _ => step_region_end
/-- The value that a guard asks. -/
def gval (ops : Array Oper) (t : List AV) (j : Nat) : Option AV := ((ops[j]?).bind (·.dst)).bind fun d => t[d]?
/-- Is the operation wanted? -/
inductive Wanted (ops : Array Oper) (t : List AV) : Option (Nat × Bool) → Bool → Prop where
  | free : Wanted ops t none true
  | test (j : Nat) (want g : Bool) (h : gval ops t j = some (.bool g)) : Wanted ops t (some (j, want)) (g == want)
  | undef (j : Nat) (want : Bool) (h : gval ops t j = some (.tup [])) : Wanted ops t (some (j, want)) false
theorem Wanted.ok {ops : Array Oper} {t : List AV} {o : Oper} {b : Bool} (hw : Wanted ops t o.guard b) {c : Cx} {vs : Array Value} (ht : TRel c vs t) : Region.wanted o (yielded ops vs) = b := by
  have key : ∀ (j : Nat) (x : AV), gval ops t j = some x → ∃ v, ((ops[j]?).bind (·.dst)).bind (vs[·]?) = some v ∧ RV c v x := by
    intro j x h
    unfold gval at h
    simp only [Option.bind_eq_some_iff] at h
    obtain ⟨d, ⟨o', ho, hd⟩, hx⟩ := h
    have hdl : d < vs.size := by rw [ht.1]; exact (List.getElem?_eq_some_iff.1 hx).1
    exact ⟨vs[d], by simp [ho, hd, hdl], ht.2 d _ x (Array.getElem?_eq_getElem hdl) hx⟩
  unfold Region.wanted
  generalize o.guard = g at hw
  cases hw with
  | free => rfl
  | test j want g h =>
    obtain ⟨v, hv, hr⟩ := key j _ h
    cases hr
    simp only [yielded, hv]
    cases g <;> cases want <;> rfl
  | undef j want h =>
    obtain ⟨v, hv, hr⟩ := key j _ h
    cases hr
    simp only [yielded, hv]
    rfl
theorem range'_cons {ops : Array Oper} {n : Nat} {o : Oper} {rest : List Oper} (h : ops.toList.drop n = o :: rest) : ops[n]? = some o ∧ ops.toList.drop (n + 1) = rest := by
  constructor
  · have := congrArg (·[0]?) h
    simpa [List.getElem?_drop] using this
  · rw [← List.drop_drop, h]; rfl
/-- One step over an operation that yields a value. -/
theorem step_value {b : Frame} {cs : List Frame} {ops : Array Oper} {i : Nat} {o : Oper} {rest : List Nat} {a : Act} {w w' : World} {v : Value} {nx : Next} (ho : ops[i]? = some o) (hw : Region.wanted o (yielded ops a.tmps) = true)
    (hr : (execOp a.eval o).run P w = .ok nx w') (hv : nx = .value v ∨ (nx = .skip ∧ v = undef)) : step P (lone (b.at a (.inRegion ops (i :: rest) :: k)) cs w) = .next (lone (b.at (a.put o.dst v) (.inRegion ops rest :: k)) cs w') := by
  have hg := stepG_op (P := P) (b := b) (k := k) (cs := cs) (w := w) (rest := rest) ho hw
  have hfin : ∀ v, (b.at a (.inRegion ops (i :: rest) :: k)).finish v = b.at (a.put o.dst v) (.inRegion ops rest :: k) := by
    intro v; rw [Frame.finish_at, ho]; rfl
  rcases hv with rfl | ⟨rfl, rfl⟩
  · exact step_lone_go (by rw [hg, ← hfin]; simp [stepG.apply, hr])
  · exact step_lone_go (by rw [hg, ← hfin]; simp [stepG.apply, hr])
theorem AOps.skip {ops : Array Oper} {n : Nat} {o : Oper} {rest : List Oper} (hw : Wanted ops s.t o.guard false) (h : AOps P f c0 R ops (n + 1) rest k ⟨aput s.t o.dst (.tup []), s.h⟩) : AOps P f c0 R ops n (o :: rest) k s := fun hd ρ w a h1 h2 h3 h4 => by
  obtain ⟨ho, hd'⟩ := range'_cons hd
  have hu : RV ⟨ρ, s.h, w, c0.X⟩ undef (.tup []) := .tup _ _ rfl (fun i v x h => by simp at h)
  have := h hd' ρ w (a.put o.dst undef) h1 h2 (h3.put o.dst hu) (by cases o.dst <;> exact h4)
  rw [List.length_cons, List.range'_succ]
  refine this.step fun b cs _ => ?_
  have hs := step_op_skip (P := P) (b := b) (a := a) (k := k) (cs := cs) (w := w) (ops := ops) (i := n) (rest := List.range' (n + 1) rest.length) (by simp [ho, hw.ok h3])
  simpa [ho] using hs
/-- The blocks, with a place more where the operation needs one. -/
def ext (t : List AV) (h : List ABlk) (op : Op) : List ABlk := if needs t op then h ++ [.free] else h
theorem AOps.op (hT : TabOk P T) {ops : Array Oper} {n : Nat} {o : Oper} {rest : List Oper} (hw : Wanted ops s.t o.guard true) {r : ARes} (hr : aop T s.h.length s.t (ext s.t s.h o.op) o.op = some r) (hp : r.p)
    (h : AOps P f c0 R ops (n + 1) rest k ⟨aput s.t o.dst r.v, aupd (ext s.t s.h o.op) r.d⟩) : AOps P f c0 R ops n (o :: rest) k s := fun hd ρ w a h1 h2 h3 h4 => by
  obtain ⟨ho, hd'⟩ := range'_cons hd
  rw [List.length_cons, List.range'_succ]
  have key : ∀ ρ1, RelH ⟨ρ1, ext s.t s.h o.op, w, c0.X⟩ → Ev ⟨ρ, s.h, w, c0.X⟩ ⟨ρ1, ext s.t s.h o.op, w, c0.X⟩ → (needs s.t o.op = true → (ext s.t s.h o.op)[s.h.length]? = some .free) →
      Goes P f (fun v w' => ∃ ρ' r h', RelH ⟨ρ', h', w', c0.X⟩ ∧ Ev c0 ⟨ρ', h', w', c0.X⟩ ∧ RV ⟨ρ', h', w', c0.X⟩ v r ∧ R r h') (.inRegion ops (n :: List.range' (n + 1) rest.length) :: k) a w := by
    intro ρ1 g1 g2 g3
    obtain ⟨nx, v, ρ', w', q1, q2, q3, q4, q5⟩ := aop_ok (P := P) hT g1 (h3.mono g2) o g3 hr hp
    have hev := g2.trans q4
    exact (h hd' ρ' w' (a.put o.dst v) q3 (h2.trans hev) ((h3.mono hev).put o.dst q5) (by cases o.dst <;> exact h4)).step fun b cs _ => step_value ho (hw.ok h3) q1 q2
  unfold ext at key
  by_cases hn : needs s.t o.op = true
  · rw [if_pos hn] at key
    obtain ⟨g1, g2⟩ := Cx.grow h1
    exact key _ g1 g2 fun _ => by simp
  · rw [if_neg hn] at key
    exact key ρ h1 (Ev.refl _) fun h => absurd h hn
/-- A function that may be called so. -/
def Callable (P : Program) (g : FuncId) : Prop := ∃ fn, P.funcs[g]? = some fn ∧ (fn.name == "runtime.NumGoroutine") = false ∧ fn.body.isNone = false
theorem run_callFunc {g : FuncId} (hc : Callable P g) (args : Array Value) (w : World) : (callFunc g args).run P w = .ok (.enter g args) w := by
  obtain ⟨fn, h1, h2, h3⟩ := hc
  have h2' : ¬ fn.name = "runtime.NumGoroutine" := by simpa using h2
  have h3' : ¬ fn.body = none := by intro e; rw [e] at h3; cases h3
  simp [callFunc, h1, h2', h3']
/-- A call of a function's value. -/
theorem AOps.call {ops : Array Oper} {n : Nat} {o : Oper} {rest : List Oper} (hw : Wanted ops s.t o.guard true) {x : Operand} {as : Array Operand} {ts : Array TypeId} (ho : o.op = .call { callee := .value x, args := as, argTypes := ts })
    {g : FuncId} {fi ca : List AV} (hx : aev s.t x = .fn (.func g) fi ca) (hg : Callable P g) (h : ACall P g (fi ++ as.toList.map (aev s.t) ++ ca) s.h fun r h' => AOps P f c0 R ops (n + 1) rest k ⟨aput s.t o.dst r, h'⟩) : AOps P f c0 R ops n (o :: rest) k s := fun hd ρ w a h1 h2 h3 h4 => by
  obtain ⟨hon, hd'⟩ := range'_cons hd
  rw [List.length_cons, List.range'_succ]
  have hv := h3.ev x
  rw [hx] at hv
  generalize hev : a.eval x = v at hv
  cases hv with
  | fn _ v1 v2 _ _ l1 l2 r1 r2 =>
    have hargs : TRel ⟨ρ, s.h, w, c0.X⟩ (v1 ++ as.map a.eval ++ v2) (fi ++ as.toList.map (aev s.t) ++ ca) := by
      refine ⟨by simp [l1, l2], fun i v y hv hy => ?_⟩
      rw [List.getElem?_append] at hy
      rw [Array.getElem?_append] at hv
      simp only [Array.size_append, Array.size_map, List.length_append, List.length_map, Array.length_toList, l1] at hv hy
      split at hy
      · rename_i hi
        rw [if_pos hi] at hv
        rw [List.getElem?_append] at hy
        rw [Array.getElem?_append] at hv
        rw [l1] at hv
        split at hy
        · rename_i hj; rw [if_pos hj] at hv; exact r1 i v y hv hy
        · rename_i hj
          rw [if_neg hj] at hv
          rw [Array.getElem?_map] at hv
          rw [List.getElem?_map] at hy
          simp only [Option.map_eq_some_iff] at hv hy
          obtain ⟨z, hz, rfl⟩ := hv
          obtain ⟨z', hz', rfl⟩ := hy
          rw [Array.getElem?_toList, hz] at hz'
          cases hz'
          exact h3.ev z
      · rename_i hi
        rw [if_neg hi] at hv
        exact r2 _ v y hv hy
    have hex : (execOp a.eval o).run P w = .ok (.enter g (v1 ++ as.map a.eval ++ v2)) w := by
      obtain ⟨dst, op, ty, pos, after, guard⟩ := o
      simp only at ho
      subst ho
      simp [execOp, resolve, Deferred.ofValue, invoke, hev, Sem.run_bind, run_callFunc hg]
    intro b cs hb hk
    obtain ⟨e, w', fr, ⟨v, ρ', r, h', rfl, g1, g2, g3, g4⟩, hs, hfn, hl⟩ := h ⟨ρ, s.h, w, c0.X⟩ _ rfl h1 hargs (b.at a (.inRegion ops (n :: List.range' (n + 1) rest.length) :: k) :: cs)
    have hgo := stepG_op (P := P) (b := b) (k := k) (cs := cs) (w := w) (rest := List.range' (n + 1) rest.length) hon (hw.ok h3)
    have henter : step P (lone (b.at a (.inRegion ops (n :: List.range' (n + 1) rest.length) :: k)) cs w) =
        .next (lone (Frame.enter P g (v1 ++ as.map a.eval ++ v2) .normal) (b.at a (.inRegion ops (n :: List.range' (n + 1) rest.length) :: k) :: cs) w) :=
      step_lone_go (by rw [hgo]; simp [stepG.apply, hex, Frame.at])
    have hfin : (b.at a (.inRegion ops (n :: List.range' (n + 1) rest.length) :: k)).finish v = b.at (a.put o.dst v) (.inRegion ops (List.range' (n + 1) rest.length) :: k) := by
      rw [Frame.finish_at, hon]; rfl
    obtain ⟨v', w'', fr', q1, q2, q3⟩ := g4 hd' ρ' w' (a.put o.dst v) g1 (h2.trans g2) ((h3.mono g2).put o.dst g3) (by cases o.dst <;> exact h4) b cs hb hk
    refine ⟨v', w'', fr', q1, Steps.head henter (Steps.trans hs (Steps.head ?_ q2)), q3⟩
    rw [← hfin]; exact step_leave_returned hl
/-! ### loops -/
/-- The state may be told as another one. -/
def Wk (P : Program) (c0 : Cx) (s s' : AState) : Prop :=
  ∀ ρ w (vs : Array Value), RelH ⟨ρ, s.h, w, c0.X⟩ → Ev c0 ⟨ρ, s.h, w, c0.X⟩ → TRel ⟨ρ, s.h, w, c0.X⟩ vs s.t → ∃ ρ', RelH ⟨ρ', s'.h, w, c0.X⟩ ∧ Ev c0 ⟨ρ', s'.h, w, c0.X⟩ ∧ TRel ⟨ρ', s'.h, w, c0.X⟩ vs s'.t
theorem Wk.refl (s : AState) : Wk P c0 s s := fun ρ _ _ h1 h2 h3 => ⟨ρ, h1, h2, h3⟩
theorem Wk.trans {s1 s2 s3 : AState} (h : Wk P c0 s1 s2) (g : Wk P c0 s2 s3) : Wk P c0 s1 s3 := fun ρ w vs h1 h2 h3 => by
  obtain ⟨ρ', g1, g2, g3⟩ := h ρ w vs h1 h2 h3
  exact g ρ' w vs g1 g2 g3
theorem ARun.weak {s' : AState} (hw : Wk P c0 s s') (h : ARun P f c0 R k s') : ARun P f c0 R k s := fun ρ w a h1 h2 h3 h4 => by
  obtain ⟨ρ', g1, g2, g3⟩ := hw ρ w a.tmps h1 h2 h3
  exact h ρ' w a g1 g2 g3 h4
theorem ARun.loop {α : Type} (L : α → AState) (μ : α → Nat) {c : Code} (x0 : α) (hw : Wk P c0 s (L x0))
    (round : ∀ x, (∀ x' s', μ x' < μ x → Wk P c0 s' (L x') → ARun P f c0 R (.inLoop c :: k) s') → ARun P f c0 R (.code c :: .inLoop c :: k) (L x)) : ARun P f c0 R (.code (.loop c) :: k) s := by
  have key : ∀ n x, μ x = n → ARun P f c0 R (.code c :: .inLoop c :: k) (L x) := by
    intro n
    induction n using Nat.strongRecOn with
    | _ n ih => exact fun x hx => round x fun x' s' hlt hw' => ARun.inLoop (ARun.weak hw' (ih _ (hx ▸ hlt) x' rfl))
  exact ARun.loop1 (ARun.weak hw (key _ x0 rfl))
end
end Go.Proofs.YtgonmnjgodleeaaDoor
