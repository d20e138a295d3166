/-
  The shadow of a run: a region that draws its order, reckoned. Nothing here speaks of the program.
-/
import Derived.Test.YtgonmnjgodleeaaDoorAg
namespace Go.Proofs.YtgonmnjgodleeaaDoor
open Go.RowKit
/-- The run's own block that a value leads to. -/
def AV.id : AV → List Nat
  | .ptr i _ => [i]
  | .eptr i _ _ _ => [i]
  | .sl _ _ (.own i) => [i]
  | .mp i => [i]
  | .msl i _ _ _ _ => [i]
  | _ => []
/-- The block of rows that may be written. -/
def AV.mid : AV → List Nat
  | .msl i _ _ _ _ => [i]
  | _ => []
/-- Which blocks an operation reads. -/
def rdOf (t : List AV) : Op → List Nat
  | .load _ x => (aev t x).id
  | .store _ x _ => (aev t x).id
  | .mapEntry _ m _ => (aev t m).id
  | .mapUpdate _ m _ _ | .insert _ m _ _ => (aev t m).id
  | .entryStore _ m _ _ => (aev t m).id
  | .lookup _ m _ _ => (aev t m).id
  | .range _ m => (aev t m).id
  | .call { callee := .builtin .append, args, .. } => match args.toList with | x :: y :: _ => (aev t x).id ++ (aev t y).mid | x :: _ => (aev t x).id | [] => []
  | .call { callee := .builtin .clear, args, .. } => match args.toList with | x :: _ => (aev t x).id | [] => []
  | .call { callee := .builtin .copy, args, .. } => match args.toList with | x :: y :: _ => (aev t x).id ++ (aev t y).id | _ => []
  | _ => []
section
variable {P : Program} {T : TabT} {c0 : Cx} {ops : Array Oper}
theorem aop_local {slot : Nat} {t t' : List AV} {h h' : List ABlk} {op : Op} (ht : ∀ x ∈ op.operands, aev t' x = aev t x) (hh : ∀ y ∈ rdOf t op, h'[y]? = h[y]?) : aop T slot t' h' op = aop T slot t h op := by
  have hload : ∀ (ti : TI) (p : AV), (∀ y ∈ p.id, h'[y]? = h[y]?) → aload h' ti p = aload h ti p := by
    intro ti p hp
    cases p <;> simp only [aload]
    · rw [hp _ (by simp [AV.id])]
    · rw [hp _ (by simp [AV.id])]
  have hstore : ∀ (ti : TI) (v p : AV), (∀ y ∈ p.id, h'[y]? = h[y]?) → astore h' ti v p = astore h ti v p := by
    intro ti v p hp
    cases p <;> simp only [astore]
    · rw [hp _ (by simp [AV.id])]
    · rw [hp _ (by simp [AV.id])]
  have happ : ∀ (ti ui : TI) (s x : AV), (∀ y ∈ s.id, h'[y]? = h[y]?) → aappend T slot h' ti ui s x = aappend T slot h ti ui s x := by
    intro ti ui s x hp
    unfold aappend
    split
    · congr 1
      funext y
      cases s with
      | sl k l tk =>
        cases tk with
        | no => rfl
        | own i => simp only; rw [hp _ (by simp [AV.id])]
      | _ => rfl
    · rfl
  have hsrc : ∀ (k : Nat) (ui : TI) (x : AV), (∀ y ∈ x.mid, h'[y]? = h[y]?) → asrcM k h' ui x = asrcM k h ui x := by
    intro k ui x hp
    cases x with
    | msl j k2 o2 n2 c2 => simp only [asrcM, hp j (by simp [AV.mid])]
    | _ => rfl
  have happM : ∀ (ti ui : TI) (s x : AV), (∀ y ∈ s.id ++ x.mid, h'[y]? = h[y]?) → aappendM T slot h' ti ui s x = aappendM T slot h ti ui s x := by
    intro ti ui s x hp
    have hq := happ ti ui s x (fun y hy => hp y (List.mem_append_left _ hy))
    cases s with
    | msl i k o n c => 
      have e1 := hp i (by simp [AV.id])
      have e2 : ∀ k ui, asrcM k h' ui x = asrcM k h ui x := fun k ui => hsrc k ui x fun y hy => hp y (List.mem_append_right _ hy)
      simp only [aappendM, e1, e2]
    | _ => simp only [aappendM, hq]
  have hclear : ∀ (ti : TI) (x : AV), (∀ y ∈ x.id, h'[y]? = h[y]?) → aclear T h' ti x = aclear T h ti x := by
    intro ti x hp
    cases x with
    | msl i k o n c => simp only [aclear, hp i (by simp [AV.id])]
    | _ => rfl
  have hparts : ∀ (ps : Array (Nat × Operand)), (∀ x ∈ (ps.toList.map (·.2)), aev t' x = aev t x) → (ps.toList.map fun q => (q.1, aev t' q.2)) = (ps.toList.map fun q => (q.1, aev t q.2)) := by
    intro ps hp
    refine List.map_congr_left fun q hq => ?_
    rw [hp q.2 (List.mem_map.2 ⟨q, hq, rfl⟩)]
  have hmap : ∀ (ps : Array Operand), (∀ x ∈ ps, aev t' x = aev t x) → ps.toList.map (aev t') = ps.toList.map (aev t) := fun ps hp => List.map_congr_left fun q hq => hp q (by simpa using hq)
  cases op with
  | move x => simp only [aop, ht x (by simp [Op.operands])]
  | assign x => simp only [aop, ht x (by simp [Op.operands])]
  | pick a b c => simp only [aop, ht a (by simp [Op.operands]), ht b (by simp [Op.operands]), ht c (by simp [Op.operands])]
  | alloc e => rfl
  | box e x => simp only [aop, ht x (by simp [Op.operands])]
  | build e ps => simp only [aop, hparts ps (fun x hx => ht x (by simpa [Op.operands] using hx))]
  | buildSlice e n ps => simp only [aop, hparts ps (fun x hx => ht x (by simpa [Op.operands] using hx))]
  | load e x =>
    simp only [aop, ht x (by simp [Op.operands])]
    congr 1; funext ti; exact hload ti _ hh
  | store e x v =>
    simp only [aop, ht x (by simp [Op.operands]), ht v (by simp [Op.operands])]
    congr 1; funext ti; exact hstore ti _ _ hh
  | nilCheck x => simp only [aop, ht x (by simp [Op.operands])]
  | binOp o e x y u => simp only [aop, ht x (by simp [Op.operands]), ht y (by simp [Op.operands])]
  | unOp o e x => cases o <;> simp only [aop, ht x (by simp [Op.operands])]
  | convert s d x => simp only [aop, ht x (by simp [Op.operands])]
  | makeInterface e x => simp only [aop, ht x (by simp [Op.operands])]
  | makeFunc fn a b =>
    cases fn <;> simp only [aop]
    rw [hmap a (fun x hx => ht x (by simp [Op.operands, hx])), hmap b (fun x hx => ht x (by simp [Op.operands, hx]))]
  | slice e x lo hi mx =>
    have hopt : ∀ (q : Option Operand), (∀ x ∈ q, aev t' x = aev t x) → q.map (aev t') = q.map (aev t) := by
      intro q hq
      cases q with
      | none => rfl
      | some x => simp [hq x rfl]
    cases mx with
    | none =>
      simp only [aop]
      rw [ht x (by simp [Op.operands]), hopt lo (fun z hz => ht z (by simp at hz; simp [Op.operands, hz])), hopt hi (fun z hz => ht z (by simp at hz; simp [Op.operands, hz]))]
    | some m =>
      cases hi with
      | none => rfl
      | some hi =>
        simp only [aop]
        rw [ht x (by simp [Op.operands]), hopt lo (fun z hz => ht z (by simp at hz; simp [Op.operands, hz])), ht hi (by simp [Op.operands]), ht m (by simp [Op.operands])]
  | makeMap e r => cases r <;> rfl
  | mapEntry e m k =>
    simp only [aop, ht m (by simp [Op.operands]), ht k (by simp [Op.operands])]
    congr 1; funext ti
    have := hh
    simp only [rdOf] at this
    cases hm : aev t m <;> simp only [amapEntry]
    rw [this _ (by rw [hm]; simp [AV.id])]
  | mapUpdate e m k v =>
    simp only [aop, ht m (by simp [Op.operands]), ht k (by simp [Op.operands]), ht v (by simp [Op.operands])]
    congr 1; funext ti
    have := hh
    simp only [rdOf] at this
    cases hm : aev t m <;> simp only [amapUpdate]
    rw [this _ (by rw [hm]; simp [AV.id])]
  | insert e m k v =>
    simp only [aop, ht m (by simp [Op.operands]), ht k (by simp [Op.operands]), ht v (by simp [Op.operands])]
    congr 1; funext ti
    have := hh
    simp only [rdOf] at this
    cases hm : aev t m <;> simp only [amapUpdate]
    rw [this _ (by rw [hm]; simp [AV.id])]
  | entryStore e m s v =>
    simp only [aop, ht m (by simp [Op.operands]), ht s (by simp [Op.operands]), ht v (by simp [Op.operands])]
    have := hh
    simp only [rdOf] at this
    cases hm : aev t m with
    | mp i =>
      have e1 := this i (by rw [hm]; simp [AV.id])
      cases aev t s <;> simp only [aentryStore, e1]
    | _ => rfl
  | lookup e m k ok =>
    simp only [aop, ht m (by simp [Op.operands]), ht k (by simp [Op.operands])]
    congr 1; funext ti
    have := hh
    simp only [rdOf] at this
    cases hm : aev t m <;> simp only [alookup]
    rw [this _ (by rw [hm]; simp [AV.id])]
  | range e m =>
    simp only [aop, ht m (by simp [Op.operands])]
    congr 1; funext ti
    have := hh
    simp only [rdOf] at this
    cases hm : aev t m <;> simp only [arange]
    rw [this _ (by rw [hm]; simp [AV.id])]
  | makeSlice e l m => simp only [aop, ht l (by simp [Op.operands]), ht m (by simp [Op.operands])]
  | fieldAddr e x f => simp only [aop, ht x (by simp [Op.operands])]
  | field e x f => simp only [aop, ht x (by simp [Op.operands])]
  | indexAddr e x i => simp only [aop, ht x (by simp [Op.operands]), ht i (by simp [Op.operands])]
  | index e x i => simp only [aop, ht x (by simp [Op.operands]), ht i (by simp [Op.operands])]
  | extract x i => simp only [aop, ht x (by simp [Op.operands])]
  | call c =>
    obtain ⟨callee, args, argTypes⟩ := c
    obtain ⟨args⟩ := args
    cases callee with
    | value f => rfl
    | invoke r m => rfl
    | builtin b =>
      have hx : ∀ x ∈ args, aev t' x = aev t x := fun x hx => ht x (by simp [Op.operands, Call.operands, hx])
      have hcopy : ∀ (ti : TI) (p x : AV), (∀ y ∈ p.id ++ x.id, h'[y]? = h[y]?) → acopy T h' ti p x = acopy T h ti p x := by
        intro ti p x hp
        cases p with
        | msl i k o n cp =>
          have e1 := hp i (by simp [AV.id])
          cases x with
          | msl j k2 o2 n2 c2 =>
            have e2 := hp j (by simp [AV.id])
            simp only [acopy, e1, e2]
          | _ => simp only [acopy, e1]
        | _ => rfl
      cases b with
      | append =>
        simp only [aop]
        match args, argTypes.toList, hx, hh with
        | [s, x], [e, f], hx, hh =>
          simp only [hx s (by simp), hx x (by simp)]
          congr 1; funext ti; congr 1; funext ui
          exact happM ti ui _ _ (by simpa [rdOf] using hh)
        | [], _, _, _ => rfl
        | [_], _, _, _ => rfl
        | _ :: _ :: _ :: _, _, _, _ => rfl
        | [_, _], [], _, _ => rfl
        | [_, _], [_], _, _ => rfl
        | [_, _], _ :: _ :: _ :: _, _, _ => rfl
      | copy =>
        simp only [aop]
        match args, argTypes.toList, hx, hh with
        | [s, x], [e, f], hx, hh =>
          simp only [hx s (by simp), hx x (by simp)]
          congr 1; funext ti
          exact hcopy ti _ _ (by simpa [rdOf] using hh)
        | [], _, _, _ => rfl
        | [_], _, _, _ => rfl
        | _ :: _ :: _ :: _, _, _, _ => rfl
        | [_, _], [], _, _ => rfl
        | [_, _], [_], _, _ => rfl
        | [_, _], _ :: _ :: _ :: _, _, _ => rfl
      | len =>
        simp only [aop]
        match args, argTypes.toList, hx with
        | [x], [e], hx => simp only [hx x (by simp)]
        | [], _, _ => rfl
        | _ :: _ :: _, _, _ => rfl
        | [_], [], _ => rfl
        | [_], _ :: _ :: _, _ => rfl
      | cap =>
        simp only [aop]
        match args, argTypes.toList, hx with
        | [x], [e], hx => simp only [hx x (by simp)]
        | [], _, _ => rfl
        | _ :: _ :: _, _, _ => rfl
        | [_], [], _ => rfl
        | [_], _ :: _ :: _, _ => rfl
      | clear =>
        simp only [aop]
        match args, argTypes.toList, hx, hh with
        | [x], [e], hx, hh =>
          simp only [hx x (by simp)]
          congr 1; funext ti
          exact hclear ti _ (by simpa [rdOf] using hh)
        | [], _, _, _ => rfl
        | _ :: _ :: _, _, _, _ => rfl
        | [_], [], _, _ => rfl
        | [_], _ :: _ :: _, _, _ => rfl
      | min => simp only [aop]; rw [List.map_congr_left hx]
      | max => simp only [aop]; rw [List.map_congr_left hx]
      | _ => rfl
  | _ => rfl
theorem needs_local {t t' : List AV} {op : Op} (ht : ∀ x ∈ op.operands, aev t' x = aev t x) : needs t' op = needs t op := by
  cases op with
  | call c =>
    obtain ⟨callee, args, argTypes⟩ := c
    obtain ⟨args⟩ := args
    cases callee with
    | builtin b =>
      cases b <;> simp only [needs]
      cases args with
      | nil => rfl
      | cons x r =>
        have := ht x (by simp [Op.operands, Call.operands])
        simp [this]
    | _ => rfl
  | _ => rfl
theorem looks_op {o : Oper} {t t' : List AV} (h : ∀ x ∈ o.looksAt ops, t'[x]? = t[x]?) : ∀ x ∈ o.op.operands, aev t' x = aev t x := by
  intro x hx
  cases x with
  | tmp i =>
    have := h i (List.mem_append_left _ (List.mem_filterMap.2 ⟨.tmp i, by simpa using hx, rfl⟩))
    simp only [aev, List.getD_eq_getElem?_getD, this]
  | _ => rfl
theorem looks_guard {o : Oper} {t t' : List AV} (h : ∀ x ∈ o.looksAt ops, t'[x]? = t[x]?) {b : Bool} (hw : Wanted ops t o.guard b) : Wanted ops t' o.guard b := by
  have key : ∀ j want, o.guard = some (j, want) → gval ops t' j = gval ops t j := by
    intro j want hg
    unfold gval
    cases hd : (ops[j]?).bind (·.dst) with
    | none => rfl
    | some d =>
      simp only [Option.bind_some]
      exact h d (List.mem_append_right _ (by rw [hg]; simp [hd]))
  generalize hg : o.guard = g at *
  cases hw with
  | free => exact .free
  | test j want g hv => exact .test j want g ((key j want rfl).trans hv)
  | undef j want hv => exact .undef j want ((key j want rfl).trans hv)
theorem StepOk.skip {i : Nat} {o : Oper} {s : AState} (ho : ops[i]? = some o) (hw : Wanted ops s.t o.guard false) : StepOk P c0 ops i o s ⟨.tup [], [], []⟩ := by
  intro s' hl ht hh a w K Q ⟨ρ, h1, h2, h3, h4⟩ hK
  unfold wpOp
  simp only [ho]
  rw [(looks_guard ht hw).ok h3, if_neg (by simp)]
  have hu : RV ⟨ρ, s'.h, w, c0.X⟩ undef (.tup []) := .tup _ _ rfl (fun i v x h => by simp at h)
  exact hK _ _ ⟨ρ, h1, h2, h3.put o.dst hu, by cases o.dst <;> exact h4⟩
theorem StepOk.op (hT : TabOk P T) {i : Nat} {o : Oper} {s : AState} (ho : ops[i]? = some o) (hw : Wanted ops s.t o.guard true) {slot : Nat} {r : ARes} (hr : aop T slot s.t s.h o.op = some r) (hp : r.p) (hf : needs s.t o.op = true → s.h[slot]? = some .free) :
    StepOk P c0 ops i o s ⟨r.v, r.d.toList, if needs s.t o.op then slot :: rdOf s.t o.op else rdOf s.t o.op⟩ := by
  intro s' hl ht hh a w K Q ⟨ρ, h1, h2, h3, h4⟩ hK
  have hx := looks_op ht
  have hrd : ∀ y ∈ rdOf s.t o.op, s'.h[y]? = s.h[y]? := fun y hy => hh y (by simp only; split <;> simp [hy])
  have hr' : aop T slot s'.t s'.h o.op = some r := (aop_local hx hrd).trans hr
  have hf' : needs s'.t o.op = true → s'.h[slot]? = some .free := fun hn => by
    rw [needs_local hx] at hn
    rw [hh slot (by simp [hn]), hf hn]
  obtain ⟨nx, v, ρ', w', q1, q2, q3, q4, q5⟩ := aop_ok (P := P) hT h1 h3 o hf' hr' hp
  have hrel : Rel c0 (Ent.app ⟨r.v, r.d.toList, if needs s.t o.op then slot :: rdOf s.t o.op else rdOf s.t o.op⟩ o s') (a.put o.dst v) w' := by
    unfold Ent.app
    simp only [aupds_one]
    exact ⟨ρ', q3, h2.trans q4, (h3.mono q4).put o.dst q5, by cases o.dst <;> exact h4⟩
  unfold wpOp
  simp only [ho]
  rw [(looks_guard ht hw).ok h3, if_pos rfl]
  refine .inl ?_
  unfold Oper.wp
  rw [q1]
  rcases q2 with rfl | ⟨rfl, rfl⟩
  · exact hK _ _ hrel
  · exact hK _ _ hrel
/-- A call of a function's value, wherever: what it needs of the blocks stands in the entry. -/
theorem StepOk.call {i : Nat} {o : Oper} {s : AState} (ho : ops[i]? = some o) (hw : Wanted ops s.t o.guard true) {x : Operand} {as : Array Operand} {ts : Array TypeId} (hop : o.op = .call { callee := .value x, args := as, argTypes := ts })
    {g : FuncId} {fi ca : List AV} (hx : aev s.t x = .fn (.func g) fi ca) (hg : Callable P g) (e : Ent)
    (h : ∀ h' : List ABlk, (∀ y ∈ e.rd, h'[y]? = s.h[y]?) → ACall P g (fi ++ as.toList.map (aev s.t) ++ ca) h' fun r h'' => r = e.v ∧ h'' = aupds h' e.d) : StepOk P c0 ops i o s e := by
  intro s' hl ht hh a w K Q ⟨ρ, h1, h2, h3, h4⟩ hK
  have hxo := looks_op ht
  rw [hop] at hxo
  have hx' : aev s'.t x = .fn (.func g) fi ca := (hxo x (by simp [Op.operands, Call.operands])).trans hx
  have has : as.toList.map (aev s'.t) = as.toList.map (aev s.t) := List.map_congr_left fun z hz => hxo z (by simp at hz; simp [Op.operands, Call.operands, hz])
  have hv := h3.ev x
  rw [hx'] at hv
  generalize hev : a.eval x = v at hv
  cases hv with
  | fn _ v1 v2 _ _ l1 l2 r1 r2 =>
    have hargs : TRel ⟨ρ, s'.h, w, c0.X⟩ (v1 ++ as.map a.eval ++ v2) (fi ++ as.toList.map (aev s.t) ++ ca) := by
      rw [← has]
      refine ⟨by simp [l1, l2], fun i v y hv hy => ?_⟩
      rw [List.getElem?_append] at hy
      rw [Array.getElem?_append] at hv
      simp only [Array.size_append, Array.size_map, List.length_append, List.length_map, Array.length_toList, l1] at hv hy
      split at hy
      · rename_i hi
        rw [if_pos hi] at hv
        rw [List.getElem?_append] at hy
        rw [Array.getElem?_append] at hv
        rw [l1] at hv
        split at hy
        · rename_i hj; rw [if_pos hj] at hv; exact r1 i v y hv hy
        · rename_i hj
          rw [if_neg hj] at hv
          rw [Array.getElem?_map] at hv
          rw [List.getElem?_map] at hy
          simp only [Option.map_eq_some_iff] at hv hy
          obtain ⟨z, hz, rfl⟩ := hv
          obtain ⟨z', hz', rfl⟩ := hy
          rw [Array.getElem?_toList, hz] at hz'
          cases hz'
          exact h3.ev z
      · rename_i hi
        rw [if_neg hi] at hv
        exact r2 _ v y hv hy
    have hex : (execOp a.eval o).run P w = .ok (.enter g (v1 ++ as.map a.eval ++ v2)) w := by
      obtain ⟨dst, op, ty, pos, after, guard⟩ := o
      simp only at hop
      subst hop
      simp [execOp, resolve, Deferred.ofValue, invoke, hev, Sem.run_bind, run_callFunc hg]
    unfold wpOp
    simp only [ho]
    rw [(looks_guard ht hw).ok h3, if_pos rfl]
    refine .inl ?_
    unfold Oper.wp
    rw [hex, Oper.upon_enter]
    refine (h s'.h hh ⟨ρ, s'.h, w, c0.X⟩ _ rfl h1 hargs).mono ?_
    rintro e' w' ⟨v, ρ', r, h', rfl, g1, g2, g3, rfl, rfl⟩
    exact hK _ _ ⟨ρ', g1, h2.trans g2, (h3.mono g2).put o.dst g3, by cases o.dst <;> exact h4⟩
end
end Go.Proofs.YtgonmnjgodleeaaDoor
