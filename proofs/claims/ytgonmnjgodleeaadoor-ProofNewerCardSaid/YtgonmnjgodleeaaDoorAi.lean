/-
  The shadow of a run: a region that draws its order, as a statement that simp unfolds; the whole of a run so. Nothing here speaks of the program.
-/
import Derived.Test.YtgonmnjgodleeaaDoorAh
namespace Go.Proofs.YtgonmnjgodleeaaDoor
open Go.RowKit
def dynP (ms : List Nat) (fp : List (List Nat × List Nat)) : Bool :=
  (List.range fp.length).all fun j => match fp[j]? with
    | some ej => (List.range j).all fun i => (ms.getD j 0).testBit i || (match fp[i]? with | some ei => disj ei.2 ej.1 && disj ei.2 ej.2 && disj ei.1 ej.2 | none => true)
    | none => true
def Ent.fp (e : Ent) : List Nat × List Nat := (e.rd, e.wr)
theorem dynP_ok (ms : List Nat) (es : List Ent) : dynP ms (es.map Ent.fp) = dynOk ms es := by
  unfold dynP dynOk
  rw [List.length_map]
  congr 1
  funext j
  rw [List.getElem?_map]
  cases es[j]? with
  | none => rfl
  | some ej =>
    simp only [Option.map_some]
    congr 1
    funext i
    rw [List.getElem?_map]
    cases es[i]? <;> rfl
/-- May the operation need a place for a new block? -/
def mayNeed : Op → Bool
  | .box .. | .alloc _ | .buildSlice .. | .makeMap .. | .makeSlice .. | .range .. => true
  | .slice _ _ _ _ mx => mx.isSome
  | .call { callee := .builtin .append, .. } => true
  | .call { callee := .value _, .. } => true
  | .call { callee := .invoke .., .. } => true
  | _ => false
def wrOf (d : Option (Nat × ABlk)) : List Nat := match d with | some (i, _) => [i] | none => []
theorem wrOf_list (d : Option (Nat × ABlk)) : d.toList.map (·.1) = wrOf d := by cases d <;> rfl
/-- The operations of a drawn region that are left. -/
structure DOps (P : Program) (f : FuncId) (c0 : Cx) (R : AV → List ABlk → Prop) (ops : Array Oper) (n sl : Nat) (rest : List Oper) (fp : List (List Nat × List Nat)) (k : List Item) (s : AState) : Prop where
  h : ∃ es : List Ent, es.length = rest.length ∧ TraceOk P c0 ops n rest es s ∧ dynP (masks ops.toList []) (fp ++ es.map Ent.fp) = true ∧ ARun P f c0 R k (sub (fun _ => true) n rest es s)
section
variable {P : Program} {f : FuncId} {c0 : Cx} {R : AV → List ABlk → Prop} {T : TabT} {ops : Array Oper} {n sl sl' : Nat} {o : Oper} {rest : List Oper} {fp : List (List Nat × List Nat)} {k : List Item} {s : AState}
theorem DOps.nil (hd : dynP (masks ops.toList []) fp = true) (h : ARun P f c0 R k s) : DOps P f c0 R ops n sl [] fp k s := ⟨[], rfl, trivial, by simpa using hd, by simpa [sub] using h⟩
theorem DOps.cons {e : Ent} (hs : StepOk P c0 ops n o s e) (h : DOps P f c0 R ops (n + 1) sl' rest (fp ++ [e.fp]) k (e.app o s)) : DOps P f c0 R ops n sl (o :: rest) fp k s := by
  obtain ⟨es, h1, h2, h3, h4⟩ := h.h
  exact ⟨e :: es, by simp [h1], ⟨hs, h2⟩, by simpa using h3, by simpa [sub] using h4⟩
theorem DOps.draw {id : Nat} (hm : P.follows .mixedOrders = true) (hst : statOk ops = true) (m : Nat) (h : DOps P f c0 R ops 0 sl ops.toList [] k ⟨s.t, s.h ++ List.replicate m .free⟩) : ARun P f c0 R (.code (.region id ops true) :: k) s := by
  have hgrow : Wk P c0 s ⟨s.t, s.h ++ List.replicate m .free⟩ := by
    clear h
    induction m with
    | zero => simpa using Wk.refl s
    | succ m ih =>
      refine ih.trans fun ρ w vs h1 h2 h3 => ?_
      obtain ⟨g1, g2⟩ := Cx.grow h1
      have e : s.h ++ List.replicate m ABlk.free ++ [.free] = s.h ++ List.replicate (m + 1) .free := by rw [List.replicate_succ', List.append_assoc]
      simp only [e] at g1 g2
      exact ⟨_, g1, h2.trans g2, h3.mono g2⟩
  refine ARun.weak hgrow ?_
  obtain ⟨es, h1, h2, h3, h4⟩ := h.h
  exact ARun.draw hm hst es (by simpa using h1) h2 (by rw [← dynP_ok]; simpa using h3) h4
end
section
variable (P : Program) (f : FuncId) (c0 : Cx) (R : AV → List ABlk → Prop) (T : TabT) (rs : List ResultVar)
def freeOk (t : List AV) (h : List ABlk) (sl : Nat) (op : Op) : Prop := if needs t op then (match h[sl]? with | some .free => True | _ => False) else True
def adone (o : Oper) (sl : Nat) (fp : List (List Nat × List Nat)) (s : AState) (K : Nat → List (List Nat × List Nat) → AState → Prop) (stop : Prop) : Prop :=
  match aop T sl s.t s.h o.op with
  | some r => (r.p ∧ freeOk s.t s.h sl o.op) ∧ K (if mayNeed o.op then sl + 1 else sl) (fp ++ [(if needs s.t o.op then sl :: rdOf s.t o.op else rdOf s.t o.op, wrOf r.d)]) ⟨aput s.t o.dst r.v, aupd s.h r.d⟩
  | none => stop
def gdone (ops : Array Oper) (n sl : Nat) (o : Oper) (rest : List Oper) (fp : List (List Nat × List Nat)) (k : List Item) (want : Bool) (h : List ABlk) (K : Nat → List (List Nat × List Nat) → AState → Prop) (b : Bool) (t : List AV) : Prop :=
  if b = want then adone T o sl fp ⟨t, h⟩ K (DOps P f c0 R ops n sl (o :: rest) fp k ⟨t, h⟩) else K (if mayNeed o.op then sl + 1 else sl) (fp ++ [([], [])]) ⟨aput t o.dst (.tup []), h⟩
def adops (ops : Array Oper) (k : List Item) (K : AState → Prop) : Nat → List Oper → Nat → List (List Nat × List Nat) → AState → Prop
  | _, [], _, fp, s => dynP (masks ops.toList []) fp = true ∧ K s
  | n, o :: rest, sl, fp, s =>
    match o.guard with
    | none => adone T o sl fp s (adops ops k K (n + 1) rest) (DOps P f c0 R ops n sl (o :: rest) fp k s)
    | some (j, want) => match gslot ops j with
      | none => False
      | some d => match s.t[d]? with
        | some (.bool g) => alts s.t d g (gdone P f c0 R T ops n sl o rest fp k want s.h (adops ops k K (n + 1) rest))
        | some (.tup []) => adops ops k K (n + 1) rest (if mayNeed o.op then sl + 1 else sl) (fp ++ [([], [])]) ⟨aput s.t o.dst (.tup []), s.h⟩
        | _ => False
/-- How many places the operations may need. -/
def places : List Oper → List ABlk
  | [] => []
  | o :: r => if mayNeed o.op then .free :: places r else places r
def drun : Nat → List Item → AState → Prop
  | 0, k, s => Run P f c0 R k s
  | _ + 1, [], s => afin R T rs s
  | n + 1, .code (.seq a b) :: k, s => drun n (.code a :: .code b :: k) s
  | n + 1, .code .skip :: k, s => drun n k s
  | n + 1, .code (.label _) :: k, s => drun n k s
  | n + 1, .code (.block id c) :: k, s => drun n (.code c :: .inBlock id :: k) s
  | n + 1, .code (.scope c) :: k, s => drun n (.code c :: .inScope c :: k) s
  | n + 1, .inBlock _ :: k, s => drun n k s
  | n + 1, .inScope _ :: k, s => drun n k s
  | n + 1, .code (.exit id) :: k, s => match exitTo id k with | some k' => drun n k' s | none => False
  | n + 1, .code (.goto l) :: k, s => match gotoIn l k with | some k' => drun n k' s | none => False
  | n + 1, .code (.cond c x y) :: k, s => match aev s.t c with
    | .bool b => alt b (drun n (.code x :: k) s) (drun n (.code y :: k) s)
    | _ => False
  | n + 1, .code (.region _ ops false) :: k, s => aops P f c0 R T ops k (drun n k) 0 ops.toList s
  | n + 1, .code (.region _ ops true) :: k, s => statOk ops = true ∧ adops P f c0 R T ops k (drun n k) 0 ops.toList s.h.length [] ⟨s.t, s.h ++ places ops.toList⟩
  | _ + 1, .code .ret :: _, s => afin R T rs s
  | _ + 1, k, s => Run P f c0 R k s
end
section
variable {P : Program} {f : FuncId} {c0 : Cx} {R : AV → List ABlk → Prop} {T : TabT} {ops : Array Oper} {n sl : Nat} {o : Oper} {rest : List Oper} {fp : List (List Nat × List Nat)} {k : List Item} {h : List ABlk} {K : Nat → List (List Nat × List Nat) → AState → Prop} {t : List AV}
theorem gdone_tt : gdone P f c0 R T ops n sl o rest fp k true h K true t = adone T o sl fp ⟨t, h⟩ K (DOps P f c0 R ops n sl (o :: rest) fp k ⟨t, h⟩) := rfl
theorem gdone_ff : gdone P f c0 R T ops n sl o rest fp k false h K false t = adone T o sl fp ⟨t, h⟩ K (DOps P f c0 R ops n sl (o :: rest) fp k ⟨t, h⟩) := rfl
theorem gdone_tf : gdone P f c0 R T ops n sl o rest fp k true h K false t = K (if mayNeed o.op then sl + 1 else sl) (fp ++ [([], [])]) ⟨aput t o.dst (.tup []), h⟩ := by unfold gdone; exact if_neg (by decide)
theorem gdone_ft : gdone P f c0 R T ops n sl o rest fp k false h K true t = K (if mayNeed o.op then sl + 1 else sl) (fp ++ [([], [])]) ⟨aput t o.dst (.tup []), h⟩ := by unfold gdone; exact if_neg (by decide)
end
section
variable {P : Program} {f : FuncId} {c0 : Cx} {R : AV → List ABlk → Prop} {T : TabT}
theorem adone_ok (hT : TabOk P T) {ops : Array Oper} {n sl : Nat} {o : Oper} {rest : List Oper} {fp : List (List Nat × List Nat)} {k : List Item} {s : AState} {K : Nat → List (List Nat × List Nat) → AState → Prop} (ho : ops[n]? = some o) (hw : Wanted ops s.t o.guard true)
    (hK : ∀ sl' fp s, K sl' fp s → DOps P f c0 R ops (n + 1) sl' rest fp k s) (h : adone T o sl fp s K (DOps P f c0 R ops n sl (o :: rest) fp k s)) : DOps P f c0 R ops n sl (o :: rest) fp k s := by
  unfold adone at h
  split at h
  · rename_i r hr
    obtain ⟨⟨h1, h2⟩, h3⟩ := h
    have h4 := hK _ _ _ h3
    rw [← wrOf_list, ← aupds_one] at h4
    refine DOps.cons (StepOk.op hT ho hw hr h1 fun hn => ?_) h4
    unfold freeOk at h2
    rw [if_pos hn] at h2
    split at h2
    · assumption
    · exact h2.elim
  · exact h
theorem adops_ok (hT : TabOk P T) {ops : Array Oper} {k : List Item} {K : AState → Prop} (hK : ∀ s, K s → ARun P f c0 R k s) : ∀ (rest : List Oper) (n sl : Nat) (fp : List (List Nat × List Nat)) (s : AState), ops.toList.drop n = rest → adops P f c0 R T ops k K n rest sl fp s → DOps P f c0 R ops n sl rest fp k s
  | [], n, sl, fp, s, _, h => DOps.nil h.1 (hK s h.2)
  | o :: rest, n, sl, fp, s, hd, h => by
    obtain ⟨ho, hd'⟩ := range'_cons hd
    have ih := fun sl' fp s => adops_ok (ops := ops) hT hK rest (n + 1) sl' fp s hd'
    unfold adops at h
    split at h
    · rename_i hg
      exact adone_ok hT ho (by rw [hg]; exact .free) ih h
    · rename_i j want hg
      split at h
      · exact h.elim
      · rename_i d hd
        split at h
        · rename_i g hgd
          have hgv := gval_of hd hgd
          have h := alts_at h hgd
          unfold gdone at h
          split at h
          · rename_i hb
            exact adone_ok hT ho (by rw [hg, show true = (g == want) by rw [hb]; simp]; exact .test j want g hgv) ih h
          · rename_i hb
            exact DOps.cons (StepOk.skip ho (by rw [hg, show false = (g == want) by simpa using hb]; exact .test j want g hgv)) (ih _ _ _ h)
        · rename_i hgd
          exact DOps.cons (StepOk.skip ho (by rw [hg]; exact .undef j want (gval_of hd hgd))) (ih _ _ _ h)
        · exact h.elim
theorem places_eq : ∀ (l : List Oper), ∃ m, places l = List.replicate m .free
  | [] => ⟨0, rfl⟩
  | o :: r => by
    obtain ⟨m, h⟩ := places_eq r
    unfold places
    split
    · exact ⟨m + 1, by rw [h]; rfl⟩
    · exact ⟨m, h⟩
theorem DOps.drawP {ops : Array Oper} {k : List Item} {s : AState} {sl id : Nat} (hm : P.follows .mixedOrders = true) (hst : statOk ops = true) (h : DOps P f c0 R ops 0 sl ops.toList [] k ⟨s.t, s.h ++ places ops.toList⟩) : ARun P f c0 R (.code (.region id ops true) :: k) s := by
  obtain ⟨m, hm'⟩ := places_eq ops.toList
  rw [hm'] at h
  exact DOps.draw hm hst m h
theorem drun_ok (hT : TabOk P T) (hM : P.follows .mixedOrders = true) {fn : Func} (hf : P.funcs[f]? = some fn) : ∀ (n : Nat) (k : List Item) (s : AState), drun P f c0 R T fn.results.toList n k s → ARun P f c0 R k s := by
  have hfin : ∀ s, afin R T fn.results.toList s → ∃ r, ares T s fn.results.toList = some r ∧ aresOk T s fn.results.toList ∧ R r s.h := by
    intro s h
    unfold afin at h
    split at h
    · rename_i r hr; exact ⟨r, hr, h.1, h.2⟩
    · exact h.elim
  intro n
  induction n with
  | zero => intro k s h; unfold drun at h; exact h.h
  | succ n ih =>
    intro k s h
    unfold drun at h
    split at h
    · omega
    · obtain ⟨r, h1, h2, h3⟩ := hfin _ h; exact ARun.fin hT hf h1 h2 h3
    · rename_i e; cases e; exact ARun.seq (ih _ _ h)
    · rename_i e; cases e; exact ARun.skip (ih _ _ h)
    · rename_i e; cases e; exact ARun.label (ih _ _ h)
    · rename_i e; cases e; exact ARun.block (ih _ _ h)
    · rename_i e; cases e; exact ARun.scope (ih _ _ h)
    · rename_i e; cases e; exact ARun.inBlock (ih _ _ h)
    · rename_i e; cases e; exact ARun.inScope (ih _ _ h)
    · rename_i e; cases e
      split at h
      · rename_i k' he; exact ARun.exit he (ih _ _ h)
      · exact h.elim
    · rename_i e; cases e
      split at h
      · rename_i k' he; exact ARun.goto he (ih _ _ h)
      · exact h.elim
    · rename_i e; cases e
      split at h
      · rename_i b hb; exact ARun.cond hb (fun hb => ih _ _ (h.1 hb)) (fun hb => ih _ _ (h.2 hb))
      · exact h.elim
    · rename_i e; cases e; exact ARun.region (aops_ok hT (fun s h => ih _ _ h) _ 0 _ h)
    · rename_i e; cases e
      exact DOps.drawP hM h.1 (adops_ok hT (fun s h => ih _ _ h) _ 0 _ [] _ rfl h.2)
    · obtain ⟨r, h1, h2, h3⟩ := hfin _ h; exact ARun.ret hT hf h1 h2 h3
    · exact h.h
theorem Run.god (hT : TabOk P T) (hM : P.follows .mixedOrders = true) {fn : Func} (hf : P.funcs[f]? = some fn) (n : Nat) {k : List Item} {s : AState} (h : drun P f c0 R T fn.results.toList n k s) : Run P f c0 R k s := ⟨drun_ok hT hM hf n k s h⟩
theorem Ops.god (hT : TabOk P T) (hM : P.follows .mixedOrders = true) {fn : Func} (hf : P.funcs[f]? = some fn) (m : Nat) {ops : Array Oper} {n : Nat} {rest : List Oper} {k : List Item} {s : AState} (h : aops P f c0 R T ops k (drun P f c0 R T fn.results.toList m k) n rest s) : Ops P f c0 R ops n rest k s :=
  ⟨aops_ok hT (fun s h => drun_ok hT hM hf m k s h) rest n s h⟩
/-- What is left of a drawn region, reckoned. -/
theorem DOps.god (hT : TabOk P T) (hM : P.follows .mixedOrders = true) {fn : Func} (hf : P.funcs[f]? = some fn) (m : Nat) {ops : Array Oper} {n sl : Nat} {rest : List Oper} {fp : List (List Nat × List Nat)} {k : List Item} {s : AState} (hd : ops.toList.drop n = rest)
    (h : adops P f c0 R T ops k (drun P f c0 R T fn.results.toList m k) n rest sl fp s) : DOps P f c0 R ops n sl rest fp k s := adops_ok hT (fun s h => drun_ok hT hM hf m k s h) rest n sl fp s hd h
end
section
variable {P : Program} {f : FuncId} {c0 : Cx} {R : AV → List ABlk → Prop} {ops : Array Oper} {n sl : Nat} {o : Oper} {rest : List Oper} {fp : List (List Nat × List Nat)} {k : List Item} {s : AState}
/-- A call of a function that writes nothing of the caller's, in a drawn region. -/
theorem DOps.pure (ho : ops[n]? = some o) (hw : Wanted ops s.t o.guard true) {x : Operand} {as : Array Operand} {ts : Array TypeId} (hop : o.op = .call { callee := .value x, args := as, argTypes := ts })
    {g : FuncId} {fi ca : List AV} (hx : aev s.t x = .fn (.func g) fi ca) {args : List AV} {res : AV} (hs : ASpec P g args res) (hle : LeL (fi ++ as.toList.map (aev s.t) ++ ca) args) (ha : belL 0 args = true) (hr : res.bel 0 = true)
    (h : DOps P f c0 R ops (n + 1) (sl + 1) rest (fp ++ [([], [])]) k ⟨aput s.t o.dst res, s.h⟩) : DOps P f c0 R ops n sl (o :: rest) fp k s :=
  DOps.cons (e := ⟨res, [], []⟩) (StepOk.call ho hw hop hx hs.fn _ fun h' _ => ACall.pure hs hle ha hr ⟨rfl, rfl⟩) h
theorem Ops.pure (hw : Wanted ops s.t o.guard true) {x : Operand} {as : Array Operand} {ts : Array TypeId} (hop : o.op = .call { callee := .value x, args := as, argTypes := ts })
    {g : FuncId} {fi ca : List AV} (hx : aev s.t x = .fn (.func g) fi ca) {args : List AV} {res : AV} (hs : ASpec P g args res) (hle : LeL (fi ++ as.toList.map (aev s.t) ++ ca) args) (ha : belL 0 args = true) (hr : res.bel 0 = true)
    (h : Ops P f c0 R ops (n + 1) rest k ⟨aput s.t o.dst res, s.h⟩) : Ops P f c0 R ops n (o :: rest) k s :=
  Ops.call hw hop hx hs.fn (ACall.pure hs hle ha hr h)
theorem Ops.own (hw : Wanted ops s.t o.guard true) {x : Operand} {as : Array Operand} {ts : Array TypeId} (hop : o.op = .call { callee := .value x, args := as, argTypes := ts })
    {g : FuncId} {fi ca : List AV} (hx : aev s.t x = .fn (.func g) fi ca) {args : List AV} {kk : Nat} {l : List (List AV)} (hs : OSpec P g args kk l) (hle : LeL (fi ++ as.toList.map (aev s.t) ++ ca) args) (ha : belL 0 args = true)
    (h : Ops P f c0 R ops (n + 1) rest k ⟨aput s.t o.dst (.sl kk l (.own s.h.length)), s.h ++ [.tok kk l.length]⟩) : Ops P f c0 R ops n (o :: rest) k s :=
  Ops.call hw hop hx hs.fn (ACall.own hs hle ha h)
/-- A row of its own, as any row. -/
theorem OSpec.spec {g : FuncId} {args : List AV} {kk : Nat} {l : List (List AV)} (hs : OSpec P g args kk l) : ASpec P g args (.sl kk l .no) := ⟨hs.fn, hs.run.mono fun _ _ ⟨_, h, _⟩ => by rw [h]; exact .one (.one (.tok _ _ _))⟩
end
end Go.Proofs.YtgonmnjgodleeaaDoor
