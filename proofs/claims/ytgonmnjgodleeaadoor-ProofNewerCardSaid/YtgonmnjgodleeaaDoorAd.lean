/-
  The shadow of a run: a region that draws its order. Its operations are reckoned in the order of the text; where each two that may stand in either order have nothing to do with one another, any order comes to the same. Nothing here speaks of the program.
-/
import Derived.Test.YtgonmnjgodleeaaDoorAf
namespace Go.Proofs.YtgonmnjgodleeaaDoor
open Go.RowKit
/-- What an operation did: the value, the block that it wrote, the blocks that it read. -/
structure Ent where
  v : AV
  d : List (Nat × ABlk)
  rd : List Nat
/-- Blocks, laid one behind the other. -/
def aupds (h : List ABlk) : List (Nat × ABlk) → List ABlk
  | [] => h
  | (i, x) :: d => aupds (h.set i x) d
theorem aupds_one (h : List ABlk) (d : Option (Nat × ABlk)) : aupds h d.toList = aupd h d := by cases d <;> rfl
theorem aupds_len : ∀ (d : List (Nat × ABlk)) (h : List ABlk), (aupds h d).length = h.length
  | [], _ => rfl
  | (i, x) :: d, h => by rw [aupds, aupds_len d]; simp
theorem aupds_get : ∀ (d : List (Nat × ABlk)) (h : List ABlk) {y : Nat}, y ∉ d.map (·.1) → (aupds h d)[y]? = h[y]?
  | [], _, _, _ => rfl
  | (i, x) :: d, h, y, hy => by
    simp only [List.map_cons, List.mem_cons, not_or] at hy
    rw [aupds, aupds_get d _ hy.2, List.getElem?_set_ne (Ne.symm hy.1)]
theorem aupds_in : ∀ (d : List (Nat × ABlk)) (h h' : List ABlk) {y : Nat}, y ∈ d.map (·.1) → h.length = h'.length → (aupds h d)[y]? = (aupds h' d)[y]?
  | [], _, _, _, hy, _ => by simp at hy
  | (i, x) :: d, h, h', y, hy, hl => by
    rw [aupds, aupds]
    by_cases hd : y ∈ d.map (·.1)
    · exact aupds_in d _ _ hd (by simpa using hl)
    · simp only [List.map_cons, List.mem_cons] at hy
      rcases hy with rfl | hy
      · rw [aupds_get d _ hd, aupds_get d _ hd, List.getElem?_set, List.getElem?_set, hl, if_pos rfl, if_pos rfl]
      · exact absurd hy hd
theorem aupds_comm (d d' : List (Nat × ABlk)) (h : List ABlk) (hd : ∀ y ∈ d.map (·.1), y ∉ d'.map (·.1)) : aupds (aupds h d') d = aupds (aupds h d) d' := by
  apply List.ext_getElem?
  intro y
  by_cases hy : y ∈ d.map (·.1)
  · rw [aupds_get d' _ (hd y hy)]
    exact aupds_in d _ _ hy (aupds_len d' h)
  · rw [aupds_get d _ hy]
    by_cases hy' : y ∈ d'.map (·.1)
    · exact aupds_in d' _ _ hy' (aupds_len d h).symm
    · rw [aupds_get d' _ hy', aupds_get d' _ hy', aupds_get d _ hy]
def Ent.app (e : Ent) (o : Oper) (s : AState) : AState := ⟨aput s.t o.dst e.v, aupds s.h e.d⟩
def Ent.wr (e : Ent) : List Nat := e.d.map (·.1)
/-- Which operations stand before one for sure, as bits. -/
def maskOf (o : Oper) (acc : List Nat) : Nat := o.after.toList.foldl (fun m e => if Region.binds .any e then m ||| 2 ^ e.on ||| acc.getD e.on 0 else m) 0
def masks : List Oper → List Nat → List Nat
  | [], acc => acc
  | o :: r, acc => masks r (acc ++ [maskOf o acc])
/-- Each edge leads back; two that may stand in either order share no temporary. -/
def statOk (ops : Array Oper) : Bool :=
  let ms := masks ops.toList []
  (List.range ops.size).all fun j => match ops[j]? with
    | some oj => oj.after.toList.all (fun e => !Region.binds .any e || decide (e.on < j)) && (List.range j).all fun i => (ms.getD j 0).testBit i || (match ops[i]? with | some oi => Oper.apart ops oi oj | none => true)
    | none => true
def disj (xs ys : List Nat) : Bool := xs.all fun x => !ys.contains x
/-- Two that may stand in either order share no block that one of them writes. -/
def dynOk (ms : List Nat) (es : List Ent) : Bool :=
  (List.range es.length).all fun j => match es[j]? with
    | some ej => (List.range j).all fun i => (ms.getD j 0).testBit i || (match es[i]? with | some ei => disj ei.wr ej.rd && disj ei.wr ej.wr && disj ei.rd ej.wr | none => true)
    | none => true
/-- One stands before the other. -/
inductive Bef (ops : Array Oper) : Nat → Nat → Prop where
  | one {i j : Nat} {o : Oper} {e : Edge} (hj : ops[j]? = some o) (he : e ∈ o.after.toList) (hb : Region.binds .any e = true) (hi : e.on = i) : Bef ops i j
  | more {i j : Nat} {o : Oper} {e : Edge} (hj : ops[j]? = some o) (he : e ∈ o.after.toList) (hb : Region.binds .any e = true) (h : Bef ops i e.on) : Bef ops i j
theorem maskOf_ok {ops : Array Oper} {acc : List Nat} {j : Nat} {o : Oper} (hj : ops[j]? = some o) (ha : ∀ k i, (acc.getD k 0).testBit i = true → Bef ops i k) (i : Nat) (h : (maskOf o acc).testBit i = true) : Bef ops i j := by
  unfold maskOf at h
  have key : ∀ (l : List Edge) (m : Nat), (∀ e ∈ l, e ∈ o.after.toList) → (l.foldl (fun m e => if Region.binds .any e then m ||| 2 ^ e.on ||| acc.getD e.on 0 else m) m).testBit i = true → m.testBit i = true ∨ Bef ops i j := by
    intro l
    induction l with
    | nil => intro m _ h; exact .inl h
    | cons e l ih =>
      intro m hm h
      rw [List.foldl_cons] at h
      rcases ih _ (fun e he => hm e (by simp [he])) h with h | h
      · split at h
        · rename_i hb
          rw [Nat.testBit_or, Nat.testBit_or, Nat.testBit_two_pow] at h
          simp only [Bool.or_eq_true, decide_eq_true_eq] at h
          rcases h with (h | h) | h
          · exact .inl h
          · exact .inr (.one hj (hm e (by simp)) hb h)
          · exact .inr (.more hj (hm e (by simp)) hb (ha _ _ h))
        · exact .inl h
      · exact .inr h
  rcases key _ 0 (fun e h => h) h with h | h
  · simp at h
  · exact h
theorem masks_ok {ops : Array Oper} : ∀ (l : List Oper) (acc : List Nat), ops.toList.drop acc.length = l → (∀ k i, (acc.getD k 0).testBit i = true → Bef ops i k) → ∀ k i, ((masks l acc).getD k 0).testBit i = true → Bef ops i k
  | [], acc, _, h => h
  | o :: r, acc, hl, h => by
    obtain ⟨ho, hr⟩ := range'_cons hl
    refine masks_ok r (acc ++ [maskOf o acc]) (by simpa using hr) fun k i hk => ?_
    rw [List.getD_eq_getElem?_getD, List.getElem?_append] at hk
    split at hk
    · rw [← List.getD_eq_getElem?_getD] at hk; exact h k i hk
    · rename_i hlt
      by_cases he : k = acc.length
      · subst he
        rw [Nat.sub_self] at hk
        exact maskOf_ok ho h i hk
      · rw [List.getElem?_eq_none (by simp; omega)] at hk
        simp at hk
/-- A set of operations with all that stand before them. -/
def Closed (ops : Array Oper) (D : Nat → Bool) : Prop := ∀ j o e, ops[j]? = some o → D j = true → e ∈ o.after.toList → Region.binds .any e = true → D e.on = true
theorem Closed.bef {ops : Array Oper} {D : Nat → Bool} (h : Closed ops D) {i j : Nat} (hb : Bef ops i j) (hj : D j = true) : D i = true := by
  induction hb with
  | one hj' he hb hi => exact hi ▸ h _ _ _ hj' hj he hb
  | more hj' he hb _ ih => exact ih (h _ _ _ hj' hj he hb)
theorem Bef.pre {ops : Array Oper} {D : Nat → Bool} (h : Closed ops D) {i j : Nat} (hb : Bef ops i j) (hp : ∀ o e, ops[j]? = some o → e ∈ o.after.toList → Region.binds .any e = true → D e.on = true) : D i = true := by
  cases hb with
  | one hj he hb hi => exact hi ▸ hp _ _ hj he hb
  | more hj he hb h' => exact h.bef h' (hp _ _ hj he hb)
/-- The state behind the operations of D alone, in the text's order. -/
def sub (D : Nat → Bool) : Nat → List Oper → List Ent → AState → AState
  | n, o :: os, e :: es, s => sub D (n + 1) os es (if D n then e.app o s else s)
  | _, _, _, s => s
theorem aput_get {t : List AV} {d : Option Nat} {v : AV} {x : Nat} (h : d ≠ some x) : (aput t d v)[x]? = t[x]? := by
  cases d with
  | none => rfl
  | some i =>
    have : i ≠ x := fun e => h (by rw [e])
    simp [aput, List.getElem?_set_ne this]
theorem aupd_get {h : List ABlk} {d : Option (Nat × ABlk)} {y : Nat} (hd : ∀ z, d = some z → z.1 ≠ y) : (aupd h d)[y]? = h[y]? := by
  cases d with
  | none => rfl
  | some z =>
    obtain ⟨i, x⟩ := z
    have : i ≠ y := hd _ rfl
    simp [aupd, List.getElem?_set_ne this]
theorem sub_tmp {D D' : Nat → Bool} {x : Nat} : ∀ (os : List Oper) (es : List Ent) (n : Nat) (s s' : AState), s.t.length = s'.t.length → s.t[x]? = s'.t[x]? → (∀ j o, os[j]? = some o → o.dst = some x → D (n + j) = D' (n + j)) → (sub D n os es s).t[x]? = (sub D' n os es s').t[x]?
  | [], es, n, s, s', _, h, _ => by simpa [sub] using h
  | o :: os, [], n, s, s', _, h, _ => by simpa [sub] using h
  | o :: os, e :: es, n, s, s', hl, h, hD => by
    simp only [sub]
    have hlen : ∀ (s : AState) (b : Bool), (if b then e.app o s else s).t.length = s.t.length := by intro s b; cases b <;> simp [Ent.app, aput]; cases o.dst <;> simp
    refine sub_tmp os es (n + 1) _ _ (by rw [hlen, hlen, hl]) ?_ fun j o' ho hd => by have := hD (j + 1) o' (by simpa using ho) hd; rwa [← Nat.add_assoc, Nat.add_right_comm] at this
    by_cases hx : o.dst = some x
    · have := hD 0 o rfl hx
      rw [Nat.add_zero] at this
      rw [this]
      cases D' n with
      | false => exact h
      | true =>
        simp only [if_true, Ent.app, aput, hx, List.getElem?_set]
        rw [hl]
    · have key : ∀ (s : AState) (b : Bool), (if b then e.app o s else s).t[x]? = s.t[x]? := by
        intro s b
        cases b with
        | false => rfl
        | true => exact aput_get hx
      rw [key, key, h]
theorem sub_blk {D D' : Nat → Bool} {y : Nat} : ∀ (os : List Oper) (es : List Ent) (n : Nat) (s s' : AState), s.h.length = s'.h.length → s.h[y]? = s'.h[y]? → (∀ j e, es[j]? = some e → y ∈ e.wr → D (n + j) = D' (n + j)) → (sub D n os es s).h[y]? = (sub D' n os es s').h[y]?
  | [], es, n, s, s', _, h, _ => by simpa [sub] using h
  | o :: os, [], n, s, s', _, h, _ => by simpa [sub] using h
  | o :: os, e :: es, n, s, s', hl, h, hD => by
    simp only [sub]
    have hlen : ∀ (s : AState) (b : Bool), (if b then e.app o s else s).h.length = s.h.length := by
      intro s b
      cases b with
      | false => rfl
      | true => simp only [if_true, Ent.app]; exact aupds_len _ _
    refine sub_blk os es (n + 1) _ _ (by rw [hlen, hlen, hl]) ?_ fun j o' ho hd => by have := hD (j + 1) o' (by simpa using ho) hd; rwa [← Nat.add_assoc, Nat.add_right_comm] at this
    by_cases hx : y ∈ e.wr
    · have := hD 0 e rfl hx
      rw [Nat.add_zero] at this
      rw [this]
      cases D' n with
      | false => exact h
      | true =>
        exact aupds_in _ _ _ hx hl
    · have key : ∀ (s : AState) (b : Bool), (if b then e.app o s else s).h[y]? = s.h[y]? := by
        intro s b
        cases b with
        | false => rfl
        | true =>
          exact aupds_get _ _ hx
      rw [key, key, h]
theorem sub_tlen {D : Nat → Bool} : ∀ (os : List Oper) (es : List Ent) (n : Nat) (s : AState), (sub D n os es s).t.length = s.t.length
  | [], _, _, _ => by simp [sub]
  | _ :: _, [], _, _ => by simp [sub]
  | o :: os, e :: es, n, s => by
    simp only [sub]
    rw [sub_tlen os es]
    split
    · simp only [Ent.app, aput]; cases o.dst <;> simp
    · rfl
theorem app_comm {e e' : Ent} {o o' : Oper} (h1 : ∀ d, o.dst = some d → o'.dst ≠ some d) (h2 : disj e.wr e'.wr = true) (s : AState) : e.app o (e'.app o' s) = e'.app o' (e.app o s) := by
  obtain ⟨v, d, rd⟩ := e
  obtain ⟨v', d', rd'⟩ := e'
  have ht : aput (aput s.t o'.dst v') o.dst v = aput (aput s.t o.dst v) o'.dst v' := by
    cases hd : o.dst with
    | none => rfl
    | some i =>
      cases hd' : o'.dst with
      | none => rfl
      | some j =>
        have : j ≠ i := fun e => h1 i hd (by rw [hd', e])
        exact List.set_comm _ _ this
  have hh : aupds (aupds s.h d') d = aupds (aupds s.h d) d' := aupds_comm d d' s.h fun y hy hy' => by
    have := List.all_eq_true.1 h2 y hy
    simp only [Bool.not_eq_true', List.contains_eq_mem, decide_eq_false_iff_not] at this
    exact this hy'
  simp only [Ent.app, ht, hh]
/-- An operation that is taken in later. -/
theorem sub_add {D : Nat → Bool} {e : Ent} {o : Oper} : ∀ (os : List Oper) (es : List Ent) (n : Nat) (s : AState), (∀ j o' e', os[j]? = some o' → es[j]? = some e' → D (n + j) = true → (∀ d, o.dst = some d → o'.dst ≠ some d) ∧ disj e.wr e'.wr = true) →
    sub D n os es (e.app o s) = e.app o (sub D n os es s)
  | [], es, n, s, _ => by simp [sub]
  | o' :: os, [], n, s, _ => by simp [sub]
  | o' :: os, e' :: es, n, s, h => by
    simp only [sub]
    have hrest := fun s => sub_add (D := D) (e := e) (o := o) os es (n + 1) s fun j o2 e2 ho he hD => h (j + 1) o2 e2 (by simpa using ho) (by simpa using he) (by rwa [← Nat.add_assoc, Nat.add_right_comm])
    cases hDn : D n with
    | false => simpa using hrest s
    | true =>
      simp only [if_true]
      obtain ⟨h1, h2⟩ := h 0 o' e' rfl rfl (by simpa using hDn)
      rw [← app_comm h1 h2, hrest]
theorem sub_set {D : Nat → Bool} {i : Nat} (hD : D i = false) : ∀ (os : List Oper) (es : List Ent) (n : Nat) (s : AState) (o : Oper) (e : Ent), os[i - n]? = some o → es[i - n]? = some e → n ≤ i →
    (∀ j o' e', i < n + j → os[j]? = some o' → es[j]? = some e' → D (n + j) = true → (∀ d, o.dst = some d → o'.dst ≠ some d) ∧ disj e.wr e'.wr = true) →
    sub (fun j => D j || j == i) n os es s = e.app o (sub D n os es s)
  | [], es, n, s, o, e, ho, _, _, _ => by simp at ho
  | o' :: os, [], n, s, o, e, _, he, _, _ => by simp at he
  | o' :: os, e' :: es, n, s, o, e, ho, he, hn, h => by
    simp only [sub]
    by_cases hin : n = i
    · subst hin
      simp only [Nat.sub_self, List.getElem?_cons_zero, Option.some.injEq] at ho he
      subst ho he
      simp only [hD, beq_self_eq_true, Bool.or_true, if_true, Bool.false_eq_true, if_false]
      have e1 : ∀ s, sub (fun j => D j || j == n) (n + 1) os es s = sub D (n + 1) os es s := by
        intro s
        have : ∀ (os : List Oper) (es : List Ent) (m : Nat) (s : AState), n < m → sub (fun j => D j || j == n) m os es s = sub D m os es s := by
          intro os
          induction os with
          | nil => intro es m s _; simp [sub]
          | cons o os ih =>
            intro es m s hm
            cases es with
            | nil => simp [sub]
            | cons e es =>
              have : (m == n) = false := by simp; omega
              simp only [sub, this, Bool.or_false]
              exact ih es (m + 1) _ (by omega)
        exact this os es (n + 1) s (by omega)
      rw [e1]
      exact sub_add os es (n + 1) s fun j o2 e2 ho he hD => h (j + 1) o2 e2 (by omega) (by simpa using ho) (by simpa using he) (by rwa [← Nat.add_assoc, Nat.add_right_comm])
    · have hne : (n == i) = false := by simpa using hin
      have hidx : i - n = (i - (n + 1)) + 1 := by omega
      rw [hidx, List.getElem?_cons_succ] at ho he
      simp only [hne, Bool.or_false]
      exact sub_set hD os es (n + 1) _ o e ho he (by omega) fun j o2 e2 hj ho he hD => h (j + 1) o2 e2 (by omega) (by simpa using ho) (by simpa using he) (by rwa [← Nat.add_assoc, Nat.add_right_comm])
end Go.Proofs.YtgonmnjgodleeaaDoor
