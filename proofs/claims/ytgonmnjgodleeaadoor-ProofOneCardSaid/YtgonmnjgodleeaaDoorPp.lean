/-
  ProofOne, by its shadow; its live question is given.
-/
import Derived.Test.YtgonmnjgodleeaaDoorRs
import Derived.Test.YtgonmnjgodleeaaDoorPn
namespace Go.Proofs.YtgonmnjgodleeaaDoor
def twiceRow (q : List Acc) (a : Acc) : Nat := q.countP fun b => decide (a.by_ = b.by_) && !decide (a.value = b.value)
def twiceF (p q : List Acc) : Nat := (p.map (twiceRow q)).sum
theorem proof_parts {s : Sz} {p : List Acc} (h : rightP s p = true) : s.right = true ∧ (p.length : Int) = s.proof ∧ rightT p = true ∧ (∀ a ∈ p, a.by_ < s.n) ∧ ∀ a ∈ p, a.view = (p.map (·.view)).headD 0 ∧ a.value = (p.map (·.value)).headD [] := by
  unfold rightP at h
  simp only [Bool.and_eq_true, decide_eq_true_eq, List.all_eq_true] at h
  obtain ⟨⟨⟨⟨h1, h2⟩, h3⟩, h4⟩, h5⟩ := h
  exact ⟨h1, h2, h3, h4, h5⟩
theorem twice_ge (q : List Acc) : ∀ p : List Acc, (∀ a ∈ p, ∀ b ∈ q, a.value ≠ b.value) → (p.map (·.by_)).countP (fun i => (q.map (·.by_)).contains i) ≤ twiceF p q
  | [], _ => by simp [twiceF]
  | a :: p, h => by
    have ih := twice_ge q p fun a' ha' => h a' (List.mem_cons_of_mem _ ha')
    have e : twiceF (a :: p) q = twiceRow q a + twiceF p q := by simp [twiceF]
    rw [List.map_cons, List.countP_cons, e]
    by_cases hc : (q.map (·.by_)).contains a.by_ = true
    · rw [if_pos hc]
      have : 0 < twiceRow q a := by
        rw [List.contains_iff_mem, List.mem_map] at hc
        obtain ⟨b, hb, hab⟩ := hc
        unfold twiceRow
        rw [List.countP_pos_iff]
        exact ⟨b, hb, by simp [hab, h a (List.mem_cons_self ..) b hb]⟩
      omega
    · rw [if_neg hc]; omega
theorem by_range {s : Sz} {p : List Acc} (h : rightP s p = true) (q : Int → Bool) : (p.map (·.by_)).countP q ≤ (List.range' 0 s.n.toNat).countP fun i : Nat => q i := by
  obtain ⟨h1, h2, h3, h4, h5⟩ := proof_parts h
  simp only [rightT, Bool.and_eq_true] at h3
  refine rises_count q s.n.toNat 0 _ (by simpa using h3.2) fun b hb => ?_
  obtain ⟨a, ha, rfl⟩ := List.mem_map.1 hb
  have := h4 a ha
  have hn : 0 ≤ s.n := by simp only [Sz.right, Bool.and_eq_true, decide_eq_true_eq] at h1; unfold Sz.n; omega
  omega
theorem countP_split {α : Type} (q : α → Bool) (l : List α) : l.countP q + l.countP (fun x => !q x) = l.length := by
  induction l with
  | nil => rfl
  | cons a l ih => cases h : q a <;> simp [List.countP_cons, h] <;> omega
/-- ONE. -/
theorem one_plain {s : Sz} {p q : List Acc} (hp : rightP s p = true) (hq : rightP s q = true) (hne : ∀ a ∈ p, ∀ b ∈ q, a.value ≠ b.value) : s.f < (twiceF p q : Int) := by
  obtain ⟨h1, h2, _⟩ := proof_parts hp
  obtain ⟨_, g2, _⟩ := proof_parts hq
  have t := twice_ge q p hne
  have a1 := countP_split (fun i => (q.map (·.by_)).contains i) (p.map (·.by_))
  have a2 := by_range hp (fun i => !(q.map (·.by_)).contains i)
  have a3 := countP_split (fun i : Nat => (q.map (·.by_)).contains (i : Int)) (List.range' 0 s.n.toNat)
  have a4 := by_range hq (fun i => (q.map (·.by_)).contains i)
  have a5 : (q.map (·.by_)).countP (fun i => (q.map (·.by_)).contains i) = (q.map (·.by_)).length := List.countP_eq_length.2 fun x hx => by rw [List.contains_iff_mem]; exact hx
  rw [List.length_map] at a1 a5
  rw [List.length_range'] at a3
  simp only [Sz.right, Bool.and_eq_true, decide_eq_true_eq] at h1
  unfold Sz.proof at h2 g2
  have hn : s.n = 3 * s.f + 2 * s.t + 1 := rfl
  omega
/-- Two proofs whose values are unlike. -/
theorem one_unlike {s : Sz} {p q : List Acc} {x y : Bts} (hp : rightP s p = true) (hq : rightP s q = true) (hx : (p.map (·.value)).headD [] = x) (hy : (q.map (·.value)).headD [] = y) (hxy : x ≠ y) : s.f < (twiceF p q : Int) := by
  refine one_plain hp hq fun a ha b hb e => hxy ?_
  rw [← hx, ← hy, ← ((proof_parts hp).2.2.2.2 a ha).2, ← ((proof_parts hq).2.2.2.2 b hb).2, e]
end Go.Proofs.YtgonmnjgodleeaaDoor
namespace Go.Proofs.YtgonmnjgodleeaaDoor
open Go.RowKit
theorem twiceF_snoc {p q : List Acc} {i : Nat} {a : Acc} (h : p[i]? = some a) : twiceF (p.take (i + 1)) q = twiceF (p.take i) q + twiceRow q a := by
  rw [List.take_add_one, h]; simp [twiceF]
theorem twiceRow_snoc {q : List Acc} {k : Nat} {a b : Acc} (h : q[k]? = some b) : twiceRow (q.take (k + 1)) a = twiceRow (q.take k) a + (if (decide (a.by_ = b.by_) && !decide (a.value = b.value)) = true then 1 else 0) := by
  rw [List.take_add_one, h]
  unfold twiceRow
  rw [List.countP_append]
  simp [List.countP_cons]
theorem vlA_head (p : List Acc) : (p.map (·.value)).headD [] = vlA p := by cases p <;> rfl
theorem one_law {s : Sz} {p q : List Acc} (hp : rightP s p = true) (hq : rightP s q = true) (h : vlA p ≠ vlA q) : s.f < (twiceF p q : Int) := one_unlike hp hq (vlA_head p) (vlA_head q) h
set_option maxRecDepth 20000 in
set_option maxHeartbeats 4000000 in
theorem lawOne19 (hal : ASpec Tryd.prog 10 [] (.bool true)) (s : Sz) (p q : List Acc) : ASpec Tryd.prog 4 [encS s, votesA p, votesA q] (.bool true) := by
  have hfp := few19_spec p
  have hfq := few19_spec q
  cases h1 : fewV p with
  | false =>
    rw [h1] at hfp
    refine ⟨⟨_, Tryd.func4, by kernel_rfl, rfl⟩, ACall.of Tryd.func4 rfl fun c0 hc0 => ?_⟩; simp only [Tryd.ntmps4, List.length_cons, List.length_nil, Nat.reduceAdd, Nat.reduceSub, List.replicate_succ, List.replicate_zero, List.cons_append, List.nil_append]; refine Run.god tab_ok follows_ok Tryd.func4 60 ?_; simp only [encS, votesA, drun, aops, aone, aop, needs, ext, aev, aconst, aput, aupd, ok1, AV.cells, AV.whole, Option.getD_some, List.set_cons_zero, List.set_cons_succ, List.length_nil, List.getElem?_cons_zero, List.getElem?_cons_succ, List.cons_append, List.nil_append, true_and, if_true, if_false, Nat.zero_add, List.getD_eq_getElem?_getD, Bool.false_eq_true]
    refine Ops.pure .free rfl rfl (hfp) (by simp only [votesA, aev, Option.getD_some, List.getElem?_cons_zero, List.getElem?_cons_succ, List.map_cons, List.map_nil, List.nil_append, List.append_nil, List.getD_eq_getElem?_getD]; (repeat' (first | exact LeL.nil | exact Le1L.nil | exact Le.refl _ | exact Le1.refl _ | exact Le1.nil _ | exact Le1.tok _ _ _ | exact LeR.one (Le.refl _) | apply LeR.tup | apply LeL.cons | apply Le1L.cons | apply Le.agg | apply Le.one | apply LeR.one))) rfl rfl ?_
    refine Ops.god tab_ok follows_ok Tryd.func4 60 ?_; simp only [↓alt_t, ↓alts_t, ↓gone_ft, gslot, drun, aops, aone, aop, needs, ext, aev, aconst, aput, aupd, ok1, Option.getD_some, Option.bind_some, List.set_cons_zero, List.set_cons_succ, List.getElem?_cons_zero, List.getElem?_cons_succ, List.getElem?_toArray, List.cons_append, List.nil_append, true_and, if_false, Bool.not_false, List.getD_eq_getElem?_getD, Bool.false_eq_true]
    refine Ops.pure .free rfl rfl (hal) (by simp only [List.map_nil, List.append_nil]; (repeat' (first | exact LeL.nil | exact Le1L.nil | exact Le.refl _ | exact Le1.refl _ | exact Le1.nil _ | exact Le1.tok _ _ _ | exact LeR.one (Le.refl _) | apply LeR.tup | apply LeL.cons | apply Le1L.cons | apply Le.agg | apply Le.one | apply LeR.one))) rfl rfl ?_
    refine Ops.god tab_ok follows_ok Tryd.func4 60 ?_; simp only [Tryd.results4, drun, aops, aone, afin, ares, aresL, ares1, aresOk, aresOk1, aop, needs, ext, aev, aput, aupd, ok1, Option.getD_some, Option.bind_some, Option.map_some, List.set_cons_zero, List.set_cons_succ, List.getElem?_cons_zero, List.getElem?_cons_succ, List.cons_append, List.nil_append, true_and, and_true, if_false, List.getD_eq_getElem?_getD, Bool.false_eq_true]
    (repeat' (first | exact LeL.nil | exact Le1L.nil | exact Le.refl _ | exact Le1.refl _ | exact Le1.nil _ | exact Le1.tok _ _ _ | exact LeR.one (Le.refl _) | apply LeR.tup | apply LeL.cons | apply Le1L.cons | apply Le.agg | apply Le.one | apply LeR.one))
  | true =>
  rw [h1] at hfp
  cases h2 : fewV q with
  | false =>
    rw [h2] at hfq
    refine ⟨⟨_, Tryd.func4, by kernel_rfl, rfl⟩, ACall.of Tryd.func4 rfl fun c0 hc0 => ?_⟩; simp only [Tryd.ntmps4, List.length_cons, List.length_nil, Nat.reduceAdd, Nat.reduceSub, List.replicate_succ, List.replicate_zero, List.cons_append, List.nil_append]; refine Run.god tab_ok follows_ok Tryd.func4 60 ?_; simp only [encS, votesA, drun, aops, aone, aop, needs, ext, aev, aconst, aput, aupd, ok1, AV.cells, AV.whole, Option.getD_some, List.set_cons_zero, List.set_cons_succ, List.length_nil, List.getElem?_cons_zero, List.getElem?_cons_succ, List.cons_append, List.nil_append, true_and, if_true, if_false, Nat.zero_add, List.getD_eq_getElem?_getD, Bool.false_eq_true]
    refine Ops.pure .free rfl rfl (hfp) (by simp only [votesA, aev, Option.getD_some, List.getElem?_cons_zero, List.getElem?_cons_succ, List.map_cons, List.map_nil, List.nil_append, List.append_nil, List.getD_eq_getElem?_getD]; (repeat' (first | exact LeL.nil | exact Le1L.nil | exact Le.refl _ | exact Le1.refl _ | exact Le1.nil _ | exact Le1.tok _ _ _ | exact LeR.one (Le.refl _) | apply LeR.tup | apply LeL.cons | apply Le1L.cons | apply Le.agg | apply Le.one | apply LeR.one))) rfl rfl ?_
    refine Ops.god tab_ok follows_ok Tryd.func4 60 ?_; simp only [↓alts_f, ↓gone_ff, gslot, aops, aone, aop, needs, ext, aev, aput, aupd, ok1, Option.getD_some, Option.bind_some, List.set_cons_zero, List.set_cons_succ, List.getElem?_cons_zero, List.getElem?_cons_succ, List.getElem?_toArray, List.cons_append, List.nil_append, true_and, if_false, Nat.reduceAdd, Bool.not_true, List.getD_eq_getElem?_getD, Bool.false_eq_true]
    refine Ops.pure (Wanted.test 3 false false rfl) rfl rfl (hfq) (by simp only [votesA, aev, Option.getD_some, List.getElem?_cons_zero, List.getElem?_cons_succ, List.map_cons, List.map_nil, List.nil_append, List.append_nil, List.getD_eq_getElem?_getD]; (repeat' (first | exact LeL.nil | exact Le1L.nil | exact Le.refl _ | exact Le1.refl _ | exact Le1.nil _ | exact Le1.tok _ _ _ | exact LeR.one (Le.refl _) | apply LeR.tup | apply LeL.cons | apply Le1L.cons | apply Le.agg | apply Le.one | apply LeR.one))) rfl rfl ?_
    refine Ops.god tab_ok follows_ok Tryd.func4 60 ?_; simp only [↓alt_t, ↓alts_t, ↓alts_f, ↓gone_ft, ↓gone_ff, gslot, drun, aops, aone, aop, needs, ext, aev, aconst, aput, aupd, ok1, Option.getD_some, Option.bind_some, List.set_cons_zero, List.set_cons_succ, List.getElem?_cons_zero, List.getElem?_cons_succ, List.getElem?_toArray, List.cons_append, List.nil_append, true_and, if_false, Bool.not_false, List.getD_eq_getElem?_getD, Bool.false_eq_true]
    refine Ops.pure .free rfl rfl (hal) (by simp only [List.map_nil, List.append_nil]; (repeat' (first | exact LeL.nil | exact Le1L.nil | exact Le.refl _ | exact Le1.refl _ | exact Le1.nil _ | exact Le1.tok _ _ _ | exact LeR.one (Le.refl _) | apply LeR.tup | apply LeL.cons | apply Le1L.cons | apply Le.agg | apply Le.one | apply LeR.one))) rfl rfl ?_
    refine Ops.god tab_ok follows_ok Tryd.func4 60 ?_; simp only [Tryd.results4, drun, aops, aone, afin, ares, aresL, ares1, aresOk, aresOk1, aop, needs, ext, aev, aput, aupd, ok1, Option.getD_some, Option.bind_some, Option.map_some, List.set_cons_zero, List.set_cons_succ, List.getElem?_cons_zero, List.getElem?_cons_succ, List.cons_append, List.nil_append, true_and, and_true, if_false, List.getD_eq_getElem?_getD, Bool.false_eq_true]
    (repeat' (first | exact LeL.nil | exact Le1L.nil | exact Le.refl _ | exact Le1.refl _ | exact Le1.nil _ | exact Le1.tok _ _ _ | exact LeR.one (Le.refl _) | apply LeR.tup | apply LeL.cons | apply Le1L.cons | apply Le.agg | apply Le.one | apply LeR.one))
  | true =>
  rw [h2] at hfq
  have lp := few_len h1
  have lq := few_len h2
  have hr1 := right19_spec s p (by omega)
  have hr2 := right19_spec s q (by omega)
  cases e1 : rightP s p with
  | false =>
    rw [e1] at hr1
    refine ⟨⟨_, Tryd.func4, by kernel_rfl, rfl⟩, ACall.of Tryd.func4 rfl fun c0 hc0 => ?_⟩; simp only [Tryd.ntmps4, List.length_cons, List.length_nil, Nat.reduceAdd, Nat.reduceSub, List.replicate_succ, List.replicate_zero, List.cons_append, List.nil_append]; refine Run.god tab_ok follows_ok Tryd.func4 60 ?_; simp only [encS, votesA, drun, aops, aone, aop, needs, ext, aev, aconst, aput, aupd, ok1, AV.cells, AV.whole, Option.getD_some, List.set_cons_zero, List.set_cons_succ, List.length_nil, List.getElem?_cons_zero, List.getElem?_cons_succ, List.cons_append, List.nil_append, true_and, if_true, if_false, Nat.zero_add, List.getD_eq_getElem?_getD, Bool.false_eq_true]
    refine Ops.pure .free rfl rfl (hfp) (by simp only [votesA, aev, Option.getD_some, List.getElem?_cons_zero, List.getElem?_cons_succ, List.map_cons, List.map_nil, List.nil_append, List.append_nil, List.getD_eq_getElem?_getD]; (repeat' (first | exact LeL.nil | exact Le1L.nil | exact Le.refl _ | exact Le1.refl _ | exact Le1.nil _ | exact Le1.tok _ _ _ | exact LeR.one (Le.refl _) | apply LeR.tup | apply LeL.cons | apply Le1L.cons | apply Le.agg | apply Le.one | apply LeR.one))) rfl rfl ?_
    refine Ops.god tab_ok follows_ok Tryd.func4 60 ?_; simp only [↓alts_f, ↓gone_ff, gslot, aops, aone, aop, needs, ext, aev, aput, aupd, ok1, Option.getD_some, Option.bind_some, List.set_cons_zero, List.set_cons_succ, List.getElem?_cons_zero, List.getElem?_cons_succ, List.getElem?_toArray, List.cons_append, List.nil_append, true_and, if_false, Nat.reduceAdd, Bool.not_true, List.getD_eq_getElem?_getD, Bool.false_eq_true]
    refine Ops.pure (Wanted.test 3 false false rfl) rfl rfl (hfq) (by simp only [votesA, aev, Option.getD_some, List.getElem?_cons_zero, List.getElem?_cons_succ, List.map_cons, List.map_nil, List.nil_append, List.append_nil, List.getD_eq_getElem?_getD]; (repeat' (first | exact LeL.nil | exact Le1L.nil | exact Le.refl _ | exact Le1.refl _ | exact Le1.nil _ | exact Le1.tok _ _ _ | exact LeR.one (Le.refl _) | apply LeR.tup | apply LeL.cons | apply Le1L.cons | apply Le.agg | apply Le.one | apply LeR.one))) rfl rfl ?_
    refine Ops.god tab_ok follows_ok Tryd.func4 60 ?_; simp only [↓alts_f, ↓gone_ff, gslot, aops, aone, aop, needs, ext, aev, aput, aupd, aload, tab_23, ok1, cellsAs, TI.agg, Option.getD_some, Option.bind_some, Option.map_some, List.set_cons_zero, List.set_cons_succ, List.length_cons, List.length_nil, List.getElem?_cons_zero, List.getElem?_cons_succ, List.getElem?_toArray, List.drop_zero, List.take_succ_cons, List.take_nil, List.cons_append, List.nil_append, true_and, if_true, if_false, Nat.reduceAdd, Nat.zero_add, Bool.not_true, Nat.le_refl, List.getD_eq_getElem?_getD, Bool.false_eq_true]
    refine Ops.pure (Wanted.test 8 false false rfl) rfl rfl (hr1) (by simp only [encS, votesA, aev, Option.getD_some, List.getElem?_cons_zero, List.getElem?_cons_succ, List.map_cons, List.map_nil, List.nil_append, List.append_nil, List.getD_eq_getElem?_getD]; (repeat' (first | exact LeL.nil | exact Le1L.nil | exact Le.refl _ | exact Le1.refl _ | exact Le1.nil _ | exact Le1.tok _ _ _ | exact LeR.one (Le.refl _) | apply LeR.tup | apply LeL.cons | apply Le1L.cons | apply Le.agg | apply Le.one | apply LeR.one))) rfl rfl ?_
    refine Ops.god tab_ok follows_ok Tryd.func4 60 ?_; simp only [↓alt_t, ↓alts_t, ↓alts_f, ↓gone_ft, ↓gone_ff, gslot, drun, aops, aone, aop, needs, ext, aev, aconst, aput, aupd, ok1, Option.getD_some, Option.bind_some, List.set_cons_zero, List.set_cons_succ, List.getElem?_cons_zero, List.getElem?_cons_succ, List.getElem?_toArray, List.cons_append, List.nil_append, true_and, if_false, Bool.not_false, List.getD_eq_getElem?_getD, Bool.false_eq_true]
    refine Ops.pure .free rfl rfl (hal) (by simp only [List.map_nil, List.append_nil]; (repeat' (first | exact LeL.nil | exact Le1L.nil | exact Le.refl _ | exact Le1.refl _ | exact Le1.nil _ | exact Le1.tok _ _ _ | exact LeR.one (Le.refl _) | apply LeR.tup | apply LeL.cons | apply Le1L.cons | apply Le.agg | apply Le.one | apply LeR.one))) rfl rfl ?_
    refine Ops.god tab_ok follows_ok Tryd.func4 60 ?_; simp only [Tryd.results4, drun, aops, aone, afin, ares, aresL, ares1, aresOk, aresOk1, aop, needs, ext, aev, aput, aupd, ok1, Option.getD_some, Option.bind_some, Option.map_some, List.set_cons_zero, List.set_cons_succ, List.getElem?_cons_zero, List.getElem?_cons_succ, List.cons_append, List.nil_append, true_and, and_true, if_false, List.getD_eq_getElem?_getD, Bool.false_eq_true]
    (repeat' (first | exact LeL.nil | exact Le1L.nil | exact Le.refl _ | exact Le1.refl _ | exact Le1.nil _ | exact Le1.tok _ _ _ | exact LeR.one (Le.refl _) | apply LeR.tup | apply LeL.cons | apply Le1L.cons | apply Le.agg | apply Le.one | apply LeR.one))
  | true =>
  rw [e1] at hr1
  cases e2 : rightP s q with
  | false =>
    rw [e2] at hr2
    refine ⟨⟨_, Tryd.func4, by kernel_rfl, rfl⟩, ACall.of Tryd.func4 rfl fun c0 hc0 => ?_⟩; simp only [Tryd.ntmps4, List.length_cons, List.length_nil, Nat.reduceAdd, Nat.reduceSub, List.replicate_succ, List.replicate_zero, List.cons_append, List.nil_append]; refine Run.god tab_ok follows_ok Tryd.func4 60 ?_; simp only [encS, votesA, drun, aops, aone, aop, needs, ext, aev, aconst, aput, aupd, ok1, AV.cells, AV.whole, Option.getD_some, List.set_cons_zero, List.set_cons_succ, List.length_nil, List.getElem?_cons_zero, List.getElem?_cons_succ, List.cons_append, List.nil_append, true_and, if_true, if_false, Nat.zero_add, List.getD_eq_getElem?_getD, Bool.false_eq_true]
    refine Ops.pure .free rfl rfl (hfp) (by simp only [votesA, aev, Option.getD_some, List.getElem?_cons_zero, List.getElem?_cons_succ, List.map_cons, List.map_nil, List.nil_append, List.append_nil, List.getD_eq_getElem?_getD]; (repeat' (first | exact LeL.nil | exact Le1L.nil | exact Le.refl _ | exact Le1.refl _ | exact Le1.nil _ | exact Le1.tok _ _ _ | exact LeR.one (Le.refl _) | apply LeR.tup | apply LeL.cons | apply Le1L.cons | apply Le.agg | apply Le.one | apply LeR.one))) rfl rfl ?_
    refine Ops.god tab_ok follows_ok Tryd.func4 60 ?_; simp only [↓alts_f, ↓gone_ff, gslot, aops, aone, aop, needs, ext, aev, aput, aupd, ok1, Option.getD_some, Option.bind_some, List.set_cons_zero, List.set_cons_succ, List.getElem?_cons_zero, List.getElem?_cons_succ, List.getElem?_toArray, List.cons_append, List.nil_append, true_and, if_false, Nat.reduceAdd, Bool.not_true, List.getD_eq_getElem?_getD, Bool.false_eq_true]
    refine Ops.pure (Wanted.test 3 false false rfl) rfl rfl (hfq) (by simp only [votesA, aev, Option.getD_some, List.getElem?_cons_zero, List.getElem?_cons_succ, List.map_cons, List.map_nil, List.nil_append, List.append_nil, List.getD_eq_getElem?_getD]; (repeat' (first | exact LeL.nil | exact Le1L.nil | exact Le.refl _ | exact Le1.refl _ | exact Le1.nil _ | exact Le1.tok _ _ _ | exact LeR.one (Le.refl _) | apply LeR.tup | apply LeL.cons | apply Le1L.cons | apply Le.agg | apply Le.one | apply LeR.one))) rfl rfl ?_
    refine Ops.god tab_ok follows_ok Tryd.func4 60 ?_; simp only [↓alts_f, ↓gone_ff, gslot, aops, aone, aop, needs, ext, aev, aput, aupd, aload, tab_23, ok1, cellsAs, TI.agg, Option.getD_some, Option.bind_some, Option.map_some, List.set_cons_zero, List.set_cons_succ, List.length_cons, List.length_nil, List.getElem?_cons_zero, List.getElem?_cons_succ, List.getElem?_toArray, List.drop_zero, List.take_succ_cons, List.take_nil, List.cons_append, List.nil_append, true_and, if_true, if_false, Nat.reduceAdd, Nat.zero_add, Bool.not_true, Nat.le_refl, List.getD_eq_getElem?_getD, Bool.false_eq_true]
    refine Ops.pure (Wanted.test 8 false false rfl) rfl rfl (hr1) (by simp only [encS, votesA, aev, Option.getD_some, List.getElem?_cons_zero, List.getElem?_cons_succ, List.map_cons, List.map_nil, List.nil_append, List.append_nil, List.getD_eq_getElem?_getD]; (repeat' (first | exact LeL.nil | exact Le1L.nil | exact Le.refl _ | exact Le1.refl _ | exact Le1.nil _ | exact Le1.tok _ _ _ | exact LeR.one (Le.refl _) | apply LeR.tup | apply LeL.cons | apply Le1L.cons | apply Le.agg | apply Le.one | apply LeR.one))) rfl rfl ?_
    refine Ops.god tab_ok follows_ok Tryd.func4 60 ?_; simp only [↓alts_f, ↓gone_ff, gslot, aops, aone, aop, needs, ext, aev, aput, aupd, aload, tab_23, ok1, cellsAs, TI.agg, Option.getD_some, Option.bind_some, Option.map_some, List.set_cons_zero, List.set_cons_succ, List.length_cons, List.length_nil, List.getElem?_cons_zero, List.getElem?_cons_succ, List.getElem?_toArray, List.drop_zero, List.take_succ_cons, List.take_nil, List.cons_append, List.nil_append, true_and, if_true, if_false, Nat.reduceAdd, Nat.zero_add, Bool.not_true, Nat.le_refl, List.getD_eq_getElem?_getD, Bool.false_eq_true]
    refine Ops.pure (Wanted.test 14 false false rfl) rfl rfl (hr2) (by simp only [encS, votesA, aev, Option.getD_some, List.getElem?_cons_zero, List.getElem?_cons_succ, List.map_cons, List.map_nil, List.nil_append, List.append_nil, List.getD_eq_getElem?_getD]; (repeat' (first | exact LeL.nil | exact Le1L.nil | exact Le.refl _ | exact Le1.refl _ | exact Le1.nil _ | exact Le1.tok _ _ _ | exact LeR.one (Le.refl _) | apply LeR.tup | apply LeL.cons | apply Le1L.cons | apply Le.agg | apply Le.one | apply LeR.one))) rfl rfl ?_
    refine Ops.god tab_ok follows_ok Tryd.func4 60 ?_; simp only [↓alt_t, ↓alts_f, ↓gone_ff, gslot, drun, aops, aone, aop, needs, ext, aev, aput, aupd, ok1, Option.getD_some, Option.bind_some, List.set_cons_zero, List.set_cons_succ, List.getElem?_cons_zero, List.getElem?_cons_succ, List.getElem?_toArray, List.cons_append, List.nil_append, true_and, if_false, Bool.not_false, List.getD_eq_getElem?_getD, Bool.false_eq_true]
    refine Ops.pure .free rfl rfl (hal) (by simp only [List.map_nil, List.append_nil]; (repeat' (first | exact LeL.nil | exact Le1L.nil | exact Le.refl _ | exact Le1.refl _ | exact Le1.nil _ | exact Le1.tok _ _ _ | exact LeR.one (Le.refl _) | apply LeR.tup | apply LeL.cons | apply Le1L.cons | apply Le.agg | apply Le.one | apply LeR.one))) rfl rfl ?_
    refine Ops.god tab_ok follows_ok Tryd.func4 60 ?_; simp only [Tryd.results4, drun, aops, aone, afin, ares, aresL, ares1, aresOk, aresOk1, aop, needs, ext, aev, aput, aupd, ok1, Option.getD_some, Option.bind_some, Option.map_some, List.set_cons_zero, List.set_cons_succ, List.getElem?_cons_zero, List.getElem?_cons_succ, List.cons_append, List.nil_append, true_and, and_true, if_false, List.getD_eq_getElem?_getD, Bool.false_eq_true]
    (repeat' (first | exact LeL.nil | exact Le1L.nil | exact Le.refl _ | exact Le1.refl _ | exact Le1.nil _ | exact Le1.tok _ _ _ | exact LeR.one (Le.refl _) | apply LeR.tup | apply LeL.cons | apply Le1L.cons | apply Le.agg | apply Le.one | apply LeR.one))
  | true =>
  rw [e2] at hr2
  have hop := of_spec p
  have hoq := of_spec q
  rw [ofA_eq] at hop hoq
  have np : p ≠ [] := by obtain ⟨a, m, rfl⟩ := rightP_cons e1; simp
  have nq : q ≠ [] := by obtain ⟨a, m, rfl⟩ := rightP_cons e2; simp
  rw [decide_eq_true np] at hop
  rw [decide_eq_true nq] at hoq
  have hlaw := one_law e1 e2
  obtain ⟨v1, hv1⟩ : ∃ v, vwA p = v := ⟨_, rfl⟩
  obtain ⟨v2, hv2⟩ : ∃ v, vwA q = v := ⟨_, rfl⟩
  obtain ⟨x1, hx1⟩ : ∃ v, vlA p = v := ⟨_, rfl⟩
  obtain ⟨x2, hx2⟩ : ∃ v, vlA q = v := ⟨_, rfl⟩
  rw [hv1, hx1] at hop
  rw [hv2, hx2] at hoq
  rw [hx1, hx2] at hlaw
  refine ⟨⟨_, Tryd.func4, by kernel_rfl, rfl⟩, ACall.of Tryd.func4 rfl fun c0 hc0 => ?_⟩; simp only [Tryd.ntmps4, List.length_cons, List.length_nil, Nat.reduceAdd, Nat.reduceSub, List.replicate_succ, List.replicate_zero, List.cons_append, List.nil_append]; refine Run.god tab_ok follows_ok Tryd.func4 60 ?_; simp only [encS, votesA, drun, aops, aone, aop, needs, ext, aev, aconst, aput, aupd, ok1, AV.cells, AV.whole, Option.getD_some, List.set_cons_zero, List.set_cons_succ, List.length_nil, List.getElem?_cons_zero, List.getElem?_cons_succ, List.cons_append, List.nil_append, true_and, if_true, if_false, Nat.zero_add, List.getD_eq_getElem?_getD, Bool.false_eq_true]
  refine Ops.pure .free rfl rfl (hfp) (by simp only [votesA, aev, Option.getD_some, List.getElem?_cons_zero, List.getElem?_cons_succ, List.map_cons, List.map_nil, List.nil_append, List.append_nil, List.getD_eq_getElem?_getD]; (repeat' (first | exact LeL.nil | exact Le1L.nil | exact Le.refl _ | exact Le1.refl _ | exact Le1.nil _ | exact Le1.tok _ _ _ | exact LeR.one (Le.refl _) | apply LeR.tup | apply LeL.cons | apply Le1L.cons | apply Le.agg | apply Le.one | apply LeR.one))) rfl rfl ?_
  refine Ops.god tab_ok follows_ok Tryd.func4 60 ?_; simp only [↓alts_f, ↓gone_ff, gslot, aops, aone, aop, needs, ext, aev, aput, aupd, ok1, Option.getD_some, Option.bind_some, List.set_cons_zero, List.set_cons_succ, List.getElem?_cons_zero, List.getElem?_cons_succ, List.getElem?_toArray, List.cons_append, List.nil_append, true_and, if_false, Nat.reduceAdd, Bool.not_true, List.getD_eq_getElem?_getD, Bool.false_eq_true]
  refine Ops.pure (Wanted.test 3 false false rfl) rfl rfl (hfq) (by simp only [votesA, aev, Option.getD_some, List.getElem?_cons_zero, List.getElem?_cons_succ, List.map_cons, List.map_nil, List.nil_append, List.append_nil, List.getD_eq_getElem?_getD]; (repeat' (first | exact LeL.nil | exact Le1L.nil | exact Le.refl _ | exact Le1.refl _ | exact Le1.nil _ | exact Le1.tok _ _ _ | exact LeR.one (Le.refl _) | apply LeR.tup | apply LeL.cons | apply Le1L.cons | apply Le.agg | apply Le.one | apply LeR.one))) rfl rfl ?_
  refine Ops.god tab_ok follows_ok Tryd.func4 60 ?_; simp only [↓alts_f, ↓gone_ff, gslot, aops, aone, aop, needs, ext, aev, aput, aupd, aload, tab_23, ok1, cellsAs, TI.agg, Option.getD_some, Option.bind_some, Option.map_some, List.set_cons_zero, List.set_cons_succ, List.length_cons, List.length_nil, List.getElem?_cons_zero, List.getElem?_cons_succ, List.getElem?_toArray, List.drop_zero, List.take_succ_cons, List.take_nil, List.cons_append, List.nil_append, true_and, if_true, if_false, Nat.reduceAdd, Nat.zero_add, Bool.not_true, Nat.le_refl, List.getD_eq_getElem?_getD, Bool.false_eq_true]
  refine Ops.pure (Wanted.test 8 false false rfl) rfl rfl (hr1) (by simp only [encS, votesA, aev, Option.getD_some, List.getElem?_cons_zero, List.getElem?_cons_succ, List.map_cons, List.map_nil, List.nil_append, List.append_nil, List.getD_eq_getElem?_getD]; (repeat' (first | exact LeL.nil | exact Le1L.nil | exact Le.refl _ | exact Le1.refl _ | exact Le1.nil _ | exact Le1.tok _ _ _ | exact LeR.one (Le.refl _) | apply LeR.tup | apply LeL.cons | apply Le1L.cons | apply Le.agg | apply Le.one | apply LeR.one))) rfl rfl ?_
  refine Ops.god tab_ok follows_ok Tryd.func4 60 ?_; simp only [↓alts_f, ↓gone_ff, gslot, aops, aone, aop, needs, ext, aev, aput, aupd, aload, tab_23, ok1, cellsAs, TI.agg, Option.getD_some, Option.bind_some, Option.map_some, List.set_cons_zero, List.set_cons_succ, List.length_cons, List.length_nil, List.getElem?_cons_zero, List.getElem?_cons_succ, List.getElem?_toArray, List.drop_zero, List.take_succ_cons, List.take_nil, List.cons_append, List.nil_append, true_and, if_true, if_false, Nat.reduceAdd, Nat.zero_add, Bool.not_true, Nat.le_refl, List.getD_eq_getElem?_getD, Bool.false_eq_true]
  refine Ops.pure (Wanted.test 14 false false rfl) rfl rfl (hr2) (by simp only [encS, votesA, aev, Option.getD_some, List.getElem?_cons_zero, List.getElem?_cons_succ, List.map_cons, List.map_nil, List.nil_append, List.append_nil, List.getD_eq_getElem?_getD]; (repeat' (first | exact LeL.nil | exact Le1L.nil | exact Le.refl _ | exact Le1.refl _ | exact Le1.nil _ | exact Le1.tok _ _ _ | exact LeR.one (Le.refl _) | apply LeR.tup | apply LeL.cons | apply Le1L.cons | apply Le.agg | apply Le.one | apply LeR.one))) rfl rfl ?_
  refine Ops.god tab_ok follows_ok Tryd.func4 60 ?_; simp only [↓alt_f, ↓alts_f, ↓gone_ff, gslot, drun, aops, aone, aop, needs, ext, aev, aput, aupd, ok1, Option.getD_some, Option.bind_some, List.set_cons_zero, List.set_cons_succ, List.getElem?_cons_zero, List.getElem?_cons_succ, List.getElem?_toArray, List.cons_append, List.nil_append, true_and, if_false, Nat.zero_add, Bool.not_true, List.getD_eq_getElem?_getD, Bool.false_eq_true]
  ((repeat' (apply And.intro)) <;> try (first | rfl | omega | (unfold I64; omega)))
  refine Ops.pure .free rfl rfl (hop) (by simp only [votesA, aev, Option.getD_some, List.getElem?_cons_zero, List.getElem?_cons_succ, List.map_cons, List.map_nil, List.nil_append, List.append_nil, List.getD_eq_getElem?_getD]; (repeat' (first | exact LeL.nil | exact Le1L.nil | exact Le.refl _ | exact Le1.refl _ | exact Le1.nil _ | exact Le1.tok _ _ _ | exact LeR.one (Le.refl _) | apply LeR.tup | apply LeL.cons | apply Le1L.cons | apply Le.agg | apply Le.one | apply LeR.one))) rfl rfl ?_
  refine Ops.god tab_ok follows_ok Tryd.func4 60 ?_; simp only [drun, aops, aone, aop, needs, ext, aev, aput, aupd, ok1, Option.getD_some, Option.map_some, List.set_cons_zero, List.set_cons_succ, List.getElem?_cons_zero, List.getElem?_cons_succ, List.cons_append, List.nil_append, true_and, if_false, Nat.zero_add, List.getD_eq_getElem?_getD, Bool.false_eq_true]
  ((repeat' (apply And.intro)) <;> try (first | rfl | omega | (unfold I64; omega)))
  refine Ops.pure .free rfl rfl (hoq) (by simp only [votesA, aev, Option.getD_some, List.getElem?_cons_zero, List.getElem?_cons_succ, List.map_cons, List.map_nil, List.nil_append, List.append_nil, List.getD_eq_getElem?_getD]; (repeat' (first | exact LeL.nil | exact Le1L.nil | exact Le.refl _ | exact Le1.refl _ | exact Le1.nil _ | exact Le1.tok _ _ _ | exact LeR.one (Le.refl _) | apply LeR.tup | apply LeL.cons | apply Le1L.cons | apply Le.agg | apply Le.one | apply LeR.one))) rfl rfl ?_
  refine Ops.god tab_ok follows_ok Tryd.func4 60 ?_; simp only [↓alt_f, ↓alts_f, ↓gone_ff, gslot, drun, aops, aone, aop, needs, ext, aev, aconst, aput, aupd, ok1, Option.getD_some, Option.bind_some, Option.map_some, List.set_cons_zero, List.set_cons_succ, List.getElem?_cons_zero, List.getElem?_cons_succ, List.getElem?_toArray, List.cons_append, List.nil_append, true_and, if_false, Bool.not_true, List.getD_eq_getElem?_getD, Bool.false_eq_true]
  ((repeat' (apply And.intro)) <;> try (first | rfl | omega | (unfold I64; omega)))
  refine Run.loopV (α := Nat × Nat) (fun x => x.1 ≤ p.length ∧ x.2 = twiceF (p.take x.1) q ∧ x.2 ≤ 40 * x.1) (fun x => [(13, .int .i64 x.2), (14, .int .i64 x.1)]) 1 (fun _ => []) (fun x => p.length - x.1) (0, 0) ⟨Nat.zero_le _, by simp [twiceF], by simp⟩ ?_ ?_
  · simp only [writes, junks, puts, hputs, List.filterMap_cons, List.filterMap_nil, Int.natCast_zero, List.set_cons_zero, List.set_cons_succ, List.take_succ_cons, List.take_nil, List.cons_append, List.nil_append, List.append_nil]
    (refine Weak.of (by simp [hc0]) ?_ ?_ <;> (repeat' (first | exact WkT.nil | exact WkH.nil _ | exact Le.refl _ | exact Le.junk _ | exact Le1.refl _ | exact Le1.nil _ | exact Le1.tok _ _ _ | exact Le1L.nil | rfl | apply WkT.cons | apply WkH.cons | apply LeB.same | apply LeB.box | apply Le1L.cons | apply Le.agg | apply Le.one)))
  rintro ⟨i, T⟩ ⟨hI, hT, hTl⟩ ih
  simp only [writes, junks, puts, hputs, List.filterMap_cons, List.filterMap_nil, List.set_cons_zero, List.set_cons_succ, List.take_succ_cons, List.take_nil, List.cons_append, List.nil_append, List.append_nil] at hI hT hTl ih ⊢
  by_cases hi : i < p.length
  · obtain ⟨a, ha⟩ : ∃ a, p[i]? = some a := ⟨_, List.getElem?_eq_getElem hi⟩
    have hii : (i : Int) < p.length := by omega
    refine Run.god tab_ok follows_ok Tryd.func4 60 ?_; simp only [hii, List.length_map, decide_true, ↓alt_t, drun, aops, aone, aop, needs, ext, aev, aconst, aput, aupd, acmp, ashift, abin, alen, tab_3, tab_24, ok1, Option.getD_some, Option.bind_some, List.set_cons_zero, List.set_cons_succ, List.getElem?_cons_zero, List.getElem?_cons_succ, List.length_map, List.cons_append, List.nil_append, true_and, if_true, if_false, decide_true, List.getD_eq_getElem?_getD, Bool.false_eq_true]
    refine Run.loopV (α := Nat × Nat) (fun x => x.1 ≤ q.length ∧ x.2 = twiceRow (q.take x.1) a ∧ x.2 ≤ x.1) (fun x => [(13, .int .i64 ((T + x.2 : Nat) : Int)), (15, .int .i64 x.1)]) 1 (fun _ => []) (fun x => q.length - x.1) (0, 0) ⟨Nat.zero_le _, by simp [twiceRow], by simp⟩ ?_ ?_
    · simp only [writes, junks, puts, hputs, List.filterMap_cons, List.filterMap_nil, Int.natCast_zero, List.set_cons_zero, List.set_cons_succ, List.take_succ_cons, List.take_nil, List.cons_append, List.nil_append, List.append_nil, Nat.add_zero]
      (refine Weak.of (by simp [hc0]) ?_ ?_ <;> (repeat' (first | exact WkT.nil | exact WkH.nil _ | exact Le.refl _ | exact Le.junk _ | exact Le1.refl _ | exact Le1.nil _ | exact Le1.tok _ _ _ | exact Le1L.nil | rfl | apply WkT.cons | apply WkH.cons | apply LeB.same | apply LeB.box | apply Le1L.cons | apply Le.agg | apply Le.one)))
    rintro ⟨k, R⟩ ⟨hK, hR, hRl⟩ ih2
    simp only [writes, junks, puts, hputs, List.filterMap_cons, List.filterMap_nil, Int.natCast_add, List.set_cons_zero, List.set_cons_succ, List.take_succ_cons, List.take_nil, List.cons_append, List.nil_append, List.append_nil] at hK hR hRl ih2 ⊢
    by_cases hk : k < q.length
    · obtain ⟨b, hb⟩ : ∃ b, q[k]? = some b := ⟨_, List.getElem?_eq_getElem hk⟩
      have hkk : (k : Int) < q.length := by omega
      have hsn := twiceRow_snoc (a := a) hb
      by_cases c1 : a.by_ = b.by_
      · by_cases c2 : a.value = b.value
        · have e : R = twiceRow (q.take (k + 1)) a := by rw [hsn, if_neg (by simp [c2]), hR]; rfl
          refine Run.god tab_ok follows_ok Tryd.func4 60 ?_; simp only [ha, hb, hii, hkk, c1, c2, accC, List.getElem?_map, List.length_map, decide_true, ↓alt_t, ↓alt_f, ↓alts_t, ↓gdone_tt, gslot, drun, adops, adone, places, mayNeed, freeOk, rdOf, AV.id, wrOf, aops, aone, aop, needs, ext, aev, aconst, aput, aupd, aload, afieldAddr, aindexAddr, acmp, aarith, ashift, abin, alen, tab_3, tab_9, tab_24, tab_35, ok1, cellsAs, TI.agg, Option.getD_some, Option.bind_some, Option.map_some, List.set_cons_zero, List.set_cons_succ, List.length_cons, List.length_nil, List.getElem?_cons_zero, List.getElem?_cons_succ, List.getElem?_toArray, List.drop_zero, List.drop_succ_cons, List.take_succ_cons, List.take_zero, List.take_nil, List.length_map, List.cons_append, List.nil_append, List.append_nil, true_and, and_true, if_true, if_false, Nat.reduceAdd, Nat.reduceLeDiff, Nat.zero_add, Bool.not_true, decide_true, Nat.reduceLT, Nat.reduceLeDiff, forall_const, reduceCtorEq, false_implies, implies_true, Nat.le_refl, Int.toNat_natCast, List.getD_eq_getElem?_getD, Bool.false_eq_true]
          ((repeat' (apply And.intro)) <;> try (first | rfl | omega | (unfold I64; omega)))
          refine ih2 (k + 1, R) _ ⟨by dsimp only; omega, e, by dsimp only; omega⟩ (by dsimp only; omega) ?_
          simp only [Int.natCast_add, Int.natCast_one]
          (refine Weak.of (by simp [hc0]) ?_ ?_ <;> (repeat' (first | exact WkT.nil | exact WkH.nil _ | exact Le.refl _ | exact Le.junk _ | exact Le1.refl _ | exact Le1.nil _ | exact Le1.tok _ _ _ | exact Le1L.nil | rfl | apply WkT.cons | apply WkH.cons | apply LeB.same | apply LeB.box | apply Le1L.cons | apply Le.agg | apply Le.one)))
        · have e : R + 1 = twiceRow (q.take (k + 1)) a := by rw [hsn, if_pos (by simp [c1, c2]), hR]
          refine Run.god tab_ok follows_ok Tryd.func4 60 ?_; simp only [ha, hb, hii, hkk, c1, c2, accC, List.getElem?_map, List.length_map, decide_true, decide_false, ↓alt_t, ↓alts_t, ↓gdone_tt, gslot, drun, adops, adone, places, mayNeed, freeOk, rdOf, AV.id, wrOf, aops, aone, aop, needs, ext, aev, aconst, aput, aupd, aload, afieldAddr, aindexAddr, acmp, aarith, ashift, abin, alen, tab_3, tab_9, tab_24, tab_35, ok1, cellsAs, TI.agg, Option.getD_some, Option.bind_some, Option.map_some, List.set_cons_zero, List.set_cons_succ, List.length_cons, List.length_nil, List.getElem?_cons_zero, List.getElem?_cons_succ, List.getElem?_toArray, List.drop_zero, List.drop_succ_cons, List.take_succ_cons, List.take_zero, List.take_nil, List.length_map, List.cons_append, List.nil_append, List.append_nil, true_and, and_true, if_true, if_false, Nat.reduceAdd, Nat.reduceLeDiff, Nat.zero_add, Bool.not_false, decide_true, decide_false, Nat.reduceLT, Nat.reduceLeDiff, forall_const, reduceCtorEq, false_implies, implies_true, Nat.le_refl, Int.toNat_natCast, List.getD_eq_getElem?_getD, Bool.false_eq_true]
          ((repeat' (apply And.intro)) <;> try (first | rfl | omega | (unfold I64; omega)))
          refine ih2 (k + 1, R + 1) _ ⟨by dsimp only; omega, e, by dsimp only; omega⟩ (by dsimp only; omega) ?_
          simp only [Int.natCast_add, Int.natCast_one, ← Int.add_assoc]
          (refine Weak.of (by simp [hc0]) ?_ ?_ <;> (repeat' (first | exact WkT.nil | exact WkH.nil _ | exact Le.refl _ | exact Le.junk _ | exact Le1.refl _ | exact Le1.nil _ | exact Le1.tok _ _ _ | exact Le1L.nil | rfl | apply WkT.cons | apply WkH.cons | apply LeB.same | apply LeB.box | apply Le1L.cons | apply Le.agg | apply Le.one)))
      · have e : R = twiceRow (q.take (k + 1)) a := by rw [hsn, if_neg (by simp [c1]), hR]; rfl
        refine Run.god tab_ok follows_ok Tryd.func4 60 ?_; simp only [ha, hb, hii, hkk, c1, accC, List.getElem?_map, List.length_map, decide_true, decide_false, ↓alt_t, ↓alt_f, ↓alts_f, ↓gdone_tf, gslot, drun, adops, adone, places, mayNeed, freeOk, rdOf, AV.id, wrOf, aops, aone, aop, needs, ext, aev, aconst, aput, aupd, aload, afieldAddr, aindexAddr, acmp, aarith, ashift, abin, alen, tab_3, tab_24, tab_35, ok1, cellsAs, TI.agg, Option.getD_some, Option.bind_some, Option.map_some, List.set_cons_zero, List.set_cons_succ, List.length_cons, List.length_nil, List.getElem?_cons_zero, List.getElem?_cons_succ, List.getElem?_toArray, List.drop_zero, List.take_succ_cons, List.take_zero, List.length_map, List.cons_append, List.nil_append, List.append_nil, true_and, and_true, if_true, if_false, Nat.reduceAdd, Nat.reduceLeDiff, Nat.zero_add, decide_true, decide_false, Nat.reduceLT, Nat.reduceLeDiff, forall_const, reduceCtorEq, false_implies, implies_true, Int.toNat_natCast, List.getD_eq_getElem?_getD, Bool.false_eq_true]
        ((repeat' (apply And.intro)) <;> try (first | rfl | omega | (unfold I64; omega)))
        refine ih2 (k + 1, R) _ ⟨by dsimp only; omega, e, by dsimp only; omega⟩ (by dsimp only; omega) ?_
        simp only [Int.natCast_add, Int.natCast_one]
        (refine Weak.of (by simp [hc0]) ?_ ?_ <;> (repeat' (first | exact WkT.nil | exact WkH.nil _ | exact Le.refl _ | exact Le.junk _ | exact Le1.refl _ | exact Le1.nil _ | exact Le1.tok _ _ _ | exact Le1L.nil | rfl | apply WkT.cons | apply WkH.cons | apply LeB.same | apply LeB.box | apply Le1L.cons | apply Le.agg | apply Le.one)))
    · obtain rfl : k = q.length := by omega
      have hkk : ¬ (q.length : Int) < q.length := by omega
      rw [List.take_length] at hR
      refine Run.god tab_ok follows_ok Tryd.func4 60 ?_; simp only [hkk, List.length_map, decide_false, ↓alt_f, drun, aops, aone, aop, needs, ext, aev, aconst, aput, aupd, acmp, aarith, ashift, abin, alen, tab_3, tab_24, ok1, exitTo, Option.getD_some, Option.bind_some, List.set_cons_zero, List.set_cons_succ, List.getElem?_cons_zero, List.getElem?_cons_succ, List.length_map, List.cons_append, List.nil_append, true_and, if_true, if_false, Nat.reduceBEq, beq_self_eq_true, decide_false, List.getD_eq_getElem?_getD, Bool.false_eq_true]
      ((repeat' (apply And.intro)) <;> try (first | rfl | omega | (unfold I64; omega)))
      refine ih (i + 1, T + R) _ ⟨by dsimp only; omega, by dsimp only; rw [twiceF_snoc ha, hT, hR], by dsimp only; omega⟩ (by dsimp only; omega) ?_
      simp only [Int.natCast_add, Int.natCast_one]
      (refine Weak.of (by simp [hc0]) ?_ ?_ <;> (repeat' (first | exact WkT.nil | exact WkH.nil _ | exact Le.refl _ | exact Le.junk _ | exact Le1.refl _ | exact Le1.nil _ | exact Le1.tok _ _ _ | exact Le1L.nil | rfl | apply WkT.cons | apply WkH.cons | apply LeB.same | apply LeB.box | apply Le1L.cons | apply Le.agg | apply Le.one)))
  · obtain rfl : i = p.length := by omega
    have hii : ¬ (p.length : Int) < p.length := by omega
    rw [List.take_length] at hT
    rw [← hT] at hlaw
    refine Run.god tab_ok follows_ok Tryd.func4 60 ?_; simp only [hii, List.length_map, decide_false, ↓alt_f, drun, aops, aone, aop, needs, ext, aev, aput, aupd, acmp, ashift, abin, alen, tab_3, tab_24, ok1, exitTo, Option.getD_some, Option.bind_some, List.set_cons_zero, List.set_cons_succ, List.getElem?_cons_zero, List.getElem?_cons_succ, List.length_map, List.cons_append, List.nil_append, true_and, if_true, if_false, beq_self_eq_true, decide_false, List.getD_eq_getElem?_getD, Bool.false_eq_true]
    refine Ops.pure .free rfl rfl (hal) (by simp only [List.map_nil, List.append_nil]; (repeat' (first | exact LeL.nil | exact Le1L.nil | exact Le.refl _ | exact Le1.refl _ | exact Le1.nil _ | exact Le1.tok _ _ _ | exact LeR.one (Le.refl _) | apply LeR.tup | apply LeL.cons | apply Le1L.cons | apply Le.agg | apply Le.one | apply LeR.one))) rfl rfl ?_
    by_cases w1 : v1 = v2
    · by_cases w2 : s.f < (T : Int)
      · refine Ops.god tab_ok follows_ok Tryd.func4 60 ?_; simp only [Tryd.results4, w1, w2, decide_true, ↓alts_t, ↓alts_f, ↓gone_tt, ↓gone_ft, ↓gone_ff, gslot, drun, aops, aone, afin, ares, aresL, ares1, aresOk, aresOk1, aop, needs, ext, aev, aconst, aput, aupd, aload, afieldAddr, acmp, ashift, abin, tab_3, tab_23, ok1, cellsAs, TI.agg, Option.getD_some, Option.bind_some, Option.map_some, List.set_cons_zero, List.set_cons_succ, List.length_cons, List.length_nil, List.getElem?_cons_zero, List.getElem?_cons_succ, List.getElem?_toArray, List.drop_zero, List.take_succ_cons, List.take_zero, List.cons_append, List.nil_append, true_and, and_true, if_true, if_false, Nat.reduceAdd, Nat.reduceLeDiff, Nat.zero_add, Nat.add_zero, Bool.not_true, decide_true, Nat.reduceLeDiff, List.getD_eq_getElem?_getD, Bool.false_eq_true]
        (repeat' (first | exact LeL.nil | exact Le1L.nil | exact Le.refl _ | exact Le1.refl _ | exact Le1.nil _ | exact Le1.tok _ _ _ | exact LeR.one (Le.refl _) | apply LeR.tup | apply LeL.cons | apply Le1L.cons | apply Le.agg | apply Le.one | apply LeR.one))
      · have w3 : x1 = x2 := Classical.byContradiction fun h => w2 (hlaw h)
        refine Ops.god tab_ok follows_ok Tryd.func4 60 ?_; simp only [Tryd.results4, w1, w2, w3, decide_true, decide_false, ↓alts_t, ↓alts_f, ↓gone_tt, ↓gone_ff, gslot, drun, aops, aone, afin, ares, aresL, ares1, aresOk, aresOk1, aop, needs, ext, aev, aput, aupd, aload, afieldAddr, acmp, ashift, abin, tab_3, tab_9, tab_23, ok1, cellsAs, TI.agg, Option.getD_some, Option.bind_some, Option.map_some, List.set_cons_zero, List.set_cons_succ, List.length_cons, List.length_nil, List.getElem?_cons_zero, List.getElem?_cons_succ, List.getElem?_toArray, List.drop_zero, List.take_succ_cons, List.take_zero, List.cons_append, List.nil_append, true_and, and_true, if_true, if_false, Nat.reduceAdd, Nat.reduceLeDiff, Nat.zero_add, Nat.add_zero, Bool.not_true, decide_true, decide_false, Nat.reduceLeDiff, List.getD_eq_getElem?_getD, Bool.false_eq_true]
        (repeat' (first | exact LeL.nil | exact Le1L.nil | exact Le.refl _ | exact Le1.refl _ | exact Le1.nil _ | exact Le1.tok _ _ _ | exact LeR.one (Le.refl _) | apply LeR.tup | apply LeL.cons | apply Le1L.cons | apply Le.agg | apply Le.one | apply LeR.one))
    · refine Ops.god tab_ok follows_ok Tryd.func4 60 ?_; simp only [Tryd.results4, w1, decide_false, ↓alts_t, ↓gone_tt, ↓gone_ft, gslot, drun, aops, aone, afin, ares, aresL, ares1, aresOk, aresOk1, aop, needs, ext, aev, aconst, aput, aupd, acmp, ashift, abin, tab_3, ok1, Option.getD_some, Option.bind_some, Option.map_some, List.set_cons_zero, List.set_cons_succ, List.getElem?_cons_zero, List.getElem?_cons_succ, List.getElem?_toArray, List.cons_append, List.nil_append, true_and, and_true, if_true, if_false, Bool.not_false, decide_false, List.getD_eq_getElem?_getD, Bool.false_eq_true]
      (repeat' (first | exact LeL.nil | exact Le1L.nil | exact Le.refl _ | exact Le1.refl _ | exact Le1.nil _ | exact Le1.tok _ _ _ | exact LeR.one (Le.refl _) | apply LeR.tup | apply LeL.cons | apply Le1L.cons | apply Le.agg | apply Le.one | apply LeR.one))
end Go.Proofs.YtgonmnjgodleeaaDoor
