/-
  Vouching, what is few, a size as the document's, a live question: told by their shadows.
-/
import Derived.Test.YtgonmnjgodleeaaRc
import Derived.Test.YtgonmnjgodleeaaRd0
import Derived.Test.YtgonmnjgodleeaaRv
import Derived.Test.YtgonmnjgodleeaaRu
namespace Go.Proofs.Ytgonmnjgodleeaa
open Go.RowKit
def smL (l : List Rp) : Prop := l.length ≤ 1000000 ∧ ∀ r ∈ l, r.proof.length ≤ 1000000
set_option maxRecDepth 20000 in
theorem vouches_spec (s : Sz) (v : Int) (l : List Rp) (x : Bts) (hl : smL l) : ASpec Try.prog 39 [encS s, .int .i64 v, rpsA l, .str x] (.bool (vouches s v l x)) := by
  have hr := right20_spec s v l hl.1 hl.2
  unfold vouches
  cases h : rightR s v l with
  | false =>
    rw [h] at hr
    refine ⟨⟨_, Try.func39, by kernel_rfl, rfl⟩, ACall.of Try.func39 rfl fun c0 hc0 => ?_⟩; simp only [Try.ntmps39, List.length_cons, List.length_nil, Nat.reduceAdd, Nat.reduceSub, List.replicate_succ, List.replicate_zero, List.cons_append, List.nil_append]; refine Run.god tab_ok follows_ok Try.func39 60 ?_; simp only [encS, rpsA, drun, aops, aone, aop, needs, ext, aev, aconst, aput, aupd, aload, tab_23, ok1, cellsAs, TI.agg, AV.cells, AV.whole, Option.getD_some, Option.bind_some, Option.map_some, List.set_cons_zero, List.set_cons_succ, List.length_cons, List.length_nil, List.getElem?_cons_zero, List.getElem?_cons_succ, List.drop_zero, List.take_succ_cons, List.take_nil, List.cons_append, List.nil_append, true_and, if_true, if_false, Nat.reduceAdd, Nat.zero_add, Bool.false_and, reduceCtorEq, Nat.le_refl, List.getD_eq_getElem?_getD]
    refine Ops.pure .free rfl rfl (hr) (by simp only [encS, rpsA, aev, Option.getD_some, List.getElem?_cons_zero, List.getElem?_cons_succ, List.map_cons, List.map_nil, List.nil_append, List.append_nil, List.getD_eq_getElem?_getD]; (repeat' (first | exact LeL.nil | exact Le1L.nil | exact Le.refl _ | exact Le1.refl _ | exact Le1.nil _ | exact Le1.tok _ _ _ | exact LeR.one (Le.refl _) | apply LeR.tup | apply LeL.cons | apply Le1L.cons | apply Le.agg | apply Le.one | apply LeR.one))) rfl rfl ?_
    refine Ops.god tab_ok follows_ok Try.func39 60 ?_; simp only [Try.results39, ↓alt_t, drun, aops, aone, afin, ares, aresL, ares1, aresOk, aresOk1, aop, needs, ext, aev, aconst, aput, aupd, ok1, Option.getD_some, Option.bind_some, Option.map_some, List.set_cons_zero, List.set_cons_succ, List.getElem?_cons_zero, List.getElem?_cons_succ, List.cons_append, List.nil_append, true_and, and_true, if_false, Bool.not_false, reduceCtorEq, List.getD_eq_getElem?_getD]
    (repeat' (first | exact LeL.nil | exact Le1L.nil | exact Le.refl _ | exact Le1.refl _ | exact Le1.nil _ | exact Le1.tok _ _ _ | exact LeR.one (Le.refl _) | apply LeR.tup | apply LeL.cons | apply Le1L.cons | apply Le.agg | apply Le.one | apply LeR.one))
  | true =>
    rw [h] at hr
    have hb := binds20_spec s v l h hl.1
    generalize binds s l = B at hb
    obtain ⟨y, bd⟩ := B
    cases bd with
    | false =>
      refine ⟨⟨_, Try.func39, by kernel_rfl, rfl⟩, ACall.of Try.func39 rfl fun c0 hc0 => ?_⟩; simp only [Try.ntmps39, List.length_cons, List.length_nil, Nat.reduceAdd, Nat.reduceSub, List.replicate_succ, List.replicate_zero, List.cons_append, List.nil_append]; refine Run.god tab_ok follows_ok Try.func39 60 ?_; simp only [encS, rpsA, drun, aops, aone, aop, needs, ext, aev, aconst, aput, aupd, aload, tab_23, ok1, cellsAs, TI.agg, AV.cells, AV.whole, Option.getD_some, Option.bind_some, Option.map_some, List.set_cons_zero, List.set_cons_succ, List.length_cons, List.length_nil, List.getElem?_cons_zero, List.getElem?_cons_succ, List.drop_zero, List.take_succ_cons, List.take_nil, List.cons_append, List.nil_append, true_and, if_true, if_false, Nat.reduceAdd, Nat.zero_add, Bool.true_and, Bool.not_false, reduceCtorEq, Nat.le_refl, List.getD_eq_getElem?_getD]
      refine Ops.pure .free rfl rfl (hr) (by simp only [encS, rpsA, aev, Option.getD_some, List.getElem?_cons_zero, List.getElem?_cons_succ, List.map_cons, List.map_nil, List.nil_append, List.append_nil, List.getD_eq_getElem?_getD]; (repeat' (first | exact LeL.nil | exact Le1L.nil | exact Le.refl _ | exact Le1.refl _ | exact Le1.nil _ | exact Le1.tok _ _ _ | exact LeR.one (Le.refl _) | apply LeR.tup | apply LeL.cons | apply Le1L.cons | apply Le.agg | apply Le.one | apply LeR.one))) rfl rfl ?_
      refine Ops.god tab_ok follows_ok Try.func39 60 ?_; simp only [↓alt_f, drun, aops, aone, aop, needs, ext, aev, aput, aupd, aload, tab_23, ok1, cellsAs, TI.agg, Option.getD_some, Option.bind_some, Option.map_some, List.set_cons_zero, List.set_cons_succ, List.length_cons, List.length_nil, List.getElem?_cons_zero, List.getElem?_cons_succ, List.drop_zero, List.take_succ_cons, List.take_nil, List.cons_append, List.nil_append, true_and, if_true, if_false, Nat.reduceAdd, Nat.zero_add, Bool.not_true, reduceCtorEq, Nat.le_refl, List.getD_eq_getElem?_getD]
      refine Ops.pure .free rfl rfl (hb) (by simp only [encS, rpsA, aev, Option.getD_some, List.getElem?_cons_zero, List.getElem?_cons_succ, List.map_cons, List.map_nil, List.nil_append, List.append_nil, List.getD_eq_getElem?_getD]; (repeat' (first | exact LeL.nil | exact Le1L.nil | exact Le.refl _ | exact Le1.refl _ | exact Le1.nil _ | exact Le1.tok _ _ _ | exact LeR.one (Le.refl _) | apply LeR.tup | apply LeL.cons | apply Le1L.cons | apply Le.agg | apply Le.one | apply LeR.one))) rfl rfl ?_
      refine Ops.god tab_ok follows_ok Try.func39 60 ?_; simp only [Try.results39, ↓alts_t, ↓gone_ft, gslot, drun, aops, aone, afin, ares, aresL, ares1, aresOk, aresOk1, aop, needs, ext, aev, aconst, aput, aupd, ok1, Option.getD_some, Option.bind_some, Option.map_some, List.set_cons_zero, List.set_cons_succ, List.getElem?_cons_zero, List.getElem?_cons_succ, List.getElem?_toArray, List.cons_append, List.nil_append, true_and, and_true, if_false, Bool.not_false, reduceCtorEq, List.getD_eq_getElem?_getD]
      (repeat' (first | exact LeL.nil | exact Le1L.nil | exact Le.refl _ | exact Le1.refl _ | exact Le1.nil _ | exact Le1.tok _ _ _ | exact LeR.one (Le.refl _) | apply LeR.tup | apply LeL.cons | apply Le1L.cons | apply Le.agg | apply Le.one | apply LeR.one))
    | true =>
      refine ⟨⟨_, Try.func39, by kernel_rfl, rfl⟩, ACall.of Try.func39 rfl fun c0 hc0 => ?_⟩; simp only [Try.ntmps39, List.length_cons, List.length_nil, Nat.reduceAdd, Nat.reduceSub, List.replicate_succ, List.replicate_zero, List.cons_append, List.nil_append]; refine Run.god tab_ok follows_ok Try.func39 60 ?_; simp only [encS, rpsA, drun, aops, aone, aop, needs, ext, aev, aconst, aput, aupd, aload, tab_23, ok1, cellsAs, TI.agg, AV.cells, AV.whole, Option.getD_some, Option.bind_some, Option.map_some, List.set_cons_zero, List.set_cons_succ, List.length_cons, List.length_nil, List.getElem?_cons_zero, List.getElem?_cons_succ, List.drop_zero, List.take_succ_cons, List.take_nil, List.cons_append, List.nil_append, true_and, if_true, if_false, Nat.reduceAdd, Nat.zero_add, Bool.true_and, Bool.not_true, reduceCtorEq, Nat.le_refl, List.getD_eq_getElem?_getD]
      refine Ops.pure .free rfl rfl (hr) (by simp only [encS, rpsA, aev, Option.getD_some, List.getElem?_cons_zero, List.getElem?_cons_succ, List.map_cons, List.map_nil, List.nil_append, List.append_nil, List.getD_eq_getElem?_getD]; (repeat' (first | exact LeL.nil | exact Le1L.nil | exact Le.refl _ | exact Le1.refl _ | exact Le1.nil _ | exact Le1.tok _ _ _ | exact LeR.one (Le.refl _) | apply LeR.tup | apply LeL.cons | apply Le1L.cons | apply Le.agg | apply Le.one | apply LeR.one))) rfl rfl ?_
      refine Ops.god tab_ok follows_ok Try.func39 60 ?_; simp only [↓alt_f, drun, aops, aone, aop, needs, ext, aev, aput, aupd, aload, tab_23, ok1, cellsAs, TI.agg, Option.getD_some, Option.bind_some, Option.map_some, List.set_cons_zero, List.set_cons_succ, List.length_cons, List.length_nil, List.getElem?_cons_zero, List.getElem?_cons_succ, List.drop_zero, List.take_succ_cons, List.take_nil, List.cons_append, List.nil_append, true_and, if_true, if_false, Nat.reduceAdd, Nat.zero_add, Bool.not_true, reduceCtorEq, Nat.le_refl, List.getD_eq_getElem?_getD]
      refine Ops.pure .free rfl rfl (hb) (by simp only [encS, rpsA, aev, Option.getD_some, List.getElem?_cons_zero, List.getElem?_cons_succ, List.map_cons, List.map_nil, List.nil_append, List.append_nil, List.getD_eq_getElem?_getD]; (repeat' (first | exact LeL.nil | exact Le1L.nil | exact Le.refl _ | exact Le1.refl _ | exact Le1.nil _ | exact Le1.tok _ _ _ | exact LeR.one (Le.refl _) | apply LeR.tup | apply LeL.cons | apply Le1L.cons | apply Le.agg | apply Le.one | apply LeR.one))) rfl rfl ?_
      refine Ops.god tab_ok follows_ok Try.func39 60 ?_; simp only [Try.results39, ↓alts_f, ↓gone_ff, gslot, drun, aops, aone, afin, ares, aresL, ares1, aresOk, aresOk1, aop, needs, ext, aev, aput, aupd, abin, tab_9, ok1, Option.getD_some, Option.bind_some, Option.map_some, List.set_cons_zero, List.set_cons_succ, List.getElem?_cons_zero, List.getElem?_cons_succ, List.getElem?_toArray, List.cons_append, List.nil_append, true_and, and_true, if_false, Bool.not_true, reduceCtorEq, List.getD_eq_getElem?_getD]
      simp only [Bool.false_or]
      (repeat' (first | exact LeL.nil | exact Le1L.nil | exact Le.refl _ | exact Le1.refl _ | exact Le1.nil _ | exact Le1.tok _ _ _ | exact LeR.one (Le.refl _) | apply LeR.tup | apply LeL.cons | apply Le1L.cons | apply Le.agg | apply Le.one | apply LeR.one))
set_option maxRecDepth 20000 in
theorem rvouches_spec (s : Sz) (v : Int) (l : List Rp) (x : Bts) (hl : smL l) : ASpec Try.prog 45 [encS s, .int .i64 v, rpsA l, .str x] (.bool (vouches s v l x)) := by
  have hr := rright20_spec s v l hl.1 hl.2
  unfold vouches
  cases h : rightR s v l with
  | false =>
    rw [h] at hr
    refine ⟨⟨_, Try.func45, by kernel_rfl, rfl⟩, ACall.of Try.func45 rfl fun c0 hc0 => ?_⟩; simp only [Try.ntmps45, List.length_cons, List.length_nil, Nat.reduceAdd, Nat.reduceSub, List.replicate_succ, List.replicate_zero, List.cons_append, List.nil_append]; refine Run.god tab_ok follows_ok Try.func45 60 ?_; simp only [encS, rpsA, drun, aops, aone, aop, needs, ext, aev, aconst, aput, aupd, aload, tab_33, ok1, cellsAs, TI.agg, AV.cells, AV.whole, Option.getD_some, Option.bind_some, Option.map_some, List.set_cons_zero, List.set_cons_succ, List.length_cons, List.length_nil, List.getElem?_cons_zero, List.getElem?_cons_succ, List.drop_zero, List.take_succ_cons, List.take_nil, List.cons_append, List.nil_append, true_and, if_true, if_false, Nat.reduceAdd, Nat.zero_add, Bool.false_and, reduceCtorEq, Nat.le_refl, List.getD_eq_getElem?_getD]
    refine Ops.pure .free rfl rfl (hr) (by simp only [encS, rpsA, aev, Option.getD_some, List.getElem?_cons_zero, List.getElem?_cons_succ, List.map_cons, List.map_nil, List.nil_append, List.append_nil, List.getD_eq_getElem?_getD]; (repeat' (first | exact LeL.nil | exact Le1L.nil | exact Le.refl _ | exact Le1.refl _ | exact Le1.nil _ | exact Le1.tok _ _ _ | exact LeR.one (Le.refl _) | apply LeR.tup | apply LeL.cons | apply Le1L.cons | apply Le.agg | apply Le.one | apply LeR.one))) rfl rfl ?_
    refine Ops.god tab_ok follows_ok Try.func45 60 ?_; simp only [Try.results45, ↓alt_t, drun, aops, aone, afin, ares, aresL, ares1, aresOk, aresOk1, aop, needs, ext, aev, aconst, aput, aupd, ok1, Option.getD_some, Option.bind_some, Option.map_some, List.set_cons_zero, List.set_cons_succ, List.getElem?_cons_zero, List.getElem?_cons_succ, List.cons_append, List.nil_append, true_and, and_true, if_false, Bool.not_false, reduceCtorEq, List.getD_eq_getElem?_getD]
    (repeat' (first | exact LeL.nil | exact Le1L.nil | exact Le.refl _ | exact Le1.refl _ | exact Le1.nil _ | exact Le1.tok _ _ _ | exact LeR.one (Le.refl _) | apply LeR.tup | apply LeL.cons | apply Le1L.cons | apply Le.agg | apply Le.one | apply LeR.one))
  | true =>
    rw [h] at hr
    have hs : s.right = true := by simp only [rightR, Bool.and_eq_true] at h; exact h.1.1.1
    have hb := rbinds20_spec s l hs hl.1
    generalize binds s l = B at hb
    obtain ⟨y, bd⟩ := B
    cases bd with
    | false =>
      refine ⟨⟨_, Try.func45, by kernel_rfl, rfl⟩, ACall.of Try.func45 rfl fun c0 hc0 => ?_⟩; simp only [Try.ntmps45, List.length_cons, List.length_nil, Nat.reduceAdd, Nat.reduceSub, List.replicate_succ, List.replicate_zero, List.cons_append, List.nil_append]; refine Run.god tab_ok follows_ok Try.func45 60 ?_; simp only [encS, rpsA, drun, aops, aone, aop, needs, ext, aev, aconst, aput, aupd, aload, tab_33, ok1, cellsAs, TI.agg, AV.cells, AV.whole, Option.getD_some, Option.bind_some, Option.map_some, List.set_cons_zero, List.set_cons_succ, List.length_cons, List.length_nil, List.getElem?_cons_zero, List.getElem?_cons_succ, List.drop_zero, List.take_succ_cons, List.take_nil, List.cons_append, List.nil_append, true_and, if_true, if_false, Nat.reduceAdd, Nat.zero_add, Bool.true_and, Bool.not_false, reduceCtorEq, Nat.le_refl, List.getD_eq_getElem?_getD]
      refine Ops.pure .free rfl rfl (hr) (by simp only [encS, rpsA, aev, Option.getD_some, List.getElem?_cons_zero, List.getElem?_cons_succ, List.map_cons, List.map_nil, List.nil_append, List.append_nil, List.getD_eq_getElem?_getD]; (repeat' (first | exact LeL.nil | exact Le1L.nil | exact Le.refl _ | exact Le1.refl _ | exact Le1.nil _ | exact Le1.tok _ _ _ | exact LeR.one (Le.refl _) | apply LeR.tup | apply LeL.cons | apply Le1L.cons | apply Le.agg | apply Le.one | apply LeR.one))) rfl rfl ?_
      refine Ops.god tab_ok follows_ok Try.func45 60 ?_; simp only [↓alt_f, drun, aops, aone, aop, needs, ext, aev, aput, aupd, aload, tab_33, ok1, cellsAs, TI.agg, Option.getD_some, Option.bind_some, Option.map_some, List.set_cons_zero, List.set_cons_succ, List.length_cons, List.length_nil, List.getElem?_cons_zero, List.getElem?_cons_succ, List.drop_zero, List.take_succ_cons, List.take_nil, List.cons_append, List.nil_append, true_and, if_true, if_false, Nat.reduceAdd, Nat.zero_add, Bool.not_true, reduceCtorEq, Nat.le_refl, List.getD_eq_getElem?_getD]
      refine Ops.pure .free rfl rfl (hb) (by simp only [encS, rpsA, aev, Option.getD_some, List.getElem?_cons_zero, List.getElem?_cons_succ, List.map_cons, List.map_nil, List.nil_append, List.append_nil, List.getD_eq_getElem?_getD]; (repeat' (first | exact LeL.nil | exact Le1L.nil | exact Le.refl _ | exact Le1.refl _ | exact Le1.nil _ | exact Le1.tok _ _ _ | exact LeR.one (Le.refl _) | apply LeR.tup | apply LeL.cons | apply Le1L.cons | apply Le.agg | apply Le.one | apply LeR.one))) rfl rfl ?_
      refine Ops.god tab_ok follows_ok Try.func45 60 ?_; simp only [Try.results45, ↓alts_t, ↓gone_ft, gslot, drun, aops, aone, afin, ares, aresL, ares1, aresOk, aresOk1, aop, needs, ext, aev, aconst, aput, aupd, ok1, Option.getD_some, Option.bind_some, Option.map_some, List.set_cons_zero, List.set_cons_succ, List.getElem?_cons_zero, List.getElem?_cons_succ, List.getElem?_toArray, List.cons_append, List.nil_append, true_and, and_true, if_false, Bool.not_false, reduceCtorEq, List.getD_eq_getElem?_getD]
      (repeat' (first | exact LeL.nil | exact Le1L.nil | exact Le.refl _ | exact Le1.refl _ | exact Le1.nil _ | exact Le1.tok _ _ _ | exact LeR.one (Le.refl _) | apply LeR.tup | apply LeL.cons | apply Le1L.cons | apply Le.agg | apply Le.one | apply LeR.one))
    | true =>
      refine ⟨⟨_, Try.func45, by kernel_rfl, rfl⟩, ACall.of Try.func45 rfl fun c0 hc0 => ?_⟩; simp only [Try.ntmps45, List.length_cons, List.length_nil, Nat.reduceAdd, Nat.reduceSub, List.replicate_succ, List.replicate_zero, List.cons_append, List.nil_append]; refine Run.god tab_ok follows_ok Try.func45 60 ?_; simp only [encS, rpsA, drun, aops, aone, aop, needs, ext, aev, aconst, aput, aupd, aload, tab_33, ok1, cellsAs, TI.agg, AV.cells, AV.whole, Option.getD_some, Option.bind_some, Option.map_some, List.set_cons_zero, List.set_cons_succ, List.length_cons, List.length_nil, List.getElem?_cons_zero, List.getElem?_cons_succ, List.drop_zero, List.take_succ_cons, List.take_nil, List.cons_append, List.nil_append, true_and, if_true, if_false, Nat.reduceAdd, Nat.zero_add, Bool.true_and, Bool.not_true, reduceCtorEq, Nat.le_refl, List.getD_eq_getElem?_getD]
      refine Ops.pure .free rfl rfl (hr) (by simp only [encS, rpsA, aev, Option.getD_some, List.getElem?_cons_zero, List.getElem?_cons_succ, List.map_cons, List.map_nil, List.nil_append, List.append_nil, List.getD_eq_getElem?_getD]; (repeat' (first | exact LeL.nil | exact Le1L.nil | exact Le.refl _ | exact Le1.refl _ | exact Le1.nil _ | exact Le1.tok _ _ _ | exact LeR.one (Le.refl _) | apply LeR.tup | apply LeL.cons | apply Le1L.cons | apply Le.agg | apply Le.one | apply LeR.one))) rfl rfl ?_
      refine Ops.god tab_ok follows_ok Try.func45 60 ?_; simp only [↓alt_f, drun, aops, aone, aop, needs, ext, aev, aput, aupd, aload, tab_33, ok1, cellsAs, TI.agg, Option.getD_some, Option.bind_some, Option.map_some, List.set_cons_zero, List.set_cons_succ, List.length_cons, List.length_nil, List.getElem?_cons_zero, List.getElem?_cons_succ, List.drop_zero, List.take_succ_cons, List.take_nil, List.cons_append, List.nil_append, true_and, if_true, if_false, Nat.reduceAdd, Nat.zero_add, Bool.not_true, reduceCtorEq, Nat.le_refl, List.getD_eq_getElem?_getD]
      refine Ops.pure .free rfl rfl (hb) (by simp only [encS, rpsA, aev, Option.getD_some, List.getElem?_cons_zero, List.getElem?_cons_succ, List.map_cons, List.map_nil, List.nil_append, List.append_nil, List.getD_eq_getElem?_getD]; (repeat' (first | exact LeL.nil | exact Le1L.nil | exact Le.refl _ | exact Le1.refl _ | exact Le1.nil _ | exact Le1.tok _ _ _ | exact LeR.one (Le.refl _) | apply LeR.tup | apply LeL.cons | apply Le1L.cons | apply Le.agg | apply Le.one | apply LeR.one))) rfl rfl ?_
      refine Ops.god tab_ok follows_ok Try.func45 60 ?_; simp only [Try.results45, ↓alts_f, ↓gone_ff, gslot, drun, aops, aone, afin, ares, aresL, ares1, aresOk, aresOk1, aop, needs, ext, aev, aput, aupd, abin, tab_9, ok1, Option.getD_some, Option.bind_some, Option.map_some, List.set_cons_zero, List.set_cons_succ, List.getElem?_cons_zero, List.getElem?_cons_succ, List.getElem?_toArray, List.cons_append, List.nil_append, true_and, and_true, if_false, Bool.not_true, reduceCtorEq, List.getD_eq_getElem?_getD]
      simp only [Bool.false_or]
      (repeat' (first | exact LeL.nil | exact Le1L.nil | exact Le.refl _ | exact Le1.refl _ | exact Le1.nil _ | exact Le1.tok _ _ _ | exact LeR.one (Le.refl _) | apply LeR.tup | apply LeL.cons | apply Le1L.cons | apply Le.agg | apply Le.one | apply LeR.one))
theorem plain20_spec (s : Sz) : ASpec Try.prog 35 [encS s] (encS s) := by
  refine ⟨⟨_, Try.func35, by kernel_rfl, rfl⟩, ACall.of Try.func35 rfl fun c0 hc0 => ?_⟩; simp only [Try.ntmps35, List.length_cons, List.length_nil, Nat.reduceAdd, Nat.reduceSub, List.replicate_succ, List.replicate_zero, List.cons_append, List.nil_append]; refine Run.god tab_ok follows_ok Try.func35 60 ?_; simp only [Try.results35, encS, drun, aops, aone, afin, ares, aresL, ares1, aresOk, aresOk1, aop, needs, ext, aev, aconst, aput, aupd, aload, astore, afieldAddr, abuild, tab_3, tab_23, tab_33, ok1, lay, cellsAs, TI.agg, AV.cells, AV.whole, Option.getD_some, Option.bind_some, Option.map_some, List.set_cons_zero, List.set_cons_succ, List.length_cons, List.length_nil, List.getElem?_cons_zero, List.getElem?_cons_succ, List.drop_zero, List.drop_succ_cons, List.take_succ_cons, List.take_zero, List.take_nil, List.drop_nil, List.map_cons, List.map_nil, List.cons_append, List.nil_append, List.append_nil, true_and, and_true, if_true, if_false, Nat.reduceAdd, Nat.reduceLeDiff, Nat.zero_add, Nat.add_zero, Nat.reduceLeDiff, reduceCtorEq, Nat.le_refl, List.getD_eq_getElem?_getD]
  (repeat' (first | exact LeL.nil | exact Le1L.nil | exact Le.refl _ | exact Le1.refl _ | exact Le1.nil _ | exact Le1.tok _ _ _ | exact LeR.one (Le.refl _) | apply LeR.tup | apply LeL.cons | apply Le1L.cons | apply Le.agg | apply Le.one | apply LeR.one))
def fewP (p : List Acc) : Bool := p.all fun a => decide ((a.value.length : Int) ≤ 6100)
def fewO (r : Rp) : Bool := decide ((r.value.length : Int) ≤ 6100) && decide ((r.proof.length : Int) ≤ 30) && fewP r.proof
def fewR (l : List Rp) : Bool := decide ((l.length : Int) ≤ 30) && l.all fewO
theorem few_sm {l : List Rp} (h : fewR l = true) : smL l := by
  simp only [fewR, Bool.and_eq_true, decide_eq_true_eq, List.all_eq_true] at h
  refine ⟨by omega, fun r hr => ?_⟩
  have := h.2 r hr
  simp only [fewO, Bool.and_eq_true, decide_eq_true_eq] at this
  omega
set_option maxRecDepth 20000 in
set_option maxHeartbeats 2000000 in
theorem few20_spec (l : List Rp) : ASpec Try.prog 33 [rpsA l] (.bool (fewR l)) := by
  refine ⟨⟨_, Try.func33, by kernel_rfl, rfl⟩, ACall.of Try.func33 rfl fun c0 hc0 => ?_⟩; simp only [Try.ntmps33, List.length_cons, List.length_nil, Nat.reduceAdd, Nat.reduceSub, List.replicate_succ, List.replicate_zero, List.cons_append, List.nil_append]; refine Run.god tab_ok follows_ok Try.func33 60 ?_; simp only [rpsA, drun, aops, aone, aop, needs, ext, aev, aconst, aput, aupd, ok1, List.set_cons_zero, List.set_cons_succ, List.nil_append, true_and, if_false, reduceCtorEq]
  refine Run.loopV (α := Nat) (fun k => k ≤ l.length ∧ k ≤ 30 ∧ l.all fewO = (l.drop k).all fewO) (fun k => [(3, .int .i64 k)]) 0 (fun _ => []) (fun k => l.length - k) 0 ⟨Nat.zero_le _, Nat.zero_le _, rfl⟩ ?_ ?_
  · simp only [writes, junks, puts, hputs, List.filterMap_cons, List.filterMap_nil, Int.natCast_zero, List.set_cons_zero, List.set_cons_succ, List.take_nil, List.cons_append, List.nil_append, List.append_nil]
    (refine Weak.of (by simp [hc0]) ?_ ?_ <;> (repeat' (first | exact WkT.nil | exact WkH.nil _ | exact Le.refl _ | exact Le.junk _ | exact Le1.refl _ | exact Le1.nil _ | exact Le1.tok _ _ _ | exact Le1L.nil | rfl | apply WkT.cons | apply WkH.cons | apply LeB.same | apply LeB.box | apply Le1L.cons | apply Le.agg | apply Le.one)))
  · rintro k ⟨hI, hI2, hrd⟩ ih
    simp only [writes, junks, puts, hputs, List.filterMap_cons, List.filterMap_nil, List.set_cons_zero, List.set_cons_succ, List.take_nil, List.cons_append, List.nil_append, List.append_nil] at ih ⊢
    by_cases hk : k < l.length
    case neg =>
      obtain rfl : k = l.length := by omega
      have hkk : ¬ (l.length : Int) < l.length := by omega
      rw [List.drop_length] at hrd
      refine Run.god tab_ok follows_ok Try.func33 60 ?_; simp only [Try.results33, hkk, List.length_map, ↓alt_f, drun, aops, aone, afin, ares, aresL, ares1, aresOk, aresOk1, aop, needs, ext, aev, aconst, aput, aupd, acmp, ashift, abin, alen, tab_3, tab_43, ok1, exitTo, Option.getD_some, Option.bind_some, Option.map_some, List.set_cons_zero, List.set_cons_succ, List.getElem?_cons_zero, List.getElem?_cons_succ, List.length_map, List.nil_append, true_and, and_true, if_true, if_false, beq_self_eq_true, decide_false, reduceCtorEq, List.getD_eq_getElem?_getD]
      have e : fewR l = true := by rw [fewR, hrd, decide_eq_true (by omega)]; rfl
      rw [e]
      (repeat' (first | exact LeL.nil | exact Le1L.nil | exact Le.refl _ | exact Le1.refl _ | exact Le1.nil _ | exact Le1.tok _ _ _ | exact LeR.one (Le.refl _) | apply LeR.tup | apply LeL.cons | apply Le1L.cons | apply Le.agg | apply Le.one | apply LeR.one))
    case pos =>
      obtain ⟨x, hx⟩ : ∃ x, l[k]? = some x := ⟨_, List.getElem?_eq_getElem hk⟩
      have hkk : (k : Int) < l.length := by omega
      rw [drop_at hx, List.all_cons] at hrd
      by_cases h30 : (k : Int) = 30
      case pos =>
        have e : fewR l = false := by rw [fewR, decide_eq_false (by omega)]; rfl
        have h31 : (30 : Int) < l.length := by omega
        rw [e]
        refine Run.god tab_ok follows_ok Try.func33 60 ?_; simp only [Try.results33, h30, h31, List.length_map, decide_true, ↓alt_t, ↓alts_t, ↓gone_ft, gslot, drun, aops, aone, afin, ares, aresL, ares1, aresOk, aresOk1, aop, needs, ext, aev, aconst, aput, aupd, acmp, ashift, abin, alen, tab_3, tab_43, ok1, Option.getD_some, Option.bind_some, Option.map_some, List.set_cons_zero, List.set_cons_succ, List.getElem?_cons_zero, List.getElem?_cons_succ, List.getElem?_toArray, List.length_map, List.nil_append, true_and, and_true, if_true, if_false, decide_true, reduceCtorEq, List.getD_eq_getElem?_getD]
        ((repeat' (apply And.intro)) <;> try (first | rfl | omega | (unfold I64; omega)))
        (repeat' (first | exact LeL.nil | exact Le1L.nil | exact Le.refl _ | exact Le1.refl _ | exact Le1.nil _ | exact Le1.tok _ _ _ | exact LeR.one (Le.refl _) | apply LeR.tup | apply LeL.cons | apply Le1L.cons | apply Le.agg | apply Le.one | apply LeR.one))
      case neg =>
        by_cases h1 : (6100 : Int) < x.value.length
        case pos =>
          have hn : ¬ (x.value.length : Int) ≤ 6100 := by omega
          have e : fewR l = false := by rw [fewR, hrd]; simp only [fewO, hn, decide_false, Bool.false_and, Bool.and_false]
          rw [e]
          refine Run.god tab_ok follows_ok Try.func33 60 ?_; simp only [Try.results33, hkk, h30, hx, h1, rpC, List.getElem?_map, List.length_map, decide_true, decide_false, ↓alt_t, ↓alts_t, ↓alts_f, ↓gone_ft, ↓gone_ff, gslot, drun, aops, aone, afin, ares, aresL, ares1, aresOk, aresOk1, aop, needs, ext, aev, aconst, aput, aupd, aload, afieldAddr, aindexAddr, acmp, ashift, abin, alen, tab_3, tab_9, tab_43, tab_53, ok1, cellsAs, TI.agg, Option.getD_some, Option.bind_some, Option.map_some, List.set_cons_zero, List.set_cons_succ, List.length_cons, List.length_nil, List.getElem?_cons_zero, List.getElem?_cons_succ, List.getElem?_toArray, List.drop_zero, List.drop_succ_cons, List.take_succ_cons, List.take_zero, List.length_map, List.nil_append, true_and, and_true, if_true, if_false, Nat.reduceAdd, Nat.reduceLeDiff, Nat.zero_add, decide_true, decide_false, Nat.reduceLT, Nat.reduceLeDiff, forall_const, reduceCtorEq, false_implies, implies_true, Int.toNat_natCast, List.getD_eq_getElem?_getD]
          ((repeat' (apply And.intro)) <;> try (first | rfl | omega | (unfold I64; omega)))
          (repeat' (first | exact LeL.nil | exact Le1L.nil | exact Le.refl _ | exact Le1.refl _ | exact Le1.nil _ | exact Le1.tok _ _ _ | exact LeR.one (Le.refl _) | apply LeR.tup | apply LeL.cons | apply Le1L.cons | apply Le.agg | apply Le.one | apply LeR.one))
        case neg =>
          by_cases h2 : (30 : Int) < x.proof.length
          case pos =>
            have hn : ¬ (x.proof.length : Int) ≤ 30 := by omega
            have e : fewR l = false := by rw [fewR, hrd]; simp only [fewO, hn, decide_false, Bool.false_and, Bool.and_false]
            rw [e]
            refine Run.god tab_ok follows_ok Try.func33 60 ?_; simp only [Try.results33, hkk, h30, hx, h1, h2, rpC, votesA, List.getElem?_map, List.length_map, decide_true, decide_false, ↓alt_t, ↓alts_f, ↓gone_ff, gslot, drun, aops, aone, afin, ares, aresL, ares1, aresOk, aresOk1, aop, needs, ext, aev, aconst, aput, aupd, aload, afieldAddr, aindexAddr, acmp, ashift, abin, alen, tab_3, tab_9, tab_43, tab_51, tab_53, ok1, cellsAs, TI.agg, Option.getD_some, Option.bind_some, Option.map_some, List.set_cons_zero, List.set_cons_succ, List.length_cons, List.length_nil, List.getElem?_cons_zero, List.getElem?_cons_succ, List.getElem?_toArray, List.drop_zero, List.drop_succ_cons, List.take_succ_cons, List.take_zero, List.take_nil, List.length_map, List.nil_append, true_and, and_true, if_true, if_false, Nat.reduceAdd, Nat.reduceLeDiff, Nat.zero_add, decide_true, decide_false, Nat.reduceLT, Nat.reduceLeDiff, forall_const, reduceCtorEq, false_implies, implies_true, Nat.le_refl, Int.toNat_natCast, List.getD_eq_getElem?_getD]
            ((repeat' (apply And.intro)) <;> try (first | rfl | omega | (unfold I64; omega)))
            (repeat' (first | exact LeL.nil | exact Le1L.nil | exact Le.refl _ | exact Le1.refl _ | exact Le1.nil _ | exact Le1.tok _ _ _ | exact LeR.one (Le.refl _) | apply LeR.tup | apply LeL.cons | apply Le1L.cons | apply Le.agg | apply Le.one | apply LeR.one))
          case neg =>
            have hn1 : (x.value.length : Int) ≤ 6100 := by omega
            have hn2 : (x.proof.length : Int) ≤ 30 := by omega
            have hfo : fewO x = fewP x.proof := by simp only [fewO, hn1, hn2, decide_true, Bool.true_and]
            rw [hfo] at hrd
            refine Run.god tab_ok follows_ok Try.func33 60 ?_; simp only [hkk, h30, hx, h1, h2, rpC, votesA, List.getElem?_map, List.length_map, decide_true, decide_false, ↓alt_t, ↓alt_f, ↓alts_f, ↓gone_ff, gslot, drun, aops, aone, aop, needs, ext, aev, aconst, aput, aupd, aload, afieldAddr, aindexAddr, acmp, ashift, abin, alen, tab_3, tab_9, tab_43, tab_51, tab_53, ok1, cellsAs, TI.agg, Option.getD_some, Option.bind_some, Option.map_some, List.set_cons_zero, List.set_cons_succ, List.length_cons, List.length_nil, List.getElem?_cons_zero, List.getElem?_cons_succ, List.getElem?_toArray, List.drop_zero, List.drop_succ_cons, List.take_succ_cons, List.take_zero, List.take_nil, List.length_map, List.nil_append, true_and, and_true, if_true, if_false, Nat.reduceAdd, Nat.reduceLeDiff, Nat.zero_add, decide_true, decide_false, Nat.reduceLT, Nat.reduceLeDiff, forall_const, reduceCtorEq, false_implies, implies_true, Nat.le_refl, Int.toNat_natCast, List.getD_eq_getElem?_getD]
            ((repeat' (apply And.intro)) <;> try (first | rfl | omega | (unfold I64; omega)))
            refine Run.loopV (α := Nat) (fun i => i ≤ x.proof.length ∧ fewP x.proof = fewP (x.proof.drop i)) (fun i => [(4, .int .i64 i)]) 0 (fun _ => []) (fun i => x.proof.length - i) 0 ⟨Nat.zero_le _, rfl⟩ ?_ ?_
            · simp only [writes, junks, puts, hputs, List.filterMap_cons, List.filterMap_nil, Int.natCast_zero, List.set_cons_zero, List.set_cons_succ, List.take_nil, List.cons_append, List.nil_append, List.append_nil]
              (refine Weak.of (by simp [hc0]) ?_ ?_ <;> (repeat' (first | exact WkT.nil | exact WkH.nil _ | exact Le.refl _ | exact Le.junk _ | exact Le1.refl _ | exact Le1.nil _ | exact Le1.tok _ _ _ | exact Le1L.nil | rfl | apply WkT.cons | apply WkH.cons | apply LeB.same | apply LeB.box | apply Le1L.cons | apply Le.agg | apply Le.one)))
            · rintro i ⟨hi, hrd2⟩ ih2
              simp only [writes, junks, puts, hputs, List.filterMap_cons, List.filterMap_nil, List.set_cons_zero, List.set_cons_succ, List.take_nil, List.cons_append, List.nil_append, List.append_nil] at ih2 ⊢
              by_cases hi2 : i < x.proof.length
              case neg =>
                obtain rfl : i = x.proof.length := by omega
                have hii : ¬ (x.proof.length : Int) < x.proof.length := by omega
                rw [List.drop_length] at hrd2
                refine Run.god tab_ok follows_ok Try.func33 60 ?_; simp only [hkk, hii, hx, rpC, votesA, List.getElem?_map, List.length_map, ↓alt_f, drun, aops, aone, aop, needs, ext, aev, aconst, aput, aupd, aload, afieldAddr, aindexAddr, acmp, aarith, ashift, abin, alen, tab_3, tab_43, tab_51, tab_53, ok1, cellsAs, TI.agg, exitTo, Option.getD_some, Option.bind_some, Option.map_some, List.set_cons_zero, List.set_cons_succ, List.length_cons, List.length_nil, List.getElem?_cons_zero, List.getElem?_cons_succ, List.drop_zero, List.drop_succ_cons, List.take_succ_cons, List.take_nil, List.length_map, List.nil_append, true_and, and_true, if_true, if_false, Nat.reduceBEq, Nat.zero_add, beq_self_eq_true, decide_false, Nat.reduceLT, forall_const, reduceCtorEq, false_implies, implies_true, Nat.le_refl, Int.toNat_natCast, List.getD_eq_getElem?_getD]
                ((repeat' (apply And.intro)) <;> try (first | rfl | omega | (unfold I64; omega)))
                refine ih (k + 1) _ ⟨by omega, by omega, ?_⟩ (by omega) ?_
                · rw [hrd, hrd2]; rfl
                · simp only [Int.natCast_add, Int.natCast_one]
                  (refine Weak.of (by simp [hc0]) ?_ ?_ <;> (repeat' (first | exact WkT.nil | exact WkH.nil _ | exact Le.refl _ | exact Le.junk _ | exact Le1.refl _ | exact Le1.nil _ | exact Le1.tok _ _ _ | exact Le1L.nil | rfl | apply WkT.cons | apply WkH.cons | apply LeB.same | apply LeB.box | apply Le1L.cons | apply Le.agg | apply Le.one)))
              case pos =>
                obtain ⟨a, ha⟩ : ∃ a, x.proof[i]? = some a := ⟨_, List.getElem?_eq_getElem hi2⟩
                have hii : (i : Int) < x.proof.length := by omega
                rw [drop_at ha] at hrd2
                unfold fewP at hrd2
                rw [List.all_cons] at hrd2
                by_cases h3 : (6100 : Int) < a.value.length
                case pos =>
                  have hn : ¬ (a.value.length : Int) ≤ 6100 := by omega
                  have e : fewR l = false := by rw [fewR, hrd, fewP, hrd2]; simp only [hn, decide_false, Bool.false_and, Bool.and_false]
                  rw [e]
                  refine Run.god tab_ok follows_ok Try.func33 60 ?_; simp only [Try.results33, hkk, hii, hx, ha, h3, rpC, votesA, accC, List.getElem?_map, List.length_map, decide_true, ↓alt_t, drun, aops, aone, afin, ares, aresL, ares1, aresOk, aresOk1, aop, needs, ext, aev, aconst, aput, aupd, aload, afieldAddr, aindexAddr, acmp, ashift, abin, alen, tab_3, tab_9, tab_43, tab_51, tab_53, tab_56, ok1, cellsAs, TI.agg, Option.getD_some, Option.bind_some, Option.map_some, List.set_cons_zero, List.set_cons_succ, List.length_cons, List.length_nil, List.getElem?_cons_zero, List.getElem?_cons_succ, List.drop_zero, List.drop_succ_cons, List.take_succ_cons, List.take_nil, List.length_map, List.nil_append, true_and, and_true, if_true, if_false, Nat.zero_add, decide_true, Nat.reduceLT, forall_const, reduceCtorEq, false_implies, implies_true, Nat.le_refl, Int.toNat_natCast, List.getD_eq_getElem?_getD]
                  ((repeat' (apply And.intro)) <;> try (first | rfl | omega | (unfold I64; omega)))
                  (repeat' (first | exact LeL.nil | exact Le1L.nil | exact Le.refl _ | exact Le1.refl _ | exact Le1.nil _ | exact Le1.tok _ _ _ | exact LeR.one (Le.refl _) | apply LeR.tup | apply LeL.cons | apply Le1L.cons | apply Le.agg | apply Le.one | apply LeR.one))
                case neg =>
                  have hn : (a.value.length : Int) ≤ 6100 := by omega
                  refine Run.god tab_ok follows_ok Try.func33 60 ?_; simp only [hkk, hii, hx, ha, h3, rpC, votesA, accC, List.getElem?_map, List.length_map, decide_false, ↓alt_t, ↓alt_f, drun, aops, aone, aop, needs, ext, aev, aconst, aput, aupd, aload, afieldAddr, aindexAddr, acmp, aarith, ashift, abin, alen, tab_3, tab_9, tab_43, tab_51, tab_53, tab_56, ok1, cellsAs, TI.agg, Option.getD_some, Option.bind_some, Option.map_some, List.set_cons_zero, List.set_cons_succ, List.length_cons, List.length_nil, List.getElem?_cons_zero, List.getElem?_cons_succ, List.drop_zero, List.drop_succ_cons, List.take_succ_cons, List.take_nil, List.length_map, List.nil_append, true_and, and_true, if_true, if_false, Nat.zero_add, decide_true, decide_false, Nat.reduceLT, forall_const, reduceCtorEq, false_implies, implies_true, Nat.le_refl, Int.toNat_natCast, List.getD_eq_getElem?_getD]
                  ((repeat' (apply And.intro)) <;> try (first | rfl | omega | (unfold I64; omega)))
                  refine ih2 (i + 1) _ ⟨by omega, ?_⟩ (by omega) ?_
                  · unfold fewP
                    rw [hrd2]
                    simp only [hn, decide_true, Bool.true_and]
                  · simp only [Int.natCast_add, Int.natCast_one]
                    (refine Weak.of (by simp [hc0]) ?_ ?_ <;> (repeat' (first | exact WkT.nil | exact WkH.nil _ | exact Le.refl _ | exact Le.junk _ | exact Le1.refl _ | exact Le1.nil _ | exact Le1.tok _ _ _ | exact Le1L.nil | rfl | apply WkT.cons | apply WkH.cons | apply LeB.same | apply LeB.box | apply Le1L.cons | apply Le.agg | apply Le.one)))
/-- The same, but for rows without elements. -/
inductive LN : AV → AV → Prop where
  | refl (a : AV) : LN a a
  | nil (k : Nat) : LN .nils (.sl k [] .no)
inductive LNL : List AV → List AV → Prop where
  | nil : LNL [] []
  | cons {a b : AV} {xs ys : List AV} (h : LN a b) (hs : LNL xs ys) : LNL (a :: xs) (b :: ys)
inductive LNN : List (List AV) → List (List AV) → Prop where
  | nil : LNN [] []
  | cons {a b : List AV} {xs ys : List (List AV)} (h : LNL a b) (hs : LNN xs ys) : LNN (a :: xs) (b :: ys)
theorem LN.ok {a b : AV} (h : LN a b) (hp : a.plain = true) : b.plain = true ∧ ∀ c v, RV c v a → RV c v b := by
  cases h with
  | refl => exact ⟨hp, fun _ _ h => h⟩
  | nil k => exact ⟨rfl, fun c v h => by cases h; exact .nil_sl k⟩
theorem LNL.get {xs ys : List AV} (h : LNL xs ys) : xs.length = ys.length ∧ ∀ (i : Nat) b, ys[i]? = some b → ∃ a, xs[i]? = some a ∧ LN a b := by
  induction h with
  | nil => exact ⟨rfl, fun i b h => by simp at h⟩
  | cons h _ ih =>
    refine ⟨by simp [ih.1], fun i b hb => ?_⟩
    cases i with
    | zero => simp at hb; subst hb; exact ⟨_, rfl, h⟩
    | succ i => exact ih.2 i b (by simpa using hb)
theorem LNN.get {xs ys : List (List AV)} (h : LNN xs ys) : xs.length = ys.length ∧ ∀ (i : Nat) b, ys[i]? = some b → ∃ a, xs[i]? = some a ∧ LNL a b := by
  induction h with
  | nil => exact ⟨rfl, fun i b h => by simp at h⟩
  | cons h _ ih =>
    refine ⟨by simp [ih.1], fun i b hb => ?_⟩
    cases i with
    | zero => simp at hb; subst hb; exact ⟨_, rfl, h⟩
    | succ i => exact ih.2 i b (by simpa using hb)
theorem LNN.rv {l m : List (List AV)} (h : LNN l m) {c : Cx} {v : Value} {k : Nat} {t : Tk} (hv : RV c v (.sl k l t)) : RV c v (.sl k m .no) := by
  cases hv with
  | sl _ _ _ A n cap b o vs hn hcap hm hA hk hc hr ht =>
    obtain ⟨hl, hg⟩ := h.get
    refine .sl k m .no A n cap b o vs (hl ▸ hn) hcap hm (fun hne => hA fun e => hne (by subst e; exact List.length_eq_zero_iff.1 hl.symm)) (fun j e he => ?_) (fun j e i a he ha => ?_) (fun j e i a he ha => ?_) trivial
    · obtain ⟨e', h1, h2⟩ := hg j e he
      rw [← h2.get.1]; exact hk j e' h1
    · obtain ⟨e', h1, h2⟩ := hg j e he
      obtain ⟨a', h3, h4⟩ := h2.get.2 i a ha
      obtain ⟨g1, g2⟩ := hc j e' i a' h1 h3
      exact ⟨(h4.ok g1).1, g2⟩
    · obtain ⟨e', h1, h2⟩ := hg j e he
      obtain ⟨a', h3, h4⟩ := h2.get.2 i a ha
      obtain ⟨g1, g2⟩ := hc j e' i a' h1 h3
      exact (h4.ok g1).2 _ _ (hr j e' i a' h1 h3)
theorem Weak.nest {P : Program} {c0 : Cx} {s : AState} (j k : Nat) (l m : List (List AV)) (t : Tk) (hj : s.t[j]? = some (.sl k l t)) (h : LNN l m) : Weak P c0 s ⟨s.t.set j (.sl k m .no), s.h⟩ := by
  refine ⟨fun ρ w vs h1 h2 h3 => ⟨ρ, h1, h2, by simp [h3.1], fun i v x hv hx => ?_⟩⟩
  rw [List.getElem?_set] at hx
  split at hx
  · rename_i hij
    subst hij
    have hjl : j < s.t.length := (List.getElem?_eq_some_iff.1 hj).1
    first
      | (cases hx; exact h.rv (h3.2 j v _ hv hj))
      | (rw [if_pos hjl] at hx; cases hx; exact h.rv (h3.2 j v _ hv hj))
  · exact h3.2 i v x hv hx
theorem Ops.weak {P : Program} {f : FuncId} {c0 : Cx} {R : AV → List ABlk → Prop} {ops : Array Oper} {n : Nat} {rest : List Oper} {k : List Item} {s s' : AState} (hw : Weak P c0 s s') (h : Ops P f c0 R ops n rest k s') : Ops P f c0 R ops n rest k s := ⟨fun hd => ARun.weak hw.h (h.h hd)⟩
def liveS : Sz := ⟨1, 0⟩
def liveL : List Rp := [⟨0, 1, false, 0, [], []⟩, ⟨1, 1, true, 0, [97], []⟩, ⟨3, 1, true, 0, [97], []⟩]
set_option maxRecDepth 20000 in
theorem alive20_spec : ASpec Try.prog 36 [] (.bool true) := by
  have hsm : smL liveL := ⟨by decide, by decide⟩
  have hr1 : rightR liveS 1 liveL = true := by decide
  have b := binds20_spec liveS 1 liveL hr1 hsm.1
  have hb : binds liveS liveL = ([97], true) := by decide
  rw [hb] at b
  have r := right20_spec liveS 1 liveL hsm.1 hsm.2
  rw [hr1] at r
  have v1 := vouches_spec liveS 1 liveL [97] hsm
  have v2 := vouches_spec liveS 1 liveL [98] hsm
  have v3 := vouches_spec liveS 2 liveL [97] hsm
  rw [show vouches liveS 1 liveL [97] = true by decide] at v1
  rw [show vouches liveS 1 liveL [98] = false by decide] at v2
  rw [show vouches liveS 2 liveL [97] = false by decide] at v3
  simp only [encS, rpsA, liveS, liveL, rpC, votesA, List.map_cons, List.map_nil] at b r v1 v2 v3
  refine ⟨⟨_, Try.func36, by kernel_rfl, rfl⟩, ACall.of Try.func36 rfl fun c0 hc0 => ?_⟩; simp only [Try.ntmps36, List.length_nil, Nat.reduceSub, List.replicate_succ, List.replicate_zero, List.nil_append]; refine Run.god tab_ok follows_ok Try.func36 60 ?_; simp only [drun, aops, aone, aop, needs, ext, aev, aconst, aput, aupd, aload, astore, abuild, aelems, plains, tab_3, tab_4, tab_9, tab_23, tab_43, tab_53, ok1, lay, cellsAs, TI.agg, AV.cells, AV.whole, AV.plain, AV.bare, Option.getD_some, Option.bind_some, Option.map_some, List.set_cons_zero, List.set_cons_succ, List.length_cons, List.length_nil, List.getElem?_cons_zero, List.getElem?_cons_succ, List.drop_zero, List.drop_succ_cons, List.take_succ_cons, List.take_zero, List.take_nil, List.drop_nil, List.map_cons, List.map_nil, List.cons_append, List.nil_append, List.append_nil, List.all_cons, List.all_nil, List.replicate_succ, List.replicate_zero, true_and, and_true, if_true, if_false, Nat.reduceAdd, Nat.reduceLeDiff, Nat.reduceMul, Nat.reduceBEq, Nat.zero_add, Bool.and_self, Bool.and_false, Nat.reduceLT, Nat.reduceLeDiff, reduceCtorEq, Nat.le_refl, List.getD_eq_getElem?_getD]
  ((repeat' (apply And.intro)) <;> try (first | rfl | omega | (unfold I64; omega)))
  have hLN : LNN [[AV.int .i64 0, .int .i64 1, .bool false, .int .i64 0, .str [], .nils], [.int .i64 1, .int .i64 1, .bool true, .int .i64 0, .str [97], .nils], [.int .i64 3, .int .i64 1, .bool true, .int .i64 0, .str [97], .nils]]
      [[.int .i64 0, .int .i64 1, .bool false, .int .i64 0, .str [], .sl 3 [] .no], [.int .i64 1, .int .i64 1, .bool true, .int .i64 0, .str [97], .sl 3 [] .no], [.int .i64 3, .int .i64 1, .bool true, .int .i64 0, .str [97], .sl 3 [] .no]] := by
    repeat' (first | exact LN.nil _ | exact LN.refl _ | apply LNN.cons | apply LNL.cons | exact LNN.nil | exact LNL.nil)
  refine Ops.weak (Weak.nest 2 6 _ _ _ rfl hLN) (Ops.weak (Weak.nest 12 6 _ _ _ rfl hLN) ?_)
  simp only [List.set_cons_zero, List.set_cons_succ]
  refine Ops.pure .free rfl rfl (b) (by simp only [aev, Option.getD_some, List.getElem?_cons_zero, List.getElem?_cons_succ, List.map_cons, List.map_nil, List.nil_append, List.append_nil, List.getD_eq_getElem?_getD]; (repeat' (first | exact LeL.nil | exact Le1L.nil | exact Le.refl _ | exact Le1.refl _ | exact Le1.nil _ | exact Le1.tok _ _ _ | exact LeR.one (Le.refl _) | apply LeR.tup | apply LeL.cons | apply Le1L.cons | apply Le.agg | apply Le.one | apply LeR.one))) rfl rfl ?_
  refine Ops.god tab_ok follows_ok Try.func36 60 ?_; simp only [drun, aops, aone, aop, needs, ext, aev, aput, aupd, aload, tab_23, ok1, cellsAs, TI.agg, Option.getD_some, Option.bind_some, Option.map_some, List.set_cons_zero, List.set_cons_succ, List.length_cons, List.length_nil, List.getElem?_cons_zero, List.getElem?_cons_succ, List.drop_zero, List.take_succ_cons, List.take_nil, List.cons_append, List.nil_append, true_and, if_true, if_false, Nat.reduceAdd, Nat.zero_add, reduceCtorEq, Nat.le_refl, List.getD_eq_getElem?_getD]
  refine Ops.pure .free rfl rfl (r) (by simp only [aev, aconst, Option.getD_some, List.getElem?_cons_zero, List.getElem?_cons_succ, List.map_cons, List.map_nil, List.nil_append, List.append_nil, List.getD_eq_getElem?_getD]; (repeat' (first | exact LeL.nil | exact Le1L.nil | exact Le.refl _ | exact Le1.refl _ | exact Le1.nil _ | exact Le1.tok _ _ _ | exact LeR.one (Le.refl _) | apply LeR.tup | apply LeL.cons | apply Le1L.cons | apply Le.agg | apply Le.one | apply LeR.one))) rfl rfl ?_
  refine Ops.god tab_ok follows_ok Try.func36 60 ?_; simp only [↓alts_t, ↓gone_tt, gslot, aops, aone, aop, needs, ext, aev, aconst, aput, aupd, aload, abin, tab_9, tab_23, ok1, cellsAs, TI.agg, Option.getD_some, Option.bind_some, Option.map_some, List.set_cons_zero, List.set_cons_succ, List.length_cons, List.length_nil, List.getElem?_cons_zero, List.getElem?_cons_succ, List.getElem?_toArray, List.drop_zero, List.take_succ_cons, List.take_nil, List.cons_append, List.nil_append, true_and, if_true, if_false, Nat.reduceAdd, Nat.zero_add, decide_true, reduceCtorEq, Nat.le_refl, List.getD_eq_getElem?_getD]
  refine Ops.pure (Wanted.test 10 true true rfl) rfl rfl (v1) (by simp only [aev, aconst, Option.getD_some, List.getElem?_cons_zero, List.getElem?_cons_succ, List.map_cons, List.map_nil, List.nil_append, List.append_nil, List.getD_eq_getElem?_getD]; (repeat' (first | exact LeL.nil | exact Le1L.nil | exact Le.refl _ | exact Le1.refl _ | exact Le1.nil _ | exact Le1.tok _ _ _ | exact LeR.one (Le.refl _) | apply LeR.tup | apply LeL.cons | apply Le1L.cons | apply Le.agg | apply Le.one | apply LeR.one))) rfl rfl ?_
  refine Ops.god tab_ok follows_ok Try.func36 60 ?_; simp only [↓alts_t, ↓gone_tt, gslot, aops, aone, aop, needs, ext, aev, aput, aupd, aload, tab_23, ok1, cellsAs, TI.agg, Option.getD_some, Option.bind_some, Option.map_some, List.set_cons_zero, List.set_cons_succ, List.length_cons, List.length_nil, List.getElem?_cons_zero, List.getElem?_cons_succ, List.getElem?_toArray, List.drop_zero, List.take_succ_cons, List.take_nil, List.cons_append, List.nil_append, true_and, if_true, if_false, Nat.reduceAdd, Nat.zero_add, reduceCtorEq, Nat.le_refl, List.getD_eq_getElem?_getD]
  refine Ops.pure (Wanted.test 15 true true rfl) rfl rfl (v2) (by simp only [aev, aconst, Option.getD_some, List.getElem?_cons_zero, List.getElem?_cons_succ, List.map_cons, List.map_nil, List.nil_append, List.append_nil, List.getD_eq_getElem?_getD]; (repeat' (first | exact LeL.nil | exact Le1L.nil | exact Le.refl _ | exact Le1.refl _ | exact Le1.nil _ | exact Le1.tok _ _ _ | exact LeR.one (Le.refl _) | apply LeR.tup | apply LeL.cons | apply Le1L.cons | apply Le.agg | apply Le.one | apply LeR.one))) rfl rfl ?_
  refine Ops.god tab_ok follows_ok Try.func36 60 ?_; simp only [↓alts_t, ↓gone_tt, gslot, aops, aone, aop, needs, ext, aev, aput, aupd, aload, tab_23, ok1, cellsAs, TI.agg, Option.getD_some, Option.bind_some, Option.map_some, List.set_cons_zero, List.set_cons_succ, List.length_cons, List.length_nil, List.getElem?_cons_zero, List.getElem?_cons_succ, List.getElem?_toArray, List.drop_zero, List.take_succ_cons, List.take_nil, List.cons_append, List.nil_append, true_and, if_true, if_false, Nat.reduceAdd, Nat.zero_add, Bool.not_false, reduceCtorEq, Nat.le_refl, List.getD_eq_getElem?_getD]
  refine Ops.pure (Wanted.test 21 true true rfl) rfl rfl (v3) (by simp only [aev, aconst, Option.getD_some, List.getElem?_cons_zero, List.getElem?_cons_succ, List.map_cons, List.map_nil, List.nil_append, List.append_nil, List.getD_eq_getElem?_getD]; (repeat' (first | exact LeL.nil | exact Le1L.nil | exact Le.refl _ | exact Le1.refl _ | exact Le1.nil _ | exact Le1.tok _ _ _ | exact LeR.one (Le.refl _) | apply LeR.tup | apply LeL.cons | apply Le1L.cons | apply Le.agg | apply Le.one | apply LeR.one))) rfl rfl ?_
  refine Ops.god tab_ok follows_ok Try.func36 60 ?_; simp only [Try.results36, ↓alts_t, ↓gone_tt, gslot, drun, aops, aone, afin, ares, aresL, ares1, aresOk, aresOk1, aop, needs, ext, aev, aput, aupd, ok1, Option.getD_some, Option.bind_some, Option.map_some, List.set_cons_zero, List.set_cons_succ, List.getElem?_cons_zero, List.getElem?_cons_succ, List.getElem?_toArray, List.cons_append, List.nil_append, true_and, and_true, if_false, Bool.not_false, reduceCtorEq, List.getD_eq_getElem?_getD]
  (repeat' (first | exact LeL.nil | exact Le1L.nil | exact Le.refl _ | exact Le1.refl _ | exact Le1.nil _ | exact Le1.tok _ _ _ | exact LeR.one (Le.refl _) | apply LeR.tup | apply LeL.cons | apply Le1L.cons | apply Le.agg | apply Le.one | apply LeR.one))
end Go.Proofs.Ytgonmnjgodleeaa
