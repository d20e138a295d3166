/-
  order.May, told by its shadow.
-/
import Derived.Test.YtpigfpnpabnnbaaOr
namespace Go.Proofs.Ytpigfpnpabnnbaa
open Go.RowKit
def mayO (o : Ord) : Bool := decide (0 ≤ o.a) && decide (o.a ≤ 1000) && decide (1 ≤ o.b) && decide (o.b ≤ 1000000000) && decide (0 ≤ o.kind) && decide (o.kind ≤ 11) && decide ((o.s.length : Int) ≤ 100) && decide ((o.t.length : Int) ≤ 1000) && decide (o = usedO o)
set_option maxRecDepth 100000 in
set_option maxHeartbeats 4000000 in
theorem may_0 (o : Ord)  (q1 : ¬ 0 ≤ o.a) : ASpec Try.prog 34 [encO o] (.bool (mayO o)) := by
  have e : mayO o = false := by simp [mayO, q1]
  rw [e]
  refine ⟨⟨_, Try.func34, by kernel_rfl, rfl⟩, ACall.of Try.func34 rfl fun c0 hc0 => ?_⟩; simp only [Try.ntmps34, List.length_cons, List.length_nil, Nat.reduceAdd, Nat.reduceSub, List.replicate_succ, List.replicate_zero, List.cons_append, List.nil_append]; refine Run.god tab_ok follows_ok Try.func34 60 ?_; simp only [Try.results34, encO, q1, eq_self, ↓alts_f, ↓gone_tf, ↓gdone_tf, gslot, drun, adops, adone, places, mayNeed, freeOk, rdOf, wrOf, aops, aone, afin, ares, aresL, ares1, aresOk, aresOk1, aop, needs, ext, aev, aconst, aput, aupd, aload, afieldAddr, acmp, ashift, abin, tab_3, tab_48, ok1, cellsAs, TI.agg, AV.cells, AV.whole, Option.getD_some, Option.bind_some, Option.map_some, List.set_cons_zero, List.set_cons_succ, List.length_cons, List.length_nil, List.getElem?_cons_zero, List.getElem?_cons_succ, List.getElem?_toArray, List.drop_zero, List.take_succ_cons, List.take_zero, List.cons_append, List.nil_append, true_and, and_true, if_true, if_false, Nat.reduceAdd, Nat.reduceLeDiff, Nat.zero_add, Nat.add_zero, decide_false, Nat.reduceLeDiff, reduceCtorEq, List.getD_eq_getElem?_getD]
  exact ⟨rfl, rfl, .one (.refl _)⟩
set_option maxRecDepth 100000 in
set_option maxHeartbeats 4000000 in
theorem may_1 (o : Ord) (q1 : 0 ≤ o.a) (q2 : ¬ o.a ≤ 1000) : ASpec Try.prog 34 [encO o] (.bool (mayO o)) := by
  have e : mayO o = false := by simp [mayO, q1, q2]
  rw [e]
  refine ⟨⟨_, Try.func34, by kernel_rfl, rfl⟩, ACall.of Try.func34 rfl fun c0 hc0 => ?_⟩; simp only [Try.ntmps34, List.length_cons, List.length_nil, Nat.reduceAdd, Nat.reduceSub, List.replicate_succ, List.replicate_zero, List.cons_append, List.nil_append]; refine Run.god tab_ok follows_ok Try.func34 60 ?_; simp only [Try.results34, encO, q1, q2, eq_self, ↓alts_t, ↓alts_f, ↓gone_tt, ↓gone_tf, ↓gdone_tf, gslot, drun, adops, adone, places, mayNeed, freeOk, rdOf, wrOf, aops, aone, afin, ares, aresL, ares1, aresOk, aresOk1, aop, needs, ext, aev, aconst, aput, aupd, aload, afieldAddr, acmp, ashift, abin, tab_3, tab_48, ok1, cellsAs, TI.agg, AV.cells, AV.whole, Option.getD_some, Option.bind_some, Option.map_some, List.set_cons_zero, List.set_cons_succ, List.length_cons, List.length_nil, List.getElem?_cons_zero, List.getElem?_cons_succ, List.getElem?_toArray, List.drop_zero, List.take_succ_cons, List.take_zero, List.cons_append, List.nil_append, true_and, and_true, if_true, if_false, Nat.reduceAdd, Nat.reduceLeDiff, Nat.zero_add, Nat.add_zero, decide_true, decide_false, Nat.reduceLeDiff, reduceCtorEq, List.getD_eq_getElem?_getD]
  exact ⟨rfl, rfl, .one (.refl _)⟩
set_option maxRecDepth 100000 in
set_option maxHeartbeats 4000000 in
theorem may_2 (o : Ord) (q1 : 0 ≤ o.a) (q2 : o.a ≤ 1000) (q3 : ¬ 1 ≤ o.b) : ASpec Try.prog 34 [encO o] (.bool (mayO o)) := by
  have e : mayO o = false := by simp [mayO, q1, q2, q3]
  rw [e]
  refine ⟨⟨_, Try.func34, by kernel_rfl, rfl⟩, ACall.of Try.func34 rfl fun c0 hc0 => ?_⟩; simp only [Try.ntmps34, List.length_cons, List.length_nil, Nat.reduceAdd, Nat.reduceSub, List.replicate_succ, List.replicate_zero, List.cons_append, List.nil_append]; refine Run.god tab_ok follows_ok Try.func34 60 ?_; simp only [Try.results34, encO, q1, q2, q3, eq_self, ↓alts_t, ↓alts_f, ↓gone_tt, ↓gone_tf, ↓gdone_tf, gslot, drun, adops, adone, places, mayNeed, freeOk, rdOf, wrOf, aops, aone, afin, ares, aresL, ares1, aresOk, aresOk1, aop, needs, ext, aev, aconst, aput, aupd, aload, afieldAddr, acmp, ashift, abin, tab_3, tab_48, ok1, cellsAs, TI.agg, AV.cells, AV.whole, Option.getD_some, Option.bind_some, Option.map_some, List.set_cons_zero, List.set_cons_succ, List.length_cons, List.length_nil, List.getElem?_cons_zero, List.getElem?_cons_succ, List.getElem?_toArray, List.drop_zero, List.drop_succ_cons, List.take_succ_cons, List.take_zero, List.cons_append, List.nil_append, true_and, and_true, if_true, if_false, Nat.reduceAdd, Nat.reduceLeDiff, Nat.zero_add, Nat.add_zero, decide_true, decide_false, Nat.reduceLeDiff, reduceCtorEq, List.getD_eq_getElem?_getD]
  exact ⟨rfl, rfl, .one (.refl _)⟩
set_option maxRecDepth 100000 in
set_option maxHeartbeats 4000000 in
theorem may_3 (o : Ord) (q1 : 0 ≤ o.a) (q2 : o.a ≤ 1000) (q3 : 1 ≤ o.b) (q4 : ¬ o.b ≤ 1000000000) : ASpec Try.prog 34 [encO o] (.bool (mayO o)) := by
  have e : mayO o = false := by simp [mayO, q1, q2, q3, q4]
  rw [e]
  refine ⟨⟨_, Try.func34, by kernel_rfl, rfl⟩, ACall.of Try.func34 rfl fun c0 hc0 => ?_⟩; simp only [Try.ntmps34, List.length_cons, List.length_nil, Nat.reduceAdd, Nat.reduceSub, List.replicate_succ, List.replicate_zero, List.cons_append, List.nil_append]; refine Run.god tab_ok follows_ok Try.func34 60 ?_; simp only [Try.results34, encO, q1, q2, q3, q4, eq_self, ↓alts_t, ↓alts_f, ↓gone_tt, ↓gdone_tf, gslot, drun, adops, adone, places, mayNeed, freeOk, rdOf, wrOf, aops, aone, afin, ares, aresL, ares1, aresOk, aresOk1, aop, needs, ext, aev, aconst, aput, aupd, aload, afieldAddr, acmp, ashift, abin, tab_3, tab_48, ok1, cellsAs, TI.agg, AV.cells, AV.whole, Option.getD_some, Option.bind_some, Option.map_some, List.set_cons_zero, List.set_cons_succ, List.length_cons, List.length_nil, List.getElem?_cons_zero, List.getElem?_cons_succ, List.getElem?_toArray, List.drop_zero, List.drop_succ_cons, List.take_succ_cons, List.take_zero, List.cons_append, List.nil_append, true_and, and_true, if_true, if_false, Nat.reduceAdd, Nat.reduceLeDiff, Nat.zero_add, Nat.add_zero, decide_true, decide_false, Nat.reduceLeDiff, reduceCtorEq, List.getD_eq_getElem?_getD]
  exact ⟨rfl, rfl, .one (.refl _)⟩
set_option maxRecDepth 100000 in
set_option maxHeartbeats 4000000 in
theorem may_4 (o : Ord) (q1 : 0 ≤ o.a) (q2 : o.a ≤ 1000) (q3 : 1 ≤ o.b) (q4 : o.b ≤ 1000000000) (q5 : ¬ 0 ≤ o.kind) : ASpec Try.prog 34 [encO o] (.bool (mayO o)) := by
  have e : mayO o = false := by simp [mayO, q1, q2, q3, q4, q5]
  rw [e]
  refine ⟨⟨_, Try.func34, by kernel_rfl, rfl⟩, ACall.of Try.func34 rfl fun c0 hc0 => ?_⟩; simp only [Try.ntmps34, List.length_cons, List.length_nil, Nat.reduceAdd, Nat.reduceSub, List.replicate_succ, List.replicate_zero, List.cons_append, List.nil_append]; refine Run.god tab_ok follows_ok Try.func34 60 ?_; simp only [Try.results34, encO, q1, q2, q3, q4, q5, eq_self, ↓alts_t, ↓alts_f, ↓gone_tt, ↓gdone_tt, ↓gdone_tf, gslot, drun, adops, adone, places, mayNeed, freeOk, rdOf, AV.id, wrOf, aops, aone, afin, ares, aresL, ares1, aresOk, aresOk1, aop, needs, ext, aev, aconst, aput, aupd, aload, afieldAddr, acmp, ashift, abin, tab_3, tab_48, ok1, cellsAs, TI.agg, AV.cells, AV.whole, Option.getD_some, Option.bind_some, Option.map_some, List.set_cons_zero, List.set_cons_succ, List.length_cons, List.length_nil, List.getElem?_cons_zero, List.getElem?_cons_succ, List.getElem?_toArray, List.drop_zero, List.drop_succ_cons, List.take_succ_cons, List.take_zero, List.cons_append, List.nil_append, true_and, and_true, if_true, if_false, Nat.reduceAdd, Nat.reduceLeDiff, Nat.zero_add, Nat.add_zero, decide_true, decide_false, Nat.reduceLeDiff, reduceCtorEq, List.getD_eq_getElem?_getD]
  exact ⟨rfl, rfl, .one (.refl _)⟩
set_option maxRecDepth 100000 in
set_option maxHeartbeats 4000000 in
theorem may_5 (o : Ord) (q1 : 0 ≤ o.a) (q2 : o.a ≤ 1000) (q3 : 1 ≤ o.b) (q4 : o.b ≤ 1000000000) (q5 : 0 ≤ o.kind) (q6 : ¬ o.kind ≤ 11) : ASpec Try.prog 34 [encO o] (.bool (mayO o)) := by
  have e : mayO o = false := by simp [mayO, q1, q2, q3, q4, q5, q6]
  rw [e]
  refine ⟨⟨_, Try.func34, by kernel_rfl, rfl⟩, ACall.of Try.func34 rfl fun c0 hc0 => ?_⟩; simp only [Try.ntmps34, List.length_cons, List.length_nil, Nat.reduceAdd, Nat.reduceSub, List.replicate_succ, List.replicate_zero, List.cons_append, List.nil_append]; refine Run.god tab_ok follows_ok Try.func34 60 ?_; simp only [Try.results34, encO, q1, q2, q3, q4, q5, q6, eq_self, ↓alts_t, ↓alts_f, ↓gone_tt, ↓gdone_tt, ↓gdone_tf, gslot, drun, adops, adone, places, mayNeed, freeOk, rdOf, AV.id, wrOf, aops, aone, afin, ares, aresL, ares1, aresOk, aresOk1, aop, needs, ext, aev, aconst, aput, aupd, aload, afieldAddr, acmp, ashift, abin, tab_3, tab_48, ok1, cellsAs, TI.agg, AV.cells, AV.whole, Option.getD_some, Option.bind_some, Option.map_some, List.set_cons_zero, List.set_cons_succ, List.length_cons, List.length_nil, List.getElem?_cons_zero, List.getElem?_cons_succ, List.getElem?_toArray, List.drop_zero, List.drop_succ_cons, List.take_succ_cons, List.take_zero, List.cons_append, List.nil_append, true_and, and_true, if_true, if_false, Nat.reduceAdd, Nat.reduceLeDiff, Nat.zero_add, Nat.add_zero, decide_true, decide_false, Nat.reduceLeDiff, reduceCtorEq, List.getD_eq_getElem?_getD]
  exact ⟨rfl, rfl, .one (.refl _)⟩
set_option maxRecDepth 100000 in
set_option maxHeartbeats 4000000 in
theorem may_6 (o : Ord) (q1 : 0 ≤ o.a) (q2 : o.a ≤ 1000) (q3 : 1 ≤ o.b) (q4 : o.b ≤ 1000000000) (q5 : 0 ≤ o.kind) (q6 : o.kind ≤ 11) (q7 : ¬ (o.s.length : Int) ≤ 100) : ASpec Try.prog 34 [encO o] (.bool (mayO o)) := by
  have e : mayO o = false := by simp [mayO, q1, q2, q3, q4, q5, q6, q7]
  rw [e]
  refine ⟨⟨_, Try.func34, by kernel_rfl, rfl⟩, ACall.of Try.func34 rfl fun c0 hc0 => ?_⟩; simp only [Try.ntmps34, List.length_cons, List.length_nil, Nat.reduceAdd, Nat.reduceSub, List.replicate_succ, List.replicate_zero, List.cons_append, List.nil_append]; refine Run.god tab_ok follows_ok Try.func34 60 ?_; simp only [Try.results34, encO, q1, q2, q3, q4, q5, q6, q7, eq_self, ↓alts_t, ↓alts_f, ↓gone_tt, ↓gdone_tt, ↓gdone_tf, gslot, drun, adops, adone, places, mayNeed, freeOk, rdOf, AV.id, wrOf, aops, aone, afin, ares, aresL, ares1, aresOk, aresOk1, aop, needs, ext, aev, aconst, aput, aupd, aload, afieldAddr, acmp, ashift, abin, alen, tab_3, tab_9, tab_48, ok1, cellsAs, TI.agg, AV.cells, AV.whole, Option.getD_some, Option.bind_some, Option.map_some, List.set_cons_zero, List.set_cons_succ, List.length_cons, List.length_nil, List.getElem?_cons_zero, List.getElem?_cons_succ, List.getElem?_toArray, List.drop_zero, List.drop_succ_cons, List.take_succ_cons, List.take_zero, List.cons_append, List.nil_append, true_and, and_true, if_true, if_false, Nat.reduceAdd, Nat.reduceLeDiff, Nat.zero_add, Nat.add_zero, decide_true, decide_false, Nat.reduceLeDiff, reduceCtorEq, List.getD_eq_getElem?_getD]
  exact ⟨rfl, rfl, .one (.refl _)⟩
set_option maxRecDepth 100000 in
set_option maxHeartbeats 4000000 in
theorem may_7 (o : Ord) (q1 : 0 ≤ o.a) (q2 : o.a ≤ 1000) (q3 : 1 ≤ o.b) (q4 : o.b ≤ 1000000000) (q5 : 0 ≤ o.kind) (q6 : o.kind ≤ 11) (q7 : (o.s.length : Int) ≤ 100) (q8 : ¬ (o.t.length : Int) ≤ 1000) : ASpec Try.prog 34 [encO o] (.bool (mayO o)) := by
  have e : mayO o = false := by simp [mayO, q1, q2, q3, q4, q5, q6, q7, q8]
  rw [e]
  refine ⟨⟨_, Try.func34, by kernel_rfl, rfl⟩, ACall.of Try.func34 rfl fun c0 hc0 => ?_⟩; simp only [Try.ntmps34, List.length_cons, List.length_nil, Nat.reduceAdd, Nat.reduceSub, List.replicate_succ, List.replicate_zero, List.cons_append, List.nil_append]; refine Run.god tab_ok follows_ok Try.func34 60 ?_; simp only [Try.results34, encO, q1, q2, q3, q4, q5, q6, q7, q8, eq_self, ↓alts_t, ↓alts_f, ↓gone_tt, ↓gdone_tt, ↓gdone_tf, gslot, drun, adops, adone, places, mayNeed, freeOk, rdOf, AV.id, wrOf, aops, aone, afin, ares, aresL, ares1, aresOk, aresOk1, aop, needs, ext, aev, aconst, aput, aupd, aload, afieldAddr, acmp, ashift, abin, alen, tab_3, tab_9, tab_48, ok1, cellsAs, TI.agg, AV.cells, AV.whole, Option.getD_some, Option.bind_some, Option.map_some, List.set_cons_zero, List.set_cons_succ, List.length_cons, List.length_nil, List.getElem?_cons_zero, List.getElem?_cons_succ, List.getElem?_toArray, List.drop_zero, List.drop_succ_cons, List.take_succ_cons, List.take_zero, List.cons_append, List.nil_append, true_and, and_true, if_true, if_false, Nat.reduceAdd, Nat.reduceLeDiff, Nat.zero_add, Nat.add_zero, decide_true, decide_false, Nat.reduceLeDiff, reduceCtorEq, List.getD_eq_getElem?_getD]
  exact ⟨rfl, rfl, .one (.refl _)⟩
theorem ord_eq (o p : Ord) : (decide (o.a = p.a) && (decide (o.b = p.b) && (decide (o.kind = p.kind) && (decide (o.s = p.s) && (decide (o.t = p.t) && (decide (o.x = p.x) && (decide (o.y = p.y) && (decide (o.z = p.z) && true)))))))) = decide (o = p) := by
  obtain ⟨a, b, k, s, t, x, y, z⟩ := o
  obtain ⟨a', b', k', s', t', x', y', z'⟩ := p
  rw [Bool.eq_iff_iff]; simp
set_option maxRecDepth 100000 in
set_option maxHeartbeats 4000000 in
theorem may_8 (o : Ord) (q1 : 0 ≤ o.a) (q2 : o.a ≤ 1000) (q3 : 1 ≤ o.b) (q4 : o.b ≤ 1000000000) (q5 : 0 ≤ o.kind) (q6 : o.kind ≤ 11) (q7 : (o.s.length : Int) ≤ 100) (q8 : (o.t.length : Int) ≤ 1000) : ASpec Try.prog 34 [encO o] (.bool (mayO o)) := by
  have e : mayO o = decide (o = usedO o) := by simp [mayO, q1, q2, q3, q4, q5, q6, q7, q8]
  rw [e, ← ord_eq]
  refine ⟨⟨_, Try.func34, by kernel_rfl, rfl⟩, ACall.of Try.func34 rfl fun c0 hc0 => ?_⟩; simp only [Try.ntmps34, List.length_cons, List.length_nil, Nat.reduceAdd, Nat.reduceSub, List.replicate_succ, List.replicate_zero, List.cons_append, List.nil_append]; refine Run.god tab_ok follows_ok Try.func34 60 ?_; simp only [encO, q1, q2, q3, q4, q5, q6, q7, q8, eq_self, ↓alts_t, ↓gone_tt, ↓gdone_tt, gslot, drun, adops, adone, places, mayNeed, freeOk, rdOf, AV.id, wrOf, aops, aone, aop, needs, ext, aev, aconst, aput, aupd, aload, afieldAddr, acmp, ashift, abin, alen, tab_3, tab_9, tab_48, ok1, cellsAs, TI.agg, AV.cells, AV.whole, Option.getD_some, Option.bind_some, Option.map_some, List.set_cons_zero, List.set_cons_succ, List.length_cons, List.length_nil, List.getElem?_cons_zero, List.getElem?_cons_succ, List.getElem?_toArray, List.drop_zero, List.drop_succ_cons, List.take_succ_cons, List.take_zero, List.take_nil, List.cons_append, List.nil_append, true_and, and_true, if_true, if_false, Nat.reduceAdd, Nat.reduceLeDiff, Nat.zero_add, Nat.add_zero, Bool.and_true, decide_true, Nat.reduceLeDiff, reduceCtorEq, Nat.le_refl, List.getD_eq_getElem?_getD]
  refine ⟨rfl, ?_⟩
  refine DOps.pure rfl (Wanted.test 23 true true rfl) rfl rfl (used_spec o) (by simp only [encO, aev, Option.getD_some, List.getElem?_cons_zero, List.getElem?_cons_succ, List.map_cons, List.map_nil, List.nil_append, List.append_nil, List.getD_eq_getElem?_getD]; (repeat' (first | exact LeL.nil | exact Le1L.nil | exact Le.refl _ | exact Le1.refl _ | exact Le1.nil _ | exact Le1.tok _ _ _ | exact LeR.one (Le.refl _) | apply LeR.tup | apply LeL.cons | apply Le1L.cons | apply Le.agg | apply Le.one | apply LeR.one))) rfl rfl ?_
  refine DOps.god tab_ok follows_ok Try.func34 60 rfl ?_; simp only [Try.results34, encO, eq_self, ↓alts_t, ↓gdone_tt, gslot, drun, adops, adone, mayNeed, freeOk, rdOf, wrOf, afin, ares, aresL, ares1, aresOk, aresOk1, aop, needs, aev, aput, aupd, aeqs, abin, tab_48, ok1, Option.getD_some, Option.bind_some, Option.map_some, List.set_cons_zero, List.set_cons_succ, List.getElem?_cons_zero, List.getElem?_cons_succ, List.getElem?_toArray, List.cons_append, List.nil_append, true_and, and_true, if_true, if_false, Nat.reduceAdd, Bool.and_true, reduceCtorEq, List.getD_eq_getElem?_getD]
  exact ⟨rfl, .one (.refl _)⟩
theorem may_spec (o : Ord) : ASpec Try.prog 34 [encO o] (.bool (mayO o)) :=
  if q1 : 0 ≤ o.a then
  if q2 : o.a ≤ 1000 then
  if q3 : 1 ≤ o.b then
  if q4 : o.b ≤ 1000000000 then
  if q5 : 0 ≤ o.kind then
  if q6 : o.kind ≤ 11 then
  if q7 : (o.s.length : Int) ≤ 100 then
  if q8 : (o.t.length : Int) ≤ 1000 then
  may_8 o q1 q2 q3 q4 q5 q6 q7 q8
  else may_7 o q1 q2 q3 q4 q5 q6 q7 q8
  else may_6 o q1 q2 q3 q4 q5 q6 q7
  else may_5 o q1 q2 q3 q4 q5 q6
  else may_4 o q1 q2 q3 q4 q5
  else may_3 o q1 q2 q3 q4
  else may_2 o q1 q2 q3
  else may_1 o q1 q2
  else may_0 o q1
end Go.Proofs.Ytpigfpnpabnnbaa
