/-
  The document's Same.
-/
import Derived.Test.YthboeilpeggpoaaDx
namespace Go.Proofs.Ythboeilpeggpoaa
open Go.RowKit
theorem same_bools (d e : DD) : sameB d e = (decide (d.cap = e.cap) && (decide (d.safe = e.safe) && (decide (d.loose = e.loose) && ((d.down == e.down) && decide (max d.fuse (-1) = max e.fuse (-1)))))) := by
  unfold sameB; rw [Bool.eq_iff_iff]; simp only [decide_eq_true_eq, Bool.and_eq_true, beq_iff_eq]
  exact ⟨fun ⟨a, b, c, d, e⟩ => ⟨a, d, e, b, c⟩, fun ⟨a, d, e, b, c⟩ => ⟨a, b, c, d, e⟩⟩
set_option maxRecDepth 100000 in
set_option maxHeartbeats 4000000 in
theorem rsame_f1c1 (d e : DD) (hf : d.fuse = e.fuse) (hc : ¬ d.cap = e.cap) : ASpec Try.prog 21 [encD d, encD e] (.bool (sameB d e)) := by
  have hm : max d.fuse (-1) = max e.fuse (-1) := by omega
  rw [same_bools]
  simp only [hf, hc, decide_true, decide_false, Bool.false_and]
  refine ⟨⟨_, Try.func21, by kernel_rfl, rfl⟩, ACall.of Try.func21 rfl fun c0 hc0 => ?_⟩; simp only [Try.ntmps21, List.length_cons, List.length_nil, Nat.reduceAdd, Nat.reduceSub, List.replicate_succ, List.replicate_zero, List.cons_append, List.nil_append]; refine Run.god tab_ok follows_ok Try.func21 60 ?_; simp only [Try.results21, encD, bytesA, hf, hc, decide_true, decide_false, eq_self, ↓alt_f, beq_true, beq_false, drun, aops, aone, afin, ares, aresL, ares1, aresOk, aresOk1, aop, needs, ext, aev, aconst, aput, aupd, aload, afieldAddr, acmp, ashift, abin, gval, tab_3, tab_30, ok1, cellsAs, TI.agg, AV.cells, AV.whole, Option.getD_some, Option.bind_some, Option.map_some, List.set_cons_zero, List.set_cons_succ, List.length_cons, List.length_nil, List.getElem?_cons_zero, List.getElem?_cons_succ, List.getElem?_toArray, List.drop_zero, List.drop_succ_cons, List.take_succ_cons, List.take_zero, List.take_nil, List.cons_append, List.nil_append, true_and, and_true, if_true, if_false, Nat.reduceAdd, Nat.reduceLeDiff, Nat.zero_add, Nat.add_zero, Bool.not_true, decide_true, decide_false, Nat.reduceLeDiff, reduceCtorEq, Nat.le_refl, List.getD_eq_getElem?_getD]
  exact .one (.refl _)
set_option maxRecDepth 100000 in
set_option maxHeartbeats 4000000 in
theorem rsame_f1c2 (d e : DD) (hf : d.fuse = e.fuse) (hc : d.cap = e.cap) (hs : ¬ d.safe = e.safe) : ASpec Try.prog 21 [encD d, encD e] (.bool (sameB d e)) := by
  have hm : max d.fuse (-1) = max e.fuse (-1) := by omega
  rw [same_bools]
  simp only [hf, hc, hs, decide_true, decide_false, Bool.true_and, Bool.false_and]
  refine ⟨⟨_, Try.func21, by kernel_rfl, rfl⟩, ACall.of Try.func21 rfl fun c0 hc0 => ?_⟩; simp only [Try.ntmps21, List.length_cons, List.length_nil, Nat.reduceAdd, Nat.reduceSub, List.replicate_succ, List.replicate_zero, List.cons_append, List.nil_append]; refine Run.god tab_ok follows_ok Try.func21 60 ?_; simp only [Try.results21, encD, bytesA, hf, hc, hs, decide_true, decide_false, eq_self, ↓alt_t, ↓alt_f, bytesOf_map, beq_true, beq_false, drun, aops, aone, afin, ares, aresL, ares1, aresOk, aresOk1, aop, needs, ext, aev, aconst, aput, aupd, aload, afieldAddr, acmp, ashift, abin, aconv, gval, tab_3, tab_5, tab_9, tab_22, tab_30, ok1, cellsAs, TI.agg, AV.cells, AV.whole, Option.getD_some, Option.bind_some, Option.map_some, List.set_cons_zero, List.set_cons_succ, List.length_cons, List.length_nil, List.getElem?_cons_zero, List.getElem?_cons_succ, List.getElem?_toArray, List.drop_zero, List.drop_succ_cons, List.take_succ_cons, List.take_zero, List.take_nil, List.cons_append, List.nil_append, true_and, and_true, if_true, if_false, Nat.reduceAdd, Nat.reduceLeDiff, Nat.zero_add, Nat.add_zero, beq_self_eq_true, Bool.not_true, decide_true, decide_false, Nat.reduceLeDiff, reduceCtorEq, Nat.le_refl, List.getD_eq_getElem?_getD]
  exact .one (.refl _)
set_option maxRecDepth 100000 in
set_option maxHeartbeats 4000000 in
theorem rsame_f1c3 (d e : DD) (hf : d.fuse = e.fuse) (hc : d.cap = e.cap) (hs : d.safe = e.safe) (hl : ¬ d.loose = e.loose) : ASpec Try.prog 21 [encD d, encD e] (.bool (sameB d e)) := by
  have hm : max d.fuse (-1) = max e.fuse (-1) := by omega
  rw [same_bools]
  simp only [hf, hc, hs, hl, decide_true, decide_false, Bool.true_and, Bool.false_and]
  refine ⟨⟨_, Try.func21, by kernel_rfl, rfl⟩, ACall.of Try.func21 rfl fun c0 hc0 => ?_⟩; simp only [Try.ntmps21, List.length_cons, List.length_nil, Nat.reduceAdd, Nat.reduceSub, List.replicate_succ, List.replicate_zero, List.cons_append, List.nil_append]; refine Run.god tab_ok follows_ok Try.func21 60 ?_; simp only [Try.results21, encD, bytesA, hf, hc, hs, hl, decide_true, decide_false, eq_self, ↓alt_t, ↓alt_f, bytesOf_map, beq_true, beq_false, drun, aops, aone, afin, ares, aresL, ares1, aresOk, aresOk1, aop, needs, ext, aev, aconst, aput, aupd, aload, afieldAddr, acmp, ashift, abin, aconv, gval, tab_3, tab_5, tab_9, tab_22, tab_30, ok1, cellsAs, TI.agg, AV.cells, AV.whole, Option.getD_some, Option.bind_some, Option.map_some, List.set_cons_zero, List.set_cons_succ, List.length_cons, List.length_nil, List.getElem?_cons_zero, List.getElem?_cons_succ, List.getElem?_toArray, List.drop_zero, List.drop_succ_cons, List.take_succ_cons, List.take_zero, List.take_nil, List.cons_append, List.nil_append, true_and, and_true, if_true, if_false, Nat.reduceAdd, Nat.reduceLeDiff, Nat.zero_add, Nat.add_zero, beq_self_eq_true, Bool.not_true, decide_true, decide_false, Nat.reduceLeDiff, reduceCtorEq, Nat.le_refl, List.getD_eq_getElem?_getD]
  exact .one (.refl _)
set_option maxRecDepth 100000 in
set_option maxHeartbeats 4000000 in
theorem rsame_f1c4 (d e : DD) (hf : d.fuse = e.fuse) (hc : d.cap = e.cap) (hs : d.safe = e.safe) (hl : d.loose = e.loose) (hd : (d.down == e.down) = false) : ASpec Try.prog 21 [encD d, encD e] (.bool (sameB d e)) := by
  have hm : max d.fuse (-1) = max e.fuse (-1) := by omega
  rw [same_bools]
  simp only [hf, hc, hs, hl, hd, decide_true, Bool.true_and, Bool.false_and]
  refine ⟨⟨_, Try.func21, by kernel_rfl, rfl⟩, ACall.of Try.func21 rfl fun c0 hc0 => ?_⟩; simp only [Try.ntmps21, List.length_cons, List.length_nil, Nat.reduceAdd, Nat.reduceSub, List.replicate_succ, List.replicate_zero, List.cons_append, List.nil_append]; refine Run.god tab_ok follows_ok Try.func21 60 ?_; simp only [Try.results21, encD, bytesA, hf, hc, hs, hl, hd, decide_true, eq_self, ↓alt_t, ↓alt_f, bytesOf_map, beq_true, beq_false, drun, aops, aone, afin, ares, aresL, ares1, aresOk, aresOk1, aop, needs, ext, aev, aconst, aput, aupd, aload, afieldAddr, acmp, ashift, abin, aconv, gval, tab_3, tab_4, tab_5, tab_9, tab_22, tab_30, ok1, cellsAs, TI.agg, AV.cells, AV.whole, Option.getD_some, Option.bind_some, Option.map_some, List.set_cons_zero, List.set_cons_succ, List.length_cons, List.length_nil, List.getElem?_cons_zero, List.getElem?_cons_succ, List.getElem?_toArray, List.drop_zero, List.drop_succ_cons, List.take_succ_cons, List.take_zero, List.take_nil, List.cons_append, List.nil_append, true_and, and_true, if_true, if_false, Nat.reduceAdd, Nat.reduceLeDiff, Nat.zero_add, Nat.add_zero, beq_self_eq_true, Bool.not_true, Bool.not_false, decide_true, Nat.reduceLeDiff, reduceCtorEq, Nat.le_refl, List.getD_eq_getElem?_getD]
  exact .one (.refl _)
set_option maxRecDepth 100000 in
set_option maxHeartbeats 4000000 in
theorem rsame_f1c5 (d e : DD) (hf : d.fuse = e.fuse) (hc : d.cap = e.cap) (hs : d.safe = e.safe) (hl : d.loose = e.loose) (hd : (d.down == e.down) = true) : ASpec Try.prog 21 [encD d, encD e] (.bool (sameB d e)) := by
  have hm : max d.fuse (-1) = max e.fuse (-1) := by omega
  rw [same_bools]
  simp only [hf, hc, hs, hl, hd, decide_true, Bool.true_and]
  refine ⟨⟨_, Try.func21, by kernel_rfl, rfl⟩, ACall.of Try.func21 rfl fun c0 hc0 => ?_⟩; simp only [Try.ntmps21, List.length_cons, List.length_nil, Nat.reduceAdd, Nat.reduceSub, List.replicate_succ, List.replicate_zero, List.cons_append, List.nil_append]; refine Run.god tab_ok follows_ok Try.func21 60 ?_; simp only [Try.results21, encD, bytesA, hf, hc, hs, hl, hd, decide_true, eq_self, ↓alt_t, ↓alt_f, bytesOf_map, beq_false, drun, aops, aone, afin, ares, aresL, ares1, aresOk, aresOk1, aop, needs, ext, aev, aconst, aput, aupd, aload, afieldAddr, acmp, ashift, abin, aconv, gval, tab_3, tab_4, tab_5, tab_9, tab_22, tab_30, ok1, cellsAs, TI.agg, AV.cells, AV.whole, Option.getD_some, Option.bind_some, Option.map_some, List.set_cons_zero, List.set_cons_succ, List.length_cons, List.length_nil, List.getElem?_cons_zero, List.getElem?_cons_succ, List.getElem?_toArray, List.drop_zero, List.drop_succ_cons, List.take_succ_cons, List.take_zero, List.take_nil, List.cons_append, List.nil_append, true_and, and_true, if_true, if_false, Nat.reduceAdd, Nat.reduceLeDiff, Nat.zero_add, Nat.add_zero, beq_self_eq_true, Bool.not_true, decide_true, Nat.reduceLeDiff, reduceCtorEq, Nat.le_refl, List.getD_eq_getElem?_getD]
  exact .one (.refl _)
set_option maxRecDepth 100000 in
set_option maxHeartbeats 4000000 in
theorem rsame_f2c1 (d e : DD) (hf : ¬ d.fuse = e.fuse) (h1 : d.fuse < 0) (h2 : e.fuse < 0) (hc : ¬ d.cap = e.cap) : ASpec Try.prog 21 [encD d, encD e] (.bool (sameB d e)) := by
  have hm : max d.fuse (-1) = max e.fuse (-1) := by omega
  rw [same_bools]
  simp only [hc, hm, decide_true, decide_false, Bool.false_and]
  refine ⟨⟨_, Try.func21, by kernel_rfl, rfl⟩, ACall.of Try.func21 rfl fun c0 hc0 => ?_⟩; simp only [Try.ntmps21, List.length_cons, List.length_nil, Nat.reduceAdd, Nat.reduceSub, List.replicate_succ, List.replicate_zero, List.cons_append, List.nil_append]; refine Run.god tab_ok follows_ok Try.func21 60 ?_; simp only [Try.results21, encD, bytesA, hf, h1, h2, hc, decide_true, decide_false, eq_self, ↓alt_t, ↓alt_f, beq_true, drun, aops, aone, afin, ares, aresL, ares1, aresOk, aresOk1, aop, needs, ext, aev, aconst, aput, aupd, aload, afieldAddr, acmp, ashift, abin, gval, tab_3, tab_30, ok1, cellsAs, TI.agg, AV.cells, AV.whole, Option.getD_some, Option.bind_some, Option.map_some, List.set_cons_zero, List.set_cons_succ, List.length_cons, List.length_nil, List.getElem?_cons_zero, List.getElem?_cons_succ, List.getElem?_toArray, List.drop_zero, List.drop_succ_cons, List.take_succ_cons, List.take_zero, List.take_nil, List.cons_append, List.nil_append, true_and, and_true, if_true, if_false, Nat.reduceAdd, Nat.reduceLeDiff, Nat.zero_add, Nat.add_zero, beq_self_eq_true, decide_true, decide_false, Nat.reduceLeDiff, reduceCtorEq, Nat.le_refl, List.getD_eq_getElem?_getD]
  exact .one (.refl _)
set_option maxRecDepth 100000 in
set_option maxHeartbeats 4000000 in
theorem rsame_f2c2 (d e : DD) (hf : ¬ d.fuse = e.fuse) (h1 : d.fuse < 0) (h2 : e.fuse < 0) (hc : d.cap = e.cap) (hs : ¬ d.safe = e.safe) : ASpec Try.prog 21 [encD d, encD e] (.bool (sameB d e)) := by
  have hm : max d.fuse (-1) = max e.fuse (-1) := by omega
  rw [same_bools]
  simp only [hc, hs, hm, decide_true, decide_false, Bool.true_and, Bool.false_and]
  refine ⟨⟨_, Try.func21, by kernel_rfl, rfl⟩, ACall.of Try.func21 rfl fun c0 hc0 => ?_⟩; simp only [Try.ntmps21, List.length_cons, List.length_nil, Nat.reduceAdd, Nat.reduceSub, List.replicate_succ, List.replicate_zero, List.cons_append, List.nil_append]; refine Run.god tab_ok follows_ok Try.func21 60 ?_; simp only [Try.results21, encD, bytesA, hf, h1, h2, hc, hs, decide_true, decide_false, eq_self, ↓alt_t, ↓alt_f, bytesOf_map, beq_true, drun, aops, aone, afin, ares, aresL, ares1, aresOk, aresOk1, aop, needs, ext, aev, aconst, aput, aupd, aload, afieldAddr, acmp, ashift, abin, aconv, gval, tab_3, tab_5, tab_9, tab_22, tab_30, ok1, cellsAs, TI.agg, AV.cells, AV.whole, Option.getD_some, Option.bind_some, Option.map_some, List.set_cons_zero, List.set_cons_succ, List.length_cons, List.length_nil, List.getElem?_cons_zero, List.getElem?_cons_succ, List.getElem?_toArray, List.drop_zero, List.drop_succ_cons, List.take_succ_cons, List.take_zero, List.take_nil, List.cons_append, List.nil_append, true_and, and_true, if_true, if_false, Nat.reduceAdd, Nat.reduceLeDiff, Nat.zero_add, Nat.add_zero, beq_self_eq_true, decide_true, decide_false, Nat.reduceLeDiff, reduceCtorEq, Nat.le_refl, List.getD_eq_getElem?_getD]
  exact .one (.refl _)
set_option maxRecDepth 100000 in
set_option maxHeartbeats 4000000 in
theorem rsame_f2c3 (d e : DD) (hf : ¬ d.fuse = e.fuse) (h1 : d.fuse < 0) (h2 : e.fuse < 0) (hc : d.cap = e.cap) (hs : d.safe = e.safe) (hl : ¬ d.loose = e.loose) : ASpec Try.prog 21 [encD d, encD e] (.bool (sameB d e)) := by
  have hm : max d.fuse (-1) = max e.fuse (-1) := by omega
  rw [same_bools]
  simp only [hc, hs, hl, hm, decide_true, decide_false, Bool.true_and, Bool.false_and]
  refine ⟨⟨_, Try.func21, by kernel_rfl, rfl⟩, ACall.of Try.func21 rfl fun c0 hc0 => ?_⟩; simp only [Try.ntmps21, List.length_cons, List.length_nil, Nat.reduceAdd, Nat.reduceSub, List.replicate_succ, List.replicate_zero, List.cons_append, List.nil_append]; refine Run.god tab_ok follows_ok Try.func21 60 ?_; simp only [Try.results21, encD, bytesA, hf, h1, h2, hc, hs, hl, decide_true, decide_false, eq_self, ↓alt_t, ↓alt_f, bytesOf_map, beq_true, drun, aops, aone, afin, ares, aresL, ares1, aresOk, aresOk1, aop, needs, ext, aev, aconst, aput, aupd, aload, afieldAddr, acmp, ashift, abin, aconv, gval, tab_3, tab_5, tab_9, tab_22, tab_30, ok1, cellsAs, TI.agg, AV.cells, AV.whole, Option.getD_some, Option.bind_some, Option.map_some, List.set_cons_zero, List.set_cons_succ, List.length_cons, List.length_nil, List.getElem?_cons_zero, List.getElem?_cons_succ, List.getElem?_toArray, List.drop_zero, List.drop_succ_cons, List.take_succ_cons, List.take_zero, List.take_nil, List.cons_append, List.nil_append, true_and, and_true, if_true, if_false, Nat.reduceAdd, Nat.reduceLeDiff, Nat.zero_add, Nat.add_zero, beq_self_eq_true, decide_true, decide_false, Nat.reduceLeDiff, reduceCtorEq, Nat.le_refl, List.getD_eq_getElem?_getD]
  exact .one (.refl _)
set_option maxRecDepth 100000 in
set_option maxHeartbeats 4000000 in
theorem rsame_f2c4 (d e : DD) (hf : ¬ d.fuse = e.fuse) (h1 : d.fuse < 0) (h2 : e.fuse < 0) (hc : d.cap = e.cap) (hs : d.safe = e.safe) (hl : d.loose = e.loose) (hd : (d.down == e.down) = false) : ASpec Try.prog 21 [encD d, encD e] (.bool (sameB d e)) := by
  have hm : max d.fuse (-1) = max e.fuse (-1) := by omega
  rw [same_bools]
  simp only [hc, hs, hl, hd, hm, decide_true, Bool.true_and, Bool.false_and]
  refine ⟨⟨_, Try.func21, by kernel_rfl, rfl⟩, ACall.of Try.func21 rfl fun c0 hc0 => ?_⟩; simp only [Try.ntmps21, List.length_cons, List.length_nil, Nat.reduceAdd, Nat.reduceSub, List.replicate_succ, List.replicate_zero, List.cons_append, List.nil_append]; refine Run.god tab_ok follows_ok Try.func21 60 ?_; simp only [Try.results21, encD, bytesA, hf, h1, h2, hc, hs, hl, hd, decide_true, decide_false, eq_self, ↓alt_t, ↓alt_f, bytesOf_map, beq_true, drun, aops, aone, afin, ares, aresL, ares1, aresOk, aresOk1, aop, needs, ext, aev, aconst, aput, aupd, aload, afieldAddr, acmp, ashift, abin, aconv, gval, tab_3, tab_4, tab_5, tab_9, tab_22, tab_30, ok1, cellsAs, TI.agg, AV.cells, AV.whole, Option.getD_some, Option.bind_some, Option.map_some, List.set_cons_zero, List.set_cons_succ, List.length_cons, List.length_nil, List.getElem?_cons_zero, List.getElem?_cons_succ, List.getElem?_toArray, List.drop_zero, List.drop_succ_cons, List.take_succ_cons, List.take_zero, List.take_nil, List.cons_append, List.nil_append, true_and, and_true, if_true, if_false, Nat.reduceAdd, Nat.reduceLeDiff, Nat.zero_add, Nat.add_zero, beq_self_eq_true, Bool.not_false, decide_true, decide_false, Nat.reduceLeDiff, reduceCtorEq, Nat.le_refl, List.getD_eq_getElem?_getD]
  exact .one (.refl _)
set_option maxRecDepth 100000 in
set_option maxHeartbeats 4000000 in
theorem rsame_f2c5 (d e : DD) (hf : ¬ d.fuse = e.fuse) (h1 : d.fuse < 0) (h2 : e.fuse < 0) (hc : d.cap = e.cap) (hs : d.safe = e.safe) (hl : d.loose = e.loose) (hd : (d.down == e.down) = true) : ASpec Try.prog 21 [encD d, encD e] (.bool (sameB d e)) := by
  have hm : max d.fuse (-1) = max e.fuse (-1) := by omega
  rw [same_bools]
  simp only [hc, hs, hl, hd, hm, decide_true, Bool.true_and]
  refine ⟨⟨_, Try.func21, by kernel_rfl, rfl⟩, ACall.of Try.func21 rfl fun c0 hc0 => ?_⟩; simp only [Try.ntmps21, List.length_cons, List.length_nil, Nat.reduceAdd, Nat.reduceSub, List.replicate_succ, List.replicate_zero, List.cons_append, List.nil_append]; refine Run.god tab_ok follows_ok Try.func21 60 ?_; simp only [Try.results21, encD, bytesA, hf, h1, h2, hc, hs, hl, hd, decide_true, decide_false, eq_self, ↓alt_t, bytesOf_map, drun, aops, aone, afin, ares, aresL, ares1, aresOk, aresOk1, aop, needs, ext, aev, aconst, aput, aupd, aload, afieldAddr, acmp, ashift, abin, aconv, gval, tab_3, tab_4, tab_5, tab_9, tab_22, tab_30, ok1, cellsAs, TI.agg, AV.cells, AV.whole, Option.getD_some, Option.bind_some, Option.map_some, List.set_cons_zero, List.set_cons_succ, List.length_cons, List.length_nil, List.getElem?_cons_zero, List.getElem?_cons_succ, List.getElem?_toArray, List.drop_zero, List.drop_succ_cons, List.take_succ_cons, List.take_zero, List.take_nil, List.cons_append, List.nil_append, true_and, and_true, if_true, if_false, Nat.reduceAdd, Nat.reduceLeDiff, Nat.zero_add, Nat.add_zero, beq_self_eq_true, Bool.not_true, decide_true, decide_false, Nat.reduceLeDiff, reduceCtorEq, Nat.le_refl, List.getD_eq_getElem?_getD]
  exact .one (.refl _)
set_option maxRecDepth 100000 in
set_option maxHeartbeats 4000000 in
theorem rsame_f3c1 (d e : DD) (hf : ¬ d.fuse = e.fuse) (h1 : d.fuse < 0) (h2 : ¬ e.fuse < 0) (hc : ¬ d.cap = e.cap) : ASpec Try.prog 21 [encD d, encD e] (.bool (sameB d e)) := by
  have hm : ¬ max d.fuse (-1) = max e.fuse (-1) := by omega
  rw [same_bools]
  simp only [hc, hm, decide_false, Bool.false_and]
  refine ⟨⟨_, Try.func21, by kernel_rfl, rfl⟩, ACall.of Try.func21 rfl fun c0 hc0 => ?_⟩; simp only [Try.ntmps21, List.length_cons, List.length_nil, Nat.reduceAdd, Nat.reduceSub, List.replicate_succ, List.replicate_zero, List.cons_append, List.nil_append]; refine Run.god tab_ok follows_ok Try.func21 60 ?_; simp only [Try.results21, encD, bytesA, hf, h1, h2, hc, decide_true, decide_false, eq_self, ↓alt_t, ↓alt_f, beq_true, drun, aops, aone, afin, ares, aresL, ares1, aresOk, aresOk1, aop, needs, ext, aev, aconst, aput, aupd, aload, afieldAddr, acmp, ashift, abin, gval, tab_3, tab_30, ok1, cellsAs, TI.agg, AV.cells, AV.whole, Option.getD_some, Option.bind_some, Option.map_some, List.set_cons_zero, List.set_cons_succ, List.length_cons, List.length_nil, List.getElem?_cons_zero, List.getElem?_cons_succ, List.getElem?_toArray, List.drop_zero, List.drop_succ_cons, List.take_succ_cons, List.take_zero, List.take_nil, List.cons_append, List.nil_append, true_and, and_true, if_true, if_false, Nat.reduceAdd, Nat.reduceLeDiff, Nat.zero_add, Nat.add_zero, beq_self_eq_true, decide_true, decide_false, Nat.reduceLeDiff, reduceCtorEq, Nat.le_refl, List.getD_eq_getElem?_getD]
  exact .one (.refl _)
set_option maxRecDepth 100000 in
set_option maxHeartbeats 4000000 in
theorem rsame_f3c2 (d e : DD) (hf : ¬ d.fuse = e.fuse) (h1 : d.fuse < 0) (h2 : ¬ e.fuse < 0) (hc : d.cap = e.cap) (hs : ¬ d.safe = e.safe) : ASpec Try.prog 21 [encD d, encD e] (.bool (sameB d e)) := by
  have hm : ¬ max d.fuse (-1) = max e.fuse (-1) := by omega
  rw [same_bools]
  simp only [hc, hs, hm, decide_true, decide_false, Bool.true_and, Bool.false_and]
  refine ⟨⟨_, Try.func21, by kernel_rfl, rfl⟩, ACall.of Try.func21 rfl fun c0 hc0 => ?_⟩; simp only [Try.ntmps21, List.length_cons, List.length_nil, Nat.reduceAdd, Nat.reduceSub, List.replicate_succ, List.replicate_zero, List.cons_append, List.nil_append]; refine Run.god tab_ok follows_ok Try.func21 60 ?_; simp only [Try.results21, encD, bytesA, hf, h1, h2, hc, hs, decide_true, decide_false, eq_self, ↓alt_t, ↓alt_f, bytesOf_map, beq_true, drun, aops, aone, afin, ares, aresL, ares1, aresOk, aresOk1, aop, needs, ext, aev, aconst, aput, aupd, aload, afieldAddr, acmp, ashift, abin, aconv, gval, tab_3, tab_5, tab_9, tab_22, tab_30, ok1, cellsAs, TI.agg, AV.cells, AV.whole, Option.getD_some, Option.bind_some, Option.map_some, List.set_cons_zero, List.set_cons_succ, List.length_cons, List.length_nil, List.getElem?_cons_zero, List.getElem?_cons_succ, List.getElem?_toArray, List.drop_zero, List.drop_succ_cons, List.take_succ_cons, List.take_zero, List.take_nil, List.cons_append, List.nil_append, true_and, and_true, if_true, if_false, Nat.reduceAdd, Nat.reduceLeDiff, Nat.zero_add, Nat.add_zero, beq_self_eq_true, decide_true, decide_false, Nat.reduceLeDiff, reduceCtorEq, Nat.le_refl, List.getD_eq_getElem?_getD]
  exact .one (.refl _)
set_option maxRecDepth 100000 in
set_option maxHeartbeats 4000000 in
theorem rsame_f3c3 (d e : DD) (hf : ¬ d.fuse = e.fuse) (h1 : d.fuse < 0) (h2 : ¬ e.fuse < 0) (hc : d.cap = e.cap) (hs : d.safe = e.safe) (hl : ¬ d.loose = e.loose) : ASpec Try.prog 21 [encD d, encD e] (.bool (sameB d e)) := by
  have hm : ¬ max d.fuse (-1) = max e.fuse (-1) := by omega
  rw [same_bools]
  simp only [hc, hs, hl, hm, decide_true, decide_false, Bool.true_and, Bool.false_and]
  refine ⟨⟨_, Try.func21, by kernel_rfl, rfl⟩, ACall.of Try.func21 rfl fun c0 hc0 => ?_⟩; simp only [Try.ntmps21, List.length_cons, List.length_nil, Nat.reduceAdd, Nat.reduceSub, List.replicate_succ, List.replicate_zero, List.cons_append, List.nil_append]; refine Run.god tab_ok follows_ok Try.func21 60 ?_; simp only [Try.results21, encD, bytesA, hf, h1, h2, hc, hs, hl, decide_true, decide_false, eq_self, ↓alt_t, ↓alt_f, bytesOf_map, beq_true, drun, aops, aone, afin, ares, aresL, ares1, aresOk, aresOk1, aop, needs, ext, aev, aconst, aput, aupd, aload, afieldAddr, acmp, ashift, abin, aconv, gval, tab_3, tab_5, tab_9, tab_22, tab_30, ok1, cellsAs, TI.agg, AV.cells, AV.whole, Option.getD_some, Option.bind_some, Option.map_some, List.set_cons_zero, List.set_cons_succ, List.length_cons, List.length_nil, List.getElem?_cons_zero, List.getElem?_cons_succ, List.getElem?_toArray, List.drop_zero, List.drop_succ_cons, List.take_succ_cons, List.take_zero, List.take_nil, List.cons_append, List.nil_append, true_and, and_true, if_true, if_false, Nat.reduceAdd, Nat.reduceLeDiff, Nat.zero_add, Nat.add_zero, beq_self_eq_true, decide_true, decide_false, Nat.reduceLeDiff, reduceCtorEq, Nat.le_refl, List.getD_eq_getElem?_getD]
  exact .one (.refl _)
set_option maxRecDepth 100000 in
set_option maxHeartbeats 4000000 in
theorem rsame_f3c4 (d e : DD) (hf : ¬ d.fuse = e.fuse) (h1 : d.fuse < 0) (h2 : ¬ e.fuse < 0) (hc : d.cap = e.cap) (hs : d.safe = e.safe) (hl : d.loose = e.loose) (hd : (d.down == e.down) = false) : ASpec Try.prog 21 [encD d, encD e] (.bool (sameB d e)) := by
  have hm : ¬ max d.fuse (-1) = max e.fuse (-1) := by omega
  rw [same_bools]
  simp only [hc, hs, hl, hd, hm, decide_true, decide_false, Bool.true_and, Bool.false_and]
  refine ⟨⟨_, Try.func21, by kernel_rfl, rfl⟩, ACall.of Try.func21 rfl fun c0 hc0 => ?_⟩; simp only [Try.ntmps21, List.length_cons, List.length_nil, Nat.reduceAdd, Nat.reduceSub, List.replicate_succ, List.replicate_zero, List.cons_append, List.nil_append]; refine Run.god tab_ok follows_ok Try.func21 60 ?_; simp only [Try.results21, encD, bytesA, hf, h1, h2, hc, hs, hl, hd, decide_true, decide_false, eq_self, ↓alt_t, ↓alt_f, bytesOf_map, beq_true, drun, aops, aone, afin, ares, aresL, ares1, aresOk, aresOk1, aop, needs, ext, aev, aconst, aput, aupd, aload, afieldAddr, acmp, ashift, abin, aconv, gval, tab_3, tab_4, tab_5, tab_9, tab_22, tab_30, ok1, cellsAs, TI.agg, AV.cells, AV.whole, Option.getD_some, Option.bind_some, Option.map_some, List.set_cons_zero, List.set_cons_succ, List.length_cons, List.length_nil, List.getElem?_cons_zero, List.getElem?_cons_succ, List.getElem?_toArray, List.drop_zero, List.drop_succ_cons, List.take_succ_cons, List.take_zero, List.take_nil, List.cons_append, List.nil_append, true_and, and_true, if_true, if_false, Nat.reduceAdd, Nat.reduceLeDiff, Nat.zero_add, Nat.add_zero, beq_self_eq_true, Bool.not_false, decide_true, decide_false, Nat.reduceLeDiff, reduceCtorEq, Nat.le_refl, List.getD_eq_getElem?_getD]
  exact .one (.refl _)
set_option maxRecDepth 100000 in
set_option maxHeartbeats 4000000 in
theorem rsame_f3c5 (d e : DD) (hf : ¬ d.fuse = e.fuse) (h1 : d.fuse < 0) (h2 : ¬ e.fuse < 0) (hc : d.cap = e.cap) (hs : d.safe = e.safe) (hl : d.loose = e.loose) (hd : (d.down == e.down) = true) : ASpec Try.prog 21 [encD d, encD e] (.bool (sameB d e)) := by
  have hm : ¬ max d.fuse (-1) = max e.fuse (-1) := by omega
  rw [same_bools]
  simp only [hc, hs, hl, hd, hm, decide_true, decide_false, Bool.true_and]
  refine ⟨⟨_, Try.func21, by kernel_rfl, rfl⟩, ACall.of Try.func21 rfl fun c0 hc0 => ?_⟩; simp only [Try.ntmps21, List.length_cons, List.length_nil, Nat.reduceAdd, Nat.reduceSub, List.replicate_succ, List.replicate_zero, List.cons_append, List.nil_append]; refine Run.god tab_ok follows_ok Try.func21 60 ?_; simp only [Try.results21, encD, bytesA, hf, h1, h2, hc, hs, hl, hd, decide_true, decide_false, eq_self, ↓alt_t, bytesOf_map, drun, aops, aone, afin, ares, aresL, ares1, aresOk, aresOk1, aop, needs, ext, aev, aconst, aput, aupd, aload, afieldAddr, acmp, ashift, abin, aconv, gval, tab_3, tab_4, tab_5, tab_9, tab_22, tab_30, ok1, cellsAs, TI.agg, AV.cells, AV.whole, Option.getD_some, Option.bind_some, Option.map_some, List.set_cons_zero, List.set_cons_succ, List.length_cons, List.length_nil, List.getElem?_cons_zero, List.getElem?_cons_succ, List.getElem?_toArray, List.drop_zero, List.drop_succ_cons, List.take_succ_cons, List.take_zero, List.take_nil, List.cons_append, List.nil_append, true_and, and_true, if_true, if_false, Nat.reduceAdd, Nat.reduceLeDiff, Nat.zero_add, Nat.add_zero, beq_self_eq_true, Bool.not_true, decide_true, decide_false, Nat.reduceLeDiff, reduceCtorEq, Nat.le_refl, List.getD_eq_getElem?_getD]
  exact .one (.refl _)
set_option maxRecDepth 100000 in
set_option maxHeartbeats 4000000 in
theorem rsame_f4c1 (d e : DD) (hf : ¬ d.fuse = e.fuse) (h1 : ¬ d.fuse < 0) (hc : ¬ d.cap = e.cap) : ASpec Try.prog 21 [encD d, encD e] (.bool (sameB d e)) := by
  have hm : ¬ max d.fuse (-1) = max e.fuse (-1) := by omega
  rw [same_bools]
  simp only [hc, hm, decide_false, Bool.false_and]
  refine ⟨⟨_, Try.func21, by kernel_rfl, rfl⟩, ACall.of Try.func21 rfl fun c0 hc0 => ?_⟩; simp only [Try.ntmps21, List.length_cons, List.length_nil, Nat.reduceAdd, Nat.reduceSub, List.replicate_succ, List.replicate_zero, List.cons_append, List.nil_append]; refine Run.god tab_ok follows_ok Try.func21 60 ?_; simp only [Try.results21, encD, bytesA, hf, h1, hc, decide_false, eq_self, ↓alt_t, ↓alt_f, beq_true, drun, aops, aone, afin, ares, aresL, ares1, aresOk, aresOk1, aop, needs, ext, aev, aconst, aput, aupd, aload, afieldAddr, acmp, ashift, abin, gval, tab_3, tab_30, ok1, cellsAs, TI.agg, AV.cells, AV.whole, Option.getD_some, Option.bind_some, Option.map_some, List.set_cons_zero, List.set_cons_succ, List.length_cons, List.length_nil, List.getElem?_cons_zero, List.getElem?_cons_succ, List.getElem?_toArray, List.drop_zero, List.drop_succ_cons, List.take_succ_cons, List.take_zero, List.take_nil, List.cons_append, List.nil_append, true_and, and_true, if_true, if_false, Nat.reduceAdd, Nat.reduceLeDiff, Nat.zero_add, Nat.add_zero, beq_self_eq_true, decide_false, Nat.reduceLeDiff, reduceCtorEq, Nat.le_refl, List.getD_eq_getElem?_getD]
  exact .one (.refl _)
set_option maxRecDepth 100000 in
set_option maxHeartbeats 4000000 in
theorem rsame_f4c2 (d e : DD) (hf : ¬ d.fuse = e.fuse) (h1 : ¬ d.fuse < 0) (hc : d.cap = e.cap) (hs : ¬ d.safe = e.safe) : ASpec Try.prog 21 [encD d, encD e] (.bool (sameB d e)) := by
  have hm : ¬ max d.fuse (-1) = max e.fuse (-1) := by omega
  rw [same_bools]
  simp only [hc, hs, hm, decide_true, decide_false, Bool.true_and, Bool.false_and]
  refine ⟨⟨_, Try.func21, by kernel_rfl, rfl⟩, ACall.of Try.func21 rfl fun c0 hc0 => ?_⟩; simp only [Try.ntmps21, List.length_cons, List.length_nil, Nat.reduceAdd, Nat.reduceSub, List.replicate_succ, List.replicate_zero, List.cons_append, List.nil_append]; refine Run.god tab_ok follows_ok Try.func21 60 ?_; simp only [Try.results21, encD, bytesA, hf, h1, hc, hs, decide_true, decide_false, eq_self, ↓alt_t, ↓alt_f, bytesOf_map, beq_true, drun, aops, aone, afin, ares, aresL, ares1, aresOk, aresOk1, aop, needs, ext, aev, aconst, aput, aupd, aload, afieldAddr, acmp, ashift, abin, aconv, gval, tab_3, tab_5, tab_9, tab_22, tab_30, ok1, cellsAs, TI.agg, AV.cells, AV.whole, Option.getD_some, Option.bind_some, Option.map_some, List.set_cons_zero, List.set_cons_succ, List.length_cons, List.length_nil, List.getElem?_cons_zero, List.getElem?_cons_succ, List.getElem?_toArray, List.drop_zero, List.drop_succ_cons, List.take_succ_cons, List.take_zero, List.take_nil, List.cons_append, List.nil_append, true_and, and_true, if_true, if_false, Nat.reduceAdd, Nat.reduceLeDiff, Nat.zero_add, Nat.add_zero, beq_self_eq_true, decide_true, decide_false, Nat.reduceLeDiff, reduceCtorEq, Nat.le_refl, List.getD_eq_getElem?_getD]
  exact .one (.refl _)
set_option maxRecDepth 100000 in
set_option maxHeartbeats 4000000 in
theorem rsame_f4c3 (d e : DD) (hf : ¬ d.fuse = e.fuse) (h1 : ¬ d.fuse < 0) (hc : d.cap = e.cap) (hs : d.safe = e.safe) (hl : ¬ d.loose = e.loose) : ASpec Try.prog 21 [encD d, encD e] (.bool (sameB d e)) := by
  have hm : ¬ max d.fuse (-1) = max e.fuse (-1) := by omega
  rw [same_bools]
  simp only [hc, hs, hl, hm, decide_true, decide_false, Bool.true_and, Bool.false_and]
  refine ⟨⟨_, Try.func21, by kernel_rfl, rfl⟩, ACall.of Try.func21 rfl fun c0 hc0 => ?_⟩; simp only [Try.ntmps21, List.length_cons, List.length_nil, Nat.reduceAdd, Nat.reduceSub, List.replicate_succ, List.replicate_zero, List.cons_append, List.nil_append]; refine Run.god tab_ok follows_ok Try.func21 60 ?_; simp only [Try.results21, encD, bytesA, hf, h1, hc, hs, hl, decide_true, decide_false, eq_self, ↓alt_t, ↓alt_f, bytesOf_map, beq_true, drun, aops, aone, afin, ares, aresL, ares1, aresOk, aresOk1, aop, needs, ext, aev, aconst, aput, aupd, aload, afieldAddr, acmp, ashift, abin, aconv, gval, tab_3, tab_5, tab_9, tab_22, tab_30, ok1, cellsAs, TI.agg, AV.cells, AV.whole, Option.getD_some, Option.bind_some, Option.map_some, List.set_cons_zero, List.set_cons_succ, List.length_cons, List.length_nil, List.getElem?_cons_zero, List.getElem?_cons_succ, List.getElem?_toArray, List.drop_zero, List.drop_succ_cons, List.take_succ_cons, List.take_zero, List.take_nil, List.cons_append, List.nil_append, true_and, and_true, if_true, if_false, Nat.reduceAdd, Nat.reduceLeDiff, Nat.zero_add, Nat.add_zero, beq_self_eq_true, decide_true, decide_false, Nat.reduceLeDiff, reduceCtorEq, Nat.le_refl, List.getD_eq_getElem?_getD]
  exact .one (.refl _)
set_option maxRecDepth 100000 in
set_option maxHeartbeats 4000000 in
theorem rsame_f4c4 (d e : DD) (hf : ¬ d.fuse = e.fuse) (h1 : ¬ d.fuse < 0) (hc : d.cap = e.cap) (hs : d.safe = e.safe) (hl : d.loose = e.loose) (hd : (d.down == e.down) = false) : ASpec Try.prog 21 [encD d, encD e] (.bool (sameB d e)) := by
  have hm : ¬ max d.fuse (-1) = max e.fuse (-1) := by omega
  rw [same_bools]
  simp only [hc, hs, hl, hd, hm, decide_true, decide_false, Bool.true_and, Bool.false_and]
  refine ⟨⟨_, Try.func21, by kernel_rfl, rfl⟩, ACall.of Try.func21 rfl fun c0 hc0 => ?_⟩; simp only [Try.ntmps21, List.length_cons, List.length_nil, Nat.reduceAdd, Nat.reduceSub, List.replicate_succ, List.replicate_zero, List.cons_append, List.nil_append]; refine Run.god tab_ok follows_ok Try.func21 60 ?_; simp only [Try.results21, encD, bytesA, hf, h1, hc, hs, hl, hd, decide_true, decide_false, eq_self, ↓alt_t, ↓alt_f, bytesOf_map, beq_true, drun, aops, aone, afin, ares, aresL, ares1, aresOk, aresOk1, aop, needs, ext, aev, aconst, aput, aupd, aload, afieldAddr, acmp, ashift, abin, aconv, gval, tab_3, tab_4, tab_5, tab_9, tab_22, tab_30, ok1, cellsAs, TI.agg, AV.cells, AV.whole, Option.getD_some, Option.bind_some, Option.map_some, List.set_cons_zero, List.set_cons_succ, List.length_cons, List.length_nil, List.getElem?_cons_zero, List.getElem?_cons_succ, List.getElem?_toArray, List.drop_zero, List.drop_succ_cons, List.take_succ_cons, List.take_zero, List.take_nil, List.cons_append, List.nil_append, true_and, and_true, if_true, if_false, Nat.reduceAdd, Nat.reduceLeDiff, Nat.zero_add, Nat.add_zero, beq_self_eq_true, Bool.not_false, decide_true, decide_false, Nat.reduceLeDiff, reduceCtorEq, Nat.le_refl, List.getD_eq_getElem?_getD]
  exact .one (.refl _)
set_option maxRecDepth 100000 in
set_option maxHeartbeats 4000000 in
theorem rsame_f4c5 (d e : DD) (hf : ¬ d.fuse = e.fuse) (h1 : ¬ d.fuse < 0) (hc : d.cap = e.cap) (hs : d.safe = e.safe) (hl : d.loose = e.loose) (hd : (d.down == e.down) = true) : ASpec Try.prog 21 [encD d, encD e] (.bool (sameB d e)) := by
  have hm : ¬ max d.fuse (-1) = max e.fuse (-1) := by omega
  rw [same_bools]
  simp only [hc, hs, hl, hd, hm, decide_true, decide_false, Bool.true_and]
  refine ⟨⟨_, Try.func21, by kernel_rfl, rfl⟩, ACall.of Try.func21 rfl fun c0 hc0 => ?_⟩; simp only [Try.ntmps21, List.length_cons, List.length_nil, Nat.reduceAdd, Nat.reduceSub, List.replicate_succ, List.replicate_zero, List.cons_append, List.nil_append]; refine Run.god tab_ok follows_ok Try.func21 60 ?_; simp only [Try.results21, encD, bytesA, hf, h1, hc, hs, hl, hd, decide_true, decide_false, eq_self, ↓alt_t, ↓alt_f, bytesOf_map, beq_true, drun, aops, aone, afin, ares, aresL, ares1, aresOk, aresOk1, aop, needs, ext, aev, aconst, aput, aupd, aload, afieldAddr, acmp, ashift, abin, aconv, gval, tab_3, tab_4, tab_5, tab_9, tab_22, tab_30, ok1, cellsAs, TI.agg, AV.cells, AV.whole, Option.getD_some, Option.bind_some, Option.map_some, List.set_cons_zero, List.set_cons_succ, List.length_cons, List.length_nil, List.getElem?_cons_zero, List.getElem?_cons_succ, List.getElem?_toArray, List.drop_zero, List.drop_succ_cons, List.take_succ_cons, List.take_zero, List.take_nil, List.cons_append, List.nil_append, true_and, and_true, if_true, if_false, Nat.reduceAdd, Nat.reduceLeDiff, Nat.zero_add, Nat.add_zero, beq_self_eq_true, Bool.not_true, decide_true, decide_false, Nat.reduceLeDiff, reduceCtorEq, Nat.le_refl, List.getD_eq_getElem?_getD]
  exact .one (.refl _)
theorem rsame_spec (d e : DD) : ASpec Try.prog 21 [encD d, encD e] (.bool (sameB d e)) := by
  by_cases hc : d.cap = e.cap
  · by_cases hs : d.safe = e.safe
    · by_cases hl : d.loose = e.loose
      · cases hd : (d.down == e.down)
        · exact (if hf : d.fuse = e.fuse then rsame_f1c4 d e hf hc hs hl hd else if h1 : d.fuse < 0 then (if h2 : e.fuse < 0 then rsame_f2c4 d e hf h1 h2 hc hs hl hd else rsame_f3c4 d e hf h1 h2 hc hs hl hd) else rsame_f4c4 d e hf h1 hc hs hl hd)
        · exact (if hf : d.fuse = e.fuse then rsame_f1c5 d e hf hc hs hl hd else if h1 : d.fuse < 0 then (if h2 : e.fuse < 0 then rsame_f2c5 d e hf h1 h2 hc hs hl hd else rsame_f3c5 d e hf h1 h2 hc hs hl hd) else rsame_f4c5 d e hf h1 hc hs hl hd)
      · exact (if hf : d.fuse = e.fuse then rsame_f1c3 d e hf hc hs hl else if h1 : d.fuse < 0 then (if h2 : e.fuse < 0 then rsame_f2c3 d e hf h1 h2 hc hs hl else rsame_f3c3 d e hf h1 h2 hc hs hl) else rsame_f4c3 d e hf h1 hc hs hl)
    · exact (if hf : d.fuse = e.fuse then rsame_f1c2 d e hf hc hs else if h1 : d.fuse < 0 then (if h2 : e.fuse < 0 then rsame_f2c2 d e hf h1 h2 hc hs else rsame_f3c2 d e hf h1 h2 hc hs) else rsame_f4c2 d e hf h1 hc hs)
  · exact (if hf : d.fuse = e.fuse then rsame_f1c1 d e hf hc else if h1 : d.fuse < 0 then (if h2 : e.fuse < 0 then rsame_f2c1 d e hf h1 h2 hc else rsame_f3c1 d e hf h1 h2 hc) else rsame_f4c1 d e hf h1 hc)
end Go.Proofs.Ythboeilpeggpoaa
