/-
  A live question on leases, told by its shadow.
-/
import Derived.Test.YthboeilpeggpoaaLg
import Derived.Test.YthboeilpeggpoaaLp
namespace Go.Proofs.Ythboeilpeggpoaa
open Go.RowKit
set_option maxRecDepth 20000 in
theorem alive10_spec : ASpec Try.prog 36 [] (.bool true) := by
  have e1 : openB ⟨0, []⟩ 7 3 = (⟨0, [⟨7, 3, 3⟩]⟩, 0) := by decide
  have e2 : tickB ⟨0, [⟨7, 3, 3⟩]⟩ 2 = (⟨2, [⟨7, 3, 3⟩]⟩, [], 0) := by decide
  have e3 : tickB ⟨2, [⟨7, 3, 3⟩]⟩ 3 = (⟨3, []⟩, [7], 0) := by decide
  have s1 : sortedS [⟨7, 3, 3⟩] := List.pairwise_singleton _ _
  have n := new10_spec
  have o := open_spec ⟨0, []⟩ 7 3 List.Pairwise.nil (by simp) (by simp)
  have t1 := tick_spec ⟨0, [⟨7, 3, 3⟩]⟩ 2 (by simp)
  have t2 := tick_spec ⟨2, [⟨7, 3, 3⟩]⟩ 3 (by simp)
  have h1 := has_spec ⟨2, [⟨7, 3, 3⟩]⟩ 7 s1 (by simp)
  have h2 := has_spec ⟨3, []⟩ 7 List.Pairwise.nil (by simp)
  rw [e1] at o
  rw [e2] at t1
  rw [e3] at t2
  rw [show hasL (Bk.l ⟨2, [⟨7, 3, 3⟩]⟩) 7 = true by decide] at h1
  rw [show hasL (Bk.l ⟨3, []⟩) 7 = false by decide] at h2
  simp only [openAV, tickAV, encB, sesA, sesC, intsA, intC, List.map_cons, List.map_nil] at n o t1 t2 h1 h2
  refine ⟨⟨_, Try.func36, by kernel_rfl, rfl⟩, ACall.of Try.func36 rfl fun c0 hc0 => ?_⟩; simp only [Try.ntmps36, List.length_nil, Nat.reduceSub, List.replicate_succ, List.replicate_zero, List.nil_append]; refine Run.god tab_ok follows_ok Try.func36 60 ?_; simp only [drun, aops, aone, aop, needs, ext, aev, aconst, aput, aupd, ok1, List.set_cons_zero, List.nil_append, true_and, if_false, reduceCtorEq]
  refine Ops.pure .free rfl rfl (n) (by simp only [List.map_nil, List.append_nil]; (repeat' (first | exact LeL.nil | exact Le1L.nil | exact Le.refl _ | exact Le1.refl _ | exact Le1.nil _ | exact Le1.tok _ _ _ | exact LeR.one (Le.refl _) | apply LeR.tup | apply LeL.cons | apply Le1L.cons | apply Le.agg | apply Le.one | apply LeR.one))) rfl rfl ?_
  refine Ops.god tab_ok follows_ok Try.func36 60 ?_; simp only [aops, aone, aop, aput, List.set_cons_zero, List.set_cons_succ, Nat.zero_add]
  refine Ops.pure .free rfl rfl (o) (by simp only [aev, aconst, Option.getD_some, List.getElem?_cons_zero, List.getElem?_cons_succ, List.map_cons, List.map_nil, List.nil_append, List.append_nil, List.getD_eq_getElem?_getD]; (repeat' (first | exact LeL.nil | exact Le1L.nil | exact Le.refl _ | exact Le1.refl _ | exact Le1.nil _ | exact Le1.tok _ _ _ | exact LeR.one (Le.refl _) | apply LeR.tup | apply LeL.cons | apply Le1L.cons | apply Le.agg | apply Le.one | apply LeR.one))) rfl rfl ?_
  refine Ops.god tab_ok follows_ok Try.func36 60 ?_; simp only [eq_self, drun, aops, aone, aop, needs, ext, aev, aput, aupd, aload, astore, tab_55, ok1, lay, cellsAs, TI.agg, AV.cells, AV.whole, Option.getD_some, Option.bind_some, Option.map_some, List.set_cons_zero, List.set_cons_succ, List.length_cons, List.length_nil, List.getElem?_cons_zero, List.getElem?_cons_succ, List.drop_zero, List.drop_succ_cons, List.take_succ_cons, List.take_zero, List.take_nil, List.drop_nil, List.cons_append, List.nil_append, List.append_nil, true_and, and_true, if_true, if_false, Nat.reduceAdd, Nat.zero_add, reduceCtorEq, Nat.le_refl, List.getD_eq_getElem?_getD]
  ((repeat' (apply And.intro)) <;> try (first | rfl | omega | (unfold I64; omega)))
  refine Ops.pure .free rfl rfl (t1) (by simp only [aev, aconst, Option.getD_some, List.getElem?_cons_zero, List.getElem?_cons_succ, List.map_cons, List.map_nil, List.nil_append, List.append_nil, List.getD_eq_getElem?_getD]; (repeat' (first | exact LeL.nil | exact Le1L.nil | exact Le.refl _ | exact Le1.refl _ | exact Le1.nil _ | exact Le1.tok _ _ _ | exact LeR.one (Le.refl _) | apply LeR.tup | apply LeL.cons | apply Le1L.cons | apply Le.agg | apply Le.one | apply LeR.one))) rfl rfl ?_
  refine Ops.god tab_ok follows_ok Try.func36 60 ?_; simp only [eq_self, drun, aops, aone, aop, needs, ext, aev, aput, aupd, aload, astore, tab_55, ok1, lay, cellsAs, TI.agg, AV.cells, AV.whole, Option.getD_some, Option.bind_some, Option.map_some, List.set_cons_zero, List.set_cons_succ, List.length_cons, List.length_nil, List.getElem?_cons_zero, List.getElem?_cons_succ, List.drop_zero, List.drop_succ_cons, List.take_succ_cons, List.take_zero, List.take_nil, List.drop_nil, List.cons_append, List.nil_append, List.append_nil, true_and, and_true, if_true, if_false, Nat.reduceAdd, Nat.zero_add, reduceCtorEq, Nat.le_refl, List.getD_eq_getElem?_getD]
  ((repeat' (apply And.intro)) <;> try (first | rfl | omega | (unfold I64; omega)))
  refine Ops.pure .free rfl rfl (t2) (by simp only [aev, aconst, Option.getD_some, List.getElem?_cons_zero, List.getElem?_cons_succ, List.map_cons, List.map_nil, List.nil_append, List.append_nil, List.getD_eq_getElem?_getD]; (repeat' (first | exact LeL.nil | exact Le1L.nil | exact Le.refl _ | exact Le1.refl _ | exact Le1.nil _ | exact Le1.tok _ _ _ | exact LeR.one (Le.refl _) | apply LeR.tup | apply LeL.cons | apply Le1L.cons | apply Le.agg | apply Le.one | apply LeR.one))) rfl rfl ?_
  refine Ops.god tab_ok follows_ok Try.func36 60 ?_; simp only [eq_self, Int.natCast_zero, ↓alts_t, ↓gone_tt, gslot, drun, aops, aone, aop, needs, ext, aev, aconst, aput, aupd, aload, astore, acmp, ashift, abin, alen, tab_3, tab_27, tab_55, tab_64, ok1, lay, cellsAs, TI.agg, AV.cells, AV.whole, Option.getD_some, Option.bind_some, Option.map_some, List.set_cons_zero, List.set_cons_succ, List.length_cons, List.length_nil, List.getElem?_cons_zero, List.getElem?_cons_succ, List.getElem?_toArray, List.drop_zero, List.drop_succ_cons, List.take_succ_cons, List.take_zero, List.take_nil, List.drop_nil, List.cons_append, List.nil_append, List.append_nil, true_and, and_true, if_true, if_false, Nat.reduceAdd, Nat.zero_add, decide_true, reduceCtorEq, Nat.le_refl, List.getD_eq_getElem?_getD]
  ((repeat' (apply And.intro)) <;> try (first | rfl | omega | (unfold I64; omega)))
  refine Ops.pure (Wanted.test 11 true true rfl) rfl rfl (h1) (by simp only [aev, aconst, Option.getD_some, List.getElem?_cons_zero, List.getElem?_cons_succ, List.map_cons, List.map_nil, List.nil_append, List.append_nil, List.getD_eq_getElem?_getD]; (repeat' (first | exact LeL.nil | exact Le1L.nil | exact Le.refl _ | exact Le1.refl _ | exact Le1.nil _ | exact Le1.tok _ _ _ | exact LeR.one (Le.refl _) | apply LeR.tup | apply LeL.cons | apply Le1L.cons | apply Le.agg | apply Le.one | apply LeR.one))) rfl rfl ?_
  refine Ops.god tab_ok follows_ok Try.func36 60 ?_; simp only [Int.natCast_one, eq_self, ↓alts_t, ↓gone_tt, gslot, aops, aone, aop, needs, ext, aev, aconst, aput, aupd, aload, acmp, ashift, abin, alen, tab_3, tab_55, tab_64, ok1, cellsAs, TI.agg, Option.getD_some, Option.bind_some, Option.map_some, List.set_cons_zero, List.set_cons_succ, List.length_cons, List.length_nil, List.getElem?_cons_zero, List.getElem?_cons_succ, List.getElem?_toArray, List.drop_zero, List.take_succ_cons, List.take_nil, List.cons_append, List.nil_append, true_and, if_true, if_false, Nat.reduceAdd, Nat.zero_add, decide_true, reduceCtorEq, Nat.le_refl, List.getD_eq_getElem?_getD]
  ((repeat' (apply And.intro)) <;> try (first | rfl | omega | (unfold I64; omega)))
  refine Ops.pure (Wanted.test 20 true true rfl) rfl rfl (h2) (by simp only [aev, aconst, Option.getD_some, List.getElem?_cons_zero, List.getElem?_cons_succ, List.map_cons, List.map_nil, List.nil_append, List.append_nil, List.getD_eq_getElem?_getD]; (repeat' (first | exact LeL.nil | exact Le1L.nil | exact Le.refl _ | exact Le1.refl _ | exact Le1.nil _ | exact Le1.tok _ _ _ | exact LeR.one (Le.refl _) | apply LeR.tup | apply LeL.cons | apply Le1L.cons | apply Le.agg | apply Le.one | apply LeR.one))) rfl rfl ?_
  refine Ops.god tab_ok follows_ok Try.func36 60 ?_; simp only [Try.results36, eq_self, ↓alts_t, ↓gone_tt, gslot, drun, aops, aone, afin, ares, aresL, ares1, aresOk, aresOk1, aop, needs, ext, aev, aput, aupd, ok1, Option.getD_some, Option.bind_some, Option.map_some, List.set_cons_zero, List.set_cons_succ, List.getElem?_cons_zero, List.getElem?_cons_succ, List.getElem?_toArray, List.cons_append, List.nil_append, true_and, and_true, if_false, Bool.not_false, reduceCtorEq, List.getD_eq_getElem?_getD]
  (repeat' (first | exact LeL.nil | exact Le1L.nil | exact Le.refl _ | exact Le1.refl _ | exact Le1.nil _ | exact Le1.tok _ _ _ | exact LeR.one (Le.refl _) | apply LeR.tup | apply LeL.cons | apply Le1L.cons | apply Le.agg | apply Le.one | apply LeR.one))
end Go.Proofs.Ythboeilpeggpoaa
