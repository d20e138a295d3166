/-
  Clients: new ones, and what they ask; told by their shadows.
-/
import Derived.Test.YtkamcoechjdgpaaCa
import Derived.Test.YtkamcoechjdgpaaCd
namespace Go.Proofs.Ytkamcoechjdgpaa
open Go.RowKit
structure Ans where
  o : Ord
  x : Rpl
deriving DecidableEq
structure Cl where
  id : Int
  seq : Int
  opn : Bool
  o : Ord
  got : List Giv
  don : List Ans
deriving DecidableEq
def ord0 : Ord := ⟨0, 0, 0, [], [], 0, 0, 0⟩
def ansC (a : Ans) : List AV := [.int .i64 a.o.a, .int .i64 a.o.b, .int .i64 a.o.kind, .str a.o.s, .str a.o.t, .int .i64 a.o.x, .int .i64 a.o.y, .int .i64 a.o.z, .int .i64 a.x.a, .int .i64 a.x.b, .int .i64 a.x.e, .str a.x.s, .int .i64 a.x.x, textsA a.x.l]
def ansA (l : List Ans) : AV := .sl 14 (l.map ansC) .no
def encCl (c : Cl) : AV := .agg [.int .i64 c.id, .int .i64 c.seq, .bool c.opn, .int .i64 c.o.a, .int .i64 c.o.b, .int .i64 c.o.kind, .str c.o.s, .str c.o.t, .int .i64 c.o.x, .int .i64 c.o.y, .int .i64 c.o.z, givA c.got, ansA c.don]
def newCl (id : Int) : Cl × Int := if id < 0 ∨ 1000 < id then (⟨0, 0, false, ord0, [], []⟩, 1) else (⟨id, 0, false, ord0, [], []⟩, 0)
def asked (c : Cl) (o : Ord) : Ord := ⟨c.id, c.seq + 1, o.kind, o.s, o.t, o.x, o.y, o.z⟩
def askCl (c : Cl) (o : Ord) : Cl × Ord × Int :=
  if c.opn = true then (c, ord0, 7) else if 1000000000 ≤ c.seq then (c, ord0, 9) else if mayO (asked c o) = true then (⟨c.id, c.seq + 1, true, asked c o, [], c.don⟩, asked c o, 0) else (c, ord0, 1)
def newAV (p : Cl × Int) : AV := .tup [encCl p.1, .int .i64 p.2]
def askAV (p : Cl × Ord × Int) : AV := .tup [encCl p.1, encO p.2.1, .int .i64 p.2.2]
theorem new_spec (id : Int) : ASpec Try.prog 9 [.int .i64 id] (newAV (newCl id)) := by
  unfold newCl
  by_cases g1 : id < 0
  · rw [if_pos (.inl g1)]
    refine ⟨⟨_, Try.func9, by kernel_rfl, rfl⟩, ACall.of Try.func9 rfl fun c0 hc0 => ?_⟩; simp only [Try.ntmps9, List.length_cons, List.length_nil, Nat.reduceAdd, Nat.reduceSub, List.replicate_succ, List.replicate_zero, List.cons_append, List.nil_append]; refine Run.god tab_ok follows_ok Try.func9 60 ?_; simp only [Try.results9, g1, decide_true, eq_self, ↓alt_t, ↓alts_t, ↓gone_ft, gslot, drun, aops, aone, afin, ares, aresL, ares1, aresOk, aresOk1, aop, needs, ext, aev, aconst, aput, aupd, aload, astore, acmp, ashift, abin, abuild, tab_3, tab_33, ok1, lay, cellsAs, TI.agg, AV.cells, AV.whole, Option.getD_some, Option.bind_some, Option.map_some, List.set_cons_zero, List.set_cons_succ, List.length_cons, List.length_nil, List.getElem?_cons_zero, List.getElem?_cons_succ, List.getElem?_toArray, List.drop_zero, List.drop_succ_cons, List.take_succ_cons, List.take_zero, List.take_nil, List.drop_nil, List.map_nil, List.cons_append, List.nil_append, List.append_nil, true_and, and_true, if_true, if_false, Nat.reduceAdd, Nat.zero_add, decide_true, reduceCtorEq, Nat.le_refl, List.getD_eq_getElem?_getD]
    simp only [newAV, encCl, ord0, givA, ansA, List.map_nil]
    (repeat' (first | exact LeL.nil | exact Le1L.nil | exact Le.refl _ | exact Le1.refl _ | exact Le1.nil _ | exact Le1.tok _ _ _ | exact LeR.one (Le.refl _) | apply LeR.tup | apply LeL.cons | apply Le1L.cons | apply Le.agg | apply Le.one | apply LeR.one))
  by_cases g2 : (1000 : Int) < id
  · rw [if_pos (.inr g2)]
    refine ⟨⟨_, Try.func9, by kernel_rfl, rfl⟩, ACall.of Try.func9 rfl fun c0 hc0 => ?_⟩; simp only [Try.ntmps9, List.length_cons, List.length_nil, Nat.reduceAdd, Nat.reduceSub, List.replicate_succ, List.replicate_zero, List.cons_append, List.nil_append]; refine Run.god tab_ok follows_ok Try.func9 60 ?_; simp only [Try.results9, g1, g2, decide_true, decide_false, eq_self, ↓alt_t, ↓alts_f, ↓gone_ff, gslot, drun, aops, aone, afin, ares, aresL, ares1, aresOk, aresOk1, aop, needs, ext, aev, aconst, aput, aupd, aload, astore, acmp, ashift, abin, abuild, tab_3, tab_33, ok1, lay, cellsAs, TI.agg, AV.cells, AV.whole, Option.getD_some, Option.bind_some, Option.map_some, List.set_cons_zero, List.set_cons_succ, List.length_cons, List.length_nil, List.getElem?_cons_zero, List.getElem?_cons_succ, List.getElem?_toArray, List.drop_zero, List.drop_succ_cons, List.take_succ_cons, List.take_zero, List.take_nil, List.drop_nil, List.map_nil, List.cons_append, List.nil_append, List.append_nil, true_and, and_true, if_true, if_false, Nat.reduceAdd, Nat.zero_add, decide_true, decide_false, reduceCtorEq, Nat.le_refl, List.getD_eq_getElem?_getD]
    simp only [newAV, encCl, ord0, givA, ansA, List.map_nil]
    (repeat' (first | exact LeL.nil | exact Le1L.nil | exact Le.refl _ | exact Le1.refl _ | exact Le1.nil _ | exact Le1.tok _ _ _ | exact LeR.one (Le.refl _) | apply LeR.tup | apply LeL.cons | apply Le1L.cons | apply Le.agg | apply Le.one | apply LeR.one))
  rw [if_neg (by omega)]
  refine ⟨⟨_, Try.func9, by kernel_rfl, rfl⟩, ACall.of Try.func9 rfl fun c0 hc0 => ?_⟩; simp only [Try.ntmps9, List.length_cons, List.length_nil, Nat.reduceAdd, Nat.reduceSub, List.replicate_succ, List.replicate_zero, List.cons_append, List.nil_append]; refine Run.god tab_ok follows_ok Try.func9 60 ?_; simp only [Try.results9, g1, g2, decide_false, eq_self, ↓alt_f, ↓alts_f, ↓gone_ff, gslot, drun, aops, aone, afin, ares, aresL, ares1, aresOk, aresOk1, aop, needs, ext, aev, aconst, aput, aupd, aload, astore, acmp, ashift, abin, abuild, tab_3, tab_33, ok1, lay, cellsAs, TI.agg, AV.cells, AV.whole, Option.getD_some, Option.bind_some, Option.map_some, List.set_cons_zero, List.set_cons_succ, List.length_cons, List.length_nil, List.getElem?_cons_zero, List.getElem?_cons_succ, List.getElem?_toArray, List.drop_zero, List.drop_succ_cons, List.take_succ_cons, List.take_zero, List.take_nil, List.drop_nil, List.map_cons, List.map_nil, List.cons_append, List.nil_append, List.append_nil, true_and, and_true, if_true, if_false, Nat.reduceAdd, Nat.reduceLeDiff, Nat.zero_add, decide_false, Nat.reduceLeDiff, reduceCtorEq, Nat.le_refl, List.getD_eq_getElem?_getD]
  simp only [newAV, encCl, ord0, givA, ansA, List.map_nil]
  (repeat' (first | exact LeL.nil | exact Le1L.nil | exact Le.refl _ | exact Le1.refl _ | exact Le1.nil _ | exact Le1.tok _ _ _ | exact LeR.one (Le.refl _) | apply LeR.tup | apply LeL.cons | apply Le1L.cons | apply Le.agg | apply Le.one | apply LeR.one))
set_option maxRecDepth 20000 in
set_option maxHeartbeats 2000000 in
theorem ask_spec (c : Cl) (o : Ord) (hc : 0 ≤ c.seq ∧ c.seq ≤ 1000000000) : ASpec Try.prog 14 [encCl c, encO o] (askAV (askCl c o)) := by
  have hm := may_spec (asked c o)
  obtain ⟨id, seq, opn, co, got, don⟩ := c
  simp only [asked] at hc hm
  unfold askCl
  simp only [asked]
  cases opn with
  | true =>
    rw [if_pos rfl]
    refine ⟨⟨_, Try.func14, by kernel_rfl, rfl⟩, ACall.of Try.func14 rfl fun c0 hc0 => ?_⟩; simp only [Try.ntmps14, List.length_cons, List.length_nil, Nat.reduceAdd, Nat.reduceSub, List.replicate_succ, List.replicate_zero, List.cons_append, List.nil_append]; refine Run.god tab_ok follows_ok Try.func14 60 ?_; simp only [Try.results14, encCl, encO, givA, ansA, eq_self, ↓alt_t, drun, adops, adone, places, mayNeed, freeOk, rdOf, AV.id, wrOf, aops, aone, afin, ares, aresL, ares1, aresOk, aresOk1, aop, needs, ext, aev, aconst, aput, aupd, aload, astore, afieldAddr, acmp, aarith, ashift, abin, abuild, tab_3, tab_4, tab_29, tab_33, ok1, lay, cellsAs, TI.agg, AV.cells, AV.whole, Option.getD_some, Option.bind_some, Option.map_some, List.set_cons_zero, List.set_cons_succ, List.length_cons, List.length_nil, List.getElem?_cons_zero, List.getElem?_cons_succ, List.drop_zero, List.drop_succ_cons, List.take_succ_cons, List.take_zero, List.take_nil, List.drop_nil, List.map_nil, List.cons_append, List.nil_append, List.append_nil, true_and, and_true, if_true, if_false, Nat.reduceAdd, Nat.reduceLeDiff, Nat.zero_add, Nat.add_zero, Nat.reduceLeDiff, reduceCtorEq, Nat.le_refl, List.getD_eq_getElem?_getD]
    ((repeat' (apply And.intro)) <;> try (first | rfl | omega | (unfold I64; omega)))
    simp only [askAV, encCl, encO, ord0, givA, ansA]
    (repeat' (first | exact LeL.nil | exact Le1L.nil | exact Le.refl _ | exact Le1.refl _ | exact Le1.nil _ | exact Le1.tok _ _ _ | exact LeR.one (Le.refl _) | apply LeR.tup | apply LeL.cons | apply Le1L.cons | apply Le.agg | apply Le.one | apply LeR.one))
  | false =>
    rw [if_neg (by simp)]
    by_cases g1 : (1000000000 : Int) ≤ seq
    · rw [if_pos g1]
      refine ⟨⟨_, Try.func14, by kernel_rfl, rfl⟩, ACall.of Try.func14 rfl fun c0 hc0 => ?_⟩; simp only [Try.ntmps14, List.length_cons, List.length_nil, Nat.reduceAdd, Nat.reduceSub, List.replicate_succ, List.replicate_zero, List.cons_append, List.nil_append]; refine Run.god tab_ok follows_ok Try.func14 60 ?_; simp only [Try.results14, encCl, encO, givA, ansA, g1, decide_true, eq_self, ↓alt_t, ↓alt_f, drun, adops, adone, places, mayNeed, freeOk, rdOf, AV.id, wrOf, aops, aone, afin, ares, aresL, ares1, aresOk, aresOk1, aop, needs, ext, aev, aconst, aput, aupd, aload, astore, afieldAddr, acmp, aarith, ashift, abin, abuild, tab_3, tab_4, tab_29, tab_33, ok1, lay, cellsAs, TI.agg, AV.cells, AV.whole, Option.getD_some, Option.bind_some, Option.map_some, List.set_cons_zero, List.set_cons_succ, List.length_cons, List.length_nil, List.getElem?_cons_zero, List.getElem?_cons_succ, List.drop_zero, List.drop_succ_cons, List.take_succ_cons, List.take_zero, List.take_nil, List.drop_nil, List.map_nil, List.cons_append, List.nil_append, List.append_nil, true_and, and_true, if_true, if_false, Nat.reduceAdd, Nat.reduceLeDiff, Nat.zero_add, Nat.add_zero, decide_true, Nat.reduceLeDiff, reduceCtorEq, Nat.le_refl, List.getD_eq_getElem?_getD]
      ((repeat' (apply And.intro)) <;> try (first | rfl | omega | (unfold I64; omega)))
      simp only [askAV, encCl, encO, ord0, givA, ansA]
      (repeat' (first | exact LeL.nil | exact Le1L.nil | exact Le.refl _ | exact Le1.refl _ | exact Le1.nil _ | exact Le1.tok _ _ _ | exact LeR.one (Le.refl _) | apply LeR.tup | apply LeL.cons | apply Le1L.cons | apply Le.agg | apply Le.one | apply LeR.one))
    rw [if_neg g1]
    by_cases hM : mayO ⟨id, seq + 1, o.kind, o.s, o.t, o.x, o.y, o.z⟩ = true
    · simp only [hM, reduceIte]
      rw [hM] at hm
      refine ⟨⟨_, Try.func14, by kernel_rfl, rfl⟩, ACall.of Try.func14 rfl fun c0 hc0 => ?_⟩; simp only [Try.ntmps14, List.length_cons, List.length_nil, Nat.reduceAdd, Nat.reduceSub, List.replicate_succ, List.replicate_zero, List.cons_append, List.nil_append]; refine Run.god tab_ok follows_ok Try.func14 60 ?_; simp only [encCl, encO, givA, ansA, g1, decide_false, eq_self, ↓alt_f, drun, adops, adone, places, mayNeed, freeOk, rdOf, AV.id, wrOf, aops, aone, aop, needs, ext, aev, aconst, aput, aupd, aload, astore, afieldAddr, acmp, aarith, ashift, abin, tab_3, tab_4, tab_29, tab_33, ok1, lay, cellsAs, TI.agg, AV.cells, AV.whole, Option.getD_some, Option.bind_some, Option.map_some, List.set_cons_zero, List.set_cons_succ, List.length_cons, List.length_nil, List.getElem?_cons_zero, List.getElem?_cons_succ, List.drop_zero, List.drop_succ_cons, List.take_succ_cons, List.take_zero, List.take_nil, List.cons_append, List.nil_append, List.append_nil, true_and, and_true, if_true, if_false, Nat.reduceAdd, Nat.reduceLeDiff, Nat.zero_add, Nat.add_zero, decide_false, Nat.reduceLeDiff, reduceCtorEq, Nat.le_refl, List.getD_eq_getElem?_getD]
      ((repeat' (apply And.intro)) <;> try (first | rfl | omega | (unfold I64; omega)))
      refine Ops.pure .free rfl rfl (hm) (by simp only [encO, aev, Option.getD_some, List.getElem?_cons_zero, List.getElem?_cons_succ, List.map_cons, List.map_nil, List.nil_append, List.append_nil, List.getD_eq_getElem?_getD]; (repeat' (first | exact LeL.nil | exact Le1L.nil | exact Le.refl _ | exact Le1.refl _ | exact Le1.nil _ | exact Le1.tok _ _ _ | exact LeR.one (Le.refl _) | apply LeR.tup | apply LeL.cons | apply Le1L.cons | apply Le.agg | apply Le.one | apply LeR.one))) rfl rfl ?_
      refine Ops.god tab_ok follows_ok Try.func14 60 ?_; simp only [Try.results14, eq_self, ↓alt_f, drun, adops, adone, places, mayNeed, freeOk, rdOf, AV.id, wrOf, aops, aone, afin, ares, aresL, ares1, aresOk, aresOk1, aop, needs, ext, aev, aconst, aput, aupd, aload, astore, afieldAddr, tab_3, tab_4, tab_29, tab_30, tab_33, ok1, lay, cellsAs, TI.agg, AV.cells, AV.whole, Option.getD_some, Option.bind_some, Option.map_some, List.set_cons_zero, List.set_cons_succ, List.length_cons, List.length_nil, List.getElem?_cons_zero, List.getElem?_cons_succ, List.drop_zero, List.drop_succ_cons, List.take_succ_cons, List.take_zero, List.take_nil, List.drop_nil, List.cons_append, List.nil_append, List.append_nil, true_and, and_true, if_true, if_false, Nat.reduceAdd, Nat.reduceLeDiff, Nat.zero_add, Bool.not_true, Nat.reduceLeDiff, reduceCtorEq, Nat.le_refl, List.getD_eq_getElem?_getD]
      ((repeat' (apply And.intro)) <;> try (first | rfl | omega | (unfold I64; omega)))
      simp only [askAV, encCl, encO, givA, ansA]
      (repeat' (first | exact LeL.nil | exact Le1L.nil | exact Le.refl _ | exact Le1.refl _ | exact Le1.nil _ | exact Le1.tok _ _ _ | exact LeR.one (Le.refl _) | apply LeR.tup | apply LeL.cons | apply Le1L.cons | apply Le.agg | apply Le.one | apply LeR.one))
    · rw [Bool.not_eq_true] at hM
      simp only [hM, Bool.false_eq_true, reduceIte]
      rw [hM] at hm
      refine ⟨⟨_, Try.func14, by kernel_rfl, rfl⟩, ACall.of Try.func14 rfl fun c0 hc0 => ?_⟩; simp only [Try.ntmps14, List.length_cons, List.length_nil, Nat.reduceAdd, Nat.reduceSub, List.replicate_succ, List.replicate_zero, List.cons_append, List.nil_append]; refine Run.god tab_ok follows_ok Try.func14 60 ?_; simp only [encCl, encO, givA, ansA, g1, decide_false, eq_self, ↓alt_f, drun, adops, adone, places, mayNeed, freeOk, rdOf, AV.id, wrOf, aops, aone, aop, needs, ext, aev, aconst, aput, aupd, aload, astore, afieldAddr, acmp, aarith, ashift, abin, tab_3, tab_4, tab_29, tab_33, ok1, lay, cellsAs, TI.agg, AV.cells, AV.whole, Option.getD_some, Option.bind_some, Option.map_some, List.set_cons_zero, List.set_cons_succ, List.length_cons, List.length_nil, List.getElem?_cons_zero, List.getElem?_cons_succ, List.drop_zero, List.drop_succ_cons, List.take_succ_cons, List.take_zero, List.take_nil, List.cons_append, List.nil_append, List.append_nil, true_and, and_true, if_true, if_false, Nat.reduceAdd, Nat.reduceLeDiff, Nat.zero_add, Nat.add_zero, decide_false, Nat.reduceLeDiff, reduceCtorEq, Nat.le_refl, List.getD_eq_getElem?_getD]
      ((repeat' (apply And.intro)) <;> try (first | rfl | omega | (unfold I64; omega)))
      refine Ops.pure .free rfl rfl (hm) (by simp only [encO, aev, Option.getD_some, List.getElem?_cons_zero, List.getElem?_cons_succ, List.map_cons, List.map_nil, List.nil_append, List.append_nil, List.getD_eq_getElem?_getD]; (repeat' (first | exact LeL.nil | exact Le1L.nil | exact Le.refl _ | exact Le1.refl _ | exact Le1.nil _ | exact Le1.tok _ _ _ | exact LeR.one (Le.refl _) | apply LeR.tup | apply LeL.cons | apply Le1L.cons | apply Le.agg | apply Le.one | apply LeR.one))) rfl rfl ?_
      refine Ops.god tab_ok follows_ok Try.func14 60 ?_; simp only [Try.results14, eq_self, ↓alt_t, drun, aops, aone, afin, ares, aresL, ares1, aresOk, aresOk1, aop, needs, ext, aev, aconst, aput, aupd, aload, astore, abuild, tab_29, tab_33, ok1, lay, cellsAs, TI.agg, AV.cells, AV.whole, Option.getD_some, Option.bind_some, Option.map_some, List.set_cons_zero, List.set_cons_succ, List.length_cons, List.length_nil, List.getElem?_cons_zero, List.getElem?_cons_succ, List.drop_zero, List.drop_succ_cons, List.take_succ_cons, List.take_zero, List.take_nil, List.drop_nil, List.map_nil, List.cons_append, List.nil_append, List.append_nil, true_and, and_true, if_true, if_false, Nat.reduceAdd, Nat.zero_add, Bool.not_false, reduceCtorEq, Nat.le_refl, List.getD_eq_getElem?_getD]
      ((repeat' (apply And.intro)) <;> try (first | rfl | omega | (unfold I64; omega)))
      simp only [askAV, encCl, encO, ord0, givA, ansA]
      (repeat' (first | exact LeL.nil | exact Le1L.nil | exact Le.refl _ | exact Le1.refl _ | exact Le1.nil _ | exact Le1.tok _ _ _ | exact LeR.one (Le.refl _) | apply LeR.tup | apply LeL.cons | apply Le1L.cons | apply Le.agg | apply Le.one | apply LeR.one))
end Go.Proofs.Ytkamcoechjdgpaa
