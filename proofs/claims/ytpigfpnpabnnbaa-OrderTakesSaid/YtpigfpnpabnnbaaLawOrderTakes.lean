/-
  OrderTakes, by its shadow.
-/
import Derived.Test.YtpigfpnpabnnbaaPn
import Derived.Test.YtpigfpnpabnnbaaPi
namespace Go.Proofs.Ytpigfpnpabnnbaa
open Go.RowKit
def ordOf : Except Int (Ord × Bytes) → Ord × Bytes × Int
  | .error z => (⟨0, 0, 0, [], [], 0, 0, 0⟩, [], z)
  | .ok (o, r) => (o, r, 0)
def rplOf : Except Int (Rpl × Bytes) → Rpl × Bytes × Int
  | .error z => (⟨0, 0, 0, [], 0, []⟩, [], z)
  | .ok (o, r) => (o, r, 0)
theorem takeOA_of (x : Except Int (Ord × Bytes)) : takeOA x = .tup [encO (ordOf x).1, bytesA (ordOf x).2.1, .int .i64 (ordOf x).2.2] := by
  match x with
  | .error z => rfl
  | .ok (o, r) => rfl
theorem takeRpA_of (x : Except Int (Rpl × Bytes)) : takeRpA x = .tup [encR (rplOf x).1, bytesA (rplOf x).2.1, .int .i64 (rplOf x).2.2] := by
  match x with
  | .error z => rfl
  | .ok (o, r) => rfl
set_option maxRecDepth 20000 in
theorem takes_large (b : Bytes) (h : 4000 < (b.length : Int)) : ASpec Try.prog 11 [bytesA b] (.bool true) := by
  refine ⟨⟨_, Try.func11, by kernel_rfl, rfl⟩, ACall.of Try.func11 rfl fun c0 hc0 => ?_⟩; simp only [Try.ntmps11, List.length_cons, List.length_nil, Nat.reduceAdd, Nat.reduceSub, List.replicate_succ, List.replicate_zero, List.cons_append, List.nil_append]; refine Run.god tab_ok follows_ok Try.func11 60 ?_; simp only [bytesA, h, List.length_map, eq_self, ↓alt_t, drun, aops, aone, aop, needs, ext, aev, aconst, aput, aupd, acmp, ashift, abin, alen, tab_3, tab_23, ok1, Option.getD_some, Option.bind_some, List.set_cons_zero, List.set_cons_succ, List.getElem?_cons_zero, List.getElem?_cons_succ, List.length_map, List.nil_append, true_and, if_true, if_false, decide_true, reduceCtorEq, List.getD_eq_getElem?_getD]
  refine Ops.pure .free rfl rfl (alive12_spec) (by simp only [List.map_nil, List.append_nil]; (repeat' (first | exact LeL.nil | exact Le1L.nil | exact Le.refl _ | exact Le1.refl _ | exact Le1.nil _ | exact Le1.tok _ _ _ | exact LeR.one (Le.refl _) | apply LeR.tup | apply LeL.cons | apply Le1L.cons | apply Le.agg | apply Le.one | apply LeR.one))) rfl rfl ?_
  refine Ops.god tab_ok follows_ok Try.func11 60 ?_; simp only [Try.results11, drun, aops, aone, afin, ares, aresL, ares1, aresOk, aresOk1, aop, needs, ext, aev, aput, aupd, ok1, Option.getD_some, Option.bind_some, Option.map_some, List.set_cons_zero, List.set_cons_succ, List.getElem?_cons_zero, List.getElem?_cons_succ, List.nil_append, true_and, and_true, if_false, reduceCtorEq, List.getD_eq_getElem?_getD]
  (repeat' (first | exact LeL.nil | exact Le1L.nil | exact Le.refl _ | exact Le1.refl _ | exact Le1.nil _ | exact Le1.tok _ _ _ | exact LeR.one (Le.refl _) | apply LeR.tup | apply LeL.cons | apply Le1L.cons | apply Le.agg | apply Le.one | apply LeR.one))
theorem takeTs_small {most : Int} : ∀ (n : Nat) (b : Bytes) (l : List Bytes) (r : Bytes), takeTs most n b = .ok (l, r) → l.length = n
  | 0, b, l, r, h => by simp only [takeTs, Except.ok.injEq, Prod.mk.injEq] at h; rw [← h.1]; rfl
  | n + 1, b, l, r, h => by
    simp only [takeTs] at h
    split at h
    · cases h
    · split at h
      · cases h
      · rename_i h2
        simp only [Except.ok.injEq, Prod.mk.injEq] at h
        rw [← h.1, List.length_cons, takeTs_small n _ _ _ h2]
theorem rplOf_few (b : Bytes) : (rplOf (takeRp b)).1.l.length ≤ 1000000000000 := by
  unfold takeRp
  split
  · simp [rplOf]
  · split
    · simp [rplOf]
    · split
      · simp [rplOf]
      · rename_i h
        split
        · simp [rplOf]
        · simp only [rplOf]
          unfold takeL at h
          split at h
          · cases h
          · split at h
            · cases h
            · rw [takeTs_small _ _ _ _ h]; omega
set_option maxRecDepth 20000 in
set_option maxHeartbeats 2000000 in
theorem takes_small (b : Bytes) (h : ¬ 4000 < (b.length : Int)) : ASpec Try.prog 11 [bytesA b] (.bool true) := by
  have a1 := take12_spec b (by omega)
  have a2 := rtake12_spec b (by omega)
  have a3 := takereply_spec b (by omega)
  have a4 := rtakereply_spec b (by omega)
  have hf := rplOf_few b
  rw [takeOA_of] at a1 a2
  rw [takeRpA_of] at a3 a4
  generalize ordOf (takeO b) = p at a1 a2
  generalize rplOf (takeRp b) = q at a3 a4 hf
  obtain ⟨o, x, e⟩ := p
  obtain ⟨r, u, g⟩ := q
  have o1 := one_spec o
  have t1 := told_spec r
  have s1 := rsame12_spec r r hf
  rw [decide_eq_true rfl] at s1
  refine ⟨⟨_, Try.func11, by kernel_rfl, rfl⟩, ACall.of Try.func11 rfl fun c0 hc0 => ?_⟩; simp only [Try.ntmps11, List.length_cons, List.length_nil, Nat.reduceAdd, Nat.reduceSub, List.replicate_succ, List.replicate_zero, List.cons_append, List.nil_append]; refine Run.god tab_ok follows_ok Try.func11 60 ?_; simp only [bytesA, h, List.length_map, eq_self, ↓alt_f, drun, aops, aone, aop, needs, ext, aev, aconst, aput, aupd, acmp, ashift, abin, alen, tab_3, tab_23, ok1, Option.getD_some, Option.bind_some, List.set_cons_zero, List.set_cons_succ, List.getElem?_cons_zero, List.getElem?_cons_succ, List.length_map, List.nil_append, true_and, if_true, if_false, Nat.zero_add, decide_false, reduceCtorEq, List.getD_eq_getElem?_getD]
  refine Ops.pure .free rfl rfl (a1) (by simp only [bytesA, aev, Option.getD_some, List.getElem?_cons_zero, List.getElem?_cons_succ, List.map_cons, List.map_nil, List.nil_append, List.append_nil, List.getD_eq_getElem?_getD]; (repeat' (first | exact LeL.nil | exact Le1L.nil | exact Le.refl _ | exact Le1.refl _ | exact Le1.nil _ | exact Le1.tok _ _ _ | exact LeR.one (Le.refl _) | apply LeR.tup | apply LeL.cons | apply Le1L.cons | apply Le.agg | apply Le.one | apply LeR.one))) rfl rfl ?_
  refine Ops.god tab_ok follows_ok Try.func11 60 ?_; simp only [encO, bytesA, eq_self, drun, aops, aone, aop, needs, ext, aev, aput, aupd, astore, tab_48, ok1, lay, AV.cells, AV.whole, Option.getD_some, Option.bind_some, Option.map_some, List.set_cons_zero, List.set_cons_succ, List.length_cons, List.length_nil, List.getElem?_cons_zero, List.getElem?_cons_succ, List.drop_succ_cons, List.take_zero, List.drop_nil, List.cons_append, List.nil_append, List.append_nil, true_and, and_true, if_true, if_false, Nat.reduceAdd, Nat.zero_add, reduceCtorEq, Nat.le_refl, List.getD_eq_getElem?_getD]
  refine Ops.pure .free rfl rfl (a2) (by simp only [bytesA, aev, Option.getD_some, List.getElem?_cons_zero, List.getElem?_cons_succ, List.map_cons, List.map_nil, List.nil_append, List.append_nil, List.getD_eq_getElem?_getD]; (repeat' (first | exact LeL.nil | exact Le1L.nil | exact Le.refl _ | exact Le1.refl _ | exact Le1.nil _ | exact Le1.tok _ _ _ | exact LeR.one (Le.refl _) | apply LeR.tup | apply LeL.cons | apply Le1L.cons | apply Le.agg | apply Le.one | apply LeR.one))) rfl rfl ?_
  refine Ops.god tab_ok follows_ok Try.func11 60 ?_; simp only [encO, bytesA, eq_self, drun, aops, aone, aop, needs, ext, aev, aput, aupd, astore, tab_56, ok1, lay, AV.cells, AV.whole, Option.getD_some, Option.bind_some, Option.map_some, List.set_cons_zero, List.set_cons_succ, List.length_cons, List.length_nil, List.getElem?_cons_zero, List.getElem?_cons_succ, List.drop_succ_cons, List.take_zero, List.drop_nil, List.cons_append, List.nil_append, List.append_nil, true_and, and_true, if_true, if_false, Nat.reduceAdd, Nat.zero_add, reduceCtorEq, Nat.le_refl, List.getD_eq_getElem?_getD]
  refine Ops.pure .free rfl rfl (a3) (by simp only [bytesA, aev, Option.getD_some, List.getElem?_cons_zero, List.getElem?_cons_succ, List.map_cons, List.map_nil, List.nil_append, List.append_nil, List.getD_eq_getElem?_getD]; (repeat' (first | exact LeL.nil | exact Le1L.nil | exact Le.refl _ | exact Le1.refl _ | exact Le1.nil _ | exact Le1.tok _ _ _ | exact LeR.one (Le.refl _) | apply LeR.tup | apply LeL.cons | apply Le1L.cons | apply Le.agg | apply Le.one | apply LeR.one))) rfl rfl ?_
  refine Ops.god tab_ok follows_ok Try.func11 60 ?_; simp only [encR, textsA, bytesA, eq_self, drun, aops, aone, aop, needs, ext, aev, aput, aupd, astore, tab_52, ok1, lay, AV.cells, AV.whole, Option.getD_some, Option.bind_some, Option.map_some, List.set_cons_zero, List.set_cons_succ, List.length_cons, List.length_nil, List.getElem?_cons_zero, List.getElem?_cons_succ, List.drop_succ_cons, List.take_zero, List.drop_nil, List.cons_append, List.nil_append, List.append_nil, true_and, and_true, if_true, if_false, Nat.reduceAdd, Nat.zero_add, reduceCtorEq, Nat.le_refl, List.getD_eq_getElem?_getD]
  refine Ops.pure .free rfl rfl (a4) (by simp only [bytesA, aev, Option.getD_some, List.getElem?_cons_zero, List.getElem?_cons_succ, List.map_cons, List.map_nil, List.nil_append, List.append_nil, List.getD_eq_getElem?_getD]; (repeat' (first | exact LeL.nil | exact Le1L.nil | exact Le.refl _ | exact Le1.refl _ | exact Le1.nil _ | exact Le1.tok _ _ _ | exact LeR.one (Le.refl _) | apply LeR.tup | apply LeL.cons | apply Le1L.cons | apply Le.agg | apply Le.one | apply LeR.one))) rfl rfl ?_
  refine Ops.god tab_ok follows_ok Try.func11 60 ?_; simp only [encR, textsA, bytesA, eq_self, drun, adops, adone, places, mayNeed, aops, aone, aop, needs, ext, aev, aput, aupd, astore, tab_60, ok1, lay, AV.cells, AV.whole, Option.getD_some, Option.bind_some, Option.map_some, List.set_cons_zero, List.set_cons_succ, List.length_cons, List.length_nil, List.getElem?_cons_zero, List.getElem?_cons_succ, List.drop_succ_cons, List.take_zero, List.drop_nil, List.cons_append, List.nil_append, List.append_nil, true_and, and_true, if_true, if_false, Nat.reduceAdd, Nat.zero_add, reduceCtorEq, Nat.le_refl, List.getD_eq_getElem?_getD]
  ((repeat' (apply And.intro)) <;> try (first | rfl | omega | (unfold I64; omega)))
  refine DOps.pure rfl .free rfl rfl (alive12_spec) (by simp only [List.map_nil, List.append_nil]; (repeat' (first | exact LeL.nil | exact Le1L.nil | exact Le.refl _ | exact Le1.refl _ | exact Le1.nil _ | exact Le1.tok _ _ _ | exact LeR.one (Le.refl _) | apply LeR.tup | apply LeL.cons | apply Le1L.cons | apply Le.agg | apply Le.one | apply LeR.one))) rfl rfl ?_
  refine DOps.god tab_ok follows_ok Try.func11 60 rfl ?_; simp only [eq_self, ↓alts_t, ↓gdone_tt, gslot, adops, adone, mayNeed, freeOk, rdOf, AV.id, wrOf, aop, needs, aev, aput, aupd, aload, tab_48, ok1, cellsAs, TI.agg, Option.getD_some, Option.bind_some, Option.map_some, List.set_cons_zero, List.set_cons_succ, List.length_cons, List.length_nil, List.getElem?_cons_zero, List.getElem?_cons_succ, List.getElem?_toArray, List.drop_zero, List.take_succ_cons, List.take_nil, List.cons_append, List.nil_append, true_and, and_true, if_true, if_false, Nat.reduceAdd, Nat.zero_add, reduceCtorEq, Nat.le_refl, List.getD_eq_getElem?_getD]
  refine DOps.pure rfl (Wanted.test 1 true true rfl) rfl rfl (o1) (by simp only [encO, aev, Option.getD_some, List.getElem?_cons_zero, List.getElem?_cons_succ, List.map_cons, List.map_nil, List.nil_append, List.append_nil, List.getD_eq_getElem?_getD]; (repeat' (first | exact LeL.nil | exact Le1L.nil | exact Le.refl _ | exact Le1.refl _ | exact Le1.nil _ | exact Le1.tok _ _ _ | exact LeR.one (Le.refl _) | apply LeR.tup | apply LeL.cons | apply Le1L.cons | apply Le.agg | apply Le.one | apply LeR.one))) rfl rfl ?_
  refine DOps.god tab_ok follows_ok Try.func11 60 rfl ?_; simp only [encO, decide_true, eq_self, ↓alts_t, ↓gdone_tt, gslot, bytesOf_map, adops, adone, mayNeed, freeOk, rdOf, AV.id, wrOf, aop, needs, aev, aput, aupd, aload, acmp, ashift, aeqs, abin, aconv, tab_5, tab_9, tab_23, tab_33, tab_52, tab_56, ok1, cellsAs, TI.agg, Option.getD_some, Option.bind_some, Option.map_some, List.set_cons_zero, List.set_cons_succ, List.length_cons, List.length_nil, List.getElem?_cons_zero, List.getElem?_cons_succ, List.getElem?_toArray, List.drop_zero, List.take_succ_cons, List.take_nil, List.cons_append, List.nil_append, true_and, and_true, if_true, if_false, Nat.reduceAdd, Nat.zero_add, Bool.true_and, decide_true, reduceCtorEq, Nat.le_refl, List.getD_eq_getElem?_getD]
  ((repeat' (apply And.intro)) <;> try (first | rfl | omega | (unfold I64; omega)))
  refine DOps.pure rfl (Wanted.test 19 true true rfl) rfl rfl (t1) (by simp only [encR, textsA, aev, Option.getD_some, List.getElem?_cons_zero, List.getElem?_cons_succ, List.map_cons, List.map_nil, List.nil_append, List.append_nil, List.getD_eq_getElem?_getD]; (repeat' (first | exact LeL.nil | exact Le1L.nil | exact Le.refl _ | exact Le1.refl _ | exact Le1.nil _ | exact Le1.tok _ _ _ | exact LeR.one (Le.refl _) | apply LeR.tup | apply LeL.cons | apply Le1L.cons | apply Le.agg | apply Le.one | apply LeR.one))) rfl rfl ?_
  refine DOps.god tab_ok follows_ok Try.func11 60 rfl ?_; simp only [eq_self, ↓alts_t, ↓gdone_tt, gslot, adops, adone, mayNeed, freeOk, rdOf, AV.id, wrOf, aop, needs, aev, aput, aupd, aload, tab_60, cellsAs, TI.agg, Option.getD_some, Option.bind_some, Option.map_some, List.set_cons_zero, List.set_cons_succ, List.length_cons, List.length_nil, List.getElem?_cons_zero, List.getElem?_cons_succ, List.getElem?_toArray, List.drop_zero, List.take_succ_cons, List.take_nil, List.cons_append, List.nil_append, true_and, and_true, if_true, if_false, Nat.reduceAdd, Nat.zero_add, reduceCtorEq, Nat.le_refl, List.getD_eq_getElem?_getD]
  refine DOps.pure rfl (Wanted.test 19 true true rfl) rfl rfl (s1) (by simp only [encR, textsA, aev, Option.getD_some, List.getElem?_cons_zero, List.getElem?_cons_succ, List.map_cons, List.map_nil, List.nil_append, List.append_nil, List.getD_eq_getElem?_getD]; (repeat' (first | exact LeL.nil | exact Le1L.nil | exact Le.refl _ | exact Le1.refl _ | exact Le1.nil _ | exact Le1.tok _ _ _ | exact LeR.one (Le.refl _) | apply LeR.tup | apply LeL.cons | apply Le1L.cons | apply Le.agg | apply Le.one | apply LeR.one))) rfl rfl ?_
  refine DOps.god tab_ok follows_ok Try.func11 60 rfl ?_; simp only [Try.results11, decide_true, eq_self, ↓alts_t, ↓gdone_tt, gslot, bytesOf_map, drun, adops, adone, mayNeed, freeOk, rdOf, wrOf, afin, ares, aresL, ares1, aresOk, aresOk1, aop, needs, aev, aput, aupd, acmp, ashift, abin, aconv, tab_5, tab_9, tab_23, tab_33, ok1, Option.getD_some, Option.bind_some, Option.map_some, List.set_cons_zero, List.set_cons_succ, List.getElem?_cons_zero, List.getElem?_cons_succ, List.getElem?_toArray, List.cons_append, List.nil_append, true_and, and_true, if_true, if_false, Nat.reduceAdd, decide_true, reduceCtorEq, List.getD_eq_getElem?_getD]
  ((repeat' (apply And.intro)) <;> try (first | rfl | omega | (unfold I64; omega)))
  (repeat' (first | exact LeL.nil | exact Le1L.nil | exact Le.refl _ | exact Le1.refl _ | exact Le1.nil _ | exact Le1.tok _ _ _ | exact LeR.one (Le.refl _) | apply LeR.tup | apply LeL.cons | apply Le1L.cons | apply Le.agg | apply Le.one | apply LeR.one))
theorem takes12_spec (b : Bytes) : ASpec Try.prog 11 [bytesA b] (.bool true) := by
  by_cases h : 4000 < (b.length : Int)
  · exact takes_large b h
  · exact takes_small b h
end Go.Proofs.Ytpigfpnpabnnbaa
