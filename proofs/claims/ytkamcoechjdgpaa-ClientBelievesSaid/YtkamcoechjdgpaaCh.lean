/-
  Words: short ones, few ones; a live question. Told by their shadows.
-/
import Derived.Test.YtkamcoechjdgpaaCg
namespace Go.Proofs.Ytkamcoechjdgpaa
open Go.RowKit
structure Wd where
  kind : Int
  by_ : Int
  o : Ord
  x : Rpl
deriving DecidableEq
def wdC (w : Wd) : List AV := [.int .i64 w.kind, .int .i64 w.by_, .int .i64 w.o.a, .int .i64 w.o.b, .int .i64 w.o.kind, .str w.o.s, .str w.o.t, .int .i64 w.o.x, .int .i64 w.o.y, .int .i64 w.o.z, .int .i64 w.x.a, .int .i64 w.x.b, .int .i64 w.x.e, .str w.x.s, .int .i64 w.x.x, textsA w.x.l]
def wdsA (l : List Wd) : AV := .sl 16 (l.map wdC) .no
def shT (s : Bytes) : Bool := decide (s.length ≤ 1100)
def shR (x : Rpl) : Bool := decide (x.l.length ≤ 20) && x.l.all shT && shT x.s
def okW (w : Wd) : Bool := shT w.o.s && shT w.o.t && shR w.x
def fewW (l : List Wd) : Bool := decide (l.length ≤ 60) && l.all okW
theorem told29_spec (r : Rpl) : ASpec Try.prog 17 [encR r] (encR r) := by
  refine ⟨⟨_, Try.func17, by kernel_rfl, rfl⟩, ACall.of Try.func17 rfl fun c0 hc0 => ?_⟩; simp only [Try.ntmps17, List.length_cons, List.length_nil, Nat.reduceAdd, Nat.reduceSub, List.replicate_succ, List.replicate_zero, List.cons_append, List.nil_append]; refine Run.god tab_ok follows_ok Try.func17 60 ?_; simp only [Try.results17, encR, textsA, eq_self, drun, aops, aone, afin, ares, aresL, ares1, aresOk, aresOk1, aop, needs, ext, aev, aconst, aput, aupd, aload, astore, afieldAddr, abuild, tab_3, tab_9, tab_34, tab_41, tab_43, tab_51, ok1, lay, cellsAs, TI.agg, AV.cells, AV.whole, Option.getD_some, Option.bind_some, Option.map_some, List.set_cons_zero, List.set_cons_succ, List.length_cons, List.length_nil, List.getElem?_cons_zero, List.getElem?_cons_succ, List.drop_zero, List.drop_succ_cons, List.take_succ_cons, List.take_zero, List.take_nil, List.drop_nil, List.map_cons, List.map_nil, List.cons_append, List.nil_append, List.append_nil, true_and, and_true, if_true, if_false, Nat.reduceAdd, Nat.reduceLeDiff, Nat.zero_add, Nat.add_zero, Nat.reduceLeDiff, reduceCtorEq, Nat.le_refl, List.getD_eq_getElem?_getD]
  (repeat' (first | exact LeL.nil | exact Le1L.nil | exact Le.refl _ | exact Le1.refl _ | exact Le1.nil _ | exact Le1.tok _ _ _ | exact LeR.one (Le.refl _) | apply LeR.tup | apply LeL.cons | apply Le1L.cons | apply Le.agg | apply Le.one | apply LeR.one))
theorem dropC {α : Type} {l : List α} {k : Nat} {x : α} (h : l[k]? = some x) : l.drop k = x :: l.drop (k + 1) := by
  obtain ⟨hk, rfl⟩ := List.getElem?_eq_some_iff.1 h
  exact List.drop_eq_getElem_cons hk
set_option maxRecDepth 20000 in
theorem short_spec (x : Rpl) : ASpec Try.prog 36 [encR x] (.bool (shR x)) := by
  refine ⟨⟨_, Try.func36, by kernel_rfl, rfl⟩, ACall.of Try.func36 rfl fun c0 hc0 => ?_⟩; simp only [Try.ntmps36, List.length_cons, List.length_nil, Nat.reduceAdd, Nat.reduceSub, List.replicate_succ, List.replicate_zero, List.cons_append, List.nil_append]; refine Run.god tab_ok follows_ok Try.func36 60 ?_; simp only [encR, textsA, eq_self, drun, aops, aone, aop, needs, ext, aev, aconst, aput, aupd, ok1, AV.cells, AV.whole, Option.getD_some, List.set_cons_zero, List.set_cons_succ, List.length_nil, List.getElem?_cons_zero, List.cons_append, List.nil_append, true_and, if_true, if_false, reduceCtorEq, List.getD_eq_getElem?_getD]
  refine Run.loopV (α := Nat) (fun k => k ≤ x.l.length ∧ k ≤ 20 ∧ x.l.all shT = (x.l.drop k).all shT) (fun k => [(3, .int .i64 k)]) 1 (fun _ => []) (fun k => x.l.length - k) 0 ⟨Nat.zero_le _, Nat.zero_le _, rfl⟩ ?_ ?_
  · simp only [writes, junks, puts, hputs, List.filterMap_cons, List.filterMap_nil, Int.natCast_zero, List.set_cons_zero, List.set_cons_succ, List.take_succ_cons, List.take_nil, List.cons_append, List.nil_append, List.append_nil]
    (refine Weak.of (by simp [hc0]) ?_ ?_ <;> (repeat' (first | exact WkT.nil | exact WkH.nil _ | exact Le.refl _ | exact Le.junk _ | exact Le1.refl _ | exact Le1.nil _ | exact Le1.tok _ _ _ | exact Le1L.nil | rfl | apply WkT.cons | apply WkH.cons | apply LeB.same | apply LeB.box | apply Le1L.cons | apply Le.agg | apply Le.one)))
  · rintro k ⟨h1, h2, h3⟩ ih
    simp only [writes, junks, puts, hputs, List.filterMap_cons, List.filterMap_nil, List.set_cons_zero, List.set_cons_succ, List.take_succ_cons, List.take_nil, List.cons_append, List.nil_append, List.append_nil] at h1 h2 h3 ih ⊢
    by_cases hk : k < x.l.length
    case pos =>
      have hkk : (k : Int) < x.l.length := by omega
      obtain ⟨t, ht⟩ : ∃ t, x.l[k]? = some t := ⟨_, List.getElem?_eq_getElem hk⟩
      rw [dropC ht, List.all_cons] at h3
      by_cases g1 : k = 20
      · have g1' : (k : Int) = 20 := by omega
        have e : shR x = false := by unfold shR; rw [decide_eq_false (by omega)]; rfl
        rw [e]
        have h20 : (20 : Int) < x.l.length := by omega
        refine Run.god tab_ok follows_ok Try.func36 60 ?_; simp only [Try.results36, g1', h20, List.length_map, decide_true, eq_self, ↓alt_t, ↓alts_t, ↓gone_ft, gslot, drun, aops, aone, afin, ares, aresL, ares1, aresOk, aresOk1, aop, needs, ext, aev, aconst, aput, aupd, aload, afieldAddr, acmp, ashift, abin, alen, tab_3, tab_41, tab_43, ok1, cellsAs, TI.agg, Option.getD_some, Option.bind_some, Option.map_some, List.set_cons_zero, List.set_cons_succ, List.length_cons, List.length_nil, List.getElem?_cons_zero, List.getElem?_cons_succ, List.getElem?_toArray, List.drop_zero, List.drop_succ_cons, List.take_succ_cons, List.take_nil, List.length_map, List.cons_append, List.nil_append, true_and, and_true, if_true, if_false, Nat.reduceAdd, Nat.zero_add, decide_true, reduceCtorEq, Nat.le_refl, List.getD_eq_getElem?_getD]
        (repeat' (first | exact LeL.nil | exact Le1L.nil | exact Le.refl _ | exact Le1.refl _ | exact Le1.nil _ | exact Le1.tok _ _ _ | exact LeR.one (Le.refl _) | apply LeR.tup | apply LeL.cons | apply Le1L.cons | apply Le.agg | apply Le.one | apply LeR.one))
      · have g1' : ¬ (k : Int) = 20 := by omega
        by_cases g2 : (1100 : Int) < t.length
        · have et : shT t = false := decide_eq_false (by omega)
          have e : shR x = false := by unfold shR; rw [h3, et]; simp
          rw [e]
          refine Run.god tab_ok follows_ok Try.func36 60 ?_; simp only [Try.results36, hkk, g1', g2, ht, textC, List.getElem?_map, List.length_map, decide_true, decide_false, eq_self, ↓alt_t, ↓alts_f, ↓gone_ff, gslot, drun, aops, aone, afin, ares, aresL, ares1, aresOk, aresOk1, aop, needs, ext, aev, aconst, aput, aupd, aload, afieldAddr, aindexAddr, acmp, ashift, abin, alen, tab_3, tab_9, tab_41, tab_43, ok1, cellsAs, TI.agg, Option.getD_some, Option.bind_some, Option.map_some, List.set_cons_zero, List.set_cons_succ, List.length_cons, List.length_nil, List.getElem?_cons_zero, List.getElem?_cons_succ, List.getElem?_toArray, List.drop_zero, List.drop_succ_cons, List.take_succ_cons, List.take_nil, List.length_map, List.cons_append, List.nil_append, true_and, and_true, if_true, if_false, Nat.reduceAdd, Nat.zero_add, decide_true, decide_false, Nat.reduceLT, reduceCtorEq, Nat.le_refl, Int.toNat_natCast, List.getD_eq_getElem?_getD]
          ((repeat' (apply And.intro)) <;> try (first | rfl | omega | (unfold I64; omega)))
          (repeat' (first | exact LeL.nil | exact Le1L.nil | exact Le.refl _ | exact Le1.refl _ | exact Le1.nil _ | exact Le1.tok _ _ _ | exact LeR.one (Le.refl _) | apply LeR.tup | apply LeL.cons | apply Le1L.cons | apply Le.agg | apply Le.one | apply LeR.one))
        · have et : shT t = true := decide_eq_true (by omega)
          rw [et, Bool.true_and] at h3
          refine Run.god tab_ok follows_ok Try.func36 60 ?_; simp only [hkk, g1', g2, ht, textC, List.getElem?_map, List.length_map, decide_true, decide_false, eq_self, ↓alt_t, ↓alt_f, ↓alts_f, ↓gone_ff, gslot, drun, aops, aone, aop, needs, ext, aev, aconst, aput, aupd, aload, afieldAddr, aindexAddr, acmp, aarith, ashift, abin, alen, tab_3, tab_9, tab_41, tab_43, ok1, cellsAs, TI.agg, Option.getD_some, Option.bind_some, Option.map_some, List.set_cons_zero, List.set_cons_succ, List.length_cons, List.length_nil, List.getElem?_cons_zero, List.getElem?_cons_succ, List.getElem?_toArray, List.drop_zero, List.drop_succ_cons, List.take_succ_cons, List.take_nil, List.length_map, List.cons_append, List.nil_append, true_and, and_true, if_true, if_false, Nat.reduceAdd, Nat.zero_add, decide_true, decide_false, Nat.reduceLT, reduceCtorEq, Nat.le_refl, Int.toNat_natCast, List.getD_eq_getElem?_getD]
          ((repeat' (apply And.intro)) <;> try (first | rfl | omega | (unfold I64; omega)))
          refine ih (k + 1) _ ⟨by omega, by omega, h3⟩ (by omega) ?_
          simp only [Int.natCast_add, Int.natCast_one]
          (refine Weak.of (by simp [hc0]) ?_ ?_ <;> (repeat' (first | exact WkT.nil | exact WkH.nil _ | exact Le.refl _ | exact Le.junk _ | exact Le1.refl _ | exact Le1.nil _ | exact Le1.tok _ _ _ | exact Le1L.nil | rfl | apply WkT.cons | apply WkH.cons | apply LeB.same | apply LeB.box | apply Le1L.cons | apply Le.agg | apply Le.one)))
    case neg =>
      have hkk : ¬ (k : Int) < x.l.length := by omega
      obtain rfl : k = x.l.length := by omega
      rw [List.drop_length] at h3
      have e : shR x = decide ((x.s.length : Int) ≤ 1100) := by
        unfold shR
        rw [h3, decide_eq_true h2]
        simp only [List.all_nil, Bool.true_and, shT]
        rw [Bool.eq_iff_iff]; simp; omega
      rw [e]
      refine Run.god tab_ok follows_ok Try.func36 60 ?_; simp only [Try.results36, hkk, List.length_map, decide_false, eq_self, ↓alt_f, drun, aops, aone, afin, ares, aresL, ares1, aresOk, aresOk1, aop, needs, ext, aev, aconst, aput, aupd, aload, afieldAddr, acmp, ashift, abin, alen, tab_3, tab_9, tab_41, tab_43, ok1, cellsAs, TI.agg, exitTo, Option.getD_some, Option.bind_some, Option.map_some, List.set_cons_zero, List.set_cons_succ, List.length_cons, List.length_nil, List.getElem?_cons_zero, List.getElem?_cons_succ, List.drop_zero, List.drop_succ_cons, List.take_succ_cons, List.take_zero, List.take_nil, List.length_map, List.cons_append, List.nil_append, true_and, and_true, if_true, if_false, Nat.reduceAdd, Nat.reduceLeDiff, Nat.zero_add, beq_self_eq_true, decide_false, Nat.reduceLeDiff, reduceCtorEq, Nat.le_refl, List.getD_eq_getElem?_getD]
      (repeat' (first | exact LeL.nil | exact Le1L.nil | exact Le.refl _ | exact Le1.refl _ | exact Le1.nil _ | exact Le1.tok _ _ _ | exact LeR.one (Le.refl _) | apply LeR.tup | apply LeL.cons | apply Le1L.cons | apply Le.agg | apply Le.one | apply LeR.one))
set_option maxRecDepth 20000 in
set_option maxHeartbeats 1000000 in
theorem few29_spec (l : List Wd) : ASpec Try.prog 12 [wdsA l] (.bool (fewW l)) := by
  refine ⟨⟨_, Try.func12, by kernel_rfl, rfl⟩, ACall.of Try.func12 rfl fun c0 hc0 => ?_⟩; simp only [Try.ntmps12, List.length_cons, List.length_nil, Nat.reduceAdd, Nat.reduceSub, List.replicate_succ, List.replicate_zero, List.cons_append, List.nil_append]; refine Run.god tab_ok follows_ok Try.func12 60 ?_; simp only [wdsA, drun, aops, aone, aop, needs, ext, aev, aconst, aput, aupd, ok1, List.set_cons_zero, List.set_cons_succ, List.nil_append, true_and, if_false, reduceCtorEq]
  refine Run.loopV (α := Nat) (fun k => k ≤ l.length ∧ k ≤ 60 ∧ l.all okW = (l.drop k).all okW) (fun k => [(3, .int .i64 k)]) 0 (fun _ => []) (fun k => l.length - k) 0 ⟨Nat.zero_le _, Nat.zero_le _, rfl⟩ ?_ ?_
  · simp only [writes, junks, puts, hputs, List.filterMap_cons, List.filterMap_nil, Int.natCast_zero, List.set_cons_zero, List.set_cons_succ, List.take_nil, List.cons_append, List.nil_append, List.append_nil]
    (refine Weak.of (by simp [hc0]) ?_ ?_ <;> (repeat' (first | exact WkT.nil | exact WkH.nil _ | exact Le.refl _ | exact Le.junk _ | exact Le1.refl _ | exact Le1.nil _ | exact Le1.tok _ _ _ | exact Le1L.nil | rfl | apply WkT.cons | apply WkH.cons | apply LeB.same | apply LeB.box | apply Le1L.cons | apply Le.agg | apply Le.one)))
  · rintro k ⟨h1, h2, h3⟩ ih
    simp only [writes, junks, puts, hputs, List.filterMap_cons, List.filterMap_nil, List.set_cons_zero, List.set_cons_succ, List.take_nil, List.cons_append, List.nil_append, List.append_nil] at h1 h2 h3 ih ⊢
    by_cases hk : k < l.length
    case pos =>
      have hkk : (k : Int) < l.length := by omega
      obtain ⟨w, hw⟩ : ∃ w, l[k]? = some w := ⟨_, List.getElem?_eq_getElem hk⟩
      rw [dropC hw, List.all_cons] at h3
      by_cases g1 : k = 60
      · have g1' : (k : Int) = 60 := by omega
        have e : fewW l = false := by unfold fewW; rw [decide_eq_false (by omega)]; rfl
        rw [e]
        have h60 : (60 : Int) < l.length := by omega
        refine Run.god tab_ok follows_ok Try.func12 60 ?_; simp only [Try.results12, g1', h60, List.length_map, decide_true, eq_self, ↓alt_t, ↓alts_t, ↓gone_ft, gslot, drun, aops, aone, afin, ares, aresL, ares1, aresOk, aresOk1, aop, needs, ext, aev, aconst, aput, aupd, acmp, ashift, abin, alen, tab_3, tab_27, ok1, Option.getD_some, Option.bind_some, Option.map_some, List.set_cons_zero, List.set_cons_succ, List.getElem?_cons_zero, List.getElem?_cons_succ, List.getElem?_toArray, List.length_map, List.nil_append, true_and, and_true, if_true, if_false, decide_true, reduceCtorEq, List.getD_eq_getElem?_getD]
        (repeat' (first | exact LeL.nil | exact Le1L.nil | exact Le.refl _ | exact Le1.refl _ | exact Le1.nil _ | exact Le1.tok _ _ _ | exact LeR.one (Le.refl _) | apply LeR.tup | apply LeL.cons | apply Le1L.cons | apply Le.agg | apply Le.one | apply LeR.one))
      · have g1' : ¬ (k : Int) = 60 := by omega
        by_cases g2 : (1100 : Int) < w.o.s.length
        · have et : shT w.o.s = false := decide_eq_false (by omega)
          have e : fewW l = false := by unfold fewW; rw [h3]; simp [okW, et]
          rw [e]
          refine Run.god tab_ok follows_ok Try.func12 60 ?_; simp only [Try.results12, hkk, g1', g2, hw, wdC, List.getElem?_map, List.length_map, decide_true, decide_false, eq_self, ↓alt_t, ↓alts_t, ↓alts_f, ↓gone_ft, ↓gone_ff, gslot, drun, aops, aone, afin, ares, aresL, ares1, aresOk, aresOk1, aop, needs, ext, aev, aconst, aput, aupd, aload, afieldAddr, aindexAddr, acmp, ashift, abin, alen, tab_3, tab_9, tab_27, tab_29, tab_45, ok1, cellsAs, TI.agg, Option.getD_some, Option.bind_some, Option.map_some, List.set_cons_zero, List.set_cons_succ, List.length_cons, List.length_nil, List.getElem?_cons_zero, List.getElem?_cons_succ, List.getElem?_toArray, List.drop_zero, List.drop_succ_cons, List.take_succ_cons, List.take_zero, List.length_map, List.nil_append, true_and, and_true, if_true, if_false, Nat.reduceAdd, Nat.reduceLeDiff, Nat.zero_add, decide_true, decide_false, Nat.reduceLT, Nat.reduceLeDiff, forall_const, reduceCtorEq, false_implies, implies_true, Int.toNat_natCast, List.getD_eq_getElem?_getD]
          ((repeat' (apply And.intro)) <;> try (first | rfl | omega | (unfold I64; omega)))
          (repeat' (first | exact LeL.nil | exact Le1L.nil | exact Le.refl _ | exact Le1.refl _ | exact Le1.nil _ | exact Le1.tok _ _ _ | exact LeR.one (Le.refl _) | apply LeR.tup | apply LeL.cons | apply Le1L.cons | apply Le.agg | apply Le.one | apply LeR.one))
        have e1 : shT w.o.s = true := decide_eq_true (by omega)
        by_cases g3 : (1100 : Int) < w.o.t.length
        · have et : shT w.o.t = false := decide_eq_false (by omega)
          have e : fewW l = false := by unfold fewW; rw [h3]; simp [okW, et]
          rw [e]
          refine Run.god tab_ok follows_ok Try.func12 60 ?_; simp only [Try.results12, hkk, g1', g2, g3, hw, wdC, List.getElem?_map, List.length_map, decide_true, decide_false, eq_self, ↓alt_t, ↓alts_t, ↓alts_f, ↓gone_ft, ↓gone_ff, gslot, drun, aops, aone, afin, ares, aresL, ares1, aresOk, aresOk1, aop, needs, ext, aev, aconst, aput, aupd, aload, afieldAddr, aindexAddr, acmp, ashift, abin, alen, tab_3, tab_9, tab_27, tab_29, tab_45, ok1, cellsAs, TI.agg, Option.getD_some, Option.bind_some, Option.map_some, List.set_cons_zero, List.set_cons_succ, List.length_cons, List.length_nil, List.getElem?_cons_zero, List.getElem?_cons_succ, List.getElem?_toArray, List.drop_zero, List.drop_succ_cons, List.take_succ_cons, List.take_zero, List.length_map, List.nil_append, true_and, and_true, if_true, if_false, Nat.reduceAdd, Nat.reduceLeDiff, Nat.zero_add, decide_true, decide_false, Nat.reduceLT, Nat.reduceLeDiff, forall_const, reduceCtorEq, false_implies, implies_true, Int.toNat_natCast, List.getD_eq_getElem?_getD]
          ((repeat' (apply And.intro)) <;> try (first | rfl | omega | (unfold I64; omega)))
          (repeat' (first | exact LeL.nil | exact Le1L.nil | exact Le.refl _ | exact Le1.refl _ | exact Le1.nil _ | exact Le1.tok _ _ _ | exact LeR.one (Le.refl _) | apply LeR.tup | apply LeL.cons | apply Le1L.cons | apply Le.agg | apply Le.one | apply LeR.one))
        have e2 : shT w.o.t = true := decide_eq_true (by omega)
        have hs := short_spec w.x
        cases hr : shR w.x with
        | false =>
          rw [hr] at hs
          have e : fewW l = false := by unfold fewW; rw [h3]; simp [okW, hr]
          rw [e]
          refine Run.god tab_ok follows_ok Try.func12 60 ?_; simp only [hkk, g1', g2, g3, hw, wdC, List.getElem?_map, List.length_map, decide_true, decide_false, eq_self, ↓alt_t, ↓alts_f, ↓gone_ff, gslot, drun, aops, aone, aop, needs, ext, aev, aconst, aput, aupd, aload, afieldAddr, aindexAddr, acmp, ashift, abin, alen, tab_3, tab_9, tab_27, tab_29, tab_43, tab_45, ok1, cellsAs, TI.agg, Option.getD_some, Option.bind_some, Option.map_some, List.set_cons_zero, List.set_cons_succ, List.length_cons, List.length_nil, List.getElem?_cons_zero, List.getElem?_cons_succ, List.getElem?_toArray, List.drop_zero, List.drop_succ_cons, List.take_succ_cons, List.take_zero, List.take_nil, List.length_map, List.nil_append, true_and, and_true, if_true, if_false, Nat.reduceAdd, Nat.reduceLeDiff, Nat.zero_add, decide_true, decide_false, Nat.reduceLT, Nat.reduceLeDiff, forall_const, reduceCtorEq, false_implies, implies_true, Nat.le_refl, Int.toNat_natCast, List.getD_eq_getElem?_getD]
          ((repeat' (apply And.intro)) <;> try (first | rfl | omega | (unfold I64; omega)))
          refine Ops.pure (Wanted.test 22 false false rfl) rfl rfl (hs) (by simp only [encR, textsA, aev, Option.getD_some, List.getElem?_cons_zero, List.getElem?_cons_succ, List.map_cons, List.map_nil, List.nil_append, List.append_nil, List.getD_eq_getElem?_getD]; (repeat' (first | exact LeL.nil | exact Le1L.nil | exact Le.refl _ | exact Le1.refl _ | exact Le1.nil _ | exact Le1.tok _ _ _ | exact LeR.one (Le.refl _) | apply LeR.tup | apply LeL.cons | apply Le1L.cons | apply Le.agg | apply Le.one | apply LeR.one))) rfl rfl ?_
          refine Ops.god tab_ok follows_ok Try.func12 60 ?_; simp only [Try.results12, eq_self, ↓alt_t, ↓alts_f, ↓gone_ff, gslot, drun, aops, aone, afin, ares, aresL, ares1, aresOk, aresOk1, aop, needs, ext, aev, aconst, aput, aupd, ok1, Option.getD_some, Option.bind_some, Option.map_some, List.set_cons_zero, List.set_cons_succ, List.getElem?_cons_zero, List.getElem?_cons_succ, List.getElem?_toArray, List.nil_append, true_and, and_true, if_false, Bool.not_false, reduceCtorEq, List.getD_eq_getElem?_getD]
          (repeat' (first | exact LeL.nil | exact Le1L.nil | exact Le.refl _ | exact Le1.refl _ | exact Le1.nil _ | exact Le1.tok _ _ _ | exact LeR.one (Le.refl _) | apply LeR.tup | apply LeL.cons | apply Le1L.cons | apply Le.agg | apply Le.one | apply LeR.one))
        | true =>
          rw [hr] at hs
          have e : okW w = true := by simp [okW, e1, e2, hr]
          rw [e, Bool.true_and] at h3
          refine Run.god tab_ok follows_ok Try.func12 60 ?_; simp only [hkk, g1', g2, g3, hw, wdC, List.getElem?_map, List.length_map, decide_true, decide_false, eq_self, ↓alt_t, ↓alts_f, ↓gone_ff, gslot, drun, aops, aone, aop, needs, ext, aev, aconst, aput, aupd, aload, afieldAddr, aindexAddr, acmp, ashift, abin, alen, tab_3, tab_9, tab_27, tab_29, tab_43, tab_45, ok1, cellsAs, TI.agg, Option.getD_some, Option.bind_some, Option.map_some, List.set_cons_zero, List.set_cons_succ, List.length_cons, List.length_nil, List.getElem?_cons_zero, List.getElem?_cons_succ, List.getElem?_toArray, List.drop_zero, List.drop_succ_cons, List.take_succ_cons, List.take_zero, List.take_nil, List.length_map, List.nil_append, true_and, and_true, if_true, if_false, Nat.reduceAdd, Nat.reduceLeDiff, Nat.zero_add, decide_true, decide_false, Nat.reduceLT, Nat.reduceLeDiff, forall_const, reduceCtorEq, false_implies, implies_true, Nat.le_refl, Int.toNat_natCast, List.getD_eq_getElem?_getD]
          ((repeat' (apply And.intro)) <;> try (first | rfl | omega | (unfold I64; omega)))
          refine Ops.pure (Wanted.test 22 false false rfl) rfl rfl (hs) (by simp only [encR, textsA, aev, Option.getD_some, List.getElem?_cons_zero, List.getElem?_cons_succ, List.map_cons, List.map_nil, List.nil_append, List.append_nil, List.getD_eq_getElem?_getD]; (repeat' (first | exact LeL.nil | exact Le1L.nil | exact Le.refl _ | exact Le1.refl _ | exact Le1.nil _ | exact Le1.tok _ _ _ | exact LeR.one (Le.refl _) | apply LeR.tup | apply LeL.cons | apply Le1L.cons | apply Le.agg | apply Le.one | apply LeR.one))) rfl rfl ?_
          refine Ops.god tab_ok follows_ok Try.func12 60 ?_; simp only [eq_self, ↓alt_f, ↓alts_f, ↓gone_ff, gslot, drun, aops, aone, aop, needs, ext, aev, aconst, aput, aupd, acmp, aarith, ashift, abin, tab_3, ok1, Option.getD_some, Option.bind_some, List.set_cons_zero, List.set_cons_succ, List.getElem?_cons_zero, List.getElem?_cons_succ, List.getElem?_toArray, List.nil_append, true_and, if_true, if_false, Bool.not_true, reduceCtorEq, List.getD_eq_getElem?_getD]
          ((repeat' (apply And.intro)) <;> try (first | rfl | omega | (unfold I64; omega)))
          refine ih (k + 1) _ ⟨by omega, by omega, h3⟩ (by omega) ?_
          simp only [Int.natCast_add, Int.natCast_one]
          (refine Weak.of (by simp [hc0]) ?_ ?_ <;> (repeat' (first | exact WkT.nil | exact WkH.nil _ | exact Le.refl _ | exact Le.junk _ | exact Le1.refl _ | exact Le1.nil _ | exact Le1.tok _ _ _ | exact Le1L.nil | rfl | apply WkT.cons | apply WkH.cons | apply LeB.same | apply LeB.box | apply Le1L.cons | apply Le.agg | apply Le.one)))
    case neg =>
      have hkk : ¬ (k : Int) < l.length := by omega
      obtain rfl : k = l.length := by omega
      rw [List.drop_length] at h3
      have e : fewW l = true := by
        unfold fewW
        rw [h3, decide_eq_true h2]; rfl
      rw [e]
      refine Run.god tab_ok follows_ok Try.func12 60 ?_; simp only [Try.results12, hkk, List.length_map, decide_false, eq_self, ↓alt_f, drun, aops, aone, afin, ares, aresL, ares1, aresOk, aresOk1, aop, needs, ext, aev, aconst, aput, aupd, acmp, ashift, abin, alen, tab_3, tab_27, ok1, exitTo, Option.getD_some, Option.bind_some, Option.map_some, List.set_cons_zero, List.set_cons_succ, List.getElem?_cons_zero, List.getElem?_cons_succ, List.length_map, List.nil_append, true_and, and_true, if_true, if_false, beq_self_eq_true, decide_false, reduceCtorEq, List.getD_eq_getElem?_getD]
      (repeat' (first | exact LeL.nil | exact Le1L.nil | exact Le.refl _ | exact Le1.refl _ | exact Le1.nil _ | exact Le1.tok _ _ _ | exact LeR.one (Le.refl _) | apply LeR.tup | apply LeL.cons | apply Le1L.cons | apply Le.agg | apply Le.one | apply LeR.one))
def oA : Ord := ⟨0, 0, 2, [47], [], 0, 0, 0⟩
def oB : Ord := ⟨3, 1, 2, [47], [], 0, 0, 0⟩
def xA : Rpl := ⟨3, 1, 0, [], 0, []⟩
def cl1 : Cl := ⟨3, 0, false, ord0, [], []⟩
def cl2 : Cl := ⟨3, 1, true, oB, [], []⟩
def cl3 : Cl := ⟨3, 1, true, oB, [⟨2, xA⟩], []⟩
def cl4 : Cl := ⟨3, 1, false, ord0, [], [⟨oB, xA⟩]⟩
set_option maxRecDepth 20000 in
set_option maxHeartbeats 1000000 in
theorem alive29_spec : ASpec Try.prog 13 [] (.bool true) := by
  have h1 := new_spec 3
  rw [show newCl 3 = (cl1, 0) by decide] at h1
  have h2 := ask_spec cl1 oA (by decide)
  rw [show askCl cl1 oA = (cl2, oB, 0) by decide] at h2
  have h3 := hear_spec ⟨1, 0⟩ (by decide) cl2 2 xA List.Pairwise.nil (by decide) (by decide) (by decide) (by decide)
  rw [show hearCl ⟨1, 0⟩ cl2 2 xA = (cl3, false) by decide] at h3
  have h4 := hear_spec ⟨1, 0⟩ (by decide) cl3 0 xA (List.pairwise_singleton _ _) (by decide) (by decide) (by decide) (by decide)
  rw [show hearCl ⟨1, 0⟩ cl3 0 xA = (cl4, true) by decide] at h4
  simp only [newAV, askAV, hearAV, encCl, encO, encR, encS, cl1, cl2, cl3, cl4, oA, oB, xA, ord0, givA, ansA, textsA, List.map_nil, List.map_cons] at h1 h2 h3 h4
  refine ⟨⟨_, Try.func13, by kernel_rfl, rfl⟩, ACall.of Try.func13 rfl fun c0 hc0 => ?_⟩; simp only [Try.ntmps13, List.length_nil, Nat.reduceSub, List.replicate_succ, List.replicate_zero, List.nil_append]; refine Run.god tab_ok follows_ok Try.func13 60 ?_; simp only [drun, aops, aone, aop, needs, ext, aev, aconst, aput, aupd, ok1, List.set_cons_zero, List.nil_append, true_and, if_false, reduceCtorEq]
  refine Ops.pure .free rfl rfl (h1) (by simp only [aev, aconst, List.map_cons, List.map_nil, List.nil_append, List.append_nil]; (repeat' (first | exact LeL.nil | exact Le1L.nil | exact Le.refl _ | exact Le1.refl _ | exact Le1.nil _ | exact Le1.tok _ _ _ | exact LeR.one (Le.refl _) | apply LeR.tup | apply LeL.cons | apply Le1L.cons | apply Le.agg | apply Le.one | apply LeR.one))) rfl rfl ?_
  refine Ops.god tab_ok follows_ok Try.func13 60 ?_; simp only [eq_self, drun, aops, aone, aop, needs, ext, aev, aconst, aput, aupd, aload, astore, abuild, tab_3, tab_9, tab_29, tab_33, ok1, lay, cellsAs, TI.agg, AV.cells, AV.whole, Option.getD_some, Option.bind_some, Option.map_some, List.set_cons_zero, List.set_cons_succ, List.length_cons, List.length_nil, List.getElem?_cons_zero, List.getElem?_cons_succ, List.drop_zero, List.drop_succ_cons, List.take_succ_cons, List.take_zero, List.take_nil, List.drop_nil, List.map_cons, List.map_nil, List.cons_append, List.nil_append, List.append_nil, true_and, and_true, if_true, if_false, Nat.reduceAdd, Nat.reduceLeDiff, Nat.zero_add, Nat.reduceLeDiff, reduceCtorEq, Nat.le_refl, List.getD_eq_getElem?_getD]
  refine Ops.pure .free rfl rfl (h2) (by simp only [aev, Option.getD_some, List.getElem?_cons_zero, List.getElem?_cons_succ, List.map_cons, List.map_nil, List.nil_append, List.append_nil, List.getD_eq_getElem?_getD]; (repeat' (first | exact LeL.nil | exact Le1L.nil | exact Le.refl _ | exact Le1.refl _ | exact Le1.nil _ | exact Le1.tok _ _ _ | exact LeR.one (Le.refl _) | apply LeR.tup | apply LeL.cons | apply Le1L.cons | apply Le.agg | apply Le.one | apply LeR.one))) rfl rfl ?_
  refine Ops.god tab_ok follows_ok Try.func13 60 ?_; simp only [eq_self, drun, aops, aone, aop, needs, ext, aev, aconst, aput, aupd, aload, astore, abuild, tab_3, tab_23, tab_29, tab_33, tab_43, ok1, lay, cellsAs, TI.agg, AV.cells, AV.whole, Option.getD_some, Option.bind_some, Option.map_some, List.set_cons_zero, List.set_cons_succ, List.length_cons, List.length_nil, List.getElem?_cons_zero, List.getElem?_cons_succ, List.drop_zero, List.drop_succ_cons, List.take_succ_cons, List.take_zero, List.take_nil, List.drop_nil, List.map_cons, List.map_nil, List.cons_append, List.nil_append, List.append_nil, true_and, and_true, if_true, if_false, Nat.reduceAdd, Nat.reduceLeDiff, Nat.zero_add, Nat.reduceLeDiff, reduceCtorEq, Nat.le_refl, List.getD_eq_getElem?_getD]
  refine Ops.pure .free rfl rfl (h3) (by simp only [aev, aconst, Option.getD_some, List.getElem?_cons_zero, List.getElem?_cons_succ, List.map_cons, List.map_nil, List.nil_append, List.append_nil, List.getD_eq_getElem?_getD]; (repeat' (first | exact LeL.nil | exact Le1L.nil | exact Le.refl _ | exact Le1.refl _ | exact Le1.nil _ | exact Le1.tok _ _ _ | exact LeR.one (Le.refl _) | apply LeR.tup | apply LeL.cons | apply Le1L.cons | apply Le.agg | apply Le.one | apply LeR.one))) rfl rfl ?_
  refine Ops.god tab_ok follows_ok Try.func13 60 ?_; simp only [eq_self, drun, aops, aone, aop, needs, ext, aev, aconst, aput, aupd, aload, astore, abuild, tab_3, tab_23, tab_33, tab_43, ok1, lay, cellsAs, TI.agg, AV.cells, AV.whole, Option.getD_some, Option.bind_some, Option.map_some, List.set_cons_zero, List.set_cons_succ, List.length_cons, List.length_nil, List.getElem?_cons_zero, List.getElem?_cons_succ, List.drop_zero, List.drop_succ_cons, List.take_succ_cons, List.take_zero, List.take_nil, List.drop_nil, List.map_cons, List.map_nil, List.cons_append, List.nil_append, List.append_nil, true_and, and_true, if_true, if_false, Nat.reduceAdd, Nat.reduceLeDiff, Nat.zero_add, Nat.reduceLeDiff, reduceCtorEq, Nat.le_refl, List.getD_eq_getElem?_getD]
  refine Ops.pure .free rfl rfl (h4) (by simp only [aev, aconst, Option.getD_some, List.getElem?_cons_zero, List.getElem?_cons_succ, List.map_cons, List.map_nil, List.nil_append, List.append_nil, List.getD_eq_getElem?_getD]; (repeat' (first | exact LeL.nil | exact Le1L.nil | exact Le.refl _ | exact Le1.refl _ | exact Le1.nil _ | exact Le1.tok _ _ _ | exact LeR.one (Le.refl _) | apply LeR.tup | apply LeL.cons | apply Le1L.cons | apply Le.agg | apply Le.one | apply LeR.one))) rfl rfl ?_
  refine Ops.god tab_ok follows_ok Try.func13 60 ?_; simp only [Try.results13, Int.natCast_one, decide_true, eq_self, ↓alts_t, ↓gone_tt, gslot, drun, aops, aone, afin, ares, aresL, ares1, aresOk, aresOk1, aop, needs, ext, aev, aconst, aput, aupd, aload, astore, afieldAddr, acmp, ashift, abin, alen, tab_3, tab_4, tab_29, tab_31, tab_33, tab_34, ok1, lay, cellsAs, TI.agg, AV.cells, AV.whole, Option.getD_some, Option.bind_some, Option.map_some, List.set_cons_zero, List.set_cons_succ, List.length_cons, List.length_nil, List.getElem?_cons_zero, List.getElem?_cons_succ, List.getElem?_toArray, List.drop_zero, List.drop_succ_cons, List.take_succ_cons, List.take_zero, List.take_nil, List.drop_nil, List.cons_append, List.nil_append, List.append_nil, true_and, and_true, if_true, if_false, Nat.reduceAdd, Nat.reduceLeDiff, Nat.zero_add, Nat.add_zero, Bool.not_false, decide_true, Nat.reduceLeDiff, reduceCtorEq, Nat.le_refl, List.getD_eq_getElem?_getD]
  (repeat' (first | exact LeL.nil | exact Le1L.nil | exact Le.refl _ | exact Le1.refl _ | exact Le1.nil _ | exact Le1.tok _ _ _ | exact LeR.one (Le.refl _) | apply LeR.tup | apply LeL.cons | apply Le1L.cons | apply Le.agg | apply Le.one | apply LeR.one))
end Go.Proofs.Ytkamcoechjdgpaa
