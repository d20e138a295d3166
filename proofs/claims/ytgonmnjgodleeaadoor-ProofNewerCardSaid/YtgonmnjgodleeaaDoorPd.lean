/-
  The document's Best, by its shadow.
-/
import Derived.Test.YtgonmnjgodleeaaDoorPa
namespace Go.Proofs.YtgonmnjgodleeaaDoor
open Go.RowKit
/-- A view and a value. -/
abbrev Cv := Int × Bts
def cvA (a : Acc) : Cv := (a.view, a.value)
/-- The best so far; of a next one. -/
def overV (b : Option Cv) (v : Int) : Bool := match b with | none => true | some c => decide (c.1 < v)
def betterV (l : List Acc) (need : Int) (b : Option Cv) (a : Acc) : Option Cv :=
  if (decide (1 ≤ need) && decide (need ≤ (l.countP (isV a.view a.value) : Int)) && overV b a.view) = true then some (cvA a) else b
def bestV (l : List Acc) (need : Int) : Option Cv := l.foldl (betterV l need) none
def bestVA : Option Cv → AV
  | none => .tup [.int .i64 0, .str [], .bool false]
  | some c => .tup [.int .i64 c.1, .str c.2, .bool true]
theorem bestV_less (l : List Acc) (need : Int) (h : ¬ 1 ≤ need) : ∀ (m : List Acc) b, m.foldl (betterV l need) b = b
  | [], b => rfl
  | a :: m, b => by
    rw [List.foldl_cons, show betterV l need b a = b by unfold betterV; rw [decide_eq_false h]; simp]
    exact bestV_less l need h m b
def ixI : Option Nat → Int
  | none => -1
  | some i => i
def ixV (l : List Acc) : Option Nat → Option Cv
  | none => none
  | some i => (l[i]?).map cvA
set_option maxRecDepth 20000 in
set_option maxHeartbeats 4000000 in
theorem rbest_spec (l : List Acc) (need : Int) (hl : l.length ≤ 1000000) : ASpec Tryd.prog 27 [.agg [votesA l], .int .i64 need] (bestVA (bestV l need)) := by
  by_cases hn : 1 ≤ need
  case neg =>
    rw [show bestV l need = none from bestV_less l need hn l none]
    have z1 : (-1 : Int) < 0 := by omega
    have z2 : ((0 : Nat) : Int) = 0 := rfl
    refine ⟨⟨_, Tryd.func27, by kernel_rfl, rfl⟩, ACall.of Tryd.func27 rfl fun c0 hc0 => ?_⟩; simp only [Tryd.ntmps27, List.length_cons, List.length_nil, Nat.reduceAdd, Nat.reduceSub, List.replicate_succ, List.replicate_zero, List.cons_append, List.nil_append]; refine Run.god tab_ok follows_ok Tryd.func27 60 ?_; simp only [votesA, Int.reduceNeg, drun, aops, aone, aop, needs, ext, aev, aconst, aput, aupd, ok1, AV.cells, AV.whole, Option.getD_some, List.set_cons_zero, List.set_cons_succ, List.length_nil, List.getElem?_cons_zero, List.cons_append, List.nil_append, true_and, if_true, if_false, List.getD_eq_getElem?_getD, Bool.false_eq_true]
    refine Run.unloop ?_
    by_cases h0 : (0 : Int) < l.length
    · refine Run.god tab_ok follows_ok Tryd.func27 60 ?_; simp only [Tryd.results27, h0, hn, z1, List.length_map, decide_true, decide_false, ↓alt_t, ↓alt_f, ↓alts_t, ↓gone_tt, gslot, Int.reduceNeg, drun, aops, aone, afin, ares, aresL, ares1, aresOk, aresOk1, aop, needs, ext, aev, aconst, aput, aupd, aload, afieldAddr, acmp, ashift, abin, alen, tab_3, tab_24, tab_32, ok1, cellsAs, TI.agg, exitTo, Option.getD_some, Option.bind_some, Option.map_some, List.set_cons_zero, List.set_cons_succ, List.length_cons, List.length_nil, List.getElem?_cons_zero, List.getElem?_cons_succ, List.getElem?_toArray, List.drop_zero, List.take_succ_cons, List.take_nil, List.length_map, List.cons_append, List.nil_append, true_and, and_true, if_true, if_false, Nat.zero_add, Nat.add_zero, beq_self_eq_true, decide_true, decide_false, Nat.le_refl, List.getD_eq_getElem?_getD, Bool.false_eq_true]
      simp only [bestVA]
      (repeat' (first | exact LeL.nil | exact Le1L.nil | exact Le.refl _ | exact Le1.refl _ | exact Le1.nil _ | exact Le1.tok _ _ _ | exact LeR.one (Le.refl _) | apply LeR.tup | apply LeL.cons | apply Le1L.cons | apply Le.agg | apply Le.one | apply LeR.one))
    · refine Run.god tab_ok follows_ok Tryd.func27 60 ?_; simp only [Tryd.results27, h0, z1, List.length_map, decide_true, decide_false, ↓alt_t, ↓alt_f, ↓alts_f, ↓gone_tf, gslot, Int.reduceNeg, drun, aops, aone, afin, ares, aresL, ares1, aresOk, aresOk1, aop, needs, ext, aev, aconst, aput, aupd, aload, afieldAddr, acmp, ashift, abin, alen, tab_3, tab_24, tab_32, ok1, cellsAs, TI.agg, exitTo, Option.getD_some, Option.bind_some, Option.map_some, List.set_cons_zero, List.set_cons_succ, List.length_cons, List.length_nil, List.getElem?_cons_zero, List.getElem?_cons_succ, List.getElem?_toArray, List.drop_zero, List.take_succ_cons, List.take_nil, List.length_map, List.cons_append, List.nil_append, true_and, and_true, if_true, if_false, Nat.zero_add, Nat.add_zero, beq_self_eq_true, decide_true, decide_false, Nat.le_refl, List.getD_eq_getElem?_getD, Bool.false_eq_true]
      simp only [bestVA]
      (repeat' (first | exact LeL.nil | exact Le1L.nil | exact Le.refl _ | exact Le1.refl _ | exact Le1.nil _ | exact Le1.tok _ _ _ | exact LeR.one (Le.refl _) | apply LeR.tup | apply LeL.cons | apply Le1L.cons | apply Le.agg | apply Le.one | apply LeR.one))
  refine ⟨⟨_, Tryd.func27, by kernel_rfl, rfl⟩, ACall.of Tryd.func27 rfl fun c0 hc0 => ?_⟩; simp only [Tryd.ntmps27, List.length_cons, List.length_nil, Nat.reduceAdd, Nat.reduceSub, List.replicate_succ, List.replicate_zero, List.cons_append, List.nil_append]; refine Run.god tab_ok follows_ok Tryd.func27 60 ?_; simp only [votesA, Int.reduceNeg, drun, aops, aone, aop, needs, ext, aev, aconst, aput, aupd, ok1, AV.cells, AV.whole, Option.getD_some, List.set_cons_zero, List.set_cons_succ, List.length_nil, List.getElem?_cons_zero, List.cons_append, List.nil_append, true_and, if_true, if_false, List.getD_eq_getElem?_getD, Bool.false_eq_true]
  refine Run.loopV (α := Nat × Option Nat) (fun x => x.1 ≤ l.length ∧ (∀ i, x.2 = some i → i < l.length) ∧ bestV l need = (l.drop x.1).foldl (betterV l need) (ixV l x.2)) (fun x => [(7, .int .i64 (ixI x.2)), (8, .int .i64 x.1)]) 1 (fun _ => []) (fun x => l.length - x.1) (0, none) ⟨Nat.zero_le _, fun i h => (by cases h), rfl⟩ ?_ ?_
  · simp only [writes, junks, puts, hputs, List.filterMap_cons, List.filterMap_nil, Int.natCast_zero, List.set_cons_zero, List.set_cons_succ, List.take_succ_cons, List.take_nil, List.cons_append, List.nil_append, List.append_nil, ixI]
    (refine Weak.of (by simp [hc0]) ?_ ?_ <;> (repeat' (first | exact WkT.nil | exact WkH.nil _ | exact Le.refl _ | exact Le.junk _ | exact Le1.refl _ | exact Le1.nil _ | exact Le1.tok _ _ _ | exact Le1L.nil | rfl | apply WkT.cons | apply WkH.cons | apply LeB.same | apply LeB.box | apply Le1L.cons | apply Le.agg | apply Le.one)))
  rintro ⟨k, b⟩ ⟨hI, hbi, hb⟩ ih
  simp only [writes, junks, puts, hputs, List.filterMap_cons, List.filterMap_nil, List.set_cons_zero, List.set_cons_succ, List.take_succ_cons, List.take_nil, List.cons_append, List.nil_append, List.append_nil] at hI hbi hb ih ⊢
  by_cases hk : k < l.length
  · obtain ⟨a, ha⟩ : ∃ a, l[k]? = some a := ⟨_, List.getElem?_eq_getElem hk⟩
    have hkk : (k : Int) < l.length := by omega
    rw [drop_at ha, List.foldl_cons] at hb
    have hc := rcount_spec l a.view a.value hl
    obtain ⟨n, hnn⟩ : ∃ n, n = l.countP (isV a.view a.value) := ⟨_, rfl⟩
    rw [← hnn] at hc
    by_cases hcn : need ≤ n
    · cases b with
      | none =>
        have e : betterV l need (ixV l none) a = ixV l (some k) := by
          unfold betterV
          rw [← hnn, decide_eq_true hn, decide_eq_true hcn]
          simp [overV, ixV, ha]
        rw [e] at hb
        have z1 : (-1 : Int) < 0 := by omega
        refine Run.god tab_ok follows_ok Tryd.func27 60 ?_; simp only [ha, hkk, hn, accC, ixI, List.getElem?_map, List.length_map, decide_true, ↓alt_t, ↓alts_t, ↓gone_tt, gslot, Int.reduceNeg, drun, adops, adone, places, mayNeed, freeOk, rdOf, AV.id, wrOf, aops, aone, aop, needs, ext, aev, aconst, aput, aupd, aload, astore, afieldAddr, aindexAddr, acmp, ashift, abin, alen, tab_3, tab_9, tab_24, tab_32, tab_35, ok1, lay, cellsAs, TI.agg, AV.cells, AV.whole, Option.getD_some, Option.bind_some, Option.map_some, List.set_cons_zero, List.set_cons_succ, List.length_cons, List.length_nil, List.getElem?_cons_zero, List.getElem?_cons_succ, List.getElem?_toArray, List.drop_zero, List.drop_succ_cons, List.take_succ_cons, List.take_zero, List.take_nil, List.drop_nil, List.length_map, List.cons_append, List.nil_append, List.append_nil, true_and, and_true, if_true, if_false, Nat.reduceAdd, Nat.reduceLeDiff, Nat.zero_add, Nat.add_zero, decide_true, Nat.reduceLT, Nat.reduceLeDiff, Nat.le_refl, Int.toNat_natCast, List.getD_eq_getElem?_getD, Bool.false_eq_true]
        ((repeat' (apply And.intro)) <;> try (first | rfl | omega | (unfold I64; omega)))
        refine DOps.pure rfl .free rfl rfl (hc) (by simp only [votesA, Int.reduceNeg, aev, Option.getD_some, List.getElem?_cons_zero, List.getElem?_cons_succ, List.map_cons, List.map_nil, List.nil_append, List.append_nil, List.getD_eq_getElem?_getD]; (repeat' (first | exact LeL.nil | exact Le1L.nil | exact Le.refl _ | exact Le1.refl _ | exact Le1.nil _ | exact Le1.tok _ _ _ | exact LeR.one (Le.refl _) | apply LeR.tup | apply LeL.cons | apply Le1L.cons | apply Le.agg | apply Le.one | apply LeR.one))) rfl rfl ?_
        refine DOps.god tab_ok follows_ok Tryd.func27 60 rfl ?_; simp only [hcn, z1, decide_true, ↓alt_t, ↓alts_t, ↓gdone_tt, ↓gdone_ft, gslot, Int.reduceNeg, drun, adops, adone, mayNeed, freeOk, rdOf, wrOf, aops, aone, aop, needs, ext, aev, aconst, aput, aupd, acmp, aarith, ashift, abin, tab_3, ok1, Option.getD_some, Option.bind_some, List.set_cons_zero, List.set_cons_succ, List.getElem?_cons_zero, List.getElem?_cons_succ, List.getElem?_toArray, List.cons_append, List.nil_append, true_and, and_true, if_true, if_false, Nat.reduceAdd, decide_true, List.getD_eq_getElem?_getD, Bool.false_eq_true]
        ((repeat' (apply And.intro)) <;> try (first | rfl | omega | (unfold I64; omega)))
        refine ih (k + 1, some k) _ ⟨by dsimp only; omega, fun i h => (by cases h; exact hk), hb⟩ (by dsimp only; omega) ?_
        simp only [Int.natCast_add, Int.natCast_one, ixI]
        (refine Weak.of (by simp [hc0]) ?_ ?_ <;> (repeat' (first | exact WkT.nil | exact WkH.nil _ | exact Le.refl _ | exact Le.junk _ | exact Le1.refl _ | exact Le1.nil _ | exact Le1.tok _ _ _ | exact Le1L.nil | rfl | apply WkT.cons | apply WkH.cons | apply LeB.same | apply LeB.box | apply Le1L.cons | apply Le.agg | apply Le.one)))
      | some i =>
        have hi := hbi i rfl
        obtain ⟨c, hci⟩ : ∃ c, l[i]? = some c := ⟨_, List.getElem?_eq_getElem hi⟩
        have hii : (i : Int) < l.length := by omega
        have z1 : ¬ (i : Int) < 0 := by omega
        by_cases hv : c.view < a.view
        · have e : betterV l need (ixV l (some i)) a = ixV l (some k) := by
            unfold betterV
            rw [← hnn, decide_eq_true hn, decide_eq_true hcn]
            simp [overV, ixV, ha, hci, cvA, hv]
          rw [e] at hb
          refine Run.god tab_ok follows_ok Tryd.func27 60 ?_; simp only [ha, hkk, hn, accC, ixI, List.getElem?_map, List.length_map, decide_true, ↓alt_t, ↓alts_t, ↓gone_tt, gslot, drun, adops, adone, places, mayNeed, freeOk, rdOf, AV.id, wrOf, aops, aone, aop, needs, ext, aev, aconst, aput, aupd, aload, astore, afieldAddr, aindexAddr, acmp, ashift, abin, alen, tab_3, tab_9, tab_24, tab_32, tab_35, ok1, lay, cellsAs, TI.agg, AV.cells, AV.whole, Option.getD_some, Option.bind_some, Option.map_some, List.set_cons_zero, List.set_cons_succ, List.length_cons, List.length_nil, List.getElem?_cons_zero, List.getElem?_cons_succ, List.getElem?_toArray, List.drop_zero, List.drop_succ_cons, List.take_succ_cons, List.take_zero, List.take_nil, List.drop_nil, List.length_map, List.cons_append, List.nil_append, List.append_nil, true_and, and_true, if_true, if_false, Nat.reduceAdd, Nat.reduceLeDiff, Nat.zero_add, Nat.add_zero, decide_true, Nat.reduceLT, Nat.reduceLeDiff, Nat.le_refl, Int.toNat_natCast, List.getD_eq_getElem?_getD, Bool.false_eq_true]
          ((repeat' (apply And.intro)) <;> try (first | rfl | omega | (unfold I64; omega)))
          refine DOps.pure rfl .free rfl rfl (hc) (by simp only [votesA, aev, Option.getD_some, List.getElem?_cons_zero, List.getElem?_cons_succ, List.map_cons, List.map_nil, List.nil_append, List.append_nil, List.getD_eq_getElem?_getD]; (repeat' (first | exact LeL.nil | exact Le1L.nil | exact Le.refl _ | exact Le1.refl _ | exact Le1.nil _ | exact Le1.tok _ _ _ | exact LeR.one (Le.refl _) | apply LeR.tup | apply LeL.cons | apply Le1L.cons | apply Le.agg | apply Le.one | apply LeR.one))) rfl rfl ?_
          refine DOps.god tab_ok follows_ok Tryd.func27 60 rfl ?_; simp only [hcn, z1, hci, hii, hv, accC, List.getElem?_map, List.length_map, decide_true, decide_false, ↓alt_t, ↓alts_t, ↓alts_f, ↓gdone_tt, ↓gdone_ff, gslot, drun, adops, adone, mayNeed, freeOk, rdOf, AV.id, wrOf, aops, aone, aop, needs, ext, aev, aconst, aput, aupd, aload, afieldAddr, aindexAddr, acmp, aarith, ashift, abin, tab_3, tab_24, tab_32, tab_35, ok1, cellsAs, TI.agg, Option.getD_some, Option.bind_some, Option.map_some, List.set_cons_zero, List.set_cons_succ, List.length_cons, List.length_nil, List.getElem?_cons_zero, List.getElem?_cons_succ, List.getElem?_toArray, List.drop_zero, List.drop_succ_cons, List.take_succ_cons, List.take_zero, List.take_nil, List.length_map, List.cons_append, List.nil_append, true_and, and_true, if_true, if_false, Nat.reduceAdd, Nat.reduceLeDiff, Nat.zero_add, Nat.add_zero, decide_true, decide_false, Nat.reduceLT, Nat.reduceLeDiff, forall_const, reduceCtorEq, false_implies, implies_true, Nat.le_refl, Int.toNat_natCast, List.getD_eq_getElem?_getD, Bool.false_eq_true]
          ((repeat' (apply And.intro)) <;> try (first | rfl | omega | (unfold I64; omega)))
          refine ih (k + 1, some k) _ ⟨by dsimp only; omega, fun i h => (by cases h; exact hk), hb⟩ (by dsimp only; omega) ?_
          simp only [Int.natCast_add, Int.natCast_one, ixI]
          (refine Weak.of (by simp [hc0]) ?_ ?_ <;> (repeat' (first | exact WkT.nil | exact WkH.nil _ | exact Le.refl _ | exact Le.junk _ | exact Le1.refl _ | exact Le1.nil _ | exact Le1.tok _ _ _ | exact Le1L.nil | rfl | apply WkT.cons | apply WkH.cons | apply LeB.same | apply LeB.box | apply Le1L.cons | apply Le.agg | apply Le.one)))
        · have e : betterV l need (ixV l (some i)) a = ixV l (some i) := by
            unfold betterV
            rw [← hnn, decide_eq_true hn, decide_eq_true hcn]
            simp [overV, ixV, hci, cvA, hv]
          rw [e] at hb
          refine Run.god tab_ok follows_ok Tryd.func27 60 ?_; simp only [ha, hkk, hn, accC, ixI, List.getElem?_map, List.length_map, decide_true, ↓alt_t, ↓alts_t, ↓gone_tt, gslot, drun, adops, adone, places, mayNeed, freeOk, rdOf, AV.id, wrOf, aops, aone, aop, needs, ext, aev, aconst, aput, aupd, aload, astore, afieldAddr, aindexAddr, acmp, ashift, abin, alen, tab_3, tab_9, tab_24, tab_32, tab_35, ok1, lay, cellsAs, TI.agg, AV.cells, AV.whole, Option.getD_some, Option.bind_some, Option.map_some, List.set_cons_zero, List.set_cons_succ, List.length_cons, List.length_nil, List.getElem?_cons_zero, List.getElem?_cons_succ, List.getElem?_toArray, List.drop_zero, List.drop_succ_cons, List.take_succ_cons, List.take_zero, List.take_nil, List.drop_nil, List.length_map, List.cons_append, List.nil_append, List.append_nil, true_and, and_true, if_true, if_false, Nat.reduceAdd, Nat.reduceLeDiff, Nat.zero_add, Nat.add_zero, decide_true, Nat.reduceLT, Nat.reduceLeDiff, Nat.le_refl, Int.toNat_natCast, List.getD_eq_getElem?_getD, Bool.false_eq_true]
          ((repeat' (apply And.intro)) <;> try (first | rfl | omega | (unfold I64; omega)))
          refine DOps.pure rfl .free rfl rfl (hc) (by simp only [votesA, aev, Option.getD_some, List.getElem?_cons_zero, List.getElem?_cons_succ, List.map_cons, List.map_nil, List.nil_append, List.append_nil, List.getD_eq_getElem?_getD]; (repeat' (first | exact LeL.nil | exact Le1L.nil | exact Le.refl _ | exact Le1.refl _ | exact Le1.nil _ | exact Le1.tok _ _ _ | exact LeR.one (Le.refl _) | apply LeR.tup | apply LeL.cons | apply Le1L.cons | apply Le.agg | apply Le.one | apply LeR.one))) rfl rfl ?_
          refine DOps.god tab_ok follows_ok Tryd.func27 60 rfl ?_; simp only [hcn, z1, hci, hii, hv, accC, List.getElem?_map, List.length_map, decide_true, decide_false, ↓alt_f, ↓alts_t, ↓alts_f, ↓gdone_tt, ↓gdone_ff, gslot, drun, adops, adone, mayNeed, freeOk, rdOf, AV.id, wrOf, aops, aone, aop, needs, ext, aev, aconst, aput, aupd, aload, afieldAddr, aindexAddr, acmp, aarith, ashift, abin, tab_3, tab_24, tab_32, tab_35, ok1, cellsAs, TI.agg, Option.getD_some, Option.bind_some, Option.map_some, List.set_cons_zero, List.set_cons_succ, List.length_cons, List.length_nil, List.getElem?_cons_zero, List.getElem?_cons_succ, List.getElem?_toArray, List.drop_zero, List.drop_succ_cons, List.take_succ_cons, List.take_zero, List.take_nil, List.length_map, List.cons_append, List.nil_append, true_and, and_true, if_true, if_false, Nat.reduceAdd, Nat.reduceLeDiff, Nat.zero_add, Nat.add_zero, decide_true, decide_false, Nat.reduceLT, Nat.reduceLeDiff, forall_const, reduceCtorEq, false_implies, implies_true, Nat.le_refl, Int.toNat_natCast, List.getD_eq_getElem?_getD, Bool.false_eq_true]
          ((repeat' (apply And.intro)) <;> try (first | rfl | omega | (unfold I64; omega)))
          refine ih (k + 1, some i) _ ⟨by dsimp only; omega, hbi, hb⟩ (by dsimp only; omega) ?_
          simp only [Int.natCast_add, Int.natCast_one, ixI]
          (refine Weak.of (by simp [hc0]) ?_ ?_ <;> (repeat' (first | exact WkT.nil | exact WkH.nil _ | exact Le.refl _ | exact Le.junk _ | exact Le1.refl _ | exact Le1.nil _ | exact Le1.tok _ _ _ | exact Le1L.nil | rfl | apply WkT.cons | apply WkH.cons | apply LeB.same | apply LeB.box | apply Le1L.cons | apply Le.agg | apply Le.one)))
    · have e : betterV l need (ixV l b) a = ixV l b := by
        unfold betterV
        rw [← hnn, decide_eq_false hcn]
        simp
      rw [e] at hb
      refine Run.god tab_ok follows_ok Tryd.func27 60 ?_; simp only [ha, hkk, hn, accC, List.getElem?_map, List.length_map, decide_true, ↓alt_t, ↓alts_t, ↓gone_tt, gslot, drun, adops, adone, places, mayNeed, freeOk, rdOf, AV.id, wrOf, aops, aone, aop, needs, ext, aev, aconst, aput, aupd, aload, astore, afieldAddr, aindexAddr, acmp, ashift, abin, alen, tab_3, tab_9, tab_24, tab_32, tab_35, ok1, lay, cellsAs, TI.agg, AV.cells, AV.whole, Option.getD_some, Option.bind_some, Option.map_some, List.set_cons_zero, List.set_cons_succ, List.length_cons, List.length_nil, List.getElem?_cons_zero, List.getElem?_cons_succ, List.getElem?_toArray, List.drop_zero, List.drop_succ_cons, List.take_succ_cons, List.take_zero, List.take_nil, List.drop_nil, List.length_map, List.cons_append, List.nil_append, List.append_nil, true_and, and_true, if_true, if_false, Nat.reduceAdd, Nat.reduceLeDiff, Nat.zero_add, Nat.add_zero, decide_true, Nat.reduceLT, Nat.reduceLeDiff, Nat.le_refl, Int.toNat_natCast, List.getD_eq_getElem?_getD, Bool.false_eq_true]
      ((repeat' (apply And.intro)) <;> try (first | rfl | omega | (unfold I64; omega)))
      refine DOps.pure rfl .free rfl rfl (hc) (by simp only [votesA, aev, Option.getD_some, List.getElem?_cons_zero, List.getElem?_cons_succ, List.map_cons, List.map_nil, List.nil_append, List.append_nil, List.getD_eq_getElem?_getD]; (repeat' (first | exact LeL.nil | exact Le1L.nil | exact Le.refl _ | exact Le1.refl _ | exact Le1.nil _ | exact Le1.tok _ _ _ | exact LeR.one (Le.refl _) | apply LeR.tup | apply LeL.cons | apply Le1L.cons | apply Le.agg | apply Le.one | apply LeR.one))) rfl rfl ?_
      refine DOps.god tab_ok follows_ok Tryd.func27 60 rfl ?_; simp only [hcn, decide_false, ↓alt_f, ↓alts_f, ↓gdone_tf, gslot, drun, adops, adone, mayNeed, freeOk, rdOf, wrOf, aops, aone, aop, needs, ext, aev, aconst, aput, aupd, acmp, aarith, ashift, abin, tab_3, ok1, Option.getD_some, Option.bind_some, List.set_cons_zero, List.set_cons_succ, List.getElem?_cons_zero, List.getElem?_cons_succ, List.getElem?_toArray, List.cons_append, List.nil_append, true_and, and_true, if_true, if_false, Nat.reduceAdd, decide_false, List.getD_eq_getElem?_getD, Bool.false_eq_true]
      ((repeat' (apply And.intro)) <;> try (first | rfl | omega | (unfold I64; omega)))
      refine ih (k + 1, b) _ ⟨by dsimp only; omega, hbi, hb⟩ (by dsimp only; omega) ?_
      simp only [Int.natCast_add, Int.natCast_one]
      (refine Weak.of (by simp [hc0]) ?_ ?_ <;> (repeat' (first | exact WkT.nil | exact WkH.nil _ | exact Le.refl _ | exact Le.junk _ | exact Le1.refl _ | exact Le1.nil _ | exact Le1.tok _ _ _ | exact Le1L.nil | rfl | apply WkT.cons | apply WkH.cons | apply LeB.same | apply LeB.box | apply Le1L.cons | apply Le.agg | apply Le.one)))
  · obtain rfl : k = l.length := by omega
    rw [List.drop_length, List.foldl_nil] at hb
    rw [hb]
    have hkk : ¬ (l.length : Int) < l.length := by omega
    cases b with
    | none =>
      have z1 : (-1 : Int) < 0 := by omega
      refine Run.god tab_ok follows_ok Tryd.func27 60 ?_; simp only [Tryd.results27, hkk, ixI, z1, List.length_map, decide_true, decide_false, ↓alt_t, ↓alt_f, ↓alts_f, ↓gone_tf, gslot, Int.reduceNeg, drun, aops, aone, afin, ares, aresL, ares1, aresOk, aresOk1, aop, needs, ext, aev, aconst, aput, aupd, aload, afieldAddr, acmp, ashift, abin, alen, tab_3, tab_24, tab_32, ok1, cellsAs, TI.agg, exitTo, Option.getD_some, Option.bind_some, Option.map_some, List.set_cons_zero, List.set_cons_succ, List.length_cons, List.length_nil, List.getElem?_cons_zero, List.getElem?_cons_succ, List.getElem?_toArray, List.drop_zero, List.take_succ_cons, List.take_nil, List.length_map, List.cons_append, List.nil_append, true_and, and_true, if_true, if_false, Nat.zero_add, Nat.add_zero, beq_self_eq_true, decide_true, decide_false, Nat.le_refl, List.getD_eq_getElem?_getD, Bool.false_eq_true]
      simp only [ixV, bestVA]
      (repeat' (first | exact LeL.nil | exact Le1L.nil | exact Le.refl _ | exact Le1.refl _ | exact Le1.nil _ | exact Le1.tok _ _ _ | exact LeR.one (Le.refl _) | apply LeR.tup | apply LeL.cons | apply Le1L.cons | apply Le.agg | apply Le.one | apply LeR.one))
    | some i =>
      have hi := hbi i rfl
      obtain ⟨c, hci⟩ : ∃ c, l[i]? = some c := ⟨_, List.getElem?_eq_getElem hi⟩
      have hii : (i : Int) < l.length := by omega
      have z1 : ¬ (i : Int) < 0 := by omega
      refine Run.god tab_ok follows_ok Tryd.func27 60 ?_; simp only [Tryd.results27, hkk, ixI, z1, hci, hii, accC, List.getElem?_map, List.length_map, decide_false, ↓alt_f, ↓alts_f, ↓gone_tf, gslot, drun, adops, adone, places, mayNeed, freeOk, rdOf, AV.id, wrOf, aops, aone, afin, ares, aresL, ares1, aresOk, aresOk1, aop, needs, ext, aev, aconst, aput, aupd, aload, afieldAddr, aindexAddr, acmp, ashift, abin, alen, tab_3, tab_9, tab_24, tab_32, tab_35, ok1, cellsAs, TI.agg, exitTo, Option.getD_some, Option.bind_some, Option.map_some, List.set_cons_zero, List.set_cons_succ, List.length_cons, List.length_nil, List.getElem?_cons_zero, List.getElem?_cons_succ, List.getElem?_toArray, List.drop_zero, List.drop_succ_cons, List.take_succ_cons, List.take_zero, List.take_nil, List.length_map, List.cons_append, List.nil_append, List.append_nil, true_and, and_true, if_true, if_false, Nat.reduceAdd, Nat.reduceLeDiff, Nat.zero_add, Nat.add_zero, beq_self_eq_true, decide_false, Nat.reduceLT, Nat.reduceLeDiff, forall_const, reduceCtorEq, false_implies, implies_true, Nat.le_refl, Int.toNat_natCast, List.getD_eq_getElem?_getD, Bool.false_eq_true]
      ((repeat' (apply And.intro)) <;> try (first | rfl | omega | (unfold I64; omega)))
      simp only [ixV, bestVA, hci, Option.map_some, cvA]
      (repeat' (first | exact LeL.nil | exact Le1L.nil | exact Le.refl _ | exact Le1.refl _ | exact Le1.nil _ | exact Le1.tok _ _ _ | exact LeR.one (Le.refl _) | apply LeR.tup | apply LeL.cons | apply Le1L.cons | apply Le.agg | apply Le.one | apply LeR.one))
end Go.Proofs.YtgonmnjgodleeaaDoor
