/-
  Votes: whether they may be, rows of them, told by their shadows.
-/
import Derived.Test.YtgonmnjgodleeaaDoorRz
namespace Go.Proofs.YtgonmnjgodleeaaDoor
open Go.RowKit
theorem drop_at {α : Type} {l : List α} {k : Nat} {x : α} (hx : l[k]? = some x) : l.drop k = x :: l.drop (k + 1) := by
  obtain ⟨hk, rfl⟩ := List.getElem?_eq_some_iff.1 hx
  exact List.drop_eq_getElem_cons hk
set_option maxRecDepth 20000 in
theorem may18_spec (a : Acc) : ASpec Tryd.prog 38 [encA a] (.bool (mayA a)) := by
  obtain ⟨b, v, x⟩ := a
  refine ⟨⟨_, Tryd.func38, by kernel_rfl, rfl⟩, ACall.of Tryd.func38 rfl fun c0 hc0 => ?_⟩; simp only [Tryd.ntmps38, List.length_cons, List.length_nil, Nat.reduceAdd, Nat.reduceSub, List.replicate_succ, List.replicate_zero, List.cons_append, List.nil_append]; refine Run.god tab_ok follows_ok Tryd.func38 60 ?_; simp (config := { maxSteps := 2000000 }) +contextual only [Tryd.results38, encA, accC, mayA, ↓alts_t, ↓alts_f, alts, ↓gone_tt, ↓gone_tf, gslot, drun, aops, aone, afin, ares, aresL, ares1, aresOk, aresOk1, aop, needs, ext, aev, aconst, aput, aupd, aload, afieldAddr, acmp, ashift, abin, alen, tab_3, tab_9, tab_35, ok1, cellsAs, TI.agg, AV.cells, AV.whole, Option.getD_some, Option.bind_some, Option.map_some, List.set_cons_zero, List.set_cons_succ, List.length_cons, List.length_nil, List.getElem?_cons_zero, List.getElem?_cons_succ, List.getElem?_toArray, List.drop_zero, List.drop_succ_cons, List.take_succ_cons, List.take_zero, List.take_nil, List.cons_append, List.nil_append, true_and, and_true, if_true, if_false, Nat.reduceAdd, Nat.reduceLeDiff, Nat.zero_add, Nat.add_zero, Bool.and_self, Bool.true_and, Bool.and_false, Bool.false_and, decide_eq_true_eq, decide_eq_false_iff_not, decide_true, decide_false, Nat.reduceLeDiff, Nat.le_refl, List.getD_eq_getElem?_getD, Bool.false_eq_true]
  (repeat' (first | (intro _) | (apply And.intro)))
  all_goals try (first | rfl | (repeat' (first | exact LeL.nil | exact Le1L.nil | exact Le.refl _ | exact Le1.refl _ | exact Le1.nil _ | exact Le1.tok _ _ _ | exact LeR.one (Le.refl _) | apply LeR.tup | apply LeL.cons | apply Le1L.cons | apply Le.agg | apply Le.one | apply LeR.one)))
set_option maxRecDepth 20000 in
theorem rmay18_spec (a : Acc) : ASpec Tryd.prog 21 [encA a] (.bool (mayA a)) := by
  obtain ⟨b, v, x⟩ := a
  refine ⟨⟨_, Tryd.func21, by kernel_rfl, rfl⟩, ACall.of Tryd.func21 rfl fun c0 hc0 => ?_⟩; simp only [Tryd.ntmps21, List.length_cons, List.length_nil, Nat.reduceAdd, Nat.reduceSub, List.replicate_succ, List.replicate_zero, List.cons_append, List.nil_append]; refine Run.god tab_ok follows_ok Tryd.func21 60 ?_; simp (config := { maxSteps := 2000000 }) +contextual only [Tryd.results21, encA, accC, mayA, ↓alts_t, ↓alts_f, alts, ↓gone_tt, ↓gone_tf, gslot, drun, aops, aone, afin, ares, aresL, ares1, aresOk, aresOk1, aop, needs, ext, aev, aconst, aput, aupd, aload, afieldAddr, acmp, ashift, abin, alen, tab_3, tab_9, tab_35, ok1, cellsAs, TI.agg, AV.cells, AV.whole, Option.getD_some, Option.bind_some, Option.map_some, List.set_cons_zero, List.set_cons_succ, List.length_cons, List.length_nil, List.getElem?_cons_zero, List.getElem?_cons_succ, List.getElem?_toArray, List.drop_zero, List.drop_succ_cons, List.take_succ_cons, List.take_zero, List.take_nil, List.cons_append, List.nil_append, true_and, and_true, if_true, if_false, Nat.reduceAdd, Nat.reduceLeDiff, Nat.zero_add, Nat.add_zero, Bool.and_self, Bool.true_and, Bool.and_false, Bool.false_and, decide_eq_true_eq, decide_eq_false_iff_not, decide_true, decide_false, Nat.reduceLeDiff, Nat.le_refl, List.getD_eq_getElem?_getD, Bool.false_eq_true]
  (repeat' (first | (intro _) | (apply And.intro)))
  all_goals try (first | rfl | (repeat' (first | exact LeL.nil | exact Le1L.nil | exact Le.refl _ | exact Le1.refl _ | exact Le1.nil _ | exact Le1.tok _ _ _ | exact LeR.one (Le.refl _) | apply LeR.tup | apply LeL.cons | apply Le1L.cons | apply Le.agg | apply Le.one | apply LeR.one)))
def ofA : List Acc → AV
  | [] => .tup [.int .i64 (-1), .str [], .bool false]
  | a :: _ => .tup [.int .i64 a.view, .str a.value, .bool true]
set_option maxRecDepth 20000 in
theorem of_spec (p : List Acc) : ASpec Tryd.prog 18 [votesA p] (ofA p) := by
  match p with
  | [] =>
    refine ⟨⟨_, Tryd.func18, by kernel_rfl, rfl⟩, ACall.of Tryd.func18 rfl fun c0 hc0 => ?_⟩; simp only [Tryd.ntmps18, List.length_cons, List.length_nil, Nat.reduceAdd, Nat.reduceSub, List.replicate_succ, List.replicate_zero, List.cons_append, List.nil_append]; refine Run.god tab_ok follows_ok Tryd.func18 60 ?_; simp only [Tryd.results18, votesA, Int.natCast_zero, ↓alt_t, Int.reduceNeg, drun, aops, aone, afin, ares, aresL, ares1, aresOk, aresOk1, aop, needs, ext, aev, aconst, aput, aupd, acmp, ashift, abin, alen, tab_3, tab_24, ok1, Option.getD_some, Option.bind_some, Option.map_some, List.set_cons_zero, List.set_cons_succ, List.length_nil, List.getElem?_cons_zero, List.getElem?_cons_succ, List.map_nil, List.nil_append, true_and, and_true, if_true, if_false, decide_true, List.getD_eq_getElem?_getD, Bool.false_eq_true]
    simp only [ofA]
    (repeat' (first | exact LeL.nil | exact Le1L.nil | exact Le.refl _ | exact Le1.refl _ | exact Le1.nil _ | exact Le1.tok _ _ _ | exact LeR.one (Le.refl _) | apply LeR.tup | apply LeL.cons | apply Le1L.cons | apply Le.agg | apply Le.one | apply LeR.one))
  | a :: p =>
    have hl : ¬ ((p.length + 1 : Nat) : Int) = 0 := by omega
    refine ⟨⟨_, Tryd.func18, by kernel_rfl, rfl⟩, ACall.of Tryd.func18 rfl fun c0 hc0 => ?_⟩; simp only [Tryd.ntmps18, List.length_cons, List.length_nil, Nat.reduceAdd, Nat.reduceSub, List.replicate_succ, List.replicate_zero, List.cons_append, List.nil_append]; refine Run.god tab_ok follows_ok Tryd.func18 60 ?_; simp only [Tryd.results18, votesA, hl, accC, List.length_map, Int.toNat_zero, ↓alt_f, Int.reduceLE, drun, adops, adone, places, mayNeed, freeOk, rdOf, AV.id, wrOf, aops, aone, afin, ares, aresL, ares1, aresOk, aresOk1, aop, needs, ext, aev, aconst, aput, aupd, aload, afieldAddr, aindexAddr, acmp, ashift, abin, alen, tab_3, tab_9, tab_24, tab_35, ok1, cellsAs, TI.agg, Option.getD_some, Option.bind_some, Option.map_some, List.set_cons_zero, List.set_cons_succ, List.length_cons, List.length_nil, List.getElem?_cons_zero, List.getElem?_cons_succ, List.drop_zero, List.drop_succ_cons, List.take_succ_cons, List.take_zero, List.take_nil, List.map_cons, List.length_map, List.cons_append, List.nil_append, List.append_nil, true_and, and_true, if_true, if_false, Nat.reduceAdd, Nat.reduceLeDiff, Nat.zero_add, decide_false, Nat.reduceLT, Nat.reduceLeDiff, forall_const, reduceCtorEq, false_implies, implies_true, Nat.le_refl, List.getD_eq_getElem?_getD, Bool.false_eq_true]
    ((repeat' (apply And.intro)) <;> try (first | rfl | omega | (unfold I64; omega)))
    simp only [ofA]
    (repeat' (first | exact LeL.nil | exact Le1L.nil | exact Le.refl _ | exact Le1.refl _ | exact Le1.nil _ | exact Le1.tok _ _ _ | exact LeR.one (Le.refl _) | apply LeR.tup | apply LeL.cons | apply Le1L.cons | apply Le.agg | apply Le.one | apply LeR.one))
def pvd (r : Rp) : Int := match r.proof with | [] => -1 | a :: _ => a.view
/-- Votes in the order of those who gave them, from behind b on. -/
def rTb : Int → List Acc → Bool
  | _, [] => true
  | b, a :: l => mayA a && decide (b < a.by_) && rTb a.by_ l
theorem rTb_eq : ∀ (l : List Acc) (b : Int), rTb b l = (l.all mayA && rises b (l.map (·.by_)))
  | [], b => rfl
  | a :: l, b => by
    rw [rTb, rTb_eq l a.by_, List.all_cons, List.map_cons, rises]
    cases mayA a <;> cases decide (b < a.by_) <;> simp
theorem rightT_rTb (l : List Acc) : rightT l = rTb (-1) l := (rTb_eq l (-1)).symm
def pby (l : List Acc) : Nat → Int
  | 0 => -1
  | k + 1 => ((l[k]?).map (·.by_)).getD (-1)
theorem mayA_by {a : Acc} (h : mayA a = true) : -1 < a.by_ := by
  simp only [mayA, Bool.and_eq_true, decide_eq_true_eq] at h; omega
set_option maxRecDepth 20000 in
theorem right18_spec (l : List Acc) (hl : l.length ≤ 1000000) : ASpec Tryd.prog 30 [.agg [votesA l]] (.bool (rightT l)) := by
  rw [rightT_rTb]
  refine ⟨⟨_, Tryd.func30, by kernel_rfl, rfl⟩, ACall.of Tryd.func30 rfl fun c0 hc0 => ?_⟩; simp only [Tryd.ntmps30, List.length_cons, List.length_nil, Nat.reduceAdd, Nat.reduceSub, List.replicate_succ, List.replicate_zero, List.cons_append, List.nil_append]; refine Run.god tab_ok follows_ok Tryd.func30 60 ?_; simp only [votesA, List.length_map, Int.reduceNeg, drun, aops, aone, aop, needs, ext, aev, aconst, aput, aupd, aload, afieldAddr, alen, tab_24, tab_26, ok1, cellsAs, TI.agg, AV.cells, AV.whole, Option.getD_some, Option.bind_some, Option.map_some, List.set_cons_zero, List.set_cons_succ, List.length_cons, List.length_nil, List.getElem?_cons_zero, List.getElem?_cons_succ, List.drop_zero, List.take_succ_cons, List.take_nil, List.length_map, List.cons_append, List.nil_append, true_and, if_true, if_false, Nat.zero_add, Nat.add_zero, Nat.le_refl, List.getD_eq_getElem?_getD, Bool.false_eq_true]
  refine Run.loopV (α := Nat) (fun k => k ≤ l.length ∧ rTb (-1) l = rTb (pby l k) (l.drop k)) (fun k => [(8, .int .i64 k)]) 1 (fun _ => []) (fun k => l.length - k) 0 ⟨Nat.zero_le _, rfl⟩ ?_ ?_
  · simp only [writes, junks, puts, hputs, List.filterMap_cons, List.filterMap_nil, Int.natCast_zero, List.set_cons_zero, List.set_cons_succ, List.take_succ_cons, List.take_nil, List.cons_append, List.nil_append, List.append_nil]
    (refine Weak.of (by simp [hc0]) ?_ ?_ <;> (repeat' (first | exact WkT.nil | exact WkH.nil _ | exact Le.refl _ | exact Le.junk _ | exact Le1.refl _ | exact Le1.nil _ | exact Le1.tok _ _ _ | exact Le1L.nil | rfl | apply WkT.cons | apply WkH.cons | apply LeB.same | apply LeB.box | apply Le1L.cons | apply Le.agg | apply Le.one)))
  · rintro k ⟨hI, hrd⟩ ih
    simp only [writes, junks, puts, hputs, List.filterMap_cons, List.filterMap_nil, List.set_cons_zero, List.set_cons_succ, List.take_succ_cons, List.take_nil, List.cons_append, List.nil_append, List.append_nil] at ih ⊢
    by_cases hk : k < l.length
    · obtain ⟨x, hx⟩ : ∃ x, l[k]? = some x := ⟨_, List.getElem?_eq_getElem hk⟩
      have hkk : (k : Int) < l.length := by omega
      rw [drop_at hx, rTb] at hrd
      have hm := may18_spec x
      cases hmx : mayA x with
      | false =>
        rw [hmx] at hm hrd
        refine Run.god tab_ok follows_ok Tryd.func30 60 ?_; simp only [hx, hkk, accC, List.getElem?_map, List.length_map, ↓alt_t, Int.reduceNeg, drun, adops, adone, places, mayNeed, freeOk, rdOf, AV.id, wrOf, aops, aone, aop, needs, ext, aev, aput, aupd, aload, astore, aindexAddr, acmp, ashift, abin, tab_3, tab_24, tab_35, ok1, lay, cellsAs, TI.agg, AV.cells, AV.whole, Option.getD_some, Option.bind_some, Option.map_some, List.set_cons_zero, List.set_cons_succ, List.length_cons, List.length_nil, List.getElem?_cons_zero, List.getElem?_cons_succ, List.drop_zero, List.drop_succ_cons, List.take_succ_cons, List.take_zero, List.take_nil, List.drop_nil, List.length_map, List.cons_append, List.nil_append, List.append_nil, true_and, and_true, if_true, if_false, Nat.reduceAdd, Nat.zero_add, decide_true, Nat.reduceLT, Nat.le_refl, Int.toNat_natCast, List.getD_eq_getElem?_getD, Bool.false_eq_true]
        ((repeat' (apply And.intro)) <;> try (first | rfl | omega | (unfold I64; omega)))
        refine DOps.pure rfl .free rfl rfl (hm) (by simp only [accC, encA, aev, Option.getD_some, List.getElem?_cons_zero, List.getElem?_cons_succ, List.map_cons, List.map_nil, List.nil_append, List.append_nil, List.getD_eq_getElem?_getD]; (repeat' (first | exact LeL.nil | exact Le1L.nil | exact Le.refl _ | exact Le1.refl _ | exact Le1.nil _ | exact Le1.tok _ _ _ | exact LeR.one (Le.refl _) | apply LeR.tup | apply LeL.cons | apply Le1L.cons | apply Le.agg | apply Le.one | apply LeR.one))) rfl rfl ?_
        refine DOps.god tab_ok follows_ok Tryd.func30 60 rfl ?_; simp only [Tryd.results30, ↓alt_t, ↓alts_t, ↓gdone_ft, gslot, Int.reduceNeg, drun, adops, adone, mayNeed, freeOk, rdOf, wrOf, aops, aone, afin, ares, aresL, ares1, aresOk, aresOk1, aop, needs, ext, aev, aconst, aput, aupd, ok1, Option.getD_some, Option.bind_some, Option.map_some, List.set_cons_zero, List.set_cons_succ, List.getElem?_cons_zero, List.getElem?_cons_succ, List.getElem?_toArray, List.cons_append, List.nil_append, true_and, and_true, if_false, Nat.reduceAdd, Bool.not_false, List.getD_eq_getElem?_getD, Bool.false_eq_true]
        rw [hrd]
        ((repeat' (apply And.intro)) <;> try (first | rfl | omega | (unfold I64; omega)))
        (repeat' (first | exact LeL.nil | exact Le1L.nil | exact Le.refl _ | exact Le1.refl _ | exact Le1.nil _ | exact Le1.tok _ _ _ | exact LeR.one (Le.refl _) | apply LeR.tup | apply LeL.cons | apply Le1L.cons | apply Le.agg | apply Le.one | apply LeR.one))
      | true =>
        rw [hmx] at hm hrd
        match k, hx, hk, hkk, hrd, ih with
        | 0, hx, hk, hkk, hrd, ih =>
          have hb := mayA_by hmx
          have hkk0 : (0 : Int) < l.length := by omega
          refine Run.god tab_ok follows_ok Tryd.func30 60 ?_; simp only [hx, hkk0, accC, List.getElem?_map, List.length_map, Int.natCast_zero, Int.toNat_zero, ↓alt_t, Int.reduceLE, Int.reduceNeg, drun, adops, adone, places, mayNeed, freeOk, rdOf, AV.id, wrOf, aops, aone, aop, needs, ext, aev, aput, aupd, aload, astore, aindexAddr, acmp, ashift, abin, tab_3, tab_24, tab_35, ok1, lay, cellsAs, TI.agg, AV.cells, AV.whole, Option.getD_some, Option.bind_some, Option.map_some, List.set_cons_zero, List.set_cons_succ, List.length_cons, List.length_nil, List.getElem?_cons_zero, List.getElem?_cons_succ, List.drop_zero, List.drop_succ_cons, List.take_succ_cons, List.take_zero, List.take_nil, List.drop_nil, List.length_map, List.cons_append, List.nil_append, List.append_nil, true_and, and_true, if_true, if_false, Nat.reduceAdd, Nat.zero_add, decide_true, Nat.reduceLT, Nat.le_refl, List.getD_eq_getElem?_getD, Bool.false_eq_true]
          ((repeat' (apply And.intro)) <;> try (first | rfl | omega | (unfold I64; omega)))
          refine DOps.pure rfl .free rfl rfl (hm) (by simp only [accC, encA, aev, Option.getD_some, List.getElem?_cons_zero, List.getElem?_cons_succ, List.map_cons, List.map_nil, List.nil_append, List.append_nil, List.getD_eq_getElem?_getD]; (repeat' (first | exact LeL.nil | exact Le1L.nil | exact Le.refl _ | exact Le1.refl _ | exact Le1.nil _ | exact Le1.tok _ _ _ | exact LeR.one (Le.refl _) | apply LeR.tup | apply LeL.cons | apply Le1L.cons | apply Le.agg | apply Le.one | apply LeR.one))) rfl rfl ?_
          refine DOps.god tab_ok follows_ok Tryd.func30 60 rfl ?_; simp only [↓alt_f, ↓alts_f, ↓gdone_tf, ↓gdone_ff, gslot, Int.reduceLT, Int.reduceNeg, drun, adops, adone, mayNeed, freeOk, rdOf, wrOf, aops, aone, aop, needs, ext, aev, aconst, aput, aupd, acmp, aarith, ashift, abin, tab_3, ok1, Option.getD_some, Option.bind_some, List.set_cons_zero, List.set_cons_succ, List.getElem?_cons_zero, List.getElem?_cons_succ, List.getElem?_toArray, List.cons_append, List.nil_append, true_and, and_true, if_true, if_false, Nat.reduceAdd, Bool.not_true, decide_false, List.getD_eq_getElem?_getD, Bool.false_eq_true]
          ((repeat' (apply And.intro)) <;> try (first | rfl | omega | (unfold I64; omega)))
          refine ih 1 _ ⟨by omega, ?_⟩ (by omega) ?_
          · rw [hrd, pby, pby, hx]
            simp [hb]
          · simp only [Int.natCast_one]
            (refine Weak.of (by simp [hc0]) ?_ ?_ <;> (repeat' (first | exact WkT.nil | exact WkH.nil _ | exact Le.refl _ | exact Le.junk _ | exact Le1.refl _ | exact Le1.nil _ | exact Le1.tok _ _ _ | exact Le1L.nil | rfl | apply WkT.cons | apply WkH.cons | apply LeB.same | apply LeB.box | apply Le1L.cons | apply Le.agg | apply Le.one)))
        | j + 1, hx, hk, hkk, hrd, ih =>
          obtain ⟨y, hy⟩ : ∃ y, l[j]? = some y := ⟨_, List.getElem?_eq_getElem (by omega)⟩
          have hj0 : (0 : Int) < ((j + 1 : Nat) : Int) := by omega
          have hj1 : ((j + 1 : Nat) : Int) - 1 = (j : Int) := by omega
          have hp : pby l (j + 1) = y.by_ := by rw [pby, hy]; rfl
          have hp2 : pby l (j + 2) = x.by_ := by rw [pby, hx]; rfl
          rw [hp] at hrd
          by_cases hyx : x.by_ ≤ y.by_
          · have hn : ¬ y.by_ < x.by_ := by omega
            rw [decide_eq_false hn] at hrd
            refine Run.god tab_ok follows_ok Tryd.func30 60 ?_; simp only [hx, hkk, accC, List.getElem?_map, List.length_map, Int.toNat_natCast, ↓alt_t, Int.reduceNeg, drun, adops, adone, places, mayNeed, freeOk, rdOf, AV.id, wrOf, aops, aone, aop, needs, ext, aev, aput, aupd, aload, astore, aindexAddr, acmp, ashift, abin, tab_3, tab_24, tab_35, ok1, lay, cellsAs, TI.agg, AV.cells, AV.whole, Option.getD_some, Option.bind_some, Option.map_some, List.set_cons_zero, List.set_cons_succ, List.length_cons, List.length_nil, List.getElem?_cons_zero, List.getElem?_cons_succ, List.drop_zero, List.drop_succ_cons, List.take_succ_cons, List.take_zero, List.take_nil, List.drop_nil, List.length_map, List.cons_append, List.nil_append, List.append_nil, true_and, and_true, if_true, if_false, Nat.reduceAdd, Nat.zero_add, decide_true, Nat.reduceLT, Nat.le_refl, Int.toNat_natCast, List.getD_eq_getElem?_getD, Bool.false_eq_true]
            ((repeat' (apply And.intro)) <;> try (first | rfl | omega | (unfold I64; omega)))
            refine DOps.pure rfl .free rfl rfl (hm) (by simp only [accC, encA, aev, Option.getD_some, List.getElem?_cons_zero, List.getElem?_cons_succ, List.map_cons, List.map_nil, List.nil_append, List.append_nil, List.getD_eq_getElem?_getD]; (repeat' (first | exact LeL.nil | exact Le1L.nil | exact Le.refl _ | exact Le1.refl _ | exact Le1.nil _ | exact Le1.tok _ _ _ | exact LeR.one (Le.refl _) | apply LeR.tup | apply LeL.cons | apply Le1L.cons | apply Le.agg | apply Le.one | apply LeR.one))) rfl rfl ?_
            refine DOps.god tab_ok follows_ok Tryd.func30 60 rfl ?_; simp only [Tryd.results30, hy, hj0, hj1, hyx, accC, List.getElem?_map, ↓alt_t, ↓alts_t, ↓alts_f, ↓gdone_tt, ↓gdone_ff, gslot, Int.reduceNeg, drun, adops, adone, mayNeed, freeOk, rdOf, AV.id, wrOf, aops, aone, afin, ares, aresL, ares1, aresOk, aresOk1, aop, needs, ext, aev, aconst, aput, aupd, aload, afieldAddr, aindexAddr, acmp, aarith, ashift, abin, tab_3, tab_24, tab_26, tab_35, ok1, cellsAs, TI.agg, Option.getD_some, Option.bind_some, Option.map_some, List.set_cons_zero, List.set_cons_succ, List.length_cons, List.length_nil, List.getElem?_cons_zero, List.getElem?_cons_succ, List.getElem?_toArray, List.drop_zero, List.take_succ_cons, List.take_zero, List.take_nil, List.length_map, List.cons_append, List.nil_append, true_and, and_true, if_true, if_false, Nat.reduceAdd, Nat.reduceLeDiff, Nat.zero_add, Nat.add_zero, Bool.not_true, decide_true, Nat.reduceLT, Nat.reduceLeDiff, forall_const, reduceCtorEq, false_implies, implies_true, Nat.le_refl, Int.toNat_natCast, List.getD_eq_getElem?_getD, Bool.false_eq_true]
            rw [hrd]
            ((repeat' (apply And.intro)) <;> try (first | rfl | omega | (unfold I64; omega)))
            (repeat' (first | exact LeL.nil | exact Le1L.nil | exact Le.refl _ | exact Le1.refl _ | exact Le1.nil _ | exact Le1.tok _ _ _ | exact LeR.one (Le.refl _) | apply LeR.tup | apply LeL.cons | apply Le1L.cons | apply Le.agg | apply Le.one | apply LeR.one))
          · have hn : y.by_ < x.by_ := by omega
            rw [decide_eq_true hn] at hrd
            refine Run.god tab_ok follows_ok Tryd.func30 60 ?_; simp only [hx, hkk, accC, List.getElem?_map, List.length_map, Int.toNat_natCast, ↓alt_t, Int.reduceNeg, drun, adops, adone, places, mayNeed, freeOk, rdOf, AV.id, wrOf, aops, aone, aop, needs, ext, aev, aput, aupd, aload, astore, aindexAddr, acmp, ashift, abin, tab_3, tab_24, tab_35, ok1, lay, cellsAs, TI.agg, AV.cells, AV.whole, Option.getD_some, Option.bind_some, Option.map_some, List.set_cons_zero, List.set_cons_succ, List.length_cons, List.length_nil, List.getElem?_cons_zero, List.getElem?_cons_succ, List.drop_zero, List.drop_succ_cons, List.take_succ_cons, List.take_zero, List.take_nil, List.drop_nil, List.length_map, List.cons_append, List.nil_append, List.append_nil, true_and, and_true, if_true, if_false, Nat.reduceAdd, Nat.zero_add, decide_true, Nat.reduceLT, Nat.le_refl, Int.toNat_natCast, List.getD_eq_getElem?_getD, Bool.false_eq_true]
            ((repeat' (apply And.intro)) <;> try (first | rfl | omega | (unfold I64; omega)))
            refine DOps.pure rfl .free rfl rfl (hm) (by simp only [accC, encA, aev, Option.getD_some, List.getElem?_cons_zero, List.getElem?_cons_succ, List.map_cons, List.map_nil, List.nil_append, List.append_nil, List.getD_eq_getElem?_getD]; (repeat' (first | exact LeL.nil | exact Le1L.nil | exact Le.refl _ | exact Le1.refl _ | exact Le1.nil _ | exact Le1.tok _ _ _ | exact LeR.one (Le.refl _) | apply LeR.tup | apply LeL.cons | apply Le1L.cons | apply Le.agg | apply Le.one | apply LeR.one))) rfl rfl ?_
            refine DOps.god tab_ok follows_ok Tryd.func30 60 rfl ?_; simp only [hy, hj0, hj1, hyx, accC, List.getElem?_map, ↓alt_f, ↓alts_t, ↓alts_f, ↓gdone_tt, ↓gdone_ff, gslot, Int.reduceNeg, drun, adops, adone, mayNeed, freeOk, rdOf, AV.id, wrOf, aops, aone, aop, needs, ext, aev, aconst, aput, aupd, aload, afieldAddr, aindexAddr, acmp, aarith, ashift, abin, tab_3, tab_24, tab_26, tab_35, ok1, cellsAs, TI.agg, Option.getD_some, Option.bind_some, Option.map_some, List.set_cons_zero, List.set_cons_succ, List.length_cons, List.length_nil, List.getElem?_cons_zero, List.getElem?_cons_succ, List.getElem?_toArray, List.drop_zero, List.take_succ_cons, List.take_zero, List.take_nil, List.length_map, List.cons_append, List.nil_append, true_and, and_true, if_true, if_false, Nat.reduceAdd, Nat.reduceLeDiff, Nat.zero_add, Nat.add_zero, Bool.not_true, decide_true, decide_false, Nat.reduceLT, Nat.reduceLeDiff, forall_const, reduceCtorEq, false_implies, implies_true, Nat.le_refl, Int.toNat_natCast, List.getD_eq_getElem?_getD, Bool.false_eq_true]
            ((repeat' (apply And.intro)) <;> try (first | rfl | omega | (unfold I64; omega)))
            refine ih (j + 2) _ ⟨by omega, ?_⟩ (by omega) ?_
            · rw [hrd, hp2]; simp
            · simp only [Int.natCast_add, Int.natCast_one]
              (refine Weak.of (by simp [hc0]) ?_ ?_ <;> (repeat' (first | exact WkT.nil | exact WkH.nil _ | exact Le.refl _ | exact Le.junk _ | exact Le1.refl _ | exact Le1.nil _ | exact Le1.tok _ _ _ | exact Le1L.nil | rfl | apply WkT.cons | apply WkH.cons | apply LeB.same | apply LeB.box | apply Le1L.cons | apply Le.agg | apply Le.one)))
    · obtain rfl : k = l.length := by omega
      have hkk : ¬ (l.length : Int) < l.length := by omega
      rw [List.drop_length, rTb] at hrd
      refine Run.god tab_ok follows_ok Tryd.func30 60 ?_; simp only [Tryd.results30, hkk, ↓alt_f, Int.reduceNeg, drun, aops, aone, afin, ares, aresL, ares1, aresOk, aresOk1, aop, needs, ext, aev, aconst, aput, aupd, acmp, ashift, abin, tab_3, ok1, exitTo, Option.getD_some, Option.bind_some, Option.map_some, List.set_cons_zero, List.set_cons_succ, List.getElem?_cons_zero, List.getElem?_cons_succ, List.cons_append, List.nil_append, true_and, and_true, if_true, if_false, beq_self_eq_true, decide_false, List.getD_eq_getElem?_getD, Bool.false_eq_true]
      rw [hrd]
      (repeat' (first | exact LeL.nil | exact Le1L.nil | exact Le.refl _ | exact Le1.refl _ | exact Le1.nil _ | exact Le1.tok _ _ _ | exact LeR.one (Le.refl _) | apply LeR.tup | apply LeL.cons | apply Le1L.cons | apply Le.agg | apply Le.one | apply LeR.one))
end Go.Proofs.YtgonmnjgodleeaaDoor
