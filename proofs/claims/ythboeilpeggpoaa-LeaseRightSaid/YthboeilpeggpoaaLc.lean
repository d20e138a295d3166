/-
  Books held against each other, and as the document's; told by their shadows.
-/
import Derived.Test.YthboeilpeggpoaaLb
namespace Go.Proofs.Ythboeilpeggpoaa
open Go.RowKit
theorem drop_at {α : Type} {l : List α} {k : Nat} {x : α} (hx : l[k]? = some x) : l.drop k = x :: l.drop (k + 1) := by
  obtain ⟨h, rfl⟩ := List.getElem?_eq_some_iff.1 hx
  exact List.drop_eq_getElem_cons h
theorem drop_eq {α : Type} {l m : List α} {k : Nat} {x y : α} (hx : l[k]? = some x) (hy : m[k]? = some y) : l.drop k = m.drop k ↔ x = y ∧ l.drop (k + 1) = m.drop (k + 1) := by
  rw [drop_at hx, drop_at hy, List.cons.injEq]
theorem dec_eq {p q : Prop} [Decidable p] [Decidable q] (h : p ↔ q) : decide p = decide q := by
  by_cases hp : p
  · rw [decide_eq_true hp, decide_eq_true (h.1 hp)]
  · rw [decide_eq_false hp, decide_eq_false fun hq => hp (h.2 hq)]
theorem ses_eq (x y : Ses) : x = y ↔ (x.id = y.id ∧ x.span = y.span ∧ x.till = y.till) := by
  cases x; cases y; simp
set_option maxRecDepth 20000 in
theorem equalS_spec (l m : List Ses) (hl : l.length ≤ 1000000) : ASpec Try.prog 65 [sesA l, sesA m] (.bool (decide (l = m))) := by
  by_cases hlm : l.length = m.length
  · have hlm' : (l.length : Int) = m.length := by omega
    refine ⟨⟨_, Try.func65, by kernel_rfl, rfl⟩, ACall.of Try.func65 rfl fun c0 hc0 => ?_⟩; simp only [Try.ntmps65, List.length_cons, List.length_nil, Nat.reduceAdd, Nat.reduceSub, List.replicate_succ, List.replicate_zero, List.cons_append, List.nil_append]; refine Run.god tab_ok follows_ok Try.func65 60 ?_; simp only [sesA, List.length_map, hlm', decide_true, eq_self, ↓alt_f, drun, aops, aone, aop, needs, ext, aev, aconst, aput, aupd, acmp, ashift, abin, alen, tab_3, tab_53, ok1, Option.getD_some, Option.bind_some, List.set_cons_zero, List.set_cons_succ, List.getElem?_cons_zero, List.getElem?_cons_succ, List.length_map, List.nil_append, true_and, if_true, if_false, Bool.not_true, decide_true, reduceCtorEq, List.getD_eq_getElem?_getD]
    refine Run.loopV (α := Nat) (fun k => k ≤ m.length ∧ decide (l = m) = decide (l.drop k = m.drop k)) (fun k => [(13, .int .i64 k)]) 0 (fun _ => []) (fun k => m.length - k) 0 ⟨Nat.zero_le _, rfl⟩ ?_ ?_
    · simp only [writes, junks, puts, hputs, List.filterMap_cons, List.filterMap_nil, Int.natCast_zero, List.set_cons_zero, List.set_cons_succ, List.take_nil, List.cons_append, List.nil_append, List.append_nil]
      (refine Weak.of (by simp [hc0]) ?_ ?_ <;> (repeat' (first | exact WkT.nil | exact WkH.nil _ | exact Le.refl _ | exact Le.junk _ | exact Le1.refl _ | exact Le1.nil _ | exact Le1.tok _ _ _ | exact Le1L.nil | rfl | apply WkT.cons | apply WkH.cons | apply LeB.same | apply LeB.box | apply Le1L.cons | apply Le.agg | apply Le.one)))
    · rintro k ⟨hI, hrd⟩ ih
      simp only [writes, junks, puts, hputs, List.filterMap_cons, List.filterMap_nil, List.set_cons_zero, List.set_cons_succ, List.take_nil, List.cons_append, List.nil_append, List.append_nil] at ih ⊢
      by_cases hk : k < m.length
      · obtain ⟨x, hx⟩ : ∃ x, l[k]? = some x := ⟨_, List.getElem?_eq_getElem (by omega)⟩
        obtain ⟨y, hy⟩ : ∃ y, m[k]? = some y := ⟨_, List.getElem?_eq_getElem hk⟩
        have hkk : (k : Int) < m.length := by omega
        rw [dec_eq (drop_eq hx hy)] at hrd
        have hd : (decide (x.id = y.id) && (decide (x.span = y.span) && decide (x.till = y.till))) = decide (x = y) := by
          rw [dec_eq (ses_eq x y)]; simp only [Bool.decide_and]
        by_cases h1 : x = y
        · rw [decide_eq_true h1] at hd
          refine Run.god tab_ok follows_ok Try.func65 60 ?_; simp only [hx, hy, hkk, hlm', hd, sesC, List.getElem?_map, List.length_map, eq_self, ↓alt_t, ↓alt_f, drun, adops, adone, places, mayNeed, freeOk, rdOf, AV.id, wrOf, aops, aone, aop, needs, ext, aev, aconst, aput, aupd, aload, aindexAddr, acmp, aarith, ashift, aeqs, abin, tab_3, tab_53, tab_94, ok1, cellsAs, TI.agg, Option.getD_some, Option.bind_some, Option.map_some, List.set_cons_zero, List.set_cons_succ, List.length_cons, List.length_nil, List.getElem?_cons_zero, List.getElem?_cons_succ, List.take_succ_cons, List.take_nil, List.length_map, List.cons_append, List.nil_append, List.append_nil, true_and, and_true, if_true, if_false, Nat.reduceAdd, Nat.zero_add, Bool.and_true, Bool.not_true, decide_true, Nat.reduceLT, reduceCtorEq, Nat.le_refl, Int.toNat_natCast, List.getD_eq_getElem?_getD]
          ((repeat' (apply And.intro)) <;> try (first | rfl | omega | (unfold I64; omega)))
          refine ih (k + 1) _ ⟨by omega, ?_⟩ (by omega) ?_
          · rw [hrd]; simp [h1]
          · simp only [Int.natCast_add, Int.natCast_one]
            (refine Weak.of (by simp [hc0]) ?_ ?_ <;> (repeat' (first | exact WkT.nil | exact WkH.nil _ | exact Le.refl _ | exact Le.junk _ | exact Le1.refl _ | exact Le1.nil _ | exact Le1.tok _ _ _ | exact Le1L.nil | rfl | apply WkT.cons | apply WkH.cons | apply LeB.same | apply LeB.box | apply Le1L.cons | apply Le.agg | apply Le.one)))
        · rw [decide_eq_false h1] at hd
          refine Run.god tab_ok follows_ok Try.func65 60 ?_; simp only [Try.results65, hx, hy, hkk, hlm', hd, sesC, List.getElem?_map, List.length_map, eq_self, ↓alt_t, drun, adops, adone, places, mayNeed, freeOk, rdOf, AV.id, wrOf, aops, aone, afin, ares, aresL, ares1, aresOk, aresOk1, aop, needs, ext, aev, aconst, aput, aupd, aload, aindexAddr, acmp, ashift, aeqs, abin, tab_3, tab_53, tab_94, ok1, cellsAs, TI.agg, Option.getD_some, Option.bind_some, Option.map_some, List.set_cons_zero, List.set_cons_succ, List.length_cons, List.length_nil, List.getElem?_cons_zero, List.getElem?_cons_succ, List.take_succ_cons, List.take_nil, List.length_map, List.cons_append, List.nil_append, List.append_nil, true_and, and_true, if_true, if_false, Nat.reduceAdd, Nat.zero_add, Bool.and_true, Bool.not_false, decide_true, Nat.reduceLT, reduceCtorEq, Nat.le_refl, Int.toNat_natCast, List.getD_eq_getElem?_getD]
          ((repeat' (apply And.intro)) <;> try (first | rfl | omega | (unfold I64; omega)))
          rw [hrd]
          simp only [h1, false_and, decide_false]
          (repeat' (first | exact LeL.nil | exact Le1L.nil | exact Le.refl _ | exact Le1.refl _ | exact Le1.nil _ | exact Le1.tok _ _ _ | exact LeR.one (Le.refl _) | apply LeR.tup | apply LeL.cons | apply Le1L.cons | apply Le.agg | apply Le.one | apply LeR.one))
      · obtain rfl : k = m.length := by omega
        have hkk : ¬ (m.length : Int) < m.length := by omega
        rw [List.drop_length, ← hlm, List.drop_length] at hrd
        rw [hrd]
        refine Run.god tab_ok follows_ok Try.func65 60 ?_; simp only [Try.results65, hkk, eq_self, ↓alt_f, drun, aops, aone, afin, ares, aresL, ares1, aresOk, aresOk1, aop, needs, ext, aev, aconst, aput, aupd, acmp, ashift, abin, tab_3, ok1, exitTo, Option.getD_some, Option.bind_some, Option.map_some, List.set_cons_zero, List.set_cons_succ, List.getElem?_cons_zero, List.getElem?_cons_succ, List.nil_append, true_and, and_true, if_true, if_false, beq_self_eq_true, decide_true, decide_false, reduceCtorEq, List.getD_eq_getElem?_getD]
        (repeat' (first | exact LeL.nil | exact Le1L.nil | exact Le.refl _ | exact Le1.refl _ | exact Le1.nil _ | exact Le1.tok _ _ _ | exact LeR.one (Le.refl _) | apply LeR.tup | apply LeL.cons | apply Le1L.cons | apply Le.agg | apply Le.one | apply LeR.one))
  · have hlm' : ¬ (l.length : Int) = m.length := by omega
    have e : ¬ l = m := fun h => hlm (by rw [h])
    refine ⟨⟨_, Try.func65, by kernel_rfl, rfl⟩, ACall.of Try.func65 rfl fun c0 hc0 => ?_⟩; simp only [Try.ntmps65, List.length_cons, List.length_nil, Nat.reduceAdd, Nat.reduceSub, List.replicate_succ, List.replicate_zero, List.cons_append, List.nil_append]; refine Run.god tab_ok follows_ok Try.func65 60 ?_; simp only [Try.results65, sesA, List.length_map, hlm', decide_false, eq_self, ↓alt_t, drun, aops, aone, afin, ares, aresL, ares1, aresOk, aresOk1, aop, needs, ext, aev, aconst, aput, aupd, acmp, ashift, abin, alen, tab_3, tab_53, ok1, Option.getD_some, Option.bind_some, Option.map_some, List.set_cons_zero, List.set_cons_succ, List.getElem?_cons_zero, List.getElem?_cons_succ, List.length_map, List.nil_append, true_and, and_true, if_true, if_false, Bool.not_false, decide_false, reduceCtorEq, List.getD_eq_getElem?_getD]
    rw [decide_eq_false e]
    (repeat' (first | exact LeL.nil | exact Le1L.nil | exact Le.refl _ | exact Le1.refl _ | exact Le1.nil _ | exact Le1.tok _ _ _ | exact LeR.one (Le.refl _) | apply LeR.tup | apply LeL.cons | apply Le1L.cons | apply Le.agg | apply Le.one | apply LeR.one))
theorem bk_eq (a b : Bk) : a = b ↔ (a.now = b.now ∧ a.l = b.l) := by cases a; cases b; simp
theorem same10_spec (a b : Bk) (hl : a.l.length ≤ 1000000) : ASpec Try.prog 42 [encB a, encB b] (.bool (decide (a = b))) := by
  have h := equalS_spec a.l b.l hl
  rw [dec_eq (bk_eq a b), Bool.decide_and]
  by_cases hn : a.now = b.now
  · refine ⟨⟨_, Try.func42, by kernel_rfl, rfl⟩, ACall.of Try.func42 rfl fun c0 hc0 => ?_⟩; simp only [Try.ntmps42, List.length_cons, List.length_nil, Nat.reduceAdd, Nat.reduceSub, List.replicate_succ, List.replicate_zero, List.cons_append, List.nil_append]; refine Run.god tab_ok follows_ok Try.func42 60 ?_; simp only [encB, sesA, hn, decide_true, eq_self, ↓alts_t, ↓gone_tt, gslot, drun, aops, aone, aop, needs, ext, aev, aconst, aput, aupd, aload, afieldAddr, acmp, ashift, abin, tab_3, tab_53, tab_55, ok1, cellsAs, TI.agg, AV.cells, AV.whole, Option.getD_some, Option.bind_some, Option.map_some, List.set_cons_zero, List.set_cons_succ, List.length_cons, List.length_nil, List.getElem?_cons_zero, List.getElem?_cons_succ, List.getElem?_toArray, List.drop_zero, List.drop_succ_cons, List.take_succ_cons, List.take_zero, List.take_nil, List.cons_append, List.nil_append, true_and, if_true, if_false, Nat.reduceAdd, Nat.reduceLeDiff, Nat.zero_add, Nat.add_zero, Bool.true_and, decide_true, Nat.reduceLeDiff, reduceCtorEq, Nat.le_refl, List.getD_eq_getElem?_getD]
    refine Ops.pure (Wanted.test 5 true true rfl) rfl rfl (h) (by simp only [sesA, aev, Option.getD_some, List.getElem?_cons_zero, List.getElem?_cons_succ, List.map_cons, List.map_nil, List.nil_append, List.append_nil, List.getD_eq_getElem?_getD]; (repeat' (first | exact LeL.nil | exact Le1L.nil | exact Le.refl _ | exact Le1.refl _ | exact Le1.nil _ | exact Le1.tok _ _ _ | exact LeR.one (Le.refl _) | apply LeR.tup | apply LeL.cons | apply Le1L.cons | apply Le.agg | apply Le.one | apply LeR.one))) rfl rfl ?_
    refine Ops.god tab_ok follows_ok Try.func42 60 ?_; simp only [Try.results42, drun, aops, aone, afin, ares, aresL, ares1, aresOk, aresOk1, aop, needs, ext, aev, aput, aupd, ok1, Option.getD_some, Option.bind_some, Option.map_some, List.set_cons_zero, List.set_cons_succ, List.getElem?_cons_zero, List.getElem?_cons_succ, List.cons_append, List.nil_append, true_and, and_true, if_false, reduceCtorEq, List.getD_eq_getElem?_getD]
    (repeat' (first | exact LeL.nil | exact Le1L.nil | exact Le.refl _ | exact Le1.refl _ | exact Le1.nil _ | exact Le1.tok _ _ _ | exact LeR.one (Le.refl _) | apply LeR.tup | apply LeL.cons | apply Le1L.cons | apply Le.agg | apply Le.one | apply LeR.one))
  · refine ⟨⟨_, Try.func42, by kernel_rfl, rfl⟩, ACall.of Try.func42 rfl fun c0 hc0 => ?_⟩; simp only [Try.ntmps42, List.length_cons, List.length_nil, Nat.reduceAdd, Nat.reduceSub, List.replicate_succ, List.replicate_zero, List.cons_append, List.nil_append]; refine Run.god tab_ok follows_ok Try.func42 60 ?_; simp only [Try.results42, encB, sesA, hn, decide_false, eq_self, ↓alts_f, ↓gone_tf, gslot, drun, aops, aone, afin, ares, aresL, ares1, aresOk, aresOk1, aop, needs, ext, aev, aconst, aput, aupd, aload, afieldAddr, acmp, ashift, abin, tab_3, tab_55, ok1, cellsAs, TI.agg, AV.cells, AV.whole, Option.getD_some, Option.bind_some, Option.map_some, List.set_cons_zero, List.set_cons_succ, List.length_cons, List.length_nil, List.getElem?_cons_zero, List.getElem?_cons_succ, List.getElem?_toArray, List.drop_zero, List.take_succ_cons, List.take_zero, List.cons_append, List.nil_append, true_and, and_true, if_true, if_false, Nat.reduceAdd, Nat.reduceLeDiff, Nat.zero_add, Nat.add_zero, Bool.false_and, decide_false, Nat.reduceLeDiff, reduceCtorEq, List.getD_eq_getElem?_getD]
    (repeat' (first | exact LeL.nil | exact Le1L.nil | exact Le.refl _ | exact Le1.refl _ | exact Le1.nil _ | exact Le1.tok _ _ _ | exact LeR.one (Le.refl _) | apply LeR.tup | apply LeL.cons | apply Le1L.cons | apply Le.agg | apply Le.one | apply LeR.one))
set_option maxRecDepth 20000 in
theorem rsame10_spec (a b : Bk) (hl : a.l.length ≤ 1000000) : ASpec Try.prog 43 [encB a, encB b] (.bool (decide (a = b))) := by
  obtain ⟨n, l⟩ := a
  obtain ⟨n', m⟩ := b
  rw [dec_eq (bk_eq _ _), Bool.decide_and]
  simp only at hl ⊢
  by_cases hn : n = n'
  case neg =>
    refine ⟨⟨_, Try.func43, by kernel_rfl, rfl⟩, ACall.of Try.func43 rfl fun c0 hc0 => ?_⟩; simp only [Try.ntmps43, List.length_cons, List.length_nil, Nat.reduceAdd, Nat.reduceSub, List.replicate_succ, List.replicate_zero, List.cons_append, List.nil_append]; refine Run.god tab_ok follows_ok Try.func43 60 ?_; simp only [Try.results43, encB, sesA, hn, decide_false, eq_self, ↓alt_t, ↓alts_t, ↓gone_ft, gslot, drun, aops, aone, afin, ares, aresL, ares1, aresOk, aresOk1, aop, needs, ext, aev, aconst, aput, aupd, aload, afieldAddr, acmp, ashift, abin, tab_3, tab_60, ok1, cellsAs, TI.agg, AV.cells, AV.whole, Option.getD_some, Option.bind_some, Option.map_some, List.set_cons_zero, List.set_cons_succ, List.length_cons, List.length_nil, List.getElem?_cons_zero, List.getElem?_cons_succ, List.getElem?_toArray, List.drop_zero, List.take_succ_cons, List.take_zero, List.cons_append, List.nil_append, true_and, and_true, if_true, if_false, Nat.reduceAdd, Nat.reduceLeDiff, Nat.zero_add, Nat.add_zero, Bool.false_and, Bool.not_false, decide_false, Nat.reduceLeDiff, reduceCtorEq, List.getD_eq_getElem?_getD]
    (repeat' (first | exact LeL.nil | exact Le1L.nil | exact Le.refl _ | exact Le1.refl _ | exact Le1.nil _ | exact Le1.tok _ _ _ | exact LeR.one (Le.refl _) | apply LeR.tup | apply LeL.cons | apply Le1L.cons | apply Le.agg | apply Le.one | apply LeR.one))
  subst hn
  rw [decide_eq_true rfl, Bool.true_and]
  by_cases hlm : l.length = m.length
  · have hlm' : (l.length : Int) = m.length := by omega
    refine ⟨⟨_, Try.func43, by kernel_rfl, rfl⟩, ACall.of Try.func43 rfl fun c0 hc0 => ?_⟩; simp only [Try.ntmps43, List.length_cons, List.length_nil, Nat.reduceAdd, Nat.reduceSub, List.replicate_succ, List.replicate_zero, List.cons_append, List.nil_append]; refine Run.god tab_ok follows_ok Try.func43 60 ?_; simp only [encB, sesA, List.length_map, hlm', decide_true, eq_self, ↓alt_f, ↓alts_f, ↓gone_ff, gslot, drun, aops, aone, aop, needs, ext, aev, aconst, aput, aupd, aload, afieldAddr, acmp, ashift, abin, alen, tab_3, tab_58, tab_60, ok1, cellsAs, TI.agg, AV.cells, AV.whole, Option.getD_some, Option.bind_some, Option.map_some, List.set_cons_zero, List.set_cons_succ, List.length_cons, List.length_nil, List.getElem?_cons_zero, List.getElem?_cons_succ, List.getElem?_toArray, List.drop_zero, List.drop_succ_cons, List.take_succ_cons, List.take_zero, List.take_nil, List.length_map, List.cons_append, List.nil_append, true_and, if_true, if_false, Nat.reduceAdd, Nat.reduceLeDiff, Nat.zero_add, Nat.add_zero, Bool.not_true, decide_true, Nat.reduceLeDiff, reduceCtorEq, Nat.le_refl, List.getD_eq_getElem?_getD]
    refine Run.loopV (α := Nat) (fun k => k ≤ m.length ∧ decide (l = m) = decide (l.drop k = m.drop k)) (fun k => [(5, .int .i64 k)]) 2 (fun _ => []) (fun k => m.length - k) 0 ⟨Nat.zero_le _, rfl⟩ ?_ ?_
    · simp only [writes, junks, puts, hputs, List.filterMap_cons, List.filterMap_nil, Int.natCast_zero, List.set_cons_zero, List.set_cons_succ, List.take_succ_cons, List.take_nil, List.cons_append, List.nil_append, List.append_nil]
      (refine Weak.of (by simp [hc0]) ?_ ?_ <;> (repeat' (first | exact WkT.nil | exact WkH.nil _ | exact Le.refl _ | exact Le.junk _ | exact Le1.refl _ | exact Le1.nil _ | exact Le1.tok _ _ _ | exact Le1L.nil | rfl | apply WkT.cons | apply WkH.cons | apply LeB.same | apply LeB.box | apply Le1L.cons | apply Le.agg | apply Le.one)))
    · rintro k ⟨hI, hrd⟩ ih
      simp only [writes, junks, puts, hputs, List.filterMap_cons, List.filterMap_nil, List.set_cons_zero, List.set_cons_succ, List.take_succ_cons, List.take_nil, List.cons_append, List.nil_append, List.append_nil] at ih ⊢
      by_cases hk : k < m.length
      · obtain ⟨x, hx⟩ : ∃ x, l[k]? = some x := ⟨_, List.getElem?_eq_getElem (by omega)⟩
        obtain ⟨y, hy⟩ : ∃ y, m[k]? = some y := ⟨_, List.getElem?_eq_getElem hk⟩
        have hkk : (k : Int) < m.length := by omega
        rw [dec_eq (drop_eq hx hy)] at hrd
        have hd : (decide (x.id = y.id) && (decide (x.span = y.span) && decide (x.till = y.till))) = decide (x = y) := by
          rw [dec_eq (ses_eq x y)]; simp only [Bool.decide_and]
        by_cases h1 : x = y
        · rw [decide_eq_true h1] at hd
          refine Run.god tab_ok follows_ok Try.func43 60 ?_; simp only [hx, hy, hkk, hlm', hd, sesC, List.getElem?_map, List.length_map, eq_self, ↓alt_t, ↓alt_f, drun, adops, adone, places, mayNeed, freeOk, rdOf, AV.id, wrOf, aops, aone, aop, needs, ext, aev, aconst, aput, aupd, aload, afieldAddr, aindexAddr, acmp, aarith, ashift, aeqs, abin, alen, tab_3, tab_58, tab_60, tab_93, ok1, cellsAs, TI.agg, Option.getD_some, Option.bind_some, Option.map_some, List.set_cons_zero, List.set_cons_succ, List.length_cons, List.length_nil, List.getElem?_cons_zero, List.getElem?_cons_succ, List.drop_zero, List.drop_succ_cons, List.take_succ_cons, List.take_nil, List.length_map, List.cons_append, List.nil_append, List.append_nil, true_and, and_true, if_true, if_false, Nat.reduceAdd, Nat.zero_add, Bool.and_true, Bool.not_true, decide_true, Nat.reduceLT, reduceCtorEq, Nat.le_refl, Int.toNat_natCast, List.getD_eq_getElem?_getD]
          ((repeat' (apply And.intro)) <;> try (first | rfl | omega | (unfold I64; omega)))
          refine ih (k + 1) _ ⟨by omega, ?_⟩ (by omega) ?_
          · rw [hrd]; simp [h1]
          · simp only [Int.natCast_add, Int.natCast_one]
            (refine Weak.of (by simp [hc0]) ?_ ?_ <;> (repeat' (first | exact WkT.nil | exact WkH.nil _ | exact Le.refl _ | exact Le.junk _ | exact Le1.refl _ | exact Le1.nil _ | exact Le1.tok _ _ _ | exact Le1L.nil | rfl | apply WkT.cons | apply WkH.cons | apply LeB.same | apply LeB.box | apply Le1L.cons | apply Le.agg | apply Le.one)))
        · rw [decide_eq_false h1] at hd
          refine Run.god tab_ok follows_ok Try.func43 60 ?_; simp only [Try.results43, hx, hy, hkk, hlm', hd, sesC, List.getElem?_map, List.length_map, eq_self, ↓alt_t, drun, adops, adone, places, mayNeed, freeOk, rdOf, AV.id, wrOf, aops, aone, afin, ares, aresL, ares1, aresOk, aresOk1, aop, needs, ext, aev, aconst, aput, aupd, aload, afieldAddr, aindexAddr, acmp, ashift, aeqs, abin, alen, tab_3, tab_58, tab_60, tab_93, ok1, cellsAs, TI.agg, Option.getD_some, Option.bind_some, Option.map_some, List.set_cons_zero, List.set_cons_succ, List.length_cons, List.length_nil, List.getElem?_cons_zero, List.getElem?_cons_succ, List.drop_zero, List.drop_succ_cons, List.take_succ_cons, List.take_nil, List.length_map, List.cons_append, List.nil_append, List.append_nil, true_and, and_true, if_true, if_false, Nat.reduceAdd, Nat.zero_add, Bool.and_true, Bool.not_false, decide_true, Nat.reduceLT, reduceCtorEq, Nat.le_refl, Int.toNat_natCast, List.getD_eq_getElem?_getD]
          ((repeat' (apply And.intro)) <;> try (first | rfl | omega | (unfold I64; omega)))
          rw [hrd]
          simp only [h1, false_and, decide_false]
          (repeat' (first | exact LeL.nil | exact Le1L.nil | exact Le.refl _ | exact Le1.refl _ | exact Le1.nil _ | exact Le1.tok _ _ _ | exact LeR.one (Le.refl _) | apply LeR.tup | apply LeL.cons | apply Le1L.cons | apply Le.agg | apply Le.one | apply LeR.one))
      · obtain rfl : k = m.length := by omega
        have hkk : ¬ (m.length : Int) < m.length := by omega
        rw [List.drop_length, ← hlm, List.drop_length] at hrd
        rw [hrd]
        refine Run.god tab_ok follows_ok Try.func43 60 ?_; simp only [Try.results43, hkk, hlm', List.length_map, eq_self, ↓alt_f, drun, aops, aone, afin, ares, aresL, ares1, aresOk, aresOk1, aop, needs, ext, aev, aconst, aput, aupd, aload, afieldAddr, acmp, ashift, abin, alen, tab_3, tab_58, tab_60, ok1, cellsAs, TI.agg, exitTo, Option.getD_some, Option.bind_some, Option.map_some, List.set_cons_zero, List.set_cons_succ, List.length_cons, List.length_nil, List.getElem?_cons_zero, List.getElem?_cons_succ, List.drop_zero, List.drop_succ_cons, List.take_succ_cons, List.take_nil, List.length_map, List.cons_append, List.nil_append, true_and, and_true, if_true, if_false, Nat.reduceAdd, Nat.zero_add, beq_self_eq_true, decide_true, decide_false, reduceCtorEq, Nat.le_refl, List.getD_eq_getElem?_getD]
        (repeat' (first | exact LeL.nil | exact Le1L.nil | exact Le.refl _ | exact Le1.refl _ | exact Le1.nil _ | exact Le1.tok _ _ _ | exact LeR.one (Le.refl _) | apply LeR.tup | apply LeL.cons | apply Le1L.cons | apply Le.agg | apply Le.one | apply LeR.one))
  · have hlm' : ¬ (l.length : Int) = m.length := by omega
    have e : ¬ l = m := fun h => hlm (by rw [h])
    refine ⟨⟨_, Try.func43, by kernel_rfl, rfl⟩, ACall.of Try.func43 rfl fun c0 hc0 => ?_⟩; simp only [Try.ntmps43, List.length_cons, List.length_nil, Nat.reduceAdd, Nat.reduceSub, List.replicate_succ, List.replicate_zero, List.cons_append, List.nil_append]; refine Run.god tab_ok follows_ok Try.func43 60 ?_; simp only [Try.results43, encB, sesA, List.length_map, hlm', decide_true, decide_false, eq_self, ↓alt_t, ↓alts_f, ↓gone_ff, gslot, drun, aops, aone, afin, ares, aresL, ares1, aresOk, aresOk1, aop, needs, ext, aev, aconst, aput, aupd, aload, afieldAddr, acmp, ashift, abin, alen, tab_3, tab_58, tab_60, ok1, cellsAs, TI.agg, AV.cells, AV.whole, Option.getD_some, Option.bind_some, Option.map_some, List.set_cons_zero, List.set_cons_succ, List.length_cons, List.length_nil, List.getElem?_cons_zero, List.getElem?_cons_succ, List.getElem?_toArray, List.drop_zero, List.drop_succ_cons, List.take_succ_cons, List.take_zero, List.take_nil, List.length_map, List.cons_append, List.nil_append, true_and, and_true, if_true, if_false, Nat.reduceAdd, Nat.reduceLeDiff, Nat.zero_add, Nat.add_zero, Bool.not_true, Bool.not_false, decide_true, decide_false, Nat.reduceLeDiff, reduceCtorEq, Nat.le_refl, List.getD_eq_getElem?_getD]
    rw [decide_eq_false e]
    (repeat' (first | exact LeL.nil | exact Le1L.nil | exact Le.refl _ | exact Le1.refl _ | exact Le1.nil _ | exact Le1.tok _ _ _ | exact LeR.one (Le.refl _) | apply LeR.tup | apply LeL.cons | apply Le1L.cons | apply Le.agg | apply Le.one | apply LeR.one))
theorem new10_spec : ASpec Try.prog 44 [] (encB ⟨0, []⟩) := by
  refine ⟨⟨_, Try.func44, by kernel_rfl, rfl⟩, ACall.of Try.func44 rfl fun c0 hc0 => ?_⟩; simp only [Try.ntmps44, List.length_nil, Nat.reduceSub, List.replicate_succ, List.replicate_zero, List.nil_append]; refine Run.god tab_ok follows_ok Try.func44 60 ?_; simp only [Try.results44, eq_self, drun, aops, aone, afin, ares, aresL, ares1, aresOk, aresOk1, aop, needs, ext, aev, aconst, aput, aupd, aload, astore, abuild, tab_55, lay, cellsAs, TI.agg, AV.cells, AV.whole, Option.getD_some, Option.bind_some, Option.map_some, List.set_cons_zero, List.set_cons_succ, List.length_cons, List.length_nil, List.getElem?_cons_zero, List.getElem?_cons_succ, List.drop_zero, List.drop_succ_cons, List.take_succ_cons, List.take_zero, List.take_nil, List.drop_nil, List.map_nil, List.cons_append, List.nil_append, List.append_nil, true_and, and_true, if_true, if_false, Nat.reduceAdd, Nat.zero_add, reduceCtorEq, Nat.le_refl, List.getD_eq_getElem?_getD]
  ((repeat' (apply And.intro)) <;> try (first | rfl | omega | (unfold I64; omega)))
  simp only [encB, sesA, List.map_nil]
  (repeat' (first | exact LeL.nil | exact Le1L.nil | exact Le.refl _ | exact Le1.refl _ | exact Le1.nil _ | exact Le1.tok _ _ _ | exact LeR.one (Le.refl _) | apply LeR.tup | apply LeL.cons | apply Le1L.cons | apply Le.agg | apply Le.one | apply LeR.one))
set_option maxRecDepth 20000 in
theorem plain10_wide (b : Bk) (hl : b.l.length * 24 ≤ 140737488355328) : ASpec Try.prog 35 [encB b] (encB b) := by
  obtain ⟨n, l⟩ := b
  simp only at hl
  refine ⟨⟨_, Try.func35, by kernel_rfl, rfl⟩, ACall.of Try.func35 rfl fun c0 hc0 => ?_⟩; simp only [Try.ntmps35, List.length_cons, List.length_nil, Nat.reduceAdd, Nat.reduceSub, List.replicate_succ, List.replicate_zero, List.cons_append, List.nil_append]; refine Run.god tab_ok follows_ok Try.func35 60 ?_; simp only [encB, sesA, eq_self, drun, aops, aone, aop, needs, ext, aev, aconst, aput, aupd, aload, astore, afieldAddr, abuild, tab_3, tab_55, tab_60, ok1, lay, cellsAs, TI.agg, AV.cells, AV.whole, Option.getD_some, Option.bind_some, Option.map_some, List.set_cons_zero, List.set_cons_succ, List.length_cons, List.length_nil, List.getElem?_cons_zero, List.getElem?_cons_succ, List.drop_zero, List.drop_succ_cons, List.take_succ_cons, List.take_zero, List.drop_nil, List.map_cons, List.map_nil, List.cons_append, List.nil_append, List.append_nil, true_and, and_true, if_true, if_false, Nat.reduceAdd, Nat.reduceLeDiff, Nat.zero_add, Nat.add_zero, Nat.reduceLeDiff, reduceCtorEq, Nat.le_refl, List.getD_eq_getElem?_getD]
  ((repeat' (apply And.intro)) <;> try (first | rfl | omega | (unfold I64; omega)))
  refine Run.weak (Weak.ownC 2 1 3 [.int .i64 n, .nils] rfl rfl) ?_
  simp only [List.set_cons_zero, List.set_cons_succ, List.length_cons, List.length_nil, List.cons_append, List.nil_append, Nat.reduceAdd, Nat.zero_add]
  refine Run.loopV (α := Nat × List Ses) (fun y => y.1 ≤ l.length ∧ y.2.length = y.1 ∧ l = y.2 ++ l.drop y.1) (fun y => [(4, .int .i64 y.1)]) 4 (fun y => [(2, .box [.int .i64 n, .sl 3 (y.2.map sesC) (.own 3)]), (3, .tok 3 y.2.length)]) (fun y => l.length - y.1) (0, []) ⟨Nat.zero_le _, rfl, rfl⟩ ?_ ?_
  · simp only [writes, junks, puts, hputs, List.filterMap_cons, List.filterMap_nil, Int.natCast_zero, List.set_cons_zero, List.set_cons_succ, List.length_nil, List.take_succ_cons, List.take_nil, List.map_nil, List.cons_append, List.nil_append, List.append_nil]
    (refine Weak.of (by simp [hc0]) ?_ ?_ <;> (repeat' (first | exact WkT.nil | exact WkH.nil _ | exact Le.refl _ | exact Le.junk _ | exact Le1.refl _ | exact Le1.nil _ | exact Le1.tok _ _ _ | exact Le1L.nil | rfl | apply WkT.cons | apply WkH.cons | apply LeB.same | apply LeB.box | apply Le1L.cons | apply Le.agg | apply Le.one)))
  · rintro ⟨k, m⟩ ⟨hI, hml, hrd⟩ ih
    simp only [writes, junks, puts, hputs, List.filterMap_cons, List.filterMap_nil, List.set_cons_zero, List.set_cons_succ, List.take_succ_cons, List.take_nil, List.cons_append, List.nil_append, List.append_nil] at hI hml hrd ih ⊢
    by_cases hk : k < l.length
    · obtain ⟨x, hx⟩ : ∃ x, l[k]? = some x := ⟨_, List.getElem?_eq_getElem hk⟩
      have hkk : (k : Int) < l.length := by omega
      rw [drop_at hx] at hrd
      refine Run.god tab_ok follows_ok Try.func35 60 ?_; simp only [hx, hkk, sesC, List.getElem?_map, List.length_map, eq_self, ↓alt_t, aappendM, drun, aops, aone, aop, needs, ext, aev, aconst, aput, aupd, aload, astore, afieldAddr, aindexAddr, acmp, aarith, ashift, abin, alen, abuild, aelems, plains, asrc, aappend, tab_3, tab_53, tab_55, tab_58, tab_60, tab_93, tab_94, ok1, lay, cellsAs, TI.agg, AV.cells, AV.whole, AV.plain, AV.bare, Option.getD_some, Option.bind_some, Option.map_some, List.set_cons_zero, List.set_cons_succ, List.length_cons, List.length_nil, List.getElem?_cons_zero, List.getElem?_cons_succ, List.getElem?_toArray, List.drop_zero, List.drop_succ_cons, List.take_succ_cons, List.take_zero, List.take_nil, List.drop_nil, List.map_cons, List.map_nil, List.length_map, List.cons_append, List.nil_append, List.append_nil, List.all_cons, List.all_nil, List.replicate_succ, List.replicate_zero, true_and, and_true, if_true, if_false, Nat.reduceAdd, Nat.reduceLeDiff, Nat.reduceMul, Nat.reduceBEq, Nat.zero_add, Nat.add_zero, Bool.and_self, Bool.and_false, decide_true, Nat.reduceLT, Nat.reduceLeDiff, reduceCtorEq, Nat.le_refl, Int.toNat_natCast, List.getD_eq_getElem?_getD]
      ((repeat' (apply And.intro)) <;> try (first | rfl | omega | (unfold I64; omega)))
      refine ih (k + 1, m ++ [x]) _ ⟨by dsimp only; omega, by simp; omega, by rw [List.append_assoc]; exact hrd⟩ (by dsimp only; omega) ?_
      simp only [Int.natCast_add, Int.natCast_one, List.length_cons, List.length_nil, List.map_cons, List.map_nil, Nat.zero_add, List.map_append, List.length_append, sesC]
      (refine Weak.of (by simp [hc0]) ?_ ?_ <;> (repeat' (first | exact WkT.nil | exact WkH.nil _ | exact Le.refl _ | exact Le.junk _ | exact Le1.refl _ | exact Le1.nil _ | exact Le1.tok _ _ _ | exact Le1L.nil | rfl | apply WkT.cons | apply WkH.cons | apply LeB.same | apply LeB.box | apply Le1L.cons | apply Le.agg | apply Le.one)))
    · obtain rfl : k = l.length := by omega
      have hkk : ¬ (l.length : Int) < l.length := by omega
      rw [List.drop_length, List.append_nil] at hrd
      refine Run.god tab_ok follows_ok Try.func35 60 ?_; simp only [Try.results35, hkk, List.length_map, eq_self, ↓alt_f, drun, aops, aone, afin, ares, aresL, ares1, aresOk, aresOk1, aop, needs, ext, aev, aput, aupd, aload, astore, afieldAddr, acmp, ashift, abin, alen, tab_3, tab_53, tab_55, tab_60, ok1, lay, cellsAs, TI.agg, AV.cells, AV.whole, exitTo, Option.getD_some, Option.bind_some, Option.map_some, List.set_cons_zero, List.set_cons_succ, List.length_cons, List.length_nil, List.getElem?_cons_zero, List.getElem?_cons_succ, List.drop_zero, List.drop_succ_cons, List.take_succ_cons, List.take_zero, List.take_nil, List.drop_nil, List.length_map, List.cons_append, List.nil_append, List.append_nil, true_and, and_true, if_true, if_false, Nat.reduceAdd, Nat.zero_add, beq_self_eq_true, decide_false, reduceCtorEq, Nat.le_refl, List.getD_eq_getElem?_getD]
      ((repeat' (apply And.intro)) <;> try (first | rfl | omega | (unfold I64; omega)))
      rw [hrd]
      (repeat' (first | exact LeL.nil | exact Le1L.nil | exact Le.refl _ | exact Le1.refl _ | exact Le1.nil _ | exact Le1.tok _ _ _ | exact LeR.one (Le.refl _) | apply LeR.tup | apply LeL.cons | apply Le1L.cons | apply Le.agg | apply Le.one | apply LeR.one))
theorem plain10_spec (b : Bk) (hl : b.l.length ≤ 1000000) : ASpec Try.prog 35 [encB b] (encB b) := plain10_wide b (by omega)
set_option maxRecDepth 20000 in
theorem rhas_spec (b : Bk) (id : Int) (hl : b.l.length ≤ 1000000) : ASpec Try.prog 47 [encB b, .int .i64 id] (.bool (hasL b.l id)) := by
  obtain ⟨n, l⟩ := b
  simp only at hl ⊢
  refine ⟨⟨_, Try.func47, by kernel_rfl, rfl⟩, ACall.of Try.func47 rfl fun c0 hc0 => ?_⟩; simp only [Try.ntmps47, List.length_cons, List.length_nil, Nat.reduceAdd, Nat.reduceSub, List.replicate_succ, List.replicate_zero, List.cons_append, List.nil_append]; refine Run.god tab_ok follows_ok Try.func47 60 ?_; simp only [encB, sesA, eq_self, drun, aops, aone, aop, needs, ext, aev, aconst, aput, aupd, ok1, AV.cells, AV.whole, Option.getD_some, List.set_cons_zero, List.set_cons_succ, List.length_nil, List.getElem?_cons_zero, List.cons_append, List.nil_append, true_and, if_true, if_false, reduceCtorEq, List.getD_eq_getElem?_getD]
  refine Run.loopV (α := Nat) (fun k => k ≤ l.length ∧ hasL l id = hasL (l.drop k) id) (fun k => [(5, .int .i64 k)]) 1 (fun _ => []) (fun k => l.length - k) 0 ⟨Nat.zero_le _, rfl⟩ ?_ ?_
  · simp only [writes, junks, puts, hputs, List.filterMap_cons, List.filterMap_nil, Int.natCast_zero, List.set_cons_zero, List.set_cons_succ, List.take_succ_cons, List.take_nil, List.cons_append, List.nil_append, List.append_nil]
    (refine Weak.of (by simp [hc0]) ?_ ?_ <;> (repeat' (first | exact WkT.nil | exact WkH.nil _ | exact Le.refl _ | exact Le.junk _ | exact Le1.refl _ | exact Le1.nil _ | exact Le1.tok _ _ _ | exact Le1L.nil | rfl | apply WkT.cons | apply WkH.cons | apply LeB.same | apply LeB.box | apply Le1L.cons | apply Le.agg | apply Le.one)))
  · rintro k ⟨hI, hrd⟩ ih
    simp only [writes, junks, puts, hputs, List.filterMap_cons, List.filterMap_nil, List.set_cons_zero, List.set_cons_succ, List.take_succ_cons, List.take_nil, List.cons_append, List.nil_append, List.append_nil] at ih ⊢
    by_cases hk : k < l.length
    · obtain ⟨x, hx⟩ : ∃ x, l[k]? = some x := ⟨_, List.getElem?_eq_getElem hk⟩
      have hkk : (k : Int) < l.length := by omega
      rw [drop_at hx] at hrd
      by_cases h1 : x.id = id
      · have e : hasL l id = true := by rw [hrd]; simp [hasL, h1]
        rw [e]
        refine Run.god tab_ok follows_ok Try.func47 60 ?_; simp only [Try.results47, hx, hkk, h1, sesC, decide_true, List.getElem?_map, List.length_map, eq_self, ↓alt_t, drun, aops, aone, afin, ares, aresL, ares1, aresOk, aresOk1, aop, needs, ext, aev, aconst, aput, aupd, aload, afieldAddr, aindexAddr, acmp, ashift, abin, alen, tab_3, tab_58, tab_60, tab_93, ok1, cellsAs, TI.agg, Option.getD_some, Option.bind_some, Option.map_some, List.set_cons_zero, List.set_cons_succ, List.length_cons, List.length_nil, List.getElem?_cons_zero, List.getElem?_cons_succ, List.drop_zero, List.drop_succ_cons, List.take_succ_cons, List.take_zero, List.take_nil, List.length_map, List.cons_append, List.nil_append, true_and, and_true, if_true, if_false, Nat.reduceAdd, Nat.reduceLeDiff, Nat.zero_add, decide_true, Nat.reduceLT, Nat.reduceLeDiff, forall_const, reduceCtorEq, false_implies, implies_true, Nat.le_refl, Int.toNat_natCast, List.getD_eq_getElem?_getD]
        ((repeat' (apply And.intro)) <;> try (first | rfl | omega | (unfold I64; omega)))
        (repeat' (first | exact LeL.nil | exact Le1L.nil | exact Le.refl _ | exact Le1.refl _ | exact Le1.nil _ | exact Le1.tok _ _ _ | exact LeR.one (Le.refl _) | apply LeR.tup | apply LeL.cons | apply Le1L.cons | apply Le.agg | apply Le.one | apply LeR.one))
      · refine Run.god tab_ok follows_ok Try.func47 60 ?_; simp only [hx, hkk, h1, sesC, decide_false, List.getElem?_map, List.length_map, eq_self, ↓alt_t, ↓alt_f, drun, aops, aone, aop, needs, ext, aev, aconst, aput, aupd, aload, afieldAddr, aindexAddr, acmp, aarith, ashift, abin, alen, tab_3, tab_58, tab_60, tab_93, ok1, cellsAs, TI.agg, Option.getD_some, Option.bind_some, Option.map_some, List.set_cons_zero, List.set_cons_succ, List.length_cons, List.length_nil, List.getElem?_cons_zero, List.getElem?_cons_succ, List.drop_zero, List.drop_succ_cons, List.take_succ_cons, List.take_zero, List.take_nil, List.length_map, List.cons_append, List.nil_append, true_and, and_true, if_true, if_false, Nat.reduceAdd, Nat.reduceLeDiff, Nat.zero_add, decide_true, decide_false, Nat.reduceLT, Nat.reduceLeDiff, forall_const, reduceCtorEq, false_implies, implies_true, Nat.le_refl, Int.toNat_natCast, List.getD_eq_getElem?_getD]
        ((repeat' (apply And.intro)) <;> try (first | rfl | omega | (unfold I64; omega)))
        refine ih (k + 1) _ ⟨by omega, ?_⟩ (by omega) ?_
        · rw [hrd]; simp [hasL, h1]
        · simp only [Int.natCast_add, Int.natCast_one]
          (refine Weak.of (by simp [hc0]) ?_ ?_ <;> (repeat' (first | exact WkT.nil | exact WkH.nil _ | exact Le.refl _ | exact Le.junk _ | exact Le1.refl _ | exact Le1.nil _ | exact Le1.tok _ _ _ | exact Le1L.nil | rfl | apply WkT.cons | apply WkH.cons | apply LeB.same | apply LeB.box | apply Le1L.cons | apply Le.agg | apply Le.one)))
    · obtain rfl : k = l.length := by omega
      have hkk : ¬ (l.length : Int) < l.length := by omega
      rw [List.drop_length] at hrd
      rw [hrd]
      refine Run.god tab_ok follows_ok Try.func47 60 ?_; simp only [Try.results47, hkk, List.length_map, eq_self, ↓alt_f, drun, aops, aone, afin, ares, aresL, ares1, aresOk, aresOk1, aop, needs, ext, aev, aconst, aput, aupd, aload, afieldAddr, acmp, ashift, abin, alen, tab_3, tab_58, tab_60, ok1, cellsAs, TI.agg, exitTo, Option.getD_some, Option.bind_some, Option.map_some, List.set_cons_zero, List.set_cons_succ, List.length_cons, List.length_nil, List.getElem?_cons_zero, List.getElem?_cons_succ, List.drop_zero, List.drop_succ_cons, List.take_succ_cons, List.take_nil, List.length_map, List.cons_append, List.nil_append, true_and, and_true, if_true, if_false, Nat.reduceAdd, Nat.zero_add, beq_self_eq_true, decide_false, reduceCtorEq, Nat.le_refl, List.getD_eq_getElem?_getD]
      simp only [hasL, List.any_nil]
      (repeat' (first | exact LeL.nil | exact Le1L.nil | exact Le.refl _ | exact Le1.refl _ | exact Le1.nil _ | exact Le1.tok _ _ _ | exact LeR.one (Le.refl _) | apply LeR.tup | apply LeL.cons | apply Le1L.cons | apply Le.agg | apply Le.one | apply LeR.one))
end Go.Proofs.Ythboeilpeggpoaa
