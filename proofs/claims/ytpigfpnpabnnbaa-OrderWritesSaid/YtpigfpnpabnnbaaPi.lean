/-
  Rows of texts held against each other; one, told, long; whether replies are alike.
-/
import Derived.Test.YtpigfpnpabnnbaaPf
namespace Go.Proofs.Ytpigfpnpabnnbaa
open Go.RowKit
theorem drop_eq {α : Type} {l m : List α} {k : Nat} {x y : α} (hx : l[k]? = some x) (hy : m[k]? = some y) : l.drop k = m.drop k ↔ x = y ∧ l.drop (k + 1) = m.drop (k + 1) := by
  obtain ⟨h1, rfl⟩ := List.getElem?_eq_some_iff.1 hx
  obtain ⟨h2, rfl⟩ := List.getElem?_eq_some_iff.1 hy
  rw [List.drop_eq_getElem_cons h1, List.drop_eq_getElem_cons h2, List.cons.injEq]
set_option maxRecDepth 20000 in
theorem equal_spec (l m : List Bytes) (hl : l.length ≤ 1000000000000) : ASpec Try.prog 56 [textsA l, textsA m] (.bool (decide (l = m))) := by
  by_cases hlm : l.length = m.length
  · have hlm' : (l.length : Int) = m.length := by omega
    refine ⟨⟨_, Try.func56, by kernel_rfl, rfl⟩, ACall.of Try.func56 rfl fun c0 hc0 => ?_⟩; simp only [Try.ntmps56, List.length_cons, List.length_nil, Nat.reduceAdd, Nat.reduceSub, List.replicate_succ, List.replicate_zero, List.cons_append, List.nil_append]; refine Run.god tab_ok follows_ok Try.func56 60 ?_; simp only [textsA, List.length_map, hlm', decide_true, eq_self, ↓alt_f, drun, aops, aone, aop, needs, ext, aev, aconst, aput, aupd, acmp, ashift, abin, alen, tab_3, tab_28, ok1, Option.getD_some, Option.bind_some, List.set_cons_zero, List.set_cons_succ, List.getElem?_cons_zero, List.getElem?_cons_succ, List.length_map, List.nil_append, true_and, if_true, if_false, Bool.not_true, decide_true, reduceCtorEq, List.getD_eq_getElem?_getD]
    refine Run.loopV (α := Nat) (fun k => k ≤ l.length ∧ (l = m ↔ l.drop k = m.drop k)) (fun k => [(13, .int .i64 k)]) 0 (fun _ => []) (fun k => l.length - k) 0 ⟨Nat.zero_le _, Iff.rfl⟩ ?_ ?_
    · simp only [writes, junks, puts, hputs, List.filterMap_cons, List.filterMap_nil, Int.natCast_zero, List.set_cons_zero, List.set_cons_succ, List.take_nil, List.cons_append, List.nil_append, List.append_nil]
      (refine Weak.of (by simp [hc0]) ?_ ?_ <;> (repeat' (first | exact WkT.nil | exact WkH.nil _ | exact Le.refl _ | exact Le.junk _ | exact Le1.refl _ | exact Le1.nil _ | exact Le1.tok _ _ _ | exact Le1L.nil | rfl | apply WkT.cons | apply WkH.cons | apply LeB.same | apply LeB.box | apply Le1L.cons | apply Le.agg | apply Le.one)))
    · rintro k ⟨hI, hk2⟩ ih
      simp only [writes, junks, puts, hputs, List.filterMap_cons, List.filterMap_nil, List.set_cons_zero, List.set_cons_succ, List.take_nil, List.cons_append, List.nil_append, List.append_nil] at ih ⊢
      by_cases hk : k < l.length
      · obtain ⟨x, hx⟩ : ∃ x, l[k]? = some x := ⟨_, List.getElem?_eq_getElem hk⟩
        obtain ⟨y, hy⟩ : ∃ x, m[k]? = some x := ⟨_, List.getElem?_eq_getElem (by omega)⟩
        have hkk : (k : Int) < m.length := by omega
        rw [drop_eq hx hy] at hk2
        by_cases hxy : x = y
        · subst hxy
          refine Run.god tab_ok follows_ok Try.func56 60 ?_; simp only [hx, hy, hkk, hlm', textC, List.getElem?_map, List.length_map, decide_true, eq_self, ↓alt_t, ↓alt_f, drun, adops, adone, places, mayNeed, freeOk, rdOf, AV.id, wrOf, aops, aone, aop, needs, ext, aev, aconst, aput, aupd, aload, aindexAddr, acmp, aarith, ashift, abin, tab_3, tab_9, tab_28, ok1, cellsAs, TI.agg, Option.getD_some, Option.bind_some, Option.map_some, List.set_cons_zero, List.set_cons_succ, List.length_cons, List.length_nil, List.getElem?_cons_zero, List.getElem?_cons_succ, List.take_succ_cons, List.take_nil, List.length_map, List.cons_append, List.nil_append, List.append_nil, true_and, and_true, if_true, if_false, Nat.zero_add, Bool.not_true, decide_true, Nat.reduceLT, reduceCtorEq, Nat.le_refl, Int.toNat_natCast, List.getD_eq_getElem?_getD]
          ((repeat' (apply And.intro)) <;> try (first | rfl | omega | (unfold I64; omega)))
          refine ih (k + 1) _ ⟨by omega, by rw [hk2]; simp⟩ (by omega) ?_
          simp only [Int.natCast_add, Int.natCast_one]
          (refine Weak.of (by simp [hc0]) ?_ ?_ <;> (repeat' (first | exact WkT.nil | exact WkH.nil _ | exact Le.refl _ | exact Le.junk _ | exact Le1.refl _ | exact Le1.nil _ | exact Le1.tok _ _ _ | exact Le1L.nil | rfl | apply WkT.cons | apply WkH.cons | apply LeB.same | apply LeB.box | apply Le1L.cons | apply Le.agg | apply Le.one)))
        · refine Run.god tab_ok follows_ok Try.func56 60 ?_; simp only [Try.results56, hx, hy, hkk, hxy, hlm', textC, List.getElem?_map, List.length_map, decide_true, decide_false, eq_self, ↓alt_t, drun, adops, adone, places, mayNeed, freeOk, rdOf, AV.id, wrOf, aops, aone, afin, ares, aresL, ares1, aresOk, aresOk1, aop, needs, ext, aev, aconst, aput, aupd, aload, aindexAddr, acmp, ashift, abin, tab_3, tab_9, tab_28, ok1, cellsAs, TI.agg, Option.getD_some, Option.bind_some, Option.map_some, List.set_cons_zero, List.set_cons_succ, List.length_cons, List.length_nil, List.getElem?_cons_zero, List.getElem?_cons_succ, List.take_succ_cons, List.take_nil, List.length_map, List.cons_append, List.nil_append, List.append_nil, true_and, and_true, if_true, if_false, Nat.zero_add, Bool.not_false, decide_true, decide_false, Nat.reduceLT, reduceCtorEq, Nat.le_refl, Int.toNat_natCast, List.getD_eq_getElem?_getD]
          ((repeat' (apply And.intro)) <;> try (first | rfl | omega | (unfold I64; omega)))
          rw [show decide (l = m) = false by rw [decide_eq_false_iff_not, hk2]; exact fun h => hxy h.1]
          (repeat' (first | exact LeL.nil | exact Le1L.nil | exact Le.refl _ | exact Le1.refl _ | exact Le1.nil _ | exact Le1.tok _ _ _ | exact LeR.one (Le.refl _) | apply LeR.tup | apply LeL.cons | apply Le1L.cons | apply Le.agg | apply Le.one | apply LeR.one))
      · obtain rfl : k = l.length := by omega
        have hkk : ¬ (m.length : Int) < m.length := by omega
        refine Run.god tab_ok follows_ok Try.func56 60 ?_; simp only [Try.results56, hkk, hlm', eq_self, ↓alt_f, drun, aops, aone, afin, ares, aresL, ares1, aresOk, aresOk1, aop, needs, ext, aev, aconst, aput, aupd, acmp, ashift, abin, tab_3, ok1, exitTo, Option.getD_some, Option.bind_some, Option.map_some, List.set_cons_zero, List.set_cons_succ, List.getElem?_cons_zero, List.getElem?_cons_succ, List.nil_append, true_and, and_true, if_true, if_false, beq_self_eq_true, decide_false, reduceCtorEq, List.getD_eq_getElem?_getD]
        rw [show decide (l = m) = true by rw [decide_eq_true_eq, hk2, hlm, List.drop_length, ← hlm, List.drop_length]]
        (repeat' (first | exact LeL.nil | exact Le1L.nil | exact Le.refl _ | exact Le1.refl _ | exact Le1.nil _ | exact Le1.tok _ _ _ | exact LeR.one (Le.refl _) | apply LeR.tup | apply LeL.cons | apply Le1L.cons | apply Le.agg | apply Le.one | apply LeR.one))
  · have hlm' : ¬ (l.length : Int) = m.length := by omega
    refine ⟨⟨_, Try.func56, by kernel_rfl, rfl⟩, ACall.of Try.func56 rfl fun c0 hc0 => ?_⟩; simp only [Try.ntmps56, List.length_cons, List.length_nil, Nat.reduceAdd, Nat.reduceSub, List.replicate_succ, List.replicate_zero, List.cons_append, List.nil_append]; refine Run.god tab_ok follows_ok Try.func56 60 ?_; simp only [Try.results56, textsA, List.length_map, hlm', decide_false, eq_self, ↓alt_t, drun, aops, aone, afin, ares, aresL, ares1, aresOk, aresOk1, aop, needs, ext, aev, aconst, aput, aupd, acmp, ashift, abin, alen, tab_3, tab_28, ok1, Option.getD_some, Option.bind_some, Option.map_some, List.set_cons_zero, List.set_cons_succ, List.getElem?_cons_zero, List.getElem?_cons_succ, List.length_map, List.nil_append, true_and, and_true, if_true, if_false, Bool.not_false, decide_false, reduceCtorEq, List.getD_eq_getElem?_getD]
    rw [show decide (l = m) = false by rw [decide_eq_false_iff_not]; intro h; exact hlm (by rw [h])]
    (repeat' (first | exact LeL.nil | exact Le1L.nil | exact Le.refl _ | exact Le1.refl _ | exact Le1.nil _ | exact Le1.tok _ _ _ | exact LeR.one (Le.refl _) | apply LeR.tup | apply LeL.cons | apply Le1L.cons | apply Le.agg | apply Le.one | apply LeR.one))
set_option maxRecDepth 20000 in
theorem strings_spec (l m : List Bytes) (hl : l.length ≤ 1000000000000) : ASpec Try.prog 33 [textsA l, textsA m] (.bool (decide (l = m))) := by
  by_cases hlm : l.length = m.length
  · have hlm' : (l.length : Int) = m.length := by omega
    refine ⟨⟨_, Try.func33, by kernel_rfl, rfl⟩, ACall.of Try.func33 rfl fun c0 hc0 => ?_⟩; simp only [Try.ntmps33, List.length_cons, List.length_nil, Nat.reduceAdd, Nat.reduceSub, List.replicate_succ, List.replicate_zero, List.cons_append, List.nil_append]; refine Run.god tab_ok follows_ok Try.func33 60 ?_; simp only [textsA, List.length_map, hlm', decide_true, eq_self, ↓alt_f, drun, aops, aone, aop, needs, ext, aev, aconst, aput, aupd, acmp, ashift, abin, alen, tab_3, tab_28, ok1, Option.getD_some, Option.bind_some, List.set_cons_zero, List.set_cons_succ, List.getElem?_cons_zero, List.getElem?_cons_succ, List.length_map, List.nil_append, true_and, if_true, if_false, Bool.not_true, decide_true, reduceCtorEq, List.getD_eq_getElem?_getD]
    refine Run.loopV (α := Nat) (fun k => k ≤ l.length ∧ (l = m ↔ l.drop k = m.drop k)) (fun k => [(5, .int .i64 k)]) 0 (fun _ => []) (fun k => l.length - k) 0 ⟨Nat.zero_le _, Iff.rfl⟩ ?_ ?_
    · simp only [writes, junks, puts, hputs, List.filterMap_cons, List.filterMap_nil, Int.natCast_zero, List.set_cons_zero, List.set_cons_succ, List.take_nil, List.cons_append, List.nil_append, List.append_nil]
      (refine Weak.of (by simp [hc0]) ?_ ?_ <;> (repeat' (first | exact WkT.nil | exact WkH.nil _ | exact Le.refl _ | exact Le.junk _ | exact Le1.refl _ | exact Le1.nil _ | exact Le1.tok _ _ _ | exact Le1L.nil | rfl | apply WkT.cons | apply WkH.cons | apply LeB.same | apply LeB.box | apply Le1L.cons | apply Le.agg | apply Le.one)))
    · rintro k ⟨hI, hk2⟩ ih
      simp only [writes, junks, puts, hputs, List.filterMap_cons, List.filterMap_nil, List.set_cons_zero, List.set_cons_succ, List.take_nil, List.cons_append, List.nil_append, List.append_nil] at ih ⊢
      by_cases hk : k < l.length
      · obtain ⟨x, hx⟩ : ∃ x, l[k]? = some x := ⟨_, List.getElem?_eq_getElem hk⟩
        obtain ⟨y, hy⟩ : ∃ x, m[k]? = some x := ⟨_, List.getElem?_eq_getElem (by omega)⟩
        have hkk : (k : Int) < m.length := by omega
        rw [drop_eq hx hy] at hk2
        by_cases hxy : x = y
        · subst hxy
          refine Run.god tab_ok follows_ok Try.func33 60 ?_; simp only [hx, hy, hkk, hlm', textC, List.getElem?_map, List.length_map, decide_true, eq_self, ↓alt_t, ↓alt_f, drun, adops, adone, places, mayNeed, freeOk, rdOf, AV.id, wrOf, aops, aone, aop, needs, ext, aev, aconst, aput, aupd, aload, aindexAddr, acmp, aarith, ashift, abin, alen, tab_3, tab_9, tab_28, ok1, cellsAs, TI.agg, Option.getD_some, Option.bind_some, Option.map_some, List.set_cons_zero, List.set_cons_succ, List.length_cons, List.length_nil, List.getElem?_cons_zero, List.getElem?_cons_succ, List.take_succ_cons, List.take_nil, List.length_map, List.cons_append, List.nil_append, List.append_nil, true_and, and_true, if_true, if_false, Nat.zero_add, Bool.not_true, decide_true, Nat.reduceLT, reduceCtorEq, Nat.le_refl, Int.toNat_natCast, List.getD_eq_getElem?_getD]
          ((repeat' (apply And.intro)) <;> try (first | rfl | omega | (unfold I64; omega)))
          refine ih (k + 1) _ ⟨by omega, by rw [hk2]; simp⟩ (by omega) ?_
          simp only [Int.natCast_add, Int.natCast_one]
          (refine Weak.of (by simp [hc0]) ?_ ?_ <;> (repeat' (first | exact WkT.nil | exact WkH.nil _ | exact Le.refl _ | exact Le.junk _ | exact Le1.refl _ | exact Le1.nil _ | exact Le1.tok _ _ _ | exact Le1L.nil | rfl | apply WkT.cons | apply WkH.cons | apply LeB.same | apply LeB.box | apply Le1L.cons | apply Le.agg | apply Le.one)))
        · refine Run.god tab_ok follows_ok Try.func33 60 ?_; simp only [Try.results33, hx, hy, hkk, hxy, hlm', textC, List.getElem?_map, List.length_map, decide_true, decide_false, eq_self, ↓alt_t, drun, adops, adone, places, mayNeed, freeOk, rdOf, AV.id, wrOf, aops, aone, afin, ares, aresL, ares1, aresOk, aresOk1, aop, needs, ext, aev, aconst, aput, aupd, aload, aindexAddr, acmp, ashift, abin, alen, tab_3, tab_9, tab_28, ok1, cellsAs, TI.agg, Option.getD_some, Option.bind_some, Option.map_some, List.set_cons_zero, List.set_cons_succ, List.length_cons, List.length_nil, List.getElem?_cons_zero, List.getElem?_cons_succ, List.take_succ_cons, List.take_nil, List.length_map, List.cons_append, List.nil_append, List.append_nil, true_and, and_true, if_true, if_false, Nat.zero_add, Bool.not_false, decide_true, decide_false, Nat.reduceLT, reduceCtorEq, Nat.le_refl, Int.toNat_natCast, List.getD_eq_getElem?_getD]
          ((repeat' (apply And.intro)) <;> try (first | rfl | omega | (unfold I64; omega)))
          rw [show decide (l = m) = false by rw [decide_eq_false_iff_not, hk2]; exact fun h => hxy h.1]
          (repeat' (first | exact LeL.nil | exact Le1L.nil | exact Le.refl _ | exact Le1.refl _ | exact Le1.nil _ | exact Le1.tok _ _ _ | exact LeR.one (Le.refl _) | apply LeR.tup | apply LeL.cons | apply Le1L.cons | apply Le.agg | apply Le.one | apply LeR.one))
      · obtain rfl : k = l.length := by omega
        have hkk : ¬ (m.length : Int) < m.length := by omega
        refine Run.god tab_ok follows_ok Try.func33 60 ?_; simp only [Try.results33, hkk, hlm', List.length_map, eq_self, ↓alt_f, drun, aops, aone, afin, ares, aresL, ares1, aresOk, aresOk1, aop, needs, ext, aev, aconst, aput, aupd, acmp, ashift, abin, alen, tab_3, tab_28, ok1, exitTo, Option.getD_some, Option.bind_some, Option.map_some, List.set_cons_zero, List.set_cons_succ, List.getElem?_cons_zero, List.getElem?_cons_succ, List.length_map, List.nil_append, true_and, and_true, if_true, if_false, beq_self_eq_true, decide_false, reduceCtorEq, List.getD_eq_getElem?_getD]
        rw [show decide (l = m) = true by rw [decide_eq_true_eq, hk2, hlm, List.drop_length, ← hlm, List.drop_length]]
        (repeat' (first | exact LeL.nil | exact Le1L.nil | exact Le.refl _ | exact Le1.refl _ | exact Le1.nil _ | exact Le1.tok _ _ _ | exact LeR.one (Le.refl _) | apply LeR.tup | apply LeL.cons | apply Le1L.cons | apply Le.agg | apply Le.one | apply LeR.one))
  · have hlm' : ¬ (l.length : Int) = m.length := by omega
    refine ⟨⟨_, Try.func33, by kernel_rfl, rfl⟩, ACall.of Try.func33 rfl fun c0 hc0 => ?_⟩; simp only [Try.ntmps33, List.length_cons, List.length_nil, Nat.reduceAdd, Nat.reduceSub, List.replicate_succ, List.replicate_zero, List.cons_append, List.nil_append]; refine Run.god tab_ok follows_ok Try.func33 60 ?_; simp only [Try.results33, textsA, List.length_map, hlm', decide_false, eq_self, ↓alt_t, drun, aops, aone, afin, ares, aresL, ares1, aresOk, aresOk1, aop, needs, ext, aev, aconst, aput, aupd, acmp, ashift, abin, alen, tab_3, tab_28, ok1, Option.getD_some, Option.bind_some, Option.map_some, List.set_cons_zero, List.set_cons_succ, List.getElem?_cons_zero, List.getElem?_cons_succ, List.length_map, List.nil_append, true_and, and_true, if_true, if_false, Bool.not_false, decide_false, reduceCtorEq, List.getD_eq_getElem?_getD]
    rw [show decide (l = m) = false by rw [decide_eq_false_iff_not]; intro h; exact hlm (by rw [h])]
    (repeat' (first | exact LeL.nil | exact Le1L.nil | exact Le.refl _ | exact Le1.refl _ | exact Le1.nil _ | exact Le1.tok _ _ _ | exact LeR.one (Le.refl _) | apply LeR.tup | apply LeL.cons | apply Le1L.cons | apply Le.agg | apply Le.one | apply LeR.one))

theorem one_spec (o : Ord) : ASpec Try.prog 39 [encO o] (encO o) := by
  refine ⟨⟨_, Try.func39, by kernel_rfl, rfl⟩, ACall.of Try.func39 rfl fun c0 hc0 => ?_⟩; simp only [Try.ntmps39, List.length_cons, List.length_nil, Nat.reduceAdd, Nat.reduceSub, List.replicate_succ, List.replicate_zero, List.cons_append, List.nil_append]; refine Run.god tab_ok follows_ok Try.func39 60 ?_; simp only [Try.results39, encO, eq_self, drun, aops, aone, afin, ares, aresL, ares1, aresOk, aresOk1, aop, needs, ext, aev, aconst, aput, aupd, aload, astore, afieldAddr, abuild, tab_3, tab_9, tab_48, tab_56, ok1, lay, cellsAs, TI.agg, AV.cells, AV.whole, Option.getD_some, Option.bind_some, Option.map_some, List.set_cons_zero, List.set_cons_succ, List.length_cons, List.length_nil, List.getElem?_cons_zero, List.getElem?_cons_succ, List.drop_zero, List.drop_succ_cons, List.take_succ_cons, List.take_zero, List.take_nil, List.drop_nil, List.map_cons, List.map_nil, List.cons_append, List.nil_append, List.append_nil, true_and, and_true, if_true, if_false, Nat.reduceAdd, Nat.reduceLeDiff, Nat.zero_add, Nat.add_zero, Nat.reduceLeDiff, reduceCtorEq, Nat.le_refl, List.getD_eq_getElem?_getD]
  (repeat' (first | exact LeL.nil | exact Le1L.nil | exact Le.refl _ | exact Le1.refl _ | exact Le1.nil _ | exact Le1.tok _ _ _ | exact LeR.one (Le.refl _) | apply LeR.tup | apply LeL.cons | apply Le1L.cons | apply Le.agg | apply Le.one | apply LeR.one))
theorem told_spec (r : Rpl) : ASpec Try.prog 42 [encR r] (encR r) := by
  refine ⟨⟨_, Try.func42, by kernel_rfl, rfl⟩, ACall.of Try.func42 rfl fun c0 hc0 => ?_⟩; simp only [Try.ntmps42, List.length_cons, List.length_nil, Nat.reduceAdd, Nat.reduceSub, List.replicate_succ, List.replicate_zero, List.cons_append, List.nil_append]; refine Run.god tab_ok follows_ok Try.func42 60 ?_; simp only [Try.results42, encR, textsA, eq_self, drun, aops, aone, afin, ares, aresL, ares1, aresOk, aresOk1, aop, needs, ext, aev, aconst, aput, aupd, aload, astore, afieldAddr, abuild, tab_3, tab_9, tab_28, tab_33, tab_52, tab_60, ok1, lay, cellsAs, TI.agg, AV.cells, AV.whole, Option.getD_some, Option.bind_some, Option.map_some, List.set_cons_zero, List.set_cons_succ, List.length_cons, List.length_nil, List.getElem?_cons_zero, List.getElem?_cons_succ, List.drop_zero, List.drop_succ_cons, List.take_succ_cons, List.take_zero, List.take_nil, List.drop_nil, List.map_cons, List.map_nil, List.cons_append, List.nil_append, List.append_nil, true_and, and_true, if_true, if_false, Nat.reduceAdd, Nat.reduceLeDiff, Nat.zero_add, Nat.add_zero, Nat.reduceLeDiff, reduceCtorEq, Nat.le_refl, List.getD_eq_getElem?_getD]
  (repeat' (first | exact LeL.nil | exact Le1L.nil | exact Le.refl _ | exact Le1.refl _ | exact Le1.nil _ | exact Le1.tok _ _ _ | exact LeR.one (Le.refl _) | apply LeR.tup | apply LeL.cons | apply Le1L.cons | apply Le.agg | apply Le.one | apply LeR.one))
def longF : List Bytes → Int → Int
  | [], n => n
  | s :: l, n => if n ≤ 4000 then longF l (n + s.length + 9) else n
theorem longF_big : ∀ (l : List Bytes) (n : Int), 4000 < n → longF l n = n
  | [], _, _ => rfl
  | _ :: _, n, h => by rw [longF, if_neg (by omega)]
theorem longF_le : ∀ (l : List Bytes) (n : Int), longF l n ≤ n + tot l ∧ n ≤ longF l n ∧ (longF l n ≤ 4000 → longF l n = n + tot l)
  | [], n => by simp [longF, tot]
  | s :: l, n => by
    rw [longF, tot_cons]
    split
    · obtain ⟨h1, h2, h3⟩ := longF_le l (n + s.length + 9)
      refine ⟨by omega, by omega, fun h => ?_⟩
      have := h3 h
      omega
    · omega
/-- A reply that is handed in. -/
def wideR (r : Rpl) : Prop := I64 r.a ∧ I64 r.b ∧ I64 r.e ∧ I64 r.x ∧ r.s.length ≤ 281474976710656 ∧ (∀ t ∈ r.l, t.length ≤ 281474976710656) ∧ r.l.length ≤ 281474976710656
def longN (r : Rpl) : Int := longF r.l r.s.length
theorem long_le {r : Rpl} {m : Int} (hm : m ≤ 4000) : (¬ m < longN r) → (r.s.length : Int) + tot r.l ≤ m := by
  intro h
  unfold longN at h
  obtain ⟨h1, h2, h3⟩ := longF_le r.l r.s.length
  have := h3 (by omega)
  omega
set_option maxRecDepth 20000 in
theorem long_spec (r : Rpl) (hr : wideR r) : ASpec Try.prog 36 [encR r] (.int .i64 (longN r)) := by
  obtain ⟨_, _, _, _, h1, h2, h3⟩ := hr
  refine ⟨⟨_, Try.func36, by kernel_rfl, rfl⟩, ACall.of Try.func36 rfl fun c0 hc0 => ?_⟩; simp only [Try.ntmps36, List.length_cons, List.length_nil, Nat.reduceAdd, Nat.reduceSub, List.replicate_succ, List.replicate_zero, List.cons_append, List.nil_append]; refine Run.god tab_ok follows_ok Try.func36 60 ?_; simp only [encR, textsA, eq_self, drun, aops, aone, aop, needs, ext, aev, aconst, aput, aupd, aload, afieldAddr, alen, tab_9, tab_52, ok1, cellsAs, TI.agg, AV.cells, AV.whole, Option.getD_some, Option.bind_some, Option.map_some, List.set_cons_zero, List.set_cons_succ, List.length_cons, List.length_nil, List.getElem?_cons_zero, List.getElem?_cons_succ, List.drop_zero, List.drop_succ_cons, List.take_succ_cons, List.take_zero, List.cons_append, List.nil_append, true_and, if_true, if_false, Nat.reduceAdd, Nat.reduceLeDiff, Nat.zero_add, Nat.reduceLeDiff, reduceCtorEq, List.getD_eq_getElem?_getD]
  refine Run.loopV (α := Nat × Int) (fun x => x.1 ≤ r.l.length ∧ 0 ≤ x.2 ∧ x.2 ≤ 562949953421312 ∧ longF r.l r.s.length = longF (r.l.drop x.1) x.2) (fun x => [(3, .int .i64 x.2), (4, .int .i64 x.1)]) 1 (fun _ => []) (fun x => r.l.length - x.1) (0, (r.s.length : Int)) ⟨Nat.zero_le _, by dsimp only; omega, by dsimp only; omega, rfl⟩ ?_ ?_
  · simp only [writes, junks, puts, hputs, List.filterMap_cons, List.filterMap_nil, Int.natCast_zero, List.set_cons_zero, List.set_cons_succ, List.take_succ_cons, List.take_nil, List.cons_append, List.nil_append, List.append_nil]
    (refine Weak.of (by simp [hc0]) ?_ ?_ <;> (repeat' (first | exact WkT.nil | exact WkH.nil _ | exact Le.refl _ | exact Le.junk _ | exact Le1.refl _ | exact Le1.nil _ | exact Le1.tok _ _ _ | exact Le1L.nil | rfl | apply WkT.cons | apply WkH.cons | apply LeB.same | apply LeB.box | apply Le1L.cons | apply Le.agg | apply Le.one)))
  · rintro ⟨k, n⟩ ⟨hI, hn0, hn1, hrd⟩ ih
    simp only [writes, junks, puts, hputs, List.filterMap_cons, List.filterMap_nil, List.set_cons_zero, List.set_cons_succ, List.take_succ_cons, List.take_nil, List.cons_append, List.nil_append, List.append_nil] at hI hn0 hn1 hrd ih ⊢
    by_cases hk : k < r.l.length
    · obtain ⟨x, hx⟩ : ∃ x, r.l[k]? = some x := ⟨_, List.getElem?_eq_getElem hk⟩
      have hkk : (k : Int) < r.l.length := by omega
      have hxl := h2 x (List.mem_of_getElem? hx)
      have hd : r.l.drop k = x :: r.l.drop (k + 1) := by
        obtain ⟨hk', rfl⟩ := List.getElem?_eq_some_iff.1 hx
        exact List.drop_eq_getElem_cons hk'
      rw [hd] at hrd
      by_cases hn : n ≤ 4000
      · rw [longF, if_pos hn] at hrd
        refine Run.god tab_ok follows_ok Try.func36 60 ?_; simp only [hx, hkk, hn, textC, List.getElem?_map, List.length_map, decide_true, eq_self, ↓alt_t, ↓alts_t, ↓gone_tt, gslot, drun, aops, aone, aop, needs, ext, aev, aconst, aput, aupd, aload, afieldAddr, aindexAddr, acmp, aarith, ashift, abin, alen, tab_3, tab_9, tab_28, tab_52, ok1, cellsAs, TI.agg, Option.getD_some, Option.bind_some, Option.map_some, List.set_cons_zero, List.set_cons_succ, List.length_cons, List.length_nil, List.getElem?_cons_zero, List.getElem?_cons_succ, List.getElem?_toArray, List.drop_zero, List.drop_succ_cons, List.take_succ_cons, List.take_nil, List.length_map, List.cons_append, List.nil_append, true_and, and_true, if_true, if_false, Nat.reduceAdd, Nat.zero_add, decide_true, Nat.reduceLT, reduceCtorEq, Nat.le_refl, Int.toNat_natCast, List.getD_eq_getElem?_getD]
        ((repeat' (apply And.intro)) <;> try (first | rfl | omega | (unfold I64; omega)))
        refine ih (k + 1, n + x.length + 9) _ ⟨by dsimp only; omega, by dsimp only; omega, by dsimp only; omega, hrd⟩ (by dsimp only; omega) ?_
        simp only [Int.natCast_add, Int.natCast_one]
        (refine Weak.of (by simp [hc0]) ?_ ?_ <;> (repeat' (first | exact WkT.nil | exact WkH.nil _ | exact Le.refl _ | exact Le.junk _ | exact Le1.refl _ | exact Le1.nil _ | exact Le1.tok _ _ _ | exact Le1L.nil | rfl | apply WkT.cons | apply WkH.cons | apply LeB.same | apply LeB.box | apply Le1L.cons | apply Le.agg | apply Le.one)))
      · rw [longF, if_neg hn] at hrd
        refine Run.god tab_ok follows_ok Try.func36 60 ?_; simp only [Try.results36, hkk, hn, List.length_map, decide_true, decide_false, eq_self, ↓alt_f, ↓alts_t, ↓gone_tt, gslot, drun, aops, aone, afin, ares, aresL, ares1, aresOk, aresOk1, aop, needs, ext, aev, aconst, aput, aupd, aload, afieldAddr, acmp, ashift, abin, alen, tab_3, tab_28, tab_52, ok1, cellsAs, TI.agg, exitTo, Option.getD_some, Option.bind_some, Option.map_some, List.set_cons_zero, List.set_cons_succ, List.length_cons, List.length_nil, List.getElem?_cons_zero, List.getElem?_cons_succ, List.getElem?_toArray, List.drop_zero, List.drop_succ_cons, List.take_succ_cons, List.take_nil, List.length_map, List.cons_append, List.nil_append, true_and, and_true, if_true, if_false, Nat.reduceAdd, Nat.zero_add, beq_self_eq_true, decide_true, decide_false, reduceCtorEq, Nat.le_refl, List.getD_eq_getElem?_getD]
        rw [longN, hrd]
        (repeat' (first | exact LeL.nil | exact Le1L.nil | exact Le.refl _ | exact Le1.refl _ | exact Le1.nil _ | exact Le1.tok _ _ _ | exact LeR.one (Le.refl _) | apply LeR.tup | apply LeL.cons | apply Le1L.cons | apply Le.agg | apply Le.one | apply LeR.one))
    · obtain rfl : k = r.l.length := by omega
      have hkk : ¬ (r.l.length : Int) < r.l.length := by omega
      rw [List.drop_length, longF] at hrd
      refine Run.god tab_ok follows_ok Try.func36 60 ?_; simp only [Try.results36, hkk, List.length_map, decide_false, eq_self, ↓alt_f, ↓alts_f, ↓gone_tf, gslot, drun, aops, aone, afin, ares, aresL, ares1, aresOk, aresOk1, aop, needs, ext, aev, aconst, aput, aupd, aload, afieldAddr, acmp, ashift, abin, alen, tab_3, tab_28, tab_52, ok1, cellsAs, TI.agg, exitTo, Option.getD_some, Option.bind_some, Option.map_some, List.set_cons_zero, List.set_cons_succ, List.length_cons, List.length_nil, List.getElem?_cons_zero, List.getElem?_cons_succ, List.getElem?_toArray, List.drop_zero, List.drop_succ_cons, List.take_succ_cons, List.take_nil, List.length_map, List.cons_append, List.nil_append, true_and, and_true, if_true, if_false, Nat.reduceAdd, Nat.zero_add, beq_self_eq_true, decide_false, reduceCtorEq, Nat.le_refl, List.getD_eq_getElem?_getD]
      rw [longN, hrd]
      (repeat' (first | exact LeL.nil | exact Le1L.nil | exact Le.refl _ | exact Le1.refl _ | exact Le1.nil _ | exact Le1.tok _ _ _ | exact LeR.one (Le.refl _) | apply LeR.tup | apply LeL.cons | apply Le1L.cons | apply Le.agg | apply Le.one | apply LeR.one))
set_option maxRecDepth 20000 in
theorem same_spec (r q : Rpl) (hl : r.l.length ≤ 1000000000000) : ASpec Try.prog 44 [encR r, encR q] (.bool (decide (r = q))) := by
  obtain ⟨a, b, e, s, x, l⟩ := r
  obtain ⟨a', b', e', s', x', l'⟩ := q
  have hs := equal_spec l l' hl
  refine ⟨⟨_, Try.func44, by kernel_rfl, rfl⟩, ACall.of Try.func44 rfl fun c0 hc0 => ?_⟩; simp only [Try.ntmps44, List.length_cons, List.length_nil, Nat.reduceAdd, Nat.reduceSub, List.replicate_succ, List.replicate_zero, List.cons_append, List.nil_append]; refine Run.god tab_ok follows_ok Try.func44 60 ?_; simp (config := { maxSteps := 2000000 }) +contextual only [Try.results44, encR, textsA, Rpl.mk.injEq, eq_self, ↓alts_t, ↓alts_f, alts, ↓gone_tt, ↓gone_tf, gslot, drun, aops, aone, afin, ares, aresL, ares1, aresOk, aresOk1, aop, needs, ext, aev, aconst, aput, aupd, aload, afieldAddr, acmp, ashift, abin, tab_3, tab_9, tab_28, tab_33, tab_52, ok1, cellsAs, TI.agg, AV.cells, AV.whole, Option.getD_some, Option.bind_some, Option.map_some, List.set_cons_zero, List.set_cons_succ, List.length_cons, List.length_nil, List.getElem?_cons_zero, List.getElem?_cons_succ, List.getElem?_toArray, List.drop_zero, List.drop_succ_cons, List.take_succ_cons, List.take_zero, List.take_nil, List.cons_append, List.nil_append, true_and, and_true, if_true, if_false, Nat.reduceAdd, Nat.reduceLeDiff, Nat.zero_add, Nat.add_zero, decide_eq_true_eq, decide_eq_false_iff_not, decide_true, decide_false, Nat.reduceLeDiff, reduceCtorEq, Nat.le_refl, List.getD_eq_getElem?_getD]
  (repeat' (first | (intro _) | (apply And.intro)))
  all_goals try (first | rfl | (repeat' (first | exact LeL.nil | exact Le1L.nil | exact Le.refl _ | exact Le1.refl _ | exact Le1.nil _ | exact Le1.tok _ _ _ | exact LeR.one (Le.refl _) | apply LeR.tup | apply LeL.cons | apply Le1L.cons | apply Le.agg | apply Le.one | apply LeR.one)))
  refine Ops.pure (Wanted.test 33 true true rfl) rfl rfl (hs) (by simp only [textsA, aev, Option.getD_some, List.getElem?_cons_zero, List.getElem?_cons_succ, List.map_cons, List.map_nil, List.nil_append, List.append_nil, List.getD_eq_getElem?_getD]; (repeat' (first | exact LeL.nil | exact Le1L.nil | exact Le.refl _ | exact Le1.refl _ | exact Le1.nil _ | exact Le1.tok _ _ _ | exact LeR.one (Le.refl _) | apply LeR.tup | apply LeL.cons | apply Le1L.cons | apply Le.agg | apply Le.one | apply LeR.one))) rfl rfl ?_
  refine Ops.god tab_ok follows_ok Try.func44 60 ?_; simp only [Try.results44, drun, aops, aone, afin, ares, aresL, ares1, aresOk, aresOk1, aop, needs, ext, aev, aput, aupd, ok1, Option.getD_some, Option.bind_some, Option.map_some, List.set_cons_zero, List.set_cons_succ, List.getElem?_cons_zero, List.getElem?_cons_succ, List.cons_append, List.nil_append, true_and, and_true, if_false, reduceCtorEq, List.getD_eq_getElem?_getD]
  (repeat' (first | exact LeL.nil | exact Le1L.nil | exact Le.refl _ | exact Le1.refl _ | exact Le1.nil _ | exact Le1.tok _ _ _ | exact LeR.one (Le.refl _) | apply LeR.tup | apply LeL.cons | apply Le1L.cons | apply Le.agg | apply Le.one | apply LeR.one))
set_option maxRecDepth 20000 in
theorem rsame12_spec (r q : Rpl) (hl : r.l.length ≤ 1000000000000) : ASpec Try.prog 45 [encR r, encR q] (.bool (decide (r = q))) := by
  obtain ⟨a, b, e, s, x, l⟩ := r
  obtain ⟨a', b', e', s', x', l'⟩ := q
  have hs := strings_spec l l' hl
  refine ⟨⟨_, Try.func45, by kernel_rfl, rfl⟩, ACall.of Try.func45 rfl fun c0 hc0 => ?_⟩; simp only [Try.ntmps45, List.length_cons, List.length_nil, Nat.reduceAdd, Nat.reduceSub, List.replicate_succ, List.replicate_zero, List.cons_append, List.nil_append]; refine Run.god tab_ok follows_ok Try.func45 60 ?_; simp (config := { maxSteps := 2000000 }) +contextual only [Try.results45, encR, textsA, Rpl.mk.injEq, eq_self, ↓alts_t, ↓alts_f, alts, ↓gone_tt, ↓gone_tf, gslot, drun, aops, aone, afin, ares, aresL, ares1, aresOk, aresOk1, aop, needs, ext, aev, aconst, aput, aupd, aload, afieldAddr, acmp, ashift, abin, tab_3, tab_9, tab_28, tab_33, tab_60, ok1, cellsAs, TI.agg, AV.cells, AV.whole, Option.getD_some, Option.bind_some, Option.map_some, List.set_cons_zero, List.set_cons_succ, List.length_cons, List.length_nil, List.getElem?_cons_zero, List.getElem?_cons_succ, List.getElem?_toArray, List.drop_zero, List.drop_succ_cons, List.take_succ_cons, List.take_zero, List.take_nil, List.cons_append, List.nil_append, true_and, and_true, if_true, if_false, Nat.reduceAdd, Nat.reduceLeDiff, Nat.zero_add, Nat.add_zero, decide_eq_true_eq, decide_eq_false_iff_not, decide_true, decide_false, Nat.reduceLeDiff, reduceCtorEq, Nat.le_refl, List.getD_eq_getElem?_getD]
  (repeat' (first | (intro _) | (apply And.intro)))
  all_goals try (first | rfl | (repeat' (first | exact LeL.nil | exact Le1L.nil | exact Le.refl _ | exact Le1.refl _ | exact Le1.nil _ | exact Le1.tok _ _ _ | exact LeR.one (Le.refl _) | apply LeR.tup | apply LeL.cons | apply Le1L.cons | apply Le.agg | apply Le.one | apply LeR.one)))
  refine Ops.pure (Wanted.test 33 true true rfl) rfl rfl (hs) (by simp only [textsA, aev, Option.getD_some, List.getElem?_cons_zero, List.getElem?_cons_succ, List.map_cons, List.map_nil, List.nil_append, List.append_nil, List.getD_eq_getElem?_getD]; (repeat' (first | exact LeL.nil | exact Le1L.nil | exact Le.refl _ | exact Le1.refl _ | exact Le1.nil _ | exact Le1.tok _ _ _ | exact LeR.one (Le.refl _) | apply LeR.tup | apply LeL.cons | apply Le1L.cons | apply Le.agg | apply Le.one | apply LeR.one))) rfl rfl ?_
  refine Ops.god tab_ok follows_ok Try.func45 60 ?_; simp only [Try.results45, drun, aops, aone, afin, ares, aresL, ares1, aresOk, aresOk1, aop, needs, ext, aev, aput, aupd, ok1, Option.getD_some, Option.bind_some, Option.map_some, List.set_cons_zero, List.set_cons_succ, List.getElem?_cons_zero, List.getElem?_cons_succ, List.cons_append, List.nil_append, true_and, and_true, if_false, reduceCtorEq, List.getD_eq_getElem?_getD]
  (repeat' (first | exact LeL.nil | exact Le1L.nil | exact Le.refl _ | exact Le1.refl _ | exact Le1.nil _ | exact Le1.tok _ _ _ | exact LeR.one (Le.refl _) | apply LeR.tup | apply LeL.cons | apply Le1L.cons | apply Le.agg | apply Le.one | apply LeR.one))
end Go.Proofs.Ytpigfpnpabnnbaa
