/-
  tally.Best, by its shadow.
-/
import Derived.Test.YtgonmnjgodleeaaDoorPb
import Derived.Test.YtgonmnjgodleeaaDoorPd
import Derived.Test.YtgonmnjgodleeaaDoorBl
namespace Go.Proofs.YtgonmnjgodleeaaDoor
open Go.RowKit
/-- What is counted of votes. -/
def votesM : List Acc → List (Ck × Nat) → List (Ck × Nat)
  | [], m => m
  | a :: l, m => votesM l (addC m (cvA a))
theorem votesM_cnt (x : Ck) : ∀ (l : List Acc) (m : List (Ck × Nat)), cntC (votesM l m) x = cntC m x + l.countP (isV x.1 x.2)
  | [], m => by simp [votesM]
  | a :: l, m => by
    rw [votesM, votesM_cnt x l, cnt_addC, List.countP_cons]
    by_cases h : cvA a = x
    · have e : isV x.1 x.2 a = true := by subst h; simp [isV, cvA]
      rw [if_pos h, if_pos e]; omega
    · have e : ¬ isV x.1 x.2 a = true := by
        intro e
        simp only [isV, Bool.and_eq_true, decide_eq_true_eq] at e
        exact h (by simp [cvA, e.1, e.2])
      rw [if_neg h, if_neg e]; omega
theorem votesM_snoc (a : Acc) : ∀ (l : List Acc) (m : List (Ck × Nat)), votesM (l ++ [a]) m = addC (votesM l m) (cvA a)
  | [], m => rfl
  | b :: l, m => votesM_snoc a l _
theorem cntC_le {n : Nat} (m : List (Ck × Nat)) (x : Ck) : (∀ p ∈ m, p.2 ≤ n) → ∀ p ∈ addC m x, p.2 ≤ n + 1 := by
  intro h p hp
  rcases addC_cases m x with ⟨j, k, _, h1, h2⟩ | ⟨_, h2⟩
  · rw [h2] at hp
    rcases List.mem_or_eq_of_mem_set hp with hp | rfl
    · have := h p hp; omega
    · have := h _ (List.mem_of_getElem? h1); simp only at this ⊢; omega
  · rw [h2] at hp
    rcases List.mem_append.1 hp with hp | hp
    · have := h p hp; omega
    · simp at hp; subst hp; simp
/-- A key that is behind all. -/
theorem afind_end (x : Ck) (v : AV) : ∀ (m : List (Ck × Nat)) (i : Nat), m.findIdx? (fun p => p.1 == x) = none → afind (kE x) (mpC m ++ [(kE x, v)]) i = some (some (i + m.length))
  | [], i, _ => by simp [mpC, afind, akeq_kE]
  | p :: m, i, h => by
    rw [List.findIdx?_cons] at h
    split at h
    · cases h
    · rename_i hp
      have hp' : ¬ x = p.1 := fun e => hp (by simp [e])
      have ih := afind_end x v m (i + 1) (by simpa using h)
      simp only [mpC, List.map_cons, List.cons_append, afind, akeq_kE, decide_eq_false hp', List.length_cons] at ih ⊢
      rw [ih, show i + 1 + m.length = i + (m.length + 1) by omega]
theorem mpC_len (m : List (Ck × Nat)) : (mpC m).length = m.length := by simp [mpC]
theorem mpC_fin {m : List (Ck × Nat)} {x : Ck} (hf : m.findIdx? (fun p => p.1 == x) = none) : pset (mpC m ++ [(kE x, .int .i64 0)]) m.length (.int .i64 1) = mpC (addC m x) := by
  rw [← mpC_add hf]
  apply List.ext_getElem?
  intro i
  rw [getElem?_pset, List.getElem?_append, List.getElem?_append, mpC_len]
  by_cases h : i < m.length
  · have : ¬ i = m.length := by omega
    have : ¬ m.length = i := by omega
    simp [h, *]
  · by_cases he : i = m.length
    · subst he; simp
    · have : ¬ m.length = i := by omega
      have h2 : ¬ i - m.length = 0 := by omega
      obtain ⟨q, hq⟩ : ∃ q, i - m.length = q + 1 := ⟨i - m.length - 1, by omega⟩
      simp [h, he, this, hq]
def bxC : Option Cv → List AV
  | none => [.int .i64 (-1), .str []]
  | some c => [.int .i64 c.1, .str c.2]
theorem bxC_bel (b : Option Cv) (n : Nat) : (ABlk.box (bxC b)).bel n = true := by
  cases b <;> simp [ABlk.bel, bxC, AV.bel, belL]
set_option maxRecDepth 20000 in
set_option maxHeartbeats 4000000 in
theorem best_spec (l : List Acc) (need : Int) (hl : l.length ≤ 1000000) (hv : ∀ a ∈ l, 0 ≤ a.view) : ASpec Tryd.prog 23 [.agg [votesA l], .int .i64 need] (bestVA (bestV l need)) := by
  refine ⟨⟨_, Tryd.func23, by kernel_rfl, rfl⟩, ACall.of Tryd.func23 rfl fun c0 hc0 => ?_⟩; simp only [Tryd.ntmps23, List.length_cons, List.length_nil, Nat.reduceAdd, Nat.reduceSub, List.replicate_succ, List.replicate_zero, List.cons_append, List.nil_append]; refine Run.god tab_ok follows_ok Tryd.func23 60 ?_; simp only [votesA, List.length_map, Int.reduceNeg, drun, aops, aone, aop, needs, ext, aev, aconst, aput, aupd, aload, afieldAddr, alen, tab_24, tab_26, tab_69, ok1, cellsAs, TI.agg, AV.cells, AV.whole, Option.getD_some, Option.bind_some, Option.map_some, List.set_cons_zero, List.set_cons_succ, List.length_cons, List.length_nil, List.getElem?_cons_zero, List.getElem?_cons_succ, List.drop_zero, List.take_succ_cons, List.take_nil, List.length_map, List.cons_append, List.nil_append, true_and, if_true, if_false, Nat.zero_add, Nat.add_zero, Nat.le_refl, List.getD_eq_getElem?_getD, Bool.false_eq_true]
  refine Run.loopV (α := Nat × List (Ck × Nat)) (fun x => x.1 ≤ l.length ∧ x.2 = votesM (l.take x.1) [] ∧ ∀ p ∈ x.2, p.2 ≤ x.1) (fun x => [(19, .int .i64 x.1)]) 2 (fun x => [(1, .map (mpC x.2))]) (fun x => l.length - x.1) (0, []) ⟨Nat.zero_le _, rfl, by simp⟩ ?_ ?_
  · simp only [writes, junks, puts, hputs, List.filterMap_cons, List.filterMap_nil, Int.natCast_zero, List.set_cons_zero, List.set_cons_succ, List.take_succ_cons, List.take_nil, List.map_nil, List.cons_append, List.nil_append, List.append_nil, mpC]
    (refine Weak.of (by simp [hc0]) ?_ ?_ <;> (repeat' (first | exact WkT.nil | exact WkH.nil _ | exact Le.refl _ | exact Le.junk _ | exact Le1.refl _ | exact Le1.nil _ | exact Le1.tok _ _ _ | exact Le1L.nil | rfl | apply WkT.cons | apply WkH.cons | apply LeB.same | apply LeB.box | apply Le1L.cons | apply Le.agg | apply Le.one)))
  rintro ⟨k, m⟩ ⟨hI, hm, hp⟩ ih
  simp only [writes, junks, puts, hputs, List.filterMap_cons, List.filterMap_nil, List.set_cons_zero, List.set_cons_succ, List.take_succ_cons, List.take_nil, List.cons_append, List.nil_append, List.append_nil] at hI hm hp ih ⊢
  by_cases hk : k < l.length
  · obtain ⟨a, ha⟩ : ∃ a, l[k]? = some a := ⟨_, List.getElem?_eq_getElem hk⟩
    have hkk : (k : Int) < l.length := by omega
    have haf := afind_mpC (cvA a) m 0
    have hm2 : addC m (cvA a) = votesM (l.take (k + 1)) [] := by rw [List.take_add_one, ha, hm]; exact (votesM_snoc a _ _).symm
    have hle := cntC_le m (cvA a) hp
    refine Run.god tab_ok follows_ok Tryd.func23 9 ?_; simp only [ha, hkk, accC, List.getElem?_map, List.length_map, decide_true, ↓alt_t, Int.reduceNeg, drun, aops, aone, aop, needs, ext, aev, aput, aupd, aload, astore, aindexAddr, acmp, ashift, abin, tab_3, tab_24, tab_35, ok1, lay, cellsAs, TI.agg, AV.cells, AV.whole, Option.getD_some, Option.bind_some, Option.map_some, List.set_cons_zero, List.set_cons_succ, List.length_cons, List.length_nil, List.getElem?_cons_zero, List.getElem?_cons_succ, List.drop_succ_cons, List.take_succ_cons, List.take_zero, List.take_nil, List.drop_nil, List.length_map, List.cons_append, List.nil_append, List.append_nil, true_and, and_true, if_true, if_false, Nat.reduceAdd, Nat.zero_add, decide_true, Nat.reduceLT, Nat.le_refl, Int.toNat_natCast, List.getD_eq_getElem?_getD, Bool.false_eq_true]
    ((repeat' (apply And.intro)) <;> try (first | rfl | omega | (unfold I64; omega)))
    cases hfi : m.findIdx? (fun p => p.1 == cvA a) with
    | none =>
      rw [hfi] at haf
      have hfa : afind (.agg [.int .i64 a.view, .str a.value]) (mpC m) 0 = some none := haf
      have hfe : afind (.agg [.int .i64 a.view, .str a.value]) (mpC m ++ [(.agg [.int .i64 a.view, .str a.value], .int .i64 0)]) 0 = some (some m.length) := (afind_end (cvA a) _ m 0 hfi).trans (by rw [Nat.zero_add])
      have hge : (mpC m ++ [(AV.agg [.int .i64 a.view, .str a.value], AV.int .i64 0)])[m.length]? = some (.agg [.int .i64 a.view, .str a.value], .int .i64 0) := by rw [List.getElem?_append_right (by rw [mpC_len]; omega), mpC_len, Nat.sub_self]; rfl
      have hpf : pset (mpC m ++ [(AV.agg [.int .i64 a.view, .str a.value], AV.int .i64 0)]) m.length (.int .i64 1) = mpC (addC m (cvA a)) := mpC_fin hfi
      have hpl : ((m.length : Int) < ((m.length + 1 : Nat) : Int)) := by omega
      refine Run.soft tab_ok follows_ok Tryd.func23 60 6 8 1 (.map (mpC m ++ [(.agg [.int .i64 a.view, .str a.value], .int .i64 0)])) ?_ ?_; exact rfl; simp only [Tryd.results23, hfa, hfe, hge, hpf, hpl, mpC_len, List.length_append, Int.zero_add, ↓reduceIte, sadops, sdone, ne_eq, keyCs, amapEntry, aentryStore, alookup, mapK, keyTy, Int.reduceNeg, places, mayNeed, freeOk, rdOf, AV.id, wrOf, aop, needs, aev, aconst, aput, aupd, aload, afieldAddr, acmp, aarith, ashift, abin, abuild, tab_3, tab_9, tab_35, tab_69, tab_71, ok1, lay, cellsAs, TI.agg, AV.cells, AV.whole, Option.getD_some, Option.bind_some, Option.map_some, List.set_cons_zero, List.set_cons_succ, List.length_cons, List.length_nil, List.getElem?_cons_zero, List.getElem?_cons_succ, List.drop_zero, List.drop_succ_cons, List.take_succ_cons, List.take_zero, List.take_nil, List.drop_nil, List.map_cons, List.map_nil, List.cons_append, List.nil_append, List.append_nil, true_and, and_true, reduceIte, Nat.reduceAdd, Nat.reduceLeDiff, Nat.reduceEqDiff, Nat.zero_add, not_false_eq_true, Nat.reduceLT, Nat.reduceLeDiff, forall_const, reduceCtorEq, false_implies, Nat.le_refl, Option.some.injEq, Int.toNat_natCast, List.getD_eq_getElem?_getD, Bool.false_eq_true]; simp only [Int.reduceNeg, drun, aops, aone, aop, needs, ext, aev, aconst, aput, aupd, acmp, aarith, ashift, abin, tab_3, ok1, Option.getD_some, Option.bind_some, List.set_cons_zero, List.set_cons_succ, List.getElem?_cons_zero, List.getElem?_cons_succ, List.cons_append, List.nil_append, true_and, if_true, if_false, List.getD_eq_getElem?_getD, Bool.false_eq_true]
      ((repeat' (apply And.intro)) <;> try (first | rfl | omega | (unfold I64; omega)))
      refine ih (k + 1, addC m (cvA a)) _ ⟨by dsimp only; omega, hm2, hle⟩ (by dsimp only; omega) ?_
      simp only [Int.natCast_add, Int.natCast_one]
      (refine Weak.of (by simp [hc0]) ?_ ?_ <;> (repeat' (first | exact WkT.nil | exact WkH.nil _ | exact Le.refl _ | exact Le.junk _ | exact Le1.refl _ | exact Le1.nil _ | exact Le1.tok _ _ _ | exact Le1L.nil | rfl | apply WkT.cons | apply WkH.cons | apply LeB.same | apply LeB.box | apply Le1L.cons | apply Le.agg | apply Le.one)))
      all_goals first | exact mpC_bel _ _ | exact bxC_bel _ _
    | some j =>
      rw [hfi] at haf
      have hfa : afind (.agg [.int .i64 a.view, .str a.value]) (mpC m) 0 = some (some j) := haf
      obtain ⟨n, hn, hjl, _⟩ := idxC hfi
      have hset := mpC_set hn hfi
      have hmj : (mpC m)[j]? = some (.agg [.int .i64 a.view, .str a.value], .int .i64 n) := by unfold mpC; rw [List.getElem?_map, hn]; rfl
      have hnl := hp _ (List.mem_of_getElem? hn)
      simp only at hnl
      have hjl' : (j : Int) < (m.length : Int) := by omega
      refine Run.soft tab_ok follows_ok Tryd.func23 60 6 8 1 (.map (mpC m)) ?_ ?_; exact rfl; simp only [Tryd.results23, hfa, hmj, hset, hjl', mpC_len, ↓reduceIte, sadops, sdone, ne_eq, keyCs, amapEntry, aentryStore, alookup, mapK, keyTy, Int.reduceNeg, places, mayNeed, freeOk, rdOf, AV.id, wrOf, aop, needs, aev, aconst, aput, aupd, aload, afieldAddr, acmp, aarith, ashift, abin, abuild, tab_3, tab_9, tab_35, tab_69, tab_71, ok1, lay, cellsAs, TI.agg, AV.cells, AV.whole, Option.getD_some, Option.bind_some, Option.map_some, List.set_cons_zero, List.set_cons_succ, List.length_cons, List.length_nil, List.getElem?_cons_zero, List.getElem?_cons_succ, List.drop_zero, List.drop_succ_cons, List.take_succ_cons, List.take_zero, List.take_nil, List.drop_nil, List.map_cons, List.map_nil, List.cons_append, List.nil_append, List.append_nil, true_and, and_true, reduceIte, Nat.reduceAdd, Nat.reduceLeDiff, Nat.reduceEqDiff, Nat.zero_add, not_false_eq_true, Nat.reduceLT, Nat.reduceLeDiff, forall_const, reduceCtorEq, false_implies, Nat.le_refl, Option.some.injEq, Int.toNat_natCast, List.getD_eq_getElem?_getD, Bool.false_eq_true]; simp only [Int.reduceNeg, drun, aops, aone, aop, needs, ext, aev, aconst, aput, aupd, acmp, aarith, ashift, abin, tab_3, ok1, Option.getD_some, Option.bind_some, List.set_cons_zero, List.set_cons_succ, List.getElem?_cons_zero, List.getElem?_cons_succ, List.cons_append, List.nil_append, true_and, if_true, if_false, List.getD_eq_getElem?_getD, Bool.false_eq_true]
      ((repeat' (apply And.intro)) <;> try (first | rfl | omega | (unfold I64; omega)))
      refine ih (k + 1, addC m (cvA a)) _ ⟨by dsimp only; omega, hm2, hle⟩ (by dsimp only; omega) ?_
      simp only [Int.natCast_add, Int.natCast_one]
      (refine Weak.of (by simp [hc0]) ?_ ?_ <;> (repeat' (first | exact WkT.nil | exact WkH.nil _ | exact Le.refl _ | exact Le.junk _ | exact Le1.refl _ | exact Le1.nil _ | exact Le1.tok _ _ _ | exact Le1L.nil | rfl | apply WkT.cons | apply WkH.cons | apply LeB.same | apply LeB.box | apply Le1L.cons | apply Le.agg | apply Le.one)))
      all_goals first | exact mpC_bel _ _ | exact bxC_bel _ _
  have hkk : ¬ (k : Int) < l.length := by omega
  obtain rfl : k = l.length := by omega
  rw [List.take_length] at hm
  have hcnt : ∀ x : Ck, cntC m x = l.countP (isV x.1 x.2) := fun x => by rw [hm, votesM_cnt]; simp [cntC]
  refine Run.god tab_ok follows_ok Tryd.func23 60 ?_; simp only [hkk, List.length_map, decide_false, ↓alt_f, Int.reduceNeg, drun, aops, aone, aop, needs, ext, aev, aconst, aput, aupd, aload, astore, afieldAddr, acmp, ashift, abin, alen, abuild, tab_3, tab_24, tab_26, tab_71, ok1, lay, cellsAs, TI.agg, AV.cells, AV.whole, exitTo, Option.getD_some, Option.bind_some, Option.map_some, List.set_cons_zero, List.set_cons_succ, List.length_cons, List.length_nil, List.getElem?_cons_zero, List.getElem?_cons_succ, List.drop_zero, List.drop_succ_cons, List.take_succ_cons, List.take_zero, List.take_nil, List.drop_nil, List.map_cons, List.map_nil, List.length_map, List.cons_append, List.nil_append, List.append_nil, true_and, and_true, if_true, if_false, Nat.reduceAdd, Nat.reduceLeDiff, Nat.zero_add, Nat.add_zero, beq_self_eq_true, decide_false, Nat.reduceLeDiff, Nat.le_refl, List.getD_eq_getElem?_getD, Bool.false_eq_true]
  refine Run.loopV (α := Nat × Option Cv) (fun x => x.1 ≤ l.length ∧ bestV l need = (l.drop x.1).foldl (betterV l need) x.2) (fun x => [(11, .bool x.2.isSome), (38, .int .i64 x.1)]) 3 (fun x => [(2, .box (bxC x.2))]) (fun x => l.length - x.1) (0, none) ⟨Nat.zero_le _, rfl⟩ ?_ ?_
  · simp only [writes, junks, puts, hputs, List.filterMap_cons, List.filterMap_nil, Int.natCast_zero, List.set_cons_zero, List.set_cons_succ, List.take_succ_cons, List.take_nil, List.cons_append, List.nil_append, List.append_nil, Option.isSome_none, bxC, Option.isSome_none]
    (refine Weak.of (by simp [hc0]) ?_ ?_ <;> (repeat' (first | exact WkT.nil | exact WkH.nil _ | exact Le.refl _ | exact Le.junk _ | exact Le1.refl _ | exact Le1.nil _ | exact Le1.tok _ _ _ | exact Le1L.nil | rfl | apply WkT.cons | apply WkH.cons | apply LeB.same | apply LeB.box | apply Le1L.cons | apply Le.agg | apply Le.one)))
    all_goals first | exact mpC_bel _ _ | exact bxC_bel _ _
  rintro ⟨k, b⟩ ⟨hI2, hb⟩ ih2
  simp only [writes, junks, puts, hputs, List.filterMap_cons, List.filterMap_nil, List.set_cons_zero, List.set_cons_succ, List.take_succ_cons, List.take_nil, List.cons_append, List.nil_append, List.append_nil] at hI2 hb ih2 ⊢
  by_cases hk : k < l.length
  · obtain ⟨a, ha⟩ : ∃ a, l[k]? = some a := ⟨_, List.getElem?_eq_getElem hk⟩
    have hkk2 : (k : Int) < l.length := by omega
    rw [drop_at ha, List.foldl_cons] at hb
    have hav := hv a (List.mem_of_getElem? ha)
    have haf := afind_mpC (cvA a) m 0
    have hc := hcnt (cvA a)
    obtain ⟨n, hnn⟩ : ∃ n, n = l.countP (isV a.view a.value) := ⟨_, rfl⟩
    have hcn : cntC m (cvA a) = n := hc.trans hnn.symm
    by_cases h1 : 1 ≤ need
    case neg =>
      have e : betterV l need b a = b := by unfold betterV; rw [decide_eq_false h1]; simp
      rw [e] at hb
      refine Run.god tab_ok follows_ok Tryd.func23 60 ?_; simp only [ha, hkk2, h1, accC, List.getElem?_map, List.length_map, decide_true, decide_false, ↓alt_t, ↓alt_f, ↓alts_f, ↓gone_tf, gslot, Int.reduceNeg, drun, aops, aone, aop, needs, ext, aev, aconst, aput, aupd, aload, astore, afieldAddr, aindexAddr, acmp, aarith, ashift, abin, abuild, tab_3, tab_9, tab_24, tab_35, tab_71, ok1, lay, cellsAs, TI.agg, AV.cells, AV.whole, Option.getD_some, Option.bind_some, Option.map_some, List.set_cons_zero, List.set_cons_succ, List.length_cons, List.length_nil, List.getElem?_cons_zero, List.getElem?_cons_succ, List.getElem?_toArray, List.drop_zero, List.drop_succ_cons, List.take_succ_cons, List.take_zero, List.take_nil, List.drop_nil, List.map_cons, List.map_nil, List.length_map, List.cons_append, List.nil_append, List.append_nil, true_and, and_true, if_true, if_false, Nat.reduceAdd, Nat.reduceLeDiff, Nat.zero_add, decide_true, decide_false, Nat.reduceLT, Nat.reduceLeDiff, Nat.le_refl, Int.toNat_natCast, List.getD_eq_getElem?_getD, Bool.false_eq_true]
      ((repeat' (apply And.intro)) <;> try (first | rfl | omega | (unfold I64; omega)))
      refine ih2 (k + 1, b) _ ⟨by dsimp only; omega, hb⟩ (by dsimp only; omega) ?_
      simp only [Int.natCast_add, Int.natCast_one]
      (refine Weak.of (by simp [hc0]) ?_ ?_ <;> (repeat' (first | exact WkT.nil | exact WkH.nil _ | exact Le.refl _ | exact Le.junk _ | exact Le1.refl _ | exact Le1.nil _ | exact Le1.tok _ _ _ | exact Le1L.nil | rfl | apply WkT.cons | apply WkH.cons | apply LeB.same | apply LeB.box | apply Le1L.cons | apply Le.agg | apply Le.one)))
      all_goals first | exact mpC_bel _ _ | exact bxC_bel _ _
    case pos =>
    cases hfi : m.findIdx? (fun p => p.1 == cvA a) with
    | none =>
      rw [hfi] at haf
      have hfa : afind (.agg [.int .i64 a.view, .str a.value]) (mpC m) 0 = some none := haf
      have hn0 : n = 0 := by rw [← hcn]; unfold cntC; rw [hfi]
      have h2 : ¬ need ≤ (n : Int) := by omega
      have h2' : ¬ need ≤ 0 := by omega
      have e : betterV l need b a = b := by unfold betterV; rw [← hnn, decide_eq_false h2]; simp
      rw [e] at hb
      refine Run.god tab_ok follows_ok Tryd.func23 60 ?_; simp only [ha, hkk2, h1, h2', hfa, accC, List.getElem?_map, List.length_map, decide_true, decide_false, ↓alt_t, ↓alt_f, ↓alts_t, ↓alts_f, ↓gone_tt, ↓gone_tf, gslot, keyCs, alookup, mapK, keyTy, Int.reduceNeg, drun, aops, aone, aop, needs, ext, aev, aconst, aput, aupd, aload, astore, afieldAddr, aindexAddr, acmp, aarith, ashift, abin, abuild, tab_3, tab_9, tab_24, tab_35, tab_69, tab_71, ok1, lay, cellsAs, TI.agg, AV.cells, AV.whole, Option.getD_some, Option.bind_some, Option.map_some, List.set_cons_zero, List.set_cons_succ, List.length_cons, List.length_nil, List.getElem?_cons_zero, List.getElem?_cons_succ, List.getElem?_toArray, List.drop_zero, List.drop_succ_cons, List.take_succ_cons, List.take_zero, List.take_nil, List.drop_nil, List.map_cons, List.map_nil, List.length_map, List.cons_append, List.nil_append, List.append_nil, true_and, and_true, if_true, if_false, Nat.reduceAdd, Nat.reduceLeDiff, Nat.zero_add, decide_true, decide_false, Nat.reduceLT, Nat.reduceLeDiff, Nat.le_refl, Int.toNat_natCast, List.getD_eq_getElem?_getD, Bool.false_eq_true]
      ((repeat' (apply And.intro)) <;> try (first | rfl | omega | (unfold I64; omega)))
      refine ih2 (k + 1, b) _ ⟨by dsimp only; omega, hb⟩ (by dsimp only; omega) ?_
      simp only [Int.natCast_add, Int.natCast_one]
      (refine Weak.of (by simp [hc0]) ?_ ?_ <;> (repeat' (first | exact WkT.nil | exact WkH.nil _ | exact Le.refl _ | exact Le.junk _ | exact Le1.refl _ | exact Le1.nil _ | exact Le1.tok _ _ _ | exact Le1L.nil | rfl | apply WkT.cons | apply WkH.cons | apply LeB.same | apply LeB.box | apply Le1L.cons | apply Le.agg | apply Le.one)))
      all_goals first | exact mpC_bel _ _ | exact bxC_bel _ _
    | some j =>
    rw [hfi] at haf
    have hfa : afind (.agg [.int .i64 a.view, .str a.value]) (mpC m) 0 = some (some j) := haf
    obtain ⟨n', hn', hjl, hcc, _⟩ := idxC hfi
    obtain rfl : n' = n := hcc.symm.trans hcn
    have hmj : (mpC m)[j]? = some (.agg [.int .i64 a.view, .str a.value], .int .i64 n') := by unfold mpC; rw [List.getElem?_map, hn']; rfl
    by_cases h2 : need ≤ (n' : Int)
    case neg =>
      have e : betterV l need b a = b := by unfold betterV; rw [← hnn, decide_eq_false h2]; simp
      rw [e] at hb
      refine Run.god tab_ok follows_ok Tryd.func23 60 ?_; simp only [ha, hkk2, h1, h2, hfa, hmj, accC, List.getElem?_map, List.length_map, decide_true, decide_false, ↓alt_t, ↓alt_f, ↓alts_t, ↓alts_f, ↓gone_tt, ↓gone_tf, gslot, keyCs, alookup, mapK, keyTy, Int.reduceNeg, drun, aops, aone, aop, needs, ext, aev, aconst, aput, aupd, aload, astore, afieldAddr, aindexAddr, acmp, aarith, ashift, abin, abuild, tab_3, tab_9, tab_24, tab_35, tab_69, tab_71, ok1, lay, cellsAs, TI.agg, AV.cells, AV.whole, Option.getD_some, Option.bind_some, Option.map_some, List.set_cons_zero, List.set_cons_succ, List.length_cons, List.length_nil, List.getElem?_cons_zero, List.getElem?_cons_succ, List.getElem?_toArray, List.drop_zero, List.drop_succ_cons, List.take_succ_cons, List.take_zero, List.take_nil, List.drop_nil, List.map_cons, List.map_nil, List.length_map, List.cons_append, List.nil_append, List.append_nil, true_and, and_true, if_true, if_false, Nat.reduceAdd, Nat.reduceLeDiff, Nat.zero_add, decide_true, decide_false, Nat.reduceLT, Nat.reduceLeDiff, Nat.le_refl, Int.toNat_natCast, List.getD_eq_getElem?_getD, Bool.false_eq_true]
      ((repeat' (apply And.intro)) <;> try (first | rfl | omega | (unfold I64; omega)))
      refine ih2 (k + 1, b) _ ⟨by dsimp only; omega, hb⟩ (by dsimp only; omega) ?_
      simp only [Int.natCast_add, Int.natCast_one]
      (refine Weak.of (by simp [hc0]) ?_ ?_ <;> (repeat' (first | exact WkT.nil | exact WkH.nil _ | exact Le.refl _ | exact Le.junk _ | exact Le1.refl _ | exact Le1.nil _ | exact Le1.tok _ _ _ | exact Le1L.nil | rfl | apply WkT.cons | apply WkH.cons | apply LeB.same | apply LeB.box | apply Le1L.cons | apply Le.agg | apply Le.one)))
      all_goals first | exact mpC_bel _ _ | exact bxC_bel _ _
    case pos =>
    cases b with
    | none =>
      have h3 : (-1 : Int) < a.view := by omega
      have e : betterV l need none a = some (cvA a) := by unfold betterV; rw [← hnn, decide_eq_true h1, decide_eq_true h2]; rfl
      rw [e] at hb
      refine Run.god tab_ok follows_ok Tryd.func23 60 ?_; simp only [ha, hkk2, h1, h2, h3, hfa, hmj, bxC, Option.isSome_none, accC, List.getElem?_map, List.length_map, decide_true, ↓alt_t, ↓alts_t, ↓gone_tt, gslot, keyCs, alookup, mapK, keyTy, Int.reduceNeg, drun, aops, aone, aop, needs, ext, aev, aconst, aput, aupd, aload, astore, afieldAddr, aindexAddr, acmp, aarith, ashift, abin, abuild, tab_3, tab_9, tab_24, tab_35, tab_69, tab_71, ok1, lay, cellsAs, TI.agg, AV.cells, AV.whole, Option.getD_some, Option.bind_some, Option.map_some, List.set_cons_zero, List.set_cons_succ, List.length_cons, List.length_nil, List.getElem?_cons_zero, List.getElem?_cons_succ, List.getElem?_toArray, List.drop_zero, List.drop_succ_cons, List.take_succ_cons, List.take_zero, List.take_nil, List.drop_nil, List.map_cons, List.map_nil, List.length_map, List.cons_append, List.nil_append, List.append_nil, true_and, and_true, if_true, if_false, Nat.reduceAdd, Nat.reduceLeDiff, Nat.zero_add, Nat.add_zero, decide_true, Nat.reduceLT, Nat.reduceLeDiff, Nat.le_refl, Int.toNat_natCast, List.getD_eq_getElem?_getD, Option.isSome_none, Bool.false_eq_true]
      ((repeat' (apply And.intro)) <;> try (first | rfl | omega | (unfold I64; omega)))
      refine ih2 (k + 1, some (cvA a)) _ ⟨by dsimp only; omega, hb⟩ (by dsimp only; omega) ?_
      simp only [Int.natCast_add, Int.natCast_one, Option.isSome_some, bxC, cvA, Option.isSome_some]
      (refine Weak.of (by simp [hc0]) ?_ ?_ <;> (repeat' (first | exact WkT.nil | exact WkH.nil _ | exact Le.refl _ | exact Le.junk _ | exact Le1.refl _ | exact Le1.nil _ | exact Le1.tok _ _ _ | exact Le1L.nil | rfl | apply WkT.cons | apply WkH.cons | apply LeB.same | apply LeB.box | apply Le1L.cons | apply Le.agg | apply Le.one)))
      all_goals first | exact mpC_bel _ _ | exact bxC_bel _ _
    | some c =>
      by_cases h3 : c.1 < a.view
      · have e : betterV l need (some c) a = some (cvA a) := by unfold betterV; rw [← hnn, decide_eq_true h1, decide_eq_true h2]; simp [overV, h3]
        rw [e] at hb
        refine Run.god tab_ok follows_ok Tryd.func23 60 ?_; simp only [ha, hkk2, h1, h2, h3, hfa, hmj, bxC, Option.isSome_some, accC, List.getElem?_map, List.length_map, decide_true, ↓alt_t, ↓alts_t, ↓gone_tt, gslot, keyCs, alookup, mapK, keyTy, Int.reduceNeg, drun, aops, aone, aop, needs, ext, aev, aconst, aput, aupd, aload, astore, afieldAddr, aindexAddr, acmp, aarith, ashift, abin, abuild, tab_3, tab_9, tab_24, tab_35, tab_69, tab_71, ok1, lay, cellsAs, TI.agg, AV.cells, AV.whole, Option.getD_some, Option.bind_some, Option.map_some, List.set_cons_zero, List.set_cons_succ, List.length_cons, List.length_nil, List.getElem?_cons_zero, List.getElem?_cons_succ, List.getElem?_toArray, List.drop_zero, List.drop_succ_cons, List.take_succ_cons, List.take_zero, List.take_nil, List.drop_nil, List.map_cons, List.map_nil, List.length_map, List.cons_append, List.nil_append, List.append_nil, true_and, and_true, if_true, if_false, Nat.reduceAdd, Nat.reduceLeDiff, Nat.zero_add, Nat.add_zero, decide_true, Nat.reduceLT, Nat.reduceLeDiff, Nat.le_refl, Int.toNat_natCast, List.getD_eq_getElem?_getD, Option.isSome_some, Bool.false_eq_true]
        ((repeat' (apply And.intro)) <;> try (first | rfl | omega | (unfold I64; omega)))
        refine ih2 (k + 1, some (cvA a)) _ ⟨by dsimp only; omega, hb⟩ (by dsimp only; omega) ?_
        simp only [Int.natCast_add, Int.natCast_one, Option.isSome_some, bxC, cvA, Option.isSome_some]
        (refine Weak.of (by simp [hc0]) ?_ ?_ <;> (repeat' (first | exact WkT.nil | exact WkH.nil _ | exact Le.refl _ | exact Le.junk _ | exact Le1.refl _ | exact Le1.nil _ | exact Le1.tok _ _ _ | exact Le1L.nil | rfl | apply WkT.cons | apply WkH.cons | apply LeB.same | apply LeB.box | apply Le1L.cons | apply Le.agg | apply Le.one)))
        all_goals first | exact mpC_bel _ _ | exact bxC_bel _ _
      · have e : betterV l need (some c) a = some c := by unfold betterV; rw [← hnn]; simp [overV, h3]
        rw [e] at hb
        refine Run.god tab_ok follows_ok Tryd.func23 60 ?_; simp only [ha, hkk2, h1, h2, h3, hfa, hmj, bxC, Option.isSome_some, accC, List.getElem?_map, List.length_map, decide_true, decide_false, ↓alt_t, ↓alt_f, ↓alts_t, ↓gone_tt, gslot, keyCs, alookup, mapK, keyTy, Int.reduceNeg, drun, aops, aone, aop, needs, ext, aev, aconst, aput, aupd, aload, astore, afieldAddr, aindexAddr, acmp, aarith, ashift, abin, abuild, tab_3, tab_9, tab_24, tab_35, tab_69, tab_71, ok1, lay, cellsAs, TI.agg, AV.cells, AV.whole, Option.getD_some, Option.bind_some, Option.map_some, List.set_cons_zero, List.set_cons_succ, List.length_cons, List.length_nil, List.getElem?_cons_zero, List.getElem?_cons_succ, List.getElem?_toArray, List.drop_zero, List.drop_succ_cons, List.take_succ_cons, List.take_zero, List.take_nil, List.drop_nil, List.map_cons, List.map_nil, List.length_map, List.cons_append, List.nil_append, List.append_nil, true_and, and_true, if_true, if_false, Nat.reduceAdd, Nat.reduceLeDiff, Nat.zero_add, Nat.add_zero, decide_true, decide_false, Nat.reduceLT, Nat.reduceLeDiff, Nat.le_refl, Int.toNat_natCast, List.getD_eq_getElem?_getD, Option.isSome_some, Bool.false_eq_true]
        ((repeat' (apply And.intro)) <;> try (first | rfl | omega | (unfold I64; omega)))
        refine ih2 (k + 1, some c) _ ⟨by dsimp only; omega, hb⟩ (by dsimp only; omega) ?_
        simp only [Int.natCast_add, Int.natCast_one, Option.isSome_some, bxC, Option.isSome_some]
        (refine Weak.of (by simp [hc0]) ?_ ?_ <;> (repeat' (first | exact WkT.nil | exact WkH.nil _ | exact Le.refl _ | exact Le.junk _ | exact Le1.refl _ | exact Le1.nil _ | exact Le1.tok _ _ _ | exact Le1L.nil | rfl | apply WkT.cons | apply WkH.cons | apply LeB.same | apply LeB.box | apply Le1L.cons | apply Le.agg | apply Le.one)))
        all_goals first | exact mpC_bel _ _ | exact bxC_bel _ _
  · obtain rfl : k = l.length := by omega
    rw [List.drop_length, List.foldl_nil] at hb
    rw [hb]
    have hkk2 : ¬ (l.length : Int) < l.length := by omega
    cases b with
    | none =>
      refine Run.god tab_ok follows_ok Tryd.func23 60 ?_; simp only [Tryd.results23, hkk2, bxC, Option.isSome_none, decide_false, ↓alt_t, ↓alt_f, Int.reduceNeg, drun, aops, aone, afin, ares, aresL, ares1, aresOk, aresOk1, aop, needs, ext, aev, aconst, aput, aupd, acmp, ashift, abin, tab_3, ok1, exitTo, Option.getD_some, Option.bind_some, Option.map_some, List.set_cons_zero, List.set_cons_succ, List.getElem?_cons_zero, List.getElem?_cons_succ, List.cons_append, List.nil_append, true_and, and_true, if_true, if_false, beq_self_eq_true, Bool.not_false, decide_false, List.getD_eq_getElem?_getD, Option.isSome_none, Bool.false_eq_true]
      simp only [bestVA]
      (repeat' (first | exact LeL.nil | exact Le1L.nil | exact Le.refl _ | exact Le1.refl _ | exact Le1.nil _ | exact Le1.tok _ _ _ | exact LeR.one (Le.refl _) | apply LeR.tup | apply LeL.cons | apply Le1L.cons | apply Le.agg | apply Le.one | apply LeR.one))
    | some c =>
      refine Run.god tab_ok follows_ok Tryd.func23 60 ?_; simp only [Tryd.results23, hkk2, bxC, Option.isSome_some, decide_false, ↓alt_f, Int.reduceNeg, drun, adops, adone, places, mayNeed, freeOk, rdOf, AV.id, wrOf, aops, aone, afin, ares, aresL, ares1, aresOk, aresOk1, aop, needs, ext, aev, aconst, aput, aupd, aload, afieldAddr, acmp, ashift, abin, tab_3, tab_9, tab_71, ok1, cellsAs, TI.agg, exitTo, Option.getD_some, Option.bind_some, Option.map_some, List.set_cons_zero, List.set_cons_succ, List.length_cons, List.length_nil, List.getElem?_cons_zero, List.getElem?_cons_succ, List.drop_zero, List.drop_succ_cons, List.take_succ_cons, List.take_zero, List.take_nil, List.cons_append, List.nil_append, List.append_nil, true_and, and_true, if_true, if_false, Nat.reduceAdd, Nat.reduceLeDiff, Nat.zero_add, Nat.add_zero, beq_self_eq_true, Bool.not_true, decide_false, Nat.reduceLeDiff, Nat.le_refl, List.getD_eq_getElem?_getD, Option.isSome_some, Bool.false_eq_true]
      ((repeat' (apply And.intro)) <;> try (first | rfl | omega | (unfold I64; omega)))
      simp only [bestVA]
      (repeat' (first | exact LeL.nil | exact Le1L.nil | exact Le.refl _ | exact Le1.refl _ | exact Le1.nil _ | exact Le1.tok _ _ _ | exact LeR.one (Le.refl _) | apply LeR.tup | apply LeL.cons | apply Le1L.cons | apply Le.agg | apply Le.one | apply LeR.one))
end Go.Proofs.YtgonmnjgodleeaaDoor
