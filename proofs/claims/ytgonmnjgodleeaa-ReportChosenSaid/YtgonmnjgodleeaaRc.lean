/-
  What binds, told by its shadow: the program's.
-/
import Derived.Test.YtgonmnjgodleeaaRb
namespace Go.Proofs.Ytgonmnjgodleeaa
open Go.RowKit
def leftN (M : Nat) (seen : List Nat) : Nat := (List.range M).countP fun j => !seen.contains j
theorem leftN_lt {M : Nat} {seen : List Nat} {j : Nat} (hj : j < M) (hs : j ∉ seen) : leftN M (seen ++ [j]) < leftN M seen := by
  unfold leftN
  have key : ∀ l : List Nat, j ∈ l → l.countP (fun i => !(seen ++ [j]).contains i) < l.countP (fun i => !seen.contains i) := by
    intro l
    induction l with
    | nil => intro h; simp at h
    | cons i l ih =>
      intro h
      have hmono : l.countP (fun i => !(seen ++ [j]).contains i) ≤ l.countP (fun i => !seen.contains i) := List.countP_mono_left fun x _ hx => by
        simp at hx ⊢; exact hx.1
      rw [List.countP_cons, List.countP_cons]
      by_cases hij : i = j
      · subst hij
        have h1 : (!(seen ++ [i]).contains i) = false := by simp
        have h2 : (!seen.contains i) = true := by simpa using hs
        simp only [h1, h2, if_true, Bool.false_eq_true, if_false]
        omega
      · rcases List.mem_cons.1 h with h | h
        · exact absurd h.symm hij
        · have := ih h
          have h3 : (!(seen ++ [j]).contains i) = (!seen.contains i) := by simp [hij]
          rw [h3]
          omega
  exact key _ (List.mem_range.2 hj)
theorem mpE_get {m : List (Bts × Nat)} {j : Nat} {p : AV × AV} (h : (mpE m)[j]? = some p) : ∃ x n, m[j]? = some (x, n) ∧ p = (.str x, .int .i64 n) := by
  unfold mpE at h
  rw [List.getElem?_map, Option.map_eq_some_iff] at h
  obtain ⟨⟨x, n⟩, h1, rfl⟩ := h
  exact ⟨x, n, h1, rfl⟩
theorem mpE_set {m : List (Bts × Nat)} {j n : Nat} {x : Bts} (h : m[j]? = some (x, n)) (hf : m.findIdx? (fun p => p.1 == x) = some j) : pset (mpE m) j (.int .i64 ((n : Int) + 1)) = mpE (addM m x) := by
  rcases addM_cases m x with ⟨j', n', h1, h2, h3⟩ | ⟨h1, _, _⟩
  · rw [hf] at h1
    cases h1
    rw [h] at h2
    cases h2
    rw [h3]
    apply List.ext_getElem?
    intro i
    rw [getElem?_pset]
    unfold mpE
    rw [List.getElem?_map, List.getElem?_map, List.getElem?_set]
    have hj := (List.getElem?_eq_some_iff.1 h).1
    by_cases hij : j = i
    · subst hij
      have he := (List.getElem?_eq_some_iff.1 h).2
      simp [hj, he]
    · simp [hij]
  · rw [hf] at h1; cases h1
theorem mpE_bel (m : List (Bts × Nat)) (n : Nat) : (ABlk.map (mpE m)).bel n = true := by
  simp [ABlk.bel, mpE, AV.bel]
theorem mpE_add {m : List (Bts × Nat)} {x : Bts} (hf : m.findIdx? (fun p => p.1 == x) = none) : mpE m ++ [(.str x, .int .i64 1)] = mpE (addM m x) := by
  rcases addM_cases m x with ⟨j', n', h1, h2, h3⟩ | ⟨h1, _, h3⟩
  · rw [hf] at h1; cases h1
  · rw [h3]; simp [mpE]
theorem addM_len {n : Nat} (m : List (Bts × Nat)) (x : Bts) : (∀ p ∈ m, p.2 ≤ n) → ∀ p ∈ addM m x, p.2 ≤ n + 1 := by
  intro h p hp
  rcases addM_cases m x with ⟨j, k, _, h1, h2⟩ | ⟨_, _, h2⟩
  · rw [h2] at hp
    rcases List.mem_or_eq_of_mem_set hp with hp | rfl
    · have := h p hp; omega
    · have := h _ (List.mem_of_getElem? h1); simp only at this ⊢; omega
  · rw [h2] at hp
    rcases List.mem_append.1 hp with hp | hp
    · have := h p hp; omega
    · simp at hp; subst hp; simp
set_option maxRecDepth 20000 in
set_option maxHeartbeats 4000000 in
theorem binds20_spec (s : Sz) (vw : Int) (l : List Rp) (hr : rightR s vw l = true) (hl : l.length ≤ 1000000) : ASpec Try.prog 37 [encS s, rpsA l] (.tup [.str (binds s l).1, .bool (binds s l).2]) := by
  have hs : s.right = true := by simp only [rightR, Bool.and_eq_true] at hr; exact hr.1.1.1
  have hvo := zVouch_spec hs
  refine ⟨⟨_, Try.func37, by kernel_rfl, rfl⟩, ACall.of Try.func37 rfl fun c0 hc0 => ?_⟩; simp only [Try.ntmps37, List.length_cons, List.length_nil, Nat.reduceAdd, Nat.reduceSub, List.replicate_succ, List.replicate_zero, List.cons_append, List.nil_append]; refine Run.god tab_ok follows_ok Try.func37 60 ?_; simp only [encS, rpsA, List.length_map, Int.reduceNeg, drun, aops, aone, aop, needs, ext, aev, aconst, aput, aupd, alen, tab_43, ok1, AV.cells, AV.whole, Option.getD_some, Option.bind_some, List.set_cons_zero, List.set_cons_succ, List.length_nil, List.getElem?_cons_zero, List.getElem?_cons_succ, List.length_map, List.cons_append, List.nil_append, true_and, if_true, if_false, reduceCtorEq, List.getD_eq_getElem?_getD]
  refine Run.loopV (α := Nat × Int × Bts) (fun x => x.1 ≤ l.length ∧ -1 ≤ x.2.1 ∧ bst l (-1) [] = bst (l.drop x.1) x.2.1 x.2.2) (fun x => [(6, .int .i64 x.2.1), (7, .str x.2.2), (18, .int .i64 x.1)]) 1 (fun _ => []) (fun x => l.length - x.1) (0, -1, []) ⟨Nat.zero_le _, Int.le_refl _, rfl⟩ ?_ ?_
  · simp only [writes, junks, puts, hputs, List.filterMap_cons, List.filterMap_nil, Int.natCast_zero, List.set_cons_zero, List.set_cons_succ, List.take_succ_cons, List.take_nil, List.cons_append, List.nil_append, List.append_nil]
    (refine Weak.of (by simp [hc0]) ?_ ?_ <;> (repeat' (first | exact WkT.nil | exact WkH.nil _ | exact Le.refl _ | exact Le.junk _ | exact Le1.refl _ | exact Le1.nil _ | exact Le1.tok _ _ _ | exact Le1L.nil | rfl | apply WkT.cons | apply WkH.cons | apply LeB.same | apply LeB.box | apply Le1L.cons | apply Le.agg | apply Le.one)))
  · rintro ⟨k, b, v⟩ ⟨hI, hb0, hrd⟩ ih
    simp only [writes, junks, puts, hputs, List.filterMap_cons, List.filterMap_nil, List.set_cons_zero, List.set_cons_succ, List.take_succ_cons, List.take_nil, List.cons_append, List.nil_append, List.append_nil] at hI hb0 hrd ih ⊢
    by_cases hk : k < l.length
    case pos =>
      obtain ⟨x, hx⟩ : ∃ x, l[k]? = some x := ⟨_, List.getElem?_eq_getElem hk⟩
      have hkk : (k : Int) < l.length := by omega
      rw [drop_at hx, bst] at hrd
      obtain ⟨xb, xf, xh, xv, xx, xp⟩ := x
      have hV := proved_spec ⟨xb, xf, xh, xv, xx, xp⟩
      match xp, hx, hV, hrd with
      | [], hx, hV, hrd =>
        simp only at hrd
        have hb1 : ¬ b < -1 := by omega
        refine Run.god tab_ok follows_ok Try.func37 60 ?_; simp only [hx, hkk, rpC, List.getElem?_map, List.length_map, votesA, List.map_nil, ↓alt_t, Int.reduceNeg, drun, aops, aone, aop, needs, ext, aev, aput, aupd, aload, astore, aindexAddr, acmp, ashift, abin, tab_3, tab_43, tab_53, ok1, lay, cellsAs, TI.agg, AV.cells, AV.whole, Option.getD_some, Option.bind_some, Option.map_some, List.set_cons_zero, List.set_cons_succ, List.length_cons, List.length_nil, List.getElem?_cons_zero, List.getElem?_cons_succ, List.drop_zero, List.drop_succ_cons, List.take_succ_cons, List.take_zero, List.take_nil, List.drop_nil, List.map_nil, List.length_map, List.cons_append, List.nil_append, List.append_nil, true_and, and_true, if_true, if_false, Nat.reduceAdd, Nat.zero_add, decide_true, Nat.reduceLT, reduceCtorEq, Nat.le_refl, Int.toNat_natCast, List.getD_eq_getElem?_getD]
        ((repeat' (apply And.intro)) <;> try (first | rfl | omega | (unfold I64; omega)))
        refine Ops.pure .free rfl rfl (hV) (by simp only [encRp, rpC, votesA, aev, Option.getD_some, List.getElem?_cons_zero, List.getElem?_cons_succ, List.map_cons, List.map_nil, List.nil_append, List.append_nil, List.getD_eq_getElem?_getD]; (repeat' (first | exact LeL.nil | exact Le1L.nil | exact Le.refl _ | exact Le1.refl _ | exact Le1.nil _ | exact Le1.tok _ _ _ | exact LeR.one (Le.refl _) | apply LeR.tup | apply LeL.cons | apply Le1L.cons | apply Le.agg | apply Le.one | apply LeR.one))) rfl rfl ?_
        refine Ops.god tab_ok follows_ok Try.func37 60 ?_; simp only [pvd, hb1, decide_false, ↓alt_f, Int.reduceNeg, drun, aops, aone, aop, needs, ext, aev, aconst, aput, aupd, acmp, aarith, ashift, abin, tab_3, ok1, Option.getD_some, Option.bind_some, List.set_cons_zero, List.set_cons_succ, List.getElem?_cons_zero, List.getElem?_cons_succ, List.cons_append, List.nil_append, true_and, if_true, if_false, decide_false, reduceCtorEq, List.getD_eq_getElem?_getD]
        ((repeat' (apply And.intro)) <;> try (first | rfl | omega | (unfold I64; omega)))
        refine ih (k + 1, b, v) _ ⟨by dsimp only; omega, by dsimp only; omega, hrd⟩ (by dsimp only; omega) ?_
        simp only [Int.natCast_add, Int.natCast_one]
        (refine Weak.of (by simp [hc0]) ?_ ?_ <;> (repeat' (first | exact WkT.nil | exact WkH.nil _ | exact Le.refl _ | exact Le.junk _ | exact Le1.refl _ | exact Le1.nil _ | exact Le1.tok _ _ _ | exact Le1L.nil | rfl | apply WkT.cons | apply WkH.cons | apply LeB.same | apply LeB.box | apply Le1L.cons | apply Le.agg | apply Le.one)))
      | a :: p, hx, hV, hrd =>
        simp only at hrd
        by_cases hb : b < a.view
        case pos =>
          rw [if_pos hb] at hrd
          refine Run.god tab_ok follows_ok Try.func37 60 ?_; simp only [hx, hkk, rpC, List.getElem?_map, List.length_map, votesA, List.map_cons, accC, ↓alt_t, Int.reduceNeg, drun, aops, aone, aop, needs, ext, aev, aput, aupd, aload, astore, aindexAddr, acmp, ashift, abin, tab_3, tab_43, tab_53, ok1, lay, cellsAs, TI.agg, AV.cells, AV.whole, Option.getD_some, Option.bind_some, Option.map_some, List.set_cons_zero, List.set_cons_succ, List.length_cons, List.length_nil, List.getElem?_cons_zero, List.getElem?_cons_succ, List.drop_zero, List.drop_succ_cons, List.take_succ_cons, List.take_zero, List.take_nil, List.drop_nil, List.map_cons, List.length_map, List.cons_append, List.nil_append, List.append_nil, true_and, and_true, if_true, if_false, Nat.reduceAdd, Nat.zero_add, decide_true, Nat.reduceLT, reduceCtorEq, Nat.le_refl, Int.toNat_natCast, List.getD_eq_getElem?_getD]
          ((repeat' (apply And.intro)) <;> try (first | rfl | omega | (unfold I64; omega)))
          refine Ops.pure .free rfl rfl (hV) (by simp only [encRp, rpC, votesA, accC, aev, Option.getD_some, List.getElem?_cons_zero, List.getElem?_cons_succ, List.map_cons, List.map_nil, List.nil_append, List.append_nil, List.getD_eq_getElem?_getD]; (repeat' (first | exact LeL.nil | exact Le1L.nil | exact Le.refl _ | exact Le1.refl _ | exact Le1.nil _ | exact Le1.tok _ _ _ | exact LeR.one (Le.refl _) | apply LeR.tup | apply LeL.cons | apply Le1L.cons | apply Le.agg | apply Le.one | apply LeR.one))) rfl rfl ?_
          refine Ops.god tab_ok follows_ok Try.func37 60 ?_; simp only [pvd, hb, decide_true, Int.toNat_zero, ↓alt_t, Int.reduceLE, Int.reduceNeg, drun, adops, adone, places, mayNeed, freeOk, rdOf, AV.id, wrOf, aops, aone, aop, needs, ext, aev, aconst, aput, aupd, aload, afieldAddr, aindexAddr, acmp, aarith, ashift, abin, tab_3, tab_9, tab_51, tab_53, tab_56, ok1, cellsAs, TI.agg, Option.getD_some, Option.bind_some, Option.map_some, List.set_cons_zero, List.set_cons_succ, List.length_cons, List.length_nil, List.getElem?_cons_zero, List.getElem?_cons_succ, List.drop_zero, List.drop_succ_cons, List.take_succ_cons, List.take_nil, List.length_map, List.cons_append, List.nil_append, List.append_nil, true_and, and_true, if_true, if_false, Nat.reduceAdd, Nat.zero_add, decide_true, Nat.reduceLT, forall_const, reduceCtorEq, false_implies, implies_true, Nat.le_refl, List.getD_eq_getElem?_getD]
          ((repeat' (apply And.intro)) <;> try (first | rfl | omega | (unfold I64; omega)))
          refine ih (k + 1, a.view, a.value) _ ⟨by dsimp only; omega, by dsimp only; omega, hrd⟩ (by dsimp only; omega) ?_
          simp only [Int.natCast_add, Int.natCast_one]
          (refine Weak.of (by simp [hc0]) ?_ ?_ <;> (repeat' (first | exact WkT.nil | exact WkH.nil _ | exact Le.refl _ | exact Le.junk _ | exact Le1.refl _ | exact Le1.nil _ | exact Le1.tok _ _ _ | exact Le1L.nil | rfl | apply WkT.cons | apply WkH.cons | apply LeB.same | apply LeB.box | apply Le1L.cons | apply Le.agg | apply Le.one)))
        case neg =>
          rw [if_neg hb] at hrd
          refine Run.god tab_ok follows_ok Try.func37 60 ?_; simp only [hx, hkk, rpC, List.getElem?_map, List.length_map, votesA, List.map_cons, accC, ↓alt_t, Int.reduceNeg, drun, aops, aone, aop, needs, ext, aev, aput, aupd, aload, astore, aindexAddr, acmp, ashift, abin, tab_3, tab_43, tab_53, ok1, lay, cellsAs, TI.agg, AV.cells, AV.whole, Option.getD_some, Option.bind_some, Option.map_some, List.set_cons_zero, List.set_cons_succ, List.length_cons, List.length_nil, List.getElem?_cons_zero, List.getElem?_cons_succ, List.drop_zero, List.drop_succ_cons, List.take_succ_cons, List.take_zero, List.take_nil, List.drop_nil, List.map_cons, List.length_map, List.cons_append, List.nil_append, List.append_nil, true_and, and_true, if_true, if_false, Nat.reduceAdd, Nat.zero_add, decide_true, Nat.reduceLT, reduceCtorEq, Nat.le_refl, Int.toNat_natCast, List.getD_eq_getElem?_getD]
          ((repeat' (apply And.intro)) <;> try (first | rfl | omega | (unfold I64; omega)))
          refine Ops.pure .free rfl rfl (hV) (by simp only [encRp, rpC, votesA, accC, aev, Option.getD_some, List.getElem?_cons_zero, List.getElem?_cons_succ, List.map_cons, List.map_nil, List.nil_append, List.append_nil, List.getD_eq_getElem?_getD]; (repeat' (first | exact LeL.nil | exact Le1L.nil | exact Le.refl _ | exact Le1.refl _ | exact Le1.nil _ | exact Le1.tok _ _ _ | exact LeR.one (Le.refl _) | apply LeR.tup | apply LeL.cons | apply Le1L.cons | apply Le.agg | apply Le.one | apply LeR.one))) rfl rfl ?_
          refine Ops.god tab_ok follows_ok Try.func37 60 ?_; simp only [pvd, hb, decide_false, ↓alt_f, Int.reduceNeg, drun, aops, aone, aop, needs, ext, aev, aconst, aput, aupd, acmp, aarith, ashift, abin, tab_3, ok1, Option.getD_some, Option.bind_some, List.set_cons_zero, List.set_cons_succ, List.getElem?_cons_zero, List.getElem?_cons_succ, List.cons_append, List.nil_append, true_and, if_true, if_false, decide_false, reduceCtorEq, List.getD_eq_getElem?_getD]
          ((repeat' (apply And.intro)) <;> try (first | rfl | omega | (unfold I64; omega)))
          refine ih (k + 1, b, v) _ ⟨by dsimp only; omega, by dsimp only; omega, hrd⟩ (by dsimp only; omega) ?_
          simp only [Int.natCast_add, Int.natCast_one]
          (refine Weak.of (by simp [hc0]) ?_ ?_ <;> (repeat' (first | exact WkT.nil | exact WkH.nil _ | exact Le.refl _ | exact Le.junk _ | exact Le1.refl _ | exact Le1.nil _ | exact Le1.tok _ _ _ | exact Le1L.nil | rfl | apply WkT.cons | apply WkH.cons | apply LeB.same | apply LeB.box | apply Le1L.cons | apply Le.agg | apply Le.one)))
    case neg =>
      obtain rfl : k = l.length := by omega
      have hkk : ¬ (l.length : Int) < l.length := by omega
      rw [List.drop_length, bst] at hrd
      refine Run.god tab_ok follows_ok Try.func37 60 ?_; simp only [hkk, List.length_map, ↓alt_f, Int.reduceNeg, drun, aops, aone, aop, needs, ext, aev, aconst, aput, aupd, acmp, ashift, abin, alen, tab_3, tab_43, tab_74, ok1, exitTo, Option.getD_some, Option.bind_some, List.set_cons_zero, List.set_cons_succ, List.length_cons, List.length_nil, List.getElem?_cons_zero, List.getElem?_cons_succ, List.length_map, List.cons_append, List.nil_append, true_and, if_true, if_false, Nat.zero_add, beq_self_eq_true, decide_false, reduceCtorEq, List.getD_eq_getElem?_getD]
      have hB1 : (bst l (-1) []).1 = b := by rw [hrd]
      have hB2 : (bst l (-1) []).2 = v := by rw [hrd]
      refine Run.loopV (α := Nat × List (Bts × Nat)) (fun x => x.1 ≤ l.length ∧ (∀ p ∈ x.2, p.2 ≤ x.1) ∧ told b l [] = told b (l.drop x.1) x.2) (fun x => [(37, .int .i64 x.1)]) 2 (fun x => [(1, .map (mpE x.2))]) (fun x => l.length - x.1) (0, []) ⟨Nat.zero_le _, by simp, rfl⟩ ?_ ?_
      · simp only [writes, junks, puts, hputs, List.filterMap_cons, List.filterMap_nil, Int.natCast_zero, List.set_cons_zero, List.set_cons_succ, List.take_succ_cons, List.take_nil, List.map_nil, List.cons_append, List.nil_append, List.append_nil, mpE]
        (refine Weak.of (by simp [hc0]) ?_ ?_ <;> (repeat' (first | exact WkT.nil | exact WkH.nil _ | exact Le.refl _ | exact Le.junk _ | exact Le1.refl _ | exact Le1.nil _ | exact Le1.tok _ _ _ | exact Le1L.nil | rfl | apply WkT.cons | apply WkH.cons | apply LeB.same | apply LeB.box | apply Le1L.cons | apply Le.agg | apply Le.one)))
        try exact mpE_bel _ _
      · rintro ⟨k, m⟩ ⟨hI2, hml, hrd2⟩ ih2
        simp only [writes, junks, puts, hputs, List.filterMap_cons, List.filterMap_nil, List.set_cons_zero, List.set_cons_succ, List.take_succ_cons, List.take_nil, List.cons_append, List.nil_append, List.append_nil] at hI2 hml hrd2 ih2 ⊢
        by_cases hk2 : k < l.length
        case pos =>
          obtain ⟨x, hx⟩ : ∃ x, l[k]? = some x := ⟨_, List.getElem?_eq_getElem hk2⟩
          have hkk2 : (k : Int) < l.length := by omega
          rw [drop_at hx, told] at hrd2
          by_cases h1 : x.has = true
          case neg =>
            have e : ¬ tells b x = true := by simp [tells, h1]
            have h1' : x.has = false := by simpa using h1
            rw [if_neg e] at hrd2
            refine Run.god tab_ok follows_ok Try.func37 60 ?_; simp only [hx, hkk2, h1', rpC, List.getElem?_map, List.length_map, ↓alt_t, ↓alt_f, ↓alts_f, ↓gone_tf, gslot, Int.reduceNeg, drun, aops, aone, aop, needs, ext, aev, aconst, aput, aupd, aload, astore, afieldAddr, aindexAddr, acmp, aarith, ashift, abin, tab_3, tab_4, tab_43, tab_53, ok1, lay, cellsAs, TI.agg, AV.cells, AV.whole, Option.getD_some, Option.bind_some, Option.map_some, List.set_cons_zero, List.set_cons_succ, List.length_cons, List.length_nil, List.getElem?_cons_zero, List.getElem?_cons_succ, List.getElem?_toArray, List.drop_zero, List.drop_succ_cons, List.take_succ_cons, List.take_zero, List.take_nil, List.drop_nil, List.length_map, List.cons_append, List.nil_append, List.append_nil, true_and, and_true, if_true, if_false, Nat.reduceAdd, Nat.reduceLeDiff, Nat.zero_add, decide_true, Nat.reduceLT, Nat.reduceLeDiff, reduceCtorEq, Nat.le_refl, Int.toNat_natCast, List.getD_eq_getElem?_getD]
            ((repeat' (apply And.intro)) <;> try (first | rfl | omega | (unfold I64; omega)))
            refine ih2 (k + 1, m) _ ⟨by dsimp only; omega, fun p hp => by have := hml p hp; dsimp only; omega, hrd2⟩ (by dsimp only; omega) ?_
            simp only [Int.natCast_add, Int.natCast_one]
            (refine Weak.of (by simp [hc0]) ?_ ?_ <;> (repeat' (first | exact WkT.nil | exact WkH.nil _ | exact Le.refl _ | exact Le.junk _ | exact Le1.refl _ | exact Le1.nil _ | exact Le1.tok _ _ _ | exact Le1L.nil | rfl | apply WkT.cons | apply WkH.cons | apply LeB.same | apply LeB.box | apply Le1L.cons | apply Le.agg | apply Le.one)))
            try exact mpE_bel _ _
          case pos =>
            by_cases h2 : b < x.view
            case neg =>
              have e : ¬ tells b x = true := by simp [tells, h2]
              rw [if_neg e] at hrd2
              refine Run.god tab_ok follows_ok Try.func37 60 ?_; simp only [hx, hkk2, h1, h2, decide_false, rpC, List.getElem?_map, List.length_map, ↓alt_t, ↓alt_f, ↓alts_t, ↓gone_tt, gslot, Int.reduceNeg, drun, aops, aone, aop, needs, ext, aev, aconst, aput, aupd, aload, astore, afieldAddr, aindexAddr, acmp, aarith, ashift, abin, tab_3, tab_4, tab_43, tab_53, ok1, lay, cellsAs, TI.agg, AV.cells, AV.whole, Option.getD_some, Option.bind_some, Option.map_some, List.set_cons_zero, List.set_cons_succ, List.length_cons, List.length_nil, List.getElem?_cons_zero, List.getElem?_cons_succ, List.getElem?_toArray, List.drop_zero, List.drop_succ_cons, List.take_succ_cons, List.take_zero, List.take_nil, List.drop_nil, List.length_map, List.cons_append, List.nil_append, List.append_nil, true_and, and_true, if_true, if_false, Nat.reduceAdd, Nat.reduceLeDiff, Nat.zero_add, decide_true, decide_false, Nat.reduceLT, Nat.reduceLeDiff, reduceCtorEq, Nat.le_refl, Int.toNat_natCast, List.getD_eq_getElem?_getD]
              ((repeat' (apply And.intro)) <;> try (first | rfl | omega | (unfold I64; omega)))
              refine ih2 (k + 1, m) _ ⟨by dsimp only; omega, fun p hp => by have := hml p hp; dsimp only; omega, hrd2⟩ (by dsimp only; omega) ?_
              simp only [Int.natCast_add, Int.natCast_one]
              (refine Weak.of (by simp [hc0]) ?_ ?_ <;> (repeat' (first | exact WkT.nil | exact WkH.nil _ | exact Le.refl _ | exact Le.junk _ | exact Le1.refl _ | exact Le1.nil _ | exact Le1.tok _ _ _ | exact Le1L.nil | rfl | apply WkT.cons | apply WkH.cons | apply LeB.same | apply LeB.box | apply Le1L.cons | apply Le.agg | apply Le.one)))
              try exact mpE_bel _ _
            case pos =>
              have e : tells b x = true := by simp [tells, h1, h2]
              rw [if_pos e] at hrd2
              have hfa := afind_mpE x.value m 0
              have hml2 := addM_len m x.value hml
              cases hfi : m.findIdx? (fun p => p.1 == x.value) with
              | none =>
                rw [hfi] at hfa
                have hfa' : afind (.str x.value) (mpE m) 0 = some none := hfa
                have hadd := mpE_add hfi
                refine Run.god tab_ok follows_ok Try.func37 60 ?_; simp only [hx, hkk2, h1, h2, decide_true, rpC, List.getElem?_map, List.length_map, hfa', Int.zero_add, hadd, ↓alt_t, ↓alts_t, ↓gone_tt, gslot, amapUpdate, alookup, mapK, keyTy, Int.reduceNeg, drun, aops, aone, aop, needs, ext, aev, aconst, aput, aupd, aload, astore, afieldAddr, aindexAddr, acmp, aarith, ashift, abin, tab_3, tab_4, tab_9, tab_43, tab_53, tab_74, ok1, lay, cellsAs, TI.agg, AV.cells, AV.whole, Option.getD_some, Option.bind_some, Option.map_some, List.set_cons_zero, List.set_cons_succ, List.length_cons, List.length_nil, List.getElem?_cons_zero, List.getElem?_cons_succ, List.getElem?_toArray, List.drop_zero, List.drop_succ_cons, List.take_succ_cons, List.take_zero, List.take_nil, List.drop_nil, List.length_map, List.cons_append, List.nil_append, List.append_nil, true_and, and_true, if_true, if_false, Nat.reduceAdd, Nat.reduceLeDiff, Nat.zero_add, decide_true, Nat.reduceLT, Nat.reduceLeDiff, reduceCtorEq, Nat.le_refl, Int.toNat_natCast, List.getD_eq_getElem?_getD]
                ((repeat' (apply And.intro)) <;> try (first | rfl | omega | (unfold I64; omega)))
                refine ih2 (k + 1, addM m x.value) _ ⟨by dsimp only; omega, hml2, hrd2⟩ (by dsimp only; omega) ?_
                simp only [Int.natCast_add, Int.natCast_one]
                (refine Weak.of (by simp [hc0]) ?_ ?_ <;> (repeat' (first | exact WkT.nil | exact WkH.nil _ | exact Le.refl _ | exact Le.junk _ | exact Le1.refl _ | exact Le1.nil _ | exact Le1.tok _ _ _ | exact Le1L.nil | rfl | apply WkT.cons | apply WkH.cons | apply LeB.same | apply LeB.box | apply Le1L.cons | apply Le.agg | apply Le.one)))
                try exact mpE_bel _ _
              | some j =>
                rw [hfi] at hfa
                have hfa' : afind (.str x.value) (mpE m) 0 = some (some j) := hfa
                obtain ⟨n, hn, _, _⟩ := idx_find hfi
                have hset := mpE_set hn hfi
                have hmj : (mpE m)[j]? = some (.str x.value, .int .i64 n) := by unfold mpE; rw [List.getElem?_map, hn]; rfl
                have hnl := hml _ (List.mem_of_getElem? hn)
                simp only at hnl
                refine Run.god tab_ok follows_ok Try.func37 60 ?_; simp only [hx, hkk2, h1, h2, decide_true, rpC, List.getElem?_map, List.length_map, hfa', hmj, hset, ↓alt_t, ↓alts_t, ↓gone_tt, gslot, amapUpdate, alookup, mapK, keyTy, Int.reduceNeg, drun, aops, aone, aop, needs, ext, aev, aconst, aput, aupd, aload, astore, afieldAddr, aindexAddr, acmp, aarith, ashift, abin, tab_3, tab_4, tab_9, tab_43, tab_53, tab_74, ok1, lay, cellsAs, TI.agg, AV.cells, AV.whole, Option.getD_some, Option.bind_some, Option.map_some, List.set_cons_zero, List.set_cons_succ, List.length_cons, List.length_nil, List.getElem?_cons_zero, List.getElem?_cons_succ, List.getElem?_toArray, List.drop_zero, List.drop_succ_cons, List.take_succ_cons, List.take_zero, List.take_nil, List.drop_nil, List.length_map, List.cons_append, List.nil_append, List.append_nil, true_and, and_true, if_true, if_false, Nat.reduceAdd, Nat.reduceLeDiff, Nat.zero_add, decide_true, Nat.reduceLT, Nat.reduceLeDiff, reduceCtorEq, Nat.le_refl, Int.toNat_natCast, List.getD_eq_getElem?_getD]
                ((repeat' (apply And.intro)) <;> try (first | rfl | omega | (unfold I64; omega)))
                refine ih2 (k + 1, addM m x.value) _ ⟨by dsimp only; omega, hml2, hrd2⟩ (by dsimp only; omega) ?_
                simp only [Int.natCast_add, Int.natCast_one]
                (refine Weak.of (by simp [hc0]) ?_ ?_ <;> (repeat' (first | exact WkT.nil | exact WkH.nil _ | exact Le.refl _ | exact Le.junk _ | exact Le1.refl _ | exact Le1.nil _ | exact Le1.tok _ _ _ | exact Le1L.nil | rfl | apply WkT.cons | apply WkH.cons | apply LeB.same | apply LeB.box | apply Le1L.cons | apply Le.agg | apply Le.one)))
                try exact mpE_bel _ _
        case neg =>
          obtain rfl : k = l.length := by omega
          rw [List.drop_length, told] at hrd2
          have hM : ∀ p ∈ m, p.2 = cnt b p.1 l := fun p hp => told_entry (by rw [hrd2]; exact hp)
          have hMt : ∀ x, 0 < cnt b x l → ∃ p ∈ m, p.1 = x := fun x hx => by rw [← hrd2]; exact told_there hx
          refine Run.god tab_ok follows_ok Try.func37 60 ?_; simp only [hkk, ↓alt_f, arange, Int.reduceNeg, drun, aops, aone, aop, needs, ext, aev, aput, aupd, acmp, ashift, abin, tab_3, tab_74, ok1, exitTo, Option.getD_some, Option.bind_some, List.set_cons_zero, List.set_cons_succ, List.length_cons, List.length_nil, List.getElem?_cons_zero, List.getElem?_cons_succ, List.cons_append, List.nil_append, true_and, if_true, if_false, Nat.reduceAdd, Nat.zero_add, beq_self_eq_true, decide_false, reduceCtorEq, List.getD_eq_getElem?_getD]
          have hpos := vouch_pos hs
          refine Run.loopV (α := List Nat) (fun seen => ∀ j ∈ seen, ∀ p, m[j]? = some p → ¬ s.vouch ≤ (p.2 : Int)) (fun _ => []) 3 (fun seen => [(2, .iter 1 (mpE m).length seen)]) (fun seen => leftN m.length seen) [] (by simp) ?_ ?_
          · simp only [writes, junks, puts, hputs, List.filterMap_cons, List.filterMap_nil, List.set_cons_zero, List.set_cons_succ, List.take_succ_cons, List.take_nil, List.cons_append, List.nil_append, List.append_nil]
            (refine Weak.of (by simp [hc0]) ?_ ?_ <;> (repeat' (first | exact WkT.nil | exact WkH.nil _ | exact Le.refl _ | exact Le.junk _ | exact Le1.refl _ | exact Le1.nil _ | exact Le1.tok _ _ _ | exact Le1L.nil | rfl | apply WkT.cons | apply WkH.cons | apply LeB.same | apply LeB.box | apply Le1L.cons | apply Le.agg | apply Le.one)))
            try exact mpE_bel _ _
          · intro seen hse ih3
            simp only [writes, junks, puts, hputs, List.filterMap_cons, List.filterMap_nil, List.set_cons_zero, List.set_cons_succ, List.take_succ_cons, List.take_nil, List.cons_append, List.nil_append, List.append_nil] at ih3 ⊢
            refine Run.god tab_ok follows_ok Try.func37 60 ?_; simp only [Int.reduceNeg, drun, aops, aone, aop]
            refine Ops.next .free rfl rfl rfl rfl rfl ?_ ?_
            · intro hall
              have hno : ∀ x, ¬ s.vouch ≤ (cnt (bst l (-1) []).1 x l : Int) := fun x hx => by
                rw [hB1] at hx
                obtain ⟨p, hp, rfl⟩ := hMt x (by omega)
                obtain ⟨j, hj⟩ := List.getElem?_of_mem hp
                have hjl := (List.getElem?_eq_some_iff.1 hj).1
                refine hse j (hall j (by simpa [mpE] using hjl)) p hj ?_
                rw [hM p hp]; exact hx
              rw [binds_none hno, hB1, hB2]
              refine Ops.god tab_ok follows_ok Try.func37 60 ?_; simp only [Try.results37, ↓alt_f, Int.reduceNeg, drun, aops, aone, afin, ares, aresL, ares1, aresOk, aresOk1, aop, needs, ext, aev, aconst, aput, aupd, acmp, ashift, abin, tab_3, ok1, exitTo, Option.getD_some, Option.bind_some, Option.map_some, List.set_cons_zero, List.set_cons_succ, List.getElem?_cons_zero, List.getElem?_cons_succ, List.cons_append, List.nil_append, true_and, and_true, if_true, if_false, beq_self_eq_true, reduceCtorEq, List.getD_eq_getElem?_getD]
              (repeat' (first | exact LeL.nil | exact Le1L.nil | exact Le.refl _ | exact Le1.refl _ | exact Le1.nil _ | exact Le1.tok _ _ _ | exact LeR.one (Le.refl _) | apply LeR.tup | apply LeL.cons | apply Le1L.cons | apply Le.agg | apply Le.one | apply LeR.one))
            · intro j p hp hns
              obtain ⟨x, n, hmj, rfl⟩ := mpE_get hp
              have hjl := (List.getElem?_eq_some_iff.1 hmj).1
              have hen := hM _ (List.mem_of_getElem? hmj)
              simp only at hen
              refine Ops.god tab_ok follows_ok Try.func37 60 ?_; simp only [↓alt_t, Int.reduceNeg, drun, aops, aone, aop, needs, ext, aev, aput, aupd, Option.getD_some, Option.map_some, List.set_cons_zero, List.set_cons_succ, List.getElem?_cons_zero, List.getElem?_cons_succ, List.cons_append, List.nil_append, true_and, if_false, reduceCtorEq, List.getD_eq_getElem?_getD]
              refine Ops.entry .free rfl rfl rfl rfl rfl hp ?_
              refine Ops.god tab_ok follows_ok Try.func37 60 ?_; simp only [Int.reduceNeg, drun, aops, aone, aop, needs, ext, aev, aput, aupd, aload, tab_23, ok1, cellsAs, TI.agg, Option.getD_some, Option.bind_some, Option.map_some, List.set_cons_zero, List.set_cons_succ, List.length_cons, List.length_nil, List.getElem?_cons_zero, List.getElem?_cons_succ, List.drop_zero, List.take_succ_cons, List.take_nil, List.cons_append, List.nil_append, true_and, if_true, if_false, Nat.reduceAdd, Nat.zero_add, reduceCtorEq, Nat.le_refl, List.getD_eq_getElem?_getD]
              refine Ops.pure .free rfl rfl (hvo) (by simp only [encS, aev, Option.getD_some, List.getElem?_cons_zero, List.getElem?_cons_succ, List.map_cons, List.map_nil, List.nil_append, List.append_nil, List.getD_eq_getElem?_getD]; (repeat' (first | exact LeL.nil | exact Le1L.nil | exact Le.refl _ | exact Le1.refl _ | exact Le1.nil _ | exact Le1.tok _ _ _ | exact LeR.one (Le.refl _) | apply LeR.tup | apply LeL.cons | apply Le1L.cons | apply Le.agg | apply Le.one | apply LeR.one))) rfl rfl ?_
              by_cases hv : s.vouch ≤ (n : Int)
              case pos =>
                rw [binds_of hr (x := x) (by rw [hB1, ← hen]; exact hv)]
                refine Ops.god tab_ok follows_ok Try.func37 60 ?_; simp only [Try.results37, hv, decide_true, ↓alt_t, drun, aops, aone, afin, ares, aresL, ares1, aresOk, aresOk1, aop, needs, ext, aev, aconst, aput, aupd, acmp, ashift, abin, tab_3, ok1, Option.getD_some, Option.bind_some, Option.map_some, List.set_cons_zero, List.set_cons_succ, List.getElem?_cons_zero, List.getElem?_cons_succ, List.cons_append, List.nil_append, true_and, and_true, if_true, if_false, decide_true, reduceCtorEq, List.getD_eq_getElem?_getD]
                (repeat' (first | exact LeL.nil | exact Le1L.nil | exact Le.refl _ | exact Le1.refl _ | exact Le1.nil _ | exact Le1.tok _ _ _ | exact LeR.one (Le.refl _) | apply LeR.tup | apply LeL.cons | apply Le1L.cons | apply Le.agg | apply Le.one | apply LeR.one))
              case neg =>
                refine Ops.god tab_ok follows_ok Try.func37 60 ?_; simp only [hv, decide_false, ↓alt_f, Int.reduceNeg, drun, aops, aone, aop, needs, ext, aev, aput, aupd, acmp, ashift, abin, tab_3, ok1, Option.getD_some, Option.bind_some, List.set_cons_zero, List.set_cons_succ, List.getElem?_cons_zero, List.getElem?_cons_succ, List.cons_append, List.nil_append, true_and, if_true, if_false, decide_false, reduceCtorEq, List.getD_eq_getElem?_getD]
                refine ih3 (seen ++ [j]) _ (fun i hi p hq => ?_) (leftN_lt hjl hns) ?_
                · rcases List.mem_append.1 hi with hi | hi
                  · exact hse i hi p hq
                  · simp at hi; subst hi; rw [hmj] at hq; cases hq; exact hv
                · try simp only [writes, junks, puts, hputs, List.filterMap_cons, List.filterMap_nil, Int.natCast_zero, Int.natCast_add, Int.natCast_one, Option.getD_some, Option.getD_none, Option.bind_some, Option.bind_none, Option.map_some, Option.map_none, List.set_cons_zero, List.set_cons_succ, List.length_cons, List.length_nil, List.getElem?_cons_zero, List.getElem?_cons_succ, List.getElem?_toArray, List.getD_cons_zero, List.getD_cons_succ, List.drop_zero, List.drop_succ_cons, List.take_succ_cons, List.take_zero, List.take_nil, List.drop_nil, List.map_cons, List.map_nil, List.length_map, List.cons_append, List.nil_append, List.append_nil, List.all_cons, List.all_nil, List.replicate_succ, List.replicate_zero, true_and, and_true, if_true, if_false, reduceIte, Nat.reduceAdd, Nat.reduceLeDiff, Nat.reduceEqDiff, Nat.reduceMul, Nat.reduceBEq, Nat.reduceSub, Nat.zero_add, Nat.add_zero, beq_self_eq_true, Bool.and_self, Bool.and_true, Bool.true_and, Bool.and_false, Bool.false_and, Bool.not_true, Bool.not_false, Bool.not_eq_true', Bool.not_eq_false', decide_eq_true_eq, decide_eq_false_iff_not, decide_true, decide_false, not_false_eq_true, not_true_eq_false, Nat.reduceLT, Nat.reduceLeDiff, Nat.lt_irrefl, forall_const, reduceCtorEq, false_implies, implies_true, Nat.le_refl, Option.some.injEq, Int.toNat_natCast, List.getD_eq_getElem?_getD]
                  (refine Weak.of (by simp [hc0]) ?_ ?_ <;> (repeat' (first | exact WkT.nil | exact WkH.nil _ | exact Le.refl _ | exact Le.junk _ | exact Le1.refl _ | exact Le1.nil _ | exact Le1.tok _ _ _ | exact Le1L.nil | rfl | apply WkT.cons | apply WkH.cons | apply LeB.same | apply LeB.box | apply Le1L.cons | apply Le.agg | apply Le.one)))
                  try exact mpE_bel _ _
end Go.Proofs.Ytgonmnjgodleeaa
