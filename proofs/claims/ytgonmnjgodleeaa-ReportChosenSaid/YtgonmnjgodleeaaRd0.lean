/-
  What binds, told by its shadow: the document's.
-/
import Derived.Test.YtgonmnjgodleeaaRq
namespace Go.Proofs.Ytgonmnjgodleeaa
open Go.RowKit
def both (c : Int) (x r : Rp) : Bool := tells c r && tells c x && decide (r.value = x.value)
theorem both_cnt (c : Int) (x : Rp) (l : List Rp) : l.countP (both c x) = if tells c x = true then cnt c x.value l else 0 := by
  unfold cnt
  by_cases h : tells c x = true
  · rw [if_pos h]
    congr 1
    funext r
    simp [both, h]
  · rw [if_neg h]
    rw [List.countP_eq_zero]
    intro r _
    simp [both, h]
theorem take_countP {α : Type} {l : List α} {k : Nat} {x : α} (hx : l[k]? = some x) (q : α → Bool) : (l.take (k + 1)).countP q = (l.take k).countP q + if q x = true then 1 else 0 := by
  rw [List.take_add_one, hx, List.countP_append]
  simp [List.countP_cons]
theorem bnd_step {q c : Int} {l m : List Rp} {x : Rp} {k : Nat} (hx : m[k]? = some x) (h : ¬ (tells c x = true ∧ q ≤ (cnt c x.value l : Int))) : bnd q c l (m.drop k) = bnd q c l (m.drop (k + 1)) := by
  unfold bnd
  rw [drop_at hx, List.find?_cons]
  have : (tells c x && decide (q ≤ (cnt c x.value l : Int))) = false := by
    rw [Bool.and_eq_false_iff, decide_eq_false_iff_not]
    by_cases ht : tells c x = true
    · exact .inr fun hq => h ⟨ht, hq⟩
    · exact .inl (by simpa using ht)
  rw [this]
theorem bnd_here {q c : Int} {l m : List Rp} {x : Rp} {k : Nat} (hx : m[k]? = some x) (h : tells c x = true ∧ q ≤ (cnt c x.value l : Int)) : bnd q c l (m.drop k) = some x.value := by
  unfold bnd
  rw [drop_at hx, List.find?_cons]
  simp [h.1, h.2]
set_option maxRecDepth 20000 in
set_option maxHeartbeats 4000000 in
theorem rbinds20_spec (s : Sz) (l : List Rp) (hs : s.right = true) (hl : l.length ≤ 1000000) : ASpec Try.prog 38 [encS s, rpsA l] (.tup [.str (binds s l).1, .bool (binds s l).2]) := by
  have hvo := rVouch_spec hs
  have hpos := vouch_pos hs
  refine ⟨⟨_, Try.func38, by kernel_rfl, rfl⟩, ACall.of Try.func38 rfl fun c0 hc0 => ?_⟩; simp only [Try.ntmps38, List.length_cons, List.length_nil, Nat.reduceAdd, Nat.reduceSub, List.replicate_succ, List.replicate_zero, List.cons_append, List.nil_append]; refine Run.god tab_ok follows_ok Try.func38 60 ?_; simp only [encS, rpsA, Int.reduceNeg, drun, aops, aone, aop, needs, ext, aev, aconst, aput, aupd, ok1, AV.cells, AV.whole, Option.getD_some, List.set_cons_zero, List.set_cons_succ, List.length_nil, List.getElem?_cons_zero, List.cons_append, List.nil_append, true_and, if_true, if_false, reduceCtorEq, List.getD_eq_getElem?_getD]
  refine Run.loopV (α := Nat × Int × Bts) (fun x => x.1 ≤ l.length ∧ bst l (-1) [] = bst (l.drop x.1) x.2.1 x.2.2) (fun x => [(6, .int .i64 x.2.1), (7, .str x.2.2), (8, .int .i64 x.1)]) 1 (fun _ => []) (fun x => l.length - x.1) (0, -1, []) ⟨Nat.zero_le _, rfl⟩ ?_ ?_
  · simp only [writes, junks, puts, hputs, List.filterMap_cons, List.filterMap_nil, Int.natCast_zero, List.set_cons_zero, List.set_cons_succ, List.take_succ_cons, List.take_nil, List.cons_append, List.nil_append, List.append_nil]
    (refine Weak.of (by simp [hc0]) ?_ ?_ <;> (repeat' (first | exact WkT.nil | exact WkH.nil _ | exact Le.refl _ | exact Le.junk _ | exact Le1.refl _ | exact Le1.nil _ | exact Le1.tok _ _ _ | exact Le1L.nil | rfl | apply WkT.cons | apply WkH.cons | apply LeB.same | apply LeB.box | apply Le1L.cons | apply Le.agg | apply Le.one)))
  · rintro ⟨k, b, v⟩ ⟨hI, hrd⟩ ih
    simp only [writes, junks, puts, hputs, List.filterMap_cons, List.filterMap_nil, List.set_cons_zero, List.set_cons_succ, List.take_succ_cons, List.take_nil, List.cons_append, List.nil_append, List.append_nil] at hI hrd ih ⊢
    by_cases hk : k < l.length
    case pos =>
      obtain ⟨x, hx⟩ : ∃ x, l[k]? = some x := ⟨_, List.getElem?_eq_getElem hk⟩
      have hkk : (k : Int) < l.length := by omega
      rw [drop_at hx, bst] at hrd
      obtain ⟨xb, xf, xh, xv, xx, xp⟩ := x
      have hV := rof_spec xp
      match xp, hx, hV, hrd with
      | [], hx, hV, hrd =>
        simp only at hrd
        refine Run.god tab_ok follows_ok Try.func38 60 ?_; simp only [hx, hkk, rpC, List.getElem?_map, List.length_map, votesA, List.map_nil, ↓alt_t, drun, aops, aone, aop, needs, ext, aev, aput, aupd, aload, afieldAddr, aindexAddr, acmp, ashift, abin, alen, tab_3, tab_43, tab_51, tab_53, ok1, cellsAs, TI.agg, Option.getD_some, Option.bind_some, Option.map_some, List.set_cons_zero, List.set_cons_succ, List.length_cons, List.length_nil, List.getElem?_cons_zero, List.getElem?_cons_succ, List.drop_zero, List.drop_succ_cons, List.take_succ_cons, List.take_nil, List.map_nil, List.length_map, List.cons_append, List.nil_append, true_and, and_true, if_true, if_false, Nat.reduceAdd, Nat.zero_add, decide_true, Nat.reduceLT, forall_const, reduceCtorEq, false_implies, implies_true, Nat.le_refl, Int.toNat_natCast, List.getD_eq_getElem?_getD]
        ((repeat' (apply And.intro)) <;> try (first | rfl | omega | (unfold I64; omega)))
        refine Ops.pure .free rfl rfl (hV) (by simp only [votesA, aev, Option.getD_some, List.getElem?_cons_zero, List.getElem?_cons_succ, List.map_cons, List.map_nil, List.nil_append, List.append_nil, List.getD_eq_getElem?_getD]; (repeat' (first | exact LeL.nil | exact Le1L.nil | exact Le.refl _ | exact Le1.refl _ | exact Le1.nil _ | exact Le1.tok _ _ _ | exact LeR.one (Le.refl _) | apply LeR.tup | apply LeL.cons | apply Le1L.cons | apply Le.agg | apply Le.one | apply LeR.one))) rfl rfl ?_
        refine Ops.god tab_ok follows_ok Try.func38 60 ?_; simp only [ofA, ↓alt_f, ↓alts_f, ↓gone_tf, gslot, Int.reduceNeg, drun, aops, aone, aop, needs, ext, aev, aconst, aput, aupd, acmp, aarith, ashift, abin, tab_3, ok1, Option.getD_some, Option.bind_some, Option.map_some, List.set_cons_zero, List.set_cons_succ, List.getElem?_cons_zero, List.getElem?_cons_succ, List.getElem?_toArray, List.cons_append, List.nil_append, true_and, if_true, if_false, reduceCtorEq, List.getD_eq_getElem?_getD]
        ((repeat' (apply And.intro)) <;> try (first | rfl | omega | (unfold I64; omega)))
        refine ih (k + 1, b, v) _ ⟨by dsimp only; omega, hrd⟩ (by dsimp only; omega) ?_
        simp only [Int.natCast_add, Int.natCast_one]
        (refine Weak.of (by simp [hc0]) ?_ ?_ <;> (repeat' (first | exact WkT.nil | exact WkH.nil _ | exact Le.refl _ | exact Le.junk _ | exact Le1.refl _ | exact Le1.nil _ | exact Le1.tok _ _ _ | exact Le1L.nil | rfl | apply WkT.cons | apply WkH.cons | apply LeB.same | apply LeB.box | apply Le1L.cons | apply Le.agg | apply Le.one)))
      | a :: p, hx, hV, hrd =>
        simp only at hrd
        by_cases hb : b < a.view
        case pos =>
          rw [if_pos hb] at hrd
          refine Run.god tab_ok follows_ok Try.func38 60 ?_; simp only [hx, hkk, rpC, List.getElem?_map, List.length_map, votesA, List.map_cons, accC, ↓alt_t, drun, aops, aone, aop, needs, ext, aev, aput, aupd, aload, afieldAddr, aindexAddr, acmp, ashift, abin, alen, tab_3, tab_43, tab_51, tab_53, ok1, cellsAs, TI.agg, Option.getD_some, Option.bind_some, Option.map_some, List.set_cons_zero, List.set_cons_succ, List.length_cons, List.length_nil, List.getElem?_cons_zero, List.getElem?_cons_succ, List.drop_zero, List.drop_succ_cons, List.take_succ_cons, List.take_nil, List.map_cons, List.length_map, List.cons_append, List.nil_append, true_and, and_true, if_true, if_false, Nat.reduceAdd, Nat.zero_add, decide_true, Nat.reduceLT, forall_const, reduceCtorEq, false_implies, implies_true, Nat.le_refl, Int.toNat_natCast, List.getD_eq_getElem?_getD]
          ((repeat' (apply And.intro)) <;> try (first | rfl | omega | (unfold I64; omega)))
          refine Ops.pure .free rfl rfl (hV) (by simp only [votesA, accC, aev, Option.getD_some, List.getElem?_cons_zero, List.getElem?_cons_succ, List.map_cons, List.map_nil, List.nil_append, List.append_nil, List.getD_eq_getElem?_getD]; (repeat' (first | exact LeL.nil | exact Le1L.nil | exact Le.refl _ | exact Le1.refl _ | exact Le1.nil _ | exact Le1.tok _ _ _ | exact LeR.one (Le.refl _) | apply LeR.tup | apply LeL.cons | apply Le1L.cons | apply Le.agg | apply Le.one | apply LeR.one))) rfl rfl ?_
          refine Ops.god tab_ok follows_ok Try.func38 60 ?_; simp only [ofA, hb, decide_true, ↓alt_t, ↓alts_t, ↓gone_tt, gslot, drun, aops, aone, aop, needs, ext, aev, aconst, aput, aupd, acmp, aarith, ashift, abin, tab_3, ok1, Option.getD_some, Option.bind_some, Option.map_some, List.set_cons_zero, List.set_cons_succ, List.getElem?_cons_zero, List.getElem?_cons_succ, List.getElem?_toArray, List.cons_append, List.nil_append, true_and, if_true, if_false, decide_true, reduceCtorEq, List.getD_eq_getElem?_getD]
          ((repeat' (apply And.intro)) <;> try (first | rfl | omega | (unfold I64; omega)))
          refine ih (k + 1, a.view, a.value) _ ⟨by dsimp only; omega, hrd⟩ (by dsimp only; omega) ?_
          simp only [Int.natCast_add, Int.natCast_one]
          (refine Weak.of (by simp [hc0]) ?_ ?_ <;> (repeat' (first | exact WkT.nil | exact WkH.nil _ | exact Le.refl _ | exact Le.junk _ | exact Le1.refl _ | exact Le1.nil _ | exact Le1.tok _ _ _ | exact Le1L.nil | rfl | apply WkT.cons | apply WkH.cons | apply LeB.same | apply LeB.box | apply Le1L.cons | apply Le.agg | apply Le.one)))
        case neg =>
          rw [if_neg hb] at hrd
          refine Run.god tab_ok follows_ok Try.func38 60 ?_; simp only [hx, hkk, rpC, List.getElem?_map, List.length_map, votesA, List.map_cons, accC, ↓alt_t, drun, aops, aone, aop, needs, ext, aev, aput, aupd, aload, afieldAddr, aindexAddr, acmp, ashift, abin, alen, tab_3, tab_43, tab_51, tab_53, ok1, cellsAs, TI.agg, Option.getD_some, Option.bind_some, Option.map_some, List.set_cons_zero, List.set_cons_succ, List.length_cons, List.length_nil, List.getElem?_cons_zero, List.getElem?_cons_succ, List.drop_zero, List.drop_succ_cons, List.take_succ_cons, List.take_nil, List.map_cons, List.length_map, List.cons_append, List.nil_append, true_and, and_true, if_true, if_false, Nat.reduceAdd, Nat.zero_add, decide_true, Nat.reduceLT, forall_const, reduceCtorEq, false_implies, implies_true, Nat.le_refl, Int.toNat_natCast, List.getD_eq_getElem?_getD]
          ((repeat' (apply And.intro)) <;> try (first | rfl | omega | (unfold I64; omega)))
          refine Ops.pure .free rfl rfl (hV) (by simp only [votesA, accC, aev, Option.getD_some, List.getElem?_cons_zero, List.getElem?_cons_succ, List.map_cons, List.map_nil, List.nil_append, List.append_nil, List.getD_eq_getElem?_getD]; (repeat' (first | exact LeL.nil | exact Le1L.nil | exact Le.refl _ | exact Le1.refl _ | exact Le1.nil _ | exact Le1.tok _ _ _ | exact LeR.one (Le.refl _) | apply LeR.tup | apply LeL.cons | apply Le1L.cons | apply Le.agg | apply Le.one | apply LeR.one))) rfl rfl ?_
          refine Ops.god tab_ok follows_ok Try.func38 60 ?_; simp only [ofA, hb, decide_false, ↓alt_f, ↓alts_t, ↓gone_tt, gslot, drun, aops, aone, aop, needs, ext, aev, aconst, aput, aupd, acmp, aarith, ashift, abin, tab_3, ok1, Option.getD_some, Option.bind_some, Option.map_some, List.set_cons_zero, List.set_cons_succ, List.getElem?_cons_zero, List.getElem?_cons_succ, List.getElem?_toArray, List.cons_append, List.nil_append, true_and, if_true, if_false, decide_false, reduceCtorEq, List.getD_eq_getElem?_getD]
          ((repeat' (apply And.intro)) <;> try (first | rfl | omega | (unfold I64; omega)))
          refine ih (k + 1, b, v) _ ⟨by dsimp only; omega, hrd⟩ (by dsimp only; omega) ?_
          simp only [Int.natCast_add, Int.natCast_one]
          (refine Weak.of (by simp [hc0]) ?_ ?_ <;> (repeat' (first | exact WkT.nil | exact WkH.nil _ | exact Le.refl _ | exact Le.junk _ | exact Le1.refl _ | exact Le1.nil _ | exact Le1.tok _ _ _ | exact Le1L.nil | rfl | apply WkT.cons | apply WkH.cons | apply LeB.same | apply LeB.box | apply Le1L.cons | apply Le.agg | apply Le.one)))
    case neg =>
      obtain rfl : k = l.length := by omega
      have hkk : ¬ (l.length : Int) < l.length := by omega
      rw [List.drop_length, bst] at hrd
      refine Run.god tab_ok follows_ok Try.func38 60 ?_; simp only [hkk, List.length_map, ↓alt_f, drun, aops, aone, aop, needs, ext, aev, aconst, aput, aupd, acmp, ashift, abin, alen, tab_3, tab_43, ok1, exitTo, Option.getD_some, Option.bind_some, List.set_cons_zero, List.set_cons_succ, List.getElem?_cons_zero, List.getElem?_cons_succ, List.length_map, List.cons_append, List.nil_append, true_and, if_true, if_false, beq_self_eq_true, decide_false, reduceCtorEq, List.getD_eq_getElem?_getD]
      have hB1 : (bst l (-1) []).1 = b := by rw [hrd]
      have hB2 : (bst l (-1) []).2 = v := by rw [hrd]
      unfold binds
      rw [hB1, hB2]
      refine Run.loopV (α := Nat) (fun k => k ≤ l.length ∧ bnd s.vouch b l l = bnd s.vouch b l (l.drop k)) (fun k => [(12, .int .i64 k)]) 1 (fun _ => []) (fun k => l.length - k) 0 ⟨Nat.zero_le _, rfl⟩ ?_ ?_
      · simp only [writes, junks, puts, hputs, List.filterMap_cons, List.filterMap_nil, Int.natCast_zero, List.set_cons_zero, List.set_cons_succ, List.take_succ_cons, List.take_nil, List.cons_append, List.nil_append, List.append_nil]
        (refine Weak.of (by simp [hc0]) ?_ ?_ <;> (repeat' (first | exact WkT.nil | exact WkH.nil _ | exact Le.refl _ | exact Le.junk _ | exact Le1.refl _ | exact Le1.nil _ | exact Le1.tok _ _ _ | exact Le1L.nil | rfl | apply WkT.cons | apply WkH.cons | apply LeB.same | apply LeB.box | apply Le1L.cons | apply Le.agg | apply Le.one)))
      · rintro k ⟨hI2, hrd2⟩ ih2
        simp only [writes, junks, puts, hputs, List.filterMap_cons, List.filterMap_nil, List.set_cons_zero, List.set_cons_succ, List.take_succ_cons, List.take_nil, List.cons_append, List.nil_append, List.append_nil] at hI2 hrd2 ih2 ⊢
        by_cases hk2 : k < l.length
        case pos =>
          obtain ⟨x, hx⟩ : ∃ x, l[k]? = some x := ⟨_, List.getElem?_eq_getElem hk2⟩
          have hkk2 : (k : Int) < l.length := by omega
          refine Run.god tab_ok follows_ok Try.func38 60 ?_; simp only [hkk2, List.length_map, ↓alt_t, Int.reduceNeg, drun, aops, aone, aop, needs, ext, aev, aconst, aput, aupd, acmp, ashift, abin, alen, tab_3, tab_43, ok1, Option.getD_some, Option.bind_some, List.set_cons_zero, List.set_cons_succ, List.getElem?_cons_zero, List.getElem?_cons_succ, List.length_map, List.cons_append, List.nil_append, true_and, if_true, if_false, decide_true, reduceCtorEq, List.getD_eq_getElem?_getD]
          refine Run.loopV (α := Nat) (fun i => i ≤ l.length) (fun i => [(13, .int .i64 ((l.take i).countP (both b x) : Nat)), (14, .int .i64 i)]) 1 (fun _ => []) (fun i => l.length - i) 0 (Nat.zero_le _) ?_ ?_
          · simp only [writes, junks, puts, hputs, List.filterMap_cons, List.filterMap_nil, Int.natCast_zero, List.set_cons_zero, List.set_cons_succ, List.take_succ_cons, List.take_zero, List.take_nil, List.cons_append, List.nil_append, List.append_nil, List.countP_nil]
            (refine Weak.of (by simp [hc0]) ?_ ?_ <;> (repeat' (first | exact WkT.nil | exact WkH.nil _ | exact Le.refl _ | exact Le.junk _ | exact Le1.refl _ | exact Le1.nil _ | exact Le1.tok _ _ _ | exact Le1L.nil | rfl | apply WkT.cons | apply WkH.cons | apply LeB.same | apply LeB.box | apply Le1L.cons | apply Le.agg | apply Le.one)))
          · intro i hI3 ih3
            simp only [writes, junks, puts, hputs, List.filterMap_cons, List.filterMap_nil, List.set_cons_zero, List.set_cons_succ, List.take_succ_cons, List.take_nil, List.cons_append, List.nil_append, List.append_nil] at ih3 ⊢
            by_cases hk3 : i < l.length
            case pos =>
              obtain ⟨y, hy⟩ : ∃ y, l[i]? = some y := ⟨_, List.getElem?_eq_getElem hk3⟩
              have hkk3 : (i : Int) < l.length := by omega
              have hct := take_countP hy (both b x)
              have hcl : (l.take i).countP (both b x) ≤ i := by have := List.countP_le_length (p := both b x) (l := l.take i); rw [List.length_take] at this; omega
              by_cases h1 : y.has = true
              case neg =>
                have e : both b x y = false := by simp [both, tells, h1]
                have h12 : y.has = false := by simpa using h1
                refine Run.god tab_ok follows_ok Try.func38 60 ?_; simp only [hy, hkk3, rpC, List.getElem?_map, List.length_map, decide_true, h12, ↓alt_t, ↓alt_f, ↓alts_f, ↓gdone_tf, gslot, Int.reduceNeg, drun, adops, adone, places, mayNeed, freeOk, rdOf, AV.id, wrOf, aops, aone, aop, needs, ext, aev, aconst, aput, aupd, aload, afieldAddr, aindexAddr, acmp, aarith, ashift, abin, alen, tab_3, tab_4, tab_43, tab_53, ok1, cellsAs, TI.agg, Option.getD_some, Option.bind_some, Option.map_some, List.set_cons_zero, List.set_cons_succ, List.length_cons, List.length_nil, List.getElem?_cons_zero, List.getElem?_cons_succ, List.getElem?_toArray, List.drop_zero, List.drop_succ_cons, List.take_succ_cons, List.take_zero, List.length_map, List.cons_append, List.nil_append, List.append_nil, true_and, and_true, if_true, if_false, Nat.reduceAdd, Nat.reduceLeDiff, Nat.zero_add, decide_true, Nat.reduceLT, Nat.reduceLeDiff, forall_const, reduceCtorEq, false_implies, implies_true, Int.toNat_natCast, List.getD_eq_getElem?_getD]
                ((repeat' (apply And.intro)) <;> try (first | rfl | omega | (unfold I64; omega)))
                refine ih3 (i + 1) _ (by omega) (by omega) ?_
                rw [hct]
                simp only [Int.natCast_add, Int.natCast_one, Nat.add_zero, not_false_eq_true, e, if_neg, Bool.false_eq_true]
                (refine Weak.of (by simp [hc0]) ?_ ?_ <;> (repeat' (first | exact WkT.nil | exact WkH.nil _ | exact Le.refl _ | exact Le.junk _ | exact Le1.refl _ | exact Le1.nil _ | exact Le1.tok _ _ _ | exact Le1L.nil | rfl | apply WkT.cons | apply WkH.cons | apply LeB.same | apply LeB.box | apply Le1L.cons | apply Le.agg | apply Le.one)))
              case pos =>
                by_cases h2 : b < y.view
                case neg =>
                  have e : both b x y = false := by simp [both, tells, h1, h2]
                  refine Run.god tab_ok follows_ok Try.func38 60 ?_; simp only [hy, hkk3, rpC, List.getElem?_map, List.length_map, decide_true, decide_false, h1, h2, ↓alt_t, ↓alt_f, ↓alts_t, ↓alts_f, ↓gdone_tt, ↓gdone_tf, gslot, Int.reduceNeg, drun, adops, adone, places, mayNeed, freeOk, rdOf, AV.id, wrOf, aops, aone, aop, needs, ext, aev, aconst, aput, aupd, aload, afieldAddr, aindexAddr, acmp, aarith, ashift, abin, alen, tab_3, tab_4, tab_43, tab_53, ok1, cellsAs, TI.agg, Option.getD_some, Option.bind_some, Option.map_some, List.set_cons_zero, List.set_cons_succ, List.length_cons, List.length_nil, List.getElem?_cons_zero, List.getElem?_cons_succ, List.getElem?_toArray, List.drop_zero, List.drop_succ_cons, List.take_succ_cons, List.take_zero, List.length_map, List.cons_append, List.nil_append, List.append_nil, true_and, and_true, if_true, if_false, Nat.reduceAdd, Nat.reduceLeDiff, Nat.zero_add, decide_true, decide_false, Nat.reduceLT, Nat.reduceLeDiff, forall_const, reduceCtorEq, false_implies, implies_true, Int.toNat_natCast, List.getD_eq_getElem?_getD]
                  ((repeat' (apply And.intro)) <;> try (first | rfl | omega | (unfold I64; omega)))
                  refine ih3 (i + 1) _ (by omega) (by omega) ?_
                  rw [hct]
                  simp only [Int.natCast_add, Int.natCast_one, Nat.add_zero, not_false_eq_true, e, if_neg, Bool.false_eq_true]
                  (refine Weak.of (by simp [hc0]) ?_ ?_ <;> (repeat' (first | exact WkT.nil | exact WkH.nil _ | exact Le.refl _ | exact Le.junk _ | exact Le1.refl _ | exact Le1.nil _ | exact Le1.tok _ _ _ | exact Le1L.nil | rfl | apply WkT.cons | apply WkH.cons | apply LeB.same | apply LeB.box | apply Le1L.cons | apply Le.agg | apply Le.one)))
                case pos =>
                  by_cases h3 : x.has = true
                  case neg =>
                    have e : both b x y = false := by simp [both, tells, h1, h2, h3]
                    have h32 : x.has = false := by simpa using h3
                    refine Run.god tab_ok follows_ok Try.func38 60 ?_; simp only [hx, hy, hkk3, rpC, List.getElem?_map, List.length_map, decide_true, h1, h2, h32, ↓alt_t, ↓alt_f, ↓alts_t, ↓alts_f, ↓gdone_tt, ↓gdone_tf, gslot, Int.reduceNeg, drun, adops, adone, places, mayNeed, freeOk, rdOf, AV.id, wrOf, aops, aone, aop, needs, ext, aev, aconst, aput, aupd, aload, afieldAddr, aindexAddr, acmp, aarith, ashift, abin, alen, tab_3, tab_4, tab_43, tab_53, ok1, cellsAs, TI.agg, Option.getD_some, Option.bind_some, Option.map_some, List.set_cons_zero, List.set_cons_succ, List.length_cons, List.length_nil, List.getElem?_cons_zero, List.getElem?_cons_succ, List.getElem?_toArray, List.drop_zero, List.drop_succ_cons, List.take_succ_cons, List.take_zero, List.length_map, List.cons_append, List.nil_append, List.append_nil, true_and, and_true, if_true, if_false, Nat.reduceAdd, Nat.reduceLeDiff, Nat.zero_add, decide_true, Nat.reduceLT, Nat.reduceLeDiff, forall_const, reduceCtorEq, false_implies, implies_true, Int.toNat_natCast, List.getD_eq_getElem?_getD]
                    ((repeat' (apply And.intro)) <;> try (first | rfl | omega | (unfold I64; omega)))
                    refine ih3 (i + 1) _ (by omega) (by omega) ?_
                    rw [hct]
                    simp only [Int.natCast_add, Int.natCast_one, Nat.add_zero, not_false_eq_true, e, if_neg, Bool.false_eq_true]
                    (refine Weak.of (by simp [hc0]) ?_ ?_ <;> (repeat' (first | exact WkT.nil | exact WkH.nil _ | exact Le.refl _ | exact Le.junk _ | exact Le1.refl _ | exact Le1.nil _ | exact Le1.tok _ _ _ | exact Le1L.nil | rfl | apply WkT.cons | apply WkH.cons | apply LeB.same | apply LeB.box | apply Le1L.cons | apply Le.agg | apply Le.one)))
                  case pos =>
                    by_cases h4 : b < x.view
                    case neg =>
                      have e : both b x y = false := by simp [both, tells, h1, h2, h3, h4]
                      refine Run.god tab_ok follows_ok Try.func38 60 ?_; simp only [hx, hy, hkk3, rpC, List.getElem?_map, List.length_map, decide_true, decide_false, h1, h2, h3, h4, ↓alt_t, ↓alt_f, ↓alts_t, ↓alts_f, ↓gdone_tt, ↓gdone_tf, gslot, Int.reduceNeg, drun, adops, adone, places, mayNeed, freeOk, rdOf, AV.id, wrOf, aops, aone, aop, needs, ext, aev, aconst, aput, aupd, aload, afieldAddr, aindexAddr, acmp, aarith, ashift, abin, alen, tab_3, tab_4, tab_43, tab_53, ok1, cellsAs, TI.agg, Option.getD_some, Option.bind_some, Option.map_some, List.set_cons_zero, List.set_cons_succ, List.length_cons, List.length_nil, List.getElem?_cons_zero, List.getElem?_cons_succ, List.getElem?_toArray, List.drop_zero, List.drop_succ_cons, List.take_succ_cons, List.take_zero, List.length_map, List.cons_append, List.nil_append, List.append_nil, true_and, and_true, if_true, if_false, Nat.reduceAdd, Nat.reduceLeDiff, Nat.zero_add, decide_true, decide_false, Nat.reduceLT, Nat.reduceLeDiff, forall_const, reduceCtorEq, false_implies, implies_true, Int.toNat_natCast, List.getD_eq_getElem?_getD]
                      ((repeat' (apply And.intro)) <;> try (first | rfl | omega | (unfold I64; omega)))
                      refine ih3 (i + 1) _ (by omega) (by omega) ?_
                      rw [hct]
                      simp only [Int.natCast_add, Int.natCast_one, Nat.add_zero, not_false_eq_true, e, if_neg, Bool.false_eq_true]
                      (refine Weak.of (by simp [hc0]) ?_ ?_ <;> (repeat' (first | exact WkT.nil | exact WkH.nil _ | exact Le.refl _ | exact Le.junk _ | exact Le1.refl _ | exact Le1.nil _ | exact Le1.tok _ _ _ | exact Le1L.nil | rfl | apply WkT.cons | apply WkH.cons | apply LeB.same | apply LeB.box | apply Le1L.cons | apply Le.agg | apply Le.one)))
                    case pos =>
                      by_cases h5 : y.value = x.value
                      case neg =>
                        have e : both b x y = false := by simp [both, tells, h1, h2, h3, h4, h5]
                        refine Run.god tab_ok follows_ok Try.func38 60 ?_; simp only [hx, hy, hkk3, rpC, List.getElem?_map, List.length_map, decide_true, decide_false, h1, h2, h3, h4, h5, ↓alt_t, ↓alt_f, ↓alts_t, ↓gdone_tt, gslot, Int.reduceNeg, drun, adops, adone, places, mayNeed, freeOk, rdOf, AV.id, wrOf, aops, aone, aop, needs, ext, aev, aconst, aput, aupd, aload, afieldAddr, aindexAddr, acmp, aarith, ashift, abin, alen, tab_3, tab_4, tab_9, tab_43, tab_53, ok1, cellsAs, TI.agg, Option.getD_some, Option.bind_some, Option.map_some, List.set_cons_zero, List.set_cons_succ, List.length_cons, List.length_nil, List.getElem?_cons_zero, List.getElem?_cons_succ, List.getElem?_toArray, List.drop_zero, List.drop_succ_cons, List.take_succ_cons, List.take_zero, List.length_map, List.cons_append, List.nil_append, List.append_nil, true_and, and_true, if_true, if_false, Nat.reduceAdd, Nat.reduceLeDiff, Nat.zero_add, decide_true, decide_false, Nat.reduceLT, Nat.reduceLeDiff, forall_const, reduceCtorEq, false_implies, implies_true, Int.toNat_natCast, List.getD_eq_getElem?_getD]
                        ((repeat' (apply And.intro)) <;> try (first | rfl | omega | (unfold I64; omega)))
                        refine ih3 (i + 1) _ (by omega) (by omega) ?_
                        rw [hct]
                        simp only [Int.natCast_add, Int.natCast_one, Nat.add_zero, not_false_eq_true, e, if_neg, Bool.false_eq_true]
                        (refine Weak.of (by simp [hc0]) ?_ ?_ <;> (repeat' (first | exact WkT.nil | exact WkH.nil _ | exact Le.refl _ | exact Le.junk _ | exact Le1.refl _ | exact Le1.nil _ | exact Le1.tok _ _ _ | exact Le1L.nil | rfl | apply WkT.cons | apply WkH.cons | apply LeB.same | apply LeB.box | apply Le1L.cons | apply Le.agg | apply Le.one)))
                      case pos =>
                        have e : both b x y = true := by simp [both, tells, h1, h2, h3, h4, h5]
                        refine Run.god tab_ok follows_ok Try.func38 60 ?_; simp only [hx, hy, hkk3, rpC, List.getElem?_map, List.length_map, decide_true, h1, h2, h3, h4, h5, ↓alt_t, ↓alts_t, ↓gdone_tt, gslot, Int.reduceNeg, drun, adops, adone, places, mayNeed, freeOk, rdOf, AV.id, wrOf, aops, aone, aop, needs, ext, aev, aconst, aput, aupd, aload, afieldAddr, aindexAddr, acmp, aarith, ashift, abin, alen, tab_3, tab_4, tab_9, tab_43, tab_53, ok1, cellsAs, TI.agg, Option.getD_some, Option.bind_some, Option.map_some, List.set_cons_zero, List.set_cons_succ, List.length_cons, List.length_nil, List.getElem?_cons_zero, List.getElem?_cons_succ, List.getElem?_toArray, List.drop_zero, List.drop_succ_cons, List.take_succ_cons, List.take_zero, List.length_map, List.cons_append, List.nil_append, List.append_nil, true_and, and_true, if_true, if_false, Nat.reduceAdd, Nat.reduceLeDiff, Nat.zero_add, decide_true, Nat.reduceLT, Nat.reduceLeDiff, forall_const, reduceCtorEq, false_implies, implies_true, Int.toNat_natCast, List.getD_eq_getElem?_getD]
                        ((repeat' (apply And.intro)) <;> try (first | rfl | omega | (unfold I64; omega)))
                        refine ih3 (i + 1) _ (by omega) (by omega) ?_
                        rw [hct]
                        simp only [Int.natCast_add, Int.natCast_one, e, if_pos]
                        (refine Weak.of (by simp [hc0]) ?_ ?_ <;> (repeat' (first | exact WkT.nil | exact WkH.nil _ | exact Le.refl _ | exact Le.junk _ | exact Le1.refl _ | exact Le1.nil _ | exact Le1.tok _ _ _ | exact Le1L.nil | rfl | apply WkT.cons | apply WkH.cons | apply LeB.same | apply LeB.box | apply Le1L.cons | apply Le.agg | apply Le.one)))
            case neg =>
              obtain rfl : i = l.length := by omega
              rw [List.take_length, both_cnt]
              by_cases ht : tells b x = true ∧ s.vouch ≤ (cnt b x.value l : Int)
              case pos =>
                rw [if_pos ht.1]
                have hv := ht.2
                refine Run.god tab_ok follows_ok Try.func38 60 ?_; simp only [hkk, List.length_map, ↓alt_f, Int.reduceNeg, drun, aops, aone, aop, needs, ext, aev, aput, aupd, aload, acmp, ashift, abin, alen, tab_3, tab_33, tab_43, ok1, cellsAs, TI.agg, exitTo, Option.getD_some, Option.bind_some, Option.map_some, List.set_cons_zero, List.set_cons_succ, List.length_cons, List.length_nil, List.getElem?_cons_zero, List.getElem?_cons_succ, List.drop_zero, List.take_succ_cons, List.take_nil, List.length_map, List.cons_append, List.nil_append, true_and, if_true, if_false, Nat.reduceAdd, Nat.reduceBEq, Nat.zero_add, beq_self_eq_true, decide_false, reduceCtorEq, Nat.le_refl, List.getD_eq_getElem?_getD]
                refine Ops.pure .free rfl rfl (hvo) (by simp only [encS, aev, Option.getD_some, List.getElem?_cons_zero, List.getElem?_cons_succ, List.map_cons, List.map_nil, List.nil_append, List.append_nil, List.getD_eq_getElem?_getD]; (repeat' (first | exact LeL.nil | exact Le1L.nil | exact Le.refl _ | exact Le1.refl _ | exact Le1.nil _ | exact Le1.tok _ _ _ | exact LeR.one (Le.refl _) | apply LeR.tup | apply LeL.cons | apply Le1L.cons | apply Le.agg | apply Le.one | apply LeR.one))) rfl rfl ?_
                refine Ops.god tab_ok follows_ok Try.func38 60 ?_; simp only [Try.results38, hx, hv, decide_true, rpC, List.getElem?_map, List.length_map, ↓alt_t, Int.reduceNeg, drun, aops, aone, afin, ares, aresL, ares1, aresOk, aresOk1, aop, needs, ext, aev, aconst, aput, aupd, aload, afieldAddr, aindexAddr, acmp, ashift, abin, tab_3, tab_9, tab_43, tab_53, ok1, cellsAs, TI.agg, Option.getD_some, Option.bind_some, Option.map_some, List.set_cons_zero, List.set_cons_succ, List.length_cons, List.length_nil, List.getElem?_cons_zero, List.getElem?_cons_succ, List.drop_zero, List.drop_succ_cons, List.take_succ_cons, List.take_zero, List.length_map, List.cons_append, List.nil_append, true_and, and_true, if_true, if_false, Nat.reduceAdd, Nat.reduceLeDiff, Nat.zero_add, decide_true, Nat.reduceLT, Nat.reduceLeDiff, forall_const, reduceCtorEq, false_implies, implies_true, Int.toNat_natCast, List.getD_eq_getElem?_getD]
                rw [hrd2, bnd_here hx ht]
                ((repeat' (apply And.intro)) <;> try (first | rfl | omega | (unfold I64; omega)))
                (repeat' (first | exact LeL.nil | exact Le1L.nil | exact Le.refl _ | exact Le1.refl _ | exact Le1.nil _ | exact Le1.tok _ _ _ | exact LeR.one (Le.refl _) | apply LeR.tup | apply LeL.cons | apply Le1L.cons | apply Le.agg | apply Le.one | apply LeR.one))
              case neg =>
                have hv : ¬ s.vouch ≤ ((if tells b x = true then cnt b x.value l else 0 : Nat) : Int) := by
                  split
                  · rename_i h; exact fun hq => ht ⟨h, hq⟩
                  · omega
                generalize hN : (if tells b x = true then cnt b x.value l else 0) = N at hv
                refine Run.god tab_ok follows_ok Try.func38 60 ?_; simp only [hkk, List.length_map, ↓alt_f, Int.reduceNeg, drun, aops, aone, aop, needs, ext, aev, aput, aupd, aload, acmp, ashift, abin, alen, tab_3, tab_33, tab_43, ok1, cellsAs, TI.agg, exitTo, Option.getD_some, Option.bind_some, Option.map_some, List.set_cons_zero, List.set_cons_succ, List.length_cons, List.length_nil, List.getElem?_cons_zero, List.getElem?_cons_succ, List.drop_zero, List.take_succ_cons, List.take_nil, List.length_map, List.cons_append, List.nil_append, true_and, if_true, if_false, Nat.reduceAdd, Nat.reduceBEq, Nat.zero_add, beq_self_eq_true, decide_false, reduceCtorEq, Nat.le_refl, List.getD_eq_getElem?_getD]
                refine Ops.pure .free rfl rfl (hvo) (by simp only [encS, aev, Option.getD_some, List.getElem?_cons_zero, List.getElem?_cons_succ, List.map_cons, List.map_nil, List.nil_append, List.append_nil, List.getD_eq_getElem?_getD]; (repeat' (first | exact LeL.nil | exact Le1L.nil | exact Le.refl _ | exact Le1.refl _ | exact Le1.nil _ | exact Le1.tok _ _ _ | exact LeR.one (Le.refl _) | apply LeR.tup | apply LeL.cons | apply Le1L.cons | apply Le.agg | apply Le.one | apply LeR.one))) rfl rfl ?_
                refine Ops.god tab_ok follows_ok Try.func38 60 ?_; simp only [hv, decide_false, ↓alt_f, Int.reduceNeg, drun, aops, aone, aop, needs, ext, aev, aconst, aput, aupd, acmp, aarith, ashift, abin, tab_3, ok1, Option.getD_some, Option.bind_some, List.set_cons_zero, List.set_cons_succ, List.getElem?_cons_zero, List.getElem?_cons_succ, List.cons_append, List.nil_append, true_and, if_true, if_false, decide_false, reduceCtorEq, List.getD_eq_getElem?_getD]
                ((repeat' (apply And.intro)) <;> try (first | rfl | omega | (unfold I64; omega)))
                refine ih2 (k + 1) _ ⟨by omega, ?_⟩ (by omega) ?_
                · rw [hrd2, bnd_step hx ht]
                · simp only [Int.natCast_add, Int.natCast_one]
                  (refine Weak.of (by simp [hc0]) ?_ ?_ <;> (repeat' (first | exact WkT.nil | exact WkH.nil _ | exact Le.refl _ | exact Le.junk _ | exact Le1.refl _ | exact Le1.nil _ | exact Le1.tok _ _ _ | exact Le1L.nil | rfl | apply WkT.cons | apply WkH.cons | apply LeB.same | apply LeB.box | apply Le1L.cons | apply Le.agg | apply Le.one)))
        case neg =>
          obtain rfl : k = l.length := by omega
          rw [List.drop_length] at hrd2
          have hn : bnd s.vouch b l l = none := by rw [hrd2]; rfl
          rw [hn]
          have hd : decide (0 ≤ b) = decide (-1 < b) := by
            by_cases h : 0 ≤ b
            · rw [decide_eq_true h, decide_eq_true (by omega)]
            · rw [decide_eq_false h, decide_eq_false (by omega)]
          refine Run.god tab_ok follows_ok Try.func38 60 ?_; simp only [Try.results38, hkk, List.length_map, hd, ↓alt_f, Int.reduceNeg, drun, aops, aone, afin, ares, aresL, ares1, aresOk, aresOk1, aop, needs, ext, aev, aconst, aput, aupd, acmp, ashift, abin, alen, tab_3, tab_43, ok1, exitTo, Option.getD_some, Option.bind_some, Option.map_some, List.set_cons_zero, List.set_cons_succ, List.getElem?_cons_zero, List.getElem?_cons_succ, List.length_map, List.cons_append, List.nil_append, true_and, and_true, if_true, if_false, beq_self_eq_true, decide_false, reduceCtorEq, List.getD_eq_getElem?_getD]
          (repeat' (first | exact LeL.nil | exact Le1L.nil | exact Le.refl _ | exact Le1.refl _ | exact Le1.nil _ | exact Le1.tok _ _ _ | exact LeR.one (Le.refl _) | apply LeR.tup | apply LeL.cons | apply Le1L.cons | apply Le.agg | apply Le.one | apply LeR.one))
end Go.Proofs.Ytgonmnjgodleeaa
