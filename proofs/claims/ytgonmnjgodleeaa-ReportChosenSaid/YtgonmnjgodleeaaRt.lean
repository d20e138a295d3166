/-
  Whether a report may be, told by its shadows: the program's and the document's.
-/
import Derived.Test.YtgonmnjgodleeaaRr
namespace Go.Proofs.Ytgonmnjgodleeaa
open Go.RowKit
set_option maxRecDepth 20000 in
set_option maxHeartbeats 4000000 in
theorem may20_spec (s : Sz) (r : Rp) (hp : r.proof.length ≤ 1000000) : ASpec Try.prog 41 [encS s, encRp r] (.bool (mayR s r)) := by
  have hr := right_spec s
  have hP := right19_spec s r.proof hp
  have hV := proved_spec r
  obtain ⟨b, f, h, v, x, p⟩ := r
  cases hs : s.right with
  | false =>
    rw [hs] at hr
    have e : mayR s ⟨b, f, h, v, x, p⟩ = false := by simp [mayR, hs]
    rw [e]
    refine ⟨⟨_, Try.func41, by kernel_rfl, rfl⟩, ACall.of Try.func41 rfl fun c0 hc0 => ?_⟩; simp only [Try.ntmps41, List.length_cons, List.length_nil, Nat.reduceAdd, Nat.reduceSub, List.replicate_succ, List.replicate_zero, List.cons_append, List.nil_append]; refine Run.god tab_ok follows_ok Try.func41 60 ?_; simp only [encS, encRp, rpC, votesA, drun, adops, adone, places, mayNeed, freeOk, rdOf, AV.id, wrOf, aops, aone, aop, needs, ext, aev, aconst, aput, aupd, aload, tab_23, ok1, cellsAs, TI.agg, AV.cells, AV.whole, Option.getD_some, Option.bind_some, Option.map_some, List.set_cons_zero, List.set_cons_succ, List.length_cons, List.length_nil, List.getElem?_cons_zero, List.getElem?_cons_succ, List.drop_zero, List.take_succ_cons, List.take_nil, List.cons_append, List.nil_append, true_and, and_true, if_true, if_false, Nat.reduceAdd, Nat.zero_add, reduceCtorEq, Nat.le_refl, List.getD_eq_getElem?_getD]
    ((repeat' (apply And.intro)) <;> try (first | rfl | omega | (unfold I64; omega)))
    refine DOps.pure rfl .free rfl rfl (hr) (by simp only [encS, aev, Option.getD_some, List.getElem?_cons_zero, List.getElem?_cons_succ, List.map_cons, List.map_nil, List.nil_append, List.append_nil, List.getD_eq_getElem?_getD]; (repeat' (first | exact LeL.nil | exact Le1L.nil | exact Le.refl _ | exact Le1.refl _ | exact Le1.nil _ | exact Le1.tok _ _ _ | exact LeR.one (Le.refl _) | apply LeR.tup | apply LeL.cons | apply Le1L.cons | apply Le.agg | apply Le.one | apply LeR.one))) rfl rfl ?_
    refine DOps.god tab_ok follows_ok Try.func41 60 rfl ?_; simp only [Try.results41, ↓alt_t, ↓alts_t, ↓gdone_ft, gslot, drun, adops, adone, mayNeed, freeOk, rdOf, wrOf, aops, aone, afin, ares, aresL, ares1, aresOk, aresOk1, aop, needs, ext, aev, aconst, aput, aupd, ok1, Option.getD_some, Option.bind_some, Option.map_some, List.set_cons_zero, List.set_cons_succ, List.getElem?_cons_zero, List.getElem?_cons_succ, List.getElem?_toArray, List.cons_append, List.nil_append, true_and, and_true, if_true, if_false, Nat.reduceAdd, Bool.not_false, reduceCtorEq, List.getD_eq_getElem?_getD]
    ((repeat' (apply And.intro)) <;> try (first | rfl | omega | (unfold I64; omega)))
    (repeat' (first | exact LeL.nil | exact Le1L.nil | exact Le.refl _ | exact Le1.refl _ | exact Le1.nil _ | exact Le1.tok _ _ _ | exact LeR.one (Le.refl _) | apply LeR.tup | apply LeL.cons | apply Le1L.cons | apply Le.agg | apply Le.one | apply LeR.one))
  | true =>
    rw [hs] at hr
    have hN := zN_spec hs
    refine ⟨⟨_, Try.func41, by kernel_rfl, rfl⟩, ACall.of Try.func41 rfl fun c0 hc0 => ?_⟩; simp only [Try.ntmps41, List.length_cons, List.length_nil, Nat.reduceAdd, Nat.reduceSub, List.replicate_succ, List.replicate_zero, List.cons_append, List.nil_append]; refine Run.god tab_ok follows_ok Try.func41 60 ?_; simp only [encS, encRp, rpC, votesA, drun, adops, adone, places, mayNeed, freeOk, rdOf, AV.id, wrOf, aops, aone, aop, needs, ext, aev, aconst, aput, aupd, aload, tab_23, ok1, cellsAs, TI.agg, AV.cells, AV.whole, Option.getD_some, Option.bind_some, Option.map_some, List.set_cons_zero, List.set_cons_succ, List.length_cons, List.length_nil, List.getElem?_cons_zero, List.getElem?_cons_succ, List.drop_zero, List.take_succ_cons, List.take_nil, List.cons_append, List.nil_append, true_and, and_true, if_true, if_false, Nat.reduceAdd, Nat.zero_add, reduceCtorEq, Nat.le_refl, List.getD_eq_getElem?_getD]
    ((repeat' (apply And.intro)) <;> try (first | rfl | omega | (unfold I64; omega)))
    refine DOps.pure rfl .free rfl rfl (hr) (by simp only [encS, aev, Option.getD_some, List.getElem?_cons_zero, List.getElem?_cons_succ, List.map_cons, List.map_nil, List.nil_append, List.append_nil, List.getD_eq_getElem?_getD]; (repeat' (first | exact LeL.nil | exact Le1L.nil | exact Le.refl _ | exact Le1.refl _ | exact Le1.nil _ | exact Le1.tok _ _ _ | exact LeR.one (Le.refl _) | apply LeR.tup | apply LeL.cons | apply Le1L.cons | apply Le.agg | apply Le.one | apply LeR.one))) rfl rfl ?_
    by_cases q1 : b < 0
    case pos =>
      have q1n : ¬ (0 ≤ b) := by omega
      have e : mayR s ⟨b, f, h, v, x, p⟩ = false := by simp [mayR, hs, q1n]
      rw [e]
      refine DOps.god tab_ok follows_ok Try.func41 60 rfl ?_; simp only [Try.results41, q1, decide_true, ↓alt_t, ↓alts_t, ↓alts_f, ↓gdone_ft, ↓gdone_ff, gslot, drun, adops, adone, mayNeed, freeOk, rdOf, AV.id, wrOf, aops, aone, afin, ares, aresL, ares1, aresOk, aresOk1, aop, needs, ext, aev, aconst, aput, aupd, aload, afieldAddr, acmp, ashift, abin, tab_3, tab_53, ok1, cellsAs, TI.agg, Option.getD_some, Option.bind_some, Option.map_some, List.set_cons_zero, List.set_cons_succ, List.length_cons, List.length_nil, List.getElem?_cons_zero, List.getElem?_cons_succ, List.getElem?_toArray, List.drop_zero, List.take_succ_cons, List.take_zero, List.cons_append, List.nil_append, true_and, and_true, if_true, if_false, Nat.reduceAdd, Nat.reduceLeDiff, Nat.zero_add, Nat.add_zero, Bool.not_true, decide_true, Nat.reduceLeDiff, reduceCtorEq, List.getD_eq_getElem?_getD]
      ((repeat' (apply And.intro)) <;> try (first | rfl | omega | (unfold I64; omega)))
      (repeat' (first | exact LeL.nil | exact Le1L.nil | exact Le.refl _ | exact Le1.refl _ | exact Le1.nil _ | exact Le1.tok _ _ _ | exact LeR.one (Le.refl _) | apply LeR.tup | apply LeL.cons | apply Le1L.cons | apply Le.agg | apply Le.one | apply LeR.one))
    case neg =>
      have q1n : 0 ≤ b := by omega
      refine DOps.god tab_ok follows_ok Try.func41 60 rfl ?_; simp only [q1, decide_false, ↓alts_f, ↓gdone_ff, gslot, adops, adone, mayNeed, freeOk, rdOf, AV.id, wrOf, aop, needs, aev, aconst, aput, aupd, aload, afieldAddr, acmp, ashift, abin, tab_3, tab_23, tab_53, ok1, cellsAs, TI.agg, Option.getD_some, Option.bind_some, Option.map_some, List.set_cons_zero, List.set_cons_succ, List.length_cons, List.length_nil, List.getElem?_cons_zero, List.getElem?_cons_succ, List.getElem?_toArray, List.drop_zero, List.take_succ_cons, List.take_zero, List.take_nil, List.cons_append, List.nil_append, true_and, and_true, if_true, if_false, Nat.reduceAdd, Nat.reduceLeDiff, Nat.zero_add, Nat.add_zero, Bool.not_true, decide_false, Nat.reduceLeDiff, reduceCtorEq, Nat.le_refl, List.getD_eq_getElem?_getD]
      ((repeat' (apply And.intro)) <;> try (first | rfl | omega | (unfold I64; omega)))
      refine DOps.pure rfl (Wanted.test 8 false false rfl) rfl rfl (hN) (by simp only [encS, aev, Option.getD_some, List.getElem?_cons_zero, List.getElem?_cons_succ, List.map_cons, List.map_nil, List.nil_append, List.append_nil, List.getD_eq_getElem?_getD]; (repeat' (first | exact LeL.nil | exact Le1L.nil | exact Le.refl _ | exact Le1.refl _ | exact Le1.nil _ | exact Le1.tok _ _ _ | exact LeR.one (Le.refl _) | apply LeR.tup | apply LeL.cons | apply Le1L.cons | apply Le.agg | apply Le.one | apply LeR.one))) rfl rfl ?_
      by_cases q2 : s.n ≤ b
      case pos =>
        have q2n : ¬ (b < s.n) := by omega
        have e : mayR s ⟨b, f, h, v, x, p⟩ = false := by simp [mayR, hs, q1n, q2n]
        rw [e]
        refine DOps.god tab_ok follows_ok Try.func41 60 rfl ?_; simp only [Try.results41, q2, decide_true, ↓alt_t, ↓alts_t, ↓alts_f, ↓gdone_ft, ↓gdone_ff, gslot, drun, adops, adone, mayNeed, freeOk, rdOf, wrOf, aops, aone, afin, ares, aresL, ares1, aresOk, aresOk1, aop, needs, ext, aev, aconst, aput, aupd, acmp, ashift, abin, tab_3, ok1, Option.getD_some, Option.bind_some, Option.map_some, List.set_cons_zero, List.set_cons_succ, List.getElem?_cons_zero, List.getElem?_cons_succ, List.getElem?_toArray, List.cons_append, List.nil_append, true_and, and_true, if_true, if_false, Nat.reduceAdd, decide_true, reduceCtorEq, List.getD_eq_getElem?_getD]
        ((repeat' (apply And.intro)) <;> try (first | rfl | omega | (unfold I64; omega)))
        (repeat' (first | exact LeL.nil | exact Le1L.nil | exact Le.refl _ | exact Le1.refl _ | exact Le1.nil _ | exact Le1.tok _ _ _ | exact LeR.one (Le.refl _) | apply LeR.tup | apply LeL.cons | apply Le1L.cons | apply Le.agg | apply Le.one | apply LeR.one))
      case neg =>
        have q2n : b < s.n := by omega
        by_cases q3 : f < 1
        case pos =>
          have q3n : ¬ (1 ≤ f) := by omega
          have e : mayR s ⟨b, f, h, v, x, p⟩ = false := by simp [mayR, hs, q1n, q2n, q3n]
          rw [e]
          refine DOps.god tab_ok follows_ok Try.func41 60 rfl ?_; simp only [Try.results41, q2, q3, decide_true, decide_false, ↓alt_t, ↓alts_t, ↓alts_f, ↓gdone_ft, ↓gdone_ff, gslot, drun, adops, adone, mayNeed, freeOk, rdOf, AV.id, wrOf, aops, aone, afin, ares, aresL, ares1, aresOk, aresOk1, aop, needs, ext, aev, aconst, aput, aupd, aload, afieldAddr, acmp, ashift, abin, tab_3, tab_53, ok1, cellsAs, TI.agg, Option.getD_some, Option.bind_some, Option.map_some, List.set_cons_zero, List.set_cons_succ, List.length_cons, List.length_nil, List.getElem?_cons_zero, List.getElem?_cons_succ, List.getElem?_toArray, List.drop_zero, List.drop_succ_cons, List.take_succ_cons, List.take_zero, List.cons_append, List.nil_append, true_and, and_true, if_true, if_false, Nat.reduceAdd, Nat.reduceLeDiff, Nat.zero_add, decide_true, decide_false, Nat.reduceLeDiff, reduceCtorEq, List.getD_eq_getElem?_getD]
          ((repeat' (apply And.intro)) <;> try (first | rfl | omega | (unfold I64; omega)))
          (repeat' (first | exact LeL.nil | exact Le1L.nil | exact Le.refl _ | exact Le1.refl _ | exact Le1.nil _ | exact Le1.tok _ _ _ | exact LeR.one (Le.refl _) | apply LeR.tup | apply LeL.cons | apply Le1L.cons | apply Le.agg | apply Le.one | apply LeR.one))
        case neg =>
          have q3n : 1 ≤ f := by omega
          by_cases q4 : 100000 < f
          case pos =>
            have q4n : ¬ (f ≤ 100000) := by omega
            have e : mayR s ⟨b, f, h, v, x, p⟩ = false := by simp [mayR, hs, q1n, q2n, q3n, q4n]
            rw [e]
            refine DOps.god tab_ok follows_ok Try.func41 60 rfl ?_; simp only [Try.results41, q2, q3, q4, decide_true, decide_false, ↓alt_t, ↓alts_f, ↓gdone_ff, gslot, drun, adops, adone, mayNeed, freeOk, rdOf, AV.id, wrOf, aops, aone, afin, ares, aresL, ares1, aresOk, aresOk1, aop, needs, ext, aev, aconst, aput, aupd, aload, afieldAddr, acmp, ashift, abin, tab_3, tab_53, ok1, cellsAs, TI.agg, Option.getD_some, Option.bind_some, Option.map_some, List.set_cons_zero, List.set_cons_succ, List.length_cons, List.length_nil, List.getElem?_cons_zero, List.getElem?_cons_succ, List.getElem?_toArray, List.drop_zero, List.drop_succ_cons, List.take_succ_cons, List.take_zero, List.cons_append, List.nil_append, true_and, and_true, if_true, if_false, Nat.reduceAdd, Nat.reduceLeDiff, Nat.zero_add, decide_true, decide_false, Nat.reduceLeDiff, reduceCtorEq, List.getD_eq_getElem?_getD]
            ((repeat' (apply And.intro)) <;> try (first | rfl | omega | (unfold I64; omega)))
            (repeat' (first | exact LeL.nil | exact Le1L.nil | exact Le.refl _ | exact Le1.refl _ | exact Le1.nil _ | exact Le1.tok _ _ _ | exact LeR.one (Le.refl _) | apply LeR.tup | apply LeL.cons | apply Le1L.cons | apply Le.agg | apply Le.one | apply LeR.one))
          case neg =>
            have q4n : f ≤ 100000 := by omega
            cases h with
            | false =>
              by_cases q5 : v = 0
              case neg =>
                have e : mayR s ⟨b, f, false, v, x, p⟩ = false := by simp [mayR, hs, q1n, q2n, q3n, q4n, q5]
                rw [e]
                refine DOps.god tab_ok follows_ok Try.func41 60 rfl ?_; simp only [Try.results41, q2, q3, q4, q5, decide_false, ↓alt_t, ↓alt_f, ↓alts_t, ↓alts_f, ↓gone_tt, ↓gone_ft, ↓gdone_ff, gslot, drun, adops, adone, mayNeed, freeOk, rdOf, AV.id, wrOf, aops, aone, afin, ares, aresL, ares1, aresOk, aresOk1, aop, needs, ext, aev, aconst, aput, aupd, aload, afieldAddr, acmp, ashift, abin, tab_3, tab_4, tab_53, ok1, cellsAs, TI.agg, Option.getD_some, Option.bind_some, Option.map_some, List.set_cons_zero, List.set_cons_succ, List.length_cons, List.length_nil, List.getElem?_cons_zero, List.getElem?_cons_succ, List.getElem?_toArray, List.drop_zero, List.drop_succ_cons, List.take_succ_cons, List.take_zero, List.cons_append, List.nil_append, true_and, and_true, if_true, if_false, Nat.reduceAdd, Nat.reduceLeDiff, Nat.zero_add, Bool.not_false, decide_false, Nat.reduceLeDiff, reduceCtorEq, List.getD_eq_getElem?_getD]
                ((repeat' (apply And.intro)) <;> try (first | rfl | omega | (unfold I64; omega)))
                (repeat' (first | exact LeL.nil | exact Le1L.nil | exact Le.refl _ | exact Le1.refl _ | exact Le1.nil _ | exact Le1.tok _ _ _ | exact LeR.one (Le.refl _) | apply LeR.tup | apply LeL.cons | apply Le1L.cons | apply Le.agg | apply Le.one | apply LeR.one))
              case pos =>
                subst q5
                by_cases q6 : x = []
                case neg =>
                  have e : mayR s ⟨b, f, false, 0, x, p⟩ = false := by simp [mayR, hs, q1n, q2n, q3n, q4n, q6]
                  rw [e]
                  refine DOps.god tab_ok follows_ok Try.func41 60 rfl ?_; simp only [Try.results41, q2, q3, q4, q6, decide_true, decide_false, ↓alt_t, ↓alt_f, ↓alts_t, ↓alts_f, ↓gone_tt, ↓gone_ff, ↓gdone_ff, gslot, drun, adops, adone, mayNeed, freeOk, rdOf, AV.id, wrOf, aops, aone, afin, ares, aresL, ares1, aresOk, aresOk1, aop, needs, ext, aev, aconst, aput, aupd, aload, afieldAddr, acmp, ashift, abin, tab_3, tab_4, tab_9, tab_53, ok1, cellsAs, TI.agg, Option.getD_some, Option.bind_some, Option.map_some, List.set_cons_zero, List.set_cons_succ, List.length_cons, List.length_nil, List.getElem?_cons_zero, List.getElem?_cons_succ, List.getElem?_toArray, List.drop_zero, List.drop_succ_cons, List.take_succ_cons, List.take_zero, List.cons_append, List.nil_append, true_and, and_true, if_true, if_false, Nat.reduceAdd, Nat.reduceLeDiff, Nat.zero_add, Bool.not_true, Bool.not_false, decide_true, decide_false, Nat.reduceLeDiff, reduceCtorEq, List.getD_eq_getElem?_getD]
                  ((repeat' (apply And.intro)) <;> try (first | rfl | omega | (unfold I64; omega)))
                  (repeat' (first | exact LeL.nil | exact Le1L.nil | exact Le.refl _ | exact Le1.refl _ | exact Le1.nil _ | exact Le1.tok _ _ _ | exact LeR.one (Le.refl _) | apply LeR.tup | apply LeL.cons | apply Le1L.cons | apply Le.agg | apply Le.one | apply LeR.one))
                case pos =>
                  subst q6
                  match p, hp, hP, hV with
                  | [], hp, hP, hV =>
                    have e : mayR s ⟨b, f, false, 0, [], []⟩ = true := by simp [mayR, hs, q1n, q2n, q3n, q4n]
                    rw [e]
                    refine DOps.god tab_ok follows_ok Try.func41 60 rfl ?_; simp only [Try.results41, q2, q3, q4, decide_true, decide_false, Int.natCast_zero, ↓alt_f, ↓alts_t, ↓alts_f, ↓gone_tt, ↓gone_tf, ↓gone_ff, ↓gdone_ft, ↓gdone_ff, gslot, drun, adops, adone, places, mayNeed, freeOk, rdOf, AV.id, wrOf, aops, aone, afin, ares, aresL, ares1, aresOk, aresOk1, aop, needs, ext, aev, aconst, aput, aupd, aload, afieldAddr, acmp, ashift, abin, alen, tab_3, tab_4, tab_9, tab_51, tab_53, ok1, cellsAs, TI.agg, Option.getD_some, Option.bind_some, Option.map_some, List.set_cons_zero, List.set_cons_succ, List.length_cons, List.length_nil, List.getElem?_cons_zero, List.getElem?_cons_succ, List.getElem?_toArray, List.drop_zero, List.drop_succ_cons, List.take_succ_cons, List.take_zero, List.take_nil, List.map_nil, List.cons_append, List.nil_append, true_and, and_true, if_true, if_false, Nat.reduceAdd, Nat.reduceLeDiff, Nat.zero_add, Bool.not_true, Bool.not_false, decide_true, decide_false, Nat.reduceLeDiff, reduceCtorEq, Nat.le_refl, List.getD_eq_getElem?_getD]
                    ((repeat' (apply And.intro)) <;> try (first | rfl | omega | (unfold I64; omega)))
                    (repeat' (first | exact LeL.nil | exact Le1L.nil | exact Le.refl _ | exact Le1.refl _ | exact Le1.nil _ | exact Le1.tok _ _ _ | exact LeR.one (Le.refl _) | apply LeR.tup | apply LeL.cons | apply Le1L.cons | apply Le.agg | apply Le.one | apply LeR.one))
                  | a :: p, hp, hP, hV =>
                    have hl0 : ¬ ((p.length + 1 : Nat) : Int) = 0 := by omega
                    refine DOps.god tab_ok follows_ok Try.func41 60 rfl ?_; simp only [q2, q3, q4, hl0, List.length_map, decide_true, decide_false, ↓alt_f, ↓alts_t, ↓alts_f, ↓gone_tt, ↓gone_tf, ↓gone_ff, ↓gdone_ff, gslot, drun, adops, adone, places, mayNeed, freeOk, rdOf, AV.id, wrOf, aops, aone, aop, needs, ext, aev, aconst, aput, aupd, aload, afieldAddr, acmp, ashift, abin, alen, tab_3, tab_4, tab_9, tab_23, tab_51, tab_53, ok1, cellsAs, TI.agg, Option.getD_some, Option.bind_some, Option.map_some, List.set_cons_zero, List.set_cons_succ, List.length_cons, List.length_nil, List.getElem?_cons_zero, List.getElem?_cons_succ, List.getElem?_toArray, List.drop_zero, List.drop_succ_cons, List.take_succ_cons, List.take_zero, List.take_nil, List.map_cons, List.length_map, List.cons_append, List.nil_append, true_and, and_true, if_true, if_false, Nat.reduceAdd, Nat.reduceLeDiff, Nat.zero_add, Bool.not_true, Bool.not_false, decide_true, decide_false, Nat.reduceLeDiff, reduceCtorEq, Nat.le_refl, List.getD_eq_getElem?_getD]
                    ((repeat' (apply And.intro)) <;> try (first | rfl | omega | (unfold I64; omega)))
                    simp only [List.map_cons, votesA, List.map_cons] at hP
                    refine DOps.pure rfl (Wanted.test 4 false false rfl) rfl rfl (hP) (by simp only [encS, accC, aev, Option.getD_some, List.getElem?_cons_zero, List.getElem?_cons_succ, List.map_cons, List.map_nil, List.nil_append, List.append_nil, List.getD_eq_getElem?_getD]; (repeat' (first | exact LeL.nil | exact Le1L.nil | exact Le.refl _ | exact Le1.refl _ | exact Le1.nil _ | exact Le1.tok _ _ _ | exact LeR.one (Le.refl _) | apply LeR.tup | apply LeL.cons | apply Le1L.cons | apply Le.agg | apply Le.one | apply LeR.one))) rfl rfl ?_
                    cases hR : rightP s (a :: p) with
                    | false =>
                      have e : mayR s ⟨b, f, false, 0, [], a :: p⟩ = false := by simp [mayR, hs, q1n, q2n, q3n, q4n, hR]
                      rw [e]
                      refine DOps.god tab_ok follows_ok Try.func41 60 rfl ?_; simp only [Try.results41, ↓alts_f, ↓gdone_tf, ↓gdone_ff, gslot, drun, adops, adone, mayNeed, freeOk, rdOf, wrOf, afin, ares, aresL, ares1, aresOk, aresOk1, aop, needs, aev, aconst, aput, aupd, ok1, Option.getD_some, Option.bind_some, Option.map_some, List.set_cons_zero, List.set_cons_succ, List.getElem?_cons_zero, List.getElem?_cons_succ, List.getElem?_toArray, List.cons_append, List.nil_append, true_and, and_true, if_true, if_false, Nat.reduceAdd, reduceCtorEq, List.getD_eq_getElem?_getD]
                      ((repeat' (apply And.intro)) <;> try (first | rfl | omega | (unfold I64; omega)))
                      (repeat' (first | exact LeL.nil | exact Le1L.nil | exact Le.refl _ | exact Le1.refl _ | exact Le1.nil _ | exact Le1.tok _ _ _ | exact LeR.one (Le.refl _) | apply LeR.tup | apply LeL.cons | apply Le1L.cons | apply Le.agg | apply Le.one | apply LeR.one))
                    | true =>
                      refine DOps.god tab_ok follows_ok Try.func41 60 rfl ?_; simp only [↓alts_t, ↓alts_f, ↓gdone_tt, ↓gdone_ff, gslot, adops, adone, mayNeed, freeOk, rdOf, AV.id, wrOf, aop, needs, aev, aput, aupd, aload, tab_53, ok1, cellsAs, TI.agg, Option.getD_some, Option.bind_some, Option.map_some, List.set_cons_zero, List.set_cons_succ, List.length_cons, List.length_nil, List.getElem?_cons_zero, List.getElem?_cons_succ, List.getElem?_toArray, List.drop_zero, List.take_succ_cons, List.take_nil, List.cons_append, List.nil_append, true_and, and_true, if_true, if_false, Nat.reduceAdd, Nat.zero_add, reduceCtorEq, Nat.le_refl, List.getD_eq_getElem?_getD]
                      ((repeat' (apply And.intro)) <;> try (first | rfl | omega | (unfold I64; omega)))
                      simp only [pvd] at hV
                      refine DOps.pure rfl (Wanted.test 9 true true rfl) rfl rfl (hV) (by simp only [encRp, rpC, votesA, accC, aev, Option.getD_some, List.getElem?_cons_zero, List.getElem?_cons_succ, List.map_cons, List.map_nil, List.nil_append, List.append_nil, List.getD_eq_getElem?_getD]; (repeat' (first | exact LeL.nil | exact Le1L.nil | exact Le.refl _ | exact Le1.refl _ | exact Le1.nil _ | exact Le1.tok _ _ _ | exact LeR.one (Le.refl _) | apply LeR.tup | apply LeL.cons | apply Le1L.cons | apply Le.agg | apply Le.one | apply LeR.one))) rfl rfl ?_
                      by_cases q8 : a.view < f
                      case neg =>
                        have e : mayR s ⟨b, f, false, 0, [], a :: p⟩ = false := by simp [mayR, hs, q1n, q2n, q3n, q4n, hR, q8]
                        rw [e]
                        refine DOps.god tab_ok follows_ok Try.func41 60 rfl ?_; simp only [Try.results41, q8, decide_false, ↓alts_t, ↓alts_f, ↓gdone_tt, ↓gdone_ff, gslot, drun, adops, adone, mayNeed, freeOk, rdOf, AV.id, wrOf, afin, ares, aresL, ares1, aresOk, aresOk1, aop, needs, aev, aput, aupd, aload, afieldAddr, acmp, ashift, abin, tab_3, tab_53, ok1, cellsAs, TI.agg, Option.getD_some, Option.bind_some, Option.map_some, List.set_cons_zero, List.set_cons_succ, List.length_cons, List.length_nil, List.getElem?_cons_zero, List.getElem?_cons_succ, List.getElem?_toArray, List.drop_zero, List.drop_succ_cons, List.take_succ_cons, List.take_zero, List.cons_append, List.nil_append, true_and, and_true, if_true, if_false, Nat.reduceAdd, Nat.reduceLeDiff, Nat.zero_add, decide_false, Nat.reduceLeDiff, reduceCtorEq, List.getD_eq_getElem?_getD]
                        ((repeat' (apply And.intro)) <;> try (first | rfl | omega | (unfold I64; omega)))
                        (repeat' (first | exact LeL.nil | exact Le1L.nil | exact Le.refl _ | exact Le1.refl _ | exact Le1.nil _ | exact Le1.tok _ _ _ | exact LeR.one (Le.refl _) | apply LeR.tup | apply LeL.cons | apply Le1L.cons | apply Le.agg | apply Le.one | apply LeR.one))
                      case pos =>
                        have e : mayR s ⟨b, f, false, 0, [], a :: p⟩ = true := by simp [mayR, hs, q1n, q2n, q3n, q4n, hR, q8]
                        rw [e]
                        refine DOps.god tab_ok follows_ok Try.func41 60 rfl ?_; simp only [Try.results41, q8, decide_true, ↓alts_t, ↓alts_f, ↓gdone_tt, ↓gdone_ff, gslot, drun, adops, adone, mayNeed, freeOk, rdOf, AV.id, wrOf, afin, ares, aresL, ares1, aresOk, aresOk1, aop, needs, aev, aput, aupd, aload, afieldAddr, acmp, ashift, abin, tab_3, tab_53, ok1, cellsAs, TI.agg, Option.getD_some, Option.bind_some, Option.map_some, List.set_cons_zero, List.set_cons_succ, List.length_cons, List.length_nil, List.getElem?_cons_zero, List.getElem?_cons_succ, List.getElem?_toArray, List.drop_zero, List.drop_succ_cons, List.take_succ_cons, List.take_zero, List.cons_append, List.nil_append, true_and, and_true, if_true, if_false, Nat.reduceAdd, Nat.reduceLeDiff, Nat.zero_add, decide_true, Nat.reduceLeDiff, reduceCtorEq, List.getD_eq_getElem?_getD]
                        ((repeat' (apply And.intro)) <;> try (first | rfl | omega | (unfold I64; omega)))
                        (repeat' (first | exact LeL.nil | exact Le1L.nil | exact Le.refl _ | exact Le1.refl _ | exact Le1.nil _ | exact Le1.tok _ _ _ | exact LeR.one (Le.refl _) | apply LeR.tup | apply LeL.cons | apply Le1L.cons | apply Le.agg | apply Le.one | apply LeR.one))
            | true =>
              by_cases q5 : v < 0
              case pos =>
                have q5n : ¬ (0 ≤ v) := by omega
                have e : mayR s ⟨b, f, true, v, x, p⟩ = false := by simp [mayR, hs, q1n, q2n, q3n, q4n, q5n]
                rw [e]
                refine DOps.god tab_ok follows_ok Try.func41 60 rfl ?_; simp only [Try.results41, q2, q3, q4, q5, decide_true, decide_false, ↓alt_t, ↓alt_f, ↓alts_t, ↓alts_f, ↓gone_tt, ↓gone_tf, ↓gone_ft, ↓gdone_ff, gslot, drun, adops, adone, mayNeed, freeOk, rdOf, AV.id, wrOf, aops, aone, afin, ares, aresL, ares1, aresOk, aresOk1, aop, needs, ext, aev, aconst, aput, aupd, aload, afieldAddr, acmp, ashift, abin, tab_3, tab_4, tab_53, ok1, cellsAs, TI.agg, Option.getD_some, Option.bind_some, Option.map_some, List.set_cons_zero, List.set_cons_succ, List.length_cons, List.length_nil, List.getElem?_cons_zero, List.getElem?_cons_succ, List.getElem?_toArray, List.drop_zero, List.drop_succ_cons, List.take_succ_cons, List.take_zero, List.cons_append, List.nil_append, true_and, and_true, if_true, if_false, Nat.reduceAdd, Nat.reduceLeDiff, Nat.zero_add, Bool.not_true, decide_true, decide_false, Nat.reduceLeDiff, reduceCtorEq, List.getD_eq_getElem?_getD]
                ((repeat' (apply And.intro)) <;> try (first | rfl | omega | (unfold I64; omega)))
                (repeat' (first | exact LeL.nil | exact Le1L.nil | exact Le.refl _ | exact Le1.refl _ | exact Le1.nil _ | exact Le1.tok _ _ _ | exact LeR.one (Le.refl _) | apply LeR.tup | apply LeL.cons | apply Le1L.cons | apply Le.agg | apply Le.one | apply LeR.one))
              case neg =>
                have q5n : 0 ≤ v := by omega
                by_cases q6 : f ≤ v
                case pos =>
                  have q6n : ¬ (v < f) := by omega
                  have e : mayR s ⟨b, f, true, v, x, p⟩ = false := by simp [mayR, hs, q1n, q2n, q3n, q4n, q5n, q6n]
                  rw [e]
                  refine DOps.god tab_ok follows_ok Try.func41 60 rfl ?_; simp only [Try.results41, q2, q3, q4, q5, q6, decide_true, decide_false, ↓alt_t, ↓alt_f, ↓alts_t, ↓alts_f, ↓gone_tt, ↓gone_tf, ↓gone_ft, ↓gone_ff, ↓gdone_ff, gslot, drun, adops, adone, mayNeed, freeOk, rdOf, AV.id, wrOf, aops, aone, afin, ares, aresL, ares1, aresOk, aresOk1, aop, needs, ext, aev, aconst, aput, aupd, aload, afieldAddr, acmp, ashift, abin, tab_3, tab_4, tab_53, ok1, cellsAs, TI.agg, Option.getD_some, Option.bind_some, Option.map_some, List.set_cons_zero, List.set_cons_succ, List.length_cons, List.length_nil, List.getElem?_cons_zero, List.getElem?_cons_succ, List.getElem?_toArray, List.drop_zero, List.drop_succ_cons, List.take_succ_cons, List.take_zero, List.cons_append, List.nil_append, true_and, and_true, if_true, if_false, Nat.reduceAdd, Nat.reduceLeDiff, Nat.zero_add, Bool.not_true, decide_true, decide_false, Nat.reduceLeDiff, reduceCtorEq, List.getD_eq_getElem?_getD]
                  ((repeat' (apply And.intro)) <;> try (first | rfl | omega | (unfold I64; omega)))
                  (repeat' (first | exact LeL.nil | exact Le1L.nil | exact Le.refl _ | exact Le1.refl _ | exact Le1.nil _ | exact Le1.tok _ _ _ | exact LeR.one (Le.refl _) | apply LeR.tup | apply LeL.cons | apply Le1L.cons | apply Le.agg | apply Le.one | apply LeR.one))
                case neg =>
                  have q6n : v < f := by omega
                  by_cases q7 : (6000 : Int) < x.length
                  case pos =>
                    have q7n : ¬ ((x.length : Int) ≤ 6000) := by omega
                    have e : mayR s ⟨b, f, true, v, x, p⟩ = false := by simp [mayR, hs, q1n, q2n, q3n, q4n, q5n, q6n, q7n]
                    rw [e]
                    refine DOps.god tab_ok follows_ok Try.func41 60 rfl ?_; simp only [Try.results41, q2, q3, q4, q5, q6, q7, decide_true, decide_false, ↓alt_t, ↓alt_f, ↓alts_t, ↓alts_f, ↓gone_tt, ↓gone_tf, ↓gone_ff, ↓gdone_ff, gslot, drun, adops, adone, mayNeed, freeOk, rdOf, AV.id, wrOf, aops, aone, afin, ares, aresL, ares1, aresOk, aresOk1, aop, needs, ext, aev, aconst, aput, aupd, aload, afieldAddr, acmp, ashift, abin, alen, tab_3, tab_4, tab_9, tab_53, ok1, cellsAs, TI.agg, Option.getD_some, Option.bind_some, Option.map_some, List.set_cons_zero, List.set_cons_succ, List.length_cons, List.length_nil, List.getElem?_cons_zero, List.getElem?_cons_succ, List.getElem?_toArray, List.drop_zero, List.drop_succ_cons, List.take_succ_cons, List.take_zero, List.cons_append, List.nil_append, true_and, and_true, if_true, if_false, Nat.reduceAdd, Nat.reduceLeDiff, Nat.zero_add, Bool.not_true, decide_true, decide_false, Nat.reduceLeDiff, reduceCtorEq, List.getD_eq_getElem?_getD]
                    ((repeat' (apply And.intro)) <;> try (first | rfl | omega | (unfold I64; omega)))
                    (repeat' (first | exact LeL.nil | exact Le1L.nil | exact Le.refl _ | exact Le1.refl _ | exact Le1.nil _ | exact Le1.tok _ _ _ | exact LeR.one (Le.refl _) | apply LeR.tup | apply LeL.cons | apply Le1L.cons | apply Le.agg | apply Le.one | apply LeR.one))
                  case neg =>
                    have q7n : (x.length : Int) ≤ 6000 := by omega
                    match p, hp, hP, hV with
                    | [], hp, hP, hV =>
                      have e : mayR s ⟨b, f, true, v, x, []⟩ = true := by simp [mayR, hs, q1n, q2n, q3n, q4n, q5n, q6n, q7n]
                      rw [e]
                      refine DOps.god tab_ok follows_ok Try.func41 60 rfl ?_; simp only [Try.results41, q2, q3, q4, q5, q6, q7, decide_true, decide_false, Int.natCast_zero, ↓alt_f, ↓alts_t, ↓alts_f, ↓gone_tt, ↓gone_tf, ↓gone_ff, ↓gdone_ft, ↓gdone_ff, gslot, drun, adops, adone, places, mayNeed, freeOk, rdOf, AV.id, wrOf, aops, aone, afin, ares, aresL, ares1, aresOk, aresOk1, aop, needs, ext, aev, aconst, aput, aupd, aload, afieldAddr, acmp, ashift, abin, alen, tab_3, tab_4, tab_9, tab_51, tab_53, ok1, cellsAs, TI.agg, Option.getD_some, Option.bind_some, Option.map_some, List.set_cons_zero, List.set_cons_succ, List.length_cons, List.length_nil, List.getElem?_cons_zero, List.getElem?_cons_succ, List.getElem?_toArray, List.drop_zero, List.drop_succ_cons, List.take_succ_cons, List.take_zero, List.take_nil, List.map_nil, List.cons_append, List.nil_append, true_and, and_true, if_true, if_false, Nat.reduceAdd, Nat.reduceLeDiff, Nat.zero_add, Bool.not_true, decide_true, decide_false, Nat.reduceLeDiff, reduceCtorEq, Nat.le_refl, List.getD_eq_getElem?_getD]
                      ((repeat' (apply And.intro)) <;> try (first | rfl | omega | (unfold I64; omega)))
                      (repeat' (first | exact LeL.nil | exact Le1L.nil | exact Le.refl _ | exact Le1.refl _ | exact Le1.nil _ | exact Le1.tok _ _ _ | exact LeR.one (Le.refl _) | apply LeR.tup | apply LeL.cons | apply Le1L.cons | apply Le.agg | apply Le.one | apply LeR.one))
                    | a :: p, hp, hP, hV =>
                      have hl0 : ¬ ((p.length + 1 : Nat) : Int) = 0 := by omega
                      refine DOps.god tab_ok follows_ok Try.func41 60 rfl ?_; simp only [q2, q3, q4, q5, q6, q7, hl0, List.length_map, decide_false, ↓alt_f, ↓alts_t, ↓alts_f, ↓gone_tt, ↓gone_tf, ↓gone_ff, ↓gdone_ff, gslot, drun, adops, adone, places, mayNeed, freeOk, rdOf, AV.id, wrOf, aops, aone, aop, needs, ext, aev, aconst, aput, aupd, aload, afieldAddr, acmp, ashift, abin, alen, tab_3, tab_4, tab_9, tab_23, tab_51, tab_53, ok1, cellsAs, TI.agg, Option.getD_some, Option.bind_some, Option.map_some, List.set_cons_zero, List.set_cons_succ, List.length_cons, List.length_nil, List.getElem?_cons_zero, List.getElem?_cons_succ, List.getElem?_toArray, List.drop_zero, List.drop_succ_cons, List.take_succ_cons, List.take_zero, List.take_nil, List.map_cons, List.length_map, List.cons_append, List.nil_append, true_and, and_true, if_true, if_false, Nat.reduceAdd, Nat.reduceLeDiff, Nat.zero_add, Bool.not_true, decide_false, Nat.reduceLeDiff, reduceCtorEq, Nat.le_refl, List.getD_eq_getElem?_getD]
                      ((repeat' (apply And.intro)) <;> try (first | rfl | omega | (unfold I64; omega)))
                      simp only [List.map_cons, votesA, List.map_cons] at hP
                      refine DOps.pure rfl (Wanted.test 4 false false rfl) rfl rfl (hP) (by simp only [encS, accC, aev, Option.getD_some, List.getElem?_cons_zero, List.getElem?_cons_succ, List.map_cons, List.map_nil, List.nil_append, List.append_nil, List.getD_eq_getElem?_getD]; (repeat' (first | exact LeL.nil | exact Le1L.nil | exact Le.refl _ | exact Le1.refl _ | exact Le1.nil _ | exact Le1.tok _ _ _ | exact LeR.one (Le.refl _) | apply LeR.tup | apply LeL.cons | apply Le1L.cons | apply Le.agg | apply Le.one | apply LeR.one))) rfl rfl ?_
                      cases hR : rightP s (a :: p) with
                      | false =>
                        have e : mayR s ⟨b, f, true, v, x, a :: p⟩ = false := by simp [mayR, hs, q1n, q2n, q3n, q4n, q5n, q6n, q7n, hR]
                        rw [e]
                        refine DOps.god tab_ok follows_ok Try.func41 60 rfl ?_; simp only [Try.results41, ↓alts_f, ↓gdone_tf, ↓gdone_ff, gslot, drun, adops, adone, mayNeed, freeOk, rdOf, wrOf, afin, ares, aresL, ares1, aresOk, aresOk1, aop, needs, aev, aconst, aput, aupd, ok1, Option.getD_some, Option.bind_some, Option.map_some, List.set_cons_zero, List.set_cons_succ, List.getElem?_cons_zero, List.getElem?_cons_succ, List.getElem?_toArray, List.cons_append, List.nil_append, true_and, and_true, if_true, if_false, Nat.reduceAdd, reduceCtorEq, List.getD_eq_getElem?_getD]
                        ((repeat' (apply And.intro)) <;> try (first | rfl | omega | (unfold I64; omega)))
                        (repeat' (first | exact LeL.nil | exact Le1L.nil | exact Le.refl _ | exact Le1.refl _ | exact Le1.nil _ | exact Le1.tok _ _ _ | exact LeR.one (Le.refl _) | apply LeR.tup | apply LeL.cons | apply Le1L.cons | apply Le.agg | apply Le.one | apply LeR.one))
                      | true =>
                        refine DOps.god tab_ok follows_ok Try.func41 60 rfl ?_; simp only [↓alts_t, ↓alts_f, ↓gdone_tt, ↓gdone_ff, gslot, adops, adone, mayNeed, freeOk, rdOf, AV.id, wrOf, aop, needs, aev, aput, aupd, aload, tab_53, ok1, cellsAs, TI.agg, Option.getD_some, Option.bind_some, Option.map_some, List.set_cons_zero, List.set_cons_succ, List.length_cons, List.length_nil, List.getElem?_cons_zero, List.getElem?_cons_succ, List.getElem?_toArray, List.drop_zero, List.take_succ_cons, List.take_nil, List.cons_append, List.nil_append, true_and, and_true, if_true, if_false, Nat.reduceAdd, Nat.zero_add, reduceCtorEq, Nat.le_refl, List.getD_eq_getElem?_getD]
                        ((repeat' (apply And.intro)) <;> try (first | rfl | omega | (unfold I64; omega)))
                        simp only [pvd] at hV
                        refine DOps.pure rfl (Wanted.test 9 true true rfl) rfl rfl (hV) (by simp only [encRp, rpC, votesA, accC, aev, Option.getD_some, List.getElem?_cons_zero, List.getElem?_cons_succ, List.map_cons, List.map_nil, List.nil_append, List.append_nil, List.getD_eq_getElem?_getD]; (repeat' (first | exact LeL.nil | exact Le1L.nil | exact Le.refl _ | exact Le1.refl _ | exact Le1.nil _ | exact Le1.tok _ _ _ | exact LeR.one (Le.refl _) | apply LeR.tup | apply LeL.cons | apply Le1L.cons | apply Le.agg | apply Le.one | apply LeR.one))) rfl rfl ?_
                        by_cases q8 : a.view < f
                        case neg =>
                          have e : mayR s ⟨b, f, true, v, x, a :: p⟩ = false := by simp [mayR, hs, q1n, q2n, q3n, q4n, q5n, q6n, q7n, hR, q8]
                          rw [e]
                          refine DOps.god tab_ok follows_ok Try.func41 60 rfl ?_; simp only [Try.results41, q8, decide_false, ↓alts_t, ↓alts_f, ↓gdone_tt, ↓gdone_ff, gslot, drun, adops, adone, mayNeed, freeOk, rdOf, AV.id, wrOf, afin, ares, aresL, ares1, aresOk, aresOk1, aop, needs, aev, aput, aupd, aload, afieldAddr, acmp, ashift, abin, tab_3, tab_53, ok1, cellsAs, TI.agg, Option.getD_some, Option.bind_some, Option.map_some, List.set_cons_zero, List.set_cons_succ, List.length_cons, List.length_nil, List.getElem?_cons_zero, List.getElem?_cons_succ, List.getElem?_toArray, List.drop_zero, List.drop_succ_cons, List.take_succ_cons, List.take_zero, List.cons_append, List.nil_append, true_and, and_true, if_true, if_false, Nat.reduceAdd, Nat.reduceLeDiff, Nat.zero_add, decide_false, Nat.reduceLeDiff, reduceCtorEq, List.getD_eq_getElem?_getD]
                          ((repeat' (apply And.intro)) <;> try (first | rfl | omega | (unfold I64; omega)))
                          (repeat' (first | exact LeL.nil | exact Le1L.nil | exact Le.refl _ | exact Le1.refl _ | exact Le1.nil _ | exact Le1.tok _ _ _ | exact LeR.one (Le.refl _) | apply LeR.tup | apply LeL.cons | apply Le1L.cons | apply Le.agg | apply Le.one | apply LeR.one))
                        case pos =>
                          have e : mayR s ⟨b, f, true, v, x, a :: p⟩ = true := by simp [mayR, hs, q1n, q2n, q3n, q4n, q5n, q6n, q7n, hR, q8]
                          rw [e]
                          refine DOps.god tab_ok follows_ok Try.func41 60 rfl ?_; simp only [Try.results41, q8, decide_true, ↓alts_t, ↓alts_f, ↓gdone_tt, ↓gdone_ff, gslot, drun, adops, adone, mayNeed, freeOk, rdOf, AV.id, wrOf, afin, ares, aresL, ares1, aresOk, aresOk1, aop, needs, aev, aput, aupd, aload, afieldAddr, acmp, ashift, abin, tab_3, tab_53, ok1, cellsAs, TI.agg, Option.getD_some, Option.bind_some, Option.map_some, List.set_cons_zero, List.set_cons_succ, List.length_cons, List.length_nil, List.getElem?_cons_zero, List.getElem?_cons_succ, List.getElem?_toArray, List.drop_zero, List.drop_succ_cons, List.take_succ_cons, List.take_zero, List.cons_append, List.nil_append, true_and, and_true, if_true, if_false, Nat.reduceAdd, Nat.reduceLeDiff, Nat.zero_add, decide_true, Nat.reduceLeDiff, reduceCtorEq, List.getD_eq_getElem?_getD]
                          ((repeat' (apply And.intro)) <;> try (first | rfl | omega | (unfold I64; omega)))
                          (repeat' (first | exact LeL.nil | exact Le1L.nil | exact Le.refl _ | exact Le1.refl _ | exact Le1.nil _ | exact Le1.tok _ _ _ | exact LeR.one (Le.refl _) | apply LeR.tup | apply LeL.cons | apply Le1L.cons | apply Le.agg | apply Le.one | apply LeR.one))
set_option maxRecDepth 20000 in
set_option maxHeartbeats 4000000 in
theorem rmay20_spec (s : Sz) (r : Rp) (hp : r.proof.length ≤ 1000000) : ASpec Try.prog 42 [encS s, encRp r] (.bool (mayR s r)) := by
  have hr := rright_spec s
  have hP := rright19_spec s r.proof hp
  have hV := proved_spec r
  obtain ⟨b, f, h, v, x, p⟩ := r
  cases hs : s.right with
  | false =>
    rw [hs] at hr
    have e : mayR s ⟨b, f, h, v, x, p⟩ = false := by simp [mayR, hs]
    rw [e]
    refine ⟨⟨_, Try.func42, by kernel_rfl, rfl⟩, ACall.of Try.func42 rfl fun c0 hc0 => ?_⟩; simp only [Try.ntmps42, List.length_cons, List.length_nil, Nat.reduceAdd, Nat.reduceSub, List.replicate_succ, List.replicate_zero, List.cons_append, List.nil_append]; refine Run.god tab_ok follows_ok Try.func42 60 ?_; simp only [encS, encRp, rpC, votesA, drun, adops, adone, places, mayNeed, freeOk, rdOf, AV.id, wrOf, aops, aone, aop, needs, ext, aev, aconst, aput, aupd, aload, tab_33, ok1, cellsAs, TI.agg, AV.cells, AV.whole, Option.getD_some, Option.bind_some, Option.map_some, List.set_cons_zero, List.set_cons_succ, List.length_cons, List.length_nil, List.getElem?_cons_zero, List.getElem?_cons_succ, List.drop_zero, List.take_succ_cons, List.take_nil, List.cons_append, List.nil_append, true_and, and_true, if_true, if_false, Nat.reduceAdd, Nat.zero_add, reduceCtorEq, Nat.le_refl, List.getD_eq_getElem?_getD]
    ((repeat' (apply And.intro)) <;> try (first | rfl | omega | (unfold I64; omega)))
    refine DOps.pure rfl .free rfl rfl (hr) (by simp only [encS, aev, Option.getD_some, List.getElem?_cons_zero, List.getElem?_cons_succ, List.map_cons, List.map_nil, List.nil_append, List.append_nil, List.getD_eq_getElem?_getD]; (repeat' (first | exact LeL.nil | exact Le1L.nil | exact Le.refl _ | exact Le1.refl _ | exact Le1.nil _ | exact Le1.tok _ _ _ | exact LeR.one (Le.refl _) | apply LeR.tup | apply LeL.cons | apply Le1L.cons | apply Le.agg | apply Le.one | apply LeR.one))) rfl rfl ?_
    refine DOps.god tab_ok follows_ok Try.func42 60 rfl ?_; simp only [Try.results42, ↓alt_t, ↓alts_t, ↓gdone_ft, gslot, drun, adops, adone, mayNeed, freeOk, rdOf, wrOf, aops, aone, afin, ares, aresL, ares1, aresOk, aresOk1, aop, needs, ext, aev, aconst, aput, aupd, ok1, Option.getD_some, Option.bind_some, Option.map_some, List.set_cons_zero, List.set_cons_succ, List.getElem?_cons_zero, List.getElem?_cons_succ, List.getElem?_toArray, List.cons_append, List.nil_append, true_and, and_true, if_true, if_false, Nat.reduceAdd, Bool.not_false, reduceCtorEq, List.getD_eq_getElem?_getD]
    ((repeat' (apply And.intro)) <;> try (first | rfl | omega | (unfold I64; omega)))
    (repeat' (first | exact LeL.nil | exact Le1L.nil | exact Le.refl _ | exact Le1.refl _ | exact Le1.nil _ | exact Le1.tok _ _ _ | exact LeR.one (Le.refl _) | apply LeR.tup | apply LeL.cons | apply Le1L.cons | apply Le.agg | apply Le.one | apply LeR.one))
  | true =>
    rw [hs] at hr
    have hN := rN_spec hs
    refine ⟨⟨_, Try.func42, by kernel_rfl, rfl⟩, ACall.of Try.func42 rfl fun c0 hc0 => ?_⟩; simp only [Try.ntmps42, List.length_cons, List.length_nil, Nat.reduceAdd, Nat.reduceSub, List.replicate_succ, List.replicate_zero, List.cons_append, List.nil_append]; refine Run.god tab_ok follows_ok Try.func42 60 ?_; simp only [encS, encRp, rpC, votesA, drun, adops, adone, places, mayNeed, freeOk, rdOf, AV.id, wrOf, aops, aone, aop, needs, ext, aev, aconst, aput, aupd, aload, tab_33, ok1, cellsAs, TI.agg, AV.cells, AV.whole, Option.getD_some, Option.bind_some, Option.map_some, List.set_cons_zero, List.set_cons_succ, List.length_cons, List.length_nil, List.getElem?_cons_zero, List.getElem?_cons_succ, List.drop_zero, List.take_succ_cons, List.take_nil, List.cons_append, List.nil_append, true_and, and_true, if_true, if_false, Nat.reduceAdd, Nat.zero_add, reduceCtorEq, Nat.le_refl, List.getD_eq_getElem?_getD]
    ((repeat' (apply And.intro)) <;> try (first | rfl | omega | (unfold I64; omega)))
    refine DOps.pure rfl .free rfl rfl (hr) (by simp only [encS, aev, Option.getD_some, List.getElem?_cons_zero, List.getElem?_cons_succ, List.map_cons, List.map_nil, List.nil_append, List.append_nil, List.getD_eq_getElem?_getD]; (repeat' (first | exact LeL.nil | exact Le1L.nil | exact Le.refl _ | exact Le1.refl _ | exact Le1.nil _ | exact Le1.tok _ _ _ | exact LeR.one (Le.refl _) | apply LeR.tup | apply LeL.cons | apply Le1L.cons | apply Le.agg | apply Le.one | apply LeR.one))) rfl rfl ?_
    by_cases q1 : b < 0
    case pos =>
      have q1n : ¬ (0 ≤ b) := by omega
      have e : mayR s ⟨b, f, h, v, x, p⟩ = false := by simp [mayR, hs, q1n]
      rw [e]
      refine DOps.god tab_ok follows_ok Try.func42 60 rfl ?_; simp only [Try.results42, q1, decide_true, ↓alt_t, ↓alts_t, ↓alts_f, ↓gdone_ft, ↓gdone_ff, gslot, drun, adops, adone, mayNeed, freeOk, rdOf, AV.id, wrOf, aops, aone, afin, ares, aresL, ares1, aresOk, aresOk1, aop, needs, ext, aev, aconst, aput, aupd, aload, afieldAddr, acmp, ashift, abin, tab_3, tab_53, ok1, cellsAs, TI.agg, Option.getD_some, Option.bind_some, Option.map_some, List.set_cons_zero, List.set_cons_succ, List.length_cons, List.length_nil, List.getElem?_cons_zero, List.getElem?_cons_succ, List.getElem?_toArray, List.drop_zero, List.take_succ_cons, List.take_zero, List.cons_append, List.nil_append, true_and, and_true, if_true, if_false, Nat.reduceAdd, Nat.reduceLeDiff, Nat.zero_add, Nat.add_zero, Bool.not_true, decide_true, Nat.reduceLeDiff, reduceCtorEq, List.getD_eq_getElem?_getD]
      ((repeat' (apply And.intro)) <;> try (first | rfl | omega | (unfold I64; omega)))
      (repeat' (first | exact LeL.nil | exact Le1L.nil | exact Le.refl _ | exact Le1.refl _ | exact Le1.nil _ | exact Le1.tok _ _ _ | exact LeR.one (Le.refl _) | apply LeR.tup | apply LeL.cons | apply Le1L.cons | apply Le.agg | apply Le.one | apply LeR.one))
    case neg =>
      have q1n : 0 ≤ b := by omega
      refine DOps.god tab_ok follows_ok Try.func42 60 rfl ?_; simp only [q1, decide_false, ↓alts_f, ↓gdone_ff, gslot, adops, adone, mayNeed, freeOk, rdOf, AV.id, wrOf, aop, needs, aev, aconst, aput, aupd, aload, afieldAddr, acmp, ashift, abin, tab_3, tab_33, tab_53, ok1, cellsAs, TI.agg, Option.getD_some, Option.bind_some, Option.map_some, List.set_cons_zero, List.set_cons_succ, List.length_cons, List.length_nil, List.getElem?_cons_zero, List.getElem?_cons_succ, List.getElem?_toArray, List.drop_zero, List.take_succ_cons, List.take_zero, List.take_nil, List.cons_append, List.nil_append, true_and, and_true, if_true, if_false, Nat.reduceAdd, Nat.reduceLeDiff, Nat.zero_add, Nat.add_zero, Bool.not_true, decide_false, Nat.reduceLeDiff, reduceCtorEq, Nat.le_refl, List.getD_eq_getElem?_getD]
      ((repeat' (apply And.intro)) <;> try (first | rfl | omega | (unfold I64; omega)))
      refine DOps.pure rfl (Wanted.test 8 false false rfl) rfl rfl (hN) (by simp only [encS, aev, Option.getD_some, List.getElem?_cons_zero, List.getElem?_cons_succ, List.map_cons, List.map_nil, List.nil_append, List.append_nil, List.getD_eq_getElem?_getD]; (repeat' (first | exact LeL.nil | exact Le1L.nil | exact Le.refl _ | exact Le1.refl _ | exact Le1.nil _ | exact Le1.tok _ _ _ | exact LeR.one (Le.refl _) | apply LeR.tup | apply LeL.cons | apply Le1L.cons | apply Le.agg | apply Le.one | apply LeR.one))) rfl rfl ?_
      by_cases q2 : s.n ≤ b
      case pos =>
        have q2n : ¬ (b < s.n) := by omega
        have e : mayR s ⟨b, f, h, v, x, p⟩ = false := by simp [mayR, hs, q1n, q2n]
        rw [e]
        refine DOps.god tab_ok follows_ok Try.func42 60 rfl ?_; simp only [Try.results42, q2, decide_true, ↓alt_t, ↓alts_t, ↓alts_f, ↓gdone_ft, ↓gdone_ff, gslot, drun, adops, adone, mayNeed, freeOk, rdOf, wrOf, aops, aone, afin, ares, aresL, ares1, aresOk, aresOk1, aop, needs, ext, aev, aconst, aput, aupd, acmp, ashift, abin, tab_3, ok1, Option.getD_some, Option.bind_some, Option.map_some, List.set_cons_zero, List.set_cons_succ, List.getElem?_cons_zero, List.getElem?_cons_succ, List.getElem?_toArray, List.cons_append, List.nil_append, true_and, and_true, if_true, if_false, Nat.reduceAdd, decide_true, reduceCtorEq, List.getD_eq_getElem?_getD]
        ((repeat' (apply And.intro)) <;> try (first | rfl | omega | (unfold I64; omega)))
        (repeat' (first | exact LeL.nil | exact Le1L.nil | exact Le.refl _ | exact Le1.refl _ | exact Le1.nil _ | exact Le1.tok _ _ _ | exact LeR.one (Le.refl _) | apply LeR.tup | apply LeL.cons | apply Le1L.cons | apply Le.agg | apply Le.one | apply LeR.one))
      case neg =>
        have q2n : b < s.n := by omega
        by_cases q3 : f < 1
        case pos =>
          have q3n : ¬ (1 ≤ f) := by omega
          have e : mayR s ⟨b, f, h, v, x, p⟩ = false := by simp [mayR, hs, q1n, q2n, q3n]
          rw [e]
          refine DOps.god tab_ok follows_ok Try.func42 60 rfl ?_; simp only [Try.results42, q2, q3, decide_true, decide_false, ↓alt_t, ↓alts_t, ↓alts_f, ↓gdone_ft, ↓gdone_ff, gslot, drun, adops, adone, mayNeed, freeOk, rdOf, AV.id, wrOf, aops, aone, afin, ares, aresL, ares1, aresOk, aresOk1, aop, needs, ext, aev, aconst, aput, aupd, aload, afieldAddr, acmp, ashift, abin, tab_3, tab_53, ok1, cellsAs, TI.agg, Option.getD_some, Option.bind_some, Option.map_some, List.set_cons_zero, List.set_cons_succ, List.length_cons, List.length_nil, List.getElem?_cons_zero, List.getElem?_cons_succ, List.getElem?_toArray, List.drop_zero, List.drop_succ_cons, List.take_succ_cons, List.take_zero, List.cons_append, List.nil_append, true_and, and_true, if_true, if_false, Nat.reduceAdd, Nat.reduceLeDiff, Nat.zero_add, decide_true, decide_false, Nat.reduceLeDiff, reduceCtorEq, List.getD_eq_getElem?_getD]
          ((repeat' (apply And.intro)) <;> try (first | rfl | omega | (unfold I64; omega)))
          (repeat' (first | exact LeL.nil | exact Le1L.nil | exact Le.refl _ | exact Le1.refl _ | exact Le1.nil _ | exact Le1.tok _ _ _ | exact LeR.one (Le.refl _) | apply LeR.tup | apply LeL.cons | apply Le1L.cons | apply Le.agg | apply Le.one | apply LeR.one))
        case neg =>
          have q3n : 1 ≤ f := by omega
          by_cases q4 : 100000 < f
          case pos =>
            have q4n : ¬ (f ≤ 100000) := by omega
            have e : mayR s ⟨b, f, h, v, x, p⟩ = false := by simp [mayR, hs, q1n, q2n, q3n, q4n]
            rw [e]
            refine DOps.god tab_ok follows_ok Try.func42 60 rfl ?_; simp only [Try.results42, q2, q3, q4, decide_true, decide_false, ↓alt_t, ↓alts_f, ↓gdone_ff, gslot, drun, adops, adone, mayNeed, freeOk, rdOf, AV.id, wrOf, aops, aone, afin, ares, aresL, ares1, aresOk, aresOk1, aop, needs, ext, aev, aconst, aput, aupd, aload, afieldAddr, acmp, ashift, abin, tab_3, tab_53, ok1, cellsAs, TI.agg, Option.getD_some, Option.bind_some, Option.map_some, List.set_cons_zero, List.set_cons_succ, List.length_cons, List.length_nil, List.getElem?_cons_zero, List.getElem?_cons_succ, List.getElem?_toArray, List.drop_zero, List.drop_succ_cons, List.take_succ_cons, List.take_zero, List.cons_append, List.nil_append, true_and, and_true, if_true, if_false, Nat.reduceAdd, Nat.reduceLeDiff, Nat.zero_add, decide_true, decide_false, Nat.reduceLeDiff, reduceCtorEq, List.getD_eq_getElem?_getD]
            ((repeat' (apply And.intro)) <;> try (first | rfl | omega | (unfold I64; omega)))
            (repeat' (first | exact LeL.nil | exact Le1L.nil | exact Le.refl _ | exact Le1.refl _ | exact Le1.nil _ | exact Le1.tok _ _ _ | exact LeR.one (Le.refl _) | apply LeR.tup | apply LeL.cons | apply Le1L.cons | apply Le.agg | apply Le.one | apply LeR.one))
          case neg =>
            have q4n : f ≤ 100000 := by omega
            cases h with
            | false =>
              by_cases q5 : v = 0
              case neg =>
                have e : mayR s ⟨b, f, false, v, x, p⟩ = false := by simp [mayR, hs, q1n, q2n, q3n, q4n, q5]
                rw [e]
                refine DOps.god tab_ok follows_ok Try.func42 60 rfl ?_; simp only [Try.results42, q2, q3, q4, q5, decide_false, ↓alt_t, ↓alt_f, ↓alts_t, ↓alts_f, ↓gone_tt, ↓gone_tf, ↓gone_ft, ↓gone_ff, ↓gdone_ff, gslot, drun, adops, adone, mayNeed, freeOk, rdOf, AV.id, wrOf, aops, aone, afin, ares, aresL, ares1, aresOk, aresOk1, aop, needs, ext, aev, aconst, aput, aupd, aload, afieldAddr, acmp, ashift, abin, tab_3, tab_4, tab_53, ok1, cellsAs, TI.agg, Option.getD_some, Option.bind_some, Option.map_some, List.set_cons_zero, List.set_cons_succ, List.length_cons, List.length_nil, List.getElem?_cons_zero, List.getElem?_cons_succ, List.getElem?_toArray, List.drop_zero, List.drop_succ_cons, List.take_succ_cons, List.take_zero, List.cons_append, List.nil_append, true_and, and_true, if_true, if_false, Nat.reduceAdd, Nat.reduceLeDiff, Nat.zero_add, Bool.not_false, decide_false, Nat.reduceLeDiff, reduceCtorEq, List.getD_eq_getElem?_getD]
                ((repeat' (apply And.intro)) <;> try (first | rfl | omega | (unfold I64; omega)))
                (repeat' (first | exact LeL.nil | exact Le1L.nil | exact Le.refl _ | exact Le1.refl _ | exact Le1.nil _ | exact Le1.tok _ _ _ | exact LeR.one (Le.refl _) | apply LeR.tup | apply LeL.cons | apply Le1L.cons | apply Le.agg | apply Le.one | apply LeR.one))
              case pos =>
                subst q5
                by_cases q6 : x = []
                case neg =>
                  have e : mayR s ⟨b, f, false, 0, x, p⟩ = false := by simp [mayR, hs, q1n, q2n, q3n, q4n, q6]
                  rw [e]
                  refine DOps.god tab_ok follows_ok Try.func42 60 rfl ?_; simp only [Try.results42, q2, q3, q4, q6, decide_true, decide_false, ↓alt_t, ↓alt_f, ↓alts_t, ↓alts_f, ↓gone_tt, ↓gone_tf, ↓gone_ff, ↓gdone_ff, gslot, drun, adops, adone, mayNeed, freeOk, rdOf, AV.id, wrOf, aops, aone, afin, ares, aresL, ares1, aresOk, aresOk1, aop, needs, ext, aev, aconst, aput, aupd, aload, afieldAddr, acmp, ashift, abin, tab_3, tab_4, tab_9, tab_53, ok1, cellsAs, TI.agg, Option.getD_some, Option.bind_some, Option.map_some, List.set_cons_zero, List.set_cons_succ, List.length_cons, List.length_nil, List.getElem?_cons_zero, List.getElem?_cons_succ, List.getElem?_toArray, List.drop_zero, List.drop_succ_cons, List.take_succ_cons, List.take_zero, List.cons_append, List.nil_append, true_and, and_true, if_true, if_false, Nat.reduceAdd, Nat.reduceLeDiff, Nat.zero_add, Bool.not_true, Bool.not_false, decide_true, decide_false, Nat.reduceLeDiff, reduceCtorEq, List.getD_eq_getElem?_getD]
                  ((repeat' (apply And.intro)) <;> try (first | rfl | omega | (unfold I64; omega)))
                  (repeat' (first | exact LeL.nil | exact Le1L.nil | exact Le.refl _ | exact Le1.refl _ | exact Le1.nil _ | exact Le1.tok _ _ _ | exact LeR.one (Le.refl _) | apply LeR.tup | apply LeL.cons | apply Le1L.cons | apply Le.agg | apply Le.one | apply LeR.one))
                case pos =>
                  subst q6
                  match p, hp, hP, hV with
                  | [], hp, hP, hV =>
                    have e : mayR s ⟨b, f, false, 0, [], []⟩ = true := by simp [mayR, hs, q1n, q2n, q3n, q4n]
                    rw [e]
                    refine DOps.god tab_ok follows_ok Try.func42 60 rfl ?_; simp only [Try.results42, q2, q3, q4, decide_true, decide_false, Int.natCast_zero, ↓alt_f, ↓alts_t, ↓alts_f, ↓gone_tt, ↓gone_tf, ↓gone_ff, ↓gdone_ft, ↓gdone_ff, gslot, drun, adops, adone, places, mayNeed, freeOk, rdOf, AV.id, wrOf, aops, aone, afin, ares, aresL, ares1, aresOk, aresOk1, aop, needs, ext, aev, aconst, aput, aupd, aload, afieldAddr, acmp, ashift, abin, alen, tab_3, tab_4, tab_9, tab_51, tab_53, ok1, cellsAs, TI.agg, Option.getD_some, Option.bind_some, Option.map_some, List.set_cons_zero, List.set_cons_succ, List.length_cons, List.length_nil, List.getElem?_cons_zero, List.getElem?_cons_succ, List.getElem?_toArray, List.drop_zero, List.drop_succ_cons, List.take_succ_cons, List.take_zero, List.take_nil, List.map_nil, List.cons_append, List.nil_append, true_and, and_true, if_true, if_false, Nat.reduceAdd, Nat.reduceLeDiff, Nat.zero_add, Bool.not_true, Bool.not_false, decide_true, decide_false, Nat.reduceLeDiff, reduceCtorEq, Nat.le_refl, List.getD_eq_getElem?_getD]
                    ((repeat' (apply And.intro)) <;> try (first | rfl | omega | (unfold I64; omega)))
                    (repeat' (first | exact LeL.nil | exact Le1L.nil | exact Le.refl _ | exact Le1.refl _ | exact Le1.nil _ | exact Le1.tok _ _ _ | exact LeR.one (Le.refl _) | apply LeR.tup | apply LeL.cons | apply Le1L.cons | apply Le.agg | apply Le.one | apply LeR.one))
                  | a :: p, hp, hP, hV =>
                    have hl0 : ¬ ((p.length + 1 : Nat) : Int) = 0 := by omega
                    refine DOps.god tab_ok follows_ok Try.func42 60 rfl ?_; simp only [q2, q3, q4, hl0, List.length_map, decide_true, decide_false, ↓alt_f, ↓alts_t, ↓alts_f, ↓gone_tt, ↓gone_tf, ↓gone_ff, ↓gdone_ff, gslot, drun, adops, adone, places, mayNeed, freeOk, rdOf, AV.id, wrOf, aops, aone, aop, needs, ext, aev, aconst, aput, aupd, aload, afieldAddr, acmp, ashift, abin, alen, tab_3, tab_4, tab_9, tab_33, tab_51, tab_53, ok1, cellsAs, TI.agg, Option.getD_some, Option.bind_some, Option.map_some, List.set_cons_zero, List.set_cons_succ, List.length_cons, List.length_nil, List.getElem?_cons_zero, List.getElem?_cons_succ, List.getElem?_toArray, List.drop_zero, List.drop_succ_cons, List.take_succ_cons, List.take_zero, List.take_nil, List.map_cons, List.length_map, List.cons_append, List.nil_append, true_and, and_true, if_true, if_false, Nat.reduceAdd, Nat.reduceLeDiff, Nat.zero_add, Bool.not_true, Bool.not_false, decide_true, decide_false, Nat.reduceLeDiff, reduceCtorEq, Nat.le_refl, List.getD_eq_getElem?_getD]
                    ((repeat' (apply And.intro)) <;> try (first | rfl | omega | (unfold I64; omega)))
                    simp only [List.map_cons, votesA, List.map_cons] at hP
                    refine DOps.pure rfl (Wanted.test 4 false false rfl) rfl rfl (hP) (by simp only [encS, accC, aev, Option.getD_some, List.getElem?_cons_zero, List.getElem?_cons_succ, List.map_cons, List.map_nil, List.nil_append, List.append_nil, List.getD_eq_getElem?_getD]; (repeat' (first | exact LeL.nil | exact Le1L.nil | exact Le.refl _ | exact Le1.refl _ | exact Le1.nil _ | exact Le1.tok _ _ _ | exact LeR.one (Le.refl _) | apply LeR.tup | apply LeL.cons | apply Le1L.cons | apply Le.agg | apply Le.one | apply LeR.one))) rfl rfl ?_
                    cases hR : rightP s (a :: p) with
                    | false =>
                      have e : mayR s ⟨b, f, false, 0, [], a :: p⟩ = false := by simp [mayR, hs, q1n, q2n, q3n, q4n, hR]
                      rw [e]
                      refine DOps.god tab_ok follows_ok Try.func42 60 rfl ?_; simp only [Try.results42, ↓alts_f, ↓gdone_tf, ↓gdone_ff, gslot, drun, adops, adone, mayNeed, freeOk, rdOf, wrOf, afin, ares, aresL, ares1, aresOk, aresOk1, aop, needs, aev, aconst, aput, aupd, ok1, Option.getD_some, Option.bind_some, Option.map_some, List.set_cons_zero, List.set_cons_succ, List.getElem?_cons_zero, List.getElem?_cons_succ, List.getElem?_toArray, List.cons_append, List.nil_append, true_and, and_true, if_false, Nat.reduceAdd, reduceCtorEq, List.getD_eq_getElem?_getD]
                      ((repeat' (apply And.intro)) <;> try (first | rfl | omega | (unfold I64; omega)))
                      (repeat' (first | exact LeL.nil | exact Le1L.nil | exact Le.refl _ | exact Le1.refl _ | exact Le1.nil _ | exact Le1.tok _ _ _ | exact LeR.one (Le.refl _) | apply LeR.tup | apply LeL.cons | apply Le1L.cons | apply Le.agg | apply Le.one | apply LeR.one))
                    | true =>
                      by_cases q8 : a.view < f
                      case neg =>
                        have e : mayR s ⟨b, f, false, 0, [], a :: p⟩ = false := by simp [mayR, hs, q1n, q2n, q3n, q4n, hR, q8]
                        rw [e]
                        refine DOps.god tab_ok follows_ok Try.func42 60 rfl ?_; simp only [Try.results42, q8, accC, decide_false, Int.toNat_zero, ↓alts_t, ↓alts_f, ↓gdone_tt, ↓gdone_ff, gslot, Int.reduceLE, drun, adops, adone, mayNeed, freeOk, rdOf, AV.id, wrOf, afin, ares, aresL, ares1, aresOk, aresOk1, aop, needs, aev, aconst, aput, aupd, aload, afieldAddr, aindexAddr, acmp, ashift, abin, tab_3, tab_51, tab_53, tab_56, ok1, cellsAs, TI.agg, Option.getD_some, Option.bind_some, Option.map_some, List.set_cons_zero, List.set_cons_succ, List.length_cons, List.length_nil, List.getElem?_cons_zero, List.getElem?_cons_succ, List.getElem?_toArray, List.drop_zero, List.drop_succ_cons, List.take_succ_cons, List.take_zero, List.take_nil, List.length_map, List.cons_append, List.nil_append, true_and, and_true, if_true, if_false, Nat.reduceAdd, Nat.reduceLeDiff, Nat.zero_add, decide_false, Nat.reduceLT, Nat.reduceLeDiff, forall_const, reduceCtorEq, false_implies, implies_true, Nat.le_refl, List.getD_eq_getElem?_getD]
                        ((repeat' (apply And.intro)) <;> try (first | rfl | omega | (unfold I64; omega)))
                        (repeat' (first | exact LeL.nil | exact Le1L.nil | exact Le.refl _ | exact Le1.refl _ | exact Le1.nil _ | exact Le1.tok _ _ _ | exact LeR.one (Le.refl _) | apply LeR.tup | apply LeL.cons | apply Le1L.cons | apply Le.agg | apply Le.one | apply LeR.one))
                      case pos =>
                        have e : mayR s ⟨b, f, false, 0, [], a :: p⟩ = true := by simp [mayR, hs, q1n, q2n, q3n, q4n, hR, q8]
                        rw [e]
                        refine DOps.god tab_ok follows_ok Try.func42 60 rfl ?_; simp only [Try.results42, q8, accC, decide_true, Int.toNat_zero, ↓alts_t, ↓alts_f, ↓gdone_tt, ↓gdone_ff, gslot, Int.reduceLE, drun, adops, adone, mayNeed, freeOk, rdOf, AV.id, wrOf, afin, ares, aresL, ares1, aresOk, aresOk1, aop, needs, aev, aconst, aput, aupd, aload, afieldAddr, aindexAddr, acmp, ashift, abin, tab_3, tab_51, tab_53, tab_56, ok1, cellsAs, TI.agg, Option.getD_some, Option.bind_some, Option.map_some, List.set_cons_zero, List.set_cons_succ, List.length_cons, List.length_nil, List.getElem?_cons_zero, List.getElem?_cons_succ, List.getElem?_toArray, List.drop_zero, List.drop_succ_cons, List.take_succ_cons, List.take_zero, List.take_nil, List.length_map, List.cons_append, List.nil_append, true_and, and_true, if_true, if_false, Nat.reduceAdd, Nat.reduceLeDiff, Nat.zero_add, decide_true, Nat.reduceLT, Nat.reduceLeDiff, forall_const, reduceCtorEq, false_implies, implies_true, Nat.le_refl, List.getD_eq_getElem?_getD]
                        ((repeat' (apply And.intro)) <;> try (first | rfl | omega | (unfold I64; omega)))
                        (repeat' (first | exact LeL.nil | exact Le1L.nil | exact Le.refl _ | exact Le1.refl _ | exact Le1.nil _ | exact Le1.tok _ _ _ | exact LeR.one (Le.refl _) | apply LeR.tup | apply LeL.cons | apply Le1L.cons | apply Le.agg | apply Le.one | apply LeR.one))
            | true =>
              by_cases q5 : v < 0
              case pos =>
                have q5n : ¬ (0 ≤ v) := by omega
                have e : mayR s ⟨b, f, true, v, x, p⟩ = false := by simp [mayR, hs, q1n, q2n, q3n, q4n, q5n]
                rw [e]
                refine DOps.god tab_ok follows_ok Try.func42 60 rfl ?_; simp only [Try.results42, q2, q3, q4, q5, decide_true, decide_false, ↓alt_t, ↓alt_f, ↓alts_t, ↓alts_f, ↓gone_tt, ↓gone_ft, ↓gdone_ff, gslot, drun, adops, adone, mayNeed, freeOk, rdOf, AV.id, wrOf, aops, aone, afin, ares, aresL, ares1, aresOk, aresOk1, aop, needs, ext, aev, aconst, aput, aupd, aload, afieldAddr, acmp, ashift, abin, tab_3, tab_4, tab_53, ok1, cellsAs, TI.agg, Option.getD_some, Option.bind_some, Option.map_some, List.set_cons_zero, List.set_cons_succ, List.length_cons, List.length_nil, List.getElem?_cons_zero, List.getElem?_cons_succ, List.getElem?_toArray, List.drop_zero, List.drop_succ_cons, List.take_succ_cons, List.take_zero, List.cons_append, List.nil_append, true_and, and_true, if_true, if_false, Nat.reduceAdd, Nat.reduceLeDiff, Nat.zero_add, decide_true, decide_false, Nat.reduceLeDiff, reduceCtorEq, List.getD_eq_getElem?_getD]
                ((repeat' (apply And.intro)) <;> try (first | rfl | omega | (unfold I64; omega)))
                (repeat' (first | exact LeL.nil | exact Le1L.nil | exact Le.refl _ | exact Le1.refl _ | exact Le1.nil _ | exact Le1.tok _ _ _ | exact LeR.one (Le.refl _) | apply LeR.tup | apply LeL.cons | apply Le1L.cons | apply Le.agg | apply Le.one | apply LeR.one))
              case neg =>
                have q5n : 0 ≤ v := by omega
                by_cases q6 : f ≤ v
                case pos =>
                  have q6n : ¬ (v < f) := by omega
                  have e : mayR s ⟨b, f, true, v, x, p⟩ = false := by simp [mayR, hs, q1n, q2n, q3n, q4n, q5n, q6n]
                  rw [e]
                  refine DOps.god tab_ok follows_ok Try.func42 60 rfl ?_; simp only [Try.results42, q2, q3, q4, q5, q6, decide_true, decide_false, ↓alt_t, ↓alt_f, ↓alts_t, ↓alts_f, ↓gone_tt, ↓gone_ft, ↓gone_ff, ↓gdone_ff, gslot, drun, adops, adone, mayNeed, freeOk, rdOf, AV.id, wrOf, aops, aone, afin, ares, aresL, ares1, aresOk, aresOk1, aop, needs, ext, aev, aconst, aput, aupd, aload, afieldAddr, acmp, ashift, abin, tab_3, tab_4, tab_53, ok1, cellsAs, TI.agg, Option.getD_some, Option.bind_some, Option.map_some, List.set_cons_zero, List.set_cons_succ, List.length_cons, List.length_nil, List.getElem?_cons_zero, List.getElem?_cons_succ, List.getElem?_toArray, List.drop_zero, List.drop_succ_cons, List.take_succ_cons, List.take_zero, List.cons_append, List.nil_append, true_and, and_true, if_true, if_false, Nat.reduceAdd, Nat.reduceLeDiff, Nat.zero_add, decide_true, decide_false, Nat.reduceLeDiff, reduceCtorEq, List.getD_eq_getElem?_getD]
                  ((repeat' (apply And.intro)) <;> try (first | rfl | omega | (unfold I64; omega)))
                  (repeat' (first | exact LeL.nil | exact Le1L.nil | exact Le.refl _ | exact Le1.refl _ | exact Le1.nil _ | exact Le1.tok _ _ _ | exact LeR.one (Le.refl _) | apply LeR.tup | apply LeL.cons | apply Le1L.cons | apply Le.agg | apply Le.one | apply LeR.one))
                case neg =>
                  have q6n : v < f := by omega
                  by_cases q7 : (6000 : Int) < x.length
                  case pos =>
                    have q7n : ¬ ((x.length : Int) ≤ 6000) := by omega
                    have e : mayR s ⟨b, f, true, v, x, p⟩ = false := by simp [mayR, hs, q1n, q2n, q3n, q4n, q5n, q6n, q7n]
                    rw [e]
                    refine DOps.god tab_ok follows_ok Try.func42 60 rfl ?_; simp only [Try.results42, q2, q3, q4, q5, q6, q7, decide_true, decide_false, ↓alt_t, ↓alt_f, ↓alts_t, ↓alts_f, ↓gone_tt, ↓gone_ft, ↓gone_ff, ↓gdone_ff, gslot, drun, adops, adone, mayNeed, freeOk, rdOf, AV.id, wrOf, aops, aone, afin, ares, aresL, ares1, aresOk, aresOk1, aop, needs, ext, aev, aconst, aput, aupd, aload, afieldAddr, acmp, ashift, abin, alen, tab_3, tab_4, tab_9, tab_53, ok1, cellsAs, TI.agg, Option.getD_some, Option.bind_some, Option.map_some, List.set_cons_zero, List.set_cons_succ, List.length_cons, List.length_nil, List.getElem?_cons_zero, List.getElem?_cons_succ, List.getElem?_toArray, List.drop_zero, List.drop_succ_cons, List.take_succ_cons, List.take_zero, List.cons_append, List.nil_append, true_and, and_true, if_true, if_false, Nat.reduceAdd, Nat.reduceLeDiff, Nat.zero_add, decide_true, decide_false, Nat.reduceLeDiff, reduceCtorEq, List.getD_eq_getElem?_getD]
                    ((repeat' (apply And.intro)) <;> try (first | rfl | omega | (unfold I64; omega)))
                    (repeat' (first | exact LeL.nil | exact Le1L.nil | exact Le.refl _ | exact Le1.refl _ | exact Le1.nil _ | exact Le1.tok _ _ _ | exact LeR.one (Le.refl _) | apply LeR.tup | apply LeL.cons | apply Le1L.cons | apply Le.agg | apply Le.one | apply LeR.one))
                  case neg =>
                    have q7n : (x.length : Int) ≤ 6000 := by omega
                    match p, hp, hP, hV with
                    | [], hp, hP, hV =>
                      have e : mayR s ⟨b, f, true, v, x, []⟩ = true := by simp [mayR, hs, q1n, q2n, q3n, q4n, q5n, q6n, q7n]
                      rw [e]
                      refine DOps.god tab_ok follows_ok Try.func42 60 rfl ?_; simp only [Try.results42, q2, q3, q4, q5, q6, q7, decide_true, decide_false, Int.natCast_zero, ↓alt_f, ↓alts_t, ↓alts_f, ↓gone_tt, ↓gone_tf, ↓gone_ff, ↓gdone_ft, ↓gdone_ff, gslot, drun, adops, adone, places, mayNeed, freeOk, rdOf, AV.id, wrOf, aops, aone, afin, ares, aresL, ares1, aresOk, aresOk1, aop, needs, ext, aev, aconst, aput, aupd, aload, afieldAddr, acmp, ashift, abin, alen, tab_3, tab_4, tab_9, tab_51, tab_53, ok1, cellsAs, TI.agg, Option.getD_some, Option.bind_some, Option.map_some, List.set_cons_zero, List.set_cons_succ, List.length_cons, List.length_nil, List.getElem?_cons_zero, List.getElem?_cons_succ, List.getElem?_toArray, List.drop_zero, List.drop_succ_cons, List.take_succ_cons, List.take_zero, List.take_nil, List.map_nil, List.cons_append, List.nil_append, true_and, and_true, if_true, if_false, Nat.reduceAdd, Nat.reduceLeDiff, Nat.zero_add, Bool.not_true, decide_true, decide_false, Nat.reduceLeDiff, reduceCtorEq, Nat.le_refl, List.getD_eq_getElem?_getD]
                      ((repeat' (apply And.intro)) <;> try (first | rfl | omega | (unfold I64; omega)))
                      (repeat' (first | exact LeL.nil | exact Le1L.nil | exact Le.refl _ | exact Le1.refl _ | exact Le1.nil _ | exact Le1.tok _ _ _ | exact LeR.one (Le.refl _) | apply LeR.tup | apply LeL.cons | apply Le1L.cons | apply Le.agg | apply Le.one | apply LeR.one))
                    | a :: p, hp, hP, hV =>
                      have hl0 : ¬ ((p.length + 1 : Nat) : Int) = 0 := by omega
                      refine DOps.god tab_ok follows_ok Try.func42 60 rfl ?_; simp only [q2, q3, q4, q5, q6, q7, hl0, List.length_map, decide_false, ↓alt_f, ↓alts_t, ↓alts_f, ↓gone_tt, ↓gone_tf, ↓gone_ff, ↓gdone_ff, gslot, drun, adops, adone, places, mayNeed, freeOk, rdOf, AV.id, wrOf, aops, aone, aop, needs, ext, aev, aconst, aput, aupd, aload, afieldAddr, acmp, ashift, abin, alen, tab_3, tab_4, tab_9, tab_33, tab_51, tab_53, ok1, cellsAs, TI.agg, Option.getD_some, Option.bind_some, Option.map_some, List.set_cons_zero, List.set_cons_succ, List.length_cons, List.length_nil, List.getElem?_cons_zero, List.getElem?_cons_succ, List.getElem?_toArray, List.drop_zero, List.drop_succ_cons, List.take_succ_cons, List.take_zero, List.take_nil, List.map_cons, List.length_map, List.cons_append, List.nil_append, true_and, and_true, if_true, if_false, Nat.reduceAdd, Nat.reduceLeDiff, Nat.zero_add, Bool.not_true, decide_false, Nat.reduceLeDiff, reduceCtorEq, Nat.le_refl, List.getD_eq_getElem?_getD]
                      ((repeat' (apply And.intro)) <;> try (first | rfl | omega | (unfold I64; omega)))
                      simp only [List.map_cons, votesA, List.map_cons] at hP
                      refine DOps.pure rfl (Wanted.test 4 false false rfl) rfl rfl (hP) (by simp only [encS, accC, aev, Option.getD_some, List.getElem?_cons_zero, List.getElem?_cons_succ, List.map_cons, List.map_nil, List.nil_append, List.append_nil, List.getD_eq_getElem?_getD]; (repeat' (first | exact LeL.nil | exact Le1L.nil | exact Le.refl _ | exact Le1.refl _ | exact Le1.nil _ | exact Le1.tok _ _ _ | exact LeR.one (Le.refl _) | apply LeR.tup | apply LeL.cons | apply Le1L.cons | apply Le.agg | apply Le.one | apply LeR.one))) rfl rfl ?_
                      cases hR : rightP s (a :: p) with
                      | false =>
                        have e : mayR s ⟨b, f, true, v, x, a :: p⟩ = false := by simp [mayR, hs, q1n, q2n, q3n, q4n, q5n, q6n, q7n, hR]
                        rw [e]
                        refine DOps.god tab_ok follows_ok Try.func42 60 rfl ?_; simp only [Try.results42, ↓alts_f, ↓gdone_tf, ↓gdone_ff, gslot, drun, adops, adone, mayNeed, freeOk, rdOf, wrOf, afin, ares, aresL, ares1, aresOk, aresOk1, aop, needs, aev, aconst, aput, aupd, ok1, Option.getD_some, Option.bind_some, Option.map_some, List.set_cons_zero, List.set_cons_succ, List.getElem?_cons_zero, List.getElem?_cons_succ, List.getElem?_toArray, List.cons_append, List.nil_append, true_and, and_true, if_false, Nat.reduceAdd, reduceCtorEq, List.getD_eq_getElem?_getD]
                        ((repeat' (apply And.intro)) <;> try (first | rfl | omega | (unfold I64; omega)))
                        (repeat' (first | exact LeL.nil | exact Le1L.nil | exact Le.refl _ | exact Le1.refl _ | exact Le1.nil _ | exact Le1.tok _ _ _ | exact LeR.one (Le.refl _) | apply LeR.tup | apply LeL.cons | apply Le1L.cons | apply Le.agg | apply Le.one | apply LeR.one))
                      | true =>
                        by_cases q8 : a.view < f
                        case neg =>
                          have e : mayR s ⟨b, f, true, v, x, a :: p⟩ = false := by simp [mayR, hs, q1n, q2n, q3n, q4n, q5n, q6n, q7n, hR, q8]
                          rw [e]
                          refine DOps.god tab_ok follows_ok Try.func42 60 rfl ?_; simp only [Try.results42, q8, accC, decide_false, Int.toNat_zero, ↓alts_t, ↓alts_f, ↓gdone_tt, ↓gdone_ff, gslot, Int.reduceLE, drun, adops, adone, mayNeed, freeOk, rdOf, AV.id, wrOf, afin, ares, aresL, ares1, aresOk, aresOk1, aop, needs, aev, aconst, aput, aupd, aload, afieldAddr, aindexAddr, acmp, ashift, abin, tab_3, tab_51, tab_53, tab_56, ok1, cellsAs, TI.agg, Option.getD_some, Option.bind_some, Option.map_some, List.set_cons_zero, List.set_cons_succ, List.length_cons, List.length_nil, List.getElem?_cons_zero, List.getElem?_cons_succ, List.getElem?_toArray, List.drop_zero, List.drop_succ_cons, List.take_succ_cons, List.take_zero, List.take_nil, List.length_map, List.cons_append, List.nil_append, true_and, and_true, if_true, if_false, Nat.reduceAdd, Nat.reduceLeDiff, Nat.zero_add, decide_false, Nat.reduceLT, Nat.reduceLeDiff, forall_const, reduceCtorEq, false_implies, implies_true, Nat.le_refl, List.getD_eq_getElem?_getD]
                          ((repeat' (apply And.intro)) <;> try (first | rfl | omega | (unfold I64; omega)))
                          (repeat' (first | exact LeL.nil | exact Le1L.nil | exact Le.refl _ | exact Le1.refl _ | exact Le1.nil _ | exact Le1.tok _ _ _ | exact LeR.one (Le.refl _) | apply LeR.tup | apply LeL.cons | apply Le1L.cons | apply Le.agg | apply Le.one | apply LeR.one))
                        case pos =>
                          have e : mayR s ⟨b, f, true, v, x, a :: p⟩ = true := by simp [mayR, hs, q1n, q2n, q3n, q4n, q5n, q6n, q7n, hR, q8]
                          rw [e]
                          refine DOps.god tab_ok follows_ok Try.func42 60 rfl ?_; simp only [Try.results42, q8, accC, decide_true, Int.toNat_zero, ↓alts_t, ↓alts_f, ↓gdone_tt, ↓gdone_ff, gslot, Int.reduceLE, drun, adops, adone, mayNeed, freeOk, rdOf, AV.id, wrOf, afin, ares, aresL, ares1, aresOk, aresOk1, aop, needs, aev, aconst, aput, aupd, aload, afieldAddr, aindexAddr, acmp, ashift, abin, tab_3, tab_51, tab_53, tab_56, ok1, cellsAs, TI.agg, Option.getD_some, Option.bind_some, Option.map_some, List.set_cons_zero, List.set_cons_succ, List.length_cons, List.length_nil, List.getElem?_cons_zero, List.getElem?_cons_succ, List.getElem?_toArray, List.drop_zero, List.drop_succ_cons, List.take_succ_cons, List.take_zero, List.take_nil, List.length_map, List.cons_append, List.nil_append, true_and, and_true, if_true, if_false, Nat.reduceAdd, Nat.reduceLeDiff, Nat.zero_add, decide_true, Nat.reduceLT, Nat.reduceLeDiff, forall_const, reduceCtorEq, false_implies, implies_true, Nat.le_refl, List.getD_eq_getElem?_getD]
                          ((repeat' (apply And.intro)) <;> try (first | rfl | omega | (unfold I64; omega)))
                          (repeat' (first | exact LeL.nil | exact Le1L.nil | exact Le.refl _ | exact Le1.refl _ | exact Le1.nil _ | exact Le1.tok _ _ _ | exact LeR.one (Le.refl _) | apply LeR.tup | apply LeL.cons | apply Le1L.cons | apply Le.agg | apply Le.one | apply LeR.one))
end Go.Proofs.Ytgonmnjgodleeaa
