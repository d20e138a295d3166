/-
  order.TakeReply, told by its shadow.
-/
import Derived.Test.YtpigfpnpabnnbaaPg
namespace Go.Proofs.Ytpigfpnpabnnbaa
open Go.RowKit
def takeRp (b : Bytes) : Except Int (Rpl × Bytes) := match seqZ 4 b with
  | .error z => .error z
  | .ok (l, r) => match takeT r 1000 with
    | .error z => .error z
    | .ok (s, r2) => match takeL r2 200 1000 with
      | .error z => .error z
      | .ok (t, r3) =>
        if l.getD 2 0 < 0 ∨ 16 < l.getD 2 0 then .error 3 else .ok (⟨l.getD 0 0, l.getD 1 0, l.getD 2 0, s, l.getD 3 0, t⟩, r3)
def takeRpA : Except Int (Rpl × Bytes) → AV
  | .error z => .tup [encR ⟨0, 0, 0, [], 0, []⟩, bytesA [], .int .i64 z]
  | .ok (o, r) => .tup [encR o, bytesA r, .int .i64 0]
theorem takeTs_err' {most : Int} : ∀ {n : Nat} {b : Bytes} {z : Int}, takeTs most n b = .error z → ¬ z = 0
  | 0, b, z, h => by simp [takeTs] at h
  | n + 1, b, z, h => by
    simp only [takeTs] at h
    split at h
    · rename_i h1; cases h; exact takeT_err' h1
    · split at h
      · rename_i h2; cases h; exact takeTs_err' h2
      · cases h
theorem takeL_err' {b : Bytes} {many most z : Int} (h : takeL b many most = .error z) : ¬ z = 0 := by
  unfold takeL at h
  split at h
  · rename_i h1; cases h; exact takeN_err' h1
  · split at h
    · cases h; omega
    · exact takeTs_err' h
set_option maxRecDepth 20000 in
set_option maxHeartbeats 2000000 in
theorem takereply_spec (b : Bytes) (hb : b.length ≤ 1000000) : ASpec Try.prog 48 [bytesA b] (takeRpA (takeRp b)) := by
  have hps : ∀ p ∈ [((2 : Nat), (0 : Nat)), (2, 1), (3, 0), (2, 4)], (p.1 = 2 ∧ p.2 < 6) ∨ (p.1 = 3 ∧ p.2 < 1) := by decide
  cases hq : seqZ 4 b with
  | error z =>
    obtain ⟨c1, c2, hrd, hc1, n, hc2⟩ := rdP_seqE [(2, 0), (2, 1), (3, 0), (2, 4)] ([.int .i64 0, .int .i64 0, .int .i64 0, .str [], .int .i64 0, .nils], [.int .i64 0]) b z hq hps rfl rfl
    have hc2 : ∃ n, c2 = [.int .i64 n] := by
      rcases hc2 with h | h
      · exact ⟨n, h⟩
      · exact ⟨0, h⟩
    obtain ⟨n, rfl⟩ := hc2
    obtain ⟨d0, d1, d2, d3, d4, d5, rfl⟩ : ∃ d0 d1 d2 d3 d4 d5, c1 = [d0, d1, d2, d3, d4, d5] := by
      match c1, hc1 with
      | [d0, d1, d2, d3, d4, d5], _ => exact ⟨d0, d1, d2, d3, d4, d5, rfl⟩
    have hz := seqZ_err _ _ _ hq
    have e : takeRp b = .error z := by rw [takeRp, hq]
    rw [e]
    refine ⟨⟨_, Try.func48, by kernel_rfl, rfl⟩, ACall.of Try.func48 rfl fun c0 hc0 => ?_⟩; simp only [Try.ntmps48, List.length_cons, List.length_nil, Nat.reduceAdd, Nat.reduceSub, List.replicate_succ, List.replicate_zero, List.cons_append, List.nil_append]; refine Run.god tab_ok follows_ok Try.func48 60 ?_; simp only [bytesA, eq_self, drun, aops, aone, aop, needs, ext, aev, aconst, aput, aupd, astore, afieldAddr, abuild, aelems, plains, tab_3, tab_23, tab_52, tab_84, tab_86, tab_91, ok1, lay, AV.cells, AV.whole, AV.plain, AV.bare, Option.getD_some, Option.bind_some, Option.map_some, List.set_cons_zero, List.set_cons_succ, List.length_cons, List.length_nil, List.getElem?_cons_zero, List.getElem?_cons_succ, List.drop_zero, List.drop_succ_cons, List.take_zero, List.drop_nil, List.map_cons, List.map_nil, List.cons_append, List.nil_append, List.append_nil, List.all_cons, List.all_nil, List.replicate_succ, List.replicate_zero, true_and, and_true, if_true, if_false, Nat.reduceAdd, Nat.reduceLeDiff, Nat.reduceMul, Nat.zero_add, Nat.add_zero, Bool.and_self, Bool.and_true, Nat.reduceLT, Nat.reduceLeDiff, reduceCtorEq, Nat.le_refl, List.getD_eq_getElem?_getD]
    refine Ops.call .free rfl rfl ⟨_, Try.func57, by kernel_rfl, rfl⟩ (rints2_call [(2, 0), (2, 1), (3, 0), (2, 4)] (by decide) hps _ rfl _ rfl b _ _ rfl rfl rfl rfl _ ?_)
    rw [hrd]
    refine Ops.god tab_ok follows_ok Try.func48 60 ?_; simp only [bytesA, drun, aops, aone, aop, needs, ext, aev, aput, aupd, afieldAddr, tab_52, ok1, Option.getD_some, Option.bind_some, List.set_cons_zero, List.set_cons_succ, List.getElem?_cons_zero, List.getElem?_cons_succ, List.map_nil, List.cons_append, List.nil_append, true_and, if_false, Nat.reduceAdd, Nat.zero_add, reduceCtorEq, List.getD_eq_getElem?_getD]
    refine Ops.call .free rfl rfl ⟨_, Try.func58, by kernel_rfl, rfl⟩ ?_
    refine ACall.of Try.func58 rfl fun c1 hc1 => ?_; simp only [Try.ntmps58, Nat.reduceAdd, List.nil_append]; refine Run.god tab_ok follows_ok Try.func58 60 ?_; simp only [Try.results58, hz, eq_self, ↓alt_f, drun, aops, aone, afin, ares, aresL, aresOk, aop, needs, ext, aev, aconst, aput, aupd, aload, afieldAddr, acmp, ashift, abin, tab_33, tab_84, ok1, cellsAs, TI.agg, Option.getD_some, Option.bind_some, Option.map_some, List.set_cons_zero, List.set_cons_succ, List.length_cons, List.length_nil, List.getElem?_cons_zero, List.getElem?_cons_succ, List.drop_zero, List.drop_succ_cons, List.take_succ_cons, List.take_nil, List.map_cons, List.map_nil, List.cons_append, List.nil_append, List.append_nil, List.replicate_succ, List.replicate_zero, true_and, if_true, if_false, Nat.reduceAdd, Nat.reduceSub, Nat.zero_add, decide_false, reduceCtorEq, Nat.le_refl, List.getD_eq_getElem?_getD]
    refine Ops.god tab_ok follows_ok Try.func48 60 ?_; simp only [Try.results48, hz, eq_self, ↓alt_t, ↓alt_f, drun, adops, adone, places, mayNeed, freeOk, rdOf, AV.id, wrOf, aops, aone, afin, ares, aresL, ares1, aresOk, aresOk1, aop, needs, ext, aev, aconst, aput, aupd, aload, astore, afieldAddr, acmp, ashift, abin, abuild, tab_3, tab_33, tab_52, tab_84, ok1, lay, cellsAs, TI.agg, AV.cells, AV.whole, Option.getD_some, Option.bind_some, Option.map_some, List.set_cons_zero, List.set_cons_succ, List.length_cons, List.length_nil, List.getElem?_cons_zero, List.getElem?_cons_succ, List.drop_zero, List.drop_succ_cons, List.take_succ_cons, List.take_zero, List.take_nil, List.drop_nil, List.map_nil, List.cons_append, List.nil_append, List.append_nil, true_and, and_true, if_true, if_false, Nat.reduceAdd, Nat.reduceLeDiff, Nat.zero_add, Bool.not_false, decide_false, Nat.reduceLeDiff, reduceCtorEq, Nat.le_refl, List.getD_eq_getElem?_getD]
    refine ⟨rfl, rfl, ?_⟩
    simp only [takeRpA, encR, textsA, bytesA, List.map_nil]
    (repeat' (first | exact LeL.nil | exact Le1L.nil | exact Le.refl _ | exact Le1.refl _ | exact Le1.nil _ | exact Le1.tok _ _ _ | exact LeR.one (Le.refl _) | apply LeR.tup | apply LeL.cons | apply Le1L.cons | apply Le.agg | apply Le.one | apply LeR.one))
  | ok p =>
    obtain ⟨l, r⟩ := p
    have hrd := rdP_seq [(2, 0), (2, 1), (3, 0), (2, 4)] ([.int .i64 0, .int .i64 0, .int .i64 0, .str [], .int .i64 0, .nils], [.int .i64 0]) b l r hq
    have hl := seqZ_len _ _ _ _ hq
    have hr := seqZ_rest _ _ _ _ hq
    obtain ⟨n0, n1, n2, n3, rfl⟩ : ∃ n0 n1 n2 n3, l = [n0, n1, n2, n3] := by
      match l, hl with
      | [n0, n1, n2, n3], _ => exact ⟨n0, n1, n2, n3, rfl⟩
    simp only [layPs, layP, lay, List.length_cons, List.length_nil, List.drop_zero, List.drop_succ_cons, List.take_succ_cons, List.take_zero, List.take_nil, List.drop_nil, List.cons_append, List.nil_append, List.append_nil, if_true, if_false, Nat.reduceAdd, Nat.reduceEqDiff, Nat.zero_add] at hrd
    have hs1 := taketext_spec r 1000 (by omega) (by omega)
    refine ⟨⟨_, Try.func48, by kernel_rfl, rfl⟩, ACall.of Try.func48 rfl fun c0 hc0 => ?_⟩; simp only [Try.ntmps48, List.length_cons, List.length_nil, Nat.reduceAdd, Nat.reduceSub, List.replicate_succ, List.replicate_zero, List.cons_append, List.nil_append]; refine Run.god tab_ok follows_ok Try.func48 60 ?_; simp only [bytesA, eq_self, drun, aops, aone, aop, needs, ext, aev, aconst, aput, aupd, astore, afieldAddr, abuild, aelems, plains, tab_3, tab_23, tab_52, tab_84, tab_86, tab_91, ok1, lay, AV.cells, AV.whole, AV.plain, AV.bare, Option.getD_some, Option.bind_some, Option.map_some, List.set_cons_zero, List.set_cons_succ, List.length_cons, List.length_nil, List.getElem?_cons_zero, List.getElem?_cons_succ, List.drop_zero, List.drop_succ_cons, List.take_zero, List.drop_nil, List.map_cons, List.map_nil, List.cons_append, List.nil_append, List.append_nil, List.all_cons, List.all_nil, List.replicate_succ, List.replicate_zero, true_and, and_true, if_true, if_false, Nat.reduceAdd, Nat.reduceLeDiff, Nat.reduceMul, Nat.zero_add, Nat.add_zero, Bool.and_self, Bool.and_true, Nat.reduceLT, Nat.reduceLeDiff, reduceCtorEq, Nat.le_refl, List.getD_eq_getElem?_getD]
    refine Ops.call .free rfl rfl ⟨_, Try.func57, by kernel_rfl, rfl⟩ (rints2_call [(2, 0), (2, 1), (3, 0), (2, 4)] (by decide) hps _ rfl _ rfl b _ _ rfl rfl rfl rfl _ ?_)
    rw [hrd]
    refine Ops.god tab_ok follows_ok Try.func48 60 ?_; simp only [bytesA, drun, aops, aone, aop, needs, ext, aev, aput, aupd, afieldAddr, tab_52, ok1, Option.getD_some, Option.bind_some, List.set_cons_zero, List.set_cons_succ, List.getElem?_cons_zero, List.getElem?_cons_succ, List.cons_append, List.nil_append, true_and, if_false, Nat.reduceAdd, Nat.zero_add, reduceCtorEq, List.getD_eq_getElem?_getD]
    refine Ops.call .free rfl rfl ⟨_, Try.func58, by kernel_rfl, rfl⟩ ?_
    refine ACall.of Try.func58 rfl fun c1 hc1 => ?_; simp only [Try.ntmps58, Nat.reduceAdd, List.nil_append]; refine Run.god tab_ok follows_ok Try.func58 60 ?_; simp only [eq_self, ↓alt_t, drun, aops, aone, aop, needs, ext, aev, aconst, aput, aupd, aload, afieldAddr, acmp, ashift, abin, tab_23, tab_33, tab_84, ok1, cellsAs, TI.agg, Option.getD_some, Option.bind_some, Option.map_some, List.set_cons_zero, List.set_cons_succ, List.length_cons, List.length_nil, List.getElem?_cons_zero, List.getElem?_cons_succ, List.drop_zero, List.drop_succ_cons, List.take_succ_cons, List.take_zero, List.take_nil, List.map_cons, List.map_nil, List.cons_append, List.nil_append, List.append_nil, List.replicate_succ, List.replicate_zero, true_and, if_true, if_false, Nat.reduceAdd, Nat.reduceLeDiff, Nat.reduceSub, Nat.zero_add, Nat.add_zero, decide_true, Nat.reduceLeDiff, reduceCtorEq, Nat.le_refl, List.getD_eq_getElem?_getD]
    cases ht : takeT r 1000 with
    | error z =>
      have e : takeRp b = .error z := by rw [takeRp, hq]; simp only [ht]
      have hz := takeT_err' ht
      rw [e]
      rw [ht] at hs1
      refine Ops.pure .free rfl rfl (hs1) (by simp only [bytesA, aev, Option.getD_some, List.getElem?_cons_zero, List.getElem?_cons_succ, List.map_cons, List.map_nil, List.nil_append, List.append_nil, List.getD_eq_getElem?_getD]; (repeat' (first | exact LeL.nil | exact Le1L.nil | exact Le.refl _ | exact Le1.refl _ | exact Le1.nil _ | exact Le1.tok _ _ _ | exact LeR.one (Le.refl _) | apply LeR.tup | apply LeL.cons | apply Le1L.cons | apply Le.agg | apply Le.one | apply LeR.one))) rfl rfl ?_
      refine Ops.god tab_ok follows_ok Try.func58 60 ?_; simp only [Try.results58, takeTA, bytesA, eq_self, drun, aops, aone, afin, ares, aresL, aresOk, aop, needs, ext, aev, aput, aupd, astore, afieldAddr, tab_9, tab_23, tab_33, tab_84, ok1, lay, AV.cells, AV.whole, Option.getD_some, Option.bind_some, Option.map_some, List.set_cons_zero, List.set_cons_succ, List.length_cons, List.length_nil, List.getElem?_cons_zero, List.getElem?_cons_succ, List.drop_zero, List.drop_succ_cons, List.take_succ_cons, List.take_zero, List.drop_nil, List.map_nil, List.cons_append, List.nil_append, List.append_nil, true_and, and_true, if_false, Nat.reduceAdd, Nat.reduceLeDiff, Nat.zero_add, Nat.add_zero, Nat.reduceLeDiff, reduceCtorEq, Nat.le_refl, List.getD_eq_getElem?_getD]
      refine Ops.god tab_ok follows_ok Try.func48 60 ?_; simp only [Try.results48, hz, eq_self, ↓alt_t, ↓alt_f, drun, adops, adone, places, mayNeed, freeOk, rdOf, AV.id, wrOf, aops, aone, afin, ares, aresL, ares1, aresOk, aresOk1, aop, needs, ext, aev, aconst, aput, aupd, aload, astore, afieldAddr, acmp, ashift, abin, abuild, tab_3, tab_33, tab_52, tab_84, ok1, lay, cellsAs, TI.agg, AV.cells, AV.whole, Option.getD_some, Option.bind_some, Option.map_some, List.set_cons_zero, List.set_cons_succ, List.length_cons, List.length_nil, List.getElem?_cons_zero, List.getElem?_cons_succ, List.drop_zero, List.drop_succ_cons, List.take_succ_cons, List.take_zero, List.take_nil, List.drop_nil, List.map_nil, List.cons_append, List.nil_append, List.append_nil, true_and, and_true, if_true, if_false, Nat.reduceAdd, Nat.reduceLeDiff, Nat.zero_add, Bool.not_false, decide_false, Nat.reduceLeDiff, reduceCtorEq, Nat.le_refl, List.getD_eq_getElem?_getD]
      refine ⟨rfl, rfl, ?_⟩
      simp only [takeRpA, encR, textsA, bytesA, List.map_nil]
      (repeat' (first | exact LeL.nil | exact Le1L.nil | exact Le.refl _ | exact Le1.refl _ | exact Le1.nil _ | exact Le1.tok _ _ _ | exact LeR.one (Le.refl _) | apply LeR.tup | apply LeL.cons | apply Le1L.cons | apply Le.agg | apply Le.one | apply LeR.one))
    | ok p =>
      obtain ⟨t, r2⟩ := p
      rw [ht] at hs1
      have h2 := takeT_shorter ht
      have hs2 := takelist_spec r2 200 1000 (by omega) (by omega) (by omega)
      refine Ops.pure .free rfl rfl (hs1) (by simp only [bytesA, aev, Option.getD_some, List.getElem?_cons_zero, List.getElem?_cons_succ, List.map_cons, List.map_nil, List.nil_append, List.append_nil, List.getD_eq_getElem?_getD]; (repeat' (first | exact LeL.nil | exact Le1L.nil | exact Le.refl _ | exact Le1.refl _ | exact Le1.nil _ | exact Le1.tok _ _ _ | exact LeR.one (Le.refl _) | apply LeR.tup | apply LeL.cons | apply Le1L.cons | apply Le.agg | apply Le.one | apply LeR.one))) rfl rfl ?_
      refine Ops.god tab_ok follows_ok Try.func58 60 ?_; simp only [Try.results58, takeTA, bytesA, eq_self, drun, aops, aone, afin, ares, aresL, aresOk, aop, needs, ext, aev, aput, aupd, astore, afieldAddr, tab_9, tab_23, tab_33, tab_84, ok1, lay, AV.cells, AV.whole, Option.getD_some, Option.bind_some, Option.map_some, List.set_cons_zero, List.set_cons_succ, List.length_cons, List.length_nil, List.getElem?_cons_zero, List.getElem?_cons_succ, List.drop_zero, List.drop_succ_cons, List.take_succ_cons, List.take_zero, List.drop_nil, List.cons_append, List.nil_append, List.append_nil, true_and, and_true, if_false, Nat.reduceAdd, Nat.reduceLeDiff, Nat.zero_add, Nat.add_zero, Nat.reduceLeDiff, reduceCtorEq, Nat.le_refl, List.getD_eq_getElem?_getD]
      refine Ops.god tab_ok follows_ok Try.func48 60 ?_; simp only [eq_self, ↓alt_t, drun, aops, aone, aop, needs, ext, aev, aconst, aput, aupd, aload, afieldAddr, acmp, ashift, abin, tab_23, tab_33, tab_84, ok1, cellsAs, TI.agg, Option.getD_some, Option.bind_some, Option.map_some, List.set_cons_zero, List.set_cons_succ, List.length_cons, List.length_nil, List.getElem?_cons_zero, List.getElem?_cons_succ, List.drop_zero, List.drop_succ_cons, List.take_succ_cons, List.take_zero, List.take_nil, List.cons_append, List.nil_append, true_and, if_true, if_false, Nat.reduceAdd, Nat.reduceLeDiff, Nat.zero_add, Nat.add_zero, decide_true, Nat.reduceLeDiff, reduceCtorEq, Nat.le_refl, List.getD_eq_getElem?_getD]
      cases hu : takeL r2 200 1000 with
      | error z =>
        have e : takeRp b = .error z := by rw [takeRp, hq]; simp only [ht, hu]
        have hz := takeL_err' hu
        rw [e]
        rw [hu] at hs2
        refine Ops.pure .free rfl rfl (hs2) (by simp only [bytesA, aev, aconst, Option.getD_some, List.getElem?_cons_zero, List.getElem?_cons_succ, List.map_cons, List.map_nil, List.nil_append, List.append_nil, List.getD_eq_getElem?_getD]; (repeat' (first | exact LeL.nil | exact Le1L.nil | exact Le.refl _ | exact Le1.refl _ | exact Le1.nil _ | exact Le1.tok _ _ _ | exact LeR.one (Le.refl _) | apply LeR.tup | apply LeL.cons | apply Le1L.cons | apply Le.agg | apply Le.one | apply LeR.one))) rfl rfl ?_
        refine Ops.god tab_ok follows_ok Try.func48 60 ?_; simp only [Try.results48, takeLA, textsA, List.map_nil, bytesA, hz, eq_self, ↓alt_t, drun, adops, adone, places, mayNeed, freeOk, rdOf, AV.id, wrOf, aops, aone, afin, ares, aresL, ares1, aresOk, aresOk1, aop, needs, ext, aev, aconst, aput, aupd, aload, astore, afieldAddr, acmp, ashift, abin, abuild, tab_3, tab_23, tab_28, tab_33, tab_52, tab_84, ok1, lay, cellsAs, TI.agg, AV.cells, AV.whole, Option.getD_some, Option.bind_some, Option.map_some, List.set_cons_zero, List.set_cons_succ, List.length_cons, List.length_nil, List.getElem?_cons_zero, List.getElem?_cons_succ, List.drop_zero, List.drop_succ_cons, List.take_succ_cons, List.take_zero, List.take_nil, List.drop_nil, List.map_nil, List.cons_append, List.nil_append, List.append_nil, true_and, and_true, if_true, if_false, Nat.reduceAdd, Nat.reduceLeDiff, Nat.zero_add, Nat.add_zero, Bool.not_false, decide_false, Nat.reduceLeDiff, reduceCtorEq, Nat.le_refl, List.getD_eq_getElem?_getD]
        refine ⟨rfl, rfl, ?_⟩
        simp only [takeRpA, encR, textsA, bytesA, List.map_nil]
        (repeat' (first | exact LeL.nil | exact Le1L.nil | exact Le.refl _ | exact Le1.refl _ | exact Le1.nil _ | exact Le1.tok _ _ _ | exact LeR.one (Le.refl _) | apply LeR.tup | apply LeL.cons | apply Le1L.cons | apply Le.agg | apply Le.one | apply LeR.one))
      | ok p =>
        obtain ⟨u, r3⟩ := p
        rw [hu] at hs2
        refine Ops.pure .free rfl rfl (hs2) (by simp only [bytesA, aev, aconst, Option.getD_some, List.getElem?_cons_zero, List.getElem?_cons_succ, List.map_cons, List.map_nil, List.nil_append, List.append_nil, List.getD_eq_getElem?_getD]; (repeat' (first | exact LeL.nil | exact Le1L.nil | exact Le.refl _ | exact Le1.refl _ | exact Le1.nil _ | exact Le1.tok _ _ _ | exact LeR.one (Le.refl _) | apply LeR.tup | apply LeL.cons | apply Le1L.cons | apply Le.agg | apply Le.one | apply LeR.one))) rfl rfl ?_
        by_cases g1 : n2 < 0
        · have e : takeRp b = .error 3 := by rw [takeRp, hq]; simp [ht, hu, g1]
          rw [e]
          refine Ops.god tab_ok follows_ok Try.func48 60 ?_; simp only [Try.results48, takeLA, textsA, bytesA, g1, eq_self, ↓alt_t, ↓alt_f, ↓alts_t, ↓gone_ft, gslot, drun, aops, aone, afin, ares, aresL, ares1, aresOk, aresOk1, aop, needs, ext, aev, aconst, aput, aupd, aload, astore, afieldAddr, acmp, ashift, abin, abuild, tab_3, tab_23, tab_28, tab_33, tab_52, tab_84, ok1, lay, cellsAs, TI.agg, AV.cells, AV.whole, Option.getD_some, Option.bind_some, Option.map_some, List.set_cons_zero, List.set_cons_succ, List.length_cons, List.length_nil, List.getElem?_cons_zero, List.getElem?_cons_succ, List.getElem?_toArray, List.drop_zero, List.drop_succ_cons, List.take_succ_cons, List.take_zero, List.take_nil, List.drop_nil, List.map_nil, List.cons_append, List.nil_append, List.append_nil, true_and, and_true, if_true, if_false, Nat.reduceAdd, Nat.reduceLeDiff, Nat.zero_add, Nat.add_zero, Bool.not_true, decide_true, Nat.reduceLeDiff, reduceCtorEq, Nat.le_refl, List.getD_eq_getElem?_getD]
          simp only [takeRpA, encR, textsA, bytesA, List.map_nil]
          (repeat' (first | exact LeL.nil | exact Le1L.nil | exact Le.refl _ | exact Le1.refl _ | exact Le1.nil _ | exact Le1.tok _ _ _ | exact LeR.one (Le.refl _) | apply LeR.tup | apply LeL.cons | apply Le1L.cons | apply Le.agg | apply Le.one | apply LeR.one))
        · by_cases g2 : 16 < n2
          · have e : takeRp b = .error 3 := by rw [takeRp, hq]; simp [ht, hu, g2]
            rw [e]
            refine Ops.god tab_ok follows_ok Try.func48 60 ?_; simp only [Try.results48, takeLA, textsA, bytesA, g1, g2, eq_self, ↓alt_t, ↓alt_f, ↓alts_f, ↓gone_ff, gslot, drun, aops, aone, afin, ares, aresL, ares1, aresOk, aresOk1, aop, needs, ext, aev, aconst, aput, aupd, aload, astore, afieldAddr, acmp, ashift, abin, abuild, tab_3, tab_23, tab_28, tab_33, tab_52, tab_84, ok1, lay, cellsAs, TI.agg, AV.cells, AV.whole, Option.getD_some, Option.bind_some, Option.map_some, List.set_cons_zero, List.set_cons_succ, List.length_cons, List.length_nil, List.getElem?_cons_zero, List.getElem?_cons_succ, List.getElem?_toArray, List.drop_zero, List.drop_succ_cons, List.take_succ_cons, List.take_zero, List.take_nil, List.drop_nil, List.map_nil, List.cons_append, List.nil_append, List.append_nil, true_and, and_true, if_true, if_false, Nat.reduceAdd, Nat.reduceLeDiff, Nat.zero_add, Nat.add_zero, Bool.not_true, decide_true, decide_false, Nat.reduceLeDiff, reduceCtorEq, Nat.le_refl, List.getD_eq_getElem?_getD]
            simp only [takeRpA, encR, textsA, bytesA, List.map_nil]
            (repeat' (first | exact LeL.nil | exact Le1L.nil | exact Le.refl _ | exact Le1.refl _ | exact Le1.nil _ | exact Le1.tok _ _ _ | exact LeR.one (Le.refl _) | apply LeR.tup | apply LeL.cons | apply Le1L.cons | apply Le.agg | apply Le.one | apply LeR.one))
          · have e : takeRp b = .ok (⟨n0, n1, n2, t, n3, u⟩, r3) := by rw [takeRp, hq]; simp [ht, hu, g1, g2]
            rw [e]
            refine Ops.god tab_ok follows_ok Try.func48 60 ?_; simp only [Try.results48, takeLA, textsA, bytesA, g1, g2, eq_self, ↓alt_f, ↓alts_f, ↓gone_ff, gslot, drun, adops, adone, places, mayNeed, freeOk, rdOf, AV.id, wrOf, aops, aone, afin, ares, aresL, ares1, aresOk, aresOk1, aop, needs, ext, aev, aconst, aput, aupd, aload, astore, afieldAddr, acmp, ashift, abin, tab_3, tab_23, tab_28, tab_33, tab_52, tab_84, ok1, lay, cellsAs, TI.agg, AV.cells, AV.whole, Option.getD_some, Option.bind_some, Option.map_some, List.set_cons_zero, List.set_cons_succ, List.length_cons, List.length_nil, List.getElem?_cons_zero, List.getElem?_cons_succ, List.getElem?_toArray, List.drop_zero, List.drop_succ_cons, List.take_succ_cons, List.take_zero, List.take_nil, List.drop_nil, List.cons_append, List.nil_append, List.append_nil, true_and, and_true, if_true, if_false, Nat.reduceAdd, Nat.reduceLeDiff, Nat.zero_add, Nat.add_zero, Bool.not_true, decide_true, decide_false, Nat.reduceLeDiff, reduceCtorEq, Nat.le_refl, List.getD_eq_getElem?_getD]
            refine ⟨rfl, rfl, ?_⟩
            simp only [takeRpA, encR, textsA, bytesA]
            (repeat' (first | exact LeL.nil | exact Le1L.nil | exact Le.refl _ | exact Le1.refl _ | exact Le1.nil _ | exact Le1.tok _ _ _ | exact LeR.one (Le.refl _) | apply LeR.tup | apply LeL.cons | apply Le1L.cons | apply Le.agg | apply Le.one | apply LeR.one))
end Go.Proofs.Ytpigfpnpabnnbaa
