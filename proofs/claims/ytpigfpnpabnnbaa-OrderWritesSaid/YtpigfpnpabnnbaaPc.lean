/-
  order.Take, told by its shadow.
-/
import Derived.Test.YtpigfpnpabnnbaaPb
namespace Go.Proofs.Ytpigfpnpabnnbaa
open Go.RowKit
/-- So many numbers ahead. -/
def seqZ : Nat → Bytes → Except Int (List Int × Bytes)
  | 0, b => .ok ([], b)
  | k + 1, b => match takeZ b with
    | .error z => .error z
    | .ok (n, r) => match seqZ k r with
      | .error z => .error z
      | .ok (l, r') => .ok (n :: l, r')
def layAll : List Nat → List AV → List Int → List AV
  | o :: os, cs, n :: l => layAll os (lay cs o [.int .i64 n]) l
  | _, cs, _ => cs
theorem seqZ_len : ∀ (k : Nat) (b : Bytes) (l : List Int) (r : Bytes), seqZ k b = .ok (l, r) → l.length = k
  | 0, b, l, r, h => by simp only [seqZ, Except.ok.injEq, Prod.mk.injEq] at h; rw [← h.1]; rfl
  | k + 1, b, l, r, h => by
    simp only [seqZ] at h
    split at h
    · cases h
    · split at h
      · cases h
      · rename_i h2
        simp only [Except.ok.injEq, Prod.mk.injEq] at h
        rw [← h.1, List.length_cons, seqZ_len k _ _ _ h2]
theorem takeZ_len {b r : Bytes} {n : Int} (h : takeZ b = .ok (n, r)) : r.length ≤ b.length := by
  unfold takeZ at h
  split at h
  · cases h
  · rename_i h'
    cases h
    exact (taken_small h').2
theorem seqZ_rest : ∀ (k : Nat) (b : Bytes) (l : List Int) (r : Bytes), seqZ k b = .ok (l, r) → r.length ≤ b.length
  | 0, b, l, r, h => by simp only [seqZ, Except.ok.injEq, Prod.mk.injEq] at h; rw [← h.2]; exact Nat.le_refl _
  | k + 1, b, l, r, h => by
    simp only [seqZ] at h
    split at h
    · cases h
    · rename_i h1
      split at h
      · cases h
      · rename_i h2
        simp only [Except.ok.injEq, Prod.mk.injEq] at h
        rw [← h.2]
        exact Nat.le_trans (seqZ_rest k _ _ _ h2) (takeZ_len h1)
theorem seqZ_err : ∀ (k : Nat) (b : Bytes) (z : Int), seqZ k b = .error z → ¬ z = 0
  | 0, b, z, h => by simp [seqZ] at h
  | k + 1, b, z, h => by
    simp only [seqZ] at h
    split at h
    · rename_i h1; cases h; exact takeZ_err h1
    · split at h
      · rename_i h2; cases h; exact seqZ_err k _ _ h2
      · cases h
theorem rdI_stop : ∀ (offs : List Nat) (cs : List AV) (b : Bytes) (z : Int), ¬ z = 0 → rdI offs cs b z = (cs, b, z)
  | [], _, _, _, _ => rfl
  | _ :: offs, cs, b, z, h => by rw [rdI_no h]; exact rdI_stop offs cs b z h
theorem rdI_seq : ∀ (offs : List Nat) (cs : List AV) (b : Bytes) (l : List Int) (r : Bytes), seqZ offs.length b = .ok (l, r) → rdI offs cs b 0 = (layAll offs cs l, r, 0)
  | [], cs, b, l, r, h => by
    simp only [List.length_nil, seqZ, Except.ok.injEq, Prod.mk.injEq] at h
    rw [← h.1, ← h.2]; rfl
  | o :: offs, cs, b, l, r, h => by
    simp only [List.length_cons, seqZ] at h
    split at h
    · cases h
    · rename_i h1
      split at h
      · cases h
      · rename_i h2
        simp only [Except.ok.injEq, Prod.mk.injEq] at h
        rw [rdI_ok h1, rdI_seq offs _ _ _ _ h2, ← h.1, ← h.2]
        rfl
theorem rdI_seqE : ∀ (offs : List Nat) (cs : List AV) (b : Bytes) (z : Int), seqZ offs.length b = .error z → ∃ cs', rdI offs cs b 0 = (cs', [], z)
  | [], cs, b, z, h => by simp [seqZ] at h
  | o :: offs, cs, b, z, h => by
    simp only [List.length_cons, seqZ] at h
    split at h
    · rename_i h1
      cases h
      exact ⟨_, by rw [rdI_error h1, rdI_stop _ _ _ _ (takeZ_err h1)]⟩
    · rename_i h1
      split at h
      · rename_i h2
        cases h
        rw [rdI_ok h1]
        exact rdI_seqE offs _ _ _ h2
      · cases h
def takeO (b : Bytes) : Except Int (Ord × Bytes) := match seqZ 6 b with
  | .error z => .error z
  | .ok (l, r) => match takeT r 100 with
    | .error z => .error z
    | .ok (s, r2) => match takeT r2 1000 with
      | .error z => .error z
      | .ok (t, r3) =>
        if mayO ⟨l.getD 0 0, l.getD 1 0, l.getD 2 0, s, t, l.getD 3 0, l.getD 4 0, l.getD 5 0⟩ then .ok (⟨l.getD 0 0, l.getD 1 0, l.getD 2 0, s, t, l.getD 3 0, l.getD 4 0, l.getD 5 0⟩, r3) else .error 3
def takeOA : Except Int (Ord × Bytes) → AV
  | .error z => .tup [encO ⟨0, 0, 0, [], [], 0, 0, 0⟩, bytesA [], .int .i64 z]
  | .ok (o, r) => .tup [encO o, bytesA r, .int .i64 0]
theorem takeT_err' {b : Bytes} {m z : Int} (h : takeT b m = .error z) : ¬ z = 0 := by rcases takeT_err h with h | h | h <;> omega
set_option maxRecDepth 20000 in
theorem take12_spec (b : Bytes) (hb : b.length ≤ 1000000) : ASpec Try.prog 46 [bytesA b] (takeOA (takeO b)) := by
  cases hq : seqZ 6 b with
  | error z =>
    obtain ⟨cs', hrd⟩ := rdI_seqE [0, 1, 2, 5, 6, 7] [.int .i64 0, .int .i64 0, .int .i64 0, .str [], .str [], .int .i64 0, .int .i64 0, .int .i64 0] b z hq
    have hz := seqZ_err _ _ _ hq
    have e : takeO b = .error z := by rw [takeO, hq]
    rw [e]
    refine ⟨⟨_, Try.func46, by kernel_rfl, rfl⟩, ACall.of Try.func46 rfl fun c0 hc0 => ?_⟩; simp only [Try.ntmps46, List.length_cons, List.length_nil, Nat.reduceAdd, Nat.reduceSub, List.replicate_succ, List.replicate_zero, List.cons_append, List.nil_append]; refine Run.god tab_ok follows_ok Try.func46 60 ?_; simp only [bytesA, eq_self, drun, aops, aone, aop, needs, ext, aev, aconst, aput, aupd, astore, afieldAddr, abuild, aelems, plains, tab_23, tab_48, tab_84, tab_86, tab_91, ok1, lay, AV.cells, AV.whole, AV.plain, AV.bare, Option.getD_some, Option.bind_some, Option.map_some, List.set_cons_zero, List.set_cons_succ, List.length_cons, List.length_nil, List.getElem?_cons_zero, List.getElem?_cons_succ, List.drop_zero, List.drop_succ_cons, List.take_zero, List.drop_nil, List.map_cons, List.map_nil, List.cons_append, List.nil_append, List.append_nil, List.all_cons, List.all_nil, List.replicate_succ, List.replicate_zero, true_and, and_true, if_true, if_false, Nat.reduceAdd, Nat.reduceLeDiff, Nat.reduceMul, Nat.zero_add, Nat.add_zero, Bool.and_self, Bool.and_true, Nat.reduceLT, Nat.reduceLeDiff, reduceCtorEq, Nat.le_refl, List.getD_eq_getElem?_getD]
    refine Ops.call .free rfl rfl ⟨_, Try.func57, by kernel_rfl, rfl⟩ (rints_call [0, 1, 2, 5, 6, 7] (by decide) (by decide) _ rfl _ rfl b _ rfl rfl _ ?_)
    rw [hrd]
    refine Ops.god tab_ok follows_ok Try.func46 60 ?_; simp only [bytesA, drun, aops, aone, aop, needs, ext, aev, aput, aupd, afieldAddr, tab_48, ok1, Option.getD_some, Option.bind_some, List.set_cons_zero, List.set_cons_succ, List.getElem?_cons_zero, List.getElem?_cons_succ, List.map_nil, List.cons_append, List.nil_append, true_and, if_false, Nat.reduceAdd, Nat.zero_add, reduceCtorEq, List.getD_eq_getElem?_getD]
    refine Ops.call .free rfl rfl ⟨_, Try.func58, by kernel_rfl, rfl⟩ ?_
    refine ACall.of Try.func58 rfl fun c1 hc1 => ?_; simp only [Try.ntmps58, Nat.reduceAdd, List.nil_append]; refine Run.god tab_ok follows_ok Try.func58 60 ?_; simp only [Try.results58, hz, eq_self, ↓alt_f, drun, aops, aone, afin, ares, aresL, aresOk, aop, needs, ext, aev, aconst, aput, aupd, aload, afieldAddr, acmp, ashift, abin, tab_33, tab_84, ok1, cellsAs, TI.agg, Option.getD_some, Option.bind_some, Option.map_some, List.set_cons_zero, List.set_cons_succ, List.length_cons, List.length_nil, List.getElem?_cons_zero, List.getElem?_cons_succ, List.drop_zero, List.drop_succ_cons, List.take_succ_cons, List.take_nil, List.map_cons, List.map_nil, List.cons_append, List.nil_append, List.append_nil, List.replicate_succ, List.replicate_zero, true_and, if_true, if_false, Nat.reduceAdd, Nat.reduceSub, Nat.zero_add, decide_false, reduceCtorEq, Nat.le_refl, List.getD_eq_getElem?_getD]
    refine Ops.god tab_ok follows_ok Try.func46 60 ?_; simp only [drun, aops, aone, aop, needs, ext, aev, aput, aupd, afieldAddr, tab_48, ok1, Option.getD_some, Option.bind_some, List.set_cons_zero, List.set_cons_succ, List.getElem?_cons_zero, List.getElem?_cons_succ, List.cons_append, List.nil_append, true_and, if_false, Nat.reduceAdd, Nat.zero_add, reduceCtorEq, List.getD_eq_getElem?_getD]
    refine Ops.call .free rfl rfl ⟨_, Try.func58, by kernel_rfl, rfl⟩ ?_
    refine ACall.of Try.func58 rfl fun c1 hc1 => ?_; simp only [Try.ntmps58, Nat.reduceAdd, List.nil_append]; refine Run.god tab_ok follows_ok Try.func58 60 ?_; simp only [Try.results58, hz, eq_self, ↓alt_f, drun, aops, aone, afin, ares, aresL, aresOk, aop, needs, ext, aev, aconst, aput, aupd, aload, afieldAddr, acmp, ashift, abin, tab_33, tab_84, ok1, cellsAs, TI.agg, Option.getD_some, Option.bind_some, Option.map_some, List.set_cons_zero, List.set_cons_succ, List.length_cons, List.length_nil, List.getElem?_cons_zero, List.getElem?_cons_succ, List.drop_zero, List.drop_succ_cons, List.take_succ_cons, List.take_nil, List.map_cons, List.map_nil, List.cons_append, List.nil_append, List.append_nil, List.replicate_succ, List.replicate_zero, true_and, if_true, if_false, Nat.reduceAdd, Nat.reduceSub, Nat.zero_add, decide_false, reduceCtorEq, Nat.le_refl, List.getD_eq_getElem?_getD]
    refine Ops.god tab_ok follows_ok Try.func46 60 ?_; simp only [Try.results46, hz, eq_self, ↓alt_t, drun, adops, adone, places, mayNeed, freeOk, rdOf, AV.id, wrOf, aops, aone, afin, ares, aresL, ares1, aresOk, aresOk1, aop, needs, ext, aev, aconst, aput, aupd, aload, astore, afieldAddr, acmp, ashift, abin, abuild, tab_33, tab_48, tab_84, ok1, lay, cellsAs, TI.agg, AV.cells, AV.whole, Option.getD_some, Option.bind_some, Option.map_some, List.set_cons_zero, List.set_cons_succ, List.length_cons, List.length_nil, List.getElem?_cons_zero, List.getElem?_cons_succ, List.drop_zero, List.drop_succ_cons, List.take_succ_cons, List.take_zero, List.take_nil, List.drop_nil, List.map_nil, List.cons_append, List.nil_append, List.append_nil, true_and, and_true, if_true, if_false, Nat.reduceAdd, Nat.zero_add, Bool.not_false, decide_false, reduceCtorEq, Nat.le_refl, List.getD_eq_getElem?_getD]
    refine ⟨rfl, rfl, ?_⟩
    simp only [takeOA, encO, bytesA, List.map_nil]
    (repeat' (first | exact LeL.nil | exact Le1L.nil | exact Le.refl _ | exact Le1.refl _ | exact Le1.nil _ | exact Le1.tok _ _ _ | exact LeR.one (Le.refl _) | apply LeR.tup | apply LeL.cons | apply Le1L.cons | apply Le.agg | apply Le.one | apply LeR.one))
  | ok p =>
    obtain ⟨l, r⟩ := p
    have hrd := rdI_seq [0, 1, 2, 5, 6, 7] [.int .i64 0, .int .i64 0, .int .i64 0, .str [], .str [], .int .i64 0, .int .i64 0, .int .i64 0] b l r hq
    have hl := seqZ_len _ _ _ _ hq
    have hr := seqZ_rest _ _ _ _ hq
    obtain ⟨n0, n1, n2, n3, n4, n5, rfl⟩ : ∃ n0 n1 n2 n3 n4 n5, l = [n0, n1, n2, n3, n4, n5] := by
      match l, hl with
      | [n0, n1, n2, n3, n4, n5], _ => exact ⟨n0, n1, n2, n3, n4, n5, rfl⟩
    simp only [layAll, lay, List.length_cons, List.length_nil, List.drop_zero, List.drop_succ_cons, List.take_succ_cons, List.take_zero, List.drop_nil, List.cons_append, List.nil_append, List.append_nil, Nat.reduceAdd, Nat.zero_add] at hrd
    have hs1 := taketext_spec r 100 (by omega) (by omega)
    refine ⟨⟨_, Try.func46, by kernel_rfl, rfl⟩, ACall.of Try.func46 rfl fun c0 hc0 => ?_⟩; simp only [Try.ntmps46, List.length_cons, List.length_nil, Nat.reduceAdd, Nat.reduceSub, List.replicate_succ, List.replicate_zero, List.cons_append, List.nil_append]; refine Run.god tab_ok follows_ok Try.func46 60 ?_; simp only [bytesA, eq_self, drun, aops, aone, aop, needs, ext, aev, aconst, aput, aupd, astore, afieldAddr, abuild, aelems, plains, tab_23, tab_48, tab_84, tab_86, tab_91, ok1, lay, AV.cells, AV.whole, AV.plain, AV.bare, Option.getD_some, Option.bind_some, Option.map_some, List.set_cons_zero, List.set_cons_succ, List.length_cons, List.length_nil, List.getElem?_cons_zero, List.getElem?_cons_succ, List.drop_zero, List.drop_succ_cons, List.take_zero, List.drop_nil, List.map_cons, List.map_nil, List.cons_append, List.nil_append, List.append_nil, List.all_cons, List.all_nil, List.replicate_succ, List.replicate_zero, true_and, and_true, if_true, if_false, Nat.reduceAdd, Nat.reduceLeDiff, Nat.reduceMul, Nat.zero_add, Nat.add_zero, Bool.and_self, Bool.and_true, Nat.reduceLT, Nat.reduceLeDiff, reduceCtorEq, Nat.le_refl, List.getD_eq_getElem?_getD]
    refine Ops.call .free rfl rfl ⟨_, Try.func57, by kernel_rfl, rfl⟩ (rints_call [0, 1, 2, 5, 6, 7] (by decide) (by decide) _ rfl _ rfl b _ rfl rfl _ ?_)
    rw [hrd]
    refine Ops.god tab_ok follows_ok Try.func46 60 ?_; simp only [bytesA, drun, aops, aone, aop, needs, ext, aev, aput, aupd, afieldAddr, tab_48, ok1, Option.getD_some, Option.bind_some, List.set_cons_zero, List.set_cons_succ, List.getElem?_cons_zero, List.getElem?_cons_succ, List.cons_append, List.nil_append, true_and, if_false, Nat.reduceAdd, Nat.zero_add, reduceCtorEq, List.getD_eq_getElem?_getD]
    refine Ops.call .free rfl rfl ⟨_, Try.func58, by kernel_rfl, rfl⟩ ?_
    refine ACall.of Try.func58 rfl fun c1 hc1 => ?_; simp only [Try.ntmps58, Nat.reduceAdd, List.nil_append]; refine Run.god tab_ok follows_ok Try.func58 60 ?_; simp only [eq_self, ↓alt_t, drun, aops, aone, aop, needs, ext, aev, aconst, aput, aupd, aload, afieldAddr, acmp, ashift, abin, tab_23, tab_33, tab_84, ok1, cellsAs, TI.agg, Option.getD_some, Option.bind_some, Option.map_some, List.set_cons_zero, List.set_cons_succ, List.length_cons, List.length_nil, List.getElem?_cons_zero, List.getElem?_cons_succ, List.drop_zero, List.drop_succ_cons, List.take_succ_cons, List.take_zero, List.take_nil, List.map_cons, List.map_nil, List.cons_append, List.nil_append, List.append_nil, List.replicate_succ, List.replicate_zero, true_and, if_true, if_false, Nat.reduceAdd, Nat.reduceLeDiff, Nat.reduceSub, Nat.zero_add, Nat.add_zero, decide_true, Nat.reduceLeDiff, reduceCtorEq, Nat.le_refl, List.getD_eq_getElem?_getD]
    cases ht : takeT r 100 with
    | error z =>
      have e : takeO b = .error z := by rw [takeO, hq]; simp only [ht]
      have hz := takeT_err' ht
      rw [e]
      rw [ht] at hs1
      refine Ops.pure .free rfl rfl (hs1) (by simp only [bytesA, aev, Option.getD_some, List.getElem?_cons_zero, List.getElem?_cons_succ, List.map_cons, List.map_nil, List.nil_append, List.append_nil, List.getD_eq_getElem?_getD]; (repeat' (first | exact LeL.nil | exact Le1L.nil | exact Le.refl _ | exact Le1.refl _ | exact Le1.nil _ | exact Le1.tok _ _ _ | exact LeR.one (Le.refl _) | apply LeR.tup | apply LeL.cons | apply Le1L.cons | apply Le.agg | apply Le.one | apply LeR.one))) rfl rfl ?_
      refine Ops.god tab_ok follows_ok Try.func58 60 ?_; simp only [Try.results58, takeTA, bytesA, eq_self, drun, aops, aone, afin, ares, aresL, aresOk, aop, needs, ext, aev, aput, aupd, astore, afieldAddr, tab_9, tab_23, tab_33, tab_84, ok1, lay, AV.cells, AV.whole, Option.getD_some, Option.bind_some, Option.map_some, List.set_cons_zero, List.set_cons_succ, List.length_cons, List.length_nil, List.getElem?_cons_zero, List.getElem?_cons_succ, List.drop_zero, List.drop_succ_cons, List.take_succ_cons, List.take_zero, List.drop_nil, List.map_nil, List.cons_append, List.nil_append, List.append_nil, true_and, and_true, if_false, Nat.reduceAdd, Nat.reduceLeDiff, Nat.zero_add, Nat.add_zero, Nat.reduceLeDiff, reduceCtorEq, Nat.le_refl, List.getD_eq_getElem?_getD]
      refine Ops.god tab_ok follows_ok Try.func46 60 ?_; simp only [drun, aops, aone, aop, needs, ext, aev, aput, aupd, afieldAddr, tab_48, ok1, Option.getD_some, Option.bind_some, List.set_cons_zero, List.set_cons_succ, List.getElem?_cons_zero, List.getElem?_cons_succ, List.cons_append, List.nil_append, true_and, if_false, Nat.reduceAdd, Nat.zero_add, reduceCtorEq, List.getD_eq_getElem?_getD]
      refine Ops.call .free rfl rfl ⟨_, Try.func58, by kernel_rfl, rfl⟩ ?_
      refine ACall.of Try.func58 rfl fun c1 hc1 => ?_; simp only [Try.ntmps58, Nat.reduceAdd, List.nil_append]; refine Run.god tab_ok follows_ok Try.func58 60 ?_; simp only [Try.results58, hz, eq_self, ↓alt_f, drun, aops, aone, afin, ares, aresL, aresOk, aop, needs, ext, aev, aconst, aput, aupd, aload, afieldAddr, acmp, ashift, abin, tab_33, tab_84, ok1, cellsAs, TI.agg, Option.getD_some, Option.bind_some, Option.map_some, List.set_cons_zero, List.set_cons_succ, List.length_cons, List.length_nil, List.getElem?_cons_zero, List.getElem?_cons_succ, List.drop_zero, List.drop_succ_cons, List.take_succ_cons, List.take_nil, List.map_cons, List.map_nil, List.cons_append, List.nil_append, List.append_nil, List.replicate_succ, List.replicate_zero, true_and, if_true, if_false, Nat.reduceAdd, Nat.reduceSub, Nat.zero_add, decide_false, reduceCtorEq, Nat.le_refl, List.getD_eq_getElem?_getD]
      refine Ops.god tab_ok follows_ok Try.func46 60 ?_; simp only [Try.results46, hz, eq_self, ↓alt_t, drun, adops, adone, places, mayNeed, freeOk, rdOf, AV.id, wrOf, aops, aone, afin, ares, aresL, ares1, aresOk, aresOk1, aop, needs, ext, aev, aconst, aput, aupd, aload, astore, afieldAddr, acmp, ashift, abin, abuild, tab_33, tab_48, tab_84, ok1, lay, cellsAs, TI.agg, AV.cells, AV.whole, Option.getD_some, Option.bind_some, Option.map_some, List.set_cons_zero, List.set_cons_succ, List.length_cons, List.length_nil, List.getElem?_cons_zero, List.getElem?_cons_succ, List.drop_zero, List.drop_succ_cons, List.take_succ_cons, List.take_zero, List.take_nil, List.drop_nil, List.map_nil, List.cons_append, List.nil_append, List.append_nil, true_and, and_true, if_true, if_false, Nat.reduceAdd, Nat.zero_add, Bool.not_false, decide_false, reduceCtorEq, Nat.le_refl, List.getD_eq_getElem?_getD]
      refine ⟨rfl, rfl, ?_⟩
      simp only [takeOA, encO, bytesA, List.map_nil]
      (repeat' (first | exact LeL.nil | exact Le1L.nil | exact Le.refl _ | exact Le1.refl _ | exact Le1.nil _ | exact Le1.tok _ _ _ | exact LeR.one (Le.refl _) | apply LeR.tup | apply LeL.cons | apply Le1L.cons | apply Le.agg | apply Le.one | apply LeR.one))
    | ok p =>
      obtain ⟨t, r2⟩ := p
      rw [ht] at hs1
      have h2 := takeT_shorter ht
      have hs2 := taketext_spec r2 1000 (by omega) (by omega)
      refine Ops.pure .free rfl rfl (hs1) (by simp only [bytesA, aev, Option.getD_some, List.getElem?_cons_zero, List.getElem?_cons_succ, List.map_cons, List.map_nil, List.nil_append, List.append_nil, List.getD_eq_getElem?_getD]; (repeat' (first | exact LeL.nil | exact Le1L.nil | exact Le.refl _ | exact Le1.refl _ | exact Le1.nil _ | exact Le1.tok _ _ _ | exact LeR.one (Le.refl _) | apply LeR.tup | apply LeL.cons | apply Le1L.cons | apply Le.agg | apply Le.one | apply LeR.one))) rfl rfl ?_
      refine Ops.god tab_ok follows_ok Try.func58 60 ?_; simp only [Try.results58, takeTA, bytesA, eq_self, drun, aops, aone, afin, ares, aresL, aresOk, aop, needs, ext, aev, aput, aupd, astore, afieldAddr, tab_9, tab_23, tab_33, tab_84, ok1, lay, AV.cells, AV.whole, Option.getD_some, Option.bind_some, Option.map_some, List.set_cons_zero, List.set_cons_succ, List.length_cons, List.length_nil, List.getElem?_cons_zero, List.getElem?_cons_succ, List.drop_zero, List.drop_succ_cons, List.take_succ_cons, List.take_zero, List.drop_nil, List.cons_append, List.nil_append, List.append_nil, true_and, and_true, if_false, Nat.reduceAdd, Nat.reduceLeDiff, Nat.zero_add, Nat.add_zero, Nat.reduceLeDiff, reduceCtorEq, Nat.le_refl, List.getD_eq_getElem?_getD]
      refine Ops.god tab_ok follows_ok Try.func46 60 ?_; simp only [drun, aops, aone, aop, needs, ext, aev, aput, aupd, afieldAddr, tab_48, ok1, Option.getD_some, Option.bind_some, List.set_cons_zero, List.set_cons_succ, List.getElem?_cons_zero, List.getElem?_cons_succ, List.cons_append, List.nil_append, true_and, if_false, Nat.reduceAdd, Nat.zero_add, reduceCtorEq, List.getD_eq_getElem?_getD]
      refine Ops.call .free rfl rfl ⟨_, Try.func58, by kernel_rfl, rfl⟩ ?_
      refine ACall.of Try.func58 rfl fun c1 hc1 => ?_; simp only [Try.ntmps58, Nat.reduceAdd, List.nil_append]; refine Run.god tab_ok follows_ok Try.func58 60 ?_; simp only [eq_self, ↓alt_t, drun, aops, aone, aop, needs, ext, aev, aconst, aput, aupd, aload, afieldAddr, acmp, ashift, abin, tab_23, tab_33, tab_84, ok1, cellsAs, TI.agg, Option.getD_some, Option.bind_some, Option.map_some, List.set_cons_zero, List.set_cons_succ, List.length_cons, List.length_nil, List.getElem?_cons_zero, List.getElem?_cons_succ, List.drop_zero, List.drop_succ_cons, List.take_succ_cons, List.take_zero, List.take_nil, List.map_cons, List.map_nil, List.cons_append, List.nil_append, List.append_nil, List.replicate_succ, List.replicate_zero, true_and, if_true, if_false, Nat.reduceAdd, Nat.reduceLeDiff, Nat.reduceSub, Nat.zero_add, Nat.add_zero, decide_true, Nat.reduceLeDiff, reduceCtorEq, Nat.le_refl, List.getD_eq_getElem?_getD]
      cases hu : takeT r2 1000 with
      | error z =>
        have e : takeO b = .error z := by rw [takeO, hq]; simp only [ht, hu]
        have hz := takeT_err' hu
        rw [e]
        rw [hu] at hs2
        refine Ops.pure .free rfl rfl (hs2) (by simp only [bytesA, aev, Option.getD_some, List.getElem?_cons_zero, List.getElem?_cons_succ, List.map_cons, List.map_nil, List.nil_append, List.append_nil, List.getD_eq_getElem?_getD]; (repeat' (first | exact LeL.nil | exact Le1L.nil | exact Le.refl _ | exact Le1.refl _ | exact Le1.nil _ | exact Le1.tok _ _ _ | exact LeR.one (Le.refl _) | apply LeR.tup | apply LeL.cons | apply Le1L.cons | apply Le.agg | apply Le.one | apply LeR.one))) rfl rfl ?_
        refine Ops.god tab_ok follows_ok Try.func58 60 ?_; simp only [Try.results58, takeTA, bytesA, eq_self, drun, aops, aone, afin, ares, aresL, aresOk, aop, needs, ext, aev, aput, aupd, astore, afieldAddr, tab_9, tab_23, tab_33, tab_84, ok1, lay, AV.cells, AV.whole, Option.getD_some, Option.bind_some, Option.map_some, List.set_cons_zero, List.set_cons_succ, List.length_cons, List.length_nil, List.getElem?_cons_zero, List.getElem?_cons_succ, List.drop_zero, List.drop_succ_cons, List.take_succ_cons, List.take_zero, List.drop_nil, List.map_nil, List.cons_append, List.nil_append, List.append_nil, true_and, and_true, if_false, Nat.reduceAdd, Nat.reduceLeDiff, Nat.zero_add, Nat.add_zero, Nat.reduceLeDiff, reduceCtorEq, Nat.le_refl, List.getD_eq_getElem?_getD]
        refine Ops.god tab_ok follows_ok Try.func46 60 ?_; simp only [Try.results46, hz, eq_self, ↓alt_t, drun, adops, adone, places, mayNeed, freeOk, rdOf, AV.id, wrOf, aops, aone, afin, ares, aresL, ares1, aresOk, aresOk1, aop, needs, ext, aev, aconst, aput, aupd, aload, astore, afieldAddr, acmp, ashift, abin, abuild, tab_33, tab_48, tab_84, ok1, lay, cellsAs, TI.agg, AV.cells, AV.whole, Option.getD_some, Option.bind_some, Option.map_some, List.set_cons_zero, List.set_cons_succ, List.length_cons, List.length_nil, List.getElem?_cons_zero, List.getElem?_cons_succ, List.drop_zero, List.drop_succ_cons, List.take_succ_cons, List.take_zero, List.take_nil, List.drop_nil, List.map_nil, List.cons_append, List.nil_append, List.append_nil, true_and, and_true, if_true, if_false, Nat.reduceAdd, Nat.zero_add, Bool.not_false, decide_false, reduceCtorEq, Nat.le_refl, List.getD_eq_getElem?_getD]
        refine ⟨rfl, rfl, ?_⟩
        simp only [takeOA, encO, bytesA, List.map_nil]
        (repeat' (first | exact LeL.nil | exact Le1L.nil | exact Le.refl _ | exact Le1.refl _ | exact Le1.nil _ | exact Le1.tok _ _ _ | exact LeR.one (Le.refl _) | apply LeR.tup | apply LeL.cons | apply Le1L.cons | apply Le.agg | apply Le.one | apply LeR.one))
      | ok p =>
        obtain ⟨u, r3⟩ := p
        rw [hu] at hs2
        refine Ops.pure .free rfl rfl (hs2) (by simp only [bytesA, aev, Option.getD_some, List.getElem?_cons_zero, List.getElem?_cons_succ, List.map_cons, List.map_nil, List.nil_append, List.append_nil, List.getD_eq_getElem?_getD]; (repeat' (first | exact LeL.nil | exact Le1L.nil | exact Le.refl _ | exact Le1.refl _ | exact Le1.nil _ | exact Le1.tok _ _ _ | exact LeR.one (Le.refl _) | apply LeR.tup | apply LeL.cons | apply Le1L.cons | apply Le.agg | apply Le.one | apply LeR.one))) rfl rfl ?_
        refine Ops.god tab_ok follows_ok Try.func58 60 ?_; simp only [Try.results58, takeTA, bytesA, eq_self, drun, aops, aone, afin, ares, aresL, aresOk, aop, needs, ext, aev, aput, aupd, astore, afieldAddr, tab_9, tab_23, tab_33, tab_84, ok1, lay, AV.cells, AV.whole, Option.getD_some, Option.bind_some, Option.map_some, List.set_cons_zero, List.set_cons_succ, List.length_cons, List.length_nil, List.getElem?_cons_zero, List.getElem?_cons_succ, List.drop_zero, List.drop_succ_cons, List.take_succ_cons, List.take_zero, List.drop_nil, List.cons_append, List.nil_append, List.append_nil, true_and, and_true, if_false, Nat.reduceAdd, Nat.reduceLeDiff, Nat.zero_add, Nat.add_zero, Nat.reduceLeDiff, reduceCtorEq, Nat.le_refl, List.getD_eq_getElem?_getD]
        refine Ops.god tab_ok follows_ok Try.func46 60 ?_; simp only [eq_self, ↓alt_f, drun, aops, aone, aop, needs, ext, aev, aconst, aput, aupd, aload, afieldAddr, acmp, ashift, abin, tab_33, tab_48, tab_84, ok1, cellsAs, TI.agg, Option.getD_some, Option.bind_some, Option.map_some, List.set_cons_zero, List.set_cons_succ, List.length_cons, List.length_nil, List.getElem?_cons_zero, List.getElem?_cons_succ, List.drop_zero, List.drop_succ_cons, List.take_succ_cons, List.take_nil, List.cons_append, List.nil_append, true_and, if_true, if_false, Nat.reduceAdd, Nat.zero_add, Bool.not_true, decide_true, reduceCtorEq, Nat.le_refl, List.getD_eq_getElem?_getD]
        have hm := may_spec ⟨n0, n1, n2, t, u, n3, n4, n5⟩
        cases hmm : mayO ⟨n0, n1, n2, t, u, n3, n4, n5⟩ with
        | true =>
          have e : takeO b = .ok (⟨n0, n1, n2, t, u, n3, n4, n5⟩, r3) := by rw [takeO, hq]; simp [ht, hu, hmm]
          rw [e]
          rw [hmm] at hm
          refine Ops.pure .free rfl rfl (hm) (by simp only [encO, aev, Option.getD_some, List.getElem?_cons_zero, List.getElem?_cons_succ, List.map_cons, List.map_nil, List.nil_append, List.append_nil, List.getD_eq_getElem?_getD]; (repeat' (first | exact LeL.nil | exact Le1L.nil | exact Le.refl _ | exact Le1.refl _ | exact Le1.nil _ | exact Le1.tok _ _ _ | exact LeR.one (Le.refl _) | apply LeR.tup | apply LeL.cons | apply Le1L.cons | apply Le.agg | apply Le.one | apply LeR.one))) rfl rfl ?_
          refine Ops.god tab_ok follows_ok Try.func46 60 ?_; simp only [Try.results46, eq_self, ↓alt_f, drun, adops, adone, places, mayNeed, freeOk, rdOf, AV.id, wrOf, aops, aone, afin, ares, aresL, ares1, aresOk, aresOk1, aop, needs, ext, aev, aconst, aput, aupd, aload, astore, afieldAddr, tab_23, tab_48, tab_84, ok1, lay, cellsAs, TI.agg, AV.cells, AV.whole, Option.getD_some, Option.bind_some, Option.map_some, List.set_cons_zero, List.set_cons_succ, List.length_cons, List.length_nil, List.getElem?_cons_zero, List.getElem?_cons_succ, List.drop_zero, List.drop_succ_cons, List.take_succ_cons, List.take_zero, List.take_nil, List.drop_nil, List.cons_append, List.nil_append, List.append_nil, true_and, and_true, if_true, if_false, Nat.reduceAdd, Nat.reduceLeDiff, Nat.zero_add, Nat.add_zero, Bool.not_true, Nat.reduceLeDiff, reduceCtorEq, Nat.le_refl, List.getD_eq_getElem?_getD]
          refine ⟨rfl, rfl, ?_⟩
          simp only [takeOA, encO, bytesA]
          (repeat' (first | exact LeL.nil | exact Le1L.nil | exact Le.refl _ | exact Le1.refl _ | exact Le1.nil _ | exact Le1.tok _ _ _ | exact LeR.one (Le.refl _) | apply LeR.tup | apply LeL.cons | apply Le1L.cons | apply Le.agg | apply Le.one | apply LeR.one))
        | false =>
          have e : takeO b = .error 3 := by rw [takeO, hq]; simp [ht, hu, hmm]
          rw [e]
          rw [hmm] at hm
          refine Ops.pure .free rfl rfl (hm) (by simp only [encO, aev, Option.getD_some, List.getElem?_cons_zero, List.getElem?_cons_succ, List.map_cons, List.map_nil, List.nil_append, List.append_nil, List.getD_eq_getElem?_getD]; (repeat' (first | exact LeL.nil | exact Le1L.nil | exact Le.refl _ | exact Le1.refl _ | exact Le1.nil _ | exact Le1.tok _ _ _ | exact LeR.one (Le.refl _) | apply LeR.tup | apply LeL.cons | apply Le1L.cons | apply Le.agg | apply Le.one | apply LeR.one))) rfl rfl ?_
          refine Ops.god tab_ok follows_ok Try.func46 60 ?_; simp only [Try.results46, eq_self, ↓alt_t, drun, aops, aone, afin, ares, aresL, ares1, aresOk, aresOk1, aop, needs, ext, aev, aconst, aput, aupd, aload, astore, abuild, tab_48, ok1, lay, cellsAs, TI.agg, AV.cells, AV.whole, Option.getD_some, Option.bind_some, Option.map_some, List.set_cons_zero, List.set_cons_succ, List.length_cons, List.length_nil, List.getElem?_cons_zero, List.getElem?_cons_succ, List.drop_zero, List.drop_succ_cons, List.take_succ_cons, List.take_zero, List.take_nil, List.drop_nil, List.map_nil, List.cons_append, List.nil_append, List.append_nil, true_and, and_true, if_true, if_false, Nat.reduceAdd, Nat.zero_add, Bool.not_false, reduceCtorEq, Nat.le_refl, List.getD_eq_getElem?_getD]
          simp only [takeOA, encO, bytesA, List.map_nil]
          (repeat' (first | exact LeL.nil | exact Le1L.nil | exact Le.refl _ | exact Le1.refl _ | exact Le1.nil _ | exact Le1.tok _ _ _ | exact LeR.one (Le.refl _) | apply LeR.tup | apply LeL.cons | apply Le1L.cons | apply Le.agg | apply Le.one | apply LeR.one))
end Go.Proofs.Ytpigfpnpabnnbaa
