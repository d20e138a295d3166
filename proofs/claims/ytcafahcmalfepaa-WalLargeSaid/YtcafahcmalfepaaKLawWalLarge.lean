/-
  WalLarge, by its shadow.
-/
import Derived.Test.YtcafahcmalfepaaMg
namespace Go.Proofs.Ytcafahcmalfepaa
open Go.RowKit
def repC (c : UInt8) (j : Nat) : Bytes := List.replicate j c
theorem rep_snoc (j : Nat) (c : UInt8) : (repC c (j + 1)).map byteC = (repC c j).map byteC ++ [byteC c] := by
  unfold repC; rw [List.replicate_succ', List.map_append]; rfl
theorem rep_len (j : Nat) (c : UInt8) : (repC c j).length = j := List.length_replicate ..
theorem rep_zero (c : UInt8) : repC c 0 = [] := rfl
theorem wrap_k {k : Nat} (h : k ≤ 255) : IntKind.i64.wrap (k : Int) = k := wrap_n64 k (by omega)
def dL : DD := ⟨100000, [], [], false, -1⟩
set_option maxRecDepth 20000 in
set_option maxHeartbeats 4000000 in
theorem large17 (k : Nat) (hk : k ≤ 255) (c : UInt8) : ASpec Try.prog 9 [.int .u8 k, .int .u8 c.toNat] (.bool true) := by
  have hal := alive17_spec
  have hw := wrap_k hk
  have hi : I64 ((19900 : Int) + k) := by unfold I64; omega
  have h1 := dnew_spec 100000
  rw [show newD 100000 = (dL, 0) from rfl] at h1
  have hsm : smD dL := ⟨by simp [dL], by simp [dL], by unfold I64; simp [dL]⟩
  have h2 := wopen_spec dL hsm (by simp [dL, allD])
  rw [show openS dL = (⟨dL, []⟩, 0) from open_new 100000 (by omega)] at h2
  obtain ⟨N, hN⟩ : ∃ N, N = 19900 + k := ⟨_, rfl⟩
  obtain ⟨b, hb⟩ : ∃ b, b = repC c N := ⟨_, rfl⟩
  have hbl : b.length = N := by rw [hb, rep_len]
  have hWS : WSm ⟨dL, []⟩ := ⟨hsm, by decide, by simp⟩
  have hfb : (fr b).length ≤ 20200 := by rw [fr_length]; unfold frLong; have := nb_le b.length (by omega); omega
  have hf1 : (fr [1]).length = 8 := by rw [fr_length]; rfl
  have hfl : (frs [[1], b]).length ≤ 30000 := by
    rw [frs_cons, frs_cons, List.length_append, List.length_append, hf1]
    have : (frs ([] : List Bytes)).length = 0 := rfl
    omega
  have h3 := wappend_spec ⟨dL, []⟩ hWS [[1], b] (by simp) (by omega)
  have h4 := wcut_spec ⟨dL, []⟩ hsm b (by omega)
  simp only [encDE, encD, encWE, encW, bytesA, rowsA, List.map_nil] at h1 h2
  refine ⟨⟨_, Try.func9, by kernel_rfl, rfl⟩, ACall.of Try.func9 rfl fun c0 hc0 => ?_⟩; simp only [Try.ntmps9, List.length_cons, List.length_nil, Nat.reduceAdd, Nat.reduceSub, List.replicate_succ, List.replicate_zero, List.cons_append, List.nil_append]; refine Run.god tab_ok follows_ok Try.func9 60 ?_; simp only [drun, aops, aone, aop, needs, ext, aev, aconst, aput, aupd, aelems, plains, tab_5, tab_22, ok1, Option.getD_some, Option.bind_some, Option.map_some, List.set_cons_zero, List.set_cons_succ, List.length_nil, List.getElem?_cons_zero, List.getElem?_cons_succ, List.map_nil, List.cons_append, List.nil_append, List.all_nil, List.replicate_zero, true_and, and_true, if_true, if_false, Nat.reduceLeDiff, Nat.reduceMul, beq_self_eq_true, Bool.and_true, Nat.reduceLT, Nat.reduceLeDiff, List.getD_eq_getElem?_getD, Bool.false_eq_true]
  refine Run.loopV (α := Nat) (fun j => j ≤ N) (fun j => [(5, .sl 1 ((repC c j).map byteC) (.own 0)), (6, .int .i64 j)]) 1 (fun j => [(0, .tok 1 j)]) (fun j => N - j) 0 (Nat.zero_le _) ?_ ?_
  · simp only [writes, junks, puts, hputs, List.filterMap_cons, List.filterMap_nil, Int.natCast_zero, List.set_cons_zero, List.set_cons_succ, List.take_succ_cons, List.take_nil, List.map_nil, List.cons_append, List.nil_append, List.append_nil, rep_zero]
    (refine Weak.of (by simp [hc0]) ?_ ?_ <;> (repeat' (first | exact WkT.nil | exact WkH.nil _ | exact Le.refl _ | exact Le.junk _ | exact Le1.refl _ | exact Le1.nil _ | exact Le1.tok _ _ _ | exact Le1L.nil | rfl | apply WkT.cons | apply WkH.cons | apply LeB.same | apply LeB.box | apply Le1L.cons | apply Le.agg | apply Le.one)))
  intro j hI ih
  simp only [writes, junks, puts, hputs, List.filterMap_cons, List.filterMap_nil, List.set_cons_zero, List.set_cons_succ, List.take_succ_cons, List.take_nil, List.cons_append, List.nil_append, List.append_nil] at ih ⊢
  by_cases hj : j < N
  · have hjj : (j : Int) < 19900 + k := by omega
    have hrl := rep_len j c
    refine Run.god tab_ok follows_ok Try.func9 60 ?_; simp only [hw, hjj, decide_true, ↓alt_t, aappendM, drun, aops, aone, aop, needs, ext, aev, aconst, aput, aupd, acmp, aarith, ashift, abin, aconv, aelems, plains, asrc, aappend, tab_3, tab_5, tab_22, ok1, AV.cells, AV.whole, AV.plain, AV.bare, Option.getD_some, Option.bind_some, Option.map_some, List.set_cons_zero, List.set_cons_succ, List.length_cons, List.length_nil, List.getElem?_cons_zero, List.getElem?_cons_succ, List.getElem?_toArray, List.map_cons, List.map_nil, List.length_map, List.cons_append, List.nil_append, List.all_cons, List.all_nil, List.replicate_succ, List.replicate_zero, true_and, and_true, if_true, if_false, Nat.reduceLeDiff, Nat.reduceMul, Nat.reduceBEq, Nat.zero_add, Bool.and_self, Bool.and_false, decide_true, Nat.reduceLT, Nat.reduceLeDiff, List.getD_eq_getElem?_getD, Bool.false_eq_true]
    ((repeat' (apply And.intro)) <;> try (first | rfl | omega | (unfold I64; omega)))
    refine ih (j + 1) _ (by omega) (by omega) ?_
    simp only [Int.natCast_add, Int.natCast_one, rep_snoc, byteC, hrl]
    (refine Weak.of (by simp [hc0]) ?_ ?_ <;> (repeat' (first | exact WkT.nil | exact WkH.nil _ | exact Le.refl _ | exact Le.junk _ | exact Le1.refl _ | exact Le1.nil _ | exact Le1.tok _ _ _ | exact Le1L.nil | rfl | apply WkT.cons | apply WkH.cons | apply LeB.same | apply LeB.box | apply Le1L.cons | apply Le.agg | apply Le.one)))
  obtain rfl : j = N := by omega
  have hjj : ¬ (j : Int) < 19900 + k := by omega
  rw [← hb]
  by_cases hL : 20000 < b.length
  · have hL' : (20000 : Int) < b.length := by omega
    have hlg : largeB [[1], b] = true := by simp [largeB, hL]
    rw [show appendS ⟨dL, []⟩ [[1], b] = (⟨dL, []⟩, 5) by unfold appendS; rw [if_pos hlg]] at h3
    rw [show cutS ⟨dL, []⟩ b = (⟨dL, []⟩, 5) by unfold cutS; rw [if_pos hL]] at h4
    refine Run.god tab_ok follows_ok Try.func9 60 ?_; simp only [hw, hjj, decide_false, ↓alt_f, drun, aops, aone, aop, needs, ext, aev, aconst, aput, aupd, acmp, aarith, ashift, abin, aconv, tab_3, tab_5, ok1, exitTo, Option.getD_some, Option.bind_some, List.set_cons_zero, List.set_cons_succ, List.getElem?_cons_zero, List.getElem?_cons_succ, List.cons_append, List.nil_append, true_and, if_true, if_false, beq_self_eq_true, decide_false, List.getD_eq_getElem?_getD, Bool.false_eq_true]
    ((repeat' (apply And.intro)) <;> try (first | rfl | omega | (unfold I64; omega)))
    refine Ops.pure .free rfl rfl (h1) (by simp only [aev, aconst, List.map_cons, List.map_nil, List.nil_append, List.append_nil]; (repeat' (first | exact LeL.nil | exact Le1L.nil | exact Le.refl _ | exact Le1.refl _ | exact Le1.nil _ | exact Le1.tok _ _ _ | exact LeR.one (Le.refl _) | apply LeR.tup | apply LeL.cons | apply Le1L.cons | apply Le.agg | apply Le.one | apply LeR.one))) rfl rfl ?_
    refine Ops.god tab_ok follows_ok Try.func9 60 ?_; simp only [dL, Int.reduceNeg, drun, aops, aone, aop, needs, ext, aev, aput, aupd, aload, astore, tab_42, ok1, lay, cellsAs, TI.agg, AV.cells, AV.whole, Option.getD_some, Option.bind_some, Option.map_some, List.set_cons_zero, List.set_cons_succ, List.length_cons, List.length_nil, List.getElem?_cons_zero, List.getElem?_cons_succ, List.drop_zero, List.drop_succ_cons, List.take_succ_cons, List.take_zero, List.take_nil, List.drop_nil, List.map_nil, List.cons_append, List.nil_append, List.append_nil, true_and, and_true, if_true, if_false, Nat.reduceAdd, Nat.zero_add, Nat.le_refl, List.getD_eq_getElem?_getD, Bool.false_eq_true]
    refine Ops.pure .free rfl rfl (h2) (by simp only [dL, Int.reduceNeg, aev, Option.getD_some, List.getElem?_cons_zero, List.getElem?_cons_succ, List.map_cons, List.map_nil, List.nil_append, List.append_nil, List.getD_eq_getElem?_getD]; (repeat' (first | exact LeL.nil | exact Le1L.nil | exact Le.refl _ | exact Le1.refl _ | exact Le1.nil _ | exact Le1.tok _ _ _ | exact LeR.one (Le.refl _) | apply LeR.tup | apply LeL.cons | apply Le1L.cons | apply Le.agg | apply Le.one | apply LeR.one))) rfl rfl ?_
    refine Ops.god tab_ok follows_ok Try.func9 60 ?_; simp only [dL, Int.reduceNeg, drun, aops, aone, aop, needs, ext, aev, aconst, aput, aupd, aload, astore, aelems, plains, tab_5, tab_22, tab_34, tab_47, ok1, lay, cellsAs, TI.agg, AV.cells, AV.whole, AV.plain, AV.bare, Option.getD_some, Option.bind_some, Option.map_some, List.set_cons_zero, List.set_cons_succ, List.length_cons, List.length_nil, List.getElem?_cons_zero, List.getElem?_cons_succ, List.drop_zero, List.drop_succ_cons, List.take_succ_cons, List.take_zero, List.take_nil, List.drop_nil, List.map_cons, List.map_nil, List.cons_append, List.nil_append, List.append_nil, List.all_cons, List.all_nil, List.replicate_succ, List.replicate_zero, true_and, and_true, if_true, if_false, Nat.reduceAdd, Nat.reduceLeDiff, Nat.reduceMul, Nat.reduceBEq, Nat.zero_add, Bool.and_self, Bool.and_false, Nat.reduceLT, Nat.reduceLeDiff, Nat.le_refl, List.getD_eq_getElem?_getD, Bool.false_eq_true]
    ((repeat' (apply And.intro)) <;> try (first | rfl | omega | (unfold I64; omega)))
    refine Ops.pure .free rfl rfl (h3) (by simp only [encW, bytesA, rowsA, rowC, byteC, dL, Int.reduceNeg, aev, Option.getD_some, List.getElem?_cons_zero, List.getElem?_cons_succ, List.map_cons, List.map_nil, List.nil_append, List.append_nil, List.getD_eq_getElem?_getD]; (repeat' (first | exact LeL.nil | exact Le1L.nil | exact Le.refl _ | exact Le1.refl _ | exact Le1.nil _ | exact Le1.tok _ _ _ | exact LeR.one (Le.refl _) | apply LeR.tup | apply LeL.cons | apply Le1L.cons | apply Le.agg | apply Le.one | apply LeR.one))) rfl rfl ?_
    refine Ops.god tab_ok follows_ok Try.func9 60 ?_; simp only [encWE, encW, bytesA, rowsA, dL, Int.reduceNeg, drun, aops, aone, aop, needs, ext, aev, aput, aupd, aload, astore, tab_47, ok1, lay, cellsAs, TI.agg, AV.cells, AV.whole, Option.getD_some, Option.bind_some, Option.map_some, List.set_cons_zero, List.set_cons_succ, List.length_cons, List.length_nil, List.getElem?_cons_zero, List.getElem?_cons_succ, List.drop_zero, List.drop_succ_cons, List.take_succ_cons, List.take_zero, List.take_nil, List.drop_nil, List.map_nil, List.cons_append, List.nil_append, List.append_nil, true_and, and_true, if_true, if_false, Nat.reduceAdd, Nat.zero_add, Nat.le_refl, List.getD_eq_getElem?_getD, Bool.false_eq_true]
    ((repeat' (apply And.intro)) <;> try (first | rfl | omega | (unfold I64; omega)))
    refine Ops.pure .free rfl rfl (h4) (by simp only [encW, bytesA, rowsA, dL, Int.reduceNeg, aev, Option.getD_some, List.getElem?_cons_zero, List.getElem?_cons_succ, List.map_cons, List.map_nil, List.nil_append, List.append_nil, List.getD_eq_getElem?_getD]; (repeat' (first | exact LeL.nil | exact Le1L.nil | exact Le.refl _ | exact Le1.refl _ | exact Le1.nil _ | exact Le1.tok _ _ _ | exact LeR.one (Le.refl _) | apply LeR.tup | apply LeL.cons | apply Le1L.cons | apply Le.agg | apply Le.one | apply LeR.one))) rfl rfl ?_
    refine Ops.god tab_ok follows_ok Try.func9 60 ?_; simp only [encWE, encW, bytesA, rowsA, dL, hL', List.length_map, decide_true, ↓alt_t, Int.reduceNeg, drun, aops, aone, aop, needs, ext, aev, aconst, aput, aupd, astore, acmp, ashift, abin, alen, tab_3, tab_22, tab_47, ok1, lay, AV.cells, AV.whole, Option.getD_some, Option.bind_some, Option.map_some, List.set_cons_zero, List.set_cons_succ, List.length_cons, List.length_nil, List.getElem?_cons_zero, List.getElem?_cons_succ, List.drop_succ_cons, List.take_zero, List.drop_nil, List.map_nil, List.length_map, List.cons_append, List.nil_append, List.append_nil, true_and, and_true, if_true, if_false, Nat.reduceAdd, Nat.zero_add, decide_true, Nat.le_refl, List.getD_eq_getElem?_getD, Bool.false_eq_true]
    ((repeat' (apply And.intro)) <;> try (first | rfl | omega | (unfold I64; omega)))
    refine Ops.pure .free rfl rfl (hal) (by simp only [Int.reduceNeg, List.map_nil, List.append_nil]; (repeat' (first | exact LeL.nil | exact Le1L.nil | exact Le.refl _ | exact Le1.refl _ | exact Le1.nil _ | exact Le1.tok _ _ _ | exact LeR.one (Le.refl _) | apply LeR.tup | apply LeL.cons | apply Le1L.cons | apply Le.agg | apply Le.one | apply LeR.one))) rfl rfl ?_
    refine Ops.god tab_ok follows_ok Try.func9 60 ?_; simp only [Try.results9, decide_true, Int.natCast_zero, ↓alts_t, ↓gone_tt, gslot, Int.reduceNeg, drun, aops, aone, afin, ares, aresL, ares1, aresOk, aresOk1, aop, needs, ext, aev, aconst, aput, aupd, aload, afieldAddr, acmp, ashift, abin, alen, tab_3, tab_22, tab_25, tab_34, tab_42, tab_47, ok1, cellsAs, TI.agg, Option.getD_some, Option.bind_some, Option.map_some, List.set_cons_zero, List.set_cons_succ, List.length_cons, List.length_nil, List.getElem?_cons_zero, List.getElem?_cons_succ, List.getElem?_toArray, List.drop_zero, List.drop_succ_cons, List.take_succ_cons, List.take_zero, List.take_nil, List.cons_append, List.nil_append, true_and, and_true, if_true, if_false, Nat.reduceAdd, Nat.reduceLeDiff, Nat.zero_add, Nat.add_zero, decide_true, Nat.reduceLeDiff, Nat.le_refl, List.getD_eq_getElem?_getD, Bool.false_eq_true]
    ((repeat' (apply And.intro)) <;> try (first | rfl | omega | (unfold I64; omega)))
    (repeat' (first | exact LeL.nil | exact Le1L.nil | exact Le.refl _ | exact Le1.refl _ | exact Le1.nil _ | exact Le1.tok _ _ _ | exact LeR.one (Le.refl _) | apply LeR.tup | apply LeL.cons | apply Le1L.cons | apply Le.agg | apply Le.one | apply LeR.one))
  · have hL' : ¬ (20000 : Int) < b.length := by omega
    have hlg : largeB [[1], b] = false := by simp [largeB]; omega
    rw [append_up (g := ⟨dL, []⟩) ⟨rfl, rfl⟩ hlg (by simp) (by show (((0 + 0) + (frs [[1], b]).length : Nat) : Int) ≤ 100000; omega)] at h3
    rw [cut_up (g := ⟨dL, []⟩) ⟨rfl, rfl⟩ (by omega) (by show (((fr b).length : Nat) : Int) ≤ 100000; omega)] at h4
    obtain ⟨Z, hZ⟩ : ∃ Z, Z = frs [[1], b] := ⟨_, rfl⟩
    obtain ⟨Y, hY⟩ : ∃ Y, Y = fr b := ⟨_, rfl⟩
    simp only [← hZ, ← hY] at h3 h4
    refine Run.god tab_ok follows_ok Try.func9 60 ?_; simp only [hw, hjj, decide_false, ↓alt_f, drun, aops, aone, aop, needs, ext, aev, aconst, aput, aupd, acmp, aarith, ashift, abin, aconv, tab_3, tab_5, ok1, exitTo, Option.getD_some, Option.bind_some, List.set_cons_zero, List.set_cons_succ, List.getElem?_cons_zero, List.getElem?_cons_succ, List.cons_append, List.nil_append, true_and, if_true, if_false, beq_self_eq_true, decide_false, List.getD_eq_getElem?_getD, Bool.false_eq_true]
    ((repeat' (apply And.intro)) <;> try (first | rfl | omega | (unfold I64; omega)))
    refine Ops.pure .free rfl rfl (h1) (by simp only [aev, aconst, List.map_cons, List.map_nil, List.nil_append, List.append_nil]; (repeat' (first | exact LeL.nil | exact Le1L.nil | exact Le.refl _ | exact Le1.refl _ | exact Le1.nil _ | exact Le1.tok _ _ _ | exact LeR.one (Le.refl _) | apply LeR.tup | apply LeL.cons | apply Le1L.cons | apply Le.agg | apply Le.one | apply LeR.one))) rfl rfl ?_
    refine Ops.god tab_ok follows_ok Try.func9 60 ?_; simp only [dL, Int.reduceNeg, drun, aops, aone, aop, needs, ext, aev, aput, aupd, aload, astore, tab_42, ok1, lay, cellsAs, TI.agg, AV.cells, AV.whole, Option.getD_some, Option.bind_some, Option.map_some, List.set_cons_zero, List.set_cons_succ, List.length_cons, List.length_nil, List.getElem?_cons_zero, List.getElem?_cons_succ, List.drop_zero, List.drop_succ_cons, List.take_succ_cons, List.take_zero, List.take_nil, List.drop_nil, List.map_nil, List.cons_append, List.nil_append, List.append_nil, true_and, and_true, if_true, if_false, Nat.reduceAdd, Nat.zero_add, Nat.le_refl, List.getD_eq_getElem?_getD, Bool.false_eq_true]
    refine Ops.pure .free rfl rfl (h2) (by simp only [dL, Int.reduceNeg, aev, Option.getD_some, List.getElem?_cons_zero, List.getElem?_cons_succ, List.map_cons, List.map_nil, List.nil_append, List.append_nil, List.getD_eq_getElem?_getD]; (repeat' (first | exact LeL.nil | exact Le1L.nil | exact Le.refl _ | exact Le1.refl _ | exact Le1.nil _ | exact Le1.tok _ _ _ | exact LeR.one (Le.refl _) | apply LeR.tup | apply LeL.cons | apply Le1L.cons | apply Le.agg | apply Le.one | apply LeR.one))) rfl rfl ?_
    refine Ops.god tab_ok follows_ok Try.func9 60 ?_; simp only [dL, Int.reduceNeg, drun, aops, aone, aop, needs, ext, aev, aconst, aput, aupd, aload, astore, aelems, plains, tab_5, tab_22, tab_34, tab_47, ok1, lay, cellsAs, TI.agg, AV.cells, AV.whole, AV.plain, AV.bare, Option.getD_some, Option.bind_some, Option.map_some, List.set_cons_zero, List.set_cons_succ, List.length_cons, List.length_nil, List.getElem?_cons_zero, List.getElem?_cons_succ, List.drop_zero, List.drop_succ_cons, List.take_succ_cons, List.take_zero, List.take_nil, List.drop_nil, List.map_cons, List.map_nil, List.cons_append, List.nil_append, List.append_nil, List.all_cons, List.all_nil, List.replicate_succ, List.replicate_zero, true_and, and_true, if_true, if_false, Nat.reduceAdd, Nat.reduceLeDiff, Nat.reduceMul, Nat.reduceBEq, Nat.zero_add, Bool.and_self, Bool.and_false, Nat.reduceLT, Nat.reduceLeDiff, Nat.le_refl, List.getD_eq_getElem?_getD, Bool.false_eq_true]
    ((repeat' (apply And.intro)) <;> try (first | rfl | omega | (unfold I64; omega)))
    refine Ops.pure .free rfl rfl (h3) (by simp only [encW, bytesA, rowsA, rowC, byteC, dL, Int.reduceNeg, aev, Option.getD_some, List.getElem?_cons_zero, List.getElem?_cons_succ, List.map_cons, List.map_nil, List.nil_append, List.append_nil, List.getD_eq_getElem?_getD]; (repeat' (first | exact LeL.nil | exact Le1L.nil | exact Le.refl _ | exact Le1.refl _ | exact Le1.nil _ | exact Le1.tok _ _ _ | exact LeR.one (Le.refl _) | apply LeR.tup | apply LeL.cons | apply Le1L.cons | apply Le.agg | apply Le.one | apply LeR.one))) rfl rfl ?_
    refine Ops.god tab_ok follows_ok Try.func9 60 ?_; simp only [encWE, encW, bytesA, rowsA, rowC, dL, Int.reduceNeg, drun, aops, aone, aop, needs, ext, aev, aput, aupd, aload, astore, tab_47, ok1, lay, cellsAs, TI.agg, AV.cells, AV.whole, Option.getD_some, Option.bind_some, Option.map_some, List.set_cons_zero, List.set_cons_succ, List.length_cons, List.length_nil, List.getElem?_cons_zero, List.getElem?_cons_succ, List.drop_zero, List.drop_succ_cons, List.take_succ_cons, List.take_zero, List.take_nil, List.drop_nil, List.map_cons, List.map_nil, List.cons_append, List.nil_append, List.append_nil, true_and, and_true, if_true, if_false, Nat.reduceAdd, Nat.zero_add, Nat.le_refl, List.getD_eq_getElem?_getD, Bool.false_eq_true]
    ((repeat' (apply And.intro)) <;> try (first | rfl | omega | (unfold I64; omega)))
    refine Ops.pure .free rfl rfl (h4) (by simp only [encW, bytesA, rowsA, dL, Int.reduceNeg, aev, Option.getD_some, List.getElem?_cons_zero, List.getElem?_cons_succ, List.map_cons, List.map_nil, List.nil_append, List.append_nil, List.getD_eq_getElem?_getD]; (repeat' (first | exact LeL.nil | exact Le1L.nil | exact Le.refl _ | exact Le1.refl _ | exact Le1.nil _ | exact Le1.tok _ _ _ | exact LeR.one (Le.refl _) | apply LeR.tup | apply LeL.cons | apply Le1L.cons | apply Le.agg | apply Le.one | apply LeR.one))) rfl rfl ?_
    refine Ops.god tab_ok follows_ok Try.func9 60 ?_; simp only [encWE, encW, bytesA, rowsA, rowC, dL, hL', List.length_map, decide_false, ↓alt_f, Int.reduceNeg, drun, aops, aone, aop, needs, ext, aev, aconst, aput, aupd, astore, acmp, ashift, abin, alen, tab_3, tab_22, tab_47, ok1, lay, AV.cells, AV.whole, Option.getD_some, Option.bind_some, Option.map_some, List.set_cons_zero, List.set_cons_succ, List.length_cons, List.length_nil, List.getElem?_cons_zero, List.getElem?_cons_succ, List.drop_succ_cons, List.take_zero, List.drop_nil, List.map_cons, List.map_nil, List.length_map, List.cons_append, List.nil_append, List.append_nil, true_and, and_true, if_true, if_false, Nat.reduceAdd, Nat.zero_add, decide_false, Nat.le_refl, List.getD_eq_getElem?_getD, Bool.false_eq_true]
    ((repeat' (apply And.intro)) <;> try (first | rfl | omega | (unfold I64; omega)))
    refine Ops.pure .free rfl rfl (hal) (by simp only [Int.reduceNeg, List.map_nil, List.append_nil]; (repeat' (first | exact LeL.nil | exact Le1L.nil | exact Le.refl _ | exact Le1.refl _ | exact Le1.nil _ | exact Le1.tok _ _ _ | exact LeR.one (Le.refl _) | apply LeR.tup | apply LeL.cons | apply Le1L.cons | apply Le.agg | apply Le.one | apply LeR.one))) rfl rfl ?_
    refine Ops.god tab_ok follows_ok Try.func9 60 ?_; simp only [Try.results9, decide_true, List.length_map, Int.toNat_zero, ↓alts_t, ↓alts_f, alts, ↓gone_tt, ↓gone_tf, gslot, Int.reduceLE, Int.reduceNeg, drun, aops, aone, afin, ares, aresL, ares1, aresOk, aresOk1, aop, needs, ext, aev, aconst, aput, aupd, aload, afieldAddr, aindexAddr, acmp, ashift, abin, alen, tab_3, tab_22, tab_25, tab_34, tab_47, ok1, cellsAs, TI.agg, Option.getD_some, Option.bind_some, Option.map_some, List.set_cons_zero, List.set_cons_succ, List.length_cons, List.length_nil, List.getElem?_cons_zero, List.getElem?_cons_succ, List.getElem?_toArray, List.drop_zero, List.drop_succ_cons, List.take_succ_cons, List.take_nil, List.length_map, List.cons_append, List.nil_append, true_and, and_true, if_true, if_false, Nat.reduceAdd, Nat.zero_add, decide_eq_true_eq, decide_eq_false_iff_not, decide_true, Nat.reduceLT, Nat.le_refl, List.getD_eq_getElem?_getD, Bool.false_eq_true]
    exact ⟨fun _ => ⟨fun _ => ⟨by decide, .one (.refl _)⟩, fun h => absurd rfl h⟩, fun h => absurd rfl h⟩
theorem lawLarge17 (m y : Int) (hm : (Lit.int .u8 m).wf = true) (hy : (Lit.int .u8 y).wf = true) : ASpec Try.prog 9 [.int .u8 m, .int .u8 y] (.bool true) := by
  have h : ∀ n : Int, (Lit.int .u8 n).wf = true → ∃ c : UInt8, n = c.toNat := fun n hn => by
    have hb : 0 ≤ n ∧ n < 256 := by
      have e1 : IntKind.u8.min = 0 := by decide
      have e2 : IntKind.u8.max = 255 := by decide
      unfold Lit.wf at hn
      simp only [Bool.and_eq_true, decide_eq_true_eq, e1, e2] at hn
      omega
    exact ⟨UInt8.ofNat n.toNat, by rw [UInt8.toNat_ofNat']; omega⟩
  obtain ⟨a, rfl⟩ := h m hm
  obtain ⟨c, rfl⟩ := h y hy
  exact large17 a.toNat (by have := a.toNat_lt; omega) c
end Go.Proofs.Ytcafahcmalfepaa
