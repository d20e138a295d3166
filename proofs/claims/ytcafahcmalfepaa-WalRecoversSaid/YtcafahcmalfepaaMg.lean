/-
  Several texts in one: We, Wf, Tp, Open, OpenS, Rd, RdW.
-/
import Derived.Test.YtcafahcmalfepaaMf
import Derived.Test.YtcafahcmalfepaaMc
import Derived.Test.YtcafahcmalfepaaMd
import Derived.SizedLaws
import Derived.OpenShut
/-
  The document's logs, by their shadows.
-/
namespace Go.Proofs.Ytcafahcmalfepaa
open Go.RowKit
theorem sync_eq {d : DD} (h : ((longS d : Nat) : Int) ≤ d.cap) : syncS d = if (actS d).2 = 0 then (allS (actS d).1, 0) else actS d := by
  unfold syncS doS
  split
  · rw [if_neg (by omega)]
  · rfl
theorem write_long {d : DD} (hr : rightB d = true) (hs : smD d) {b : Bytes} {y : DD} (h : writeS d b = (y, 0)) : ((longS y : Nat) : Int) ≤ y.cap := by
  obtain ⟨dn, fu, z, ha, hfu, hz⟩ := act_cases d hs.2.2
  unfold writeS at h
  rcases hz with ⟨rfl, rfl⟩ | ⟨rfl, rfl, _⟩
  · rw [do_down ha] at h; cases h
  · by_cases hc : d.cap < ((longS d + b.length : Nat) : Int)
    · rw [do_full ha hc] at h; cases h
    · rw [do_ok ha hc] at h
      cases h
      simp only [addS, longS, List.length_append] at hc ⊢
      omega
theorem rbytes_spec (d : DD) (hs : smD d) : ASpec Try.prog 58 [encD d] (bytesA (allD d)) := by
  obtain ⟨h1, h2, h3⟩ := hs
  rw [show bytesA (allD d) = .sl 1 (d.safe.map byteC ++ d.loose.map byteC) .no by simp [bytesA, allD]]
  refine ⟨⟨_, Try.func58, by kernel_rfl, rfl⟩, ACall.of Try.func58 rfl fun c0 hc0 => ?_⟩; simp only [Try.ntmps58, List.length_cons, List.length_nil, Nat.reduceAdd, Nat.reduceSub, List.replicate_succ, List.replicate_zero, List.cons_append, List.nil_append]; refine Run.god tab_ok follows_ok Try.func58 60 ?_; simp only [Try.results58, encD, bytesA, aappendM, drun, aops, aone, afin, ares, aresL, ares1, aresOk, aresOk1, aop, needs, ext, aev, aconst, aput, aupd, aload, afieldAddr, aelems, plains, asrc, aappend, tab_5, tab_22, tab_44, ok1, cellsAs, TI.agg, AV.cells, AV.whole, Option.getD_some, Option.bind_some, Option.map_some, List.set_cons_zero, List.set_cons_succ, List.length_cons, List.length_nil, List.getElem?_cons_zero, List.getElem?_cons_succ, List.getElem?_toArray, List.drop_zero, List.drop_succ_cons, List.take_succ_cons, List.take_zero, List.map_nil, List.length_map, List.cons_append, List.nil_append, List.all_nil, List.replicate_zero, true_and, and_true, if_true, if_false, Nat.reduceAdd, Nat.reduceLeDiff, Nat.reduceMul, Nat.zero_add, beq_self_eq_true, Bool.and_true, Nat.reduceLT, Nat.reduceLeDiff, List.getD_eq_getElem?_getD, Bool.false_eq_true]
  ((repeat' (apply And.intro)) <;> try (first | rfl | omega | (unfold I64; omega)))
  (repeat' (first | exact LeL.nil | exact Le1L.nil | exact Le.refl _ | exact Le1.refl _ | exact Le1.nil _ | exact Le1.tok _ _ _ | exact LeR.one (Le.refl _) | apply LeR.tup | apply LeL.cons | apply Le1L.cons | apply Le.agg | apply Le.one | apply LeR.one))
theorem rrecords_spec (d : DD) (hs : smD d) : ASpec Try.prog 35 [encD d] (rowsA (recordsS d)) := by
  have hb : (allD d).length ≤ 8000000 := by obtain ⟨h1, h2, h3⟩ := hs; unfold allD; rw [List.length_append]; omega
  refine ⟨⟨_, Try.func35, by kernel_rfl, rfl⟩, ACall.of Try.func35 rfl fun c0 hc0 => ?_⟩; simp only [Try.ntmps35, List.length_cons, List.length_nil, Nat.reduceAdd, Nat.reduceSub, List.replicate_succ, List.replicate_zero, List.cons_append, List.nil_append]; refine Run.god tab_ok follows_ok Try.func35 60 ?_; simp only [encD, bytesA, drun, aops, aone, aop, needs, ext, aev, aconst, aput, aupd, aload, tab_44, ok1, cellsAs, TI.agg, AV.cells, AV.whole, Option.getD_some, Option.bind_some, Option.map_some, List.set_cons_zero, List.set_cons_succ, List.length_cons, List.length_nil, List.getElem?_cons_zero, List.getElem?_cons_succ, List.drop_zero, List.take_succ_cons, List.take_nil, List.cons_append, List.nil_append, true_and, if_true, if_false, Nat.reduceAdd, Nat.zero_add, Nat.le_refl, List.getD_eq_getElem?_getD, Bool.false_eq_true]
  refine Ops.pure .free rfl rfl (rbytes_spec d hs) (by simp only [encD, bytesA, aev, Option.getD_some, List.getElem?_cons_zero, List.getElem?_cons_succ, List.map_cons, List.map_nil, List.nil_append, List.append_nil, List.getD_eq_getElem?_getD]; (repeat' (first | exact LeL.nil | exact Le1L.nil | exact Le.refl _ | exact Le1.refl _ | exact Le1.nil _ | exact Le1.tok _ _ _ | exact LeR.one (Le.refl _) | apply LeR.tup | apply LeL.cons | apply Le1L.cons | apply Le.agg | apply Le.one | apply LeR.one))) rfl rfl ?_
  refine Ops.god tab_ok follows_ok Try.func35 60 ?_; simp only [bytesA, aops, aone, aop, aput, List.set_cons_zero, List.set_cons_succ, Nat.reduceAdd]
  refine Ops.pure .free rfl rfl (rscan15_spec (allD d) hb) (by simp only [bytesA, aev, Option.getD_some, List.getElem?_cons_zero, List.getElem?_cons_succ, List.map_cons, List.map_nil, List.nil_append, List.append_nil, List.getD_eq_getElem?_getD]; (repeat' (first | exact LeL.nil | exact Le1L.nil | exact Le.refl _ | exact Le1.refl _ | exact Le1.nil _ | exact Le1.tok _ _ _ | exact LeR.one (Le.refl _) | apply LeR.tup | apply LeL.cons | apply Le1L.cons | apply Le.agg | apply Le.one | apply LeR.one))) rfl rfl ?_
  refine Ops.god tab_ok follows_ok Try.func35 60 ?_; simp only [Try.results35, rowsA, drun, aops, aone, afin, ares, aresL, ares1, aresOk, aresOk1, aop, needs, ext, aev, aput, aupd, ok1, Option.getD_some, Option.bind_some, Option.map_some, List.set_cons_zero, List.set_cons_succ, List.getElem?_cons_zero, List.getElem?_cons_succ, List.cons_append, List.nil_append, true_and, and_true, if_false, List.getD_eq_getElem?_getD, Bool.false_eq_true]
  simp only [recordsS]
  (repeat' (first | exact LeL.nil | exact Le1L.nil | exact Le.refl _ | exact Le1.refl _ | exact Le1.nil _ | exact Le1.tok _ _ _ | exact LeR.one (Le.refl _) | apply LeR.tup | apply LeL.cons | apply Le1L.cons | apply Le.agg | apply Le.one | apply LeR.one))
set_option maxRecDepth 20000 in
set_option maxHeartbeats 1000000 in
theorem ropen17_spec (d : DD) (hs : smD d) (hb : (allD d).length ≤ 1000000) : ASpec Try.prog 31 [encD d] (encWE (openS d)) := by
  have hrd := rbytes_spec d hs
  have hsc := rscan15_spec (allD d) (by omega)
  have htg := take_good d
  obtain ⟨sp1, sp2⟩ := scanS_split (allD d)
  have hrl : (scanS (allD d)).2.length ≤ (allD d).length := by
    have := congrArg List.length sp1; rw [List.length_append] at this; omega
  have hfl : (frs (recordsS d)).length ≤ 1000000 := by rw [← htg, List.length_take]; omega
  have hrp := rreplace_spec d hs (frs (recordsS d)) hfl
  rw [show (scanS (allD d)).1 = recordsS d from rfl] at hsc
  obtain ⟨T, hT⟩ : ∃ T, T = (scanS (allD d)).2 := ⟨_, rfl⟩
  rw [← hT] at hsc htg hrl
  cases hd : d.down with
  | true =>
    rw [show openS d = (⟨d, []⟩, 11) by unfold openS; rw [if_pos hd]]
    refine ⟨⟨_, Try.func31, by kernel_rfl, rfl⟩, ACall.of Try.func31 rfl fun c0 hc0 => ?_⟩; simp only [Try.ntmps31, List.length_cons, List.length_nil, Nat.reduceAdd, Nat.reduceSub, List.replicate_succ, List.replicate_zero, List.cons_append, List.nil_append]; refine Run.god tab_ok follows_ok Try.func31 60 ?_; simp only [encD, bytesA, hd, drun, aops, aone, aop, needs, ext, aev, aconst, aput, aupd, aload, tab_44, tab_51, ok1, cellsAs, TI.agg, AV.cells, AV.whole, Option.getD_some, Option.bind_some, Option.map_some, List.set_cons_zero, List.set_cons_succ, List.length_cons, List.length_nil, List.getElem?_cons_zero, List.getElem?_cons_succ, List.drop_zero, List.take_succ_cons, List.take_nil, List.cons_append, List.nil_append, true_and, if_true, if_false, Nat.reduceAdd, Nat.zero_add, Nat.le_refl, List.getD_eq_getElem?_getD, Bool.false_eq_true]
    refine Ops.pure .free rfl rfl (hrd) (by simp only [encD, bytesA, hd, aev, Option.getD_some, List.getElem?_cons_zero, List.getElem?_cons_succ, List.map_cons, List.map_nil, List.nil_append, List.append_nil, List.getD_eq_getElem?_getD]; (repeat' (first | exact LeL.nil | exact Le1L.nil | exact Le.refl _ | exact Le1.refl _ | exact Le1.nil _ | exact Le1.tok _ _ _ | exact LeR.one (Le.refl _) | apply LeR.tup | apply LeL.cons | apply Le1L.cons | apply Le.agg | apply Le.one | apply LeR.one))) rfl rfl ?_
    refine Ops.god tab_ok follows_ok Try.func31 60 ?_; simp only [bytesA, drun, aops, aone, aop, needs, ext, aev, aput, aupd, ok1, Option.getD_some, List.set_cons_zero, List.set_cons_succ, List.getElem?_cons_zero, List.getElem?_cons_succ, List.cons_append, List.nil_append, true_and, if_false, Nat.zero_add, List.getD_eq_getElem?_getD, Bool.false_eq_true]
    refine Ops.pure .free rfl rfl (hsc) (by simp only [bytesA, aev, Option.getD_some, List.getElem?_cons_zero, List.getElem?_cons_succ, List.map_cons, List.map_nil, List.nil_append, List.append_nil, List.getD_eq_getElem?_getD]; (repeat' (first | exact LeL.nil | exact Le1L.nil | exact Le.refl _ | exact Le1.refl _ | exact Le1.nil _ | exact Le1.tok _ _ _ | exact LeR.one (Le.refl _) | apply LeR.tup | apply LeL.cons | apply Le1L.cons | apply Le.agg | apply Le.one | apply LeR.one))) rfl rfl ?_
    refine Ops.god tab_ok follows_ok Try.func31 60 ?_; simp only [Try.results31, rowsA, ↓alt_t, drun, aops, aone, afin, ares, aresL, ares1, aresOk, aresOk1, aop, needs, ext, aev, aconst, aput, aupd, aload, astore, afieldAddr, abuild, tab_4, tab_44, tab_51, ok1, lay, cellsAs, TI.agg, AV.cells, AV.whole, Option.getD_some, Option.bind_some, Option.map_some, List.set_cons_zero, List.set_cons_succ, List.length_cons, List.length_nil, List.getElem?_cons_zero, List.getElem?_cons_succ, List.drop_zero, List.drop_succ_cons, List.take_succ_cons, List.take_zero, List.take_nil, List.drop_nil, List.map_cons, List.map_nil, List.cons_append, List.nil_append, List.append_nil, true_and, and_true, if_true, if_false, Nat.reduceAdd, Nat.reduceLeDiff, Nat.zero_add, Nat.reduceLeDiff, Nat.le_refl, List.getD_eq_getElem?_getD, Bool.false_eq_true]
    simp only [encWE, encW, rowsA, bytesA, List.map_nil, hd]
    (repeat' (first | exact LeL.nil | exact Le1L.nil | exact Le.refl _ | exact Le1.refl _ | exact Le1.nil _ | exact Le1.tok _ _ _ | exact LeR.one (Le.refl _) | apply LeR.tup | apply LeL.cons | apply Le1L.cons | apply Le.agg | apply Le.one | apply LeR.one))
  | false =>
  have hdn : ¬ d.down = true := by rw [hd]; decide
  by_cases hq : T = [] ∧ d.loose = []
  · obtain ⟨hq1, hq2⟩ := hq
    subst hq1
    rw [show openS d = (⟨d, recordsS d⟩, 0) by unfold openS; rw [if_neg hdn, if_pos ⟨hT.symm, hq2⟩]]
    have hl1 : ((allD d).length : Int) - 0 = (allD d).length := by omega
    have hl2 : (d.loose.length : Int) = 0 := by rw [hq2]; rfl
    refine ⟨⟨_, Try.func31, by kernel_rfl, rfl⟩, ACall.of Try.func31 rfl fun c0 hc0 => ?_⟩; simp only [Try.ntmps31, List.length_cons, List.length_nil, Nat.reduceAdd, Nat.reduceSub, List.replicate_succ, List.replicate_zero, List.cons_append, List.nil_append]; refine Run.god tab_ok follows_ok Try.func31 60 ?_; simp only [encD, bytesA, hd, drun, aops, aone, aop, needs, ext, aev, aconst, aput, aupd, aload, tab_44, tab_51, ok1, cellsAs, TI.agg, AV.cells, AV.whole, Option.getD_some, Option.bind_some, Option.map_some, List.set_cons_zero, List.set_cons_succ, List.length_cons, List.length_nil, List.getElem?_cons_zero, List.getElem?_cons_succ, List.drop_zero, List.take_succ_cons, List.take_nil, List.cons_append, List.nil_append, true_and, if_true, if_false, Nat.reduceAdd, Nat.zero_add, Nat.le_refl, List.getD_eq_getElem?_getD, Bool.false_eq_true]
    refine Ops.pure .free rfl rfl (hrd) (by simp only [encD, bytesA, hd, aev, Option.getD_some, List.getElem?_cons_zero, List.getElem?_cons_succ, List.map_cons, List.map_nil, List.nil_append, List.append_nil, List.getD_eq_getElem?_getD]; (repeat' (first | exact LeL.nil | exact Le1L.nil | exact Le.refl _ | exact Le1.refl _ | exact Le1.nil _ | exact Le1.tok _ _ _ | exact LeR.one (Le.refl _) | apply LeR.tup | apply LeL.cons | apply Le1L.cons | apply Le.agg | apply Le.one | apply LeR.one))) rfl rfl ?_
    refine Ops.god tab_ok follows_ok Try.func31 60 ?_; simp only [bytesA, drun, aops, aone, aop, needs, ext, aev, aput, aupd, ok1, Option.getD_some, List.set_cons_zero, List.set_cons_succ, List.getElem?_cons_zero, List.getElem?_cons_succ, List.cons_append, List.nil_append, true_and, if_false, Nat.zero_add, List.getD_eq_getElem?_getD, Bool.false_eq_true]
    refine Ops.pure .free rfl rfl (hsc) (by simp only [bytesA, aev, Option.getD_some, List.getElem?_cons_zero, List.getElem?_cons_succ, List.map_cons, List.map_nil, List.nil_append, List.append_nil, List.getD_eq_getElem?_getD]; (repeat' (first | exact LeL.nil | exact Le1L.nil | exact Le.refl _ | exact Le1.refl _ | exact Le1.nil _ | exact Le1.tok _ _ _ | exact LeR.one (Le.refl _) | apply LeR.tup | apply LeL.cons | apply Le1L.cons | apply Le.agg | apply Le.one | apply LeR.one))) rfl rfl ?_
    refine Ops.god tab_ok follows_ok Try.func31 60 ?_; simp only [Try.results31, rowsA, hl1, hl2, List.length_map, decide_true, Int.natCast_zero, ↓alt_t, ↓alt_f, ↓alts_t, ↓gone_tt, gslot, drun, aops, aone, afin, ares, aresL, ares1, aresOk, aresOk1, aop, needs, ext, aev, aconst, aput, aupd, aload, astore, afieldAddr, acmp, ashift, abin, alen, abuild, tab_3, tab_4, tab_22, tab_34, tab_44, tab_51, ok1, lay, cellsAs, TI.agg, AV.cells, AV.whole, Option.getD_some, Option.bind_some, Option.map_some, List.set_cons_zero, List.set_cons_succ, List.length_cons, List.length_nil, List.getElem?_cons_zero, List.getElem?_cons_succ, List.getElem?_toArray, List.drop_zero, List.drop_succ_cons, List.take_succ_cons, List.take_zero, List.take_nil, List.drop_nil, List.map_cons, List.map_nil, List.length_map, List.cons_append, List.nil_append, List.append_nil, true_and, and_true, if_true, if_false, Nat.reduceAdd, Nat.reduceLeDiff, Nat.zero_add, decide_true, Nat.reduceLeDiff, Nat.le_refl, List.getD_eq_getElem?_getD, Bool.false_eq_true]
    simp only [encWE, encW, rowsA, bytesA, hd]
    (repeat' (first | exact LeL.nil | exact Le1L.nil | exact Le.refl _ | exact Le1.refl _ | exact Le1.nil _ | exact Le1.tok _ _ _ | exact LeR.one (Le.refl _) | apply LeR.tup | apply LeL.cons | apply Le1L.cons | apply Le.agg | apply Le.one | apply LeR.one))
  · have hkk : (((allD d).length : Int) - (T.length : Nat)).toNat = (allD d).length - T.length := by omega
    have hkl : (allD d).length - T.length ≤ (allD d).length := by omega
    have hnq : ¬ ((scanS (allD d)).2 = [] ∧ d.loose = []) := by rw [← hT]; exact hq
    have hcase : ¬ ((allD d).length : Int) - (T.length : Nat) = (allD d).length ∨ ((allD d).length : Int) - (T.length : Nat) = (allD d).length ∧ ¬ (d.loose.length : Int) = 0 := by
      by_cases h0 : T = []
      · refine .inr ⟨by rw [h0]; simp, ?_⟩
        have := List.length_pos_iff.2 (fun e => hq ⟨h0, e⟩); omega
      · have := List.length_pos_iff.2 h0; exact .inl (by omega)
    obtain ⟨x, z, hz⟩ : ∃ x z, replaceS d (frs (recordsS d)) = (x, z) := ⟨_, _, rfl⟩
    rw [hz] at hrp
    have key : (allD d).take ((allD d).length - T.length) = frs (recordsS d) := htg
    have key1 : ((allD d).length : Int) - (T.length : Nat) = (allD d).length → (allD d).take (allD d).length = frs (recordsS d) := fun h => by
      rw [← key, show T.length = 0 by omega, Nat.sub_zero]
    by_cases hz0 : z = 0
    · subst hz0
      rw [show openS d = (⟨x, recordsS d⟩, 0) by unfold openS; rw [if_neg hdn, if_neg hnq, hz, if_pos rfl]]
      rcases hcase with hc | ⟨hc1, hc2⟩
      · refine ⟨⟨_, Try.func31, by kernel_rfl, rfl⟩, ACall.of Try.func31 rfl fun c0 hc0 => ?_⟩; simp only [Try.ntmps31, List.length_cons, List.length_nil, Nat.reduceAdd, Nat.reduceSub, List.replicate_succ, List.replicate_zero, List.cons_append, List.nil_append]; refine Run.god tab_ok follows_ok Try.func31 60 ?_; simp only [encD, bytesA, hd, drun, aops, aone, aop, needs, ext, aev, aconst, aput, aupd, aload, tab_44, tab_51, ok1, cellsAs, TI.agg, AV.cells, AV.whole, Option.getD_some, Option.bind_some, Option.map_some, List.set_cons_zero, List.set_cons_succ, List.length_cons, List.length_nil, List.getElem?_cons_zero, List.getElem?_cons_succ, List.drop_zero, List.take_succ_cons, List.take_nil, List.cons_append, List.nil_append, true_and, if_true, if_false, Nat.reduceAdd, Nat.zero_add, Nat.le_refl, List.getD_eq_getElem?_getD, Bool.false_eq_true]
        refine Ops.pure .free rfl rfl (hrd) (by simp only [encD, bytesA, hd, aev, Option.getD_some, List.getElem?_cons_zero, List.getElem?_cons_succ, List.map_cons, List.map_nil, List.nil_append, List.append_nil, List.getD_eq_getElem?_getD]; (repeat' (first | exact LeL.nil | exact Le1L.nil | exact Le.refl _ | exact Le1.refl _ | exact Le1.nil _ | exact Le1.tok _ _ _ | exact LeR.one (Le.refl _) | apply LeR.tup | apply LeL.cons | apply Le1L.cons | apply Le.agg | apply Le.one | apply LeR.one))) rfl rfl ?_
        refine Ops.god tab_ok follows_ok Try.func31 60 ?_; simp only [bytesA, drun, aops, aone, aop, needs, ext, aev, aput, aupd, ok1, Option.getD_some, List.set_cons_zero, List.set_cons_succ, List.getElem?_cons_zero, List.getElem?_cons_succ, List.cons_append, List.nil_append, true_and, if_false, Nat.zero_add, List.getD_eq_getElem?_getD, Bool.false_eq_true]
        refine Ops.pure .free rfl rfl (hsc) (by simp only [bytesA, aev, Option.getD_some, List.getElem?_cons_zero, List.getElem?_cons_succ, List.map_cons, List.map_nil, List.nil_append, List.append_nil, List.getD_eq_getElem?_getD]; (repeat' (first | exact LeL.nil | exact Le1L.nil | exact Le.refl _ | exact Le1.refl _ | exact Le1.nil _ | exact Le1.tok _ _ _ | exact LeR.one (Le.refl _) | apply LeR.tup | apply LeL.cons | apply Le1L.cons | apply Le.agg | apply Le.one | apply LeR.one))) rfl rfl ?_
        refine Ops.god tab_ok follows_ok Try.func31 60 ?_; simp only [rowsA, hc, hkk, List.length_map, decide_false, ↓alt_f, ↓alts_f, ↓gone_tf, gslot, drun, adops, adone, places, mayNeed, freeOk, rdOf, AV.id, wrOf, aops, aone, aop, needs, ext, aev, aconst, aput, aupd, aload, afieldAddr, acmp, ashift, abin, alen, aslice, tab_3, tab_4, tab_5, tab_22, tab_44, ok1, cellsAs, TI.agg, Option.getD_some, Option.bind_some, Option.map_some, Option.map_none, List.set_cons_zero, List.set_cons_succ, List.length_cons, List.length_nil, List.getElem?_cons_zero, List.getElem?_cons_succ, List.getElem?_toArray, List.drop_zero, List.drop_succ_cons, List.take_succ_cons, List.take_zero, List.take_nil, List.length_map, List.cons_append, List.nil_append, true_and, and_true, if_true, if_false, Nat.reduceAdd, Nat.reduceLeDiff, Nat.zero_add, decide_false, Nat.reduceLeDiff, Nat.le_refl, List.getD_eq_getElem?_getD, Option.isSome_none, Bool.false_eq_true]
        ((repeat' (apply And.intro)) <;> try (first | rfl | omega | (unfold I64; omega)))
        rw [← List.map_take, key]
        refine DOps.pure rfl .free rfl rfl (hrp) (by simp only [encD, bytesA, hd, aev, Option.getD_some, List.getElem?_cons_zero, List.getElem?_cons_succ, List.map_cons, List.map_nil, List.nil_append, List.append_nil, List.getD_eq_getElem?_getD]; (repeat' (first | exact LeL.nil | exact Le1L.nil | exact Le.refl _ | exact Le1.refl _ | exact Le1.nil _ | exact Le1.tok _ _ _ | exact LeR.one (Le.refl _) | apply LeR.tup | apply LeL.cons | apply Le1L.cons | apply Le.agg | apply Le.one | apply LeR.one))) rfl rfl ?_
        refine DOps.god tab_ok follows_ok Try.func31 60 rfl ?_; simp only [Try.results31, encDE, encD, bytesA, ↓alt_f, drun, adops, adone, mayNeed, freeOk, rdOf, AV.id, wrOf, aops, aone, afin, ares, aresL, ares1, aresOk, aresOk1, aop, needs, ext, aev, aconst, aput, aupd, aload, astore, acmp, ashift, abin, abuild, tab_25, tab_34, tab_44, tab_51, ok1, lay, cellsAs, TI.agg, AV.cells, AV.whole, Option.getD_some, Option.bind_some, Option.map_some, List.set_cons_zero, List.set_cons_succ, List.length_cons, List.length_nil, List.getElem?_cons_zero, List.getElem?_cons_succ, List.drop_zero, List.drop_succ_cons, List.take_succ_cons, List.take_zero, List.take_nil, List.drop_nil, List.map_cons, List.map_nil, List.cons_append, List.nil_append, List.append_nil, true_and, and_true, if_true, if_false, Nat.reduceAdd, Nat.reduceLeDiff, Nat.zero_add, Bool.not_true, decide_true, Nat.reduceLeDiff, Nat.le_refl, List.getD_eq_getElem?_getD, Bool.false_eq_true]
        ((repeat' (apply And.intro)) <;> try (first | rfl | omega | (unfold I64; omega)))
        simp only [encWE, encW, rowsA, bytesA]
        (repeat' (first | exact LeL.nil | exact Le1L.nil | exact Le.refl _ | exact Le1.refl _ | exact Le1.nil _ | exact Le1.tok _ _ _ | exact LeR.one (Le.refl _) | apply LeR.tup | apply LeL.cons | apply Le1L.cons | apply Le.agg | apply Le.one | apply LeR.one))
      · refine ⟨⟨_, Try.func31, by kernel_rfl, rfl⟩, ACall.of Try.func31 rfl fun c0 hc0 => ?_⟩; simp only [Try.ntmps31, List.length_cons, List.length_nil, Nat.reduceAdd, Nat.reduceSub, List.replicate_succ, List.replicate_zero, List.cons_append, List.nil_append]; refine Run.god tab_ok follows_ok Try.func31 60 ?_; simp only [encD, bytesA, hd, drun, aops, aone, aop, needs, ext, aev, aconst, aput, aupd, aload, tab_44, tab_51, ok1, cellsAs, TI.agg, AV.cells, AV.whole, Option.getD_some, Option.bind_some, Option.map_some, List.set_cons_zero, List.set_cons_succ, List.length_cons, List.length_nil, List.getElem?_cons_zero, List.getElem?_cons_succ, List.drop_zero, List.take_succ_cons, List.take_nil, List.cons_append, List.nil_append, true_and, if_true, if_false, Nat.reduceAdd, Nat.zero_add, Nat.le_refl, List.getD_eq_getElem?_getD, Bool.false_eq_true]
        refine Ops.pure .free rfl rfl (hrd) (by simp only [encD, bytesA, hd, aev, Option.getD_some, List.getElem?_cons_zero, List.getElem?_cons_succ, List.map_cons, List.map_nil, List.nil_append, List.append_nil, List.getD_eq_getElem?_getD]; (repeat' (first | exact LeL.nil | exact Le1L.nil | exact Le.refl _ | exact Le1.refl _ | exact Le1.nil _ | exact Le1.tok _ _ _ | exact LeR.one (Le.refl _) | apply LeR.tup | apply LeL.cons | apply Le1L.cons | apply Le.agg | apply Le.one | apply LeR.one))) rfl rfl ?_
        refine Ops.god tab_ok follows_ok Try.func31 60 ?_; simp only [bytesA, drun, aops, aone, aop, needs, ext, aev, aput, aupd, ok1, Option.getD_some, List.set_cons_zero, List.set_cons_succ, List.getElem?_cons_zero, List.getElem?_cons_succ, List.cons_append, List.nil_append, true_and, if_false, Nat.zero_add, List.getD_eq_getElem?_getD, Bool.false_eq_true]
        refine Ops.pure .free rfl rfl (hsc) (by simp only [bytesA, aev, Option.getD_some, List.getElem?_cons_zero, List.getElem?_cons_succ, List.map_cons, List.map_nil, List.nil_append, List.append_nil, List.getD_eq_getElem?_getD]; (repeat' (first | exact LeL.nil | exact Le1L.nil | exact Le.refl _ | exact Le1.refl _ | exact Le1.nil _ | exact Le1.tok _ _ _ | exact LeR.one (Le.refl _) | apply LeR.tup | apply LeL.cons | apply Le1L.cons | apply Le.agg | apply Le.one | apply LeR.one))) rfl rfl ?_
        refine Ops.god tab_ok follows_ok Try.func31 60 ?_; simp only [rowsA, hc1, hc2, List.length_map, decide_true, decide_false, ↓alt_f, ↓alts_t, ↓gone_tt, gslot, drun, adops, adone, places, mayNeed, freeOk, rdOf, AV.id, wrOf, aops, aone, aop, needs, ext, aev, aconst, aput, aupd, aload, afieldAddr, acmp, ashift, abin, alen, aslice, tab_3, tab_4, tab_5, tab_22, tab_44, ok1, cellsAs, TI.agg, Option.getD_some, Option.bind_some, Option.map_some, Option.map_none, List.set_cons_zero, List.set_cons_succ, List.length_cons, List.length_nil, List.getElem?_cons_zero, List.getElem?_cons_succ, List.getElem?_toArray, List.drop_zero, List.drop_succ_cons, List.take_succ_cons, List.take_zero, List.take_nil, List.length_map, List.cons_append, List.nil_append, true_and, and_true, if_true, if_false, Nat.reduceAdd, Nat.reduceLeDiff, Nat.zero_add, decide_true, decide_false, Nat.reduceLeDiff, Nat.le_refl, Int.toNat_natCast, List.getD_eq_getElem?_getD, Option.isSome_none, Bool.false_eq_true]
        ((repeat' (apply And.intro)) <;> try (first | rfl | omega | (unfold I64; omega)))
        rw [← List.map_take, key1 hc1]
        refine DOps.pure rfl .free rfl rfl (hrp) (by simp only [encD, bytesA, hd, aev, Option.getD_some, List.getElem?_cons_zero, List.getElem?_cons_succ, List.map_cons, List.map_nil, List.nil_append, List.append_nil, List.getD_eq_getElem?_getD]; (repeat' (first | exact LeL.nil | exact Le1L.nil | exact Le.refl _ | exact Le1.refl _ | exact Le1.nil _ | exact Le1.tok _ _ _ | exact LeR.one (Le.refl _) | apply LeR.tup | apply LeL.cons | apply Le1L.cons | apply Le.agg | apply Le.one | apply LeR.one))) rfl rfl ?_
        refine DOps.god tab_ok follows_ok Try.func31 60 rfl ?_; simp only [Try.results31, encDE, encD, bytesA, ↓alt_f, drun, adops, adone, mayNeed, freeOk, rdOf, AV.id, wrOf, aops, aone, afin, ares, aresL, ares1, aresOk, aresOk1, aop, needs, ext, aev, aconst, aput, aupd, aload, astore, acmp, ashift, abin, abuild, tab_25, tab_34, tab_44, tab_51, ok1, lay, cellsAs, TI.agg, AV.cells, AV.whole, Option.getD_some, Option.bind_some, Option.map_some, List.set_cons_zero, List.set_cons_succ, List.length_cons, List.length_nil, List.getElem?_cons_zero, List.getElem?_cons_succ, List.drop_zero, List.drop_succ_cons, List.take_succ_cons, List.take_zero, List.take_nil, List.drop_nil, List.map_cons, List.map_nil, List.cons_append, List.nil_append, List.append_nil, true_and, and_true, if_true, if_false, Nat.reduceAdd, Nat.reduceLeDiff, Nat.zero_add, Bool.not_true, decide_true, Nat.reduceLeDiff, Nat.le_refl, List.getD_eq_getElem?_getD, Bool.false_eq_true]
        ((repeat' (apply And.intro)) <;> try (first | rfl | omega | (unfold I64; omega)))
        simp only [encWE, encW, rowsA, bytesA]
        (repeat' (first | exact LeL.nil | exact Le1L.nil | exact Le.refl _ | exact Le1.refl _ | exact Le1.nil _ | exact Le1.tok _ _ _ | exact LeR.one (Le.refl _) | apply LeR.tup | apply LeL.cons | apply Le1L.cons | apply Le.agg | apply Le.one | apply LeR.one))
    · rw [show openS d = (⟨x, []⟩, z) by unfold openS; rw [if_neg hdn, if_neg hnq, hz, if_neg hz0]]
      rcases hcase with hc | ⟨hc1, hc2⟩
      · refine ⟨⟨_, Try.func31, by kernel_rfl, rfl⟩, ACall.of Try.func31 rfl fun c0 hc0 => ?_⟩; simp only [Try.ntmps31, List.length_cons, List.length_nil, Nat.reduceAdd, Nat.reduceSub, List.replicate_succ, List.replicate_zero, List.cons_append, List.nil_append]; refine Run.god tab_ok follows_ok Try.func31 60 ?_; simp only [encD, bytesA, hd, drun, aops, aone, aop, needs, ext, aev, aconst, aput, aupd, aload, tab_44, tab_51, ok1, cellsAs, TI.agg, AV.cells, AV.whole, Option.getD_some, Option.bind_some, Option.map_some, List.set_cons_zero, List.set_cons_succ, List.length_cons, List.length_nil, List.getElem?_cons_zero, List.getElem?_cons_succ, List.drop_zero, List.take_succ_cons, List.take_nil, List.cons_append, List.nil_append, true_and, if_true, if_false, Nat.reduceAdd, Nat.zero_add, Nat.le_refl, List.getD_eq_getElem?_getD, Bool.false_eq_true]
        refine Ops.pure .free rfl rfl (hrd) (by simp only [encD, bytesA, hd, aev, Option.getD_some, List.getElem?_cons_zero, List.getElem?_cons_succ, List.map_cons, List.map_nil, List.nil_append, List.append_nil, List.getD_eq_getElem?_getD]; (repeat' (first | exact LeL.nil | exact Le1L.nil | exact Le.refl _ | exact Le1.refl _ | exact Le1.nil _ | exact Le1.tok _ _ _ | exact LeR.one (Le.refl _) | apply LeR.tup | apply LeL.cons | apply Le1L.cons | apply Le.agg | apply Le.one | apply LeR.one))) rfl rfl ?_
        refine Ops.god tab_ok follows_ok Try.func31 60 ?_; simp only [bytesA, drun, aops, aone, aop, needs, ext, aev, aput, aupd, ok1, Option.getD_some, List.set_cons_zero, List.set_cons_succ, List.getElem?_cons_zero, List.getElem?_cons_succ, List.cons_append, List.nil_append, true_and, if_false, Nat.zero_add, List.getD_eq_getElem?_getD, Bool.false_eq_true]
        refine Ops.pure .free rfl rfl (hsc) (by simp only [bytesA, aev, Option.getD_some, List.getElem?_cons_zero, List.getElem?_cons_succ, List.map_cons, List.map_nil, List.nil_append, List.append_nil, List.getD_eq_getElem?_getD]; (repeat' (first | exact LeL.nil | exact Le1L.nil | exact Le.refl _ | exact Le1.refl _ | exact Le1.nil _ | exact Le1.tok _ _ _ | exact LeR.one (Le.refl _) | apply LeR.tup | apply LeL.cons | apply Le1L.cons | apply Le.agg | apply Le.one | apply LeR.one))) rfl rfl ?_
        refine Ops.god tab_ok follows_ok Try.func31 60 ?_; simp only [rowsA, hc, hkk, List.length_map, decide_false, ↓alt_f, ↓alts_f, ↓gone_tf, gslot, drun, adops, adone, places, mayNeed, freeOk, rdOf, AV.id, wrOf, aops, aone, aop, needs, ext, aev, aconst, aput, aupd, aload, afieldAddr, acmp, ashift, abin, alen, aslice, tab_3, tab_4, tab_5, tab_22, tab_44, ok1, cellsAs, TI.agg, Option.getD_some, Option.bind_some, Option.map_some, Option.map_none, List.set_cons_zero, List.set_cons_succ, List.length_cons, List.length_nil, List.getElem?_cons_zero, List.getElem?_cons_succ, List.getElem?_toArray, List.drop_zero, List.drop_succ_cons, List.take_succ_cons, List.take_zero, List.take_nil, List.length_map, List.cons_append, List.nil_append, true_and, and_true, if_true, if_false, Nat.reduceAdd, Nat.reduceLeDiff, Nat.zero_add, decide_false, Nat.reduceLeDiff, Nat.le_refl, List.getD_eq_getElem?_getD, Option.isSome_none, Bool.false_eq_true]
        ((repeat' (apply And.intro)) <;> try (first | rfl | omega | (unfold I64; omega)))
        rw [← List.map_take, key]
        refine DOps.pure rfl .free rfl rfl (hrp) (by simp only [encD, bytesA, hd, aev, Option.getD_some, List.getElem?_cons_zero, List.getElem?_cons_succ, List.map_cons, List.map_nil, List.nil_append, List.append_nil, List.getD_eq_getElem?_getD]; (repeat' (first | exact LeL.nil | exact Le1L.nil | exact Le.refl _ | exact Le1.refl _ | exact Le1.nil _ | exact Le1.tok _ _ _ | exact LeR.one (Le.refl _) | apply LeR.tup | apply LeL.cons | apply Le1L.cons | apply Le.agg | apply Le.one | apply LeR.one))) rfl rfl ?_
        refine DOps.god tab_ok follows_ok Try.func31 60 rfl ?_; simp only [Try.results31, encDE, encD, bytesA, hz0, ↓alt_t, drun, adops, adone, mayNeed, freeOk, rdOf, AV.id, wrOf, aops, aone, afin, ares, aresL, ares1, aresOk, aresOk1, aop, needs, ext, aev, aconst, aput, aupd, aload, astore, acmp, ashift, abin, abuild, tab_25, tab_44, tab_51, ok1, lay, cellsAs, TI.agg, AV.cells, AV.whole, Option.getD_some, Option.bind_some, Option.map_some, List.set_cons_zero, List.set_cons_succ, List.length_cons, List.length_nil, List.getElem?_cons_zero, List.getElem?_cons_succ, List.drop_zero, List.drop_succ_cons, List.take_succ_cons, List.take_zero, List.take_nil, List.drop_nil, List.map_cons, List.map_nil, List.cons_append, List.nil_append, List.append_nil, true_and, and_true, if_true, if_false, Nat.reduceAdd, Nat.reduceLeDiff, Nat.zero_add, Bool.not_false, decide_false, Nat.reduceLeDiff, Nat.le_refl, List.getD_eq_getElem?_getD, Bool.false_eq_true]
        ((repeat' (apply And.intro)) <;> try (first | rfl | omega | (unfold I64; omega)))
        simp only [encWE, encW, rowsA, bytesA, List.map_nil]
        (repeat' (first | exact LeL.nil | exact Le1L.nil | exact Le.refl _ | exact Le1.refl _ | exact Le1.nil _ | exact Le1.tok _ _ _ | exact LeR.one (Le.refl _) | apply LeR.tup | apply LeL.cons | apply Le1L.cons | apply Le.agg | apply Le.one | apply LeR.one))
      · refine ⟨⟨_, Try.func31, by kernel_rfl, rfl⟩, ACall.of Try.func31 rfl fun c0 hc0 => ?_⟩; simp only [Try.ntmps31, List.length_cons, List.length_nil, Nat.reduceAdd, Nat.reduceSub, List.replicate_succ, List.replicate_zero, List.cons_append, List.nil_append]; refine Run.god tab_ok follows_ok Try.func31 60 ?_; simp only [encD, bytesA, hd, drun, aops, aone, aop, needs, ext, aev, aconst, aput, aupd, aload, tab_44, tab_51, ok1, cellsAs, TI.agg, AV.cells, AV.whole, Option.getD_some, Option.bind_some, Option.map_some, List.set_cons_zero, List.set_cons_succ, List.length_cons, List.length_nil, List.getElem?_cons_zero, List.getElem?_cons_succ, List.drop_zero, List.take_succ_cons, List.take_nil, List.cons_append, List.nil_append, true_and, if_true, if_false, Nat.reduceAdd, Nat.zero_add, Nat.le_refl, List.getD_eq_getElem?_getD, Bool.false_eq_true]
        refine Ops.pure .free rfl rfl (hrd) (by simp only [encD, bytesA, hd, aev, Option.getD_some, List.getElem?_cons_zero, List.getElem?_cons_succ, List.map_cons, List.map_nil, List.nil_append, List.append_nil, List.getD_eq_getElem?_getD]; (repeat' (first | exact LeL.nil | exact Le1L.nil | exact Le.refl _ | exact Le1.refl _ | exact Le1.nil _ | exact Le1.tok _ _ _ | exact LeR.one (Le.refl _) | apply LeR.tup | apply LeL.cons | apply Le1L.cons | apply Le.agg | apply Le.one | apply LeR.one))) rfl rfl ?_
        refine Ops.god tab_ok follows_ok Try.func31 60 ?_; simp only [bytesA, drun, aops, aone, aop, needs, ext, aev, aput, aupd, ok1, Option.getD_some, List.set_cons_zero, List.set_cons_succ, List.getElem?_cons_zero, List.getElem?_cons_succ, List.cons_append, List.nil_append, true_and, if_false, Nat.zero_add, List.getD_eq_getElem?_getD, Bool.false_eq_true]
        refine Ops.pure .free rfl rfl (hsc) (by simp only [bytesA, aev, Option.getD_some, List.getElem?_cons_zero, List.getElem?_cons_succ, List.map_cons, List.map_nil, List.nil_append, List.append_nil, List.getD_eq_getElem?_getD]; (repeat' (first | exact LeL.nil | exact Le1L.nil | exact Le.refl _ | exact Le1.refl _ | exact Le1.nil _ | exact Le1.tok _ _ _ | exact LeR.one (Le.refl _) | apply LeR.tup | apply LeL.cons | apply Le1L.cons | apply Le.agg | apply Le.one | apply LeR.one))) rfl rfl ?_
        refine Ops.god tab_ok follows_ok Try.func31 60 ?_; simp only [rowsA, hc1, hc2, List.length_map, decide_true, decide_false, ↓alt_f, ↓alts_t, ↓gone_tt, gslot, drun, adops, adone, places, mayNeed, freeOk, rdOf, AV.id, wrOf, aops, aone, aop, needs, ext, aev, aconst, aput, aupd, aload, afieldAddr, acmp, ashift, abin, alen, aslice, tab_3, tab_4, tab_5, tab_22, tab_44, ok1, cellsAs, TI.agg, Option.getD_some, Option.bind_some, Option.map_some, Option.map_none, List.set_cons_zero, List.set_cons_succ, List.length_cons, List.length_nil, List.getElem?_cons_zero, List.getElem?_cons_succ, List.getElem?_toArray, List.drop_zero, List.drop_succ_cons, List.take_succ_cons, List.take_zero, List.take_nil, List.length_map, List.cons_append, List.nil_append, true_and, and_true, if_true, if_false, Nat.reduceAdd, Nat.reduceLeDiff, Nat.zero_add, decide_true, decide_false, Nat.reduceLeDiff, Nat.le_refl, Int.toNat_natCast, List.getD_eq_getElem?_getD, Option.isSome_none, Bool.false_eq_true]
        ((repeat' (apply And.intro)) <;> try (first | rfl | omega | (unfold I64; omega)))
        rw [← List.map_take, key1 hc1]
        refine DOps.pure rfl .free rfl rfl (hrp) (by simp only [encD, bytesA, hd, aev, Option.getD_some, List.getElem?_cons_zero, List.getElem?_cons_succ, List.map_cons, List.map_nil, List.nil_append, List.append_nil, List.getD_eq_getElem?_getD]; (repeat' (first | exact LeL.nil | exact Le1L.nil | exact Le.refl _ | exact Le1.refl _ | exact Le1.nil _ | exact Le1.tok _ _ _ | exact LeR.one (Le.refl _) | apply LeR.tup | apply LeL.cons | apply Le1L.cons | apply Le.agg | apply Le.one | apply LeR.one))) rfl rfl ?_
        refine DOps.god tab_ok follows_ok Try.func31 60 rfl ?_; simp only [Try.results31, encDE, encD, bytesA, hz0, ↓alt_t, drun, adops, adone, mayNeed, freeOk, rdOf, AV.id, wrOf, aops, aone, afin, ares, aresL, ares1, aresOk, aresOk1, aop, needs, ext, aev, aconst, aput, aupd, aload, astore, acmp, ashift, abin, abuild, tab_25, tab_44, tab_51, ok1, lay, cellsAs, TI.agg, AV.cells, AV.whole, Option.getD_some, Option.bind_some, Option.map_some, List.set_cons_zero, List.set_cons_succ, List.length_cons, List.length_nil, List.getElem?_cons_zero, List.getElem?_cons_succ, List.drop_zero, List.drop_succ_cons, List.take_succ_cons, List.take_zero, List.take_nil, List.drop_nil, List.map_cons, List.map_nil, List.cons_append, List.nil_append, List.append_nil, true_and, and_true, if_true, if_false, Nat.reduceAdd, Nat.reduceLeDiff, Nat.zero_add, Bool.not_false, decide_false, Nat.reduceLeDiff, Nat.le_refl, List.getD_eq_getElem?_getD, Bool.false_eq_true]
        ((repeat' (apply And.intro)) <;> try (first | rfl | omega | (unfold I64; omega)))
        simp only [encWE, encW, rowsA, bytesA, List.map_nil]
        (repeat' (first | exact LeL.nil | exact Le1L.nil | exact Le.refl _ | exact Le1.refl _ | exact Le1.nil _ | exact Le1.tok _ _ _ | exact LeR.one (Le.refl _) | apply LeR.tup | apply LeL.cons | apply Le1L.cons | apply Le.agg | apply Le.one | apply LeR.one))
set_option maxRecDepth 20000 in
theorem rlarge_spec (l : List Bytes) (hl : l.length ≤ 100000000) : ASpec Try.prog 68 [rowsA l] (.bool (largeB l)) := by
  refine ⟨⟨_, Try.func68, by kernel_rfl, rfl⟩, ACall.of Try.func68 rfl fun c0 hc0 => ?_⟩; simp only [Try.ntmps68, List.length_cons, List.length_nil, Nat.reduceAdd, Nat.reduceSub, List.replicate_succ, List.replicate_zero, List.cons_append, List.nil_append]; refine Run.god tab_ok follows_ok Try.func68 60 ?_; simp only [rowsA, drun, aops, aone, aop, needs, ext, aev, aconst, aput, aupd, ok1, List.set_cons_zero, List.set_cons_succ, List.nil_append, true_and, if_false, Bool.false_eq_true]
  refine Run.loopV (α := Nat) (fun k => k ≤ l.length ∧ ∀ j y, j < k → l[j]? = some y → largeP y = false) (fun k => [(3, .int .i64 k)]) 0 (fun _ => []) (fun k => l.length - k) 0 ⟨Nat.zero_le _, fun j y h => absurd h (Nat.not_lt_zero j)⟩ ?_ ?_
  · simp only [writes, junks, puts, hputs, List.filterMap_cons, List.filterMap_nil, Int.natCast_zero, List.set_cons_zero, List.set_cons_succ, List.take_nil, List.cons_append, List.nil_append, List.append_nil]
    (refine Weak.of (by simp [hc0]) ?_ ?_ <;> (repeat' (first | exact WkT.nil | exact WkH.nil _ | exact Le.refl _ | exact Le.junk _ | exact Le1.refl _ | exact Le1.nil _ | exact Le1.tok _ _ _ | exact Le1L.nil | rfl | apply WkT.cons | apply WkH.cons | apply LeB.same | apply LeB.box | apply Le1L.cons | apply Le.agg | apply Le.one)))
  rintro k ⟨hI, hq⟩ ih
  simp only [writes, junks, puts, hputs, List.filterMap_cons, List.filterMap_nil, List.set_cons_zero, List.set_cons_succ, List.take_nil, List.cons_append, List.nil_append, List.append_nil] at ih ⊢
  by_cases hk : k < l.length
  · obtain ⟨x, hx⟩ : ∃ x, l[k]? = some x := ⟨_, List.getElem?_eq_getElem hk⟩
    have hkk : (k : Int) < l.length := by omega
    cases hp : largeP x with
    | true =>
      have hxl : (20000 : Int) < x.length := by have : 20000 < x.length := of_decide_eq_true hp; omega
      refine Run.god tab_ok follows_ok Try.func68 60 ?_; simp only [Try.results68, hx, hkk, hxl, rowC, bytesA, List.getElem?_map, List.length_map, decide_true, ↓alt_t, drun, aops, aone, afin, ares, aresL, ares1, aresOk, aresOk1, aop, needs, ext, aev, aconst, aput, aupd, aload, aindexAddr, acmp, ashift, abin, alen, tab_3, tab_22, tab_34, ok1, cellsAs, TI.agg, Option.getD_some, Option.bind_some, Option.map_some, List.set_cons_zero, List.set_cons_succ, List.length_cons, List.length_nil, List.getElem?_cons_zero, List.getElem?_cons_succ, List.take_succ_cons, List.take_nil, List.length_map, List.nil_append, true_and, and_true, if_true, if_false, Nat.zero_add, decide_true, Nat.reduceLT, Nat.le_refl, Int.toNat_natCast, List.getD_eq_getElem?_getD, Bool.false_eq_true]
      ((repeat' (apply And.intro)) <;> try (first | rfl | omega | (unfold I64; omega)))
      rw [show largeB l = true by rw [← fi_large, decide_eq_true_eq]; unfold fiI; rw [fi_some hx hp hq]; simp]
      (repeat' (first | exact LeL.nil | exact Le1L.nil | exact Le.refl _ | exact Le1.refl _ | exact Le1.nil _ | exact Le1.tok _ _ _ | exact LeR.one (Le.refl _) | apply LeR.tup | apply LeL.cons | apply Le1L.cons | apply Le.agg | apply Le.one | apply LeR.one))
    | false =>
      have hxl : ¬ (20000 : Int) < x.length := by have : ¬ 20000 < x.length := of_decide_eq_false hp; omega
      refine Run.god tab_ok follows_ok Try.func68 60 ?_; simp only [hx, hkk, hxl, rowC, bytesA, List.getElem?_map, List.length_map, decide_true, decide_false, ↓alt_t, ↓alt_f, drun, aops, aone, aop, needs, ext, aev, aconst, aput, aupd, aload, aindexAddr, acmp, aarith, ashift, abin, alen, tab_3, tab_22, tab_34, ok1, cellsAs, TI.agg, Option.getD_some, Option.bind_some, Option.map_some, List.set_cons_zero, List.set_cons_succ, List.length_cons, List.length_nil, List.getElem?_cons_zero, List.getElem?_cons_succ, List.take_succ_cons, List.take_nil, List.length_map, List.nil_append, true_and, and_true, if_true, if_false, Nat.zero_add, decide_true, decide_false, Nat.reduceLT, Nat.le_refl, Int.toNat_natCast, List.getD_eq_getElem?_getD, Bool.false_eq_true]
      ((repeat' (apply And.intro)) <;> try (first | rfl | omega | (unfold I64; omega)))
      refine ih (k + 1) _ ⟨by omega, fun j y hj hy => ?_⟩ (by omega) ?_
      · rcases Nat.lt_or_ge j k with h | h
        · exact hq j y h hy
        · obtain rfl : j = k := by omega
          rw [hx] at hy; cases hy; exact hp
      · simp only [Int.natCast_add, Int.natCast_one]
        (refine Weak.of (by simp [hc0]) ?_ ?_ <;> (repeat' (first | exact WkT.nil | exact WkH.nil _ | exact Le.refl _ | exact Le.junk _ | exact Le1.refl _ | exact Le1.nil _ | exact Le1.tok _ _ _ | exact Le1L.nil | rfl | apply WkT.cons | apply WkH.cons | apply LeB.same | apply LeB.box | apply Le1L.cons | apply Le.agg | apply Le.one)))
  · have hkk : ¬ (k : Int) < l.length := by omega
    refine Run.god tab_ok follows_ok Try.func68 60 ?_; simp only [Try.results68, hkk, List.length_map, decide_false, ↓alt_f, drun, aops, aone, afin, ares, aresL, ares1, aresOk, aresOk1, aop, needs, ext, aev, aconst, aput, aupd, acmp, ashift, abin, alen, tab_3, tab_34, ok1, exitTo, Option.getD_some, Option.bind_some, Option.map_some, List.set_cons_zero, List.set_cons_succ, List.getElem?_cons_zero, List.getElem?_cons_succ, List.length_map, List.nil_append, true_and, and_true, if_true, if_false, beq_self_eq_true, decide_false, List.getD_eq_getElem?_getD, Bool.false_eq_true]
    rw [show largeB l = false by rw [← fi_large]; unfold fiI; rw [fi_none fun j y hj hy => hq j y (by omega) hy]; rfl]
    (repeat' (first | exact LeL.nil | exact Le1L.nil | exact Le.refl _ | exact Le1.refl _ | exact Le1.nil _ | exact Le1.tok _ _ _ | exact LeR.one (Le.refl _) | apply LeR.tup | apply LeL.cons | apply Le1L.cons | apply Le.agg | apply Le.one | apply LeR.one))
set_option maxRecDepth 20000 in
theorem rcrash17_spec (g : WL) (hs : smD g.d) (n : Int) : ASpec Try.prog 43 [encW g, .int .i64 n] (encW (crashW g n)) := by
  have h := rcrash_spec g.d hs n
  refine ⟨⟨_, Try.func43, by kernel_rfl, rfl⟩, ACall.of Try.func43 rfl fun c0 hc0 => ?_⟩; simp only [Try.ntmps43, List.length_cons, List.length_nil, Nat.reduceAdd, Nat.reduceSub, List.replicate_succ, List.replicate_zero, List.cons_append, List.nil_append]; refine Run.god tab_ok follows_ok Try.func43 60 ?_; simp only [encW, bytesA, rowsA, drun, aops, aone, aop, needs, ext, aev, aput, aupd, aload, afieldAddr, tab_44, tab_51, ok1, cellsAs, TI.agg, AV.cells, AV.whole, Option.getD_some, Option.bind_some, Option.map_some, List.set_cons_zero, List.set_cons_succ, List.length_cons, List.length_nil, List.getElem?_cons_zero, List.getElem?_cons_succ, List.drop_zero, List.take_succ_cons, List.take_zero, List.cons_append, List.nil_append, true_and, if_true, if_false, Nat.reduceAdd, Nat.reduceLeDiff, Nat.zero_add, Nat.add_zero, Nat.reduceLeDiff, List.getD_eq_getElem?_getD, Bool.false_eq_true]
  refine Ops.pure .free rfl rfl (h) (by simp only [encD, bytesA, aev, Option.getD_some, List.getElem?_cons_zero, List.getElem?_cons_succ, List.map_cons, List.map_nil, List.nil_append, List.append_nil, List.getD_eq_getElem?_getD]; (repeat' (first | exact LeL.nil | exact Le1L.nil | exact Le.refl _ | exact Le1.refl _ | exact Le1.nil _ | exact Le1.tok _ _ _ | exact LeR.one (Le.refl _) | apply LeR.tup | apply LeL.cons | apply Le1L.cons | apply Le.agg | apply Le.one | apply LeR.one))) rfl rfl ?_
  refine Ops.god tab_ok follows_ok Try.func43 60 ?_; simp only [Try.results43, encD, bytesA, drun, aops, aone, afin, ares, aresL, ares1, aresOk, aresOk1, aop, needs, ext, aev, aconst, aput, aupd, aload, astore, abuild, tab_44, tab_51, lay, cellsAs, TI.agg, AV.cells, AV.whole, Option.getD_some, Option.bind_some, Option.map_some, List.set_cons_zero, List.set_cons_succ, List.length_cons, List.length_nil, List.getElem?_cons_zero, List.getElem?_cons_succ, List.drop_zero, List.drop_succ_cons, List.take_succ_cons, List.take_zero, List.take_nil, List.drop_nil, List.map_cons, List.map_nil, List.cons_append, List.nil_append, List.append_nil, true_and, and_true, if_true, if_false, Nat.reduceAdd, Nat.reduceLeDiff, Nat.zero_add, Nat.reduceLeDiff, Nat.le_refl, List.getD_eq_getElem?_getD, Bool.false_eq_true]
  simp only [crashW, List.map_nil]
  (repeat' (first | exact LeL.nil | exact Le1L.nil | exact Le.refl _ | exact Le1.refl _ | exact Le1.nil _ | exact Le1.tok _ _ _ | exact LeR.one (Le.refl _) | apply LeR.tup | apply LeL.cons | apply Le1L.cons | apply Le.agg | apply Le.one | apply LeR.one))
set_option maxRecDepth 20000 in
theorem rblow17_spec (g : WL) (n : Int) : ASpec Try.prog 45 [encW g, .int .i64 n] (encW (blowW g n)) := by
  have h := rblow_spec g.d n
  refine ⟨⟨_, Try.func45, by kernel_rfl, rfl⟩, ACall.of Try.func45 rfl fun c0 hc0 => ?_⟩; simp only [Try.ntmps45, List.length_cons, List.length_nil, Nat.reduceAdd, Nat.reduceSub, List.replicate_succ, List.replicate_zero, List.cons_append, List.nil_append]; refine Run.god tab_ok follows_ok Try.func45 60 ?_; simp only [encW, bytesA, rowsA, drun, adops, adone, places, mayNeed, freeOk, rdOf, AV.id, wrOf, aops, aone, aop, needs, ext, aev, aput, aupd, aload, afieldAddr, tab_44, tab_51, ok1, cellsAs, TI.agg, AV.cells, AV.whole, Option.getD_some, Option.bind_some, Option.map_some, List.set_cons_zero, List.set_cons_succ, List.length_cons, List.length_nil, List.getElem?_cons_zero, List.getElem?_cons_succ, List.drop_zero, List.take_succ_cons, List.take_zero, List.cons_append, List.nil_append, true_and, and_true, if_true, if_false, Nat.reduceAdd, Nat.reduceLeDiff, Nat.zero_add, Nat.add_zero, Nat.reduceLeDiff, List.getD_eq_getElem?_getD, Bool.false_eq_true]
  ((repeat' (apply And.intro)) <;> try (first | rfl | omega | (unfold I64; omega)))
  refine DOps.pure rfl .free rfl rfl (h) (by simp only [encD, bytesA, aev, Option.getD_some, List.getElem?_cons_zero, List.getElem?_cons_succ, List.map_cons, List.map_nil, List.nil_append, List.append_nil, List.getD_eq_getElem?_getD]; (repeat' (first | exact LeL.nil | exact Le1L.nil | exact Le.refl _ | exact Le1.refl _ | exact Le1.nil _ | exact Le1.tok _ _ _ | exact LeR.one (Le.refl _) | apply LeR.tup | apply LeL.cons | apply Le1L.cons | apply Le.agg | apply Le.one | apply LeR.one))) rfl rfl ?_
  refine DOps.god tab_ok follows_ok Try.func45 60 rfl ?_; simp only [Try.results45, encD, bytesA, drun, adops, adone, mayNeed, freeOk, rdOf, AV.id, wrOf, afin, ares, aresL, ares1, aresOk, aresOk1, aop, needs, aev, aconst, aput, aupd, aload, astore, afieldAddr, abuild, tab_34, tab_44, tab_51, ok1, lay, cellsAs, TI.agg, AV.cells, AV.whole, Option.getD_some, Option.bind_some, Option.map_some, List.set_cons_zero, List.set_cons_succ, List.length_cons, List.length_nil, List.getElem?_cons_zero, List.getElem?_cons_succ, List.drop_zero, List.drop_succ_cons, List.take_succ_cons, List.take_zero, List.take_nil, List.drop_nil, List.map_cons, List.map_nil, List.cons_append, List.nil_append, List.append_nil, true_and, and_true, if_true, if_false, Nat.reduceAdd, Nat.reduceLeDiff, Nat.zero_add, Nat.reduceLeDiff, Nat.le_refl, List.getD_eq_getElem?_getD, Bool.false_eq_true]
  ((repeat' (apply And.intro)) <;> try (first | rfl | omega | (unfold I64; omega)))
  simp only [blowW]
  (repeat' (first | exact LeL.nil | exact Le1L.nil | exact Le.refl _ | exact Le1.refl _ | exact Le1.nil _ | exact Le1.tok _ _ _ | exact LeR.one (Le.refl _) | apply LeR.tup | apply LeL.cons | apply Le1L.cons | apply Le.agg | apply Le.one | apply LeR.one))
set_option maxRecDepth 20000 in
set_option maxHeartbeats 1000000 in
theorem rcut17_spec (g : WL) (hs : smD g.d) (x : Bytes) (hx : x.length ≤ 200000) : ASpec Try.prog 42 [encW g, bytesA x] (encWE (cutS g x)) := by
  by_cases hlx : 20000 < x.length
  · have hlx' : (20000 : Int) < x.length := by omega
    rw [show cutS g x = (g, 5) by unfold cutS; rw [if_pos hlx]]
    refine ⟨⟨_, Try.func42, by kernel_rfl, rfl⟩, ACall.of Try.func42 rfl fun c0 hc0 => ?_⟩; simp only [Try.ntmps42, List.length_cons, List.length_nil, Nat.reduceAdd, Nat.reduceSub, List.replicate_succ, List.replicate_zero, List.cons_append, List.nil_append]; refine Run.god tab_ok follows_ok Try.func42 60 ?_; simp only [Try.results42, encW, bytesA, rowsA, hlx', List.length_map, decide_true, ↓alt_t, drun, aops, aone, afin, ares, aresL, ares1, aresOk, aresOk1, aop, needs, ext, aev, aconst, aput, aupd, aload, astore, acmp, ashift, abin, alen, tab_3, tab_22, tab_51, ok1, lay, cellsAs, TI.agg, AV.cells, AV.whole, Option.getD_some, Option.bind_some, Option.map_some, List.set_cons_zero, List.set_cons_succ, List.length_cons, List.length_nil, List.getElem?_cons_zero, List.getElem?_cons_succ, List.drop_zero, List.drop_succ_cons, List.take_succ_cons, List.take_zero, List.take_nil, List.drop_nil, List.length_map, List.cons_append, List.nil_append, List.append_nil, true_and, and_true, if_true, if_false, Nat.reduceAdd, Nat.zero_add, decide_true, Nat.le_refl, List.getD_eq_getElem?_getD, Bool.false_eq_true]
    simp only [encWE, encW, bytesA, rowsA]
    (repeat' (first | exact LeL.nil | exact Le1L.nil | exact Le.refl _ | exact Le1.refl _ | exact Le1.nil _ | exact Le1.tok _ _ _ | exact LeR.one (Le.refl _) | apply LeR.tup | apply LeL.cons | apply Le1L.cons | apply Le.agg | apply Le.one | apply LeR.one))
  · have hlx' : ¬ (20000 : Int) < x.length := by omega
    have hf := rframe15_spec [] x (by simp) hx
    rw [List.nil_append] at hf
    have hfl : (fr x).length ≤ 1000000 := by rw [fr_length]; unfold frLong; have := nb_le x.length (by omega); omega
    have hr := rreplace_spec g.d hs (fr x) hfl
    obtain ⟨y, z, hz⟩ : ∃ y z, replaceS g.d (fr x) = (y, z) := ⟨_, _, rfl⟩
    rw [hz] at hr
    by_cases hz0 : z = 0
    · subst hz0
      rw [show cutS g x = (⟨y, [x]⟩, 0) by unfold cutS; rw [if_neg hlx, hz, if_pos rfl]]
      refine ⟨⟨_, Try.func42, by kernel_rfl, rfl⟩, ACall.of Try.func42 rfl fun c0 hc0 => ?_⟩; simp only [Try.ntmps42, List.length_cons, List.length_nil, Nat.reduceAdd, Nat.reduceSub, List.replicate_succ, List.replicate_zero, List.cons_append, List.nil_append]; refine Run.god tab_ok follows_ok Try.func42 60 ?_; simp only [encW, bytesA, rowsA, hlx', List.length_map, decide_false, ↓alt_f, drun, adops, adone, places, mayNeed, freeOk, rdOf, AV.id, wrOf, aops, aone, aop, needs, ext, aev, aconst, aput, aupd, aload, afieldAddr, acmp, ashift, abin, alen, tab_3, tab_22, tab_44, tab_51, ok1, cellsAs, TI.agg, AV.cells, AV.whole, Option.getD_some, Option.bind_some, Option.map_some, List.set_cons_zero, List.set_cons_succ, List.length_cons, List.length_nil, List.getElem?_cons_zero, List.getElem?_cons_succ, List.drop_zero, List.take_succ_cons, List.take_zero, List.length_map, List.cons_append, List.nil_append, true_and, and_true, if_true, if_false, Nat.reduceAdd, Nat.reduceLeDiff, Nat.zero_add, Nat.add_zero, decide_false, Nat.reduceLeDiff, List.getD_eq_getElem?_getD, Bool.false_eq_true]
      ((repeat' (apply And.intro)) <;> try (first | rfl | omega | (unfold I64; omega)))
      refine DOps.pure rfl .free rfl rfl (hf) (by simp only [bytesA, aev, aconst, Option.getD_some, List.getElem?_cons_zero, List.getElem?_cons_succ, List.map_cons, List.map_nil, List.nil_append, List.append_nil, List.getD_eq_getElem?_getD]; (repeat' (first | exact LeL.nil | exact Le1L.nil | exact Le.refl _ | exact Le1.refl _ | exact Le1.nil _ | exact Le1.tok _ _ _ | exact LeR.one (Le.refl _) | apply LeR.tup | apply LeL.cons | apply Le1L.cons | apply Le.agg | apply Le.one | apply LeR.one))) rfl rfl ?_
      refine DOps.god tab_ok follows_ok Try.func42 60 rfl ?_; simp only [bytesA, adops, adone, aop, aput, List.set_cons_zero, List.set_cons_succ, List.cons_append, List.nil_append, Nat.reduceAdd]
      ((repeat' (apply And.intro)) <;> try (first | rfl | omega | (unfold I64; omega)))
      refine DOps.pure rfl .free rfl rfl (hr) (by simp only [encD, bytesA, aev, Option.getD_some, List.getElem?_cons_zero, List.getElem?_cons_succ, List.map_cons, List.map_nil, List.nil_append, List.append_nil, List.getD_eq_getElem?_getD]; (repeat' (first | exact LeL.nil | exact Le1L.nil | exact Le.refl _ | exact Le1.refl _ | exact Le1.nil _ | exact Le1.tok _ _ _ | exact LeR.one (Le.refl _) | apply LeR.tup | apply LeL.cons | apply Le1L.cons | apply Le.agg | apply Le.one | apply LeR.one))) rfl rfl ?_
      refine DOps.god tab_ok follows_ok Try.func42 60 rfl ?_; simp only [Try.results42, encDE, encD, bytesA, decide_true, ↓alt_f, drun, adops, adone, mayNeed, freeOk, rdOf, AV.id, wrOf, aops, aone, afin, ares, aresL, ares1, aresOk, aresOk1, aop, needs, ext, aev, aconst, aput, aupd, aload, astore, acmp, ashift, abin, abuild, aelems, plains, tab_22, tab_25, tab_34, tab_44, tab_51, ok1, lay, cellsAs, TI.agg, AV.cells, AV.whole, AV.plain, AV.bare, Option.getD_some, Option.bind_some, Option.map_some, List.set_cons_zero, List.set_cons_succ, List.length_cons, List.length_nil, List.getElem?_cons_zero, List.getElem?_cons_succ, List.drop_zero, List.drop_succ_cons, List.take_succ_cons, List.take_zero, List.take_nil, List.drop_nil, List.map_cons, List.map_nil, List.cons_append, List.nil_append, List.append_nil, List.all_cons, List.all_nil, List.replicate_succ, List.replicate_zero, true_and, and_true, if_true, if_false, Nat.reduceAdd, Nat.reduceLeDiff, Nat.reduceMul, Nat.reduceBEq, Nat.zero_add, Bool.and_self, Bool.and_false, Bool.not_true, decide_true, Nat.reduceLT, Nat.reduceLeDiff, Nat.le_refl, List.getD_eq_getElem?_getD, Bool.false_eq_true]
      ((repeat' (apply And.intro)) <;> try (first | rfl | omega | (unfold I64; omega)))
      simp only [encWE, encW, bytesA, rowsA, List.map_cons, List.map_nil, rowC]
      (repeat' (first | exact LeL.nil | exact Le1L.nil | exact Le.refl _ | exact Le1.refl _ | exact Le1.nil _ | exact Le1.tok _ _ _ | exact LeR.one (Le.refl _) | apply LeR.tup | apply LeL.cons | apply Le1L.cons | apply Le.agg | apply Le.one | apply LeR.one))
    · rw [show cutS g x = (⟨y, g.l⟩, z) by unfold cutS; rw [if_neg hlx, hz, if_neg hz0]]
      refine ⟨⟨_, Try.func42, by kernel_rfl, rfl⟩, ACall.of Try.func42 rfl fun c0 hc0 => ?_⟩; simp only [Try.ntmps42, List.length_cons, List.length_nil, Nat.reduceAdd, Nat.reduceSub, List.replicate_succ, List.replicate_zero, List.cons_append, List.nil_append]; refine Run.god tab_ok follows_ok Try.func42 60 ?_; simp only [encW, bytesA, rowsA, hlx', List.length_map, decide_false, ↓alt_f, drun, adops, adone, places, mayNeed, freeOk, rdOf, AV.id, wrOf, aops, aone, aop, needs, ext, aev, aconst, aput, aupd, aload, afieldAddr, acmp, ashift, abin, alen, tab_3, tab_22, tab_44, tab_51, ok1, cellsAs, TI.agg, AV.cells, AV.whole, Option.getD_some, Option.bind_some, Option.map_some, List.set_cons_zero, List.set_cons_succ, List.length_cons, List.length_nil, List.getElem?_cons_zero, List.getElem?_cons_succ, List.drop_zero, List.take_succ_cons, List.take_zero, List.length_map, List.cons_append, List.nil_append, true_and, and_true, if_true, if_false, Nat.reduceAdd, Nat.reduceLeDiff, Nat.zero_add, Nat.add_zero, decide_false, Nat.reduceLeDiff, List.getD_eq_getElem?_getD, Bool.false_eq_true]
      ((repeat' (apply And.intro)) <;> try (first | rfl | omega | (unfold I64; omega)))
      refine DOps.pure rfl .free rfl rfl (hf) (by simp only [bytesA, aev, aconst, Option.getD_some, List.getElem?_cons_zero, List.getElem?_cons_succ, List.map_cons, List.map_nil, List.nil_append, List.append_nil, List.getD_eq_getElem?_getD]; (repeat' (first | exact LeL.nil | exact Le1L.nil | exact Le.refl _ | exact Le1.refl _ | exact Le1.nil _ | exact Le1.tok _ _ _ | exact LeR.one (Le.refl _) | apply LeR.tup | apply LeL.cons | apply Le1L.cons | apply Le.agg | apply Le.one | apply LeR.one))) rfl rfl ?_
      refine DOps.god tab_ok follows_ok Try.func42 60 rfl ?_; simp only [bytesA, adops, adone, aop, aput, List.set_cons_zero, List.set_cons_succ, List.cons_append, List.nil_append, Nat.reduceAdd]
      ((repeat' (apply And.intro)) <;> try (first | rfl | omega | (unfold I64; omega)))
      refine DOps.pure rfl .free rfl rfl (hr) (by simp only [encD, bytesA, aev, Option.getD_some, List.getElem?_cons_zero, List.getElem?_cons_succ, List.map_cons, List.map_nil, List.nil_append, List.append_nil, List.getD_eq_getElem?_getD]; (repeat' (first | exact LeL.nil | exact Le1L.nil | exact Le.refl _ | exact Le1.refl _ | exact Le1.nil _ | exact Le1.tok _ _ _ | exact LeR.one (Le.refl _) | apply LeR.tup | apply LeL.cons | apply Le1L.cons | apply Le.agg | apply Le.one | apply LeR.one))) rfl rfl ?_
      refine DOps.god tab_ok follows_ok Try.func42 60 rfl ?_; simp only [Try.results42, encDE, encD, bytesA, hz0, decide_false, ↓alt_t, drun, adops, adone, mayNeed, freeOk, rdOf, AV.id, wrOf, aops, aone, afin, ares, aresL, ares1, aresOk, aresOk1, aop, needs, ext, aev, aconst, aput, aupd, aload, astore, afieldAddr, acmp, ashift, abin, abuild, tab_25, tab_34, tab_44, tab_51, ok1, lay, cellsAs, TI.agg, AV.cells, AV.whole, Option.getD_some, Option.bind_some, Option.map_some, List.set_cons_zero, List.set_cons_succ, List.length_cons, List.length_nil, List.getElem?_cons_zero, List.getElem?_cons_succ, List.drop_zero, List.drop_succ_cons, List.take_succ_cons, List.take_zero, List.take_nil, List.drop_nil, List.map_cons, List.map_nil, List.cons_append, List.nil_append, List.append_nil, true_and, and_true, if_true, if_false, Nat.reduceAdd, Nat.reduceLeDiff, Nat.zero_add, Bool.not_false, decide_false, Nat.reduceLeDiff, Nat.le_refl, List.getD_eq_getElem?_getD, Bool.false_eq_true]
      ((repeat' (apply And.intro)) <;> try (first | rfl | omega | (unfold I64; omega)))
      simp only [encWE, encW, bytesA, rowsA]
      (repeat' (first | exact LeL.nil | exact Le1L.nil | exact Le.refl _ | exact Le1.refl _ | exact Le1.nil _ | exact Le1.tok _ _ _ | exact LeR.one (Le.refl _) | apply LeR.tup | apply LeL.cons | apply Le1L.cons | apply Le.agg | apply Le.one | apply LeR.one))
set_option maxRecDepth 20000 in
set_option maxHeartbeats 2000000 in
theorem rappend17_spec (g : WL) (hs : WSm g) (r : List Bytes) (hr : r.length ≤ 1000000) (hfl : (frs r).length ≤ 900000) : ASpec Try.prog 41 [encW g, rowsA r] (encWE (appendS g r)) := by
  have hc := rlarge_spec r (by omega)
  have hgl := hs.rows
  cases hlg : largeB r with
  | true =>
    rw [hlg] at hc
    rw [show appendS g r = (g, 5) by unfold appendS; rw [if_pos hlg]]
    refine ⟨⟨_, Try.func41, by kernel_rfl, rfl⟩, ACall.of Try.func41 rfl fun c0 hc0 => ?_⟩; simp only [Try.ntmps41, List.length_cons, List.length_nil, Nat.reduceAdd, Nat.reduceSub, List.replicate_succ, List.replicate_zero, List.cons_append, List.nil_append]; refine Run.god tab_ok follows_ok Try.func41 60 ?_; simp only [encW, bytesA, rowsA, drun, aops, aone, aop, needs, ext, aev, aconst, aput, aupd, tab_51, ok1, AV.cells, AV.whole, Option.getD_some, Option.map_some, List.set_cons_zero, List.set_cons_succ, List.length_cons, List.length_nil, List.getElem?_cons_zero, List.getElem?_cons_succ, List.cons_append, List.nil_append, true_and, if_true, if_false, Nat.zero_add, List.getD_eq_getElem?_getD, Bool.false_eq_true]
    refine Ops.pure .free rfl rfl (hc) (by simp only [rowsA, aev, Option.getD_some, List.getElem?_cons_zero, List.getElem?_cons_succ, List.map_cons, List.map_nil, List.nil_append, List.append_nil, List.getD_eq_getElem?_getD]; (repeat' (first | exact LeL.nil | exact Le1L.nil | exact Le.refl _ | exact Le1.refl _ | exact Le1.nil _ | exact Le1.tok _ _ _ | exact LeR.one (Le.refl _) | apply LeR.tup | apply LeL.cons | apply Le1L.cons | apply Le.agg | apply Le.one | apply LeR.one))) rfl rfl ?_
    refine Ops.god tab_ok follows_ok Try.func41 60 ?_; simp only [Try.results41, ↓alt_t, drun, aops, aone, afin, ares, aresL, ares1, aresOk, aresOk1, aop, needs, ext, aev, aconst, aput, aupd, aload, astore, tab_51, ok1, lay, cellsAs, TI.agg, AV.cells, AV.whole, Option.getD_some, Option.bind_some, Option.map_some, List.set_cons_zero, List.set_cons_succ, List.length_cons, List.length_nil, List.getElem?_cons_zero, List.getElem?_cons_succ, List.drop_zero, List.drop_succ_cons, List.take_succ_cons, List.take_zero, List.take_nil, List.drop_nil, List.cons_append, List.nil_append, List.append_nil, true_and, and_true, if_true, if_false, Nat.reduceAdd, Nat.zero_add, Nat.le_refl, List.getD_eq_getElem?_getD, Bool.false_eq_true]
    simp only [encWE, encW, bytesA, rowsA]
    (repeat' (first | exact LeL.nil | exact Le1L.nil | exact Le.refl _ | exact Le1.refl _ | exact Le1.nil _ | exact Le1.tok _ _ _ | exact LeR.one (Le.refl _) | apply LeR.tup | apply LeL.cons | apply Le1L.cons | apply Le.agg | apply Le.one | apply LeR.one))
  | false =>
  rw [hlg] at hc
  have hlg : ¬ largeB r = true := by rw [hlg]; decide
  by_cases h0 : r = []
  · subst h0
    rw [show appendS g [] = (g, 0) by unfold appendS; rw [if_neg hlg, if_pos rfl]]
    refine ⟨⟨_, Try.func41, by kernel_rfl, rfl⟩, ACall.of Try.func41 rfl fun c0 hc0 => ?_⟩; simp only [Try.ntmps41, List.length_cons, List.length_nil, Nat.reduceAdd, Nat.reduceSub, List.replicate_succ, List.replicate_zero, List.cons_append, List.nil_append]; refine Run.god tab_ok follows_ok Try.func41 60 ?_; simp only [encW, bytesA, rowsA, drun, aops, aone, aop, needs, ext, aev, aconst, aput, aupd, tab_51, ok1, AV.cells, AV.whole, Option.getD_some, Option.map_some, List.set_cons_zero, List.set_cons_succ, List.length_cons, List.length_nil, List.getElem?_cons_zero, List.getElem?_cons_succ, List.map_nil, List.cons_append, List.nil_append, true_and, if_true, if_false, Nat.zero_add, List.getD_eq_getElem?_getD, Bool.false_eq_true]
    refine Ops.pure .free rfl rfl (hc) (by simp only [rowsA, aev, Option.getD_some, List.getElem?_cons_zero, List.getElem?_cons_succ, List.map_cons, List.map_nil, List.nil_append, List.append_nil, List.getD_eq_getElem?_getD]; (repeat' (first | exact LeL.nil | exact Le1L.nil | exact Le.refl _ | exact Le1.refl _ | exact Le1.nil _ | exact Le1.tok _ _ _ | exact LeR.one (Le.refl _) | apply LeR.tup | apply LeL.cons | apply Le1L.cons | apply Le.agg | apply Le.one | apply LeR.one))) rfl rfl ?_
    refine Ops.god tab_ok follows_ok Try.func41 60 ?_; simp only [Try.results41, decide_true, Int.natCast_zero, ↓alt_t, ↓alt_f, drun, aops, aone, afin, ares, aresL, ares1, aresOk, aresOk1, aop, needs, ext, aev, aconst, aput, aupd, aload, astore, acmp, ashift, abin, alen, tab_3, tab_34, tab_51, ok1, lay, cellsAs, TI.agg, AV.cells, AV.whole, Option.getD_some, Option.bind_some, Option.map_some, List.set_cons_zero, List.set_cons_succ, List.length_cons, List.length_nil, List.getElem?_cons_zero, List.getElem?_cons_succ, List.drop_zero, List.drop_succ_cons, List.take_succ_cons, List.take_zero, List.take_nil, List.drop_nil, List.cons_append, List.nil_append, List.append_nil, true_and, and_true, if_true, if_false, Nat.reduceAdd, Nat.zero_add, decide_true, Nat.le_refl, List.getD_eq_getElem?_getD, Bool.false_eq_true]
    simp only [encWE, encW, bytesA, rowsA]
    (repeat' (first | exact LeL.nil | exact Le1L.nil | exact Le.refl _ | exact Le1.refl _ | exact Le1.nil _ | exact Le1.tok _ _ _ | exact LeR.one (Le.refl _) | apply LeR.tup | apply LeL.cons | apply Le1L.cons | apply Le.agg | apply Le.one | apply LeR.one))
  have hr0 : ¬ (r.length : Int) = 0 := by have := List.length_pos_iff.2 h0; omega
  have hw := rwrite_spec g.d hs.sm (frs r) (by omega)
  have hsm2 := write_sm hs.sm hs.right (frs r)
  obtain ⟨d1, z1, hz1⟩ : ∃ y z, writeS g.d (frs r) = (y, z) := ⟨_, _, rfl⟩
  rw [hz1] at hw hsm2
  by_cases h1 : z1 = 0
  · subst h1
    have hy := rsync_spec d1 hsm2
    rw [← sync_eq (write_long hs.right hs.sm hz1)] at hy
    obtain ⟨d2, z2, hz2⟩ : ∃ y z, syncS d1 = (y, z) := ⟨_, _, rfl⟩
    rw [hz2] at hy
    by_cases h2 : z2 = 0
    · subst h2
      rw [show appendS g r = (⟨d2, g.l ++ r⟩, 0) by unfold appendS; rw [if_neg hlg, if_neg h0, hz1, if_pos rfl, hz2, if_pos rfl]]
      refine ⟨⟨_, Try.func41, by kernel_rfl, rfl⟩, ACall.of Try.func41 rfl fun c0 hc0 => ?_⟩; simp only [Try.ntmps41, List.length_cons, List.length_nil, Nat.reduceAdd, Nat.reduceSub, List.replicate_succ, List.replicate_zero, List.cons_append, List.nil_append]; refine Run.god tab_ok follows_ok Try.func41 60 ?_; simp only [encW, bytesA, rowsA, drun, aops, aone, aop, needs, ext, aev, aconst, aput, aupd, tab_51, ok1, AV.cells, AV.whole, Option.getD_some, Option.map_some, List.set_cons_zero, List.set_cons_succ, List.length_cons, List.length_nil, List.getElem?_cons_zero, List.getElem?_cons_succ, List.cons_append, List.nil_append, true_and, if_true, if_false, Nat.zero_add, List.getD_eq_getElem?_getD, Bool.false_eq_true]
      refine Ops.pure .free rfl rfl (hc) (by simp only [rowsA, aev, Option.getD_some, List.getElem?_cons_zero, List.getElem?_cons_succ, List.map_cons, List.map_nil, List.nil_append, List.append_nil, List.getD_eq_getElem?_getD]; (repeat' (first | exact LeL.nil | exact Le1L.nil | exact Le.refl _ | exact Le1.refl _ | exact Le1.nil _ | exact Le1.tok _ _ _ | exact LeR.one (Le.refl _) | apply LeR.tup | apply LeL.cons | apply Le1L.cons | apply Le.agg | apply Le.one | apply LeR.one))) rfl rfl ?_
      refine Ops.god tab_ok follows_ok Try.func41 60 ?_; simp only [hr0, List.length_map, decide_false, ↓alt_f, drun, aops, aone, aop, needs, ext, aev, aconst, aput, aupd, acmp, ashift, abin, alen, aelems, plains, tab_3, tab_5, tab_22, tab_34, ok1, Option.getD_some, Option.bind_some, Option.map_some, List.set_cons_zero, List.set_cons_succ, List.length_cons, List.length_nil, List.getElem?_cons_zero, List.getElem?_cons_succ, List.map_nil, List.length_map, List.cons_append, List.nil_append, List.all_nil, List.replicate_zero, true_and, and_true, if_true, if_false, Nat.reduceAdd, Nat.reduceLeDiff, Nat.reduceMul, Nat.zero_add, beq_self_eq_true, Bool.and_true, decide_false, Nat.reduceLT, Nat.reduceLeDiff, List.getD_eq_getElem?_getD, Bool.false_eq_true]
      refine Run.loopV (α := Nat) (fun k => k ≤ r.length) (fun k => [(6, bytesA (frs (r.take k))), (7, .int .i64 k)]) 3 (fun _ => []) (fun k => r.length - k) 0 (Nat.zero_le _) ?_ ?_
      · simp only [writes, junks, puts, hputs, List.filterMap_cons, List.filterMap_nil, Int.natCast_zero, List.set_cons_zero, List.set_cons_succ, List.take_succ_cons, List.take_zero, List.take_nil, List.map_nil, List.cons_append, List.nil_append, List.append_nil, bytesA, frs, List.flatten_nil]
        (refine Weak.of (by simp [hc0]) ?_ ?_ <;> (repeat' (first | exact WkT.nil | exact WkH.nil _ | exact Le.refl _ | exact Le.junk _ | exact Le1.refl _ | exact Le1.nil _ | exact Le1.tok _ _ _ | exact Le1L.nil | rfl | apply WkT.cons | apply WkH.cons | apply LeB.same | apply LeB.box | apply Le1L.cons | apply Le.agg | apply Le.one)))
      intro k hI ih
      simp only [writes, junks, puts, hputs, List.filterMap_cons, List.filterMap_nil, List.set_cons_zero, List.set_cons_succ, List.take_succ_cons, List.take_nil, List.cons_append, List.nil_append, List.append_nil] at ih ⊢
      by_cases hk : k < r.length
      · obtain ⟨x, hx⟩ : ∃ x, r[k]? = some x := ⟨_, List.getElem?_eq_getElem hk⟩
        have hkk : (k : Int) < r.length := by omega
        have hfk := frs_take_le r k
        have hxl := large_no hlg x (List.mem_of_getElem? hx)
        have hf := rframe15_spec (frs (r.take k)) x (by omega) (by omega)
        rw [← frs_snoc hx] at hf
        refine Run.god tab_ok follows_ok Try.func41 60 ?_; simp only [hx, hkk, rowC, List.getElem?_map, List.length_map, decide_true, ↓alt_t, drun, aops, aone, aop, needs, ext, aev, aput, aupd, aload, aindexAddr, acmp, ashift, abin, alen, tab_3, tab_22, tab_34, ok1, cellsAs, TI.agg, Option.getD_some, Option.bind_some, Option.map_some, List.set_cons_zero, List.set_cons_succ, List.length_cons, List.length_nil, List.getElem?_cons_zero, List.getElem?_cons_succ, List.take_succ_cons, List.take_nil, List.length_map, List.cons_append, List.nil_append, true_and, and_true, if_true, if_false, Nat.reduceAdd, Nat.zero_add, decide_true, Nat.reduceLT, Nat.le_refl, Int.toNat_natCast, List.getD_eq_getElem?_getD, Bool.false_eq_true]
        ((repeat' (apply And.intro)) <;> try (first | rfl | omega | (unfold I64; omega)))
        refine Ops.pure .free rfl rfl (hf) (by simp only [bytesA, aev, Option.getD_some, List.getElem?_cons_zero, List.getElem?_cons_succ, List.map_cons, List.map_nil, List.nil_append, List.append_nil, List.getD_eq_getElem?_getD]; (repeat' (first | exact LeL.nil | exact Le1L.nil | exact Le.refl _ | exact Le1.refl _ | exact Le1.nil _ | exact Le1.tok _ _ _ | exact LeR.one (Le.refl _) | apply LeR.tup | apply LeL.cons | apply Le1L.cons | apply Le.agg | apply Le.one | apply LeR.one))) rfl rfl ?_
        refine Ops.god tab_ok follows_ok Try.func41 60 ?_; simp only [bytesA, drun, aops, aone, aop, needs, ext, aev, aconst, aput, aupd, acmp, aarith, ashift, abin, tab_3, ok1, Option.getD_some, Option.bind_some, List.set_cons_zero, List.set_cons_succ, List.getElem?_cons_zero, List.getElem?_cons_succ, List.cons_append, List.nil_append, true_and, if_true, if_false, List.getD_eq_getElem?_getD, Bool.false_eq_true]
        ((repeat' (apply And.intro)) <;> try (first | rfl | omega | (unfold I64; omega)))
        refine ih (k + 1) _ (by omega) (by omega) ?_
        simp only [Int.natCast_add, Int.natCast_one, bytesA]
        (refine Weak.of (by simp [hc0]) ?_ ?_ <;> (repeat' (first | exact WkT.nil | exact WkH.nil _ | exact Le.refl _ | exact Le.junk _ | exact Le1.refl _ | exact Le1.nil _ | exact Le1.tok _ _ _ | exact Le1L.nil | rfl | apply WkT.cons | apply WkH.cons | apply LeB.same | apply LeB.box | apply Le1L.cons | apply Le.agg | apply Le.one)))
      obtain rfl : k = r.length := by omega
      have hkk : ¬ (r.length : Int) < r.length := by omega
      rw [List.take_length]
      refine Run.god tab_ok follows_ok Try.func41 60 ?_; simp only [hkk, List.length_map, decide_false, ↓alt_f, drun, aops, aone, aop, needs, ext, aev, aput, aupd, aload, afieldAddr, acmp, ashift, abin, alen, tab_3, tab_34, tab_44, tab_51, ok1, cellsAs, TI.agg, exitTo, Option.getD_some, Option.bind_some, Option.map_some, List.set_cons_zero, List.set_cons_succ, List.length_cons, List.length_nil, List.getElem?_cons_zero, List.getElem?_cons_succ, List.drop_zero, List.take_succ_cons, List.take_zero, List.length_map, List.cons_append, List.nil_append, true_and, if_true, if_false, Nat.reduceAdd, Nat.reduceLeDiff, Nat.zero_add, Nat.add_zero, beq_self_eq_true, decide_false, Nat.reduceLeDiff, List.getD_eq_getElem?_getD, Bool.false_eq_true]
      refine Ops.pure .free rfl rfl (hw) (by simp only [encD, bytesA, aev, Option.getD_some, List.getElem?_cons_zero, List.getElem?_cons_succ, List.map_cons, List.map_nil, List.nil_append, List.append_nil, List.getD_eq_getElem?_getD]; (repeat' (first | exact LeL.nil | exact Le1L.nil | exact Le.refl _ | exact Le1.refl _ | exact Le1.nil _ | exact Le1.tok _ _ _ | exact LeR.one (Le.refl _) | apply LeR.tup | apply LeL.cons | apply Le1L.cons | apply Le.agg | apply Le.one | apply LeR.one))) rfl rfl ?_
      refine Ops.god tab_ok follows_ok Try.func41 60 ?_; simp only [encDE, encD, bytesA, decide_true, ↓alt_f, drun, aops, aone, aop, needs, ext, aev, aconst, aput, aupd, aload, astore, acmp, ashift, abin, tab_25, tab_44, ok1, lay, cellsAs, TI.agg, AV.cells, AV.whole, Option.getD_some, Option.bind_some, Option.map_some, List.set_cons_zero, List.set_cons_succ, List.length_cons, List.length_nil, List.getElem?_cons_zero, List.getElem?_cons_succ, List.drop_zero, List.drop_succ_cons, List.take_succ_cons, List.take_zero, List.take_nil, List.drop_nil, List.cons_append, List.nil_append, List.append_nil, true_and, and_true, if_true, if_false, Nat.reduceAdd, Nat.zero_add, Bool.not_true, decide_true, Nat.le_refl, List.getD_eq_getElem?_getD, Bool.false_eq_true]
      refine Ops.pure .free rfl rfl (hy) (by simp only [encD, bytesA, aev, Option.getD_some, List.getElem?_cons_zero, List.getElem?_cons_succ, List.map_cons, List.map_nil, List.nil_append, List.append_nil, List.getD_eq_getElem?_getD]; (repeat' (first | exact LeL.nil | exact Le1L.nil | exact Le.refl _ | exact Le1.refl _ | exact Le1.nil _ | exact Le1.tok _ _ _ | exact LeR.one (Le.refl _) | apply LeR.tup | apply LeL.cons | apply Le1L.cons | apply Le.agg | apply Le.one | apply LeR.one))) rfl rfl ?_
      refine Ops.god tab_ok follows_ok Try.func41 60 ?_; simp only [Try.results41, encDE, encD, bytesA, List.length_map, decide_true, ↓alt_f, aappendM, drun, aops, aone, afin, ares, aresL, ares1, aresOk, aresOk1, aop, needs, ext, aev, aconst, aput, aupd, aload, astore, afieldAddr, acmp, ashift, abin, abuild, aelems, plains, asrc, aappend, tab_22, tab_25, tab_34, tab_44, tab_51, ok1, lay, cellsAs, TI.agg, AV.cells, AV.whole, Option.getD_some, Option.bind_some, Option.map_some, List.set_cons_zero, List.set_cons_succ, List.length_cons, List.length_nil, List.getElem?_cons_zero, List.getElem?_cons_succ, List.getElem?_toArray, List.drop_zero, List.drop_succ_cons, List.take_succ_cons, List.take_zero, List.take_nil, List.drop_nil, List.map_cons, List.map_nil, List.length_map, List.cons_append, List.nil_append, List.append_nil, List.all_nil, List.replicate_zero, true_and, and_true, if_true, if_false, Nat.reduceAdd, Nat.reduceLeDiff, Nat.reduceMul, Nat.zero_add, beq_self_eq_true, Bool.and_true, Bool.not_true, decide_true, Nat.reduceLT, Nat.reduceLeDiff, Nat.le_refl, List.getD_eq_getElem?_getD, Bool.false_eq_true]
      ((repeat' (apply And.intro)) <;> try (first | rfl | omega | (unfold I64; omega)))
      simp only [encWE, encW, bytesA, rowsA, List.map_append]
      (repeat' (first | exact LeL.nil | exact Le1L.nil | exact Le.refl _ | exact Le1.refl _ | exact Le1.nil _ | exact Le1.tok _ _ _ | exact LeR.one (Le.refl _) | apply LeR.tup | apply LeL.cons | apply Le1L.cons | apply Le.agg | apply Le.one | apply LeR.one))
    · rw [show appendS g r = (⟨d2, g.l⟩, z2) by unfold appendS; rw [if_neg hlg, if_neg h0, hz1, if_pos rfl, hz2, if_neg h2]]
      refine ⟨⟨_, Try.func41, by kernel_rfl, rfl⟩, ACall.of Try.func41 rfl fun c0 hc0 => ?_⟩; simp only [Try.ntmps41, List.length_cons, List.length_nil, Nat.reduceAdd, Nat.reduceSub, List.replicate_succ, List.replicate_zero, List.cons_append, List.nil_append]; refine Run.god tab_ok follows_ok Try.func41 60 ?_; simp only [encW, bytesA, rowsA, drun, aops, aone, aop, needs, ext, aev, aconst, aput, aupd, tab_51, ok1, AV.cells, AV.whole, Option.getD_some, Option.map_some, List.set_cons_zero, List.set_cons_succ, List.length_cons, List.length_nil, List.getElem?_cons_zero, List.getElem?_cons_succ, List.cons_append, List.nil_append, true_and, if_true, if_false, Nat.zero_add, List.getD_eq_getElem?_getD, Bool.false_eq_true]
      refine Ops.pure .free rfl rfl (hc) (by simp only [rowsA, aev, Option.getD_some, List.getElem?_cons_zero, List.getElem?_cons_succ, List.map_cons, List.map_nil, List.nil_append, List.append_nil, List.getD_eq_getElem?_getD]; (repeat' (first | exact LeL.nil | exact Le1L.nil | exact Le.refl _ | exact Le1.refl _ | exact Le1.nil _ | exact Le1.tok _ _ _ | exact LeR.one (Le.refl _) | apply LeR.tup | apply LeL.cons | apply Le1L.cons | apply Le.agg | apply Le.one | apply LeR.one))) rfl rfl ?_
      refine Ops.god tab_ok follows_ok Try.func41 60 ?_; simp only [hr0, List.length_map, decide_false, ↓alt_f, drun, aops, aone, aop, needs, ext, aev, aconst, aput, aupd, acmp, ashift, abin, alen, aelems, plains, tab_3, tab_5, tab_22, tab_34, ok1, Option.getD_some, Option.bind_some, Option.map_some, List.set_cons_zero, List.set_cons_succ, List.length_cons, List.length_nil, List.getElem?_cons_zero, List.getElem?_cons_succ, List.map_nil, List.length_map, List.cons_append, List.nil_append, List.all_nil, List.replicate_zero, true_and, and_true, if_true, if_false, Nat.reduceAdd, Nat.reduceLeDiff, Nat.reduceMul, Nat.zero_add, beq_self_eq_true, Bool.and_true, decide_false, Nat.reduceLT, Nat.reduceLeDiff, List.getD_eq_getElem?_getD, Bool.false_eq_true]
      refine Run.loopV (α := Nat) (fun k => k ≤ r.length) (fun k => [(6, bytesA (frs (r.take k))), (7, .int .i64 k)]) 3 (fun _ => []) (fun k => r.length - k) 0 (Nat.zero_le _) ?_ ?_
      · simp only [writes, junks, puts, hputs, List.filterMap_cons, List.filterMap_nil, Int.natCast_zero, List.set_cons_zero, List.set_cons_succ, List.take_succ_cons, List.take_zero, List.take_nil, List.map_nil, List.cons_append, List.nil_append, List.append_nil, bytesA, frs, List.flatten_nil]
        (refine Weak.of (by simp [hc0]) ?_ ?_ <;> (repeat' (first | exact WkT.nil | exact WkH.nil _ | exact Le.refl _ | exact Le.junk _ | exact Le1.refl _ | exact Le1.nil _ | exact Le1.tok _ _ _ | exact Le1L.nil | rfl | apply WkT.cons | apply WkH.cons | apply LeB.same | apply LeB.box | apply Le1L.cons | apply Le.agg | apply Le.one)))
      intro k hI ih
      simp only [writes, junks, puts, hputs, List.filterMap_cons, List.filterMap_nil, List.set_cons_zero, List.set_cons_succ, List.take_succ_cons, List.take_nil, List.cons_append, List.nil_append, List.append_nil] at ih ⊢
      by_cases hk : k < r.length
      · obtain ⟨x, hx⟩ : ∃ x, r[k]? = some x := ⟨_, List.getElem?_eq_getElem hk⟩
        have hkk : (k : Int) < r.length := by omega
        have hfk := frs_take_le r k
        have hxl := large_no hlg x (List.mem_of_getElem? hx)
        have hf := rframe15_spec (frs (r.take k)) x (by omega) (by omega)
        rw [← frs_snoc hx] at hf
        refine Run.god tab_ok follows_ok Try.func41 60 ?_; simp only [hx, hkk, rowC, List.getElem?_map, List.length_map, decide_true, ↓alt_t, drun, aops, aone, aop, needs, ext, aev, aput, aupd, aload, aindexAddr, acmp, ashift, abin, alen, tab_3, tab_22, tab_34, ok1, cellsAs, TI.agg, Option.getD_some, Option.bind_some, Option.map_some, List.set_cons_zero, List.set_cons_succ, List.length_cons, List.length_nil, List.getElem?_cons_zero, List.getElem?_cons_succ, List.take_succ_cons, List.take_nil, List.length_map, List.cons_append, List.nil_append, true_and, and_true, if_true, if_false, Nat.reduceAdd, Nat.zero_add, decide_true, Nat.reduceLT, Nat.le_refl, Int.toNat_natCast, List.getD_eq_getElem?_getD, Bool.false_eq_true]
        ((repeat' (apply And.intro)) <;> try (first | rfl | omega | (unfold I64; omega)))
        refine Ops.pure .free rfl rfl (hf) (by simp only [bytesA, aev, Option.getD_some, List.getElem?_cons_zero, List.getElem?_cons_succ, List.map_cons, List.map_nil, List.nil_append, List.append_nil, List.getD_eq_getElem?_getD]; (repeat' (first | exact LeL.nil | exact Le1L.nil | exact Le.refl _ | exact Le1.refl _ | exact Le1.nil _ | exact Le1.tok _ _ _ | exact LeR.one (Le.refl _) | apply LeR.tup | apply LeL.cons | apply Le1L.cons | apply Le.agg | apply Le.one | apply LeR.one))) rfl rfl ?_
        refine Ops.god tab_ok follows_ok Try.func41 60 ?_; simp only [bytesA, drun, aops, aone, aop, needs, ext, aev, aconst, aput, aupd, acmp, aarith, ashift, abin, tab_3, ok1, Option.getD_some, Option.bind_some, List.set_cons_zero, List.set_cons_succ, List.getElem?_cons_zero, List.getElem?_cons_succ, List.cons_append, List.nil_append, true_and, if_true, if_false, List.getD_eq_getElem?_getD, Bool.false_eq_true]
        ((repeat' (apply And.intro)) <;> try (first | rfl | omega | (unfold I64; omega)))
        refine ih (k + 1) _ (by omega) (by omega) ?_
        simp only [Int.natCast_add, Int.natCast_one, bytesA]
        (refine Weak.of (by simp [hc0]) ?_ ?_ <;> (repeat' (first | exact WkT.nil | exact WkH.nil _ | exact Le.refl _ | exact Le.junk _ | exact Le1.refl _ | exact Le1.nil _ | exact Le1.tok _ _ _ | exact Le1L.nil | rfl | apply WkT.cons | apply WkH.cons | apply LeB.same | apply LeB.box | apply Le1L.cons | apply Le.agg | apply Le.one)))
      obtain rfl : k = r.length := by omega
      have hkk : ¬ (r.length : Int) < r.length := by omega
      rw [List.take_length]
      refine Run.god tab_ok follows_ok Try.func41 60 ?_; simp only [hkk, List.length_map, decide_false, ↓alt_f, drun, aops, aone, aop, needs, ext, aev, aput, aupd, aload, afieldAddr, acmp, ashift, abin, alen, tab_3, tab_34, tab_44, tab_51, ok1, cellsAs, TI.agg, exitTo, Option.getD_some, Option.bind_some, Option.map_some, List.set_cons_zero, List.set_cons_succ, List.length_cons, List.length_nil, List.getElem?_cons_zero, List.getElem?_cons_succ, List.drop_zero, List.take_succ_cons, List.take_zero, List.length_map, List.cons_append, List.nil_append, true_and, if_true, if_false, Nat.reduceAdd, Nat.reduceLeDiff, Nat.zero_add, Nat.add_zero, beq_self_eq_true, decide_false, Nat.reduceLeDiff, List.getD_eq_getElem?_getD, Bool.false_eq_true]
      refine Ops.pure .free rfl rfl (hw) (by simp only [encD, bytesA, aev, Option.getD_some, List.getElem?_cons_zero, List.getElem?_cons_succ, List.map_cons, List.map_nil, List.nil_append, List.append_nil, List.getD_eq_getElem?_getD]; (repeat' (first | exact LeL.nil | exact Le1L.nil | exact Le.refl _ | exact Le1.refl _ | exact Le1.nil _ | exact Le1.tok _ _ _ | exact LeR.one (Le.refl _) | apply LeR.tup | apply LeL.cons | apply Le1L.cons | apply Le.agg | apply Le.one | apply LeR.one))) rfl rfl ?_
      refine Ops.god tab_ok follows_ok Try.func41 60 ?_; simp only [encDE, encD, bytesA, decide_true, ↓alt_f, drun, aops, aone, aop, needs, ext, aev, aconst, aput, aupd, aload, astore, acmp, ashift, abin, tab_25, tab_44, ok1, lay, cellsAs, TI.agg, AV.cells, AV.whole, Option.getD_some, Option.bind_some, Option.map_some, List.set_cons_zero, List.set_cons_succ, List.length_cons, List.length_nil, List.getElem?_cons_zero, List.getElem?_cons_succ, List.drop_zero, List.drop_succ_cons, List.take_succ_cons, List.take_zero, List.take_nil, List.drop_nil, List.cons_append, List.nil_append, List.append_nil, true_and, and_true, if_true, if_false, Nat.reduceAdd, Nat.zero_add, Bool.not_true, decide_true, Nat.le_refl, List.getD_eq_getElem?_getD, Bool.false_eq_true]
      refine Ops.pure .free rfl rfl (hy) (by simp only [encD, bytesA, aev, Option.getD_some, List.getElem?_cons_zero, List.getElem?_cons_succ, List.map_cons, List.map_nil, List.nil_append, List.append_nil, List.getD_eq_getElem?_getD]; (repeat' (first | exact LeL.nil | exact Le1L.nil | exact Le.refl _ | exact Le1.refl _ | exact Le1.nil _ | exact Le1.tok _ _ _ | exact LeR.one (Le.refl _) | apply LeR.tup | apply LeL.cons | apply Le1L.cons | apply Le.agg | apply Le.one | apply LeR.one))) rfl rfl ?_
      refine Ops.god tab_ok follows_ok Try.func41 60 ?_; simp only [Try.results41, encDE, encD, bytesA, h2, decide_false, ↓alt_t, drun, aops, aone, afin, ares, aresL, ares1, aresOk, aresOk1, aop, needs, ext, aev, aconst, aput, aupd, aload, astore, afieldAddr, acmp, ashift, abin, abuild, tab_25, tab_34, tab_44, tab_51, ok1, lay, cellsAs, TI.agg, AV.cells, AV.whole, Option.getD_some, Option.bind_some, Option.map_some, List.set_cons_zero, List.set_cons_succ, List.length_cons, List.length_nil, List.getElem?_cons_zero, List.getElem?_cons_succ, List.drop_zero, List.drop_succ_cons, List.take_succ_cons, List.take_zero, List.take_nil, List.drop_nil, List.map_cons, List.map_nil, List.cons_append, List.nil_append, List.append_nil, true_and, and_true, if_true, if_false, Nat.reduceAdd, Nat.reduceLeDiff, Nat.zero_add, Bool.not_false, decide_false, Nat.reduceLeDiff, Nat.le_refl, List.getD_eq_getElem?_getD, Bool.false_eq_true]
      simp only [encWE, encW, bytesA, rowsA]
      (repeat' (first | exact LeL.nil | exact Le1L.nil | exact Le.refl _ | exact Le1.refl _ | exact Le1.nil _ | exact Le1.tok _ _ _ | exact LeR.one (Le.refl _) | apply LeR.tup | apply LeL.cons | apply Le1L.cons | apply Le.agg | apply Le.one | apply LeR.one))
  · rw [show appendS g r = (⟨d1, g.l⟩, z1) by unfold appendS; rw [if_neg hlg, if_neg h0, hz1, if_neg h1]]
    refine ⟨⟨_, Try.func41, by kernel_rfl, rfl⟩, ACall.of Try.func41 rfl fun c0 hc0 => ?_⟩; simp only [Try.ntmps41, List.length_cons, List.length_nil, Nat.reduceAdd, Nat.reduceSub, List.replicate_succ, List.replicate_zero, List.cons_append, List.nil_append]; refine Run.god tab_ok follows_ok Try.func41 60 ?_; simp only [encW, bytesA, rowsA, drun, aops, aone, aop, needs, ext, aev, aconst, aput, aupd, tab_51, ok1, AV.cells, AV.whole, Option.getD_some, Option.map_some, List.set_cons_zero, List.set_cons_succ, List.length_cons, List.length_nil, List.getElem?_cons_zero, List.getElem?_cons_succ, List.cons_append, List.nil_append, true_and, if_true, if_false, Nat.zero_add, List.getD_eq_getElem?_getD, Bool.false_eq_true]
    refine Ops.pure .free rfl rfl (hc) (by simp only [rowsA, aev, Option.getD_some, List.getElem?_cons_zero, List.getElem?_cons_succ, List.map_cons, List.map_nil, List.nil_append, List.append_nil, List.getD_eq_getElem?_getD]; (repeat' (first | exact LeL.nil | exact Le1L.nil | exact Le.refl _ | exact Le1.refl _ | exact Le1.nil _ | exact Le1.tok _ _ _ | exact LeR.one (Le.refl _) | apply LeR.tup | apply LeL.cons | apply Le1L.cons | apply Le.agg | apply Le.one | apply LeR.one))) rfl rfl ?_
    refine Ops.god tab_ok follows_ok Try.func41 60 ?_; simp only [hr0, List.length_map, decide_false, ↓alt_f, drun, aops, aone, aop, needs, ext, aev, aconst, aput, aupd, acmp, ashift, abin, alen, aelems, plains, tab_3, tab_5, tab_22, tab_34, ok1, Option.getD_some, Option.bind_some, Option.map_some, List.set_cons_zero, List.set_cons_succ, List.length_cons, List.length_nil, List.getElem?_cons_zero, List.getElem?_cons_succ, List.map_nil, List.length_map, List.cons_append, List.nil_append, List.all_nil, List.replicate_zero, true_and, and_true, if_true, if_false, Nat.reduceAdd, Nat.reduceLeDiff, Nat.reduceMul, Nat.zero_add, beq_self_eq_true, Bool.and_true, decide_false, Nat.reduceLT, Nat.reduceLeDiff, List.getD_eq_getElem?_getD, Bool.false_eq_true]
    refine Run.loopV (α := Nat) (fun k => k ≤ r.length) (fun k => [(6, bytesA (frs (r.take k))), (7, .int .i64 k)]) 3 (fun _ => []) (fun k => r.length - k) 0 (Nat.zero_le _) ?_ ?_
    · simp only [writes, junks, puts, hputs, List.filterMap_cons, List.filterMap_nil, Int.natCast_zero, List.set_cons_zero, List.set_cons_succ, List.take_succ_cons, List.take_zero, List.take_nil, List.map_nil, List.cons_append, List.nil_append, List.append_nil, bytesA, frs, List.flatten_nil]
      (refine Weak.of (by simp [hc0]) ?_ ?_ <;> (repeat' (first | exact WkT.nil | exact WkH.nil _ | exact Le.refl _ | exact Le.junk _ | exact Le1.refl _ | exact Le1.nil _ | exact Le1.tok _ _ _ | exact Le1L.nil | rfl | apply WkT.cons | apply WkH.cons | apply LeB.same | apply LeB.box | apply Le1L.cons | apply Le.agg | apply Le.one)))
    intro k hI ih
    simp only [writes, junks, puts, hputs, List.filterMap_cons, List.filterMap_nil, List.set_cons_zero, List.set_cons_succ, List.take_succ_cons, List.take_nil, List.cons_append, List.nil_append, List.append_nil] at ih ⊢
    by_cases hk : k < r.length
    · obtain ⟨x, hx⟩ : ∃ x, r[k]? = some x := ⟨_, List.getElem?_eq_getElem hk⟩
      have hkk : (k : Int) < r.length := by omega
      have hfk := frs_take_le r k
      have hxl := large_no hlg x (List.mem_of_getElem? hx)
      have hf := rframe15_spec (frs (r.take k)) x (by omega) (by omega)
      rw [← frs_snoc hx] at hf
      refine Run.god tab_ok follows_ok Try.func41 60 ?_; simp only [hx, hkk, rowC, List.getElem?_map, List.length_map, decide_true, ↓alt_t, drun, aops, aone, aop, needs, ext, aev, aput, aupd, aload, aindexAddr, acmp, ashift, abin, alen, tab_3, tab_22, tab_34, ok1, cellsAs, TI.agg, Option.getD_some, Option.bind_some, Option.map_some, List.set_cons_zero, List.set_cons_succ, List.length_cons, List.length_nil, List.getElem?_cons_zero, List.getElem?_cons_succ, List.take_succ_cons, List.take_nil, List.length_map, List.cons_append, List.nil_append, true_and, and_true, if_true, if_false, Nat.reduceAdd, Nat.zero_add, decide_true, Nat.reduceLT, Nat.le_refl, Int.toNat_natCast, List.getD_eq_getElem?_getD, Bool.false_eq_true]
      ((repeat' (apply And.intro)) <;> try (first | rfl | omega | (unfold I64; omega)))
      refine Ops.pure .free rfl rfl (hf) (by simp only [bytesA, aev, Option.getD_some, List.getElem?_cons_zero, List.getElem?_cons_succ, List.map_cons, List.map_nil, List.nil_append, List.append_nil, List.getD_eq_getElem?_getD]; (repeat' (first | exact LeL.nil | exact Le1L.nil | exact Le.refl _ | exact Le1.refl _ | exact Le1.nil _ | exact Le1.tok _ _ _ | exact LeR.one (Le.refl _) | apply LeR.tup | apply LeL.cons | apply Le1L.cons | apply Le.agg | apply Le.one | apply LeR.one))) rfl rfl ?_
      refine Ops.god tab_ok follows_ok Try.func41 60 ?_; simp only [bytesA, drun, aops, aone, aop, needs, ext, aev, aconst, aput, aupd, acmp, aarith, ashift, abin, tab_3, ok1, Option.getD_some, Option.bind_some, List.set_cons_zero, List.set_cons_succ, List.getElem?_cons_zero, List.getElem?_cons_succ, List.cons_append, List.nil_append, true_and, if_true, if_false, List.getD_eq_getElem?_getD, Bool.false_eq_true]
      ((repeat' (apply And.intro)) <;> try (first | rfl | omega | (unfold I64; omega)))
      refine ih (k + 1) _ (by omega) (by omega) ?_
      simp only [Int.natCast_add, Int.natCast_one, bytesA]
      (refine Weak.of (by simp [hc0]) ?_ ?_ <;> (repeat' (first | exact WkT.nil | exact WkH.nil _ | exact Le.refl _ | exact Le.junk _ | exact Le1.refl _ | exact Le1.nil _ | exact Le1.tok _ _ _ | exact Le1L.nil | rfl | apply WkT.cons | apply WkH.cons | apply LeB.same | apply LeB.box | apply Le1L.cons | apply Le.agg | apply Le.one)))
    obtain rfl : k = r.length := by omega
    have hkk : ¬ (r.length : Int) < r.length := by omega
    rw [List.take_length]
    refine Run.god tab_ok follows_ok Try.func41 60 ?_; simp only [hkk, List.length_map, decide_false, ↓alt_f, drun, aops, aone, aop, needs, ext, aev, aput, aupd, aload, afieldAddr, acmp, ashift, abin, alen, tab_3, tab_34, tab_44, tab_51, ok1, cellsAs, TI.agg, exitTo, Option.getD_some, Option.bind_some, Option.map_some, List.set_cons_zero, List.set_cons_succ, List.length_cons, List.length_nil, List.getElem?_cons_zero, List.getElem?_cons_succ, List.drop_zero, List.take_succ_cons, List.take_zero, List.length_map, List.cons_append, List.nil_append, true_and, if_true, if_false, Nat.reduceAdd, Nat.reduceLeDiff, Nat.zero_add, Nat.add_zero, beq_self_eq_true, decide_false, Nat.reduceLeDiff, List.getD_eq_getElem?_getD, Bool.false_eq_true]
    refine Ops.pure .free rfl rfl (hw) (by simp only [encD, bytesA, aev, Option.getD_some, List.getElem?_cons_zero, List.getElem?_cons_succ, List.map_cons, List.map_nil, List.nil_append, List.append_nil, List.getD_eq_getElem?_getD]; (repeat' (first | exact LeL.nil | exact Le1L.nil | exact Le.refl _ | exact Le1.refl _ | exact Le1.nil _ | exact Le1.tok _ _ _ | exact LeR.one (Le.refl _) | apply LeR.tup | apply LeL.cons | apply Le1L.cons | apply Le.agg | apply Le.one | apply LeR.one))) rfl rfl ?_
    refine Ops.god tab_ok follows_ok Try.func41 60 ?_; simp only [Try.results41, encDE, encD, bytesA, h1, decide_false, ↓alt_t, drun, aops, aone, afin, ares, aresL, ares1, aresOk, aresOk1, aop, needs, ext, aev, aconst, aput, aupd, aload, astore, afieldAddr, acmp, ashift, abin, abuild, tab_25, tab_34, tab_44, tab_51, ok1, lay, cellsAs, TI.agg, AV.cells, AV.whole, Option.getD_some, Option.bind_some, Option.map_some, List.set_cons_zero, List.set_cons_succ, List.length_cons, List.length_nil, List.getElem?_cons_zero, List.getElem?_cons_succ, List.drop_zero, List.drop_succ_cons, List.take_succ_cons, List.take_zero, List.take_nil, List.drop_nil, List.map_cons, List.map_nil, List.cons_append, List.nil_append, List.append_nil, true_and, and_true, if_true, if_false, Nat.reduceAdd, Nat.reduceLeDiff, Nat.zero_add, Bool.not_false, decide_false, Nat.reduceLeDiff, Nat.le_refl, List.getD_eq_getElem?_getD, Bool.false_eq_true]
    simp only [encWE, encW, bytesA, rowsA]
    (repeat' (first | exact LeL.nil | exact Le1L.nil | exact Le.refl _ | exact Le1.refl _ | exact Le1.nil _ | exact Le1.tok _ _ _ | exact LeR.one (Le.refl _) | apply LeR.tup | apply LeL.cons | apply Le1L.cons | apply Le.agg | apply Le.one | apply LeR.one))
set_option maxRecDepth 20000 in
theorem same17_spec (a b : WL) (ha : a.l.length ≤ 1000000) : ASpec Try.prog 32 [encW a, encW b] (.bool (sameW a b)) := by
  have h := rsame_spec a.d b.d
  have hr := rows15_spec a.l b.l (by omega)
  unfold sameW
  cases hs : sameB a.d b.d with
  | false =>
    rw [hs] at h
    refine ⟨⟨_, Try.func32, by kernel_rfl, rfl⟩, ACall.of Try.func32 rfl fun c0 hc0 => ?_⟩; simp only [Try.ntmps32, List.length_cons, List.length_nil, Nat.reduceAdd, Nat.reduceSub, List.replicate_succ, List.replicate_zero, List.cons_append, List.nil_append]; refine Run.god tab_ok follows_ok Try.func32 60 ?_; simp only [encW, bytesA, rowsA, drun, aops, aone, aop, needs, ext, aev, aconst, aput, aupd, aload, afieldAddr, tab_44, tab_51, ok1, cellsAs, TI.agg, AV.cells, AV.whole, Option.getD_some, Option.bind_some, Option.map_some, List.set_cons_zero, List.set_cons_succ, List.length_cons, List.length_nil, List.getElem?_cons_zero, List.getElem?_cons_succ, List.drop_zero, List.take_succ_cons, List.take_zero, List.cons_append, List.nil_append, true_and, if_true, if_false, Nat.reduceAdd, Nat.reduceLeDiff, Nat.zero_add, Nat.add_zero, Bool.false_and, Nat.reduceLeDiff, List.getD_eq_getElem?_getD, Bool.false_eq_true]
    refine Ops.pure .free rfl rfl (h) (by simp only [encD, bytesA, aev, Option.getD_some, List.getElem?_cons_zero, List.getElem?_cons_succ, List.map_cons, List.map_nil, List.nil_append, List.append_nil, List.getD_eq_getElem?_getD]; (repeat' (first | exact LeL.nil | exact Le1L.nil | exact Le.refl _ | exact Le1.refl _ | exact Le1.nil _ | exact Le1.tok _ _ _ | exact LeR.one (Le.refl _) | apply LeR.tup | apply LeL.cons | apply Le1L.cons | apply Le.agg | apply Le.one | apply LeR.one))) rfl rfl ?_
    refine Ops.god tab_ok follows_ok Try.func32 60 ?_; simp only [Try.results32, ↓alts_f, ↓gone_tf, gslot, drun, aops, aone, afin, ares, aresL, ares1, aresOk, aresOk1, aop, needs, ext, aev, aconst, aput, aupd, ok1, Option.getD_some, Option.bind_some, Option.map_some, List.set_cons_zero, List.set_cons_succ, List.getElem?_cons_zero, List.getElem?_cons_succ, List.getElem?_toArray, List.cons_append, List.nil_append, true_and, and_true, if_false, List.getD_eq_getElem?_getD, Bool.false_eq_true]
    (repeat' (first | exact LeL.nil | exact Le1L.nil | exact Le.refl _ | exact Le1.refl _ | exact Le1.nil _ | exact Le1.tok _ _ _ | exact LeR.one (Le.refl _) | apply LeR.tup | apply LeL.cons | apply Le1L.cons | apply Le.agg | apply Le.one | apply LeR.one))
  | true =>
    rw [hs] at h
    refine ⟨⟨_, Try.func32, by kernel_rfl, rfl⟩, ACall.of Try.func32 rfl fun c0 hc0 => ?_⟩; simp only [Try.ntmps32, List.length_cons, List.length_nil, Nat.reduceAdd, Nat.reduceSub, List.replicate_succ, List.replicate_zero, List.cons_append, List.nil_append]; refine Run.god tab_ok follows_ok Try.func32 60 ?_; simp only [encW, bytesA, rowsA, drun, aops, aone, aop, needs, ext, aev, aconst, aput, aupd, aload, afieldAddr, tab_44, tab_51, ok1, cellsAs, TI.agg, AV.cells, AV.whole, Option.getD_some, Option.bind_some, Option.map_some, List.set_cons_zero, List.set_cons_succ, List.length_cons, List.length_nil, List.getElem?_cons_zero, List.getElem?_cons_succ, List.drop_zero, List.take_succ_cons, List.take_zero, List.cons_append, List.nil_append, true_and, if_true, if_false, Nat.reduceAdd, Nat.reduceLeDiff, Nat.zero_add, Nat.add_zero, Bool.true_and, Nat.reduceLeDiff, List.getD_eq_getElem?_getD, Bool.false_eq_true]
    refine Ops.pure .free rfl rfl (h) (by simp only [encD, bytesA, aev, Option.getD_some, List.getElem?_cons_zero, List.getElem?_cons_succ, List.map_cons, List.map_nil, List.nil_append, List.append_nil, List.getD_eq_getElem?_getD]; (repeat' (first | exact LeL.nil | exact Le1L.nil | exact Le.refl _ | exact Le1.refl _ | exact Le1.nil _ | exact Le1.tok _ _ _ | exact LeR.one (Le.refl _) | apply LeR.tup | apply LeL.cons | apply Le1L.cons | apply Le.agg | apply Le.one | apply LeR.one))) rfl rfl ?_
    refine Ops.god tab_ok follows_ok Try.func32 60 ?_; simp only [↓alts_t, ↓gone_tt, gslot, aops, aone, aop, needs, ext, aev, aput, aupd, aload, afieldAddr, tab_34, tab_51, ok1, cellsAs, TI.agg, Option.getD_some, Option.bind_some, Option.map_some, List.set_cons_zero, List.set_cons_succ, List.length_cons, List.length_nil, List.getElem?_cons_zero, List.getElem?_cons_succ, List.getElem?_toArray, List.drop_zero, List.drop_succ_cons, List.take_succ_cons, List.take_nil, List.cons_append, List.nil_append, true_and, if_false, Nat.reduceAdd, Nat.zero_add, Nat.le_refl, List.getD_eq_getElem?_getD, Bool.false_eq_true]
    refine Ops.pure (Wanted.test 5 true true rfl) rfl rfl (hr) (by simp only [rowsA, aev, Option.getD_some, List.getElem?_cons_zero, List.getElem?_cons_succ, List.map_cons, List.map_nil, List.nil_append, List.append_nil, List.getD_eq_getElem?_getD]; (repeat' (first | exact LeL.nil | exact Le1L.nil | exact Le.refl _ | exact Le1.refl _ | exact Le1.nil _ | exact Le1.tok _ _ _ | exact LeR.one (Le.refl _) | apply LeR.tup | apply LeL.cons | apply Le1L.cons | apply Le.agg | apply Le.one | apply LeR.one))) rfl rfl ?_
    refine Ops.god tab_ok follows_ok Try.func32 60 ?_; simp only [Try.results32, drun, aops, aone, afin, ares, aresL, ares1, aresOk, aresOk1, aop, needs, ext, aev, aput, aupd, ok1, Option.getD_some, Option.bind_some, Option.map_some, List.set_cons_zero, List.set_cons_succ, List.getElem?_cons_zero, List.getElem?_cons_succ, List.cons_append, List.nil_append, true_and, and_true, if_false, List.getD_eq_getElem?_getD, Bool.false_eq_true]
    (repeat' (first | exact LeL.nil | exact Le1L.nil | exact Le.refl _ | exact Le1.refl _ | exact Le1.nil _ | exact Le1.tok _ _ _ | exact LeR.one (Le.refl _) | apply LeR.tup | apply LeL.cons | apply Le1L.cons | apply Le.agg | apply Le.one | apply LeR.one))
theorem plain17_spec (g : WL) : ASpec Try.prog 33 [encW g] (encW g) := by
  refine ⟨⟨_, Try.func33, by kernel_rfl, rfl⟩, ACall.of Try.func33 rfl fun c0 hc0 => ?_⟩; simp only [Try.ntmps33, List.length_cons, List.length_nil, Nat.reduceAdd, Nat.reduceSub, List.replicate_succ, List.replicate_zero, List.cons_append, List.nil_append]; refine Run.god tab_ok follows_ok Try.func33 60 ?_; simp only [encW, bytesA, rowsA, drun, adops, adone, places, mayNeed, freeOk, rdOf, AV.id, wrOf, aops, aone, aop, needs, ext, aev, aput, aupd, aload, afieldAddr, tab_42, tab_47, tab_51, ok1, cellsAs, TI.agg, AV.cells, AV.whole, Option.getD_some, Option.bind_some, Option.map_some, List.set_cons_zero, List.set_cons_succ, List.length_cons, List.length_nil, List.getElem?_cons_zero, List.getElem?_cons_succ, List.drop_zero, List.take_succ_cons, List.take_zero, List.cons_append, List.nil_append, true_and, and_true, if_true, if_false, Nat.reduceAdd, Nat.reduceLeDiff, Nat.zero_add, Nat.add_zero, Nat.reduceLeDiff, List.getD_eq_getElem?_getD, Bool.false_eq_true]
  ((repeat' (apply And.intro)) <;> try (first | rfl | omega | (unfold I64; omega)))
  refine DOps.pure rfl .free rfl rfl (plain16_spec g.d) (by simp only [encD, bytesA, aev, Option.getD_some, List.getElem?_cons_zero, List.getElem?_cons_succ, List.map_cons, List.map_nil, List.nil_append, List.append_nil, List.getD_eq_getElem?_getD]; (repeat' (first | exact LeL.nil | exact Le1L.nil | exact Le.refl _ | exact Le1.refl _ | exact Le1.nil _ | exact Le1.tok _ _ _ | exact LeR.one (Le.refl _) | apply LeR.tup | apply LeL.cons | apply Le1L.cons | apply Le.agg | apply Le.one | apply LeR.one))) rfl rfl ?_
  refine DOps.god tab_ok follows_ok Try.func33 60 rfl ?_; simp only [Try.results33, encD, bytesA, drun, adops, adone, mayNeed, freeOk, rdOf, AV.id, wrOf, afin, ares, aresL, ares1, aresOk, aresOk1, aop, needs, aev, aconst, aput, aupd, aload, astore, afieldAddr, abuild, tab_34, tab_44, tab_47, tab_51, ok1, lay, cellsAs, TI.agg, AV.cells, AV.whole, Option.getD_some, Option.bind_some, Option.map_some, List.set_cons_zero, List.set_cons_succ, List.length_cons, List.length_nil, List.getElem?_cons_zero, List.getElem?_cons_succ, List.drop_zero, List.drop_succ_cons, List.take_succ_cons, List.take_zero, List.take_nil, List.drop_nil, List.map_cons, List.map_nil, List.cons_append, List.nil_append, List.append_nil, true_and, and_true, if_true, if_false, Nat.reduceAdd, Nat.reduceLeDiff, Nat.zero_add, Nat.reduceLeDiff, Nat.le_refl, List.getD_eq_getElem?_getD, Bool.false_eq_true]
  ((repeat' (apply And.intro)) <;> try (first | rfl | omega | (unfold I64; omega)))
  (repeat' (first | exact LeL.nil | exact Le1L.nil | exact Le.refl _ | exact Le1.refl _ | exact Le1.nil _ | exact Le1.tok _ _ _ | exact LeR.one (Le.refl _) | apply LeR.tup | apply LeL.cons | apply Le1L.cons | apply Le.agg | apply Le.one | apply LeR.one))
/-- Few records, of few bytes. -/
def fewW (l : List Bytes) : Bool := decide (l.length ≤ 40 ∧ l.flatten.length ≤ 2000)
theorem flat_snoc {l : List Bytes} {k : Nat} {x : Bytes} (h : l[k]? = some x) : (l.take (k + 1)).flatten.length = (l.take k).flatten.length + x.length := by
  rw [take_succ_snoc h]; simp
theorem flat_take_le (l : List Bytes) (k : Nat) : (l.take k).flatten.length ≤ l.flatten.length := by
  conv => rhs; rw [← List.take_append_drop k l, List.flatten_append]
  rw [List.length_append]; omega
set_option maxRecDepth 20000 in
theorem few17_spec (l : List Bytes) (hl : ∀ x ∈ l, x.length ≤ 4611686018427387904) : ASpec Try.prog 40 [rowsA l] (.bool (fewW l)) := by
  refine ⟨⟨_, Try.func40, by kernel_rfl, rfl⟩, ACall.of Try.func40 rfl fun c0 hc0 => ?_⟩; simp only [Try.ntmps40, List.length_cons, List.length_nil, Nat.reduceAdd, Nat.reduceSub, List.replicate_succ, List.replicate_zero, List.cons_append, List.nil_append]; refine Run.god tab_ok follows_ok Try.func40 60 ?_; simp only [rowsA, drun, aops, aone, aop, needs, ext, aev, aconst, aput, aupd, ok1, List.set_cons_zero, List.set_cons_succ, List.nil_append, true_and, if_false, Bool.false_eq_true]
  refine Run.loopV (α := Nat) (fun k => k ≤ l.length ∧ k ≤ 40 ∧ (l.take k).flatten.length ≤ 2000) (fun k => [(3, .int .i64 ((l.take k).flatten.length : Nat)), (4, .int .i64 k)]) 0 (fun _ => []) (fun k => l.length - k) 0 ⟨Nat.zero_le _, by omega, by simp⟩ ?_ ?_
  · simp only [writes, junks, puts, hputs, List.filterMap_cons, List.filterMap_nil, Int.natCast_zero, List.set_cons_zero, List.set_cons_succ, List.length_nil, List.take_zero, List.take_nil, List.cons_append, List.nil_append, List.append_nil, List.flatten_nil]
    (refine Weak.of (by simp [hc0]) ?_ ?_ <;> (repeat' (first | exact WkT.nil | exact WkH.nil _ | exact Le.refl _ | exact Le.junk _ | exact Le1.refl _ | exact Le1.nil _ | exact Le1.tok _ _ _ | exact Le1L.nil | rfl | apply WkT.cons | apply WkH.cons | apply LeB.same | apply LeB.box | apply Le1L.cons | apply Le.agg | apply Le.one)))
  rintro k ⟨hI, h40, hfl⟩ ih
  simp only [writes, junks, puts, hputs, List.filterMap_cons, List.filterMap_nil, List.set_cons_zero, List.set_cons_succ, List.take_nil, List.cons_append, List.nil_append, List.append_nil] at ih ⊢
  by_cases hk : k < l.length
  · obtain ⟨x, hx⟩ : ∃ x, l[k]? = some x := ⟨_, List.getElem?_eq_getElem hk⟩
    have hkk : (k : Int) < l.length := by omega
    have hsn := flat_snoc hx
    have hle := flat_take_le l (k + 1)
    have hxl := hl x (List.mem_of_getElem? hx)
    by_cases h4 : k = 40
    · subst h4
      have c40 : ((40 : Nat) : Int) = 40 := rfl
      have hk40 : (40 : Int) < l.length := by omega
      refine Run.god tab_ok follows_ok Try.func40 60 ?_; simp only [Try.results40, hx, hk40, c40, rowC, bytesA, List.getElem?_map, List.length_map, decide_true, Int.reduceToNat, ↓alt_t, ↓alts_t, ↓gone_ft, gslot, Int.reduceLE, drun, aops, aone, afin, ares, aresL, ares1, aresOk, aresOk1, aop, needs, ext, aev, aconst, aput, aupd, aload, aindexAddr, acmp, aarith, ashift, abin, alen, tab_3, tab_22, tab_34, ok1, cellsAs, TI.agg, Option.getD_some, Option.bind_some, Option.map_some, List.set_cons_zero, List.set_cons_succ, List.length_cons, List.length_nil, List.getElem?_cons_zero, List.getElem?_cons_succ, List.getElem?_toArray, List.take_succ_cons, List.take_nil, List.length_map, List.nil_append, true_and, and_true, if_true, if_false, Nat.zero_add, decide_true, Nat.reduceLT, Nat.le_refl, List.getD_eq_getElem?_getD, Bool.false_eq_true]
      ((repeat' (apply And.intro)) <;> try (first | rfl | omega | (unfold I64; omega)))
      rw [show fewW l = false from decide_eq_false (by omega)]
      (repeat' (first | exact LeL.nil | exact Le1L.nil | exact Le.refl _ | exact Le1.refl _ | exact Le1.nil _ | exact Le1.tok _ _ _ | exact LeR.one (Le.refl _) | apply LeR.tup | apply LeL.cons | apply Le1L.cons | apply Le.agg | apply Le.one | apply LeR.one))
    have h4' : ¬ (k : Int) = 40 := by omega
    by_cases ht : 2000 < (l.take k).flatten.length + x.length
    · have ht' : (2000 : Int) < ((l.take k).flatten.length : Int) + x.length := by omega
      refine Run.god tab_ok follows_ok Try.func40 60 ?_; simp only [Try.results40, hx, hkk, h4', ht', rowC, bytesA, List.getElem?_map, List.length_map, decide_true, decide_false, ↓alt_t, ↓alts_f, ↓gone_ff, gslot, drun, aops, aone, afin, ares, aresL, ares1, aresOk, aresOk1, aop, needs, ext, aev, aconst, aput, aupd, aload, aindexAddr, acmp, aarith, ashift, abin, alen, tab_3, tab_22, tab_34, ok1, cellsAs, TI.agg, Option.getD_some, Option.bind_some, Option.map_some, List.set_cons_zero, List.set_cons_succ, List.length_cons, List.length_nil, List.getElem?_cons_zero, List.getElem?_cons_succ, List.getElem?_toArray, List.take_succ_cons, List.take_nil, List.length_map, List.nil_append, true_and, and_true, if_true, if_false, Nat.zero_add, decide_true, decide_false, Nat.reduceLT, Nat.le_refl, Int.toNat_natCast, List.getD_eq_getElem?_getD, Bool.false_eq_true]
      ((repeat' (apply And.intro)) <;> try (first | rfl | omega | (unfold I64; omega)))
      rw [show fewW l = false from decide_eq_false (by omega)]
      (repeat' (first | exact LeL.nil | exact Le1L.nil | exact Le.refl _ | exact Le1.refl _ | exact Le1.nil _ | exact Le1.tok _ _ _ | exact LeR.one (Le.refl _) | apply LeR.tup | apply LeL.cons | apply Le1L.cons | apply Le.agg | apply Le.one | apply LeR.one))
    · have ht' : ¬ (2000 : Int) < ((l.take k).flatten.length : Int) + x.length := by omega
      refine Run.god tab_ok follows_ok Try.func40 60 ?_; simp only [hx, hkk, h4', ht', rowC, bytesA, List.getElem?_map, List.length_map, decide_true, decide_false, ↓alt_t, ↓alt_f, ↓alts_f, ↓gone_ff, gslot, drun, aops, aone, aop, needs, ext, aev, aconst, aput, aupd, aload, aindexAddr, acmp, aarith, ashift, abin, alen, tab_3, tab_22, tab_34, ok1, cellsAs, TI.agg, Option.getD_some, Option.bind_some, Option.map_some, List.set_cons_zero, List.set_cons_succ, List.length_cons, List.length_nil, List.getElem?_cons_zero, List.getElem?_cons_succ, List.getElem?_toArray, List.take_succ_cons, List.take_nil, List.length_map, List.nil_append, true_and, and_true, if_true, if_false, Nat.zero_add, decide_true, decide_false, Nat.reduceLT, Nat.le_refl, Int.toNat_natCast, List.getD_eq_getElem?_getD, Bool.false_eq_true]
      ((repeat' (apply And.intro)) <;> try (first | rfl | omega | (unfold I64; omega)))
      refine ih (k + 1) _ ⟨by omega, by omega, by omega⟩ (by omega) ?_
      simp only [Int.natCast_add, Int.natCast_one, hsn]
      (refine Weak.of (by simp [hc0]) ?_ ?_ <;> (repeat' (first | exact WkT.nil | exact WkH.nil _ | exact Le.refl _ | exact Le.junk _ | exact Le1.refl _ | exact Le1.nil _ | exact Le1.tok _ _ _ | exact Le1L.nil | rfl | apply WkT.cons | apply WkH.cons | apply LeB.same | apply LeB.box | apply Le1L.cons | apply Le.agg | apply Le.one)))
  · have hkk : ¬ (k : Int) < l.length := by omega
    obtain rfl : k = l.length := by omega
    rw [List.take_length] at hfl ⊢
    refine Run.god tab_ok follows_ok Try.func40 60 ?_; simp only [Try.results40, hkk, List.length_map, decide_false, ↓alt_f, drun, aops, aone, afin, ares, aresL, ares1, aresOk, aresOk1, aop, needs, ext, aev, aconst, aput, aupd, acmp, ashift, abin, alen, tab_3, tab_34, ok1, exitTo, Option.getD_some, Option.bind_some, Option.map_some, List.set_cons_zero, List.set_cons_succ, List.getElem?_cons_zero, List.getElem?_cons_succ, List.length_map, List.nil_append, true_and, and_true, if_true, if_false, beq_self_eq_true, decide_false, List.getD_eq_getElem?_getD, Bool.false_eq_true]
    rw [show fewW l = true from decide_eq_true ⟨h40, hfl⟩]
    (repeat' (first | exact LeL.nil | exact Le1L.nil | exact Le.refl _ | exact Le1.refl _ | exact Le1.nil _ | exact Le1.tok _ _ _ | exact LeR.one (Le.refl _) | apply LeR.tup | apply LeL.cons | apply Le1L.cons | apply Le.agg | apply Le.one | apply LeR.one))
end Go.Proofs.Ytcafahcmalfepaa
/-
  The live question of layer 17.
-/
namespace Go.Proofs.Ytcafahcmalfepaa
open Go.RowKit
set_option maxRecDepth 20000 in
theorem dnew_spec (n : Int) : ASpec Try.prog 36 [.int .i64 n] (encDE (newD n)) := by
  by_cases h0 : n < 0
  · rw [show newD n = (⟨0, [], [], false, 0⟩, 1) from if_pos (.inl h0)]
    refine ⟨⟨_, Try.func36, by kernel_rfl, rfl⟩, ACall.of Try.func36 rfl fun c0 hc0 => ?_⟩; simp only [Try.ntmps36, List.length_cons, List.length_nil, Nat.reduceAdd, Nat.reduceSub, List.replicate_succ, List.replicate_zero, List.cons_append, List.nil_append]; refine Run.god tab_ok follows_ok Try.func36 60 ?_; simp only [Try.results36, h0, decide_true, ↓alt_t, ↓alts_t, ↓gone_ft, gslot, drun, aops, aone, afin, ares, aresL, ares1, aresOk, aresOk1, aop, needs, ext, aev, aconst, aput, aupd, aload, astore, acmp, ashift, abin, abuild, tab_3, tab_42, ok1, lay, cellsAs, TI.agg, AV.cells, AV.whole, Option.getD_some, Option.bind_some, Option.map_some, List.set_cons_zero, List.set_cons_succ, List.length_cons, List.length_nil, List.getElem?_cons_zero, List.getElem?_cons_succ, List.getElem?_toArray, List.drop_zero, List.drop_succ_cons, List.take_succ_cons, List.take_zero, List.take_nil, List.drop_nil, List.map_nil, List.cons_append, List.nil_append, List.append_nil, true_and, and_true, if_true, if_false, Nat.reduceAdd, Nat.zero_add, decide_true, Nat.le_refl, List.getD_eq_getElem?_getD, Bool.false_eq_true]
    simp only [encDE, encD, bytesA, List.map_nil]
    (repeat' (first | exact LeL.nil | exact Le1L.nil | exact Le.refl _ | exact Le1.refl _ | exact Le1.nil _ | exact Le1.tok _ _ _ | exact LeR.one (Le.refl _) | apply LeR.tup | apply LeL.cons | apply Le1L.cons | apply Le.agg | apply Le.one | apply LeR.one))
  · by_cases h1 : 1000000 < n
    · rw [show newD n = (⟨0, [], [], false, 0⟩, 1) from if_pos (.inr h1)]
      refine ⟨⟨_, Try.func36, by kernel_rfl, rfl⟩, ACall.of Try.func36 rfl fun c0 hc0 => ?_⟩; simp only [Try.ntmps36, List.length_cons, List.length_nil, Nat.reduceAdd, Nat.reduceSub, List.replicate_succ, List.replicate_zero, List.cons_append, List.nil_append]; refine Run.god tab_ok follows_ok Try.func36 60 ?_; simp only [Try.results36, h0, h1, decide_true, decide_false, ↓alt_t, ↓alts_f, ↓gone_ff, gslot, drun, aops, aone, afin, ares, aresL, ares1, aresOk, aresOk1, aop, needs, ext, aev, aconst, aput, aupd, aload, astore, acmp, ashift, abin, abuild, tab_3, tab_42, ok1, lay, cellsAs, TI.agg, AV.cells, AV.whole, Option.getD_some, Option.bind_some, Option.map_some, List.set_cons_zero, List.set_cons_succ, List.length_cons, List.length_nil, List.getElem?_cons_zero, List.getElem?_cons_succ, List.getElem?_toArray, List.drop_zero, List.drop_succ_cons, List.take_succ_cons, List.take_zero, List.take_nil, List.drop_nil, List.map_nil, List.cons_append, List.nil_append, List.append_nil, true_and, and_true, if_true, if_false, Nat.reduceAdd, Nat.zero_add, decide_true, decide_false, Nat.le_refl, List.getD_eq_getElem?_getD, Bool.false_eq_true]
      simp only [encDE, encD, bytesA, List.map_nil]
      (repeat' (first | exact LeL.nil | exact Le1L.nil | exact Le.refl _ | exact Le1.refl _ | exact Le1.nil _ | exact Le1.tok _ _ _ | exact LeR.one (Le.refl _) | apply LeR.tup | apply LeL.cons | apply Le1L.cons | apply Le.agg | apply Le.one | apply LeR.one))
    · rw [show newD n = (⟨n, [], [], false, -1⟩, 0) from if_neg (by omega)]
      refine ⟨⟨_, Try.func36, by kernel_rfl, rfl⟩, ACall.of Try.func36 rfl fun c0 hc0 => ?_⟩; simp only [Try.ntmps36, List.length_cons, List.length_nil, Nat.reduceAdd, Nat.reduceSub, List.replicate_succ, List.replicate_zero, List.cons_append, List.nil_append]; refine Run.god tab_ok follows_ok Try.func36 60 ?_; simp only [Try.results36, h0, h1, decide_false, ↓alt_f, ↓alts_f, ↓gone_ff, gslot, Int.reduceNeg, drun, aops, aone, afin, ares, aresL, ares1, aresOk, aresOk1, aop, needs, ext, aev, aconst, aput, aupd, aload, astore, acmp, ashift, abin, abuild, tab_3, tab_42, ok1, lay, cellsAs, TI.agg, AV.cells, AV.whole, Option.getD_some, Option.bind_some, Option.map_some, List.set_cons_zero, List.set_cons_succ, List.length_cons, List.length_nil, List.getElem?_cons_zero, List.getElem?_cons_succ, List.getElem?_toArray, List.drop_zero, List.drop_succ_cons, List.take_succ_cons, List.take_zero, List.take_nil, List.drop_nil, List.map_cons, List.map_nil, List.cons_append, List.nil_append, List.append_nil, true_and, and_true, if_true, if_false, Nat.reduceAdd, Nat.reduceLeDiff, Nat.zero_add, decide_false, Nat.reduceLeDiff, Nat.le_refl, List.getD_eq_getElem?_getD, Bool.false_eq_true]
      ((repeat' (apply And.intro)) <;> try (first | rfl | omega | (unfold I64; omega)))
      simp only [encDE, encD, bytesA, List.map_nil]
      (repeat' (first | exact LeL.nil | exact Le1L.nil | exact Le.refl _ | exact Le1.refl _ | exact Le1.nil _ | exact Le1.tok _ _ _ | exact LeR.one (Le.refl _) | apply LeR.tup | apply LeL.cons | apply Le1L.cons | apply Le.agg | apply Le.one | apply LeR.one))
theorem frs_len_ge (l : List Bytes) : l.length ≤ (frs l).length := by
  induction l with
  | nil => simp
  | cons x l ih =>
    rw [frs_cons, List.length_append, fr_length, List.length_cons]
    unfold frLong
    omega
theorem recs_len (d : DD) : (recordsS d).length ≤ (allD d).length := by
  obtain ⟨h, _⟩ := scanS_split (allD d)
  have := congrArg List.length h
  rw [List.length_append] at this
  have h2 := frs_len_ge (scanS (allD d)).1
  unfold recordsS
  omega
/-- No fuse, and up. -/
structure Up (d : DD) : Prop where
  down : d.down = false
  fuse : d.fuse = -1
theorem Up.act {d : DD} (h : Up d) : actS d = (⟨d.cap, d.safe, d.loose, false, -1⟩, 0) := by
  obtain ⟨ca, sa, lo, dn, fu⟩ := d
  obtain ⟨h1, h2⟩ := h
  simp only at h1 h2
  subst h1 h2
  simp [actS]
theorem Up.write {d : DD} (h : Up d) (b : Bytes) (hc : ((longS d + b.length : Nat) : Int) ≤ d.cap) : writeS d b = (⟨d.cap, d.safe, d.loose ++ b, false, -1⟩, 0) := do_ok h.act (by omega) _
theorem Up.sync {d : DD} (h : Up d) (hc : ((longS d : Nat) : Int) ≤ d.cap) : syncS d = (⟨d.cap, d.safe ++ d.loose, [], false, -1⟩, 0) := do_ok h.act (by omega) _
theorem Up.replace {d : DD} (h : Up d) (b : Bytes) (hc : ((b.length : Nat) : Int) ≤ d.cap) : replaceS d b = (⟨d.cap, b, [], false, -1⟩, 0) := do_ok h.act (by omega) _
theorem append_up {g : WL} (h : Up g.d) {r : List Bytes} (hl : largeB r = false) (hne : r ≠ []) (hc : ((longS g.d + (frs r).length : Nat) : Int) ≤ g.d.cap) : appendS g r = (⟨⟨g.d.cap, g.d.safe ++ (g.d.loose ++ frs r), [], false, -1⟩, g.l ++ r⟩, 0) := by
  unfold appendS
  rw [hl, if_neg (by simp), if_neg hne, h.write _ hc, if_pos rfl, Up.sync ⟨rfl, rfl⟩ (by unfold longS at hc ⊢; simp only [List.length_append]; omega), if_pos rfl]
theorem cut_up {g : WL} (h : Up g.d) {x : Bytes} (hl : ¬ 20000 < x.length) (hc : (((fr x).length : Nat) : Int) ≤ g.d.cap) : cutS g x = (⟨⟨g.d.cap, fr x, [], false, -1⟩, [x]⟩, 0) := by
  unfold cutS
  rw [if_neg hl, h.replace _ hc, if_pos rfl]
theorem crash_eq (d : DD) (n : Int) (h : d.loose = []) : crashS d n = ⟨d.cap, d.safe, [], false, -1⟩ := by
  unfold crashS; rw [h]; simp
/-- A log without an error, of just its frames. -/
theorem open_frs (ca : Int) (S : List Bytes) (hS : ∀ x ∈ S, x.length ≤ 100000) : openS ⟨ca, frs S, [], false, -1⟩ = (⟨⟨ca, frs S, [], false, -1⟩, S⟩, 0) := by
  have hall : allD ⟨ca, frs S, [], false, -1⟩ = frs S := by simp [allD]
  have hrec : recordsS ⟨ca, frs S, [], false, -1⟩ = S := by unfold recordsS; rw [hall, scan_whole hS]
  unfold openS
  rw [hall, hrec, scan_whole hS, if_neg (by simp), if_pos ⟨rfl, rfl⟩]
def abR : List Bytes := [[97], [98]]
theorem abR_len : (frs abR).length = 16 := by
  unfold abR
  rw [frs_cons, frs_cons, List.length_append, List.length_append, fr_length, fr_length]
  rfl
def abG : WL := ⟨⟨100, frs abR, [], false, -1⟩, abR⟩
theorem ab_sm (S : Bytes) (h : S.length ≤ 100) : smD ⟨100, S, [], false, -1⟩ := ⟨by show S.length ≤ _; omega, by simp, by unfold I64; simp⟩
set_option maxRecDepth 20000 in
set_option maxHeartbeats 1000000 in
theorem alive17_spec : ASpec Try.prog 29 [] (.bool true) := by
  have hl16 := abR_len
  have h1 := dnew_spec 100
  rw [show newD 100 = (⟨100, [], [], false, -1⟩, 0) from rfl] at h1
  have h2 := wopen_spec ⟨100, [], [], false, -1⟩ (ab_sm [] (by simp)) (by simp [allD])
  rw [open_new 100 (by omega)] at h2
  have h3 := wappend_spec ⟨⟨100, [], [], false, -1⟩, []⟩ ⟨ab_sm [] (by simp), by decide, by simp⟩ abR (by simp [abR]) (by omega)
  rw [append_up ⟨rfl, rfl⟩ (by decide) (by simp [abR]) (by show (((0 + 0) + (frs abR).length : Nat) : Int) ≤ 100; omega)] at h3
  simp only [List.nil_append] at h3
  have h4 := wcrash_spec abG (ab_sm _ (by omega)) 0
  rw [show crashW abG 0 = ⟨⟨100, frs abR, [], false, -1⟩, []⟩ by unfold crashW; rw [crash_eq _ _ rfl]; rfl] at h4
  have h5 := wopen_spec ⟨100, frs abR, [], false, -1⟩ (ab_sm _ (by omega)) (by simp [allD]; omega)
  rw [open_frs 100 abR (by simp [abR])] at h5
  unfold abG at h4
  obtain ⟨Z, hZ⟩ : ∃ Z, Z = frs abR := ⟨_, rfl⟩
  rw [← hZ] at h3 h4 h5
  unfold abR at h3 h4 h5
  simp only [encDE, encD, encWE, encW, bytesA, rowsA, List.map_cons, List.map_nil, rowC, byteC] at h1 h2 h3 h4 h5
  refine ⟨⟨_, Try.func29, by kernel_rfl, rfl⟩, ACall.of Try.func29 rfl fun c0 hc0 => ?_⟩; simp only [Try.ntmps29, List.length_nil, Nat.reduceSub, List.replicate_succ, List.replicate_zero, List.nil_append]; refine Run.god tab_ok follows_ok Try.func29 60 ?_; simp only [drun, aops, aone, aop, needs, ext, aev, aconst, aput, aupd, ok1, List.set_cons_zero, List.nil_append, true_and, if_false, Bool.false_eq_true]
  refine Ops.pure .free rfl rfl (h1) (by simp only [aev, aconst, List.map_cons, List.map_nil, List.nil_append, List.append_nil]; (repeat' (first | exact LeL.nil | exact Le1L.nil | exact Le.refl _ | exact Le1.refl _ | exact Le1.nil _ | exact Le1.tok _ _ _ | exact LeR.one (Le.refl _) | apply LeR.tup | apply LeL.cons | apply Le1L.cons | apply Le.agg | apply Le.one | apply LeR.one))) rfl rfl ?_
  refine Ops.god tab_ok follows_ok Try.func29 60 ?_; simp only [Int.reduceNeg, drun, aops, aone, aop, needs, ext, aev, aput, aupd, aload, astore, tab_42, ok1, lay, cellsAs, TI.agg, AV.cells, AV.whole, Option.getD_some, Option.bind_some, Option.map_some, List.set_cons_zero, List.set_cons_succ, List.length_cons, List.length_nil, List.getElem?_cons_zero, List.getElem?_cons_succ, List.drop_zero, List.drop_succ_cons, List.take_succ_cons, List.take_zero, List.take_nil, List.drop_nil, List.cons_append, List.nil_append, List.append_nil, true_and, and_true, if_true, if_false, Nat.reduceAdd, Nat.zero_add, Nat.le_refl, List.getD_eq_getElem?_getD, Bool.false_eq_true]
  refine Ops.pure .free rfl rfl (h2) (by simp only [Int.reduceNeg, aev, Option.getD_some, List.getElem?_cons_zero, List.getElem?_cons_succ, List.map_cons, List.map_nil, List.nil_append, List.append_nil, List.getD_eq_getElem?_getD]; (repeat' (first | exact LeL.nil | exact Le1L.nil | exact Le.refl _ | exact Le1.refl _ | exact Le1.nil _ | exact Le1.tok _ _ _ | exact LeR.one (Le.refl _) | apply LeR.tup | apply LeL.cons | apply Le1L.cons | apply Le.agg | apply Le.one | apply LeR.one))) rfl rfl ?_
  refine Ops.god tab_ok follows_ok Try.func29 1 ?_; simp only [Int.reduceNeg, drun, aops, aone, aop, needs, ext, aev, aput, aupd, astore, tab_47, ok1, lay, AV.cells, AV.whole, Option.getD_some, Option.bind_some, Option.map_some, List.set_cons_zero, List.set_cons_succ, List.length_cons, List.length_nil, List.getElem?_cons_zero, List.getElem?_cons_succ, List.drop_succ_cons, List.take_zero, List.drop_nil, List.cons_append, List.nil_append, List.append_nil, true_and, and_true, if_true, if_false, Nat.reduceAdd, Nat.zero_add, Nat.le_refl, List.getD_eq_getElem?_getD, Bool.false_eq_true]
  refine Run.reg (Ops.one tab_ok .free rfl (by (repeat' apply And.intro) <;> first | rfl | trivial | decide | simp) ?_)
  simp only [Int.reduceNeg, needs, ext, aput, aupd, List.set_cons_zero, List.set_cons_succ, List.drop_zero, List.take_succ_cons, List.take_nil, List.cons_append, List.nil_append, if_false, Nat.zero_add, Bool.false_eq_true]
  refine Ops.litConv tab_ok .free rfl rfl rfl rfl rfl rfl Try.underlying5 (q := (_, [[.int .u8 97]])) rfl (by decide) (by decide) (by decide) (by (repeat' apply And.intro) <;> first | rfl | trivial | decide | simp) rfl (by simp) .free ?_
  simp only [Int.reduceNeg, aput, List.set_cons_zero, List.set_cons_succ, Nat.reduceAdd]
  refine Ops.litConv tab_ok .free rfl rfl rfl rfl rfl rfl Try.underlying5 (q := (_, [[.int .u8 98]])) rfl (by decide) (by decide) (by decide) (by (repeat' apply And.intro) <;> first | rfl | trivial | decide | simp) rfl (by simp) .free ?_
  refine Ops.god tab_ok follows_ok Try.func29 60 ?_; simp only [Int.reduceNeg, aops, aone, aop, needs, ext, aev, aconst, aput, aupd, aelems, plains, tab_22, tab_34, AV.cells, AV.whole, AV.plain, AV.bare, Option.getD_some, Option.bind_some, Option.map_some, List.set_cons_zero, List.set_cons_succ, List.length_cons, List.length_nil, List.getElem?_cons_zero, List.getElem?_cons_succ, List.map_cons, List.map_nil, List.cons_append, List.nil_append, List.all_cons, List.all_nil, List.replicate_succ, List.replicate_zero, true_and, and_true, if_true, if_false, Nat.reduceAdd, Nat.reduceLeDiff, Nat.reduceMul, Nat.reduceBEq, Nat.zero_add, Bool.and_self, Bool.and_false, Nat.reduceLT, Nat.reduceLeDiff, List.getD_eq_getElem?_getD, Bool.false_eq_true]
  refine Ops.pure .free rfl rfl (h3) (by simp only [Int.reduceNeg, aev, Option.getD_some, List.getElem?_cons_zero, List.getElem?_cons_succ, List.map_cons, List.map_nil, List.nil_append, List.append_nil, List.getD_eq_getElem?_getD]; (repeat' (first | exact LeL.nil | exact Le1L.nil | exact Le.refl _ | exact Le1.refl _ | exact Le1.nil _ | exact Le1.tok _ _ _ | exact LeR.one (Le.refl _) | apply LeR.tup | apply LeL.cons | apply Le1L.cons | apply Le.agg | apply Le.one | apply LeR.one))) rfl rfl ?_
  refine Ops.god tab_ok follows_ok Try.func29 60 ?_; simp only [Int.reduceNeg, drun, aops, aone, aop, needs, ext, aev, aput, aupd, aload, astore, tab_47, ok1, lay, cellsAs, TI.agg, AV.cells, AV.whole, Option.getD_some, Option.bind_some, Option.map_some, List.set_cons_zero, List.set_cons_succ, List.length_cons, List.length_nil, List.getElem?_cons_zero, List.getElem?_cons_succ, List.drop_zero, List.drop_succ_cons, List.take_succ_cons, List.take_zero, List.take_nil, List.drop_nil, List.cons_append, List.nil_append, List.append_nil, true_and, and_true, if_true, if_false, Nat.reduceAdd, Nat.zero_add, Nat.le_refl, List.getD_eq_getElem?_getD, Bool.false_eq_true]
  refine Ops.pure .free rfl rfl (h4) (by simp only [Int.reduceNeg, aev, aconst, Option.getD_some, List.getElem?_cons_zero, List.getElem?_cons_succ, List.map_cons, List.map_nil, List.nil_append, List.append_nil, List.getD_eq_getElem?_getD]; (repeat' (first | exact LeL.nil | exact Le1L.nil | exact Le.refl _ | exact Le1.refl _ | exact Le1.nil _ | exact Le1.tok _ _ _ | exact LeR.one (Le.refl _) | apply LeR.tup | apply LeL.cons | apply Le1L.cons | apply Le.agg | apply Le.one | apply LeR.one))) rfl rfl ?_
  refine Ops.god tab_ok follows_ok Try.func29 60 ?_; simp only [Int.reduceNeg, aops, aone, aop, needs, ext, aev, aput, aupd, apart, afield, tab_42, tab_47, cellsAs, TI.agg, Option.getD_some, Option.bind_some, Option.map_some, List.set_cons_zero, List.set_cons_succ, List.length_cons, List.length_nil, List.getElem?_cons_zero, List.getElem?_cons_succ, List.drop_zero, List.take_succ_cons, List.take_zero, List.cons_append, List.nil_append, true_and, if_true, if_false, Nat.reduceAdd, Nat.reduceLeDiff, Nat.zero_add, Nat.reduceLeDiff, List.getD_eq_getElem?_getD, Bool.false_eq_true]
  refine Ops.pure .free rfl rfl (h5) (by simp only [Int.reduceNeg, aev, Option.getD_some, List.getElem?_cons_zero, List.getElem?_cons_succ, List.map_cons, List.map_nil, List.nil_append, List.append_nil, List.getD_eq_getElem?_getD]; (repeat' (first | exact LeL.nil | exact Le1L.nil | exact Le.refl _ | exact Le1.refl _ | exact Le1.nil _ | exact Le1.tok _ _ _ | exact LeR.one (Le.refl _) | apply LeR.tup | apply LeL.cons | apply Le1L.cons | apply Le.agg | apply Le.one | apply LeR.one))) rfl rfl ?_
  refine Ops.god tab_ok follows_ok Try.func29 60 ?_; simp only [Try.results29, Int.reduceToNat, ↓alts_t, ↓alts_f, alts, ↓gone_tt, ↓gone_tf, gslot, Int.reduceLE, Int.reduceNeg, drun, aops, aone, afin, ares, aresL, ares1, aresOk, aresOk1, aop, needs, ext, aev, aconst, aput, aupd, aload, astore, afieldAddr, aindexAddr, acmp, ashift, abin, aconv, alen, tab_3, tab_5, tab_9, tab_22, tab_25, tab_34, tab_47, ok1, lay, cellsAs, TI.agg, AV.cells, AV.whole, Option.getD_some, Option.bind_some, Option.map_some, List.set_cons_zero, List.set_cons_succ, List.length_cons, List.length_nil, List.getElem?_cons_zero, List.getElem?_cons_succ, List.getElem?_toArray, List.drop_zero, List.drop_succ_cons, List.take_succ_cons, List.take_zero, List.take_nil, List.drop_nil, List.cons_append, List.nil_append, List.append_nil, true_and, and_true, if_true, if_false, Nat.reduceAdd, Nat.zero_add, decide_eq_true_eq, decide_eq_false_iff_not, decide_true, Nat.reduceLT, Nat.le_refl, List.getD_eq_getElem?_getD, Bool.false_eq_true]
  refine ⟨fun _ => ⟨by decide, rfl, .one (.refl _)⟩, fun h => absurd rfl h⟩
end Go.Proofs.Ytcafahcmalfepaa
/-
  A law's run, from its shadow: the arguments lie in the world as they were handed in.
-/
namespace Go.Proofs.Ytcafahcmalfepaa
open Go.RowKit
/-- Nothing of the run's own yet. -/
def Cx.top (w : World) : Cx := ⟨fun _ => none, [], w, fun _ _ => False⟩
theorem Cx.top_rel (w : World) : RelH (Cx.top w) :=
  ⟨fun i j x y b h => by simp [Cx.top] at h, fun i x b h => by simp [Cx.top] at h, fun i x h => by simp [Cx.top] at h, fun b o h => h.elim⟩
theorem Cx.top_im {w : World} {b o : Nat} (h : b < w.heap.size) : (Cx.top w).im b o := ⟨h, fun h => h, fun i x h => by simp [Cx.top] at h⟩
/-- A row, where it lies. -/
theorem RV.of_bytes {w : World} {A : Option Addr} {b : Bytes} {cap : Nat} (h : Sl byteR 1 w.heap.size w A b) (h1 : b.length ≤ cap) (h2 : cap ≤ maxLen) : RV (Cx.top w) (.slice A b.length cap) (bytesA b) := by
  have hg : ∃ B o, (b.map byteC ≠ [] → A = some ⟨B, o, none⟩) ∧ ∀ (q : Nat) u, (b.map byteV)[q]? = some u → B < w.heap.size ∧ w.cell? ⟨B, o + q, none⟩ = some u := by
    by_cases hn : b = []
    · subst hn
      exact ⟨0, 0, fun h => absurd rfl h, fun q u h => by simp at h⟩
    · obtain ⟨B, o, rfl, hlt, hc⟩ := h hn
      refine ⟨B, o, fun _ => rfl, fun q u hq => ⟨hlt, ?_⟩⟩
      rw [List.getElem?_map, Option.map_eq_some_iff] at hq
      obtain ⟨a, ha, rfl⟩ := hq
      obtain ⟨cs, hl, rfl, hcs⟩ := hc q a ha
      have := hcs 0 (byteV a) rfl
      rwa [Nat.mul_one, Nat.add_zero] at this
  obtain ⟨B, o, hA, hq⟩ := hg
  exact RV.sl_of (t := .no) (bytes_flat (c := Cx.top w) b) (by simpa using h1) h2 B o hA (fun q u hu => ⟨Cx.top_im (hq q u hu).1, (hq q u hu).2⟩) trivial (by simp)
theorem TRel.nil {c : Cx} : TRel c #[] [] := ⟨rfl, fun i v x h => by simp at h⟩
theorem TRel.cons {c : Cx} {v : Value} {x : AV} {vs : List Value} {xs : List AV} (h : RV c v x) (t : TRel c vs.toArray xs) : TRel c (v :: vs).toArray (x :: xs) := by
  refine ⟨by have := t.1; simpa using this, fun i u y hu hy => ?_⟩
  cases i with
  | zero => simp at hu hy; subst hu hy; exact h
  | succ i => exact t.2 i u y (by simpa using hu) (by simpa using hy)
theorem law_top {P : Program} {f : FuncId} {args : List AV} {v : Bool} (h : ASpec P f args (.bool v)) (w : World) (vs : Array Value) (ht : TRel (Cx.top w) vs args) : Calls P f vs w fun e w' => e = .returned (.bool v) ∧ Below w.heap.size w w' := by
  refine (h.run (Cx.top w) vs rfl (Cx.top_rel w) ht).mono ?_
  rintro e w' ⟨u, ρ', r, h', rfl, g1, g2, g3, hle⟩
  have hv := hle.rv g3
  cases hv
  refine ⟨rfl, g2.os, g2.tape, g2.output, g2.size, fun b hb => (g2.fr b hb ?_).1⟩
  rintro ⟨i, x, hx, _⟩; simp [Cx.top] at hx
end Go.Proofs.Ytcafahcmalfepaa
/-
  Out of an argument's reading: what its cells read as. Nothing here speaks of the program.
-/
namespace Go.Proofs.Ytcafahcmalfepaa
open Go.ChangeShapes Go.WideShapes Go.ChangeAt Go.RowKit Go.Deep
/-! ### out of an argument's reading -/
/-- Of the things that read so, those with Z. -/
def subR {α : Type} (R : Rep α) (Z : α → Prop) : Rep α := ⟨fun B w cs a => R.at_ B w cs a ∧ Z a, fun h hr => ⟨R.mono h hr.1, hr.2⟩, fun h hr => ⟨R.stable h hr.1, hr.2⟩⟩
theorem Sl.sub {α : Type} {R : Rep α} {Z : α → Prop} {k B : Nat} {w : World} {A : Option Addr} {l : List α} (h : Sl (subR R Z) k B w A l) : Sl R k B w A l ∧ ∀ a ∈ l, Z a := by
  constructor
  · intro hn
    obtain ⟨b, o, h1, h2, h3⟩ := h hn
    refine ⟨b, o, h1, h2, fun j a hj => ?_⟩
    obtain ⟨cs, g1, g2, g3⟩ := h3 j a hj
    exact ⟨cs, g1, g2.1, g3⟩
  · intro a ha
    obtain ⟨b, o, h1, h2, h3⟩ := h (List.ne_nil_of_mem ha)
    obtain ⟨j, hj⟩ := List.mem_iff_getElem?.1 ha
    obtain ⟨cs, g1, g2, g3⟩ := h3 j a hj
    exact g2.2
/-- What is read is within the form's reach. -/
def InReach {H : Type} (P : Program) (t : TypeId) (d : DataW H) : Prop := ∀ n ∈ d.weights P t, n ≤ reachBytes
theorem inReach_all {H : Type} {P : Program} {e : TypeId} {d : DataW H} : ∀ {ds : List (DataW H)}, d ∈ ds → (∀ n ∈ DataW.weightsAll P e ds, n ≤ reachBytes) → InReach P e d
  | d0 :: ds, h, hr => by
    rcases List.mem_cons.1 h with rfl | h
    · exact fun n hn => hr n (by simp only [DataW.weightsAll, List.mem_append]; exact Or.inl hn)
    · exact inReach_all h fun n hn => hr n (by simp only [DataW.weightsAll, List.mem_append]; exact Or.inr hn)
theorem inReach_slice {H : Type} {P : Program} {t e : TypeId} {els sp : List (DataW H)} (ht : P.underlying t = some (.slice e)) (h : InReach P t (.slice els sp)) :
    (els.length + sp.length) * P.bytesOf e ≤ reachBytes ∧ ∀ d ∈ els, InReach P e d := by
  unfold InReach at h
  simp only [DataW.weights, ht, List.mem_cons, List.mem_append] at h
  exact ⟨h _ (Or.inl rfl), fun d hd => inReach_all hd fun n hn => h n (Or.inr (Or.inl hn))⟩
/-- Cells that read as data of type e read as R has it. -/
def Opens {α : Type} (P : Program) (e : TypeId) (R : Rep α) : Prop :=
  ∀ {H : Type} (enc : TypeId × Value → H) (w : World) (base : Nat) (sp : Nat → Bool) (hd : Bool) (n : Nat) (cs : List Value) (x : DataW H × List MemPlace), DataW.trod enc P w base sp hd n e cs = some x → InReach P e x.1 → ∃ a, R.at_ w.heap.size w cs a
section
variable {P : Program}
theorem opens_int {e : TypeId} {k : IntKind} (he : P.underlying e = some (.int k)) : Opens P e (intR k) := fun _ _ _ _ _ _ _ _ h hr => by
  obtain ⟨n, rfl, _, hw⟩ := DataW.trod_int he h
  exact ⟨n, rfl, hw⟩
theorem opens_bool {e : TypeId} (he : P.underlying e = some .bool) : Opens P e boolR := fun _ _ _ _ _ _ _ _ h hr => by
  obtain ⟨b, rfl, _⟩ := DataW.trod_bool he h
  exact ⟨b, rfl⟩
theorem opens_str {e : TypeId} (he : P.underlying e = some .string) : Opens P e (subR strR fun s => s.size ≤ reachBytes) := fun _ _ _ _ _ _ _ _ h hr => by
  obtain ⟨s, rfl, rfl, hs⟩ := DataW.trod_string he h
  exact ⟨s, ⟨rfl, hs⟩, hr _ (by simp [DataW.weights])⟩
theorem opens_byte {e : TypeId} (he : P.underlying e = some (.int .u8)) : Opens P e byteR := fun _ _ _ _ _ _ _ _ h hr => by
  obtain ⟨n, rfl, _, hw⟩ := DataW.trod_int he h
  simp [Lit.wf, IntKind.min, IntKind.max, IntKind.signed, IntKind.bits] at hw
  obtain ⟨m, rfl⟩ := Int.eq_ofNat_of_zero_le hw.1
  have hm : m < 256 := by omega
  refine ⟨UInt8.ofNat m, ?_⟩
  show [Value.int .u8 _] = [byteV _]
  simp [byteV, Nat.mod_eq_of_lt hm]
theorem opens_slice {α : Type} {R : Rep α} {t e : TypeId} {k bytes : Nat} (ht : P.underlying t = some (.slice e)) (hk : P.cellsOf e = k) (hby : P.bytesOf e = bytes) (hk0 : 0 < k) (hR : Opens P e R) : Opens P t (subR (slR R k) fun l => l.length * bytes ≤ reachBytes) := fun enc w base sp hd n cs x h hr => by
  subst hk
  rcases open_slice ht h with ⟨rfl, _⟩ | ⟨ad, len, cap, m, n', D, Pl, rfl, _, hlc, hcm, hm, rfl, hi⟩
  · exact ⟨[], ⟨none, 0, rfl, Nat.le_refl _, Nat.zero_le _, Sl.nil⟩, by simp⟩
  · have hlm : len ≤ m := by rw [hm]; split <;> omega
    obtain ⟨hw, hel⟩ := inReach_slice ht hr
    rw [hby] at hw
    simp only [List.length_map, List.length_range] at hw
    have hex : ∀ i, i < len → ∃ a, ∃ cs', w.cells? base (ad.add (i * P.cellsOf e)) (P.cellsOf e) = some cs' ∧ R.at_ w.heap.size w cs' a := fun i hl => by
      obtain ⟨cs', hc, ht'⟩ := hi i (by omega)
      obtain ⟨a, ha⟩ := hR enc w base sp hd n' cs' _ ht' (hel _ (List.mem_map.2 ⟨i, List.mem_range.2 hl, rfl⟩))
      exact ⟨a, cs', hc, ha⟩
    have hlist : ∀ m', m' ≤ len → ∃ l : List α, l.length = m' ∧ ∀ i a, l[i]? = some a → ∃ cs', w.cells? base (ad.add (i * P.cellsOf e)) (P.cellsOf e) = some cs' ∧ R.at_ w.heap.size w cs' a := by
      intro m'
      induction m' with
      | zero => exact fun _ => ⟨[], rfl, fun i a h => by simp at h⟩
      | succ q ih =>
        intro hq
        obtain ⟨l, hl, hg⟩ := ih (by omega)
        obtain ⟨a, ha⟩ := hex q (by omega)
        refine ⟨l ++ [a], by simp [hl], fun i b hb => ?_⟩
        rw [List.getElem?_append] at hb
        split at hb
        · exact hg i b hb
        · rename_i hge
          have : i = q := by
            have := (List.getElem?_eq_some_iff.1 hb).1
            simp at this
            omega
          subst this
          simp [hl] at hb
          subst hb
          exact ha
    obtain ⟨l, hl, hg⟩ := hlist len (Nat.le_refl _)
    refine ⟨l, ⟨some ad, cap, by rw [hl], by omega, hcm, fun hne => ?_⟩, (show l.length * bytes ≤ reachBytes by rw [hl]; exact Nat.le_trans (Nat.mul_le_mul_right _ (Nat.le_add_right _ _)) hw)⟩
    obtain ⟨a0, ha0⟩ : ∃ a, l[0]? = some a := ⟨l[0]'(List.length_pos_iff.2 hne), List.getElem?_eq_getElem _⟩
    obtain ⟨cs0, hc0, _⟩ := hg 0 a0 ha0
    obtain ⟨_, hl0, hat0⟩ := World.cells?_some hc0
    have h00 := hat0 0 hk0
    have hsome : cs0[0]? = some (cs0[0]'(by omega)) := List.getElem?_eq_getElem _
    rw [hsome] at h00
    obtain ⟨b, o, sp'⟩ := ad
    have hsp : sp' = none := by
      simp only [Nat.zero_mul, Addr.add, if_true] at h00
      unfold World.cell? at h00
      split at h00
      · cases sp' with
        | none => rfl
        | some q => simp at h00
      · cases h00
    subst hsp
    have hblt := World.block_lt_of_cell? w _ h00
    refine ⟨b, o, rfl, by simpa [Addr.add] using hblt, fun j a hj => ?_⟩
    obtain ⟨cs', hc', hr'⟩ := hg j a hj
    obtain ⟨_, hl', hat'⟩ := World.cells?_some hc'
    refine ⟨cs', hl', hr', fun i u hu => ?_⟩
    have hi' : i < P.cellsOf e := by rw [← hl']; exact (List.getElem?_eq_some_iff.1 hu).1
    rw [← hu, ← hat' i hi']
    congr 1
    unfold Addr.add
    split <;> split <;> simp_all <;> omega
theorem nat_u64 {n : Int} (h : (Lit.int .u64 n).wf = true) : ∃ m : Nat, n = m ∧ m < 18446744073709551616 := by
  simp [Lit.wf, IntKind.min, IntKind.max, IntKind.signed, IntKind.bits] at h
  obtain ⟨m, rfl⟩ := Int.eq_ofNat_of_zero_le h.1
  exact ⟨m, rfl, by omega⟩
theorem i64_lim {n : Int} (h : (Lit.int .i64 n).wf = true) : -9223372036854775808 ≤ n ∧ n ≤ 9223372036854775807 := by
  simp [Lit.wf, IntKind.min, IntKind.max, IntKind.signed, IntKind.bits] at h
  omega
/-- A slice as an argument. -/
theorem open_arg {α : Type} {R : Rep α} {k bytes : Nat} {t e : TypeId} {H : Type} {enc : TypeId × Value → H} {w : World} {base base' : Nat} {sp : Nat → Bool} {hd : Bool} {v : Value} {d : DataW H} {p : List MemPlace} {r : Reach}
    (ht : P.underlying t = some (.slice e)) (hO : Opens P t (subR (slR R k) fun l => l.length * bytes ≤ reachBytes)) (hval : Value.okWide P w r base' t v) (h : DataW.Trod enc P w base sp hd t v d p) (hr : InReach P t d) :
    ∃ l A c, v = .slice A l.length c ∧ l.length ≤ c ∧ c ≤ maxLen ∧ l.length * bytes ≤ reachBytes ∧ Sl R k w.heap.size w A l := by
  obtain ⟨f, hf⟩ := h
  obtain ⟨A, n, c, rfl⟩ := okWide_slice ht hval
  obtain ⟨l, ⟨A', k', e', g, g', s⟩, hz⟩ := hO enc w _ _ _ _ _ _ hf hr
  simp only [Value.cells, List.cons.injEq, Value.slice.injEq, and_true] at e'
  obtain ⟨rfl, rfl, rfl⟩ := e'
  exact ⟨l, _, _, rfl, g, g', hz, s⟩
/-- A string as an argument. -/
theorem open_str {t : TypeId} {H : Type} {enc : TypeId × Value → H} {w : World} {base base' : Nat} {sp : Nat → Bool} {hd : Bool} {v : Value} {d : DataW H} {p : List MemPlace} {r : Reach}
    (ht : P.underlying t = some .string) (hval : Value.okWide P w r base' t v) (h : DataW.Trod enc P w base sp hd t v d p) (hr : InReach P t d) : ∃ s, v = .string s ∧ s.size ≤ reachBytes := by
  obtain ⟨f, hf⟩ := h
  obtain ⟨s, hs, hx, hm⟩ := DataW.trod_string ht hf
  obtain ⟨s', rfl⟩ := okWide_string ht hval
  simp only [Value.cells, List.cons.injEq, Value.string.injEq, and_true] at hs
  subst hs
  simp only [Prod.mk.injEq] at hx
  obtain ⟨rfl, _⟩ := hx
  exact ⟨s', rfl, hr _ (by simp [DataW.weights])⟩
end
/-- A LAW's ROW, out of its walk, which may lean on the form's reach. -/
theorem law_lifted_sized {C : Checked} {os : Os} {k : FuncId} {f : Func} {s : ChangeSpec} {H : Type} {enc : TypeId × Value → H} {tb : TypeId}
    (own : ownKnob C.prog.godebug = none) (started : os.Started) (noInit : C.prog.inits.idxOf? k = none) (hfn : C.prog.funcs[k]? = some f)
    (witness : ∃ (w : World) (tape : Tape) (i : Input), w.os = os ∧ (w.forCall tape i).Shaped C.prog ∧ i.vars = [] ∧ Input.okWide C.prog (w.forCall tape i) .any w.heap.size k i ∧
      s.pre6 enc C.prog f [] false (w.forCall tape i).memory i.args ∧ Assume.holds {} C.prog (lone (Frame.enter C.prog k i.args .normal) [] (w.forCall tape i)))
    (hl : laidOutB C.prog = true) (hts : (f.params.toList.all fun t => C.prog.readableRec t && decide (t < C.prog.types.size)) = true)
    (hres : f.resultTypes = #[tb]) (hbool : C.prog.underlying tb = some .bool) (hvars : s.vars = [])
    (hspec : ∀ ds : List (DataW H), ds.length = f.params.toList.length → s.fn H ds = { results := [.lit (.bool true)], args := ds })
    (walk : ∀ (W : World) (base : Nat) (args : Array Value) (ds : List (DataW H)) (p : List MemPlace),
      (∀ (j : Nat) t v, f.params[j]? = some t → args[j]? = some v → Value.okWide C.prog W .any base t v) →
      (∀ (j : Nat) t d, f.params[j]? = some t → ds[j]? = some d → InReach C.prog t d) →
      DataW.TrodAll enc C.prog W 0 (fun _ => true) true f.params.toList args.toList ds p → (∀ x ∈ p, x.block < W.heap.size) →
      Calls C.prog k args W fun e W' => e = .returned (.bool true) ∧ Below W.heap.size W W') :
    ReturnsInHanded {} C os k .any (s.pre6 enc C.prog f [] false) (s.post enc C.prog f false true false false) := by
  refine returnsInHanded_of_change_sized (C := C) own started noInit hfn witness ?_
  intro W base args ds gs before hval hW _ hsz _
  have hW' := hW
  have hlt : ∀ x ∈ before, x.block < W.heap.size := fun x hx => by simpa using hW.lt x hx
  obtain ⟨p, q, hA, hV, rfl, hfz, hnd⟩ := hW
  rw [hvars] at hV
  obtain ⟨rfl, rfl⟩ := trodVars_none hV
  rw [List.append_nil] at hlt
  have hlen := trodAll_length _ _ _ _ hA
  have hs := hspec ds hlen
  have hin : ∀ (j : Nat) t d, f.params[j]? = some t → ds[j]? = some d → InReach C.prog t d := fun j t d ht hd n hn => by
    have hj : j < f.params.toList.length := by
      have := (Array.getElem?_eq_some_iff.1 ht).1
      simpa using this
    have := List.all_eq_true.1 hsz n (DataW.weights_mem_each (j := j) (t := t) (d := d) (by rw [List.getElem?_append_left hj]; simpa using ht) (by rw [List.append_nil]; exact hd) n hn)
    simpa using this
  refine (walk W base args ds p hval hin hA hlt).mono fun e W' ⟨he, hb⟩ => ⟨_, he, ds, [], p ++ [], [], p, [], hW', ?_, ?_, ?_, hb.frame _, fun h => by cases h⟩
  · simp only [List.append_nil, hs, hres]
    exact trodAll_mk1 (shut_bool hbool true)
  · simp only [List.append_nil, hs]
    exact trodAll_below hl hb _ _ _ _ hts hA hlt
  · rw [hvars]
    simp only [List.append_nil, hs]
    exact (rfl : ([] : List MemPlace) = [])
end Go.Proofs.Ytcafahcmalfepaa
/-
  Out of an argument's reading: structs, field by field. Nothing here speaks of the program.
-/
namespace Go.Proofs.Ytcafahcmalfepaa
open Go.ChangeShapes Go.WideShapes Go.ChangeAt Go.RowKit Go.Deep
theorem inReach_each {H : Type} {P : Program} : ∀ {ts : List TypeId} {ds : List (DataW H)} {i : Nat} {t : TypeId} {d : DataW H}, ts[i]? = some t → ds[i]? = some d → (∀ n ∈ DataW.weightsEach P ts ds, n ≤ reachBytes) → InReach P t d
  | t0 :: ts, d0 :: ds, 0, t, d, ht, hd, h => by
    simp at ht hd
    subst ht hd
    exact fun n hn => h n (by simp only [DataW.weightsEach, List.mem_append]; exact Or.inl hn)
  | t0 :: ts, d0 :: ds, i + 1, t, d, ht, hd, h => inReach_each (ts := ts) (ds := ds) (i := i) (by simpa using ht) (by simpa using hd) fun n hn => h n (by simp only [DataW.weightsEach, List.mem_append]; exact Or.inr hn)
  | [], _, _, _, _, ht, _, _ => by simp at ht
  | _ :: _, [], _, _, _, _, hd, _ => by simp at hd
section
variable {P : Program} {H : Type} {enc : TypeId × Value → H} {w : World} {base : Nat} {sp : Nat → Bool} {hd : Bool} {t : TypeId}
theorem open_fields {fs : Array Field} {fuel : Nat} {cs : List Value} {x : DataW H × List MemPlace} (ht : P.underlying t = some (.struct fs)) (h : DataW.trod enc P w base sp hd fuel t cs = some x) (hr : InReach P t x.1) :
    cs.length = P.cellsOf t ∧ ∀ (i : Nat) (f : Field), fs[i]? = some f → ∀ {α : Type} {R : Rep α}, Opens P f.type R → ∃ a, R.at_ w.heap.size w ((cs.drop f.offset).take (P.cellsOf f.type)) a := by
  obtain ⟨xs, n, _, rfl, hlen, hxl, hg⟩ := DataW.trod_struct ht h
  refine ⟨hlen, fun i f hf α R hR => ?_⟩
  have hi : i < xs.length := by rw [hxl]; exact (Array.getElem?_eq_some_iff.1 hf).1
  have h1 := hg i f hf
  rw [List.getElem?_eq_getElem hi] at h1
  refine hR enc w base sp hd n _ xs[i] h1 ?_
  unfold InReach at hr
  simp only [DataW.weights, ht] at hr
  exact inReach_each (ts := fs.toList.map (·.type)) (ds := xs.map (·.1)) (i := i) (by rw [List.getElem?_map, Array.getElem?_toList, hf]; rfl) (by rw [List.getElem?_map, List.getElem?_eq_getElem hi]; rfl) hr
end
end Go.Proofs.Ytcafahcmalfepaa
/-
  Out of an argument's reading: what it reads cl, cell by cell, for the shadow. Nothing here speaks of the program.
-/
namespace Go.Proofs.Ytcafahcmalfepaa
open Go.ChangeShapes Go.WideShapes Go.ChangeAt Go.RowKit Go.Deep
structure RdAt (w : World) (cs : List Value) (cl : List AV) : Prop where
  len : cl.length = cs.length
  pl : ∀ (i : Nat) a, cl[i]? = some a → a.plain = true
  rv : ∀ (i : Nat) v a, cs[i]? = some v → cl[i]? = some a → RV (Cx.top w) v a
/-- Cells that read cl data of type e read cl cells of which E holds. -/
def Reads (P : Program) (e : TypeId) (E : List AV → Prop) : Prop :=
  ∀ {H : Type} (enc : TypeId × Value → H) (w : World) (base : Nat) (sp : Nat → Bool) (hd : Bool) (n : Nat) (cs : List Value) (x : DataW H × List MemPlace), DataW.trod enc P w base sp hd n e cs = some x → InReach P e x.1 → ∃ cl, RdAt w cs cl ∧ E cl
theorem Reads.mono {P : Program} {e : TypeId} {E E' : List AV → Prop} (h : Reads P e E) (hE : ∀ cl, E cl → E' cl) : Reads P e E' := fun enc w base sp hd n cs x h1 h2 => by
  obtain ⟨cl, g1, g2⟩ := h enc w base sp hd n cs x h1 h2
  exact ⟨cl, g1, hE cl g2⟩
theorem RdAt.nil {w : World} : RdAt w [] [] := ⟨rfl, fun i a h => by simp at h, fun i v a h => by simp at h⟩
theorem RdAt.one {w : World} {v : Value} {a : AV} (hp : a.plain = true) (h : RV (Cx.top w) v a) : RdAt w [v] [a] := by
  refine ⟨rfl, fun i b hb => ?_, fun i u b hu hb => ?_⟩
  · cases i with
    | zero => simp at hb; subst hb; exact hp
    | succ i => simp at hb
  · cases i with
    | zero => simp at hu hb; subst hu hb; exact h
    | succ i => simp at hu
theorem RdAt.app {w : World} {c1 c2 : List Value} {a1 a2 : List AV} (h1 : RdAt w c1 a1) (h2 : RdAt w c2 a2) : RdAt w (c1 ++ c2) (a1 ++ a2) := by
  refine ⟨by simp [h1.len, h2.len], fun i a ha => ?_, fun i v a hv ha => ?_⟩
  · rw [List.getElem?_append] at ha
    split at ha
    · exact h1.pl i a ha
    · exact h2.pl _ a ha
  · rw [List.getElem?_append] at ha hv
    rw [h1.len] at ha
    split at ha
    · rename_i hl; rw [if_pos hl] at hv; exact h1.rv i v a hv ha
    · rename_i hl; rw [if_neg hl] at hv; exact h2.rv _ v a hv ha
section
variable {P : Program}
theorem reads_int {e : TypeId} {k : IntKind} (he : P.underlying e = some (.int k)) : Reads P e fun cl => ∃ n, cl = [.int k n] ∧ (Lit.int k n).wf = true := fun _ _ _ _ _ _ _ _ h hr => by
  obtain ⟨n, rfl, _, hw⟩ := DataW.trod_int he h
  exact ⟨_, RdAt.one rfl (.int k n), n, rfl, hw⟩
theorem reads_bool {e : TypeId} (he : P.underlying e = some .bool) : Reads P e fun cl => ∃ b, cl = [.bool b] := fun _ _ _ _ _ _ _ _ h hr => by
  obtain ⟨b, rfl, _⟩ := DataW.trod_bool he h
  exact ⟨_, RdAt.one rfl (.bool b), b, rfl⟩
theorem reads_str {e : TypeId} (he : P.underlying e = some .string) : Reads P e fun cl => ∃ s : Bytes, cl = [.str s] ∧ s.length ≤ reachBytes := fun _ _ _ _ _ _ _ _ h hr => by
  obtain ⟨s, rfl, rfl, hs⟩ := DataW.trod_string he h
  exact ⟨_, RdAt.one rfl (.str s _ rfl), s.data.toList, rfl, hr _ (by simp [DataW.weights])⟩
theorem wf64 {n : Int} (h : (Lit.int .i64 n).wf = true) : I64 n := by
  have := i64_lim h
  unfold I64
  omega
theorem reads_byte {e : TypeId} (he : P.underlying e = some (.int .u8)) : Reads P e fun cl => ∃ c, cl = byteC c := fun _ _ _ _ _ _ _ _ h hr => by
  obtain ⟨n, rfl, _, hw⟩ := DataW.trod_int he h
  simp [Lit.wf, IntKind.min, IntKind.max, IntKind.signed, IntKind.bits] at hw
  obtain ⟨m, rfl⟩ := Int.eq_ofNat_of_zero_le hw.1
  have hm : m < 256 := by omega
  refine ⟨_, RdAt.one rfl (.int .u8 m), UInt8.ofNat m, ?_⟩
  simp [byteC, Nat.mod_eq_of_lt hm]
theorem reads_slice {E : List AV → Prop} {t e : TypeId} {k bytes : Nat} (ht : P.underlying t = some (.slice e)) (hk : P.cellsOf e = k) (hby : P.bytesOf e = bytes) (hk0 : 0 < k) (hR : Reads P e E) :
    Reads P t fun cl => ∃ l, cl = [.sl k l .no] ∧ (∀ x ∈ l, E x) ∧ l.length * bytes ≤ reachBytes := fun enc w base sp hd n cs x h hr => by
  subst hk
  rcases open_slice ht h with ⟨rfl, _⟩ | ⟨ad, len, cap, m, n', D, Pl, rfl, _, hlc, hcm, hm, rfl, hi⟩
  · refine ⟨_, RdAt.one rfl (.sl (P.cellsOf e) [] .no none 0 0 0 0 (fun _ _ => undef) rfl (Nat.le_refl _) (Nat.zero_le _) (fun h => absurd rfl h) (fun j e h => by simp at h) (fun j e i a h => by simp at h) (fun j e i a h => by simp at h) trivial), [], rfl, by simp, by simp⟩
  · have hlm : len ≤ m := by rw [hm]; split <;> omega
    obtain ⟨hw, hel⟩ := inReach_slice ht hr
    rw [hby] at hw
    simp only [List.length_map, List.length_range] at hw
    have hex : ∀ i, i < len → ∃ a, ∃ cs', w.cells? base (ad.add (i * P.cellsOf e)) (P.cellsOf e) = some cs' ∧ RdAt w cs' a ∧ E a := fun i hl => by
      obtain ⟨cs', hc, ht'⟩ := hi i (by omega)
      obtain ⟨a, ha, hE⟩ := hR enc w base sp hd n' cs' _ ht' (hel _ (List.mem_map.2 ⟨i, List.mem_range.2 hl, rfl⟩))
      exact ⟨a, cs', hc, ha, hE⟩
    have hlist : ∀ m', m' ≤ len → ∃ l : List (List AV), l.length = m' ∧ ∀ i a, l[i]? = some a → ∃ cs', w.cells? base (ad.add (i * P.cellsOf e)) (P.cellsOf e) = some cs' ∧ RdAt w cs' a ∧ E a := by
      intro m'
      induction m' with
      | zero => exact fun _ => ⟨[], rfl, fun i a h => by simp at h⟩
      | succ q ih =>
        intro hq
        obtain ⟨l, hl, hg⟩ := ih (by omega)
        obtain ⟨a, ha⟩ := hex q (by omega)
        refine ⟨l ++ [a], by simp [hl], fun i b hb => ?_⟩
        rw [List.getElem?_append] at hb
        split at hb
        · exact hg i b hb
        · rename_i hge
          have : i = q := by
            have := (List.getElem?_eq_some_iff.1 hb).1
            simp at this
            omega
          subst this
          simp [hl] at hb
          subst hb
          exact ha
    obtain ⟨l, hl, hg⟩ := hlist len (Nat.le_refl _)
    have hmem : ∀ x ∈ l, E x := fun x hx => by
      obtain ⟨i, hi⟩ := List.mem_iff_getElem?.1 hx
      obtain ⟨_, _, _, h⟩ := hg i x hi
      exact h
    obtain ⟨b, o, sp'⟩ := ad
    have hsp0 : l ≠ [] → sp' = none := fun hne => by
      obtain ⟨a0, ha0⟩ : ∃ a, l[0]? = some a := ⟨l[0]'(List.length_pos_iff.2 hne), List.getElem?_eq_getElem _⟩
      obtain ⟨cs0, hc0, _, _⟩ := hg 0 a0 ha0
      obtain ⟨_, hl0, hat0⟩ := World.cells?_some hc0
      have h00 := hat0 0 hk0
      have hsome : cs0[0]? = some (cs0[0]'(by omega)) := List.getElem?_eq_getElem _
      rw [hsome] at h00
      simp only [Nat.zero_mul, Addr.add, if_true] at h00
      unfold World.cell? at h00
      split at h00
      · cases sp' with
        | none => rfl
        | some q => simp at h00
      · cases h00
    have hadd : ∀ o i, (Addr.mk b o none).add i = ⟨b, o + i, none⟩ := fun o i => by
      unfold Addr.add; split
      · rename_i h; subst h; rfl
      · rfl
    have hcell : ∀ (j : Nat) a, l[j]? = some a → ∀ (i : Nat) x, a[i]? = some x → ∃ v, sp' = none ∧ b < w.heap.size ∧ w.cell? ⟨b, o + j * P.cellsOf e + i, none⟩ = some v ∧ RV (Cx.top w) v x ∧ x.plain = true ∧ a.length = P.cellsOf e := fun j a hj i x hx => by
      obtain ⟨cs', hc', hr', _⟩ := hg j a hj
      obtain ⟨_, hl', hat'⟩ := World.cells?_some hc'
      have hal : a.length = P.cellsOf e := by rw [hr'.len, hl']
      have hi' : i < P.cellsOf e := by rw [← hal]; exact (List.getElem?_eq_some_iff.1 hx).1
      have hv : cs'[i]? = some (cs'[i]'(by omega)) := List.getElem?_eq_getElem _
      have hat := hat' i hi'
      rw [hv] at hat
      have hsp : sp' = none := hsp0 (fun h => by rw [h] at hj; simp at hj)
      subst hsp
      have hblt := World.block_lt_of_cell? w _ hat
      refine ⟨_, rfl, ?_, ?_, hr'.rv i _ x hv hx, hr'.pl i x hx, hal⟩
      · rw [hadd, hadd] at hblt
        exact hblt
      · rw [hadd, hadd] at hat
        exact hat
    refine ⟨_, RdAt.one rfl (RV.sl (P.cellsOf e) l .no (some ⟨b, o, sp'⟩) len cap b o (fun j i => (w.cell? ⟨b, o + j * P.cellsOf e + i, none⟩).getD undef) hl hlc hcm ?_ ?_ ?_ ?_ trivial), l, rfl, hmem, by rw [hl]; exact Nat.le_trans (Nat.mul_le_mul_right _ (Nat.le_add_right _ _)) hw⟩
    · intro hne
      obtain ⟨a0, ha0⟩ : ∃ a, l[0]? = some a := ⟨l[0]'(List.length_pos_iff.2 hne), List.getElem?_eq_getElem _⟩
      obtain ⟨cs0, hc0, hr0, _⟩ := hg 0 a0 ha0
      obtain ⟨_, hl0, _⟩ := World.cells?_some hc0
      obtain ⟨x0, hx0⟩ : ∃ x, a0[0]? = some x := ⟨a0[0]'(by rw [hr0.len, hl0]; exact hk0), List.getElem?_eq_getElem _⟩
      obtain ⟨_, rfl, _⟩ := hcell 0 a0 ha0 0 x0 hx0
      rfl
    · intro j a hj
      obtain ⟨cs', hc', hr', _⟩ := hg j a hj
      obtain ⟨_, hl', _⟩ := World.cells?_some hc'
      rw [hr'.len, hl']
    · intro j a i x hj hx
      obtain ⟨v, _, h1, h2, h3, h4, _⟩ := hcell j a hj i x hx
      exact ⟨h4, Cx.top_im h1, by show w.cell? _ = _; rw [h2]; rfl⟩
    · intro j a i x hj hx
      obtain ⟨v, _, h1, h2, h3, h4, _⟩ := hcell j a hj i x hx
      rw [h2]
      exact h3
/-- Fields, one behind the other. -/
def Fits (P : Program) : List Field → Nat → List (Nat × (List AV → Prop)) → Prop
  | [], _, [] => True
  | f :: fs, o, (k, E) :: Es => f.offset = o ∧ P.cellsOf f.type = k ∧ Reads P f.type E ∧ Fits P fs (o + k) Es
  | _, _, _ => False
def PartsE : List (Nat × (List AV → Prop)) → List AV → Prop
  | [], cl => cl = []
  | (_, E) :: Es, cl => ∃ a b, cl = a ++ b ∧ E a ∧ PartsE Es b
def cellsSum : List (Nat × (List AV → Prop)) → Nat
  | [] => 0
  | (k, _) :: Es => k + cellsSum Es
theorem reads_fields {H : Type} {enc : TypeId × Value → H} {w : World} {base : Nat} {sp : Nat → Bool} {hd : Bool} {n : Nat} {cs : List Value} : ∀ (fs : List Field) (o : Nat) (Es : List (Nat × (List AV → Prop))), Fits P fs o Es →
    (∀ f ∈ fs, ∃ x : DataW H × List MemPlace, DataW.trod enc P w base sp hd n f.type ((cs.drop f.offset).take (P.cellsOf f.type)) = some x ∧ InReach P f.type x.1) →
    ∃ cl, RdAt w ((cs.drop o).take (cellsSum Es)) cl ∧ PartsE Es cl
  | [], o, [], _, _ => ⟨[], by simpa [cellsSum] using RdAt.nil, rfl⟩
  | f :: fs, o, (k, E) :: Es, ⟨h1, h2, h3, h4⟩, h => by
    obtain ⟨x, g1, g2⟩ := h f List.mem_cons_self
    obtain ⟨a, r1, e1⟩ := h3 enc w base sp hd n _ x g1 g2
    obtain ⟨b, r2, e2⟩ := reads_fields fs (o + k) Es h4 fun f' hf' => h f' (List.mem_cons_of_mem _ hf')
    refine ⟨a ++ b, ?_, a, b, rfl, e1, e2⟩
    rw [h1, h2] at r1
    have e : (cs.drop o).take (cellsSum ((k, E) :: Es)) = (cs.drop o).take k ++ (cs.drop (o + k)).take (cellsSum Es) := by
      rw [cellsSum, List.take_add, List.drop_drop]
    rw [e]
    exact r1.app r2
  | [], _, _ :: _, h, _ => h.elim
  | _ :: _, _, [], h, _ => h.elim
theorem reads_struct {t : TypeId} {fs : Array Field} {Es : List (Nat × (List AV → Prop))} (ht : P.underlying t = some (.struct fs)) (hF : Fits P fs.toList 0 Es) (hc : P.cellsOf t = cellsSum Es) : Reads P t (PartsE Es) := fun enc w base sp hd n cs x h hr => by
  obtain ⟨xs, m, _, rfl, hlen, hxl, hg⟩ := DataW.trod_struct ht h
  obtain ⟨cl, h1, h2⟩ := reads_fields (enc := enc) (w := w) (base := base) (sp := sp) (hd := hd) (n := m) (cs := cs) fs.toList 0 Es hF fun f hf => by
    obtain ⟨i, hi⟩ := List.mem_iff_getElem?.1 hf
    rw [Array.getElem?_toList] at hi
    have hil : i < xs.length := by rw [hxl]; exact (Array.getElem?_eq_some_iff.1 hi).1
    have h1 := hg i f hi
    rw [List.getElem?_eq_getElem hil] at h1
    refine ⟨xs[i], h1, ?_⟩
    unfold InReach at hr
    simp only [DataW.weights, ht] at hr
    exact inReach_each (ts := fs.toList.map (·.type)) (ds := xs.map (·.1)) (i := i) (by rw [List.getElem?_map, Array.getElem?_toList, hi]; rfl) (by rw [List.getElem?_map, List.getElem?_eq_getElem hil]; rfl) hr
  refine ⟨cl, ?_, h2⟩
  rw [List.drop_zero, ← hc, ← hlen, List.take_length] at h1
  exact h1
/-- A struct cl an argument. -/
theorem rd_struct {t : TypeId} {fs : Array Field} {H : Type} {enc : TypeId × Value → H} {w : World} {base base' : Nat} {sp : Nat → Bool} {hd : Bool} {v : Value} {d : DataW H} {p : List MemPlace} {r : Reach} {E : List AV → Prop}
    (ht : P.underlying t = some (.struct fs)) (hR : Reads P t E) (hval : Value.okWide P w r base' t v) (h : DataW.Trod enc P w base sp hd t v d p) (hr : InReach P t d) : ∃ cl, RV (Cx.top w) v (.agg cl) ∧ E cl := by
  obtain ⟨f, hf⟩ := h
  obtain ⟨cs, rfl, hsz⟩ := okWide_struct ht hval
  obtain ⟨cl, h1, h2⟩ := hR enc w _ _ _ _ _ _ hf hr
  refine ⟨cl, .agg _ _ ?_ (fun i a ha => AV.plain_cell (h1.pl i a ha)) (fun i u a hu ha => h1.rv i u a ?_ ha), h2⟩
  · have := h1.len
    simpa [Value.cells] using this.symm
  · simpa [Value.cells] using hu
/-- A row cl an argument. -/
theorem rd_slice {t e : TypeId} {H : Type} {enc : TypeId × Value → H} {w : World} {base base' : Nat} {sp : Nat → Bool} {hd : Bool} {v : Value} {d : DataW H} {p : List MemPlace} {r : Reach} {E : List AV → Prop}
    (ht : P.underlying t = some (.slice e)) (hR : Reads P t E) (hval : Value.okWide P w r base' t v) (h : DataW.Trod enc P w base sp hd t v d p) (hr : InReach P t d) : ∃ a, RV (Cx.top w) v a ∧ E [a] := by
  obtain ⟨f, hf⟩ := h
  obtain ⟨A, n, c, rfl⟩ := okWide_slice ht hval
  obtain ⟨cl, h1, h2⟩ := hR enc w _ _ _ _ _ _ hf hr
  have hl : cl.length = 1 := by have := h1.len; simpa [Value.cells] using this
  match cl, hl with
  | [a], _ => exact ⟨a, h1.rv 0 _ a (by simp [Value.cells]) rfl, h2⟩
end
/-- Bytes, read. -/
theorem bytes_of {l : List (List AV)} (h : ∀ x ∈ l, ∃ c, x = byteC c) : ∃ b : Bytes, l = b.map byteC := by
  induction l with
  | nil => exact ⟨[], rfl⟩
  | cons x l ih =>
    obtain ⟨c, rfl⟩ := h x List.mem_cons_self
    obtain ⟨b, rfl⟩ := ih fun y hy => h y (List.mem_cons_of_mem _ hy)
    exact ⟨c :: b, rfl⟩
theorem list_of {α : Type} {f : α → List AV} {Q : α → Prop} {l : List (List AV)} (h : ∀ x ∈ l, ∃ c, x = f c ∧ Q c) : ∃ b : List α, l = b.map f ∧ ∀ c ∈ b, Q c := by
  induction l with
  | nil => exact ⟨[], rfl, by simp⟩
  | cons x l ih =>
    obtain ⟨c, rfl, hc⟩ := h x List.mem_cons_self
    obtain ⟨b, rfl, hb⟩ := ih fun y hy => h y (List.mem_cons_of_mem _ hy)
    exact ⟨c :: b, rfl, by simp; exact ⟨hc, hb⟩⟩
theorem reads_bytes {P : Program} {t e : TypeId} (ht : P.underlying t = some (.slice e)) (he : P.underlying e = some (.int .u8)) (hk : P.cellsOf e = 1) (hby : P.bytesOf e = 1) : Reads P t fun cl => ∃ b : Bytes, cl = [bytesA b] ∧ b.length ≤ reachBytes :=
  Reads.mono (reads_slice ht hk hby (by omega) (reads_byte he)) fun cl => by
    rintro ⟨l, rfl, hl, hn⟩
    obtain ⟨b, rfl⟩ := bytes_of hl
    exact ⟨b, rfl, by simpa using hn⟩
end Go.Proofs.Ytcafahcmalfepaa
/-
  Disks, logs, acts, rows of rows, as arguments.
-/
namespace Go.Proofs.Ytcafahcmalfepaa
open Go.ChangeShapes Go.WideShapes Go.ChangeAt Go.RowKit Go.Deep
def intE (cl : List AV) : Prop := ∃ n, cl = [.int .i64 n] ∧ (Lit.int .i64 n).wf = true
def rowE (cl : List AV) : Prop := ∃ b : Bytes, cl = [bytesA b] ∧ b.length ≤ reachBytes
def boolE (cl : List AV) : Prop := ∃ b, cl = [.bool b]
def smR (l : List Bytes) : Prop := ∀ x ∈ l, x.length ≤ 4611686018427387904
def rowsE (cl : List AV) : Prop := ∃ l : List Bytes, cl = [rowsA l] ∧ smR l
def diskC (d : DD) : List AV := [.int .i64 d.cap, bytesA d.safe, bytesA d.loose, .bool d.down, .int .i64 d.fuse]
def diskE (cl : List AV) : Prop := ∃ d : DD, cl = diskC d ∧ I64 d.fuse
def logC (g : WL) : List AV := [.int .i64 g.d.cap, bytesA g.d.safe, bytesA g.d.loose, .bool g.d.down, .int .i64 g.d.fuse, rowsA g.l]
structure Ac where
  kind : Int
  n : Int
  l : List Bytes
def acC (a : Ac) : List AV := [.int .i64 a.kind, .int .i64 a.n, rowsA a.l]
def acsA (l : List Ac) : AV := .sl 3 (l.map acC) .no
theorem reads_row : Reads Try.prog 22 rowE := reads_bytes Try.underlying22 Try.underlying5 (by kernel_rfl) (by kernel_rfl)
theorem reads_rows : Reads Try.prog 34 rowsE :=
  Reads.mono (reads_slice Try.underlying34 (k := 1) (bytes := 24) (by kernel_rfl) (by kernel_rfl) (by omega) reads_row) fun cl => by
    rintro ⟨l, rfl, hl, hn⟩
    obtain ⟨b, rfl, hb⟩ := list_of (f := rowC) (Q := fun x => x.length ≤ reachBytes) fun x hx => by obtain ⟨c, rfl, hc⟩ := hl x hx; exact ⟨c, rfl, hc⟩
    exact ⟨b, rfl, fun x hx => Nat.le_trans (hb x hx) (by unfold reachBytes; omega)⟩
set_option maxRecDepth 20000 in
theorem reads_disk : Reads Try.prog 42 diskE :=
  Reads.mono (reads_struct (Es := [(1, intE), (1, rowE), (1, rowE), (1, boolE), (1, intE)]) Try.underlying42
    ⟨rfl, by kernel_rfl, reads_int Try.underlying3, rfl, by kernel_rfl, reads_row, rfl, by kernel_rfl, reads_row, rfl, by kernel_rfl, reads_bool Try.underlying4, rfl, by kernel_rfl, reads_int Try.underlying3, trivial⟩ (by kernel_rfl)) fun cl => by
    rintro ⟨_, _, rfl, ⟨a, rfl, ha⟩, _, _, rfl, ⟨b, rfl, hb⟩, _, _, rfl, ⟨c, rfl, hc⟩, _, _, rfl, ⟨e, rfl⟩, _, _, rfl, ⟨f, rfl, hf⟩, rfl⟩
    exact ⟨⟨a, b, c, e, f⟩, rfl, wf64 hf⟩
set_option maxRecDepth 20000 in
theorem reads_log : Reads Try.prog 47 fun cl => ∃ g : WL, cl = logC g ∧ I64 g.d.fuse ∧ smR g.l :=
  Reads.mono (reads_struct (Es := [(5, diskE), (1, rowsE)]) Try.underlying47
    ⟨rfl, by kernel_rfl, reads_disk, rfl, by kernel_rfl, reads_rows, trivial⟩ (by kernel_rfl)) fun cl => by
    rintro ⟨_, _, rfl, ⟨d, rfl, hd⟩, _, _, rfl, ⟨l, rfl, hl⟩, rfl⟩
    exact ⟨⟨d, l⟩, rfl, hd, hl⟩
theorem reads_act : Reads Try.prog 73 fun cl => ∃ a : Ac, cl = acC a ∧ (smR a.l ∧ I64 a.n) :=
  Reads.mono (reads_struct (Es := [(1, intE), (1, intE), (1, rowsE)]) Try.underlying73
    ⟨rfl, by kernel_rfl, reads_int Try.underlying3, rfl, by kernel_rfl, reads_int Try.underlying3, rfl, by kernel_rfl, reads_rows, trivial⟩ (by kernel_rfl)) fun cl => by
    rintro ⟨_, _, rfl, ⟨a, rfl, ha⟩, _, _, rfl, ⟨n, rfl, hn⟩, _, _, rfl, ⟨l, rfl, hl⟩, rfl⟩
    exact ⟨⟨a, n, l⟩, rfl, hl, wf64 hn⟩
theorem reads_acts : Reads Try.prog 71 fun cl => ∃ l : List Ac, cl = [acsA l] ∧ ∀ a ∈ l, smR a.l ∧ I64 a.n :=
  Reads.mono (reads_slice Try.underlying71 (k := 3) (bytes := 40) (by kernel_rfl) (by kernel_rfl) (by omega) reads_act) fun cl => by
    rintro ⟨l, rfl, hl, hn⟩
    obtain ⟨b, rfl, hb⟩ := list_of (f := acC) (Q := fun a => smR a.l ∧ I64 a.n) hl
    exact ⟨b, rfl, hb⟩
end Go.Proofs.Ytcafahcmalfepaa
