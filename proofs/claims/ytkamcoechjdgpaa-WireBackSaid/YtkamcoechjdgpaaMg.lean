/-
  Several texts in one: Ip, Iq, Ir, Is, Kd, Ke, It.
-/
import Derived.Test.YtkamcoechjdgpaaMf
import Derived.Test.YtkamcoechjdgpaaMc
set_option maxRecDepth 20000
set_option maxHeartbeats 8000000
/-
  Package wire: the letter of bytes (without the question whether it may be).
-/
namespace Go.Proofs.Ytkamcoechjdgpaa
open Go.RowKit
def zT : List AV := .int .i64 0 :: .int .i64 0 :: .int .i64 0 :: .str [] :: .nils :: (accC zA ++ (.nils :: (rpZ ++ (sumC zM ++ (ordC zO ++ rplC zX)))))
theorem zT_bel : belL 0 zT = true := rfl
theorem taken_1 (b b' : Bytes) (hb : b.length ≤ 1000000) (hb' : b'.length ≤ 1000000) (hk : rdN b 0 0 = (b', 0, 1)) : ASpec Try.prog 60 [bytesA b] (.tup [.agg (letC (l1 b')), .bool (decide ((q1_5 b').2.1 = 0) && decide ((q1_5 b').1 = []))]) := by
  have hn := number_c b 0 0 (fun x => x :: zT) 0 (.of [] zT (fun _ => rfl) rfl rfl rfl) hb
  rw [hk] at hn
  simp only at hn
  have ht := told_1 b' hb'
  have zT_bel2 : belL 0 (.int .i64 1 :: zT) = true := rfl
  obtain ⟨cs, hcs⟩ : ∃ cs : List AV, .int .i64 1 :: .int .i64 (q1_1 b').2.2 :: .int .i64 (q1_2 b').2.2 :: .int .i64 (q1_3 b').2.2 :: .str (q1_4 b').2.2 :: rpsA (q1_5 b').2.2 :: (accC zA ++ (.nils :: (rpZ ++ (sumC zM ++ (ordC zO ++ rplC zX))))) = cs := ⟨_, rfl⟩
  have hY : LentB (.box cs) := .box_ _ (by rw [← hcs]; first | rfl | exact belL_app (xs := [.int .i64 7, .int .i64 (q7_1 b').2.2, .int .i64 (q7_2 b').2.2, .int .i64 0, .str [], .nils, .int .i64 0, .int .i64 0, .str [], .nils, .int .i64 0, .int .i64 0, .bool false, .int .i64 0, .str [], .nils]) rfl (belL_app (sumC_bel _) rfl))
  have hlen : cs.length = 62 := by rw [← hcs]; first | rfl | (simp [accC, rpZ, ordC, rplC, sumC_len, q7_3, rdM_32 _ _ zM rfl])
  have hle : Le1L cs (letC (l1 b')) := by
    rw [← hcs]
    (repeat' (first | exact Le1L.nil | exact Le1.refl _ | exact Le1.nil _ | apply Le1L.cons | exact le1l_refl _))
  rw [hcs] at ht
  have htk : cs.take 62 = cs := List.take_of_length_le (by omega)
  clear hcs
  generalize letC (l1 b') = lc at *
  generalize q1_5 b' = t at *
  obtain ⟨bb, ee, xx⟩ := t
  simp only at ht ⊢
  refine ⟨⟨_, Try.func60, by kernel_rfl, rfl⟩, ACall.of Try.func60 rfl fun c0 hc0 => ?_⟩; simp only [Try.ntmps60, Ya, Y9, Nat.reduceAdd, Nat.reduceSub, Ym, Yn, Y5, Y3]; refine Run.god tab_ok follows_ok Try.func60 4 ?_; simp only [bytesA, drun, aops, aone, aop, needs, ext, aev, aconst, aput, aupd, astore, abuild, tab_4, tab_83, tab_85, tab_145, ok1, lay, AV.cells, AV.whole, Y4, Yb, Yc, Y6, Y7, Ya, Y9, Y1, Y2, Yi, Yh, Yg, Yj, Yl, Yf, Ye, Y5, Y3, Yd, Yt, Yu, Ys, Yr, Nat.reduceAdd, Nat.reduceLeDiff, Yp, Yv, Y0, Y8]
  refine Run.weak (Weak.nilC 2 61 1 _ rfl rfl) ?_
  simp only [Y7, Y6]
  refine Run.weak (Weak.junk [7, 8, 9, 10]) ?_
  simp only [junkAt, Y6, Y7]
  refine Run.god tab_ok follows_ok Try.func60 60 ?_; simp only [drun, aops, aone, aop, needs, ext, aev, aconst, aput, aupd, afieldAddr, abuild, tab_83, tab_146, tab_148, ok1, lay, AV.cells, AV.whole, Y4, Yb, Yc, Y6, Y7, Ya, Y9, Y1, Y2, Yh, Yj, Yl, Yf, Ye, Y5, Y3, Yd, Yt, Yu, Yr, Nat.reduceAdd, Yp, Yq, Yv, Y0, Y8]
  refine Ops.callB .free rfl rfl (js := [1, 2]) (by decide) (LentAll.cons rfl (pp_lent b true 0) (LentAll.cons rfl (LentB.box_ (.int .i64 0 :: zT) rfl) LentAll.nil)) (lent2 (pp_lent _ _ _) (LentB.box_ _ rfl)) rfl rfl (by simp only [cond_true, cond_false, renL, AV.ren, List.idxOf, List.findIdx, List.findIdx.go, aev, Y4, Y1, Y2, Yf, Ye, Y3, Yd, Nat.reduceAdd, Nat.reduceBEq, Yp, beq_self_eq_true, Y0]; (repeat' first | exact .refl _ | apply LeR.tup | apply Le.agg | constructor)) (hn) rfl ?_
  refine Ops.god tab_ok follows_ok Try.func60 60 ?_; simp only [putBack, drun, aops, aone, aop, aput, Y6, Y7]
  refine Ops.callP .free rfl rfl (js := [2]) (by decide) (LentAll.cons rfl (LentB.box_ _ zT_bel2) LentAll.nil) (lent1 (LentB.box_ _ zT_bel2)) rfl rfl (by simp only [cond_true, renL, AV.ren, List.idxOf, List.findIdx, List.findIdx.go, aev, Y4, Y1, Y2, Yf, Ye, Y3, Yd, Yp, beq_self_eq_true, Y0]; (repeat' first | exact .refl _ | apply LeR.tup | apply Le.agg | constructor)) (letplaces_1 zT zT_bel) rfl ?_
  refine Ops.god tab_ok follows_ok Try.func60 60 ?_; simp only [pp, AV.unr, unrL, unrLL, decide_true, ↓alt_f, ↓alts_f, ↓gone_ff, gslot, drun, aops, aone, aop, needs, ext, aev, aconst, aput, aupd, aload, afieldAddr, acmp, ashift, abin, tab_34, tab_145, tab_151, ok1, cellsAs, TI.agg, Y4, Yb, Yc, Y6, Y7, Ya, Y9, Y1, Y2, Yw, Yi, Yh, Yg, Yk, Y5, Y3, Yt, Ys, Yr, Nat.reduceAdd, Yp, Bool.not_true, Yv, Y0, Y8]
  refine Ops.invokeB .free rfl rfl meth_parts (js := [1, 2]) (by decide) (LentAll.cons rfl (pp_lent b' true 0) (LentAll.cons rfl (LentB.box_ _ zT_bel2) LentAll.nil)) (lent2 (pp_lent _ _ _) hY) rfl (by simp only [Yf, Ye, aev, Y4, Y1, Y2, Y0]; rfl) (by simp only [Yf, Ye, aev, Y4, Y1, Y2, Nat.reduceAdd, Nat.reduceBEq, Yp, beq_self_eq_true, Y0, cond_true, cond_false, renL, renLL, AV.ren, List.idxOf, List.findIdx, List.findIdx.go]; exact LeL.cons (Le.refl _) (LeL.cons (Le.refl _) LeL.nil)) ht rfl ?_
  have hfin : decide ((bb.length : Int) = 0) = decide (bb = []) := by cases bb <;> simp; omega
  by_cases he : ee = 0
  · subst he
    refine Ops.god tab_ok follows_ok Try.func60 60 ?_; simp only [Try.results60, putBack, pp, hfin, hlen, htk, bytesA, decide_true, ↓alts_t, ↓gdone_tt, gslot, drun, adops, adone, places, mayNeed, freeOk, rdOf, AV.id, wrOf, aops, afin, ares, aresL, ares1, aresOk, aresOk1, aop, needs, aev, aconst, aput, aupd, aload, astore, afieldAddr, acmp, ashift, abin, alen, tab_3, tab_34, tab_83, tab_85, tab_145, ok1, lay, cellsAs, TI.agg, AV.cells, AV.whole, Y4, Yb, Yc, Y6, Y7, Ya, Y9, Y1, Y2, Yw, Yi, Yh, Yg, Yj, Yk, Yl, Yo, Y5, Y3, Yd, Yt, Yu, Ys, Yr, Nat.reduceAdd, Nat.reduceLeDiff, Yp, Yq, Bool.true_and, Yv, Y0, Y8]
    ((repeat' apply And.intro) <;> try first | rfl | omega | (unfold I64; omega))
    all_goals (first | exact Le1L.nil | exact LeR.tup (LeL.cons (Le.agg hle) (LeL.cons (Le.refl _) LeL.nil)))
  · refine Ops.god tab_ok follows_ok Try.func60 60 ?_; simp only [Try.results60, putBack, pp, he, hlen, htk, bytesA, decide_false, ↓alts_f, ↓gdone_tf, gslot, drun, adops, adone, places, mayNeed, freeOk, rdOf, AV.id, wrOf, aops, afin, ares, aresL, ares1, aresOk, aresOk1, aop, needs, aev, aconst, aput, aupd, aload, astore, afieldAddr, acmp, ashift, abin, tab_34, tab_83, tab_145, ok1, lay, cellsAs, TI.agg, AV.cells, AV.whole, Y4, Yb, Yc, Y6, Y7, Ya, Y9, Y1, Y2, Yw, Yi, Yh, Yg, Yj, Yk, Yl, Y5, Y3, Yd, Yt, Yu, Ys, Yr, Nat.reduceAdd, Yp, Bool.false_and, Yv, Y0, Y8]
    ((repeat' apply And.intro) <;> try first | rfl | omega | (unfold I64; omega))
    all_goals (first | exact Le1L.nil | exact LeR.tup (LeL.cons (Le.agg hle) (LeL.cons (Le.refl _) LeL.nil)))
theorem taken_2 (b b' : Bytes) (hb : b.length ≤ 1000000) (hb' : b'.length ≤ 1000000) (hk : rdN b 0 0 = (b', 0, 2)) : ASpec Try.prog 60 [bytesA b] (.tup [.agg (letC (l2 b')), .bool (decide ((q2_2 b').2.1 = 0) && decide ((q2_2 b').1 = []))]) := by
  have hn := number_c b 0 0 (fun x => x :: zT) 0 (.of [] zT (fun _ => rfl) rfl rfl rfl) hb
  rw [hk] at hn
  simp only at hn
  have ht := told_2 b' hb'
  have zT_bel2 : belL 0 (.int .i64 2 :: zT) = true := rfl
  obtain ⟨cs, hcs⟩ : ∃ cs : List AV, .int .i64 2 :: .int .i64 0 :: .int .i64 (q2_1 b').2.2 :: .int .i64 0 :: .str [] :: .nils :: (accC (q2_2 b').2.2 ++ (.nils :: (rpZ ++ (sumC zM ++ (ordC zO ++ rplC zX))))) = cs := ⟨_, rfl⟩
  have hY : LentB (.box cs) := .box_ _ (by rw [← hcs]; first | rfl | exact belL_app (xs := [.int .i64 7, .int .i64 (q7_1 b').2.2, .int .i64 (q7_2 b').2.2, .int .i64 0, .str [], .nils, .int .i64 0, .int .i64 0, .str [], .nils, .int .i64 0, .int .i64 0, .bool false, .int .i64 0, .str [], .nils]) rfl (belL_app (sumC_bel _) rfl))
  have hlen : cs.length = 62 := by rw [← hcs]; first | rfl | (simp [accC, rpZ, ordC, rplC, sumC_len, q7_3, rdM_32 _ _ zM rfl])
  have hle : Le1L cs (letC (l2 b')) := by
    rw [← hcs]
    (repeat' (first | exact Le1L.nil | exact Le1.refl _ | exact Le1.nil _ | apply Le1L.cons | exact le1l_refl _))
  rw [hcs] at ht
  have htk : cs.take 62 = cs := List.take_of_length_le (by omega)
  clear hcs
  generalize letC (l2 b') = lc at *
  generalize q2_2 b' = t at *
  obtain ⟨bb, ee, xx⟩ := t
  simp only at ht ⊢
  refine ⟨⟨_, Try.func60, by kernel_rfl, rfl⟩, ACall.of Try.func60 rfl fun c0 hc0 => ?_⟩; simp only [Try.ntmps60, Ya, Y9, Nat.reduceAdd, Nat.reduceSub, Ym, Yn, Y5, Y3]; refine Run.god tab_ok follows_ok Try.func60 4 ?_; simp only [bytesA, drun, aops, aone, aop, needs, ext, aev, aconst, aput, aupd, astore, abuild, tab_4, tab_83, tab_85, tab_145, ok1, lay, AV.cells, AV.whole, Y4, Yb, Yc, Y6, Y7, Ya, Y9, Y1, Y2, Yi, Yh, Yg, Yj, Yl, Yf, Ye, Y5, Y3, Yd, Yt, Yu, Ys, Yr, Nat.reduceAdd, Nat.reduceLeDiff, Yp, Yv, Y0, Y8]
  refine Run.weak (Weak.nilC 2 61 1 _ rfl rfl) ?_
  simp only [Y7, Y6]
  refine Run.weak (Weak.junk [7, 8, 9, 10]) ?_
  simp only [junkAt, Y6, Y7]
  refine Run.god tab_ok follows_ok Try.func60 60 ?_; simp only [drun, aops, aone, aop, needs, ext, aev, aconst, aput, aupd, afieldAddr, abuild, tab_83, tab_146, tab_148, ok1, lay, AV.cells, AV.whole, Y4, Yb, Yc, Y6, Y7, Ya, Y9, Y1, Y2, Yh, Yj, Yl, Yf, Ye, Y5, Y3, Yd, Yt, Yu, Yr, Nat.reduceAdd, Yp, Yq, Yv, Y0, Y8]
  refine Ops.callB .free rfl rfl (js := [1, 2]) (by decide) (LentAll.cons rfl (pp_lent b true 0) (LentAll.cons rfl (LentB.box_ (.int .i64 0 :: zT) rfl) LentAll.nil)) (lent2 (pp_lent _ _ _) (LentB.box_ _ rfl)) rfl rfl (by simp only [cond_true, cond_false, renL, AV.ren, List.idxOf, List.findIdx, List.findIdx.go, aev, Y4, Y1, Y2, Yf, Ye, Y3, Yd, Nat.reduceAdd, Nat.reduceBEq, Yp, beq_self_eq_true, Y0]; (repeat' first | exact .refl _ | apply LeR.tup | apply Le.agg | constructor)) (hn) rfl ?_
  refine Ops.god tab_ok follows_ok Try.func60 60 ?_; simp only [putBack, drun, aops, aone, aop, aput, Y6, Y7]
  refine Ops.callP .free rfl rfl (js := [2]) (by decide) (LentAll.cons rfl (LentB.box_ _ zT_bel2) LentAll.nil) (lent1 (LentB.box_ _ zT_bel2)) rfl rfl (by simp only [cond_true, renL, AV.ren, List.idxOf, List.findIdx, List.findIdx.go, aev, Y4, Y1, Y2, Yf, Ye, Y3, Yd, Yp, beq_self_eq_true, Y0]; (repeat' first | exact .refl _ | apply LeR.tup | apply Le.agg | constructor)) (letplaces_2 zT zT_bel) rfl ?_
  refine Ops.god tab_ok follows_ok Try.func60 60 ?_; simp only [pp, partC, voteB_, AV.unr, unrL, unrLL, decide_true, ↓alt_f, ↓alts_f, ↓gone_ff, gslot, drun, aops, aone, aop, needs, ext, aev, aconst, aput, aupd, aload, afieldAddr, acmp, ashift, abin, tab_34, tab_145, tab_151, ok1, cellsAs, TI.agg, Y4, Yb, Yc, Y6, Y7, Ya, Y9, Y1, Y2, Yw, Yi, Yh, Yg, Yk, Yf, Ye, Y5, Y3, Yt, Ys, Yr, Nat.reduceAdd, Yp, Bool.not_true, Yv, Y0, Y8]
  refine Ops.invokeB .free rfl rfl meth_parts (js := [1, 2]) (by decide) (LentAll.cons rfl (pp_lent b' true 0) (LentAll.cons rfl (LentB.box_ _ zT_bel2) LentAll.nil)) (lent2 (pp_lent _ _ _) hY) rfl (by simp only [Yf, Ye, aev, Y4, Y1, Y2, Y0]; rfl) (by simp only [Yf, Ye, partC, voteB_, aev, Y4, Y1, Y2, Nat.reduceAdd, Nat.reduceBEq, Yp, beq_self_eq_true, Y0, cond_true, cond_false, renL, renLL, AV.ren, List.idxOf, List.findIdx, List.findIdx.go]; exact LeL.cons (Le.refl _) (LeL.cons (Le.refl _) LeL.nil)) ht rfl ?_
  have hfin : decide ((bb.length : Int) = 0) = decide (bb = []) := by cases bb <;> simp; omega
  by_cases he : ee = 0
  · subst he
    refine Ops.god tab_ok follows_ok Try.func60 60 ?_; simp only [Try.results60, putBack, pp, hfin, hlen, htk, bytesA, decide_true, ↓alts_t, ↓gdone_tt, gslot, drun, adops, adone, places, mayNeed, freeOk, rdOf, AV.id, wrOf, aops, afin, ares, aresL, ares1, aresOk, aresOk1, aop, needs, aev, aconst, aput, aupd, aload, astore, afieldAddr, acmp, ashift, abin, alen, tab_3, tab_34, tab_83, tab_85, tab_145, ok1, lay, cellsAs, TI.agg, AV.cells, AV.whole, Y4, Yb, Yc, Y6, Y7, Ya, Y9, Y1, Y2, Yw, Yi, Yh, Yg, Yj, Yk, Yl, Yo, Y5, Y3, Yd, Yt, Yu, Ys, Yr, Nat.reduceAdd, Nat.reduceLeDiff, Yp, Yq, Bool.true_and, Yv, Y0, Y8]
    ((repeat' apply And.intro) <;> try first | rfl | omega | (unfold I64; omega))
    all_goals (first | exact Le1L.nil | exact LeR.tup (LeL.cons (Le.agg hle) (LeL.cons (Le.refl _) LeL.nil)))
  · refine Ops.god tab_ok follows_ok Try.func60 60 ?_; simp only [Try.results60, putBack, pp, he, hlen, htk, bytesA, decide_false, ↓alts_f, ↓gdone_tf, gslot, drun, adops, adone, places, mayNeed, freeOk, rdOf, AV.id, wrOf, aops, afin, ares, aresL, ares1, aresOk, aresOk1, aop, needs, aev, aconst, aput, aupd, aload, astore, afieldAddr, acmp, ashift, abin, tab_34, tab_83, tab_145, ok1, lay, cellsAs, TI.agg, AV.cells, AV.whole, Y4, Yb, Yc, Y6, Y7, Ya, Y9, Y1, Y2, Yw, Yi, Yh, Yg, Yj, Yk, Yl, Y5, Y3, Yd, Yt, Yu, Ys, Yr, Nat.reduceAdd, Yp, Bool.false_and, Yv, Y0, Y8]
    ((repeat' apply And.intro) <;> try first | rfl | omega | (unfold I64; omega))
    all_goals (first | exact Le1L.nil | exact LeR.tup (LeL.cons (Le.agg hle) (LeL.cons (Le.refl _) LeL.nil)))
theorem taken_3 (b b' : Bytes) (hb : b.length ≤ 1000000) (hb' : b'.length ≤ 1000000) (hk : rdN b 0 0 = (b', 0, 3)) : ASpec Try.prog 60 [bytesA b] (.tup [.agg (letC (l3 b')), .bool (decide ((q3_3 b').2.1 = 0) && decide ((q3_3 b').1 = []))]) := by
  have hn := number_c b 0 0 (fun x => x :: zT) 0 (.of [] zT (fun _ => rfl) rfl rfl rfl) hb
  rw [hk] at hn
  simp only at hn
  have ht := told_3 b' hb'
  have zT_bel2 : belL 0 (.int .i64 3 :: zT) = true := rfl
  obtain ⟨cs, hcs⟩ : ∃ cs : List AV, .int .i64 3 :: .int .i64 (q3_1 b').2.2 :: .int .i64 (q3_2 b').2.2 :: .int .i64 0 :: .str [] :: .nils :: (accC zA ++ (votesA (q3_3 b').2.2 :: (rpZ ++ (sumC zM ++ (ordC zO ++ rplC zX))))) = cs := ⟨_, rfl⟩
  have hY : LentB (.box cs) := .box_ _ (by rw [← hcs]; first | rfl | exact belL_app (xs := [.int .i64 7, .int .i64 (q7_1 b').2.2, .int .i64 (q7_2 b').2.2, .int .i64 0, .str [], .nils, .int .i64 0, .int .i64 0, .str [], .nils, .int .i64 0, .int .i64 0, .bool false, .int .i64 0, .str [], .nils]) rfl (belL_app (sumC_bel _) rfl))
  have hlen : cs.length = 62 := by rw [← hcs]; first | rfl | (simp [accC, rpZ, ordC, rplC, sumC_len, q7_3, rdM_32 _ _ zM rfl])
  have hle : Le1L cs (letC (l3 b')) := by
    rw [← hcs]
    (repeat' (first | exact Le1L.nil | exact Le1.refl _ | exact Le1.nil _ | apply Le1L.cons | exact le1l_refl _))
  rw [hcs] at ht
  have htk : cs.take 62 = cs := List.take_of_length_le (by omega)
  clear hcs
  generalize letC (l3 b') = lc at *
  generalize q3_3 b' = t at *
  obtain ⟨bb, ee, xx⟩ := t
  simp only at ht ⊢
  refine ⟨⟨_, Try.func60, by kernel_rfl, rfl⟩, ACall.of Try.func60 rfl fun c0 hc0 => ?_⟩; simp only [Try.ntmps60, Ya, Y9, Nat.reduceAdd, Nat.reduceSub, Ym, Yn, Y5, Y3]; refine Run.god tab_ok follows_ok Try.func60 4 ?_; simp only [bytesA, drun, aops, aone, aop, needs, ext, aev, aconst, aput, aupd, astore, abuild, tab_4, tab_83, tab_85, tab_145, ok1, lay, AV.cells, AV.whole, Y4, Yb, Yc, Y6, Y7, Ya, Y9, Y1, Y2, Yi, Yh, Yg, Yj, Yl, Yf, Ye, Y5, Y3, Yd, Yt, Yu, Ys, Yr, Nat.reduceAdd, Nat.reduceLeDiff, Yp, Yv, Y0, Y8]
  refine Run.weak (Weak.nilC 2 61 1 _ rfl rfl) ?_
  simp only [Y7, Y6]
  refine Run.weak (Weak.junk [7, 8, 9, 10]) ?_
  simp only [junkAt, Y6, Y7]
  refine Run.god tab_ok follows_ok Try.func60 60 ?_; simp only [drun, aops, aone, aop, needs, ext, aev, aconst, aput, aupd, afieldAddr, abuild, tab_83, tab_146, tab_148, ok1, lay, AV.cells, AV.whole, Y4, Yb, Yc, Y6, Y7, Ya, Y9, Y1, Y2, Yh, Yj, Yl, Yf, Ye, Y5, Y3, Yd, Yt, Yu, Yr, Nat.reduceAdd, Yp, Yq, Yv, Y0, Y8]
  refine Ops.callB .free rfl rfl (js := [1, 2]) (by decide) (LentAll.cons rfl (pp_lent b true 0) (LentAll.cons rfl (LentB.box_ (.int .i64 0 :: zT) rfl) LentAll.nil)) (lent2 (pp_lent _ _ _) (LentB.box_ _ rfl)) rfl rfl (by simp only [cond_true, cond_false, renL, AV.ren, List.idxOf, List.findIdx, List.findIdx.go, aev, Y4, Y1, Y2, Yf, Ye, Y3, Yd, Nat.reduceAdd, Nat.reduceBEq, Yp, beq_self_eq_true, Y0]; (repeat' first | exact .refl _ | apply LeR.tup | apply Le.agg | constructor)) (hn) rfl ?_
  refine Ops.god tab_ok follows_ok Try.func60 60 ?_; simp only [putBack, drun, aops, aone, aop, aput, Y6, Y7]
  refine Ops.callP .free rfl rfl (js := [2]) (by decide) (LentAll.cons rfl (LentB.box_ _ zT_bel2) LentAll.nil) (lent1 (LentB.box_ _ zT_bel2)) rfl rfl (by simp only [cond_true, renL, AV.ren, List.idxOf, List.findIdx, List.findIdx.go, aev, Y4, Y1, Y2, Yf, Ye, Y3, Yd, Yp, beq_self_eq_true, Y0]; (repeat' first | exact .refl _ | apply LeR.tup | apply Le.agg | constructor)) (letplaces_3 zT zT_bel) rfl ?_
  refine Ops.god tab_ok follows_ok Try.func60 60 ?_; simp only [pp, AV.unr, unrL, unrLL, decide_true, ↓alt_f, ↓alts_f, ↓gone_ff, gslot, drun, aops, aone, aop, needs, ext, aev, aconst, aput, aupd, aload, afieldAddr, acmp, ashift, abin, tab_34, tab_145, tab_151, ok1, cellsAs, TI.agg, Y4, Yb, Yc, Y6, Y7, Ya, Y9, Y1, Y2, Yw, Yi, Yh, Yg, Yk, Y5, Y3, Yt, Ys, Yr, Nat.reduceAdd, Yp, Bool.not_true, Yv, Y0, Y8]
  refine Ops.invokeB .free rfl rfl meth_parts (js := [1, 2]) (by decide) (LentAll.cons rfl (pp_lent b' true 0) (LentAll.cons rfl (LentB.box_ _ zT_bel2) LentAll.nil)) (lent2 (pp_lent _ _ _) hY) rfl (by simp only [Yf, Ye, aev, Y4, Y1, Y2, Y0]; rfl) (by simp only [Yf, Ye, aev, Y4, Y1, Y2, Nat.reduceAdd, Nat.reduceBEq, Yp, beq_self_eq_true, Y0, cond_true, cond_false, renL, renLL, AV.ren, List.idxOf, List.findIdx, List.findIdx.go]; exact LeL.cons (Le.refl _) (LeL.cons (Le.refl _) LeL.nil)) ht rfl ?_
  have hfin : decide ((bb.length : Int) = 0) = decide (bb = []) := by cases bb <;> simp; omega
  by_cases he : ee = 0
  · subst he
    refine Ops.god tab_ok follows_ok Try.func60 60 ?_; simp only [Try.results60, putBack, pp, hfin, hlen, htk, bytesA, decide_true, ↓alts_t, ↓gdone_tt, gslot, drun, adops, adone, places, mayNeed, freeOk, rdOf, AV.id, wrOf, aops, afin, ares, aresL, ares1, aresOk, aresOk1, aop, needs, aev, aconst, aput, aupd, aload, astore, afieldAddr, acmp, ashift, abin, alen, tab_3, tab_34, tab_83, tab_85, tab_145, ok1, lay, cellsAs, TI.agg, AV.cells, AV.whole, Y4, Yb, Yc, Y6, Y7, Ya, Y9, Y1, Y2, Yw, Yi, Yh, Yg, Yj, Yk, Yl, Yo, Y5, Y3, Yd, Yt, Yu, Ys, Yr, Nat.reduceAdd, Nat.reduceLeDiff, Yp, Yq, Bool.true_and, Yv, Y0, Y8]
    ((repeat' apply And.intro) <;> try first | rfl | omega | (unfold I64; omega))
    all_goals (first | exact Le1L.nil | exact LeR.tup (LeL.cons (Le.agg hle) (LeL.cons (Le.refl _) LeL.nil)))
  · refine Ops.god tab_ok follows_ok Try.func60 60 ?_; simp only [Try.results60, putBack, pp, he, hlen, htk, bytesA, decide_false, ↓alts_f, ↓gdone_tf, gslot, drun, adops, adone, places, mayNeed, freeOk, rdOf, AV.id, wrOf, aops, afin, ares, aresL, ares1, aresOk, aresOk1, aop, needs, aev, aconst, aput, aupd, aload, astore, afieldAddr, acmp, ashift, abin, tab_34, tab_83, tab_145, ok1, lay, cellsAs, TI.agg, AV.cells, AV.whole, Y4, Yb, Yc, Y6, Y7, Ya, Y9, Y1, Y2, Yw, Yi, Yh, Yg, Yj, Yk, Yl, Y5, Y3, Yd, Yt, Yu, Ys, Yr, Nat.reduceAdd, Yp, Bool.false_and, Yv, Y0, Y8]
    ((repeat' apply And.intro) <;> try first | rfl | omega | (unfold I64; omega))
    all_goals (first | exact Le1L.nil | exact LeR.tup (LeL.cons (Le.agg hle) (LeL.cons (Le.refl _) LeL.nil)))
theorem taken_4 (b b' : Bytes) (hb : b.length ≤ 1000000) (hb' : b'.length ≤ 1000000) (hk : rdN b 0 0 = (b', 0, 4)) : ASpec Try.prog 60 [bytesA b] (.tup [.agg (letC (l4 b')), .bool (decide ((q4_2 b').2.1 = 0) && decide ((q4_2 b').1 = []))]) := by
  have hn := number_c b 0 0 (fun x => x :: zT) 0 (.of [] zT (fun _ => rfl) rfl rfl rfl) hb
  rw [hk] at hn
  simp only at hn
  have ht := told_4 b' hb'
  have zT_bel2 : belL 0 (.int .i64 4 :: zT) = true := rfl
  obtain ⟨cs, hcs⟩ : ∃ cs : List AV, .int .i64 4 :: .int .i64 0 :: .int .i64 (q4_1 b').2.2 :: .int .i64 0 :: .str [] :: .nils :: (accC zA ++ (.nils :: (rpC (q4_2 b').2.2 ++ (sumC zM ++ (ordC zO ++ rplC zX))))) = cs := ⟨_, rfl⟩
  have hY : LentB (.box cs) := .box_ _ (by rw [← hcs]; first | rfl | exact belL_app (xs := [.int .i64 7, .int .i64 (q7_1 b').2.2, .int .i64 (q7_2 b').2.2, .int .i64 0, .str [], .nils, .int .i64 0, .int .i64 0, .str [], .nils, .int .i64 0, .int .i64 0, .bool false, .int .i64 0, .str [], .nils]) rfl (belL_app (sumC_bel _) rfl))
  have hlen : cs.length = 62 := by rw [← hcs]; first | rfl | (simp [accC, rpZ, ordC, rplC, sumC_len, q7_3, rdM_32 _ _ zM rfl])
  have hle : Le1L cs (letC (l4 b')) := by
    rw [← hcs]
    (repeat' (first | exact Le1L.nil | exact Le1.refl _ | exact Le1.nil _ | apply Le1L.cons | exact le1l_refl _))
  rw [hcs] at ht
  have htk : cs.take 62 = cs := List.take_of_length_le (by omega)
  clear hcs
  generalize letC (l4 b') = lc at *
  generalize q4_2 b' = t at *
  obtain ⟨bb, ee, xx⟩ := t
  simp only at ht ⊢
  refine ⟨⟨_, Try.func60, by kernel_rfl, rfl⟩, ACall.of Try.func60 rfl fun c0 hc0 => ?_⟩; simp only [Try.ntmps60, Ya, Y9, Nat.reduceAdd, Nat.reduceSub, Ym, Yn, Y5, Y3]; refine Run.god tab_ok follows_ok Try.func60 4 ?_; simp only [bytesA, drun, aops, aone, aop, needs, ext, aev, aconst, aput, aupd, astore, abuild, tab_4, tab_83, tab_85, tab_145, ok1, lay, AV.cells, AV.whole, Y4, Yb, Yc, Y6, Y7, Ya, Y9, Y1, Y2, Yi, Yh, Yg, Yj, Yl, Yf, Ye, Y5, Y3, Yd, Yt, Yu, Ys, Yr, Nat.reduceAdd, Nat.reduceLeDiff, Yp, Yv, Y0, Y8]
  refine Run.weak (Weak.nilC 2 61 1 _ rfl rfl) ?_
  simp only [Y7, Y6]
  refine Run.weak (Weak.junk [7, 8, 9, 10]) ?_
  simp only [junkAt, Y6, Y7]
  refine Run.god tab_ok follows_ok Try.func60 60 ?_; simp only [drun, aops, aone, aop, needs, ext, aev, aconst, aput, aupd, afieldAddr, abuild, tab_83, tab_146, tab_148, ok1, lay, AV.cells, AV.whole, Y4, Yb, Yc, Y6, Y7, Ya, Y9, Y1, Y2, Yh, Yj, Yl, Yf, Ye, Y5, Y3, Yd, Yt, Yu, Yr, Nat.reduceAdd, Yp, Yq, Yv, Y0, Y8]
  refine Ops.callB .free rfl rfl (js := [1, 2]) (by decide) (LentAll.cons rfl (pp_lent b true 0) (LentAll.cons rfl (LentB.box_ (.int .i64 0 :: zT) rfl) LentAll.nil)) (lent2 (pp_lent _ _ _) (LentB.box_ _ rfl)) rfl rfl (by simp only [cond_true, cond_false, renL, AV.ren, List.idxOf, List.findIdx, List.findIdx.go, aev, Y4, Y1, Y2, Yf, Ye, Y3, Yd, Nat.reduceAdd, Nat.reduceBEq, Yp, beq_self_eq_true, Y0]; (repeat' first | exact .refl _ | apply LeR.tup | apply Le.agg | constructor)) (hn) rfl ?_
  refine Ops.god tab_ok follows_ok Try.func60 60 ?_; simp only [putBack, drun, aops, aone, aop, aput, Y6, Y7]
  refine Ops.callP .free rfl rfl (js := [2]) (by decide) (LentAll.cons rfl (LentB.box_ _ zT_bel2) LentAll.nil) (lent1 (LentB.box_ _ zT_bel2)) rfl rfl (by simp only [cond_true, renL, AV.ren, List.idxOf, List.findIdx, List.findIdx.go, aev, Y4, Y1, Y2, Yf, Ye, Y3, Yd, Yp, beq_self_eq_true, Y0]; (repeat' first | exact .refl _ | apply LeR.tup | apply Le.agg | constructor)) (letplaces_4 zT zT_bel) rfl ?_
  refine Ops.god tab_ok follows_ok Try.func60 60 ?_; simp only [pp, partC, reportB_, AV.unr, unrL, unrLL, decide_true, ↓alt_f, ↓alts_f, ↓gone_ff, gslot, drun, aops, aone, aop, needs, ext, aev, aconst, aput, aupd, aload, afieldAddr, acmp, ashift, abin, tab_34, tab_145, tab_151, ok1, cellsAs, TI.agg, Y4, Yb, Yc, Y6, Y7, Ya, Y9, Y1, Y2, Yw, Yi, Yh, Yg, Yk, Yf, Ye, Y5, Y3, Yt, Ys, Yr, Nat.reduceAdd, Yp, Bool.not_true, Yv, Y0, Y8]
  refine Ops.invokeB .free rfl rfl meth_parts (js := [1, 2]) (by decide) (LentAll.cons rfl (pp_lent b' true 0) (LentAll.cons rfl (LentB.box_ _ zT_bel2) LentAll.nil)) (lent2 (pp_lent _ _ _) hY) rfl (by simp only [Yf, Ye, aev, Y4, Y1, Y2, Y0]; rfl) (by simp only [Yf, Ye, partC, reportB_, aev, Y4, Y1, Y2, Nat.reduceAdd, Nat.reduceBEq, Yp, beq_self_eq_true, Y0, cond_true, cond_false, renL, renLL, AV.ren, List.idxOf, List.findIdx, List.findIdx.go]; exact LeL.cons (Le.refl _) (LeL.cons (Le.refl _) LeL.nil)) ht rfl ?_
  have hfin : decide ((bb.length : Int) = 0) = decide (bb = []) := by cases bb <;> simp; omega
  by_cases he : ee = 0
  · subst he
    refine Ops.god tab_ok follows_ok Try.func60 60 ?_; simp only [Try.results60, putBack, pp, hfin, hlen, htk, bytesA, decide_true, ↓alts_t, ↓gdone_tt, gslot, drun, adops, adone, places, mayNeed, freeOk, rdOf, AV.id, wrOf, aops, afin, ares, aresL, ares1, aresOk, aresOk1, aop, needs, aev, aconst, aput, aupd, aload, astore, afieldAddr, acmp, ashift, abin, alen, tab_3, tab_34, tab_83, tab_85, tab_145, ok1, lay, cellsAs, TI.agg, AV.cells, AV.whole, Y4, Yb, Yc, Y6, Y7, Ya, Y9, Y1, Y2, Yw, Yi, Yh, Yg, Yj, Yk, Yl, Yo, Y5, Y3, Yd, Yt, Yu, Ys, Yr, Nat.reduceAdd, Nat.reduceLeDiff, Yp, Yq, Bool.true_and, Yv, Y0, Y8]
    ((repeat' apply And.intro) <;> try first | rfl | omega | (unfold I64; omega))
    all_goals (first | exact Le1L.nil | exact LeR.tup (LeL.cons (Le.agg hle) (LeL.cons (Le.refl _) LeL.nil)))
  · refine Ops.god tab_ok follows_ok Try.func60 60 ?_; simp only [Try.results60, putBack, pp, he, hlen, htk, bytesA, decide_false, ↓alts_f, ↓gdone_tf, gslot, drun, adops, adone, places, mayNeed, freeOk, rdOf, AV.id, wrOf, aops, afin, ares, aresL, ares1, aresOk, aresOk1, aop, needs, aev, aconst, aput, aupd, aload, astore, afieldAddr, acmp, ashift, abin, tab_34, tab_83, tab_145, ok1, lay, cellsAs, TI.agg, AV.cells, AV.whole, Y4, Yb, Yc, Y6, Y7, Ya, Y9, Y1, Y2, Yw, Yi, Yh, Yg, Yj, Yk, Yl, Y5, Y3, Yd, Yt, Yu, Ys, Yr, Nat.reduceAdd, Yp, Bool.false_and, Yv, Y0, Y8]
    ((repeat' apply And.intro) <;> try first | rfl | omega | (unfold I64; omega))
    all_goals (first | exact Le1L.nil | exact LeR.tup (LeL.cons (Le.agg hle) (LeL.cons (Le.refl _) LeL.nil)))
theorem taken_5 (b b' : Bytes) (hb : b.length ≤ 1000000) (hb' : b'.length ≤ 1000000) (hk : rdN b 0 0 = (b', 0, 5)) : ASpec Try.prog 60 [bytesA b] (.tup [.agg (letC (l5 b')), .bool (decide ((q5_3 b').2.1 = 0) && decide ((q5_3 b').1 = []))]) := by
  have hn := number_c b 0 0 (fun x => x :: zT) 0 (.of [] zT (fun _ => rfl) rfl rfl rfl) hb
  rw [hk] at hn
  simp only at hn
  have ht := told_5 b' hb'
  have zT_bel2 : belL 0 (.int .i64 5 :: zT) = true := rfl
  obtain ⟨cs, hcs⟩ : ∃ cs : List AV, .int .i64 5 :: .int .i64 (q5_1 b').2.2 :: .int .i64 (q5_2 b').2.2 :: .int .i64 0 :: .str (q5_3 b').2.2 :: .nils :: (accC zA ++ (.nils :: (rpZ ++ (sumC zM ++ (ordC zO ++ rplC zX))))) = cs := ⟨_, rfl⟩
  have hY : LentB (.box cs) := .box_ _ (by rw [← hcs]; first | rfl | exact belL_app (xs := [.int .i64 7, .int .i64 (q7_1 b').2.2, .int .i64 (q7_2 b').2.2, .int .i64 0, .str [], .nils, .int .i64 0, .int .i64 0, .str [], .nils, .int .i64 0, .int .i64 0, .bool false, .int .i64 0, .str [], .nils]) rfl (belL_app (sumC_bel _) rfl))
  have hlen : cs.length = 62 := by rw [← hcs]; first | rfl | (simp [accC, rpZ, ordC, rplC, sumC_len, q7_3, rdM_32 _ _ zM rfl])
  have hle : Le1L cs (letC (l5 b')) := by
    rw [← hcs]
    (repeat' (first | exact Le1L.nil | exact Le1.refl _ | exact Le1.nil _ | apply Le1L.cons | exact le1l_refl _))
  rw [hcs] at ht
  have htk : cs.take 62 = cs := List.take_of_length_le (by omega)
  clear hcs
  generalize letC (l5 b') = lc at *
  generalize q5_3 b' = t at *
  obtain ⟨bb, ee, xx⟩ := t
  simp only at ht ⊢
  refine ⟨⟨_, Try.func60, by kernel_rfl, rfl⟩, ACall.of Try.func60 rfl fun c0 hc0 => ?_⟩; simp only [Try.ntmps60, Ya, Y9, Nat.reduceAdd, Nat.reduceSub, Ym, Yn, Y5, Y3]; refine Run.god tab_ok follows_ok Try.func60 4 ?_; simp only [bytesA, drun, aops, aone, aop, needs, ext, aev, aconst, aput, aupd, astore, abuild, tab_4, tab_83, tab_85, tab_145, ok1, lay, AV.cells, AV.whole, Y4, Yb, Yc, Y6, Y7, Ya, Y9, Y1, Y2, Yi, Yh, Yg, Yj, Yl, Yf, Ye, Y5, Y3, Yd, Yt, Yu, Ys, Yr, Nat.reduceAdd, Nat.reduceLeDiff, Yp, Yv, Y0, Y8]
  refine Run.weak (Weak.nilC 2 61 1 _ rfl rfl) ?_
  simp only [Y7, Y6]
  refine Run.weak (Weak.junk [7, 8, 9, 10]) ?_
  simp only [junkAt, Y6, Y7]
  refine Run.god tab_ok follows_ok Try.func60 60 ?_; simp only [drun, aops, aone, aop, needs, ext, aev, aconst, aput, aupd, afieldAddr, abuild, tab_83, tab_146, tab_148, ok1, lay, AV.cells, AV.whole, Y4, Yb, Yc, Y6, Y7, Ya, Y9, Y1, Y2, Yh, Yj, Yl, Yf, Ye, Y5, Y3, Yd, Yt, Yu, Yr, Nat.reduceAdd, Yp, Yq, Yv, Y0, Y8]
  refine Ops.callB .free rfl rfl (js := [1, 2]) (by decide) (LentAll.cons rfl (pp_lent b true 0) (LentAll.cons rfl (LentB.box_ (.int .i64 0 :: zT) rfl) LentAll.nil)) (lent2 (pp_lent _ _ _) (LentB.box_ _ rfl)) rfl rfl (by simp only [cond_true, cond_false, renL, AV.ren, List.idxOf, List.findIdx, List.findIdx.go, aev, Y4, Y1, Y2, Yf, Ye, Y3, Yd, Nat.reduceAdd, Nat.reduceBEq, Yp, beq_self_eq_true, Y0]; (repeat' first | exact .refl _ | apply LeR.tup | apply Le.agg | constructor)) (hn) rfl ?_
  refine Ops.god tab_ok follows_ok Try.func60 60 ?_; simp only [putBack, drun, aops, aone, aop, aput, Y6, Y7]
  refine Ops.callP .free rfl rfl (js := [2]) (by decide) (LentAll.cons rfl (LentB.box_ _ zT_bel2) LentAll.nil) (lent1 (LentB.box_ _ zT_bel2)) rfl rfl (by simp only [cond_true, renL, AV.ren, List.idxOf, List.findIdx, List.findIdx.go, aev, Y4, Y1, Y2, Yf, Ye, Y3, Yd, Yp, beq_self_eq_true, Y0]; (repeat' first | exact .refl _ | apply LeR.tup | apply Le.agg | constructor)) (letplaces_5 zT zT_bel) rfl ?_
  refine Ops.god tab_ok follows_ok Try.func60 60 ?_; simp only [pp, AV.unr, unrL, unrLL, decide_true, ↓alt_f, ↓alts_f, ↓gone_ff, gslot, drun, aops, aone, aop, needs, ext, aev, aconst, aput, aupd, aload, afieldAddr, acmp, ashift, abin, tab_34, tab_145, tab_151, ok1, cellsAs, TI.agg, Y4, Yb, Yc, Y6, Y7, Ya, Y9, Y1, Y2, Yw, Yi, Yh, Yg, Yk, Y5, Y3, Yt, Ys, Yr, Nat.reduceAdd, Yp, Bool.not_true, Yv, Y0, Y8]
  refine Ops.invokeB .free rfl rfl meth_parts (js := [1, 2]) (by decide) (LentAll.cons rfl (pp_lent b' true 0) (LentAll.cons rfl (LentB.box_ _ zT_bel2) LentAll.nil)) (lent2 (pp_lent _ _ _) hY) rfl (by simp only [Yf, Ye, aev, Y4, Y1, Y2, Y0]; rfl) (by simp only [Yf, Ye, aev, Y4, Y1, Y2, Nat.reduceAdd, Nat.reduceBEq, Yp, beq_self_eq_true, Y0, cond_true, cond_false, renL, renLL, AV.ren, List.idxOf, List.findIdx, List.findIdx.go]; exact LeL.cons (Le.refl _) (LeL.cons (Le.refl _) LeL.nil)) ht rfl ?_
  have hfin : decide ((bb.length : Int) = 0) = decide (bb = []) := by cases bb <;> simp; omega
  by_cases he : ee = 0
  · subst he
    refine Ops.god tab_ok follows_ok Try.func60 60 ?_; simp only [Try.results60, putBack, pp, hfin, hlen, htk, bytesA, decide_true, ↓alts_t, ↓gdone_tt, gslot, drun, adops, adone, places, mayNeed, freeOk, rdOf, AV.id, wrOf, aops, afin, ares, aresL, ares1, aresOk, aresOk1, aop, needs, aev, aconst, aput, aupd, aload, astore, afieldAddr, acmp, ashift, abin, alen, tab_3, tab_34, tab_83, tab_85, tab_145, ok1, lay, cellsAs, TI.agg, AV.cells, AV.whole, Y4, Yb, Yc, Y6, Y7, Ya, Y9, Y1, Y2, Yw, Yi, Yh, Yg, Yj, Yk, Yl, Yo, Y5, Y3, Yd, Yt, Yu, Ys, Yr, Nat.reduceAdd, Nat.reduceLeDiff, Yp, Yq, Bool.true_and, Yv, Y0, Y8]
    ((repeat' apply And.intro) <;> try first | rfl | omega | (unfold I64; omega))
    all_goals (first | exact Le1L.nil | exact LeR.tup (LeL.cons (Le.agg hle) (LeL.cons (Le.refl _) LeL.nil)))
  · refine Ops.god tab_ok follows_ok Try.func60 60 ?_; simp only [Try.results60, putBack, pp, he, hlen, htk, bytesA, decide_false, ↓alts_f, ↓gdone_tf, gslot, drun, adops, adone, places, mayNeed, freeOk, rdOf, AV.id, wrOf, aops, afin, ares, aresL, ares1, aresOk, aresOk1, aop, needs, aev, aconst, aput, aupd, aload, astore, afieldAddr, acmp, ashift, abin, tab_34, tab_83, tab_145, ok1, lay, cellsAs, TI.agg, AV.cells, AV.whole, Y4, Yb, Yc, Y6, Y7, Ya, Y9, Y1, Y2, Yw, Yi, Yh, Yg, Yj, Yk, Yl, Y5, Y3, Yd, Yt, Yu, Ys, Yr, Nat.reduceAdd, Yp, Bool.false_and, Yv, Y0, Y8]
    ((repeat' apply And.intro) <;> try first | rfl | omega | (unfold I64; omega))
    all_goals (first | exact Le1L.nil | exact LeR.tup (LeL.cons (Le.agg hle) (LeL.cons (Le.refl _) LeL.nil)))
theorem taken_6 (b b' : Bytes) (hb : b.length ≤ 1000000) (hb' : b'.length ≤ 1000000) (hk : rdN b 0 0 = (b', 0, 6)) : ASpec Try.prog 60 [bytesA b] (.tup [.agg (letC (l6 b')), .bool (decide ((q6_2 b').2.1 = 0) && decide ((q6_2 b').1 = []))]) := by
  have hn := number_c b 0 0 (fun x => x :: zT) 0 (.of [] zT (fun _ => rfl) rfl rfl rfl) hb
  rw [hk] at hn
  simp only at hn
  have ht := told_6 b' hb'
  have zT_bel2 : belL 0 (.int .i64 6 :: zT) = true := rfl
  obtain ⟨cs, hcs⟩ : ∃ cs : List AV, .int .i64 6 :: .int .i64 (q6_1 b').2.2 :: .int .i64 0 :: .int .i64 (q6_2 b').2.2 :: .str [] :: .nils :: (accC zA ++ (.nils :: (rpZ ++ (sumC zM ++ (ordC zO ++ rplC zX))))) = cs := ⟨_, rfl⟩
  have hY : LentB (.box cs) := .box_ _ (by rw [← hcs]; first | rfl | exact belL_app (xs := [.int .i64 7, .int .i64 (q7_1 b').2.2, .int .i64 (q7_2 b').2.2, .int .i64 0, .str [], .nils, .int .i64 0, .int .i64 0, .str [], .nils, .int .i64 0, .int .i64 0, .bool false, .int .i64 0, .str [], .nils]) rfl (belL_app (sumC_bel _) rfl))
  have hlen : cs.length = 62 := by rw [← hcs]; first | rfl | (simp [accC, rpZ, ordC, rplC, sumC_len, q7_3, rdM_32 _ _ zM rfl])
  have hle : Le1L cs (letC (l6 b')) := by
    rw [← hcs]
    (repeat' (first | exact Le1L.nil | exact Le1.refl _ | exact Le1.nil _ | apply Le1L.cons | exact le1l_refl _))
  rw [hcs] at ht
  have htk : cs.take 62 = cs := List.take_of_length_le (by omega)
  clear hcs
  generalize letC (l6 b') = lc at *
  generalize q6_2 b' = t at *
  obtain ⟨bb, ee, xx⟩ := t
  simp only at ht ⊢
  refine ⟨⟨_, Try.func60, by kernel_rfl, rfl⟩, ACall.of Try.func60 rfl fun c0 hc0 => ?_⟩; simp only [Try.ntmps60, Ya, Y9, Nat.reduceAdd, Nat.reduceSub, Ym, Yn, Y5, Y3]; refine Run.god tab_ok follows_ok Try.func60 4 ?_; simp only [bytesA, drun, aops, aone, aop, needs, ext, aev, aconst, aput, aupd, astore, abuild, tab_4, tab_83, tab_85, tab_145, ok1, lay, AV.cells, AV.whole, Y4, Yb, Yc, Y6, Y7, Ya, Y9, Y1, Y2, Yi, Yh, Yg, Yj, Yl, Yf, Ye, Y5, Y3, Yd, Yt, Yu, Ys, Yr, Nat.reduceAdd, Nat.reduceLeDiff, Yp, Yv, Y0, Y8]
  refine Run.weak (Weak.nilC 2 61 1 _ rfl rfl) ?_
  simp only [Y7, Y6]
  refine Run.weak (Weak.junk [7, 8, 9, 10]) ?_
  simp only [junkAt, Y6, Y7]
  refine Run.god tab_ok follows_ok Try.func60 60 ?_; simp only [drun, aops, aone, aop, needs, ext, aev, aconst, aput, aupd, afieldAddr, abuild, tab_83, tab_146, tab_148, ok1, lay, AV.cells, AV.whole, Y4, Yb, Yc, Y6, Y7, Ya, Y9, Y1, Y2, Yh, Yj, Yl, Yf, Ye, Y5, Y3, Yd, Yt, Yu, Yr, Nat.reduceAdd, Yp, Yq, Yv, Y0, Y8]
  refine Ops.callB .free rfl rfl (js := [1, 2]) (by decide) (LentAll.cons rfl (pp_lent b true 0) (LentAll.cons rfl (LentB.box_ (.int .i64 0 :: zT) rfl) LentAll.nil)) (lent2 (pp_lent _ _ _) (LentB.box_ _ rfl)) rfl rfl (by simp only [cond_true, cond_false, renL, AV.ren, List.idxOf, List.findIdx, List.findIdx.go, aev, Y4, Y1, Y2, Yf, Ye, Y3, Yd, Nat.reduceAdd, Nat.reduceBEq, Yp, beq_self_eq_true, Y0]; (repeat' first | exact .refl _ | apply LeR.tup | apply Le.agg | constructor)) (hn) rfl ?_
  refine Ops.god tab_ok follows_ok Try.func60 60 ?_; simp only [putBack, drun, aops, aone, aop, aput, Y6, Y7]
  refine Ops.callP .free rfl rfl (js := [2]) (by decide) (LentAll.cons rfl (LentB.box_ _ zT_bel2) LentAll.nil) (lent1 (LentB.box_ _ zT_bel2)) rfl rfl (by simp only [cond_true, renL, AV.ren, List.idxOf, List.findIdx, List.findIdx.go, aev, Y4, Y1, Y2, Yf, Ye, Y3, Yd, Yp, beq_self_eq_true, Y0]; (repeat' first | exact .refl _ | apply LeR.tup | apply Le.agg | constructor)) (letplaces_6 zT zT_bel) rfl ?_
  refine Ops.god tab_ok follows_ok Try.func60 60 ?_; simp only [pp, AV.unr, unrL, unrLL, decide_true, ↓alt_f, ↓alts_f, ↓gone_ff, gslot, drun, aops, aone, aop, needs, ext, aev, aconst, aput, aupd, aload, afieldAddr, acmp, ashift, abin, tab_34, tab_145, tab_151, ok1, cellsAs, TI.agg, Y4, Yb, Yc, Y6, Y7, Ya, Y9, Y1, Y2, Yw, Yi, Yh, Yg, Yk, Y5, Y3, Yt, Ys, Yr, Nat.reduceAdd, Yp, Bool.not_true, Yv, Y0, Y8]
  refine Ops.invokeB .free rfl rfl meth_parts (js := [1, 2]) (by decide) (LentAll.cons rfl (pp_lent b' true 0) (LentAll.cons rfl (LentB.box_ _ zT_bel2) LentAll.nil)) (lent2 (pp_lent _ _ _) hY) rfl (by simp only [Yf, Ye, aev, Y4, Y1, Y2, Y0]; rfl) (by simp only [Yf, Ye, aev, Y4, Y1, Y2, Nat.reduceAdd, Nat.reduceBEq, Yp, beq_self_eq_true, Y0, cond_true, cond_false, renL, renLL, AV.ren, List.idxOf, List.findIdx, List.findIdx.go]; exact LeL.cons (Le.refl _) (LeL.cons (Le.refl _) LeL.nil)) ht rfl ?_
  have hfin : decide ((bb.length : Int) = 0) = decide (bb = []) := by cases bb <;> simp; omega
  by_cases he : ee = 0
  · subst he
    refine Ops.god tab_ok follows_ok Try.func60 60 ?_; simp only [Try.results60, putBack, pp, hfin, hlen, htk, bytesA, decide_true, ↓alts_t, ↓gdone_tt, gslot, drun, adops, adone, places, mayNeed, freeOk, rdOf, AV.id, wrOf, aops, afin, ares, aresL, ares1, aresOk, aresOk1, aop, needs, aev, aconst, aput, aupd, aload, astore, afieldAddr, acmp, ashift, abin, alen, tab_3, tab_34, tab_83, tab_85, tab_145, ok1, lay, cellsAs, TI.agg, AV.cells, AV.whole, Y4, Yb, Yc, Y6, Y7, Ya, Y9, Y1, Y2, Yw, Yi, Yh, Yg, Yj, Yk, Yl, Yo, Y5, Y3, Yd, Yt, Yu, Ys, Yr, Nat.reduceAdd, Nat.reduceLeDiff, Yp, Yq, Bool.true_and, Yv, Y0, Y8]
    ((repeat' apply And.intro) <;> try first | rfl | omega | (unfold I64; omega))
    all_goals (first | exact Le1L.nil | exact LeR.tup (LeL.cons (Le.agg hle) (LeL.cons (Le.refl _) LeL.nil)))
  · refine Ops.god tab_ok follows_ok Try.func60 60 ?_; simp only [Try.results60, putBack, pp, he, hlen, htk, bytesA, decide_false, ↓alts_f, ↓gdone_tf, gslot, drun, adops, adone, places, mayNeed, freeOk, rdOf, AV.id, wrOf, aops, afin, ares, aresL, ares1, aresOk, aresOk1, aop, needs, aev, aconst, aput, aupd, aload, astore, afieldAddr, acmp, ashift, abin, tab_34, tab_83, tab_145, ok1, lay, cellsAs, TI.agg, AV.cells, AV.whole, Y4, Yb, Yc, Y6, Y7, Ya, Y9, Y1, Y2, Yw, Yi, Yh, Yg, Yj, Yk, Yl, Y5, Y3, Yd, Yt, Yu, Ys, Yr, Nat.reduceAdd, Yp, Bool.false_and, Yv, Y0, Y8]
    ((repeat' apply And.intro) <;> try first | rfl | omega | (unfold I64; omega))
    all_goals (first | exact Le1L.nil | exact LeR.tup (LeL.cons (Le.agg hle) (LeL.cons (Le.refl _) LeL.nil)))
theorem taken_7 (b b' : Bytes) (hb : b.length ≤ 1000000) (hb' : b'.length ≤ 1000000) (hk : rdN b 0 0 = (b', 0, 7)) : ASpec Try.prog 60 [bytesA b] (.tup [.agg (letC (l7 b')), .bool (decide ((q7_3 b').2.1 = 0) && decide ((q7_3 b').1 = []))]) := by
  have hn := number_c b 0 0 (fun x => x :: zT) 0 (.of [] zT (fun _ => rfl) rfl rfl rfl) hb
  rw [hk] at hn
  simp only at hn
  have ht := told_7 b' hb'
  have zT_bel2 : belL 0 (.int .i64 7 :: zT) = true := rfl
  obtain ⟨cs, hcs⟩ : ∃ cs : List AV, .int .i64 7 :: .int .i64 (q7_1 b').2.2 :: .int .i64 (q7_2 b').2.2 :: .int .i64 0 :: .str [] :: .nils :: (accC zA ++ (.nils :: (rpZ ++ (sumC (q7_3 b').2.2 ++ (ordC zO ++ rplC zX))))) = cs := ⟨_, rfl⟩
  have hY : LentB (.box cs) := .box_ _ (by rw [← hcs]; first | rfl | exact belL_app (xs := [.int .i64 7, .int .i64 (q7_1 b').2.2, .int .i64 (q7_2 b').2.2, .int .i64 0, .str [], .nils, .int .i64 0, .int .i64 0, .str [], .nils, .int .i64 0, .int .i64 0, .bool false, .int .i64 0, .str [], .nils]) rfl (belL_app (sumC_bel _) rfl))
  have hlen : cs.length = 62 := by rw [← hcs]; first | rfl | (simp [accC, rpZ, ordC, rplC, sumC_len, q7_3, rdM_32 _ _ zM rfl])
  have hle : Le1L cs (letC (l7 b')) := by
    rw [← hcs]
    (repeat' (first | exact Le1L.nil | exact Le1.refl _ | exact Le1.nil _ | apply Le1L.cons | exact le1l_refl _))
  rw [hcs] at ht
  have htk : cs.take 62 = cs := List.take_of_length_le (by omega)
  clear hcs
  generalize letC (l7 b') = lc at *
  generalize q7_3 b' = t at *
  obtain ⟨bb, ee, xx⟩ := t
  simp only at ht ⊢
  refine ⟨⟨_, Try.func60, by kernel_rfl, rfl⟩, ACall.of Try.func60 rfl fun c0 hc0 => ?_⟩; simp only [Try.ntmps60, Ya, Y9, Nat.reduceAdd, Nat.reduceSub, Ym, Yn, Y5, Y3]; refine Run.god tab_ok follows_ok Try.func60 4 ?_; simp only [bytesA, drun, aops, aone, aop, needs, ext, aev, aconst, aput, aupd, astore, abuild, tab_4, tab_83, tab_85, tab_145, ok1, lay, AV.cells, AV.whole, Y4, Yb, Yc, Y6, Y7, Ya, Y9, Y1, Y2, Yi, Yh, Yg, Yj, Yl, Yf, Ye, Y5, Y3, Yd, Yt, Yu, Ys, Yr, Nat.reduceAdd, Nat.reduceLeDiff, Yp, Yv, Y0, Y8]
  refine Run.weak (Weak.nilC 2 61 1 _ rfl rfl) ?_
  simp only [Y7, Y6]
  refine Run.weak (Weak.junk [7, 8, 9, 10]) ?_
  simp only [junkAt, Y6, Y7]
  refine Run.god tab_ok follows_ok Try.func60 60 ?_; simp only [drun, aops, aone, aop, needs, ext, aev, aconst, aput, aupd, afieldAddr, abuild, tab_83, tab_146, tab_148, ok1, lay, AV.cells, AV.whole, Y4, Yb, Yc, Y6, Y7, Ya, Y9, Y1, Y2, Yh, Yj, Yl, Yf, Ye, Y5, Y3, Yd, Yt, Yu, Yr, Nat.reduceAdd, Yp, Yq, Yv, Y0, Y8]
  refine Ops.callB .free rfl rfl (js := [1, 2]) (by decide) (LentAll.cons rfl (pp_lent b true 0) (LentAll.cons rfl (LentB.box_ (.int .i64 0 :: zT) rfl) LentAll.nil)) (lent2 (pp_lent _ _ _) (LentB.box_ _ rfl)) rfl rfl (by simp only [cond_true, cond_false, renL, AV.ren, List.idxOf, List.findIdx, List.findIdx.go, aev, Y4, Y1, Y2, Yf, Ye, Y3, Yd, Nat.reduceAdd, Nat.reduceBEq, Yp, beq_self_eq_true, Y0]; (repeat' first | exact .refl _ | apply LeR.tup | apply Le.agg | constructor)) (hn) rfl ?_
  refine Ops.god tab_ok follows_ok Try.func60 60 ?_; simp only [putBack, drun, aops, aone, aop, aput, Y6, Y7]
  refine Ops.callP .free rfl rfl (js := [2]) (by decide) (LentAll.cons rfl (LentB.box_ _ zT_bel2) LentAll.nil) (lent1 (LentB.box_ _ zT_bel2)) rfl rfl (by simp only [cond_true, renL, AV.ren, List.idxOf, List.findIdx, List.findIdx.go, aev, Y4, Y1, Y2, Yf, Ye, Y3, Yd, Yp, beq_self_eq_true, Y0]; (repeat' first | exact .refl _ | apply LeR.tup | apply Le.agg | constructor)) (letplaces_7 zT zT_bel) rfl ?_
  refine Ops.god tab_ok follows_ok Try.func60 60 ?_; simp only [pp, AV.unr, unrL, unrLL, decide_true, ↓alt_f, ↓alts_f, ↓gone_ff, gslot, drun, aops, aone, aop, needs, ext, aev, aconst, aput, aupd, aload, afieldAddr, acmp, ashift, abin, tab_34, tab_145, tab_151, ok1, cellsAs, TI.agg, Y4, Yb, Yc, Y6, Y7, Ya, Y9, Y1, Y2, Yw, Yi, Yh, Yg, Yk, Y5, Y3, Yt, Ys, Yr, Nat.reduceAdd, Yp, Bool.not_true, Yv, Y0, Y8]
  refine Ops.invokeB .free rfl rfl meth_parts (js := [1, 2]) (by decide) (LentAll.cons rfl (pp_lent b' true 0) (LentAll.cons rfl (LentB.box_ _ zT_bel2) LentAll.nil)) (lent2 (pp_lent _ _ _) hY) rfl (by simp only [Yf, Ye, aev, Y4, Y1, Y2, Y0]; rfl) (by simp only [Yf, Ye, aev, Y4, Y1, Y2, Nat.reduceAdd, Nat.reduceBEq, Yp, beq_self_eq_true, Y0, cond_true, cond_false, renL, renLL, AV.ren, List.idxOf, List.findIdx, List.findIdx.go]; exact LeL.cons (Le.refl _) (LeL.cons (Le.refl _) LeL.nil)) ht rfl ?_
  have hfin : decide ((bb.length : Int) = 0) = decide (bb = []) := by cases bb <;> simp; omega
  by_cases he : ee = 0
  · subst he
    refine Ops.god tab_ok follows_ok Try.func60 60 ?_; simp only [Try.results60, putBack, pp, hfin, hlen, htk, bytesA, decide_true, ↓alts_t, ↓gdone_tt, gslot, drun, adops, adone, places, mayNeed, freeOk, rdOf, AV.id, wrOf, aops, afin, ares, aresL, ares1, aresOk, aresOk1, aop, needs, aev, aconst, aput, aupd, aload, astore, afieldAddr, acmp, ashift, abin, alen, tab_3, tab_34, tab_83, tab_85, tab_145, ok1, lay, cellsAs, TI.agg, AV.cells, AV.whole, Y4, Yb, Yc, Y6, Y7, Ya, Y9, Y1, Y2, Yw, Yi, Yh, Yg, Yj, Yk, Yl, Yo, Y5, Y3, Yd, Yt, Yu, Ys, Yr, Nat.reduceAdd, Nat.reduceLeDiff, Yp, Yq, Bool.true_and, Yv, Y0, Y8]
    ((repeat' apply And.intro) <;> try first | rfl | omega | (unfold I64; omega))
    all_goals (first | exact Le1L.nil | exact LeR.tup (LeL.cons (Le.agg hle) (LeL.cons (Le.refl _) LeL.nil)))
  · refine Ops.god tab_ok follows_ok Try.func60 60 ?_; simp only [Try.results60, putBack, pp, he, hlen, htk, bytesA, decide_false, ↓alts_f, ↓gdone_tf, gslot, drun, adops, adone, places, mayNeed, freeOk, rdOf, AV.id, wrOf, aops, afin, ares, aresL, ares1, aresOk, aresOk1, aop, needs, aev, aconst, aput, aupd, aload, astore, afieldAddr, acmp, ashift, abin, tab_34, tab_83, tab_145, ok1, lay, cellsAs, TI.agg, AV.cells, AV.whole, Y4, Yb, Yc, Y6, Y7, Ya, Y9, Y1, Y2, Yw, Yi, Yh, Yg, Yj, Yk, Yl, Y5, Y3, Yd, Yt, Yu, Ys, Yr, Nat.reduceAdd, Yp, Bool.false_and, Yv, Y0, Y8]
    ((repeat' apply And.intro) <;> try first | rfl | omega | (unfold I64; omega))
    all_goals (first | exact Le1L.nil | exact LeR.tup (LeL.cons (Le.agg hle) (LeL.cons (Le.refl _) LeL.nil)))
theorem taken_8 (b b' : Bytes) (hb : b.length ≤ 1000000) (hb' : b'.length ≤ 1000000) (hk : rdN b 0 0 = (b', 0, 8)) : ASpec Try.prog 60 [bytesA b] (.tup [.agg (letC (l8 b')), .bool (decide ((q8_1 b').2.1 = 0) && decide ((q8_1 b').1 = []))]) := by
  have hn := number_c b 0 0 (fun x => x :: zT) 0 (.of [] zT (fun _ => rfl) rfl rfl rfl) hb
  rw [hk] at hn
  simp only at hn
  have ht := told_8 b' hb'
  have zT_bel2 : belL 0 (.int .i64 8 :: zT) = true := rfl
  obtain ⟨cs, hcs⟩ : ∃ cs : List AV, .int .i64 8 :: .int .i64 0 :: .int .i64 0 :: .int .i64 0 :: .str [] :: .nils :: (accC zA ++ (.nils :: (rpZ ++ (sumC zM ++ (ordC (q8_1 b').2.2 ++ rplC zX))))) = cs := ⟨_, rfl⟩
  have hY : LentB (.box cs) := .box_ _ (by rw [← hcs]; first | rfl | exact belL_app (xs := [.int .i64 7, .int .i64 (q7_1 b').2.2, .int .i64 (q7_2 b').2.2, .int .i64 0, .str [], .nils, .int .i64 0, .int .i64 0, .str [], .nils, .int .i64 0, .int .i64 0, .bool false, .int .i64 0, .str [], .nils]) rfl (belL_app (sumC_bel _) rfl))
  have hlen : cs.length = 62 := by rw [← hcs]; first | rfl | (simp [accC, rpZ, ordC, rplC, sumC_len, q7_3, rdM_32 _ _ zM rfl])
  have hle : Le1L cs (letC (l8 b')) := by
    rw [← hcs]
    (repeat' (first | exact Le1L.nil | exact Le1.refl _ | exact Le1.nil _ | apply Le1L.cons | exact le1l_refl _))
  rw [hcs] at ht
  have htk : cs.take 62 = cs := List.take_of_length_le (by omega)
  clear hcs
  generalize letC (l8 b') = lc at *
  generalize q8_1 b' = t at *
  obtain ⟨bb, ee, xx⟩ := t
  simp only at ht ⊢
  refine ⟨⟨_, Try.func60, by kernel_rfl, rfl⟩, ACall.of Try.func60 rfl fun c0 hc0 => ?_⟩; simp only [Try.ntmps60, Ya, Y9, Nat.reduceAdd, Nat.reduceSub, Ym, Yn, Y5, Y3]; refine Run.god tab_ok follows_ok Try.func60 4 ?_; simp only [bytesA, drun, aops, aone, aop, needs, ext, aev, aconst, aput, aupd, astore, abuild, tab_4, tab_83, tab_85, tab_145, ok1, lay, AV.cells, AV.whole, Y4, Yb, Yc, Y6, Y7, Ya, Y9, Y1, Y2, Yi, Yh, Yg, Yj, Yl, Yf, Ye, Y5, Y3, Yd, Yt, Yu, Ys, Yr, Nat.reduceAdd, Nat.reduceLeDiff, Yp, Yv, Y0, Y8]
  refine Run.weak (Weak.nilC 2 61 1 _ rfl rfl) ?_
  simp only [Y7, Y6]
  refine Run.weak (Weak.junk [7, 8, 9, 10]) ?_
  simp only [junkAt, Y6, Y7]
  refine Run.god tab_ok follows_ok Try.func60 60 ?_; simp only [drun, aops, aone, aop, needs, ext, aev, aconst, aput, aupd, afieldAddr, abuild, tab_83, tab_146, tab_148, ok1, lay, AV.cells, AV.whole, Y4, Yb, Yc, Y6, Y7, Ya, Y9, Y1, Y2, Yh, Yj, Yl, Yf, Ye, Y5, Y3, Yd, Yt, Yu, Yr, Nat.reduceAdd, Yp, Yq, Yv, Y0, Y8]
  refine Ops.callB .free rfl rfl (js := [1, 2]) (by decide) (LentAll.cons rfl (pp_lent b true 0) (LentAll.cons rfl (LentB.box_ (.int .i64 0 :: zT) rfl) LentAll.nil)) (lent2 (pp_lent _ _ _) (LentB.box_ _ rfl)) rfl rfl (by simp only [cond_true, cond_false, renL, AV.ren, List.idxOf, List.findIdx, List.findIdx.go, aev, Y4, Y1, Y2, Yf, Ye, Y3, Yd, Nat.reduceAdd, Nat.reduceBEq, Yp, beq_self_eq_true, Y0]; (repeat' first | exact .refl _ | apply LeR.tup | apply Le.agg | constructor)) (hn) rfl ?_
  refine Ops.god tab_ok follows_ok Try.func60 60 ?_; simp only [putBack, drun, aops, aone, aop, aput, Y6, Y7]
  refine Ops.callP .free rfl rfl (js := [2]) (by decide) (LentAll.cons rfl (LentB.box_ _ zT_bel2) LentAll.nil) (lent1 (LentB.box_ _ zT_bel2)) rfl rfl (by simp only [cond_true, renL, AV.ren, List.idxOf, List.findIdx, List.findIdx.go, aev, Y4, Y1, Y2, Yf, Ye, Y3, Yd, Yp, beq_self_eq_true, Y0]; (repeat' first | exact .refl _ | apply LeR.tup | apply Le.agg | constructor)) (letplaces_8 zT zT_bel) rfl ?_
  refine Ops.god tab_ok follows_ok Try.func60 60 ?_; simp only [pp, AV.unr, unrL, decide_true, ↓alt_f, ↓alts_f, ↓gone_ff, gslot, drun, aops, aone, aop, needs, ext, aev, aconst, aput, aupd, aload, afieldAddr, acmp, ashift, abin, tab_34, tab_145, tab_151, ok1, cellsAs, TI.agg, Y4, Yb, Yc, Y6, Y7, Ya, Y9, Y1, Y2, Yw, Yi, Yh, Yg, Yk, Y5, Y3, Yt, Ys, Yr, Nat.reduceAdd, Yp, Bool.not_true, Yv, Y0, Y8]
  refine Ops.invokeB .free rfl rfl meth_asks (js := [1, 2]) (by decide) (LentAll.cons rfl (pp_lent b' true 0) (LentAll.cons rfl (LentB.box_ _ zT_bel2) LentAll.nil)) (lent2 (pp_lent _ _ _) hY) rfl (by simp only [Yf, Ye, aev, Y4, Y1, Y2, Y0]; rfl) (by simp only [Yf, Ye, aev, Y4, Y1, Y2, Nat.reduceAdd, Nat.reduceBEq, Yp, beq_self_eq_true, Y0, cond_true, cond_false, renL, AV.ren, List.idxOf, List.findIdx, List.findIdx.go]; exact LeL.cons (Le.refl _) (LeL.cons (Le.refl _) LeL.nil)) ht rfl ?_
  have hfin : decide ((bb.length : Int) = 0) = decide (bb = []) := by cases bb <;> simp; omega
  by_cases he : ee = 0
  · subst he
    refine Ops.god tab_ok follows_ok Try.func60 60 ?_; simp only [Try.results60, putBack, pp, hfin, hlen, htk, bytesA, decide_true, ↓alts_t, ↓gdone_tt, gslot, drun, adops, adone, places, mayNeed, freeOk, rdOf, AV.id, wrOf, aops, afin, ares, aresL, ares1, aresOk, aresOk1, aop, needs, aev, aconst, aput, aupd, aload, astore, afieldAddr, acmp, ashift, abin, alen, tab_3, tab_34, tab_83, tab_85, tab_145, ok1, lay, cellsAs, TI.agg, AV.cells, AV.whole, Y4, Yb, Yc, Y6, Y7, Ya, Y9, Y1, Y2, Yw, Yi, Yh, Yg, Yj, Yk, Yl, Yo, Y5, Y3, Yd, Yt, Yu, Ys, Yr, Nat.reduceAdd, Nat.reduceLeDiff, Yp, Yq, Bool.true_and, Yv, Y0, Y8]
    ((repeat' apply And.intro) <;> try first | rfl | omega | (unfold I64; omega))
    all_goals (first | exact Le1L.nil | exact LeR.tup (LeL.cons (Le.agg hle) (LeL.cons (Le.refl _) LeL.nil)))
  · refine Ops.god tab_ok follows_ok Try.func60 60 ?_; simp only [Try.results60, putBack, pp, he, hlen, htk, bytesA, decide_false, ↓alts_f, ↓gdone_tf, gslot, drun, adops, adone, places, mayNeed, freeOk, rdOf, AV.id, wrOf, aops, afin, ares, aresL, ares1, aresOk, aresOk1, aop, needs, aev, aconst, aput, aupd, aload, astore, afieldAddr, acmp, ashift, abin, tab_34, tab_83, tab_145, ok1, lay, cellsAs, TI.agg, AV.cells, AV.whole, Y4, Yb, Yc, Y6, Y7, Ya, Y9, Y1, Y2, Yw, Yi, Yh, Yg, Yj, Yk, Yl, Y5, Y3, Yd, Yt, Yu, Ys, Yr, Nat.reduceAdd, Yp, Bool.false_and, Yv, Y0, Y8]
    ((repeat' apply And.intro) <;> try first | rfl | omega | (unfold I64; omega))
    all_goals (first | exact Le1L.nil | exact LeR.tup (LeL.cons (Le.agg hle) (LeL.cons (Le.refl _) LeL.nil)))
theorem taken_9 (b b' : Bytes) (hb : b.length ≤ 1000000) (hb' : b'.length ≤ 1000000) (hk : rdN b 0 0 = (b', 0, 9)) : ASpec Try.prog 60 [bytesA b] (.tup [.agg (letC (l9 b')), .bool (decide ((q9_2 b').2.1 = 0) && decide ((q9_2 b').1 = []))]) := by
  have hn := number_c b 0 0 (fun x => x :: zT) 0 (.of [] zT (fun _ => rfl) rfl rfl rfl) hb
  rw [hk] at hn
  simp only at hn
  have ht := told_9 b' hb'
  have zT_bel2 : belL 0 (.int .i64 9 :: zT) = true := rfl
  obtain ⟨cs, hcs⟩ : ∃ cs : List AV, .int .i64 9 :: .int .i64 (q9_1 b').2.2 :: .int .i64 0 :: .int .i64 0 :: .str [] :: .nils :: (accC zA ++ (.nils :: (rpZ ++ (sumC zM ++ (ordC zO ++ rplC (q9_2 b').2.2))))) = cs := ⟨_, rfl⟩
  have hY : LentB (.box cs) := .box_ _ (by rw [← hcs]; first | rfl | exact belL_app (xs := [.int .i64 7, .int .i64 (q7_1 b').2.2, .int .i64 (q7_2 b').2.2, .int .i64 0, .str [], .nils, .int .i64 0, .int .i64 0, .str [], .nils, .int .i64 0, .int .i64 0, .bool false, .int .i64 0, .str [], .nils]) rfl (belL_app (sumC_bel _) rfl))
  have hlen : cs.length = 62 := by rw [← hcs]; first | rfl | (simp [accC, rpZ, ordC, rplC, sumC_len, q7_3, rdM_32 _ _ zM rfl])
  have hle : Le1L cs (letC (l9 b')) := by
    rw [← hcs]
    (repeat' (first | exact Le1L.nil | exact Le1.refl _ | exact Le1.nil _ | apply Le1L.cons | exact le1l_refl _))
  rw [hcs] at ht
  have htk : cs.take 62 = cs := List.take_of_length_le (by omega)
  clear hcs
  generalize letC (l9 b') = lc at *
  generalize q9_2 b' = t at *
  obtain ⟨bb, ee, xx⟩ := t
  simp only at ht ⊢
  refine ⟨⟨_, Try.func60, by kernel_rfl, rfl⟩, ACall.of Try.func60 rfl fun c0 hc0 => ?_⟩; simp only [Try.ntmps60, Ya, Y9, Nat.reduceAdd, Nat.reduceSub, Ym, Yn, Y5, Y3]; refine Run.god tab_ok follows_ok Try.func60 4 ?_; simp only [bytesA, drun, aops, aone, aop, needs, ext, aev, aconst, aput, aupd, astore, abuild, tab_4, tab_83, tab_85, tab_145, ok1, lay, AV.cells, AV.whole, Y4, Yb, Yc, Y6, Y7, Ya, Y9, Y1, Y2, Yi, Yh, Yg, Yj, Yl, Yf, Ye, Y5, Y3, Yd, Yt, Yu, Ys, Yr, Nat.reduceAdd, Nat.reduceLeDiff, Yp, Yv, Y0, Y8]
  refine Run.weak (Weak.nilC 2 61 1 _ rfl rfl) ?_
  simp only [Y7, Y6]
  refine Run.weak (Weak.junk [7, 8, 9, 10]) ?_
  simp only [junkAt, Y6, Y7]
  refine Run.god tab_ok follows_ok Try.func60 60 ?_; simp only [drun, aops, aone, aop, needs, ext, aev, aconst, aput, aupd, afieldAddr, abuild, tab_83, tab_146, tab_148, ok1, lay, AV.cells, AV.whole, Y4, Yb, Yc, Y6, Y7, Ya, Y9, Y1, Y2, Yh, Yj, Yl, Yf, Ye, Y5, Y3, Yd, Yt, Yu, Yr, Nat.reduceAdd, Yp, Yq, Yv, Y0, Y8]
  refine Ops.callB .free rfl rfl (js := [1, 2]) (by decide) (LentAll.cons rfl (pp_lent b true 0) (LentAll.cons rfl (LentB.box_ (.int .i64 0 :: zT) rfl) LentAll.nil)) (lent2 (pp_lent _ _ _) (LentB.box_ _ rfl)) rfl rfl (by simp only [cond_true, cond_false, renL, AV.ren, List.idxOf, List.findIdx, List.findIdx.go, aev, Y4, Y1, Y2, Yf, Ye, Y3, Yd, Nat.reduceAdd, Nat.reduceBEq, Yp, beq_self_eq_true, Y0]; (repeat' first | exact .refl _ | apply LeR.tup | apply Le.agg | constructor)) (hn) rfl ?_
  refine Ops.god tab_ok follows_ok Try.func60 60 ?_; simp only [putBack, drun, aops, aone, aop, aput, Y6, Y7]
  refine Ops.callP .free rfl rfl (js := [2]) (by decide) (LentAll.cons rfl (LentB.box_ _ zT_bel2) LentAll.nil) (lent1 (LentB.box_ _ zT_bel2)) rfl rfl (by simp only [cond_true, renL, AV.ren, List.idxOf, List.findIdx, List.findIdx.go, aev, Y4, Y1, Y2, Yf, Ye, Y3, Yd, Yp, beq_self_eq_true, Y0]; (repeat' first | exact .refl _ | apply LeR.tup | apply Le.agg | constructor)) (letplaces_9 zT zT_bel) rfl ?_
  refine Ops.god tab_ok follows_ok Try.func60 60 ?_; simp only [pp, AV.unr, unrL, unrLL, decide_true, ↓alt_f, ↓alts_f, ↓gone_ff, gslot, drun, aops, aone, aop, needs, ext, aev, aconst, aput, aupd, aload, afieldAddr, acmp, ashift, abin, tab_34, tab_145, tab_151, ok1, cellsAs, TI.agg, Y4, Yb, Yc, Y6, Y7, Ya, Y9, Y1, Y2, Yw, Yi, Yh, Yg, Yk, Y5, Y3, Yt, Ys, Yr, Nat.reduceAdd, Yp, Bool.not_true, Yv, Y0, Y8]
  refine Ops.invokeB .free rfl rfl meth_parts (js := [1, 2]) (by decide) (LentAll.cons rfl (pp_lent b' true 0) (LentAll.cons rfl (LentB.box_ _ zT_bel2) LentAll.nil)) (lent2 (pp_lent _ _ _) hY) rfl (by simp only [Yf, Ye, aev, Y4, Y1, Y2, Y0]; rfl) (by simp only [Yf, Ye, aev, Y4, Y1, Y2, Nat.reduceAdd, Nat.reduceBEq, Yp, beq_self_eq_true, Y0, cond_true, cond_false, renL, renLL, AV.ren, List.idxOf, List.findIdx, List.findIdx.go]; exact LeL.cons (Le.refl _) (LeL.cons (Le.refl _) LeL.nil)) ht rfl ?_
  have hfin : decide ((bb.length : Int) = 0) = decide (bb = []) := by cases bb <;> simp; omega
  by_cases he : ee = 0
  · subst he
    refine Ops.god tab_ok follows_ok Try.func60 60 ?_; simp only [Try.results60, putBack, pp, hfin, hlen, htk, bytesA, decide_true, ↓alts_t, ↓gdone_tt, gslot, drun, adops, adone, places, mayNeed, freeOk, rdOf, AV.id, wrOf, aops, afin, ares, aresL, ares1, aresOk, aresOk1, aop, needs, aev, aconst, aput, aupd, aload, astore, afieldAddr, acmp, ashift, abin, alen, tab_3, tab_34, tab_83, tab_85, tab_145, ok1, lay, cellsAs, TI.agg, AV.cells, AV.whole, Y4, Yb, Yc, Y6, Y7, Ya, Y9, Y1, Y2, Yw, Yi, Yh, Yg, Yj, Yk, Yl, Yo, Y5, Y3, Yd, Yt, Yu, Ys, Yr, Nat.reduceAdd, Nat.reduceLeDiff, Yp, Yq, Bool.true_and, Yv, Y0, Y8]
    ((repeat' apply And.intro) <;> try first | rfl | omega | (unfold I64; omega))
    all_goals (first | exact Le1L.nil | exact LeR.tup (LeL.cons (Le.agg hle) (LeL.cons (Le.refl _) LeL.nil)))
  · refine Ops.god tab_ok follows_ok Try.func60 60 ?_; simp only [Try.results60, putBack, pp, he, hlen, htk, bytesA, decide_false, ↓alts_f, ↓gdone_tf, gslot, drun, adops, adone, places, mayNeed, freeOk, rdOf, AV.id, wrOf, aops, afin, ares, aresL, ares1, aresOk, aresOk1, aop, needs, aev, aconst, aput, aupd, aload, astore, afieldAddr, acmp, ashift, abin, tab_34, tab_83, tab_145, ok1, lay, cellsAs, TI.agg, AV.cells, AV.whole, Y4, Yb, Yc, Y6, Y7, Ya, Y9, Y1, Y2, Yw, Yi, Yh, Yg, Yj, Yk, Yl, Y5, Y3, Yd, Yt, Yu, Ys, Yr, Nat.reduceAdd, Yp, Bool.false_and, Yv, Y0, Y8]
    ((repeat' apply And.intro) <;> try first | rfl | omega | (unfold I64; omega))
    all_goals (first | exact Le1L.nil | exact LeR.tup (LeL.cons (Le.agg hle) (LeL.cons (Le.refl _) LeL.nil)))
theorem taken_10 (b b' : Bytes) (hb : b.length ≤ 1000000) (hb' : b'.length ≤ 1000000) (hk : rdN b 0 0 = (b', 0, 10)) : ASpec Try.prog 60 [bytesA b] (.tup [.agg (letC (l10 b')), .bool (decide ((q10_2 b').2.1 = 0) && decide ((q10_2 b').1 = []))]) := by
  have hn := number_c b 0 0 (fun x => x :: zT) 0 (.of [] zT (fun _ => rfl) rfl rfl rfl) hb
  rw [hk] at hn
  simp only at hn
  have ht := told_10 b' hb'
  have zT_bel2 : belL 0 (.int .i64 10 :: zT) = true := rfl
  obtain ⟨cs, hcs⟩ : ∃ cs : List AV, .int .i64 10 :: .int .i64 (q10_1 b').2.2 :: .int .i64 (q10_2 b').2.2 :: .int .i64 0 :: .str [] :: .nils :: (accC zA ++ (.nils :: (rpZ ++ (sumC zM ++ (ordC zO ++ rplC zX))))) = cs := ⟨_, rfl⟩
  have hY : LentB (.box cs) := .box_ _ (by rw [← hcs]; first | rfl | exact belL_app (xs := [.int .i64 7, .int .i64 (q7_1 b').2.2, .int .i64 (q7_2 b').2.2, .int .i64 0, .str [], .nils, .int .i64 0, .int .i64 0, .str [], .nils, .int .i64 0, .int .i64 0, .bool false, .int .i64 0, .str [], .nils]) rfl (belL_app (sumC_bel _) rfl))
  have hlen : cs.length = 62 := by rw [← hcs]; first | rfl | (simp [accC, rpZ, ordC, rplC, sumC_len, q7_3, rdM_32 _ _ zM rfl])
  have hle : Le1L cs (letC (l10 b')) := by
    rw [← hcs]
    (repeat' (first | exact Le1L.nil | exact Le1.refl _ | exact Le1.nil _ | apply Le1L.cons | exact le1l_refl _))
  rw [hcs] at ht
  have htk : cs.take 62 = cs := List.take_of_length_le (by omega)
  clear hcs
  generalize letC (l10 b') = lc at *
  generalize q10_2 b' = t at *
  obtain ⟨bb, ee, xx⟩ := t
  simp only at ht ⊢
  refine ⟨⟨_, Try.func60, by kernel_rfl, rfl⟩, ACall.of Try.func60 rfl fun c0 hc0 => ?_⟩; simp only [Try.ntmps60, Ya, Y9, Nat.reduceAdd, Nat.reduceSub, Ym, Yn, Y5, Y3]; refine Run.god tab_ok follows_ok Try.func60 4 ?_; simp only [bytesA, drun, aops, aone, aop, needs, ext, aev, aconst, aput, aupd, astore, abuild, tab_4, tab_83, tab_85, tab_145, ok1, lay, AV.cells, AV.whole, Y4, Yb, Yc, Y6, Y7, Ya, Y9, Y1, Y2, Yi, Yh, Yg, Yj, Yl, Yf, Ye, Y5, Y3, Yd, Yt, Yu, Ys, Yr, Nat.reduceAdd, Nat.reduceLeDiff, Yp, Yv, Y0, Y8]
  refine Run.weak (Weak.nilC 2 61 1 _ rfl rfl) ?_
  simp only [Y7, Y6]
  refine Run.weak (Weak.junk [7, 8, 9, 10]) ?_
  simp only [junkAt, Y6, Y7]
  refine Run.god tab_ok follows_ok Try.func60 60 ?_; simp only [drun, aops, aone, aop, needs, ext, aev, aconst, aput, aupd, afieldAddr, abuild, tab_83, tab_146, tab_148, ok1, lay, AV.cells, AV.whole, Y4, Yb, Yc, Y6, Y7, Ya, Y9, Y1, Y2, Yh, Yj, Yl, Yf, Ye, Y5, Y3, Yd, Yt, Yu, Yr, Nat.reduceAdd, Yp, Yq, Yv, Y0, Y8]
  refine Ops.callB .free rfl rfl (js := [1, 2]) (by decide) (LentAll.cons rfl (pp_lent b true 0) (LentAll.cons rfl (LentB.box_ (.int .i64 0 :: zT) rfl) LentAll.nil)) (lent2 (pp_lent _ _ _) (LentB.box_ _ rfl)) rfl rfl (by simp only [cond_true, cond_false, renL, AV.ren, List.idxOf, List.findIdx, List.findIdx.go, aev, Y4, Y1, Y2, Yf, Ye, Y3, Yd, Nat.reduceAdd, Nat.reduceBEq, Yp, beq_self_eq_true, Y0]; (repeat' first | exact .refl _ | apply LeR.tup | apply Le.agg | constructor)) (hn) rfl ?_
  refine Ops.god tab_ok follows_ok Try.func60 60 ?_; simp only [putBack, drun, aops, aone, aop, aput, Y6, Y7]
  refine Ops.callP .free rfl rfl (js := [2]) (by decide) (LentAll.cons rfl (LentB.box_ _ zT_bel2) LentAll.nil) (lent1 (LentB.box_ _ zT_bel2)) rfl rfl (by simp only [cond_true, renL, AV.ren, List.idxOf, List.findIdx, List.findIdx.go, aev, Y4, Y1, Y2, Yf, Ye, Y3, Yd, Yp, beq_self_eq_true, Y0]; (repeat' first | exact .refl _ | apply LeR.tup | apply Le.agg | constructor)) (letplaces_10 zT zT_bel) rfl ?_
  refine Ops.god tab_ok follows_ok Try.func60 60 ?_; simp only [pp, AV.unr, unrL, unrLL, decide_true, ↓alt_f, ↓alts_f, ↓gone_ff, gslot, drun, aops, aone, aop, needs, ext, aev, aconst, aput, aupd, aload, afieldAddr, acmp, ashift, abin, tab_34, tab_145, tab_151, ok1, cellsAs, TI.agg, Y4, Yb, Yc, Y6, Y7, Ya, Y9, Y1, Y2, Yw, Yi, Yh, Yg, Yk, Y5, Y3, Yt, Ys, Yr, Nat.reduceAdd, Yp, Bool.not_true, Yv, Y0, Y8]
  refine Ops.invokeB .free rfl rfl meth_parts (js := [1, 2]) (by decide) (LentAll.cons rfl (pp_lent b' true 0) (LentAll.cons rfl (LentB.box_ _ zT_bel2) LentAll.nil)) (lent2 (pp_lent _ _ _) hY) rfl (by simp only [Yf, Ye, aev, Y4, Y1, Y2, Y0]; rfl) (by simp only [Yf, Ye, aev, Y4, Y1, Y2, Nat.reduceAdd, Nat.reduceBEq, Yp, beq_self_eq_true, Y0, cond_true, cond_false, renL, renLL, AV.ren, List.idxOf, List.findIdx, List.findIdx.go]; exact LeL.cons (Le.refl _) (LeL.cons (Le.refl _) LeL.nil)) ht rfl ?_
  have hfin : decide ((bb.length : Int) = 0) = decide (bb = []) := by cases bb <;> simp; omega
  by_cases he : ee = 0
  · subst he
    refine Ops.god tab_ok follows_ok Try.func60 60 ?_; simp only [Try.results60, putBack, pp, hfin, hlen, htk, bytesA, decide_true, ↓alts_t, ↓gdone_tt, gslot, drun, adops, adone, places, mayNeed, freeOk, rdOf, AV.id, wrOf, aops, afin, ares, aresL, ares1, aresOk, aresOk1, aop, needs, aev, aconst, aput, aupd, aload, astore, afieldAddr, acmp, ashift, abin, alen, tab_3, tab_34, tab_83, tab_85, tab_145, ok1, lay, cellsAs, TI.agg, AV.cells, AV.whole, Y4, Yb, Yc, Y6, Y7, Ya, Y9, Y1, Y2, Yw, Yi, Yh, Yg, Yj, Yk, Yl, Yo, Y5, Y3, Yd, Yt, Yu, Ys, Yr, Nat.reduceAdd, Nat.reduceLeDiff, Yp, Yq, Bool.true_and, Yv, Y0, Y8]
    ((repeat' apply And.intro) <;> try first | rfl | omega | (unfold I64; omega))
    all_goals (first | exact Le1L.nil | exact LeR.tup (LeL.cons (Le.agg hle) (LeL.cons (Le.refl _) LeL.nil)))
  · refine Ops.god tab_ok follows_ok Try.func60 60 ?_; simp only [Try.results60, putBack, pp, he, hlen, htk, bytesA, decide_false, ↓alts_f, ↓gdone_tf, gslot, drun, adops, adone, places, mayNeed, freeOk, rdOf, AV.id, wrOf, aops, afin, ares, aresL, ares1, aresOk, aresOk1, aop, needs, aev, aconst, aput, aupd, aload, astore, afieldAddr, acmp, ashift, abin, tab_34, tab_83, tab_145, ok1, lay, cellsAs, TI.agg, AV.cells, AV.whole, Y4, Yb, Yc, Y6, Y7, Ya, Y9, Y1, Y2, Yw, Yi, Yh, Yg, Yj, Yk, Yl, Y5, Y3, Yd, Yt, Yu, Ys, Yr, Nat.reduceAdd, Yp, Bool.false_and, Yv, Y0, Y8]
    ((repeat' apply And.intro) <;> try first | rfl | omega | (unfold I64; omega))
    all_goals (first | exact Le1L.nil | exact LeR.tup (LeL.cons (Le.agg hle) (LeL.cons (Le.refl _) LeL.nil)))
theorem zL_le : Le1L ([.int .i64 0, .int .i64 0, .int .i64 0, .int .i64 0, .str [], .nils] ++ (accC zA ++ (.nils :: (rpZ ++ (sumC zM ++ (ordC zO ++ [.int .i64 0, .int .i64 0, .int .i64 0, .str [], .int .i64 0, .nils])))))) (letC zL) := by
  (repeat' (first | exact Le1L.nil | exact Le1.refl _ | exact Le1.nil _ | apply Le1L.cons | exact le1l_refl _))
/-- No number, or no kind. -/
theorem taken_no (b b' : Bytes) (e n : Int) (hb : b.length ≤ 1000000) (hk : rdN b 0 0 = (b', e, n)) (hen : ¬ e = 0 ∧ n = 0 ∨ e = 0 ∧ (n < 1 ∨ 10 < n)) : ASpec Try.prog 60 [bytesA b] (.tup [.agg (letC zL), .bool false]) := by
  have hn := number_c b 0 0 (fun x => x :: zT) 0 (.of [] zT (fun _ => rfl) rfl rfl rfl) hb
  rw [hk] at hn
  simp only at hn
  have zT_bel2 : belL 0 (.int .i64 n :: zT) = true := rfl
  have hle := zL_le
  generalize letC zL = lc at *
  have hp := letplaces_no n zT (by omega) zT_bel
  refine ⟨⟨_, Try.func60, by kernel_rfl, rfl⟩, ACall.of Try.func60 rfl fun c0 hc0 => ?_⟩; simp only [Try.ntmps60, Ya, Y9, Nat.reduceAdd, Nat.reduceSub, Ym, Yn, Y5, Y3]; refine Run.god tab_ok follows_ok Try.func60 4 ?_; simp only [bytesA, drun, aops, aone, aop, needs, ext, aev, aconst, aput, aupd, astore, abuild, tab_4, tab_83, tab_85, tab_145, ok1, lay, AV.cells, AV.whole, Y4, Yb, Yc, Y6, Y7, Ya, Y9, Y1, Y2, Yi, Yh, Yg, Yj, Yl, Yf, Ye, Y5, Y3, Yd, Yt, Yu, Ys, Yr, Nat.reduceAdd, Nat.reduceLeDiff, Yp, Yv, Y0, Y8]
  refine Run.weak (Weak.nilC 2 61 1 _ rfl rfl) ?_
  simp only [Y7, Y6]
  refine Run.weak (Weak.junk [7, 8, 9, 10]) ?_
  simp only [junkAt, Y6, Y7]
  refine Run.god tab_ok follows_ok Try.func60 60 ?_; simp only [drun, aops, aone, aop, needs, ext, aev, aconst, aput, aupd, afieldAddr, abuild, tab_83, tab_146, tab_148, ok1, lay, AV.cells, AV.whole, Y4, Yb, Yc, Y6, Y7, Ya, Y9, Y1, Y2, Yh, Yj, Yl, Yf, Ye, Y5, Y3, Yd, Yt, Yu, Yr, Nat.reduceAdd, Yp, Yq, Yv, Y0, Y8]
  refine Ops.callB .free rfl rfl (js := [1, 2]) (by decide) (LentAll.cons rfl (pp_lent b true 0) (LentAll.cons rfl (LentB.box_ (.int .i64 0 :: zT) rfl) LentAll.nil)) (lent2 (pp_lent _ _ _) (LentB.box_ _ rfl)) rfl rfl (by simp only [cond_true, cond_false, renL, AV.ren, List.idxOf, List.findIdx, List.findIdx.go, aev, Y4, Y1, Y2, Yf, Ye, Y3, Yd, Nat.reduceAdd, Nat.reduceBEq, Yp, beq_self_eq_true, Y0]; (repeat' first | exact .refl _ | apply LeR.tup | apply Le.agg | constructor)) (hn) rfl ?_
  refine Ops.god tab_ok follows_ok Try.func60 60 ?_; simp only [putBack, drun, aops, aone, aop, aput, Y6, Y7]
  refine Ops.callP .free rfl rfl (js := [2]) (by decide) (LentAll.cons rfl (LentB.box_ _ zT_bel2) LentAll.nil) (lent1 (LentB.box_ _ zT_bel2)) rfl rfl (by simp only [cond_true, renL, AV.ren, List.idxOf, List.findIdx, List.findIdx.go, aev, Y4, Y1, Y2, Yf, Ye, Y3, Yd, Yp, beq_self_eq_true, Y0]; (repeat' first | exact .refl _ | apply LeR.tup | apply Le.agg | constructor)) (hp) rfl ?_
  by_cases e0 : e = 0
  · subst e0
    refine Ops.god tab_ok follows_ok Try.func60 60 ?_; simp only [Try.results60, pp, AV.unr, Bool.or_true, decide_true, ↓alt_t, ↓alts_f, ↓gone_ff, gslot, drun, aops, aone, afin, ares, aresL, ares1, aresOk, aresOk1, aop, needs, ext, aev, aconst, aput, aupd, aload, astore, afieldAddr, acmp, ashift, abin, isc, abuild, tab_34, tab_83, tab_145, tab_151, ok1, lay, cellsAs, TI.agg, AV.cells, AV.whole, Y4, Yb, Yc, Y6, Y7, Ya, Y9, Y1, Y2, Yw, Yi, Yh, Yg, Yj, Yk, Yl, Ye, Y5, Y3, Yd, Yt, Yu, Ys, Yr, Nat.reduceAdd, Yp, Bool.not_true, Yv, Y0, Y8]
    ((repeat' apply And.intro) <;> try first | rfl | omega | (unfold I64; omega))
    all_goals (first | exact Le1L.nil | exact LeR.tup (LeL.cons (Le.agg hle) (LeL.cons (Le.refl _) LeL.nil)))
  · refine Ops.god tab_ok follows_ok Try.func60 60 ?_; simp only [Try.results60, pp, AV.unr, e0, decide_false, ↓alt_t, ↓alts_t, ↓gone_ft, gslot, drun, aops, aone, afin, ares, aresL, ares1, aresOk, aresOk1, aop, needs, ext, aev, aconst, aput, aupd, aload, astore, afieldAddr, acmp, ashift, abin, abuild, tab_34, tab_83, tab_145, ok1, lay, cellsAs, TI.agg, AV.cells, AV.whole, Y4, Yb, Yc, Y6, Y7, Ya, Y9, Y1, Y2, Yw, Yi, Yh, Yg, Yj, Yk, Yl, Ye, Y5, Y3, Yd, Yt, Yu, Ys, Yr, Nat.reduceAdd, Yp, Bool.not_false, Yv, Y0, Y8]
    ((repeat' apply And.intro) <;> try first | rfl | omega | (unfold I64; omega))
    all_goals (first | exact Le1L.nil | exact LeR.tup (LeL.cons (Le.agg hle) (LeL.cons (Le.refl _) LeL.nil)))
end Go.Proofs.Ytkamcoechjdgpaa
/-
  Package wire: letters, taken and written, of any kind; what is short; what is alike.
-/
namespace Go.Proofs.Ytkamcoechjdgpaa
open Go.RowKit
def okB (e : Int) (b : Bytes) : Bool := decide (e = 0) && decide (b = [])
def encRp (r : Rp) : AV := .agg (rpC r)
def tkL (b : Bytes) : Ltr × Bool :=
  if (rdN b 0 0).2.1 = 0 then
    if (rdN b 0 0).2.2 = 1 then (l1 (rdN b 0 0).1, okB (q1_5 (rdN b 0 0).1).2.1 (q1_5 (rdN b 0 0).1).1) else
    if (rdN b 0 0).2.2 = 2 then (l2 (rdN b 0 0).1, okB (q2_2 (rdN b 0 0).1).2.1 (q2_2 (rdN b 0 0).1).1) else
    if (rdN b 0 0).2.2 = 3 then (l3 (rdN b 0 0).1, okB (q3_3 (rdN b 0 0).1).2.1 (q3_3 (rdN b 0 0).1).1) else
    if (rdN b 0 0).2.2 = 4 then (l4 (rdN b 0 0).1, okB (q4_2 (rdN b 0 0).1).2.1 (q4_2 (rdN b 0 0).1).1) else
    if (rdN b 0 0).2.2 = 5 then (l5 (rdN b 0 0).1, okB (q5_3 (rdN b 0 0).1).2.1 (q5_3 (rdN b 0 0).1).1) else
    if (rdN b 0 0).2.2 = 6 then (l6 (rdN b 0 0).1, okB (q6_2 (rdN b 0 0).1).2.1 (q6_2 (rdN b 0 0).1).1) else
    if (rdN b 0 0).2.2 = 7 then (l7 (rdN b 0 0).1, okB (q7_3 (rdN b 0 0).1).2.1 (q7_3 (rdN b 0 0).1).1) else
    if (rdN b 0 0).2.2 = 8 then (l8 (rdN b 0 0).1, okB (q8_1 (rdN b 0 0).1).2.1 (q8_1 (rdN b 0 0).1).1) else
    if (rdN b 0 0).2.2 = 9 then (l9 (rdN b 0 0).1, okB (q9_2 (rdN b 0 0).1).2.1 (q9_2 (rdN b 0 0).1).1) else
    if (rdN b 0 0).2.2 = 10 then (l10 (rdN b 0 0).1, okB (q10_2 (rdN b 0 0).1).2.1 (q10_2 (rdN b 0 0).1).1) else
    (zL, false)
  else (zL, false)
theorem tk_spec (b : Bytes) (hb : b.length ≤ 1000000) : ASpec Try.prog 60 [bytesA b] (.tup [.agg (letC (tkL b).1), .bool (tkL b).2]) := by
  have hl := rdN_le b 0 0
  have herr : ¬ (rdN b 0 0).2.1 = 0 → (rdN b 0 0).2.2 = 0 := by
    unfold rdN
    rw [if_pos rfl]
    split
    · exact fun h => absurd rfl h
    · exact fun _ => rfl
  obtain ⟨⟨b', e, n⟩, ht⟩ : ∃ t, rdN b 0 0 = t := ⟨_, rfl⟩
  rw [ht] at hl herr
  have hb' : b'.length ≤ 1000000 := Nat.le_trans hl hb
  unfold tkL
  rw [ht]
  simp only at herr ⊢
  by_cases e0 : e = 0
  · subst e0
    rw [if_pos rfl]
    by_cases n1 : n = 1
    · subst n1
      rw [if_pos rfl]
      exact taken_1 b b' hb hb' ht
    rw [if_neg n1]
    by_cases n2 : n = 2
    · subst n2
      rw [if_pos rfl]
      exact taken_2 b b' hb hb' ht
    rw [if_neg n2]
    by_cases n3 : n = 3
    · subst n3
      rw [if_pos rfl]
      exact taken_3 b b' hb hb' ht
    rw [if_neg n3]
    by_cases n4 : n = 4
    · subst n4
      rw [if_pos rfl]
      exact taken_4 b b' hb hb' ht
    rw [if_neg n4]
    by_cases n5 : n = 5
    · subst n5
      rw [if_pos rfl]
      exact taken_5 b b' hb hb' ht
    rw [if_neg n5]
    by_cases n6 : n = 6
    · subst n6
      rw [if_pos rfl]
      exact taken_6 b b' hb hb' ht
    rw [if_neg n6]
    by_cases n7 : n = 7
    · subst n7
      rw [if_pos rfl]
      exact taken_7 b b' hb hb' ht
    rw [if_neg n7]
    by_cases n8 : n = 8
    · subst n8
      rw [if_pos rfl]
      exact taken_8 b b' hb hb' ht
    rw [if_neg n8]
    by_cases n9 : n = 9
    · subst n9
      rw [if_pos rfl]
      exact taken_9 b b' hb hb' ht
    rw [if_neg n9]
    by_cases n10 : n = 10
    · subst n10
      rw [if_pos rfl]
      exact taken_10 b b' hb hb' ht
    rw [if_neg n10]
    exact taken_no b b' 0 n hb ht (.inr ⟨rfl, by omega⟩)
  · rw [if_neg e0]
    exact taken_no b b' e n hb ht (.inl ⟨e0, herr e0⟩)
theorem wr_spec (l : Ltr) (hk : 1 ≤ l.kind ∧ l.kind ≤ 10) (h : smL l) : ASpec Try.prog 55 [.agg (letC l)] (bytesA (wrL l)) := by
  have hc : l.kind = 1 ∨ l.kind = 2 ∨ l.kind = 3 ∨ l.kind = 4 ∨ l.kind = 5 ∨ l.kind = 6 ∨ l.kind = 7 ∨ l.kind = 8 ∨ l.kind = 9 ∨ l.kind = 10 := by omega
  rcases hc with e | e | e | e | e | e | e | e | e | e
  · exact written_1 l e h
  · exact written_2 l e h
  · exact written_3 l e h
  · exact written_4 l e h
  · exact written_5 l e h
  · exact written_6 l e h
  · exact written_7 l e h
  · exact written_8 l e h
  · exact written_9 l e h
  · exact written_10 l e h
theorem fi_some {α : Type} {p : α → Bool} {l : List α} {k : Nat} {x : α} (hk : l[k]? = some x) (hp : p x = true) (hlt : ∀ j y, j < k → l[j]? = some y → p y = false) : l.findIdx? p = some k := by
  obtain ⟨h1, rfl⟩ := List.getElem?_eq_some_iff.1 hk
  rw [List.findIdx?_eq_some_iff_getElem]
  exact ⟨h1, hp, fun j hj => by have := hlt j _ hj (List.getElem?_eq_getElem (by omega)); simp [this]⟩
theorem fi_none {α : Type} {p : α → Bool} {l : List α} (h : ∀ j y, j < l.length → l[j]? = some y → p y = false) : l.findIdx? p = none := by
  rw [List.findIdx?_eq_none_iff]
  intro x hx
  obtain ⟨j, hj⟩ := List.getElem?_of_mem hx
  exact h j x (List.getElem?_eq_some_iff.1 hj).1 hj
def fiI {α : Type} (p : α → Bool) (l : List α) : Int := ((l.findIdx? p).map fun n => (n : Int)).getD (-1)
theorem fi_any {α : Type} (p : α → Bool) (l : List α) : decide (0 ≤ fiI p l) = l.any p := by
  unfold fiI
  cases h : l.findIdx? p with
  | none =>
    rw [List.findIdx?_eq_none_iff] at h
    have e : l.any p = false := by
      rw [List.any_eq_false]
      intro x hx
      have := h x hx
      simpa using this
    rw [e]; rfl
  | some k =>
    rw [List.findIdx?_eq_some_iff_getElem] at h
    obtain ⟨h1, h2, _⟩ := h
    have e : l.any p = true := by
      rw [List.any_eq_true]
      exact ⟨_, List.getElem_mem h1, h2⟩
    rw [e, decide_eq_true_eq]
    simp
def longTx (x : Bytes) : Bool := decide ((1000 : Int) < x.length)
theorem longTx_spec (x : Bytes) : ASpec Try.prog 80 [.str x] (.bool (longTx x)) := by
  unfold longTx
  refine ⟨⟨_, Try.func80, by kernel_rfl, rfl⟩, ACall.of Try.func80 rfl fun c0 hc0 => ?_⟩; simp only [Try.ntmps80, Ya, Y9, Nat.reduceAdd, Nat.reduceSub, Ym, Yn, Y5, Y3]; refine Run.god tab_ok follows_ok Try.func80 60 ?_; simp only [Try.results80, drun, aops, aone, afin, ares, aresL, ares1, aresOk, aresOk1, aop, needs, ext, aev, aconst, aput, aupd, acmp, ashift, abin, alen, tab_3, tab_9, ok1, Y4, Yb, Yc, Y6, Y7, Y1, Y2, Y3, Yt, Yu, Ys, Yr, Y0, Y8]
  (repeat' first | exact .refl _ | apply LeR.tup | apply Le.agg | constructor)
def longV (x : Acc) : Bool := decide ((6000 : Int) < x.value.length)
theorem longV_spec (x : Acc) : ASpec Try.prog 78 [encA x] (.bool (longV x)) := by
  unfold longV
  refine ⟨⟨_, Try.func78, by kernel_rfl, rfl⟩, ACall.of Try.func78 rfl fun c0 hc0 => ?_⟩; simp only [Try.ntmps78, Ya, Y9, Nat.reduceAdd, Nat.reduceSub, Ym, Yn, Y5, Y3]; refine Run.god tab_ok follows_ok Try.func78 60 ?_; simp only [Try.results78, encA, accC, drun, aops, aone, afin, ares, aresL, ares1, aresOk, aresOk1, aop, needs, ext, aev, aconst, aput, aupd, aload, afieldAddr, acmp, ashift, abin, alen, tab_3, tab_9, tab_77, ok1, cellsAs, TI.agg, AV.cells, AV.whole, Y4, Yb, Yc, Y6, Y7, Ya, Y9, Y1, Y2, Yi, Yh, Yg, Yk, Y5, Y3, Yt, Yu, Ys, Yr, Nat.reduceAdd, Yp, Yv, Y0, Y8]
  ((repeat' apply And.intro) <;> try first | rfl | omega | (unfold I64; omega))
  (repeat' first | exact .refl _ | apply LeR.tup | apply Le.agg | constructor)
theorem index_names (l : List Bytes) (hl : l.length ≤ 100000000) : ASpec Try.prog 92 [textsA l, .fn (.func 80) [] []] (.int .i64 (fiI longTx l)) := by
  refine ⟨⟨_, Try.func92, by kernel_rfl, rfl⟩, ACall.of Try.func92 rfl fun c0 hc0 => ?_⟩; simp only [Try.ntmps92, Ya, Y9, Nat.reduceAdd, Nat.reduceSub, Ym, Yn, Y5, Y3]; refine Run.god tab_ok follows_ok Try.func92 60 ?_; simp only [textsA, Yo, Int.reduceNeg, drun, aops, aone, aop, needs, ext, aev, aconst, aput, aupd, alen, tab_41, ok1, Y4, Yb, Y6, Y7, Y1, Y2, Y3, Yt, Yr, Y0, Y8]
  refine Run.loopV (α := Nat) (fun k => k ≤ l.length ∧ ∀ j y, j < k → l[j]? = some y → longTx y = false) (fun k => [(8, .int .i64 k)]) 0 (fun _ => []) (fun k => l.length - k) 0 ⟨Nat.zero_le _, fun j y h => absurd h (Nat.not_lt_zero j)⟩ ?_ ?_
  · simp only [writes, junks, puts, hputs, List.filterMap_cons, List.filterMap_nil, Int.natCast_zero, Y6, Y7, Yk, Y5, Y3, Yd]
    (refine Weak.of (by simp [hc0]) ?_ ?_ <;> (repeat' first | exact .refl _ | exact .junk _ | exact .nil | exact .nil _ | exact .tok _ _ _ | rfl | apply WkT.cons | apply WkH.cons | apply LeB.same | apply LeB.box | apply Le1L.cons | apply Le.agg | apply Le.one))
  rintro k ⟨hI, hq⟩ ih
  simp only [writes, junks, puts, hputs, List.filterMap_cons, List.filterMap_nil, Y6, Y7, Yk, Y5, Y3, Yd] at ih ⊢
  by_cases hk : k < l.length
  · obtain ⟨x, hx⟩ : ∃ x, l[k]? = some x := ⟨_, List.getElem?_eq_getElem hk⟩
    have hkk : (k : Int) < l.length := by omega
    have hls := longTx_spec x 
    cases hp : longTx x with
    | true =>
      rw [hp] at hls
      refine Run.god tab_ok follows_ok Try.func92 60 ?_; simp only [hx, hkk, textC, List.getElem?_map, Yo, decide_true, ↓alt_t, Int.reduceNeg, drun, aops, aone, aop, needs, ext, aev, aput, aupd, aload, aindexAddr, acmp, ashift, abin, tab_3, tab_9, tab_41, ok1, cellsAs, TI.agg, Y4, Yb, Yc, Y6, Y7, Ya, Y9, Y1, Y2, Yg, Yk, Y3, Yt, Yu, Ys, Yr, Nat.reduceAdd, Yp, Nat.reduceLT, Yv, Int.toNat_natCast, Y0, Y8]
      ((repeat' apply And.intro) <;> try first | rfl | omega | (unfold I64; omega))
      refine Ops.pure .free rfl rfl (hls) (by simp only [aev, Y4, Y1, Y2, Yf, Ye, Y3, Yd, Y0]; (repeat' first | exact .refl _ | apply LeR.tup | apply Le.agg | constructor)) rfl rfl ?_
      refine Ops.god tab_ok follows_ok Try.func92 60 ?_; simp only [Try.results92, ↓alt_t, drun, aops, aone, afin, ares, aresL, ares1, aresOk, aresOk1, aop, needs, ext, aev, aput, aupd, ok1, Y4, Yb, Yc, Y6, Y7, Y1, Y2, Y3, Yt, Yu, Yr, Y0, Y8]
      rw [show fiI longTx l = k by unfold fiI; rw [fi_some hx hp hq]; rfl]
      (repeat' first | exact .refl _ | apply LeR.tup | apply Le.agg | constructor)
    | false =>
      rw [hp] at hls
      refine Run.god tab_ok follows_ok Try.func92 60 ?_; simp only [hx, hkk, textC, List.getElem?_map, Yo, decide_true, ↓alt_t, Int.reduceNeg, drun, aops, aone, aop, needs, ext, aev, aput, aupd, aload, aindexAddr, acmp, ashift, abin, tab_3, tab_9, tab_41, ok1, cellsAs, TI.agg, Y4, Yb, Yc, Y6, Y7, Ya, Y9, Y1, Y2, Yg, Yk, Y3, Yt, Yu, Ys, Yr, Nat.reduceAdd, Yp, Nat.reduceLT, Yv, Int.toNat_natCast, Y0, Y8]
      ((repeat' apply And.intro) <;> try first | rfl | omega | (unfold I64; omega))
      refine Ops.pure .free rfl rfl (hls) (by simp only [aev, Y4, Y1, Y2, Yf, Ye, Y3, Yd, Y0]; (repeat' first | exact .refl _ | apply LeR.tup | apply Le.agg | constructor)) rfl rfl ?_
      refine Ops.god tab_ok follows_ok Try.func92 60 ?_; simp only [↓alt_f, Int.reduceNeg, drun, aops, aone, aop, needs, ext, aev, aconst, aput, aupd, acmp, aarith, ashift, abin, tab_3, ok1, Y4, Yb, Y6, Y7, Y1, Y2, Y3, Yt, Ys, Yr, Y0, Y8]
      ((repeat' apply And.intro) <;> try first | rfl | omega | (unfold I64; omega))
      refine ih (k + 1) _ ⟨by omega, fun j y hj hy => ?_⟩ (by omega) ?_
      · rcases Nat.lt_or_ge j k with h | h
        · exact hq j y h hy
        · obtain rfl : j = k := by omega
          rw [hx] at hy; cases hy; exact hp
      · simp only [Int.natCast_add, Int.natCast_one]
        (refine Weak.of (by simp [hc0]) ?_ ?_ <;> (repeat' first | exact .refl _ | exact .junk _ | exact .nil | exact .nil _ | exact .tok _ _ _ | rfl | apply WkT.cons | apply WkH.cons | apply LeB.same | apply LeB.box | apply Le1L.cons | apply Le.agg | apply Le.one))
  · have hkk : ¬ (k : Int) < l.length := by omega
    refine Run.god tab_ok follows_ok Try.func92 60 ?_; simp only [Try.results92, hkk, decide_false, ↓alt_f, Int.reduceNeg, drun, aops, aone, afin, ares, aresL, ares1, aresOk, aresOk1, aop, needs, ext, aev, aconst, aput, aupd, acmp, ashift, abin, tab_3, ok1, exitTo, Y4, Yb, Yc, Y6, Y7, Y1, Y2, Y3, Yt, Yu, Ys, Yr, beq_self_eq_true, Y0, Y8]
    rw [show fiI longTx l = -1 by unfold fiI; rw [fi_none fun j y hj hy => hq j y (by omega) hy]; rfl]
    (repeat' first | exact .refl _ | apply LeR.tup | apply Le.agg | constructor)
theorem contains_names (l : List Bytes) (hl : l.length ≤ 100000000) : ASpec Try.prog 79 [textsA l, .fn (.func 80) [] []] (.bool (l.any longTx)) := by
  rw [← fi_any]
  refine ⟨⟨_, Try.func79, by kernel_rfl, rfl⟩, ACall.of Try.func79 rfl fun c0 hc0 => ?_⟩; simp only [Try.ntmps79, Ya, Y9, Nat.reduceAdd, Nat.reduceSub, Ym, Yn, Y5, Y3]; refine Run.god tab_ok follows_ok Try.func79 60 ?_; simp only [textsA, drun, aops, aone, aop, needs, ext, aev, aconst, aput, aupd, ok1, Y4, Y6, Y7, Y1, Y2, Y3, Yt, Yr, Nat.reduceAdd, Yp, Y0, Y8]
  refine Ops.pure .free rfl rfl (index_names l hl ) (by simp only [textsA, aev, Y4, Y1, Y2, Yf, Ye, Y3, Yd, Y0]; (repeat' first | exact .refl _ | apply LeR.tup | apply Le.agg | constructor)) rfl rfl ?_
  refine Ops.god tab_ok follows_ok Try.func79 60 ?_; simp only [Try.results79, drun, aops, aone, afin, ares, aresL, ares1, aresOk, aresOk1, aop, needs, ext, aev, aconst, aput, aupd, acmp, ashift, abin, tab_3, ok1, Y4, Yb, Yc, Y6, Y7, Y1, Y2, Y3, Yt, Yu, Ys, Yr, Y0, Y8]
  (repeat' first | exact .refl _ | apply LeR.tup | apply Le.agg | constructor)
theorem index_votes (l : List Acc) (hl : l.length ≤ 100000000) : ASpec Try.prog 91 [votesA l, .fn (.func 78) [] []] (.int .i64 (fiI longV l)) := by
  refine ⟨⟨_, Try.func91, by kernel_rfl, rfl⟩, ACall.of Try.func91 rfl fun c0 hc0 => ?_⟩; simp only [Try.ntmps91, Ya, Y9, Nat.reduceAdd, Nat.reduceSub, Ym, Yn, Y5, Y3]; refine Run.god tab_ok follows_ok Try.func91 60 ?_; simp only [votesA, Yo, Int.reduceNeg, drun, aops, aone, aop, needs, ext, aev, aconst, aput, aupd, alen, tab_78, ok1, Y4, Yb, Y6, Y7, Y1, Y2, Y3, Yt, Yr, Y0, Y8]
  refine Run.loopV (α := Nat) (fun k => k ≤ l.length ∧ ∀ j y, j < k → l[j]? = some y → longV y = false) (fun k => [(8, .int .i64 k)]) 0 (fun _ => []) (fun k => l.length - k) 0 ⟨Nat.zero_le _, fun j y h => absurd h (Nat.not_lt_zero j)⟩ ?_ ?_
  · simp only [writes, junks, puts, hputs, List.filterMap_cons, List.filterMap_nil, Int.natCast_zero, Y6, Y7, Yk, Y5, Y3, Yd]
    (refine Weak.of (by simp [hc0]) ?_ ?_ <;> (repeat' first | exact .refl _ | exact .junk _ | exact .nil | exact .nil _ | exact .tok _ _ _ | rfl | apply WkT.cons | apply WkH.cons | apply LeB.same | apply LeB.box | apply Le1L.cons | apply Le.agg | apply Le.one))
  rintro k ⟨hI, hq⟩ ih
  simp only [writes, junks, puts, hputs, List.filterMap_cons, List.filterMap_nil, Y6, Y7, Yk, Y5, Y3, Yd] at ih ⊢
  by_cases hk : k < l.length
  · obtain ⟨x, hx⟩ : ∃ x, l[k]? = some x := ⟨_, List.getElem?_eq_getElem hk⟩
    have hkk : (k : Int) < l.length := by omega
    have hls := longV_spec x 
    cases hp : longV x with
    | true =>
      rw [hp] at hls
      refine Run.god tab_ok follows_ok Try.func91 60 ?_; simp only [hx, hkk, accC, List.getElem?_map, Yo, decide_true, ↓alt_t, Int.reduceNeg, drun, aops, aone, aop, needs, ext, aev, aput, aupd, aload, aindexAddr, acmp, ashift, abin, tab_3, tab_77, tab_78, ok1, cellsAs, TI.agg, Y4, Yb, Yc, Y6, Y7, Ya, Y9, Y1, Y2, Yg, Yk, Y3, Yt, Yu, Ys, Yr, Nat.reduceAdd, Yp, Nat.reduceLT, Yv, Int.toNat_natCast, Y0, Y8]
      ((repeat' apply And.intro) <;> try first | rfl | omega | (unfold I64; omega))
      refine Ops.pure .free rfl rfl (hls) (by simp only [encA, accC, aev, Y4, Y1, Y2, Yf, Ye, Y3, Yd, Y0]; (repeat' first | exact .refl _ | apply LeR.tup | apply Le.agg | constructor)) rfl rfl ?_
      refine Ops.god tab_ok follows_ok Try.func91 60 ?_; simp only [Try.results91, ↓alt_t, drun, aops, aone, afin, ares, aresL, ares1, aresOk, aresOk1, aop, needs, ext, aev, aput, aupd, ok1, Y4, Yb, Yc, Y6, Y7, Y1, Y2, Y3, Yt, Yu, Yr, Y0, Y8]
      rw [show fiI longV l = k by unfold fiI; rw [fi_some hx hp hq]; rfl]
      (repeat' first | exact .refl _ | apply LeR.tup | apply Le.agg | constructor)
    | false =>
      rw [hp] at hls
      refine Run.god tab_ok follows_ok Try.func91 60 ?_; simp only [hx, hkk, accC, List.getElem?_map, Yo, decide_true, ↓alt_t, Int.reduceNeg, drun, aops, aone, aop, needs, ext, aev, aput, aupd, aload, aindexAddr, acmp, ashift, abin, tab_3, tab_77, tab_78, ok1, cellsAs, TI.agg, Y4, Yb, Yc, Y6, Y7, Ya, Y9, Y1, Y2, Yg, Yk, Y3, Yt, Yu, Ys, Yr, Nat.reduceAdd, Yp, Nat.reduceLT, Yv, Int.toNat_natCast, Y0, Y8]
      ((repeat' apply And.intro) <;> try first | rfl | omega | (unfold I64; omega))
      refine Ops.pure .free rfl rfl (hls) (by simp only [encA, accC, aev, Y4, Y1, Y2, Yf, Ye, Y3, Yd, Y0]; (repeat' first | exact .refl _ | apply LeR.tup | apply Le.agg | constructor)) rfl rfl ?_
      refine Ops.god tab_ok follows_ok Try.func91 60 ?_; simp only [↓alt_f, Int.reduceNeg, drun, aops, aone, aop, needs, ext, aev, aconst, aput, aupd, acmp, aarith, ashift, abin, tab_3, ok1, Y4, Yb, Y6, Y7, Y1, Y2, Y3, Yt, Ys, Yr, Y0, Y8]
      ((repeat' apply And.intro) <;> try first | rfl | omega | (unfold I64; omega))
      refine ih (k + 1) _ ⟨by omega, fun j y hj hy => ?_⟩ (by omega) ?_
      · rcases Nat.lt_or_ge j k with h | h
        · exact hq j y h hy
        · obtain rfl : j = k := by omega
          rw [hx] at hy; cases hy; exact hp
      · simp only [Int.natCast_add, Int.natCast_one]
        (refine Weak.of (by simp [hc0]) ?_ ?_ <;> (repeat' first | exact .refl _ | exact .junk _ | exact .nil | exact .nil _ | exact .tok _ _ _ | rfl | apply WkT.cons | apply WkH.cons | apply LeB.same | apply LeB.box | apply Le1L.cons | apply Le.agg | apply Le.one))
  · have hkk : ¬ (k : Int) < l.length := by omega
    refine Run.god tab_ok follows_ok Try.func91 60 ?_; simp only [Try.results91, hkk, decide_false, ↓alt_f, Int.reduceNeg, drun, aops, aone, afin, ares, aresL, ares1, aresOk, aresOk1, aop, needs, ext, aev, aconst, aput, aupd, acmp, ashift, abin, tab_3, ok1, exitTo, Y4, Yb, Yc, Y6, Y7, Y1, Y2, Y3, Yt, Yu, Ys, Yr, beq_self_eq_true, Y0, Y8]
    rw [show fiI longV l = -1 by unfold fiI; rw [fi_none fun j y hj hy => hq j y (by omega) hy]; rfl]
    (repeat' first | exact .refl _ | apply LeR.tup | apply Le.agg | constructor)
theorem contains_votes (l : List Acc) (hl : l.length ≤ 100000000) : ASpec Try.prog 77 [votesA l, .fn (.func 78) [] []] (.bool (l.any longV)) := by
  rw [← fi_any]
  refine ⟨⟨_, Try.func77, by kernel_rfl, rfl⟩, ACall.of Try.func77 rfl fun c0 hc0 => ?_⟩; simp only [Try.ntmps77, Ya, Y9, Nat.reduceAdd, Nat.reduceSub, Ym, Yn, Y5, Y3]; refine Run.god tab_ok follows_ok Try.func77 60 ?_; simp only [votesA, drun, aops, aone, aop, needs, ext, aev, aconst, aput, aupd, ok1, Y4, Y6, Y7, Y1, Y2, Y3, Yt, Yr, Nat.reduceAdd, Yp, Y0, Y8]
  refine Ops.pure .free rfl rfl (index_votes l hl ) (by simp only [votesA, aev, Y4, Y1, Y2, Yf, Ye, Y3, Yd, Y0]; (repeat' first | exact .refl _ | apply LeR.tup | apply Le.agg | constructor)) rfl rfl ?_
  refine Ops.god tab_ok follows_ok Try.func77 60 ?_; simp only [Try.results77, drun, aops, aone, afin, ares, aresL, ares1, aresOk, aresOk1, aop, needs, ext, aev, aconst, aput, aupd, acmp, ashift, abin, tab_3, ok1, Y4, Yb, Yc, Y6, Y7, Y1, Y2, Y3, Yt, Yu, Ys, Yr, Y0, Y8]
  (repeat' first | exact .refl _ | apply LeR.tup | apply Le.agg | constructor)
def shortV (l : List Acc) : Bool := decide (l.length ≤ 30) && !l.any longV
theorem shortV_spec (l : List Acc) : ASpec Try.prog 57 [votesA l] (.bool (shortV l)) := by
  unfold shortV
  by_cases h : l.length ≤ 30
  · have hc := contains_votes l (by omega)
    have h' : (l.length : Int) ≤ 30 := by omega
    rw [decide_eq_true h]
    refine ⟨⟨_, Try.func57, by kernel_rfl, rfl⟩, ACall.of Try.func57 rfl fun c0 hc0 => ?_⟩; simp only [Try.ntmps57, Ya, Y9, Nat.reduceAdd, Nat.reduceSub, Ym, Yn, Y5, Y3]; refine Run.god tab_ok follows_ok Try.func57 60 ?_; simp only [votesA, Yo, h', decide_true, ↓alts_t, ↓gone_tt, gslot, drun, aops, aone, aop, needs, ext, aev, aconst, aput, aupd, acmp, ashift, abin, alen, tab_3, tab_78, ok1, Y4, Yb, Y6, Y7, Y1, Y2, Yw, Y3, Yt, Ys, Yr, Nat.reduceAdd, Yp, Bool.true_and, Y0, Y8]
    ((repeat' apply And.intro) <;> try first | rfl | omega | (unfold I64; omega))
    refine Ops.pure (Wanted.test 3 true true rfl) rfl rfl (hc) (by simp only [votesA, aev, Y4, Y1, Y2, Yf, Ye, Y3, Yd, Y0]; (repeat' first | exact .refl _ | apply LeR.tup | apply Le.agg | constructor)) rfl rfl ?_
    refine Ops.god tab_ok follows_ok Try.func57 60 ?_; simp only [Try.results57, ↓alts_t, ↓gone_tt, gslot, drun, aops, aone, afin, ares, aresL, ares1, aresOk, aresOk1, aop, needs, ext, aev, aput, aupd, ok1, Y4, Yb, Yc, Y6, Y7, Y1, Y2, Yw, Y3, Yt, Yu, Yr, Y0, Y8]
    (repeat' first | exact .refl _ | apply LeR.tup | apply Le.agg | constructor)
  · have h' : ¬ (l.length : Int) ≤ 30 := by omega
    rw [decide_eq_false h]
    refine ⟨⟨_, Try.func57, by kernel_rfl, rfl⟩, ACall.of Try.func57 rfl fun c0 hc0 => ?_⟩; simp only [Try.ntmps57, Ya, Y9, Nat.reduceAdd, Nat.reduceSub, Ym, Yn, Y5, Y3]; refine Run.god tab_ok follows_ok Try.func57 60 ?_; simp only [Try.results57, votesA, Yo, h', decide_false, ↓alts_f, ↓gone_tf, gslot, drun, aops, aone, afin, ares, aresL, ares1, aresOk, aresOk1, aop, needs, ext, aev, aconst, aput, aupd, acmp, ashift, abin, alen, tab_3, tab_78, ok1, Y4, Yb, Yc, Y6, Y7, Y1, Y2, Yw, Y3, Yt, Yu, Ys, Yr, Bool.false_and, Y0, Y8]
    ((repeat' apply And.intro) <;> try first | rfl | omega | (unfold I64; omega))
    (repeat' first | exact .refl _ | apply LeR.tup | apply Le.agg | constructor)
def longR (r : Rp) : Bool := decide ((6000 : Int) < r.value.length) || !shortV r.proof
theorem longR_spec (r : Rp) : ASpec Try.prog 56 [encRp r] (.bool (longR r)) := by
  have hc := shortV_spec r.proof
  unfold longR
  by_cases h : (6000 : Int) < r.value.length
  · rw [decide_eq_true h]
    refine ⟨⟨_, Try.func56, by kernel_rfl, rfl⟩, ACall.of Try.func56 rfl fun c0 hc0 => ?_⟩; simp only [Try.ntmps56, Ya, Y9, Nat.reduceAdd, Nat.reduceSub, Ym, Yn, Y5, Y3]; refine Run.god tab_ok follows_ok Try.func56 60 ?_; simp only [Try.results56, encRp, rpC, votesA, h, decide_true, ↓alts_t, ↓gone_ft, gslot, drun, aops, aone, afin, ares, aresL, ares1, aresOk, aresOk1, aop, needs, ext, aev, aconst, aput, aupd, aload, afieldAddr, acmp, ashift, abin, alen, tab_3, tab_9, tab_80, ok1, cellsAs, TI.agg, AV.cells, AV.whole, Y4, Yb, Yc, Y6, Y7, Ya, Y9, Y1, Y2, Yw, Yi, Yh, Yg, Yj, Y5, Y3, Yt, Yu, Ys, Yr, Nat.reduceAdd, Nat.reduceLeDiff, Yp, Y0, Y8]
    ((repeat' apply And.intro) <;> try first | rfl | omega | (unfold I64; omega))
    (repeat' first | exact .refl _ | apply LeR.tup | apply Le.agg | constructor)
  · rw [decide_eq_false h]
    refine ⟨⟨_, Try.func56, by kernel_rfl, rfl⟩, ACall.of Try.func56 rfl fun c0 hc0 => ?_⟩; simp only [Try.ntmps56, Ya, Y9, Nat.reduceAdd, Nat.reduceSub, Ym, Yn, Y5, Y3]; refine Run.god tab_ok follows_ok Try.func56 60 ?_; simp only [encRp, rpC, votesA, h, decide_false, ↓alts_f, ↓gone_ff, gslot, drun, aops, aone, aop, needs, ext, aev, aconst, aput, aupd, aload, afieldAddr, acmp, ashift, abin, alen, tab_3, tab_9, tab_78, tab_80, ok1, cellsAs, TI.agg, AV.cells, AV.whole, Y4, Yb, Yc, Y6, Y7, Ya, Y9, Y1, Y2, Yw, Yi, Yh, Yg, Yj, Yk, Y5, Y3, Yt, Ys, Yr, Nat.reduceAdd, Nat.reduceLeDiff, Yp, Yv, Y0, Y8]
    ((repeat' apply And.intro) <;> try first | rfl | omega | (unfold I64; omega))
    refine Ops.pure (Wanted.test 4 false false rfl) rfl rfl (hc) (by simp only [votesA, aev, Y4, Y1, Y2, Yf, Ye, Y3, Yd, Y0]; (repeat' first | exact .refl _ | apply LeR.tup | apply Le.agg | constructor)) rfl rfl ?_
    refine Ops.god tab_ok follows_ok Try.func56 60 ?_; simp only [Try.results56, ↓alts_f, ↓gone_ff, gslot, drun, aops, aone, afin, ares, aresL, ares1, aresOk, aresOk1, aop, needs, ext, aev, aput, aupd, ok1, Y4, Yb, Yc, Y6, Y7, Y1, Y2, Yw, Y5, Y3, Yt, Yu, Yr, Y0, Y8]
    (repeat' first | exact .refl _ | apply LeR.tup | apply Le.agg | constructor)
theorem index_reports (l : List Rp) (hl : l.length ≤ 100000000) : ASpec Try.prog 81 [rpsA l, .fn (.func 56) [] []] (.int .i64 (fiI longR l)) := by
  refine ⟨⟨_, Try.func81, by kernel_rfl, rfl⟩, ACall.of Try.func81 rfl fun c0 hc0 => ?_⟩; simp only [Try.ntmps81, Ya, Y9, Nat.reduceAdd, Nat.reduceSub, Ym, Yn, Y5, Y3]; refine Run.god tab_ok follows_ok Try.func81 60 ?_; simp only [rpsA, Yo, Int.reduceNeg, drun, aops, aone, aop, needs, ext, aev, aconst, aput, aupd, alen, tab_75, ok1, Y4, Yb, Y6, Y7, Y1, Y2, Y3, Yt, Yr, Y0, Y8]
  refine Run.loopV (α := Nat) (fun k => k ≤ l.length ∧ ∀ j y, j < k → l[j]? = some y → longR y = false) (fun k => [(8, .int .i64 k)]) 0 (fun _ => []) (fun k => l.length - k) 0 ⟨Nat.zero_le _, fun j y h => absurd h (Nat.not_lt_zero j)⟩ ?_ ?_
  · simp only [writes, junks, puts, hputs, List.filterMap_cons, List.filterMap_nil, Int.natCast_zero, Y6, Y7, Yk, Y5, Y3, Yd]
    (refine Weak.of (by simp [hc0]) ?_ ?_ <;> (repeat' first | exact .refl _ | exact .junk _ | exact .nil | exact .nil _ | exact .tok _ _ _ | rfl | apply WkT.cons | apply WkH.cons | apply LeB.same | apply LeB.box | apply Le1L.cons | apply Le.agg | apply Le.one))
  rintro k ⟨hI, hq⟩ ih
  simp only [writes, junks, puts, hputs, List.filterMap_cons, List.filterMap_nil, Y6, Y7, Yk, Y5, Y3, Yd] at ih ⊢
  by_cases hk : k < l.length
  · obtain ⟨x, hx⟩ : ∃ x, l[k]? = some x := ⟨_, List.getElem?_eq_getElem hk⟩
    have hkk : (k : Int) < l.length := by omega
    have hls := longR_spec x 
    cases hp : longR x with
    | true =>
      rw [hp] at hls
      refine Run.god tab_ok follows_ok Try.func81 60 ?_; simp only [hx, hkk, rpC, List.getElem?_map, Yo, decide_true, ↓alt_t, Int.reduceNeg, drun, aops, aone, aop, needs, ext, aev, aput, aupd, aload, aindexAddr, acmp, ashift, abin, tab_3, tab_75, tab_80, ok1, cellsAs, TI.agg, Y4, Yb, Yc, Y6, Y7, Ya, Y9, Y1, Y2, Yg, Yk, Y3, Yt, Yu, Ys, Yr, Nat.reduceAdd, Yp, Nat.reduceLT, Yv, Int.toNat_natCast, Y0, Y8]
      ((repeat' apply And.intro) <;> try first | rfl | omega | (unfold I64; omega))
      refine Ops.pure .free rfl rfl (hls) (by simp only [encRp, rpC, aev, Y4, Y1, Y2, Yf, Ye, Y3, Yd, Y0]; (repeat' first | exact .refl _ | apply LeR.tup | apply Le.agg | constructor)) rfl rfl ?_
      refine Ops.god tab_ok follows_ok Try.func81 60 ?_; simp only [Try.results81, ↓alt_t, drun, aops, aone, afin, ares, aresL, ares1, aresOk, aresOk1, aop, needs, ext, aev, aput, aupd, ok1, Y4, Yb, Yc, Y6, Y7, Y1, Y2, Y3, Yt, Yu, Yr, Y0, Y8]
      rw [show fiI longR l = k by unfold fiI; rw [fi_some hx hp hq]; rfl]
      (repeat' first | exact .refl _ | apply LeR.tup | apply Le.agg | constructor)
    | false =>
      rw [hp] at hls
      refine Run.god tab_ok follows_ok Try.func81 60 ?_; simp only [hx, hkk, rpC, List.getElem?_map, Yo, decide_true, ↓alt_t, Int.reduceNeg, drun, aops, aone, aop, needs, ext, aev, aput, aupd, aload, aindexAddr, acmp, ashift, abin, tab_3, tab_75, tab_80, ok1, cellsAs, TI.agg, Y4, Yb, Yc, Y6, Y7, Ya, Y9, Y1, Y2, Yg, Yk, Y3, Yt, Yu, Ys, Yr, Nat.reduceAdd, Yp, Nat.reduceLT, Yv, Int.toNat_natCast, Y0, Y8]
      ((repeat' apply And.intro) <;> try first | rfl | omega | (unfold I64; omega))
      refine Ops.pure .free rfl rfl (hls) (by simp only [encRp, rpC, aev, Y4, Y1, Y2, Yf, Ye, Y3, Yd, Y0]; (repeat' first | exact .refl _ | apply LeR.tup | apply Le.agg | constructor)) rfl rfl ?_
      refine Ops.god tab_ok follows_ok Try.func81 60 ?_; simp only [↓alt_f, Int.reduceNeg, drun, aops, aone, aop, needs, ext, aev, aconst, aput, aupd, acmp, aarith, ashift, abin, tab_3, ok1, Y4, Yb, Y6, Y7, Y1, Y2, Y3, Yt, Ys, Yr, Y0, Y8]
      ((repeat' apply And.intro) <;> try first | rfl | omega | (unfold I64; omega))
      refine ih (k + 1) _ ⟨by omega, fun j y hj hy => ?_⟩ (by omega) ?_
      · rcases Nat.lt_or_ge j k with h | h
        · exact hq j y h hy
        · obtain rfl : j = k := by omega
          rw [hx] at hy; cases hy; exact hp
      · simp only [Int.natCast_add, Int.natCast_one]
        (refine Weak.of (by simp [hc0]) ?_ ?_ <;> (repeat' first | exact .refl _ | exact .junk _ | exact .nil | exact .nil _ | exact .tok _ _ _ | rfl | apply WkT.cons | apply WkH.cons | apply LeB.same | apply LeB.box | apply Le1L.cons | apply Le.agg | apply Le.one))
  · have hkk : ¬ (k : Int) < l.length := by omega
    refine Run.god tab_ok follows_ok Try.func81 60 ?_; simp only [Try.results81, hkk, decide_false, ↓alt_f, Int.reduceNeg, drun, aops, aone, afin, ares, aresL, ares1, aresOk, aresOk1, aop, needs, ext, aev, aconst, aput, aupd, acmp, ashift, abin, tab_3, ok1, exitTo, Y4, Yb, Yc, Y6, Y7, Y1, Y2, Y3, Yt, Yu, Ys, Yr, beq_self_eq_true, Y0, Y8]
    rw [show fiI longR l = -1 by unfold fiI; rw [fi_none fun j y hj hy => hq j y (by omega) hy]; rfl]
    (repeat' first | exact .refl _ | apply LeR.tup | apply Le.agg | constructor)
theorem contains_reports (l : List Rp) (hl : l.length ≤ 100000000) : ASpec Try.prog 59 [rpsA l, .fn (.func 56) [] []] (.bool (l.any longR)) := by
  rw [← fi_any]
  refine ⟨⟨_, Try.func59, by kernel_rfl, rfl⟩, ACall.of Try.func59 rfl fun c0 hc0 => ?_⟩; simp only [Try.ntmps59, Ya, Y9, Nat.reduceAdd, Nat.reduceSub, Ym, Yn, Y5, Y3]; refine Run.god tab_ok follows_ok Try.func59 60 ?_; simp only [rpsA, drun, aops, aone, aop, needs, ext, aev, aconst, aput, aupd, ok1, Y4, Y6, Y7, Y1, Y2, Y3, Yt, Yr, Nat.reduceAdd, Yp, Y0, Y8]
  refine Ops.pure .free rfl rfl (index_reports l hl ) (by simp only [rpsA, aev, Y4, Y1, Y2, Yf, Ye, Y3, Yd, Y0]; (repeat' first | exact .refl _ | apply LeR.tup | apply Le.agg | constructor)) rfl rfl ?_
  refine Ops.god tab_ok follows_ok Try.func59 60 ?_; simp only [Try.results59, drun, aops, aone, afin, ares, aresL, ares1, aresOk, aresOk1, aop, needs, ext, aev, aconst, aput, aupd, acmp, ashift, abin, tab_3, ok1, Y4, Yb, Yc, Y6, Y7, Y1, Y2, Y3, Yt, Yu, Ys, Yr, Y0, Y8]
  (repeat' first | exact .refl _ | apply LeR.tup | apply Le.agg | constructor)
def shortX (x : Rpl) : Bool := !x.l.any longTx && decide (x.s.length ≤ 1000) && decide (x.l.length ≤ 200) && decide (0 ≤ x.e) && decide (x.e ≤ 16)
theorem shortX_spec (x : Rpl) (hl : x.l.length ≤ 100000000) : ASpec Try.prog 58 [encR x] (.bool (shortX x)) := by
  have hc := contains_names x.l hl
  unfold shortX
  cases h0 : x.l.any longTx with
  | true =>
    rw [h0] at hc
    refine ⟨⟨_, Try.func58, by kernel_rfl, rfl⟩, ACall.of Try.func58 rfl fun c0 hc0 => ?_⟩; simp only [Try.ntmps58, Ya, Y9, Nat.reduceAdd, Nat.reduceSub, Ym, Yn, Y5, Y3]; refine Run.god tab_ok follows_ok Try.func58 60 ?_; simp only [encR, textsA, drun, aops, aone, aop, needs, ext, aev, aconst, aput, aupd, aload, afieldAddr, tab_41, tab_43, ok1, cellsAs, TI.agg, AV.cells, AV.whole, Y4, Yb, Yc, Y6, Y7, Ya, Y9, Y1, Y2, Yi, Yh, Yg, Yk, Y5, Y3, Yt, Ys, Yr, Nat.reduceAdd, Yp, Bool.false_and, Bool.not_true, Yv, Y0, Y8]
    ((repeat' apply And.intro) <;> try first | rfl | omega | (unfold I64; omega))
    refine Ops.pure .free rfl rfl (hc) (by simp only [textsA, aev, Y4, Y1, Y2, Yf, Ye, Y3, Yd, Y0]; (repeat' first | exact .refl _ | apply LeR.tup | apply Le.agg | constructor)) rfl rfl ?_
    refine Ops.god tab_ok follows_ok Try.func58 60 ?_; simp only [Try.results58, Bool.not_true, ↓alts_f, ↓gone_tf, gslot, drun, aops, aone, afin, ares, aresL, ares1, aresOk, aresOk1, aop, needs, ext, aev, aconst, aput, aupd, ok1, Y4, Yb, Yc, Y6, Y7, Y1, Y2, Yw, Y5, Y3, Yt, Yu, Yr, Y0, Y8]
    ((repeat' apply And.intro) <;> try first | rfl | omega | (unfold I64; omega))
    (repeat' first | exact .refl _ | apply LeR.tup | apply Le.agg | constructor)
  | false =>
    rw [h0] at hc
    by_cases h1 : x.s.length ≤ 1000
    · have h1' : (x.s.length : Int) ≤ 1000 := by omega
      by_cases h2 : x.l.length ≤ 200
      · have h2' : (x.l.length : Int) ≤ 200 := by omega
        by_cases h3 : 0 ≤ x.e
        · refine ⟨⟨_, Try.func58, by kernel_rfl, rfl⟩, ACall.of Try.func58 rfl fun c0 hc0 => ?_⟩; simp only [Try.ntmps58, Ya, Y9, Nat.reduceAdd, Nat.reduceSub, Ym, Yn, Y5, Y3]; refine Run.god tab_ok follows_ok Try.func58 60 ?_; simp only [encR, textsA, drun, aops, aone, aop, needs, ext, aev, aconst, aput, aupd, aload, afieldAddr, tab_41, tab_43, ok1, cellsAs, TI.agg, AV.cells, AV.whole, Y4, Yb, Yc, Y6, Y7, Ya, Y9, Y1, Y2, Yi, Yh, Yg, Yk, Y5, Y3, Yt, Ys, Yr, Nat.reduceAdd, Yp, Bool.true_and, Bool.not_false, Yv, Y0, Y8]
          ((repeat' apply And.intro) <;> try first | rfl | omega | (unfold I64; omega))
          refine Ops.pure .free rfl rfl (hc) (by simp only [textsA, aev, Y4, Y1, Y2, Yf, Ye, Y3, Yd, Y0]; (repeat' first | exact .refl _ | apply LeR.tup | apply Le.agg | constructor)) rfl rfl ?_
          refine Ops.god tab_ok follows_ok Try.func58 60 ?_; simp only [Try.results58, h1, h1', h2, h2', h3, Yo, decide_true, ↓alts_t, ↓gone_tt, gslot, drun, aops, aone, afin, ares, aresL, ares1, aresOk, aresOk1, aop, needs, ext, aev, aconst, aput, aupd, aload, afieldAddr, acmp, ashift, abin, alen, tab_3, tab_9, tab_34, tab_41, tab_43, ok1, cellsAs, TI.agg, Y4, Yb, Yc, Y6, Y7, Ya, Y9, Y1, Y2, Yw, Yi, Yh, Yg, Yj, Yk, Y5, Y3, Yt, Yu, Ys, Yr, Nat.reduceAdd, Nat.reduceLeDiff, Yp, Bool.and_self, Bool.true_and, Bool.not_false, Yv, Y0, Y8]
          ((repeat' apply And.intro) <;> try first | rfl | omega | (unfold I64; omega))
          (repeat' first | exact .refl _ | apply LeR.tup | apply Le.agg | constructor)
        · refine ⟨⟨_, Try.func58, by kernel_rfl, rfl⟩, ACall.of Try.func58 rfl fun c0 hc0 => ?_⟩; simp only [Try.ntmps58, Ya, Y9, Nat.reduceAdd, Nat.reduceSub, Ym, Yn, Y5, Y3]; refine Run.god tab_ok follows_ok Try.func58 60 ?_; simp only [encR, textsA, drun, aops, aone, aop, needs, ext, aev, aconst, aput, aupd, aload, afieldAddr, tab_41, tab_43, ok1, cellsAs, TI.agg, AV.cells, AV.whole, Y4, Yb, Yc, Y6, Y7, Ya, Y9, Y1, Y2, Yi, Yh, Yg, Yk, Y5, Y3, Yt, Ys, Yr, Nat.reduceAdd, Yp, Bool.true_and, Bool.not_false, Yv, Y0, Y8]
          ((repeat' apply And.intro) <;> try first | rfl | omega | (unfold I64; omega))
          refine Ops.pure .free rfl rfl (hc) (by simp only [textsA, aev, Y4, Y1, Y2, Yf, Ye, Y3, Yd, Y0]; (repeat' first | exact .refl _ | apply LeR.tup | apply Le.agg | constructor)) rfl rfl ?_
          refine Ops.god tab_ok follows_ok Try.func58 60 ?_; simp only [Try.results58, h1, h1', h2, h2', h3, Yo, decide_true, decide_false, ↓alts_t, ↓alts_f, ↓gone_tt, ↓gone_tf, gslot, drun, aops, aone, afin, ares, aresL, ares1, aresOk, aresOk1, aop, needs, ext, aev, aconst, aput, aupd, aload, afieldAddr, acmp, ashift, abin, alen, tab_3, tab_9, tab_34, tab_41, tab_43, ok1, cellsAs, TI.agg, Y4, Yb, Yc, Y6, Y7, Ya, Y9, Y1, Y2, Yw, Yi, Yh, Yg, Yj, Yk, Y5, Y3, Yt, Yu, Ys, Yr, Nat.reduceAdd, Nat.reduceLeDiff, Yp, Bool.and_self, Bool.and_false, Bool.false_and, Bool.not_false, Yv, Y0, Y8]
          ((repeat' apply And.intro) <;> try first | rfl | omega | (unfold I64; omega))
          (repeat' first | exact .refl _ | apply LeR.tup | apply Le.agg | constructor)
      · have h2' : ¬ (x.l.length : Int) ≤ 200 := by omega
        refine ⟨⟨_, Try.func58, by kernel_rfl, rfl⟩, ACall.of Try.func58 rfl fun c0 hc0 => ?_⟩; simp only [Try.ntmps58, Ya, Y9, Nat.reduceAdd, Nat.reduceSub, Ym, Yn, Y5, Y3]; refine Run.god tab_ok follows_ok Try.func58 60 ?_; simp only [encR, textsA, drun, aops, aone, aop, needs, ext, aev, aconst, aput, aupd, aload, afieldAddr, tab_41, tab_43, ok1, cellsAs, TI.agg, AV.cells, AV.whole, Y4, Yb, Yc, Y6, Y7, Ya, Y9, Y1, Y2, Yi, Yh, Yg, Yk, Y5, Y3, Yt, Ys, Yr, Nat.reduceAdd, Yp, Bool.true_and, Bool.not_false, Yv, Y0, Y8]
        ((repeat' apply And.intro) <;> try first | rfl | omega | (unfold I64; omega))
        refine Ops.pure .free rfl rfl (hc) (by simp only [textsA, aev, Y4, Y1, Y2, Yf, Ye, Y3, Yd, Y0]; (repeat' first | exact .refl _ | apply LeR.tup | apply Le.agg | constructor)) rfl rfl ?_
        refine Ops.god tab_ok follows_ok Try.func58 60 ?_; simp only [Try.results58, h1, h1', h2, h2', Yo, decide_true, decide_false, ↓alts_t, ↓alts_f, ↓gone_tt, ↓gone_tf, gslot, drun, aops, aone, afin, ares, aresL, ares1, aresOk, aresOk1, aop, needs, ext, aev, aconst, aput, aupd, aload, afieldAddr, acmp, ashift, abin, alen, tab_3, tab_9, tab_41, tab_43, ok1, cellsAs, TI.agg, Y4, Yb, Yc, Y6, Y7, Ya, Y9, Y1, Y2, Yw, Yi, Yh, Yg, Yj, Yk, Y5, Y3, Yt, Yu, Ys, Yr, Nat.reduceAdd, Nat.reduceLeDiff, Yp, Bool.and_false, Bool.false_and, Bool.not_false, Yv, Y0, Y8]
        ((repeat' apply And.intro) <;> try first | rfl | omega | (unfold I64; omega))
        (repeat' first | exact .refl _ | apply LeR.tup | apply Le.agg | constructor)
    · have h1' : ¬ (x.s.length : Int) ≤ 1000 := by omega
      refine ⟨⟨_, Try.func58, by kernel_rfl, rfl⟩, ACall.of Try.func58 rfl fun c0 hc0 => ?_⟩; simp only [Try.ntmps58, Ya, Y9, Nat.reduceAdd, Nat.reduceSub, Ym, Yn, Y5, Y3]; refine Run.god tab_ok follows_ok Try.func58 60 ?_; simp only [encR, textsA, drun, aops, aone, aop, needs, ext, aev, aconst, aput, aupd, aload, afieldAddr, tab_41, tab_43, ok1, cellsAs, TI.agg, AV.cells, AV.whole, Y4, Yb, Yc, Y6, Y7, Ya, Y9, Y1, Y2, Yi, Yh, Yg, Yk, Y5, Y3, Yt, Ys, Yr, Nat.reduceAdd, Yp, Bool.true_and, Bool.not_false, Yv, Y0, Y8]
      ((repeat' apply And.intro) <;> try first | rfl | omega | (unfold I64; omega))
      refine Ops.pure .free rfl rfl (hc) (by simp only [textsA, aev, Y4, Y1, Y2, Yf, Ye, Y3, Yd, Y0]; (repeat' first | exact .refl _ | apply LeR.tup | apply Le.agg | constructor)) rfl rfl ?_
      refine Ops.god tab_ok follows_ok Try.func58 60 ?_; simp only [Try.results58, h1, h1', decide_false, ↓alts_t, ↓alts_f, ↓gone_tt, ↓gone_tf, gslot, drun, aops, aone, afin, ares, aresL, ares1, aresOk, aresOk1, aop, needs, ext, aev, aconst, aput, aupd, aload, afieldAddr, acmp, ashift, abin, alen, tab_3, tab_9, tab_43, ok1, cellsAs, TI.agg, Y4, Yb, Yc, Y6, Y7, Ya, Y9, Y1, Y2, Yw, Yi, Yh, Yg, Yj, Y5, Y3, Yt, Yu, Ys, Yr, Nat.reduceAdd, Nat.reduceLeDiff, Yp, Bool.false_and, Bool.not_false, Y0, Y8]
      ((repeat' apply And.intro) <;> try first | rfl | omega | (unfold I64; omega))
      (repeat' first | exact .refl _ | apply LeR.tup | apply Le.agg | constructor)
end Go.Proofs.Ytkamcoechjdgpaa
/-
  Package wire: what is alike.
-/
namespace Go.Proofs.Ytkamcoechjdgpaa
open Go.RowKit
theorem drop_at' {α : Type} {l : List α} {k : Nat} {x : α} (hx : l[k]? = some x) : l.drop k = x :: l.drop (k + 1) := by
  obtain ⟨h1, rfl⟩ := List.getElem?_eq_some_iff.1 hx
  exact List.drop_eq_getElem_cons h1
theorem drop_eqW {α : Type} {l m : List α} {k : Nat} {x y : α} (hx : l[k]? = some x) (hy : m[k]? = some y) : l.drop k = m.drop k ↔ x = y ∧ l.drop (k + 1) = m.drop (k + 1) := by
  rw [drop_at' hx, drop_at' hy, List.cons.injEq]
theorem acc_eq (x y : Acc) : x = y ↔ (x.by_ = y.by_ ∧ x.view = y.view ∧ x.value = y.value) := by
  cases x; cases y; simp
theorem dec_eq {p q : Prop} [Decidable p] [Decidable q] (h : p ↔ q) : decide p = decide q := by
  by_cases hp : p
  · simp [hp, h.1 hp]
  · have hq : ¬ q := fun hq => hp (h.2 hq)
    simp [hp, hq]
theorem equalA_spec (l m : List Acc) (hl : l.length ≤ 281474976710656) : ASpec Try.prog 84 [votesA l, votesA m] (.bool (decide (l = m))) := by
  by_cases hlm : l.length = m.length
  · have hlm' : (l.length : Int) = m.length := by omega
    refine ⟨⟨_, Try.func84, by kernel_rfl, rfl⟩, ACall.of Try.func84 rfl fun c0 hc0 => ?_⟩; simp only [Try.ntmps84, Ya, Y9, Nat.reduceAdd, Nat.reduceSub, Ym, Yn, Y5, Y3]; refine Run.god tab_ok follows_ok Try.func84 60 ?_; simp only [votesA, Yo, hlm', decide_true, ↓alt_f, drun, aops, aone, aop, needs, ext, aev, aconst, aput, aupd, acmp, ashift, abin, alen, tab_3, tab_78, ok1, Y4, Yb, Y6, Y7, Y1, Y2, Y3, Yt, Ys, Yr, Bool.not_true, Y0, Y8]
    refine Run.loopV (α := Nat) (fun k => k ≤ m.length ∧ decide (l = m) = decide (l.drop k = m.drop k)) (fun k => [(13, .int .i64 k)]) 0 (fun _ => []) (fun k => m.length - k) 0 ⟨Nat.zero_le _, rfl⟩ ?_ ?_
    · simp only [writes, junks, puts, hputs, List.filterMap_cons, List.filterMap_nil, Int.natCast_zero, Y6, Y7, Yk, Y5, Y3, Yd]
      (refine Weak.of (by simp [hc0]) ?_ ?_ <;> (repeat' first | exact .refl _ | exact .junk _ | exact .nil | exact .nil _ | exact .tok _ _ _ | rfl | apply WkT.cons | apply WkH.cons | apply LeB.same | apply LeB.box | apply Le1L.cons | apply Le.agg | apply Le.one))
    · rintro k ⟨hI, hrd⟩ ih
      simp only [writes, junks, puts, hputs, List.filterMap_cons, List.filterMap_nil, Y6, Y7, Yk, Y5, Y3, Yd] at ih ⊢
      by_cases hk : k < m.length
      · obtain ⟨x, hx⟩ : ∃ x, l[k]? = some x := ⟨_, List.getElem?_eq_getElem (by omega)⟩
        obtain ⟨y, hy⟩ : ∃ y, m[k]? = some y := ⟨_, List.getElem?_eq_getElem hk⟩
        have hkk : (k : Int) < m.length := by omega
        rw [dec_eq (drop_eqW hx hy)] at hrd
        have hd := acc_eq x y
        by_cases h1 : x.by_ = y.by_
        · by_cases h2 : x.view = y.view
          · by_cases h3 : x.value = y.value
            · have e : x = y := hd.2 ⟨h1, h2, h3⟩
              refine Run.god tab_ok follows_ok Try.func84 60 ?_; simp only [hx, hy, hkk, h1, h2, h3, accC, List.getElem?_map, Yo, decide_true, ↓alt_t, ↓alt_f, drun, adops, adone, places, mayNeed, freeOk, rdOf, AV.id, wrOf, aops, aone, aop, needs, ext, aev, aconst, aput, aupd, aload, aindexAddr, acmp, aarith, ashift, aeqs, abin, tab_3, tab_77, tab_78, ok1, cellsAs, TI.agg, Y4, Yb, Yc, Y6, Y7, Ya, Y9, Y1, Y2, Yg, Yk, Y5, Y3, Yd, Yt, Yu, Ys, Yr, Nat.reduceAdd, Yp, Bool.true_and, Bool.not_true, Nat.reduceLT, Yv, Int.toNat_natCast, Y0, Y8]
              ((repeat' apply And.intro) <;> try first | rfl | omega | (unfold I64; omega))
              refine ih (k + 1) _ ⟨by omega, ?_⟩ (by omega) ?_
              · rw [hrd]; simp [e]
              · simp only [Int.natCast_add, Int.natCast_one]
                (refine Weak.of (by simp [hc0]) ?_ ?_ <;> (repeat' first | exact .refl _ | exact .junk _ | exact .nil | exact .nil _ | exact .tok _ _ _ | rfl | apply WkT.cons | apply WkH.cons | apply LeB.same | apply LeB.box | apply Le1L.cons | apply Le.agg | apply Le.one))
            · have e : ¬ x = y := fun e => h3 (hd.1 e).2.2
              refine Run.god tab_ok follows_ok Try.func84 60 ?_; simp only [Try.results84, hx, hy, hkk, h1, h2, h3, accC, List.getElem?_map, Yo, decide_true, decide_false, ↓alt_t, drun, adops, adone, places, mayNeed, freeOk, rdOf, AV.id, wrOf, aops, aone, afin, ares, aresL, ares1, aresOk, aresOk1, aop, needs, ext, aev, aconst, aput, aupd, aload, aindexAddr, acmp, ashift, aeqs, abin, tab_3, tab_77, tab_78, ok1, cellsAs, TI.agg, Y4, Yb, Yc, Y6, Y7, Ya, Y9, Y1, Y2, Yg, Yk, Y5, Y3, Yd, Yt, Yu, Ys, Yr, Nat.reduceAdd, Yp, Bool.true_and, Bool.false_and, Bool.not_false, Nat.reduceLT, Yv, Int.toNat_natCast, Y0, Y8]
              ((repeat' apply And.intro) <;> try first | rfl | omega | (unfold I64; omega))
              rw [hrd, decide_eq_false (fun h => e h.1)]
              (repeat' first | exact .refl _ | apply LeR.tup | apply Le.agg | constructor)
          · have e : ¬ x = y := fun e => h2 (hd.1 e).2.1
            refine Run.god tab_ok follows_ok Try.func84 60 ?_; simp only [Try.results84, hx, hy, hkk, h1, h2, accC, List.getElem?_map, Yo, decide_true, decide_false, ↓alt_t, drun, adops, adone, places, mayNeed, freeOk, rdOf, AV.id, wrOf, aops, aone, afin, ares, aresL, ares1, aresOk, aresOk1, aop, needs, ext, aev, aconst, aput, aupd, aload, aindexAddr, acmp, ashift, aeqs, abin, tab_3, tab_77, tab_78, ok1, cellsAs, TI.agg, Y4, Yb, Yc, Y6, Y7, Ya, Y9, Y1, Y2, Yg, Yk, Y5, Y3, Yd, Yt, Yu, Ys, Yr, Nat.reduceAdd, Yp, Bool.and_true, Bool.true_and, Bool.false_and, Bool.not_false, Nat.reduceLT, Yv, Int.toNat_natCast, Y0, Y8]
            ((repeat' apply And.intro) <;> try first | rfl | omega | (unfold I64; omega))
            rw [hrd, decide_eq_false (fun h => e h.1)]
            (repeat' first | exact .refl _ | apply LeR.tup | apply Le.agg | constructor)
        · have e : ¬ x = y := fun e => h1 (hd.1 e).1
          refine Run.god tab_ok follows_ok Try.func84 60 ?_; simp only [Try.results84, hx, hy, hkk, h1, accC, List.getElem?_map, Yo, decide_true, decide_false, ↓alt_t, drun, adops, adone, places, mayNeed, freeOk, rdOf, AV.id, wrOf, aops, aone, afin, ares, aresL, ares1, aresOk, aresOk1, aop, needs, ext, aev, aconst, aput, aupd, aload, aindexAddr, acmp, ashift, aeqs, abin, tab_3, tab_77, tab_78, ok1, cellsAs, TI.agg, Y4, Yb, Yc, Y6, Y7, Ya, Y9, Y1, Y2, Yg, Yk, Y5, Y3, Yd, Yt, Yu, Ys, Yr, Nat.reduceAdd, Yp, Bool.and_true, Bool.false_and, Bool.not_false, Nat.reduceLT, Yv, Int.toNat_natCast, Y0, Y8]
          ((repeat' apply And.intro) <;> try first | rfl | omega | (unfold I64; omega))
          rw [hrd, decide_eq_false (fun h => e h.1)]
          (repeat' first | exact .refl _ | apply LeR.tup | apply Le.agg | constructor)
      · obtain rfl : k = m.length := by omega
        have hkk : ¬ (m.length : Int) < m.length := by omega
        refine Run.god tab_ok follows_ok Try.func84 60 ?_; simp only [Try.results84, hkk, ↓alt_f, drun, aops, aone, afin, ares, aresL, ares1, aresOk, aresOk1, aop, needs, ext, aev, aconst, aput, aupd, acmp, ashift, abin, tab_3, ok1, exitTo, Y4, Yb, Yc, Y6, Y7, Y1, Y2, Y3, Yt, Yu, Ys, Yr, beq_self_eq_true, decide_false, Y0, Y8]
        rw [hrd, decide_eq_true (by rw [List.drop_length, ← hlm, List.drop_length])]
        (repeat' first | exact .refl _ | apply LeR.tup | apply Le.agg | constructor)
  · have hlm' : ¬ (l.length : Int) = m.length := by omega
    have e : ¬ l = m := fun h => hlm (by rw [h])
    refine ⟨⟨_, Try.func84, by kernel_rfl, rfl⟩, ACall.of Try.func84 rfl fun c0 hc0 => ?_⟩; simp only [Try.ntmps84, Ya, Y9, Nat.reduceAdd, Nat.reduceSub, Ym, Yn, Y5, Y3]; refine Run.god tab_ok follows_ok Try.func84 60 ?_; simp only [Try.results84, votesA, Yo, hlm', decide_false, ↓alt_t, drun, aops, aone, afin, ares, aresL, ares1, aresOk, aresOk1, aop, needs, ext, aev, aconst, aput, aupd, acmp, ashift, abin, alen, tab_3, tab_78, ok1, Y4, Yb, Yc, Y6, Y7, Y1, Y2, Y3, Yt, Yu, Ys, Yr, Bool.not_false, Y0, Y8]
    rw [decide_eq_false e]
    (repeat' first | exact .refl _ | apply LeR.tup | apply Le.agg | constructor)
theorem same18_spec (l m : List Acc) (hl : l.length ≤ 281474976710656) : ASpec Try.prog 66 [votesA l, votesA m] (.bool (decide (l = m))) := by
  have hs := equalA_spec l m hl
  refine ⟨⟨_, Try.func66, by kernel_rfl, rfl⟩, ACall.of Try.func66 rfl fun c0 hc0 => ?_⟩; simp only [Try.ntmps66, Ya, Y9, Nat.reduceAdd, Nat.reduceSub, Ym, Yn, Y5, Y3]; refine Run.god tab_ok follows_ok Try.func66 60 ?_; simp only [votesA, drun, aops, aone, aop, needs, ext, aev, aconst, aput, aupd, ok1, Y4, Y6, Y7, Y1, Y2, Y3, Yt, Yr, Nat.reduceAdd, Yp, Y0, Y8]
  refine Ops.pure .free rfl rfl (hs) (by simp only [votesA, aev, Y4, Y1, Y2, Yf, Ye, Y3, Yd, Y0]; (repeat' first | exact .refl _ | apply LeR.tup | apply Le.agg | constructor)) rfl rfl ?_
  refine Ops.god tab_ok follows_ok Try.func66 60 ?_; simp only [Try.results66, drun, aops, aone, afin, ares, aresL, ares1, aresOk, aresOk1, aop, needs, ext, aev, aput, aupd, ok1, Y4, Yb, Yc, Y6, Y7, Y1, Y2, Y3, Yt, Yu, Yr, Y0, Y8]
  (repeat' first | exact .refl _ | apply LeR.tup | apply Le.agg | constructor)
theorem sameOne_spec (r q : Rp) (hl : r.proof.length ≤ 281474976710656) : ASpec Try.prog 83 [encRp r, encRp q] (.bool (decide (r = q))) := by
  obtain ⟨b, f, h, v, x, p⟩ := r
  obtain ⟨b', f', h', v', x', p'⟩ := q
  have hs := same18_spec p p' hl
  refine ⟨⟨_, Try.func83, by kernel_rfl, rfl⟩, ACall.of Try.func83 rfl fun c0 hc0 => ?_⟩; simp only [Try.ntmps83, Ya, Y9, Nat.reduceAdd, Nat.reduceSub, Ym, Yn, Y5, Y3]; refine Run.god tab_ok follows_ok Try.func83 60 ?_; simp (config := { maxSteps := 2000000 }) +contextual only [Try.results83, encRp, rpC, votesA, Rp.mk.injEq, beq_iff_eq, beq_eq_false_iff_ne, ne_eq, ↓alts_t, ↓alts_f, alts, ↓gone_tt, ↓gone_tf, gslot, drun, aops, aone, afin, ares, aresL, ares1, aresOk, aresOk1, aop, needs, ext, aev, aconst, aput, aupd, aload, afieldAddr, acmp, ashift, abin, tab_3, tab_4, tab_9, tab_78, tab_80, ok1, cellsAs, TI.agg, AV.cells, AV.whole, Y4, Yb, Yc, Y6, Y7, Ya, Y9, Y1, Y2, Yw, Yi, Yh, Yg, Yj, Yk, Y5, Y3, Yt, Yu, Ys, Yr, Nat.reduceAdd, Nat.reduceLeDiff, Yp, Yq, beq_self_eq_true, decide_eq_true_eq, decide_eq_false_iff_not, decide_true, decide_false, Yv, Y0, Y8]
  (repeat' (first | (intro _) | (apply And.intro)))
  all_goals try (first | rfl | (repeat' first | exact .refl _ | exact .nil | exact .nil _ | exact .tok _ _ _ | apply LeR.tup | apply LeL.cons | apply Le1L.cons | apply Le.agg | apply Le.one | apply LeR.one))
  refine Ops.pure (Wanted.test 33 true true rfl) rfl rfl (hs) (by simp only [votesA, aev, Y4, Y1, Y2, Yf, Ye, Y3, Yd, Y0]; (repeat' first | exact .refl _ | apply LeR.tup | apply Le.agg | constructor)) rfl rfl ?_
  refine Ops.god tab_ok follows_ok Try.func83 60 ?_; simp only [Try.results83, drun, aops, aone, afin, ares, aresL, ares1, aresOk, aresOk1, aop, needs, ext, aev, aput, aupd, ok1, Y4, Yb, Yc, Y6, Y7, Y1, Y2, Y5, Y3, Yt, Yu, Yr, Y0, Y8]
  (repeat' first | exact .refl _ | apply LeR.tup | apply Le.agg | constructor)
theorem equalF_spec (l m : List Rp) (hl : ∀ r ∈ l, r.proof.length ≤ 281474976710656) (hll : l.length ≤ 281474976710656) : ASpec Try.prog 82 [rpsA l, rpsA m, .fn (.func 83) [] []] (.bool (decide (l = m))) := by
  by_cases hlm : l.length = m.length
  · have hlm' : (l.length : Int) = m.length := by omega
    refine ⟨⟨_, Try.func82, by kernel_rfl, rfl⟩, ACall.of Try.func82 rfl fun c0 hc0 => ?_⟩; simp only [Try.ntmps82, Ya, Y9, Nat.reduceAdd, Nat.reduceSub, Ym, Yn, Y5, Y3]; refine Run.god tab_ok follows_ok Try.func82 60 ?_; simp only [rpsA, Yo, hlm', decide_true, ↓alt_f, drun, aops, aone, aop, needs, ext, aev, aconst, aput, aupd, acmp, ashift, abin, alen, tab_3, tab_75, ok1, Y4, Yb, Y6, Y7, Y1, Y2, Y3, Yt, Ys, Yr, Bool.not_true, Y0, Y8]
    refine Run.loopV (α := Nat) (fun k => k ≤ m.length ∧ decide (l = m) = decide (l.drop k = m.drop k)) (fun k => [(17, .int .i64 k)]) 0 (fun _ => []) (fun k => m.length - k) 0 ⟨Nat.zero_le _, rfl⟩ ?_ ?_
    · simp only [writes, junks, puts, hputs, List.filterMap_cons, List.filterMap_nil, Int.natCast_zero, Y6, Y7, Yk, Y5, Y3, Yd]
      (refine Weak.of (by simp [hc0]) ?_ ?_ <;> (repeat' first | exact .refl _ | exact .junk _ | exact .nil | exact .nil _ | exact .tok _ _ _ | rfl | apply WkT.cons | apply WkH.cons | apply LeB.same | apply LeB.box | apply Le1L.cons | apply Le.agg | apply Le.one))
    · rintro k ⟨hI, hrd⟩ ih
      simp only [writes, junks, puts, hputs, List.filterMap_cons, List.filterMap_nil, Y6, Y7, Yk, Y5, Y3, Yd] at ih ⊢
      by_cases hk : k < m.length
      · obtain ⟨x, hx⟩ : ∃ x, l[k]? = some x := ⟨_, List.getElem?_eq_getElem (by omega)⟩
        obtain ⟨y, hy⟩ : ∃ y, m[k]? = some y := ⟨_, List.getElem?_eq_getElem hk⟩
        have hkk : (k : Int) < m.length := by omega
        rw [dec_eq (drop_eqW hx hy)] at hrd
        have hs := sameOne_spec x y (hl x (List.mem_of_getElem? hx))
        by_cases h1 : x = y
        · rw [decide_eq_true h1] at hs
          refine Run.god tab_ok follows_ok Try.func82 60 ?_; simp only [hx, hy, hkk, hlm', rpC, List.getElem?_map, Yo, ↓alt_t, drun, aops, aone, aop, needs, ext, aev, aput, aupd, aload, astore, aindexAddr, acmp, ashift, abin, tab_3, tab_75, tab_80, ok1, lay, cellsAs, TI.agg, AV.cells, AV.whole, Y4, Yb, Yc, Y6, Y7, Ya, Y9, Y1, Y2, Yi, Yh, Yg, Yj, Yk, Yl, Y5, Y3, Yd, Yt, Yu, Ys, Yr, Nat.reduceAdd, Yp, decide_true, Nat.reduceLT, Yv, Int.toNat_natCast, Y0, Y8]
          ((repeat' apply And.intro) <;> try first | rfl | omega | (unfold I64; omega))
          refine Ops.pure .free rfl rfl (hs) (by simp only [encRp, rpC, aev, Y4, Y1, Y2, Yf, Ye, Y3, Yd, Y0]; (repeat' first | exact .refl _ | apply LeR.tup | apply Le.agg | constructor)) rfl rfl ?_
          refine Ops.god tab_ok follows_ok Try.func82 60 ?_; simp only [↓alt_f, drun, aops, aone, aop, needs, ext, aev, aconst, aput, aupd, acmp, aarith, ashift, abin, tab_3, ok1, Y4, Yb, Y6, Y7, Y1, Y2, Y5, Y3, Yt, Ys, Yr, Bool.not_true, Y0, Y8]
          ((repeat' apply And.intro) <;> try first | rfl | omega | (unfold I64; omega))
          refine ih (k + 1) _ ⟨by omega, ?_⟩ (by omega) ?_
          · rw [hrd]; simp [h1]
          · simp only [Int.natCast_add, Int.natCast_one]
            (refine Weak.of (by simp [hc0]) ?_ ?_ <;> (repeat' first | exact .refl _ | exact .junk _ | exact .nil | exact .nil _ | exact .tok _ _ _ | rfl | apply WkT.cons | apply WkH.cons | apply LeB.same | apply LeB.box | apply Le1L.cons | apply Le.agg | apply Le.one))
        · rw [decide_eq_false h1] at hs
          refine Run.god tab_ok follows_ok Try.func82 60 ?_; simp only [hx, hy, hkk, hlm', rpC, List.getElem?_map, Yo, ↓alt_t, drun, aops, aone, aop, needs, ext, aev, aput, aupd, aload, astore, aindexAddr, acmp, ashift, abin, tab_3, tab_75, tab_80, ok1, lay, cellsAs, TI.agg, AV.cells, AV.whole, Y4, Yb, Yc, Y6, Y7, Ya, Y9, Y1, Y2, Yi, Yh, Yg, Yj, Yk, Yl, Y5, Y3, Yd, Yt, Yu, Ys, Yr, Nat.reduceAdd, Yp, decide_true, Nat.reduceLT, Yv, Int.toNat_natCast, Y0, Y8]
          ((repeat' apply And.intro) <;> try first | rfl | omega | (unfold I64; omega))
          refine Ops.pure .free rfl rfl (hs) (by simp only [encRp, rpC, aev, Y4, Y1, Y2, Yf, Ye, Y3, Yd, Y0]; (repeat' first | exact .refl _ | apply LeR.tup | apply Le.agg | constructor)) rfl rfl ?_
          refine Ops.god tab_ok follows_ok Try.func82 60 ?_; simp only [Try.results82, ↓alt_t, drun, aops, aone, afin, ares, aresL, ares1, aresOk, aresOk1, aop, needs, ext, aev, aconst, aput, aupd, ok1, Y4, Yb, Yc, Y6, Y7, Y1, Y2, Y5, Y3, Yt, Yu, Yr, Bool.not_false, Y0, Y8]
          rw [hrd, decide_eq_false (fun h => h1 h.1)]
          ((repeat' apply And.intro) <;> try first | rfl | omega | (unfold I64; omega))
          (repeat' first | exact .refl _ | apply LeR.tup | apply Le.agg | constructor)
      · obtain rfl : k = m.length := by omega
        have hkk : ¬ (m.length : Int) < m.length := by omega
        refine Run.god tab_ok follows_ok Try.func82 60 ?_; simp only [Try.results82, hkk, ↓alt_f, drun, aops, aone, afin, ares, aresL, ares1, aresOk, aresOk1, aop, needs, ext, aev, aconst, aput, aupd, acmp, ashift, abin, tab_3, ok1, exitTo, Y4, Yb, Yc, Y6, Y7, Y1, Y2, Y3, Yt, Yu, Ys, Yr, beq_self_eq_true, decide_false, Y0, Y8]
        rw [hrd, decide_eq_true (by rw [List.drop_length, ← hlm, List.drop_length])]
        (repeat' first | exact .refl _ | apply LeR.tup | apply Le.agg | constructor)
  · have hlm' : ¬ (l.length : Int) = m.length := by omega
    have e : ¬ l = m := fun h => hlm (by rw [h])
    refine ⟨⟨_, Try.func82, by kernel_rfl, rfl⟩, ACall.of Try.func82 rfl fun c0 hc0 => ?_⟩; simp only [Try.ntmps82, Ya, Y9, Nat.reduceAdd, Nat.reduceSub, Ym, Yn, Y5, Y3]; refine Run.god tab_ok follows_ok Try.func82 60 ?_; simp only [Try.results82, rpsA, Yo, hlm', decide_false, ↓alt_t, drun, aops, aone, afin, ares, aresL, ares1, aresOk, aresOk1, aop, needs, ext, aev, aconst, aput, aupd, acmp, ashift, abin, alen, tab_3, tab_75, ok1, Y4, Yb, Yc, Y6, Y7, Y1, Y2, Y3, Yt, Yu, Ys, Yr, Bool.not_false, Y0, Y8]
    rw [decide_eq_false e]
    (repeat' first | exact .refl _ | apply LeR.tup | apply Le.agg | constructor)
theorem sameRps_spec (l m : List Rp) (hl : ∀ r ∈ l, r.proof.length ≤ 281474976710656) (hll : l.length ≤ 281474976710656) : ASpec Try.prog 64 [rpsA l, rpsA m] (.bool (decide (l = m))) := by
  have hs := equalF_spec l m hl hll
  refine ⟨⟨_, Try.func64, by kernel_rfl, rfl⟩, ACall.of Try.func64 rfl fun c0 hc0 => ?_⟩; simp only [Try.ntmps64, Ya, Y9, Nat.reduceAdd, Nat.reduceSub, Ym, Yn, Y5, Y3]; refine Run.god tab_ok follows_ok Try.func64 60 ?_; simp only [rpsA, drun, aops, aone, aop, needs, ext, aev, aconst, aput, aupd, ok1, Y4, Y6, Y7, Y1, Y2, Y3, Yt, Yr, Nat.reduceAdd, Yp, Y0, Y8]
  refine Ops.pure .free rfl rfl (hs) (by simp only [rpsA, aev, Y4, Y1, Y2, Yf, Ye, Y3, Yd, Y0]; (repeat' first | exact .refl _ | apply LeR.tup | apply Le.agg | constructor)) rfl rfl ?_
  refine Ops.god tab_ok follows_ok Try.func64 60 ?_; simp only [Try.results64, drun, aops, aone, afin, ares, aresL, ares1, aresOk, aresOk1, aop, needs, ext, aev, aput, aupd, ok1, Y4, Yb, Yc, Y6, Y7, Y1, Y2, Y3, Yt, Yu, Yr, Y0, Y8]
  (repeat' first | exact .refl _ | apply LeR.tup | apply Le.agg | constructor)
theorem clipR_spec (l : List Rp) : OSpec Try.prog 65 [rpsA l] 6 (l.map rpC) := by
  refine ⟨⟨_, Try.func65, by kernel_rfl, rfl⟩, ?_⟩
  have hll : (l.map rpC).length = l.length := by simp
  have htk : (l.map rpC).take l.length = l.map rpC := by rw [← hll]; exact List.take_length
  refine ACall.of Try.func65 rfl fun c1 hc1 => ?_; simp only [Try.ntmps65, Ya, Y9, Nat.reduceAdd, Nat.reduceSub, Ym, Yn, Y5, Y3]; refine Run.god tab_ok follows_ok Try.func65 60 ?_; simp only [Try.results65, rpsA, Yo, htk, aslice3, drun, aops, aone, afin, ares, aresL, ares1, aresOk, aresOk1, aop, needs, ext, aev, aconst, aput, aupd, alen, tab_75, tab_80, ok1, Y4, Yb, Yc, Option.map_none, Y6, Y7, Y9, Y1, Y2, Y5, Y3, Yt, Yu, Ys, Yr, Int.toNat_natCast, Y0, Option.isSome_some, Y8]
  ((repeat' apply And.intro) <;> try first | rfl | omega | (unfold I64; omega))
  exact ⟨_, rfl, rfl⟩
end Go.Proofs.Ytkamcoechjdgpaa
/-
  Package wire: letters held against each other.
-/
namespace Go.Proofs.Ytkamcoechjdgpaa
open Go.RowKit
theorem let_len (l : Ltr) (h : l.sum.length = 32) : (letC l).length = 62 := by
  simp [letC, letT, accC, rpC, ordC, rplC, sumC, h]
theorem let_full (l : Ltr) (h : l.sum.length = 32) : (letC l).take 62 = letC l := List.take_of_length_le (by rw [let_len l h]; exact Nat.le_refl _)
theorem let_0 (l : Ltr) : (letC l).take 1 = [.int .i64 l.kind] := rfl
theorem let_1 (l : Ltr) : ((letC l).drop 1).take 1 = [.int .i64 l.frm] := rfl
theorem let_2 (l : Ltr) : ((letC l).drop 2).take 1 = [.int .i64 l.slot] := rfl
theorem let_3 (l : Ltr) : ((letC l).drop 3).take 1 = [.int .i64 l.view] := rfl
theorem let_4 (l : Ltr) : ((letC l).drop 4).take 1 = [.str l.value] := rfl
theorem let_5 (l : Ltr) : ((letC l).drop 5).take 1 = [rpsA l.cert] := rfl
theorem let_6 (l : Ltr) : ((letC l).drop 6).take 3 = accC l.vote := rfl
theorem let_8 (l : Ltr) : ((letC l).drop 8).take 1 = [.str l.vote.value] := rfl
theorem let_9 (l : Ltr) : ((letC l).drop 9).take 1 = [votesA l.proof] := rfl
theorem let_10 (l : Ltr) : ((letC l).drop 10).take 6 = rpC l.r := rfl
theorem let_16 (l : Ltr) (h : l.sum.length = 32) : ((letC l).drop 16).take 32 = sumC l.sum := by
  show (sumC l.sum ++ (ordC l.o ++ rplC l.x)).take 32 = _
  exact List.take_left' (by simp [sumC, h])
theorem let_48 (l : Ltr) (h : l.sum.length = 32) : ((letC l).drop 48).take 8 = ordC l.o := by
  have := let_drop47 l h
  rw [show (letC l).drop 48 = (letT l).drop 47 from rfl, this]
  exact List.take_left' rfl
theorem let_56 (l : Ltr) (h : l.sum.length = 32) : ((letC l).drop 56).take 6 = rplC l.x := by
  have := let_drop55 l h
  rw [show (letC l).drop 56 = (letT l).drop 55 from rfl, this]
  rfl
theorem accV_eq (a b : Acc) : aeqs [.int .i64, .int .i64, .str] (accC a) (accC b) = some (decide (a = b)) := by
  obtain ⟨x, y, z⟩ := a
  obtain ⟨x', y', z'⟩ := b
  simp only [accC, aeqs, Acc.mk.injEq]
  simp
theorem ordV_eq (a b : Ord) : aeqs [.int .i64, .int .i64, .int .i64, .str, .str, .int .i64, .int .i64, .int .i64] (ordC a) (ordC b) = some (decide (a = b)) := by
  obtain ⟨i, j, k, s, t, x, y, z⟩ := a
  obtain ⟨i', j', k', s', t', x', y', z'⟩ := b
  simp only [ordC, aeqs, Ord.mk.injEq]
  simp
theorem sumV_eq' : ∀ (n : Nat) (a b : Bytes), a.length = n → b.length = n → aeqs (List.replicate n (.int .u8)) (sumC a) (sumC b) = some (decide (a = b))
  | 0, a, b, ha, hb => by
    obtain rfl := List.eq_nil_of_length_eq_zero ha
    obtain rfl := List.eq_nil_of_length_eq_zero hb
    rfl
  | n + 1, a, b, ha, hb => by
    match a, b, ha, hb with
    | x :: a, y :: b, ha, hb =>
      have ih := sumV_eq' n a b (by simpa using ha) (by simpa using hb)
      simp only [sumC] at ih
      simp only [Ym, sumC, Yf, aeqs, ih, List.cons.injEq, Int.ofNat_inj, UInt8.toNat_inj]
      simp
theorem sumV_eq (a b : Bytes) (ha : a.length = 32) (hb : b.length = 32) : aeqs [.int .u8, .int .u8, .int .u8, .int .u8, .int .u8, .int .u8, .int .u8, .int .u8, .int .u8, .int .u8, .int .u8, .int .u8, .int .u8, .int .u8, .int .u8, .int .u8, .int .u8, .int .u8, .int .u8, .int .u8, .int .u8, .int .u8, .int .u8, .int .u8, .int .u8, .int .u8, .int .u8, .int .u8, .int .u8, .int .u8, .int .u8, .int .u8] (sumC a) (sumC b) = some (decide (a = b)) := sumV_eq' 32 a b ha hb
instance : DecidableEq Ltr := fun a b => decidable_of_iff (a.kind = b.kind ∧ a.frm = b.frm ∧ a.slot = b.slot ∧ a.view = b.view ∧ a.value = b.value ∧ a.cert = b.cert ∧ a.vote = b.vote ∧ a.proof = b.proof ∧ a.r = b.r ∧ a.sum = b.sum ∧ a.o = b.o ∧ a.x = b.x) (by cases a; cases b; simp)
theorem Ltr.ne {l m : Ltr} (h : ¬ (l.kind = m.kind ∧ l.frm = m.frm ∧ l.slot = m.slot ∧ l.view = m.view ∧ l.value = m.value ∧ l.vote = m.vote ∧ l.sum = m.sum ∧ l.o = m.o ∧ l.cert ++ [l.r] = m.cert ++ [m.r] ∧ l.proof = m.proof ∧ l.x = m.x)) : decide (l = m) = false := by
  rw [decide_eq_false_iff_not]
  rintro rfl
  exact h ⟨rfl, rfl, rfl, rfl, rfl, rfl, rfl, rfl, rfl, rfl, rfl⟩
theorem Ltr.eq {l m : Ltr} (h1 : l.kind = m.kind) (h2 : l.frm = m.frm) (h3 : l.slot = m.slot) (h4 : l.view = m.view) (h5 : l.value = m.value) (h6 : l.vote = m.vote) (h7 : l.sum = m.sum) (h8 : l.o = m.o) (h9 : l.cert ++ [l.r] = m.cert ++ [m.r]) (h10 : l.proof = m.proof) : decide (l = m) = decide (l.x = m.x) := by
  obtain ⟨h9a, h9b⟩ := List.append_inj' h9 rfl
  simp only [List.cons.injEq, Yu] at h9b
  by_cases h : l.x = m.x
  · rw [decide_eq_true h, decide_eq_true_eq]
    obtain ⟨⟩ := l
    obtain ⟨⟩ := m
    simp only at *
    subst h1 h2 h3 h4 h5 h6 h7 h8 h9a h9b h10 h
    rfl
  · rw [decide_eq_false h, decide_eq_false_iff_not]
    rintro rfl
    exact h rfl
end Go.Proofs.Ytkamcoechjdgpaa
/-
  Package wire's letters: what is taken is what was written, and what is written is taken as it was. No program in sight.
-/
namespace Go.Proofs.Ytkamcoechjdgpaa
open Go.RowKit
theorem zI : I64 0 := by unfold I64; omega
theorem zTx : ([] : Bytes).length ≤ 6000 := by decide
theorem zSA : SA zA := ⟨zI, zI, zTx⟩
theorem zSV : SV [] := ⟨by decide, fun a ha => absurd ha (by simp)⟩
theorem zSC : SC [] := ⟨by decide, fun a ha => absurd ha (by simp)⟩
theorem zSR : SR ⟨0, 0, false, 0, [], []⟩ := ⟨zI, zI, zI, zTx, zSV⟩
theorem zSO : smO zO := ⟨zI, zI, zI, zI, zI, zI, by decide, by decide⟩
theorem zSX : SX zX := ⟨zI, zI, zI, by decide, by decide, by decide, fun a ha => absurd ha (by simp [zX])⟩
def useL (l : Ltr) : Ltr :=
  if l.kind = 1 then { zL with kind := 1, frm := l.frm, slot := l.slot, view := l.view, value := l.value, cert := l.cert } else
  if l.kind = 2 then { zL with kind := 2, slot := l.slot, vote := l.vote } else
  if l.kind = 3 then { zL with kind := 3, frm := l.frm, slot := l.slot, proof := l.proof } else
  if l.kind = 4 then { zL with kind := 4, slot := l.slot, r := l.r } else
  if l.kind = 5 then { zL with kind := 5, frm := l.frm, slot := l.slot, value := l.value } else
  if l.kind = 6 then { zL with kind := 6, frm := l.frm, view := l.view } else
  if l.kind = 7 then { zL with kind := 7, frm := l.frm, slot := l.slot, sum := l.sum } else
  if l.kind = 8 then { zL with kind := 8, o := l.o } else
  if l.kind = 9 then { zL with kind := 9, frm := l.frm, x := l.x } else
  if l.kind = 10 then { zL with kind := 10, frm := l.frm, slot := l.slot } else
  { zL with kind := l.kind }
theorem useL_1 (l : Ltr) (h : l.kind = 1) : useL l = { zL with kind := 1, frm := l.frm, slot := l.slot, view := l.view, value := l.value, cert := l.cert } := by
  unfold useL
  rw [if_pos h]
theorem useL_2 (l : Ltr) (h : l.kind = 2) : useL l = { zL with kind := 2, slot := l.slot, vote := l.vote } := by
  unfold useL
  rw [if_neg (by omega), if_pos h]
theorem useL_3 (l : Ltr) (h : l.kind = 3) : useL l = { zL with kind := 3, frm := l.frm, slot := l.slot, proof := l.proof } := by
  unfold useL
  rw [if_neg (by omega), if_neg (by omega), if_pos h]
theorem useL_4 (l : Ltr) (h : l.kind = 4) : useL l = { zL with kind := 4, slot := l.slot, r := l.r } := by
  unfold useL
  rw [if_neg (by omega), if_neg (by omega), if_neg (by omega), if_pos h]
theorem useL_5 (l : Ltr) (h : l.kind = 5) : useL l = { zL with kind := 5, frm := l.frm, slot := l.slot, value := l.value } := by
  unfold useL
  rw [if_neg (by omega), if_neg (by omega), if_neg (by omega), if_neg (by omega), if_pos h]
theorem useL_6 (l : Ltr) (h : l.kind = 6) : useL l = { zL with kind := 6, frm := l.frm, view := l.view } := by
  unfold useL
  rw [if_neg (by omega), if_neg (by omega), if_neg (by omega), if_neg (by omega), if_neg (by omega), if_pos h]
theorem useL_7 (l : Ltr) (h : l.kind = 7) : useL l = { zL with kind := 7, frm := l.frm, slot := l.slot, sum := l.sum } := by
  unfold useL
  rw [if_neg (by omega), if_neg (by omega), if_neg (by omega), if_neg (by omega), if_neg (by omega), if_neg (by omega), if_pos h]
theorem useL_8 (l : Ltr) (h : l.kind = 8) : useL l = { zL with kind := 8, o := l.o } := by
  unfold useL
  rw [if_neg (by omega), if_neg (by omega), if_neg (by omega), if_neg (by omega), if_neg (by omega), if_neg (by omega), if_neg (by omega), if_pos h]
theorem useL_9 (l : Ltr) (h : l.kind = 9) : useL l = { zL with kind := 9, frm := l.frm, x := l.x } := by
  unfold useL
  rw [if_neg (by omega), if_neg (by omega), if_neg (by omega), if_neg (by omega), if_neg (by omega), if_neg (by omega), if_neg (by omega), if_neg (by omega), if_pos h]
theorem useL_10 (l : Ltr) (h : l.kind = 10) : useL l = { zL with kind := 10, frm := l.frm, slot := l.slot } := by
  unfold useL
  rw [if_neg (by omega), if_neg (by omega), if_neg (by omega), if_neg (by omega), if_neg (by omega), if_neg (by omega), if_neg (by omega), if_neg (by omega), if_neg (by omega), if_pos h]
theorem wrB_1 (l : Ltr) (h : l.kind = 1) : wrB l = encN (zig l.frm) ++ encN (zig l.slot) ++ encN (zig l.view) ++ encT l.value ++ rpsB l.cert := by
  unfold wrB
  rw [if_pos h]
theorem wrB_2 (l : Ltr) (h : l.kind = 2) : wrB l = encN (zig l.slot) ++ voteB l.vote := by
  unfold wrB
  rw [if_neg (by omega), if_pos h]
theorem wrB_3 (l : Ltr) (h : l.kind = 3) : wrB l = encN (zig l.frm) ++ encN (zig l.slot) ++ votesB l.proof := by
  unfold wrB
  rw [if_neg (by omega), if_neg (by omega), if_pos h]
theorem wrB_4 (l : Ltr) (h : l.kind = 4) : wrB l = encN (zig l.slot) ++ reportB l.r := by
  unfold wrB
  rw [if_neg (by omega), if_neg (by omega), if_neg (by omega), if_pos h]
theorem wrB_5 (l : Ltr) (h : l.kind = 5) : wrB l = encN (zig l.frm) ++ encN (zig l.slot) ++ encT l.value := by
  unfold wrB
  rw [if_neg (by omega), if_neg (by omega), if_neg (by omega), if_neg (by omega), if_pos h]
theorem wrB_6 (l : Ltr) (h : l.kind = 6) : wrB l = encN (zig l.frm) ++ encN (zig l.view) := by
  unfold wrB
  rw [if_neg (by omega), if_neg (by omega), if_neg (by omega), if_neg (by omega), if_neg (by omega), if_pos h]
theorem wrB_7 (l : Ltr) (h : l.kind = 7) : wrB l = encN (zig l.frm) ++ encN (zig l.slot) ++ l.sum := by
  unfold wrB
  rw [if_neg (by omega), if_neg (by omega), if_neg (by omega), if_neg (by omega), if_neg (by omega), if_neg (by omega), if_pos h]
theorem wrB_8 (l : Ltr) (h : l.kind = 8) : wrB l = putO l.o := by
  unfold wrB
  rw [if_neg (by omega), if_neg (by omega), if_neg (by omega), if_neg (by omega), if_neg (by omega), if_neg (by omega), if_neg (by omega), if_pos h]
theorem wrB_9 (l : Ltr) (h : l.kind = 9) : wrB l = encN (zig l.frm) ++ putR l.x := by
  unfold wrB
  rw [if_neg (by omega), if_neg (by omega), if_neg (by omega), if_neg (by omega), if_neg (by omega), if_neg (by omega), if_neg (by omega), if_neg (by omega), if_pos h]
theorem wrB_10 (l : Ltr) (h : l.kind = 10) : wrB l = encN (zig l.frm) ++ encN (zig l.slot) := by
  unfold wrB
  rw [if_neg (by omega), if_neg (by omega), if_neg (by omega), if_neg (by omega), if_neg (by omega), if_neg (by omega), if_neg (by omega), if_neg (by omega), if_neg (by omega)]
def SL (l : Ltr) : Prop := I64 l.frm ∧ I64 l.slot ∧ I64 l.view ∧ l.value.length ≤ 6000 ∧ SC l.cert ∧ SA l.vote ∧ SV l.proof ∧ SR l.r ∧ l.sum.length = 32 ∧ (l.kind = 8 → mayO l.o = true) ∧ smO l.o ∧ SX l.x
def Good (l : Ltr) : Prop := (1 ≤ l.kind ∧ l.kind ≤ 10) ∧ useL l = l ∧ SL l
theorem only_1 (b : Bytes) (h : okB (q1_5 b).2.1 (q1_5 b).1 = true) : Good (l1 b) ∧ wrB (l1 b) = b := by
  simp only [okB, Bool.and_eq_true, decide_eq_true_eq] at h
  obtain ⟨h5, hr⟩ := h
  obtain ⟨h4, s5, w5⟩ := rdrC.only (b := (q1_4 b).1) (e := (q1_4 b).2.1) h5
  have w5 : rpsB (q1_5 b).2.2 ++ (q1_5 b).1 = (q1_4 b).1 := w5
  obtain ⟨h3, s4, w4⟩ := (rdrT []).only (b := (q1_3 b).1) (e := (q1_3 b).2.1) h4
  have w4 : encT (q1_4 b).2.2 ++ (q1_4 b).1 = (q1_3 b).1 := w4
  obtain ⟨h2, s3, w3⟩ := (rdrN 0).only (b := (q1_2 b).1) (e := (q1_2 b).2.1) h3
  have w3 : encN (zig (q1_3 b).2.2) ++ (q1_3 b).1 = (q1_2 b).1 := w3
  obtain ⟨h1, s2, w2⟩ := (rdrN 0).only (b := (q1_1 b).1) (e := (q1_1 b).2.1) h2
  have w2 : encN (zig (q1_2 b).2.2) ++ (q1_2 b).1 = (q1_1 b).1 := w2
  obtain ⟨_, s1, w1⟩ := (rdrN 0).only (b := b) (e := 0) h1
  have w1 : encN (zig (q1_1 b).2.2) ++ (q1_1 b).1 = b := w1
  rw [hr, List.append_nil] at w5
  refine ⟨⟨⟨by show (1 : Int) ≤ 1; decide, by show (1 : Int) ≤ 10; decide⟩, (useL_1 _ rfl).trans rfl, s1, s2, s3, s4, s5, zSA, zSV, zSR, rfl, fun h => absurd h (by show ¬ (1 : Int) = 8; decide), zSO, zSX⟩, ?_⟩
  rw [wrB_1 _ rfl]
  show encN (zig (q1_1 b).2.2) ++ encN (zig (q1_2 b).2.2) ++ encN (zig (q1_3 b).2.2) ++ encT (q1_4 b).2.2 ++ rpsB (q1_5 b).2.2 = b
  simp only [List.append_assoc]
  exact (congrArg _ ((congrArg _ ((congrArg _ ((congrArg _ w5).trans w4)).trans w3)).trans w2)).trans w1
theorem back_1 (l : Ltr) (hk : l.kind = 1) (h : Good l) (r : Bytes) : l1 (wrB l ++ r) = l ∧ (q1_5 (wrB l ++ r)) = (r, 0, l.cert) := by
  obtain ⟨_, hu, sf, ss, sv, sx, sc, sa, sp, sr, sm, smo, so, sy⟩ := h
  rw [wrB_1 l hk]
  simp only [List.append_assoc]
  have e1 : q1_1 (encN (zig l.frm) ++ (encN (zig l.slot) ++ (encN (zig l.view) ++ (encT l.value ++ (rpsB l.cert ++ r))))) = ((encN (zig l.slot) ++ (encN (zig l.view) ++ (encT l.value ++ (rpsB l.cert ++ r)))), 0, l.frm) := (rdrN 0).back l.frm (encN (zig l.slot) ++ (encN (zig l.view) ++ (encT l.value ++ (rpsB l.cert ++ r)))) sf
  have e2 : q1_2 (encN (zig l.frm) ++ (encN (zig l.slot) ++ (encN (zig l.view) ++ (encT l.value ++ (rpsB l.cert ++ r))))) = ((encN (zig l.view) ++ (encT l.value ++ (rpsB l.cert ++ r))), 0, l.slot) := by
    unfold q1_2
    rw [e1]
    exact (rdrN 0).back l.slot (encN (zig l.view) ++ (encT l.value ++ (rpsB l.cert ++ r))) ss
  have e3 : q1_3 (encN (zig l.frm) ++ (encN (zig l.slot) ++ (encN (zig l.view) ++ (encT l.value ++ (rpsB l.cert ++ r))))) = ((encT l.value ++ (rpsB l.cert ++ r)), 0, l.view) := by
    unfold q1_3
    rw [e2]
    exact (rdrN 0).back l.view (encT l.value ++ (rpsB l.cert ++ r)) sv
  have e4 : q1_4 (encN (zig l.frm) ++ (encN (zig l.slot) ++ (encN (zig l.view) ++ (encT l.value ++ (rpsB l.cert ++ r))))) = ((rpsB l.cert ++ r), 0, l.value) := by
    unfold q1_4
    rw [e3]
    exact (rdrT []).back l.value (rpsB l.cert ++ r) sx
  have e5 : q1_5 (encN (zig l.frm) ++ (encN (zig l.slot) ++ (encN (zig l.view) ++ (encT l.value ++ (rpsB l.cert ++ r))))) = (r, 0, l.cert) := by
    unfold q1_5
    rw [e4]
    exact rdrC.back l.cert r sc
  refine ⟨?_, e5⟩
  rw [useL_1 l hk] at hu
  unfold l1
  rw [e1, e2, e3, e4, e5]
  exact hu
theorem only_2 (b : Bytes) (h : okB (q2_2 b).2.1 (q2_2 b).1 = true) : Good (l2 b) ∧ wrB (l2 b) = b := by
  simp only [okB, Bool.and_eq_true, decide_eq_true_eq] at h
  obtain ⟨h2, hr⟩ := h
  obtain ⟨h1, s2, w2⟩ := (rdrA zA).only (b := (q2_1 b).1) (e := (q2_1 b).2.1) h2
  have w2 : voteB (q2_2 b).2.2 ++ (q2_2 b).1 = (q2_1 b).1 := w2
  obtain ⟨_, s1, w1⟩ := (rdrN 0).only (b := b) (e := 0) h1
  have w1 : encN (zig (q2_1 b).2.2) ++ (q2_1 b).1 = b := w1
  rw [hr, List.append_nil] at w2
  refine ⟨⟨⟨by show (1 : Int) ≤ 2; decide, by show (2 : Int) ≤ 10; decide⟩, (useL_2 _ rfl).trans rfl, zI, s1, zI, zTx, zSC, s2, zSV, zSR, rfl, fun h => absurd h (by show ¬ (2 : Int) = 8; decide), zSO, zSX⟩, ?_⟩
  rw [wrB_2 _ rfl]
  show encN (zig (q2_1 b).2.2) ++ voteB (q2_2 b).2.2 = b
  exact (congrArg _ w2).trans w1
theorem back_2 (l : Ltr) (hk : l.kind = 2) (h : Good l) (r : Bytes) : l2 (wrB l ++ r) = l ∧ (q2_2 (wrB l ++ r)) = (r, 0, l.vote) := by
  obtain ⟨_, hu, sf, ss, sv, sx, sc, sa, sp, sr, sm, smo, so, sy⟩ := h
  rw [wrB_2 l hk]
  simp only [List.append_assoc]
  have e1 : q2_1 (encN (zig l.slot) ++ (voteB l.vote ++ r)) = ((voteB l.vote ++ r), 0, l.slot) := (rdrN 0).back l.slot (voteB l.vote ++ r) ss
  have e2 : q2_2 (encN (zig l.slot) ++ (voteB l.vote ++ r)) = (r, 0, l.vote) := by
    unfold q2_2
    rw [e1]
    exact (rdrA zA).back l.vote r sa
  refine ⟨?_, e2⟩
  rw [useL_2 l hk] at hu
  unfold l2
  rw [e1, e2]
  exact hu
theorem only_3 (b : Bytes) (h : okB (q3_3 b).2.1 (q3_3 b).1 = true) : Good (l3 b) ∧ wrB (l3 b) = b := by
  simp only [okB, Bool.and_eq_true, decide_eq_true_eq] at h
  obtain ⟨h3, hr⟩ := h
  obtain ⟨h2, s3, w3⟩ := rdrV.only (b := (q3_2 b).1) (e := (q3_2 b).2.1) h3
  have w3 : votesB (q3_3 b).2.2 ++ (q3_3 b).1 = (q3_2 b).1 := w3
  obtain ⟨h1, s2, w2⟩ := (rdrN 0).only (b := (q3_1 b).1) (e := (q3_1 b).2.1) h2
  have w2 : encN (zig (q3_2 b).2.2) ++ (q3_2 b).1 = (q3_1 b).1 := w2
  obtain ⟨_, s1, w1⟩ := (rdrN 0).only (b := b) (e := 0) h1
  have w1 : encN (zig (q3_1 b).2.2) ++ (q3_1 b).1 = b := w1
  rw [hr, List.append_nil] at w3
  refine ⟨⟨⟨by show (1 : Int) ≤ 3; decide, by show (3 : Int) ≤ 10; decide⟩, (useL_3 _ rfl).trans rfl, s1, s2, zI, zTx, zSC, zSA, s3, zSR, rfl, fun h => absurd h (by show ¬ (3 : Int) = 8; decide), zSO, zSX⟩, ?_⟩
  rw [wrB_3 _ rfl]
  show encN (zig (q3_1 b).2.2) ++ encN (zig (q3_2 b).2.2) ++ votesB (q3_3 b).2.2 = b
  simp only [List.append_assoc]
  exact (congrArg _ ((congrArg _ w3).trans w2)).trans w1
theorem back_3 (l : Ltr) (hk : l.kind = 3) (h : Good l) (r : Bytes) : l3 (wrB l ++ r) = l ∧ (q3_3 (wrB l ++ r)) = (r, 0, l.proof) := by
  obtain ⟨_, hu, sf, ss, sv, sx, sc, sa, sp, sr, sm, smo, so, sy⟩ := h
  rw [wrB_3 l hk]
  simp only [List.append_assoc]
  have e1 : q3_1 (encN (zig l.frm) ++ (encN (zig l.slot) ++ (votesB l.proof ++ r))) = ((encN (zig l.slot) ++ (votesB l.proof ++ r)), 0, l.frm) := (rdrN 0).back l.frm (encN (zig l.slot) ++ (votesB l.proof ++ r)) sf
  have e2 : q3_2 (encN (zig l.frm) ++ (encN (zig l.slot) ++ (votesB l.proof ++ r))) = ((votesB l.proof ++ r), 0, l.slot) := by
    unfold q3_2
    rw [e1]
    exact (rdrN 0).back l.slot (votesB l.proof ++ r) ss
  have e3 : q3_3 (encN (zig l.frm) ++ (encN (zig l.slot) ++ (votesB l.proof ++ r))) = (r, 0, l.proof) := by
    unfold q3_3
    rw [e2]
    exact rdrV.back l.proof r sp
  refine ⟨?_, e3⟩
  rw [useL_3 l hk] at hu
  unfold l3
  rw [e1, e2, e3]
  exact hu
theorem only_4 (b : Bytes) (h : okB (q4_2 b).2.1 (q4_2 b).1 = true) : Good (l4 b) ∧ wrB (l4 b) = b := by
  simp only [okB, Bool.and_eq_true, decide_eq_true_eq] at h
  obtain ⟨h2, hr⟩ := h
  obtain ⟨h1, s2, w2⟩ := rdrR.only (b := (q4_1 b).1) (e := (q4_1 b).2.1) h2
  have w2 : reportB (q4_2 b).2.2 ++ (q4_2 b).1 = (q4_1 b).1 := w2
  obtain ⟨_, s1, w1⟩ := (rdrN 0).only (b := b) (e := 0) h1
  have w1 : encN (zig (q4_1 b).2.2) ++ (q4_1 b).1 = b := w1
  rw [hr, List.append_nil] at w2
  refine ⟨⟨⟨by show (1 : Int) ≤ 4; decide, by show (4 : Int) ≤ 10; decide⟩, (useL_4 _ rfl).trans rfl, zI, s1, zI, zTx, zSC, zSA, zSV, s2, rfl, fun h => absurd h (by show ¬ (4 : Int) = 8; decide), zSO, zSX⟩, ?_⟩
  rw [wrB_4 _ rfl]
  show encN (zig (q4_1 b).2.2) ++ reportB (q4_2 b).2.2 = b
  exact (congrArg _ w2).trans w1
theorem back_4 (l : Ltr) (hk : l.kind = 4) (h : Good l) (r : Bytes) : l4 (wrB l ++ r) = l ∧ (q4_2 (wrB l ++ r)) = (r, 0, l.r) := by
  obtain ⟨_, hu, sf, ss, sv, sx, sc, sa, sp, sr, sm, smo, so, sy⟩ := h
  rw [wrB_4 l hk]
  simp only [List.append_assoc]
  have e1 : q4_1 (encN (zig l.slot) ++ (reportB l.r ++ r)) = ((reportB l.r ++ r), 0, l.slot) := (rdrN 0).back l.slot (reportB l.r ++ r) ss
  have e2 : q4_2 (encN (zig l.slot) ++ (reportB l.r ++ r)) = (r, 0, l.r) := by
    unfold q4_2
    rw [e1]
    exact rdrR.back l.r r sr
  refine ⟨?_, e2⟩
  rw [useL_4 l hk] at hu
  unfold l4
  rw [e1, e2]
  exact hu
theorem only_5 (b : Bytes) (h : okB (q5_3 b).2.1 (q5_3 b).1 = true) : Good (l5 b) ∧ wrB (l5 b) = b := by
  simp only [okB, Bool.and_eq_true, decide_eq_true_eq] at h
  obtain ⟨h3, hr⟩ := h
  obtain ⟨h2, s3, w3⟩ := (rdrT []).only (b := (q5_2 b).1) (e := (q5_2 b).2.1) h3
  have w3 : encT (q5_3 b).2.2 ++ (q5_3 b).1 = (q5_2 b).1 := w3
  obtain ⟨h1, s2, w2⟩ := (rdrN 0).only (b := (q5_1 b).1) (e := (q5_1 b).2.1) h2
  have w2 : encN (zig (q5_2 b).2.2) ++ (q5_2 b).1 = (q5_1 b).1 := w2
  obtain ⟨_, s1, w1⟩ := (rdrN 0).only (b := b) (e := 0) h1
  have w1 : encN (zig (q5_1 b).2.2) ++ (q5_1 b).1 = b := w1
  rw [hr, List.append_nil] at w3
  refine ⟨⟨⟨by show (1 : Int) ≤ 5; decide, by show (5 : Int) ≤ 10; decide⟩, (useL_5 _ rfl).trans rfl, s1, s2, zI, s3, zSC, zSA, zSV, zSR, rfl, fun h => absurd h (by show ¬ (5 : Int) = 8; decide), zSO, zSX⟩, ?_⟩
  rw [wrB_5 _ rfl]
  show encN (zig (q5_1 b).2.2) ++ encN (zig (q5_2 b).2.2) ++ encT (q5_3 b).2.2 = b
  simp only [List.append_assoc]
  exact (congrArg _ ((congrArg _ w3).trans w2)).trans w1
theorem back_5 (l : Ltr) (hk : l.kind = 5) (h : Good l) (r : Bytes) : l5 (wrB l ++ r) = l ∧ (q5_3 (wrB l ++ r)) = (r, 0, l.value) := by
  obtain ⟨_, hu, sf, ss, sv, sx, sc, sa, sp, sr, sm, smo, so, sy⟩ := h
  rw [wrB_5 l hk]
  simp only [List.append_assoc]
  have e1 : q5_1 (encN (zig l.frm) ++ (encN (zig l.slot) ++ (encT l.value ++ r))) = ((encN (zig l.slot) ++ (encT l.value ++ r)), 0, l.frm) := (rdrN 0).back l.frm (encN (zig l.slot) ++ (encT l.value ++ r)) sf
  have e2 : q5_2 (encN (zig l.frm) ++ (encN (zig l.slot) ++ (encT l.value ++ r))) = ((encT l.value ++ r), 0, l.slot) := by
    unfold q5_2
    rw [e1]
    exact (rdrN 0).back l.slot (encT l.value ++ r) ss
  have e3 : q5_3 (encN (zig l.frm) ++ (encN (zig l.slot) ++ (encT l.value ++ r))) = (r, 0, l.value) := by
    unfold q5_3
    rw [e2]
    exact (rdrT []).back l.value r sx
  refine ⟨?_, e3⟩
  rw [useL_5 l hk] at hu
  unfold l5
  rw [e1, e2, e3]
  exact hu
theorem only_6 (b : Bytes) (h : okB (q6_2 b).2.1 (q6_2 b).1 = true) : Good (l6 b) ∧ wrB (l6 b) = b := by
  simp only [okB, Bool.and_eq_true, decide_eq_true_eq] at h
  obtain ⟨h2, hr⟩ := h
  obtain ⟨h1, s2, w2⟩ := (rdrN 0).only (b := (q6_1 b).1) (e := (q6_1 b).2.1) h2
  have w2 : encN (zig (q6_2 b).2.2) ++ (q6_2 b).1 = (q6_1 b).1 := w2
  obtain ⟨_, s1, w1⟩ := (rdrN 0).only (b := b) (e := 0) h1
  have w1 : encN (zig (q6_1 b).2.2) ++ (q6_1 b).1 = b := w1
  rw [hr, List.append_nil] at w2
  refine ⟨⟨⟨by show (1 : Int) ≤ 6; decide, by show (6 : Int) ≤ 10; decide⟩, (useL_6 _ rfl).trans rfl, s1, zI, s2, zTx, zSC, zSA, zSV, zSR, rfl, fun h => absurd h (by show ¬ (6 : Int) = 8; decide), zSO, zSX⟩, ?_⟩
  rw [wrB_6 _ rfl]
  show encN (zig (q6_1 b).2.2) ++ encN (zig (q6_2 b).2.2) = b
  exact (congrArg _ w2).trans w1
theorem back_6 (l : Ltr) (hk : l.kind = 6) (h : Good l) (r : Bytes) : l6 (wrB l ++ r) = l ∧ (q6_2 (wrB l ++ r)) = (r, 0, l.view) := by
  obtain ⟨_, hu, sf, ss, sv, sx, sc, sa, sp, sr, sm, smo, so, sy⟩ := h
  rw [wrB_6 l hk]
  simp only [List.append_assoc]
  have e1 : q6_1 (encN (zig l.frm) ++ (encN (zig l.view) ++ r)) = ((encN (zig l.view) ++ r), 0, l.frm) := (rdrN 0).back l.frm (encN (zig l.view) ++ r) sf
  have e2 : q6_2 (encN (zig l.frm) ++ (encN (zig l.view) ++ r)) = (r, 0, l.view) := by
    unfold q6_2
    rw [e1]
    exact (rdrN 0).back l.view r sv
  refine ⟨?_, e2⟩
  rw [useL_6 l hk] at hu
  unfold l6
  rw [e1, e2]
  exact hu
theorem only_7 (b : Bytes) (h : okB (q7_3 b).2.1 (q7_3 b).1 = true) : Good (l7 b) ∧ wrB (l7 b) = b := by
  simp only [okB, Bool.and_eq_true, decide_eq_true_eq] at h
  obtain ⟨h3, hr⟩ := h
  obtain ⟨h2, s3, w3⟩ := (rdrM zM).only (b := (q7_2 b).1) (e := (q7_2 b).2.1) h3
  have w3 : (q7_3 b).2.2 ++ (q7_3 b).1 = (q7_2 b).1 := w3
  obtain ⟨h1, s2, w2⟩ := (rdrN 0).only (b := (q7_1 b).1) (e := (q7_1 b).2.1) h2
  have w2 : encN (zig (q7_2 b).2.2) ++ (q7_2 b).1 = (q7_1 b).1 := w2
  obtain ⟨_, s1, w1⟩ := (rdrN 0).only (b := b) (e := 0) h1
  have w1 : encN (zig (q7_1 b).2.2) ++ (q7_1 b).1 = b := w1
  rw [hr, List.append_nil] at w3
  refine ⟨⟨⟨by show (1 : Int) ≤ 7; decide, by show (7 : Int) ≤ 10; decide⟩, (useL_7 _ rfl).trans rfl, s1, s2, zI, zTx, zSC, zSA, zSV, zSR, s3, fun h => absurd h (by show ¬ (7 : Int) = 8; decide), zSO, zSX⟩, ?_⟩
  rw [wrB_7 _ rfl]
  show encN (zig (q7_1 b).2.2) ++ encN (zig (q7_2 b).2.2) ++ (q7_3 b).2.2 = b
  simp only [List.append_assoc]
  exact (congrArg _ ((congrArg _ w3).trans w2)).trans w1
theorem back_7 (l : Ltr) (hk : l.kind = 7) (h : Good l) (r : Bytes) : l7 (wrB l ++ r) = l ∧ (q7_3 (wrB l ++ r)) = (r, 0, l.sum) := by
  obtain ⟨_, hu, sf, ss, sv, sx, sc, sa, sp, sr, sm, smo, so, sy⟩ := h
  rw [wrB_7 l hk]
  simp only [List.append_assoc]
  have e1 : q7_1 (encN (zig l.frm) ++ (encN (zig l.slot) ++ (l.sum ++ r))) = ((encN (zig l.slot) ++ (l.sum ++ r)), 0, l.frm) := (rdrN 0).back l.frm (encN (zig l.slot) ++ (l.sum ++ r)) sf
  have e2 : q7_2 (encN (zig l.frm) ++ (encN (zig l.slot) ++ (l.sum ++ r))) = ((l.sum ++ r), 0, l.slot) := by
    unfold q7_2
    rw [e1]
    exact (rdrN 0).back l.slot (l.sum ++ r) ss
  have e3 : q7_3 (encN (zig l.frm) ++ (encN (zig l.slot) ++ (l.sum ++ r))) = (r, 0, l.sum) := by
    unfold q7_3
    rw [e2]
    exact (rdrM zM).back l.sum r sm
  refine ⟨?_, e3⟩
  rw [useL_7 l hk] at hu
  unfold l7
  rw [e1, e2, e3]
  exact hu
theorem only_8 (b : Bytes) (h : okB (q8_1 b).2.1 (q8_1 b).1 = true) : Good (l8 b) ∧ wrB (l8 b) = b := by
  simp only [okB, Bool.and_eq_true, decide_eq_true_eq] at h
  obtain ⟨h1, hr⟩ := h
  obtain ⟨_, s1, w1⟩ := (rdrO zO).only (b := b) (e := 0) h1
  have w1 : putO (q8_1 b).2.2 ++ (q8_1 b).1 = b := w1
  rw [hr, List.append_nil] at w1
  refine ⟨⟨⟨by show (1 : Int) ≤ 8; decide, by show (8 : Int) ≤ 10; decide⟩, (useL_8 _ rfl).trans rfl, zI, zI, zI, zTx, zSC, zSA, zSV, zSR, rfl, fun _ => s1.1, s1.2, zSX⟩, ?_⟩
  rw [wrB_8 _ rfl]
  show putO (q8_1 b).2.2 = b
  exact w1
theorem back_8 (l : Ltr) (hk : l.kind = 8) (h : Good l) (r : Bytes) : l8 (wrB l ++ r) = l ∧ (q8_1 (wrB l ++ r)) = (r, 0, l.o) := by
  obtain ⟨_, hu, sf, ss, sv, sx, sc, sa, sp, sr, sm, smo, so, sy⟩ := h
  rw [wrB_8 l hk]
  have e1 : q8_1 (putO l.o ++ r) = (r, 0, l.o) := (rdrO zO).back l.o r ⟨smo hk, so⟩
  refine ⟨?_, e1⟩
  rw [useL_8 l hk] at hu
  unfold l8
  rw [e1]
  exact hu
theorem only_9 (b : Bytes) (h : okB (q9_2 b).2.1 (q9_2 b).1 = true) : Good (l9 b) ∧ wrB (l9 b) = b := by
  simp only [okB, Bool.and_eq_true, decide_eq_true_eq] at h
  obtain ⟨h2, hr⟩ := h
  obtain ⟨h1, s2, w2⟩ := (rdrX zX).only (b := (q9_1 b).1) (e := (q9_1 b).2.1) h2
  have w2 : putR (q9_2 b).2.2 ++ (q9_2 b).1 = (q9_1 b).1 := w2
  obtain ⟨_, s1, w1⟩ := (rdrN 0).only (b := b) (e := 0) h1
  have w1 : encN (zig (q9_1 b).2.2) ++ (q9_1 b).1 = b := w1
  rw [hr, List.append_nil] at w2
  refine ⟨⟨⟨by show (1 : Int) ≤ 9; decide, by show (9 : Int) ≤ 10; decide⟩, (useL_9 _ rfl).trans rfl, s1, zI, zI, zTx, zSC, zSA, zSV, zSR, rfl, fun h => absurd h (by show ¬ (9 : Int) = 8; decide), zSO, s2⟩, ?_⟩
  rw [wrB_9 _ rfl]
  show encN (zig (q9_1 b).2.2) ++ putR (q9_2 b).2.2 = b
  exact (congrArg _ w2).trans w1
theorem back_9 (l : Ltr) (hk : l.kind = 9) (h : Good l) (r : Bytes) : l9 (wrB l ++ r) = l ∧ (q9_2 (wrB l ++ r)) = (r, 0, l.x) := by
  obtain ⟨_, hu, sf, ss, sv, sx, sc, sa, sp, sr, sm, smo, so, sy⟩ := h
  rw [wrB_9 l hk]
  simp only [List.append_assoc]
  have e1 : q9_1 (encN (zig l.frm) ++ (putR l.x ++ r)) = ((putR l.x ++ r), 0, l.frm) := (rdrN 0).back l.frm (putR l.x ++ r) sf
  have e2 : q9_2 (encN (zig l.frm) ++ (putR l.x ++ r)) = (r, 0, l.x) := by
    unfold q9_2
    rw [e1]
    exact (rdrX zX).back l.x r sy
  refine ⟨?_, e2⟩
  rw [useL_9 l hk] at hu
  unfold l9
  rw [e1, e2]
  exact hu
theorem only_10 (b : Bytes) (h : okB (q10_2 b).2.1 (q10_2 b).1 = true) : Good (l10 b) ∧ wrB (l10 b) = b := by
  simp only [okB, Bool.and_eq_true, decide_eq_true_eq] at h
  obtain ⟨h2, hr⟩ := h
  obtain ⟨h1, s2, w2⟩ := (rdrN 0).only (b := (q10_1 b).1) (e := (q10_1 b).2.1) h2
  have w2 : encN (zig (q10_2 b).2.2) ++ (q10_2 b).1 = (q10_1 b).1 := w2
  obtain ⟨_, s1, w1⟩ := (rdrN 0).only (b := b) (e := 0) h1
  have w1 : encN (zig (q10_1 b).2.2) ++ (q10_1 b).1 = b := w1
  rw [hr, List.append_nil] at w2
  refine ⟨⟨⟨by show (1 : Int) ≤ 10; decide, by show (10 : Int) ≤ 10; decide⟩, (useL_10 _ rfl).trans rfl, s1, s2, zI, zTx, zSC, zSA, zSV, zSR, rfl, fun h => absurd h (by show ¬ (10 : Int) = 8; decide), zSO, zSX⟩, ?_⟩
  rw [wrB_10 _ rfl]
  show encN (zig (q10_1 b).2.2) ++ encN (zig (q10_2 b).2.2) = b
  exact (congrArg _ w2).trans w1
theorem back_10 (l : Ltr) (hk : l.kind = 10) (h : Good l) (r : Bytes) : l10 (wrB l ++ r) = l ∧ (q10_2 (wrB l ++ r)) = (r, 0, l.slot) := by
  obtain ⟨_, hu, sf, ss, sv, sx, sc, sa, sp, sr, sm, smo, so, sy⟩ := h
  rw [wrB_10 l hk]
  simp only [List.append_assoc]
  have e1 : q10_1 (encN (zig l.frm) ++ (encN (zig l.slot) ++ r)) = ((encN (zig l.slot) ++ r), 0, l.frm) := (rdrN 0).back l.frm (encN (zig l.slot) ++ r) sf
  have e2 : q10_2 (encN (zig l.frm) ++ (encN (zig l.slot) ++ r)) = (r, 0, l.slot) := by
    unfold q10_2
    rw [e1]
    exact (rdrN 0).back l.slot r ss
  refine ⟨?_, e2⟩
  rw [useL_10 l hk] at hu
  unfold l10
  rw [e1, e2]
  exact hu
theorem tk_only (b : Bytes) (h : (tkL b).2 = true) : Good (tkL b).1 ∧ wrL (tkL b).1 = b := by
  have key := (rdrN 0).only (b := b) (e := 0)
  unfold tkL at h ⊢
  by_cases e0 : (rdN b 0 0).2.1 = 0
  · obtain ⟨_, _, w⟩ := key e0
    rw [if_pos e0] at h ⊢
    by_cases n1 : (rdN b 0 0).2.2 = 1
    · rw [if_pos n1] at h ⊢
      obtain ⟨g, w1⟩ := only_1 _ h
      refine ⟨g, ?_⟩
      show encN (zig 1) ++ wrB (l1 (rdN b 0 0).1) = b
      rw [w1, ← n1]
      exact w
    rw [if_neg n1] at h ⊢
    by_cases n2 : (rdN b 0 0).2.2 = 2
    · rw [if_pos n2] at h ⊢
      obtain ⟨g, w1⟩ := only_2 _ h
      refine ⟨g, ?_⟩
      show encN (zig 2) ++ wrB (l2 (rdN b 0 0).1) = b
      rw [w1, ← n2]
      exact w
    rw [if_neg n2] at h ⊢
    by_cases n3 : (rdN b 0 0).2.2 = 3
    · rw [if_pos n3] at h ⊢
      obtain ⟨g, w1⟩ := only_3 _ h
      refine ⟨g, ?_⟩
      show encN (zig 3) ++ wrB (l3 (rdN b 0 0).1) = b
      rw [w1, ← n3]
      exact w
    rw [if_neg n3] at h ⊢
    by_cases n4 : (rdN b 0 0).2.2 = 4
    · rw [if_pos n4] at h ⊢
      obtain ⟨g, w1⟩ := only_4 _ h
      refine ⟨g, ?_⟩
      show encN (zig 4) ++ wrB (l4 (rdN b 0 0).1) = b
      rw [w1, ← n4]
      exact w
    rw [if_neg n4] at h ⊢
    by_cases n5 : (rdN b 0 0).2.2 = 5
    · rw [if_pos n5] at h ⊢
      obtain ⟨g, w1⟩ := only_5 _ h
      refine ⟨g, ?_⟩
      show encN (zig 5) ++ wrB (l5 (rdN b 0 0).1) = b
      rw [w1, ← n5]
      exact w
    rw [if_neg n5] at h ⊢
    by_cases n6 : (rdN b 0 0).2.2 = 6
    · rw [if_pos n6] at h ⊢
      obtain ⟨g, w1⟩ := only_6 _ h
      refine ⟨g, ?_⟩
      show encN (zig 6) ++ wrB (l6 (rdN b 0 0).1) = b
      rw [w1, ← n6]
      exact w
    rw [if_neg n6] at h ⊢
    by_cases n7 : (rdN b 0 0).2.2 = 7
    · rw [if_pos n7] at h ⊢
      obtain ⟨g, w1⟩ := only_7 _ h
      refine ⟨g, ?_⟩
      show encN (zig 7) ++ wrB (l7 (rdN b 0 0).1) = b
      rw [w1, ← n7]
      exact w
    rw [if_neg n7] at h ⊢
    by_cases n8 : (rdN b 0 0).2.2 = 8
    · rw [if_pos n8] at h ⊢
      obtain ⟨g, w1⟩ := only_8 _ h
      refine ⟨g, ?_⟩
      show encN (zig 8) ++ wrB (l8 (rdN b 0 0).1) = b
      rw [w1, ← n8]
      exact w
    rw [if_neg n8] at h ⊢
    by_cases n9 : (rdN b 0 0).2.2 = 9
    · rw [if_pos n9] at h ⊢
      obtain ⟨g, w1⟩ := only_9 _ h
      refine ⟨g, ?_⟩
      show encN (zig 9) ++ wrB (l9 (rdN b 0 0).1) = b
      rw [w1, ← n9]
      exact w
    rw [if_neg n9] at h ⊢
    by_cases n10 : (rdN b 0 0).2.2 = 10
    · rw [if_pos n10] at h ⊢
      obtain ⟨g, w1⟩ := only_10 _ h
      refine ⟨g, ?_⟩
      show encN (zig 10) ++ wrB (l10 (rdN b 0 0).1) = b
      rw [w1, ← n10]
      exact w
    rw [if_neg n10] at h ⊢
    exact absurd h (by decide)
  · rw [if_neg e0] at h
    exact absurd h (by decide)
theorem tk_back (l : Ltr) (h : Good l) (r : Bytes) : tkL (wrL l ++ r) = (l, decide (r = [])) := by
  have k1 := (rdrN 0).back l.kind (wrB l ++ r) (by have := h.1; unfold I64; omega)
  unfold tkL wrL
  simp only [List.append_assoc, k1, reduceIte]
  have hc : l.kind = 1 ∨ l.kind = 2 ∨ l.kind = 3 ∨ l.kind = 4 ∨ l.kind = 5 ∨ l.kind = 6 ∨ l.kind = 7 ∨ l.kind = 8 ∨ l.kind = 9 ∨ l.kind = 10 := by have := h.1; omega
  rcases hc with e | e | e | e | e | e | e | e | e | e
  · obtain ⟨b1, b2⟩ := back_1 l e h r
    rw [if_pos e, b1, b2]
    simp [okB]
  · obtain ⟨b1, b2⟩ := back_2 l e h r
    rw [if_neg (by omega), if_pos e, b1, b2]
    simp [okB]
  · obtain ⟨b1, b2⟩ := back_3 l e h r
    rw [if_neg (by omega), if_neg (by omega), if_pos e, b1, b2]
    simp [okB]
  · obtain ⟨b1, b2⟩ := back_4 l e h r
    rw [if_neg (by omega), if_neg (by omega), if_neg (by omega), if_pos e, b1, b2]
    simp [okB]
  · obtain ⟨b1, b2⟩ := back_5 l e h r
    rw [if_neg (by omega), if_neg (by omega), if_neg (by omega), if_neg (by omega), if_pos e, b1, b2]
    simp [okB]
  · obtain ⟨b1, b2⟩ := back_6 l e h r
    rw [if_neg (by omega), if_neg (by omega), if_neg (by omega), if_neg (by omega), if_neg (by omega), if_pos e, b1, b2]
    simp [okB]
  · obtain ⟨b1, b2⟩ := back_7 l e h r
    rw [if_neg (by omega), if_neg (by omega), if_neg (by omega), if_neg (by omega), if_neg (by omega), if_neg (by omega), if_pos e, b1, b2]
    simp [okB]
  · obtain ⟨b1, b2⟩ := back_8 l e h r
    rw [if_neg (by omega), if_neg (by omega), if_neg (by omega), if_neg (by omega), if_neg (by omega), if_neg (by omega), if_neg (by omega), if_pos e, b1, b2]
    simp [okB]
  · obtain ⟨b1, b2⟩ := back_9 l e h r
    rw [if_neg (by omega), if_neg (by omega), if_neg (by omega), if_neg (by omega), if_neg (by omega), if_neg (by omega), if_neg (by omega), if_neg (by omega), if_pos e, b1, b2]
    simp [okB]
  · obtain ⟨b1, b2⟩ := back_10 l e h r
    rw [if_neg (by omega), if_neg (by omega), if_neg (by omega), if_neg (by omega), if_neg (by omega), if_neg (by omega), if_neg (by omega), if_neg (by omega), if_neg (by omega), if_pos e, b1, b2]
    simp [okB]
def mayL (l : Ltr) : Bool := decide (tkL (wrL l) = (l, true))
theorem mayL_good (l : Ltr) : mayL l = true ↔ Good l := by
  unfold mayL
  rw [decide_eq_true_eq]
  constructor
  · intro h
    have := tk_only (wrL l) (by rw [h])
    rw [h] at this
    exact this.1
  · intro h
    have := tk_back l h []
    simpa using this
theorem Good.may {l : Ltr} (h : Good l) : mayL l = true := (mayL_good l).2 h
theorem not_may {l : Ltr} (h : ¬ Good l) : mayL l = false := by
  cases e : mayL l with
  | true => exact absurd ((mayL_good l).1 e) h
  | false => rfl
end Go.Proofs.Ytkamcoechjdgpaa
/-
  Letters that are few: how large their parts are. No program in sight.
-/
namespace Go.Proofs.Ytkamcoechjdgpaa
open Go.RowKit
def vsum : List Acc → Int → Int
  | [], n => n
  | a :: l, n => if n ≤ 6100 then vsum l (n + a.value.length + 20) else n
def csum : List Rp → Int → Int
  | [], n => n
  | r :: l, n => if n ≤ 12200 then csum l (n + r.value.length + vsum r.proof 0 + 20) else n
def nsum : List Bytes → Int → Int
  | [], n => n
  | t :: l, n => if n ≤ 12200 then nsum l (n + t.length + 9) else n
def fewN (l : Ltr) : Int := nsum l.x.l (csum l.cert (l.value.length + l.vote.value.length + l.r.value.length + l.o.s.length + l.o.t.length + l.x.s.length + vsum l.proof 0 + vsum l.r.proof 0))
def fewL (l : Ltr) : Bool := decide (fewN l ≤ 12200)
theorem vsum_ge : ∀ (l : List Acc) (n : Int), n ≤ vsum l n
  | [], n => Int.le_refl _
  | a :: l, n => by
    rw [vsum]
    split
    · have := vsum_ge l (n + a.value.length + 20); omega
    · omega
theorem csum_ge : ∀ (l : List Rp) (n : Int), n ≤ csum l n
  | [], n => Int.le_refl _
  | a :: l, n => by
    rw [csum]
    have := vsum_ge a.proof 0
    split
    · have := csum_ge l (n + a.value.length + vsum a.proof 0 + 20); omega
    · omega
theorem nsum_ge : ∀ (l : List Bytes) (n : Int), n ≤ nsum l n
  | [], n => Int.le_refl _
  | a :: l, n => by
    rw [nsum]
    split
    · have := nsum_ge l (n + a.length + 9); omega
    · omega
theorem vsum_lt (m : Nat) : ∀ (l : List Acc) (n : Int), (∀ a ∈ l, a.value.length ≤ m) → n ≤ 6120 + m → vsum l n ≤ 6120 + m
  | [], n, _, h => h
  | a :: l, n, hl, h => by
    rw [vsum]
    have := hl a List.mem_cons_self
    split
    · exact vsum_lt m l _ (fun x hx => hl x (List.mem_cons_of_mem _ hx)) (by omega)
    · exact h
theorem totA_cons (a : Acc) (l : List Acc) : totA (a :: l) = a.value.length + 27 + totA l := by simp [totA]
theorem totRs_cons (a : Rp) (l : List Rp) : totRs (a :: l) = totR a + totRs l := by simp [totRs]
theorem vsum_tot : ∀ (l : List Acc) (n : Int), vsum l n ≤ 6100 → n + totA l ≤ vsum l n + 7 * l.length
  | [], n, h => by simp [totA, vsum]
  | a :: l, n, h => by
    rw [vsum] at h ⊢
    split at h
    · rename_i h1
      rw [if_pos h1]
      have := vsum_tot l _ h
      rw [totA_cons, List.length_cons]
      omega
    · omega
theorem nsum_tot : ∀ (l : List Bytes) (n : Int), nsum l n ≤ 12200 → n + tot l ≤ nsum l n
  | [], n, h => by simp [tot, nsum]
  | a :: l, n, h => by
    rw [nsum] at h ⊢
    split at h
    · rename_i h1
      rw [if_pos h1]
      have := nsum_tot l _ h
      rw [tot_cons]
      omega
    · omega
theorem totA_le (k : Nat) : ∀ l : List Acc, (∀ a ∈ l, a.value.length ≤ k) → totA l ≤ (k + 27) * l.length
  | [], _ => by simp [totA]
  | x :: l, h => by
    have := totA_le k l fun s hs => h s (List.mem_cons_of_mem _ hs)
    have h0 := h x List.mem_cons_self
    rw [totA_cons, List.length_cons, Nat.mul_succ]
    omega
def ShV (l : List Acc) : Prop := l.length ≤ 30 ∧ ∀ a ∈ l, a.value.length ≤ 6000
theorem ShV.tot {l : List Acc} (h : ShV l) : totA l ≤ 180810 := by
  have := totA_le 6000 l h.2
  have := h.1
  omega
def ShR (r : Rp) : Prop := r.value.length ≤ 6000 ∧ ShV r.proof
theorem csum_tot : ∀ (l : List Rp) (n : Int), (∀ r ∈ l, ShR r) → 0 ≤ n → csum l n ≤ 12200 → ∃ k : Nat, n + totRs l ≤ csum l n + 250 * l.length + 174750 * k ∧ n + 6121 * k ≤ csum l n
  | [], n, _, _, h => ⟨0, by simp [totRs, csum], by simp [csum]⟩
  | r :: l, n, hl, hn, h => by
    rw [csum] at h ⊢
    split at h
    · rename_i h1
      rw [if_pos h1]
      have hv := vsum_ge r.proof 0
      obtain ⟨k, h2, h3⟩ := csum_tot l _ (fun x hx => hl x (List.mem_cons_of_mem _ hx)) (by omega) h
      obtain ⟨g1, g2⟩ := hl r List.mem_cons_self
      rw [totRs_cons, List.length_cons, totR]
      by_cases hb : vsum r.proof 0 ≤ 6100
      · have := vsum_tot r.proof 0 hb
        have := g2.1
        exact ⟨k, by omega, by omega⟩
      · have := g2.tot
        exact ⟨k + 1, by omega, by omega⟩
    · omega
def ShL (l : Ltr) : Prop := l.value.length ≤ 6000 ∧ l.cert.length ≤ 30 ∧ (∀ r ∈ l.cert, ShR r) ∧ l.vote.value.length ≤ 6000 ∧ ShV l.proof ∧ ShR l.r ∧ l.x.s.length ≤ 1000
def TyL (l : Ltr) : Prop := I64 l.kind ∧ I64 l.frm ∧ I64 l.slot ∧ I64 l.view ∧ (∀ r ∈ l.cert, I64 r.by_ ∧ I64 r.for_ ∧ I64 r.view ∧ ∀ a ∈ r.proof, I64 a.by_ ∧ I64 a.view) ∧ (I64 l.vote.by_ ∧ I64 l.vote.view) ∧ (∀ a ∈ l.proof, I64 a.by_ ∧ I64 a.view) ∧ (I64 l.r.by_ ∧ I64 l.r.for_ ∧ I64 l.r.view ∧ ∀ a ∈ l.r.proof, I64 a.by_ ∧ I64 a.view) ∧ l.sum.length = 32 ∧ (I64 l.o.a ∧ I64 l.o.b ∧ I64 l.o.kind ∧ I64 l.o.x ∧ I64 l.o.y ∧ I64 l.o.z) ∧ (I64 l.x.a ∧ I64 l.x.b ∧ I64 l.x.e ∧ I64 l.x.x)
theorem few_parts {l : Ltr} (h : fewL l = true) : (l.value.length : Int) + l.vote.value.length + l.r.value.length + l.o.s.length + l.o.t.length + l.x.s.length + vsum l.proof 0 + vsum l.r.proof 0 ≤ 12200 ∧ csum l.cert (l.value.length + l.vote.value.length + l.r.value.length + l.o.s.length + l.o.t.length + l.x.s.length + vsum l.proof 0 + vsum l.r.proof 0) ≤ 12200 ∧ (tot l.x.l : Int) ≤ 12200 := by
  have h : fewN l ≤ 12200 := of_decide_eq_true h
  unfold fewN at h
  have h1 := nsum_ge l.x.l (csum l.cert (l.value.length + l.vote.value.length + l.r.value.length + l.o.s.length + l.o.t.length + l.x.s.length + vsum l.proof 0 + vsum l.r.proof 0))
  have h2 := csum_ge l.cert (l.value.length + l.vote.value.length + l.r.value.length + l.o.s.length + l.o.t.length + l.x.s.length + vsum l.proof 0 + vsum l.r.proof 0)
  have h3 := nsum_tot l.x.l _ h
  have h4 := vsum_ge l.proof 0
  have h5 := vsum_ge l.r.proof 0
  refine ⟨by omega, by omega, by omega⟩
theorem few_names {l : Ltr} (h : fewL l = true) : l.x.l.length ≤ 12200 := by
  have := (few_parts h).2.2
  have := tot_length l.x.l
  omega
theorem csum_len : ∀ (l : List Rp) (n : Int), csum l n ≤ 12200 → n + 20 * l.length ≤ csum l n
  | [], n, h => by simp [csum]
  | r :: l, n, h => by
    rw [csum] at h ⊢
    have := vsum_ge r.proof 0
    split at h
    · rename_i h1
      rw [if_pos h1]
      have := csum_len l _ h
      rw [List.length_cons]
      omega
    · omega
theorem few_cert {l : Ltr} (h : fewL l = true) : l.cert.length ≤ 12200 := by
  have h1 := csum_len l.cert _ (few_parts h).2.1
  have := (few_parts h).2.1
  have := vsum_ge l.proof 0
  have := vsum_ge l.r.proof 0
  omega
theorem few_sm {l : Ltr} (h : fewL l = true) (ht : TyL l) (hs : ShL l) : smL l := by
  obtain ⟨f1, f2, f3⟩ := few_parts h
  have h4 := vsum_ge l.proof 0
  have h5 := vsum_ge l.r.proof 0
  obtain ⟨s1, s2, s3, s4, s5, s6, s7⟩ := hs
  obtain ⟨_, t1, t2, t3, t4, t5, t6, t7, t8, t9, t10⟩ := ht
  obtain ⟨k, c1, c2⟩ := csum_tot l.cert _ s3 (by omega) f2
  have hv := s5.tot
  have hr := s6.2.tot
  have smV : ∀ p : List Acc, ShV p → (∀ a ∈ p, I64 a.by_ ∧ I64 a.view) → ∀ a ∈ p, smA a := fun p h1 h2 a ha => ⟨(h2 a ha).1, (h2 a ha).2, by have := h1.2 a ha; omega⟩
  refine ⟨t1, t2, t3, s1, fun r hr => ?_, s2, by omega, ⟨t5.1, t5.2, by omega⟩, smV _ s5 t6, s5.1, by omega, ⟨t7.1, t7.2.1, t7.2.2.1, by have := s6.1; omega, smV _ s6.2 t7.2.2.2, s6.2.1⟩, by have := s6.1; simp only [totR]; omega, t8, ⟨t9.1, t9.2.1, t9.2.2.1, t9.2.2.2.1, t9.2.2.2.2.1, t9.2.2.2.2.2, by omega, by omega⟩, ⟨t10.1, t10.2.1, t10.2.2.1, t10.2.2.2, by omega, by omega⟩, by omega, by omega, by omega⟩
  obtain ⟨q1, q2, q3, q4⟩ := t4 r hr
  obtain ⟨g1, g2⟩ := s3 r hr
  exact ⟨q1, q2, q3, by omega, smV _ g2 q4, g2.1⟩
theorem encN_pos (n : Nat) : 1 ≤ (encN n).length := by rw [encN_length]; omega
theorem encT_ge (s : Bytes) : s.length + 1 ≤ (encT s).length := by
  rw [encT, List.length_append]
  have := encN_pos s.length
  omega
theorem totA_w : ∀ l : List Acc, totA l ≤ 9 * ((l.map voteB).flatten).length
  | [] => by simp [totA]
  | a :: l => by
    have := totA_w l
    have h1 := encN_pos (zig a.by_)
    have h2 := encN_pos (zig a.view)
    have h3 := encT_ge a.value
    rw [totA_cons, List.map_cons, List.flatten_cons, List.length_append, voteB, List.length_append, List.length_append]
    omega
theorem totA_wV (l : List Acc) : totA l ≤ 9 * (votesB l).length := by
  have := totA_w l
  rw [votesB, List.length_append]
  omega
theorem totR_w (r : Rp) : totR r ≤ 12 * (reportB r).length := by
  have := totA_wV r.proof
  have h1 := encN_pos (zig r.by_)
  have h2 := encN_pos (zig r.for_)
  have h3 := encN_pos (zig (if r.has then 1 else 0))
  have h4 := encN_pos (zig r.view)
  have h5 := encT_ge r.value
  rw [totR, reportB]
  simp only [List.length_append]
  omega
theorem totRs_w : ∀ l : List Rp, totRs l ≤ 12 * ((l.map reportB).flatten).length
  | [] => by simp [totRs]
  | a :: l => by
    have := totRs_w l
    have := totR_w a
    rw [totRs_cons, List.map_cons, List.flatten_cons, List.length_append]
    omega
theorem tot_w (l : List Bytes) : tot l ≤ (encRow l).length + 8 * l.length := by
  induction l with
  | nil => simp [tot]
  | cons x l ih =>
    have := encT_ge x
    rw [tot_cons, encRow_cons, List.length_append, List.length_cons]
    omega
theorem SA.sm {a : Acc} (h : SA a) : smA a := ⟨h.1, h.2.1, by have := h.2.2; omega⟩
theorem SV.sm {l : List Acc} (h : SV l) : ∀ a ∈ l, smA a := fun a ha => (h.2 a ha).sm
theorem SR.sm {r : Rp} (h : SR r) : smRp r := ⟨h.1, h.2.1, h.2.2.1, by have := h.2.2.2.1; omega, h.2.2.2.2.sm, h.2.2.2.2.1⟩
theorem SV.tot {l : List Acc} (h : SV l) : totA l ≤ 180810 := ShV.tot ⟨h.1, fun a ha => (h.2 a ha).2.2⟩
theorem SR.tot {r : Rp} (h : SR r) : totR r ≤ 186870 := by
  have := h.2.2.2.2.tot
  have := h.2.2.2.1
  rw [totR]
  omega
theorem Good.sm {l : Ltr} (h : Good l) (hw : (wrL l).length ≤ 15000) : smL l := by
  have hg := h
  obtain ⟨hk, hu, t1, t2, t3, t4, t5, t6, t7, t8, t9, t10, t11, t12⟩ := h
  have hc : totRs l.cert ≤ 200000 := by
    by_cases k1 : l.kind = 1
    · rw [wrL, wrB_1 l k1] at hw
      have := totRs_w l.cert
      simp only [List.length_append, rpsB] at hw
      omega
    · have : l.cert = [] := by
        have hc' : l.kind = 2 ∨ l.kind = 3 ∨ l.kind = 4 ∨ l.kind = 5 ∨ l.kind = 6 ∨ l.kind = 7 ∨ l.kind = 8 ∨ l.kind = 9 ∨ l.kind = 10 := by omega
        rcases hc' with e | e | e | e | e | e | e | e | e
        · rw [useL_2 l e] at hu; exact (congrArg Ltr.cert hu).symm
        · rw [useL_3 l e] at hu; exact (congrArg Ltr.cert hu).symm
        · rw [useL_4 l e] at hu; exact (congrArg Ltr.cert hu).symm
        · rw [useL_5 l e] at hu; exact (congrArg Ltr.cert hu).symm
        · rw [useL_6 l e] at hu; exact (congrArg Ltr.cert hu).symm
        · rw [useL_7 l e] at hu; exact (congrArg Ltr.cert hu).symm
        · rw [useL_8 l e] at hu; exact (congrArg Ltr.cert hu).symm
        · rw [useL_9 l e] at hu; exact (congrArg Ltr.cert hu).symm
        · rw [useL_10 l e] at hu; exact (congrArg Ltr.cert hu).symm
      rw [this]; simp [totRs]
  have hn : tot l.x.l ≤ 20000 := by
    by_cases k1 : l.kind = 9
    · rw [wrL, wrB_9 l k1] at hw
      have := tot_w l.x.l
      have := t12.2.2.2.2.2.1
      simp only [List.length_append, putR, encL_row] at hw
      omega
    · have : l.x = zX := by
        have hc' : l.kind = 1 ∨ l.kind = 2 ∨ l.kind = 3 ∨ l.kind = 4 ∨ l.kind = 5 ∨ l.kind = 6 ∨ l.kind = 7 ∨ l.kind = 8 ∨ l.kind = 10 := by omega
        rcases hc' with e | e | e | e | e | e | e | e | e
        · rw [useL_1 l e] at hu; exact (congrArg Ltr.x hu).symm
        · rw [useL_2 l e] at hu; exact (congrArg Ltr.x hu).symm
        · rw [useL_3 l e] at hu; exact (congrArg Ltr.x hu).symm
        · rw [useL_4 l e] at hu; exact (congrArg Ltr.x hu).symm
        · rw [useL_5 l e] at hu; exact (congrArg Ltr.x hu).symm
        · rw [useL_6 l e] at hu; exact (congrArg Ltr.x hu).symm
        · rw [useL_7 l e] at hu; exact (congrArg Ltr.x hu).symm
        · rw [useL_8 l e] at hu; exact (congrArg Ltr.x hu).symm
        · rw [useL_10 l e] at hu; exact (congrArg Ltr.x hu).symm
      rw [this]; decide
  exact ⟨t1, t2, t3, t4, fun r hr => (t5.2 r hr).sm, t5.1, hc, t6.sm, t7.sm, t7.1, by have := t7.tot; omega, t8.sm, by have := t8.tot; omega, t9, t11, ⟨t12.1, t12.2.1, t12.e, t12.2.2.1, by have := t12.2.2.2.2.1; omega, by omega⟩, by have := t12.2.2.2.2.1; omega, hn, by have := t6.2.2; omega⟩
theorem Good.names {l : Ltr} (h : Good l) : l.x.l.length ≤ 200 := h.2.2.2.2.2.2.2.2.2.2.2.2.2.2.2.2.2.2.1
theorem Good.ty {l : Ltr} (h : Good l) : TyL l := by
  obtain ⟨hk, hu, t1, t2, t3, t4, t5, t6, t7, t8, t9, t10, t11, t12⟩ := h
  have hV : ∀ p : List Acc, SV p → ∀ a ∈ p, I64 a.by_ ∧ I64 a.view := fun p hp a ha => ⟨(hp.2 a ha).1, (hp.2 a ha).2.1⟩
  have hR : ∀ r : Rp, SR r → I64 r.by_ ∧ I64 r.for_ ∧ I64 r.view ∧ ∀ a ∈ r.proof, I64 a.by_ ∧ I64 a.view := fun r hr => ⟨hr.1, hr.2.1, hr.2.2.1, hV _ hr.2.2.2.2⟩
  exact ⟨by unfold I64; omega, t1, t2, t3, fun r hr => hR r (t5.2 r hr), ⟨t6.1, t6.2.1⟩, hV _ t7, hR _ t8, t9, ⟨t11.1, t11.2.1, t11.2.2.1, t11.2.2.2.1, t11.2.2.2.2.1, t11.2.2.2.2.2.1⟩, t12.1, t12.2.1, t12.e, t12.2.2.1⟩
theorem Good.sh {l : Ltr} (h : Good l) : ShL l := by
  obtain ⟨hk, hu, t1, t2, t3, t4, t5, t6, t7, t8, t9, t10, t11, t12⟩ := h
  have hV : ∀ p : List Acc, SV p → ShV p := fun p hp => ⟨hp.1, fun a ha => (hp.2 a ha).2.2⟩
  have hR : ∀ r : Rp, SR r → ShR r := fun r hr => ⟨hr.2.2.2.1, hV _ hr.2.2.2.2⟩
  exact ⟨t4, t5.1, fun r hr => hR r (t5.2 r hr), t6.2.2, hV _ t7, hR _ t8, t12.2.2.2.2.1⟩
end Go.Proofs.Ytkamcoechjdgpaa
/-
  Package wire: letters held against each other.
-/
namespace Go.Proofs.Ytkamcoechjdgpaa
open Go.RowKit
theorem same27_spec (l m : Ltr) (hl : l.sum.length = 32) (hm : m.sum.length = 32) (hc : ∀ r ∈ l.cert ++ [l.r], r.proof.length ≤ 281474976710656) (hcl : l.cert.length ≤ 1000000) (hcm : m.cert.length ≤ 1000000) (hp : l.proof.length ≤ 281474976710656) (hx : l.x.l.length ≤ 281474976710656) : ASpec Try.prog 34 [.agg (letC l), .agg (letC m)] (.bool (decide (l = m))) := by
  have x16 := let_16 l hl
  have x48 := let_48 l hl
  have x56 := let_56 l hl
  have xlen := let_len l hl
  have y16 := let_16 m hm
  have y48 := let_48 m hm
  have y56 := let_56 m hm
  have ylen := let_len m hm
  have hV := accV_eq l.vote m.vote
  have hO := ordV_eq l.o m.o
  have hS := sumV_eq l.sum m.sum hl hm
  have s1 := sameRps_spec (l.cert ++ [l.r]) (m.cert ++ [m.r]) hc (by rw [List.length_append, List.length_singleton]; omega)
  have s2 := same18_spec l.proof m.proof hp
  have s3 := same_spec l.x m.x (by omega)
  have k1 := clipR_spec l.cert
  have k2 := clipR_spec m.cert
  by_cases h1 : l.kind = m.kind
  case neg =>
    rw [Ltr.ne fun e => h1 e.1]
    refine ⟨⟨_, Try.func34, by kernel_rfl, rfl⟩, ACall.of Try.func34 rfl fun c0 hc0 => ?_⟩; simp only [Try.ntmps34, Ya, Y9, Nat.reduceAdd, Nat.reduceSub, Ym, Yn, Y5, Y3]; refine Run.god tab_ok follows_ok Try.func34 60 ?_; simp only [Try.results34, let_0, xlen, ylen, decide_false, h1, ↓alts_f, ↓gone_tf, ↓gdone_tf, gslot, drun, adops, adone, places, mayNeed, freeOk, rdOf, wrOf, aops, aone, afin, ares, aresL, ares1, aresOk, aresOk1, aop, needs, ext, aev, aconst, aput, aupd, aload, afieldAddr, acmp, ashift, abin, tab_3, tab_83, ok1, cellsAs, TI.agg, AV.cells, AV.whole, Y4, Yb, Yc, Y6, Y7, Ya, Y9, Y1, Y2, Yw, Yi, Y5, Y3, Yt, Yu, Ys, Yr, Nat.reduceAdd, Nat.reduceLeDiff, Yp, Yq, Y0, Y8]
    ((repeat' apply And.intro) <;> try first | rfl | omega | (unfold I64; omega))
    all_goals (repeat' first | exact .refl _ | apply LeR.tup | apply Le.agg | constructor)
  by_cases h2 : l.frm = m.frm
  case neg =>
    rw [Ltr.ne fun e => h2 e.2.1]
    refine ⟨⟨_, Try.func34, by kernel_rfl, rfl⟩, ACall.of Try.func34 rfl fun c0 hc0 => ?_⟩; simp only [Try.ntmps34, Ya, Y9, Nat.reduceAdd, Nat.reduceSub, Ym, Yn, Y5, Y3]; refine Run.god tab_ok follows_ok Try.func34 60 ?_; simp only [Try.results34, let_0, let_1, xlen, ylen, decide_true, decide_false, h1, h2, ↓alts_t, ↓alts_f, ↓gone_tt, ↓gone_tf, ↓gdone_tf, gslot, drun, adops, adone, places, mayNeed, freeOk, rdOf, wrOf, aops, aone, afin, ares, aresL, ares1, aresOk, aresOk1, aop, needs, ext, aev, aconst, aput, aupd, aload, afieldAddr, acmp, ashift, abin, tab_3, tab_83, ok1, cellsAs, TI.agg, AV.cells, AV.whole, Y4, Yb, Yc, Y6, Y7, Ya, Y9, Y1, Y2, Yw, Yi, Y5, Y3, Yt, Yu, Ys, Yr, Nat.reduceAdd, Nat.reduceLeDiff, Yp, Yq, Y0, Y8]
    ((repeat' apply And.intro) <;> try first | rfl | omega | (unfold I64; omega))
    all_goals (repeat' first | exact .refl _ | apply LeR.tup | apply Le.agg | constructor)
  by_cases h3 : l.slot = m.slot
  case neg =>
    rw [Ltr.ne fun e => h3 e.2.2.1]
    refine ⟨⟨_, Try.func34, by kernel_rfl, rfl⟩, ACall.of Try.func34 rfl fun c0 hc0 => ?_⟩; simp only [Try.ntmps34, Ya, Y9, Nat.reduceAdd, Nat.reduceSub, Ym, Yn, Y5, Y3]; refine Run.god tab_ok follows_ok Try.func34 60 ?_; simp only [Try.results34, let_0, let_1, let_2, xlen, ylen, decide_true, decide_false, h1, h2, h3, ↓alts_t, ↓alts_f, ↓gone_tt, ↓gone_tf, ↓gdone_tf, gslot, drun, adops, adone, places, mayNeed, freeOk, rdOf, wrOf, aops, aone, afin, ares, aresL, ares1, aresOk, aresOk1, aop, needs, ext, aev, aconst, aput, aupd, aload, afieldAddr, acmp, ashift, abin, tab_3, tab_83, ok1, cellsAs, TI.agg, AV.cells, AV.whole, Y4, Yb, Yc, Y6, Y7, Ya, Y9, Y1, Y2, Yw, Yi, Y5, Y3, Yt, Yu, Ys, Yr, Nat.reduceAdd, Nat.reduceLeDiff, Yp, Yq, Y0, Y8]
    ((repeat' apply And.intro) <;> try first | rfl | omega | (unfold I64; omega))
    all_goals (repeat' first | exact .refl _ | apply LeR.tup | apply Le.agg | constructor)
  by_cases h4 : l.view = m.view
  case neg =>
    rw [Ltr.ne fun e => h4 e.2.2.2.1]
    refine ⟨⟨_, Try.func34, by kernel_rfl, rfl⟩, ACall.of Try.func34 rfl fun c0 hc0 => ?_⟩; simp only [Try.ntmps34, Ya, Y9, Nat.reduceAdd, Nat.reduceSub, Ym, Yn, Y5, Y3]; refine Run.god tab_ok follows_ok Try.func34 60 ?_; simp only [Try.results34, let_0, let_1, let_2, let_3, xlen, ylen, decide_true, decide_false, h1, h2, h3, h4, ↓alts_t, ↓alts_f, ↓gone_tt, ↓gone_tf, ↓gdone_tf, gslot, drun, adops, adone, places, mayNeed, freeOk, rdOf, wrOf, aops, aone, afin, ares, aresL, ares1, aresOk, aresOk1, aop, needs, ext, aev, aconst, aput, aupd, aload, afieldAddr, acmp, ashift, abin, tab_3, tab_83, ok1, cellsAs, TI.agg, AV.cells, AV.whole, Y4, Yb, Yc, Y6, Y7, Ya, Y9, Y1, Y2, Yw, Yi, Y5, Y3, Yt, Yu, Ys, Yr, Nat.reduceAdd, Nat.reduceLeDiff, Yp, Yq, Y0, Y8]
    ((repeat' apply And.intro) <;> try first | rfl | omega | (unfold I64; omega))
    all_goals (repeat' first | exact .refl _ | apply LeR.tup | apply Le.agg | constructor)
  by_cases h5 : l.value = m.value
  case neg =>
    rw [Ltr.ne fun e => h5 e.2.2.2.2.1]
    refine ⟨⟨_, Try.func34, by kernel_rfl, rfl⟩, ACall.of Try.func34 rfl fun c0 hc0 => ?_⟩; simp only [Try.ntmps34, Ya, Y9, Nat.reduceAdd, Nat.reduceSub, Ym, Yn, Y5, Y3]; refine Run.god tab_ok follows_ok Try.func34 60 ?_; simp only [Try.results34, let_0, let_1, let_2, let_3, let_4, xlen, ylen, decide_true, decide_false, h1, h2, h3, h4, h5, ↓alts_t, ↓alts_f, ↓gone_tt, ↓gone_tf, ↓gdone_tf, gslot, drun, adops, adone, places, mayNeed, freeOk, rdOf, wrOf, aops, aone, afin, ares, aresL, ares1, aresOk, aresOk1, aop, needs, ext, aev, aconst, aput, aupd, aload, afieldAddr, acmp, ashift, abin, tab_3, tab_9, tab_83, ok1, cellsAs, TI.agg, AV.cells, AV.whole, Y4, Yb, Yc, Y6, Y7, Ya, Y9, Y1, Y2, Yw, Yi, Y5, Y3, Yt, Yu, Ys, Yr, Nat.reduceAdd, Nat.reduceLeDiff, Yp, Yq, Y0, Y8]
    ((repeat' apply And.intro) <;> try first | rfl | omega | (unfold I64; omega))
    all_goals (repeat' first | exact .refl _ | apply LeR.tup | apply Le.agg | constructor)
  by_cases h6 : l.vote = m.vote
  case neg =>
    rw [Ltr.ne fun e => h6 e.2.2.2.2.2.1]
    refine ⟨⟨_, Try.func34, by kernel_rfl, rfl⟩, ACall.of Try.func34 rfl fun c0 hc0 => ?_⟩; simp only [Try.ntmps34, Ya, Y9, Nat.reduceAdd, Nat.reduceSub, Ym, Yn, Y5, Y3]; refine Run.god tab_ok follows_ok Try.func34 60 ?_; simp only [Try.results34, let_0, let_1, let_2, let_3, let_4, let_6, xlen, ylen, hV, decide_true, decide_false, h1, h2, h3, h4, h5, h6, ↓alts_t, ↓alts_f, ↓gone_tt, ↓gone_tf, ↓gdone_tf, gslot, drun, adops, adone, places, mayNeed, freeOk, rdOf, wrOf, aops, aone, afin, ares, aresL, ares1, aresOk, aresOk1, aop, needs, ext, aev, aconst, aput, aupd, aload, afieldAddr, acmp, ashift, abin, tab_3, tab_9, tab_77, tab_83, ok1, cellsAs, TI.agg, AV.cells, AV.whole, Y4, Yb, Yc, Y6, Y7, Ya, Y9, Y1, Y2, Yw, Yi, Y5, Y3, Yt, Yu, Ys, Yr, Nat.reduceAdd, Nat.reduceLeDiff, Yp, Yq, Y0, Y8]
    ((repeat' apply And.intro) <;> try first | rfl | omega | (unfold I64; omega))
    all_goals (repeat' first | exact .refl _ | apply LeR.tup | apply Le.agg | constructor)
  rw [h6] at hV
  by_cases h7 : l.sum = m.sum
  case neg =>
    rw [Ltr.ne fun e => h7 e.2.2.2.2.2.2.1]
    refine ⟨⟨_, Try.func34, by kernel_rfl, rfl⟩, ACall.of Try.func34 rfl fun c0 hc0 => ?_⟩; simp only [Try.ntmps34, Ya, Y9, Nat.reduceAdd, Nat.reduceSub, Ym, Yn, Y5, Y3]; refine Run.god tab_ok follows_ok Try.func34 60 ?_; simp only [Try.results34, let_0, let_1, let_2, let_3, let_4, let_6, x16, y16, xlen, ylen, hV, hS, decide_true, decide_false, h1, h2, h3, h4, h5, h6, h7, ↓alts_t, ↓alts_f, ↓gone_tt, ↓gone_tf, ↓gdone_tf, gslot, drun, adops, adone, places, mayNeed, freeOk, rdOf, wrOf, aops, aone, afin, ares, aresL, ares1, aresOk, aresOk1, aop, needs, ext, aev, aconst, aput, aupd, aload, afieldAddr, acmp, ashift, abin, tab_3, tab_9, tab_77, tab_81, tab_83, ok1, cellsAs, TI.agg, AV.cells, AV.whole, Y4, Yb, Yc, Y6, Y7, Ya, Y9, Y1, Y2, Yw, Yi, Y5, Y3, Yt, Yu, Ys, Yr, Nat.reduceAdd, Nat.reduceLeDiff, Yp, Yq, Y0, Y8]
    ((repeat' apply And.intro) <;> try first | rfl | omega | (unfold I64; omega))
    all_goals (repeat' first | exact .refl _ | apply LeR.tup | apply Le.agg | constructor)
  rw [h7] at hS
  by_cases h8 : l.o = m.o
  case neg =>
    rw [Ltr.ne fun e => h8 e.2.2.2.2.2.2.2.1]
    refine ⟨⟨_, Try.func34, by kernel_rfl, rfl⟩, ACall.of Try.func34 rfl fun c0 hc0 => ?_⟩; simp only [Try.ntmps34, Ya, Y9, Nat.reduceAdd, Nat.reduceSub, Ym, Yn, Y5, Y3]; refine Run.god tab_ok follows_ok Try.func34 60 ?_; simp only [Try.results34, let_0, let_1, let_2, let_3, let_4, let_6, x16, x48, y16, y48, xlen, ylen, hV, hO, hS, decide_true, decide_false, h1, h2, h3, h4, h5, h6, h7, h8, ↓alts_t, ↓alts_f, ↓gone_tt, ↓gdone_tf, gslot, drun, adops, adone, places, mayNeed, freeOk, rdOf, wrOf, aops, aone, afin, ares, aresL, ares1, aresOk, aresOk1, aop, needs, ext, aev, aconst, aput, aupd, aload, afieldAddr, acmp, ashift, abin, tab_3, tab_9, tab_29, tab_77, tab_81, tab_83, ok1, cellsAs, TI.agg, AV.cells, AV.whole, Y4, Yb, Yc, Y6, Y7, Ya, Y9, Y1, Y2, Yw, Yi, Y5, Y3, Yt, Yu, Ys, Yr, Nat.reduceAdd, Nat.reduceLeDiff, Yp, Yq, Y0, Y8]
    ((repeat' apply And.intro) <;> try first | rfl | omega | (unfold I64; omega))
    all_goals (repeat' first | exact .refl _ | apply LeR.tup | apply Le.agg | constructor)
  rw [h8] at hO
  refine ⟨⟨_, Try.func34, by kernel_rfl, rfl⟩, ACall.of Try.func34 rfl fun c0 hc0 => ?_⟩; simp only [Try.ntmps34, Ya, Y9, Nat.reduceAdd, Nat.reduceSub, Ym, Yn, Y5, Y3]; refine Run.god tab_ok follows_ok Try.func34 60 ?_; simp only [let_0, let_1, let_2, let_3, let_4, let_5, let_6, x16, x48, y16, y48, xlen, ylen, hV, hO, hS, decide_true, h1, h2, h3, h4, h5, h6, h7, h8, ↓alts_t, ↓gone_tt, ↓gdone_tt, gslot, drun, adops, adone, places, mayNeed, freeOk, rdOf, AV.id, wrOf, aops, aone, aop, needs, ext, aev, aconst, aput, aupd, aload, afieldAddr, acmp, ashift, abin, tab_3, tab_9, tab_29, tab_75, tab_77, tab_81, tab_83, ok1, cellsAs, TI.agg, AV.cells, AV.whole, Y4, Yb, Yc, Y6, Y7, Ya, Y9, Y1, Y2, Yw, Yi, Y5, Y3, Yt, Yu, Ys, Yr, Nat.reduceAdd, Nat.reduceLeDiff, Yp, Yq, Y0, Y8]
  ((repeat' apply And.intro) <;> try first | rfl | omega | (unfold I64; omega))
  refine DOps.own rfl (Wanted.test 1 true true rfl) rfl rfl (k1) (by simp only [rpsA, aev, Y4, Y1, Y2, Yf, Ye, Y3, Yd, Y0]; (repeat' first | exact .refl _ | apply LeR.tup | apply Le.agg | constructor)) rfl rfl ?_
  refine DOps.god tab_ok follows_ok Try.func34 60 rfl ?_; simp only [let_5, let_10, xlen, ylen, rpsA, votesA, rpC, ↓alts_t, ↓gdone_tt, gslot, aappendM, AV.mid, adops, adone, mayNeed, freeOk, rdOf, AV.id, wrOf, aop, needs, aev, aconst, aput, aupd, aload, afieldAddr, aelems, plains, asrc, aappend, tab_75, tab_80, tab_83, ok1, cellsAs, TI.agg, AV.cells, AV.whole, AV.plain, AV.bare, Y4, Yb, Yc, Y6, Y7, Ya, Y9, Y1, Y2, Yw, Yf, Ye, Yo, Y5, Y3, Yd, List.all_cons, List.all_nil, Ym, Yn, Yt, Yu, Ys, Yr, Nat.reduceAdd, Nat.reduceLeDiff, Nat.reduceMul, Nat.reduceBEq, Yp, Bool.and_self, Bool.and_false, Nat.reduceLT, Y0, Y8]
  ((repeat' apply And.intro) <;> try first | rfl | omega | (unfold I64; omega))
  refine DOps.own rfl (Wanted.test 1 true true rfl) rfl rfl (k2) (by simp only [rpsA, aev, Y4, Y1, Y2, Yf, Ye, Y3, Yd, Y0]; (repeat' first | exact .refl _ | apply LeR.tup | apply Le.agg | constructor)) rfl rfl ?_
  refine DOps.god tab_ok follows_ok Try.func34 60 rfl ?_; simp only [let_10, ylen, votesA, rpC, ↓alts_t, ↓gdone_tt, gslot, aappendM, AV.mid, adops, adone, mayNeed, freeOk, rdOf, AV.id, wrOf, aop, needs, aev, aconst, aput, aupd, aload, afieldAddr, aelems, plains, asrc, aappend, tab_75, tab_80, tab_83, ok1, cellsAs, TI.agg, AV.cells, AV.whole, AV.plain, AV.bare, Y4, Yb, Yc, Y6, Y7, Ya, Y9, Y1, Y2, Yw, Yf, Ye, Yo, Y5, Y3, Yd, List.all_cons, List.all_nil, Ym, Yn, Yt, Yu, Ys, Yr, Nat.reduceAdd, Nat.reduceLeDiff, Nat.reduceMul, Nat.reduceBEq, Yp, Bool.and_self, Bool.and_false, Nat.reduceLT, Y0, Y8]
  ((repeat' apply And.intro) <;> try first | rfl | omega | (unfold I64; omega))
  by_cases h9 : l.cert ++ [l.r] = m.cert ++ [m.r]
  case neg =>
    rw [Ltr.ne fun e => h9 e.2.2.2.2.2.2.2.2.1]
    rw [decide_eq_false h9] at s1
    refine DOps.pure rfl (Wanted.test 1 true true rfl) rfl rfl (s1) (by simp only [rpsA, List.map_append, Yf, Ye, aev, Y4, Y1, Y2, Y3, Yd, Y0]; (repeat' first | exact .refl _ | apply LeR.tup | apply Le.agg | constructor)) rfl rfl ?_
    refine DOps.god tab_ok follows_ok Try.func34 60 rfl ?_; simp only [Try.results34, ↓alts_f, ↓gdone_tf, gslot, drun, adops, adone, mayNeed, freeOk, rdOf, wrOf, afin, ares, aresL, ares1, aresOk, aresOk1, aop, needs, aev, aconst, aput, aupd, ok1, Y4, Yb, Yc, Y6, Y7, Y1, Y2, Yw, Y5, Y3, Yt, Yu, Ys, Yr, Nat.reduceAdd, Y0, Y8]
    ((repeat' apply And.intro) <;> try first | rfl | omega | (unfold I64; omega))
    all_goals (repeat' first | exact .refl _ | apply LeR.tup | apply Le.agg | constructor)
  rw [decide_eq_true h9] at s1
  refine DOps.pure rfl (Wanted.test 1 true true rfl) rfl rfl (s1) (by simp only [rpsA, List.map_append, Yf, Ye, aev, Y4, Y1, Y2, Y3, Yd, Y0]; (repeat' first | exact .refl _ | apply LeR.tup | apply Le.agg | constructor)) rfl rfl ?_
  refine DOps.god tab_ok follows_ok Try.func34 60 rfl ?_; simp only [let_9, xlen, ylen, votesA, ↓alts_t, ↓gdone_tt, gslot, adops, adone, mayNeed, freeOk, rdOf, AV.id, wrOf, aop, needs, aev, aput, aupd, aload, afieldAddr, tab_78, tab_83, ok1, cellsAs, TI.agg, Y4, Yb, Yc, Y6, Y7, Y1, Y2, Yw, Y5, Y3, Yt, Yu, Yr, Nat.reduceAdd, Nat.reduceLeDiff, Yp, Y0, Y8]
  ((repeat' apply And.intro) <;> try first | rfl | omega | (unfold I64; omega))
  by_cases h10 : l.proof = m.proof
  case neg =>
    rw [Ltr.ne fun e => h10 e.2.2.2.2.2.2.2.2.2.1]
    rw [decide_eq_false h10] at s2
    refine DOps.pure rfl (Wanted.test 18 true true rfl) rfl rfl (s2) (by simp only [votesA, aev, Y4, Y1, Y2, Yf, Ye, Y3, Yd, Y0]; (repeat' first | exact .refl _ | apply LeR.tup | apply Le.agg | constructor)) rfl rfl ?_
    refine DOps.god tab_ok follows_ok Try.func34 60 rfl ?_; simp only [Try.results34, ↓alts_f, ↓gdone_tf, gslot, drun, adops, adone, mayNeed, freeOk, rdOf, wrOf, afin, ares, aresL, ares1, aresOk, aresOk1, aop, needs, aev, aconst, aput, aupd, ok1, Y4, Yb, Yc, Y6, Y7, Y1, Y2, Yw, Y5, Y3, Yt, Yu, Ys, Yr, Nat.reduceAdd, Y0, Y8]
    ((repeat' apply And.intro) <;> try first | rfl | omega | (unfold I64; omega))
    all_goals (repeat' first | exact .refl _ | apply LeR.tup | apply Le.agg | constructor)
  rw [decide_eq_true h10] at s2
  rw [Ltr.eq h1 h2 h3 h4 h5 h6 h7 h8 h9 h10]
  refine DOps.pure rfl (Wanted.test 18 true true rfl) rfl rfl (s2) (by simp only [votesA, aev, Y4, Y1, Y2, Yf, Ye, Y3, Yd, Y0]; (repeat' first | exact .refl _ | apply LeR.tup | apply Le.agg | constructor)) rfl rfl ?_
  refine DOps.god tab_ok follows_ok Try.func34 60 rfl ?_; simp only [x56, y56, xlen, ylen, rplC, ↓alts_t, ↓gdone_tt, gslot, adops, adone, mayNeed, freeOk, rdOf, AV.id, wrOf, aop, needs, aev, aput, aupd, aload, afieldAddr, tab_43, tab_83, ok1, cellsAs, TI.agg, Y4, Yb, Yc, Y6, Y7, Y1, Y2, Yw, Y5, Y3, Yt, Yu, Ys, Yr, Nat.reduceAdd, Yp, Yv, Y0, Y8]
  ((repeat' apply And.intro) <;> try first | rfl | omega | (unfold I64; omega))
  refine DOps.pure rfl (Wanted.test 25 true true rfl) rfl rfl (s3) (by simp only [encR, textsA, aev, Y4, Y1, Y2, Yf, Ye, Y3, Yd, Y0]; (repeat' first | exact .refl _ | apply LeR.tup | apply Le.agg | constructor)) rfl rfl ?_
  refine DOps.god tab_ok follows_ok Try.func34 60 rfl ?_; simp only [Try.results34, drun, adops, adone, mayNeed, freeOk, rdOf, wrOf, afin, ares, aresL, ares1, aresOk, aresOk1, aop, needs, aev, aput, aupd, ok1, Y4, Yb, Yc, Y6, Y7, Y1, Y2, Y5, Y3, Yt, Yu, Yr, Nat.reduceAdd, Y0, Y8]
  ((repeat' apply And.intro) <;> try first | rfl | omega | (unfold I64; omega))
  all_goals (repeat' first | exact .refl _ | apply LeR.tup | apply Le.agg | constructor)
end Go.Proofs.Ytkamcoechjdgpaa
