/-
  Several texts in one: Iu, Tp, Open, ZRep, OpenS, Rd.
-/
import Derived.Test.YtkamcoechjdgpaaMg
import Derived.Test.YtkamcoechjdgpaaMd
import Derived.SizedLaws
set_option maxRecDepth 20000
set_option maxHeartbeats 8000000
/-
  Package wire: may a letter be; the bytes of a letter; the letter of bytes.
-/
namespace Go.Proofs.Ytkamcoechjdgpaa
open Go.RowKit
theorem wrL_le {l : Ltr} (h : smL l) (hk : 1 ≤ l.kind ∧ l.kind ≤ 10) : (wrL l).length ≤ 900000 := by
  obtain ⟨h1, h2, h3, h4, h5, h6, h7, h8, h9, h10, h11, h12, h13, h14, h15, h16, h17, h18, h19⟩ := h
  have e0 := enc9 l.kind (by unfold I64; omega)
  have e1 := enc9 _ h1
  have e2 := enc9 _ h2
  have e3 := enc9 _ h3
  have e4 := encT_le l.value (by omega)
  have e5 := enc9 l.cert.length (by unfold I64; omega)
  have e6 := rpsB_take l.cert h5
  have e7 : (rpsB l.cert).length = (encN (zig l.cert.length)).length + ((l.cert.map reportB).flatten).length := by unfold rpsB; simp only [List.length_append]
  have e8 := voteB_le l.vote h8
  have e9 := votesB_le l.proof h9 h10
  have e10 := reportB_le l.r h12
  have e11 := encZs_le [l.o.a, l.o.b, l.o.kind, l.o.x, l.o.y, l.o.z] (by simp; exact ⟨h15.1, h15.2.1, h15.2.2.1, h15.2.2.2.1, h15.2.2.2.2.1, h15.2.2.2.2.2.1⟩)
  have e12 := encT_le l.o.s (by have := h15.2.2.2.2.2.2.1; omega)
  have e13 := encT_le l.o.t (by have := h15.2.2.2.2.2.2.2; omega)
  have e14 := encZs_le [l.x.a, l.x.b, l.x.e, l.x.x] (by simp; exact ⟨h16.1, h16.2.1, h16.2.2.1, h16.2.2.2.1⟩)
  have e15 := encT_le l.x.s (by omega)
  have e16 := encRow_le l.x.l (by omega)
  have e17 := encN_le l.x.l.length (by have := tot_length l.x.l; omega)
  have g1 := h15.2.2.2.2.2.2.1
  have g2 := h15.2.2.2.2.2.2.2
  simp only [Ya, Y9, Nat.reduceAdd, Nat.reduceMul] at e11 e14
  unfold wrL wrB
  repeat' split
  all_goals (simp only [List.length_append, putO, putR, encL_row]; omega)
theorem Good.short {l : Ltr} (h : Good l) : shortX l.x = true ∧ shortV l.proof = true ∧ l.cert.any longR = false ∧ longR l.r = false := by
  obtain ⟨hk, hu, t1, t2, t3, t4, t5, t6, t7, t8, t9, t10, t11, t12⟩ := h
  have hV : ∀ p : List Acc, SV p → shortV p = true := fun p hp => by
    unfold shortV
    rw [decide_eq_true hp.1, Bool.true_and, Bool.not_eq_true', List.any_eq_false]
    intro a ha
    have := (hp.2 a ha).2.2
    unfold longV
    simp only [decide_eq_true_eq]
    omega
  have hR : ∀ r : Rp, SR r → longR r = false := fun r hr => by
    unfold longR
    rw [hV _ hr.2.2.2.2]
    have := hr.2.2.2.1
    simp; omega
  refine ⟨?_, hV _ t7, ?_, hR _ t8⟩
  · obtain ⟨_, _, _, k1, k2, k3, k4⟩ := t12
    have e : l.x.l.any longTx = false := by
      rw [List.any_eq_false]
      intro a ha
      have := k4 a ha
      unfold longTx
      simp only [decide_eq_true_eq]
      omega
    unfold shortX
    rw [e]
    simp; omega
  · rw [List.any_eq_false]
    intro r hr
    rw [hR r (t5.2 r hr)]
    decide
theorem Good.kind8 {l : Ltr} (h : Good l) (hk : l.kind = 8) : mayO l.o = true := by
  obtain ⟨_, _, _, _, _, _, _, _, _, _, _, h8, _, _⟩ := h
  exact h8 hk
theorem sh_of {l : Ltr} (h1 : l.value.length ≤ 6000) (h2 : l.cert.length ≤ 30) (h3 : l.vote.value.length ≤ 6000) (h4 : shortV l.proof = true) (h5 : l.cert.any longR = false) (h6 : longR l.r = false) (h7 : shortX l.x = true) : ShL l := by
  have hV : ∀ p : List Acc, shortV p = true → ShV p := fun p hp => by
    simp only [shortV, Bool.and_eq_true, decide_eq_true_eq, Bool.not_eq_true', List.any_eq_false, longV] at hp
    exact ⟨hp.1, fun a ha => by have := hp.2 a ha; omega⟩
  have hR : ∀ r : Rp, longR r = false → ShR r := fun r hr => by
    simp only [longR, Bool.or_eq_false_iff, decide_eq_false_iff_not, Bool.not_eq_false'] at hr
    exact ⟨by omega, hV _ hr.2⟩
  refine ⟨h1, h2, fun r hr => hR r ?_, h3, hV _ h4, hR _ h6, ?_⟩
  · rw [List.any_eq_false] at h5
    have := h5 r hr
    simpa using this
  · simp only [shortX, Bool.and_eq_true, decide_eq_true_eq] at h7
    omega
theorem may27_k1 (l : Ltr) (hl : l.sum.length = 32) (h : l.kind < 1) : ASpec Try.prog 30 [.agg (letC l)] (.bool false) := by
  have x0 := let_0 l
  have x4 := let_4 l
  have x5 := let_5 l
  have x8 := let_8 l
  have x9 := let_9 l
  have x10 := let_10 l
  have x48 := let_48 l hl
  have x56 := let_56 l hl
  have xlen := let_len l hl
  have xfull := let_full l hl
  refine ⟨⟨_, Try.func30, by kernel_rfl, rfl⟩, ACall.of Try.func30 rfl fun c0 hc0 => ?_⟩; simp only [Try.ntmps30, Ya, Y9, Nat.reduceAdd, Nat.reduceSub, Ym, Yn, Y5, Y3]; refine Run.god tab_ok follows_ok Try.func30 60 ?_; simp only [Try.results30, x0, xlen, h, decide_true, ↓alt_t, ↓alts_t, ↓gone_ft, gslot, drun, aops, aone, afin, ares, aresL, ares1, aresOk, aresOk1, aop, needs, ext, aev, aconst, aput, aupd, aload, afieldAddr, acmp, ashift, abin, tab_3, tab_83, ok1, cellsAs, TI.agg, AV.cells, AV.whole, Y4, Yb, Yc, Y6, Y7, Y9, Y1, Y2, Yw, Yi, Y5, Y3, Yt, Yu, Ys, Yr, Nat.reduceLeDiff, Yp, Yq, Y0, Y8]
  ((repeat' apply And.intro) <;> try first | rfl | omega | (unfold I64; omega))
  (repeat' first | exact .refl _ | apply LeR.tup | apply Le.agg | constructor)
theorem may27_k2 (l : Ltr) (hl : l.sum.length = 32) (h0 : ¬ l.kind < 1) (h : 10 < l.kind) : ASpec Try.prog 30 [.agg (letC l)] (.bool false) := by
  have x0 := let_0 l
  have x4 := let_4 l
  have x5 := let_5 l
  have x8 := let_8 l
  have x9 := let_9 l
  have x10 := let_10 l
  have x48 := let_48 l hl
  have x56 := let_56 l hl
  have xlen := let_len l hl
  have xfull := let_full l hl
  refine ⟨⟨_, Try.func30, by kernel_rfl, rfl⟩, ACall.of Try.func30 rfl fun c0 hc0 => ?_⟩; simp only [Try.ntmps30, Ya, Y9, Nat.reduceAdd, Nat.reduceSub, Ym, Yn, Y5, Y3]; refine Run.god tab_ok follows_ok Try.func30 60 ?_; simp only [Try.results30, x0, xlen, h0, h, decide_true, decide_false, ↓alt_t, ↓alts_t, ↓alts_f, ↓gone_ft, ↓gone_ff, gslot, drun, aops, aone, afin, ares, aresL, ares1, aresOk, aresOk1, aop, needs, ext, aev, aconst, aput, aupd, aload, afieldAddr, acmp, ashift, abin, tab_3, tab_83, ok1, cellsAs, TI.agg, AV.cells, AV.whole, Y4, Yb, Yc, Y6, Y7, Y9, Y1, Y2, Yw, Yi, Y5, Y3, Yt, Yu, Ys, Yr, Nat.reduceLeDiff, Yp, Yq, Y0, Y8]
  ((repeat' apply And.intro) <;> try first | rfl | omega | (unfold I64; omega))
  (repeat' first | exact .refl _ | apply LeR.tup | apply Le.agg | constructor)
theorem may27_k8 (l : Ltr) (hl : l.sum.length = 32) (h : l.kind = 8) (ho : mayO l.o = false) : ASpec Try.prog 30 [.agg (letC l)] (.bool false) := by
  have x0 := let_0 l
  have x4 := let_4 l
  have x5 := let_5 l
  have x8 := let_8 l
  have x9 := let_9 l
  have x10 := let_10 l
  have x48 := let_48 l hl
  have x56 := let_56 l hl
  have xlen := let_len l hl
  have xfull := let_full l hl
  have hm := may_spec l.o
  rw [ho] at hm
  refine ⟨⟨_, Try.func30, by kernel_rfl, rfl⟩, ACall.of Try.func30 rfl fun c0 hc0 => ?_⟩; simp only [Try.ntmps30, Ya, Y9, Nat.reduceAdd, Nat.reduceSub, Ym, Yn, Y5, Y3]; refine Run.god tab_ok follows_ok Try.func30 60 ?_; simp only [x0, x48, xlen, h, decide_true, decide_false, ↓alts_t, ↓alts_f, ↓gone_tt, ↓gone_ff, gslot, Int.reduceLT, drun, aops, aone, aop, needs, ext, aev, aconst, aput, aupd, aload, afieldAddr, acmp, ashift, abin, tab_3, tab_29, tab_83, ok1, cellsAs, TI.agg, AV.cells, AV.whole, Y4, Yb, Yc, Y6, Y7, Y9, Y1, Y2, Yw, Yi, Y5, Y3, Yt, Ys, Yr, Nat.reduceAdd, Nat.reduceLeDiff, Yp, Yq, Y0, Y8]
  ((repeat' apply And.intro) <;> try first | rfl | omega | (unfold I64; omega))
  refine Ops.pure (Wanted.test 12 true true rfl) rfl rfl (hm) (by simp only [encO, ordC, aev, Y4, Y1, Y2, Yf, Ye, Y3, Yd, Y0]; (repeat' first | exact .refl _ | apply LeR.tup | apply Le.agg | constructor)) rfl rfl ?_
  refine Ops.god tab_ok follows_ok Try.func30 60 ?_; simp only [Try.results30, ↓alt_t, ↓alts_t, ↓alts_f, ↓gone_tt, ↓gone_ft, ↓gone_ff, gslot, drun, aops, aone, afin, ares, aresL, ares1, aresOk, aresOk1, aop, needs, ext, aev, aconst, aput, aupd, ok1, Y4, Yb, Yc, Y6, Y7, Y1, Y2, Yw, Y5, Y3, Yt, Yu, Yr, Bool.not_false, Y0, Y8]
  ((repeat' apply And.intro) <;> try first | rfl | omega | (unfold I64; omega))
  (repeat' first | exact .refl _ | apply LeR.tup | apply Le.agg | constructor)
theorem may27_x_8 (l : Ltr) (hl : l.sum.length = 32) (hk : l.kind = 8) (ho : mayO l.o = true) (hx : l.x.l.length ≤ 100000000) (hsx : shortX l.x = false) : ASpec Try.prog 30 [.agg (letC l)] (.bool false) := by
  have x0 := let_0 l
  have x4 := let_4 l
  have x5 := let_5 l
  have x8 := let_8 l
  have x9 := let_9 l
  have x10 := let_10 l
  have x48 := let_48 l hl
  have x56 := let_56 l hl
  have xlen := let_len l hl
  have xfull := let_full l hl
  have hxs := shortX_spec l.x hx
  rw [hsx] at hxs
  have hm := may_spec l.o
  rw [ho] at hm
  refine ⟨⟨_, Try.func30, by kernel_rfl, rfl⟩, ACall.of Try.func30 rfl fun c0 hc0 => ?_⟩; simp only [Try.ntmps30, Ya, Y9, Nat.reduceAdd, Nat.reduceSub, Ym, Yn, Y5, Y3]; refine Run.god tab_ok follows_ok Try.func30 60 ?_; simp only [x0, x48, xlen, hk, decide_true, decide_false, ↓alts_t, ↓alts_f, ↓gone_tt, ↓gone_ff, gslot, Int.reduceLT, drun, aops, aone, aop, needs, ext, aev, aconst, aput, aupd, aload, afieldAddr, acmp, ashift, abin, tab_3, tab_29, tab_83, ok1, cellsAs, TI.agg, AV.cells, AV.whole, Y4, Yb, Yc, Y6, Y7, Y9, Y1, Y2, Yw, Yi, Y5, Y3, Yt, Ys, Yr, Nat.reduceAdd, Nat.reduceLeDiff, Yp, Yq, Y0, Y8]
  ((repeat' apply And.intro) <;> try first | rfl | omega | (unfold I64; omega))
  refine Ops.pure (Wanted.test 12 true true rfl) rfl rfl (hm) (by simp only [encO, ordC, aev, Y4, Y1, Y2, Yf, Ye, Y3, Yd, Y0]; (repeat' first | exact .refl _ | apply LeR.tup | apply Le.agg | constructor)) rfl rfl ?_
  refine Ops.god tab_ok follows_ok Try.func30 60 ?_; simp only [x56, xlen, ↓alts_t, ↓alts_f, ↓gone_tt, ↓gone_ff, gslot, aops, aone, aop, needs, ext, aev, aput, aupd, aload, afieldAddr, tab_43, tab_83, ok1, cellsAs, TI.agg, Y4, Yb, Yc, Y6, Y7, Y1, Y2, Yw, Y5, Y3, Yt, Ys, Yr, Nat.reduceAdd, Yp, Bool.not_true, Yv, Y0, Y8]
  ((repeat' apply And.intro) <;> try first | rfl | omega | (unfold I64; omega))
  refine Ops.pure (Wanted.test 19 false false rfl) rfl rfl (hxs) (by simp only [encR, rplC, textsA, aev, Y4, Y1, Y2, Yf, Ye, Y3, Yd, Y0]; (repeat' first | exact .refl _ | apply LeR.tup | apply Le.agg | constructor)) rfl rfl ?_
  refine Ops.god tab_ok follows_ok Try.func30 60 ?_; simp only [Try.results30, ↓alt_t, ↓alts_f, ↓gone_ff, gslot, drun, aops, aone, afin, ares, aresL, ares1, aresOk, aresOk1, aop, needs, ext, aev, aconst, aput, aupd, ok1, Y4, Yb, Yc, Y6, Y7, Y1, Y2, Yw, Y5, Y3, Yt, Yu, Yr, Bool.not_false, Y0, Y8]
  ((repeat' apply And.intro) <;> try first | rfl | omega | (unfold I64; omega))
  (repeat' first | exact .refl _ | apply LeR.tup | apply Le.agg | constructor)
theorem may27_x (l : Ltr) (hl : l.sum.length = 32) (hk1 : ¬ l.kind < 1) (hk2 : ¬ 10 < l.kind) (hk8 : ¬ l.kind = 8) (hx : l.x.l.length ≤ 100000000) (hsx : shortX l.x = false) : ASpec Try.prog 30 [.agg (letC l)] (.bool false) := by
  have x0 := let_0 l
  have x4 := let_4 l
  have x5 := let_5 l
  have x8 := let_8 l
  have x9 := let_9 l
  have x10 := let_10 l
  have x48 := let_48 l hl
  have x56 := let_56 l hl
  have xlen := let_len l hl
  have xfull := let_full l hl
  have hxs := shortX_spec l.x hx
  rw [hsx] at hxs
  refine ⟨⟨_, Try.func30, by kernel_rfl, rfl⟩, ACall.of Try.func30 rfl fun c0 hc0 => ?_⟩; simp only [Try.ntmps30, Ya, Y9, Nat.reduceAdd, Nat.reduceSub, Ym, Yn, Y5, Y3]; refine Run.god tab_ok follows_ok Try.func30 60 ?_; simp only [x0, x56, xlen, hk1, hk2, hk8, decide_false, ↓alts_f, ↓gone_tf, ↓gone_ff, gslot, drun, aops, aone, aop, needs, ext, aev, aconst, aput, aupd, aload, afieldAddr, acmp, ashift, abin, tab_3, tab_43, tab_83, ok1, cellsAs, TI.agg, AV.cells, AV.whole, Y4, Yb, Yc, Y6, Y7, Y9, Y1, Y2, Yw, Yi, Y5, Y3, Yt, Ys, Yr, Nat.reduceAdd, Nat.reduceLeDiff, Yp, Yq, Yv, Y0, Y8]
  ((repeat' apply And.intro) <;> try first | rfl | omega | (unfold I64; omega))
  refine Ops.pure (Wanted.test 19 false false rfl) rfl rfl (hxs) (by simp only [encR, rplC, textsA, aev, Y4, Y1, Y2, Yf, Ye, Y3, Yd, Y0]; (repeat' first | exact .refl _ | apply LeR.tup | apply Le.agg | constructor)) rfl rfl ?_
  refine Ops.god tab_ok follows_ok Try.func30 60 ?_; simp only [Try.results30, ↓alt_t, ↓alts_f, ↓gone_ff, gslot, drun, aops, aone, afin, ares, aresL, ares1, aresOk, aresOk1, aop, needs, ext, aev, aconst, aput, aupd, ok1, Y4, Yb, Yc, Y6, Y7, Y1, Y2, Yw, Y5, Y3, Yt, Yu, Yr, Bool.not_false, Y0, Y8]
  ((repeat' apply And.intro) <;> try first | rfl | omega | (unfold I64; omega))
  (repeat' first | exact .refl _ | apply LeR.tup | apply Le.agg | constructor)
theorem may27_v_8 (l : Ltr) (hl : l.sum.length = 32) (hk : l.kind = 8) (ho : mayO l.o = true) (hx : l.x.l.length ≤ 100000000) (hsx : shortX l.x = true) (h1 : (6000 : Int) < l.value.length) : ASpec Try.prog 30 [.agg (letC l)] (.bool false) := by
  have x0 := let_0 l
  have x4 := let_4 l
  have x5 := let_5 l
  have x8 := let_8 l
  have x9 := let_9 l
  have x10 := let_10 l
  have x48 := let_48 l hl
  have x56 := let_56 l hl
  have xlen := let_len l hl
  have xfull := let_full l hl
  have hxs := shortX_spec l.x hx
  rw [hsx] at hxs
  have hm := may_spec l.o
  rw [ho] at hm
  refine ⟨⟨_, Try.func30, by kernel_rfl, rfl⟩, ACall.of Try.func30 rfl fun c0 hc0 => ?_⟩; simp only [Try.ntmps30, Ya, Y9, Nat.reduceAdd, Nat.reduceSub, Ym, Yn, Y5, Y3]; refine Run.god tab_ok follows_ok Try.func30 60 ?_; simp only [x0, x48, xlen, hk, decide_true, decide_false, ↓alts_t, ↓alts_f, ↓gone_tt, ↓gone_ff, gslot, Int.reduceLT, drun, aops, aone, aop, needs, ext, aev, aconst, aput, aupd, aload, afieldAddr, acmp, ashift, abin, tab_3, tab_29, tab_83, ok1, cellsAs, TI.agg, AV.cells, AV.whole, Y4, Yb, Yc, Y6, Y7, Y9, Y1, Y2, Yw, Yi, Y5, Y3, Yt, Ys, Yr, Nat.reduceAdd, Nat.reduceLeDiff, Yp, Yq, Y0, Y8]
  ((repeat' apply And.intro) <;> try first | rfl | omega | (unfold I64; omega))
  refine Ops.pure (Wanted.test 12 true true rfl) rfl rfl (hm) (by simp only [encO, ordC, aev, Y4, Y1, Y2, Yf, Ye, Y3, Yd, Y0]; (repeat' first | exact .refl _ | apply LeR.tup | apply Le.agg | constructor)) rfl rfl ?_
  refine Ops.god tab_ok follows_ok Try.func30 60 ?_; simp only [x56, xlen, ↓alts_t, ↓alts_f, ↓gone_tt, ↓gone_ff, gslot, aops, aone, aop, needs, ext, aev, aput, aupd, aload, afieldAddr, tab_43, tab_83, ok1, cellsAs, TI.agg, Y4, Yb, Yc, Y6, Y7, Y1, Y2, Yw, Y5, Y3, Yt, Ys, Yr, Nat.reduceAdd, Yp, Bool.not_true, Yv, Y0, Y8]
  ((repeat' apply And.intro) <;> try first | rfl | omega | (unfold I64; omega))
  refine Ops.pure (Wanted.test 19 false false rfl) rfl rfl (hxs) (by simp only [encR, rplC, textsA, aev, Y4, Y1, Y2, Yf, Ye, Y3, Yd, Y0]; (repeat' first | exact .refl _ | apply LeR.tup | apply Le.agg | constructor)) rfl rfl ?_
  refine Ops.god tab_ok follows_ok Try.func30 60 ?_; simp only [Try.results30, h1, decide_true, x4, xlen, ↓alt_t, ↓alt_f, ↓alts_t, ↓alts_f, ↓gone_ft, ↓gone_ff, gslot, drun, aops, aone, afin, ares, aresL, ares1, aresOk, aresOk1, aop, needs, ext, aev, aconst, aput, aupd, aload, afieldAddr, acmp, ashift, abin, alen, tab_3, tab_9, tab_83, ok1, cellsAs, TI.agg, Y4, Yb, Yc, Y6, Y7, Y1, Y2, Yw, Y5, Y3, Yt, Yu, Ys, Yr, Nat.reduceAdd, Nat.reduceLeDiff, Yp, Bool.not_true, Y0, Y8]
  ((repeat' apply And.intro) <;> try first | rfl | omega | (unfold I64; omega))
  (repeat' first | exact .refl _ | apply LeR.tup | apply Le.agg | constructor)
theorem may27_v (l : Ltr) (hl : l.sum.length = 32) (hk1 : ¬ l.kind < 1) (hk2 : ¬ 10 < l.kind) (hk8 : ¬ l.kind = 8) (hx : l.x.l.length ≤ 100000000) (hsx : shortX l.x = true) (h1 : (6000 : Int) < l.value.length) : ASpec Try.prog 30 [.agg (letC l)] (.bool false) := by
  have x0 := let_0 l
  have x4 := let_4 l
  have x5 := let_5 l
  have x8 := let_8 l
  have x9 := let_9 l
  have x10 := let_10 l
  have x48 := let_48 l hl
  have x56 := let_56 l hl
  have xlen := let_len l hl
  have xfull := let_full l hl
  have hxs := shortX_spec l.x hx
  rw [hsx] at hxs
  refine ⟨⟨_, Try.func30, by kernel_rfl, rfl⟩, ACall.of Try.func30 rfl fun c0 hc0 => ?_⟩; simp only [Try.ntmps30, Ya, Y9, Nat.reduceAdd, Nat.reduceSub, Ym, Yn, Y5, Y3]; refine Run.god tab_ok follows_ok Try.func30 60 ?_; simp only [x0, x56, xlen, hk1, hk2, hk8, decide_false, ↓alts_f, ↓gone_tf, ↓gone_ff, gslot, drun, aops, aone, aop, needs, ext, aev, aconst, aput, aupd, aload, afieldAddr, acmp, ashift, abin, tab_3, tab_43, tab_83, ok1, cellsAs, TI.agg, AV.cells, AV.whole, Y4, Yb, Yc, Y6, Y7, Y9, Y1, Y2, Yw, Yi, Y5, Y3, Yt, Ys, Yr, Nat.reduceAdd, Nat.reduceLeDiff, Yp, Yq, Yv, Y0, Y8]
  ((repeat' apply And.intro) <;> try first | rfl | omega | (unfold I64; omega))
  refine Ops.pure (Wanted.test 19 false false rfl) rfl rfl (hxs) (by simp only [encR, rplC, textsA, aev, Y4, Y1, Y2, Yf, Ye, Y3, Yd, Y0]; (repeat' first | exact .refl _ | apply LeR.tup | apply Le.agg | constructor)) rfl rfl ?_
  refine Ops.god tab_ok follows_ok Try.func30 60 ?_; simp only [Try.results30, h1, decide_true, x4, xlen, ↓alt_t, ↓alt_f, ↓alts_t, ↓alts_f, ↓gone_ft, ↓gone_ff, gslot, drun, aops, aone, afin, ares, aresL, ares1, aresOk, aresOk1, aop, needs, ext, aev, aconst, aput, aupd, aload, afieldAddr, acmp, ashift, abin, alen, tab_3, tab_9, tab_83, ok1, cellsAs, TI.agg, Y4, Yb, Yc, Y6, Y7, Y1, Y2, Yw, Y5, Y3, Yt, Yu, Ys, Yr, Nat.reduceAdd, Nat.reduceLeDiff, Yp, Bool.not_true, Y0, Y8]
  ((repeat' apply And.intro) <;> try first | rfl | omega | (unfold I64; omega))
  (repeat' first | exact .refl _ | apply LeR.tup | apply Le.agg | constructor)
theorem may27_c_8 (l : Ltr) (hl : l.sum.length = 32) (hk : l.kind = 8) (ho : mayO l.o = true) (hx : l.x.l.length ≤ 100000000) (hsx : shortX l.x = true) (h1 : ¬ (6000 : Int) < l.value.length) (h2 : (30 : Int) < l.cert.length) : ASpec Try.prog 30 [.agg (letC l)] (.bool false) := by
  have x0 := let_0 l
  have x4 := let_4 l
  have x5 := let_5 l
  have x8 := let_8 l
  have x9 := let_9 l
  have x10 := let_10 l
  have x48 := let_48 l hl
  have x56 := let_56 l hl
  have xlen := let_len l hl
  have xfull := let_full l hl
  have hxs := shortX_spec l.x hx
  rw [hsx] at hxs
  have hm := may_spec l.o
  rw [ho] at hm
  refine ⟨⟨_, Try.func30, by kernel_rfl, rfl⟩, ACall.of Try.func30 rfl fun c0 hc0 => ?_⟩; simp only [Try.ntmps30, Ya, Y9, Nat.reduceAdd, Nat.reduceSub, Ym, Yn, Y5, Y3]; refine Run.god tab_ok follows_ok Try.func30 60 ?_; simp only [x0, x48, xlen, hk, decide_true, decide_false, ↓alts_t, ↓alts_f, ↓gone_tt, ↓gone_ff, gslot, Int.reduceLT, drun, aops, aone, aop, needs, ext, aev, aconst, aput, aupd, aload, afieldAddr, acmp, ashift, abin, tab_3, tab_29, tab_83, ok1, cellsAs, TI.agg, AV.cells, AV.whole, Y4, Yb, Yc, Y6, Y7, Y9, Y1, Y2, Yw, Yi, Y5, Y3, Yt, Ys, Yr, Nat.reduceAdd, Nat.reduceLeDiff, Yp, Yq, Y0, Y8]
  ((repeat' apply And.intro) <;> try first | rfl | omega | (unfold I64; omega))
  refine Ops.pure (Wanted.test 12 true true rfl) rfl rfl (hm) (by simp only [encO, ordC, aev, Y4, Y1, Y2, Yf, Ye, Y3, Yd, Y0]; (repeat' first | exact .refl _ | apply LeR.tup | apply Le.agg | constructor)) rfl rfl ?_
  refine Ops.god tab_ok follows_ok Try.func30 60 ?_; simp only [x56, xlen, ↓alts_t, ↓alts_f, ↓gone_tt, ↓gone_ff, gslot, aops, aone, aop, needs, ext, aev, aput, aupd, aload, afieldAddr, tab_43, tab_83, ok1, cellsAs, TI.agg, Y4, Yb, Yc, Y6, Y7, Y1, Y2, Yw, Y5, Y3, Yt, Ys, Yr, Nat.reduceAdd, Yp, Bool.not_true, Yv, Y0, Y8]
  ((repeat' apply And.intro) <;> try first | rfl | omega | (unfold I64; omega))
  refine Ops.pure (Wanted.test 19 false false rfl) rfl rfl (hxs) (by simp only [encR, rplC, textsA, aev, Y4, Y1, Y2, Yf, Ye, Y3, Yd, Y0]; (repeat' first | exact .refl _ | apply LeR.tup | apply Le.agg | constructor)) rfl rfl ?_
  refine Ops.god tab_ok follows_ok Try.func30 60 ?_; simp only [Try.results30, h1, h2, decide_true, decide_false, rpsA, Yo, x4, x5, xlen, ↓alt_t, ↓alt_f, ↓alts_t, ↓alts_f, ↓gone_ft, ↓gone_ff, gslot, drun, aops, aone, afin, ares, aresL, ares1, aresOk, aresOk1, aop, needs, ext, aev, aconst, aput, aupd, aload, afieldAddr, acmp, ashift, abin, alen, tab_3, tab_9, tab_75, tab_83, ok1, cellsAs, TI.agg, Y4, Yb, Yc, Y6, Y7, Y1, Y2, Yw, Y5, Y3, Yt, Yu, Ys, Yr, Nat.reduceAdd, Nat.reduceLeDiff, Yp, Bool.not_true, Y0, Y8]
  ((repeat' apply And.intro) <;> try first | rfl | omega | (unfold I64; omega))
  (repeat' first | exact .refl _ | apply LeR.tup | apply Le.agg | constructor)
theorem may27_c (l : Ltr) (hl : l.sum.length = 32) (hk1 : ¬ l.kind < 1) (hk2 : ¬ 10 < l.kind) (hk8 : ¬ l.kind = 8) (hx : l.x.l.length ≤ 100000000) (hsx : shortX l.x = true) (h1 : ¬ (6000 : Int) < l.value.length) (h2 : (30 : Int) < l.cert.length) : ASpec Try.prog 30 [.agg (letC l)] (.bool false) := by
  have x0 := let_0 l
  have x4 := let_4 l
  have x5 := let_5 l
  have x8 := let_8 l
  have x9 := let_9 l
  have x10 := let_10 l
  have x48 := let_48 l hl
  have x56 := let_56 l hl
  have xlen := let_len l hl
  have xfull := let_full l hl
  have hxs := shortX_spec l.x hx
  rw [hsx] at hxs
  refine ⟨⟨_, Try.func30, by kernel_rfl, rfl⟩, ACall.of Try.func30 rfl fun c0 hc0 => ?_⟩; simp only [Try.ntmps30, Ya, Y9, Nat.reduceAdd, Nat.reduceSub, Ym, Yn, Y5, Y3]; refine Run.god tab_ok follows_ok Try.func30 60 ?_; simp only [x0, x56, xlen, hk1, hk2, hk8, decide_false, ↓alts_f, ↓gone_tf, ↓gone_ff, gslot, drun, aops, aone, aop, needs, ext, aev, aconst, aput, aupd, aload, afieldAddr, acmp, ashift, abin, tab_3, tab_43, tab_83, ok1, cellsAs, TI.agg, AV.cells, AV.whole, Y4, Yb, Yc, Y6, Y7, Y9, Y1, Y2, Yw, Yi, Y5, Y3, Yt, Ys, Yr, Nat.reduceAdd, Nat.reduceLeDiff, Yp, Yq, Yv, Y0, Y8]
  ((repeat' apply And.intro) <;> try first | rfl | omega | (unfold I64; omega))
  refine Ops.pure (Wanted.test 19 false false rfl) rfl rfl (hxs) (by simp only [encR, rplC, textsA, aev, Y4, Y1, Y2, Yf, Ye, Y3, Yd, Y0]; (repeat' first | exact .refl _ | apply LeR.tup | apply Le.agg | constructor)) rfl rfl ?_
  refine Ops.god tab_ok follows_ok Try.func30 60 ?_; simp only [Try.results30, h1, h2, decide_true, decide_false, rpsA, Yo, x4, x5, xlen, ↓alt_t, ↓alt_f, ↓alts_t, ↓alts_f, ↓gone_ft, ↓gone_ff, gslot, drun, aops, aone, afin, ares, aresL, ares1, aresOk, aresOk1, aop, needs, ext, aev, aconst, aput, aupd, aload, afieldAddr, acmp, ashift, abin, alen, tab_3, tab_9, tab_75, tab_83, ok1, cellsAs, TI.agg, Y4, Yb, Yc, Y6, Y7, Y1, Y2, Yw, Y5, Y3, Yt, Yu, Ys, Yr, Nat.reduceAdd, Nat.reduceLeDiff, Yp, Bool.not_true, Y0, Y8]
  ((repeat' apply And.intro) <;> try first | rfl | omega | (unfold I64; omega))
  (repeat' first | exact .refl _ | apply LeR.tup | apply Le.agg | constructor)
theorem may27_a_8 (l : Ltr) (hl : l.sum.length = 32) (hk : l.kind = 8) (ho : mayO l.o = true) (hx : l.x.l.length ≤ 100000000) (hsx : shortX l.x = true) (h1 : ¬ (6000 : Int) < l.value.length) (h2 : ¬ (30 : Int) < l.cert.length) (h3 : (6000 : Int) < l.vote.value.length) : ASpec Try.prog 30 [.agg (letC l)] (.bool false) := by
  have x0 := let_0 l
  have x4 := let_4 l
  have x5 := let_5 l
  have x8 := let_8 l
  have x9 := let_9 l
  have x10 := let_10 l
  have x48 := let_48 l hl
  have x56 := let_56 l hl
  have xlen := let_len l hl
  have xfull := let_full l hl
  have hxs := shortX_spec l.x hx
  rw [hsx] at hxs
  have hm := may_spec l.o
  rw [ho] at hm
  refine ⟨⟨_, Try.func30, by kernel_rfl, rfl⟩, ACall.of Try.func30 rfl fun c0 hc0 => ?_⟩; simp only [Try.ntmps30, Ya, Y9, Nat.reduceAdd, Nat.reduceSub, Ym, Yn, Y5, Y3]; refine Run.god tab_ok follows_ok Try.func30 60 ?_; simp only [x0, x48, xlen, hk, decide_true, decide_false, ↓alts_t, ↓alts_f, ↓gone_tt, ↓gone_ff, gslot, Int.reduceLT, drun, aops, aone, aop, needs, ext, aev, aconst, aput, aupd, aload, afieldAddr, acmp, ashift, abin, tab_3, tab_29, tab_83, ok1, cellsAs, TI.agg, AV.cells, AV.whole, Y4, Yb, Yc, Y6, Y7, Y9, Y1, Y2, Yw, Yi, Y5, Y3, Yt, Ys, Yr, Nat.reduceAdd, Nat.reduceLeDiff, Yp, Yq, Y0, Y8]
  ((repeat' apply And.intro) <;> try first | rfl | omega | (unfold I64; omega))
  refine Ops.pure (Wanted.test 12 true true rfl) rfl rfl (hm) (by simp only [encO, ordC, aev, Y4, Y1, Y2, Yf, Ye, Y3, Yd, Y0]; (repeat' first | exact .refl _ | apply LeR.tup | apply Le.agg | constructor)) rfl rfl ?_
  refine Ops.god tab_ok follows_ok Try.func30 60 ?_; simp only [x56, xlen, ↓alts_t, ↓alts_f, ↓gone_tt, ↓gone_ff, gslot, aops, aone, aop, needs, ext, aev, aput, aupd, aload, afieldAddr, tab_43, tab_83, ok1, cellsAs, TI.agg, Y4, Yb, Yc, Y6, Y7, Y1, Y2, Yw, Y5, Y3, Yt, Ys, Yr, Nat.reduceAdd, Yp, Bool.not_true, Yv, Y0, Y8]
  ((repeat' apply And.intro) <;> try first | rfl | omega | (unfold I64; omega))
  refine Ops.pure (Wanted.test 19 false false rfl) rfl rfl (hxs) (by simp only [encR, rplC, textsA, aev, Y4, Y1, Y2, Yf, Ye, Y3, Yd, Y0]; (repeat' first | exact .refl _ | apply LeR.tup | apply Le.agg | constructor)) rfl rfl ?_
  refine Ops.god tab_ok follows_ok Try.func30 60 ?_; simp only [Try.results30, h1, h2, h3, decide_true, decide_false, rpsA, Yo, x4, x5, x8, xlen, ↓alt_t, ↓alt_f, ↓alts_t, ↓alts_f, ↓gone_ft, ↓gone_ff, gslot, drun, aops, aone, afin, ares, aresL, ares1, aresOk, aresOk1, aop, needs, ext, aev, aconst, aput, aupd, aload, afieldAddr, acmp, ashift, abin, alen, tab_3, tab_9, tab_75, tab_77, tab_83, ok1, cellsAs, TI.agg, Y4, Yb, Yc, Y6, Y7, Y1, Y2, Yw, Y5, Y3, Yt, Yu, Ys, Yr, Nat.reduceAdd, Nat.reduceLeDiff, Yp, Bool.not_true, Y0, Y8]
  ((repeat' apply And.intro) <;> try first | rfl | omega | (unfold I64; omega))
  (repeat' first | exact .refl _ | apply LeR.tup | apply Le.agg | constructor)
theorem may27_a (l : Ltr) (hl : l.sum.length = 32) (hk1 : ¬ l.kind < 1) (hk2 : ¬ 10 < l.kind) (hk8 : ¬ l.kind = 8) (hx : l.x.l.length ≤ 100000000) (hsx : shortX l.x = true) (h1 : ¬ (6000 : Int) < l.value.length) (h2 : ¬ (30 : Int) < l.cert.length) (h3 : (6000 : Int) < l.vote.value.length) : ASpec Try.prog 30 [.agg (letC l)] (.bool false) := by
  have x0 := let_0 l
  have x4 := let_4 l
  have x5 := let_5 l
  have x8 := let_8 l
  have x9 := let_9 l
  have x10 := let_10 l
  have x48 := let_48 l hl
  have x56 := let_56 l hl
  have xlen := let_len l hl
  have xfull := let_full l hl
  have hxs := shortX_spec l.x hx
  rw [hsx] at hxs
  refine ⟨⟨_, Try.func30, by kernel_rfl, rfl⟩, ACall.of Try.func30 rfl fun c0 hc0 => ?_⟩; simp only [Try.ntmps30, Ya, Y9, Nat.reduceAdd, Nat.reduceSub, Ym, Yn, Y5, Y3]; refine Run.god tab_ok follows_ok Try.func30 60 ?_; simp only [x0, x56, xlen, hk1, hk2, hk8, decide_false, ↓alts_f, ↓gone_tf, ↓gone_ff, gslot, drun, aops, aone, aop, needs, ext, aev, aconst, aput, aupd, aload, afieldAddr, acmp, ashift, abin, tab_3, tab_43, tab_83, ok1, cellsAs, TI.agg, AV.cells, AV.whole, Y4, Yb, Yc, Y6, Y7, Y9, Y1, Y2, Yw, Yi, Y5, Y3, Yt, Ys, Yr, Nat.reduceAdd, Nat.reduceLeDiff, Yp, Yq, Yv, Y0, Y8]
  ((repeat' apply And.intro) <;> try first | rfl | omega | (unfold I64; omega))
  refine Ops.pure (Wanted.test 19 false false rfl) rfl rfl (hxs) (by simp only [encR, rplC, textsA, aev, Y4, Y1, Y2, Yf, Ye, Y3, Yd, Y0]; (repeat' first | exact .refl _ | apply LeR.tup | apply Le.agg | constructor)) rfl rfl ?_
  refine Ops.god tab_ok follows_ok Try.func30 60 ?_; simp only [Try.results30, h1, h2, h3, decide_true, decide_false, rpsA, Yo, x4, x5, x8, xlen, ↓alt_t, ↓alt_f, ↓alts_t, ↓alts_f, ↓gone_ft, ↓gone_ff, gslot, drun, aops, aone, afin, ares, aresL, ares1, aresOk, aresOk1, aop, needs, ext, aev, aconst, aput, aupd, aload, afieldAddr, acmp, ashift, abin, alen, tab_3, tab_9, tab_75, tab_77, tab_83, ok1, cellsAs, TI.agg, Y4, Yb, Yc, Y6, Y7, Y1, Y2, Yw, Y5, Y3, Yt, Yu, Ys, Yr, Nat.reduceAdd, Nat.reduceLeDiff, Yp, Bool.not_true, Y0, Y8]
  ((repeat' apply And.intro) <;> try first | rfl | omega | (unfold I64; omega))
  (repeat' first | exact .refl _ | apply LeR.tup | apply Le.agg | constructor)
theorem may27_p_8 (l : Ltr) (hl : l.sum.length = 32) (hk : l.kind = 8) (ho : mayO l.o = true) (hx : l.x.l.length ≤ 100000000) (hsx : shortX l.x = true) (h1 : ¬ (6000 : Int) < l.value.length) (h2 : ¬ (30 : Int) < l.cert.length) (h3 : ¬ (6000 : Int) < l.vote.value.length) (hsv : shortV l.proof = false) : ASpec Try.prog 30 [.agg (letC l)] (.bool false) := by
  have x0 := let_0 l
  have x4 := let_4 l
  have x5 := let_5 l
  have x8 := let_8 l
  have x9 := let_9 l
  have x10 := let_10 l
  have x48 := let_48 l hl
  have x56 := let_56 l hl
  have xlen := let_len l hl
  have xfull := let_full l hl
  have hxs := shortX_spec l.x hx
  rw [hsx] at hxs
  have hv := shortV_spec l.proof
  rw [hsv] at hv
  have hm := may_spec l.o
  rw [ho] at hm
  refine ⟨⟨_, Try.func30, by kernel_rfl, rfl⟩, ACall.of Try.func30 rfl fun c0 hc0 => ?_⟩; simp only [Try.ntmps30, Ya, Y9, Nat.reduceAdd, Nat.reduceSub, Ym, Yn, Y5, Y3]; refine Run.god tab_ok follows_ok Try.func30 60 ?_; simp only [x0, x48, xlen, hk, decide_true, decide_false, ↓alts_t, ↓alts_f, ↓gone_tt, ↓gone_ff, gslot, Int.reduceLT, drun, aops, aone, aop, needs, ext, aev, aconst, aput, aupd, aload, afieldAddr, acmp, ashift, abin, tab_3, tab_29, tab_83, ok1, cellsAs, TI.agg, AV.cells, AV.whole, Y4, Yb, Yc, Y6, Y7, Y9, Y1, Y2, Yw, Yi, Y5, Y3, Yt, Ys, Yr, Nat.reduceAdd, Nat.reduceLeDiff, Yp, Yq, Y0, Y8]
  ((repeat' apply And.intro) <;> try first | rfl | omega | (unfold I64; omega))
  refine Ops.pure (Wanted.test 12 true true rfl) rfl rfl (hm) (by simp only [encO, ordC, aev, Y4, Y1, Y2, Yf, Ye, Y3, Yd, Y0]; (repeat' first | exact .refl _ | apply LeR.tup | apply Le.agg | constructor)) rfl rfl ?_
  refine Ops.god tab_ok follows_ok Try.func30 60 ?_; simp only [x56, xlen, ↓alts_t, ↓alts_f, ↓gone_tt, ↓gone_ff, gslot, aops, aone, aop, needs, ext, aev, aput, aupd, aload, afieldAddr, tab_43, tab_83, ok1, cellsAs, TI.agg, Y4, Yb, Yc, Y6, Y7, Y1, Y2, Yw, Y5, Y3, Yt, Ys, Yr, Nat.reduceAdd, Yp, Bool.not_true, Yv, Y0, Y8]
  ((repeat' apply And.intro) <;> try first | rfl | omega | (unfold I64; omega))
  refine Ops.pure (Wanted.test 19 false false rfl) rfl rfl (hxs) (by simp only [encR, rplC, textsA, aev, Y4, Y1, Y2, Yf, Ye, Y3, Yd, Y0]; (repeat' first | exact .refl _ | apply LeR.tup | apply Le.agg | constructor)) rfl rfl ?_
  refine Ops.god tab_ok follows_ok Try.func30 60 ?_; simp only [h1, h2, h3, decide_false, rpsA, Yo, x4, x5, x8, x9, xlen, ↓alt_f, ↓alts_f, ↓gone_ff, gslot, drun, aops, aone, aop, needs, ext, aev, aconst, aput, aupd, aload, afieldAddr, acmp, ashift, abin, alen, tab_3, tab_9, tab_75, tab_77, tab_78, tab_83, ok1, cellsAs, TI.agg, Y4, Yb, Yc, Y6, Y7, Y1, Y2, Yw, Y5, Y3, Yt, Ys, Yr, Nat.reduceAdd, Nat.reduceLeDiff, Yp, Bool.not_true, Y0, Y8]
  ((repeat' apply And.intro) <;> try first | rfl | omega | (unfold I64; omega))
  refine Ops.pure (Wanted.test 17 false false rfl) rfl rfl (hv) (by simp only [votesA, aev, Y4, Y1, Y2, Yf, Ye, Y3, Yd, Y0]; (repeat' first | exact .refl _ | apply LeR.tup | apply Le.agg | constructor)) rfl rfl ?_
  refine Ops.god tab_ok follows_ok Try.func30 60 ?_; simp only [Try.results30, ↓alt_t, ↓alts_f, ↓gone_ff, gslot, drun, aops, aone, afin, ares, aresL, ares1, aresOk, aresOk1, aop, needs, ext, aev, aconst, aput, aupd, ok1, Y4, Yb, Yc, Y6, Y7, Y1, Y2, Yw, Y5, Y3, Yt, Yu, Yr, Bool.not_false, Y0, Y8]
  ((repeat' apply And.intro) <;> try first | rfl | omega | (unfold I64; omega))
  (repeat' first | exact .refl _ | apply LeR.tup | apply Le.agg | constructor)
theorem may27_p (l : Ltr) (hl : l.sum.length = 32) (hk1 : ¬ l.kind < 1) (hk2 : ¬ 10 < l.kind) (hk8 : ¬ l.kind = 8) (hx : l.x.l.length ≤ 100000000) (hsx : shortX l.x = true) (h1 : ¬ (6000 : Int) < l.value.length) (h2 : ¬ (30 : Int) < l.cert.length) (h3 : ¬ (6000 : Int) < l.vote.value.length) (hsv : shortV l.proof = false) : ASpec Try.prog 30 [.agg (letC l)] (.bool false) := by
  have x0 := let_0 l
  have x4 := let_4 l
  have x5 := let_5 l
  have x8 := let_8 l
  have x9 := let_9 l
  have x10 := let_10 l
  have x48 := let_48 l hl
  have x56 := let_56 l hl
  have xlen := let_len l hl
  have xfull := let_full l hl
  have hxs := shortX_spec l.x hx
  rw [hsx] at hxs
  have hv := shortV_spec l.proof
  rw [hsv] at hv
  refine ⟨⟨_, Try.func30, by kernel_rfl, rfl⟩, ACall.of Try.func30 rfl fun c0 hc0 => ?_⟩; simp only [Try.ntmps30, Ya, Y9, Nat.reduceAdd, Nat.reduceSub, Ym, Yn, Y5, Y3]; refine Run.god tab_ok follows_ok Try.func30 60 ?_; simp only [x0, x56, xlen, hk1, hk2, hk8, decide_false, ↓alts_f, ↓gone_tf, ↓gone_ff, gslot, drun, aops, aone, aop, needs, ext, aev, aconst, aput, aupd, aload, afieldAddr, acmp, ashift, abin, tab_3, tab_43, tab_83, ok1, cellsAs, TI.agg, AV.cells, AV.whole, Y4, Yb, Yc, Y6, Y7, Y9, Y1, Y2, Yw, Yi, Y5, Y3, Yt, Ys, Yr, Nat.reduceAdd, Nat.reduceLeDiff, Yp, Yq, Yv, Y0, Y8]
  ((repeat' apply And.intro) <;> try first | rfl | omega | (unfold I64; omega))
  refine Ops.pure (Wanted.test 19 false false rfl) rfl rfl (hxs) (by simp only [encR, rplC, textsA, aev, Y4, Y1, Y2, Yf, Ye, Y3, Yd, Y0]; (repeat' first | exact .refl _ | apply LeR.tup | apply Le.agg | constructor)) rfl rfl ?_
  refine Ops.god tab_ok follows_ok Try.func30 60 ?_; simp only [h1, h2, h3, decide_false, rpsA, Yo, x4, x5, x8, x9, xlen, ↓alt_f, ↓alts_f, ↓gone_ff, gslot, drun, aops, aone, aop, needs, ext, aev, aconst, aput, aupd, aload, afieldAddr, acmp, ashift, abin, alen, tab_3, tab_9, tab_75, tab_77, tab_78, tab_83, ok1, cellsAs, TI.agg, Y4, Yb, Yc, Y6, Y7, Y1, Y2, Yw, Y5, Y3, Yt, Ys, Yr, Nat.reduceAdd, Nat.reduceLeDiff, Yp, Bool.not_true, Y0, Y8]
  ((repeat' apply And.intro) <;> try first | rfl | omega | (unfold I64; omega))
  refine Ops.pure (Wanted.test 17 false false rfl) rfl rfl (hv) (by simp only [votesA, aev, Y4, Y1, Y2, Yf, Ye, Y3, Yd, Y0]; (repeat' first | exact .refl _ | apply LeR.tup | apply Le.agg | constructor)) rfl rfl ?_
  refine Ops.god tab_ok follows_ok Try.func30 60 ?_; simp only [Try.results30, ↓alt_t, ↓alts_f, ↓gone_ff, gslot, drun, aops, aone, afin, ares, aresL, ares1, aresOk, aresOk1, aop, needs, ext, aev, aconst, aput, aupd, ok1, Y4, Yb, Yc, Y6, Y7, Y1, Y2, Yw, Y5, Y3, Yt, Yu, Yr, Bool.not_false, Y0, Y8]
  ((repeat' apply And.intro) <;> try first | rfl | omega | (unfold I64; omega))
  (repeat' first | exact .refl _ | apply LeR.tup | apply Le.agg | constructor)
theorem may27_cl_8 (l : Ltr) (hl : l.sum.length = 32) (hk : l.kind = 8) (ho : mayO l.o = true) (hx : l.x.l.length ≤ 100000000) (hsx : shortX l.x = true) (h1 : ¬ (6000 : Int) < l.value.length) (h2 : ¬ (30 : Int) < l.cert.length) (h3 : ¬ (6000 : Int) < l.vote.value.length) (hsv : shortV l.proof = true) (hcl : l.cert.any longR = true) : ASpec Try.prog 30 [.agg (letC l)] (.bool false) := by
  have x0 := let_0 l
  have x4 := let_4 l
  have x5 := let_5 l
  have x8 := let_8 l
  have x9 := let_9 l
  have x10 := let_10 l
  have x48 := let_48 l hl
  have x56 := let_56 l hl
  have xlen := let_len l hl
  have xfull := let_full l hl
  have hxs := shortX_spec l.x hx
  rw [hsx] at hxs
  have hv := shortV_spec l.proof
  rw [hsv] at hv
  have hc := contains_reports l.cert (by omega)
  rw [hcl] at hc
  have hm := may_spec l.o
  rw [ho] at hm
  refine ⟨⟨_, Try.func30, by kernel_rfl, rfl⟩, ACall.of Try.func30 rfl fun c0 hc0 => ?_⟩; simp only [Try.ntmps30, Ya, Y9, Nat.reduceAdd, Nat.reduceSub, Ym, Yn, Y5, Y3]; refine Run.god tab_ok follows_ok Try.func30 60 ?_; simp only [x0, x48, xlen, hk, decide_true, decide_false, ↓alts_t, ↓alts_f, ↓gone_tt, ↓gone_ff, gslot, Int.reduceLT, drun, aops, aone, aop, needs, ext, aev, aconst, aput, aupd, aload, afieldAddr, acmp, ashift, abin, tab_3, tab_29, tab_83, ok1, cellsAs, TI.agg, AV.cells, AV.whole, Y4, Yb, Yc, Y6, Y7, Y9, Y1, Y2, Yw, Yi, Y5, Y3, Yt, Ys, Yr, Nat.reduceAdd, Nat.reduceLeDiff, Yp, Yq, Y0, Y8]
  ((repeat' apply And.intro) <;> try first | rfl | omega | (unfold I64; omega))
  refine Ops.pure (Wanted.test 12 true true rfl) rfl rfl (hm) (by simp only [encO, ordC, aev, Y4, Y1, Y2, Yf, Ye, Y3, Yd, Y0]; (repeat' first | exact .refl _ | apply LeR.tup | apply Le.agg | constructor)) rfl rfl ?_
  refine Ops.god tab_ok follows_ok Try.func30 60 ?_; simp only [x56, xlen, ↓alts_t, ↓alts_f, ↓gone_tt, ↓gone_ff, gslot, aops, aone, aop, needs, ext, aev, aput, aupd, aload, afieldAddr, tab_43, tab_83, ok1, cellsAs, TI.agg, Y4, Yb, Yc, Y6, Y7, Y1, Y2, Yw, Y5, Y3, Yt, Ys, Yr, Nat.reduceAdd, Yp, Bool.not_true, Yv, Y0, Y8]
  ((repeat' apply And.intro) <;> try first | rfl | omega | (unfold I64; omega))
  refine Ops.pure (Wanted.test 19 false false rfl) rfl rfl (hxs) (by simp only [encR, rplC, textsA, aev, Y4, Y1, Y2, Yf, Ye, Y3, Yd, Y0]; (repeat' first | exact .refl _ | apply LeR.tup | apply Le.agg | constructor)) rfl rfl ?_
  refine Ops.god tab_ok follows_ok Try.func30 60 ?_; simp only [h1, h2, h3, decide_false, rpsA, Yo, x4, x5, x8, x9, xlen, ↓alt_f, ↓alts_f, ↓gone_ff, gslot, drun, aops, aone, aop, needs, ext, aev, aconst, aput, aupd, aload, afieldAddr, acmp, ashift, abin, alen, tab_3, tab_9, tab_75, tab_77, tab_78, tab_83, ok1, cellsAs, TI.agg, Y4, Yb, Yc, Y6, Y7, Y1, Y2, Yw, Y5, Y3, Yt, Ys, Yr, Nat.reduceAdd, Nat.reduceLeDiff, Yp, Bool.not_true, Y0, Y8]
  ((repeat' apply And.intro) <;> try first | rfl | omega | (unfold I64; omega))
  refine Ops.pure (Wanted.test 17 false false rfl) rfl rfl (hv) (by simp only [votesA, aev, Y4, Y1, Y2, Yf, Ye, Y3, Yd, Y0]; (repeat' first | exact .refl _ | apply LeR.tup | apply Le.agg | constructor)) rfl rfl ?_
  refine Ops.god tab_ok follows_ok Try.func30 60 ?_; simp only [x5, xlen, ↓alt_f, ↓alts_f, ↓gone_ff, gslot, drun, aops, aone, aop, needs, ext, aev, aput, aupd, aload, afieldAddr, tab_75, tab_83, ok1, cellsAs, TI.agg, Y4, Yb, Yc, Y6, Y7, Y1, Y2, Yw, Y5, Y3, Yt, Yr, Nat.reduceAdd, Nat.reduceLeDiff, Yp, Bool.not_true, Y0, Y8]
  ((repeat' apply And.intro) <;> try first | rfl | omega | (unfold I64; omega))
  refine Ops.pure .free rfl rfl (hc) (by simp only [rpsA, aev, Y4, Y1, Y2, Yf, Ye, Y3, Yd, Y0]; (repeat' first | exact .refl _ | apply LeR.tup | apply Le.agg | constructor)) rfl rfl ?_
  refine Ops.god tab_ok follows_ok Try.func30 60 ?_; simp only [Try.results30, ↓alt_t, ↓alts_t, ↓gone_ft, gslot, drun, aops, aone, afin, ares, aresL, ares1, aresOk, aresOk1, aop, needs, ext, aev, aconst, aput, aupd, ok1, Y4, Yb, Yc, Y6, Y7, Y1, Y2, Yw, Y5, Y3, Yt, Yu, Yr, Y0, Y8]
  ((repeat' apply And.intro) <;> try first | rfl | omega | (unfold I64; omega))
  (repeat' first | exact .refl _ | apply LeR.tup | apply Le.agg | constructor)
theorem may27_cl (l : Ltr) (hl : l.sum.length = 32) (hk1 : ¬ l.kind < 1) (hk2 : ¬ 10 < l.kind) (hk8 : ¬ l.kind = 8) (hx : l.x.l.length ≤ 100000000) (hsx : shortX l.x = true) (h1 : ¬ (6000 : Int) < l.value.length) (h2 : ¬ (30 : Int) < l.cert.length) (h3 : ¬ (6000 : Int) < l.vote.value.length) (hsv : shortV l.proof = true) (hcl : l.cert.any longR = true) : ASpec Try.prog 30 [.agg (letC l)] (.bool false) := by
  have x0 := let_0 l
  have x4 := let_4 l
  have x5 := let_5 l
  have x8 := let_8 l
  have x9 := let_9 l
  have x10 := let_10 l
  have x48 := let_48 l hl
  have x56 := let_56 l hl
  have xlen := let_len l hl
  have xfull := let_full l hl
  have hxs := shortX_spec l.x hx
  rw [hsx] at hxs
  have hv := shortV_spec l.proof
  rw [hsv] at hv
  have hc := contains_reports l.cert (by omega)
  rw [hcl] at hc
  refine ⟨⟨_, Try.func30, by kernel_rfl, rfl⟩, ACall.of Try.func30 rfl fun c0 hc0 => ?_⟩; simp only [Try.ntmps30, Ya, Y9, Nat.reduceAdd, Nat.reduceSub, Ym, Yn, Y5, Y3]; refine Run.god tab_ok follows_ok Try.func30 60 ?_; simp only [x0, x56, xlen, hk1, hk2, hk8, decide_false, ↓alts_f, ↓gone_tf, ↓gone_ff, gslot, drun, aops, aone, aop, needs, ext, aev, aconst, aput, aupd, aload, afieldAddr, acmp, ashift, abin, tab_3, tab_43, tab_83, ok1, cellsAs, TI.agg, AV.cells, AV.whole, Y4, Yb, Yc, Y6, Y7, Y9, Y1, Y2, Yw, Yi, Y5, Y3, Yt, Ys, Yr, Nat.reduceAdd, Nat.reduceLeDiff, Yp, Yq, Yv, Y0, Y8]
  ((repeat' apply And.intro) <;> try first | rfl | omega | (unfold I64; omega))
  refine Ops.pure (Wanted.test 19 false false rfl) rfl rfl (hxs) (by simp only [encR, rplC, textsA, aev, Y4, Y1, Y2, Yf, Ye, Y3, Yd, Y0]; (repeat' first | exact .refl _ | apply LeR.tup | apply Le.agg | constructor)) rfl rfl ?_
  refine Ops.god tab_ok follows_ok Try.func30 60 ?_; simp only [h1, h2, h3, decide_false, rpsA, Yo, x4, x5, x8, x9, xlen, ↓alt_f, ↓alts_f, ↓gone_ff, gslot, drun, aops, aone, aop, needs, ext, aev, aconst, aput, aupd, aload, afieldAddr, acmp, ashift, abin, alen, tab_3, tab_9, tab_75, tab_77, tab_78, tab_83, ok1, cellsAs, TI.agg, Y4, Yb, Yc, Y6, Y7, Y1, Y2, Yw, Y5, Y3, Yt, Ys, Yr, Nat.reduceAdd, Nat.reduceLeDiff, Yp, Bool.not_true, Y0, Y8]
  ((repeat' apply And.intro) <;> try first | rfl | omega | (unfold I64; omega))
  refine Ops.pure (Wanted.test 17 false false rfl) rfl rfl (hv) (by simp only [votesA, aev, Y4, Y1, Y2, Yf, Ye, Y3, Yd, Y0]; (repeat' first | exact .refl _ | apply LeR.tup | apply Le.agg | constructor)) rfl rfl ?_
  refine Ops.god tab_ok follows_ok Try.func30 60 ?_; simp only [x5, xlen, ↓alt_f, ↓alts_f, ↓gone_ff, gslot, drun, aops, aone, aop, needs, ext, aev, aput, aupd, aload, afieldAddr, tab_75, tab_83, ok1, cellsAs, TI.agg, Y4, Yb, Yc, Y6, Y7, Y1, Y2, Yw, Y5, Y3, Yt, Yr, Nat.reduceAdd, Nat.reduceLeDiff, Yp, Bool.not_true, Y0, Y8]
  ((repeat' apply And.intro) <;> try first | rfl | omega | (unfold I64; omega))
  refine Ops.pure .free rfl rfl (hc) (by simp only [rpsA, aev, Y4, Y1, Y2, Yf, Ye, Y3, Yd, Y0]; (repeat' first | exact .refl _ | apply LeR.tup | apply Le.agg | constructor)) rfl rfl ?_
  refine Ops.god tab_ok follows_ok Try.func30 60 ?_; simp only [Try.results30, ↓alt_t, ↓alts_t, ↓gone_ft, gslot, drun, aops, aone, afin, ares, aresL, ares1, aresOk, aresOk1, aop, needs, ext, aev, aconst, aput, aupd, ok1, Y4, Yb, Yc, Y6, Y7, Y1, Y2, Yw, Y5, Y3, Yt, Yu, Yr, Y0, Y8]
  ((repeat' apply And.intro) <;> try first | rfl | omega | (unfold I64; omega))
  (repeat' first | exact .refl _ | apply LeR.tup | apply Le.agg | constructor)
theorem may27_r_8 (l : Ltr) (hl : l.sum.length = 32) (hk : l.kind = 8) (ho : mayO l.o = true) (hx : l.x.l.length ≤ 100000000) (hsx : shortX l.x = true) (h1 : ¬ (6000 : Int) < l.value.length) (h2 : ¬ (30 : Int) < l.cert.length) (h3 : ¬ (6000 : Int) < l.vote.value.length) (hsv : shortV l.proof = true) (hcl : l.cert.any longR = false) (hrl : longR l.r = true) : ASpec Try.prog 30 [.agg (letC l)] (.bool false) := by
  have x0 := let_0 l
  have x4 := let_4 l
  have x5 := let_5 l
  have x8 := let_8 l
  have x9 := let_9 l
  have x10 := let_10 l
  have x48 := let_48 l hl
  have x56 := let_56 l hl
  have xlen := let_len l hl
  have xfull := let_full l hl
  have hxs := shortX_spec l.x hx
  rw [hsx] at hxs
  have hv := shortV_spec l.proof
  rw [hsv] at hv
  have hc := contains_reports l.cert (by omega)
  rw [hcl] at hc
  have hr := longR_spec l.r
  rw [hrl] at hr
  have hm := may_spec l.o
  rw [ho] at hm
  refine ⟨⟨_, Try.func30, by kernel_rfl, rfl⟩, ACall.of Try.func30 rfl fun c0 hc0 => ?_⟩; simp only [Try.ntmps30, Ya, Y9, Nat.reduceAdd, Nat.reduceSub, Ym, Yn, Y5, Y3]; refine Run.god tab_ok follows_ok Try.func30 60 ?_; simp only [x0, x48, xlen, hk, decide_true, decide_false, ↓alts_t, ↓alts_f, ↓gone_tt, ↓gone_ff, gslot, Int.reduceLT, drun, aops, aone, aop, needs, ext, aev, aconst, aput, aupd, aload, afieldAddr, acmp, ashift, abin, tab_3, tab_29, tab_83, ok1, cellsAs, TI.agg, AV.cells, AV.whole, Y4, Yb, Yc, Y6, Y7, Y9, Y1, Y2, Yw, Yi, Y5, Y3, Yt, Ys, Yr, Nat.reduceAdd, Nat.reduceLeDiff, Yp, Yq, Y0, Y8]
  ((repeat' apply And.intro) <;> try first | rfl | omega | (unfold I64; omega))
  refine Ops.pure (Wanted.test 12 true true rfl) rfl rfl (hm) (by simp only [encO, ordC, aev, Y4, Y1, Y2, Yf, Ye, Y3, Yd, Y0]; (repeat' first | exact .refl _ | apply LeR.tup | apply Le.agg | constructor)) rfl rfl ?_
  refine Ops.god tab_ok follows_ok Try.func30 60 ?_; simp only [x56, xlen, ↓alts_t, ↓alts_f, ↓gone_tt, ↓gone_ff, gslot, aops, aone, aop, needs, ext, aev, aput, aupd, aload, afieldAddr, tab_43, tab_83, ok1, cellsAs, TI.agg, Y4, Yb, Yc, Y6, Y7, Y1, Y2, Yw, Y5, Y3, Yt, Ys, Yr, Nat.reduceAdd, Yp, Bool.not_true, Yv, Y0, Y8]
  ((repeat' apply And.intro) <;> try first | rfl | omega | (unfold I64; omega))
  refine Ops.pure (Wanted.test 19 false false rfl) rfl rfl (hxs) (by simp only [encR, rplC, textsA, aev, Y4, Y1, Y2, Yf, Ye, Y3, Yd, Y0]; (repeat' first | exact .refl _ | apply LeR.tup | apply Le.agg | constructor)) rfl rfl ?_
  refine Ops.god tab_ok follows_ok Try.func30 60 ?_; simp only [h1, h2, h3, decide_false, rpsA, Yo, x4, x5, x8, x9, xlen, ↓alt_f, ↓alts_f, ↓gone_ff, gslot, drun, aops, aone, aop, needs, ext, aev, aconst, aput, aupd, aload, afieldAddr, acmp, ashift, abin, alen, tab_3, tab_9, tab_75, tab_77, tab_78, tab_83, ok1, cellsAs, TI.agg, Y4, Yb, Yc, Y6, Y7, Y1, Y2, Yw, Y5, Y3, Yt, Ys, Yr, Nat.reduceAdd, Nat.reduceLeDiff, Yp, Bool.not_true, Y0, Y8]
  ((repeat' apply And.intro) <;> try first | rfl | omega | (unfold I64; omega))
  refine Ops.pure (Wanted.test 17 false false rfl) rfl rfl (hv) (by simp only [votesA, aev, Y4, Y1, Y2, Yf, Ye, Y3, Yd, Y0]; (repeat' first | exact .refl _ | apply LeR.tup | apply Le.agg | constructor)) rfl rfl ?_
  refine Ops.god tab_ok follows_ok Try.func30 60 ?_; simp only [x5, xlen, ↓alt_f, ↓alts_f, ↓gone_ff, gslot, drun, aops, aone, aop, needs, ext, aev, aput, aupd, aload, afieldAddr, tab_75, tab_83, ok1, cellsAs, TI.agg, Y4, Yb, Yc, Y6, Y7, Y1, Y2, Yw, Y5, Y3, Yt, Yr, Nat.reduceAdd, Nat.reduceLeDiff, Yp, Bool.not_true, Y0, Y8]
  ((repeat' apply And.intro) <;> try first | rfl | omega | (unfold I64; omega))
  refine Ops.pure .free rfl rfl (hc) (by simp only [rpsA, aev, Y4, Y1, Y2, Yf, Ye, Y3, Yd, Y0]; (repeat' first | exact .refl _ | apply LeR.tup | apply Le.agg | constructor)) rfl rfl ?_
  refine Ops.god tab_ok follows_ok Try.func30 60 ?_; simp only [x10, xlen, ↓alts_f, ↓gone_ff, gslot, aops, aone, aop, needs, ext, aev, aput, aupd, aload, afieldAddr, tab_80, tab_83, ok1, cellsAs, TI.agg, Y4, Yb, Yc, Y6, Y7, Y1, Y2, Yw, Y5, Y3, Yt, Ys, Yr, Nat.reduceAdd, Nat.reduceLeDiff, Yp, Y0, Y8]
  ((repeat' apply And.intro) <;> try first | rfl | omega | (unfold I64; omega))
  refine Ops.pure (Wanted.test 4 false false rfl) rfl rfl (hr) (by simp only [encRp, rpC, aev, Y4, Y1, Y2, Yf, Ye, Y3, Yd, Y0]; (repeat' first | exact .refl _ | apply LeR.tup | apply Le.agg | constructor)) rfl rfl ?_
  refine Ops.god tab_ok follows_ok Try.func30 60 ?_; simp only [Try.results30, ↓alt_t, drun, aops, aone, afin, ares, aresL, ares1, aresOk, aresOk1, aop, needs, ext, aev, aconst, aput, aupd, ok1, Y4, Yb, Yc, Y6, Y7, Y1, Y2, Y5, Y3, Yt, Yu, Yr, Y0, Y8]
  ((repeat' apply And.intro) <;> try first | rfl | omega | (unfold I64; omega))
  (repeat' first | exact .refl _ | apply LeR.tup | apply Le.agg | constructor)
theorem may27_r (l : Ltr) (hl : l.sum.length = 32) (hk1 : ¬ l.kind < 1) (hk2 : ¬ 10 < l.kind) (hk8 : ¬ l.kind = 8) (hx : l.x.l.length ≤ 100000000) (hsx : shortX l.x = true) (h1 : ¬ (6000 : Int) < l.value.length) (h2 : ¬ (30 : Int) < l.cert.length) (h3 : ¬ (6000 : Int) < l.vote.value.length) (hsv : shortV l.proof = true) (hcl : l.cert.any longR = false) (hrl : longR l.r = true) : ASpec Try.prog 30 [.agg (letC l)] (.bool false) := by
  have x0 := let_0 l
  have x4 := let_4 l
  have x5 := let_5 l
  have x8 := let_8 l
  have x9 := let_9 l
  have x10 := let_10 l
  have x48 := let_48 l hl
  have x56 := let_56 l hl
  have xlen := let_len l hl
  have xfull := let_full l hl
  have hxs := shortX_spec l.x hx
  rw [hsx] at hxs
  have hv := shortV_spec l.proof
  rw [hsv] at hv
  have hc := contains_reports l.cert (by omega)
  rw [hcl] at hc
  have hr := longR_spec l.r
  rw [hrl] at hr
  refine ⟨⟨_, Try.func30, by kernel_rfl, rfl⟩, ACall.of Try.func30 rfl fun c0 hc0 => ?_⟩; simp only [Try.ntmps30, Ya, Y9, Nat.reduceAdd, Nat.reduceSub, Ym, Yn, Y5, Y3]; refine Run.god tab_ok follows_ok Try.func30 60 ?_; simp only [x0, x56, xlen, hk1, hk2, hk8, decide_false, ↓alts_f, ↓gone_tf, ↓gone_ff, gslot, drun, aops, aone, aop, needs, ext, aev, aconst, aput, aupd, aload, afieldAddr, acmp, ashift, abin, tab_3, tab_43, tab_83, ok1, cellsAs, TI.agg, AV.cells, AV.whole, Y4, Yb, Yc, Y6, Y7, Y9, Y1, Y2, Yw, Yi, Y5, Y3, Yt, Ys, Yr, Nat.reduceAdd, Nat.reduceLeDiff, Yp, Yq, Yv, Y0, Y8]
  ((repeat' apply And.intro) <;> try first | rfl | omega | (unfold I64; omega))
  refine Ops.pure (Wanted.test 19 false false rfl) rfl rfl (hxs) (by simp only [encR, rplC, textsA, aev, Y4, Y1, Y2, Yf, Ye, Y3, Yd, Y0]; (repeat' first | exact .refl _ | apply LeR.tup | apply Le.agg | constructor)) rfl rfl ?_
  refine Ops.god tab_ok follows_ok Try.func30 60 ?_; simp only [h1, h2, h3, decide_false, rpsA, Yo, x4, x5, x8, x9, xlen, ↓alt_f, ↓alts_f, ↓gone_ff, gslot, drun, aops, aone, aop, needs, ext, aev, aconst, aput, aupd, aload, afieldAddr, acmp, ashift, abin, alen, tab_3, tab_9, tab_75, tab_77, tab_78, tab_83, ok1, cellsAs, TI.agg, Y4, Yb, Yc, Y6, Y7, Y1, Y2, Yw, Y5, Y3, Yt, Ys, Yr, Nat.reduceAdd, Nat.reduceLeDiff, Yp, Bool.not_true, Y0, Y8]
  ((repeat' apply And.intro) <;> try first | rfl | omega | (unfold I64; omega))
  refine Ops.pure (Wanted.test 17 false false rfl) rfl rfl (hv) (by simp only [votesA, aev, Y4, Y1, Y2, Yf, Ye, Y3, Yd, Y0]; (repeat' first | exact .refl _ | apply LeR.tup | apply Le.agg | constructor)) rfl rfl ?_
  refine Ops.god tab_ok follows_ok Try.func30 60 ?_; simp only [x5, xlen, ↓alt_f, ↓alts_f, ↓gone_ff, gslot, drun, aops, aone, aop, needs, ext, aev, aput, aupd, aload, afieldAddr, tab_75, tab_83, ok1, cellsAs, TI.agg, Y4, Yb, Yc, Y6, Y7, Y1, Y2, Yw, Y5, Y3, Yt, Yr, Nat.reduceAdd, Nat.reduceLeDiff, Yp, Bool.not_true, Y0, Y8]
  ((repeat' apply And.intro) <;> try first | rfl | omega | (unfold I64; omega))
  refine Ops.pure .free rfl rfl (hc) (by simp only [rpsA, aev, Y4, Y1, Y2, Yf, Ye, Y3, Yd, Y0]; (repeat' first | exact .refl _ | apply LeR.tup | apply Le.agg | constructor)) rfl rfl ?_
  refine Ops.god tab_ok follows_ok Try.func30 60 ?_; simp only [x10, xlen, ↓alts_f, ↓gone_ff, gslot, aops, aone, aop, needs, ext, aev, aput, aupd, aload, afieldAddr, tab_80, tab_83, ok1, cellsAs, TI.agg, Y4, Yb, Yc, Y6, Y7, Y1, Y2, Yw, Y5, Y3, Yt, Ys, Yr, Nat.reduceAdd, Nat.reduceLeDiff, Yp, Y0, Y8]
  ((repeat' apply And.intro) <;> try first | rfl | omega | (unfold I64; omega))
  refine Ops.pure (Wanted.test 4 false false rfl) rfl rfl (hr) (by simp only [encRp, rpC, aev, Y4, Y1, Y2, Yf, Ye, Y3, Yd, Y0]; (repeat' first | exact .refl _ | apply LeR.tup | apply Le.agg | constructor)) rfl rfl ?_
  refine Ops.god tab_ok follows_ok Try.func30 60 ?_; simp only [Try.results30, ↓alt_t, drun, aops, aone, afin, ares, aresL, ares1, aresOk, aresOk1, aop, needs, ext, aev, aconst, aput, aupd, ok1, Y4, Yb, Yc, Y6, Y7, Y1, Y2, Y5, Y3, Yt, Yu, Yr, Y0, Y8]
  ((repeat' apply And.intro) <;> try first | rfl | omega | (unfold I64; omega))
  (repeat' first | exact .refl _ | apply LeR.tup | apply Le.agg | constructor)
theorem tk_sum (b : Bytes) : (tkL b).1.sum.length = 32 := by
  unfold tkL
  by_cases e0 : (rdN b 0 0).2.1 = 0
  · rw [if_pos e0]
    by_cases n1 : (rdN b 0 0).2.2 = 1
    · rw [if_pos n1]; rfl
    rw [if_neg n1]
    by_cases n2 : (rdN b 0 0).2.2 = 2
    · rw [if_pos n2]; rfl
    rw [if_neg n2]
    by_cases n3 : (rdN b 0 0).2.2 = 3
    · rw [if_pos n3]; rfl
    rw [if_neg n3]
    by_cases n4 : (rdN b 0 0).2.2 = 4
    · rw [if_pos n4]; rfl
    rw [if_neg n4]
    by_cases n5 : (rdN b 0 0).2.2 = 5
    · rw [if_pos n5]; rfl
    rw [if_neg n5]
    by_cases n6 : (rdN b 0 0).2.2 = 6
    · rw [if_pos n6]; rfl
    rw [if_neg n6]
    by_cases n7 : (rdN b 0 0).2.2 = 7
    · rw [if_pos n7]; exact rdM_32 _ _ zM rfl
    rw [if_neg n7]
    by_cases n8 : (rdN b 0 0).2.2 = 8
    · rw [if_pos n8]; rfl
    rw [if_neg n8]
    by_cases n9 : (rdN b 0 0).2.2 = 9
    · rw [if_pos n9]; rfl
    rw [if_neg n9]
    by_cases n10 : (rdN b 0 0).2.2 = 10
    · rw [if_pos n10]; rfl
    rw [if_neg n10]
    rfl
  · rw [if_neg e0]; rfl
theorem let_bel (l : Ltr) (n : Nat) : belL n (letC l) = true := (Pln.cons (fun _ => rfl) (fun _ => rfl) (fun _ => rfl) (Pln.let_ l)).1 n
theorem arg_bel (l : Ltr) (n : Nat) : belL n [.agg (letC l)] = true := by
  show (AV.bel n (.agg (letC l)) && true) = true
  rw [Bool.and_true]
  exact let_bel l n
theorem arg2_bel (l m : Ltr) (n : Nat) : belL n [.agg (letC l), .agg (letC m)] = true := by
  show (AV.bel n (.agg (letC l)) && belL n [.agg (letC m)]) = true
  rw [arg_bel m n, Bool.and_true]
  exact let_bel l n
theorem may27_ok_8 (l : Ltr) (hl : l.sum.length = 32) (hkk : l.kind = 8) (ho : mayO l.o = true) (hx : l.x.l.length ≤ 100000000) (hsx : shortX l.x = true) (h1 : ¬ (6000 : Int) < l.value.length) (h2 : ¬ (30 : Int) < l.cert.length) (h3 : ¬ (6000 : Int) < l.vote.value.length) (hsv : shortV l.proof = true) (hcl : l.cert.any longR = false) (hrl : longR l.r = false) (hs : smL l) (hk : 1 ≤ l.kind ∧ l.kind ≤ 10) : ASpec Try.prog 30 [.agg (letC l)] (.bool (mayL l)) := by
  have x0 := let_0 l
  have x4 := let_4 l
  have x5 := let_5 l
  have x8 := let_8 l
  have x9 := let_9 l
  have x10 := let_10 l
  have x48 := let_48 l hl
  have x56 := let_56 l hl
  have xlen := let_len l hl
  have xfull := let_full l hl
  have hxs := shortX_spec l.x hx
  rw [hsx] at hxs
  have hv := shortV_spec l.proof
  rw [hsv] at hv
  have hc := contains_reports l.cert (by omega)
  rw [hcl] at hc
  have hr := longR_spec l.r
  rw [hrl] at hr
  have hw := wr_spec l hk hs
  have hwl := wrL_le hs hk
  have ht := tk_spec (wrL l) (by omega)
  have bsum := tk_sum (wrL l)
  obtain ⟨⟨bl, ok⟩, hbl⟩ : ∃ t, tkL (wrL l) = t := ⟨_, rfl⟩
  have hml : mayL l = decide ((bl, ok) = (l, true)) := by unfold mayL; rw [hbl]
  have hgood := tk_only (wrL l)
  rw [hbl] at ht bsum hgood
  rw [hml]
  simp only at ht bsum hgood
  have blen := let_len bl bsum
  have bfull := let_full bl bsum
  have ab := arg_bel l 0
  have ab2 := arg2_bel bl l 0
  have rb : AV.bel 0 (.tup [.agg (letC bl), .bool ok]) = true := by
    show (AV.bel 0 (.agg (letC bl)) && true) = true
    rw [Bool.and_true]
    exact let_bel bl 0
  have hm := may_spec l.o
  rw [ho] at hm
  refine ⟨⟨_, Try.func30, by kernel_rfl, rfl⟩, ACall.of Try.func30 rfl fun c0 hc0 => ?_⟩; simp only [Try.ntmps30, Ya, Y9, Nat.reduceAdd, Nat.reduceSub, Ym, Yn, Y5, Y3]; refine Run.god tab_ok follows_ok Try.func30 60 ?_; simp only [x0, x48, xlen, hkk, decide_true, decide_false, ↓alts_t, ↓alts_f, ↓gone_tt, ↓gone_ff, gslot, Int.reduceLT, drun, aops, aone, aop, needs, ext, aev, aconst, aput, aupd, aload, afieldAddr, acmp, ashift, abin, tab_3, tab_29, tab_83, ok1, cellsAs, TI.agg, AV.cells, AV.whole, Y4, Yb, Yc, Y6, Y7, Y9, Y1, Y2, Yw, Yi, Y5, Y3, Yt, Ys, Yr, Nat.reduceAdd, Nat.reduceLeDiff, Yp, Yq, Y0, Y8]
  ((repeat' apply And.intro) <;> try first | rfl | omega | (unfold I64; omega))
  refine Ops.pure (Wanted.test 12 true true rfl) rfl rfl (hm) (by simp only [encO, ordC, aev, Y4, Y1, Y2, Yf, Ye, Y3, Yd, Y0]; (repeat' first | exact .refl _ | apply LeR.tup | apply Le.agg | constructor)) rfl rfl ?_
  refine Ops.god tab_ok follows_ok Try.func30 60 ?_; simp only [x56, xlen, ↓alts_t, ↓alts_f, ↓gone_tt, ↓gone_ff, gslot, aops, aone, aop, needs, ext, aev, aput, aupd, aload, afieldAddr, tab_43, tab_83, ok1, cellsAs, TI.agg, Y4, Yb, Yc, Y6, Y7, Y1, Y2, Yw, Y5, Y3, Yt, Ys, Yr, Nat.reduceAdd, Yp, Bool.not_true, Yv, Y0, Y8]
  ((repeat' apply And.intro) <;> try first | rfl | omega | (unfold I64; omega))
  refine Ops.pure (Wanted.test 19 false false rfl) rfl rfl (hxs) (by simp only [encR, rplC, textsA, aev, Y4, Y1, Y2, Yf, Ye, Y3, Yd, Y0]; (repeat' first | exact .refl _ | apply LeR.tup | apply Le.agg | constructor)) rfl rfl ?_
  refine Ops.god tab_ok follows_ok Try.func30 60 ?_; simp only [h1, h2, h3, decide_false, rpsA, Yo, x4, x5, x8, x9, xlen, ↓alt_f, ↓alts_f, ↓gone_ff, gslot, drun, aops, aone, aop, needs, ext, aev, aconst, aput, aupd, aload, afieldAddr, acmp, ashift, abin, alen, tab_3, tab_9, tab_75, tab_77, tab_78, tab_83, ok1, cellsAs, TI.agg, Y4, Yb, Yc, Y6, Y7, Y1, Y2, Yw, Y5, Y3, Yt, Ys, Yr, Nat.reduceAdd, Nat.reduceLeDiff, Yp, Bool.not_true, Y0, Y8]
  ((repeat' apply And.intro) <;> try first | rfl | omega | (unfold I64; omega))
  refine Ops.pure (Wanted.test 17 false false rfl) rfl rfl (hv) (by simp only [votesA, aev, Y4, Y1, Y2, Yf, Ye, Y3, Yd, Y0]; (repeat' first | exact .refl _ | apply LeR.tup | apply Le.agg | constructor)) rfl rfl ?_
  refine Ops.god tab_ok follows_ok Try.func30 60 ?_; simp only [x5, xlen, ↓alt_f, ↓alts_f, ↓gone_ff, gslot, drun, aops, aone, aop, needs, ext, aev, aput, aupd, aload, afieldAddr, tab_75, tab_83, ok1, cellsAs, TI.agg, Y4, Yb, Yc, Y6, Y7, Y1, Y2, Yw, Y5, Y3, Yt, Yr, Nat.reduceAdd, Nat.reduceLeDiff, Yp, Bool.not_true, Y0, Y8]
  ((repeat' apply And.intro) <;> try first | rfl | omega | (unfold I64; omega))
  refine Ops.pure .free rfl rfl (hc) (by simp only [rpsA, aev, Y4, Y1, Y2, Yf, Ye, Y3, Yd, Y0]; (repeat' first | exact .refl _ | apply LeR.tup | apply Le.agg | constructor)) rfl rfl ?_
  refine Ops.god tab_ok follows_ok Try.func30 60 ?_; simp only [x10, xlen, ↓alts_f, ↓gone_ff, gslot, aops, aone, aop, needs, ext, aev, aput, aupd, aload, afieldAddr, tab_80, tab_83, ok1, cellsAs, TI.agg, Y4, Yb, Yc, Y6, Y7, Y1, Y2, Yw, Y5, Y3, Yt, Ys, Yr, Nat.reduceAdd, Nat.reduceLeDiff, Yp, Y0, Y8]
  ((repeat' apply And.intro) <;> try first | rfl | omega | (unfold I64; omega))
  refine Ops.pure (Wanted.test 4 false false rfl) rfl rfl (hr) (by simp only [encRp, rpC, aev, Y4, Y1, Y2, Yf, Ye, Y3, Yd, Y0]; (repeat' first | exact .refl _ | apply LeR.tup | apply Le.agg | constructor)) rfl rfl ?_
  refine Ops.god tab_ok follows_ok Try.func30 60 ?_; simp only [xlen, xfull, ↓alt_f, drun, aops, aone, aop, needs, ext, aev, aput, aupd, aload, tab_83, ok1, cellsAs, TI.agg, Y4, Yb, Yc, Y6, Y7, Y1, Y2, Yi, Y5, Y3, Yt, Ys, Yr, Yp, Yv, Y0, Y8]
  ((repeat' apply And.intro) <;> try first | rfl | omega | (unfold I64; omega))
  refine Ops.pure .free rfl rfl (hw) (by simp only [aev, Y4, Y1, Y2, Yf, Ye, Y3, Yd, Y0]; (repeat' first | exact .refl _ | apply LeR.tup | apply Le.agg | constructor)) ab rfl ?_
  refine Ops.god tab_ok follows_ok Try.func30 60 ?_; simp only [aops, aone, aop, aput, Y6, Y7, Nat.reduceAdd]
  ((repeat' apply And.intro) <;> try first | rfl | omega | (unfold I64; omega))
  refine Ops.pure .free rfl rfl (ht) (by simp only [aev, Y4, Y1, Y2, Yf, Ye, Y3, Yd, Y0]; (repeat' first | exact .refl _ | apply LeR.tup | apply Le.agg | constructor)) rfl rb ?_
  cases ok with
  | false =>
    rw [show decide ((bl, false) = (l, true)) = false by simp]
    refine Ops.god tab_ok follows_ok Try.func30 60 ?_; simp only [Try.results30, blen, ↓alts_f, ↓gone_tf, gslot, drun, aops, aone, afin, ares, aresL, ares1, aresOk, aresOk1, aop, needs, ext, aev, aconst, aput, aupd, astore, tab_83, ok1, lay, AV.cells, AV.whole, Y4, Yb, Yc, Y6, Y7, Ya, Y9, Y1, Y2, Yw, Yh, Yj, Yl, Y5, Y3, Yd, Yt, Yu, Ys, Yr, Nat.reduceAdd, Yp, Yv, Y0, Y8]
    ((repeat' apply And.intro) <;> try first | rfl | omega | (unfold I64; omega))
    (repeat' first | exact .refl _ | apply LeR.tup | apply Le.agg | constructor)
  | true =>
    have hg := (hgood rfl).1
    have hsm := same27_spec bl l bsum hl (fun r hr => by
      rcases List.mem_append.1 hr with hr | hr
      · have := (hg.sh.2.2.1 r hr).2.1; omega
      · rw [List.mem_singleton] at hr; subst hr; have := hg.sh.2.2.2.2.2.1.2.1; omega) (by have := hg.sh.2.1; omega) (by omega) (by have := hg.sh.2.2.2.2.1.1; omega) (by have := hg.names; omega)
    rw [show decide ((bl, true) = (l, true)) = decide (bl = l) by simp]
    refine Ops.god tab_ok follows_ok Try.func30 60 ?_; simp only [xlen, xfull, blen, bfull, ↓alts_t, ↓gone_tt, gslot, drun, aops, aone, aop, needs, ext, aev, aput, aupd, aload, astore, tab_83, ok1, lay, cellsAs, TI.agg, AV.cells, AV.whole, Y4, Yb, Yc, Y6, Y7, Ya, Y9, Y1, Y2, Yw, Yi, Yh, Yj, Yl, Y5, Y3, Yd, Yt, Yu, Ys, Yr, Nat.reduceAdd, Yp, Yv, Y0, Y8]
    ((repeat' apply And.intro) <;> try first | rfl | omega | (unfold I64; omega))
    refine Ops.pure (Wanted.test 1 true true rfl) rfl rfl (hsm) (by simp only [aev, Y4, Y1, Y2, Yf, Ye, Y3, Yd, Y0]; (repeat' first | exact .refl _ | apply LeR.tup | apply Le.agg | constructor)) ab2 rfl ?_
    refine Ops.god tab_ok follows_ok Try.func30 60 ?_; simp only [Try.results30, drun, aops, aone, afin, ares, aresL, ares1, aresOk, aresOk1, aop, needs, ext, aev, aput, aupd, ok1, Y4, Yb, Yc, Y6, Y7, Y1, Y2, Y5, Y3, Yt, Yu, Yr, Y0, Y8]
    ((repeat' apply And.intro) <;> try first | rfl | omega | (unfold I64; omega))
    (repeat' first | exact .refl _ | apply LeR.tup | apply Le.agg | constructor)
theorem may27_ok (l : Ltr) (hl : l.sum.length = 32) (hk1 : ¬ l.kind < 1) (hk2 : ¬ 10 < l.kind) (hk8 : ¬ l.kind = 8) (hx : l.x.l.length ≤ 100000000) (hsx : shortX l.x = true) (h1 : ¬ (6000 : Int) < l.value.length) (h2 : ¬ (30 : Int) < l.cert.length) (h3 : ¬ (6000 : Int) < l.vote.value.length) (hsv : shortV l.proof = true) (hcl : l.cert.any longR = false) (hrl : longR l.r = false) (hs : smL l) (hk : 1 ≤ l.kind ∧ l.kind ≤ 10) : ASpec Try.prog 30 [.agg (letC l)] (.bool (mayL l)) := by
  have x0 := let_0 l
  have x4 := let_4 l
  have x5 := let_5 l
  have x8 := let_8 l
  have x9 := let_9 l
  have x10 := let_10 l
  have x48 := let_48 l hl
  have x56 := let_56 l hl
  have xlen := let_len l hl
  have xfull := let_full l hl
  have hxs := shortX_spec l.x hx
  rw [hsx] at hxs
  have hv := shortV_spec l.proof
  rw [hsv] at hv
  have hc := contains_reports l.cert (by omega)
  rw [hcl] at hc
  have hr := longR_spec l.r
  rw [hrl] at hr
  have hw := wr_spec l hk hs
  have hwl := wrL_le hs hk
  have ht := tk_spec (wrL l) (by omega)
  have bsum := tk_sum (wrL l)
  obtain ⟨⟨bl, ok⟩, hbl⟩ : ∃ t, tkL (wrL l) = t := ⟨_, rfl⟩
  have hml : mayL l = decide ((bl, ok) = (l, true)) := by unfold mayL; rw [hbl]
  have hgood := tk_only (wrL l)
  rw [hbl] at ht bsum hgood
  rw [hml]
  simp only at ht bsum hgood
  have blen := let_len bl bsum
  have bfull := let_full bl bsum
  have ab := arg_bel l 0
  have ab2 := arg2_bel bl l 0
  have rb : AV.bel 0 (.tup [.agg (letC bl), .bool ok]) = true := by
    show (AV.bel 0 (.agg (letC bl)) && true) = true
    rw [Bool.and_true]
    exact let_bel bl 0
  refine ⟨⟨_, Try.func30, by kernel_rfl, rfl⟩, ACall.of Try.func30 rfl fun c0 hc0 => ?_⟩; simp only [Try.ntmps30, Ya, Y9, Nat.reduceAdd, Nat.reduceSub, Ym, Yn, Y5, Y3]; refine Run.god tab_ok follows_ok Try.func30 60 ?_; simp only [x0, x56, xlen, hk1, hk2, hk8, decide_false, ↓alts_f, ↓gone_tf, ↓gone_ff, gslot, drun, aops, aone, aop, needs, ext, aev, aconst, aput, aupd, aload, afieldAddr, acmp, ashift, abin, tab_3, tab_43, tab_83, ok1, cellsAs, TI.agg, AV.cells, AV.whole, Y4, Yb, Yc, Y6, Y7, Y9, Y1, Y2, Yw, Yi, Y5, Y3, Yt, Ys, Yr, Nat.reduceAdd, Nat.reduceLeDiff, Yp, Yq, Yv, Y0, Y8]
  ((repeat' apply And.intro) <;> try first | rfl | omega | (unfold I64; omega))
  refine Ops.pure (Wanted.test 19 false false rfl) rfl rfl (hxs) (by simp only [encR, rplC, textsA, aev, Y4, Y1, Y2, Yf, Ye, Y3, Yd, Y0]; (repeat' first | exact .refl _ | apply LeR.tup | apply Le.agg | constructor)) rfl rfl ?_
  refine Ops.god tab_ok follows_ok Try.func30 60 ?_; simp only [h1, h2, h3, decide_false, rpsA, Yo, x4, x5, x8, x9, xlen, ↓alt_f, ↓alts_f, ↓gone_ff, gslot, drun, aops, aone, aop, needs, ext, aev, aconst, aput, aupd, aload, afieldAddr, acmp, ashift, abin, alen, tab_3, tab_9, tab_75, tab_77, tab_78, tab_83, ok1, cellsAs, TI.agg, Y4, Yb, Yc, Y6, Y7, Y1, Y2, Yw, Y5, Y3, Yt, Ys, Yr, Nat.reduceAdd, Nat.reduceLeDiff, Yp, Bool.not_true, Y0, Y8]
  ((repeat' apply And.intro) <;> try first | rfl | omega | (unfold I64; omega))
  refine Ops.pure (Wanted.test 17 false false rfl) rfl rfl (hv) (by simp only [votesA, aev, Y4, Y1, Y2, Yf, Ye, Y3, Yd, Y0]; (repeat' first | exact .refl _ | apply LeR.tup | apply Le.agg | constructor)) rfl rfl ?_
  refine Ops.god tab_ok follows_ok Try.func30 60 ?_; simp only [x5, xlen, ↓alt_f, ↓alts_f, ↓gone_ff, gslot, drun, aops, aone, aop, needs, ext, aev, aput, aupd, aload, afieldAddr, tab_75, tab_83, ok1, cellsAs, TI.agg, Y4, Yb, Yc, Y6, Y7, Y1, Y2, Yw, Y5, Y3, Yt, Yr, Nat.reduceAdd, Nat.reduceLeDiff, Yp, Bool.not_true, Y0, Y8]
  ((repeat' apply And.intro) <;> try first | rfl | omega | (unfold I64; omega))
  refine Ops.pure .free rfl rfl (hc) (by simp only [rpsA, aev, Y4, Y1, Y2, Yf, Ye, Y3, Yd, Y0]; (repeat' first | exact .refl _ | apply LeR.tup | apply Le.agg | constructor)) rfl rfl ?_
  refine Ops.god tab_ok follows_ok Try.func30 60 ?_; simp only [x10, xlen, ↓alts_f, ↓gone_ff, gslot, aops, aone, aop, needs, ext, aev, aput, aupd, aload, afieldAddr, tab_80, tab_83, ok1, cellsAs, TI.agg, Y4, Yb, Yc, Y6, Y7, Y1, Y2, Yw, Y5, Y3, Yt, Ys, Yr, Nat.reduceAdd, Nat.reduceLeDiff, Yp, Y0, Y8]
  ((repeat' apply And.intro) <;> try first | rfl | omega | (unfold I64; omega))
  refine Ops.pure (Wanted.test 4 false false rfl) rfl rfl (hr) (by simp only [encRp, rpC, aev, Y4, Y1, Y2, Yf, Ye, Y3, Yd, Y0]; (repeat' first | exact .refl _ | apply LeR.tup | apply Le.agg | constructor)) rfl rfl ?_
  refine Ops.god tab_ok follows_ok Try.func30 60 ?_; simp only [xlen, xfull, ↓alt_f, drun, aops, aone, aop, needs, ext, aev, aput, aupd, aload, tab_83, ok1, cellsAs, TI.agg, Y4, Yb, Yc, Y6, Y7, Y1, Y2, Yi, Y5, Y3, Yt, Ys, Yr, Yp, Yv, Y0, Y8]
  ((repeat' apply And.intro) <;> try first | rfl | omega | (unfold I64; omega))
  refine Ops.pure .free rfl rfl (hw) (by simp only [aev, Y4, Y1, Y2, Yf, Ye, Y3, Yd, Y0]; (repeat' first | exact .refl _ | apply LeR.tup | apply Le.agg | constructor)) ab rfl ?_
  refine Ops.god tab_ok follows_ok Try.func30 60 ?_; simp only [aops, aone, aop, aput, Y6, Y7, Nat.reduceAdd]
  ((repeat' apply And.intro) <;> try first | rfl | omega | (unfold I64; omega))
  refine Ops.pure .free rfl rfl (ht) (by simp only [aev, Y4, Y1, Y2, Yf, Ye, Y3, Yd, Y0]; (repeat' first | exact .refl _ | apply LeR.tup | apply Le.agg | constructor)) rfl rb ?_
  cases ok with
  | false =>
    rw [show decide ((bl, false) = (l, true)) = false by simp]
    refine Ops.god tab_ok follows_ok Try.func30 60 ?_; simp only [Try.results30, blen, ↓alts_f, ↓gone_tf, gslot, drun, aops, aone, afin, ares, aresL, ares1, aresOk, aresOk1, aop, needs, ext, aev, aconst, aput, aupd, astore, tab_83, ok1, lay, AV.cells, AV.whole, Y4, Yb, Yc, Y6, Y7, Ya, Y9, Y1, Y2, Yw, Yh, Yj, Yl, Y5, Y3, Yd, Yt, Yu, Ys, Yr, Nat.reduceAdd, Yp, Yv, Y0, Y8]
    ((repeat' apply And.intro) <;> try first | rfl | omega | (unfold I64; omega))
    (repeat' first | exact .refl _ | apply LeR.tup | apply Le.agg | constructor)
  | true =>
    have hg := (hgood rfl).1
    have hsm := same27_spec bl l bsum hl (fun r hr => by
      rcases List.mem_append.1 hr with hr | hr
      · have := (hg.sh.2.2.1 r hr).2.1; omega
      · rw [List.mem_singleton] at hr; subst hr; have := hg.sh.2.2.2.2.2.1.2.1; omega) (by have := hg.sh.2.1; omega) (by omega) (by have := hg.sh.2.2.2.2.1.1; omega) (by have := hg.names; omega)
    rw [show decide ((bl, true) = (l, true)) = decide (bl = l) by simp]
    refine Ops.god tab_ok follows_ok Try.func30 60 ?_; simp only [xlen, xfull, blen, bfull, ↓alts_t, ↓gone_tt, gslot, drun, aops, aone, aop, needs, ext, aev, aput, aupd, aload, astore, tab_83, ok1, lay, cellsAs, TI.agg, AV.cells, AV.whole, Y4, Yb, Yc, Y6, Y7, Ya, Y9, Y1, Y2, Yw, Yi, Yh, Yj, Yl, Y5, Y3, Yd, Yt, Yu, Ys, Yr, Nat.reduceAdd, Yp, Yv, Y0, Y8]
    ((repeat' apply And.intro) <;> try first | rfl | omega | (unfold I64; omega))
    refine Ops.pure (Wanted.test 1 true true rfl) rfl rfl (hsm) (by simp only [aev, Y4, Y1, Y2, Yf, Ye, Y3, Yd, Y0]; (repeat' first | exact .refl _ | apply LeR.tup | apply Le.agg | constructor)) ab2 rfl ?_
    refine Ops.god tab_ok follows_ok Try.func30 60 ?_; simp only [Try.results30, drun, aops, aone, afin, ares, aresL, ares1, aresOk, aresOk1, aop, needs, ext, aev, aput, aupd, ok1, Y4, Yb, Yc, Y6, Y7, Y1, Y2, Y5, Y3, Yt, Yu, Yr, Y0, Y8]
    ((repeat' apply And.intro) <;> try first | rfl | omega | (unfold I64; omega))
    (repeat' first | exact .refl _ | apply LeR.tup | apply Le.agg | constructor)
structure AskL (l : Ltr) : Prop where
  sum : l.sum.length = 32
  names : l.x.l.length ≤ 100000000
  sm : ShL l → smL l
theorem may27_spec (l : Ltr) (h : AskL l) : ASpec Try.prog 30 [.agg (letC l)] (.bool (mayL l)) := by
  obtain ⟨hl, hx, hs⟩ := h
  have no : ∀ {P : Prop}, ¬ P → (Good l → P) → mayL l = false := fun h1 h2 => not_may fun g => h1 (h2 g)
  by_cases k1 : l.kind < 1
  · rw [no (P := ¬ l.kind < 1) (fun h => h k1) fun g => by have := g.1; omega]; exact may27_k1 l hl k1
  by_cases k2 : 10 < l.kind
  · rw [no (P := ¬ 10 < l.kind) (fun h => h k2) fun g => by have := g.1; omega]; exact may27_k2 l hl k1 k2
  have hk : 1 ≤ l.kind ∧ l.kind ≤ 10 := by omega
  by_cases k8 : l.kind = 8
  · cases ho : mayO l.o with
    | false => rw [no (P := mayO l.o = true) (by rw [ho]; decide) fun g => g.kind8 k8]; exact may27_k8 l hl k8 ho
    | true =>
      cases e0 : shortX l.x with
      | false => rw [no (P := shortX l.x = true) (by rw [e0]; decide) fun g => g.short.1]; exact may27_x_8 l hl k8 ho hx e0
      | true =>
        by_cases e1 : (6000 : Int) < l.value.length
        · rw [no (P := ¬ (6000 : Int) < l.value.length) (fun h => h e1) fun g => by have := g.sh.1; omega]; exact may27_v_8 l hl k8 ho hx e0 e1
        by_cases e2 : (30 : Int) < l.cert.length
        · rw [no (P := ¬ (30 : Int) < l.cert.length) (fun h => h e2) fun g => by have := g.sh.2.1; omega]; exact may27_c_8 l hl k8 ho hx e0 e1 e2
        by_cases e3 : (6000 : Int) < l.vote.value.length
        · rw [no (P := ¬ (6000 : Int) < l.vote.value.length) (fun h => h e3) fun g => by have := g.sh.2.2.2.1; omega]; exact may27_a_8 l hl k8 ho hx e0 e1 e2 e3
        cases e4 : shortV l.proof with
        | false => rw [no (P := shortV l.proof = true) (by rw [e4]; decide) fun g => g.short.2.1]; exact may27_p_8 l hl k8 ho hx e0 e1 e2 e3 e4
        | true =>
          cases e5 : l.cert.any longR with
          | true => rw [no (P := l.cert.any longR = false) (by rw [e5]; decide) fun g => g.short.2.2.1]; exact may27_cl_8 l hl k8 ho hx e0 e1 e2 e3 e4 e5
          | false =>
            cases e6 : longR l.r with
            | true => rw [no (P := longR l.r = false) (by rw [e6]; decide) fun g => g.short.2.2.2]; exact may27_r_8 l hl k8 ho hx e0 e1 e2 e3 e4 e5 e6
            | false =>
              exact may27_ok_8 l hl k8 ho hx e0 e1 e2 e3 e4 e5 e6 (hs (sh_of (by omega) (by omega) (by omega) e4 e5 e6 e0)) hk
  · skip
    cases e0 : shortX l.x with
    | false => rw [no (P := shortX l.x = true) (by rw [e0]; decide) fun g => g.short.1]; exact may27_x l hl k1 k2 k8 hx e0
    | true =>
      by_cases e1 : (6000 : Int) < l.value.length
      · rw [no (P := ¬ (6000 : Int) < l.value.length) (fun h => h e1) fun g => by have := g.sh.1; omega]; exact may27_v l hl k1 k2 k8 hx e0 e1
      by_cases e2 : (30 : Int) < l.cert.length
      · rw [no (P := ¬ (30 : Int) < l.cert.length) (fun h => h e2) fun g => by have := g.sh.2.1; omega]; exact may27_c l hl k1 k2 k8 hx e0 e1 e2
      by_cases e3 : (6000 : Int) < l.vote.value.length
      · rw [no (P := ¬ (6000 : Int) < l.vote.value.length) (fun h => h e3) fun g => by have := g.sh.2.2.2.1; omega]; exact may27_a l hl k1 k2 k8 hx e0 e1 e2 e3
      cases e4 : shortV l.proof with
      | false => rw [no (P := shortV l.proof = true) (by rw [e4]; decide) fun g => g.short.2.1]; exact may27_p l hl k1 k2 k8 hx e0 e1 e2 e3 e4
      | true =>
        cases e5 : l.cert.any longR with
        | true => rw [no (P := l.cert.any longR = false) (by rw [e5]; decide) fun g => g.short.2.2.1]; exact may27_cl l hl k1 k2 k8 hx e0 e1 e2 e3 e4 e5
        | false =>
          cases e6 : longR l.r with
          | true => rw [no (P := longR l.r = false) (by rw [e6]; decide) fun g => g.short.2.2.2]; exact may27_r l hl k1 k2 k8 hx e0 e1 e2 e3 e4 e5 e6
          | false =>
            exact may27_ok l hl k1 k2 k8 hx e0 e1 e2 e3 e4 e5 e6 (hs (sh_of (by omega) (by omega) (by omega) e4 e5 e6 e0)) hk
end Go.Proofs.Ytkamcoechjdgpaa
/-
  A law's run, from its shadow: the arguments lie in the world as they were handed in.
-/
namespace Go.Proofs.Ytkamcoechjdgpaa
open Go.RowKit
def frz (w : World) (b o : Nat) : Prop := ∃ vs e f v, w.heap[b]? = some (.cells vs e f) ∧ f.1 ≤ o ∧ o < f.2 ∧ vs[o]? = some v ∧ ∀ n, v ≠ .int .u8 n
def Cx.top (w : World) : Cx := ⟨fun _ => none, [], w, frz w⟩
theorem Cx.top_rel (w : World) : RelH (Cx.top w) :=
  ⟨fun i j x y b h => by simp [Cx.top] at h, fun i x b h => by simp [Cx.top] at h, fun i x h => by simp [Cx.top] at h,
   fun b o h => by
    obtain ⟨vs, e, f, v, h1, _⟩ := h
    exact ⟨(Array.getElem?_eq_some_iff.1 h1).1, fun i x h => by simp [Cx.top] at h⟩,
   fun b vs e f hh o v h1 h2 hx hv => Classical.byContradiction fun hn => hx ⟨vs, e, f, v, hh, h1, h2, hv, fun n hv' => hn ⟨n, hv'⟩⟩⟩
theorem Cx.top_im {w : World} {b o : Nat} (h : b < w.heap.size) (hf : w.frozen? ⟨b, o, none⟩ = false) : (Cx.top w).im b o :=
  ⟨h, fun hx => by
    obtain ⟨vs, e, f, v, h1, h2, h3, _⟩ := hx
    unfold World.frozen? at hf
    simp only [h1] at hf
    simp at hf
    exact absurd (hf h2) (by omega), fun i x h => by simp [Cx.top] at h⟩
theorem TRel.nil {c : Cx} : TRel c #[] [] := ⟨rfl, fun i v x h => by simp at h⟩
theorem TRel.cons {c : Cx} {v : Value} {x : AV} {vs : List Value} {xs : List AV} (h : RV c v x) (t : TRel c vs.toArray xs) : TRel c (v :: vs).toArray (x :: xs) := by
  refine ⟨by have := t.1; simpa using this, fun i u y hu hy => ?_⟩
  cases i with
  | zero => simp at hu hy; subst hu hy; exact h
  | succ i => exact t.2 i u y (by simpa using hu) (by simpa using hy)
theorem law_top {P : Program} {f : FuncId} {args : List AV} {v : Bool} (h : ASpec P f args (.bool v)) (w : World) (vs : Array Value) (ht : TRel (Cx.top w) vs args) : Calls P f vs w fun e w' => e = .returned (.bool v) ∧ Below w.heap.size w w' := by
  refine (h.run (Cx.top w) vs rfl (Cx.top_rel w) ht).mono ?_
  rintro e w' ⟨u, ρ', r, h', rfl, g1, g2, g3, hle⟩
  have hv := hle.rv g3
  cases hv
  refine ⟨rfl, g2.os, g2.tape, g2.output, g2.size, fun b hb => (g2.fr b hb ?_).1⟩
  rintro ⟨i, x, hx, _⟩; simp [Cx.top] at hx
end Go.Proofs.Ytkamcoechjdgpaa
/-
  Out of an argument's reading: what its cells read as. Nothing here speaks of the program.
-/
namespace Go.Proofs.Ytkamcoechjdgpaa
open Go.ChangeShapes Go.WideShapes Go.ChangeAt Go.RowKit Go.Deep
/-! ### out of an argument's reading -/
def InReach {H : Type} (P : Program) (t : TypeId) (d : DataW H) : Prop := ∀ n ∈ d.weights P t, n ≤ reachBytes
theorem inReach_all {H : Type} {P : Program} {e : TypeId} {d : DataW H} : ∀ {ds : List (DataW H)}, d ∈ ds → (∀ n ∈ DataW.weightsAll P e ds, n ≤ reachBytes) → InReach P e d
  | d0 :: ds, h, hr => by
    rcases List.mem_cons.1 h with rfl | h
    · exact fun n hn => hr n (by simp only [DataW.weightsAll, List.mem_append]; exact Or.inl hn)
    · exact inReach_all h fun n hn => hr n (by simp only [DataW.weightsAll, List.mem_append]; exact Or.inr hn)
theorem inReach_slice {H : Type} {P : Program} {t e : TypeId} {els sp : List (DataW H)} (ht : P.underlying t = some (.slice e)) (h : InReach P t (.slice els sp)) :
    (els.length + sp.length) * P.bytesOf e ≤ reachBytes ∧ ∀ d ∈ els, InReach P e d := by
  unfold InReach at h
  simp only [DataW.weights, ht, List.mem_cons, List.mem_append] at h
  exact ⟨h _ (Or.inl rfl), fun d hd => inReach_all hd fun n hn => h n (Or.inr (Or.inl hn))⟩
section
variable {P : Program}
theorem i64_lim {n : Int} (h : (Lit.int .i64 n).wf = true) : -9223372036854775808 ≤ n ∧ n ≤ 9223372036854775807 := by
  simp [Lit.wf, IntKind.min, IntKind.max, IntKind.signed, IntKind.bits] at h
  omega
end
end Go.Proofs.Ytkamcoechjdgpaa
/-
  Words for memory, with the set Z of the blocks that a thing may lie in (so that a caller's own blocks can be told from it): which blocks stay (Agree); how cells read as a thing (ZRep); a slice that reads as a list (SlZ). Nothing here speaks of the program.
-/
namespace Go.Proofs.Ytkamcoechjdgpaa
open Go.ChangeShapes Go.WideShapes Go.ChangeAt Go.RowKit Go.Deep

structure Agree (Z : Nat → Prop) (w w' : World) : Prop where
  os : w'.os = w.os
  tape : w'.tape = w.tape
  output : w'.output = w.output
  size : w.heap.size ≤ w'.heap.size
  block : ∀ k, k < w.heap.size → Z k → w'.heap[k]? = w.heap[k]?

section
variable {Z Z' : Nat → Prop} {a b c w w' : World}
end

structure ZRep (α : Type) where
  at_ : (Nat → Prop) → World → List Value → α → Prop
  mono : ∀ {Z Z' : Nat → Prop} {w cs a}, (∀ k, Z k → Z' k) → at_ Z w cs a → at_ Z' w cs a
  stable : ∀ {Z w w' cs a}, Agree Z w w' → at_ Z w cs a → at_ Z w' cs a
  narrow : ∀ {Z w cs a}, at_ Z w cs a → at_ (fun k => Z k ∧ k < w.heap.size) w cs a
def SlZ {α : Type} (R : ZRep α) (k : Nat) (Z : Nat → Prop) (w : World) (A : Option Addr) (l : List α) : Prop :=
  l ≠ [] → ∃ b o, A = some ⟨b, o, none⟩ ∧ Z b ∧ b < w.heap.size ∧ ∀ (j : Nat) a, l[j]? = some a → ∃ cs, cs.length = k ∧ R.at_ Z w cs a ∧ ∀ i u, cs[i]? = some u → w.cell? ⟨b, o + j * k + i, none⟩ = some u
section
variable {α : Type} {R : ZRep α} {k : Nat} {Z Z' : Nat → Prop} {w w' : World} {A : Option Addr} {l : List α}
theorem SlZ.drop {b o : Nat} (h : SlZ R k Z w (some ⟨b, o, none⟩) l) (n : Nat) : SlZ R k Z w (some ⟨b, o + n * k, none⟩) (l.drop n) := fun hn => by
  obtain ⟨b', o', he, hz, hlt, hc⟩ := h (by rintro rfl; simp at hn)
  simp only [Option.some.injEq, Addr.mk.injEq, Yu] at he
  obtain ⟨rfl, rfl⟩ := he
  refine ⟨b, _, rfl, hz, hlt, fun j a hj => ?_⟩
  rw [List.getElem?_drop] at hj
  obtain ⟨cs, hl, hr, hcs⟩ := hc _ a hj
  refine ⟨cs, hl, hr, fun i u hu => ?_⟩
  rw [← hcs i u hu]
  congr 2
  rw [Nat.add_mul]
  omega
end
section
variable {α : Type} {p : List Value → α → Prop} {k B : Nat} {Z : Nat → Prop} {w w' : World} {A : Option Addr} {l : List α}
end
end Go.Proofs.Ytkamcoechjdgpaa
/-
  Out of an argument's reading: structs, field by field. Nothing here speaks of the program.
-/
namespace Go.Proofs.Ytkamcoechjdgpaa
open Go.ChangeShapes Go.WideShapes Go.ChangeAt Go.RowKit Go.Deep
theorem inReach_each {H : Type} {P : Program} : ∀ {ts : List TypeId} {ds : List (DataW H)} {i : Nat} {t : TypeId} {d : DataW H}, ts[i]? = some t → ds[i]? = some d → (∀ n ∈ DataW.weightsEach P ts ds, n ≤ reachBytes) → InReach P t d
  | t0 :: ts, d0 :: ds, 0, t, d, ht, hd, h => by
    simp at ht hd
    subst ht hd
    exact fun n hn => h n (by simp only [DataW.weightsEach, List.mem_append]; exact Or.inl hn)
  | t0 :: ts, d0 :: ds, i + 1, t, d, ht, hd, h => inReach_each (ts := ts) (ds := ds) (i := i) (by simpa using ht) (by simpa using hd) fun n hn => h n (by simp only [DataW.weightsEach, List.mem_append]; exact Or.inr hn)
  | [], _, _, _, _, ht, _, _ => by simp at ht
  | _ :: _, [], _, _, _, _, hd, _ => by simp at hd
section
variable {P : Program} {H : Type} {enc : TypeId × Value → H} {w : World} {base : Nat} {sp : Nat → Bool} {hd : Bool} {t : TypeId}
end
end Go.Proofs.Ytkamcoechjdgpaa
/-
  Out of an argument's reading: what it reads cl, cell by cell, for the shadow. Nothing here speaks of the program.
-/
namespace Go.Proofs.Ytkamcoechjdgpaa
open Go.ChangeShapes Go.WideShapes Go.ChangeAt Go.RowKit Go.Deep
structure RdAt (w : World) (cs : List Value) (cl : List AV) : Prop where
  len : cl.length = cs.length
  pl : ∀ (i : Nat) a, cl[i]? = some a → a.plain = true
  rv : ∀ (i : Nat) v a, cs[i]? = some v → cl[i]? = some a → RV (Cx.top w) v a
def Reads (P : Program) (e : TypeId) (E : List AV → Prop) : Prop :=
  ∀ {H : Type} (enc : TypeId × Value → H) (w : World) (base : Nat) (sp : Nat → Bool) (hd : Bool) (n : Nat) (cs : List Value) (x : DataW H × List MemPlace), DataW.trod enc P w base sp hd n e cs = some x → InReach P e x.1 → w.noneFrozen x.2 → ∃ cl, RdAt w cs cl ∧ E cl
theorem Reads.mono {P : Program} {e : TypeId} {E E' : List AV → Prop} (h : Reads P e E) (hE : ∀ cl, E cl → E' cl) : Reads P e E' := fun enc w base sp hd n cs x h1 h2 h3 => by
  obtain ⟨cl, g1, g2⟩ := h enc w base sp hd n cs x h1 h2 h3
  exact ⟨cl, g1, hE cl g2⟩
theorem nfSub {w : World} {p q : List MemPlace} (h : w.noneFrozen p) (hs : ∀ x ∈ q, x ∈ p) : w.noneFrozen q := fun b o hm => h b o (hs _ hm)
theorem RdAt.nil {w : World} : RdAt w [] [] := ⟨rfl, fun i a h => by simp at h, fun i v a h => by simp at h⟩
theorem RdAt.one {w : World} {v : Value} {a : AV} (hp : a.plain = true) (h : RV (Cx.top w) v a) : RdAt w [v] [a] := by
  refine ⟨rfl, fun i b hb => ?_, fun i u b hu hb => ?_⟩
  · cases i with
    | zero => simp at hb; subst hb; exact hp
    | succ i => simp at hb
  · cases i with
    | zero => simp at hu hb; subst hu hb; exact h
    | succ i => simp at hu
theorem RdAt.app {w : World} {c1 c2 : List Value} {a1 a2 : List AV} (h1 : RdAt w c1 a1) (h2 : RdAt w c2 a2) : RdAt w (c1 ++ c2) (a1 ++ a2) := by
  refine ⟨by simp [h1.len, h2.len], fun i a ha => ?_, fun i v a hv ha => ?_⟩
  · rw [List.getElem?_append] at ha
    split at ha
    · exact h1.pl i a ha
    · exact h2.pl _ a ha
  · rw [List.getElem?_append] at ha hv
    rw [h1.len] at ha
    split at ha
    · rename_i hl; rw [if_pos hl] at hv; exact h1.rv i v a hv ha
    · rename_i hl; rw [if_neg hl] at hv; exact h2.rv _ v a hv ha
section
variable {P : Program}
theorem reads_int {e : TypeId} {k : IntKind} (he : P.underlying e = some (.int k)) : Reads P e fun cl => ∃ n, cl = [.int k n] ∧ (Lit.int k n).wf = true := fun _ _ _ _ _ _ _ _ h hr _ => by
  obtain ⟨n, rfl, _, hw⟩ := DataW.trod_int he h
  exact ⟨_, RdAt.one rfl (.int k n), n, rfl, hw⟩
theorem reads_bool {e : TypeId} (he : P.underlying e = some .bool) : Reads P e fun cl => ∃ b, cl = [.bool b] := fun _ _ _ _ _ _ _ _ h hr _ => by
  obtain ⟨b, rfl, _⟩ := DataW.trod_bool he h
  exact ⟨_, RdAt.one rfl (.bool b), b, rfl⟩
theorem reads_str {e : TypeId} (he : P.underlying e = some .string) : Reads P e fun cl => ∃ s : Bytes, cl = [.str s] ∧ s.length ≤ reachBytes := fun _ _ _ _ _ _ _ _ h hr _ => by
  obtain ⟨s, rfl, rfl, hs⟩ := DataW.trod_string he h
  exact ⟨_, RdAt.one rfl (.str s _ rfl), s.data.toList, rfl, hr _ (by simp [DataW.weights])⟩
theorem wf64 {n : Int} (h : (Lit.int .i64 n).wf = true) : I64 n := by
  have := i64_lim h
  unfold I64
  omega
theorem reads_byte {e : TypeId} (he : P.underlying e = some (.int .u8)) : Reads P e fun cl => ∃ c, cl = byteC c := fun _ _ _ _ _ _ _ _ h hr _ => by
  obtain ⟨n, rfl, _, hw⟩ := DataW.trod_int he h
  simp [Lit.wf, IntKind.min, IntKind.max, IntKind.signed, IntKind.bits] at hw
  obtain ⟨m, rfl⟩ := Int.eq_ofNat_of_zero_le hw.1
  have hm : m < 256 := by omega
  refine ⟨_, RdAt.one rfl (.int .u8 m), UInt8.ofNat m, ?_⟩
  simp [byteC, Nat.mod_eq_of_lt hm]
theorem reads_slice {E : List AV → Prop} {t e : TypeId} {k bytes : Nat} (ht : P.underlying t = some (.slice e)) (hk : P.cellsOf e = k) (hby : P.bytesOf e = bytes) (hk0 : 0 < k) (hR : Reads P e E) :
    Reads P t fun cl => ∃ l, cl = [.sl k l .no] ∧ (∀ x ∈ l, E x) ∧ l.length * bytes ≤ reachBytes := fun enc w base sp hd n cs x h hr hz => by
  subst hk
  rcases open_slice ht h with ⟨rfl, _⟩ | ⟨ad, len, cap, m, n', D, Pl, rfl, _, hlc, hcm, hm, rfl, hi⟩
  · refine ⟨_, RdAt.one rfl (.sl (P.cellsOf e) [] .no none 0 0 0 0 (fun _ _ => undef) rfl (Nat.le_refl _) (Nat.zero_le _) (fun h => absurd rfl h) (fun j e h => by simp at h) (fun j e i a h => by simp at h) (fun j e i a h => by simp at h) trivial), [], rfl, by simp, by simp⟩
  · have hlm : len ≤ m := by rw [hm]; split <;> omega
    obtain ⟨hw, hel⟩ := inReach_slice ht hr
    rw [hby] at hw
    simp only [Yo, List.length_range] at hw
    have hex : ∀ i, i < len → ∃ a, ∃ cs', w.cells? base (ad.add (i * P.cellsOf e)) (P.cellsOf e) = some cs' ∧ RdAt w cs' a ∧ E a := fun i hl => by
      obtain ⟨cs', hc, ht'⟩ := hi i (by omega)
      obtain ⟨a, ha, hE⟩ := hR enc w base sp hd n' cs' _ ht' (hel _ (List.mem_map.2 ⟨i, List.mem_range.2 hl, rfl⟩)) (nfSub hz fun y hy => List.mem_append_right _ (List.mem_flatMap.2 ⟨i, List.mem_range.2 (by omega), hy⟩))
      exact ⟨a, cs', hc, ha, hE⟩
    have hlist : ∀ m', m' ≤ len → ∃ l : List (List AV), l.length = m' ∧ ∀ i a, l[i]? = some a → ∃ cs', w.cells? base (ad.add (i * P.cellsOf e)) (P.cellsOf e) = some cs' ∧ RdAt w cs' a ∧ E a := by
      intro m'
      induction m' with
      | zero => exact fun _ => ⟨[], rfl, fun i a h => by simp at h⟩
      | succ q ih =>
        intro hq
        obtain ⟨l, hl, hg⟩ := ih (by omega)
        obtain ⟨a, ha⟩ := hex q (by omega)
        refine ⟨l ++ [a], by simp [hl], fun i b hb => ?_⟩
        rw [List.getElem?_append] at hb
        split at hb
        · exact hg i b hb
        · rename_i hge
          have : i = q := by
            have := (List.getElem?_eq_some_iff.1 hb).1
            simp at this
            omega
          subst this
          simp [hl] at hb
          subst hb
          exact ha
    obtain ⟨l, hl, hg⟩ := hlist len (Nat.le_refl _)
    have hmem : ∀ x ∈ l, E x := fun x hx => by
      obtain ⟨i, hi⟩ := List.mem_iff_getElem?.1 hx
      obtain ⟨_, _, _, h⟩ := hg i x hi
      exact h
    obtain ⟨b, o, sp'⟩ := ad
    have hsp0 : l ≠ [] → sp' = none := fun hne => by
      obtain ⟨a0, ha0⟩ : ∃ a, l[0]? = some a := ⟨l[0]'(List.length_pos_iff.2 hne), List.getElem?_eq_getElem _⟩
      obtain ⟨cs0, hc0, _, _⟩ := hg 0 a0 ha0
      obtain ⟨_, hl0, hat0⟩ := World.cells?_some hc0
      have h00 := hat0 0 hk0
      have hsome : cs0[0]? = some (cs0[0]'(by omega)) := List.getElem?_eq_getElem _
      rw [hsome] at h00
      simp only [Nat.zero_mul, Addr.add, Ys] at h00
      unfold World.cell? at h00
      split at h00
      · cases sp' with
        | none => rfl
        | some q => simp at h00
      · cases h00
    have hadd : ∀ o i, (Addr.mk b o none).add i = ⟨b, o + i, none⟩ := fun o i => by
      unfold Addr.add; split
      · rename_i h; subst h; rfl
      · rfl
    have hcell : ∀ (j : Nat) a, l[j]? = some a → ∀ (i : Nat) x, a[i]? = some x → ∃ v, sp' = none ∧ b < w.heap.size ∧ w.cell? ⟨b, o + j * P.cellsOf e + i, none⟩ = some v ∧ RV (Cx.top w) v x ∧ x.plain = true ∧ a.length = P.cellsOf e := fun j a hj i x hx => by
      obtain ⟨cs', hc', hr', _⟩ := hg j a hj
      obtain ⟨_, hl', hat'⟩ := World.cells?_some hc'
      have hal : a.length = P.cellsOf e := by rw [hr'.len, hl']
      have hi' : i < P.cellsOf e := by rw [← hal]; exact (List.getElem?_eq_some_iff.1 hx).1
      have hv : cs'[i]? = some (cs'[i]'(by omega)) := List.getElem?_eq_getElem _
      have hat := hat' i hi'
      rw [hv] at hat
      have hsp : sp' = none := hsp0 (fun h => by rw [h] at hj; simp at hj)
      subst hsp
      have hblt := World.block_lt_of_cell? w _ hat
      refine ⟨_, rfl, ?_, ?_, hr'.rv i _ x hv hx, hr'.pl i x hx, hal⟩
      · rw [hadd, hadd] at hblt
        exact hblt
      · rw [hadd, hadd] at hat
        exact hat
    have hzr : ∀ q, q < m * P.cellsOf e → w.frozen? ⟨b, o + q, none⟩ = false := fun q hq => hz b (o + q) (List.mem_append_left _ (MemPlace.mem_row.2 ⟨q, hq, rfl⟩))
    refine ⟨_, RdAt.one rfl (RV.sl (P.cellsOf e) l .no (some ⟨b, o, sp'⟩) len cap b o (fun j i => (w.cell? ⟨b, o + j * P.cellsOf e + i, none⟩).getD undef) hl hlc hcm ?_ ?_ ?_ ?_ trivial), l, rfl, hmem, by rw [hl]; exact Nat.le_trans (Nat.mul_le_mul_right _ (Nat.le_add_right _ _)) hw⟩
    · intro hne
      obtain ⟨a0, ha0⟩ : ∃ a, l[0]? = some a := ⟨l[0]'(List.length_pos_iff.2 hne), List.getElem?_eq_getElem _⟩
      obtain ⟨cs0, hc0, hr0, _⟩ := hg 0 a0 ha0
      obtain ⟨_, hl0, _⟩ := World.cells?_some hc0
      obtain ⟨x0, hx0⟩ : ∃ x, a0[0]? = some x := ⟨a0[0]'(by rw [hr0.len, hl0]; exact hk0), List.getElem?_eq_getElem _⟩
      obtain ⟨_, rfl, _⟩ := hcell 0 a0 ha0 0 x0 hx0
      rfl
    · intro j a hj
      obtain ⟨cs', hc', hr', _⟩ := hg j a hj
      obtain ⟨_, hl', _⟩ := World.cells?_some hc'
      rw [hr'.len, hl']
    · intro j a i x hj hx
      obtain ⟨v, _, h1, h2, h3, h4, h5⟩ := hcell j a hj i x hx
      have hji : j * P.cellsOf e + i < m * P.cellsOf e := by
        have hj' : j < m := by have := (List.getElem?_eq_some_iff.1 hj).1; omega
        have hi' : i < P.cellsOf e := by rw [← h5]; exact (List.getElem?_eq_some_iff.1 hx).1
        have := Nat.mul_le_mul_right (P.cellsOf e) (show j + 1 ≤ m by omega)
        rw [Nat.succ_mul] at this
        omega
      have hf := hzr _ hji
      rw [← Nat.add_assoc] at hf
      exact ⟨h4, Cx.top_im h1 hf, by show w.cell? _ = _; rw [h2]; rfl⟩
    · intro j a i x hj hx
      obtain ⟨v, _, h1, h2, h3, h4, _⟩ := hcell j a hj i x hx
      rw [h2]
      exact h3
def Fits (P : Program) : List Field → Nat → List (Nat × (List AV → Prop)) → Prop
  | [], _, [] => True
  | f :: fs, o, (k, E) :: Es => f.offset = o ∧ P.cellsOf f.type = k ∧ Reads P f.type E ∧ Fits P fs (o + k) Es
  | _, _, _ => False
def PartsE : List (Nat × (List AV → Prop)) → List AV → Prop
  | [], cl => cl = []
  | (_, E) :: Es, cl => ∃ a b, cl = a ++ b ∧ E a ∧ PartsE Es b
def cellsSum : List (Nat × (List AV → Prop)) → Nat
  | [] => 0
  | (k, _) :: Es => k + cellsSum Es
theorem reads_fields {H : Type} {enc : TypeId × Value → H} {w : World} {base : Nat} {sp : Nat → Bool} {hd : Bool} {n : Nat} {cs : List Value} : ∀ (fs : List Field) (o : Nat) (Es : List (Nat × (List AV → Prop))), Fits P fs o Es →
    (∀ f ∈ fs, ∃ x : DataW H × List MemPlace, DataW.trod enc P w base sp hd n f.type ((cs.drop f.offset).take (P.cellsOf f.type)) = some x ∧ InReach P f.type x.1 ∧ w.noneFrozen x.2) →
    ∃ cl, RdAt w ((cs.drop o).take (cellsSum Es)) cl ∧ PartsE Es cl
  | [], o, [], _, _ => ⟨[], by simpa [cellsSum] using RdAt.nil, rfl⟩
  | f :: fs, o, (k, E) :: Es, ⟨h1, h2, h3, h4⟩, h => by
    obtain ⟨x, g1, g2, g3⟩ := h f List.mem_cons_self
    obtain ⟨a, r1, e1⟩ := h3 enc w base sp hd n _ x g1 g2 g3
    obtain ⟨b, r2, e2⟩ := reads_fields fs (o + k) Es h4 fun f' hf' => h f' (List.mem_cons_of_mem _ hf')
    refine ⟨a ++ b, ?_, a, b, rfl, e1, e2⟩
    rw [h1, h2] at r1
    have e : (cs.drop o).take (cellsSum ((k, E) :: Es)) = (cs.drop o).take k ++ (cs.drop (o + k)).take (cellsSum Es) := by
      rw [cellsSum, List.take_add, List.drop_drop]
    rw [e]
    exact r1.app r2
  | [], _, _ :: _, h, _ => h.elim
  | _ :: _, _, [], h, _ => h.elim
theorem reads_struct {t : TypeId} {fs : Array Field} {Es : List (Nat × (List AV → Prop))} (ht : P.underlying t = some (.struct fs)) (hF : Fits P fs.toList 0 Es) (hc : P.cellsOf t = cellsSum Es) : Reads P t (PartsE Es) := fun enc w base sp hd n cs x h hr hz => by
  obtain ⟨xs, m, _, rfl, hlen, hxl, hg⟩ := DataW.trod_struct ht h
  obtain ⟨cl, h1, h2⟩ := reads_fields (enc := enc) (w := w) (base := base) (sp := sp) (hd := hd) (n := m) (cs := cs) fs.toList 0 Es hF fun f hf => by
    obtain ⟨i, hi⟩ := List.mem_iff_getElem?.1 hf
    rw [Array.getElem?_toList] at hi
    have hil : i < xs.length := by rw [hxl]; exact (Array.getElem?_eq_some_iff.1 hi).1
    have h1 := hg i f hi
    rw [List.getElem?_eq_getElem hil] at h1
    refine ⟨xs[i], h1, ?_, nfSub hz fun y hy => List.mem_flatMap.2 ⟨xs[i], List.getElem_mem hil, hy⟩⟩
    unfold InReach at hr
    simp only [DataW.weights, ht] at hr
    exact inReach_each (ts := fs.toList.map (·.type)) (ds := xs.map (·.1)) (i := i) (by rw [List.getElem?_map, Array.getElem?_toList, hi]; rfl) (by rw [List.getElem?_map, List.getElem?_eq_getElem hil]; rfl) hr
  refine ⟨cl, ?_, h2⟩
  rw [List.drop_zero, ← hc, ← hlen, List.take_length] at h1
  exact h1
theorem rd_struct {t : TypeId} {fs : Array Field} {H : Type} {enc : TypeId × Value → H} {w : World} {base base' : Nat} {sp : Nat → Bool} {hd : Bool} {v : Value} {d : DataW H} {p : List MemPlace} {r : Reach} {E : List AV → Prop}
    (ht : P.underlying t = some (.struct fs)) (hR : Reads P t E) (hval : Value.okWide P w r base' t v) (h : DataW.Trod enc P w base sp hd t v d p) (hr : InReach P t d) (hz : w.noneFrozen p) : ∃ cl, RV (Cx.top w) v (.agg cl) ∧ E cl := by
  obtain ⟨f, hf⟩ := h
  obtain ⟨cs, rfl, hsz⟩ := okWide_struct ht hval
  obtain ⟨cl, h1, h2⟩ := hR enc w _ _ _ _ _ _ hf hr hz
  refine ⟨cl, .agg _ _ ?_ (fun i a ha => AV.plain_cell (h1.pl i a ha)) (fun i u a hu ha => h1.rv i u a ?_ ha), h2⟩
  · have := h1.len
    simpa [Value.cells] using this.symm
  · simpa [Value.cells] using hu
theorem rd_slice {t e : TypeId} {H : Type} {enc : TypeId × Value → H} {w : World} {base base' : Nat} {sp : Nat → Bool} {hd : Bool} {v : Value} {d : DataW H} {p : List MemPlace} {r : Reach} {E : List AV → Prop}
    (ht : P.underlying t = some (.slice e)) (hR : Reads P t E) (hval : Value.okWide P w r base' t v) (h : DataW.Trod enc P w base sp hd t v d p) (hr : InReach P t d) (hz : w.noneFrozen p) : ∃ a, RV (Cx.top w) v a ∧ E [a] := by
  obtain ⟨f, hf⟩ := h
  obtain ⟨A, n, c, rfl⟩ := okWide_slice ht hval
  obtain ⟨cl, h1, h2⟩ := hR enc w _ _ _ _ _ _ hf hr hz
  have hl : cl.length = 1 := by have := h1.len; simpa [Value.cells] using this
  match cl, hl with
  | [a], _ => exact ⟨a, h1.rv 0 _ a (by simp [Value.cells]) rfl, h2⟩
end
theorem bytes_of {l : List (List AV)} (h : ∀ x ∈ l, ∃ c, x = byteC c) : ∃ b : Bytes, l = b.map byteC := by
  induction l with
  | nil => exact ⟨[], rfl⟩
  | cons x l ih =>
    obtain ⟨c, rfl⟩ := h x List.mem_cons_self
    obtain ⟨b, rfl⟩ := ih fun y hy => h y (List.mem_cons_of_mem _ hy)
    exact ⟨c :: b, rfl⟩
theorem list_of {α : Type} {f : α → List AV} {Q : α → Prop} {l : List (List AV)} (h : ∀ x ∈ l, ∃ c, x = f c ∧ Q c) : ∃ b : List α, l = b.map f ∧ ∀ c ∈ b, Q c := by
  induction l with
  | nil => exact ⟨[], rfl, by simp⟩
  | cons x l ih =>
    obtain ⟨c, rfl, hc⟩ := h x List.mem_cons_self
    obtain ⟨b, rfl, hb⟩ := ih fun y hy => h y (List.mem_cons_of_mem _ hy)
    exact ⟨c :: b, rfl, by simp; exact ⟨hc, hb⟩⟩
theorem reads_bytes {P : Program} {t e : TypeId} (ht : P.underlying t = some (.slice e)) (he : P.underlying e = some (.int .u8)) (hk : P.cellsOf e = 1) (hby : P.bytesOf e = 1) : Reads P t fun cl => ∃ b : Bytes, cl = [bytesA b] ∧ b.length ≤ reachBytes :=
  Reads.mono (reads_slice ht hk hby (by omega) (reads_byte he)) fun cl => by
    rintro ⟨l, rfl, hl, hn⟩
    obtain ⟨b, rfl⟩ := bytes_of hl
    exact ⟨b, rfl, by simpa using hn⟩
theorem law_lifted_nf {C : Checked} {os : Os} {k : FuncId} {f : Func} {s : ChangeSpec} {H : Type} {enc : TypeId × Value → H} {tb : TypeId}
    (own : ownKnob C.prog.godebug = none) (started : os.Started) (noInit : C.prog.inits.idxOf? k = none) (hfn : C.prog.funcs[k]? = some f)
    (witness : ∃ (w : World) (tape : Tape) (i : Input), w.os = os ∧ (w.forCall tape i).Shaped C.prog ∧ i.vars = [] ∧ Input.okWide C.prog (w.forCall tape i) .any w.heap.size k i ∧
      s.pre6 enc C.prog f [] false (w.forCall tape i).memory i.args ∧ Assume.holds {} C.prog (lone (Frame.enter C.prog k i.args .normal) [] (w.forCall tape i)))
    (hl : laidOutB C.prog = true) (hts : (f.params.toList.all fun t => C.prog.readableRec t && decide (t < C.prog.types.size)) = true)
    (hres : f.resultTypes = #[tb]) (hbool : C.prog.underlying tb = some .bool) (hvars : s.vars = [])
    (hspec : ∀ ds : List (DataW H), ds.length = f.params.toList.length → s.fn H ds = { results := [.lit (.bool true)], args := ds })
    (walk : ∀ (W : World) (base : Nat) (args : Array Value) (ds : List (DataW H)) (p : List MemPlace),
      (∀ (j : Nat) t v, f.params[j]? = some t → args[j]? = some v → Value.okWide C.prog W .any base t v) →
      (∀ (j : Nat) t d, f.params[j]? = some t → ds[j]? = some d → InReach C.prog t d) →
      DataW.TrodAll enc C.prog W 0 (fun _ => true) true f.params.toList args.toList ds p → (∀ x ∈ p, x.block < W.heap.size) → W.noneFrozen p →
      Calls C.prog k args W fun e W' => e = .returned (.bool true) ∧ Below W.heap.size W W') :
    ReturnsInHanded {} C os k .any (s.pre6 enc C.prog f [] false) (s.post enc C.prog f false true false false) := by
  refine returnsInHanded_of_change_sized (C := C) own started noInit hfn witness ?_
  intro W base args ds gs before hval hW _ hsz _
  have hW' := hW
  have hlt : ∀ x ∈ before, x.block < W.heap.size := fun x hx => by simpa using hW.lt x hx
  obtain ⟨p, q, hA, hV, rfl, hfz, hnd⟩ := hW
  rw [hvars] at hV
  obtain ⟨rfl, rfl⟩ := trodVars_none hV
  rw [List.append_nil] at hlt hfz
  have hlen := trodAll_length _ _ _ _ hA
  have hs := hspec ds hlen
  have hin : ∀ (j : Nat) t d, f.params[j]? = some t → ds[j]? = some d → InReach C.prog t d := fun j t d ht hd n hn => by
    have hj : j < f.params.toList.length := by
      have := (Array.getElem?_eq_some_iff.1 ht).1
      simpa using this
    have := List.all_eq_true.1 hsz n (DataW.weights_mem_each (j := j) (t := t) (d := d) (by rw [List.getElem?_append_left hj]; simpa using ht) (by rw [List.append_nil]; exact hd) n hn)
    simpa using this
  refine (walk W base args ds p hval hin hA hlt hfz).mono fun e W' ⟨he, hb⟩ => ⟨_, he, ds, [], p ++ [], [], p, [], hW', ?_, ?_, ?_, hb.frame _, fun h => by cases h⟩
  · simp only [Yd, hs, hres]
    exact trodAll_mk1 (shut_bool hbool true)
  · simp only [Yd, hs]
    exact trodAll_below hl hb _ _ _ _ hts hA hlt
  · rw [hvars]
    simp only [Yd, hs]
    exact (rfl : ([] : List MemPlace) = [])
end Go.Proofs.Ytkamcoechjdgpaa
