/-
  WireKinds, by its shadow.
-/
import Derived.Test.YtkamcoechjdgpaaKLawWireOnly
set_option maxRecDepth 20000
set_option maxHeartbeats 8000000
namespace Go.Proofs.Ytkamcoechjdgpaa
open Go.RowKit
theorem kinds_lo (k f n : Int) (hk : I64 k) (h : k < 1) : ASpec Try.prog 8 [.int .i64 k, .int .i64 f, .int .i64 n] (.bool true) := by
  have hz : I64 0 := zI
  have a0 : AskL (kL k 0 0 0) := kL_ask hk hz hz hz
  have e0 := enc27_no _ a0 (fun g => by have := g.1.1; simp only [kL] at this; omega)
  have z0 := kL_le k 0 0 0
  have ab := arg_bel (kL k 0 0 0) 0
  generalize letC (kL k 0 0 0) = cs at *
  refine ⟨⟨_, Try.func8, by kernel_rfl, rfl⟩, ACall.of Try.func8 rfl fun c0 hc0 => ?_⟩; simp only [Try.ntmps8, Ya, Y9, Nat.reduceAdd, Nat.reduceSub, Ym, Yn, Y5, Y3]; refine Run.god tab_ok follows_ok Try.func8 60 ?_; simp only [drun, aops, aone, aop, needs, ext, aev, aconst, aput, aupd, abuild, tab_3, tab_83, ok1, lay, AV.cells, AV.whole, Y4, Yb, Yc, Y6, Y7, Ya, Y9, Y1, Y2, Yi, Yh, Yj, Yf, Ye, Y5, Y3, Yt, Yu, Yr, Nat.reduceAdd, Nat.reduceLeDiff, Yp, Y0, Y8]
  refine Ops.pure .free rfl rfl e0 (LeL.cons (Le.agg z0) LeL.nil) ab rfl ?_
  refine Ops.god tab_ok follows_ok Try.func8 60 ?_; simp only [h, decide_true, ↓alt_t, ↓alts_t, ↓gone_ft, gslot, drun, aops, aone, aop, needs, ext, aev, aconst, aput, aupd, acmp, ashift, abin, tab_3, ok1, Y4, Yb, Yc, Y6, Y7, Y1, Y2, Yw, Y3, Yt, Ys, Yr, Y0, Y8]
  ((repeat' apply And.intro) <;> try first | rfl | omega | (unfold I64; omega))
  refine Ops.pure .free rfl rfl (alive27_spec) (by simp only [Ye, Yd]; (repeat' first | exact .refl _ | apply LeR.tup | apply Le.agg | constructor)) rfl rfl ?_
  refine Ops.god tab_ok follows_ok Try.func8 60 ?_; simp only [Try.results8, decide_true, ↓alts_t, ↓gone_tt, gslot, drun, aops, aone, afin, ares, aresL, ares1, aresOk, aresOk1, aop, needs, ext, aev, aconst, aput, aupd, acmp, ashift, abin, tab_34, ok1, Y4, Yb, Yc, Y6, Y7, Y1, Y2, Yw, Y3, Yt, Yu, Ys, Yr, Y0, Y8]
  ((repeat' apply And.intro) <;> try first | rfl | omega | (unfold I64; omega))
  all_goals (repeat' first | exact .refl _ | apply LeR.tup | apply Le.agg | constructor)
theorem kinds_hi (k f n : Int) (hk : I64 k) (h0 : ¬ k < 1) (h : 10 < k) : ASpec Try.prog 8 [.int .i64 k, .int .i64 f, .int .i64 n] (.bool true) := by
  have hz : I64 0 := zI
  have a0 : AskL (kL k 0 0 0) := kL_ask hk hz hz hz
  have e0 := enc27_no _ a0 (fun g => by have := g.1.2; simp only [kL] at this; omega)
  have z0 := kL_le k 0 0 0
  have ab := arg_bel (kL k 0 0 0) 0
  generalize letC (kL k 0 0 0) = cs at *
  refine ⟨⟨_, Try.func8, by kernel_rfl, rfl⟩, ACall.of Try.func8 rfl fun c0 hc0 => ?_⟩; simp only [Try.ntmps8, Ya, Y9, Nat.reduceAdd, Nat.reduceSub, Ym, Yn, Y5, Y3]; refine Run.god tab_ok follows_ok Try.func8 60 ?_; simp only [drun, aops, aone, aop, needs, ext, aev, aconst, aput, aupd, abuild, tab_3, tab_83, ok1, lay, AV.cells, AV.whole, Y4, Yb, Yc, Y6, Y7, Ya, Y9, Y1, Y2, Yi, Yh, Yj, Yf, Ye, Y5, Y3, Yt, Yu, Yr, Nat.reduceAdd, Nat.reduceLeDiff, Yp, Y0, Y8]
  refine Ops.pure .free rfl rfl e0 (LeL.cons (Le.agg z0) LeL.nil) ab rfl ?_
  refine Ops.god tab_ok follows_ok Try.func8 60 ?_; simp only [h0, h, decide_true, decide_false, ↓alt_t, ↓alts_t, ↓alts_f, ↓gone_ft, ↓gone_ff, gslot, drun, aops, aone, aop, needs, ext, aev, aconst, aput, aupd, acmp, ashift, abin, tab_3, ok1, Y4, Yb, Yc, Y6, Y7, Y1, Y2, Yw, Y3, Yt, Ys, Yr, Y0, Y8]
  ((repeat' apply And.intro) <;> try first | rfl | omega | (unfold I64; omega))
  refine Ops.pure .free rfl rfl (alive27_spec) (by simp only [Ye, Yd]; (repeat' first | exact .refl _ | apply LeR.tup | apply Le.agg | constructor)) rfl rfl ?_
  refine Ops.god tab_ok follows_ok Try.func8 60 ?_; simp only [Try.results8, decide_true, ↓alts_t, ↓gone_tt, gslot, drun, aops, aone, afin, ares, aresL, ares1, aresOk, aresOk1, aop, needs, ext, aev, aconst, aput, aupd, acmp, ashift, abin, tab_34, ok1, Y4, Yb, Yc, Y6, Y7, Y1, Y2, Yw, Y3, Yt, Yu, Ys, Yr, Y0, Y8]
  ((repeat' apply And.intro) <;> try first | rfl | omega | (unfold I64; omega))
  all_goals (repeat' first | exact .refl _ | apply LeR.tup | apply Le.agg | constructor)
theorem kinds_ei (f n : Int) : ASpec Try.prog 8 [.int .i64 8, .int .i64 f, .int .i64 n] (.bool true) := by
  have hz : I64 0 := zI
  have a0 : AskL (kL 8 0 0 0) := kL_ask (i64_lit _ (by omega)) hz hz hz
  have e0 := enc27_no _ a0 (fun g => by have e : mayO zO = true := g.kind8 rfl; exact absurd e (by decide))
  have z0 := kL_le 8 0 0 0
  have ab := arg_bel (kL 8 0 0 0) 0
  generalize letC (kL 8 0 0 0) = cs at *
  refine ⟨⟨_, Try.func8, by kernel_rfl, rfl⟩, ACall.of Try.func8 rfl fun c0 hc0 => ?_⟩; simp only [Try.ntmps8, Ya, Y9, Nat.reduceAdd, Nat.reduceSub, Ym, Yn, Y5, Y3]; refine Run.god tab_ok follows_ok Try.func8 60 ?_; simp only [drun, aops, aone, aop, needs, ext, aev, aconst, aput, aupd, abuild, tab_3, tab_83, ok1, lay, AV.cells, AV.whole, Y4, Yb, Yc, Y6, Y7, Ya, Y9, Y1, Y2, Yi, Yh, Yj, Yf, Ye, Y5, Y3, Yt, Yu, Yr, Nat.reduceAdd, Nat.reduceLeDiff, Yp, Y0, Y8]
  refine Ops.pure .free rfl rfl e0 (LeL.cons (Le.agg z0) LeL.nil) ab rfl ?_
  refine Ops.god tab_ok follows_ok Try.func8 60 ?_; simp only [↓alt_t, ↓alts_f, ↓gone_ff, gslot, Int.reduceLT, drun, aops, aone, aop, needs, ext, aev, aconst, aput, aupd, acmp, ashift, abin, tab_3, ok1, Y4, Yb, Yc, Y6, Y7, Y1, Y2, Yw, Y3, Yt, Ys, Yr, decide_true, decide_false, Y0, Y8]
  ((repeat' apply And.intro) <;> try first | rfl | omega | (unfold I64; omega))
  refine Ops.pure .free rfl rfl (alive27_spec) (by simp only [Ye, Yd]; (repeat' first | exact .refl _ | apply LeR.tup | apply Le.agg | constructor)) rfl rfl ?_
  refine Ops.god tab_ok follows_ok Try.func8 60 ?_; simp only [Try.results8, ↓alts_t, ↓gone_tt, gslot, drun, aops, aone, afin, ares, aresL, ares1, aresOk, aresOk1, aop, needs, ext, aev, aconst, aput, aupd, acmp, ashift, abin, tab_34, ok1, Y4, Yb, Yc, Y6, Y7, Y1, Y2, Yw, Y3, Yt, Yu, Ys, Yr, decide_true, Y0, Y8]
  ((repeat' apply And.intro) <;> try first | rfl | omega | (unfold I64; omega))
  all_goals (repeat' first | exact .refl _ | apply LeR.tup | apply Le.agg | constructor)
theorem kinds_1 (f n : Int) (hf : I64 f) (hn : I64 n) : ASpec Try.prog 8 [.int .i64 1, .int .i64 f, .int .i64 n] (.bool true) := by
  have hk : I64 1 := i64_lit _ (by omega)
  have g0 : Good (kL 1 0 0 0) := ⟨⟨by show (1 : Int) ≤ 1; decide, by show (1 : Int) ≤ 10; decide⟩, (useL_1 _ rfl).trans rfl, kL_sl (by decide) zI zI zI⟩
  have g : Good (kL 1 f n n) := ⟨⟨by show (1 : Int) ≤ 1; decide, by show (1 : Int) ≤ 10; decide⟩, (useL_1 _ rfl).trans rfl, kL_sl (by decide) hf hn hn⟩
  have a0 : AskL (kL 1 0 0 0) := kL_ask hk zI zI zI
  have a1 : AskL (kL 1 f n n) := kL_ask hk hf hn hn
  have e0 := enc27_ok _ a0 g0
  have e1 := enc27_ok _ a1 g
  have tk := of_decide_eq_true g.may
  have d := dec27_ok (wrL (kL 1 f n n)) (by have := wrL_le (a1.good g) g.1; omega) (by rw [tk]; exact a1) (by rw [tk])
  rw [tk] at d
  have s := g.same
  have z0 := kL_le 1 0 0 0
  have z1 := kL_le 1 f n n
  have ab := arg_bel (kL 1 0 0 0) 0
  have ab1 := arg_bel (kL 1 f n n) 0
  have ab2 := arg2_bel (kL 1 f n n) (kL 1 f n n) 0
  have rb := tup_bel (kL 1 f n n) (.int .i64 0) rfl
  have xfull := let_full (kL 1 f n n) rfl
  have xlen := let_len (kL 1 f n n) rfl
  have y0 : (letC (kL 1 f n n)).take 1 = [.int .i64 1] := let_0 (kL 1 f n n)
  have y1 : ((letC (kL 1 f n n)).drop 1).take 1 = [.int .i64 f] := let_1 (kL 1 f n n)
  have y2 : ((letC (kL 1 f n n)).drop 2).take 1 = [.int .i64 n] := let_2 (kL 1 f n n)
  have y3 : ((letC (kL 1 f n n)).drop 3).take 1 = [.int .i64 n] := let_3 (kL 1 f n n)
  simp only at d
  generalize letC (kL 1 f n n) = cl at *
  generalize letC (kL 1 0 0 0) = cs at *
  refine ⟨⟨_, Try.func8, by kernel_rfl, rfl⟩, ACall.of Try.func8 rfl fun c0 hc0 => ?_⟩; simp only [Try.ntmps8, Ya, Y9, Nat.reduceAdd, Nat.reduceSub, Ym, Yn, Y5, Y3]; refine Run.god tab_ok follows_ok Try.func8 60 ?_; simp only [drun, aops, aone, aop, needs, ext, aev, aconst, aput, aupd, abuild, tab_3, tab_83, ok1, lay, AV.cells, AV.whole, Y4, Yb, Yc, Y6, Y7, Ya, Y9, Y1, Y2, Yi, Yh, Yj, Yf, Ye, Y5, Y3, Yt, Yu, Yr, Nat.reduceAdd, Nat.reduceLeDiff, Yp, Y0, Y8]
  refine Ops.pure .free rfl rfl e0 (LeL.cons (Le.agg (by first | exact z0 | exact z1)) LeL.nil) (by first | exact ab | exact ab1) rfl ?_
  refine Ops.god tab_ok follows_ok Try.func8 60 ?_; simp only [bytesA, ↓alt_t, ↓alt_f, ↓alts_t, ↓alts_f, ↓gone_tt, ↓gone_ft, ↓gone_ff, gslot, Int.reduceEq, Int.reduceLT, drun, aops, aone, aop, needs, ext, aev, aconst, aput, aupd, aload, astore, afieldAddr, acmp, ashift, abin, abuild, tab_3, tab_83, ok1, lay, cellsAs, TI.agg, AV.cells, AV.whole, Y4, Yb, Yc, Y6, Y7, Ya, Y9, Y1, Y2, Yw, Yi, Yh, Yg, Yj, Yk, Yl, Yf, Ye, Y5, Y3, Yd, Yt, Yu, Ys, Yr, Nat.reduceAdd, Nat.reduceLeDiff, Yp, Bool.not_false, decide_true, decide_false, Yv, Y0, Y8]
  ((repeat' apply And.intro) <;> try first | rfl | omega | (unfold I64; omega))
  refine Ops.pure .free rfl rfl e1 (LeL.cons (Le.agg z1) LeL.nil) ab1 rfl ?_
  refine Ops.god tab_ok follows_ok Try.func8 60 ?_; simp only [drun, aops, aone, aop, needs, ext, aev, aput, aupd, ok1, Y4, Yc, Y6, Y7, Y1, Y2, Y5, Y3, Yt, Yr, Yp, Y0, Y8]
  ((repeat' apply And.intro) <;> try first | rfl | omega | (unfold I64; omega))
  refine Ops.pure .free rfl rfl d (by simp only [bytesA, aev, Y4, Y1, Y2, Yf, Ye, Y3, Yd, Y0]; (repeat' first | exact .refl _ | apply LeR.tup | apply Le.agg | constructor)) rfl rb ?_
  refine Ops.god tab_ok follows_ok Try.func8 60 ?_; simp only [xlen, drun, aops, aone, aop, needs, ext, aev, aput, aupd, astore, tab_83, ok1, lay, AV.cells, AV.whole, Y4, Yb, Yc, Y6, Y7, Ya, Y9, Y1, Y2, Yh, Yj, Yl, Y5, Y3, Yd, Yt, Yu, Ys, Yr, Nat.reduceAdd, Yp, Yv, Y0, Y8]
  ((repeat' apply And.intro) <;> try first | rfl | omega | (unfold I64; omega))
  refine Ops.pure .free rfl rfl (alive27_spec) (by simp only [Ye, Yd]; (repeat' first | exact .refl _ | apply LeR.tup | apply Le.agg | constructor)) rfl rfl ?_
  refine Ops.god tab_ok follows_ok Try.func8 60 ?_; simp only [xfull, xlen, y0, y1, y2, y3, ↓alts_t, ↓gone_tt, gslot, aops, aone, aop, needs, ext, aev, aconst, aput, aupd, aload, afieldAddr, acmp, ashift, abin, tab_3, tab_34, tab_83, ok1, cellsAs, TI.agg, Y4, Yb, Yc, Y6, Y7, Ya, Y9, Y1, Y2, Yw, Yi, Yh, Yg, Yj, Yk, Y5, Y3, Yt, Ys, Yr, Nat.reduceAdd, Nat.reduceLeDiff, Yp, Yq, decide_true, Yv, Y0, Y8]
  ((repeat' apply And.intro) <;> try first | rfl | omega | (unfold I64; omega))
  refine Ops.pure (Wanted.test 40 true true rfl) rfl rfl s (LeL.cons (Le.agg z1) (LeL.cons (Le.refl _) LeL.nil)) ab2 rfl ?_
  refine Ops.god tab_ok follows_ok Try.func8 60 ?_; simp only [Try.results8, drun, aops, aone, afin, ares, aresL, ares1, aresOk, aresOk1, aop, needs, ext, aev, aput, aupd, ok1, Y4, Yb, Yc, Y6, Y7, Y1, Y2, Y5, Y3, Yt, Yu, Yr, Y0, Y8]
  ((repeat' apply And.intro) <;> try first | rfl | omega | (unfold I64; omega))
  all_goals (repeat' first | exact .refl _ | apply LeR.tup | apply Le.agg | constructor)
theorem kinds_2 (f n : Int) (hf : I64 f) (hn : I64 n) : ASpec Try.prog 8 [.int .i64 2, .int .i64 f, .int .i64 n] (.bool true) := by
  have hk : I64 2 := i64_lit _ (by omega)
  have g0 : Good (kL 2 0 0 0) := ⟨⟨by show (1 : Int) ≤ 2; decide, by show (2 : Int) ≤ 10; decide⟩, (useL_2 _ rfl).trans rfl, kL_sl (by decide) zI zI zI⟩
  have g : Good (kL 2 0 n 0) := ⟨⟨by show (1 : Int) ≤ 2; decide, by show (2 : Int) ≤ 10; decide⟩, (useL_2 _ rfl).trans rfl, kL_sl (by decide) zI hn zI⟩
  have a0 : AskL (kL 2 0 0 0) := kL_ask hk zI zI zI
  have a1 : AskL (kL 2 0 n 0) := kL_ask hk zI hn zI
  have e0 := enc27_ok _ a0 g0
  have e1 := enc27_ok _ a1 g
  have tk := of_decide_eq_true g.may
  have d := dec27_ok (wrL (kL 2 0 n 0)) (by have := wrL_le (a1.good g) g.1; omega) (by rw [tk]; exact a1) (by rw [tk])
  rw [tk] at d
  have s := g.same
  have z0 := kL_le 2 0 0 0
  have z1 := kL_le 2 0 n 0
  have ab := arg_bel (kL 2 0 0 0) 0
  have ab1 := arg_bel (kL 2 0 n 0) 0
  have ab2 := arg2_bel (kL 2 0 n 0) (kL 2 0 n 0) 0
  have rb := tup_bel (kL 2 0 n 0) (.int .i64 0) rfl
  have xfull := let_full (kL 2 0 n 0) rfl
  have xlen := let_len (kL 2 0 n 0) rfl
  have y0 : (letC (kL 2 0 n 0)).take 1 = [.int .i64 2] := let_0 (kL 2 0 n 0)
  have y1 : ((letC (kL 2 0 n 0)).drop 1).take 1 = [.int .i64 0] := let_1 (kL 2 0 n 0)
  have y2 : ((letC (kL 2 0 n 0)).drop 2).take 1 = [.int .i64 n] := let_2 (kL 2 0 n 0)
  have y3 : ((letC (kL 2 0 n 0)).drop 3).take 1 = [.int .i64 0] := let_3 (kL 2 0 n 0)
  simp only at d
  generalize letC (kL 2 0 n 0) = cl at *
  generalize letC (kL 2 0 0 0) = cs at *
  refine ⟨⟨_, Try.func8, by kernel_rfl, rfl⟩, ACall.of Try.func8 rfl fun c0 hc0 => ?_⟩; simp only [Try.ntmps8, Ya, Y9, Nat.reduceAdd, Nat.reduceSub, Ym, Yn, Y5, Y3]; refine Run.god tab_ok follows_ok Try.func8 60 ?_; simp only [drun, aops, aone, aop, needs, ext, aev, aconst, aput, aupd, abuild, tab_3, tab_83, ok1, lay, AV.cells, AV.whole, Y4, Yb, Yc, Y6, Y7, Ya, Y9, Y1, Y2, Yi, Yh, Yj, Yf, Ye, Y5, Y3, Yt, Yu, Yr, Nat.reduceAdd, Nat.reduceLeDiff, Yp, Y0, Y8]
  refine Ops.pure .free rfl rfl e0 (LeL.cons (Le.agg (by first | exact z0 | exact z1)) LeL.nil) (by first | exact ab | exact ab1) rfl ?_
  refine Ops.god tab_ok follows_ok Try.func8 60 ?_; simp only [bytesA, ↓alt_t, ↓alt_f, ↓alts_t, ↓alts_f, ↓gone_tt, ↓gone_tf, ↓gone_ff, gslot, Int.reduceEq, Int.reduceLT, drun, aops, aone, aop, needs, ext, aev, aconst, aput, aupd, aload, astore, afieldAddr, acmp, ashift, abin, abuild, tab_3, tab_83, ok1, lay, cellsAs, TI.agg, AV.cells, AV.whole, Y4, Yb, Yc, Y6, Y7, Ya, Y9, Y1, Y2, Yw, Yi, Yh, Yg, Yj, Yk, Yl, Yf, Ye, Y5, Y3, Yd, Yt, Yu, Ys, Yr, Nat.reduceAdd, Nat.reduceLeDiff, Yp, Bool.not_true, Bool.not_false, decide_true, decide_false, Yv, Y0, Y8]
  ((repeat' apply And.intro) <;> try first | rfl | omega | (unfold I64; omega))
  refine Ops.pure .free rfl rfl e1 (LeL.cons (Le.agg z1) LeL.nil) ab1 rfl ?_
  refine Ops.god tab_ok follows_ok Try.func8 60 ?_; simp only [drun, aops, aone, aop, needs, ext, aev, aput, aupd, ok1, Y4, Yc, Y6, Y7, Y1, Y2, Y5, Y3, Yt, Yr, Yp, Y0, Y8]
  ((repeat' apply And.intro) <;> try first | rfl | omega | (unfold I64; omega))
  refine Ops.pure .free rfl rfl d (by simp only [bytesA, aev, Y4, Y1, Y2, Yf, Ye, Y3, Yd, Y0]; (repeat' first | exact .refl _ | apply LeR.tup | apply Le.agg | constructor)) rfl rb ?_
  refine Ops.god tab_ok follows_ok Try.func8 60 ?_; simp only [xlen, drun, aops, aone, aop, needs, ext, aev, aput, aupd, astore, tab_83, ok1, lay, AV.cells, AV.whole, Y4, Yb, Yc, Y6, Y7, Ya, Y9, Y1, Y2, Yh, Yj, Yl, Y5, Y3, Yd, Yt, Yu, Ys, Yr, Nat.reduceAdd, Yp, Yv, Y0, Y8]
  ((repeat' apply And.intro) <;> try first | rfl | omega | (unfold I64; omega))
  refine Ops.pure .free rfl rfl (alive27_spec) (by simp only [Ye, Yd]; (repeat' first | exact .refl _ | apply LeR.tup | apply Le.agg | constructor)) rfl rfl ?_
  refine Ops.god tab_ok follows_ok Try.func8 60 ?_; simp only [xfull, xlen, y0, y1, y2, y3, ↓alts_t, ↓gone_tt, gslot, aops, aone, aop, needs, ext, aev, aconst, aput, aupd, aload, afieldAddr, acmp, ashift, abin, tab_3, tab_34, tab_83, ok1, cellsAs, TI.agg, Y4, Yb, Yc, Y6, Y7, Ya, Y9, Y1, Y2, Yw, Yi, Yh, Yg, Yj, Yk, Y5, Y3, Yt, Ys, Yr, Nat.reduceAdd, Nat.reduceLeDiff, Yp, Yq, decide_true, Yv, Y0, Y8]
  ((repeat' apply And.intro) <;> try first | rfl | omega | (unfold I64; omega))
  refine Ops.pure (Wanted.test 40 true true rfl) rfl rfl s (LeL.cons (Le.agg z1) (LeL.cons (Le.refl _) LeL.nil)) ab2 rfl ?_
  refine Ops.god tab_ok follows_ok Try.func8 60 ?_; simp only [Try.results8, drun, aops, aone, afin, ares, aresL, ares1, aresOk, aresOk1, aop, needs, ext, aev, aput, aupd, ok1, Y4, Yb, Yc, Y6, Y7, Y1, Y2, Y5, Y3, Yt, Yu, Yr, Y0, Y8]
  ((repeat' apply And.intro) <;> try first | rfl | omega | (unfold I64; omega))
  all_goals (repeat' first | exact .refl _ | apply LeR.tup | apply Le.agg | constructor)
theorem kinds_3 (f n : Int) (hf : I64 f) (hn : I64 n) : ASpec Try.prog 8 [.int .i64 3, .int .i64 f, .int .i64 n] (.bool true) := by
  have hk : I64 3 := i64_lit _ (by omega)
  have g0 : Good (kL 3 0 0 0) := ⟨⟨by show (1 : Int) ≤ 3; decide, by show (3 : Int) ≤ 10; decide⟩, (useL_3 _ rfl).trans rfl, kL_sl (by decide) zI zI zI⟩
  have g : Good (kL 3 f n 0) := ⟨⟨by show (1 : Int) ≤ 3; decide, by show (3 : Int) ≤ 10; decide⟩, (useL_3 _ rfl).trans rfl, kL_sl (by decide) hf hn zI⟩
  have a0 : AskL (kL 3 0 0 0) := kL_ask hk zI zI zI
  have a1 : AskL (kL 3 f n 0) := kL_ask hk hf hn zI
  have e0 := enc27_ok _ a0 g0
  have e1 := enc27_ok _ a1 g
  have tk := of_decide_eq_true g.may
  have d := dec27_ok (wrL (kL 3 f n 0)) (by have := wrL_le (a1.good g) g.1; omega) (by rw [tk]; exact a1) (by rw [tk])
  rw [tk] at d
  have s := g.same
  have z0 := kL_le 3 0 0 0
  have z1 := kL_le 3 f n 0
  have ab := arg_bel (kL 3 0 0 0) 0
  have ab1 := arg_bel (kL 3 f n 0) 0
  have ab2 := arg2_bel (kL 3 f n 0) (kL 3 f n 0) 0
  have rb := tup_bel (kL 3 f n 0) (.int .i64 0) rfl
  have xfull := let_full (kL 3 f n 0) rfl
  have xlen := let_len (kL 3 f n 0) rfl
  have y0 : (letC (kL 3 f n 0)).take 1 = [.int .i64 3] := let_0 (kL 3 f n 0)
  have y1 : ((letC (kL 3 f n 0)).drop 1).take 1 = [.int .i64 f] := let_1 (kL 3 f n 0)
  have y2 : ((letC (kL 3 f n 0)).drop 2).take 1 = [.int .i64 n] := let_2 (kL 3 f n 0)
  have y3 : ((letC (kL 3 f n 0)).drop 3).take 1 = [.int .i64 0] := let_3 (kL 3 f n 0)
  simp only at d
  generalize letC (kL 3 f n 0) = cl at *
  generalize letC (kL 3 0 0 0) = cs at *
  refine ⟨⟨_, Try.func8, by kernel_rfl, rfl⟩, ACall.of Try.func8 rfl fun c0 hc0 => ?_⟩; simp only [Try.ntmps8, Ya, Y9, Nat.reduceAdd, Nat.reduceSub, Ym, Yn, Y5, Y3]; refine Run.god tab_ok follows_ok Try.func8 60 ?_; simp only [drun, aops, aone, aop, needs, ext, aev, aconst, aput, aupd, abuild, tab_3, tab_83, ok1, lay, AV.cells, AV.whole, Y4, Yb, Yc, Y6, Y7, Ya, Y9, Y1, Y2, Yi, Yh, Yj, Yf, Ye, Y5, Y3, Yt, Yu, Yr, Nat.reduceAdd, Nat.reduceLeDiff, Yp, Y0, Y8]
  refine Ops.pure .free rfl rfl e0 (LeL.cons (Le.agg (by first | exact z0 | exact z1)) LeL.nil) (by first | exact ab | exact ab1) rfl ?_
  refine Ops.god tab_ok follows_ok Try.func8 60 ?_; simp only [bytesA, ↓alt_t, ↓alt_f, ↓alts_t, ↓alts_f, ↓gone_tt, ↓gone_ff, gslot, Int.reduceEq, Int.reduceLT, drun, aops, aone, aop, needs, ext, aev, aconst, aput, aupd, aload, astore, afieldAddr, acmp, ashift, abin, abuild, tab_3, tab_83, ok1, lay, cellsAs, TI.agg, AV.cells, AV.whole, Y4, Yb, Yc, Y6, Y7, Ya, Y9, Y1, Y2, Yw, Yi, Yh, Yg, Yj, Yk, Yl, Yf, Ye, Y5, Y3, Yd, Yt, Yu, Ys, Yr, Nat.reduceAdd, Nat.reduceLeDiff, Yp, Bool.not_false, decide_false, Yv, Y0, Y8]
  ((repeat' apply And.intro) <;> try first | rfl | omega | (unfold I64; omega))
  refine Ops.pure .free rfl rfl e1 (LeL.cons (Le.agg z1) LeL.nil) ab1 rfl ?_
  refine Ops.god tab_ok follows_ok Try.func8 60 ?_; simp only [drun, aops, aone, aop, needs, ext, aev, aput, aupd, ok1, Y4, Yc, Y6, Y7, Y1, Y2, Y5, Y3, Yt, Yr, Yp, Y0, Y8]
  ((repeat' apply And.intro) <;> try first | rfl | omega | (unfold I64; omega))
  refine Ops.pure .free rfl rfl d (by simp only [bytesA, aev, Y4, Y1, Y2, Yf, Ye, Y3, Yd, Y0]; (repeat' first | exact .refl _ | apply LeR.tup | apply Le.agg | constructor)) rfl rb ?_
  refine Ops.god tab_ok follows_ok Try.func8 60 ?_; simp only [xlen, drun, aops, aone, aop, needs, ext, aev, aput, aupd, astore, tab_83, ok1, lay, AV.cells, AV.whole, Y4, Yb, Yc, Y6, Y7, Ya, Y9, Y1, Y2, Yh, Yj, Yl, Y5, Y3, Yd, Yt, Yu, Ys, Yr, Nat.reduceAdd, Yp, Yv, Y0, Y8]
  ((repeat' apply And.intro) <;> try first | rfl | omega | (unfold I64; omega))
  refine Ops.pure .free rfl rfl (alive27_spec) (by simp only [Ye, Yd]; (repeat' first | exact .refl _ | apply LeR.tup | apply Le.agg | constructor)) rfl rfl ?_
  refine Ops.god tab_ok follows_ok Try.func8 60 ?_; simp only [xfull, xlen, y0, y1, y2, y3, ↓alts_t, ↓gone_tt, gslot, aops, aone, aop, needs, ext, aev, aconst, aput, aupd, aload, afieldAddr, acmp, ashift, abin, tab_3, tab_34, tab_83, ok1, cellsAs, TI.agg, Y4, Yb, Yc, Y6, Y7, Ya, Y9, Y1, Y2, Yw, Yi, Yh, Yg, Yj, Yk, Y5, Y3, Yt, Ys, Yr, Nat.reduceAdd, Nat.reduceLeDiff, Yp, Yq, decide_true, Yv, Y0, Y8]
  ((repeat' apply And.intro) <;> try first | rfl | omega | (unfold I64; omega))
  refine Ops.pure (Wanted.test 40 true true rfl) rfl rfl s (LeL.cons (Le.agg z1) (LeL.cons (Le.refl _) LeL.nil)) ab2 rfl ?_
  refine Ops.god tab_ok follows_ok Try.func8 60 ?_; simp only [Try.results8, drun, aops, aone, afin, ares, aresL, ares1, aresOk, aresOk1, aop, needs, ext, aev, aput, aupd, ok1, Y4, Yb, Yc, Y6, Y7, Y1, Y2, Y5, Y3, Yt, Yu, Yr, Y0, Y8]
  ((repeat' apply And.intro) <;> try first | rfl | omega | (unfold I64; omega))
  all_goals (repeat' first | exact .refl _ | apply LeR.tup | apply Le.agg | constructor)
theorem kinds_4 (f n : Int) (hf : I64 f) (hn : I64 n) : ASpec Try.prog 8 [.int .i64 4, .int .i64 f, .int .i64 n] (.bool true) := by
  have hk : I64 4 := i64_lit _ (by omega)
  have g0 : Good (kL 4 0 0 0) := ⟨⟨by show (1 : Int) ≤ 4; decide, by show (4 : Int) ≤ 10; decide⟩, (useL_4 _ rfl).trans rfl, kL_sl (by decide) zI zI zI⟩
  have g : Good (kL 4 0 n 0) := ⟨⟨by show (1 : Int) ≤ 4; decide, by show (4 : Int) ≤ 10; decide⟩, (useL_4 _ rfl).trans rfl, kL_sl (by decide) zI hn zI⟩
  have a0 : AskL (kL 4 0 0 0) := kL_ask hk zI zI zI
  have a1 : AskL (kL 4 0 n 0) := kL_ask hk zI hn zI
  have e0 := enc27_ok _ a0 g0
  have e1 := enc27_ok _ a1 g
  have tk := of_decide_eq_true g.may
  have d := dec27_ok (wrL (kL 4 0 n 0)) (by have := wrL_le (a1.good g) g.1; omega) (by rw [tk]; exact a1) (by rw [tk])
  rw [tk] at d
  have s := g.same
  have z0 := kL_le 4 0 0 0
  have z1 := kL_le 4 0 n 0
  have ab := arg_bel (kL 4 0 0 0) 0
  have ab1 := arg_bel (kL 4 0 n 0) 0
  have ab2 := arg2_bel (kL 4 0 n 0) (kL 4 0 n 0) 0
  have rb := tup_bel (kL 4 0 n 0) (.int .i64 0) rfl
  have xfull := let_full (kL 4 0 n 0) rfl
  have xlen := let_len (kL 4 0 n 0) rfl
  have y0 : (letC (kL 4 0 n 0)).take 1 = [.int .i64 4] := let_0 (kL 4 0 n 0)
  have y1 : ((letC (kL 4 0 n 0)).drop 1).take 1 = [.int .i64 0] := let_1 (kL 4 0 n 0)
  have y2 : ((letC (kL 4 0 n 0)).drop 2).take 1 = [.int .i64 n] := let_2 (kL 4 0 n 0)
  have y3 : ((letC (kL 4 0 n 0)).drop 3).take 1 = [.int .i64 0] := let_3 (kL 4 0 n 0)
  simp only at d
  generalize letC (kL 4 0 n 0) = cl at *
  generalize letC (kL 4 0 0 0) = cs at *
  refine ⟨⟨_, Try.func8, by kernel_rfl, rfl⟩, ACall.of Try.func8 rfl fun c0 hc0 => ?_⟩; simp only [Try.ntmps8, Ya, Y9, Nat.reduceAdd, Nat.reduceSub, Ym, Yn, Y5, Y3]; refine Run.god tab_ok follows_ok Try.func8 60 ?_; simp only [drun, aops, aone, aop, needs, ext, aev, aconst, aput, aupd, abuild, tab_3, tab_83, ok1, lay, AV.cells, AV.whole, Y4, Yb, Yc, Y6, Y7, Ya, Y9, Y1, Y2, Yi, Yh, Yj, Yf, Ye, Y5, Y3, Yt, Yu, Yr, Nat.reduceAdd, Nat.reduceLeDiff, Yp, Y0, Y8]
  refine Ops.pure .free rfl rfl e0 (LeL.cons (Le.agg (by first | exact z0 | exact z1)) LeL.nil) (by first | exact ab | exact ab1) rfl ?_
  refine Ops.god tab_ok follows_ok Try.func8 60 ?_; simp only [bytesA, ↓alt_t, ↓alt_f, ↓alts_t, ↓alts_f, ↓gone_tt, ↓gone_ff, gslot, Int.reduceEq, Int.reduceLT, drun, aops, aone, aop, needs, ext, aev, aconst, aput, aupd, aload, astore, afieldAddr, acmp, ashift, abin, abuild, tab_3, tab_83, ok1, lay, cellsAs, TI.agg, AV.cells, AV.whole, Y4, Yb, Yc, Y6, Y7, Ya, Y9, Y1, Y2, Yw, Yi, Yh, Yg, Yj, Yk, Yl, Yf, Ye, Y5, Y3, Yd, Yt, Yu, Ys, Yr, Nat.reduceAdd, Nat.reduceLeDiff, Yp, Bool.not_true, Bool.not_false, decide_true, decide_false, Yv, Y0, Y8]
  ((repeat' apply And.intro) <;> try first | rfl | omega | (unfold I64; omega))
  refine Ops.pure .free rfl rfl e1 (LeL.cons (Le.agg z1) LeL.nil) ab1 rfl ?_
  refine Ops.god tab_ok follows_ok Try.func8 60 ?_; simp only [drun, aops, aone, aop, needs, ext, aev, aput, aupd, ok1, Y4, Yc, Y6, Y7, Y1, Y2, Y5, Y3, Yt, Yr, Yp, Y0, Y8]
  ((repeat' apply And.intro) <;> try first | rfl | omega | (unfold I64; omega))
  refine Ops.pure .free rfl rfl d (by simp only [bytesA, aev, Y4, Y1, Y2, Yf, Ye, Y3, Yd, Y0]; (repeat' first | exact .refl _ | apply LeR.tup | apply Le.agg | constructor)) rfl rb ?_
  refine Ops.god tab_ok follows_ok Try.func8 60 ?_; simp only [xlen, drun, aops, aone, aop, needs, ext, aev, aput, aupd, astore, tab_83, ok1, lay, AV.cells, AV.whole, Y4, Yb, Yc, Y6, Y7, Ya, Y9, Y1, Y2, Yh, Yj, Yl, Y5, Y3, Yd, Yt, Yu, Ys, Yr, Nat.reduceAdd, Yp, Yv, Y0, Y8]
  ((repeat' apply And.intro) <;> try first | rfl | omega | (unfold I64; omega))
  refine Ops.pure .free rfl rfl (alive27_spec) (by simp only [Ye, Yd]; (repeat' first | exact .refl _ | apply LeR.tup | apply Le.agg | constructor)) rfl rfl ?_
  refine Ops.god tab_ok follows_ok Try.func8 60 ?_; simp only [xfull, xlen, y0, y1, y2, y3, ↓alts_t, ↓gone_tt, gslot, aops, aone, aop, needs, ext, aev, aconst, aput, aupd, aload, afieldAddr, acmp, ashift, abin, tab_3, tab_34, tab_83, ok1, cellsAs, TI.agg, Y4, Yb, Yc, Y6, Y7, Ya, Y9, Y1, Y2, Yw, Yi, Yh, Yg, Yj, Yk, Y5, Y3, Yt, Ys, Yr, Nat.reduceAdd, Nat.reduceLeDiff, Yp, Yq, decide_true, Yv, Y0, Y8]
  ((repeat' apply And.intro) <;> try first | rfl | omega | (unfold I64; omega))
  refine Ops.pure (Wanted.test 40 true true rfl) rfl rfl s (LeL.cons (Le.agg z1) (LeL.cons (Le.refl _) LeL.nil)) ab2 rfl ?_
  refine Ops.god tab_ok follows_ok Try.func8 60 ?_; simp only [Try.results8, drun, aops, aone, afin, ares, aresL, ares1, aresOk, aresOk1, aop, needs, ext, aev, aput, aupd, ok1, Y4, Yb, Yc, Y6, Y7, Y1, Y2, Y5, Y3, Yt, Yu, Yr, Y0, Y8]
  ((repeat' apply And.intro) <;> try first | rfl | omega | (unfold I64; omega))
  all_goals (repeat' first | exact .refl _ | apply LeR.tup | apply Le.agg | constructor)
theorem kinds_5 (f n : Int) (hf : I64 f) (hn : I64 n) : ASpec Try.prog 8 [.int .i64 5, .int .i64 f, .int .i64 n] (.bool true) := by
  have hk : I64 5 := i64_lit _ (by omega)
  have g0 : Good (kL 5 0 0 0) := ⟨⟨by show (1 : Int) ≤ 5; decide, by show (5 : Int) ≤ 10; decide⟩, (useL_5 _ rfl).trans rfl, kL_sl (by decide) zI zI zI⟩
  have g : Good (kL 5 f n 0) := ⟨⟨by show (1 : Int) ≤ 5; decide, by show (5 : Int) ≤ 10; decide⟩, (useL_5 _ rfl).trans rfl, kL_sl (by decide) hf hn zI⟩
  have a0 : AskL (kL 5 0 0 0) := kL_ask hk zI zI zI
  have a1 : AskL (kL 5 f n 0) := kL_ask hk hf hn zI
  have e0 := enc27_ok _ a0 g0
  have e1 := enc27_ok _ a1 g
  have tk := of_decide_eq_true g.may
  have d := dec27_ok (wrL (kL 5 f n 0)) (by have := wrL_le (a1.good g) g.1; omega) (by rw [tk]; exact a1) (by rw [tk])
  rw [tk] at d
  have s := g.same
  have z0 := kL_le 5 0 0 0
  have z1 := kL_le 5 f n 0
  have ab := arg_bel (kL 5 0 0 0) 0
  have ab1 := arg_bel (kL 5 f n 0) 0
  have ab2 := arg2_bel (kL 5 f n 0) (kL 5 f n 0) 0
  have rb := tup_bel (kL 5 f n 0) (.int .i64 0) rfl
  have xfull := let_full (kL 5 f n 0) rfl
  have xlen := let_len (kL 5 f n 0) rfl
  have y0 : (letC (kL 5 f n 0)).take 1 = [.int .i64 5] := let_0 (kL 5 f n 0)
  have y1 : ((letC (kL 5 f n 0)).drop 1).take 1 = [.int .i64 f] := let_1 (kL 5 f n 0)
  have y2 : ((letC (kL 5 f n 0)).drop 2).take 1 = [.int .i64 n] := let_2 (kL 5 f n 0)
  have y3 : ((letC (kL 5 f n 0)).drop 3).take 1 = [.int .i64 0] := let_3 (kL 5 f n 0)
  simp only at d
  generalize letC (kL 5 f n 0) = cl at *
  generalize letC (kL 5 0 0 0) = cs at *
  refine ⟨⟨_, Try.func8, by kernel_rfl, rfl⟩, ACall.of Try.func8 rfl fun c0 hc0 => ?_⟩; simp only [Try.ntmps8, Ya, Y9, Nat.reduceAdd, Nat.reduceSub, Ym, Yn, Y5, Y3]; refine Run.god tab_ok follows_ok Try.func8 60 ?_; simp only [drun, aops, aone, aop, needs, ext, aev, aconst, aput, aupd, abuild, tab_3, tab_83, ok1, lay, AV.cells, AV.whole, Y4, Yb, Yc, Y6, Y7, Ya, Y9, Y1, Y2, Yi, Yh, Yj, Yf, Ye, Y5, Y3, Yt, Yu, Yr, Nat.reduceAdd, Nat.reduceLeDiff, Yp, Y0, Y8]
  refine Ops.pure .free rfl rfl e0 (LeL.cons (Le.agg (by first | exact z0 | exact z1)) LeL.nil) (by first | exact ab | exact ab1) rfl ?_
  refine Ops.god tab_ok follows_ok Try.func8 60 ?_; simp only [bytesA, ↓alt_t, ↓alt_f, ↓alts_t, ↓alts_f, ↓gone_tt, ↓gone_ff, gslot, Int.reduceEq, Int.reduceLT, drun, aops, aone, aop, needs, ext, aev, aconst, aput, aupd, aload, astore, afieldAddr, acmp, ashift, abin, abuild, tab_3, tab_83, ok1, lay, cellsAs, TI.agg, AV.cells, AV.whole, Y4, Yb, Yc, Y6, Y7, Ya, Y9, Y1, Y2, Yw, Yi, Yh, Yg, Yj, Yk, Yl, Yf, Ye, Y5, Y3, Yd, Yt, Yu, Ys, Yr, Nat.reduceAdd, Nat.reduceLeDiff, Yp, Bool.not_false, decide_false, Yv, Y0, Y8]
  ((repeat' apply And.intro) <;> try first | rfl | omega | (unfold I64; omega))
  refine Ops.pure .free rfl rfl e1 (LeL.cons (Le.agg z1) LeL.nil) ab1 rfl ?_
  refine Ops.god tab_ok follows_ok Try.func8 60 ?_; simp only [drun, aops, aone, aop, needs, ext, aev, aput, aupd, ok1, Y4, Yc, Y6, Y7, Y1, Y2, Y5, Y3, Yt, Yr, Yp, Y0, Y8]
  ((repeat' apply And.intro) <;> try first | rfl | omega | (unfold I64; omega))
  refine Ops.pure .free rfl rfl d (by simp only [bytesA, aev, Y4, Y1, Y2, Yf, Ye, Y3, Yd, Y0]; (repeat' first | exact .refl _ | apply LeR.tup | apply Le.agg | constructor)) rfl rb ?_
  refine Ops.god tab_ok follows_ok Try.func8 60 ?_; simp only [xlen, drun, aops, aone, aop, needs, ext, aev, aput, aupd, astore, tab_83, ok1, lay, AV.cells, AV.whole, Y4, Yb, Yc, Y6, Y7, Ya, Y9, Y1, Y2, Yh, Yj, Yl, Y5, Y3, Yd, Yt, Yu, Ys, Yr, Nat.reduceAdd, Yp, Yv, Y0, Y8]
  ((repeat' apply And.intro) <;> try first | rfl | omega | (unfold I64; omega))
  refine Ops.pure .free rfl rfl (alive27_spec) (by simp only [Ye, Yd]; (repeat' first | exact .refl _ | apply LeR.tup | apply Le.agg | constructor)) rfl rfl ?_
  refine Ops.god tab_ok follows_ok Try.func8 60 ?_; simp only [xfull, xlen, y0, y1, y2, y3, ↓alts_t, ↓gone_tt, gslot, aops, aone, aop, needs, ext, aev, aconst, aput, aupd, aload, afieldAddr, acmp, ashift, abin, tab_3, tab_34, tab_83, ok1, cellsAs, TI.agg, Y4, Yb, Yc, Y6, Y7, Ya, Y9, Y1, Y2, Yw, Yi, Yh, Yg, Yj, Yk, Y5, Y3, Yt, Ys, Yr, Nat.reduceAdd, Nat.reduceLeDiff, Yp, Yq, decide_true, Yv, Y0, Y8]
  ((repeat' apply And.intro) <;> try first | rfl | omega | (unfold I64; omega))
  refine Ops.pure (Wanted.test 40 true true rfl) rfl rfl s (LeL.cons (Le.agg z1) (LeL.cons (Le.refl _) LeL.nil)) ab2 rfl ?_
  refine Ops.god tab_ok follows_ok Try.func8 60 ?_; simp only [Try.results8, drun, aops, aone, afin, ares, aresL, ares1, aresOk, aresOk1, aop, needs, ext, aev, aput, aupd, ok1, Y4, Yb, Yc, Y6, Y7, Y1, Y2, Y5, Y3, Yt, Yu, Yr, Y0, Y8]
  ((repeat' apply And.intro) <;> try first | rfl | omega | (unfold I64; omega))
  all_goals (repeat' first | exact .refl _ | apply LeR.tup | apply Le.agg | constructor)
theorem kinds_6 (f n : Int) (hf : I64 f) (hn : I64 n) : ASpec Try.prog 8 [.int .i64 6, .int .i64 f, .int .i64 n] (.bool true) := by
  have hk : I64 6 := i64_lit _ (by omega)
  have g0 : Good (kL 6 0 0 0) := ⟨⟨by show (1 : Int) ≤ 6; decide, by show (6 : Int) ≤ 10; decide⟩, (useL_6 _ rfl).trans rfl, kL_sl (by decide) zI zI zI⟩
  have g : Good (kL 6 f 0 n) := ⟨⟨by show (1 : Int) ≤ 6; decide, by show (6 : Int) ≤ 10; decide⟩, (useL_6 _ rfl).trans rfl, kL_sl (by decide) hf zI hn⟩
  have a0 : AskL (kL 6 0 0 0) := kL_ask hk zI zI zI
  have a1 : AskL (kL 6 f 0 n) := kL_ask hk hf zI hn
  have e0 := enc27_ok _ a0 g0
  have e1 := enc27_ok _ a1 g
  have tk := of_decide_eq_true g.may
  have d := dec27_ok (wrL (kL 6 f 0 n)) (by have := wrL_le (a1.good g) g.1; omega) (by rw [tk]; exact a1) (by rw [tk])
  rw [tk] at d
  have s := g.same
  have z0 := kL_le 6 0 0 0
  have z1 := kL_le 6 f 0 n
  have ab := arg_bel (kL 6 0 0 0) 0
  have ab1 := arg_bel (kL 6 f 0 n) 0
  have ab2 := arg2_bel (kL 6 f 0 n) (kL 6 f 0 n) 0
  have rb := tup_bel (kL 6 f 0 n) (.int .i64 0) rfl
  have xfull := let_full (kL 6 f 0 n) rfl
  have xlen := let_len (kL 6 f 0 n) rfl
  have y0 : (letC (kL 6 f 0 n)).take 1 = [.int .i64 6] := let_0 (kL 6 f 0 n)
  have y1 : ((letC (kL 6 f 0 n)).drop 1).take 1 = [.int .i64 f] := let_1 (kL 6 f 0 n)
  have y2 : ((letC (kL 6 f 0 n)).drop 2).take 1 = [.int .i64 0] := let_2 (kL 6 f 0 n)
  have y3 : ((letC (kL 6 f 0 n)).drop 3).take 1 = [.int .i64 n] := let_3 (kL 6 f 0 n)
  simp only at d
  generalize letC (kL 6 f 0 n) = cl at *
  generalize letC (kL 6 0 0 0) = cs at *
  refine ⟨⟨_, Try.func8, by kernel_rfl, rfl⟩, ACall.of Try.func8 rfl fun c0 hc0 => ?_⟩; simp only [Try.ntmps8, Ya, Y9, Nat.reduceAdd, Nat.reduceSub, Ym, Yn, Y5, Y3]; refine Run.god tab_ok follows_ok Try.func8 60 ?_; simp only [drun, aops, aone, aop, needs, ext, aev, aconst, aput, aupd, abuild, tab_3, tab_83, ok1, lay, AV.cells, AV.whole, Y4, Yb, Yc, Y6, Y7, Ya, Y9, Y1, Y2, Yi, Yh, Yj, Yf, Ye, Y5, Y3, Yt, Yu, Yr, Nat.reduceAdd, Nat.reduceLeDiff, Yp, Y0, Y8]
  refine Ops.pure .free rfl rfl e0 (LeL.cons (Le.agg (by first | exact z0 | exact z1)) LeL.nil) (by first | exact ab | exact ab1) rfl ?_
  refine Ops.god tab_ok follows_ok Try.func8 60 ?_; simp only [bytesA, ↓alt_t, ↓alt_f, ↓alts_t, ↓alts_f, ↓gone_tt, ↓gone_tf, ↓gone_ff, gslot, Int.reduceEq, Int.reduceLT, drun, aops, aone, aop, needs, ext, aev, aconst, aput, aupd, aload, astore, afieldAddr, acmp, ashift, abin, abuild, tab_3, tab_83, ok1, lay, cellsAs, TI.agg, AV.cells, AV.whole, Y4, Yb, Yc, Y6, Y7, Ya, Y9, Y1, Y2, Yw, Yi, Yh, Yg, Yj, Yk, Yl, Yf, Ye, Y5, Y3, Yd, Yt, Yu, Ys, Yr, Nat.reduceAdd, Nat.reduceLeDiff, Yp, Bool.not_true, Bool.not_false, decide_true, decide_false, Yv, Y0, Y8]
  ((repeat' apply And.intro) <;> try first | rfl | omega | (unfold I64; omega))
  refine Ops.pure .free rfl rfl e1 (LeL.cons (Le.agg z1) LeL.nil) ab1 rfl ?_
  refine Ops.god tab_ok follows_ok Try.func8 60 ?_; simp only [drun, aops, aone, aop, needs, ext, aev, aput, aupd, ok1, Y4, Yc, Y6, Y7, Y1, Y2, Y5, Y3, Yt, Yr, Yp, Y0, Y8]
  ((repeat' apply And.intro) <;> try first | rfl | omega | (unfold I64; omega))
  refine Ops.pure .free rfl rfl d (by simp only [bytesA, aev, Y4, Y1, Y2, Yf, Ye, Y3, Yd, Y0]; (repeat' first | exact .refl _ | apply LeR.tup | apply Le.agg | constructor)) rfl rb ?_
  refine Ops.god tab_ok follows_ok Try.func8 60 ?_; simp only [xlen, drun, aops, aone, aop, needs, ext, aev, aput, aupd, astore, tab_83, ok1, lay, AV.cells, AV.whole, Y4, Yb, Yc, Y6, Y7, Ya, Y9, Y1, Y2, Yh, Yj, Yl, Y5, Y3, Yd, Yt, Yu, Ys, Yr, Nat.reduceAdd, Yp, Yv, Y0, Y8]
  ((repeat' apply And.intro) <;> try first | rfl | omega | (unfold I64; omega))
  refine Ops.pure .free rfl rfl (alive27_spec) (by simp only [Ye, Yd]; (repeat' first | exact .refl _ | apply LeR.tup | apply Le.agg | constructor)) rfl rfl ?_
  refine Ops.god tab_ok follows_ok Try.func8 60 ?_; simp only [xfull, xlen, y0, y1, y2, y3, ↓alts_t, ↓gone_tt, gslot, aops, aone, aop, needs, ext, aev, aconst, aput, aupd, aload, afieldAddr, acmp, ashift, abin, tab_3, tab_34, tab_83, ok1, cellsAs, TI.agg, Y4, Yb, Yc, Y6, Y7, Ya, Y9, Y1, Y2, Yw, Yi, Yh, Yg, Yj, Yk, Y5, Y3, Yt, Ys, Yr, Nat.reduceAdd, Nat.reduceLeDiff, Yp, Yq, decide_true, Yv, Y0, Y8]
  ((repeat' apply And.intro) <;> try first | rfl | omega | (unfold I64; omega))
  refine Ops.pure (Wanted.test 40 true true rfl) rfl rfl s (LeL.cons (Le.agg z1) (LeL.cons (Le.refl _) LeL.nil)) ab2 rfl ?_
  refine Ops.god tab_ok follows_ok Try.func8 60 ?_; simp only [Try.results8, drun, aops, aone, afin, ares, aresL, ares1, aresOk, aresOk1, aop, needs, ext, aev, aput, aupd, ok1, Y4, Yb, Yc, Y6, Y7, Y1, Y2, Y5, Y3, Yt, Yu, Yr, Y0, Y8]
  ((repeat' apply And.intro) <;> try first | rfl | omega | (unfold I64; omega))
  all_goals (repeat' first | exact .refl _ | apply LeR.tup | apply Le.agg | constructor)
theorem kinds_7 (f n : Int) (hf : I64 f) (hn : I64 n) : ASpec Try.prog 8 [.int .i64 7, .int .i64 f, .int .i64 n] (.bool true) := by
  have hk : I64 7 := i64_lit _ (by omega)
  have g0 : Good (kL 7 0 0 0) := ⟨⟨by show (1 : Int) ≤ 7; decide, by show (7 : Int) ≤ 10; decide⟩, (useL_7 _ rfl).trans rfl, kL_sl (by decide) zI zI zI⟩
  have g : Good (kL 7 f n 0) := ⟨⟨by show (1 : Int) ≤ 7; decide, by show (7 : Int) ≤ 10; decide⟩, (useL_7 _ rfl).trans rfl, kL_sl (by decide) hf hn zI⟩
  have a0 : AskL (kL 7 0 0 0) := kL_ask hk zI zI zI
  have a1 : AskL (kL 7 f n 0) := kL_ask hk hf hn zI
  have e0 := enc27_ok _ a0 g0
  have e1 := enc27_ok _ a1 g
  have tk := of_decide_eq_true g.may
  have d := dec27_ok (wrL (kL 7 f n 0)) (by have := wrL_le (a1.good g) g.1; omega) (by rw [tk]; exact a1) (by rw [tk])
  rw [tk] at d
  have s := g.same
  have z0 := kL_le 7 0 0 0
  have z1 := kL_le 7 f n 0
  have ab := arg_bel (kL 7 0 0 0) 0
  have ab1 := arg_bel (kL 7 f n 0) 0
  have ab2 := arg2_bel (kL 7 f n 0) (kL 7 f n 0) 0
  have rb := tup_bel (kL 7 f n 0) (.int .i64 0) rfl
  have xfull := let_full (kL 7 f n 0) rfl
  have xlen := let_len (kL 7 f n 0) rfl
  have y0 : (letC (kL 7 f n 0)).take 1 = [.int .i64 7] := let_0 (kL 7 f n 0)
  have y1 : ((letC (kL 7 f n 0)).drop 1).take 1 = [.int .i64 f] := let_1 (kL 7 f n 0)
  have y2 : ((letC (kL 7 f n 0)).drop 2).take 1 = [.int .i64 n] := let_2 (kL 7 f n 0)
  have y3 : ((letC (kL 7 f n 0)).drop 3).take 1 = [.int .i64 0] := let_3 (kL 7 f n 0)
  simp only at d
  generalize letC (kL 7 f n 0) = cl at *
  generalize letC (kL 7 0 0 0) = cs at *
  refine ⟨⟨_, Try.func8, by kernel_rfl, rfl⟩, ACall.of Try.func8 rfl fun c0 hc0 => ?_⟩; simp only [Try.ntmps8, Ya, Y9, Nat.reduceAdd, Nat.reduceSub, Ym, Yn, Y5, Y3]; refine Run.god tab_ok follows_ok Try.func8 60 ?_; simp only [drun, aops, aone, aop, needs, ext, aev, aconst, aput, aupd, abuild, tab_3, tab_83, ok1, lay, AV.cells, AV.whole, Y4, Yb, Yc, Y6, Y7, Ya, Y9, Y1, Y2, Yi, Yh, Yj, Yf, Ye, Y5, Y3, Yt, Yu, Yr, Nat.reduceAdd, Nat.reduceLeDiff, Yp, Y0, Y8]
  refine Ops.pure .free rfl rfl e0 (LeL.cons (Le.agg (by first | exact z0 | exact z1)) LeL.nil) (by first | exact ab | exact ab1) rfl ?_
  refine Ops.god tab_ok follows_ok Try.func8 60 ?_; simp only [bytesA, ↓alt_t, ↓alt_f, ↓alts_t, ↓alts_f, ↓gone_tt, ↓gone_ff, gslot, Int.reduceEq, Int.reduceLT, drun, aops, aone, aop, needs, ext, aev, aconst, aput, aupd, aload, astore, afieldAddr, acmp, ashift, abin, abuild, tab_3, tab_83, ok1, lay, cellsAs, TI.agg, AV.cells, AV.whole, Y4, Yb, Yc, Y6, Y7, Ya, Y9, Y1, Y2, Yw, Yi, Yh, Yg, Yj, Yk, Yl, Yf, Ye, Y5, Y3, Yd, Yt, Yu, Ys, Yr, Nat.reduceAdd, Nat.reduceLeDiff, Yp, Bool.not_false, decide_false, Yv, Y0, Y8]
  ((repeat' apply And.intro) <;> try first | rfl | omega | (unfold I64; omega))
  refine Ops.pure .free rfl rfl e1 (LeL.cons (Le.agg z1) LeL.nil) ab1 rfl ?_
  refine Ops.god tab_ok follows_ok Try.func8 60 ?_; simp only [drun, aops, aone, aop, needs, ext, aev, aput, aupd, ok1, Y4, Yc, Y6, Y7, Y1, Y2, Y5, Y3, Yt, Yr, Yp, Y0, Y8]
  ((repeat' apply And.intro) <;> try first | rfl | omega | (unfold I64; omega))
  refine Ops.pure .free rfl rfl d (by simp only [bytesA, aev, Y4, Y1, Y2, Yf, Ye, Y3, Yd, Y0]; (repeat' first | exact .refl _ | apply LeR.tup | apply Le.agg | constructor)) rfl rb ?_
  refine Ops.god tab_ok follows_ok Try.func8 60 ?_; simp only [xlen, drun, aops, aone, aop, needs, ext, aev, aput, aupd, astore, tab_83, ok1, lay, AV.cells, AV.whole, Y4, Yb, Yc, Y6, Y7, Ya, Y9, Y1, Y2, Yh, Yj, Yl, Y5, Y3, Yd, Yt, Yu, Ys, Yr, Nat.reduceAdd, Yp, Yv, Y0, Y8]
  ((repeat' apply And.intro) <;> try first | rfl | omega | (unfold I64; omega))
  refine Ops.pure .free rfl rfl (alive27_spec) (by simp only [Ye, Yd]; (repeat' first | exact .refl _ | apply LeR.tup | apply Le.agg | constructor)) rfl rfl ?_
  refine Ops.god tab_ok follows_ok Try.func8 60 ?_; simp only [xfull, xlen, y0, y1, y2, y3, ↓alts_t, ↓gone_tt, gslot, aops, aone, aop, needs, ext, aev, aconst, aput, aupd, aload, afieldAddr, acmp, ashift, abin, tab_3, tab_34, tab_83, ok1, cellsAs, TI.agg, Y4, Yb, Yc, Y6, Y7, Ya, Y9, Y1, Y2, Yw, Yi, Yh, Yg, Yj, Yk, Y5, Y3, Yt, Ys, Yr, Nat.reduceAdd, Nat.reduceLeDiff, Yp, Yq, decide_true, Yv, Y0, Y8]
  ((repeat' apply And.intro) <;> try first | rfl | omega | (unfold I64; omega))
  refine Ops.pure (Wanted.test 40 true true rfl) rfl rfl s (LeL.cons (Le.agg z1) (LeL.cons (Le.refl _) LeL.nil)) ab2 rfl ?_
  refine Ops.god tab_ok follows_ok Try.func8 60 ?_; simp only [Try.results8, drun, aops, aone, afin, ares, aresL, ares1, aresOk, aresOk1, aop, needs, ext, aev, aput, aupd, ok1, Y4, Yb, Yc, Y6, Y7, Y1, Y2, Y5, Y3, Yt, Yu, Yr, Y0, Y8]
  ((repeat' apply And.intro) <;> try first | rfl | omega | (unfold I64; omega))
  all_goals (repeat' first | exact .refl _ | apply LeR.tup | apply Le.agg | constructor)
theorem kinds_9 (f n : Int) (hf : I64 f) (hn : I64 n) : ASpec Try.prog 8 [.int .i64 9, .int .i64 f, .int .i64 n] (.bool true) := by
  have hk : I64 9 := i64_lit _ (by omega)
  have g0 : Good (kL 9 0 0 0) := ⟨⟨by show (1 : Int) ≤ 9; decide, by show (9 : Int) ≤ 10; decide⟩, (useL_9 _ rfl).trans rfl, kL_sl (by decide) zI zI zI⟩
  have g : Good (kL 9 f 0 0) := ⟨⟨by show (1 : Int) ≤ 9; decide, by show (9 : Int) ≤ 10; decide⟩, (useL_9 _ rfl).trans rfl, kL_sl (by decide) hf zI zI⟩
  have a0 : AskL (kL 9 0 0 0) := kL_ask hk zI zI zI
  have a1 : AskL (kL 9 f 0 0) := kL_ask hk hf zI zI
  have e0 := enc27_ok _ a0 g0
  have e1 := enc27_ok _ a1 g
  have tk := of_decide_eq_true g.may
  have d := dec27_ok (wrL (kL 9 f 0 0)) (by have := wrL_le (a1.good g) g.1; omega) (by rw [tk]; exact a1) (by rw [tk])
  rw [tk] at d
  have s := g.same
  have z0 := kL_le 9 0 0 0
  have z1 := kL_le 9 f 0 0
  have ab := arg_bel (kL 9 0 0 0) 0
  have ab1 := arg_bel (kL 9 f 0 0) 0
  have ab2 := arg2_bel (kL 9 f 0 0) (kL 9 f 0 0) 0
  have rb := tup_bel (kL 9 f 0 0) (.int .i64 0) rfl
  have xfull := let_full (kL 9 f 0 0) rfl
  have xlen := let_len (kL 9 f 0 0) rfl
  have y0 : (letC (kL 9 f 0 0)).take 1 = [.int .i64 9] := let_0 (kL 9 f 0 0)
  have y1 : ((letC (kL 9 f 0 0)).drop 1).take 1 = [.int .i64 f] := let_1 (kL 9 f 0 0)
  have y2 : ((letC (kL 9 f 0 0)).drop 2).take 1 = [.int .i64 0] := let_2 (kL 9 f 0 0)
  have y3 : ((letC (kL 9 f 0 0)).drop 3).take 1 = [.int .i64 0] := let_3 (kL 9 f 0 0)
  simp only at d
  generalize letC (kL 9 f 0 0) = cl at *
  generalize letC (kL 9 0 0 0) = cs at *
  refine ⟨⟨_, Try.func8, by kernel_rfl, rfl⟩, ACall.of Try.func8 rfl fun c0 hc0 => ?_⟩; simp only [Try.ntmps8, Ya, Y9, Nat.reduceAdd, Nat.reduceSub, Ym, Yn, Y5, Y3]; refine Run.god tab_ok follows_ok Try.func8 60 ?_; simp only [drun, aops, aone, aop, needs, ext, aev, aconst, aput, aupd, abuild, tab_3, tab_83, ok1, lay, AV.cells, AV.whole, Y4, Yb, Yc, Y6, Y7, Ya, Y9, Y1, Y2, Yi, Yh, Yj, Yf, Ye, Y5, Y3, Yt, Yu, Yr, Nat.reduceAdd, Nat.reduceLeDiff, Yp, Y0, Y8]
  refine Ops.pure .free rfl rfl e0 (LeL.cons (Le.agg (by first | exact z0 | exact z1)) LeL.nil) (by first | exact ab | exact ab1) rfl ?_
  refine Ops.god tab_ok follows_ok Try.func8 60 ?_; simp only [bytesA, ↓alt_t, ↓alt_f, ↓alts_t, ↓alts_f, ↓gone_tt, ↓gone_ff, gslot, Int.reduceEq, Int.reduceLT, drun, aops, aone, aop, needs, ext, aev, aconst, aput, aupd, aload, astore, afieldAddr, acmp, ashift, abin, abuild, tab_3, tab_83, ok1, lay, cellsAs, TI.agg, AV.cells, AV.whole, Y4, Yb, Yc, Y6, Y7, Ya, Y9, Y1, Y2, Yw, Yi, Yh, Yg, Yj, Yk, Yl, Yf, Ye, Y5, Y3, Yd, Yt, Yu, Ys, Yr, Nat.reduceAdd, Nat.reduceLeDiff, Yp, Bool.not_true, Bool.not_false, decide_true, decide_false, Yv, Y0, Y8]
  ((repeat' apply And.intro) <;> try first | rfl | omega | (unfold I64; omega))
  refine Ops.pure .free rfl rfl e1 (LeL.cons (Le.agg z1) LeL.nil) ab1 rfl ?_
  refine Ops.god tab_ok follows_ok Try.func8 60 ?_; simp only [drun, aops, aone, aop, needs, ext, aev, aput, aupd, ok1, Y4, Yc, Y6, Y7, Y1, Y2, Y5, Y3, Yt, Yr, Yp, Y0, Y8]
  ((repeat' apply And.intro) <;> try first | rfl | omega | (unfold I64; omega))
  refine Ops.pure .free rfl rfl d (by simp only [bytesA, aev, Y4, Y1, Y2, Yf, Ye, Y3, Yd, Y0]; (repeat' first | exact .refl _ | apply LeR.tup | apply Le.agg | constructor)) rfl rb ?_
  refine Ops.god tab_ok follows_ok Try.func8 60 ?_; simp only [xlen, drun, aops, aone, aop, needs, ext, aev, aput, aupd, astore, tab_83, ok1, lay, AV.cells, AV.whole, Y4, Yb, Yc, Y6, Y7, Ya, Y9, Y1, Y2, Yh, Yj, Yl, Y5, Y3, Yd, Yt, Yu, Ys, Yr, Nat.reduceAdd, Yp, Yv, Y0, Y8]
  ((repeat' apply And.intro) <;> try first | rfl | omega | (unfold I64; omega))
  refine Ops.pure .free rfl rfl (alive27_spec) (by simp only [Ye, Yd]; (repeat' first | exact .refl _ | apply LeR.tup | apply Le.agg | constructor)) rfl rfl ?_
  refine Ops.god tab_ok follows_ok Try.func8 60 ?_; simp only [xfull, xlen, y0, y1, y2, y3, ↓alts_t, ↓gone_tt, gslot, aops, aone, aop, needs, ext, aev, aconst, aput, aupd, aload, afieldAddr, acmp, ashift, abin, tab_3, tab_34, tab_83, ok1, cellsAs, TI.agg, Y4, Yb, Yc, Y6, Y7, Ya, Y9, Y1, Y2, Yw, Yi, Yh, Yg, Yj, Yk, Y5, Y3, Yt, Ys, Yr, Nat.reduceAdd, Nat.reduceLeDiff, Yp, Yq, decide_true, Yv, Y0, Y8]
  ((repeat' apply And.intro) <;> try first | rfl | omega | (unfold I64; omega))
  refine Ops.pure (Wanted.test 40 true true rfl) rfl rfl s (LeL.cons (Le.agg z1) (LeL.cons (Le.refl _) LeL.nil)) ab2 rfl ?_
  refine Ops.god tab_ok follows_ok Try.func8 60 ?_; simp only [Try.results8, drun, aops, aone, afin, ares, aresL, ares1, aresOk, aresOk1, aop, needs, ext, aev, aput, aupd, ok1, Y4, Yb, Yc, Y6, Y7, Y1, Y2, Y5, Y3, Yt, Yu, Yr, Y0, Y8]
  ((repeat' apply And.intro) <;> try first | rfl | omega | (unfold I64; omega))
  all_goals (repeat' first | exact .refl _ | apply LeR.tup | apply Le.agg | constructor)
theorem kinds_10 (f n : Int) (hf : I64 f) (hn : I64 n) : ASpec Try.prog 8 [.int .i64 10, .int .i64 f, .int .i64 n] (.bool true) := by
  have hk : I64 10 := i64_lit _ (by omega)
  have g0 : Good (kL 10 0 0 0) := ⟨⟨by show (1 : Int) ≤ 10; decide, by show (10 : Int) ≤ 10; decide⟩, (useL_10 _ rfl).trans rfl, kL_sl (by decide) zI zI zI⟩
  have g : Good (kL 10 f n 0) := ⟨⟨by show (1 : Int) ≤ 10; decide, by show (10 : Int) ≤ 10; decide⟩, (useL_10 _ rfl).trans rfl, kL_sl (by decide) hf hn zI⟩
  have a0 : AskL (kL 10 0 0 0) := kL_ask hk zI zI zI
  have a1 : AskL (kL 10 f n 0) := kL_ask hk hf hn zI
  have e0 := enc27_ok _ a0 g0
  have e1 := enc27_ok _ a1 g
  have tk := of_decide_eq_true g.may
  have d := dec27_ok (wrL (kL 10 f n 0)) (by have := wrL_le (a1.good g) g.1; omega) (by rw [tk]; exact a1) (by rw [tk])
  rw [tk] at d
  have s := g.same
  have z0 := kL_le 10 0 0 0
  have z1 := kL_le 10 f n 0
  have ab := arg_bel (kL 10 0 0 0) 0
  have ab1 := arg_bel (kL 10 f n 0) 0
  have ab2 := arg2_bel (kL 10 f n 0) (kL 10 f n 0) 0
  have rb := tup_bel (kL 10 f n 0) (.int .i64 0) rfl
  have xfull := let_full (kL 10 f n 0) rfl
  have xlen := let_len (kL 10 f n 0) rfl
  have y0 : (letC (kL 10 f n 0)).take 1 = [.int .i64 10] := let_0 (kL 10 f n 0)
  have y1 : ((letC (kL 10 f n 0)).drop 1).take 1 = [.int .i64 f] := let_1 (kL 10 f n 0)
  have y2 : ((letC (kL 10 f n 0)).drop 2).take 1 = [.int .i64 n] := let_2 (kL 10 f n 0)
  have y3 : ((letC (kL 10 f n 0)).drop 3).take 1 = [.int .i64 0] := let_3 (kL 10 f n 0)
  simp only at d
  generalize letC (kL 10 f n 0) = cl at *
  generalize letC (kL 10 0 0 0) = cs at *
  refine ⟨⟨_, Try.func8, by kernel_rfl, rfl⟩, ACall.of Try.func8 rfl fun c0 hc0 => ?_⟩; simp only [Try.ntmps8, Ya, Y9, Nat.reduceAdd, Nat.reduceSub, Ym, Yn, Y5, Y3]; refine Run.god tab_ok follows_ok Try.func8 60 ?_; simp only [drun, aops, aone, aop, needs, ext, aev, aconst, aput, aupd, abuild, tab_3, tab_83, ok1, lay, AV.cells, AV.whole, Y4, Yb, Yc, Y6, Y7, Ya, Y9, Y1, Y2, Yi, Yh, Yj, Yf, Ye, Y5, Y3, Yt, Yu, Yr, Nat.reduceAdd, Nat.reduceLeDiff, Yp, Y0, Y8]
  refine Ops.pure .free rfl rfl e0 (LeL.cons (Le.agg (by first | exact z0 | exact z1)) LeL.nil) (by first | exact ab | exact ab1) rfl ?_
  refine Ops.god tab_ok follows_ok Try.func8 60 ?_; simp only [bytesA, ↓alt_t, ↓alt_f, ↓alts_t, ↓alts_f, ↓gone_tt, ↓gone_ff, gslot, Int.reduceEq, Int.reduceLT, drun, aops, aone, aop, needs, ext, aev, aconst, aput, aupd, aload, astore, afieldAddr, acmp, ashift, abin, abuild, tab_3, tab_83, ok1, lay, cellsAs, TI.agg, AV.cells, AV.whole, Y4, Yb, Yc, Y6, Y7, Ya, Y9, Y1, Y2, Yw, Yi, Yh, Yg, Yj, Yk, Yl, Yf, Ye, Y5, Y3, Yd, Yt, Yu, Ys, Yr, Nat.reduceAdd, Nat.reduceLeDiff, Yp, Bool.not_false, decide_false, Yv, Y0, Y8]
  ((repeat' apply And.intro) <;> try first | rfl | omega | (unfold I64; omega))
  refine Ops.pure .free rfl rfl e1 (LeL.cons (Le.agg z1) LeL.nil) ab1 rfl ?_
  refine Ops.god tab_ok follows_ok Try.func8 60 ?_; simp only [drun, aops, aone, aop, needs, ext, aev, aput, aupd, ok1, Y4, Yc, Y6, Y7, Y1, Y2, Y5, Y3, Yt, Yr, Yp, Y0, Y8]
  ((repeat' apply And.intro) <;> try first | rfl | omega | (unfold I64; omega))
  refine Ops.pure .free rfl rfl d (by simp only [bytesA, aev, Y4, Y1, Y2, Yf, Ye, Y3, Yd, Y0]; (repeat' first | exact .refl _ | apply LeR.tup | apply Le.agg | constructor)) rfl rb ?_
  refine Ops.god tab_ok follows_ok Try.func8 60 ?_; simp only [xlen, drun, aops, aone, aop, needs, ext, aev, aput, aupd, astore, tab_83, ok1, lay, AV.cells, AV.whole, Y4, Yb, Yc, Y6, Y7, Ya, Y9, Y1, Y2, Yh, Yj, Yl, Y5, Y3, Yd, Yt, Yu, Ys, Yr, Nat.reduceAdd, Yp, Yv, Y0, Y8]
  ((repeat' apply And.intro) <;> try first | rfl | omega | (unfold I64; omega))
  refine Ops.pure .free rfl rfl (alive27_spec) (by simp only [Ye, Yd]; (repeat' first | exact .refl _ | apply LeR.tup | apply Le.agg | constructor)) rfl rfl ?_
  refine Ops.god tab_ok follows_ok Try.func8 60 ?_; simp only [xfull, xlen, y0, y1, y2, y3, ↓alts_t, ↓gone_tt, gslot, aops, aone, aop, needs, ext, aev, aconst, aput, aupd, aload, afieldAddr, acmp, ashift, abin, tab_3, tab_34, tab_83, ok1, cellsAs, TI.agg, Y4, Yb, Yc, Y6, Y7, Ya, Y9, Y1, Y2, Yw, Yi, Yh, Yg, Yj, Yk, Y5, Y3, Yt, Ys, Yr, Nat.reduceAdd, Nat.reduceLeDiff, Yp, Yq, decide_true, Yv, Y0, Y8]
  ((repeat' apply And.intro) <;> try first | rfl | omega | (unfold I64; omega))
  refine Ops.pure (Wanted.test 40 true true rfl) rfl rfl s (LeL.cons (Le.agg z1) (LeL.cons (Le.refl _) LeL.nil)) ab2 rfl ?_
  refine Ops.god tab_ok follows_ok Try.func8 60 ?_; simp only [Try.results8, drun, aops, aone, afin, ares, aresL, ares1, aresOk, aresOk1, aop, needs, ext, aev, aput, aupd, ok1, Y4, Yb, Yc, Y6, Y7, Y1, Y2, Y5, Y3, Yt, Yu, Yr, Y0, Y8]
  ((repeat' apply And.intro) <;> try first | rfl | omega | (unfold I64; omega))
  all_goals (repeat' first | exact .refl _ | apply LeR.tup | apply Le.agg | constructor)
theorem kinds27_spec (k f n : Int) (hk : I64 k) (hf : I64 f) (hn : I64 n) : ASpec Try.prog 8 [.int .i64 k, .int .i64 f, .int .i64 n] (.bool true) := by
  by_cases h1 : k < 1
  · exact kinds_lo k f n hk h1
  by_cases h2 : 10 < k
  · exact kinds_hi k f n hk h1 h2
  by_cases h8 : k = 8
  · subst h8; exact kinds_ei f n
  rcases (by omega : k = 1 ∨ k = 2 ∨ k = 3 ∨ k = 4 ∨ k = 5 ∨ k = 6 ∨ k = 7 ∨ k = 9 ∨ k = 10) with rfl | rfl | rfl | rfl | rfl | rfl | rfl | rfl | rfl
  · exact kinds_1 f n hf hn
  · exact kinds_2 f n hf hn
  · exact kinds_3 f n hf hn
  · exact kinds_4 f n hf hn
  · exact kinds_5 f n hf hn
  · exact kinds_6 f n hf hn
  · exact kinds_7 f n hf hn
  · exact kinds_9 f n hf hn
  · exact kinds_10 f n hf hn
end Go.Proofs.Ytkamcoechjdgpaa
