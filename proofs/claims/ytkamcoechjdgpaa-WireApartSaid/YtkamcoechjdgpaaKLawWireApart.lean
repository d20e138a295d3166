/-
  WireApart, by its shadow.
-/
import Derived.Test.YtkamcoechjdgpaaMi
set_option maxRecDepth 20000
set_option maxHeartbeats 8000000
namespace Go.Proofs.Ytkamcoechjdgpaa
open Go.RowKit
theorem apart_a (l m : Ltr) (hl : WideL l) (hm : WideL m) (h1 : fewL l = false) : ASpec Try.prog 7 [.agg (letC l), .agg (letC m)] (.bool true) := by
  have f1 := few27_spec l hl
  rw [h1] at f1
  have lfull := let_full l hl.sum
  have llen := let_len l hl.sum
  have mfull := let_full m hm.sum
  have mlen := let_len m hm.sum
  have la := arg_bel l 0
  have ma := arg_bel m 0
  have lm := arg2_bel l m 0
  generalize letC l = cl at *
  generalize letC m = cm at *
  refine ⟨⟨_, Try.func7, by kernel_rfl, rfl⟩, ACall.of Try.func7 rfl fun c0 hc0 => ?_⟩; simp only [Try.ntmps7, Ya, Y9, Nat.reduceAdd, Nat.reduceSub, Ym, Yn, Y5, Y3]; refine Run.god tab_ok follows_ok Try.func7 60 ?_; simp only [lfull, llen, drun, aops, aone, aop, needs, ext, aev, aconst, aput, aupd, aload, tab_83, ok1, cellsAs, TI.agg, AV.cells, AV.whole, Y4, Yb, Yc, Y6, Y7, Ya, Y9, Y1, Y2, Yi, Y5, Y3, Yt, Ys, Yr, Yp, Yv, Y0, Y8]
  refine Ops.pure .free rfl rfl (f1) (by simp only [aev, Y4, Y1, Y2, Yf, Ye, Y3, Yd, Y0]; (repeat' first | exact .refl _ | apply LeR.tup | apply Le.agg | constructor)) la rfl ?_
  refine Ops.god tab_ok follows_ok Try.func7 60 ?_; simp only [↓alt_t, ↓alts_t, ↓gone_ft, gslot, drun, aops, aone, aop, needs, ext, aev, aconst, aput, aupd, ok1, Y4, Yb, Y6, Y7, Y1, Y2, Yw, Y5, Y3, Yt, Yr, Bool.not_false, Y0, Y8]
  ((repeat' apply And.intro) <;> try first | rfl | omega | (unfold I64; omega))
  refine Ops.pure .free rfl rfl (alive27_spec) (by simp only [Ye, Yd]; (repeat' first | exact .refl _ | apply LeR.tup | apply Le.agg | constructor)) rfl rfl ?_
  refine Ops.god tab_ok follows_ok Try.func7 60 ?_; simp only [Try.results7, drun, aops, aone, afin, ares, aresL, ares1, aresOk, aresOk1, aop, needs, ext, aev, aput, aupd, ok1, Y4, Yb, Yc, Y6, Y7, Y1, Y2, Y5, Y3, Yt, Yu, Yr, Y0, Y8]
  ((repeat' apply And.intro) <;> try first | rfl | omega | (unfold I64; omega))
  all_goals (repeat' first | exact .refl _ | apply LeR.tup | apply Le.agg | constructor)
theorem apart_b (l m : Ltr) (hl : WideL l) (hm : WideL m) (h1 : fewL l = true) (h2 : fewL m = false) : ASpec Try.prog 7 [.agg (letC l), .agg (letC m)] (.bool true) := by
  have f1 := few27_spec l hl
  have f2 := few27_spec m hm
  rw [h1] at f1
  rw [h2] at f2
  have lfull := let_full l hl.sum
  have llen := let_len l hl.sum
  have mfull := let_full m hm.sum
  have mlen := let_len m hm.sum
  have la := arg_bel l 0
  have ma := arg_bel m 0
  have lm := arg2_bel l m 0
  generalize letC l = cl at *
  generalize letC m = cm at *
  refine ⟨⟨_, Try.func7, by kernel_rfl, rfl⟩, ACall.of Try.func7 rfl fun c0 hc0 => ?_⟩; simp only [Try.ntmps7, Ya, Y9, Nat.reduceAdd, Nat.reduceSub, Ym, Yn, Y5, Y3]; refine Run.god tab_ok follows_ok Try.func7 60 ?_; simp only [lfull, llen, drun, aops, aone, aop, needs, ext, aev, aconst, aput, aupd, aload, tab_83, ok1, cellsAs, TI.agg, AV.cells, AV.whole, Y4, Yb, Yc, Y6, Y7, Ya, Y9, Y1, Y2, Yi, Y5, Y3, Yt, Ys, Yr, Yp, Yv, Y0, Y8]
  refine Ops.pure .free rfl rfl (f1) (by simp only [aev, Y4, Y1, Y2, Yf, Ye, Y3, Yd, Y0]; (repeat' first | exact .refl _ | apply LeR.tup | apply Le.agg | constructor)) la rfl ?_
  refine Ops.god tab_ok follows_ok Try.func7 60 ?_; simp only [mfull, mlen, ↓alts_f, ↓gone_ff, gslot, aops, aone, aop, needs, ext, aev, aput, aupd, aload, tab_83, ok1, cellsAs, TI.agg, Y4, Yb, Yc, Y6, Y7, Y1, Y2, Yw, Yi, Y5, Y3, Yt, Ys, Yr, Nat.reduceAdd, Yp, Bool.not_true, Yv, Y0, Y8]
  ((repeat' apply And.intro) <;> try first | rfl | omega | (unfold I64; omega))
  refine Ops.pure (Wanted.test 3 false false rfl) rfl rfl (f2) (by simp only [aev, Y4, Y1, Y2, Yf, Ye, Y3, Yd, Y0]; (repeat' first | exact .refl _ | apply LeR.tup | apply Le.agg | constructor)) ma rfl ?_
  refine Ops.god tab_ok follows_ok Try.func7 60 ?_; simp only [↓alt_t, ↓alts_f, ↓gone_ff, gslot, drun, aops, aone, aop, needs, ext, aev, aput, aupd, ok1, Y4, Yb, Y6, Y7, Y1, Y2, Yw, Y5, Y3, Yt, Yr, Bool.not_false, Y0, Y8]
  ((repeat' apply And.intro) <;> try first | rfl | omega | (unfold I64; omega))
  refine Ops.pure .free rfl rfl (alive27_spec) (by simp only [Ye, Yd]; (repeat' first | exact .refl _ | apply LeR.tup | apply Le.agg | constructor)) rfl rfl ?_
  refine Ops.god tab_ok follows_ok Try.func7 60 ?_; simp only [Try.results7, drun, aops, aone, afin, ares, aresL, ares1, aresOk, aresOk1, aop, needs, ext, aev, aput, aupd, ok1, Y4, Yb, Yc, Y6, Y7, Y1, Y2, Y5, Y3, Yt, Yu, Yr, Y0, Y8]
  ((repeat' apply And.intro) <;> try first | rfl | omega | (unfold I64; omega))
  all_goals (repeat' first | exact .refl _ | apply LeR.tup | apply Le.agg | constructor)
theorem apart_c (l m : Ltr) (hl : WideL l) (hm : WideL m) (h1 : fewL l = true) (h2 : fewL m = true) (g1 : ¬ Good l) (g2 : ¬ Good m) : ASpec Try.prog 7 [.agg (letC l), .agg (letC m)] (.bool true) := by
  have f1 := few27_spec l hl
  have f2 := few27_spec m hm
  rw [h1] at f1
  rw [h2] at f2
  have al := AskL.of_few hl h1
  have am := AskL.of_few hm h2
  have e1 := enc27_no l al g1
  have e2 := enc27_no m am g2
  have lfull := let_full l hl.sum
  have llen := let_len l hl.sum
  have mfull := let_full m hm.sum
  have mlen := let_len m hm.sum
  have la := arg_bel l 0
  have ma := arg_bel m 0
  have lm := arg2_bel l m 0
  generalize letC l = cl at *
  generalize letC m = cm at *
  refine ⟨⟨_, Try.func7, by kernel_rfl, rfl⟩, ACall.of Try.func7 rfl fun c0 hc0 => ?_⟩; simp only [Try.ntmps7, Ya, Y9, Nat.reduceAdd, Nat.reduceSub, Ym, Yn, Y5, Y3]; refine Run.god tab_ok follows_ok Try.func7 60 ?_; simp only [lfull, llen, drun, aops, aone, aop, needs, ext, aev, aconst, aput, aupd, aload, tab_83, ok1, cellsAs, TI.agg, AV.cells, AV.whole, Y4, Yb, Yc, Y6, Y7, Ya, Y9, Y1, Y2, Yi, Y5, Y3, Yt, Ys, Yr, Yp, Yv, Y0, Y8]
  refine Ops.pure .free rfl rfl (f1) (by simp only [aev, Y4, Y1, Y2, Yf, Ye, Y3, Yd, Y0]; (repeat' first | exact .refl _ | apply LeR.tup | apply Le.agg | constructor)) la rfl ?_
  refine Ops.god tab_ok follows_ok Try.func7 60 ?_; simp only [mfull, mlen, ↓alts_f, ↓gone_ff, gslot, aops, aone, aop, needs, ext, aev, aput, aupd, aload, tab_83, ok1, cellsAs, TI.agg, Y4, Yb, Yc, Y6, Y7, Y1, Y2, Yw, Yi, Y5, Y3, Yt, Ys, Yr, Nat.reduceAdd, Yp, Bool.not_true, Yv, Y0, Y8]
  ((repeat' apply And.intro) <;> try first | rfl | omega | (unfold I64; omega))
  refine Ops.pure (Wanted.test 3 false false rfl) rfl rfl (f2) (by simp only [aev, Y4, Y1, Y2, Yf, Ye, Y3, Yd, Y0]; (repeat' first | exact .refl _ | apply LeR.tup | apply Le.agg | constructor)) ma rfl ?_
  refine Ops.god tab_ok follows_ok Try.func7 60 ?_; simp only [lfull, llen, ↓alt_f, ↓alts_f, ↓gone_ff, gslot, drun, aops, aone, aop, needs, ext, aev, aput, aupd, aload, tab_83, ok1, cellsAs, TI.agg, Y4, Yb, Yc, Y6, Y7, Y1, Y2, Yw, Yi, Y5, Y3, Yt, Ys, Yr, Yp, Bool.not_true, Yv, Y0, Y8]
  ((repeat' apply And.intro) <;> try first | rfl | omega | (unfold I64; omega))
  refine Ops.pure .free rfl rfl (e1) (by simp only [aev, Y4, Y1, Y2, Yf, Ye, Y3, Yd, Y0]; (repeat' first | exact .refl _ | apply LeR.tup | apply Le.agg | constructor)) la rfl ?_
  refine Ops.god tab_ok follows_ok Try.func7 60 ?_; simp only [mfull, mlen, drun, aops, aone, aop, needs, ext, aev, aput, aupd, aload, tab_83, ok1, cellsAs, TI.agg, Y4, Yb, Yc, Y6, Y7, Y1, Y2, Yi, Y5, Y3, Yt, Ys, Yr, Yp, Yv, Y0, Y8]
  ((repeat' apply And.intro) <;> try first | rfl | omega | (unfold I64; omega))
  refine Ops.pure .free rfl rfl (e2) (by simp only [aev, Y4, Y1, Y2, Yf, Ye, Y3, Yd, Y0]; (repeat' first | exact .refl _ | apply LeR.tup | apply Le.agg | constructor)) ma rfl ?_
  refine Ops.god tab_ok follows_ok Try.func7 60 ?_; simp only [↓alt_t, ↓alts_t, ↓gone_ft, gslot, Int.reduceEq, drun, aops, aone, aop, needs, ext, aev, aconst, aput, aupd, acmp, ashift, abin, tab_34, ok1, Y4, Yb, Yc, Y6, Y7, Y1, Y2, Yw, Y5, Y3, Yt, Ys, Yr, Bool.not_false, decide_false, Y0, Y8]
  ((repeat' apply And.intro) <;> try first | rfl | omega | (unfold I64; omega))
  refine Ops.pure .free rfl rfl (alive27_spec) (by simp only [Ye, Yd]; (repeat' first | exact .refl _ | apply LeR.tup | apply Le.agg | constructor)) rfl rfl ?_
  refine Ops.god tab_ok follows_ok Try.func7 60 ?_; simp only [Try.results7, drun, aops, aone, afin, ares, aresL, ares1, aresOk, aresOk1, aop, needs, ext, aev, aput, aupd, ok1, Y4, Yb, Yc, Y6, Y7, Y1, Y2, Y5, Y3, Yt, Yu, Yr, Y0, Y8]
  ((repeat' apply And.intro) <;> try first | rfl | omega | (unfold I64; omega))
  all_goals (repeat' first | exact .refl _ | apply LeR.tup | apply Le.agg | constructor)
theorem apart_d (l m : Ltr) (hl : WideL l) (hm : WideL m) (h1 : fewL l = true) (h2 : fewL m = true) (g1 : ¬ Good l) (g2 : Good m) : ASpec Try.prog 7 [.agg (letC l), .agg (letC m)] (.bool true) := by
  have f1 := few27_spec l hl
  have f2 := few27_spec m hm
  rw [h1] at f1
  rw [h2] at f2
  have al := AskL.of_few hl h1
  have am := AskL.of_few hm h2
  have e1 := enc27_no l al g1
  have e2 := enc27_ok m am g2
  have lfull := let_full l hl.sum
  have llen := let_len l hl.sum
  have mfull := let_full m hm.sum
  have mlen := let_len m hm.sum
  have la := arg_bel l 0
  have ma := arg_bel m 0
  have lm := arg2_bel l m 0
  generalize letC l = cl at *
  generalize letC m = cm at *
  refine ⟨⟨_, Try.func7, by kernel_rfl, rfl⟩, ACall.of Try.func7 rfl fun c0 hc0 => ?_⟩; simp only [Try.ntmps7, Ya, Y9, Nat.reduceAdd, Nat.reduceSub, Ym, Yn, Y5, Y3]; refine Run.god tab_ok follows_ok Try.func7 60 ?_; simp only [lfull, llen, drun, aops, aone, aop, needs, ext, aev, aconst, aput, aupd, aload, tab_83, ok1, cellsAs, TI.agg, AV.cells, AV.whole, Y4, Yb, Yc, Y6, Y7, Ya, Y9, Y1, Y2, Yi, Y5, Y3, Yt, Ys, Yr, Yp, Yv, Y0, Y8]
  refine Ops.pure .free rfl rfl (f1) (by simp only [aev, Y4, Y1, Y2, Yf, Ye, Y3, Yd, Y0]; (repeat' first | exact .refl _ | apply LeR.tup | apply Le.agg | constructor)) la rfl ?_
  refine Ops.god tab_ok follows_ok Try.func7 60 ?_; simp only [mfull, mlen, ↓alts_f, ↓gone_ff, gslot, aops, aone, aop, needs, ext, aev, aput, aupd, aload, tab_83, ok1, cellsAs, TI.agg, Y4, Yb, Yc, Y6, Y7, Y1, Y2, Yw, Yi, Y5, Y3, Yt, Ys, Yr, Nat.reduceAdd, Yp, Bool.not_true, Yv, Y0, Y8]
  ((repeat' apply And.intro) <;> try first | rfl | omega | (unfold I64; omega))
  refine Ops.pure (Wanted.test 3 false false rfl) rfl rfl (f2) (by simp only [aev, Y4, Y1, Y2, Yf, Ye, Y3, Yd, Y0]; (repeat' first | exact .refl _ | apply LeR.tup | apply Le.agg | constructor)) ma rfl ?_
  refine Ops.god tab_ok follows_ok Try.func7 60 ?_; simp only [lfull, llen, ↓alt_f, ↓alts_f, ↓gone_ff, gslot, drun, aops, aone, aop, needs, ext, aev, aput, aupd, aload, tab_83, ok1, cellsAs, TI.agg, Y4, Yb, Yc, Y6, Y7, Y1, Y2, Yw, Yi, Y5, Y3, Yt, Ys, Yr, Yp, Bool.not_true, Yv, Y0, Y8]
  ((repeat' apply And.intro) <;> try first | rfl | omega | (unfold I64; omega))
  refine Ops.pure .free rfl rfl (e1) (by simp only [aev, Y4, Y1, Y2, Yf, Ye, Y3, Yd, Y0]; (repeat' first | exact .refl _ | apply LeR.tup | apply Le.agg | constructor)) la rfl ?_
  refine Ops.god tab_ok follows_ok Try.func7 60 ?_; simp only [mfull, mlen, drun, aops, aone, aop, needs, ext, aev, aput, aupd, aload, tab_83, ok1, cellsAs, TI.agg, Y4, Yb, Yc, Y6, Y7, Y1, Y2, Yi, Y5, Y3, Yt, Ys, Yr, Yp, Yv, Y0, Y8]
  ((repeat' apply And.intro) <;> try first | rfl | omega | (unfold I64; omega))
  refine Ops.pure .free rfl rfl (e2) (by simp only [aev, Y4, Y1, Y2, Yf, Ye, Y3, Yd, Y0]; (repeat' first | exact .refl _ | apply LeR.tup | apply Le.agg | constructor)) ma rfl ?_
  refine Ops.god tab_ok follows_ok Try.func7 60 ?_; simp only [↓alt_t, ↓alts_t, ↓gone_ft, gslot, Int.reduceEq, drun, aops, aone, aop, needs, ext, aev, aconst, aput, aupd, acmp, ashift, abin, tab_34, ok1, Y4, Yb, Yc, Y6, Y7, Y1, Y2, Yw, Y5, Y3, Yt, Ys, Yr, Bool.not_false, decide_false, Y0, Y8]
  ((repeat' apply And.intro) <;> try first | rfl | omega | (unfold I64; omega))
  refine Ops.pure .free rfl rfl (alive27_spec) (by simp only [Ye, Yd]; (repeat' first | exact .refl _ | apply LeR.tup | apply Le.agg | constructor)) rfl rfl ?_
  refine Ops.god tab_ok follows_ok Try.func7 60 ?_; simp only [Try.results7, drun, aops, aone, afin, ares, aresL, ares1, aresOk, aresOk1, aop, needs, ext, aev, aput, aupd, ok1, Y4, Yb, Yc, Y6, Y7, Y1, Y2, Y5, Y3, Yt, Yu, Yr, Y0, Y8]
  ((repeat' apply And.intro) <;> try first | rfl | omega | (unfold I64; omega))
  all_goals (repeat' first | exact .refl _ | apply LeR.tup | apply Le.agg | constructor)
theorem apart_e (l m : Ltr) (hl : WideL l) (hm : WideL m) (h1 : fewL l = true) (h2 : fewL m = true) (g1 : Good l) (g2 : ¬ Good m) : ASpec Try.prog 7 [.agg (letC l), .agg (letC m)] (.bool true) := by
  have f1 := few27_spec l hl
  have f2 := few27_spec m hm
  rw [h1] at f1
  rw [h2] at f2
  have al := AskL.of_few hl h1
  have am := AskL.of_few hm h2
  have e1 := enc27_ok l al g1
  have e2 := enc27_no m am g2
  have lfull := let_full l hl.sum
  have llen := let_len l hl.sum
  have mfull := let_full m hm.sum
  have mlen := let_len m hm.sum
  have la := arg_bel l 0
  have ma := arg_bel m 0
  have lm := arg2_bel l m 0
  generalize letC l = cl at *
  generalize letC m = cm at *
  refine ⟨⟨_, Try.func7, by kernel_rfl, rfl⟩, ACall.of Try.func7 rfl fun c0 hc0 => ?_⟩; simp only [Try.ntmps7, Ya, Y9, Nat.reduceAdd, Nat.reduceSub, Ym, Yn, Y5, Y3]; refine Run.god tab_ok follows_ok Try.func7 60 ?_; simp only [lfull, llen, drun, aops, aone, aop, needs, ext, aev, aconst, aput, aupd, aload, tab_83, ok1, cellsAs, TI.agg, AV.cells, AV.whole, Y4, Yb, Yc, Y6, Y7, Ya, Y9, Y1, Y2, Yi, Y5, Y3, Yt, Ys, Yr, Yp, Yv, Y0, Y8]
  refine Ops.pure .free rfl rfl (f1) (by simp only [aev, Y4, Y1, Y2, Yf, Ye, Y3, Yd, Y0]; (repeat' first | exact .refl _ | apply LeR.tup | apply Le.agg | constructor)) la rfl ?_
  refine Ops.god tab_ok follows_ok Try.func7 60 ?_; simp only [mfull, mlen, ↓alts_f, ↓gone_ff, gslot, aops, aone, aop, needs, ext, aev, aput, aupd, aload, tab_83, ok1, cellsAs, TI.agg, Y4, Yb, Yc, Y6, Y7, Y1, Y2, Yw, Yi, Y5, Y3, Yt, Ys, Yr, Nat.reduceAdd, Yp, Bool.not_true, Yv, Y0, Y8]
  ((repeat' apply And.intro) <;> try first | rfl | omega | (unfold I64; omega))
  refine Ops.pure (Wanted.test 3 false false rfl) rfl rfl (f2) (by simp only [aev, Y4, Y1, Y2, Yf, Ye, Y3, Yd, Y0]; (repeat' first | exact .refl _ | apply LeR.tup | apply Le.agg | constructor)) ma rfl ?_
  refine Ops.god tab_ok follows_ok Try.func7 60 ?_; simp only [lfull, llen, ↓alt_f, ↓alts_f, ↓gone_ff, gslot, drun, aops, aone, aop, needs, ext, aev, aput, aupd, aload, tab_83, ok1, cellsAs, TI.agg, Y4, Yb, Yc, Y6, Y7, Y1, Y2, Yw, Yi, Y5, Y3, Yt, Ys, Yr, Yp, Bool.not_true, Yv, Y0, Y8]
  ((repeat' apply And.intro) <;> try first | rfl | omega | (unfold I64; omega))
  refine Ops.pure .free rfl rfl (e1) (by simp only [aev, Y4, Y1, Y2, Yf, Ye, Y3, Yd, Y0]; (repeat' first | exact .refl _ | apply LeR.tup | apply Le.agg | constructor)) la rfl ?_
  refine Ops.god tab_ok follows_ok Try.func7 60 ?_; simp only [mfull, mlen, drun, aops, aone, aop, needs, ext, aev, aput, aupd, aload, tab_83, ok1, cellsAs, TI.agg, Y4, Yb, Yc, Y6, Y7, Y1, Y2, Yi, Y5, Y3, Yt, Ys, Yr, Yp, Yv, Y0, Y8]
  ((repeat' apply And.intro) <;> try first | rfl | omega | (unfold I64; omega))
  refine Ops.pure .free rfl rfl (e2) (by simp only [aev, Y4, Y1, Y2, Yf, Ye, Y3, Yd, Y0]; (repeat' first | exact .refl _ | apply LeR.tup | apply Le.agg | constructor)) ma rfl ?_
  refine Ops.god tab_ok follows_ok Try.func7 60 ?_; simp only [↓alt_t, ↓alts_f, ↓gone_ff, gslot, Int.reduceEq, drun, aops, aone, aop, needs, ext, aev, aconst, aput, aupd, acmp, ashift, abin, tab_34, ok1, Y4, Yb, Yc, Y6, Y7, Y1, Y2, Yw, Y5, Y3, Yt, Ys, Yr, Bool.not_true, Bool.not_false, decide_true, decide_false, Y0, Y8]
  ((repeat' apply And.intro) <;> try first | rfl | omega | (unfold I64; omega))
  refine Ops.pure .free rfl rfl (alive27_spec) (by simp only [Ye, Yd]; (repeat' first | exact .refl _ | apply LeR.tup | apply Le.agg | constructor)) rfl rfl ?_
  refine Ops.god tab_ok follows_ok Try.func7 60 ?_; simp only [Try.results7, drun, aops, aone, afin, ares, aresL, ares1, aresOk, aresOk1, aop, needs, ext, aev, aput, aupd, ok1, Y4, Yb, Yc, Y6, Y7, Y1, Y2, Y5, Y3, Yt, Yu, Yr, Y0, Y8]
  ((repeat' apply And.intro) <;> try first | rfl | omega | (unfold I64; omega))
  all_goals (repeat' first | exact .refl _ | apply LeR.tup | apply Le.agg | constructor)
theorem wr_inj {l m : Ltr} (g1 : Good l) (g2 : Good m) : wrL l = wrL m ↔ l = m := by
  constructor
  · intro h
    have h1 := of_decide_eq_true g1.may
    have h2 := of_decide_eq_true g2.may
    rw [h, h2] at h1
    exact (congrArg Prod.fst h1).symm
  · rintro rfl; rfl
theorem apart_f (l m : Ltr) (hl : WideL l) (hm : WideL m) (h1 : fewL l = true) (h2 : fewL m = true) (g1 : Good l) (g2 : Good m) : ASpec Try.prog 7 [.agg (letC l), .agg (letC m)] (.bool true) := by
  have f1 := few27_spec l hl
  have f2 := few27_spec m hm
  rw [h1] at f1
  rw [h2] at f2
  have al := AskL.of_few hl h1
  have am := AskL.of_few hm h2
  have e1 := enc27_ok l al g1
  have e2 := enc27_ok m am g2
  have s := same27_spec l m hl.sum hm.sum hl.proofs (by have := few_cert h1; omega) (by have := few_cert h2; omega) hl.proof.2 (by have := few_names h1; omega)
  rw [← dec_eq (wr_inj g1 g2)] at s
  have lfull := let_full l hl.sum
  have llen := let_len l hl.sum
  have mfull := let_full m hm.sum
  have mlen := let_len m hm.sum
  have la := arg_bel l 0
  have ma := arg_bel m 0
  have lm := arg2_bel l m 0
  generalize letC l = cl at *
  generalize letC m = cm at *
  refine ⟨⟨_, Try.func7, by kernel_rfl, rfl⟩, ACall.of Try.func7 rfl fun c0 hc0 => ?_⟩; simp only [Try.ntmps7, Ya, Y9, Nat.reduceAdd, Nat.reduceSub, Ym, Yn, Y5, Y3]; refine Run.god tab_ok follows_ok Try.func7 60 ?_; simp only [lfull, llen, drun, aops, aone, aop, needs, ext, aev, aconst, aput, aupd, aload, tab_83, ok1, cellsAs, TI.agg, AV.cells, AV.whole, Y4, Yb, Yc, Y6, Y7, Ya, Y9, Y1, Y2, Yi, Y5, Y3, Yt, Ys, Yr, Yp, Yv, Y0, Y8]
  refine Ops.pure .free rfl rfl (f1) (by simp only [aev, Y4, Y1, Y2, Yf, Ye, Y3, Yd, Y0]; (repeat' first | exact .refl _ | apply LeR.tup | apply Le.agg | constructor)) la rfl ?_
  refine Ops.god tab_ok follows_ok Try.func7 60 ?_; simp only [mfull, mlen, ↓alts_f, ↓gone_ff, gslot, aops, aone, aop, needs, ext, aev, aput, aupd, aload, tab_83, ok1, cellsAs, TI.agg, Y4, Yb, Yc, Y6, Y7, Y1, Y2, Yw, Yi, Y5, Y3, Yt, Ys, Yr, Nat.reduceAdd, Yp, Bool.not_true, Yv, Y0, Y8]
  ((repeat' apply And.intro) <;> try first | rfl | omega | (unfold I64; omega))
  refine Ops.pure (Wanted.test 3 false false rfl) rfl rfl (f2) (by simp only [aev, Y4, Y1, Y2, Yf, Ye, Y3, Yd, Y0]; (repeat' first | exact .refl _ | apply LeR.tup | apply Le.agg | constructor)) ma rfl ?_
  refine Ops.god tab_ok follows_ok Try.func7 60 ?_; simp only [lfull, llen, ↓alt_f, ↓alts_f, ↓gone_ff, gslot, drun, aops, aone, aop, needs, ext, aev, aput, aupd, aload, tab_83, ok1, cellsAs, TI.agg, Y4, Yb, Yc, Y6, Y7, Y1, Y2, Yw, Yi, Y5, Y3, Yt, Ys, Yr, Yp, Bool.not_true, Yv, Y0, Y8]
  ((repeat' apply And.intro) <;> try first | rfl | omega | (unfold I64; omega))
  refine Ops.pure .free rfl rfl (e1) (by simp only [aev, Y4, Y1, Y2, Yf, Ye, Y3, Yd, Y0]; (repeat' first | exact .refl _ | apply LeR.tup | apply Le.agg | constructor)) la rfl ?_
  refine Ops.god tab_ok follows_ok Try.func7 60 ?_; simp only [mfull, mlen, bytesA, drun, aops, aone, aop, needs, ext, aev, aput, aupd, aload, tab_83, ok1, cellsAs, TI.agg, Y4, Yb, Yc, Y6, Y7, Y1, Y2, Yi, Y5, Y3, Yt, Ys, Yr, Yp, Yv, Y0, Y8]
  ((repeat' apply And.intro) <;> try first | rfl | omega | (unfold I64; omega))
  refine Ops.pure .free rfl rfl (e2) (by simp only [aev, Y4, Y1, Y2, Yf, Ye, Y3, Yd, Y0]; (repeat' first | exact .refl _ | apply LeR.tup | apply Le.agg | constructor)) ma rfl ?_
  refine Ops.god tab_ok follows_ok Try.func7 60 ?_; simp only [bytesA, ↓alt_f, ↓alts_f, ↓gone_ff, gslot, drun, adops, adone, places, mayNeed, aops, aone, aop, needs, ext, aev, aconst, aput, aupd, acmp, ashift, abin, tab_34, ok1, Y4, Yb, Yc, Y6, Y7, Ya, Y9, Y1, Y2, Yw, Y5, Y3, Yt, Ys, Yr, Nat.reduceAdd, Yp, Bool.not_true, decide_true, Y0, Y8]
  ((repeat' apply And.intro) <;> try first | rfl | omega | (unfold I64; omega))
  refine DOps.pure rfl .free rfl rfl (alive27_spec) (by simp only [Ye, Yd]; (repeat' first | exact .refl _ | apply LeR.tup | apply Le.agg | constructor)) rfl rfl ?_
  refine DOps.god tab_ok follows_ok Try.func7 60 rfl ?_; simp only [lfull, llen, mfull, mlen, ↓alts_t, ↓gdone_tt, gslot, bytesOf_map, adops, adone, mayNeed, freeOk, rdOf, AV.id, wrOf, aop, needs, aev, aput, aupd, aload, abin, aconv, tab_5, tab_9, tab_83, tab_85, ok1, cellsAs, TI.agg, Y4, Yb, Yc, Y6, Y7, Y1, Y2, Yw, Yi, Y5, Y3, Yt, Yu, Ys, Yr, Nat.reduceAdd, Yp, Yv, Y0, Y8]
  ((repeat' apply And.intro) <;> try first | rfl | omega | (unfold I64; omega))
  refine DOps.pure rfl (Wanted.test 1 true true rfl) rfl rfl (s) (by simp only [aev, Y4, Y1, Y2, Yf, Ye, Y3, Yd, Y0]; (repeat' first | exact .refl _ | apply LeR.tup | apply Le.agg | constructor)) lm rfl ?_
  refine DOps.god tab_ok follows_ok Try.func7 60 rfl ?_; simp only [Try.results7, beq_self_eq_true, ↓alts_t, ↓gdone_tt, gslot, drun, adops, adone, mayNeed, freeOk, rdOf, wrOf, afin, ares, aresL, ares1, aresOk, aresOk1, aop, needs, aev, aput, aupd, abin, tab_4, ok1, Y4, Yb, Yc, Y6, Y7, Y1, Y2, Yw, Y5, Y3, Yt, Yu, Yr, Nat.reduceAdd, Bool.not_true, Y0, Y8]
  ((repeat' apply And.intro) <;> try first | rfl | omega | (unfold I64; omega))
  all_goals (repeat' first | exact .refl _ | apply LeR.tup | apply Le.agg | constructor)
theorem apart27_spec (l m : Ltr) (hl : WideL l) (hm : WideL m) : ASpec Try.prog 7 [.agg (letC l), .agg (letC m)] (.bool true) := by
  cases h1 : fewL l with
  | false => exact apart_a l m hl hm h1
  | true =>
    cases h2 : fewL m with
    | false => exact apart_b l m hl hm h1 h2
    | true =>
      by_cases g1 : Good l
      · by_cases g2 : Good m
        · exact apart_f l m hl hm h1 h2 g1 g2
        · exact apart_e l m hl hm h1 h2 g1 g2
      · by_cases g2 : Good m
        · exact apart_d l m hl hm h1 h2 g1 g2
        · exact apart_c l m hl hm h1 h2 g1 g2
end Go.Proofs.Ytkamcoechjdgpaa
