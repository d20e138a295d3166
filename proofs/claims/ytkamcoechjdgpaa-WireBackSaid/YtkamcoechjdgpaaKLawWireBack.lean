/-
  WireBack, by its shadow.
-/
import Derived.Test.YtkamcoechjdgpaaKLawWireOnly
import Derived.Test.YtkamcoechjdgpaaMj
import Derived.Test.YtkamcoechjdgpaaMi
set_option maxRecDepth 20000
set_option maxHeartbeats 8000000
namespace Go.Proofs.Ytkamcoechjdgpaa
open Go.RowKit
theorem tk_more {l : Ltr} (g : Good l) (c : UInt8) : (tkL (wrL l ++ [c])).2 = false := by
  rw [tk_back l g [c]]
  simp
theorem tk_less {l : Ltr} (g : Good l) (h : 0 < (wrL l).length) : (tkL ((wrL l).take ((wrL l).length - 1))).2 = false := by
  cases e : (tkL ((wrL l).take ((wrL l).length - 1))).2 with
  | false => rfl
  | true =>
    obtain ⟨g', w⟩ := tk_only _ e
    have h1 := tk_back (tkL ((wrL l).take ((wrL l).length - 1))).1 g' ((wrL l).drop ((wrL l).length - 1))
    rw [w, List.take_append_drop] at h1
    have h2 := of_decide_eq_true g.may
    rw [h1] at h2
    have h3 := congrArg Prod.snd h2
    simp only [decide_eq_true_eq] at h3
    have h4 := congrArg List.length h3
    rw [List.length_drop, List.length_nil] at h4
    omega
theorem wr_pos (l : Ltr) : 0 < (wrL l).length := by
  unfold wrL
  rw [List.length_append, encN_length]
  omega
theorem back_few (l : Ltr) (c : Int) (hl : WideL l) (h1 : fewL l = false) : ASpec Try.prog 5 [.agg (letC l), .int .u8 c] (.bool true) := by
  have f1 := few27_spec l hl
  rw [h1] at f1
  have lfull := let_full l hl.sum
  have llen := let_len l hl.sum
  have la := arg_bel l 0
  generalize letC l = cl at *
  refine ⟨⟨_, Try.func5, by kernel_rfl, rfl⟩, ACall.of Try.func5 rfl fun c0 hc0 => ?_⟩; simp only [Try.ntmps5, Ya, Y9, Nat.reduceAdd, Nat.reduceSub, Ym, Yn, Y5, Y3]; refine Run.god tab_ok follows_ok Try.func5 60 ?_; simp only [lfull, llen, drun, aops, aone, aop, needs, ext, aev, aconst, aput, aupd, aload, tab_83, ok1, cellsAs, TI.agg, AV.cells, AV.whole, Y4, Yb, Yc, Y6, Y7, Y9, Y1, Y2, Yi, Y5, Y3, Yt, Ys, Yr, Yp, Yv, Y0, Y8]
  refine Ops.pure .free rfl rfl (f1) (by simp only [aev, Y4, Y1, Y2, Yf, Ye, Y3, Yd, Y0]; (repeat' first | exact .refl _ | apply LeR.tup | apply Le.agg | constructor)) la rfl ?_
  refine Ops.god tab_ok follows_ok Try.func5 60 ?_; simp only [↓alt_t, drun, aops, aone, aop, needs, ext, aev, aput, aupd, ok1, Y4, Y6, Y7, Y1, Y2, Y5, Y3, Yt, Yr, Bool.not_false, Y0, Y8]
  ((repeat' apply And.intro) <;> try first | rfl | omega | (unfold I64; omega))
  refine Ops.pure .free rfl rfl (alive27_spec) (by simp only [Ye, Yd]; (repeat' first | exact .refl _ | apply LeR.tup | apply Le.agg | constructor)) rfl rfl ?_
  refine Ops.god tab_ok follows_ok Try.func5 60 ?_; simp only [Try.results5, drun, aops, aone, afin, ares, aresL, ares1, aresOk, aresOk1, aop, needs, ext, aev, aput, aupd, ok1, Y4, Yb, Yc, Y6, Y7, Y1, Y2, Y5, Y3, Yt, Yu, Yr, Y0, Y8]
  ((repeat' apply And.intro) <;> try first | rfl | omega | (unfold I64; omega))
  all_goals (repeat' first | exact .refl _ | apply LeR.tup | apply Le.agg | constructor)
theorem back_no (l : Ltr) (c : Int) (hl : WideL l) (h1 : fewL l = true) (g : ¬ Good l) : ASpec Try.prog 5 [.agg (letC l), .int .u8 c] (.bool true) := by
  have f1 := few27_spec l hl
  rw [h1] at f1
  have al := AskL.of_few hl h1
  have m := may27_spec l al
  rw [not_may g] at m
  have e := enc27_no l al g
  have lfull := let_full l hl.sum
  have llen := let_len l hl.sum
  have la := arg_bel l 0
  generalize letC l = cl at *
  refine ⟨⟨_, Try.func5, by kernel_rfl, rfl⟩, ACall.of Try.func5 rfl fun c0 hc0 => ?_⟩; simp only [Try.ntmps5, Ya, Y9, Nat.reduceAdd, Nat.reduceSub, Ym, Yn, Y5, Y3]; refine Run.god tab_ok follows_ok Try.func5 60 ?_; simp only [lfull, llen, drun, aops, aone, aop, needs, ext, aev, aconst, aput, aupd, aload, tab_83, ok1, cellsAs, TI.agg, AV.cells, AV.whole, Y4, Yb, Yc, Y6, Y7, Y9, Y1, Y2, Yi, Y5, Y3, Yt, Ys, Yr, Yp, Yv, Y0, Y8]
  refine Ops.pure .free rfl rfl (f1) (by simp only [aev, Y4, Y1, Y2, Yf, Ye, Y3, Yd, Y0]; (repeat' first | exact .refl _ | apply LeR.tup | apply Le.agg | constructor)) la rfl ?_
  refine Ops.god tab_ok follows_ok Try.func5 60 ?_; simp only [lfull, llen, ↓alt_f, drun, aops, aone, aop, needs, ext, aev, aput, aupd, aload, tab_83, ok1, cellsAs, TI.agg, Y4, Yb, Yc, Y6, Y7, Y1, Y2, Yi, Y5, Y3, Yt, Ys, Yr, Yp, Bool.not_true, Yv, Y0, Y8]
  ((repeat' apply And.intro) <;> try first | rfl | omega | (unfold I64; omega))
  refine Ops.pure .free rfl rfl (e) (by simp only [aev, Y4, Y1, Y2, Yf, Ye, Y3, Yd, Y0]; (repeat' first | exact .refl _ | apply LeR.tup | apply Le.agg | constructor)) la rfl ?_
  refine Ops.god tab_ok follows_ok Try.func5 60 ?_; simp only [lfull, llen, Int.reduceEq, drun, aops, aone, aop, needs, ext, aev, aconst, aput, aupd, aload, acmp, ashift, abin, tab_34, tab_83, ok1, cellsAs, TI.agg, Y4, Yb, Yc, Y6, Y7, Y1, Y2, Yi, Y5, Y3, Yt, Ys, Yr, Nat.reduceAdd, Yp, decide_false, Yv, Y0, Y8]
  ((repeat' apply And.intro) <;> try first | rfl | omega | (unfold I64; omega))
  refine Ops.pure .free rfl rfl (m) (by simp only [aev, Y4, Y1, Y2, Yf, Ye, Y3, Yd, Y0]; (repeat' first | exact .refl _ | apply LeR.tup | apply Le.agg | constructor)) la rfl ?_
  refine Ops.god tab_ok follows_ok Try.func5 60 ?_; simp only [↓alt_t, ↓alt_f, Int.reduceEq, drun, aops, aone, aop, needs, ext, aev, aconst, aput, aupd, acmp, ashift, abin, tab_4, tab_34, ok1, Y4, Yb, Y6, Y7, Y1, Y2, Y5, Y3, Yt, Ys, Yr, beq_self_eq_true, Bool.not_true, Bool.not_false, decide_false, Y0, Y8]
  ((repeat' apply And.intro) <;> try first | rfl | omega | (unfold I64; omega))
  refine Ops.pure .free rfl rfl (alive27_spec) (by simp only [Ye, Yd]; (repeat' first | exact .refl _ | apply LeR.tup | apply Le.agg | constructor)) rfl rfl ?_
  refine Ops.god tab_ok follows_ok Try.func5 60 ?_; simp only [Try.results5, ↓alts_t, ↓gone_tt, gslot, drun, aops, aone, afin, ares, aresL, ares1, aresOk, aresOk1, aop, needs, ext, aev, aconst, aput, aupd, acmp, ashift, abin, alen, tab_3, tab_85, ok1, Y4, Yb, Yc, Y6, Y7, Y1, Y2, Yw, Y5, Y3, Yt, Yu, Ys, Yr, decide_true, Y0, Y8]
  ((repeat' apply And.intro) <;> try first | rfl | omega | (unfold I64; omega))
  all_goals (repeat' first | exact .refl _ | apply LeR.tup | apply Le.agg | constructor)
theorem back_ok (l : Ltr) (c : UInt8) (hl : WideL l) (h1 : fewL l = true) (g : Good l) : ASpec Try.prog 5 [.agg (letC l), .int .u8 c.toNat] (.bool true) := by
  have f1 := few27_spec l hl
  rw [h1] at f1
  have al := AskL.of_few hl h1
  have m := may27_spec l al
  rw [g.may] at m
  have e := enc27_ok l al g
  have tk := of_decide_eq_true g.may
  have hw := wrL_le (al.good g) g.1
  have hw0 := wr_pos l
  have d := dec27_ok (wrL l) (by omega) (by rw [tk]; exact al) (by rw [tk])
  rw [tk] at d
  simp only at d
  have d1 := dec27_no (wrL l ++ [c]) (by rw [List.length_append, List.length_singleton]; omega) (tk_more g c)
  have d2 := dec27_no ((wrL l).take ((wrL l).length - 1)) (by rw [List.length_take]; omega) (tk_less g hw0)
  have p := plain27_spec l hl.sum
  have s := rsame27_spec l l hl.sum hl.sum hl.proofs (by have := few_cert h1; omega) hl.proof.2 (by have := few_names h1; omega)
  rw [decide_eq_true rfl] at s
  have lfull := let_full l hl.sum
  have llen := let_len l hl.sum
  have la := arg_bel l 0
  have lb2 := arg2_bel l l 0
  have rb := tup_bel l (.int .i64 0) rfl
  have rz := tup_bel zL (.int .i64 3) rfl
  have rl := let_bel l 0
  have pb : AV.bel 0 (.agg (letC l)) = true := let_bel l 0
  have zfull := let_full zL rfl
  have zlen := let_len zL rfl
  have hG : (wrL l).map byteC ++ [[AV.int .u8 c.toNat]] = (wrL l ++ [c]).map byteC := by rw [List.map_append]; rfl
  have hT : ((wrL l).map byteC).take ((wrL l).length - 1) = ((wrL l).take ((wrL l).length - 1)).map byteC := List.map_take.symm
  have hN : (((wrL l).length : Int) - 1).toNat = (wrL l).length - 1 := by omega
  have hI : ¬ ((wrL l).length : Int) = 0 := by omega
  generalize letC l = cl at *
  generalize letC zL = cz at *
  refine ⟨⟨_, Try.func5, by kernel_rfl, rfl⟩, ACall.of Try.func5 rfl fun c0 hc0 => ?_⟩; simp only [Try.ntmps5, Ya, Y9, Nat.reduceAdd, Nat.reduceSub, Ym, Yn, Y5, Y3]; refine Run.god tab_ok follows_ok Try.func5 60 ?_; simp only [lfull, llen, drun, aops, aone, aop, needs, ext, aev, aconst, aput, aupd, aload, tab_83, ok1, cellsAs, TI.agg, AV.cells, AV.whole, Y4, Yb, Yc, Y6, Y7, Y9, Y1, Y2, Yi, Y5, Y3, Yt, Ys, Yr, Yp, Yv, Y0, Y8]
  refine Ops.pure .free rfl rfl (f1) (by simp only [aev, Y4, Y1, Y2, Yf, Ye, Y3, Yd, Y0]; (repeat' first | exact .refl _ | apply LeR.tup | apply Le.agg | constructor)) la rfl ?_
  refine Ops.god tab_ok follows_ok Try.func5 60 ?_; simp only [lfull, llen, ↓alt_f, drun, aops, aone, aop, needs, ext, aev, aput, aupd, aload, tab_83, ok1, cellsAs, TI.agg, Y4, Yb, Yc, Y6, Y7, Y1, Y2, Yi, Y5, Y3, Yt, Ys, Yr, Yp, Bool.not_true, Yv, Y0, Y8]
  ((repeat' apply And.intro) <;> try first | rfl | omega | (unfold I64; omega))
  refine Ops.pure .free rfl rfl (e) (by simp only [aev, Y4, Y1, Y2, Yf, Ye, Y3, Yd, Y0]; (repeat' first | exact .refl _ | apply LeR.tup | apply Le.agg | constructor)) la rfl ?_
  refine Ops.god tab_ok follows_ok Try.func5 60 ?_; simp only [lfull, llen, bytesA, drun, aops, aone, aop, needs, ext, aev, aconst, aput, aupd, aload, acmp, ashift, abin, tab_34, tab_83, ok1, cellsAs, TI.agg, Y4, Yb, Yc, Y6, Y7, Y1, Y2, Yi, Y5, Y3, Yt, Ys, Yr, Nat.reduceAdd, Yp, decide_true, Yv, Y0, Y8]
  ((repeat' apply And.intro) <;> try first | rfl | omega | (unfold I64; omega))
  refine Ops.pure .free rfl rfl (m) (by simp only [aev, Y4, Y1, Y2, Yf, Ye, Y3, Yd, Y0]; (repeat' first | exact .refl _ | apply LeR.tup | apply Le.agg | constructor)) la rfl ?_
  refine Ops.god tab_ok follows_ok Try.func5 60 ?_; simp only [↓alt_f, drun, aops, aone, aop, needs, ext, aev, aconst, aput, aupd, acmp, ashift, abin, tab_4, tab_34, ok1, Y4, Yb, Y6, Y7, Y1, Y2, Y5, Y3, Yt, Ys, Yr, Yp, beq_self_eq_true, Bool.not_true, decide_true, Y0, Y8]
  ((repeat' apply And.intro) <;> try first | rfl | omega | (unfold I64; omega))
  refine Ops.pure .free rfl rfl (d) (by simp only [bytesA, aev, Y4, Y1, Y2, Yf, Ye, Y3, Yd, Y0]; (repeat' first | exact .refl _ | apply LeR.tup | apply Le.agg | constructor)) rfl rb ?_
  refine Ops.god tab_ok follows_ok Try.func5 60 ?_; simp only [llen, aappendM, drun, aops, aone, aop, needs, ext, aev, aconst, aput, aupd, astore, aelems, plains, asrc, aappend, tab_5, tab_83, tab_85, ok1, lay, AV.cells, AV.whole, AV.plain, AV.bare, Y4, Yb, Yc, Y6, Y7, Ya, Y9, Y1, Y2, Yw, Yh, Yj, Yl, Yf, Ye, Yo, Y5, Y3, Yd, List.all_cons, List.all_nil, Ym, Yn, Yt, Yu, Ys, Yr, Nat.reduceAdd, Nat.reduceLeDiff, Nat.reduceMul, Nat.reduceBEq, Yp, beq_self_eq_true, Bool.and_self, Bool.and_true, Bool.and_false, Nat.reduceLT, Yv, Y0, Y8]
  ((repeat' apply And.intro) <;> try first | rfl | omega | (unfold I64; omega))
  refine Ops.pure .free rfl rfl (d1) (by simp only [bytesA, hG, aev, Y4, Y1, Y2, Yf, Ye, Y3, Yd, Y0]; (repeat' first | exact .refl _ | apply LeR.tup | apply Le.agg | constructor)) rfl rz ?_
  refine Ops.god tab_ok follows_ok Try.func5 60 ?_; simp only [lfull, llen, zlen, ↓alts_f, ↓gdone_ff, gslot, drun, adops, adone, places, mayNeed, freeOk, rdOf, AV.id, wrOf, aops, aone, aop, needs, ext, aev, aconst, aput, aupd, aload, astore, acmp, ashift, abin, tab_34, tab_83, ok1, lay, cellsAs, TI.agg, AV.cells, AV.whole, Y4, Yb, Yc, Y6, Y7, Ya, Y9, Y1, Y2, Yw, Yi, Yh, Yj, Yl, Y5, Y3, Yd, Yt, Yu, Ys, Yr, Nat.reduceAdd, Yp, Bool.not_true, decide_true, Yv, Y0, Y8]
  ((repeat' apply And.intro) <;> try first | rfl | omega | (unfold I64; omega))
  refine DOps.pure rfl (Wanted.test 2 false false rfl) rfl rfl (p) (by simp only [aev, Y4, Y1, Y2, Yf, Ye, Y3, Yd, Y0]; (repeat' first | exact .refl _ | apply LeR.tup | apply Le.agg | constructor)) la pb ?_
  refine DOps.god tab_ok follows_ok Try.func5 60 rfl ?_; simp only [lfull, llen, ↓alts_f, ↓gdone_ff, gslot, adops, adone, mayNeed, freeOk, rdOf, AV.id, wrOf, aop, needs, aev, aput, aupd, aload, tab_83, cellsAs, TI.agg, Y4, Yb, Yc, Y6, Y7, Y1, Y2, Yw, Yi, Y5, Y3, Yt, Yu, Ys, Yr, Nat.reduceAdd, Yp, Yv, Y0, Y8]
  ((repeat' apply And.intro) <;> try first | rfl | omega | (unfold I64; omega))
  refine DOps.pure rfl (Wanted.test 2 false false rfl) rfl rfl (p) (by simp only [aev, Y4, Y1, Y2, Yf, Ye, Y3, Yd, Y0]; (repeat' first | exact .refl _ | apply LeR.tup | apply Le.agg | constructor)) la pb ?_
  refine DOps.god tab_ok follows_ok Try.func5 60 rfl ?_; simp only [↓alts_f, ↓gdone_ff, gslot, adops, adone, aop, aput, Yb, Y6, Y7, Y1, Y2, Yw, Y5, Y3, Nat.reduceAdd]
  ((repeat' apply And.intro) <;> try first | rfl | omega | (unfold I64; omega))
  refine DOps.pure rfl (Wanted.test 2 false false rfl) rfl rfl (s) (by simp only [aev, Y4, Y1, Y2, Yf, Ye, Y3, Yd, Y0]; (repeat' first | exact .refl _ | apply LeR.tup | apply Le.agg | constructor)) lb2 rfl ?_
  refine DOps.god tab_ok follows_ok Try.func5 60 rfl ?_; simp only [hI, Yo, ↓alt_f, ↓alts_f, ↓gdone_ff, gslot, drun, adops, adone, mayNeed, freeOk, rdOf, wrOf, aops, aone, aop, needs, ext, aev, aconst, aput, aupd, acmp, aarith, ashift, abin, alen, aslice, tab_3, tab_5, tab_85, ok1, Y4, Yb, Yc, Option.map_none, Y6, Y7, Y1, Y2, Yw, Y5, Y3, Yt, Yu, Ys, Yr, Nat.reduceAdd, Yp, Bool.not_true, decide_false, Y0, Option.isSome_none, Y8]
  ((repeat' apply And.intro) <;> try first | rfl | omega | (unfold I64; omega))
  refine Ops.pure .free rfl rfl (d2) (by simp only [bytesA, hN, hT, aev, Y4, Y1, Y2, Yf, Ye, Y3, Yd, Y0]; (repeat' first | exact .refl _ | apply LeR.tup | apply Le.agg | constructor)) rfl rz ?_
  refine Ops.god tab_ok follows_ok Try.func5 60 ?_; simp only [zlen, drun, aops, aone, aop, needs, ext, aev, aput, aupd, astore, tab_83, ok1, lay, AV.cells, AV.whole, Y4, Yb, Yc, Y6, Y7, Ya, Y9, Y1, Y2, Yh, Yj, Yl, Y5, Y3, Yd, Yt, Yu, Ys, Yr, Nat.reduceAdd, Yp, Yv, Y0, Y8]
  ((repeat' apply And.intro) <;> try first | rfl | omega | (unfold I64; omega))
  refine Ops.pure .free rfl rfl (alive27_spec) (by simp only [Ye, Yd]; (repeat' first | exact .refl _ | apply LeR.tup | apply Le.agg | constructor)) rfl rfl ?_
  refine Ops.god tab_ok follows_ok Try.func5 60 ?_; simp only [Try.results5, ↓alts_t, ↓gone_tt, gslot, drun, aops, aone, afin, ares, aresL, ares1, aresOk, aresOk1, aop, needs, ext, aev, aconst, aput, aupd, acmp, ashift, abin, tab_34, ok1, Y4, Yb, Yc, Y6, Y7, Y1, Y2, Yw, Y5, Y3, Yt, Yu, Ys, Yr, decide_true, Y0, Y8]
  ((repeat' apply And.intro) <;> try first | rfl | omega | (unfold I64; omega))
  all_goals (repeat' first | exact .refl _ | apply LeR.tup | apply Le.agg | constructor)
theorem back27_spec (l : Ltr) (c : Int) (hl : WideL l) (hc : (Lit.int .u8 c).wf = true) : ASpec Try.prog 5 [.agg (letC l), .int .u8 c] (.bool true) := by
  cases h1 : fewL l with
  | false => exact back_few l c hl h1
  | true =>
    by_cases g : Good l
    · simp [Lit.wf, IntKind.min, IntKind.max, IntKind.signed, IntKind.bits] at hc
      obtain ⟨m, rfl⟩ := Int.eq_ofNat_of_zero_le hc.1
      have := back_ok l (UInt8.ofNat m) hl h1 g
      rwa [show (((UInt8.ofNat m).toNat : Nat) : Int) = (m : Int) by simp; omega] at this
    · exact back_no l c hl h1 g
end Go.Proofs.Ytkamcoechjdgpaa
