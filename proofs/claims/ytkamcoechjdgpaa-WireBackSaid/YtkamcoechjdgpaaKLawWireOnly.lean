/-
  WireOnly, by its shadow.
-/
import Derived.Test.YtkamcoechjdgpaaMi
set_option maxRecDepth 20000
set_option maxHeartbeats 8000000
namespace Go.Proofs.Ytkamcoechjdgpaa
open Go.RowKit
theorem Good.same {l : Ltr} (g : Good l) : ASpec Try.prog 34 [.agg (letC l), .agg (letC l)] (.bool true) := by
  have h := same27_spec l l g.ty.2.2.2.2.2.2.2.2.1 g.ty.2.2.2.2.2.2.2.2.1 (fun r hr => by
      rcases List.mem_append.1 hr with hr | hr
      · have := (g.sh.2.2.1 r hr).2.1; omega
      · rw [List.mem_singleton] at hr; subst hr; have := g.sh.2.2.2.2.2.1.2.1; omega) (by have := g.sh.2.1; omega) (by have := g.sh.2.1; omega) (by have := g.sh.2.2.2.2.1.1; omega) (by have := g.names; omega)
  rw [decide_eq_true rfl] at h
  exact h
theorem zL_same : ASpec Try.prog 34 [.agg (letC zL), .agg (letC zL)] (.bool true) := by
  have h := same27_spec zL zL rfl rfl (fun r hr => by
      rcases List.mem_append.1 hr with hr | hr
      · exact absurd hr (by simp [zL])
      · rw [List.mem_singleton] at hr; subst hr; exact Nat.zero_le _) (Nat.zero_le _) (Nat.zero_le _) (Nat.zero_le _) (Nat.zero_le _)
  rw [decide_eq_true rfl] at h
  exact h
theorem tup_bel (l : Ltr) (v : AV) (hv : v.bel 0 = true) : AV.bel 0 (.tup [.agg (letC l), v]) = true := by
  show (AV.bel 0 (.agg (letC l)) && (AV.bel 0 v && true)) = true
  rw [hv, Bool.and_true, Bool.and_true]
  exact let_bel l 0
theorem only_large27 (b : Bytes) (h : 12200 < (b.length : Int)) : ASpec Try.prog 6 [bytesA b] (.bool true) := by
  refine ⟨⟨_, Try.func6, by kernel_rfl, rfl⟩, ACall.of Try.func6 rfl fun c0 hc0 => ?_⟩; simp only [Try.ntmps6, Ya, Y9, Nat.reduceAdd, Nat.reduceSub, Ym, Yn, Y5, Y3]; refine Run.god tab_ok follows_ok Try.func6 60 ?_; simp only [bytesA, h, Yo, ↓alt_t, drun, aops, aone, aop, needs, ext, aev, aconst, aput, aupd, acmp, ashift, abin, alen, tab_3, tab_85, ok1, Y4, Yb, Y6, Y7, Y1, Y2, Y3, Yt, Ys, Yr, decide_true, Y0, Y8]
  refine Ops.pure .free rfl rfl (alive27_spec) (by simp only [Ye, Yd]; (repeat' first | exact .refl _ | apply LeR.tup | apply Le.agg | constructor)) rfl rfl ?_
  refine Ops.god tab_ok follows_ok Try.func6 60 ?_; simp only [Try.results6, drun, aops, aone, afin, ares, aresL, ares1, aresOk, aresOk1, aop, needs, ext, aev, aput, aupd, ok1, Y4, Yb, Yc, Y6, Y7, Y1, Y2, Y3, Yt, Yu, Yr, Y0, Y8]
  (repeat' first | exact .refl _ | apply LeR.tup | apply Le.agg | constructor)
theorem only_no27 (b : Bytes) (h : ¬ 12200 < (b.length : Int)) (hg : (tkL b).2 = false) : ASpec Try.prog 6 [bytesA b] (.bool true) := by
  have d := dec27_no b (by omega) hg
  have s0 := zL_same
  have rb := tup_bel zL (.int .i64 3) rfl
  have ab := arg2_bel zL zL 0
  have xfull := let_full zL rfl
  have xlen := let_len zL rfl
  have hz := zL_le
  generalize letC zL = cs at *
  refine ⟨⟨_, Try.func6, by kernel_rfl, rfl⟩, ACall.of Try.func6 rfl fun c0 hc0 => ?_⟩; simp only [Try.ntmps6, Ya, Y9, Nat.reduceAdd, Nat.reduceSub, Ym, Yn, Y5, Y3]; refine Run.god tab_ok follows_ok Try.func6 60 ?_; simp only [bytesA, h, Yo, ↓alt_f, drun, aops, aone, aop, needs, ext, aev, aconst, aput, aupd, acmp, ashift, abin, alen, tab_3, tab_85, ok1, Y4, Yb, Y6, Y7, Y1, Y2, Y3, Yt, Ys, Yr, Yp, decide_false, Y0, Y8]
  refine Ops.pure .free rfl rfl (d) (by simp only [bytesA, aev, Y4, Y1, Y2, Yf, Ye, Y3, Yd, Y0]; (repeat' first | exact .refl _ | apply LeR.tup | apply Le.agg | constructor)) rfl rb ?_
  refine Ops.god tab_ok follows_ok Try.func6 60 ?_; simp only [xlen, ↓alt_t, Int.reduceEq, drun, aops, aone, aop, needs, ext, aev, aconst, aput, aupd, astore, acmp, ashift, abin, tab_34, tab_83, ok1, lay, AV.cells, AV.whole, Y4, Yb, Yc, Y6, Y7, Ya, Y9, Y1, Y2, Yh, Yj, Yl, Y5, Y3, Yd, Yt, Yu, Ys, Yr, Nat.reduceAdd, Yp, Bool.not_false, decide_false, Yv, Y0, Y8]
  ((repeat' apply And.intro) <;> try first | rfl | omega | (unfold I64; omega))
  refine Ops.pure .free rfl rfl (alive27_spec) (by simp only [Ye, Yd]; (repeat' first | exact .refl _ | apply LeR.tup | apply Le.agg | constructor)) rfl rfl ?_
  refine Ops.god tab_ok follows_ok Try.func6 60 ?_; simp only [xfull, xlen, ↓alts_t, ↓gone_tt, gslot, aops, aone, aop, needs, ext, aev, aconst, aput, aupd, aload, acmp, ashift, abin, abuild, tab_34, tab_83, ok1, cellsAs, TI.agg, Y4, Yb, Yc, Y6, Y7, Y1, Y2, Yw, Yi, Ye, Y5, Y3, Yt, Ys, Yr, Nat.reduceAdd, Yp, decide_true, Yv, Y0, Y8]
  ((repeat' apply And.intro) <;> try first | rfl | omega | (unfold I64; omega))
  refine Ops.pure (Wanted.test 5 true true rfl) rfl rfl s0 (by simp only [aev, Y4, Y1, Y2, Yf, Ye, Y3, Yd, Y0]; exact LeL.cons (Le.refl _) (LeL.cons (Le.agg hz) LeL.nil)) ab rfl ?_
  refine Ops.god tab_ok follows_ok Try.func6 60 ?_; simp only [Try.results6, drun, aops, aone, afin, ares, aresL, ares1, aresOk, aresOk1, aop, needs, ext, aev, aput, aupd, ok1, Y4, Yb, Yc, Y6, Y7, Y1, Y2, Y5, Y3, Yt, Yu, Yr, Y0, Y8]
  ((repeat' apply And.intro) <;> try first | rfl | omega | (unfold I64; omega))
  all_goals (repeat' first | exact .refl _ | apply LeR.tup | apply Le.agg | constructor)
theorem only_ok27 (b : Bytes) (h : ¬ 12200 < (b.length : Int)) (hg : (tkL b).2 = true) : ASpec Try.prog 6 [bytesA b] (.bool true) := by
  obtain ⟨g, w⟩ := tk_only b hg
  have ha : AskL (tkL b).1 := .of_good g (by rw [w]; omega)
  have d := dec27_ok b (by omega) ha hg
  have e := enc27_ok _ ha g
  rw [w] at e
  have m := may27_spec _ ha
  rw [g.may] at m
  have rb := tup_bel (tkL b).1 (.int .i64 0) rfl
  have ab := arg_bel (tkL b).1 0
  have xfull := let_full (tkL b).1 (tk_sum b)
  have xlen := let_len (tkL b).1 (tk_sum b)
  generalize letC (tkL b).1 = cs at *
  refine ⟨⟨_, Try.func6, by kernel_rfl, rfl⟩, ACall.of Try.func6 rfl fun c0 hc0 => ?_⟩; simp only [Try.ntmps6, Ya, Y9, Nat.reduceAdd, Nat.reduceSub, Ym, Yn, Y5, Y3]; refine Run.god tab_ok follows_ok Try.func6 60 ?_; simp only [bytesA, h, Yo, ↓alt_f, drun, aops, aone, aop, needs, ext, aev, aconst, aput, aupd, acmp, ashift, abin, alen, tab_3, tab_85, ok1, Y4, Yb, Y6, Y7, Y1, Y2, Y3, Yt, Ys, Yr, Yp, decide_false, Y0, Y8]
  refine Ops.pure .free rfl rfl (d) (by simp only [bytesA, aev, Y4, Y1, Y2, Yf, Ye, Y3, Yd, Y0]; (repeat' first | exact .refl _ | apply LeR.tup | apply Le.agg | constructor)) rfl rb ?_
  refine Ops.god tab_ok follows_ok Try.func6 60 ?_; simp only [xfull, xlen, ↓alt_f, drun, aops, aone, aop, needs, ext, aev, aconst, aput, aupd, aload, astore, acmp, ashift, abin, tab_34, tab_83, ok1, lay, cellsAs, TI.agg, AV.cells, AV.whole, Y4, Yb, Yc, Y6, Y7, Ya, Y9, Y1, Y2, Yi, Yh, Yj, Yl, Y5, Y3, Yd, Yt, Yu, Ys, Yr, Nat.reduceAdd, Yp, Bool.not_true, decide_true, Yv, Y0, Y8]
  ((repeat' apply And.intro) <;> try first | rfl | omega | (unfold I64; omega))
  refine Ops.pure .free rfl rfl (e) (by simp only [aev, Y4, Y1, Y2, Yf, Ye, Y3, Yd, Y0]; (repeat' first | exact .refl _ | apply LeR.tup | apply Le.agg | constructor)) ab rfl ?_
  refine Ops.god tab_ok follows_ok Try.func6 60 ?_; simp only [bytesA, drun, aops, aone, aop, needs, ext, aev, aput, aupd, ok1, Y4, Yc, Y6, Y7, Y1, Y2, Y5, Y3, Yt, Yr, Y0, Y8]
  ((repeat' apply And.intro) <;> try first | rfl | omega | (unfold I64; omega))
  refine Ops.pure .free rfl rfl (alive27_spec) (by simp only [Ye, Yd]; (repeat' first | exact .refl _ | apply LeR.tup | apply Le.agg | constructor)) rfl rfl ?_
  refine Ops.god tab_ok follows_ok Try.func6 60 ?_; simp only [xfull, xlen, ↓alts_t, ↓gone_tt, gslot, aops, aone, aop, needs, ext, aev, aput, aupd, aload, tab_83, ok1, cellsAs, TI.agg, Y4, Yb, Yc, Y6, Y7, Y1, Y2, Yw, Yi, Y5, Y3, Yt, Ys, Yr, Nat.reduceAdd, Yp, Yv, Y0, Y8]
  ((repeat' apply And.intro) <;> try first | rfl | omega | (unfold I64; omega))
  refine Ops.pure (Wanted.test 1 true true rfl) rfl rfl (m) (by simp only [aev, Y4, Y1, Y2, Yf, Ye, Y3, Yd, Y0]; (repeat' first | exact .refl _ | apply LeR.tup | apply Le.agg | constructor)) ab rfl ?_
  refine Ops.god tab_ok follows_ok Try.func6 60 ?_; simp only [Try.results6, ↓alts_t, ↓gone_tt, gslot, bytesOf_map, drun, aops, aone, afin, ares, aresL, ares1, aresOk, aresOk1, aop, needs, ext, aev, aconst, aput, aupd, acmp, ashift, abin, aconv, tab_5, tab_9, tab_34, tab_85, ok1, Y4, Yb, Yc, Y6, Y7, Y1, Y2, Yw, Y5, Y3, Yt, Yu, Ys, Yr, decide_true, Y0, Y8]
  ((repeat' apply And.intro) <;> try first | rfl | omega | (unfold I64; omega))
  all_goals (repeat' first | exact .refl _ | apply LeR.tup | apply Le.agg | constructor)
theorem only27_spec (b : Bytes) : ASpec Try.prog 6 [bytesA b] (.bool true) := by
  by_cases h : 12200 < (b.length : Int)
  · exact only_large27 b h
  cases hg : (tkL b).2 with
  | false => exact only_no27 b h hg
  | true => exact only_ok27 b h hg
end Go.Proofs.Ytkamcoechjdgpaa
