/-
  Several texts in one: Kf, Iy, Iz, RdI, Iw.
-/
import Derived.Test.YtkamcoechjdgpaaMg
import Derived.Test.YtkamcoechjdgpaaMh
import Derived.OpenShut
set_option maxRecDepth 20000
set_option maxHeartbeats 8000000
/-
  How wide a letter is that is an argument.
-/
namespace Go.Proofs.Ytkamcoechjdgpaa
open Go.RowKit
def wideA (a : Acc) : Prop := I64 a.by_ ∧ I64 a.view ∧ a.value.length ≤ 281474976710656
def wideVs (l : List Acc) : Prop := (∀ a ∈ l, wideA a) ∧ l.length ≤ 281474976710656
def wideRp (r : Rp) : Prop := I64 r.by_ ∧ I64 r.for_ ∧ I64 r.view ∧ r.value.length ≤ 281474976710656 ∧ wideVs r.proof
def wideRps (l : List Rp) : Prop := (∀ a ∈ l, wideRp a) ∧ l.length ≤ 281474976710656
def wideOr (o : Ord) : Prop := I64 o.a ∧ I64 o.b ∧ I64 o.kind ∧ I64 o.x ∧ I64 o.y ∧ I64 o.z ∧ o.s.length ≤ 281474976710656 ∧ o.t.length ≤ 281474976710656
structure WideL (l : Ltr) : Prop where
  kind : I64 l.kind
  frm : I64 l.frm
  slot : I64 l.slot
  view : I64 l.view
  value : l.value.length ≤ 281474976710656
  cert : wideRps l.cert
  vote : wideA l.vote
  proof : wideVs l.proof
  r : wideRp l.r
  sum : l.sum.length = 32
  o : wideOr l.o
  x : wideR l.x
theorem wideVs.ty {l : List Acc} (h : wideVs l) : ∀ a ∈ l, I64 a.by_ ∧ I64 a.view := fun a ha => ⟨(h.1 a ha).1, (h.1 a ha).2.1⟩
theorem WideL.ty {l : Ltr} (h : WideL l) : TyL l := by
  refine ⟨h.kind, h.frm, h.slot, h.view, fun r hr => ?_, ⟨h.vote.1, h.vote.2.1⟩, h.proof.ty, ⟨h.r.1, h.r.2.1, h.r.2.2.1, h.r.2.2.2.2.ty⟩, h.sum, ⟨h.o.1, h.o.2.1, h.o.2.2.1, h.o.2.2.2.1, h.o.2.2.2.2.1, h.o.2.2.2.2.2.1⟩, ⟨h.x.1, h.x.2.1, h.x.2.2.1, h.x.2.2.2.1⟩⟩
  have := h.cert.1 r hr
  exact ⟨this.1, this.2.1, this.2.2.1, this.2.2.2.2.ty⟩
theorem WideL.proofs {l : Ltr} (h : WideL l) : ∀ r ∈ l.cert ++ [l.r], r.proof.length ≤ 281474976710656 := by
  intro r hr
  rcases List.mem_append.1 hr with hr | hr
  · exact (h.cert.1 r hr).2.2.2.2.2
  · simp only [List.mem_singleton] at hr
    subst hr
    exact h.r.2.2.2.2.2
end Go.Proofs.Ytkamcoechjdgpaa
/-
  Package wire: the bytes of a letter; the letter of bytes; the law's live question.
-/
namespace Go.Proofs.Ytkamcoechjdgpaa
open Go.RowKit
theorem AskL.of_few {l : Ltr} (h : WideL l) (hf : fewL l = true) : AskL l := ⟨h.sum, by have := few_names hf; omega, few_sm hf h.ty⟩
theorem AskL.of_good {l : Ltr} (h : Good l) (hw : (wrL l).length ≤ 15000) : AskL l := ⟨h.ty.2.2.2.2.2.2.2.2.1, by have := h.names; omega, fun _ => h.sm hw⟩
theorem AskL.good {l : Ltr} (h : AskL l) (hg : Good l) : smL l := h.sm hg.sh
theorem enc27_ok (l : Ltr) (h : AskL l) (hg : Good l) : ASpec Try.prog 29 [.agg (letC l)] (.tup [bytesA (wrL l), .int .i64 0]) := by
  have hm := may27_spec l h
  rw [hg.may] at hm
  have hw := wr_spec l hg.1 (h.good hg)
  have ab := arg_bel l 0
  have xfull := let_full l h.sum
  have xlen := let_len l h.sum
  generalize letC l = cs at *
  refine ⟨⟨_, Try.func29, by kernel_rfl, rfl⟩, ACall.of Try.func29 rfl fun c0 hc0 => ?_⟩; simp only [Try.ntmps29, Ya, Y9, Nat.reduceAdd, Nat.reduceSub, Ym, Yn, Y5, Y3]; refine Run.god tab_ok follows_ok Try.func29 60 ?_; simp only [xfull, xlen, drun, aops, aone, aop, needs, ext, aev, aconst, aput, aupd, aload, tab_83, ok1, cellsAs, TI.agg, AV.cells, AV.whole, Y4, Yb, Yc, Y6, Y7, Y9, Y1, Y2, Yi, Y5, Y3, Yt, Ys, Yr, Yp, Yv, Y0, Y8]
  refine Ops.pure .free rfl rfl (hm) (by simp only [aev, Y4, Y1, Y2, Yf, Ye, Y3, Yd, Y0]; (repeat' first | exact .refl _ | apply LeR.tup | apply Le.agg | constructor)) ab rfl ?_
  refine Ops.god tab_ok follows_ok Try.func29 60 ?_; simp only [xfull, xlen, ↓alt_f, drun, aops, aone, aop, needs, ext, aev, aput, aupd, aload, tab_83, ok1, cellsAs, TI.agg, Y4, Yb, Yc, Y6, Y7, Y1, Y2, Yi, Y5, Y3, Yt, Ys, Yr, Yp, Bool.not_true, Yv, Y0, Y8]
  refine Ops.pure .free rfl rfl (hw) (by simp only [aev, Y4, Y1, Y2, Yf, Ye, Y3, Yd, Y0]; (repeat' first | exact .refl _ | apply LeR.tup | apply Le.agg | constructor)) ab rfl ?_
  refine Ops.god tab_ok follows_ok Try.func29 60 ?_; simp only [Try.results29, drun, aops, aone, afin, ares, aresL, ares1, aresOk, aresOk1, aop, needs, ext, aev, aconst, aput, aupd, ok1, Y4, Yb, Yc, Y6, Y7, Y1, Y2, Y5, Y3, Yt, Yu, Yr, Y0, Y8]
  ((repeat' apply And.intro) <;> try first | rfl | omega | (unfold I64; omega))
  (repeat' first | exact .refl _ | apply LeR.tup | apply Le.agg | constructor)
theorem enc27_no (l : Ltr) (h : AskL l) (hg : ¬ Good l) : ASpec Try.prog 29 [.agg (letC l)] (.tup [.nils, .int .i64 1]) := by
  have hm := may27_spec l h
  rw [not_may hg] at hm
  have ab := arg_bel l 0
  have xfull := let_full l h.sum
  have xlen := let_len l h.sum
  generalize letC l = cs at *
  refine ⟨⟨_, Try.func29, by kernel_rfl, rfl⟩, ACall.of Try.func29 rfl fun c0 hc0 => ?_⟩; simp only [Try.ntmps29, Ya, Y9, Nat.reduceAdd, Nat.reduceSub, Ym, Yn, Y5, Y3]; refine Run.god tab_ok follows_ok Try.func29 60 ?_; simp only [xfull, xlen, drun, aops, aone, aop, needs, ext, aev, aconst, aput, aupd, aload, tab_83, ok1, cellsAs, TI.agg, AV.cells, AV.whole, Y4, Yb, Yc, Y6, Y7, Y9, Y1, Y2, Yi, Y5, Y3, Yt, Ys, Yr, Yp, Yv, Y0, Y8]
  refine Ops.pure .free rfl rfl (hm) (by simp only [aev, Y4, Y1, Y2, Yf, Ye, Y3, Yd, Y0]; (repeat' first | exact .refl _ | apply LeR.tup | apply Le.agg | constructor)) ab rfl ?_
  refine Ops.god tab_ok follows_ok Try.func29 60 ?_; simp only [Try.results29, ↓alt_t, drun, aops, aone, afin, ares, aresL, ares1, aresOk, aresOk1, aop, needs, ext, aev, aconst, aput, aupd, ok1, Y4, Yb, Yc, Y6, Y7, Y1, Y2, Y5, Y3, Yt, Yu, Yr, Bool.not_false, Y0, Y8]
  ((repeat' apply And.intro) <;> try first | rfl | omega | (unfold I64; omega))
  (repeat' first | exact .refl _ | apply LeR.tup | apply Le.agg | constructor)
theorem dec27_ok (b : Bytes) (hb : b.length ≤ 1000000) (ha : AskL (tkL b).1) (hg : (tkL b).2 = true) : ASpec Try.prog 31 [bytesA b] (.tup [.agg (letC (tkL b).1), .int .i64 0]) := by
  obtain ⟨g, w⟩ := tk_only b hg
  have ht := tk_spec b (by omega)
  rw [hg] at ht
  have hm := may27_spec (tkL b).1 ha
  rw [g.may] at hm
  have ab := arg_bel (tkL b).1 0
  have rb : AV.bel 0 (.tup [.agg (letC (tkL b).1), .bool true]) = true := by
    show (AV.bel 0 (.agg (letC (tkL b).1)) && true) = true
    rw [Bool.and_true]
    exact let_bel _ 0
  have xfull := let_full (tkL b).1 (tk_sum b)
  have xlen := let_len (tkL b).1 (tk_sum b)
  generalize letC (tkL b).1 = cs at *
  refine ⟨⟨_, Try.func31, by kernel_rfl, rfl⟩, ACall.of Try.func31 rfl fun c0 hc0 => ?_⟩; simp only [Try.ntmps31, Ya, Y9, Nat.reduceAdd, Nat.reduceSub, Ym, Yn, Y5, Y3]; refine Run.god tab_ok follows_ok Try.func31 60 ?_; simp only [bytesA, drun, aops, aone, aop, needs, ext, aev, aconst, aput, aupd, tab_83, ok1, Y4, Yc, Y6, Y7, Y9, Y1, Y5, Y3, Yt, Ys, Yr, Yp, Y0, Y8]
  refine Ops.pure .free rfl rfl (ht) (by simp only [bytesA, aev, Y4, Y1, Y2, Yf, Ye, Y3, Yd, Y0]; (repeat' first | exact .refl _ | apply LeR.tup | apply Le.agg | constructor)) rfl rb ?_
  refine Ops.god tab_ok follows_ok Try.func31 60 ?_; simp only [xfull, xlen, ↓alts_f, ↓gone_ff, gslot, drun, aops, aone, aop, needs, ext, aev, aput, aupd, aload, astore, tab_83, ok1, lay, cellsAs, TI.agg, AV.cells, AV.whole, Y4, Yb, Yc, Y6, Y7, Ya, Y9, Y1, Y2, Yw, Yi, Yh, Yj, Yl, Y5, Y3, Yd, Yt, Yu, Ys, Yr, Nat.reduceAdd, Yp, Bool.not_true, Yv, Y0, Y8]
  ((repeat' apply And.intro) <;> try first | rfl | omega | (unfold I64; omega))
  refine Ops.pure (Wanted.test 2 false false rfl) rfl rfl (hm) (by simp only [aev, Y4, Y1, Y2, Yf, Ye, Y3, Yd, Y0]; (repeat' first | exact .refl _ | apply LeR.tup | apply Le.agg | constructor)) ab rfl ?_
  refine Ops.god tab_ok follows_ok Try.func31 60 ?_; simp only [Try.results31, xfull, xlen, ↓alt_f, ↓alts_f, ↓gone_ff, gslot, drun, aops, aone, afin, ares, aresL, ares1, aresOk, aresOk1, aop, needs, ext, aev, aconst, aput, aupd, aload, astore, tab_83, ok1, lay, cellsAs, TI.agg, AV.cells, AV.whole, Y4, Yb, Yc, Y6, Y7, Ya, Y9, Y1, Y2, Yw, Yi, Yh, Yj, Yl, Y5, Y3, Yd, Yt, Yu, Ys, Yr, Nat.reduceAdd, Yp, Bool.not_true, Yv, Y0, Y8]
  ((repeat' apply And.intro) <;> try first | rfl | omega | (unfold I64; omega))
  all_goals (repeat' first | exact .refl _ | apply LeR.tup | apply Le.agg | constructor)
theorem dec27_no (b : Bytes) (hb : b.length ≤ 1000000) (hg : (tkL b).2 = false) : ASpec Try.prog 31 [bytesA b] (.tup [.agg (letC zL), .int .i64 3]) := by
  have ht := tk_spec b (by omega)
  rw [hg] at ht
  have rb : AV.bel 0 (.tup [.agg (letC (tkL b).1), .bool false]) = true := by
    show (AV.bel 0 (.agg (letC (tkL b).1)) && true) = true
    rw [Bool.and_true]
    exact let_bel _ 0
  have xfull := let_full (tkL b).1 (tk_sum b)
  have xlen := let_len (tkL b).1 (tk_sum b)
  generalize letC (tkL b).1 = cs at *
  have hz := zL_le
  refine ⟨⟨_, Try.func31, by kernel_rfl, rfl⟩, ACall.of Try.func31 rfl fun c0 hc0 => ?_⟩; simp only [Try.ntmps31, Ya, Y9, Nat.reduceAdd, Nat.reduceSub, Ym, Yn, Y5, Y3]; refine Run.god tab_ok follows_ok Try.func31 60 ?_; simp only [bytesA, drun, aops, aone, aop, needs, ext, aev, aconst, aput, aupd, tab_83, ok1, Y4, Yc, Y6, Y7, Y9, Y1, Y5, Y3, Yt, Ys, Yr, Yp, Y0, Y8]
  refine Ops.pure .free rfl rfl (ht) (by simp only [bytesA, aev, Y4, Y1, Y2, Yf, Ye, Y3, Yd, Y0]; (repeat' first | exact .refl _ | apply LeR.tup | apply Le.agg | constructor)) rfl rb ?_
  refine Ops.god tab_ok follows_ok Try.func31 60 ?_; simp only [Try.results31, xlen, ↓alt_t, ↓alts_t, ↓gone_ft, gslot, drun, aops, aone, afin, ares, aresL, ares1, aresOk, aresOk1, aop, needs, ext, aev, aconst, aput, aupd, aload, astore, abuild, tab_83, ok1, lay, cellsAs, TI.agg, AV.cells, AV.whole, Y4, Yb, Yc, Y6, Y7, Ya, Y9, Y1, Y2, Yw, Yi, Yh, Yg, Yj, Yk, Yl, Ye, Y5, Y3, Yd, Yt, Yu, Ys, Yr, Nat.reduceAdd, Yp, Bool.not_false, Yv, Y0, Y8]
  ((repeat' apply And.intro) <;> try first | rfl | omega | (unfold I64; omega))
  all_goals (first | (refine LeR.tup (LeL.cons (Le.agg ?_) (LeL.cons (Le.refl _) LeL.nil)); exact hz) | skip)
end Go.Proofs.Ytkamcoechjdgpaa
/-
  Letters of numbers alone; the law's live question.
-/
namespace Go.Proofs.Ytkamcoechjdgpaa
open Go.RowKit
def kL (k f s v : Int) : Ltr := { zL with kind := k, frm := f, slot := s, view := v }
theorem kL_le (k f s v : Int) : Le1L ([.int .i64 k, .int .i64 f, .int .i64 s, .int .i64 v, .str [], .nils] ++ (accC zA ++ (.nils :: (rpZ ++ (sumC zM ++ (ordC zO ++ [.int .i64 0, .int .i64 0, .int .i64 0, .str [], .int .i64 0, .nils])))))) (letC (kL k f s v)) := by
  (repeat' (first | exact Le1L.nil | exact Le1.refl _ | exact Le1.nil _ | apply Le1L.cons | exact le1l_refl _))
theorem kL_ty {k f s v : Int} (hk : I64 k) (hf : I64 f) (hs : I64 s) (hv : I64 v) : TyL (kL k f s v) := by
  have hz : I64 0 := zI
  exact ⟨hk, hf, hs, hv, fun r hr => absurd hr (by simp [kL, zL]), ⟨hz, hz⟩, fun r hr => absurd hr (by simp [kL, zL]), ⟨hz, hz, hz, fun r hr => absurd hr (by simp [kL, zL])⟩, rfl, ⟨hz, hz, hz, hz, hz, hz⟩, ⟨hz, hz, hz, hz⟩⟩
theorem kL_ask {k f s v : Int} (hk : I64 k) (hf : I64 f) (hs : I64 s) (hv : I64 v) : AskL (kL k f s v) := ⟨rfl, by show 0 ≤ 100000000; omega, fun h => few_sm (by rfl) (kL_ty hk hf hs hv) h⟩
theorem kL_sl {k f s v : Int} (h8 : ¬ k = 8) (hf : I64 f) (hs : I64 s) (hv : I64 v) : SL (kL k f s v) := ⟨hf, hs, hv, zTx, zSC, zSA, zSV, zSR, rfl, fun h => absurd h h8, zSO, zSX⟩
theorem i64_lit (n : Int) (h : -9223372036854775808 ≤ n ∧ n ≤ 9223372036854775807) : I64 n := h
def b0 : Bytes := [1, 20, 1, 4, 1, 10]
theorem live_b : bytesOf [byteC 1, byteC 20, byteC 1, byteC 4, byteC 1, byteC 10] = [1, 20, 1, 4, 1, 10] := bytesOf_map b0
theorem live_tk : tkL b0 = (kL 10 2 5 0, true) := by kernel_rfl
theorem live_good : Good (kL 10 2 5 0) ∧ wrL (kL 10 2 5 0) = b0 := by
  have := tk_only b0 (by rw [live_tk])
  rw [live_tk] at this
  exact this
theorem live_bad : ¬ Good (kL 10 0 0 1) := fun h => by
  have := h.2.1
  rw [useL_10 _ rfl] at this
  exact absurd (congrArg Ltr.view this) (by decide)
theorem alive27_spec : ASpec Try.prog 28 [] (.bool true) := by
  have hi : ∀ n : Int, -9223372036854775808 ≤ n ∧ n ≤ 9223372036854775807 → I64 n := i64_lit
  obtain ⟨g, w⟩ := live_good
  have a0 : AskL (kL 10 2 5 0) := kL_ask (hi _ (by omega)) (hi _ (by omega)) (hi _ (by omega)) (hi _ (by omega))
  have a1 : AskL (kL 10 0 0 1) := kL_ask (hi _ (by omega)) (hi _ (by omega)) (hi _ (by omega)) (hi _ (by omega))
  have e0 := enc27_ok _ a0 g
  have e1 := enc27_no _ a1 live_bad
  have d0 := dec27_ok b0 (by decide) (by rw [live_tk]; exact a0) (by rw [live_tk])
  have s0 := same27_spec (kL 10 2 5 0) (kL 10 2 5 0) rfl rfl (fun r hr => by
      rcases List.mem_append.1 hr with hr | hr
      · exact absurd hr (by simp [kL, zL])
      · rw [List.mem_singleton] at hr; subst hr; exact Nat.zero_le _) (Nat.zero_le _) (Nat.zero_le _) (Nat.zero_le _) (Nat.zero_le _)
  rw [decide_eq_true rfl] at s0
  rw [w] at e0
  rw [live_tk] at d0
  have z0 := kL_le 10 2 5 0
  have z1 := kL_le 10 0 0 1
  have ab := arg_bel (kL 10 2 5 0) 0
  have ab1 := arg_bel (kL 10 0 0 1) 0
  have ab2 := arg2_bel (kL 10 2 5 0) (kL 10 2 5 0) 0
  have rb : AV.bel 0 (.tup [.agg (letC (kL 10 2 5 0)), .int .i64 0]) = true := by
    show (AV.bel 0 (.agg (letC (kL 10 2 5 0))) && true) = true
    rw [Bool.and_true]
    exact let_bel _ 0
  have xfull := let_full (kL 10 2 5 0) rfl
  have xlen := let_len (kL 10 2 5 0) rfl
  simp only at d0
  generalize letC (kL 10 2 5 0) = cs at *
  generalize letC (kL 10 0 0 1) = cs1 at *
  refine ⟨⟨_, Try.func28, by kernel_rfl, rfl⟩, ACall.of Try.func28 rfl fun c0 hc0 => ?_⟩; simp only [Try.ntmps28, Y9, Nat.reduceSub, Ym, Yn, Y3]; refine Run.god tab_ok follows_ok Try.func28 60 ?_; simp only [drun, aops, aone, aop, needs, ext, aev, aconst, aput, aupd, aload, astore, abuild, tab_3, tab_83, ok1, lay, cellsAs, TI.agg, AV.cells, AV.whole, Y4, Yb, Yc, Y6, Y7, Ya, Y9, Y1, Y2, Yi, Yh, Yg, Yj, Yk, Yl, Yf, Ye, Y5, Y3, Yd, Yt, Yu, Ys, Yr, Nat.reduceAdd, Nat.reduceLeDiff, Yp, Yv, Y0, Y8]
  refine Ops.pure .free rfl rfl e0 (LeL.cons (Le.agg z0) LeL.nil) ab rfl ?_
  refine Ops.god tab_ok follows_ok Try.func28 60 ?_; simp only [bytesA, drun, aops, aone, aop, needs, ext, aev, aput, aupd, ok1, Y4, Yc, Y6, Y7, Y1, Y2, Y5, Y3, Yt, Yr, Yp, Y0, Y8]
  ((repeat' apply And.intro) <;> try first | rfl | omega | (unfold I64; omega))
  refine Ops.pure .free rfl rfl d0 (by simp only [aev, Y4, Y1, Y2, Yf, Ye, Y3, Yd, Y0, bytesA]; (repeat' first | exact .refl _ | apply LeR.tup | apply Le.agg | constructor)) rfl rb ?_
  refine Ops.god tab_ok follows_ok Try.func28 60 ?_; simp only [xlen, drun, aops, aone, aop, needs, ext, aev, aconst, aput, aupd, astore, abuild, tab_3, tab_83, ok1, lay, AV.cells, AV.whole, Y4, Yb, Yc, Y6, Y7, Ya, Y9, Y1, Y2, Yi, Yh, Yg, Yj, Yl, Yf, Ye, Y5, Y3, Yd, Yt, Yu, Ys, Yr, Nat.reduceAdd, Nat.reduceLeDiff, Yp, Yv, Y0, Y8]
  ((repeat' apply And.intro) <;> try first | rfl | omega | (unfold I64; omega))
  refine Ops.pure .free rfl rfl e1 (LeL.cons (Le.agg z1) LeL.nil) ab1 rfl ?_
  refine Ops.god tab_ok follows_ok Try.func28 60 ?_; simp only [xfull, xlen, b0, live_b, ↓alts_t, ↓gone_tt, gslot, drun, aops, aone, aop, needs, ext, aev, aconst, aput, aupd, aload, acmp, ashift, abin, aconv, tab_5, tab_9, tab_34, tab_83, tab_85, ok1, cellsAs, TI.agg, Y4, Yb, Yc, Y6, Y7, Ya, Y9, Y1, Y2, Yw, Yi, Yg, Yk, Yf, Ye, Y5, Y3, Yt, Ys, Yr, Nat.reduceAdd, Yp, decide_true, Yv, Y0, Y8]
  ((repeat' apply And.intro) <;> try first | rfl | omega | (unfold I64; omega))
  refine Ops.pure (Wanted.test 11 true true rfl) rfl rfl s0 (by simp only [aev, Y4, Y1, Y2, Yf, Ye, Y3, Yd, Y0]; exact LeL.cons (Le.agg z0) (LeL.cons (Le.refl _) LeL.nil)) ab2 rfl ?_
  refine Ops.god tab_ok follows_ok Try.func28 60 ?_; simp only [Try.results28, ↓alts_t, ↓gone_tt, gslot, drun, aops, aone, afin, ares, aresL, ares1, aresOk, aresOk1, aop, needs, ext, aev, aconst, aput, aupd, acmp, ashift, abin, tab_34, ok1, Y4, Yb, Yc, Y6, Y7, Y1, Y2, Yw, Y5, Y3, Yt, Yu, Ys, Yr, decide_true, Y0, Y8]
  ((repeat' apply And.intro) <;> try first | rfl | omega | (unfold I64; omega))
  all_goals (repeat' first | exact .refl _ | apply LeR.tup | apply Le.agg | constructor)
end Go.Proofs.Ytkamcoechjdgpaa
/-
  A letter, as an argument.
-/
namespace Go.Proofs.Ytkamcoechjdgpaa
open Go.ChangeShapes Go.WideShapes Go.ChangeAt Go.RowKit Go.Deep
theorem reads_array {P : Program} {E : List AV → Prop} {t e : TypeId} {k m : Nat} (ht : P.underlying t = some (.array m e)) (hk : P.cellsOf e = k) (hc : P.cellsOf t = m * k) (hR : Reads P e E) :
    Reads P t fun cl => ∃ cls : List (List AV), cl = cls.flatten ∧ cls.length = m ∧ ∀ x ∈ cls, E x := fun enc w base sp hd n cs x h hr hz => by
  obtain ⟨xs, q, _, rfl, hlen, hxl, hg⟩ := DataW.trod_array ht h
  unfold InReach at hr
  simp only [DataW.weights, ht] at hr
  have key : ∀ j, j ≤ m → ∃ cls : List (List AV), cls.length = j ∧ RdAt w (cs.take (j * k)) cls.flatten ∧ ∀ x ∈ cls, E x := by
    intro j
    induction j with
    | zero => exact fun _ => ⟨[], rfl, by simpa using RdAt.nil, by simp⟩
    | succ j ih =>
      intro hj
      obtain ⟨cls, h1, h2, h3⟩ := ih (by omega)
      have hjl : j < xs.length := by omega
      have h4 := hg j (by omega)
      rw [List.getElem?_eq_getElem hjl, hk] at h4
      obtain ⟨a, r1, e1⟩ := hR enc w base sp hd q _ _ h4 (inReach_all (List.mem_map.2 ⟨xs[j], List.getElem_mem hjl, rfl⟩) hr) (nfSub hz fun y hy => List.mem_flatMap.2 ⟨xs[j], List.getElem_mem hjl, hy⟩)
      refine ⟨cls ++ [a], by simp [h1], ?_, fun x hx => ?_⟩
      · have : cs.take ((j + 1) * k) = cs.take (j * k) ++ (cs.drop (j * k)).take k := by rw [Nat.succ_mul, List.take_add]
        rw [this, List.flatten_append]
        simpa using h2.app r1
      · rcases List.mem_append.1 hx with hx | hx
        · exact h3 x hx
        · simp at hx; subst hx; exact e1
  obtain ⟨cls, h1, h2, h3⟩ := key m (Nat.le_refl _)
  refine ⟨cls.flatten, ?_, cls, rfl, h1, h3⟩
  rw [← hc, ← hlen, List.take_length] at h2
  exact h2
def intE (cl : List AV) : Prop := ∃ n, cl = [.int .i64 n] ∧ (Lit.int .i64 n).wf = true
def strE (cl : List AV) : Prop := ∃ s : Bytes, cl = [.str s] ∧ s.length ≤ reachBytes
def boolE (cl : List AV) : Prop := ∃ b, cl = [.bool b]
theorem reads_acc : Reads Try.prog 77 fun cl => ∃ a : Acc, cl = accC a ∧ wideA a :=
  Reads.mono (reads_struct (Es := [(1, intE), (1, intE), (1, strE)]) Try.underlying77
    ⟨rfl, by kernel_rfl, reads_int Try.underlying3, rfl, by kernel_rfl, reads_int Try.underlying3, rfl, by kernel_rfl, reads_str Try.underlying9, trivial⟩ (by kernel_rfl)) fun cl => by
    rintro ⟨_, _, rfl, ⟨a, rfl, ha⟩, _, _, rfl, ⟨b, rfl, hb⟩, _, _, rfl, ⟨s, rfl, hs⟩, rfl⟩
    unfold reachBytes at hs
    exact ⟨⟨a, b, s⟩, rfl, wf64 ha, wf64 hb, by show s.length ≤ _; omega⟩
theorem reads_votes : Reads Try.prog 78 fun cl => ∃ l : List Acc, cl = [votesA l] ∧ wideVs l :=
  Reads.mono (reads_slice Try.underlying78 (k := 3) (bytes := 32) (by kernel_rfl) (by kernel_rfl) (by omega) reads_acc) fun cl => by
    rintro ⟨l, rfl, hl, hn⟩
    obtain ⟨b, rfl, hb⟩ := list_of hl
    unfold reachBytes at hn
    rw [List.length_map] at hn
    exact ⟨b, rfl, hb, by omega⟩
theorem reads_rp : Reads Try.prog 80 fun cl => ∃ r : Rp, cl = rpC r ∧ wideRp r :=
  Reads.mono (reads_struct (Es := [(1, intE), (1, intE), (1, boolE), (1, intE), (1, strE), (1, fun cl => ∃ l : List Acc, cl = [votesA l] ∧ wideVs l)]) Try.underlying80
    ⟨rfl, by kernel_rfl, reads_int Try.underlying3, rfl, by kernel_rfl, reads_int Try.underlying3, rfl, by kernel_rfl, reads_bool Try.underlying4, rfl, by kernel_rfl, reads_int Try.underlying3, rfl, by kernel_rfl, reads_str Try.underlying9, rfl, by kernel_rfl, reads_votes, trivial⟩ (by kernel_rfl)) fun cl => by
    rintro ⟨_, _, rfl, ⟨a, rfl, ha⟩, _, _, rfl, ⟨b, rfl, hb⟩, _, _, rfl, ⟨h, rfl⟩, _, _, rfl, ⟨c, rfl, hc⟩, _, _, rfl, ⟨s, rfl, hs⟩, _, _, rfl, ⟨l, rfl, hl⟩, rfl⟩
    unfold reachBytes at hs
    exact ⟨⟨a, b, h, c, s, l⟩, rfl, wf64 ha, wf64 hb, wf64 hc, by show s.length ≤ _; omega, hl⟩
theorem reads_rps : Reads Try.prog 75 fun cl => ∃ l : List Rp, cl = [rpsA l] ∧ wideRps l :=
  Reads.mono (reads_slice Try.underlying75 (k := 6) (bytes := 72) (by kernel_rfl) (by kernel_rfl) (by omega) reads_rp) fun cl => by
    rintro ⟨l, rfl, hl, hn⟩
    obtain ⟨b, rfl, hb⟩ := list_of hl
    unfold reachBytes at hn
    rw [List.length_map] at hn
    exact ⟨b, rfl, hb, by omega⟩
def ordE (cl : List AV) : Prop := ∃ o : Ord, cl = ordC o ∧ wideOr o
def rplE (cl : List AV) : Prop := ∃ r : Rpl, cl = rplC r ∧ wideR r
def sumE (cl : List AV) : Prop := ∃ s : Bytes, cl = sumC s ∧ s.length = 32
theorem reads_texts : Reads Try.prog 41 fun cl => ∃ l : List Bytes, cl = [textsA l] ∧ (∀ t ∈ l, t.length ≤ reachBytes) ∧ l.length * 16 ≤ reachBytes :=
  Reads.mono (reads_slice Try.underlying41 (k := 1) (bytes := 16) (by kernel_rfl) (by kernel_rfl) (by omega) (reads_str Try.underlying9)) fun cl => by
    rintro ⟨l, rfl, hl, hn⟩
    obtain ⟨b, rfl, hb⟩ := list_of (f := textC) (Q := fun s : Bytes => s.length ≤ reachBytes) hl
    exact ⟨b, rfl, hb, by simpa using hn⟩
theorem reads_ord : Reads Try.prog 29 ordE :=
  Reads.mono (reads_struct (Es := [(1, intE), (1, intE), (1, intE), (1, strE), (1, strE), (1, intE), (1, intE), (1, intE)]) Try.underlying29
    ⟨rfl, by kernel_rfl, reads_int Try.underlying3, rfl, by kernel_rfl, reads_int Try.underlying3, rfl, by kernel_rfl, reads_int Try.underlying3, rfl, by kernel_rfl, reads_str Try.underlying9, rfl, by kernel_rfl, reads_str Try.underlying9, rfl, by kernel_rfl, reads_int Try.underlying3, rfl, by kernel_rfl, reads_int Try.underlying3, rfl, by kernel_rfl, reads_int Try.underlying3, trivial⟩ (by kernel_rfl)) fun cl => by
    rintro ⟨_, _, rfl, ⟨a, rfl, ha⟩, _, _, rfl, ⟨b, rfl, hb⟩, _, _, rfl, ⟨k, rfl, hk⟩, _, _, rfl, ⟨s, rfl, hs⟩, _, _, rfl, ⟨t, rfl, ht⟩, _, _, rfl, ⟨x, rfl, hx⟩, _, _, rfl, ⟨y, rfl, hy⟩, _, _, rfl, ⟨z, rfl, hz⟩, rfl⟩
    unfold reachBytes at hs ht
    exact ⟨⟨a, b, k, s, t, x, y, z⟩, rfl, wf64 ha, wf64 hb, wf64 hk, wf64 hx, wf64 hy, wf64 hz, by show s.length ≤ _; omega, by show t.length ≤ _; omega⟩
theorem reads_rpl : Reads Try.prog 43 rplE :=
  Reads.mono (reads_struct (Es := [(1, intE), (1, intE), (1, intE), (1, strE), (1, intE), (1, fun cl => ∃ l : List Bytes, cl = [textsA l] ∧ (∀ t ∈ l, t.length ≤ reachBytes) ∧ l.length * 16 ≤ reachBytes)]) Try.underlying43
    ⟨rfl, by kernel_rfl, reads_int Try.underlying3, rfl, by kernel_rfl, reads_int Try.underlying3, rfl, by kernel_rfl, reads_int Try.underlying34, rfl, by kernel_rfl, reads_str Try.underlying9, rfl, by kernel_rfl, reads_int Try.underlying3, rfl, by kernel_rfl, reads_texts, trivial⟩ (by kernel_rfl)) fun cl => by
    rintro ⟨_, _, rfl, ⟨a, rfl, ha⟩, _, _, rfl, ⟨b, rfl, hb⟩, _, _, rfl, ⟨e, rfl, he⟩, _, _, rfl, ⟨s, rfl, hs⟩, _, _, rfl, ⟨x, rfl, hx⟩, _, _, rfl, ⟨l, rfl, hl, hn⟩, rfl⟩
    unfold reachBytes at hs hl hn
    exact ⟨⟨a, b, e, s, x, l⟩, rfl, wf64 ha, wf64 hb, wf64 he, wf64 hx, by show s.length ≤ _; omega, fun t ht => by have := hl t ht; omega, by show l.length ≤ _; omega⟩
theorem reads_bytes' : Reads Try.prog 85 fun cl => ∃ b : Bytes, cl = [bytesA b] ∧ b.length ≤ reachBytes := reads_bytes Try.underlying85 Try.underlying5 (by kernel_rfl) (by kernel_rfl)
theorem sum_of : ∀ cls : List (List AV), (∀ x ∈ cls, ∃ c, x = byteC c) → ∃ s : Bytes, cls.flatten = sumC s ∧ s.length = cls.length
  | [], _ => ⟨[], rfl, rfl⟩
  | x :: cls, h => by
    obtain ⟨c, rfl⟩ := h x List.mem_cons_self
    obtain ⟨s, h1, h2⟩ := sum_of cls fun y hy => h y (List.mem_cons_of_mem _ hy)
    exact ⟨c :: s, by rw [List.flatten_cons, h1]; rfl, by simp [h2]⟩
theorem reads_hash : Reads Try.prog 81 sumE :=
  Reads.mono (reads_array Try.underlying81 (k := 1) (m := 32) (by kernel_rfl) (by kernel_rfl) (reads_byte Try.underlying5)) fun cl => by
    rintro ⟨cls, rfl, h1, h2⟩
    obtain ⟨s, e1, e2⟩ := sum_of cls h2
    exact ⟨s, e1, by omega⟩
theorem reads_letter : Reads Try.prog 83 fun cl => ∃ l : Ltr, cl = letC l ∧ WideL l :=
  Reads.mono (reads_struct (Es := [(1, intE), (1, intE), (1, intE), (1, intE), (1, strE), (1, fun cl => ∃ l : List Rp, cl = [rpsA l] ∧ wideRps l), (3, fun cl => ∃ a : Acc, cl = accC a ∧ wideA a), (1, fun cl => ∃ l : List Acc, cl = [votesA l] ∧ wideVs l), (6, fun cl => ∃ r : Rp, cl = rpC r ∧ wideRp r), (32, sumE), (8, ordE), (6, rplE)]) Try.underlying83
    ⟨rfl, by kernel_rfl, reads_int Try.underlying3, rfl, by kernel_rfl, reads_int Try.underlying3, rfl, by kernel_rfl, reads_int Try.underlying3, rfl, by kernel_rfl, reads_int Try.underlying3, rfl, by kernel_rfl, reads_str Try.underlying9,
     rfl, by kernel_rfl, reads_rps, rfl, by kernel_rfl, reads_acc, rfl, by kernel_rfl, reads_votes, rfl, by kernel_rfl, reads_rp, rfl, by kernel_rfl, reads_hash, rfl, by kernel_rfl, reads_ord, rfl, by kernel_rfl, reads_rpl, trivial⟩ (by kernel_rfl)) fun cl => by
    rintro ⟨_, _, rfl, ⟨k, rfl, hk⟩, _, _, rfl, ⟨f, rfl, hf⟩, _, _, rfl, ⟨s, rfl, hs⟩, _, _, rfl, ⟨v, rfl, hv⟩, _, _, rfl, ⟨x, rfl, hx⟩, _, _, rfl, ⟨c, rfl, hc⟩, _, _, rfl, ⟨a, rfl, ha⟩, _, _, rfl, ⟨p, rfl, hp⟩, _, _, rfl, ⟨r, rfl, hr⟩, _, _, rfl, ⟨m, rfl, hm⟩, _, _, rfl, ⟨o, rfl, ho⟩, _, _, rfl, ⟨y, rfl, hy⟩, rfl⟩
    unfold reachBytes at hx
    refine ⟨⟨k, f, s, v, x, c, a, p, r, m, o, y⟩, ?_, ⟨wf64 hk, wf64 hf, wf64 hs, wf64 hv, by show x.length ≤ _; omega, hc, ha, hp, hr, hm, ho, hy⟩⟩
    simp [letC, letT]
end Go.Proofs.Ytkamcoechjdgpaa
/-
  The law's few of letters, told by its shadow.
-/
namespace Go.Proofs.Ytkamcoechjdgpaa
open Go.RowKit
theorem votes27_spec (l : List Acc) (hl : wideVs l) : ASpec Try.prog 54 [votesA l] (.int .i64 (vsum l 0)) := by
  obtain ⟨h1, h2⟩ := hl
  refine ⟨⟨_, Try.func54, by kernel_rfl, rfl⟩, ACall.of Try.func54 rfl fun c0 hc0 => ?_⟩; simp only [Try.ntmps54, Ya, Y9, Nat.reduceAdd, Nat.reduceSub, Ym, Yn, Y5, Y3]; refine Run.god tab_ok follows_ok Try.func54 60 ?_; simp only [votesA, drun, aops, aone, aop, needs, ext, aev, aconst, aput, aupd, ok1, Y6, Y7, Y3, Yt, Yr, Y8]
  refine Run.loopV (α := Nat × Int) (fun x => x.1 ≤ l.length ∧ 0 ≤ x.2 ∧ x.2 ≤ 562949953421312 ∧ vsum l 0 = vsum (l.drop x.1) x.2) (fun x => [(3, .int .i64 x.2), (4, .int .i64 x.1)]) 0 (fun _ => []) (fun x => l.length - x.1) (0, 0) ⟨Nat.zero_le _, by dsimp only; omega, by dsimp only; omega, rfl⟩ ?_ ?_
  · simp only [writes, junks, puts, hputs, List.filterMap_cons, List.filterMap_nil, Int.natCast_zero, Y6, Y7, Yk, Y5, Y3, Yd]
    (refine Weak.of (by simp [hc0]) ?_ ?_ <;> (repeat' first | exact .refl _ | exact .junk _ | exact .nil | exact .nil _ | exact .tok _ _ _ | rfl | apply WkT.cons | apply WkH.cons | apply LeB.same | apply LeB.box | apply Le1L.cons | apply Le.agg | apply Le.one))
  · rintro ⟨k, n⟩ ⟨hI, hn0, hn1, hrd⟩ ih
    simp only [writes, junks, puts, hputs, List.filterMap_cons, List.filterMap_nil, Y6, Y7, Yk, Y5, Y3, Yd] at hI hn0 hn1 hrd ih ⊢
    by_cases hk : k < l.length
    · obtain ⟨x, hx⟩ : ∃ x, l[k]? = some x := ⟨_, List.getElem?_eq_getElem hk⟩
      have hkk : (k : Int) < l.length := by omega
      have hxl := (h1 x (List.mem_of_getElem? hx)).2.2
      rw [drop_atK hx] at hrd
      by_cases hn : n ≤ 6100
      · rw [vsum, if_pos hn] at hrd
        refine Run.god tab_ok follows_ok Try.func54 60 ?_; simp only [hx, hkk, hn, accC, List.getElem?_map, Yo, decide_true, ↓alt_t, ↓alts_t, ↓gone_tt, gslot, drun, aops, aone, aop, needs, ext, aev, aconst, aput, aupd, aload, afieldAddr, aindexAddr, acmp, aarith, ashift, abin, alen, tab_3, tab_9, tab_77, tab_78, ok1, cellsAs, TI.agg, Y4, Yb, Yc, Y6, Y7, Ya, Y9, Y1, Y2, Yw, Yi, Yh, Yg, Yk, Y3, Yt, Yu, Ys, Yr, Yp, Nat.reduceLT, forall_const, reduceCtorEq, false_implies, implies_true, Yv, Int.toNat_natCast, Y0, Y8]
        ((repeat' apply And.intro) <;> try first | rfl | omega | (unfold I64; omega))
        refine ih (k + 1, n + x.value.length + 20) _ ⟨by dsimp only; omega, by dsimp only; omega, by dsimp only; omega, hrd⟩ (by dsimp only; omega) ?_
        simp only [Int.natCast_add, Int.natCast_one]
        (refine Weak.of (by simp [hc0]) ?_ ?_ <;> (repeat' first | exact .refl _ | exact .junk _ | exact .nil | exact .nil _ | exact .tok _ _ _ | rfl | apply WkT.cons | apply WkH.cons | apply LeB.same | apply LeB.box | apply Le1L.cons | apply Le.agg | apply Le.one))
      · rw [vsum, if_neg hn] at hrd
        refine Run.god tab_ok follows_ok Try.func54 60 ?_; simp only [Try.results54, hkk, hn, Yo, decide_true, decide_false, ↓alt_f, ↓alts_t, ↓gone_tt, gslot, drun, aops, aone, afin, ares, aresL, ares1, aresOk, aresOk1, aop, needs, ext, aev, aconst, aput, aupd, acmp, ashift, abin, alen, tab_3, tab_78, ok1, exitTo, Y4, Yb, Yc, Y6, Y7, Y1, Y2, Yw, Y3, Yt, Yu, Ys, Yr, beq_self_eq_true, Y0, Y8]
        rw [hrd]
        (repeat' first | exact .refl _ | apply LeR.tup | apply Le.agg | constructor)
    · obtain rfl : k = l.length := by omega
      have hkk : ¬ (l.length : Int) < l.length := by omega
      rw [List.drop_length, vsum] at hrd
      refine Run.god tab_ok follows_ok Try.func54 60 ?_; simp only [Try.results54, hkk, Yo, decide_false, ↓alt_f, ↓alts_f, ↓gone_tf, gslot, drun, aops, aone, afin, ares, aresL, ares1, aresOk, aresOk1, aop, needs, ext, aev, aconst, aput, aupd, acmp, ashift, abin, alen, tab_3, tab_78, ok1, exitTo, Y4, Yb, Yc, Y6, Y7, Y1, Y2, Yw, Y3, Yt, Yu, Ys, Yr, beq_self_eq_true, Y0, Y8]
      rw [hrd]
      (repeat' first | exact .refl _ | apply LeR.tup | apply Le.agg | constructor)
theorem vsum_wide {l : List Acc} (h : wideVs l) : 0 ≤ vsum l 0 ∧ vsum l 0 ≤ 281474976716776 := ⟨vsum_ge l 0, by have := vsum_lt 281474976710656 l 0 (fun a ha => (h.1 a ha).2.2) (by omega); omega⟩
theorem few27_spec (l : Ltr) (h : WideL l) : ASpec Try.prog 27 [.agg (letC l)] (.bool (fewL l)) := by
  have hl := h.sum
  have x0 := let_0 l
  have x4 := let_4 l
  have x5 := let_5 l
  have x8 := let_8 l
  have x9 := let_9 l
  have x10 := let_10 l
  have x14 : ((letC l).drop 14).take 1 = [.str l.r.value] := rfl
  have x15 : ((letC l).drop 15).take 1 = [votesA l.r.proof] := rfl
  have x48 := let_48 l hl
  have x51 : ((letC l).drop 51).take 1 = [.str l.o.s] := by
    rw [show 51 = 48 + 3 from rfl, ← List.drop_drop, ← List.take_append_drop 8 ((letC l).drop 48), x48]
    rfl
  have x52 : ((letC l).drop 52).take 1 = [.str l.o.t] := by
    rw [show 52 = 48 + 4 from rfl, ← List.drop_drop, ← List.take_append_drop 8 ((letC l).drop 48), x48]
    rfl
  have x56 := let_56 l hl
  have x59 : ((letC l).drop 59).take 1 = [.str l.x.s] := by
    rw [show 59 = 56 + 3 from rfl, ← List.drop_drop, ← List.take_append_drop 6 ((letC l).drop 56), x56]
    rfl
  have x61 : ((letC l).drop 61).take 1 = [textsA l.x.l] := by
    rw [show 61 = 56 + 5 from rfl, ← List.drop_drop, ← List.take_append_drop 6 ((letC l).drop 56), x56]
    rfl
  have xlen := let_len l hl
  have hbel : ∀ n, belL n (letC l) = true := (Pln.cons (fun _ => rfl) (fun _ => rfl) (fun _ => rfl) (Pln.let_ l)).1
  have v1 := votes27_spec l.proof h.proof
  have v2 := votes27_spec l.r.proof h.r.2.2.2.2
  obtain ⟨b1, b2⟩ := vsum_wide h.proof
  obtain ⟨b3, b4⟩ := vsum_wide h.r.2.2.2.2
  have w1 := h.value
  have w2 := h.vote.2.2
  have w3 := h.r.2.2.2.1
  have w4 := h.o.2.2.2.2.2.2.1
  have w5 := h.o.2.2.2.2.2.2.2
  have w6 := h.x.2.2.2.2.1
  have w7 := h.cert.2
  have w8 := h.x.2.2.2.2.2.2
  obtain ⟨n0, hn0⟩ : ∃ n0 : Int, (l.value.length : Int) + l.vote.value.length + l.r.value.length + l.o.s.length + l.o.t.length + l.x.s.length + vsum l.proof 0 + vsum l.r.proof 0 = n0 := ⟨_, rfl⟩
  have hf : fewL l = decide (nsum l.x.l (csum l.cert n0) ≤ 12200) := by unfold fewL fewN; rw [hn0]
  rw [hf]
  clear hf
  generalize hcs : letC l = cs at *
  refine ⟨⟨_, Try.func27, by kernel_rfl, rfl⟩, ACall.of Try.func27 rfl fun c0 hc0 => ?_⟩; simp only [Try.ntmps27, Ya, Y9, Nat.reduceAdd, Nat.reduceSub, Ym, Yn, Y5, Y3]; refine Run.god tab_ok follows_ok Try.func27 60 ?_; simp only [x4, x8, x9, x14, x51, x52, x59, xlen, drun, adops, adone, places, mayNeed, freeOk, rdOf, AV.id, wrOf, aops, aone, aop, needs, ext, aev, aconst, aput, aupd, aload, afieldAddr, acmp, aarith, ashift, abin, alen, tab_3, tab_9, tab_29, tab_43, tab_77, tab_78, tab_80, tab_83, ok1, cellsAs, TI.agg, AV.cells, AV.whole, Y4, Yb, Yc, Y6, Y7, Ya, Y9, Y1, Y2, Y5, Y3, Yt, Yu, Ys, Yr, Nat.reduceAdd, Nat.reduceLeDiff, Yp, Y0, Y8]
  ((repeat' apply And.intro) <;> try first | rfl | omega | (unfold I64; omega))
  refine DOps.pure rfl .free rfl rfl (v1) (by simp only [votesA, aev, Y4, Y1, Y2, Yf, Ye, Y3, Yd, Y0]; (repeat' first | exact .refl _ | apply LeR.tup | apply Le.agg | constructor)) rfl rfl ?_
  refine DOps.god tab_ok follows_ok Try.func27 60 rfl ?_; simp only [x15, xlen, adops, adone, mayNeed, freeOk, rdOf, AV.id, wrOf, aop, needs, aev, aput, aupd, aload, afieldAddr, acmp, aarith, ashift, abin, tab_3, tab_78, tab_80, tab_83, ok1, cellsAs, TI.agg, Y4, Yb, Yc, Y6, Y7, Y1, Y2, Y5, Y3, Yt, Yu, Ys, Yr, Nat.reduceAdd, Nat.reduceLeDiff, Yp, Y0, Y8]
  ((repeat' apply And.intro) <;> try first | rfl | omega | (unfold I64; omega))
  refine DOps.pure rfl .free rfl rfl (v2) (by simp only [votesA, aev, Y4, Y1, Y2, Yf, Ye, Y3, Yd, Y0]; (repeat' first | exact .refl _ | apply LeR.tup | apply Le.agg | constructor)) rfl rfl ?_
  refine DOps.god tab_ok follows_ok Try.func27 60 rfl ?_; simp only [hn0, drun, adops, adone, mayNeed, freeOk, rdOf, wrOf, aops, aone, aop, needs, ext, aev, aconst, aput, aupd, acmp, aarith, ashift, abin, tab_3, ok1, Y4, Yb, Y6, Y7, Y1, Y2, Y5, Y3, Yt, Yu, Ys, Yr, Nat.reduceAdd, Y0, Y8]
  ((repeat' apply And.intro) <;> try first | rfl | omega | (unfold I64; omega))
  refine Run.loopV (α := Nat × Int) (fun x => x.1 ≤ l.cert.length ∧ 0 ≤ x.2 ∧ x.2 ≤ 4503599627370496 ∧ csum l.cert n0 = csum (l.cert.drop x.1) x.2) (fun x => [(3, .int .i64 x.2), (4, .int .i64 x.1)]) 1 (fun _ => []) (fun x => l.cert.length - x.1) (0, n0) ⟨Nat.zero_le _, by dsimp only; omega, by dsimp only; omega, rfl⟩ ?_ ?_
  · simp only [writes, junks, puts, hputs, List.filterMap_cons, List.filterMap_nil, Int.natCast_zero, Y6, Y7, Yg, Yj, Y5, Y3, Yd]
    (refine Weak.of (by simp [hc0]) ?_ ?_ <;> (repeat' first | exact .refl _ | exact .junk _ | exact .nil | exact .nil _ | exact .tok _ _ _ | rfl | apply WkT.cons | apply WkH.cons | apply LeB.same | apply LeB.box | apply Le1L.cons | apply Le.agg | apply Le.one))
    all_goals exact hbel _
  rintro ⟨k, n⟩ ⟨hI, hm0, hm1, hrd⟩ ih
  simp only [writes, junks, puts, hputs, List.filterMap_cons, List.filterMap_nil, Y6, Y7, Yg, Yj, Y5, Y3, Yd] at hI hm0 hm1 hrd ih ⊢
  have w9 := h.x.2.2.2.2.2.1
  by_cases hk : k < l.cert.length
  · obtain ⟨x, hx⟩ : ∃ x, l.cert[k]? = some x := ⟨_, List.getElem?_eq_getElem hk⟩
    have hkk : (k : Int) < l.cert.length := by omega
    have hxw := h.cert.1 x (List.mem_of_getElem? hx)
    have hxl := hxw.2.2.2.1
    rw [drop_atK hx] at hrd
    by_cases hn : n ≤ 12200
    · rw [csum, if_pos hn] at hrd
      have v3 := votes27_spec x.proof hxw.2.2.2.2
      obtain ⟨b5, b6⟩ := vsum_wide hxw.2.2.2.2
      refine Run.god tab_ok follows_ok Try.func27 60 ?_; simp only [hx, hkk, hn, rpsA, rpC, List.getElem?_map, Yo, decide_true, x5, xlen, ↓alt_t, ↓alts_t, ↓gone_tt, gslot, drun, adops, adone, places, mayNeed, freeOk, rdOf, AV.id, wrOf, aops, aone, aop, needs, ext, aev, aconst, aput, aupd, aload, afieldAddr, aindexAddr, acmp, aarith, ashift, abin, alen, tab_3, tab_9, tab_75, tab_78, tab_80, tab_83, ok1, cellsAs, TI.agg, Y4, Yb, Yc, Y6, Y7, Ya, Y9, Y1, Y2, Yw, Yi, Yh, Yg, Yj, Yk, Y5, Y3, Yt, Yu, Ys, Yr, Nat.reduceAdd, Nat.reduceLeDiff, Yp, Nat.reduceLT, forall_const, reduceCtorEq, false_implies, implies_true, Yv, Int.toNat_natCast, Y0, Y8]
      ((repeat' apply And.intro) <;> try first | rfl | omega | (unfold I64; omega))
      refine DOps.pure rfl .free rfl rfl (v3) (by simp only [votesA, aev, Y4, Y1, Y2, Yf, Ye, Y3, Yd, Y0]; (repeat' first | exact .refl _ | apply LeR.tup | apply Le.agg | constructor)) rfl rfl ?_
      refine DOps.god tab_ok follows_ok Try.func27 60 rfl ?_; simp only [drun, adops, adone, mayNeed, freeOk, rdOf, wrOf, aops, aone, aop, needs, ext, aev, aconst, aput, aupd, acmp, aarith, ashift, abin, tab_3, ok1, Y4, Yb, Y6, Y7, Y1, Y2, Y5, Y3, Yt, Yu, Ys, Yr, Nat.reduceAdd, Y0, Y8]
      ((repeat' apply And.intro) <;> try first | rfl | omega | (unfold I64; omega))
      refine ih (k + 1, n + x.value.length + vsum x.proof 0 + 20) _ ⟨by dsimp only; omega, by dsimp only; omega, by dsimp only; omega, hrd⟩ (by dsimp only; omega) ?_
      simp only [Int.natCast_add, Int.natCast_one]
      (refine Weak.of (by simp [hc0]) ?_ ?_ <;> (repeat' first | exact .refl _ | exact .junk _ | exact .nil | exact .nil _ | exact .tok _ _ _ | rfl | apply WkT.cons | apply WkH.cons | apply LeB.same | apply LeB.box | apply Le1L.cons | apply Le.agg | apply Le.one))
      all_goals exact hbel _
    · rw [csum, if_neg hn] at hrd
      rw [hrd]
      refine Run.god tab_ok follows_ok Try.func27 60 ?_; simp only [hkk, hn, rpsA, Yo, decide_true, decide_false, x5, xlen, ↓alt_f, ↓alts_t, ↓gone_tt, gslot, drun, aops, aone, aop, needs, ext, aev, aconst, aput, aupd, aload, afieldAddr, acmp, ashift, abin, alen, tab_3, tab_75, tab_83, ok1, cellsAs, TI.agg, exitTo, Y4, Yb, Yc, Y6, Y7, Y1, Y2, Yw, Y5, Y3, Yt, Ys, Yr, Nat.reduceAdd, Nat.reduceLeDiff, Yp, beq_self_eq_true, Y0, Y8]
      refine Run.loopV (α := Nat × Int) (fun x => x.1 ≤ l.x.l.length ∧ 0 ≤ x.2 ∧ x.2 ≤ 4503599627370496 ∧ nsum l.x.l n = nsum (l.x.l.drop x.1) x.2) (fun x => [(3, .int .i64 x.2), (5, .int .i64 x.1)]) 1 (fun _ => []) (fun x => l.x.l.length - x.1) (0, n) ⟨Nat.zero_le _, by dsimp only; omega, by dsimp only; omega, rfl⟩ ?_ ?_
      · simp only [writes, junks, puts, hputs, List.filterMap_cons, List.filterMap_nil, Int.natCast_zero, Y6, Y7, Yg, Yk, Y5, Y3, Yd]
        (refine Weak.of (by simp [hc0]) ?_ ?_ <;> (repeat' first | exact .refl _ | exact .junk _ | exact .nil | exact .nil _ | exact .tok _ _ _ | rfl | apply WkT.cons | apply WkH.cons | apply LeB.same | apply LeB.box | apply Le1L.cons | apply Le.agg | apply Le.one))
        all_goals exact hbel _
      rintro ⟨k', n'⟩ ⟨hI', hm0', hm1', hrd'⟩ ih'
      simp only [writes, junks, puts, hputs, List.filterMap_cons, List.filterMap_nil, Y6, Y7, Yg, Yk, Y5, Y3, Yd] at hI' hm0' hm1' hrd' ih' ⊢
      by_cases hk' : k' < l.x.l.length
      · obtain ⟨y, hy⟩ : ∃ y, l.x.l[k']? = some y := ⟨_, List.getElem?_eq_getElem hk'⟩
        have hkk' : (k' : Int) < l.x.l.length := by omega
        have hyl := w9 y (List.mem_of_getElem? hy)
        rw [drop_atK hy] at hrd'
        by_cases hn' : n' ≤ 12200
        · rw [nsum, if_pos hn'] at hrd'
          refine Run.god tab_ok follows_ok Try.func27 60 ?_; simp only [hy, hkk', hn', textsA, textC, List.getElem?_map, Yo, decide_true, x61, xlen, ↓alt_t, ↓alts_t, ↓gone_tt, gslot, drun, aops, aone, aop, needs, ext, aev, aconst, aput, aupd, aload, afieldAddr, aindexAddr, acmp, aarith, ashift, abin, alen, tab_3, tab_9, tab_41, tab_43, tab_83, ok1, cellsAs, TI.agg, Y4, Yb, Yc, Y6, Y7, Ya, Y9, Y1, Y2, Yw, Yg, Yk, Y5, Y3, Yt, Yu, Ys, Yr, Nat.reduceAdd, Yp, Nat.reduceLT, Yv, Int.toNat_natCast, Y0, Y8]
          ((repeat' apply And.intro) <;> try first | rfl | omega | (unfold I64; omega))
          refine ih' (k' + 1, n' + y.length + 9) _ ⟨by dsimp only; omega, by dsimp only; omega, by dsimp only; omega, hrd'⟩ (by dsimp only; omega) ?_
          simp only [Int.natCast_add, Int.natCast_one]
          (refine Weak.of (by simp [hc0]) ?_ ?_ <;> (repeat' first | exact .refl _ | exact .junk _ | exact .nil | exact .nil _ | exact .tok _ _ _ | rfl | apply WkT.cons | apply WkH.cons | apply LeB.same | apply LeB.box | apply Le1L.cons | apply Le.agg | apply Le.one))
          all_goals exact hbel _
        · rw [nsum, if_neg hn'] at hrd'
          refine Run.god tab_ok follows_ok Try.func27 60 ?_; simp only [Try.results27, hkk', hn', textsA, Yo, decide_true, decide_false, x61, xlen, ↓alt_f, ↓alts_t, ↓gone_tt, gslot, drun, aops, aone, afin, ares, aresL, ares1, aresOk, aresOk1, aop, needs, ext, aev, aconst, aput, aupd, aload, afieldAddr, acmp, ashift, abin, alen, tab_3, tab_41, tab_43, tab_83, ok1, cellsAs, TI.agg, exitTo, Y4, Yb, Yc, Y6, Y7, Y1, Y2, Yw, Y5, Y3, Yt, Yu, Ys, Yr, Nat.reduceAdd, Yp, beq_self_eq_true, Yv, Y0, Y8]
          rw [hrd', decide_eq_false hn']
          (repeat' first | exact .refl _ | apply LeR.tup | apply Le.agg | constructor)
      · obtain rfl : k' = l.x.l.length := by omega
        have hkk' : ¬ (l.x.l.length : Int) < l.x.l.length := by omega
        rw [List.drop_length, nsum] at hrd'
        refine Run.god tab_ok follows_ok Try.func27 60 ?_; simp only [Try.results27, hkk', textsA, Yo, decide_false, x61, xlen, ↓alt_f, ↓alts_f, ↓gone_tf, gslot, drun, aops, aone, afin, ares, aresL, ares1, aresOk, aresOk1, aop, needs, ext, aev, aconst, aput, aupd, aload, afieldAddr, acmp, ashift, abin, alen, tab_3, tab_41, tab_43, tab_83, ok1, cellsAs, TI.agg, exitTo, Y4, Yb, Yc, Y6, Y7, Y1, Y2, Yw, Y5, Y3, Yt, Yu, Ys, Yr, Nat.reduceAdd, Yp, beq_self_eq_true, Yv, Y0, Y8]
        rw [hrd']
        (repeat' first | exact .refl _ | apply LeR.tup | apply Le.agg | constructor)
  · obtain rfl : k = l.cert.length := by omega
    have hkk : ¬ (l.cert.length : Int) < l.cert.length := by omega
    rw [List.drop_length, csum] at hrd
    rw [hrd]
    refine Run.god tab_ok follows_ok Try.func27 60 ?_; simp only [hkk, rpsA, Yo, decide_false, x5, xlen, ↓alt_f, ↓alts_f, ↓gone_tf, gslot, drun, aops, aone, aop, needs, ext, aev, aconst, aput, aupd, aload, afieldAddr, acmp, ashift, abin, alen, tab_3, tab_75, tab_83, ok1, cellsAs, TI.agg, exitTo, Y4, Yb, Yc, Y6, Y7, Y1, Y2, Yw, Y5, Y3, Yt, Ys, Yr, Nat.reduceAdd, Nat.reduceLeDiff, Yp, beq_self_eq_true, Y0, Y8]
    refine Run.loopV (α := Nat × Int) (fun x => x.1 ≤ l.x.l.length ∧ 0 ≤ x.2 ∧ x.2 ≤ 4503599627370496 ∧ nsum l.x.l n = nsum (l.x.l.drop x.1) x.2) (fun x => [(3, .int .i64 x.2), (5, .int .i64 x.1)]) 1 (fun _ => []) (fun x => l.x.l.length - x.1) (0, n) ⟨Nat.zero_le _, by dsimp only; omega, by dsimp only; omega, rfl⟩ ?_ ?_
    · simp only [writes, junks, puts, hputs, List.filterMap_cons, List.filterMap_nil, Int.natCast_zero, Y6, Y7, Yg, Yk, Y5, Y3, Yd]
      (refine Weak.of (by simp [hc0]) ?_ ?_ <;> (repeat' first | exact .refl _ | exact .junk _ | exact .nil | exact .nil _ | exact .tok _ _ _ | rfl | apply WkT.cons | apply WkH.cons | apply LeB.same | apply LeB.box | apply Le1L.cons | apply Le.agg | apply Le.one))
      all_goals exact hbel _
    rintro ⟨k', n'⟩ ⟨hI', hm0', hm1', hrd'⟩ ih'
    simp only [writes, junks, puts, hputs, List.filterMap_cons, List.filterMap_nil, Y6, Y7, Yg, Yk, Y5, Y3, Yd] at hI' hm0' hm1' hrd' ih' ⊢
    by_cases hk' : k' < l.x.l.length
    · obtain ⟨y, hy⟩ : ∃ y, l.x.l[k']? = some y := ⟨_, List.getElem?_eq_getElem hk'⟩
      have hkk' : (k' : Int) < l.x.l.length := by omega
      have hyl := w9 y (List.mem_of_getElem? hy)
      rw [drop_atK hy] at hrd'
      by_cases hn' : n' ≤ 12200
      · rw [nsum, if_pos hn'] at hrd'
        refine Run.god tab_ok follows_ok Try.func27 60 ?_; simp only [hy, hkk', hn', textsA, textC, List.getElem?_map, Yo, decide_true, x61, xlen, ↓alt_t, ↓alts_t, ↓gone_tt, gslot, drun, aops, aone, aop, needs, ext, aev, aconst, aput, aupd, aload, afieldAddr, aindexAddr, acmp, aarith, ashift, abin, alen, tab_3, tab_9, tab_41, tab_43, tab_83, ok1, cellsAs, TI.agg, Y4, Yb, Yc, Y6, Y7, Ya, Y9, Y1, Y2, Yw, Yg, Yk, Y5, Y3, Yt, Yu, Ys, Yr, Nat.reduceAdd, Yp, Nat.reduceLT, Yv, Int.toNat_natCast, Y0, Y8]
        ((repeat' apply And.intro) <;> try first | rfl | omega | (unfold I64; omega))
        refine ih' (k' + 1, n' + y.length + 9) _ ⟨by dsimp only; omega, by dsimp only; omega, by dsimp only; omega, hrd'⟩ (by dsimp only; omega) ?_
        simp only [Int.natCast_add, Int.natCast_one]
        (refine Weak.of (by simp [hc0]) ?_ ?_ <;> (repeat' first | exact .refl _ | exact .junk _ | exact .nil | exact .nil _ | exact .tok _ _ _ | rfl | apply WkT.cons | apply WkH.cons | apply LeB.same | apply LeB.box | apply Le1L.cons | apply Le.agg | apply Le.one))
        all_goals exact hbel _
      · rw [nsum, if_neg hn'] at hrd'
        refine Run.god tab_ok follows_ok Try.func27 60 ?_; simp only [Try.results27, hkk', hn', textsA, Yo, decide_true, decide_false, x61, xlen, ↓alt_f, ↓alts_t, ↓gone_tt, gslot, drun, aops, aone, afin, ares, aresL, ares1, aresOk, aresOk1, aop, needs, ext, aev, aconst, aput, aupd, aload, afieldAddr, acmp, ashift, abin, alen, tab_3, tab_41, tab_43, tab_83, ok1, cellsAs, TI.agg, exitTo, Y4, Yb, Yc, Y6, Y7, Y1, Y2, Yw, Y5, Y3, Yt, Yu, Ys, Yr, Nat.reduceAdd, Yp, beq_self_eq_true, Yv, Y0, Y8]
        rw [hrd', decide_eq_false hn']
        (repeat' first | exact .refl _ | apply LeR.tup | apply Le.agg | constructor)
    · obtain rfl : k' = l.x.l.length := by omega
      have hkk' : ¬ (l.x.l.length : Int) < l.x.l.length := by omega
      rw [List.drop_length, nsum] at hrd'
      refine Run.god tab_ok follows_ok Try.func27 60 ?_; simp only [Try.results27, hkk', textsA, Yo, decide_false, x61, xlen, ↓alt_f, ↓alts_f, ↓gone_tf, gslot, drun, aops, aone, afin, ares, aresL, ares1, aresOk, aresOk1, aop, needs, ext, aev, aconst, aput, aupd, aload, afieldAddr, acmp, ashift, abin, alen, tab_3, tab_41, tab_43, tab_83, ok1, cellsAs, TI.agg, exitTo, Y4, Yb, Yc, Y6, Y7, Y1, Y2, Yw, Y5, Y3, Yt, Yu, Ys, Yr, Nat.reduceAdd, Yp, beq_self_eq_true, Yv, Y0, Y8]
      rw [hrd']
      (repeat' first | exact .refl _ | apply LeR.tup | apply Le.agg | constructor)
end Go.Proofs.Ytkamcoechjdgpaa
