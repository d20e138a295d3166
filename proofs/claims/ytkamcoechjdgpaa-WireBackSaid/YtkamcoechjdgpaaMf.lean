/-
  Several texts in one: Ii, Ij, Ik, Il, Im, In, Io, Kc.
-/
import Derived.Test.YtkamcoechjdgpaaMe
import Derived.Test.YtkamcoechjdgpaaMc
import Derived.Test.YtkamcoechjdgpaaMd
set_option maxRecDepth 20000
set_option maxHeartbeats 8000000
/-
  Package wire: a letter's parts, taken into rows: numbers, texts, flags.
-/
namespace Go.Proofs.Ytkamcoechjdgpaa
open Go.RowKit
theorem set_lay_self {L : List (List AV)} {j o : Nat} {row xs : List AV} (hj : L[j]? = some row) (h : (row.drop o).take xs.length = xs) (hl : o + xs.length ≤ row.length) : L.set j (lay row o xs) = L := by
  rw [lay_self h hl]
  obtain ⟨h1, h2⟩ := List.getElem?_eq_some_iff.1 hj
  rw [← h2, List.set_getElem_self]
theorem set_lay_bel {L : List (List AV)} {j o : Nat} {row xs : List AV} (hj : L[j]? = some row) (hL : belLL 0 L = true) (hx : belL 0 xs = true) : belLL 0 (L.set j (lay row o xs)) = true := belLL_set hL (belL_lay (belLL_get hL j row hj) hx)
theorem rows_lent {k : Nat} {L : List (List AV)} (h : belLL 0 L = true) : LentB (.rows k L) := .inr ⟨_, _, rfl, h⟩
theorem number_q (b : Bytes) (e : Int) (cur : Int) (L : List (List AV)) (row : List AV) (k j o : Nat) (hb : b.length ≤ 1000000) (hj : L[j]? = some row) (ho : (row.drop o).take 1 = [.int .i64 cur]) (hk : row.length = k) (hl : o + 1 ≤ k) (hL : belLL 0 L = true) : BSpec Try.prog 75 [.agg [.eptr 1 k j o], .ptr 0 0] [pp b true e, .rows k L] [pp (rdN b e cur).1 true (rdN b e cur).2.1, .rows k (L.set j (lay row o [.int .i64 (rdN b e cur).2.2]))] (.tup []) := by
  have hlt : j < L.length := (List.getElem?_eq_some_iff.1 hj).1
  have h1k : 0 < 1 := by omega
  by_cases he : e = 0
  · subst he
    have hi := takeint_spec b
    cases ht : takeZ b with
    | error z =>
      rw [ht] at hi
      simp only [takeZA] at hi
      have e1 : rdN b 0 cur = ([], z, 0) := by unfold rdN; simp [ht]
      rw [e1]
      have hYb : (ABlk.rows k (L.set j (lay row o [.int .i64 0]))).bel 0 = true := set_lay_bel hj hL rfl
      refine ⟨⟨_, Try.func75, by kernel_rfl, rfl⟩, ACall.of Try.func75 rfl fun c0 hc0 => ?_⟩; simp only [Try.ntmps75, Ya, Y9, Nat.reduceAdd, Nat.reduceSub, Ym, Yn, Y5, Y3]; refine Run.god tab_ok follows_ok Try.func75 60 ?_; simp only [pp, decide_true, ↓alt_t, ↓alt_f, drun, adops, adone, places, mayNeed, freeOk, rdOf, AV.id, wrOf, aops, aone, aop, needs, ext, aev, aconst, aput, aupd, aload, afieldAddr, acmp, ashift, abin, tab_4, tab_34, tab_85, tab_145, tab_146, tab_148, ok1, lay, cellsAs, TI.agg, AV.cells, AV.whole, Y4, Yb, Yc, Y6, Y7, Ya, Y9, Y1, Y2, Yi, Yh, Yg, Yj, Yk, Y5, Y3, Yt, Yu, Ys, Yr, Nat.reduceAdd, Nat.reduceLeDiff, Yp, Yq, Bool.not_true, Yv, Y0, Y8]
      refine ⟨rfl, ?_⟩
      refine DOps.pure rfl .free rfl rfl (hi) (by simp only [aev, Y4, Y1, Y2, Yf, Ye, Y3, Yd, Y0]; (repeat' first | exact .refl _ | apply LeR.tup | apply Le.agg | constructor)) rfl rfl ?_
      refine DOps.god tab_ok follows_ok Try.func75 60 rfl ?_; simp only [Try.results75, hl, hlt, hj, Y0, Y4, bytesA, drun, adops, adone, mayNeed, freeOk, rdOf, AV.id, wrOf, afin, ares, aresL, aresOk, aop, needs, aev, aput, aupd, astore, afieldAddr, tab_3, tab_34, tab_85, tab_145, ok1, lay, AV.cells, AV.whole, Yb, Yc, Y6, Y7, Ya, Y9, Y1, Y2, Yi, Yh, Yg, Yj, Yl, Ye, Y5, Y3, Yd, Yt, Yu, Yr, Nat.reduceAdd, Nat.reduceLeDiff, Yp, Yq, Nat.reduceLT, Yv, Y8]
      ((repeat' apply And.intro) <;> try first | rfl | omega | (unfold I64; omega))
      all_goals (first | omega | (repeat' (first | exact WkH.nil _ | exact LeR.one (Le.refl _) | exact LeL.nil | apply LeR.tup | exact LeB.same _ hYb | exact Le.refl _ | exact Le1.refl _ | exact Le1L.nil | rfl | apply WkH.cons | apply LeB.box | apply Le1L.cons | apply Le.one)))
    | ok p =>
      obtain ⟨n, q⟩ := p
      rw [ht] at hi
      simp only [takeZA] at hi
      have e1 : rdN b 0 cur = (q, 0, n) := by unfold rdN; simp [ht]
      rw [e1]
      have hYb : (ABlk.rows k (L.set j (lay row o [.int .i64 n]))).bel 0 = true := set_lay_bel hj hL rfl
      refine ⟨⟨_, Try.func75, by kernel_rfl, rfl⟩, ACall.of Try.func75 rfl fun c0 hc0 => ?_⟩; simp only [Try.ntmps75, Ya, Y9, Nat.reduceAdd, Nat.reduceSub, Ym, Yn, Y5, Y3]; refine Run.god tab_ok follows_ok Try.func75 60 ?_; simp only [pp, decide_true, ↓alt_t, ↓alt_f, drun, adops, adone, places, mayNeed, freeOk, rdOf, AV.id, wrOf, aops, aone, aop, needs, ext, aev, aconst, aput, aupd, aload, afieldAddr, acmp, ashift, abin, tab_4, tab_34, tab_85, tab_145, tab_146, tab_148, ok1, lay, cellsAs, TI.agg, AV.cells, AV.whole, Y4, Yb, Yc, Y6, Y7, Ya, Y9, Y1, Y2, Yi, Yh, Yg, Yj, Yk, Y5, Y3, Yt, Yu, Ys, Yr, Nat.reduceAdd, Nat.reduceLeDiff, Yp, Yq, Bool.not_true, Yv, Y0, Y8]
      refine ⟨rfl, ?_⟩
      refine DOps.pure rfl .free rfl rfl (hi) (by simp only [aev, Y4, Y1, Y2, Yf, Ye, Y3, Yd, Y0]; (repeat' first | exact .refl _ | apply LeR.tup | apply Le.agg | constructor)) rfl rfl ?_
      refine DOps.god tab_ok follows_ok Try.func75 60 rfl ?_; simp only [Try.results75, hl, hlt, hj, Y0, Y4, bytesA, drun, adops, adone, mayNeed, freeOk, rdOf, AV.id, wrOf, afin, ares, aresL, aresOk, aop, needs, aev, aput, aupd, astore, afieldAddr, tab_3, tab_34, tab_85, tab_145, ok1, lay, AV.cells, AV.whole, Yb, Yc, Y6, Y7, Ya, Y9, Y1, Y2, Yi, Yh, Yg, Yj, Yl, Y5, Y3, Yd, Yt, Yu, Yr, Nat.reduceAdd, Nat.reduceLeDiff, Yp, Yq, Nat.reduceLT, Yv, Y8]
      ((repeat' apply And.intro) <;> try first | rfl | omega | (unfold I64; omega))
      all_goals (first | omega | (repeat' (first | exact WkH.nil _ | exact LeR.one (Le.refl _) | exact LeL.nil | apply LeR.tup | exact LeB.same _ hYb | exact Le.refl _ | exact Le1.refl _ | exact Le1L.nil | rfl | apply WkH.cons | apply LeB.box | apply Le1L.cons | apply Le.one)))
  · have e1 : rdN b e cur = (b, e, cur) := by unfold rdN; simp [he]
    rw [e1, set_lay_self (xs := [.int .i64 cur]) hj ho (by rw [hk]; exact hl)]
    have hYb : (ABlk.rows k L).bel 0 = true := hL
    refine ⟨⟨_, Try.func75, by kernel_rfl, rfl⟩, ACall.of Try.func75 rfl fun c0 hc0 => ?_⟩; simp only [Try.ntmps75, Ya, Y9, Nat.reduceAdd, Nat.reduceSub, Ym, Yn, Y5, Y3]; refine Run.god tab_ok follows_ok Try.func75 60 ?_; simp only [Try.results75, pp, he, decide_false, ↓alt_t, drun, aops, aone, afin, ares, aresL, aresOk, aop, needs, ext, aev, aconst, aput, aupd, aload, afieldAddr, acmp, ashift, abin, tab_34, tab_145, ok1, cellsAs, TI.agg, AV.cells, AV.whole, Y4, Yb, Yc, Y6, Y7, Ya, Y9, Y1, Y2, Yi, Yh, Yg, Yk, Y5, Y3, Yt, Ys, Yr, Nat.reduceAdd, Yp, Bool.not_false, Yv, Y0, Y8]
    ((repeat' apply And.intro) <;> try first | rfl | omega | (unfold I64; omega))
    all_goals (first | omega | (repeat' (first | exact WkH.nil _ | exact LeR.one (Le.refl _) | exact LeL.nil | apply LeR.tup | exact LeB.same _ hYb | exact Le.refl _ | exact Le1.refl _ | exact Le1L.nil | rfl | apply WkH.cons | apply LeB.box | apply Le1L.cons | apply Le.one)))
theorem text_q (b : Bytes) (e : Int) (cur : Bytes) (L : List (List AV)) (row : List AV) (k j o : Nat) (hb : b.length ≤ 1000000) (hj : L[j]? = some row) (ho : (row.drop o).take 1 = [.str cur]) (hk : row.length = k) (hl : o + 1 ≤ k) (hL : belLL 0 L = true) : BSpec Try.prog 114 [.agg [.eptr 1 k j o], .ptr 0 0] [pp b true e, .rows k L] [pp (rdT b e cur).1 true (rdT b e cur).2.1, .rows k (L.set j (lay row o [.str (rdT b e cur).2.2]))] (.tup []) := by
  have hlt : j < L.length := (List.getElem?_eq_some_iff.1 hj).1
  have h1k : 0 < 1 := by omega
  by_cases he : e = 0
  · subst he
    have hi := taketext_spec b 6000 hb (by omega)
    cases ht : takeT b 6000 with
    | error z =>
      rw [ht] at hi
      simp only [takeTA] at hi
      have e1 : rdT b 0 cur = ([], z, []) := by unfold rdT; simp [ht]
      rw [e1]
      have hYb : (ABlk.rows k (L.set j (lay row o [.str []]))).bel 0 = true := set_lay_bel hj hL rfl
      refine ⟨⟨_, Try.func114, by kernel_rfl, rfl⟩, ACall.of Try.func114 rfl fun c0 hc0 => ?_⟩; simp only [Try.ntmps114, Ya, Y9, Nat.reduceAdd, Nat.reduceSub, Ym, Yn, Y5, Y3]; refine Run.god tab_ok follows_ok Try.func114 60 ?_; simp only [pp, decide_true, ↓alt_t, ↓alt_f, drun, adops, adone, places, mayNeed, freeOk, rdOf, AV.id, wrOf, aops, aone, aop, needs, ext, aev, aconst, aput, aupd, aload, afieldAddr, acmp, ashift, abin, tab_4, tab_34, tab_85, tab_145, tab_163, tab_165, ok1, lay, cellsAs, TI.agg, AV.cells, AV.whole, Y4, Yb, Yc, Y6, Y7, Ya, Y9, Y1, Y2, Yi, Yh, Yg, Yj, Yk, Y5, Y3, Yt, Yu, Ys, Yr, Nat.reduceAdd, Nat.reduceLeDiff, Yp, Yq, Bool.not_true, Yv, Y0, Y8]
      refine ⟨rfl, ?_⟩
      refine DOps.pure rfl .free rfl rfl (hi) (by simp only [aev, aconst, Y4, Y1, Y2, Yf, Ye, Y3, Yd, Y0]; (repeat' first | exact .refl _ | apply LeR.tup | apply Le.agg | constructor)) rfl rfl ?_
      refine DOps.god tab_ok follows_ok Try.func114 60 rfl ?_; simp only [Try.results114, hl, hlt, hj, Y0, Y4, bytesA, drun, adops, adone, mayNeed, freeOk, rdOf, AV.id, wrOf, afin, ares, aresL, aresOk, aop, needs, aev, aput, aupd, astore, afieldAddr, tab_9, tab_34, tab_85, tab_145, ok1, lay, AV.cells, AV.whole, Yb, Yc, Y6, Y7, Ya, Y9, Y1, Y2, Yi, Yh, Yg, Yj, Yl, Ye, Y5, Y3, Yd, Yt, Yu, Yr, Nat.reduceAdd, Nat.reduceLeDiff, Yp, Yq, Nat.reduceLT, Yv, Y8]
      ((repeat' apply And.intro) <;> try first | rfl | omega | (unfold I64; omega))
      all_goals (first | omega | (repeat' (first | exact WkH.nil _ | exact LeR.one (Le.refl _) | exact LeL.nil | apply LeR.tup | exact LeB.same _ hYb | exact Le.refl _ | exact Le1.refl _ | exact Le1L.nil | rfl | apply WkH.cons | apply LeB.box | apply Le1L.cons | apply Le.one)))
    | ok p =>
      obtain ⟨n, q⟩ := p
      rw [ht] at hi
      simp only [takeTA] at hi
      have e1 : rdT b 0 cur = (q, 0, n) := by unfold rdT; simp [ht]
      rw [e1]
      have hYb : (ABlk.rows k (L.set j (lay row o [.str n]))).bel 0 = true := set_lay_bel hj hL rfl
      refine ⟨⟨_, Try.func114, by kernel_rfl, rfl⟩, ACall.of Try.func114 rfl fun c0 hc0 => ?_⟩; simp only [Try.ntmps114, Ya, Y9, Nat.reduceAdd, Nat.reduceSub, Ym, Yn, Y5, Y3]; refine Run.god tab_ok follows_ok Try.func114 60 ?_; simp only [pp, decide_true, ↓alt_t, ↓alt_f, drun, adops, adone, places, mayNeed, freeOk, rdOf, AV.id, wrOf, aops, aone, aop, needs, ext, aev, aconst, aput, aupd, aload, afieldAddr, acmp, ashift, abin, tab_4, tab_34, tab_85, tab_145, tab_163, tab_165, ok1, lay, cellsAs, TI.agg, AV.cells, AV.whole, Y4, Yb, Yc, Y6, Y7, Ya, Y9, Y1, Y2, Yi, Yh, Yg, Yj, Yk, Y5, Y3, Yt, Yu, Ys, Yr, Nat.reduceAdd, Nat.reduceLeDiff, Yp, Yq, Bool.not_true, Yv, Y0, Y8]
      refine ⟨rfl, ?_⟩
      refine DOps.pure rfl .free rfl rfl (hi) (by simp only [aev, aconst, Y4, Y1, Y2, Yf, Ye, Y3, Yd, Y0]; (repeat' first | exact .refl _ | apply LeR.tup | apply Le.agg | constructor)) rfl rfl ?_
      refine DOps.god tab_ok follows_ok Try.func114 60 rfl ?_; simp only [Try.results114, hl, hlt, hj, Y0, Y4, bytesA, drun, adops, adone, mayNeed, freeOk, rdOf, AV.id, wrOf, afin, ares, aresL, aresOk, aop, needs, aev, aput, aupd, astore, afieldAddr, tab_9, tab_34, tab_85, tab_145, ok1, lay, AV.cells, AV.whole, Yb, Yc, Y6, Y7, Ya, Y9, Y1, Y2, Yi, Yh, Yg, Yj, Yl, Y5, Y3, Yd, Yt, Yu, Yr, Nat.reduceAdd, Nat.reduceLeDiff, Yp, Yq, Nat.reduceLT, Yv, Y8]
      ((repeat' apply And.intro) <;> try first | rfl | omega | (unfold I64; omega))
      all_goals (first | omega | (repeat' (first | exact WkH.nil _ | exact LeR.one (Le.refl _) | exact LeL.nil | apply LeR.tup | exact LeB.same _ hYb | exact Le.refl _ | exact Le1.refl _ | exact Le1L.nil | rfl | apply WkH.cons | apply LeB.box | apply Le1L.cons | apply Le.one)))
  · have e1 : rdT b e cur = (b, e, cur) := by unfold rdT; simp [he]
    rw [e1, set_lay_self (xs := [.str cur]) hj ho (by rw [hk]; exact hl)]
    have hYb : (ABlk.rows k L).bel 0 = true := hL
    refine ⟨⟨_, Try.func114, by kernel_rfl, rfl⟩, ACall.of Try.func114 rfl fun c0 hc0 => ?_⟩; simp only [Try.ntmps114, Ya, Y9, Nat.reduceAdd, Nat.reduceSub, Ym, Yn, Y5, Y3]; refine Run.god tab_ok follows_ok Try.func114 60 ?_; simp only [Try.results114, pp, he, decide_false, ↓alt_t, drun, aops, aone, afin, ares, aresL, aresOk, aop, needs, ext, aev, aconst, aput, aupd, aload, afieldAddr, acmp, ashift, abin, tab_34, tab_145, ok1, cellsAs, TI.agg, AV.cells, AV.whole, Y4, Yb, Yc, Y6, Y7, Ya, Y9, Y1, Y2, Yi, Yh, Yg, Yk, Y5, Y3, Yt, Ys, Yr, Nat.reduceAdd, Yp, Bool.not_false, Yv, Y0, Y8]
    ((repeat' apply And.intro) <;> try first | rfl | omega | (unfold I64; omega))
    all_goals (first | omega | (repeat' (first | exact WkH.nil _ | exact LeR.one (Le.refl _) | exact LeL.nil | apply LeR.tup | exact LeB.same _ hYb | exact Le.refl _ | exact Le1.refl _ | exact Le1L.nil | rfl | apply WkH.cons | apply LeB.box | apply Le1L.cons | apply Le.one)))
theorem flag_q_true (b : Bytes) (e : Int) (L : List (List AV)) (row : List AV) (k j o : Nat) (hb : b.length ≤ 1000000) (hj : L[j]? = some row) (ho : (row.drop o).take 1 = [.bool true]) (hk : row.length = k) (hl : o + 1 ≤ k) (hL : belLL 0 L = true) : BSpec Try.prog 131 [.agg [.eptr 1 k j o], .ptr 0 0] [pp b true e, .rows k L] [pp (rdF b e true).1 true (rdF b e true).2.1, .rows k (L.set j (lay row o [.bool (rdF b e true).2.2]))] (.tup []) := by
  have hlt : j < L.length := (List.getElem?_eq_some_iff.1 hj).1
  have hn := number_r b e 1 [.int .i64 1] 0 hb rfl (by decide) rfl
  have hYb : ∀ x, (ABlk.rows k (L.set j (lay row o [.bool x]))).bel 0 = true := fun x => set_lay_bel hj hL rfl
  unfold rdF
  simp only [Ys]
  generalize rdN b e 1 = t at *
  obtain ⟨b', e', n⟩ := t
  have l0 : ∀ x : AV, lay [.int .i64 1] 0 [x] = [x] := fun _ => rfl
  simp only [l0] at hn ⊢
  refine ⟨⟨_, Try.func131, by kernel_rfl, rfl⟩, ACall.of Try.func131 rfl fun c0 hc0 => ?_⟩; simp only [Try.ntmps131, Ya, Y9, Nat.reduceAdd, Nat.reduceSub, Ym, Yn, Y5, Y3]; refine Run.god tab_ok follows_ok Try.func131 60 ?_; simp only [pp, hj, ho, hl, hlt, Y0, Y4, AV.cell, List.all_cons, List.all_nil, ne_eq, ↓alt_t, drun, aops, aone, aop, needs, ext, aev, aconst, aput, aupd, aload, astore, afieldAddr, abuild, tab_3, tab_4, tab_146, tab_148, tab_193, tab_195, ok1, lay, cellsAs, TI.agg, AV.cells, AV.whole, Yb, Yc, Y6, Y7, Ya, Y9, Y1, Y2, Yi, Yh, Yg, Yj, Yk, Yl, Yf, Ye, Y5, Y3, Yd, Yt, Yu, Ys, Yr, Nat.reduceAdd, Yp, Yq, Bool.and_self, Yv, Y8]
  refine Ops.callB .free rfl rfl (js := [0, 3]) (by decide) (LentAll.cons rfl (pp_lent b true e) (LentAll.cons rfl (LentB.box_ [.int .i64 1] rfl) LentAll.nil)) (lent2 (pp_lent _ _ _) (LentB.box_ _ rfl)) rfl rfl (by simp only [cond_true, cond_false, renL, AV.ren, List.idxOf, List.findIdx, List.findIdx.go, aev, Y4, Y1, Y2, Yf, Ye, Y3, Yd, Nat.reduceAdd, Nat.reduceBEq, Yp, beq_self_eq_true, Y0]; (repeat' first | exact .refl _ | apply LeR.tup | apply Le.agg | constructor)) (hn) rfl ?_
  by_cases n0 : n = 0
  · subst n0
    refine Ops.god tab_ok follows_ok Try.func131 60 ?_; simp only [Try.results131, putBack, pp, hj, hl, hlt, Y0, Y4, decide_true, decide_false, ↓alt_f, ↓alts_f, ↓gone_tf, gslot, Int.reduceEq, drun, aops, aone, afin, ares, aresL, aresOk, aop, needs, ext, aev, aconst, aput, aupd, aload, astore, afieldAddr, acmp, ashift, abin, tab_3, tab_4, tab_193, tab_195, ok1, lay, cellsAs, TI.agg, AV.cells, AV.whole, Yb, Yc, Y6, Y7, Ya, Y9, Y1, Y2, Yw, Yi, Yg, Yk, Y5, Y3, Yt, Yu, Ys, Yr, Yp, Yq, Bool.not_true, not_false_eq_true, not_true_eq_false, Nat.reduceLT, Yv, Y8]
    ((repeat' apply And.intro) <;> try first | rfl | omega | (unfold I64; omega))
    all_goals (first | omega | (repeat' (first | exact WkH.nil _ | exact LeR.one (Le.refl _) | exact LeL.nil | apply LeR.tup | exact LeB.same _ (hYb _) | exact Le.refl _ | exact Le1.refl _ | exact Le1L.nil | rfl | apply WkH.cons | apply LeB.box | apply Le1L.cons | apply Le.one)))
  · by_cases n1 : n = 1
    · subst n1
      refine Ops.god tab_ok follows_ok Try.func131 60 ?_; simp only [Try.results131, putBack, pp, hj, hl, hlt, Y0, Y4, decide_true, decide_false, show ¬ (1 : Int) = 0 by decide, ↓alt_f, ↓alts_t, ↓gone_tt, gslot, drun, aops, aone, afin, ares, aresL, aresOk, aop, needs, ext, aev, aconst, aput, aupd, aload, astore, afieldAddr, acmp, ashift, abin, tab_3, tab_4, tab_193, tab_195, ok1, lay, cellsAs, TI.agg, AV.cells, AV.whole, Yb, Yc, Y6, Y7, Ya, Y9, Y1, Y2, Yw, Yi, Yg, Yk, Y5, Y3, Yt, Yu, Ys, Yr, Yp, Yq, Bool.not_true, Bool.not_false, not_false_eq_true, not_true_eq_false, Nat.reduceLT, Yv, Y8]
      ((repeat' apply And.intro) <;> try first | rfl | omega | (unfold I64; omega))
      all_goals (first | omega | (repeat' (first | exact WkH.nil _ | exact LeR.one (Le.refl _) | exact LeL.nil | apply LeR.tup | exact LeB.same _ (hYb _) | exact Le.refl _ | exact Le1.refl _ | exact Le1L.nil | rfl | apply WkH.cons | apply LeB.box | apply Le1L.cons | apply Le.one)))
    · have h3 : (n ≠ 0 ∧ n ≠ 1) := ⟨n0, n1⟩
      rw [if_pos h3]
      refine Ops.god tab_ok follows_ok Try.func131 60 ?_; simp only [Try.results131, putBack, pp, hj, hl, hlt, Y0, Y4, n0, n1, decide_false, ↓alt_t, ↓alts_t, ↓gone_tt, gslot, drun, aops, aone, afin, ares, aresL, aresOk, aop, needs, ext, aev, aconst, aput, aupd, aload, astore, afieldAddr, acmp, ashift, abin, tab_3, tab_4, tab_34, tab_145, tab_193, tab_195, ok1, lay, cellsAs, TI.agg, AV.cells, AV.whole, Yb, Yc, Y6, Y7, Ya, Y9, Y1, Y2, Yw, Yi, Yh, Yg, Yj, Yk, Yl, Y5, Y3, Yd, Yt, Yu, Ys, Yr, Nat.reduceAdd, Yp, Yq, Bool.not_false, Nat.reduceLT, Yv, Y8]
      ((repeat' apply And.intro) <;> try first | rfl | omega | (unfold I64; omega))
      all_goals (first | omega | (repeat' (first | exact WkH.nil _ | exact LeR.one (Le.refl _) | exact LeL.nil | apply LeR.tup | exact LeB.same _ (hYb _) | exact Le.refl _ | exact Le1.refl _ | exact Le1L.nil | rfl | apply WkH.cons | apply LeB.box | apply Le1L.cons | apply Le.one)))
theorem flag_q_false (b : Bytes) (e : Int) (L : List (List AV)) (row : List AV) (k j o : Nat) (hb : b.length ≤ 1000000) (hj : L[j]? = some row) (ho : (row.drop o).take 1 = [.bool false]) (hk : row.length = k) (hl : o + 1 ≤ k) (hL : belLL 0 L = true) : BSpec Try.prog 131 [.agg [.eptr 1 k j o], .ptr 0 0] [pp b true e, .rows k L] [pp (rdF b e false).1 true (rdF b e false).2.1, .rows k (L.set j (lay row o [.bool (rdF b e false).2.2]))] (.tup []) := by
  have hlt : j < L.length := (List.getElem?_eq_some_iff.1 hj).1
  have hn := number_r b e 0 [.int .i64 0] 0 hb rfl (by decide) rfl
  have hYb : ∀ x, (ABlk.rows k (L.set j (lay row o [.bool x]))).bel 0 = true := fun x => set_lay_bel hj hL rfl
  unfold rdF
  simp only [Y8, Yr]
  generalize rdN b e 0 = t at *
  obtain ⟨b', e', n⟩ := t
  have l0 : ∀ x : AV, lay [.int .i64 0] 0 [x] = [x] := fun _ => rfl
  simp only [l0] at hn ⊢
  refine ⟨⟨_, Try.func131, by kernel_rfl, rfl⟩, ACall.of Try.func131 rfl fun c0 hc0 => ?_⟩; simp only [Try.ntmps131, Ya, Y9, Nat.reduceAdd, Nat.reduceSub, Ym, Yn, Y5, Y3]; refine Run.god tab_ok follows_ok Try.func131 60 ?_; simp only [pp, hj, ho, hl, hlt, Y0, Y4, AV.cell, List.all_cons, List.all_nil, ne_eq, ↓alt_f, drun, aops, aone, aop, needs, ext, aev, aconst, aput, aupd, aload, astore, afieldAddr, abuild, tab_3, tab_4, tab_146, tab_148, tab_193, tab_195, ok1, lay, cellsAs, TI.agg, AV.cells, AV.whole, Yb, Yc, Y6, Y7, Ya, Y9, Y1, Y2, Yi, Yh, Yg, Yj, Yk, Yl, Yf, Ye, Y5, Y3, Yd, Yt, Yu, Ys, Yr, Nat.reduceAdd, Yp, Yq, Bool.and_self, Yv, Y8]
  refine Ops.callB .free rfl rfl (js := [0, 3]) (by decide) (LentAll.cons rfl (pp_lent b true e) (LentAll.cons rfl (LentB.box_ [.int .i64 0] rfl) LentAll.nil)) (lent2 (pp_lent _ _ _) (LentB.box_ _ rfl)) rfl rfl (by simp only [cond_true, cond_false, renL, AV.ren, List.idxOf, List.findIdx, List.findIdx.go, aev, Y4, Y1, Y2, Yf, Ye, Y3, Yd, Nat.reduceAdd, Nat.reduceBEq, Yp, beq_self_eq_true, Y0]; (repeat' first | exact .refl _ | apply LeR.tup | apply Le.agg | constructor)) (hn) rfl ?_
  by_cases n0 : n = 0
  · subst n0
    refine Ops.god tab_ok follows_ok Try.func131 60 ?_; simp only [Try.results131, putBack, pp, hj, hl, hlt, Y0, Y4, decide_true, decide_false, ↓alt_f, ↓alts_f, ↓gone_tf, gslot, Int.reduceEq, drun, aops, aone, afin, ares, aresL, aresOk, aop, needs, ext, aev, aconst, aput, aupd, aload, astore, afieldAddr, acmp, ashift, abin, tab_3, tab_4, tab_193, tab_195, ok1, lay, cellsAs, TI.agg, AV.cells, AV.whole, Yb, Yc, Y6, Y7, Ya, Y9, Y1, Y2, Yw, Yi, Yg, Yk, Y5, Y3, Yt, Yu, Ys, Yr, Yp, Yq, Bool.not_true, not_false_eq_true, not_true_eq_false, Nat.reduceLT, Yv, Y8]
    ((repeat' apply And.intro) <;> try first | rfl | omega | (unfold I64; omega))
    all_goals (first | omega | (repeat' (first | exact WkH.nil _ | exact LeR.one (Le.refl _) | exact LeL.nil | apply LeR.tup | exact LeB.same _ (hYb _) | exact Le.refl _ | exact Le1.refl _ | exact Le1L.nil | rfl | apply WkH.cons | apply LeB.box | apply Le1L.cons | apply Le.one)))
  · by_cases n1 : n = 1
    · subst n1
      refine Ops.god tab_ok follows_ok Try.func131 60 ?_; simp only [Try.results131, putBack, pp, hj, hl, hlt, Y0, Y4, decide_true, decide_false, show ¬ (1 : Int) = 0 by decide, ↓alt_f, ↓alts_t, ↓gone_tt, gslot, drun, aops, aone, afin, ares, aresL, aresOk, aop, needs, ext, aev, aconst, aput, aupd, aload, astore, afieldAddr, acmp, ashift, abin, tab_3, tab_4, tab_193, tab_195, ok1, lay, cellsAs, TI.agg, AV.cells, AV.whole, Yb, Yc, Y6, Y7, Ya, Y9, Y1, Y2, Yw, Yi, Yg, Yk, Y5, Y3, Yt, Yu, Ys, Yr, Yp, Yq, Bool.not_true, Bool.not_false, not_false_eq_true, not_true_eq_false, Nat.reduceLT, Yv, Y8]
      ((repeat' apply And.intro) <;> try first | rfl | omega | (unfold I64; omega))
      all_goals (first | omega | (repeat' (first | exact WkH.nil _ | exact LeR.one (Le.refl _) | exact LeL.nil | apply LeR.tup | exact LeB.same _ (hYb _) | exact Le.refl _ | exact Le1.refl _ | exact Le1L.nil | rfl | apply WkH.cons | apply LeB.box | apply Le1L.cons | apply Le.one)))
    · have h3 : (n ≠ 0 ∧ n ≠ 1) := ⟨n0, n1⟩
      rw [if_pos h3]
      refine Ops.god tab_ok follows_ok Try.func131 60 ?_; simp only [Try.results131, putBack, pp, hj, hl, hlt, Y0, Y4, n0, n1, decide_false, ↓alt_t, ↓alts_t, ↓gone_tt, gslot, drun, aops, aone, afin, ares, aresL, aresOk, aop, needs, ext, aev, aconst, aput, aupd, aload, astore, afieldAddr, acmp, ashift, abin, tab_3, tab_4, tab_34, tab_145, tab_193, tab_195, ok1, lay, cellsAs, TI.agg, AV.cells, AV.whole, Yb, Yc, Y6, Y7, Ya, Y9, Y1, Y2, Yw, Yi, Yh, Yg, Yj, Yk, Yl, Y5, Y3, Yd, Yt, Yu, Ys, Yr, Nat.reduceAdd, Yp, Yq, Bool.not_false, Nat.reduceLT, Yv, Y8]
      ((repeat' apply And.intro) <;> try first | rfl | omega | (unfold I64; omega))
      all_goals (first | omega | (repeat' (first | exact WkH.nil _ | exact LeR.one (Le.refl _) | exact LeL.nil | apply LeR.tup | exact LeB.same _ (hYb _) | exact Le.refl _ | exact Le1.refl _ | exact Le1L.nil | rfl | apply WkH.cons | apply LeB.box | apply Le1L.cons | apply Le.one)))
end Go.Proofs.Ytkamcoechjdgpaa
/-
  Package wire: parts, taken one behind the other; a place in a box, or in a row.
-/
namespace Go.Proofs.Ytkamcoechjdgpaa
open Go.RowKit
mutual
theorem AV.bel_up {n m : Nat} (h : n ≤ m) : ∀ a : AV, a.bel n = true → a.bel m = true
  | .int _ _, _ => rfl
  | .bool _, _ => rfl
  | .str _, _ => rfl
  | .nilp, _ => rfl
  | .ptr i _, e => by simp only [AV.bel, decide_eq_true_eq] at e ⊢; omega
  | .eptr i _ _ _, e => by simp only [AV.bel, decide_eq_true_eq] at e ⊢; omega
  | .msl i _ _ _ _, e => by simp only [AV.bel, decide_eq_true_eq] at e ⊢; omega
  | .msu i _ _, e => by simp only [AV.bel, decide_eq_true_eq] at e ⊢; omega
  | .mp i, e => by simp only [AV.bel, decide_eq_true_eq] at e ⊢; omega
  | .sl _ _ .no, _ => rfl
  | .sl _ _ (.own i), e => by simp only [AV.bel, decide_eq_true_eq] at e ⊢; omega
  | .nils, _ => rfl
  | .agg cs, e => belL_up h cs e
  | .tup cs, e => belL_up h cs e
  | .psl _ l, e => belLL_up h l e
  | .rptr cs, e => belL_up h cs e
  | .fn _ a b, e => by
    simp only [AV.bel, Bool.and_eq_true] at e ⊢
    exact ⟨belL_up h a e.1, belL_up h b e.2⟩
  | .nilf, _ => rfl
  | .iface _ v, e => AV.bel_up h v e
  | .nilI, _ => rfl
  | .nilm, _ => rfl
  | .cnd _ v, e => AV.bel_up h v e
  | .junk, _ => rfl
theorem belL_up {n m : Nat} (h : n ≤ m) : ∀ l : List AV, belL n l = true → belL m l = true
  | [], _ => rfl
  | a :: l, e => by
    simp only [belL, Bool.and_eq_true] at e ⊢
    exact ⟨AV.bel_up h a e.1, belL_up h l e.2⟩
theorem belLL_up {n m : Nat} (h : n ≤ m) : ∀ l : List (List AV), belLL n l = true → belLL m l = true
  | [], _ => rfl
  | a :: l, e => by
    simp only [belLL, Bool.and_eq_true] at e ⊢
    exact ⟨belL_up h a e.1, belLL_up h l e.2⟩
end
theorem LentB.bel {x : ABlk} (h : LentB x) (n : Nat) : x.bel n = true := by
  rcases h with ⟨cs, rfl, h⟩ | ⟨k, L, rfl, h⟩
  · exact belL_up (Nat.zero_le n) cs h
  · exact belLL_up (Nat.zero_le n) L h
structure CellAt (C : AV → List AV) (o : Nat) : Prop where
  rd : ∀ a, ((C a).drop o).take 1 = [a]
  wr : ∀ a x, (C a).take o ++ [x] ++ (C a).drop (o + 1) = C x
  le : ∀ a, o + 1 ≤ (C a).length
  get : ∀ a, (C a)[o]? = some a
  set : ∀ a x, (C a).set o x = C x
  bel : ∀ n a, a.bel n = true → belL n (C a) = true
theorem CellAt.of {C : AV → List AV} {o : Nat} (xs ys : List AV) (h : ∀ a, C a = xs ++ a :: ys) (ho : o = xs.length) (hx : belL 0 xs = true) (hy : belL 0 ys = true) : CellAt C o := by
  subst ho
  refine ⟨fun a => ?_, fun a x => ?_, fun a => ?_, fun a => ?_, fun a x => ?_, fun n a ha => ?_⟩
  · rw [h, List.drop_left]; rfl
  · rw [h, h, List.take_left, List.append_assoc]
    congr 1
    rw [show xs ++ a :: ys = (xs ++ [a]) ++ ys by simp, show xs.length + 1 = (xs ++ [a]).length by simp, List.drop_left]
    rfl
  · rw [h]; simp
  · rw [h]; simp
  · rw [h, h]; simp
  · rw [h]
    refine belL_app (belL_up (Nat.zero_le n) _ hx) ?_
    simp only [belL, Bool.and_eq_true]
    exact ⟨ha, belL_up (Nat.zero_le n) _ hy⟩
theorem CellAt.lay {C : AV → List AV} {o : Nat} (h : CellAt C o) (a x : AV) : lay (C a) o [x] = C x := h.wr a x
structure CellIn (R : AV → List (List AV)) (k j o : Nat) : Prop where
  lt : ∀ a, j < (R a).length
  rd : ∀ a, (((R a)[j]?.getD []).drop o).take 1 = [a]
  wr : ∀ a x, (R a).set j (((R a)[j]?.getD []).take o ++ [x] ++ ((R a)[j]?.getD []).drop (o + 1)) = R x
  le : o + 1 ≤ k
  get : ∀ a, ∃ row, (R a)[j]? = some row ∧ row[o]? = some a
  len : ∀ a row, (R a)[j]? = some row → row.length = k
  set : ∀ a x, (R a).set j (((R a)[j]?.getD []).set o x) = R x
  bel : ∀ n a, a.bel n = true → belLL n (R a) = true
theorem belLL_app {n : Nat} : ∀ {xs ys : List (List AV)}, belLL n xs = true → belLL n ys = true → belLL n (xs ++ ys) = true
  | [], _, _, h => h
  | x :: xs, ys, h1, h2 => by
    simp only [belLL, Y5, Bool.and_eq_true] at h1 ⊢
    exact ⟨h1.1, belLL_app h1.2 h2⟩
theorem CellIn.of {C : AV → List AV} {k j o : Nat} (L : List (List AV)) (hj : j < L.length) (hC : CellAt C o) (ho : o + 1 ≤ k) (hk : ∀ a, (C a).length = k) (hL : belLL 0 L = true) : CellIn (fun a => L.set j (C a)) k j o := by
  have e : ∀ a, (L.set j (C a))[j]? = some (C a) := fun a => List.getElem?_set_self hj
  refine ⟨fun a => by simpa using hj, fun a => ?_, fun a x => ?_, ho, fun a => ⟨_, e a, hC.get a⟩, fun a row h => by rw [e] at h; cases h; exact hk a, fun a x => ?_, fun n a ha => ?_⟩
  · simp only [e, Y4]; exact hC.rd a
  · simp only [e, Y4]; rw [hC.wr, List.set_set]
  · simp only [e, Y4]; rw [hC.set, List.set_set]
  · exact belLL_set (belLL_up (Nat.zero_le n) _ hL) (hC.bel n a ha)
section
variable {P : Program} {c0 : Cx} {s : AState}
theorem recell_core {c : Cx} (hc : RelH c) {q kq j m : Nat} {Lq : List (List AV)} {row : List AV} {a x : AV} (hq : c.h[q]? = some (.rows kq Lq)) (hj : Lq[j]? = some row) (hm : row[m]? = some a) (hax : ∀ b us e v, c.ρ q = some b → c.w.heap[b]? = some (.cells us e (0, 0)) → us[j * kq + m]? = some v → Ev c ⟨c.ρ, c.h.set q (.rows kq (Lq.set j (row.set m x))), c.w, c.X⟩ → RV c v a → RV ⟨c.ρ, c.h.set q (.rows kq (Lq.set j (row.set m x))), c.w, c.X⟩ v x) :
    RelH ⟨c.ρ, c.h.set q (.rows kq (Lq.set j (row.set m x))), c.w, c.X⟩ ∧ Ev c ⟨c.ρ, c.h.set q (.rows kq (Lq.set j (row.set m x))), c.w, c.X⟩ := by
  obtain ⟨b, us, e, hb, hh, hel, hrv⟩ := hc.blk q _ hq
  refine Cx.retell hc q b _ _ hq hb rfl rfl rfl rfl (fun o h => h.elim) fun hev => ?_
  refine ⟨b, us, e, hb, hh, fun p y hy => ?_, fun p y m' a' hy ha' => ?_⟩
  · rw [List.getElem?_set] at hy
    split at hy
    · rename_i hpj
      subst hpj
      split at hy
      · cases hy
        have := hel j row hj
        simpa using this
      · cases hy
    · exact hel p y hy
  · rw [List.getElem?_set] at hy
    split at hy
    · rename_i hpj
      subst hpj
      split at hy
      · cases hy
        rw [List.getElem?_set] at ha'
        split at ha'
        · rename_i hmm
          subst hmm
          split at ha'
          · cases ha'
            obtain ⟨u, h1, h2⟩ := hrv j row m a hj hm
            exact ⟨u, h1, hax b us e u hb hh h1 hev h2⟩
          · cases ha'
        · obtain ⟨u, h1, h2⟩ := hrv j row m' a' hj ha'
          exact ⟨u, h1, h2.mono hev⟩
      · cases hy
    · obtain ⟨u, h1, h2⟩ := hrv p y m' a' hy ha'
      exact ⟨u, h1, h2.mono hev⟩
theorem Weak.nilR (q kq j m kk : Nat) (Lq : List (List AV)) (row : List AV) (hq : s.h[q]? = some (.rows kq Lq)) (hj : Lq[j]? = some row) (hm : row[m]? = some .nils) : Weak P c0 s ⟨s.t, s.h.set q (.rows kq (Lq.set j (row.set m (.sl kk [] .no))))⟩ := by
  refine ⟨fun ρ w vs h1 h2 h3 => ?_⟩
  obtain ⟨g1, g2⟩ := recell_core (x := .sl kk [] .no) h1 hq hj hm fun _ _ _ v _ _ _ _ hv => by cases hv; exact .nil_sl kk
  exact ⟨ρ, g1, h2.trans g2, h3.mono g2⟩
theorem Weak.freezeR (q kq j m i kk oo nn cap : Nat) (L Lq : List (List AV)) (row : List AV) (hq : s.h[q]? = some (.rows kq Lq)) (hj : Lq[j]? = some row) (hm : row[m]? = some (.msl i kk oo nn cap)) (hiq : i ≠ q) (hi : s.h[i]? = some (.rows kk L)) (hk : 0 < kk) (hon : oo + nn ≤ L.length) (hp : ∀ x ∈ (L.drop oo).take nn, ∀ a ∈ x, a.plain = true) :
    Weak P c0 s ⟨s.t, (s.h.set i .dead).set q (.rows kq (Lq.set j (row.set m (.sl kk ((L.drop oo).take nn) .no))))⟩ := by
  refine ⟨fun ρ w vs h1 h2 h3 => ?_⟩
  obtain ⟨b, us, e, hb, hh, hel, hrv⟩ := h1.blk q _ hq
  obtain ⟨u, hu, hr⟩ := hrv j row m _ hj hm
  obtain ⟨q1, q2, q3⟩ := hr.frozen h1 hi hk hon hp
  have hq' : (s.h.set i .dead)[q]? = some (.rows kq Lq) := by rw [List.getElem?_set_ne hiq]; exact hq
  obtain ⟨g1, g2⟩ := recell_core (x := .sl kk ((L.drop oo).take nn) .no) q1 hq' hj hm fun b' us' e' v hb' hh' hv hev _ => by
    rw [hb] at hb'
    cases hb'
    rw [hh] at hh'
    cases hh'
    rw [hu] at hv
    cases hv
    exact q3.mono hev
  exact ⟨ρ, g1, h2.trans (q2.trans g2), h3.mono (q2.trans g2)⟩
end
def ToldR (L : List (Nat × AV)) (A X : Nat → ABlk) : Prop := ∀ (k : Nat) t v, L[k]? = some (t, v) → v.bel 2 = true ∧ v.among [0, 1] = true ∧ v.ren [0, 1] = v ∧ ∃ g, MethodAt Try.prog t "consistory/wire.tell" g ∧ BSpec Try.prog g [v, .ptr 0 0] [A k, X k] [A (k + 1), X (k + 1)] (.tup [])
theorem parts_r (L : List (Nat × AV)) (A X : Nat → ABlk) (hl : L.length ≤ 1000) (hA : ∀ k, k ≤ L.length → LentB (A k)) (hX : ∀ k, k ≤ L.length → LentB (X k)) (hL : ToldR L A X) : BSpec Try.prog 118 [.psl 1 (L.map partC), .ptr 0 0] [A 0, X 0] [A L.length, X L.length] (.tup []) := by
  refine ⟨⟨_, Try.func118, by kernel_rfl, rfl⟩, ACall.of Try.func118 rfl fun c0 hc0 => ?_⟩; simp only [Try.ntmps118, Ya, Y9, Nat.reduceAdd, Nat.reduceSub, Ym, Yn, Y5, Y3]; refine Run.god tab_ok follows_ok Try.func118 60 ?_; simp only [Yo, drun, aops, aone, aop, needs, ext, aev, aconst, aput, aupd, alen, tab_171, ok1, Y4, Yb, Y6, Y7, Y1, Y2, Y5, Y3, Yt, Yr, Y0, Y8]
  refine Run.loopV (α := Nat) (fun k => k ≤ L.length) (fun k => [(8, .int .i64 k)]) 2 (fun k => [(0, A k), (1, X k)]) (fun k => L.length - k) 0 (Nat.zero_le _) ?_ ?_
  · simp only [writes, junks, puts, hputs, List.filterMap_cons, List.filterMap_nil, Int.natCast_zero, Y6, Y7, Yg, Yk, Y5, Y3, Yd]
    (refine Weak.of (by simp [hc0]) ?_ ?_ <;> (repeat' first | exact .refl _ | exact .junk _ | exact .nil | exact .nil _ | exact .tok _ _ _ | rfl | apply WkT.cons | apply WkH.cons | apply LeB.same | apply LeB.box | apply Le1L.cons | apply Le.agg | apply Le.one))
    all_goals (first | exact partsBel fun k t v h => (hL k t v h).1 | exact (hA _ (by omega)).bel _ | exact (hX _ (by omega)).bel _)
  intro k hk ih
  simp only [writes, junks, puts, hputs, List.filterMap_cons, List.filterMap_nil, Y6, Y7, Yg, Yk, Y5, Y3, Yd] at hk ih ⊢
  by_cases hlt : k < L.length
  · obtain ⟨⟨t, v⟩, hp⟩ : ∃ p, L[k]? = some p := ⟨_, List.getElem?_eq_getElem hlt⟩
    have hkk : (k : Int) < L.length := by omega
    obtain ⟨h0, h1, h2, g, hm, hb⟩ := hL k t v hp
    refine Run.god tab_ok follows_ok Try.func118 60 ?_; simp only [hkk, List.getElem?_map, Yo, hp, partC, decide_true, ↓alt_t, drun, aops, aone, aop, needs, ext, aev, aput, aupd, aload, aindexAddr, acmp, ashift, abin, tab_3, tab_151, tab_171, ok1, cellsAs, TI.agg, Y4, Yb, Yc, Y6, Y7, Ya, Y9, Y1, Y2, Yg, Yk, Y5, Y3, Yt, Yu, Ys, Yr, Nat.reduceAdd, Yp, Nat.reduceLT, Yv, Int.toNat_natCast, Y0, Y8]
    refine ⟨by omega, ?_⟩
    refine Ops.invokeB .free rfl rfl hm (js := [0, 1]) (by decide) (LentAll.cons rfl (hA k (by omega)) (LentAll.cons rfl (hX k (by omega)) LentAll.nil)) (lent2 (hA (k + 1) (by omega)) (hX (k + 1) (by omega))) rfl (by simp only [Yf, Ye, aev, Y4, Y1, Y2, Bool.and_true, Bool.true_and, Y0, amongL, h1]; rfl) (by simp only [Yf, Ye, aev, Y4, Y1, Y2, Y0, renL, h2]; exact LeL.cons (Le.refl _) (LeL.cons (Le.refl _) LeL.nil)) hb rfl ?_
    refine Ops.god tab_ok follows_ok Try.func118 60 ?_; simp only [putBack, drun, aops, aone, aop, needs, ext, aev, aconst, aput, aupd, acmp, aarith, ashift, abin, tab_3, ok1, Y4, Yb, Y6, Y7, Y1, Y2, Y5, Y3, Yt, Ys, Yr, Y0, Y8]
    ((repeat' apply And.intro) <;> try first | rfl | omega | (unfold I64; omega))
    refine ih (k + 1) _ (by omega) (by omega) ?_
    simp only [Int.natCast_add, Int.natCast_one]
    (refine Weak.of (by simp [hc0]) ?_ ?_ <;> (repeat' first | exact .refl _ | exact .junk _ | exact .nil | exact .nil _ | exact .tok _ _ _ | rfl | apply WkT.cons | apply WkH.cons | apply LeB.same | apply LeB.box | apply Le1L.cons | apply Le.agg | apply Le.one))
    all_goals (first | exact partsBel fun k t v h => (hL k t v h).1 | exact (hA _ (by omega)).bel _ | exact (hX _ (by omega)).bel _)
  · obtain rfl : k = L.length := by omega
    have hkk : ¬ (L.length : Int) < L.length := by omega
    refine Run.god tab_ok follows_ok Try.func118 60 ?_; simp only [Try.results118, hkk, decide_false, ↓alt_f, drun, aops, aone, afin, ares, aresL, aresOk, aop, needs, ext, aev, aput, aupd, acmp, ashift, abin, tab_3, ok1, exitTo, Y4, Yb, Yc, Y6, Y7, Y1, Y2, Y5, Y3, Yt, Ys, Yr, beq_self_eq_true, Y0, Y8]
    refine ⟨by (repeat' first | exact .refl _ | apply LeR.tup | apply Le.agg | constructor), ?_⟩
    exact WkH.cons (LeB.same _ ((hA _ (Nat.le_refl _)).bel 0)) (WkH.cons (LeB.same _ ((hX _ (Nat.le_refl _)).bel 0)) (WkH.nil _))
end Go.Proofs.Ytkamcoechjdgpaa
/-
  Package wire: votes, taken: into a box, into rows.
-/
namespace Go.Proofs.Ytkamcoechjdgpaa
open Go.RowKit
theorem rdN_le (b : Bytes) (e cur : Int) : (rdN b e cur).1.length ≤ b.length := by
  unfold rdN
  split
  · split
    · rename_i h; exact takeZ_len h
    · simp
  · exact Nat.le_refl _
theorem rdT_le (b : Bytes) (e : Int) (cur : Bytes) : (rdT b e cur).1.length ≤ b.length := by
  unfold rdT
  split
  · split
    · rename_i h; have := takeT_shorter h; simp only; omega
    · simp
  · exact Nat.le_refl _
theorem rdF_le (b : Bytes) (e : Int) (cur : Bool) : (rdF b e cur).1.length ≤ b.length := rdN_le _ _ _
theorem Le1L.set {cs : List AV} {o : Nat} {a x : AV} (h : Le1 a x) : cs[o]? = some a → Le1L cs (cs.set o x) := by
  induction cs generalizing o with
  | nil => intro e; simp at e
  | cons c cs ih =>
    intro e
    cases o with
    | zero =>
      simp at e
      subst e
      exact .cons h (le1l_refl _)
    | succ o => exact .cons (.refl _) (ih (by simpa using e))
theorem CellAt.le1 {C : AV → List AV} {o : Nat} (h : CellAt C o) {a x : AV} (hl : Le1 a x) : Le1L (C a) (C x) := by
  rw [← h.set a x]
  exact Le1L.set hl (h.get a)
theorem number_c (b : Bytes) (e cur : Int) (C : AV → List AV) (o : Nat) (h : CellAt C o) (hb : b.length ≤ 1000000) : BSpec Try.prog 75 [.agg [.ptr 1 o], .ptr 0 0] [pp b true e, .box (C (.int .i64 cur))] [pp (rdN b e cur).1 true (rdN b e cur).2.1, .box (C (.int .i64 (rdN b e cur).2.2))] (.tup []) := by
  have := number_r b e cur (C (.int .i64 cur)) o hb (h.rd _) (h.le _) (h.bel 0 _ rfl)
  rwa [h.lay] at this
theorem text_c (b : Bytes) (e : Int) (cur : Bytes) (C : AV → List AV) (o : Nat) (h : CellAt C o) (hb : b.length ≤ 1000000) : BSpec Try.prog 114 [.agg [.ptr 1 o], .ptr 0 0] [pp b true e, .box (C (.str cur))] [pp (rdT b e cur).1 true (rdT b e cur).2.1, .box (C (.str (rdT b e cur).2.2))] (.tup []) := by
  have := text_r b e cur (C (.str cur)) o hb (h.rd _) (h.le _) (h.bel 0 _ rfl)
  rwa [h.lay] at this
theorem flag_c (b : Bytes) (e : Int) (cur : Bool) (C : AV → List AV) (o : Nat) (h : CellAt C o) (hb : b.length ≤ 1000000) : BSpec Try.prog 131 [.agg [.ptr 1 o], .ptr 0 0] [pp b true e, .box (C (.bool cur))] [pp (rdF b e cur).1 true (rdF b e cur).2.1, .box (C (.bool (rdF b e cur).2.2))] (.tup []) := by
  have := (show BSpec Try.prog 131 [.agg [.ptr 1 o], .ptr 0 0] [pp b true e, .box (C (.bool cur))] [pp (rdF b e cur).1 true (rdF b e cur).2.1, .box (lay (C (.bool cur)) o [.bool (rdF b e cur).2.2])] (.tup []) by
    cases cur with
    | true => exact flag_r_true b e _ o hb (h.rd _) (h.le _) (h.bel 0 _ rfl)
    | false => exact flag_r_false b e _ o hb (h.rd _) (h.le _) (h.bel 0 _ rfl))
  rwa [h.lay] at this
theorem CellIn.row {R : AV → List (List AV)} {k j o : Nat} (h : CellIn R k j o) (a : AV) : ∃ row, (R a)[j]? = some row ∧ (row.drop o).take 1 = [a] ∧ row.length = k ∧ ∀ x, (R a).set j (lay row o [x]) = R x := by
  obtain ⟨row, h1, h2⟩ := h.get a
  have h3 := h.rd a
  have h4 := h.wr a
  rw [h1, Option.getD_some] at h3
  refine ⟨row, h1, h3, h.len a row h1, fun x => ?_⟩
  have := h4 x
  rw [h1, Option.getD_some] at this
  exact this
theorem number_d (b : Bytes) (e cur : Int) (R : AV → List (List AV)) (k j o : Nat) (h : CellIn R k j o) (hb : b.length ≤ 1000000) : BSpec Try.prog 75 [.agg [.eptr 1 k j o], .ptr 0 0] [pp b true e, .rows k (R (.int .i64 cur))] [pp (rdN b e cur).1 true (rdN b e cur).2.1, .rows k (R (.int .i64 (rdN b e cur).2.2))] (.tup []) := by
  obtain ⟨row, h1, h2, h3, h4⟩ := h.row (.int .i64 cur)
  have := number_q b e cur _ row k j o hb h1 h2 h3 h.le (h.bel 0 _ rfl)
  rwa [h4] at this
theorem text_d (b : Bytes) (e : Int) (cur : Bytes) (R : AV → List (List AV)) (k j o : Nat) (h : CellIn R k j o) (hb : b.length ≤ 1000000) : BSpec Try.prog 114 [.agg [.eptr 1 k j o], .ptr 0 0] [pp b true e, .rows k (R (.str cur))] [pp (rdT b e cur).1 true (rdT b e cur).2.1, .rows k (R (.str (rdT b e cur).2.2))] (.tup []) := by
  obtain ⟨row, h1, h2, h3, h4⟩ := h.row (.str cur)
  have := text_q b e cur _ row k j o hb h1 h2 h3 h.le (h.bel 0 _ rfl)
  rwa [h4] at this
theorem flag_d (b : Bytes) (e : Int) (cur : Bool) (R : AV → List (List AV)) (k j o : Nat) (h : CellIn R k j o) (hb : b.length ≤ 1000000) : BSpec Try.prog 131 [.agg [.eptr 1 k j o], .ptr 0 0] [pp b true e, .rows k (R (.bool cur))] [pp (rdF b e cur).1 true (rdF b e cur).2.1, .rows k (R (.bool (rdF b e cur).2.2))] (.tup []) := by
  obtain ⟨row, h1, h2, h3, h4⟩ := h.row (.bool cur)
  have := (show BSpec Try.prog 131 [.agg [.eptr 1 k j o], .ptr 0 0] [pp b true e, .rows k (R (.bool cur))] [pp (rdF b e cur).1 true (rdF b e cur).2.1, .rows k ((R (.bool cur)).set j (lay row o [.bool (rdF b e cur).2.2]))] (.tup []) by
    cases cur with
    | true => exact flag_q_true b e _ row k j o hb h1 h2 h3 h.le (h.bel 0 _ rfl)
    | false => exact flag_q_false b e _ row k j o hb h1 h2 h3 h.le (h.bel 0 _ rfl))
  rwa [h4] at this
def rdA (b : Bytes) (e : Int) (a : Acc) : Bytes × Int × Acc := ((rdT (rdN (rdN b e a.by_).1 (rdN b e a.by_).2.1 a.view).1 (rdN (rdN b e a.by_).1 (rdN b e a.by_).2.1 a.view).2.1 a.value).1, (rdT (rdN (rdN b e a.by_).1 (rdN b e a.by_).2.1 a.view).1 (rdN (rdN b e a.by_).1 (rdN b e a.by_).2.1 a.view).2.1 a.value).2.1, ⟨(rdN b e a.by_).2.2, (rdN (rdN b e a.by_).1 (rdN b e a.by_).2.1 a.view).2.2, (rdT (rdN (rdN b e a.by_).1 (rdN b e a.by_).2.1 a.view).1 (rdN (rdN b e a.by_).1 (rdN b e a.by_).2.1 a.view).2.1 a.value).2.2⟩)
theorem rdA_le (b : Bytes) (e : Int) (a : Acc) : (rdA b e a).1.length ≤ b.length := by
  unfold rdA
  exact Nat.le_trans (rdT_le _ _ _) (Nat.le_trans (rdN_le _ _ _) (rdN_le _ _ _))
def voteB_ (i : Nat) (o : Nat) : List (Nat × AV) := [(148, .agg [.ptr i o]), (148, .agg [.ptr i (o + 1)]), (165, .agg [.ptr i (o + 2)])]
theorem vote_b (o : Nat) (X : ABlk) (hX : LentB X) : BSpec Try.prog 89 [.ptr 0 o] [X] [X] (.iface 171 (.psl 1 ((voteB_ 0 o).map partC))) := by
  refine ⟨⟨_, Try.func89, by kernel_rfl, rfl⟩, ACall.of Try.func89 rfl fun c0 hc0 => ?_⟩; simp only [Try.ntmps89, Ya, Y9, Nat.reduceAdd, Nat.reduceSub, Ym, Yn, Y5, Y3]; refine Run.god tab_ok follows_ok Try.func89 60 ?_; simp only [Try.results89, voteB_, partC, drun, adops, adone, places, mayNeed, freeOk, rdOf, wrOf, aops, aone, afin, ares, aresL, ares1, aresOk, aresOk1, aop, needs, ext, aev, aconst, aput, aupd, afieldAddr, abuild, aelems, plains, tab_77, tab_146, tab_148, tab_151, tab_163, tab_165, tab_171, ok1, lay, AV.cells, AV.whole, AV.plain, AV.bare, Y4, Yb, Yc, Y6, Y7, Ya, Y9, Y1, Y2, Yh, Yj, Yl, Yf, Ye, Y5, Y3, Yd, List.all_cons, List.all_nil, Ym, Yn, Yt, Yu, Ys, Yr, Nat.reduceAdd, Nat.reduceLeDiff, Nat.reduceMul, Nat.reduceBEq, Yp, Yq, Bool.and_self, Bool.and_true, Bool.and_false, Nat.reduceLT, Yv, Y0, Y8]
  ((repeat' apply And.intro) <;> try first | rfl | omega | (unfold I64; omega))
  all_goals (first | exact WkH.cons (LeB.same _ (hX.bel 0)) (WkH.nil _) | (repeat' first | exact .refl _ | apply LeR.tup | apply Le.agg | constructor))
def voteD (i : Nat) (k j : Nat) (o : Nat) : List (Nat × AV) := [(148, .agg [.eptr i k j o]), (148, .agg [.eptr i k j (o + 1)]), (165, .agg [.eptr i k j (o + 2)])]
theorem vote_d (k j : Nat) (o : Nat) (X : ABlk) (hX : LentB X) : BSpec Try.prog 89 [.eptr 0 k j o] [X] [X] (.iface 171 (.psl 1 ((voteD 0 k j o).map partC))) := by
  refine ⟨⟨_, Try.func89, by kernel_rfl, rfl⟩, ACall.of Try.func89 rfl fun c0 hc0 => ?_⟩; simp only [Try.ntmps89, Ya, Y9, Nat.reduceAdd, Nat.reduceSub, Ym, Yn, Y5, Y3]; refine Run.god tab_ok follows_ok Try.func89 60 ?_; simp only [Try.results89, voteD, partC, drun, adops, adone, places, mayNeed, freeOk, rdOf, wrOf, aops, aone, afin, ares, aresL, ares1, aresOk, aresOk1, aop, needs, ext, aev, aconst, aput, aupd, afieldAddr, abuild, aelems, plains, tab_77, tab_146, tab_148, tab_151, tab_163, tab_165, tab_171, ok1, lay, AV.cells, AV.whole, AV.plain, AV.bare, Y4, Yb, Yc, Y6, Y7, Ya, Y9, Y1, Y2, Yh, Yj, Yl, Yf, Ye, Y5, Y3, Yd, List.all_cons, List.all_nil, Ym, Yn, Yt, Yu, Ys, Yr, Nat.reduceAdd, Nat.reduceLeDiff, Nat.reduceMul, Nat.reduceBEq, Yp, Yq, Bool.and_self, Bool.and_true, Bool.and_false, Nat.reduceLT, forall_const, reduceCtorEq, false_implies, implies_true, Yv, Y0, Y8]
  ((repeat' apply And.intro) <;> try first | rfl | omega | (unfold I64; omega))
  all_goals (first | exact WkH.cons (LeB.same _ (hX.bel 0)) (WkH.nil _) | (repeat' first | exact .refl _ | apply LeR.tup | apply Le.agg | constructor))
theorem vote_rb (b : Bytes) (e : Int) (a : Acc) (xs ys : List AV) (o : Nat) (ho : o = xs.length) (hx : belL 0 xs = true) (hy : belL 0 ys = true) (hb : b.length ≤ 1000000) : BSpec Try.prog 118 [.psl 1 ((voteB_ 1 o).map partC), .ptr 0 0] [pp b true e, .box (xs ++ (accC a ++ ys))] [pp (rdA b e a).1 true (rdA b e a).2.1, .box (xs ++ (accC (rdA b e a).2.2 ++ ys))] (.tup []) := by
  have l1 := rdN_le b e a.by_
  have l2 := rdN_le (rdN b e a.by_).1 (rdN b e a.by_).2.1 a.view
  have c0 : CellAt (fun x => xs ++ x :: .int .i64 a.view :: .str a.value :: ys) o := .of xs _ (fun _ => rfl) ho hx (by simp [belL, AV.bel, hy])
  have c1 : CellAt (fun x => xs ++ .int .i64 (rdN b e a.by_).2.2 :: x :: .str a.value :: ys) (o + 1) := .of (xs ++ [.int .i64 (rdN b e a.by_).2.2]) (.str a.value :: ys) (fun _ => by simp) (by simp [ho]) (belL_app hx rfl) (by simp [belL, AV.bel, hy])
  have c2 : CellAt (fun x => xs ++ .int .i64 (rdN b e a.by_).2.2 :: .int .i64 (rdN (rdN b e a.by_).1 (rdN b e a.by_).2.1 a.view).2.2 :: x :: ys) (o + 2) := .of (xs ++ [.int .i64 (rdN b e a.by_).2.2, .int .i64 (rdN (rdN b e a.by_).1 (rdN b e a.by_).2.1 a.view).2.2]) ys (fun _ => by simp) (by simp [ho]) (belL_app hx rfl) hy
  refine parts_r (voteB_ 1 o) (fun | 0 => pp b true e | 1 => pp (rdN b e a.by_).1 true (rdN b e a.by_).2.1 | 2 => pp (rdN (rdN b e a.by_).1 (rdN b e a.by_).2.1 a.view).1 true (rdN (rdN b e a.by_).1 (rdN b e a.by_).2.1 a.view).2.1 | _ => pp (rdA b e a).1 true (rdA b e a).2.1)
    (fun | 0 => .box (xs ++ (accC a ++ ys)) | 1 => .box (xs ++ .int .i64 (rdN b e a.by_).2.2 :: .int .i64 a.view :: .str a.value :: ys) | 2 => .box (xs ++ .int .i64 (rdN b e a.by_).2.2 :: .int .i64 (rdN (rdN b e a.by_).1 (rdN b e a.by_).2.1 a.view).2.2 :: .str a.value :: ys) | _ => .box (xs ++ (accC (rdA b e a).2.2 ++ ys)))
    (by simp [voteB_]) (fun k _ => by match k with | 0 => exact pp_lent _ _ _ | 1 => exact pp_lent _ _ _ | 2 => exact pp_lent _ _ _ | k + 3 => exact pp_lent _ _ _)
    (fun k _ => by match k with | 0 => exact .box_ _ (c0.bel 0 _ rfl) | 1 => exact .box_ _ (c1.bel 0 (.int .i64 a.view) rfl) | 2 => exact .box_ _ (c2.bel 0 (.str a.value) rfl) | k + 3 => exact .box_ _ (c2.bel 0 (.str _) rfl)) ?_
  intro k t v h
  match k, h with
  | 0, h => cases h; exact ⟨rfl, rfl, rfl, _, meth_number, number_c b e a.by_ _ o c0 hb⟩
  | 1, h => cases h; exact ⟨rfl, rfl, rfl, _, meth_number, number_c _ _ a.view _ (o + 1) c1 (Nat.le_trans l1 hb)⟩
  | 2, h => cases h; exact ⟨rfl, rfl, rfl, _, meth_text, text_c _ _ a.value _ (o + 2) c2 (Nat.le_trans l2 (Nat.le_trans l1 hb))⟩
  | k + 3, h => simp [voteB_] at h
theorem vote_rd (b : Bytes) (e : Int) (a : Acc) (L : List (List AV)) (j : Nat) (hj : L[j]? = some (accC a)) (hL : belLL 0 L = true) (hb : b.length ≤ 1000000) : BSpec Try.prog 118 [.psl 1 ((voteD 1 3 j 0).map partC), .ptr 0 0] [pp b true e, .rows 3 L] [pp (rdA b e a).1 true (rdA b e a).2.1, .rows 3 (L.set j (accC (rdA b e a).2.2))] (.tup []) := by
  have hlt : j < L.length := (List.getElem?_eq_some_iff.1 hj).1
  have l1 := rdN_le b e a.by_
  have l2 := rdN_le (rdN b e a.by_).1 (rdN b e a.by_).2.1 a.view
  have c0 : CellIn (fun x => L.set j [x, .int .i64 a.view, .str a.value]) 3 j 0 := .of (C := fun x => [x, .int .i64 a.view, .str a.value]) L hlt (.of [] _ (fun _ => rfl) rfl rfl rfl) (by decide) (fun _ => rfl) hL
  have c1 : CellIn (fun x => L.set j [.int .i64 (rdN b e a.by_).2.2, x, .str a.value]) 3 j 1 := .of (C := fun x => [.int .i64 (rdN b e a.by_).2.2, x, .str a.value]) L hlt (.of [.int .i64 (rdN b e a.by_).2.2] _ (fun _ => rfl) rfl rfl rfl) (by decide) (fun _ => rfl) hL
  have c2 : CellIn (fun x => L.set j [.int .i64 (rdN b e a.by_).2.2, .int .i64 (rdN (rdN b e a.by_).1 (rdN b e a.by_).2.1 a.view).2.2, x]) 3 j 2 := .of (C := fun x => [.int .i64 (rdN b e a.by_).2.2, .int .i64 (rdN (rdN b e a.by_).1 (rdN b e a.by_).2.1 a.view).2.2, x]) L hlt (.of [.int .i64 (rdN b e a.by_).2.2, .int .i64 (rdN (rdN b e a.by_).1 (rdN b e a.by_).2.1 a.view).2.2] _ (fun _ => rfl) rfl rfl rfl) (by decide) (fun _ => rfl) hL
  have e0 : L.set j (accC a) = L := by
    obtain ⟨h1, h2⟩ := List.getElem?_eq_some_iff.1 hj
    rw [← h2, List.set_getElem_self]
  have key := parts_r (voteD 1 3 j 0) (fun | 0 => pp b true e | 1 => pp (rdN b e a.by_).1 true (rdN b e a.by_).2.1 | 2 => pp (rdN (rdN b e a.by_).1 (rdN b e a.by_).2.1 a.view).1 true (rdN (rdN b e a.by_).1 (rdN b e a.by_).2.1 a.view).2.1 | _ => pp (rdA b e a).1 true (rdA b e a).2.1)
    (fun | 0 => .rows 3 (L.set j (accC a)) | 1 => .rows 3 (L.set j [.int .i64 (rdN b e a.by_).2.2, .int .i64 a.view, .str a.value]) | 2 => .rows 3 (L.set j [.int .i64 (rdN b e a.by_).2.2, .int .i64 (rdN (rdN b e a.by_).1 (rdN b e a.by_).2.1 a.view).2.2, .str a.value]) | _ => .rows 3 (L.set j (accC (rdA b e a).2.2)))
    (by simp [voteD]) (fun k _ => by match k with | 0 => exact pp_lent _ _ _ | 1 => exact pp_lent _ _ _ | 2 => exact pp_lent _ _ _ | k + 3 => exact pp_lent _ _ _)
    (fun k _ => by match k with | 0 => exact rows_lent (belLL_set hL rfl) | 1 => exact rows_lent (belLL_set hL rfl) | 2 => exact rows_lent (belLL_set hL rfl) | k + 3 => exact rows_lent (belLL_set hL rfl)) fun k t v h => by
      match k, h with
      | 0, h => cases h; exact ⟨rfl, rfl, rfl, _, meth_number, number_d b e a.by_ _ 3 j 0 c0 hb⟩
      | 1, h => cases h; exact ⟨rfl, rfl, rfl, _, meth_number, number_d _ _ a.view _ 3 j 1 c1 (Nat.le_trans l1 hb)⟩
      | 2, h => cases h; exact ⟨rfl, rfl, rfl, _, meth_text, text_d _ _ a.value _ 3 j 2 c2 (Nat.le_trans l2 (Nat.le_trans l1 hb))⟩
      | k + 3, h => simp [voteD] at h
  have e1 : BSpec Try.prog 118 [.psl 1 ((voteD 1 3 j 0).map partC), .ptr 0 0] [pp b true e, .rows 3 (L.set j (accC a))] [pp (rdA b e a).1 true (rdA b e a).2.1, .rows 3 (L.set j (accC (rdA b e a).2.2))] (.tup []) := key
  rwa [e0] at e1
end Go.Proofs.Ytkamcoechjdgpaa
/-
  Package wire: rows of votes, taken.
-/
namespace Go.Proofs.Ytkamcoechjdgpaa
open Go.RowKit
def zA : Acc := ⟨0, 0, []⟩
def rdAs : Nat → Bytes → Int → Bytes × Int × List Acc
  | 0, b, e => (b, e, [])
  | n + 1, b, e => ((rdA (rdAs n b e).1 (rdAs n b e).2.1 zA).1, (rdA (rdAs n b e).1 (rdAs n b e).2.1 zA).2.1, (rdAs n b e).2.2 ++ [(rdA (rdAs n b e).1 (rdAs n b e).2.1 zA).2.2])
def rdV (b : Bytes) (e : Int) : Bytes × Int × List Acc :=
  if (rdN b e 0).2.2 < 0 ∨ 30 < (rdN b e 0).2.2 then ((rdN b e 0).1, 5, []) else if (rdN b e 0).2.1 = 0 then rdAs (rdN b e 0).2.2.toNat (rdN b e 0).1 0 else ((rdN b e 0).1, (rdN b e 0).2.1, [])
theorem rdAs_len (b : Bytes) (e : Int) : ∀ n, (rdAs n b e).2.2.length = n
  | 0 => rfl
  | n + 1 => by simp [rdAs, rdAs_len b e n]
theorem rdAs_le : ∀ (n : Nat) (b : Bytes) (e : Int), (rdAs n b e).1.length ≤ b.length
  | 0, _, _ => Nat.le_refl _
  | n + 1, b, e => Nat.le_trans (rdA_le _ _ _) (rdAs_le n b e)
theorem rdV_le (b : Bytes) (e : Int) : (rdV b e).1.length ≤ b.length := by
  unfold rdV
  have := rdN_le b e 0
  split
  · exact this
  · split
    · exact Nat.le_trans (rdAs_le _ _ _) this
    · exact this
def rowsA (m : Nat) (l : List Acc) : List (List AV) := l.map accC ++ List.replicate (m - l.length) (accC zA)
theorem rowsA_nil (m : Nat) : rowsA m [] = List.replicate m [.int .i64 0, .int .i64 0, .str []] := rfl
theorem belLL_rep {n : Nat} {x : List AV} (h : belL n x = true) : ∀ m, belLL n (List.replicate m x) = true
  | 0 => rfl
  | m + 1 => by rw [List.replicate_succ]; simp only [belLL, h, belLL_rep h m, Bool.and_self]
theorem rowsA_bel (n m : Nat) (l : List Acc) : belLL n (rowsA m l) = true := by
  refine belLL_app ?_ (belLL_rep rfl _)
  induction l with
  | nil => rfl
  | cons a l ih => simp only [Yf, belLL, ih, Bool.and_true]; rfl
theorem rowsA_bel0 (n m : Nat) : belLL n (List.replicate m [AV.int .i64 0, .int .i64 0, .str []]) = true := rowsA_bel n m []
theorem rowsA_len (m : Nat) (l : List Acc) : (rowsA m l).length = l.length + (m - l.length) := by simp [rowsA]
theorem rowsA_get (m k : Nat) (l : List Acc) (hl : l.length = k) (hk : k < m) : (rowsA m l)[k]? = some (accC zA) := by
  unfold rowsA
  rw [List.getElem?_append_right (by simp [hl]), List.length_map, hl, Nat.sub_self, List.getElem?_replicate, if_pos (by omega)]
theorem rowsA_set (m k : Nat) (l : List Acc) (hl : l.length = k) (hk : k < m) (a : Acc) : (rowsA m l).set k (accC a) = rowsA m (l ++ [a]) := by
  unfold rowsA
  obtain ⟨d, hd⟩ : ∃ d, m - k = d + 1 := ⟨m - k - 1, by omega⟩
  rw [List.set_append_right _ _ (by simp [hl]), List.length_map, hl, Nat.sub_self, hd, List.replicate_succ, List.set_cons_zero, List.map_append, List.append_assoc, List.length_append, hl, show m - (k + [a].length) = d by simp; omega]
  rfl
theorem rowsA_fin (m : Nat) (l : List Acc) (hl : l.length = m) : (rowsA m l).take m = l.map accC := by
  unfold rowsA
  exact List.take_left' (by simp [hl])
theorem rowsA_plain (l : List Acc) : ∀ x ∈ l.map accC, ∀ a ∈ x, a.plain = true := by
  intro x hx a ha
  obtain ⟨c, _, rfl⟩ := List.mem_map.1 hx
  simp only [accC, List.mem_cons, List.not_mem_nil, or_false] at ha
  rcases ha with rfl | rfl | rfl <;> rfl
theorem rowA_rb (b : Bytes) (e : Int) (C : AV → List AV) (o : Nat) (hC : CellAt C o) (hb : b.length ≤ 1000000) : BSpec Try.prog 132 [.agg [.ptr 1 o, .fn (.func 89) [] []], .ptr 0 0] [pp b true e, .box (C (.nils))] [pp (rdV b e).1 true (rdV b e).2.1, .box (C (votesA (rdV b e).2.2))] (.tup []) := by
  have hn := number_r b e 0 [.int .i64 0] 0 hb rfl (by decide) rfl
  have hbl := rdN_le b e 0
  unfold rdV
  generalize rdN b e 0 = t at *
  obtain ⟨b', e', n⟩ := t
  have l0 : ∀ x : AV, lay [.int .i64 0] 0 [x] = [x] := fun _ => rfl
  simp only [l0] at hn hbl ⊢
  refine ⟨⟨_, Try.func132, by kernel_rfl, rfl⟩, ACall.of Try.func132 rfl fun c0 hc0 => ?_⟩; simp only [Try.ntmps132, Ya, Y9, Nat.reduceAdd, Nat.reduceSub, Ym, Yn, Y5, Y3]; refine Run.god tab_ok follows_ok Try.func132 60 ?_; simp only [pp, hC.rd, hC.le, drun, aops, aone, aop, needs, ext, aev, aconst, aput, aupd, aload, astore, afieldAddr, alen, abuild, tab_3, tab_78, tab_146, tab_148, tab_175, tab_197, ok1, lay, cellsAs, TI.agg, AV.cells, AV.whole, Y4, Yb, Yc, Y6, Y7, Ya, Y9, Y1, Y2, Yi, Yh, Yg, Yj, Yl, Yf, Ye, Y5, Y3, Yd, Yt, Yu, Ys, Yr, Nat.reduceAdd, Nat.reduceLeDiff, Yp, Yq, Yv, Y0, Y8]
  refine Ops.callB .free rfl rfl (js := [0, 3]) (by decide) (LentAll.cons rfl (pp_lent b true e) (LentAll.cons rfl (LentB.box_ [.int .i64 0] rfl) LentAll.nil)) (lent2 (pp_lent _ _ _) (LentB.box_ _ rfl)) rfl rfl (by simp only [cond_true, cond_false, renL, AV.ren, List.idxOf, List.findIdx, List.findIdx.go, aev, Y4, Y1, Y2, Yf, Ye, Y3, Yd, Nat.reduceAdd, Nat.reduceBEq, Yp, beq_self_eq_true, Y0]; (repeat' first | exact .refl _ | apply LeR.tup | apply Le.agg | constructor)) (hn) rfl ?_
  by_cases n1 : n < 0
  · rw [if_pos (.inl n1)]
    refine Ops.god tab_ok follows_ok Try.func132 60 ?_; simp only [putBack, pp, n1, hC.rd, hC.le, decide_true, decide_false, ↓alt_t, ↓alt_f, ↓alts_t, ↓gone_tt, ↓gone_ft, gslot, Int.reduceEq, drun, aops, aone, aop, needs, ext, aev, aconst, aput, aupd, aload, astore, afieldAddr, acmp, ashift, abin, alen, tab_3, tab_4, tab_34, tab_78, tab_145, tab_175, tab_197, ok1, lay, cellsAs, TI.agg, AV.cells, AV.whole, Y4, Yb, Yc, Y6, Y7, Ya, Y9, Y1, Y2, Yw, Yi, Yh, Yg, Yj, Yk, Yl, Y5, Y3, Yd, Yt, Yu, Ys, Yr, Nat.reduceAdd, Nat.reduceLeDiff, Yp, Yq, Yv, Y0, Y8]
    ((repeat' apply And.intro) <;> try first | rfl | omega | (unfold I64; omega))
    all_goals first | omega | skip
    · skip
      refine Run.unloop ?_
      refine Run.god tab_ok follows_ok Try.func132 60 ?_; simp only [Try.results132, ↓alt_f, Int.reduceLT, drun, aops, aone, afin, ares, aresL, aresOk, aop, needs, ext, aev, aput, aupd, acmp, ashift, abin, tab_3, ok1, exitTo, Y4, Yb, Yc, Y6, Y7, Y1, Y2, Y5, Y3, Yt, Ys, Yr, beq_self_eq_true, decide_false, Y0, Y8]
      exact ⟨by (repeat' first | exact .refl _ | apply LeR.tup | apply Le.agg | constructor), WkH.cons (LeB.same _ rfl) (WkH.cons (LeB.box (hC.le1 (.nil 3)) (hC.bel 0 _ rfl)) (WkH.nil _))⟩
  · by_cases n2 : 30 < n
    · rw [if_pos (.inr n2)]
      refine Ops.god tab_ok follows_ok Try.func132 60 ?_; simp only [putBack, pp, n1, n2, hC.rd, hC.le, decide_true, decide_false, ↓alt_t, ↓alt_f, ↓alts_t, ↓alts_f, ↓gone_tt, ↓gone_ff, gslot, Int.reduceEq, drun, aops, aone, aop, needs, ext, aev, aconst, aput, aupd, aload, astore, afieldAddr, acmp, ashift, abin, alen, tab_3, tab_4, tab_34, tab_78, tab_145, tab_175, tab_197, ok1, lay, cellsAs, TI.agg, AV.cells, AV.whole, Y4, Yb, Yc, Y6, Y7, Ya, Y9, Y1, Y2, Yw, Yi, Yh, Yg, Yj, Yk, Yl, Y5, Y3, Yd, Yt, Yu, Ys, Yr, Nat.reduceAdd, Nat.reduceLeDiff, Yp, Yq, Yv, Y0, Y8]
      ((repeat' apply And.intro) <;> try first | rfl | omega | (unfold I64; omega))
      all_goals first | omega | skip
      · skip
        refine Run.unloop ?_
        refine Run.god tab_ok follows_ok Try.func132 60 ?_; simp only [Try.results132, ↓alt_f, Int.reduceLT, drun, aops, aone, afin, ares, aresL, aresOk, aop, needs, ext, aev, aput, aupd, acmp, ashift, abin, tab_3, ok1, exitTo, Y4, Yb, Yc, Y6, Y7, Y1, Y2, Y5, Y3, Yt, Ys, Yr, beq_self_eq_true, decide_false, Y0, Y8]
        exact ⟨by (repeat' first | exact .refl _ | apply LeR.tup | apply Le.agg | constructor), WkH.cons (LeB.same _ rfl) (WkH.cons (LeB.box (hC.le1 (.nil 3)) (hC.bel 0 _ rfl)) (WkH.nil _))⟩
    · rw [if_neg (by omega)]
      by_cases e0 : e' = 0
      · subst e0
        rw [if_pos rfl]
        obtain ⟨m, rfl⟩ := Int.eq_ofNat_of_zero_le (by omega : 0 ≤ n)
        have hm : m ≤ 30 := by omega
        rw [Int.toNat_natCast]
        have hS := rdAs_len b' 0
        have hSl := fun k => Nat.le_trans (rdAs_le k b' 0) (Nat.le_trans hbl hb)
        have hfin : (rowsA m (rdAs m b' 0).2.2).take m = (rdAs m b' 0).2.2.map accC := rowsA_fin m _ (hS m)
        refine Ops.god tab_ok follows_ok Try.func132 60 ?_; simp only [putBack, pp, n1, n2, hC.rd, hC.wr, hC.le, decide_true, decide_false, ↓alt_t, ↓alt_f, ↓alts_t, ↓alts_f, ↓gone_tt, ↓gone_ff, gslot, drun, adops, adone, places, mayNeed, freeOk, rdOf, AV.id, wrOf, aops, aone, aop, needs, ext, aev, aconst, aput, aupd, aload, astore, afieldAddr, acmp, ashift, abin, alen, tab_3, tab_4, tab_34, tab_77, tab_78, tab_145, tab_175, tab_197, ok1, lay, cellsAs, TI.agg, AV.cells, AV.whole, Y4, Yb, Yc, Y6, Y7, Ya, Y9, Y1, Y2, Yw, Yi, Yh, Yg, Yj, Yk, Y5, Y3, Yt, Yu, Ys, Yr, Nat.reduceAdd, Nat.reduceLeDiff, Yp, Yq, Nat.reduceLT, Yv, Int.toNat_natCast, Y0, Y8]
        ((repeat' apply And.intro) <;> try first | rfl | omega | (unfold I64; omega))
        all_goals first | omega | skip
        refine Run.loopV (α := Nat) (fun k => k ≤ m) (fun k => [(44, .int .i64 k)]) 5 (fun k => [(0, pp (rdAs k b' 0).1 true (rdAs k b' 0).2.1), (4, .rows 3 (rowsA m (rdAs k b' 0).2.2))]) (fun k => m - k) 0 (Nat.zero_le _) ?_ ?_
        · simp only [writes, junks, puts, hputs, List.filterMap_cons, List.filterMap_nil, Int.natCast_zero, Y6, Y7, Yg, Yk, Y5, Y3, Yd, rdAs, rowsA_nil, pp, bytesA]
          (refine Weak.of (by simp [hc0]) ?_ ?_ <;> (repeat' first | exact .refl _ | exact .junk _ | exact .nil | exact .nil _ | exact .tok _ _ _ | rfl | apply WkT.cons | apply WkH.cons | apply LeB.same | apply LeB.box | apply Le1L.cons | apply Le.agg | apply Le.one))
          all_goals (first | exact rowsA_bel _ _ _ | exact rowsA_bel0 _ _ | exact hC.bel _ _ (by simp [AV.bel]))
        intro k hk ih
        simp only [writes, junks, puts, hputs, List.filterMap_cons, List.filterMap_nil, Y6, Y7, Yg, Yk, Y5, Y3, Yd] at hk ih ⊢
        by_cases hlt : k < m
        · have hkk : (k : Int) < m := by omega
          have hrow := rowsA_get m k _ (hS k) hlt
          have hset := rowsA_set m k _ (hS k) hlt
          have hrb : belLL 0 (rowsA m (rdAs k b' 0).2.2) = true := rowsA_bel _ _ _
          refine Run.god tab_ok follows_ok Try.func132 60 ?_; simp only [hkk, hC.rd, hC.le, pp, decide_true, ↓alt_t, drun, adops, adone, places, mayNeed, freeOk, rdOf, AV.id, wrOf, aops, aone, aop, needs, ext, aev, aput, aupd, aload, afieldAddr, aindexAddr, acmp, ashift, abin, tab_3, tab_77, tab_78, tab_172, tab_175, tab_197, ok1, cellsAs, TI.agg, Y4, Yb, Yc, Y6, Y7, Ya, Y9, Y1, Y2, Yi, Yh, Yg, Yj, Yk, Y5, Y3, Yt, Yu, Ys, Yr, Nat.reduceAdd, Nat.reduceLeDiff, Yp, Yq, Nat.reduceLT, Yv, Int.toNat_natCast, Y0, Y8]
          ((repeat' apply And.intro) <;> try first | rfl | omega | (unfold I64; omega))
          refine DOps.callP rfl .free rfl rfl (js := [4]) (by decide) (LentAll.cons rfl (rows_lent hrb) LentAll.nil) (lent1 (rows_lent hrb)) rfl rfl (by simp only [cond_true, renL, AV.ren, List.idxOf, List.findIdx, List.findIdx.go, aev, Y4, Y1, Y2, Yf, Ye, Y3, Yd, Yp, beq_self_eq_true, Y0]; (repeat' first | exact .refl _ | apply LeR.tup | apply Le.agg | constructor)) (vote_d 3 k 0 _ (rows_lent hrb)) rfl ?_
          refine DOps.god tab_ok follows_ok Try.func132 60 rfl ?_; simp only [voteD, partC, AV.unr, unrL, unrLL, adops, adone, mayNeed, freeOk, rdOf, wrOf, aop, needs, aev, aput, aupd, ok1, Y4, Y6, Y7, Y1, Y2, Yf, Ye, Y5, Y3, Yt, Yu, Yr, Nat.reduceAdd, Yp, Y0, Y8]
          refine DOps.invokeB rfl .free rfl rfl meth_parts (js := [0, 4]) (by decide) (LentAll.cons rfl (pp_lent _ _ _) (LentAll.cons rfl (rows_lent hrb) LentAll.nil)) (lent2 (pp_lent _ _ _) (rows_lent (belLL_set hrb rfl))) rfl (by simp only [Yf, Ye, aev, Y4, Y1, Y2, Y0]; rfl) (by simp only [Yf, Ye, aev, Y4, Y1, Y2, Nat.reduceAdd, Nat.reduceBEq, Yp, beq_self_eq_true, Y0, cond_true, cond_false, renL, renLL, AV.ren, List.idxOf, List.findIdx, List.findIdx.go]; exact LeL.cons (Le.refl _) (LeL.cons (Le.refl _) LeL.nil)) (vote_rd _ _ zA _ k hrow hrb (hSl k)) rfl ?_
          refine DOps.god tab_ok follows_ok Try.func132 60 rfl ?_; simp only [putBack, pp, drun, adops, aops, aone, aop, needs, ext, aev, aconst, aput, aupd, acmp, aarith, ashift, abin, tab_3, ok1, Y4, Yb, Y6, Y7, Y1, Y2, Y5, Y3, Yt, Ys, Yr, Y0, Y8]
          ((repeat' apply And.intro) <;> try first | rfl | omega | (unfold I64; omega))
          refine ih (k + 1) _ (by omega) (by omega) ?_
          simp only [Int.natCast_add, Int.natCast_one, pp, bytesA, rdAs, hset]
          (refine Weak.of (by simp [hc0]) ?_ ?_ <;> (repeat' first | exact .refl _ | exact .junk _ | exact .nil | exact .nil _ | exact .tok _ _ _ | rfl | apply WkT.cons | apply WkH.cons | apply LeB.same | apply LeB.box | apply Le1L.cons | apply Le.agg | apply Le.one))
          all_goals (first | exact rowsA_bel _ _ _ | exact hC.bel _ _ (by simp [AV.bel]))
        · obtain rfl : m = k := by omega
          have hkk : ¬ (m : Int) < m := by omega
          refine Run.weak (Weak.freezeC 1 o 4 3 0 m m _ _ rfl (hC.get _) rfl (by decide) (by rw [rowsA_len]; omega) (by rw [List.drop_zero, hfin]; exact rowsA_plain _)) ?_
          simp only [Yi, hfin, hC.set, Y6, Y7]
          refine Run.god tab_ok follows_ok Try.func132 60 ?_; simp only [Try.results132, hkk, pp, decide_false, ↓alt_f, drun, aops, aone, afin, ares, aresL, aresOk, aop, needs, ext, aev, aput, aupd, acmp, ashift, abin, tab_3, ok1, exitTo, Y4, Yb, Yc, Y6, Y7, Y1, Y2, Y5, Y3, Yt, Ys, Yr, beq_self_eq_true, Y0, Y8]
          exact ⟨by (repeat' first | exact .refl _ | apply LeR.tup | apply Le.agg | constructor), WkH.cons (LeB.same _ rfl) (WkH.cons (LeB.same _ (hC.bel 0 _ rfl)) (WkH.nil _))⟩
      · rw [if_neg e0]
        refine Ops.god tab_ok follows_ok Try.func132 60 ?_; simp only [putBack, pp, n1, n2, e0, hC.rd, hC.le, decide_false, ↓alt_f, ↓alts_t, ↓alts_f, ↓gone_tt, ↓gone_ff, gslot, drun, aops, aone, aop, needs, ext, aev, aconst, aput, aupd, aload, afieldAddr, acmp, ashift, abin, alen, tab_3, tab_4, tab_34, tab_78, tab_145, tab_175, tab_197, ok1, cellsAs, TI.agg, Y4, Yb, Yc, Y6, Y7, Ya, Y9, Y1, Y2, Yw, Yi, Yh, Yg, Yj, Yk, Y5, Y3, Yt, Ys, Yr, Nat.reduceAdd, Nat.reduceLeDiff, Yp, Yq, Yv, Y0, Y8]
        ((repeat' apply And.intro) <;> try first | rfl | omega | (unfold I64; omega))
        all_goals first | omega | skip
        · skip
          refine Run.unloop ?_
          refine Run.god tab_ok follows_ok Try.func132 60 ?_; simp only [Try.results132, ↓alt_f, Int.reduceLT, drun, aops, aone, afin, ares, aresL, aresOk, aop, needs, ext, aev, aput, aupd, acmp, ashift, abin, tab_3, ok1, exitTo, Y4, Yb, Yc, Y6, Y7, Y1, Y2, Y5, Y3, Yt, Ys, Yr, beq_self_eq_true, decide_false, Y0, Y8]
          exact ⟨by (repeat' first | exact .refl _ | apply LeR.tup | apply Le.agg | constructor), WkH.cons (LeB.same _ rfl) (WkH.cons (LeB.box (hC.le1 (.nil 3)) (hC.bel 0 _ rfl)) (WkH.nil _))⟩
theorem rowA_rd (b : Bytes) (e : Int) (R : AV → List (List AV)) (kq j o : Nat) (hC : CellIn R kq j o) (hb : b.length ≤ 1000000) : BSpec Try.prog 132 [.agg [.eptr 1 kq j o, .fn (.func 89) [] []], .ptr 0 0] [pp b true e, .rows kq (R (.nils))] [pp (rdV b e).1 true (rdV b e).2.1, .rows kq (R (votesA (rdV b e).2.2))] (.tup []) := by
  have hn := number_r b e 0 [.int .i64 0] 0 hb rfl (by decide) rfl
  have hbl := rdN_le b e 0
  unfold rdV
  generalize rdN b e 0 = t at *
  obtain ⟨b', e', n⟩ := t
  have l0 : ∀ x : AV, lay [.int .i64 0] 0 [x] = [x] := fun _ => rfl
  simp only [l0] at hn hbl ⊢
  refine ⟨⟨_, Try.func132, by kernel_rfl, rfl⟩, ACall.of Try.func132 rfl fun c0 hc0 => ?_⟩; simp only [Try.ntmps132, Ya, Y9, Nat.reduceAdd, Nat.reduceSub, Ym, Yn, Y5, Y3]; refine Run.god tab_ok follows_ok Try.func132 60 ?_; simp only [pp, hC.rd, hC.lt, hC.le, AV.cell, List.all_cons, List.all_nil, Y0, drun, aops, aone, aop, needs, ext, aev, aconst, aput, aupd, aload, astore, afieldAddr, alen, abuild, tab_3, tab_78, tab_146, tab_148, tab_175, tab_197, ok1, lay, cellsAs, TI.agg, AV.cells, AV.whole, Y4, Yb, Yc, Y6, Y7, Ya, Y9, Y1, Y2, Yi, Yh, Yg, Yj, Yl, Yf, Ye, Y5, Y3, Yd, Yt, Yu, Ys, Yr, Nat.reduceAdd, Nat.reduceLeDiff, Yp, Yq, Bool.and_self, Yv, Y8]
  refine Ops.callB .free rfl rfl (js := [0, 3]) (by decide) (LentAll.cons rfl (pp_lent b true e) (LentAll.cons rfl (LentB.box_ [.int .i64 0] rfl) LentAll.nil)) (lent2 (pp_lent _ _ _) (LentB.box_ _ rfl)) rfl rfl (by simp only [cond_true, cond_false, renL, AV.ren, List.idxOf, List.findIdx, List.findIdx.go, aev, Y4, Y1, Y2, Yf, Ye, Y3, Yd, Nat.reduceAdd, Nat.reduceBEq, Yp, beq_self_eq_true, Y0]; (repeat' first | exact .refl _ | apply LeR.tup | apply Le.agg | constructor)) (hn) rfl ?_
  by_cases n1 : n < 0
  · rw [if_pos (.inl n1)]
    refine Ops.god tab_ok follows_ok Try.func132 60 ?_; simp only [putBack, pp, n1, hC.rd, hC.lt, hC.le, AV.cell, List.all_cons, List.all_nil, Y0, decide_true, decide_false, ↓alt_t, ↓alt_f, ↓alts_t, ↓gone_tt, ↓gone_ft, gslot, Int.reduceEq, drun, aops, aone, aop, needs, ext, aev, aconst, aput, aupd, aload, astore, afieldAddr, acmp, ashift, abin, alen, tab_3, tab_4, tab_34, tab_78, tab_145, tab_175, tab_197, ok1, lay, cellsAs, TI.agg, AV.cells, AV.whole, Y4, Yb, Yc, Y6, Y7, Ya, Y9, Y1, Y2, Yw, Yi, Yh, Yg, Yj, Yk, Yl, Y5, Y3, Yd, Yt, Yu, Ys, Yr, Nat.reduceAdd, Nat.reduceLeDiff, Yp, Yq, Bool.and_self, Yv, Y8]
    ((repeat' apply And.intro) <;> try first | rfl | omega | (unfold I64; omega))
    all_goals first | omega | skip
    · obtain ⟨row, hr1, hr2⟩ := hC.get .nils
      have hrs := hC.set .nils (.sl 3 [] .no)
      rw [hr1, Option.getD_some] at hrs
      refine Run.weak (Weak.nilR 1 kq j o 3 _ row rfl hr1 hr2) ?_
      simp only [hrs, Y6, Y7]
      refine Run.unloop ?_
      refine Run.god tab_ok follows_ok Try.func132 60 ?_; simp only [Try.results132, ↓alt_f, Int.reduceLT, drun, aops, aone, afin, ares, aresL, aresOk, aop, needs, ext, aev, aput, aupd, acmp, ashift, abin, tab_3, ok1, exitTo, Y4, Yb, Yc, Y6, Y7, Y1, Y2, Y5, Y3, Yt, Ys, Yr, beq_self_eq_true, decide_false, Y0, Y8]
      exact ⟨by (repeat' first | exact .refl _ | apply LeR.tup | apply Le.agg | constructor), WkH.cons (LeB.same _ rfl) (WkH.cons (LeB.same _ (hC.bel 0 _ rfl)) (WkH.nil _))⟩
  · by_cases n2 : 30 < n
    · rw [if_pos (.inr n2)]
      refine Ops.god tab_ok follows_ok Try.func132 60 ?_; simp only [putBack, pp, n1, n2, hC.rd, hC.lt, hC.le, AV.cell, List.all_cons, List.all_nil, Y0, decide_true, decide_false, ↓alt_t, ↓alt_f, ↓alts_t, ↓alts_f, ↓gone_tt, ↓gone_ff, gslot, Int.reduceEq, drun, aops, aone, aop, needs, ext, aev, aconst, aput, aupd, aload, astore, afieldAddr, acmp, ashift, abin, alen, tab_3, tab_4, tab_34, tab_78, tab_145, tab_175, tab_197, ok1, lay, cellsAs, TI.agg, AV.cells, AV.whole, Y4, Yb, Yc, Y6, Y7, Ya, Y9, Y1, Y2, Yw, Yi, Yh, Yg, Yj, Yk, Yl, Y5, Y3, Yd, Yt, Yu, Ys, Yr, Nat.reduceAdd, Nat.reduceLeDiff, Yp, Yq, Bool.and_self, Yv, Y8]
      ((repeat' apply And.intro) <;> try first | rfl | omega | (unfold I64; omega))
      all_goals first | omega | skip
      · obtain ⟨row, hr1, hr2⟩ := hC.get .nils
        have hrs := hC.set .nils (.sl 3 [] .no)
        rw [hr1, Option.getD_some] at hrs
        refine Run.weak (Weak.nilR 1 kq j o 3 _ row rfl hr1 hr2) ?_
        simp only [hrs, Y6, Y7]
        refine Run.unloop ?_
        refine Run.god tab_ok follows_ok Try.func132 60 ?_; simp only [Try.results132, ↓alt_f, Int.reduceLT, drun, aops, aone, afin, ares, aresL, aresOk, aop, needs, ext, aev, aput, aupd, acmp, ashift, abin, tab_3, ok1, exitTo, Y4, Yb, Yc, Y6, Y7, Y1, Y2, Y5, Y3, Yt, Ys, Yr, beq_self_eq_true, decide_false, Y0, Y8]
        exact ⟨by (repeat' first | exact .refl _ | apply LeR.tup | apply Le.agg | constructor), WkH.cons (LeB.same _ rfl) (WkH.cons (LeB.same _ (hC.bel 0 _ rfl)) (WkH.nil _))⟩
    · rw [if_neg (by omega)]
      by_cases e0 : e' = 0
      · subst e0
        rw [if_pos rfl]
        obtain ⟨m, rfl⟩ := Int.eq_ofNat_of_zero_le (by omega : 0 ≤ n)
        have hm : m ≤ 30 := by omega
        rw [Int.toNat_natCast]
        have hS := rdAs_len b' 0
        have hSl := fun k => Nat.le_trans (rdAs_le k b' 0) (Nat.le_trans hbl hb)
        have hfin : (rowsA m (rdAs m b' 0).2.2).take m = (rdAs m b' 0).2.2.map accC := rowsA_fin m _ (hS m)
        refine Ops.god tab_ok follows_ok Try.func132 60 ?_; simp only [putBack, pp, n1, n2, hC.rd, hC.wr, hC.lt, hC.le, AV.cell, List.all_cons, List.all_nil, Y0, decide_true, decide_false, ↓alt_t, ↓alt_f, ↓alts_t, ↓alts_f, ↓gone_tt, ↓gone_ff, gslot, drun, adops, adone, places, mayNeed, freeOk, rdOf, AV.id, wrOf, aops, aone, aop, needs, ext, aev, aconst, aput, aupd, aload, astore, afieldAddr, acmp, ashift, abin, alen, tab_3, tab_4, tab_34, tab_77, tab_78, tab_145, tab_175, tab_197, ok1, lay, cellsAs, TI.agg, AV.cells, AV.whole, Y4, Yb, Yc, Y6, Y7, Ya, Y9, Y1, Y2, Yw, Yi, Yh, Yg, Yj, Yk, Y5, Y3, Yt, Yu, Ys, Yr, Nat.reduceAdd, Nat.reduceLeDiff, Yp, Yq, Bool.and_self, Nat.reduceLT, Yv, Int.toNat_natCast, Y8]
        ((repeat' apply And.intro) <;> try first | rfl | omega | (unfold I64; omega))
        all_goals first | omega | skip
        refine Run.loopV (α := Nat) (fun k => k ≤ m) (fun k => [(44, .int .i64 k)]) 5 (fun k => [(0, pp (rdAs k b' 0).1 true (rdAs k b' 0).2.1), (4, .rows 3 (rowsA m (rdAs k b' 0).2.2))]) (fun k => m - k) 0 (Nat.zero_le _) ?_ ?_
        · simp only [writes, junks, puts, hputs, List.filterMap_cons, List.filterMap_nil, Int.natCast_zero, Y6, Y7, Yg, Yk, Y5, Y3, Yd, rdAs, rowsA_nil, pp, bytesA]
          (refine Weak.of (by simp [hc0]) ?_ ?_ <;> (repeat' first | exact .refl _ | exact .junk _ | exact .nil | exact .nil _ | exact .tok _ _ _ | rfl | apply WkT.cons | apply WkH.cons | apply LeB.same | apply LeB.box | apply Le1L.cons | apply Le.agg | apply Le.one))
          all_goals (first | exact rowsA_bel _ _ _ | exact rowsA_bel0 _ _ | exact hC.bel _ _ (by simp [AV.bel]))
        intro k hk ih
        simp only [writes, junks, puts, hputs, List.filterMap_cons, List.filterMap_nil, Y6, Y7, Yg, Yk, Y5, Y3, Yd] at hk ih ⊢
        by_cases hlt : k < m
        · have hkk : (k : Int) < m := by omega
          have hrow := rowsA_get m k _ (hS k) hlt
          have hset := rowsA_set m k _ (hS k) hlt
          have hrb : belLL 0 (rowsA m (rdAs k b' 0).2.2) = true := rowsA_bel _ _ _
          refine Run.god tab_ok follows_ok Try.func132 60 ?_; simp only [hkk, hC.rd, hC.lt, hC.le, AV.cell, List.all_cons, List.all_nil, Y0, pp, decide_true, ↓alt_t, drun, adops, adone, places, mayNeed, freeOk, rdOf, AV.id, wrOf, aops, aone, aop, needs, ext, aev, aput, aupd, aload, afieldAddr, aindexAddr, acmp, ashift, abin, tab_3, tab_77, tab_78, tab_172, tab_175, tab_197, ok1, cellsAs, TI.agg, Y4, Yb, Yc, Y6, Y7, Ya, Y9, Y1, Y2, Yi, Yh, Yg, Yj, Yk, Y5, Y3, Yt, Yu, Ys, Yr, Nat.reduceAdd, Nat.reduceLeDiff, Yp, Yq, Bool.and_self, Nat.reduceLT, Yv, Int.toNat_natCast, Y8]
          ((repeat' apply And.intro) <;> try first | rfl | omega | (unfold I64; omega))
          refine DOps.callP rfl .free rfl rfl (js := [4]) (by decide) (LentAll.cons rfl (rows_lent hrb) LentAll.nil) (lent1 (rows_lent hrb)) rfl rfl (by simp only [cond_true, renL, AV.ren, List.idxOf, List.findIdx, List.findIdx.go, aev, Y4, Y1, Y2, Yf, Ye, Y3, Yd, Yp, beq_self_eq_true, Y0]; (repeat' first | exact .refl _ | apply LeR.tup | apply Le.agg | constructor)) (vote_d 3 k 0 _ (rows_lent hrb)) rfl ?_
          refine DOps.god tab_ok follows_ok Try.func132 60 rfl ?_; simp only [voteD, partC, AV.unr, unrL, unrLL, adops, adone, mayNeed, freeOk, rdOf, wrOf, aop, needs, aev, aput, aupd, ok1, Y4, Y6, Y7, Y1, Y2, Yf, Ye, Y5, Y3, Yt, Yu, Yr, Nat.reduceAdd, Yp, Y0, Y8]
          refine DOps.invokeB rfl .free rfl rfl meth_parts (js := [0, 4]) (by decide) (LentAll.cons rfl (pp_lent _ _ _) (LentAll.cons rfl (rows_lent hrb) LentAll.nil)) (lent2 (pp_lent _ _ _) (rows_lent (belLL_set hrb rfl))) rfl (by simp only [Yf, Ye, aev, Y4, Y1, Y2, Y0]; rfl) (by simp only [Yf, Ye, aev, Y4, Y1, Y2, Nat.reduceAdd, Nat.reduceBEq, Yp, beq_self_eq_true, Y0, cond_true, cond_false, renL, renLL, AV.ren, List.idxOf, List.findIdx, List.findIdx.go]; exact LeL.cons (Le.refl _) (LeL.cons (Le.refl _) LeL.nil)) (vote_rd _ _ zA _ k hrow hrb (hSl k)) rfl ?_
          refine DOps.god tab_ok follows_ok Try.func132 60 rfl ?_; simp only [putBack, pp, drun, adops, aops, aone, aop, needs, ext, aev, aconst, aput, aupd, acmp, aarith, ashift, abin, tab_3, ok1, Y4, Yb, Y6, Y7, Y1, Y2, Y5, Y3, Yt, Ys, Yr, Y0, Y8]
          ((repeat' apply And.intro) <;> try first | rfl | omega | (unfold I64; omega))
          refine ih (k + 1) _ (by omega) (by omega) ?_
          simp only [Int.natCast_add, Int.natCast_one, pp, bytesA, rdAs, hset]
          (refine Weak.of (by simp [hc0]) ?_ ?_ <;> (repeat' first | exact .refl _ | exact .junk _ | exact .nil | exact .nil _ | exact .tok _ _ _ | rfl | apply WkT.cons | apply WkH.cons | apply LeB.same | apply LeB.box | apply Le1L.cons | apply Le.agg | apply Le.one))
          all_goals (first | exact rowsA_bel _ _ _ | exact hC.bel _ _ (by simp [AV.bel]))
        · obtain rfl : m = k := by omega
          have hkk : ¬ (m : Int) < m := by omega
          obtain ⟨row, hr1, hr2⟩ := hC.get (.msl 4 3 0 m m)
          have hrs := fun x => hC.set (.msl 4 3 0 m m) x
          simp only [hr1, Y4] at hrs
          refine Run.weak (Weak.freezeR 1 kq j o 4 3 0 m m _ _ row rfl hr1 hr2 (by decide) rfl (by decide) (by rw [rowsA_len]; omega) (by rw [List.drop_zero, hfin]; exact rowsA_plain _)) ?_
          simp only [Yi, hfin, hrs, Y6, Y7]
          refine Run.god tab_ok follows_ok Try.func132 60 ?_; simp only [Try.results132, hkk, pp, decide_false, ↓alt_f, drun, aops, aone, afin, ares, aresL, aresOk, aop, needs, ext, aev, aput, aupd, acmp, ashift, abin, tab_3, ok1, exitTo, Y4, Yb, Yc, Y6, Y7, Y1, Y2, Y5, Y3, Yt, Ys, Yr, beq_self_eq_true, Y0, Y8]
          exact ⟨by (repeat' first | exact .refl _ | apply LeR.tup | apply Le.agg | constructor), WkH.cons (LeB.same _ rfl) (WkH.cons (LeB.same _ (hC.bel 0 _ rfl)) (WkH.nil _))⟩
      · rw [if_neg e0]
        refine Ops.god tab_ok follows_ok Try.func132 60 ?_; simp only [putBack, pp, n1, n2, e0, hC.rd, hC.lt, hC.le, AV.cell, List.all_cons, List.all_nil, Y0, decide_false, ↓alt_f, ↓alts_t, ↓alts_f, ↓gone_tt, ↓gone_ff, gslot, drun, aops, aone, aop, needs, ext, aev, aconst, aput, aupd, aload, afieldAddr, acmp, ashift, abin, alen, tab_3, tab_4, tab_34, tab_78, tab_145, tab_175, tab_197, ok1, cellsAs, TI.agg, Y4, Yb, Yc, Y6, Y7, Ya, Y9, Y1, Y2, Yw, Yi, Yh, Yg, Yj, Yk, Y5, Y3, Yt, Ys, Yr, Nat.reduceAdd, Nat.reduceLeDiff, Yp, Yq, Bool.and_self, Yv, Y8]
        ((repeat' apply And.intro) <;> try first | rfl | omega | (unfold I64; omega))
        all_goals first | omega | skip
        · obtain ⟨row, hr1, hr2⟩ := hC.get .nils
          have hrs := hC.set .nils (.sl 3 [] .no)
          rw [hr1, Option.getD_some] at hrs
          refine Run.weak (Weak.nilR 1 kq j o 3 _ row rfl hr1 hr2) ?_
          simp only [hrs, Y6, Y7]
          refine Run.unloop ?_
          refine Run.god tab_ok follows_ok Try.func132 60 ?_; simp only [Try.results132, ↓alt_f, Int.reduceLT, drun, aops, aone, afin, ares, aresL, aresOk, aop, needs, ext, aev, aput, aupd, acmp, ashift, abin, tab_3, ok1, exitTo, Y4, Yb, Yc, Y6, Y7, Y1, Y2, Y5, Y3, Yt, Ys, Yr, beq_self_eq_true, decide_false, Y0, Y8]
          exact ⟨by (repeat' first | exact .refl _ | apply LeR.tup | apply Le.agg | constructor), WkH.cons (LeB.same _ rfl) (WkH.cons (LeB.same _ (hC.bel 0 _ rfl)) (WkH.nil _))⟩
end Go.Proofs.Ytkamcoechjdgpaa
/-
  Package wire: reports, taken: into a box, into rows; rows of reports.
-/
namespace Go.Proofs.Ytkamcoechjdgpaa
open Go.RowKit
def r1 (b : Bytes) (e : Int) : Bytes × Int × Int := rdN b e 0
def r2 (b : Bytes) (e : Int) : Bytes × Int × Int := rdN (r1 b e).1 (r1 b e).2.1 0
def r3 (b : Bytes) (e : Int) : Bytes × Int × Bool := rdF (r2 b e).1 (r2 b e).2.1 false
def r4 (b : Bytes) (e : Int) : Bytes × Int × Int := rdN (r3 b e).1 (r3 b e).2.1 0
def r5 (b : Bytes) (e : Int) : Bytes × Int × Bytes := rdT (r4 b e).1 (r4 b e).2.1 []
def r6 (b : Bytes) (e : Int) : Bytes × Int × List Acc := rdV (r5 b e).1 (r5 b e).2.1
def rdR (b : Bytes) (e : Int) : Bytes × Int × Rp := ((r6 b e).1, (r6 b e).2.1, ⟨(r1 b e).2.2, (r2 b e).2.2, (r3 b e).2.2, (r4 b e).2.2, (r5 b e).2.2, (r6 b e).2.2⟩)
def rpZ : List AV := [.int .i64 0, .int .i64 0, .bool false, .int .i64 0, .str [], .nils]
theorem r1_le (b : Bytes) (e : Int) : (r1 b e).1.length ≤ b.length := rdN_le _ _ _
theorem r2_le (b : Bytes) (e : Int) : (r2 b e).1.length ≤ b.length := Nat.le_trans (rdN_le _ _ _) (r1_le b e)
theorem r3_le (b : Bytes) (e : Int) : (r3 b e).1.length ≤ b.length := Nat.le_trans (rdF_le _ _ _) (r2_le b e)
theorem r4_le (b : Bytes) (e : Int) : (r4 b e).1.length ≤ b.length := Nat.le_trans (rdN_le _ _ _) (r3_le b e)
theorem r5_le (b : Bytes) (e : Int) : (r5 b e).1.length ≤ b.length := Nat.le_trans (rdT_le _ _ _) (r4_le b e)
theorem r6_le (b : Bytes) (e : Int) : (r6 b e).1.length ≤ b.length := Nat.le_trans (rdV_le _ _) (r5_le b e)
theorem rdR_le (b : Bytes) (e : Int) : (rdR b e).1.length ≤ b.length := r6_le b e
theorem votes_b (o : Nat) (X : ABlk) (hX : LentB X) : BSpec Try.prog 90 [.ptr 0 o] [X] [X] (.iface 197 (.agg [.ptr 0 o, .fn (.func 89) [] []])) := by
  refine ⟨⟨_, Try.func90, by kernel_rfl, rfl⟩, ACall.of Try.func90 rfl fun c0 hc0 => ?_⟩; simp only [Try.ntmps90, Ya, Y9, Nat.reduceAdd, Nat.reduceSub, Ym, Yn, Y5, Y3]; refine Run.god tab_ok follows_ok Try.func90 60 ?_; simp only [Try.results90, drun, aops, aone, afin, ares, aresL, ares1, aresOk, aresOk1, aop, needs, ext, aev, aconst, aput, aupd, abuild, tab_172, tab_175, tab_197, ok1, lay, AV.cells, AV.whole, Y4, Yb, Yc, Y6, Y7, Ya, Y9, Y1, Y2, Yi, Yh, Yg, Yj, Yl, Yf, Ye, Y5, Y3, Yd, Yt, Yu, Yr, Nat.reduceAdd, Nat.reduceLeDiff, Yp, Yv, Y0, Y8]
  ((repeat' apply And.intro) <;> try first | rfl | omega | (unfold I64; omega))
  all_goals (first | exact WkH.cons (LeB.same _ (hX.bel 0)) (WkH.nil _) | (repeat' first | exact .refl _ | apply LeR.tup | apply Le.agg | constructor))
def reportB_ (i : Nat) (o : Nat) : List (Nat × AV) := [(148, .agg [.ptr i o]), (148, .agg [.ptr i (o + 1)]), (195, .agg [.ptr i (o + 2)]), (148, .agg [.ptr i (o + 3)]), (165, .agg [.ptr i (o + 4)]), (197, .agg [.ptr i (o + 5), .fn (.func 89) [] []])]
theorem report_b (o : Nat) (X : ABlk) (hX : LentB X) : BSpec Try.prog 88 [.ptr 0 o] [X] [X] (.iface 171 (.psl 1 ((reportB_ 0 o).map partC))) := by
  refine ⟨⟨_, Try.func88, by kernel_rfl, rfl⟩, ACall.of Try.func88 rfl fun c0 hc0 => ?_⟩; simp only [Try.ntmps88, Ya, Y9, Nat.reduceAdd, Nat.reduceSub, Ym, Yn, Y5, Y3]; refine Run.god tab_ok follows_ok Try.func88 60 ?_; simp only [reportB_, partC, drun, adops, adone, places, mayNeed, freeOk, rdOf, wrOf, aops, aone, aop, needs, ext, aev, aconst, aput, aupd, afieldAddr, abuild, tab_80, tab_146, tab_148, tab_163, tab_165, tab_193, tab_195, ok1, lay, AV.cells, AV.whole, Y4, Yb, Yc, Y6, Y7, Ya, Y9, Y1, Y2, Yh, Yj, Yl, Yf, Ye, Y5, Y3, Yd, Yt, Yu, Ys, Yr, Nat.reduceAdd, Yp, Yq, Yv, Y0, Y8]
  refine ⟨rfl, ?_⟩
  refine DOps.callP rfl .free rfl rfl (js := [0]) (by decide) (LentAll.cons rfl (hX) LentAll.nil) (lent1 (hX)) rfl rfl (by simp only [cond_true, renL, AV.ren, List.idxOf, List.findIdx, List.findIdx.go, aev, Y4, Y1, Y2, Yf, Ye, Y3, Yd, Yp, beq_self_eq_true, Y0]; (repeat' first | exact .refl _ | apply LeR.tup | apply Le.agg | constructor)) (votes_b (o + 5) _ hX) rfl ?_
  refine DOps.god tab_ok follows_ok Try.func88 60 rfl ?_; simp only [Try.results88, AV.unr, unrL, drun, adops, adone, mayNeed, freeOk, rdOf, wrOf, afin, ares, aresL, ares1, aresOk, aresOk1, aop, needs, aev, aconst, aput, aupd, aelems, plains, tab_151, tab_171, ok1, AV.cells, AV.whole, AV.plain, AV.bare, Y4, Yb, Yc, Y6, Y7, Ya, Y9, Y1, Y2, Yf, Ye, Y5, Y3, List.all_cons, List.all_nil, Ym, Yn, Yt, Yu, Ys, Yr, Nat.reduceAdd, Nat.reduceLeDiff, Nat.reduceMul, Nat.reduceBEq, Yp, Bool.and_self, Bool.and_true, Bool.and_false, Nat.reduceLT, Y0, Y8]
  ((repeat' apply And.intro) <;> try first | rfl | omega | (unfold I64; omega))
  all_goals (first | exact WkH.cons (LeB.same _ (hX.bel 0)) (WkH.nil _) | (repeat' first | exact .refl _ | apply LeR.tup | apply Le.agg | constructor))
theorem votes_d (k j : Nat) (o : Nat) (X : ABlk) (hX : LentB X) : BSpec Try.prog 90 [.eptr 0 k j o] [X] [X] (.iface 197 (.agg [.eptr 0 k j o, .fn (.func 89) [] []])) := by
  refine ⟨⟨_, Try.func90, by kernel_rfl, rfl⟩, ACall.of Try.func90 rfl fun c0 hc0 => ?_⟩; simp only [Try.ntmps90, Ya, Y9, Nat.reduceAdd, Nat.reduceSub, Ym, Yn, Y5, Y3]; refine Run.god tab_ok follows_ok Try.func90 60 ?_; simp only [Try.results90, drun, aops, aone, afin, ares, aresL, ares1, aresOk, aresOk1, aop, needs, ext, aev, aconst, aput, aupd, abuild, tab_172, tab_175, tab_197, ok1, lay, AV.cells, AV.whole, Y4, Yb, Yc, Y6, Y7, Ya, Y9, Y1, Y2, Yi, Yh, Yg, Yj, Yl, Yf, Ye, Y5, Y3, Yd, Yt, Yu, Yr, Nat.reduceAdd, Nat.reduceLeDiff, Yp, Yv, Y0, Y8]
  ((repeat' apply And.intro) <;> try first | rfl | omega | (unfold I64; omega))
  all_goals (first | exact WkH.cons (LeB.same _ (hX.bel 0)) (WkH.nil _) | (repeat' first | exact .refl _ | apply LeR.tup | apply Le.agg | constructor))
def reportD (i : Nat) (k j : Nat) (o : Nat) : List (Nat × AV) := [(148, .agg [.eptr i k j o]), (148, .agg [.eptr i k j (o + 1)]), (195, .agg [.eptr i k j (o + 2)]), (148, .agg [.eptr i k j (o + 3)]), (165, .agg [.eptr i k j (o + 4)]), (197, .agg [.eptr i k j (o + 5), .fn (.func 89) [] []])]
theorem report_d (k j : Nat) (o : Nat) (X : ABlk) (hX : LentB X) : BSpec Try.prog 88 [.eptr 0 k j o] [X] [X] (.iface 171 (.psl 1 ((reportD 0 k j o).map partC))) := by
  refine ⟨⟨_, Try.func88, by kernel_rfl, rfl⟩, ACall.of Try.func88 rfl fun c0 hc0 => ?_⟩; simp only [Try.ntmps88, Ya, Y9, Nat.reduceAdd, Nat.reduceSub, Ym, Yn, Y5, Y3]; refine Run.god tab_ok follows_ok Try.func88 60 ?_; simp only [reportD, partC, drun, adops, adone, places, mayNeed, freeOk, rdOf, wrOf, aops, aone, aop, needs, ext, aev, aconst, aput, aupd, afieldAddr, abuild, tab_80, tab_146, tab_148, tab_163, tab_165, tab_193, tab_195, ok1, lay, AV.cells, AV.whole, Y4, Yb, Yc, Y6, Y7, Ya, Y9, Y1, Y2, Yh, Yj, Yl, Yf, Ye, Y5, Y3, Yd, Yt, Yu, Ys, Yr, Nat.reduceAdd, Yp, Yq, forall_const, reduceCtorEq, false_implies, implies_true, Yv, Y0, Y8]
  refine ⟨rfl, ?_⟩
  refine DOps.callP rfl .free rfl rfl (js := [0]) (by decide) (LentAll.cons rfl (hX) LentAll.nil) (lent1 (hX)) rfl rfl (by simp only [cond_true, renL, AV.ren, List.idxOf, List.findIdx, List.findIdx.go, aev, Y4, Y1, Y2, Yf, Ye, Y3, Yd, Yp, beq_self_eq_true, Y0]; (repeat' first | exact .refl _ | apply LeR.tup | apply Le.agg | constructor)) (votes_d k j (o + 5) _ hX) rfl ?_
  refine DOps.god tab_ok follows_ok Try.func88 60 rfl ?_; simp only [Try.results88, AV.unr, unrL, drun, adops, adone, mayNeed, freeOk, rdOf, wrOf, afin, ares, aresL, ares1, aresOk, aresOk1, aop, needs, aev, aconst, aput, aupd, aelems, plains, tab_151, tab_171, ok1, AV.cells, AV.whole, AV.plain, AV.bare, Y4, Yb, Yc, Y6, Y7, Ya, Y9, Y1, Y2, Yf, Ye, Y5, Y3, List.all_cons, List.all_nil, Ym, Yn, Yt, Yu, Ys, Yr, Nat.reduceAdd, Nat.reduceLeDiff, Nat.reduceMul, Nat.reduceBEq, Yp, Bool.and_self, Bool.and_true, Bool.and_false, Nat.reduceLT, Y0, Y8]
  ((repeat' apply And.intro) <;> try first | rfl | omega | (unfold I64; omega))
  all_goals (first | exact WkH.cons (LeB.same _ (hX.bel 0)) (WkH.nil _) | (repeat' first | exact .refl _ | apply LeR.tup | apply Le.agg | constructor))
theorem report_rb (b : Bytes) (e : Int) (xs ys : List AV) (o : Nat) (ho : o = xs.length) (hx : belL 0 xs = true) (hy : belL 0 ys = true) (hb : b.length ≤ 1000000) : BSpec Try.prog 118 [.psl 1 ((reportB_ 1 o).map partC), .ptr 0 0] [pp b true e, .box (xs ++ (rpZ ++ ys))] [pp (rdR b e).1 true (rdR b e).2.1, .box (xs ++ (rpC (rdR b e).2.2 ++ ys))] (.tup []) := by
  have c0 : CellAt (fun x => xs ++ x :: .int .i64 0 :: .bool false :: .int .i64 0 :: .str [] :: .nils :: ys) o := .of (xs ++ []) (.int .i64 0 :: .bool false :: .int .i64 0 :: .str [] :: .nils :: ys) (fun _ => by simp) (by simp [ho]) (belL_app hx rfl) (by simp [belL, AV.bel, hy])
  have c1 : CellAt (fun x => xs ++ .int .i64 (r1 b e).2.2 :: x :: .bool false :: .int .i64 0 :: .str [] :: .nils :: ys) (o + 1) := .of (xs ++ [.int .i64 (r1 b e).2.2]) (.bool false :: .int .i64 0 :: .str [] :: .nils :: ys) (fun _ => by simp) (by simp [ho]) (belL_app hx rfl) (by simp [belL, AV.bel, hy])
  have c2 : CellAt (fun x => xs ++ .int .i64 (r1 b e).2.2 :: .int .i64 (r2 b e).2.2 :: x :: .int .i64 0 :: .str [] :: .nils :: ys) (o + 2) := .of (xs ++ [.int .i64 (r1 b e).2.2, .int .i64 (r2 b e).2.2]) (.int .i64 0 :: .str [] :: .nils :: ys) (fun _ => by simp) (by simp [ho]) (belL_app hx rfl) (by simp [belL, AV.bel, hy])
  have c3 : CellAt (fun x => xs ++ .int .i64 (r1 b e).2.2 :: .int .i64 (r2 b e).2.2 :: .bool (r3 b e).2.2 :: x :: .str [] :: .nils :: ys) (o + 3) := .of (xs ++ [.int .i64 (r1 b e).2.2, .int .i64 (r2 b e).2.2, .bool (r3 b e).2.2]) (.str [] :: .nils :: ys) (fun _ => by simp) (by simp [ho]) (belL_app hx rfl) (by simp [belL, AV.bel, hy])
  have c4 : CellAt (fun x => xs ++ .int .i64 (r1 b e).2.2 :: .int .i64 (r2 b e).2.2 :: .bool (r3 b e).2.2 :: .int .i64 (r4 b e).2.2 :: x :: .nils :: ys) (o + 4) := .of (xs ++ [.int .i64 (r1 b e).2.2, .int .i64 (r2 b e).2.2, .bool (r3 b e).2.2, .int .i64 (r4 b e).2.2]) (.nils :: ys) (fun _ => by simp) (by simp [ho]) (belL_app hx rfl) (by simp [belL, AV.bel, hy])
  have c5 : CellAt (fun x => xs ++ .int .i64 (r1 b e).2.2 :: .int .i64 (r2 b e).2.2 :: .bool (r3 b e).2.2 :: .int .i64 (r4 b e).2.2 :: .str (r5 b e).2.2 :: x :: ys) (o + 5) := .of (xs ++ [.int .i64 (r1 b e).2.2, .int .i64 (r2 b e).2.2, .bool (r3 b e).2.2, .int .i64 (r4 b e).2.2, .str (r5 b e).2.2]) (ys) (fun _ => by simp) (by simp [ho]) (belL_app hx rfl) (by simp [hy])
  refine parts_r (reportB_ 1 o) (fun | 0 => pp b true e | 1 => pp (r1 b e).1 true (r1 b e).2.1 | 2 => pp (r2 b e).1 true (r2 b e).2.1 | 3 => pp (r3 b e).1 true (r3 b e).2.1 | 4 => pp (r4 b e).1 true (r4 b e).2.1 | 5 => pp (r5 b e).1 true (r5 b e).2.1 | _ => pp (r6 b e).1 true (r6 b e).2.1)
    (fun | 0 => .box (xs ++ .int .i64 0 :: .int .i64 0 :: .bool false :: .int .i64 0 :: .str [] :: .nils :: ys) | 1 => .box (xs ++ .int .i64 (r1 b e).2.2 :: .int .i64 0 :: .bool false :: .int .i64 0 :: .str [] :: .nils :: ys) | 2 => .box (xs ++ .int .i64 (r1 b e).2.2 :: .int .i64 (r2 b e).2.2 :: .bool false :: .int .i64 0 :: .str [] :: .nils :: ys) | 3 => .box (xs ++ .int .i64 (r1 b e).2.2 :: .int .i64 (r2 b e).2.2 :: .bool (r3 b e).2.2 :: .int .i64 0 :: .str [] :: .nils :: ys) | 4 => .box (xs ++ .int .i64 (r1 b e).2.2 :: .int .i64 (r2 b e).2.2 :: .bool (r3 b e).2.2 :: .int .i64 (r4 b e).2.2 :: .str [] :: .nils :: ys) | 5 => .box (xs ++ .int .i64 (r1 b e).2.2 :: .int .i64 (r2 b e).2.2 :: .bool (r3 b e).2.2 :: .int .i64 (r4 b e).2.2 :: .str (r5 b e).2.2 :: .nils :: ys) | _ => .box (xs ++ .int .i64 (r1 b e).2.2 :: .int .i64 (r2 b e).2.2 :: .bool (r3 b e).2.2 :: .int .i64 (r4 b e).2.2 :: .str (r5 b e).2.2 :: votesA (r6 b e).2.2 :: ys))
    (by simp [reportB_]) (fun k _ => by match k with | 0 => exact pp_lent _ _ _ | 1 => exact pp_lent _ _ _ | 2 => exact pp_lent _ _ _ | 3 => exact pp_lent _ _ _ | 4 => exact pp_lent _ _ _ | 5 => exact pp_lent _ _ _ | k + 6 => exact pp_lent _ _ _)
    (fun k _ => by match k with | 0 => exact .box_ _ (c0.bel 0 (.int .i64 0) rfl) | 1 => exact .box_ _ (c1.bel 0 (.int .i64 0) rfl) | 2 => exact .box_ _ (c2.bel 0 (.bool false) rfl) | 3 => exact .box_ _ (c3.bel 0 (.int .i64 0) rfl) | 4 => exact .box_ _ (c4.bel 0 (.str []) rfl) | 5 => exact .box_ _ (c5.bel 0 .nils rfl) | k + 6 => exact .box_ _ (c5.bel 0 (votesA (r6 b e).2.2) rfl)) ?_
  intro k t v h
  match k, h with
  | 0, h => cases h; exact ⟨rfl, rfl, rfl, _, meth_number, number_c b e 0 _ o c0 hb⟩
  | 1, h => cases h; exact ⟨rfl, rfl, rfl, _, meth_number, number_c (r1 b e).1 (r1 b e).2.1 0 _ (o + 1) c1 (Nat.le_trans (r1_le b e) hb)⟩
  | 2, h => cases h; exact ⟨rfl, rfl, rfl, _, meth_flag, flag_c (r2 b e).1 (r2 b e).2.1 false _ (o + 2) c2 (Nat.le_trans (r2_le b e) hb)⟩
  | 3, h => cases h; exact ⟨rfl, rfl, rfl, _, meth_number, number_c (r3 b e).1 (r3 b e).2.1 0 _ (o + 3) c3 (Nat.le_trans (r3_le b e) hb)⟩
  | 4, h => cases h; exact ⟨rfl, rfl, rfl, _, meth_text, text_c (r4 b e).1 (r4 b e).2.1 [] _ (o + 4) c4 (Nat.le_trans (r4_le b e) hb)⟩
  | 5, h => cases h; exact ⟨rfl, rfl, rfl, _, meth_rowA, rowA_rb (r5 b e).1 (r5 b e).2.1 _ (o + 5) c5 (Nat.le_trans (r5_le b e) hb)⟩
  | k + 6, h => simp [reportB_] at h
theorem report_rd (b : Bytes) (e : Int) (L : List (List AV)) (j : Nat) (hj : L[j]? = some rpZ) (hL : belLL 0 L = true) (hb : b.length ≤ 1000000) : BSpec Try.prog 118 [.psl 1 ((reportD 1 6 j 0).map partC), .ptr 0 0] [pp b true e, .rows 6 L] [pp (rdR b e).1 true (rdR b e).2.1, .rows 6 (L.set j (rpC (rdR b e).2.2))] (.tup []) := by
  have hlt : j < L.length := (List.getElem?_eq_some_iff.1 hj).1
  have e0 : L.set j rpZ = L := by
    obtain ⟨h1, h2⟩ := List.getElem?_eq_some_iff.1 hj
    rw [← h2, List.set_getElem_self]
  have c0 : CellIn (fun x => L.set j [x, .int .i64 0, .bool false, .int .i64 0, .str [], .nils]) 6 j 0 := .of (C := fun x => [x, .int .i64 0, .bool false, .int .i64 0, .str [], .nils]) L hlt (.of [] _ (fun _ => rfl) rfl rfl rfl) (by decide) (fun _ => rfl) hL
  have c1 : CellIn (fun x => L.set j [.int .i64 (r1 b e).2.2, x, .bool false, .int .i64 0, .str [], .nils]) 6 j 1 := .of (C := fun x => [.int .i64 (r1 b e).2.2, x, .bool false, .int .i64 0, .str [], .nils]) L hlt (.of [.int .i64 (r1 b e).2.2] _ (fun _ => rfl) rfl rfl rfl) (by decide) (fun _ => rfl) hL
  have c2 : CellIn (fun x => L.set j [.int .i64 (r1 b e).2.2, .int .i64 (r2 b e).2.2, x, .int .i64 0, .str [], .nils]) 6 j 2 := .of (C := fun x => [.int .i64 (r1 b e).2.2, .int .i64 (r2 b e).2.2, x, .int .i64 0, .str [], .nils]) L hlt (.of [.int .i64 (r1 b e).2.2, .int .i64 (r2 b e).2.2] _ (fun _ => rfl) rfl rfl rfl) (by decide) (fun _ => rfl) hL
  have c3 : CellIn (fun x => L.set j [.int .i64 (r1 b e).2.2, .int .i64 (r2 b e).2.2, .bool (r3 b e).2.2, x, .str [], .nils]) 6 j 3 := .of (C := fun x => [.int .i64 (r1 b e).2.2, .int .i64 (r2 b e).2.2, .bool (r3 b e).2.2, x, .str [], .nils]) L hlt (.of [.int .i64 (r1 b e).2.2, .int .i64 (r2 b e).2.2, .bool (r3 b e).2.2] _ (fun _ => rfl) rfl rfl rfl) (by decide) (fun _ => rfl) hL
  have c4 : CellIn (fun x => L.set j [.int .i64 (r1 b e).2.2, .int .i64 (r2 b e).2.2, .bool (r3 b e).2.2, .int .i64 (r4 b e).2.2, x, .nils]) 6 j 4 := .of (C := fun x => [.int .i64 (r1 b e).2.2, .int .i64 (r2 b e).2.2, .bool (r3 b e).2.2, .int .i64 (r4 b e).2.2, x, .nils]) L hlt (.of [.int .i64 (r1 b e).2.2, .int .i64 (r2 b e).2.2, .bool (r3 b e).2.2, .int .i64 (r4 b e).2.2] _ (fun _ => rfl) rfl rfl rfl) (by decide) (fun _ => rfl) hL
  have c5 : CellIn (fun x => L.set j [.int .i64 (r1 b e).2.2, .int .i64 (r2 b e).2.2, .bool (r3 b e).2.2, .int .i64 (r4 b e).2.2, .str (r5 b e).2.2, x]) 6 j 5 := .of (C := fun x => [.int .i64 (r1 b e).2.2, .int .i64 (r2 b e).2.2, .bool (r3 b e).2.2, .int .i64 (r4 b e).2.2, .str (r5 b e).2.2, x]) L hlt (.of [.int .i64 (r1 b e).2.2, .int .i64 (r2 b e).2.2, .bool (r3 b e).2.2, .int .i64 (r4 b e).2.2, .str (r5 b e).2.2] _ (fun _ => rfl) rfl rfl rfl) (by decide) (fun _ => rfl) hL
  have key := parts_r (reportD 1 6 j 0) (fun | 0 => pp b true e | 1 => pp (r1 b e).1 true (r1 b e).2.1 | 2 => pp (r2 b e).1 true (r2 b e).2.1 | 3 => pp (r3 b e).1 true (r3 b e).2.1 | 4 => pp (r4 b e).1 true (r4 b e).2.1 | 5 => pp (r5 b e).1 true (r5 b e).2.1 | _ => pp (r6 b e).1 true (r6 b e).2.1)
    (fun | 0 => .rows 6 (L.set j [.int .i64 0, .int .i64 0, .bool false, .int .i64 0, .str [], .nils]) | 1 => .rows 6 (L.set j [.int .i64 (r1 b e).2.2, .int .i64 0, .bool false, .int .i64 0, .str [], .nils]) | 2 => .rows 6 (L.set j [.int .i64 (r1 b e).2.2, .int .i64 (r2 b e).2.2, .bool false, .int .i64 0, .str [], .nils]) | 3 => .rows 6 (L.set j [.int .i64 (r1 b e).2.2, .int .i64 (r2 b e).2.2, .bool (r3 b e).2.2, .int .i64 0, .str [], .nils]) | 4 => .rows 6 (L.set j [.int .i64 (r1 b e).2.2, .int .i64 (r2 b e).2.2, .bool (r3 b e).2.2, .int .i64 (r4 b e).2.2, .str [], .nils]) | 5 => .rows 6 (L.set j [.int .i64 (r1 b e).2.2, .int .i64 (r2 b e).2.2, .bool (r3 b e).2.2, .int .i64 (r4 b e).2.2, .str (r5 b e).2.2, .nils]) | _ => .rows 6 (L.set j [.int .i64 (r1 b e).2.2, .int .i64 (r2 b e).2.2, .bool (r3 b e).2.2, .int .i64 (r4 b e).2.2, .str (r5 b e).2.2, votesA (r6 b e).2.2]))
    (by simp [reportD]) (fun k _ => by match k with | 0 => exact pp_lent _ _ _ | 1 => exact pp_lent _ _ _ | 2 => exact pp_lent _ _ _ | 3 => exact pp_lent _ _ _ | 4 => exact pp_lent _ _ _ | 5 => exact pp_lent _ _ _ | k + 6 => exact pp_lent _ _ _)
    (fun k _ => by match k with | 0 => exact rows_lent (belLL_set hL rfl) | 1 => exact rows_lent (belLL_set hL rfl) | 2 => exact rows_lent (belLL_set hL rfl) | 3 => exact rows_lent (belLL_set hL rfl) | 4 => exact rows_lent (belLL_set hL rfl) | 5 => exact rows_lent (belLL_set hL rfl) | k + 6 => exact rows_lent (belLL_set hL rfl)) ?hh
  case hh =>
   intro k t v h
   match k, h with
   | 0, h => cases h; exact ⟨rfl, rfl, rfl, _, meth_number, number_d b e 0 _ 6 j 0 c0 hb⟩
   | 1, h => cases h; exact ⟨rfl, rfl, rfl, _, meth_number, number_d (r1 b e).1 (r1 b e).2.1 0 _ 6 j 1 c1 (Nat.le_trans (r1_le b e) hb)⟩
   | 2, h => cases h; exact ⟨rfl, rfl, rfl, _, meth_flag, flag_d (r2 b e).1 (r2 b e).2.1 false _ 6 j 2 c2 (Nat.le_trans (r2_le b e) hb)⟩
   | 3, h => cases h; exact ⟨rfl, rfl, rfl, _, meth_number, number_d (r3 b e).1 (r3 b e).2.1 0 _ 6 j 3 c3 (Nat.le_trans (r3_le b e) hb)⟩
   | 4, h => cases h; exact ⟨rfl, rfl, rfl, _, meth_text, text_d (r4 b e).1 (r4 b e).2.1 [] _ 6 j 4 c4 (Nat.le_trans (r4_le b e) hb)⟩
   | 5, h => cases h; exact ⟨rfl, rfl, rfl, _, meth_rowA, rowA_rd (r5 b e).1 (r5 b e).2.1 _ 6 j 5 c5 (Nat.le_trans (r5_le b e) hb)⟩
   | k + 6, h => simp [reportD] at h
  have e1 : BSpec Try.prog 118 [.psl 1 ((reportD 1 6 j 0).map partC), .ptr 0 0] [pp b true e, .rows 6 (L.set j rpZ)] [pp (rdR b e).1 true (rdR b e).2.1, .rows 6 (L.set j (rpC (rdR b e).2.2))] (.tup []) := key
  rwa [e0] at e1
def rdRs : Nat → Bytes → Int → Bytes × Int × List Rp
  | 0, b, e => (b, e, [])
  | n + 1, b, e => ((rdR (rdRs n b e).1 (rdRs n b e).2.1).1, (rdR (rdRs n b e).1 (rdRs n b e).2.1).2.1, (rdRs n b e).2.2 ++ [(rdR (rdRs n b e).1 (rdRs n b e).2.1).2.2])
def rdC (b : Bytes) (e : Int) : Bytes × Int × List Rp :=
  if (rdN b e 0).2.2 < 0 ∨ 30 < (rdN b e 0).2.2 then ((rdN b e 0).1, 5, []) else if (rdN b e 0).2.1 = 0 then rdRs (rdN b e 0).2.2.toNat (rdN b e 0).1 0 else ((rdN b e 0).1, (rdN b e 0).2.1, [])
theorem rdRs_len (b : Bytes) (e : Int) : ∀ n, (rdRs n b e).2.2.length = n
  | 0 => rfl
  | n + 1 => by simp [rdRs, rdRs_len b e n]
theorem rdRs_le : ∀ (n : Nat) (b : Bytes) (e : Int), (rdRs n b e).1.length ≤ b.length
  | 0, _, _ => Nat.le_refl _
  | n + 1, b, e => Nat.le_trans (rdR_le _ _) (rdRs_le n b e)
def rowsR (m : Nat) (l : List Rp) : List (List AV) := l.map rpC ++ List.replicate (m - l.length) rpZ
theorem rowsR_nil (m : Nat) : rowsR m [] = List.replicate m [.int .i64 0, .int .i64 0, .bool false, .int .i64 0, .str [], .nils] := rfl
theorem rowsR_bel (n m : Nat) (l : List Rp) : belLL n (rowsR m l) = true := by
  refine belLL_app ?_ (belLL_rep rfl _)
  induction l with
  | nil => rfl
  | cons a l ih => simp only [Yf, belLL, ih, Bool.and_true]; rfl
theorem rowsR_bel0 (n m : Nat) : belLL n (List.replicate m [AV.int .i64 0, .int .i64 0, .bool false, .int .i64 0, .str [], .nils]) = true := rowsR_bel n m []
theorem rowsR_len (m : Nat) (l : List Rp) : (rowsR m l).length = l.length + (m - l.length) := by simp [rowsR]
theorem rowsR_get (m k : Nat) (l : List Rp) (hl : l.length = k) (hk : k < m) : (rowsR m l)[k]? = some rpZ := by
  unfold rowsR
  rw [List.getElem?_append_right (by simp [hl]), List.length_map, hl, Nat.sub_self, List.getElem?_replicate, if_pos (by omega)]
theorem rowsR_set (m k : Nat) (l : List Rp) (hl : l.length = k) (hk : k < m) (a : Rp) : (rowsR m l).set k (rpC a) = rowsR m (l ++ [a]) := by
  unfold rowsR
  obtain ⟨d, hd⟩ : ∃ d, m - k = d + 1 := ⟨m - k - 1, by omega⟩
  rw [List.set_append_right _ _ (by simp [hl]), List.length_map, hl, Nat.sub_self, hd, List.replicate_succ, List.set_cons_zero, List.map_append, List.append_assoc, List.length_append, hl, show m - (k + [a].length) = d by simp; omega]
  rfl
theorem rowsR_fin (m : Nat) (l : List Rp) (hl : l.length = m) : (rowsR m l).take m = l.map rpC := by
  unfold rowsR
  exact List.take_left' (by simp [hl])
theorem rowsR_plain (l : List Rp) : ∀ x ∈ l.map rpC, ∀ a ∈ x, a.plain = true := by
  intro x hx a ha
  obtain ⟨c, _, rfl⟩ := List.mem_map.1 hx
  simp only [rpC, List.mem_cons, List.not_mem_nil, or_false] at ha
  rcases ha with rfl | rfl | rfl | rfl | rfl | rfl <;> rfl
theorem rowR_rb (b : Bytes) (e : Int) (C : AV → List AV) (o : Nat) (hC : CellAt C o) (hb : b.length ≤ 1000000) : BSpec Try.prog 117 [.agg [.ptr 1 o, .fn (.func 88) [] []], .ptr 0 0] [pp b true e, .box (C (.nils))] [pp (rdC b e).1 true (rdC b e).2.1, .box (C (rpsA (rdC b e).2.2))] (.tup []) := by
  have hn := number_r b e 0 [.int .i64 0] 0 hb rfl (by decide) rfl
  have hbl := rdN_le b e 0
  unfold rdC
  generalize rdN b e 0 = t at *
  obtain ⟨b', e', n⟩ := t
  have l0 : ∀ x : AV, lay [.int .i64 0] 0 [x] = [x] := fun _ => rfl
  simp only [l0] at hn hbl ⊢
  refine ⟨⟨_, Try.func117, by kernel_rfl, rfl⟩, ACall.of Try.func117 rfl fun c0 hc0 => ?_⟩; simp only [Try.ntmps117, Ya, Y9, Nat.reduceAdd, Nat.reduceSub, Ym, Yn, Y5, Y3]; refine Run.god tab_ok follows_ok Try.func117 60 ?_; simp only [pp, hC.rd, hC.le, drun, aops, aone, aop, needs, ext, aev, aconst, aput, aupd, aload, astore, afieldAddr, alen, abuild, tab_3, tab_75, tab_146, tab_148, tab_166, tab_169, ok1, lay, cellsAs, TI.agg, AV.cells, AV.whole, Y4, Yb, Yc, Y6, Y7, Ya, Y9, Y1, Y2, Yi, Yh, Yg, Yj, Yl, Yf, Ye, Y5, Y3, Yd, Yt, Yu, Ys, Yr, Nat.reduceAdd, Nat.reduceLeDiff, Yp, Yq, Yv, Y0, Y8]
  refine Ops.callB .free rfl rfl (js := [0, 3]) (by decide) (LentAll.cons rfl (pp_lent b true e) (LentAll.cons rfl (LentB.box_ [.int .i64 0] rfl) LentAll.nil)) (lent2 (pp_lent _ _ _) (LentB.box_ _ rfl)) rfl rfl (by simp only [cond_true, cond_false, renL, AV.ren, List.idxOf, List.findIdx, List.findIdx.go, aev, Y4, Y1, Y2, Yf, Ye, Y3, Yd, Nat.reduceAdd, Nat.reduceBEq, Yp, beq_self_eq_true, Y0]; (repeat' first | exact .refl _ | apply LeR.tup | apply Le.agg | constructor)) (hn) rfl ?_
  by_cases n1 : n < 0
  · rw [if_pos (.inl n1)]
    refine Ops.god tab_ok follows_ok Try.func117 60 ?_; simp only [putBack, pp, n1, hC.rd, hC.le, decide_true, decide_false, ↓alt_t, ↓alt_f, ↓alts_t, ↓gone_tt, ↓gone_ft, gslot, Int.reduceEq, drun, aops, aone, aop, needs, ext, aev, aconst, aput, aupd, aload, astore, afieldAddr, acmp, ashift, abin, alen, tab_3, tab_4, tab_34, tab_75, tab_145, tab_166, tab_169, ok1, lay, cellsAs, TI.agg, AV.cells, AV.whole, Y4, Yb, Yc, Y6, Y7, Ya, Y9, Y1, Y2, Yw, Yi, Yh, Yg, Yj, Yk, Yl, Y5, Y3, Yd, Yt, Yu, Ys, Yr, Nat.reduceAdd, Nat.reduceLeDiff, Yp, Yq, Yv, Y0, Y8]
    ((repeat' apply And.intro) <;> try first | rfl | omega | (unfold I64; omega))
    all_goals first | omega | skip
    · skip
      refine Run.unloop ?_
      refine Run.god tab_ok follows_ok Try.func117 60 ?_; simp only [Try.results117, ↓alt_f, Int.reduceLT, drun, aops, aone, afin, ares, aresL, aresOk, aop, needs, ext, aev, aput, aupd, acmp, ashift, abin, tab_3, ok1, exitTo, Y4, Yb, Yc, Y6, Y7, Y1, Y2, Y5, Y3, Yt, Ys, Yr, beq_self_eq_true, decide_false, Y0, Y8]
      exact ⟨by (repeat' first | exact .refl _ | apply LeR.tup | apply Le.agg | constructor), WkH.cons (LeB.same _ rfl) (WkH.cons (LeB.box (hC.le1 (.nil 6)) (hC.bel 0 _ rfl)) (WkH.nil _))⟩
  · by_cases n2 : 30 < n
    · rw [if_pos (.inr n2)]
      refine Ops.god tab_ok follows_ok Try.func117 60 ?_; simp only [putBack, pp, n1, n2, hC.rd, hC.le, decide_true, decide_false, ↓alt_t, ↓alt_f, ↓alts_t, ↓alts_f, ↓gone_tt, ↓gone_ff, gslot, Int.reduceEq, drun, aops, aone, aop, needs, ext, aev, aconst, aput, aupd, aload, astore, afieldAddr, acmp, ashift, abin, alen, tab_3, tab_4, tab_34, tab_75, tab_145, tab_166, tab_169, ok1, lay, cellsAs, TI.agg, AV.cells, AV.whole, Y4, Yb, Yc, Y6, Y7, Ya, Y9, Y1, Y2, Yw, Yi, Yh, Yg, Yj, Yk, Yl, Y5, Y3, Yd, Yt, Yu, Ys, Yr, Nat.reduceAdd, Nat.reduceLeDiff, Yp, Yq, Yv, Y0, Y8]
      ((repeat' apply And.intro) <;> try first | rfl | omega | (unfold I64; omega))
      all_goals first | omega | skip
      · skip
        refine Run.unloop ?_
        refine Run.god tab_ok follows_ok Try.func117 60 ?_; simp only [Try.results117, ↓alt_f, Int.reduceLT, drun, aops, aone, afin, ares, aresL, aresOk, aop, needs, ext, aev, aput, aupd, acmp, ashift, abin, tab_3, ok1, exitTo, Y4, Yb, Yc, Y6, Y7, Y1, Y2, Y5, Y3, Yt, Ys, Yr, beq_self_eq_true, decide_false, Y0, Y8]
        exact ⟨by (repeat' first | exact .refl _ | apply LeR.tup | apply Le.agg | constructor), WkH.cons (LeB.same _ rfl) (WkH.cons (LeB.box (hC.le1 (.nil 6)) (hC.bel 0 _ rfl)) (WkH.nil _))⟩
    · rw [if_neg (by omega)]
      by_cases e0 : e' = 0
      · subst e0
        rw [if_pos rfl]
        obtain ⟨m, rfl⟩ := Int.eq_ofNat_of_zero_le (by omega : 0 ≤ n)
        have hm : m ≤ 30 := by omega
        rw [Int.toNat_natCast]
        have hS := rdRs_len b' 0
        have hSl := fun k => Nat.le_trans (rdRs_le k b' 0) (Nat.le_trans hbl hb)
        have hfin : (rowsR m (rdRs m b' 0).2.2).take m = (rdRs m b' 0).2.2.map rpC := rowsR_fin m _ (hS m)
        refine Ops.god tab_ok follows_ok Try.func117 60 ?_; simp only [putBack, pp, n1, n2, hC.rd, hC.wr, hC.le, decide_true, decide_false, ↓alt_t, ↓alt_f, ↓alts_t, ↓alts_f, ↓gone_tt, ↓gone_ff, gslot, drun, adops, adone, places, mayNeed, freeOk, rdOf, AV.id, wrOf, aops, aone, aop, needs, ext, aev, aconst, aput, aupd, aload, astore, afieldAddr, acmp, ashift, abin, alen, tab_3, tab_4, tab_34, tab_75, tab_80, tab_145, tab_166, tab_169, ok1, lay, cellsAs, TI.agg, AV.cells, AV.whole, Y4, Yb, Yc, Y6, Y7, Ya, Y9, Y1, Y2, Yw, Yi, Yh, Yg, Yj, Yk, Y5, Y3, Yt, Yu, Ys, Yr, Nat.reduceAdd, Nat.reduceLeDiff, Yp, Yq, Nat.reduceLT, Yv, Int.toNat_natCast, Y0, Y8]
        ((repeat' apply And.intro) <;> try first | rfl | omega | (unfold I64; omega))
        all_goals first | omega | skip
        refine Run.loopV (α := Nat) (fun k => k ≤ m) (fun k => [(44, .int .i64 k)]) 5 (fun k => [(0, pp (rdRs k b' 0).1 true (rdRs k b' 0).2.1), (4, .rows 6 (rowsR m (rdRs k b' 0).2.2))]) (fun k => m - k) 0 (Nat.zero_le _) ?_ ?_
        · simp only [writes, junks, puts, hputs, List.filterMap_cons, List.filterMap_nil, Int.natCast_zero, Y6, Y7, Yg, Yk, Y5, Y3, Yd, rdRs, rowsR_nil, pp, bytesA]
          (refine Weak.of (by simp [hc0]) ?_ ?_ <;> (repeat' first | exact .refl _ | exact .junk _ | exact .nil | exact .nil _ | exact .tok _ _ _ | rfl | apply WkT.cons | apply WkH.cons | apply LeB.same | apply LeB.box | apply Le1L.cons | apply Le.agg | apply Le.one))
          all_goals (first | exact rowsR_bel _ _ _ | exact rowsR_bel0 _ _ | exact hC.bel _ _ (by simp [AV.bel]))
        intro k hk ih
        simp only [writes, junks, puts, hputs, List.filterMap_cons, List.filterMap_nil, Y6, Y7, Yg, Yk, Y5, Y3, Yd] at hk ih ⊢
        by_cases hlt : k < m
        · have hkk : (k : Int) < m := by omega
          have hrow := rowsR_get m k _ (hS k) hlt
          have hset := rowsR_set m k _ (hS k) hlt
          have hrb : belLL 0 (rowsR m (rdRs k b' 0).2.2) = true := rowsR_bel _ _ _
          refine Run.god tab_ok follows_ok Try.func117 60 ?_; simp only [hkk, hC.rd, hC.le, pp, decide_true, ↓alt_t, drun, adops, adone, places, mayNeed, freeOk, rdOf, AV.id, wrOf, aops, aone, aop, needs, ext, aev, aput, aupd, aload, afieldAddr, aindexAddr, acmp, ashift, abin, tab_3, tab_75, tab_80, tab_166, tab_167, tab_169, ok1, cellsAs, TI.agg, Y4, Yb, Yc, Y6, Y7, Ya, Y9, Y1, Y2, Yi, Yh, Yg, Yj, Yk, Y5, Y3, Yt, Yu, Ys, Yr, Nat.reduceAdd, Nat.reduceLeDiff, Yp, Yq, Nat.reduceLT, Yv, Int.toNat_natCast, Y0, Y8]
          ((repeat' apply And.intro) <;> try first | rfl | omega | (unfold I64; omega))
          refine DOps.callP rfl .free rfl rfl (js := [4]) (by decide) (LentAll.cons rfl (rows_lent hrb) LentAll.nil) (lent1 (rows_lent hrb)) rfl rfl (by simp only [cond_true, renL, AV.ren, List.idxOf, List.findIdx, List.findIdx.go, aev, Y4, Y1, Y2, Yf, Ye, Y3, Yd, Yp, beq_self_eq_true, Y0]; (repeat' first | exact .refl _ | apply LeR.tup | apply Le.agg | constructor)) (report_d 6 k 0 _ (rows_lent hrb)) rfl ?_
          refine DOps.god tab_ok follows_ok Try.func117 60 rfl ?_; simp only [reportD, partC, AV.unr, unrL, unrLL, adops, adone, mayNeed, freeOk, rdOf, wrOf, aop, needs, aev, aput, aupd, ok1, Y4, Y6, Y7, Y1, Y2, Yf, Ye, Y5, Y3, Yt, Yu, Yr, Nat.reduceAdd, Yp, Y0, Y8]
          refine DOps.invokeB rfl .free rfl rfl meth_parts (js := [0, 4]) (by decide) (LentAll.cons rfl (pp_lent _ _ _) (LentAll.cons rfl (rows_lent hrb) LentAll.nil)) (lent2 (pp_lent _ _ _) (rows_lent (belLL_set hrb rfl))) rfl (by simp only [Yf, Ye, aev, Y4, Y1, Y2, Y0]; rfl) (by simp only [Yf, Ye, aev, Y4, Y1, Y2, Nat.reduceAdd, Nat.reduceBEq, Yp, beq_self_eq_true, Y0, cond_true, cond_false, renL, renLL, AV.ren, List.idxOf, List.findIdx, List.findIdx.go]; exact LeL.cons (Le.refl _) (LeL.cons (Le.refl _) LeL.nil)) (report_rd _ _ _ k hrow hrb (hSl k)) rfl ?_
          refine DOps.god tab_ok follows_ok Try.func117 60 rfl ?_; simp only [putBack, pp, drun, adops, aops, aone, aop, needs, ext, aev, aconst, aput, aupd, acmp, aarith, ashift, abin, tab_3, ok1, Y4, Yb, Y6, Y7, Y1, Y2, Y5, Y3, Yt, Ys, Yr, Y0, Y8]
          ((repeat' apply And.intro) <;> try first | rfl | omega | (unfold I64; omega))
          refine ih (k + 1) _ (by omega) (by omega) ?_
          simp only [Int.natCast_add, Int.natCast_one, pp, bytesA, rdRs, hset]
          (refine Weak.of (by simp [hc0]) ?_ ?_ <;> (repeat' first | exact .refl _ | exact .junk _ | exact .nil | exact .nil _ | exact .tok _ _ _ | rfl | apply WkT.cons | apply WkH.cons | apply LeB.same | apply LeB.box | apply Le1L.cons | apply Le.agg | apply Le.one))
          all_goals (first | exact rowsR_bel _ _ _ | exact hC.bel _ _ (by simp [AV.bel]))
        · obtain rfl : m = k := by omega
          have hkk : ¬ (m : Int) < m := by omega
          refine Run.weak (Weak.freezeC 1 o 4 6 0 m m _ _ rfl (hC.get _) rfl (by decide) (by rw [rowsR_len]; omega) (by rw [List.drop_zero, hfin]; exact rowsR_plain _)) ?_
          simp only [Yi, hfin, hC.set, Y6, Y7]
          refine Run.god tab_ok follows_ok Try.func117 60 ?_; simp only [Try.results117, hkk, pp, decide_false, ↓alt_f, drun, aops, aone, afin, ares, aresL, aresOk, aop, needs, ext, aev, aput, aupd, acmp, ashift, abin, tab_3, ok1, exitTo, Y4, Yb, Yc, Y6, Y7, Y1, Y2, Y5, Y3, Yt, Ys, Yr, beq_self_eq_true, Y0, Y8]
          exact ⟨by (repeat' first | exact .refl _ | apply LeR.tup | apply Le.agg | constructor), WkH.cons (LeB.same _ rfl) (WkH.cons (LeB.same _ (hC.bel 0 _ rfl)) (WkH.nil _))⟩
      · rw [if_neg e0]
        refine Ops.god tab_ok follows_ok Try.func117 60 ?_; simp only [putBack, pp, n1, n2, e0, hC.rd, hC.le, decide_false, ↓alt_f, ↓alts_t, ↓alts_f, ↓gone_tt, ↓gone_ff, gslot, drun, aops, aone, aop, needs, ext, aev, aconst, aput, aupd, aload, afieldAddr, acmp, ashift, abin, alen, tab_3, tab_4, tab_34, tab_75, tab_145, tab_166, tab_169, ok1, cellsAs, TI.agg, Y4, Yb, Yc, Y6, Y7, Ya, Y9, Y1, Y2, Yw, Yi, Yh, Yg, Yj, Yk, Y5, Y3, Yt, Ys, Yr, Nat.reduceAdd, Nat.reduceLeDiff, Yp, Yq, Yv, Y0, Y8]
        ((repeat' apply And.intro) <;> try first | rfl | omega | (unfold I64; omega))
        all_goals first | omega | skip
        · skip
          refine Run.unloop ?_
          refine Run.god tab_ok follows_ok Try.func117 60 ?_; simp only [Try.results117, ↓alt_f, Int.reduceLT, drun, aops, aone, afin, ares, aresL, aresOk, aop, needs, ext, aev, aput, aupd, acmp, ashift, abin, tab_3, ok1, exitTo, Y4, Yb, Yc, Y6, Y7, Y1, Y2, Y5, Y3, Yt, Ys, Yr, beq_self_eq_true, decide_false, Y0, Y8]
          exact ⟨by (repeat' first | exact .refl _ | apply LeR.tup | apply Le.agg | constructor), WkH.cons (LeB.same _ rfl) (WkH.cons (LeB.box (hC.le1 (.nil 6)) (hC.bel 0 _ rfl)) (WkH.nil _))⟩
end Go.Proofs.Ytkamcoechjdgpaa
/-
  Package wire: sums, taken; a letter's parts, as places of its own.
-/
namespace Go.Proofs.Ytkamcoechjdgpaa
open Go.RowKit
def rdM (b : Bytes) (e : Int) (s : Bytes) : Bytes × Int × Bytes := if e = 0 then (if b.length < 32 then (b, 2, s) else (b.drop 32, 0, b.take 32)) else (b, e, s)
theorem sumC_bel (s : Bytes) : belL 0 (sumC s) = true := (Pln.sum s).1 0
theorem sumC_flat (l : Bytes) : (l.map byteC).flatten = sumC l := by
  induction l with
  | nil => rfl
  | cons a l ih => rw [List.map_cons, List.flatten_cons, ih]; rfl
theorem sum_r (b : Bytes) (e : Int) (s : Bytes) (cs : List AV) (o : Nat) (hs : s.length = 32) (ho : (cs.drop o).take 32 = sumC s) (hl : o + 32 ≤ cs.length) (hcs : belL 0 cs = true) : BSpec Try.prog 119 [.agg [.ptr 1 o], .ptr 0 0] [pp b true e, .box cs] [pp (rdM b e s).1 true (rdM b e s).2.1, .box (lay cs o (sumC (rdM b e s).2.2))] (.tup []) := by
  have hself : lay cs o (sumC s) = cs := lay_self (by rw [show (sumC s).length = 32 by simp [sumC, hs]]; exact ho) (by rw [show (sumC s).length = 32 by simp [sumC, hs]]; exact hl)
  have hbl2 := hcs
  by_cases he : e = 0
  · subst he
    by_cases hn : b.length < 32
    · have e1 : rdM b 0 s = (b, 2, s) := by unfold rdM; simp [hn]
      rw [e1, hself]
      have hn' : (b.length : Int) < 32 := by omega
      refine ⟨⟨_, Try.func119, by kernel_rfl, rfl⟩, ACall.of Try.func119 rfl fun c0 hc0 => ?_⟩; simp only [Try.ntmps119, Ya, Y9, Nat.reduceAdd, Nat.reduceSub, Ym, Yn, Y5, Y3]; refine Run.god tab_ok follows_ok Try.func119 60 ?_; simp only [Try.results119, pp, hn', bytesA, decide_true, ↓alt_t, ↓alt_f, drun, aops, aone, afin, ares, aresL, aresOk, aop, needs, ext, aev, aconst, aput, aupd, aload, astore, afieldAddr, acmp, ashift, abin, alen, tab_3, tab_4, tab_34, tab_85, tab_145, ok1, lay, cellsAs, TI.agg, AV.cells, AV.whole, Y4, Yb, Yc, Y6, Y7, Ya, Y9, Y1, Y2, Yi, Yh, Yg, Yj, Yk, Yl, Yo, Y5, Y3, Yd, Yt, Yu, Ys, Yr, Nat.reduceAdd, Nat.reduceLeDiff, Yp, Yq, Bool.not_true, Yv, Y0, Y8]
      ((repeat' apply And.intro) <;> try first | rfl | omega | (unfold I64; omega))
      all_goals (first | omega | exact True.intro | (repeat' (first | exact WkH.nil _ | exact LeR.one (Le.refl _) | exact LeL.nil | apply LeR.tup | exact Le.refl _ | exact Le1.refl _ | exact Le1L.nil | exact le1l_refl _ | rfl | exact hcs | exact hbl2 | apply WkH.cons | apply LeB.box | apply Le1L.cons | apply Le.one)))
    · have e1 : rdM b 0 s = (b.drop 32, 0, b.take 32) := by unfold rdM; simp [hn]
      rw [e1]
      have hn' : ¬ (b.length : Int) < 32 := by omega
      have hmin : min b.length 32 = 32 := by omega
      have hfl : ((b.map byteC).take 32).flatten = sumC (b.take 32) := by rw [← List.map_take, sumC_flat]
      have hsl : (sumC (b.take 32)).length = 32 := by simp [sumC]; omega
      have hle : (32 : Int) ≤ b.length := by omega
      have hbl2 : belL 0 (cs.take o ++ sumC (b.take 32) ++ cs.drop (o + 32)) = true := belL_app (belL_app (belL_take _ hcs) (sumC_bel _)) (belL_drop _ hcs)
      simp only [lay, hsl]
      refine ⟨⟨_, Try.func119, by kernel_rfl, rfl⟩, ACall.of Try.func119 rfl fun c0 hc0 => ?_⟩; simp only [Try.ntmps119, Ya, Y9, Nat.reduceAdd, Nat.reduceSub, Ym, Yn, Y5, Y3]; refine Run.god tab_ok follows_ok Try.func119 60 ?_; simp only [Try.results119, pp, hn', hmin, hfl, hsl, hl, hle, bytesA, Int.cast_ofNat_Int, ← List.map_drop, decide_true, decide_false, Int.reduceToNat, ↓alt_f, acopy, Int.reduceLE, drun, adops, adone, places, mayNeed, freeOk, rdOf, AV.id, wrOf, aops, aone, afin, ares, aresL, aresOk, aop, needs, ext, aev, aconst, aput, aupd, aload, astore, afieldAddr, acmp, ashift, abin, alen, aslice, tab_3, tab_4, tab_5, tab_34, tab_81, tab_85, tab_145, tab_177, tab_179, ok1, lay, cellsAs, TI.agg, AV.cells, AV.whole, Y4, Yb, Yc, Option.map_none, Y6, Y7, Ya, Y9, Y1, Y2, Yi, Yh, Yg, Yj, Yk, Yo, Y5, Y3, Yd, Yt, Yu, Ys, Yr, Nat.reduceAdd, Nat.reduceLeDiff, Yp, Yq, Bool.not_true, Nat.reduceLT, Yv, Y0, Option.isSome_none, Y8]
      ((repeat' apply And.intro) <;> try first | rfl | omega | (unfold I64; omega))
      all_goals (first | omega | exact True.intro | (repeat' (first | exact WkH.nil _ | exact LeR.one (Le.refl _) | exact LeL.nil | apply LeR.tup | exact Le.refl _ | exact Le1.refl _ | exact Le1L.nil | exact le1l_refl _ | rfl | exact hcs | exact hbl2 | apply WkH.cons | apply LeB.box | apply Le1L.cons | apply Le.one)))
  · have e1 : rdM b e s = (b, e, s) := by unfold rdM; simp [he]
    rw [e1, hself]
    refine ⟨⟨_, Try.func119, by kernel_rfl, rfl⟩, ACall.of Try.func119 rfl fun c0 hc0 => ?_⟩; simp only [Try.ntmps119, Ya, Y9, Nat.reduceAdd, Nat.reduceSub, Ym, Yn, Y5, Y3]; refine Run.god tab_ok follows_ok Try.func119 60 ?_; simp only [Try.results119, pp, he, decide_false, ↓alt_t, drun, aops, aone, afin, ares, aresL, aresOk, aop, needs, ext, aev, aconst, aput, aupd, aload, afieldAddr, acmp, ashift, abin, tab_34, tab_145, ok1, cellsAs, TI.agg, AV.cells, AV.whole, Y4, Yb, Yc, Y6, Y7, Ya, Y9, Y1, Y2, Yi, Yh, Yg, Yk, Y5, Y3, Yt, Ys, Yr, Nat.reduceAdd, Yp, Bool.not_false, Yv, Y0, Y8]
    ((repeat' apply And.intro) <;> try first | rfl | omega | (unfold I64; omega))
    all_goals (first | omega | exact True.intro | (repeat' (first | exact WkH.nil _ | exact LeR.one (Le.refl _) | exact LeL.nil | apply LeR.tup | exact Le.refl _ | exact Le1.refl _ | exact Le1L.nil | exact le1l_refl _ | rfl | exact hcs | exact hbl2 | apply WkH.cons | apply LeB.box | apply Le1L.cons | apply Le.one)))
section
variable {P : Program} {c0 : Cx} {s : AState}
theorem Weak.nilC (q m kk : Nat) (cs : List AV) (hq : s.h[q]? = some (.box cs)) (hm : cs[m]? = some .nils) : Weak P c0 s ⟨s.t, s.h.set q (.box (cs.set m (.sl kk [] .no)))⟩ := by
  refine ⟨fun ρ w vs h1 h2 h3 => ?_⟩
  obtain ⟨b, us, e, hb, hh, hsz, hall⟩ := h1.blk q _ hq
  obtain ⟨q4, q5⟩ := Cx.retell h1 q b _ (.box (cs.set m (.sl kk [] .no))) hq hb rfl rfl rfl rfl (fun o h => h.elim) fun hev => by
    refine ⟨b, us, e, hb, hh, by simpa using hsz, fun j a ha => ?_⟩
    rw [List.getElem?_set] at ha
    split at ha
    · rename_i hjm
      subst hjm
      split at ha
      · cases ha
        obtain ⟨g1, u, g2, g3⟩ := hall m _ hm
        cases g3
        exact ⟨rfl, _, g2, .nil_sl kk⟩
      · cases ha
    · obtain ⟨g1, u, g2, g3⟩ := hall j a ha
      exact ⟨g1, u, g2, g3.mono hev⟩
  exact ⟨ρ, q4, h2.trans q5, h3.mono q5⟩
end
theorem letplaces_1 (cs : List AV) (hcs : belL 0 cs = true) : BSpec Try.prog 76 [.ptr 0 0] [.box (.int .i64 1 :: cs)] [.box (.int .i64 1 :: cs)] (.iface 171 (.psl 1 [[.iface 148 (.agg [.ptr 0 1])], [.iface 148 (.agg [.ptr 0 2])], [.iface 148 (.agg [.ptr 0 3])], [.iface 165 (.agg [.ptr 0 4])], [.iface 169 (.agg [.ptr 0 5, .fn (.func 88) [] []])]])) := by
  have hX : LentB (.box (.int .i64 1 :: cs)) := .box_ _ (by simp [belL, AV.bel, hcs])
  refine ⟨⟨_, Try.func76, by kernel_rfl, rfl⟩, ACall.of Try.func76 rfl fun c0 hc0 => ?_⟩; simp only [Try.ntmps76, Ya, Y9, Nat.reduceAdd, Nat.reduceSub, Ym, Yn, Y5, Y3]; refine Run.god tab_ok follows_ok Try.func76 60 ?_; simp only [Try.results76, decide_true, show 0 + 1 ≤ cs.length + 1 by omega, ↓alt_t, drun, adops, adone, places, mayNeed, freeOk, rdOf, AV.id, wrOf, aops, aone, afin, ares, aresL, ares1, aresOk, aresOk1, aop, needs, ext, aev, aconst, aput, aupd, aload, astore, afieldAddr, acmp, ashift, abin, abuild, aelems, plains, tab_3, tab_83, tab_146, tab_148, tab_151, tab_163, tab_165, tab_166, tab_167, tab_169, tab_171, ok1, lay, cellsAs, TI.agg, AV.cells, AV.whole, AV.plain, AV.bare, Y4, Yb, Yc, Y6, Y7, Ya, Y9, Y1, Y2, Yi, Yh, Yg, Yj, Yk, Yl, Yf, Ye, Y5, Y3, Yd, List.all_cons, List.all_nil, Ym, Yn, Yt, Yu, Ys, Yr, Nat.reduceAdd, Nat.reduceLeDiff, Nat.reduceMul, Nat.reduceBEq, Yp, Yq, Bool.and_self, Bool.and_true, Bool.and_false, Nat.reduceLT, Yv, Y0, Y8]
  ((repeat' apply And.intro) <;> try first | rfl | omega | (unfold I64; omega))
  all_goals (first | exact WkH.cons (LeB.same _ (hX.bel 0)) (WkH.nil _) | (repeat' first | exact .refl _ | apply LeR.tup | apply Le.agg | constructor))
theorem letplaces_2 (cs : List AV) (hcs : belL 0 cs = true) : BSpec Try.prog 76 [.ptr 0 0] [.box (.int .i64 2 :: cs)] [.box (.int .i64 2 :: cs)] (.iface 171 (.psl 1 [[.iface 148 (.agg [.ptr 0 2])], [.iface 171 (.psl 1 ((voteB_ 0 6).map partC))]])) := by
  have hX : LentB (.box (.int .i64 2 :: cs)) := .box_ _ (by simp [belL, AV.bel, hcs])
  refine ⟨⟨_, Try.func76, by kernel_rfl, rfl⟩, ACall.of Try.func76 rfl fun c0 hc0 => ?_⟩; simp only [Try.ntmps76, Ya, Y9, Nat.reduceAdd, Nat.reduceSub, Ym, Yn, Y5, Y3]; refine Run.god tab_ok follows_ok Try.func76 60 ?_; simp only [decide_true, decide_false, show 0 + 1 ≤ cs.length + 1 by omega, ↓alt_t, ↓alt_f, Int.reduceEq, drun, adops, adone, places, mayNeed, freeOk, rdOf, AV.id, wrOf, aops, aone, aop, needs, ext, aev, aconst, aput, aupd, aload, astore, afieldAddr, acmp, ashift, abin, abuild, tab_3, tab_83, tab_146, tab_148, tab_163, tab_165, ok1, lay, cellsAs, TI.agg, AV.cells, AV.whole, Y4, Yb, Yc, Y6, Y7, Ya, Y9, Y1, Y2, Yi, Yh, Yg, Yj, Yk, Yl, Yf, Ye, Y5, Y3, Yd, Yt, Yu, Ys, Yr, Nat.reduceAdd, Yp, Yq, Yv, Y0, Y8]
  ((repeat' apply And.intro) <;> try first | rfl | omega | (unfold I64; omega))
  refine DOps.callP rfl .free rfl rfl (js := [0]) (by decide) (LentAll.cons rfl (hX) LentAll.nil) (lent1 (hX)) rfl rfl (by simp only [cond_true, renL, AV.ren, List.idxOf, List.findIdx, List.findIdx.go, aev, Y4, Y1, Y2, Yf, Ye, Y3, Yd, Yp, beq_self_eq_true, Y0]; (repeat' first | exact .refl _ | apply LeR.tup | apply Le.agg | constructor)) (vote_b 6 _ hX) rfl ?_
  refine DOps.god tab_ok follows_ok Try.func76 60 rfl ?_; simp only [Try.results76, voteB_, partC, AV.unr, unrL, unrLL, drun, adops, adone, mayNeed, freeOk, rdOf, wrOf, afin, ares, aresL, ares1, aresOk, aresOk1, aop, needs, aev, aconst, aput, aupd, aelems, plains, tab_151, tab_171, ok1, AV.cells, AV.whole, AV.plain, AV.bare, Y4, Yb, Yc, Y6, Y7, Ya, Y9, Y1, Y2, Yf, Ye, Y5, Y3, List.all_cons, List.all_nil, Ym, Yn, Yt, Yu, Ys, Yr, Nat.reduceAdd, Nat.reduceLeDiff, Nat.reduceMul, Nat.reduceBEq, Yp, Bool.and_self, Bool.and_true, Bool.and_false, Nat.reduceLT, Y0, Y8]
  ((repeat' apply And.intro) <;> try first | rfl | omega | (unfold I64; omega))
  all_goals (first | exact WkH.cons (LeB.same _ (hX.bel 0)) (WkH.nil _) | (repeat' first | exact .refl _ | apply LeR.tup | apply Le.agg | constructor))
theorem letplaces_3 (cs : List AV) (hcs : belL 0 cs = true) : BSpec Try.prog 76 [.ptr 0 0] [.box (.int .i64 3 :: cs)] [.box (.int .i64 3 :: cs)] (.iface 171 (.psl 1 [[.iface 148 (.agg [.ptr 0 1])], [.iface 148 (.agg [.ptr 0 2])], [.iface 197 (.agg [.ptr 0 9, .fn (.func 89) [] []])]])) := by
  have hX : LentB (.box (.int .i64 3 :: cs)) := .box_ _ (by simp [belL, AV.bel, hcs])
  refine ⟨⟨_, Try.func76, by kernel_rfl, rfl⟩, ACall.of Try.func76 rfl fun c0 hc0 => ?_⟩; simp only [Try.ntmps76, Ya, Y9, Nat.reduceAdd, Nat.reduceSub, Ym, Yn, Y5, Y3]; refine Run.god tab_ok follows_ok Try.func76 60 ?_; simp only [decide_true, decide_false, show 0 + 1 ≤ cs.length + 1 by omega, ↓alt_t, ↓alt_f, Int.reduceEq, drun, adops, adone, places, mayNeed, freeOk, rdOf, AV.id, wrOf, aops, aone, aop, needs, ext, aev, aconst, aput, aupd, aload, astore, afieldAddr, acmp, ashift, abin, abuild, tab_3, tab_83, tab_146, tab_148, tab_163, tab_165, ok1, lay, cellsAs, TI.agg, AV.cells, AV.whole, Y4, Yb, Yc, Y6, Y7, Ya, Y9, Y1, Y2, Yi, Yh, Yg, Yj, Yk, Yl, Yf, Ye, Y5, Y3, Yd, Yt, Yu, Ys, Yr, Nat.reduceAdd, Yp, Yq, Yv, Y0, Y8]
  ((repeat' apply And.intro) <;> try first | rfl | omega | (unfold I64; omega))
  refine DOps.callP rfl .free rfl rfl (js := [0]) (by decide) (LentAll.cons rfl (hX) LentAll.nil) (lent1 (hX)) rfl rfl (by simp only [cond_true, renL, AV.ren, List.idxOf, List.findIdx, List.findIdx.go, aev, Y4, Y1, Y2, Yf, Ye, Y3, Yd, Yp, beq_self_eq_true, Y0]; (repeat' first | exact .refl _ | apply LeR.tup | apply Le.agg | constructor)) (votes_b 9 _ hX) rfl ?_
  refine DOps.god tab_ok follows_ok Try.func76 60 rfl ?_; simp only [Try.results76, AV.unr, unrL, drun, adops, adone, mayNeed, freeOk, rdOf, wrOf, afin, ares, aresL, ares1, aresOk, aresOk1, aop, needs, aev, aconst, aput, aupd, aelems, plains, tab_151, tab_171, ok1, AV.cells, AV.whole, AV.plain, AV.bare, Y4, Yb, Yc, Y6, Y7, Ya, Y9, Y1, Y2, Yf, Ye, Y5, Y3, List.all_cons, List.all_nil, Ym, Yn, Yt, Yu, Ys, Yr, Nat.reduceAdd, Nat.reduceLeDiff, Nat.reduceMul, Nat.reduceBEq, Yp, Bool.and_self, Bool.and_true, Bool.and_false, Nat.reduceLT, Y0, Y8]
  ((repeat' apply And.intro) <;> try first | rfl | omega | (unfold I64; omega))
  all_goals (first | exact WkH.cons (LeB.same _ (hX.bel 0)) (WkH.nil _) | (repeat' first | exact .refl _ | apply LeR.tup | apply Le.agg | constructor))
theorem letplaces_4 (cs : List AV) (hcs : belL 0 cs = true) : BSpec Try.prog 76 [.ptr 0 0] [.box (.int .i64 4 :: cs)] [.box (.int .i64 4 :: cs)] (.iface 171 (.psl 1 [[.iface 148 (.agg [.ptr 0 2])], [.iface 171 (.psl 1 ((reportB_ 0 10).map partC))]])) := by
  have hX : LentB (.box (.int .i64 4 :: cs)) := .box_ _ (by simp [belL, AV.bel, hcs])
  refine ⟨⟨_, Try.func76, by kernel_rfl, rfl⟩, ACall.of Try.func76 rfl fun c0 hc0 => ?_⟩; simp only [Try.ntmps76, Ya, Y9, Nat.reduceAdd, Nat.reduceSub, Ym, Yn, Y5, Y3]; refine Run.god tab_ok follows_ok Try.func76 60 ?_; simp only [decide_true, decide_false, show 0 + 1 ≤ cs.length + 1 by omega, ↓alt_t, ↓alt_f, Int.reduceEq, drun, adops, adone, places, mayNeed, freeOk, rdOf, AV.id, wrOf, aops, aone, aop, needs, ext, aev, aconst, aput, aupd, aload, astore, afieldAddr, acmp, ashift, abin, abuild, tab_3, tab_83, tab_146, tab_148, tab_163, tab_165, ok1, lay, cellsAs, TI.agg, AV.cells, AV.whole, Y4, Yb, Yc, Y6, Y7, Ya, Y9, Y1, Y2, Yi, Yh, Yg, Yj, Yk, Yl, Yf, Ye, Y5, Y3, Yd, Yt, Yu, Ys, Yr, Nat.reduceAdd, Yp, Yq, Yv, Y0, Y8]
  ((repeat' apply And.intro) <;> try first | rfl | omega | (unfold I64; omega))
  refine DOps.callP rfl .free rfl rfl (js := [0]) (by decide) (LentAll.cons rfl (hX) LentAll.nil) (lent1 (hX)) rfl rfl (by simp only [cond_true, renL, AV.ren, List.idxOf, List.findIdx, List.findIdx.go, aev, Y4, Y1, Y2, Yf, Ye, Y3, Yd, Yp, beq_self_eq_true, Y0]; (repeat' first | exact .refl _ | apply LeR.tup | apply Le.agg | constructor)) (report_b 10 _ hX) rfl ?_
  refine DOps.god tab_ok follows_ok Try.func76 60 rfl ?_; simp only [Try.results76, reportB_, partC, AV.unr, unrL, unrLL, drun, adops, adone, mayNeed, freeOk, rdOf, wrOf, afin, ares, aresL, ares1, aresOk, aresOk1, aop, needs, aev, aconst, aput, aupd, aelems, plains, tab_151, tab_171, ok1, AV.cells, AV.whole, AV.plain, AV.bare, Y4, Yb, Yc, Y6, Y7, Ya, Y9, Y1, Y2, Yf, Ye, Y5, Y3, List.all_cons, List.all_nil, Ym, Yn, Yt, Yu, Ys, Yr, Nat.reduceAdd, Nat.reduceLeDiff, Nat.reduceMul, Nat.reduceBEq, Yp, Bool.and_self, Bool.and_true, Bool.and_false, Nat.reduceLT, Y0, Y8]
  ((repeat' apply And.intro) <;> try first | rfl | omega | (unfold I64; omega))
  all_goals (first | exact WkH.cons (LeB.same _ (hX.bel 0)) (WkH.nil _) | (repeat' first | exact .refl _ | apply LeR.tup | apply Le.agg | constructor))
theorem letplaces_5 (cs : List AV) (hcs : belL 0 cs = true) : BSpec Try.prog 76 [.ptr 0 0] [.box (.int .i64 5 :: cs)] [.box (.int .i64 5 :: cs)] (.iface 171 (.psl 1 [[.iface 148 (.agg [.ptr 0 1])], [.iface 148 (.agg [.ptr 0 2])], [.iface 165 (.agg [.ptr 0 4])]])) := by
  have hX : LentB (.box (.int .i64 5 :: cs)) := .box_ _ (by simp [belL, AV.bel, hcs])
  refine ⟨⟨_, Try.func76, by kernel_rfl, rfl⟩, ACall.of Try.func76 rfl fun c0 hc0 => ?_⟩; simp only [Try.ntmps76, Ya, Y9, Nat.reduceAdd, Nat.reduceSub, Ym, Yn, Y5, Y3]; refine Run.god tab_ok follows_ok Try.func76 60 ?_; simp only [Try.results76, decide_true, decide_false, show 0 + 1 ≤ cs.length + 1 by omega, ↓alt_t, ↓alt_f, Int.reduceEq, drun, adops, adone, places, mayNeed, freeOk, rdOf, AV.id, wrOf, aops, aone, afin, ares, aresL, ares1, aresOk, aresOk1, aop, needs, ext, aev, aconst, aput, aupd, aload, astore, afieldAddr, acmp, ashift, abin, abuild, aelems, plains, tab_3, tab_83, tab_146, tab_148, tab_151, tab_163, tab_165, tab_171, ok1, lay, cellsAs, TI.agg, AV.cells, AV.whole, AV.plain, AV.bare, Y4, Yb, Yc, Y6, Y7, Ya, Y9, Y1, Y2, Yi, Yh, Yg, Yj, Yk, Yl, Yf, Ye, Y5, Y3, Yd, List.all_cons, List.all_nil, Ym, Yn, Yt, Yu, Ys, Yr, Nat.reduceAdd, Nat.reduceLeDiff, Nat.reduceMul, Nat.reduceBEq, Yp, Yq, Bool.and_self, Bool.and_true, Bool.and_false, Nat.reduceLT, Yv, Y0, Y8]
  ((repeat' apply And.intro) <;> try first | rfl | omega | (unfold I64; omega))
  all_goals (first | exact WkH.cons (LeB.same _ (hX.bel 0)) (WkH.nil _) | (repeat' first | exact .refl _ | apply LeR.tup | apply Le.agg | constructor))
theorem letplaces_6 (cs : List AV) (hcs : belL 0 cs = true) : BSpec Try.prog 76 [.ptr 0 0] [.box (.int .i64 6 :: cs)] [.box (.int .i64 6 :: cs)] (.iface 171 (.psl 1 [[.iface 148 (.agg [.ptr 0 1])], [.iface 148 (.agg [.ptr 0 3])]])) := by
  have hX : LentB (.box (.int .i64 6 :: cs)) := .box_ _ (by simp [belL, AV.bel, hcs])
  refine ⟨⟨_, Try.func76, by kernel_rfl, rfl⟩, ACall.of Try.func76 rfl fun c0 hc0 => ?_⟩; simp only [Try.ntmps76, Ya, Y9, Nat.reduceAdd, Nat.reduceSub, Ym, Yn, Y5, Y3]; refine Run.god tab_ok follows_ok Try.func76 60 ?_; simp only [Try.results76, decide_true, decide_false, show 0 + 1 ≤ cs.length + 1 by omega, ↓alt_t, ↓alt_f, Int.reduceEq, drun, adops, adone, places, mayNeed, freeOk, rdOf, AV.id, wrOf, aops, aone, afin, ares, aresL, ares1, aresOk, aresOk1, aop, needs, ext, aev, aconst, aput, aupd, aload, astore, afieldAddr, acmp, ashift, abin, abuild, aelems, plains, tab_3, tab_83, tab_146, tab_148, tab_151, tab_163, tab_165, tab_171, ok1, lay, cellsAs, TI.agg, AV.cells, AV.whole, AV.plain, AV.bare, Y4, Yb, Yc, Y6, Y7, Ya, Y9, Y1, Y2, Yi, Yh, Yg, Yj, Yk, Yl, Yf, Ye, Y5, Y3, Yd, List.all_cons, List.all_nil, Ym, Yn, Yt, Yu, Ys, Yr, Nat.reduceAdd, Nat.reduceLeDiff, Nat.reduceMul, Nat.reduceBEq, Yp, Yq, Bool.and_self, Bool.and_true, Bool.and_false, Nat.reduceLT, Yv, Y0, Y8]
  ((repeat' apply And.intro) <;> try first | rfl | omega | (unfold I64; omega))
  all_goals (first | exact WkH.cons (LeB.same _ (hX.bel 0)) (WkH.nil _) | (repeat' first | exact .refl _ | apply LeR.tup | apply Le.agg | constructor))
theorem letplaces_7 (cs : List AV) (hcs : belL 0 cs = true) : BSpec Try.prog 76 [.ptr 0 0] [.box (.int .i64 7 :: cs)] [.box (.int .i64 7 :: cs)] (.iface 171 (.psl 1 [[.iface 148 (.agg [.ptr 0 1])], [.iface 148 (.agg [.ptr 0 2])], [.iface 179 (.agg [.ptr 0 16])]])) := by
  have hX : LentB (.box (.int .i64 7 :: cs)) := .box_ _ (by simp [belL, AV.bel, hcs])
  refine ⟨⟨_, Try.func76, by kernel_rfl, rfl⟩, ACall.of Try.func76 rfl fun c0 hc0 => ?_⟩; simp only [Try.ntmps76, Ya, Y9, Nat.reduceAdd, Nat.reduceSub, Ym, Yn, Y5, Y3]; refine Run.god tab_ok follows_ok Try.func76 60 ?_; simp only [Try.results76, decide_true, decide_false, show 0 + 1 ≤ cs.length + 1 by omega, ↓alt_t, ↓alt_f, Int.reduceEq, drun, adops, adone, places, mayNeed, freeOk, rdOf, AV.id, wrOf, aops, aone, afin, ares, aresL, ares1, aresOk, aresOk1, aop, needs, ext, aev, aconst, aput, aupd, aload, astore, afieldAddr, acmp, ashift, abin, abuild, aelems, plains, tab_3, tab_83, tab_146, tab_148, tab_151, tab_163, tab_165, tab_171, tab_177, tab_179, ok1, lay, cellsAs, TI.agg, AV.cells, AV.whole, AV.plain, AV.bare, Y4, Yb, Yc, Y6, Y7, Ya, Y9, Y1, Y2, Yi, Yh, Yg, Yj, Yk, Yl, Yf, Ye, Y5, Y3, Yd, List.all_cons, List.all_nil, Ym, Yn, Yt, Yu, Ys, Yr, Nat.reduceAdd, Nat.reduceLeDiff, Nat.reduceMul, Nat.reduceBEq, Yp, Yq, Bool.and_self, Bool.and_true, Bool.and_false, Nat.reduceLT, Yv, Y0, Y8]
  ((repeat' apply And.intro) <;> try first | rfl | omega | (unfold I64; omega))
  all_goals (first | exact WkH.cons (LeB.same _ (hX.bel 0)) (WkH.nil _) | (repeat' first | exact .refl _ | apply LeR.tup | apply Le.agg | constructor))
theorem letplaces_8 (cs : List AV) (hcs : belL 0 cs = true) : BSpec Try.prog 76 [.ptr 0 0] [.box (.int .i64 8 :: cs)] [.box (.int .i64 8 :: cs)] (.iface 182 (.agg [.ptr 0 48])) := by
  have hX : LentB (.box (.int .i64 8 :: cs)) := .box_ _ (by simp [belL, AV.bel, hcs])
  refine ⟨⟨_, Try.func76, by kernel_rfl, rfl⟩, ACall.of Try.func76 rfl fun c0 hc0 => ?_⟩; simp only [Try.ntmps76, Ya, Y9, Nat.reduceAdd, Nat.reduceSub, Ym, Yn, Y5, Y3]; refine Run.god tab_ok follows_ok Try.func76 60 ?_; simp only [Try.results76, decide_true, decide_false, show 0 + 1 ≤ cs.length + 1 by omega, ↓alt_t, ↓alt_f, Int.reduceEq, drun, adops, adone, places, mayNeed, freeOk, rdOf, AV.id, wrOf, aops, aone, afin, ares, aresL, ares1, aresOk, aresOk1, aop, needs, ext, aev, aconst, aput, aupd, aload, astore, afieldAddr, acmp, ashift, abin, abuild, tab_3, tab_83, tab_146, tab_148, tab_163, tab_165, tab_180, tab_182, ok1, lay, cellsAs, TI.agg, AV.cells, AV.whole, Y4, Yb, Yc, Y6, Y7, Ya, Y9, Y1, Y2, Yi, Yh, Yg, Yj, Yl, Yf, Ye, Y5, Y3, Yd, Yt, Yu, Ys, Yr, Nat.reduceAdd, Yp, Yq, Yv, Y0, Y8]
  ((repeat' apply And.intro) <;> try first | rfl | omega | (unfold I64; omega))
  all_goals (first | exact WkH.cons (LeB.same _ (hX.bel 0)) (WkH.nil _) | (repeat' first | exact .refl _ | apply LeR.tup | apply Le.agg | constructor))
theorem letplaces_9 (cs : List AV) (hcs : belL 0 cs = true) : BSpec Try.prog 76 [.ptr 0 0] [.box (.int .i64 9 :: cs)] [.box (.int .i64 9 :: cs)] (.iface 171 (.psl 1 [[.iface 148 (.agg [.ptr 0 1])], [.iface 185 (.agg [.ptr 0 56])]])) := by
  have hX : LentB (.box (.int .i64 9 :: cs)) := .box_ _ (by simp [belL, AV.bel, hcs])
  refine ⟨⟨_, Try.func76, by kernel_rfl, rfl⟩, ACall.of Try.func76 rfl fun c0 hc0 => ?_⟩; simp only [Try.ntmps76, Ya, Y9, Nat.reduceAdd, Nat.reduceSub, Ym, Yn, Y5, Y3]; refine Run.god tab_ok follows_ok Try.func76 60 ?_; simp only [Try.results76, decide_true, decide_false, show 0 + 1 ≤ cs.length + 1 by omega, ↓alt_t, ↓alt_f, Int.reduceEq, drun, adops, adone, places, mayNeed, freeOk, rdOf, AV.id, wrOf, aops, aone, afin, ares, aresL, ares1, aresOk, aresOk1, aop, needs, ext, aev, aconst, aput, aupd, aload, astore, afieldAddr, acmp, ashift, abin, abuild, aelems, plains, tab_3, tab_83, tab_146, tab_148, tab_151, tab_163, tab_165, tab_171, tab_183, tab_185, ok1, lay, cellsAs, TI.agg, AV.cells, AV.whole, AV.plain, AV.bare, Y4, Yb, Yc, Y6, Y7, Ya, Y9, Y1, Y2, Yi, Yh, Yg, Yj, Yk, Yl, Yf, Ye, Y5, Y3, Yd, List.all_cons, List.all_nil, Ym, Yn, Yt, Yu, Ys, Yr, Nat.reduceAdd, Nat.reduceLeDiff, Nat.reduceMul, Nat.reduceBEq, Yp, Yq, Bool.and_self, Bool.and_true, Bool.and_false, Nat.reduceLT, Yv, Y0, Y8]
  ((repeat' apply And.intro) <;> try first | rfl | omega | (unfold I64; omega))
  all_goals (first | exact WkH.cons (LeB.same _ (hX.bel 0)) (WkH.nil _) | (repeat' first | exact .refl _ | apply LeR.tup | apply Le.agg | constructor))
theorem letplaces_10 (cs : List AV) (hcs : belL 0 cs = true) : BSpec Try.prog 76 [.ptr 0 0] [.box (.int .i64 10 :: cs)] [.box (.int .i64 10 :: cs)] (.iface 171 (.psl 1 [[.iface 148 (.agg [.ptr 0 1])], [.iface 148 (.agg [.ptr 0 2])]])) := by
  have hX : LentB (.box (.int .i64 10 :: cs)) := .box_ _ (by simp [belL, AV.bel, hcs])
  refine ⟨⟨_, Try.func76, by kernel_rfl, rfl⟩, ACall.of Try.func76 rfl fun c0 hc0 => ?_⟩; simp only [Try.ntmps76, Ya, Y9, Nat.reduceAdd, Nat.reduceSub, Ym, Yn, Y5, Y3]; refine Run.god tab_ok follows_ok Try.func76 60 ?_; simp only [Try.results76, decide_true, decide_false, show 0 + 1 ≤ cs.length + 1 by omega, ↓alt_t, ↓alt_f, Int.reduceEq, drun, adops, adone, places, mayNeed, freeOk, rdOf, AV.id, wrOf, aops, aone, afin, ares, aresL, ares1, aresOk, aresOk1, aop, needs, ext, aev, aconst, aput, aupd, aload, astore, afieldAddr, acmp, ashift, abin, abuild, aelems, plains, tab_3, tab_83, tab_146, tab_148, tab_151, tab_163, tab_165, tab_171, ok1, lay, cellsAs, TI.agg, AV.cells, AV.whole, AV.plain, AV.bare, Y4, Yb, Yc, Y6, Y7, Ya, Y9, Y1, Y2, Yi, Yh, Yg, Yj, Yk, Yl, Yf, Ye, Y5, Y3, Yd, List.all_cons, List.all_nil, Ym, Yn, Yt, Yu, Ys, Yr, Nat.reduceAdd, Nat.reduceLeDiff, Nat.reduceMul, Nat.reduceBEq, Yp, Yq, Bool.and_self, Bool.and_true, Bool.and_false, Nat.reduceLT, Yv, Y0, Y8]
  ((repeat' apply And.intro) <;> try first | rfl | omega | (unfold I64; omega))
  all_goals (first | exact WkH.cons (LeB.same _ (hX.bel 0)) (WkH.nil _) | (repeat' first | exact .refl _ | apply LeR.tup | apply Le.agg | constructor))
theorem letplaces_no (n : Int) (cs : List AV) (hn : n < 1 ∨ 10 < n) (hcs : belL 0 cs = true) : BSpec Try.prog 76 [.ptr 0 0] [.box (.int .i64 n :: cs)] [.box (.int .i64 n :: cs)] .nilI := by
  have hX : LentB (.box (.int .i64 n :: cs)) := .box_ _ (by simp [belL, AV.bel, hcs])
  have n1 : ¬ n = 1 := by omega
  have n2 : ¬ n = 2 := by omega
  have n3 : ¬ n = 3 := by omega
  have n4 : ¬ n = 4 := by omega
  have n5 : ¬ n = 5 := by omega
  have n6 : ¬ n = 6 := by omega
  have n7 : ¬ n = 7 := by omega
  have n8 : ¬ n = 8 := by omega
  have n9 : ¬ n = 9 := by omega
  have n10 : ¬ n = 10 := by omega
  refine ⟨⟨_, Try.func76, by kernel_rfl, rfl⟩, ACall.of Try.func76 rfl fun c0 hc0 => ?_⟩; simp only [Try.ntmps76, Ya, Y9, Nat.reduceAdd, Nat.reduceSub, Ym, Yn, Y5, Y3]; refine Run.god tab_ok follows_ok Try.func76 60 ?_; simp only [Try.results76, n1, n2, n3, n4, n5, n6, n7, n8, n9, n10, decide_false, show 0 + 1 ≤ cs.length + 1 by omega, ↓alt_f, drun, adops, adone, places, mayNeed, freeOk, rdOf, AV.id, wrOf, aops, aone, afin, ares, aresL, ares1, aresOk, aresOk1, aop, needs, ext, aev, aconst, aput, aupd, aload, astore, afieldAddr, acmp, ashift, abin, abuild, tab_3, tab_83, tab_146, tab_148, tab_163, tab_165, ok1, lay, cellsAs, TI.agg, AV.cells, AV.whole, Y4, Yb, Yc, Y6, Y7, Ya, Y9, Y1, Y2, Yi, Yh, Yg, Yj, Yl, Yf, Ye, Y5, Y3, Yd, Yt, Yu, Ys, Yr, Nat.reduceAdd, Yp, Yq, Yv, Y0, Y8]
  ((repeat' apply And.intro) <;> try first | rfl | omega | (unfold I64; omega))
  all_goals (first | exact WkH.cons (LeB.same _ (hX.bel 0)) (WkH.nil _) | (repeat' first | exact .refl _ | apply LeR.tup | apply Le.agg | constructor))
end Go.Proofs.Ytkamcoechjdgpaa
/-
  Package wire: a letter's parts, taken, by kind.
-/
namespace Go.Proofs.Ytkamcoechjdgpaa
open Go.RowKit
def zM : Bytes := List.replicate 32 0
def zO : Ord := ⟨0, 0, 0, [], [], 0, 0, 0⟩
def zX : Rpl := ⟨0, 0, 0, [], 0, []⟩
def zL : Ltr := ⟨0, 0, 0, 0, [], [], zA, [], ⟨0, 0, false, 0, [], []⟩, zM, zO, zX⟩
theorem rdM_32 (b : Bytes) (e : Int) (s : Bytes) (h : s.length = 32) : (rdM b e s).2.2.length = 32 := by
  unfold rdM
  split
  · split
    · exact h
    · simp; omega
  · exact h
theorem sumC_len (s : Bytes) : (sumC s).length = s.length := by simp [sumC]
theorem lay_mid {xs ms ys ns : List AV} (h : ns.length = ms.length) : lay (xs ++ (ms ++ ys)) xs.length ns = xs ++ (ns ++ ys) := by
  unfold lay
  rw [List.take_left, List.append_assoc, h]
  congr 2
  rw [← List.append_assoc, show xs.length + ms.length = (xs ++ ms).length by simp, List.drop_left]
def q1_1 (b : Bytes) : Bytes × Int × Int := rdN b 0 0
def q1_2 (b : Bytes) : Bytes × Int × Int := rdN (q1_1 b).1 (q1_1 b).2.1 0
def q1_3 (b : Bytes) : Bytes × Int × Int := rdN (q1_2 b).1 (q1_2 b).2.1 0
def q1_4 (b : Bytes) : Bytes × Int × Bytes := rdT (q1_3 b).1 (q1_3 b).2.1 []
def q1_5 (b : Bytes) : Bytes × Int × List Rp := rdC (q1_4 b).1 (q1_4 b).2.1
def l1 (b : Bytes) : Ltr := { zL with kind := 1, frm := (q1_1 b).2.2, slot := (q1_2 b).2.2, view := (q1_3 b).2.2, value := (q1_4 b).2.2, cert := (q1_5 b).2.2 }
theorem told_1 (b : Bytes) (hb : b.length ≤ 1000000) : BSpec Try.prog 118 [.psl 1 [[.iface 148 (.agg [.ptr 1 1])], [.iface 148 (.agg [.ptr 1 2])], [.iface 148 (.agg [.ptr 1 3])], [.iface 165 (.agg [.ptr 1 4])], [.iface 169 (.agg [.ptr 1 5, .fn (.func 88) [] []])]], .ptr 0 0] [pp b true 0, .box (.int .i64 1 :: .int .i64 0 :: .int .i64 0 :: .int .i64 0 :: .str [] :: .nils :: (accC zA ++ (.nils :: (rpZ ++ (sumC zM ++ (ordC zO ++ rplC zX))))))] [pp (q1_5 b).1 true (q1_5 b).2.1, .box (.int .i64 1 :: .int .i64 (q1_1 b).2.2 :: .int .i64 (q1_2 b).2.2 :: .int .i64 (q1_3 b).2.2 :: .str (q1_4 b).2.2 :: rpsA (q1_5 b).2.2 :: (accC zA ++ (.nils :: (rpZ ++ (sumC zM ++ (ordC zO ++ rplC zX))))))] (.tup []) := by
  have l1 : (q1_1 b).1.length ≤ 1000000 := Nat.le_trans (rdN_le b 0 _) hb
  have l2 : (q1_2 b).1.length ≤ 1000000 := Nat.le_trans (rdN_le (q1_1 b).1 (q1_1 b).2.1 _) l1
  have l3 : (q1_3 b).1.length ≤ 1000000 := Nat.le_trans (rdN_le (q1_2 b).1 (q1_2 b).2.1 _) l2
  have l4 : (q1_4 b).1.length ≤ 1000000 := Nat.le_trans (rdT_le (q1_3 b).1 (q1_3 b).2.1 _) l3
  refine parts_r [(148, (.agg [.ptr 1 1])), (148, (.agg [.ptr 1 2])), (148, (.agg [.ptr 1 3])), (165, (.agg [.ptr 1 4])), (169, (.agg [.ptr 1 5, .fn (.func 88) [] []]))] (fun | 0 => pp b true 0 | 1 => pp (q1_1 b).1 true (q1_1 b).2.1 | 2 => pp (q1_2 b).1 true (q1_2 b).2.1 | 3 => pp (q1_3 b).1 true (q1_3 b).2.1 | 4 => pp (q1_4 b).1 true (q1_4 b).2.1 | _ => pp (q1_5 b).1 true (q1_5 b).2.1)
    (fun | 0 => .box (.int .i64 1 :: .int .i64 0 :: .int .i64 0 :: .int .i64 0 :: .str [] :: .nils :: (accC zA ++ (.nils :: (rpZ ++ (sumC zM ++ (ordC zO ++ rplC zX)))))) | 1 => .box (.int .i64 1 :: .int .i64 (q1_1 b).2.2 :: .int .i64 0 :: .int .i64 0 :: .str [] :: .nils :: (accC zA ++ (.nils :: (rpZ ++ (sumC zM ++ (ordC zO ++ rplC zX)))))) | 2 => .box (.int .i64 1 :: .int .i64 (q1_1 b).2.2 :: .int .i64 (q1_2 b).2.2 :: .int .i64 0 :: .str [] :: .nils :: (accC zA ++ (.nils :: (rpZ ++ (sumC zM ++ (ordC zO ++ rplC zX)))))) | 3 => .box (.int .i64 1 :: .int .i64 (q1_1 b).2.2 :: .int .i64 (q1_2 b).2.2 :: .int .i64 (q1_3 b).2.2 :: .str [] :: .nils :: (accC zA ++ (.nils :: (rpZ ++ (sumC zM ++ (ordC zO ++ rplC zX)))))) | 4 => .box (.int .i64 1 :: .int .i64 (q1_1 b).2.2 :: .int .i64 (q1_2 b).2.2 :: .int .i64 (q1_3 b).2.2 :: .str (q1_4 b).2.2 :: .nils :: (accC zA ++ (.nils :: (rpZ ++ (sumC zM ++ (ordC zO ++ rplC zX)))))) | _ => .box (.int .i64 1 :: .int .i64 (q1_1 b).2.2 :: .int .i64 (q1_2 b).2.2 :: .int .i64 (q1_3 b).2.2 :: .str (q1_4 b).2.2 :: rpsA (q1_5 b).2.2 :: (accC zA ++ (.nils :: (rpZ ++ (sumC zM ++ (ordC zO ++ rplC zX)))))))
    (by simp) (fun k _ => by match k with | 0 => exact pp_lent _ _ _ | 1 => exact pp_lent _ _ _ | 2 => exact pp_lent _ _ _ | 3 => exact pp_lent _ _ _ | 4 => exact pp_lent _ _ _ | k + 5 => exact pp_lent _ _ _)
    (fun k _ => by match k with | 0 => exact .box_ _ rfl | 1 => exact .box_ _ rfl | 2 => exact .box_ _ rfl | 3 => exact .box_ _ rfl | 4 => exact .box_ _ rfl | k + 5 => exact .box_ _ rfl) ?_
  intro k t v h
  match k, h with
  | 0, h => cases h; exact ⟨rfl, rfl, rfl, _, meth_number, number_c b 0 0 _ 1 (.of (C := fun y => .int .i64 1 :: y :: .int .i64 0 :: .int .i64 0 :: .str [] :: .nils :: (accC zA ++ (.nils :: (rpZ ++ (sumC zM ++ (ordC zO ++ rplC zX)))))) [.int .i64 1] (.int .i64 0 :: .int .i64 0 :: .str [] :: .nils :: (accC zA ++ (.nils :: (rpZ ++ (sumC zM ++ (ordC zO ++ rplC zX)))))) (fun _ => rfl) rfl rfl rfl) hb⟩
  | 1, h => cases h; exact ⟨rfl, rfl, rfl, _, meth_number, number_c (q1_1 b).1 (q1_1 b).2.1 0 _ 2 (.of (C := fun y => .int .i64 1 :: .int .i64 (q1_1 b).2.2 :: y :: .int .i64 0 :: .str [] :: .nils :: (accC zA ++ (.nils :: (rpZ ++ (sumC zM ++ (ordC zO ++ rplC zX)))))) [.int .i64 1, .int .i64 (q1_1 b).2.2] (.int .i64 0 :: .str [] :: .nils :: (accC zA ++ (.nils :: (rpZ ++ (sumC zM ++ (ordC zO ++ rplC zX)))))) (fun _ => rfl) rfl rfl rfl) l1⟩
  | 2, h => cases h; exact ⟨rfl, rfl, rfl, _, meth_number, number_c (q1_2 b).1 (q1_2 b).2.1 0 _ 3 (.of (C := fun y => .int .i64 1 :: .int .i64 (q1_1 b).2.2 :: .int .i64 (q1_2 b).2.2 :: y :: .str [] :: .nils :: (accC zA ++ (.nils :: (rpZ ++ (sumC zM ++ (ordC zO ++ rplC zX)))))) [.int .i64 1, .int .i64 (q1_1 b).2.2, .int .i64 (q1_2 b).2.2] (.str [] :: .nils :: (accC zA ++ (.nils :: (rpZ ++ (sumC zM ++ (ordC zO ++ rplC zX)))))) (fun _ => rfl) rfl rfl rfl) l2⟩
  | 3, h => cases h; exact ⟨rfl, rfl, rfl, _, meth_text, text_c (q1_3 b).1 (q1_3 b).2.1 [] _ 4 (.of (C := fun y => .int .i64 1 :: .int .i64 (q1_1 b).2.2 :: .int .i64 (q1_2 b).2.2 :: .int .i64 (q1_3 b).2.2 :: y :: .nils :: (accC zA ++ (.nils :: (rpZ ++ (sumC zM ++ (ordC zO ++ rplC zX)))))) [.int .i64 1, .int .i64 (q1_1 b).2.2, .int .i64 (q1_2 b).2.2, .int .i64 (q1_3 b).2.2] (.nils :: (accC zA ++ (.nils :: (rpZ ++ (sumC zM ++ (ordC zO ++ rplC zX)))))) (fun _ => rfl) rfl rfl rfl) l3⟩
  | 4, h => cases h; exact ⟨rfl, rfl, rfl, _, meth_rowR, rowR_rb (q1_4 b).1 (q1_4 b).2.1 _ 5 (.of (C := fun y => .int .i64 1 :: .int .i64 (q1_1 b).2.2 :: .int .i64 (q1_2 b).2.2 :: .int .i64 (q1_3 b).2.2 :: .str (q1_4 b).2.2 :: y :: (accC zA ++ (.nils :: (rpZ ++ (sumC zM ++ (ordC zO ++ rplC zX)))))) [.int .i64 1, .int .i64 (q1_1 b).2.2, .int .i64 (q1_2 b).2.2, .int .i64 (q1_3 b).2.2, .str (q1_4 b).2.2] ((accC zA ++ (.nils :: (rpZ ++ (sumC zM ++ (ordC zO ++ rplC zX)))))) (fun _ => rfl) rfl rfl rfl) l4⟩
  | k + 5, h => simp at h
def q2_1 (b : Bytes) : Bytes × Int × Int := rdN b 0 0
def q2_2 (b : Bytes) : Bytes × Int × Acc := rdA (q2_1 b).1 (q2_1 b).2.1 zA
def l2 (b : Bytes) : Ltr := { zL with kind := 2, slot := (q2_1 b).2.2, vote := (q2_2 b).2.2 }
theorem told_2 (b : Bytes) (hb : b.length ≤ 1000000) : BSpec Try.prog 118 [.psl 1 [[.iface 148 (.agg [.ptr 1 2])], [.iface 171 (.psl 1 ((voteB_ 1 6).map partC))]], .ptr 0 0] [pp b true 0, .box (.int .i64 2 :: .int .i64 0 :: .int .i64 0 :: .int .i64 0 :: .str [] :: .nils :: (accC zA ++ (.nils :: (rpZ ++ (sumC zM ++ (ordC zO ++ rplC zX))))))] [pp (q2_2 b).1 true (q2_2 b).2.1, .box (.int .i64 2 :: .int .i64 0 :: .int .i64 (q2_1 b).2.2 :: .int .i64 0 :: .str [] :: .nils :: (accC (q2_2 b).2.2 ++ (.nils :: (rpZ ++ (sumC zM ++ (ordC zO ++ rplC zX))))))] (.tup []) := by
  have l1 : (q2_1 b).1.length ≤ 1000000 := Nat.le_trans (rdN_le b 0 _) hb
  refine parts_r [(148, (.agg [.ptr 1 2])), (171, (.psl 1 ((voteB_ 1 6).map partC)))] (fun | 0 => pp b true 0 | 1 => pp (q2_1 b).1 true (q2_1 b).2.1 | _ => pp (q2_2 b).1 true (q2_2 b).2.1)
    (fun | 0 => .box (.int .i64 2 :: .int .i64 0 :: .int .i64 0 :: .int .i64 0 :: .str [] :: .nils :: (accC zA ++ (.nils :: (rpZ ++ (sumC zM ++ (ordC zO ++ rplC zX)))))) | 1 => .box (.int .i64 2 :: .int .i64 0 :: .int .i64 (q2_1 b).2.2 :: .int .i64 0 :: .str [] :: .nils :: (accC zA ++ (.nils :: (rpZ ++ (sumC zM ++ (ordC zO ++ rplC zX)))))) | _ => .box (.int .i64 2 :: .int .i64 0 :: .int .i64 (q2_1 b).2.2 :: .int .i64 0 :: .str [] :: .nils :: (accC (q2_2 b).2.2 ++ (.nils :: (rpZ ++ (sumC zM ++ (ordC zO ++ rplC zX)))))))
    (by simp) (fun k _ => by match k with | 0 => exact pp_lent _ _ _ | 1 => exact pp_lent _ _ _ | k + 2 => exact pp_lent _ _ _)
    (fun k _ => by match k with | 0 => exact .box_ _ rfl | 1 => exact .box_ _ rfl | k + 2 => exact .box_ _ rfl) ?_
  intro k t v h
  match k, h with
  | 0, h => cases h; exact ⟨rfl, rfl, rfl, _, meth_number, number_c b 0 0 _ 2 (.of (C := fun y => .int .i64 2 :: .int .i64 0 :: y :: .int .i64 0 :: .str [] :: .nils :: (accC zA ++ (.nils :: (rpZ ++ (sumC zM ++ (ordC zO ++ rplC zX)))))) [.int .i64 2, .int .i64 0] (.int .i64 0 :: .str [] :: .nils :: (accC zA ++ (.nils :: (rpZ ++ (sumC zM ++ (ordC zO ++ rplC zX)))))) (fun _ => rfl) rfl rfl rfl) hb⟩
  | 1, h => cases h; exact ⟨rfl, rfl, rfl, _, meth_parts, vote_rb (q2_1 b).1 (q2_1 b).2.1 zA [.int .i64 2, .int .i64 0, .int .i64 (q2_1 b).2.2, .int .i64 0, .str [], .nils] (.nils :: (rpZ ++ (sumC zM ++ (ordC zO ++ rplC zX)))) 6 rfl rfl rfl l1⟩
  | k + 2, h => simp at h
def q3_1 (b : Bytes) : Bytes × Int × Int := rdN b 0 0
def q3_2 (b : Bytes) : Bytes × Int × Int := rdN (q3_1 b).1 (q3_1 b).2.1 0
def q3_3 (b : Bytes) : Bytes × Int × List Acc := rdV (q3_2 b).1 (q3_2 b).2.1
def l3 (b : Bytes) : Ltr := { zL with kind := 3, frm := (q3_1 b).2.2, slot := (q3_2 b).2.2, proof := (q3_3 b).2.2 }
theorem told_3 (b : Bytes) (hb : b.length ≤ 1000000) : BSpec Try.prog 118 [.psl 1 [[.iface 148 (.agg [.ptr 1 1])], [.iface 148 (.agg [.ptr 1 2])], [.iface 197 (.agg [.ptr 1 9, .fn (.func 89) [] []])]], .ptr 0 0] [pp b true 0, .box (.int .i64 3 :: .int .i64 0 :: .int .i64 0 :: .int .i64 0 :: .str [] :: .nils :: (accC zA ++ (.nils :: (rpZ ++ (sumC zM ++ (ordC zO ++ rplC zX))))))] [pp (q3_3 b).1 true (q3_3 b).2.1, .box (.int .i64 3 :: .int .i64 (q3_1 b).2.2 :: .int .i64 (q3_2 b).2.2 :: .int .i64 0 :: .str [] :: .nils :: (accC zA ++ (votesA (q3_3 b).2.2 :: (rpZ ++ (sumC zM ++ (ordC zO ++ rplC zX))))))] (.tup []) := by
  have l1 : (q3_1 b).1.length ≤ 1000000 := Nat.le_trans (rdN_le b 0 _) hb
  have l2 : (q3_2 b).1.length ≤ 1000000 := Nat.le_trans (rdN_le (q3_1 b).1 (q3_1 b).2.1 _) l1
  refine parts_r [(148, (.agg [.ptr 1 1])), (148, (.agg [.ptr 1 2])), (197, (.agg [.ptr 1 9, .fn (.func 89) [] []]))] (fun | 0 => pp b true 0 | 1 => pp (q3_1 b).1 true (q3_1 b).2.1 | 2 => pp (q3_2 b).1 true (q3_2 b).2.1 | _ => pp (q3_3 b).1 true (q3_3 b).2.1)
    (fun | 0 => .box (.int .i64 3 :: .int .i64 0 :: .int .i64 0 :: .int .i64 0 :: .str [] :: .nils :: (accC zA ++ (.nils :: (rpZ ++ (sumC zM ++ (ordC zO ++ rplC zX)))))) | 1 => .box (.int .i64 3 :: .int .i64 (q3_1 b).2.2 :: .int .i64 0 :: .int .i64 0 :: .str [] :: .nils :: (accC zA ++ (.nils :: (rpZ ++ (sumC zM ++ (ordC zO ++ rplC zX)))))) | 2 => .box (.int .i64 3 :: .int .i64 (q3_1 b).2.2 :: .int .i64 (q3_2 b).2.2 :: .int .i64 0 :: .str [] :: .nils :: (accC zA ++ (.nils :: (rpZ ++ (sumC zM ++ (ordC zO ++ rplC zX)))))) | _ => .box (.int .i64 3 :: .int .i64 (q3_1 b).2.2 :: .int .i64 (q3_2 b).2.2 :: .int .i64 0 :: .str [] :: .nils :: (accC zA ++ (votesA (q3_3 b).2.2 :: (rpZ ++ (sumC zM ++ (ordC zO ++ rplC zX)))))))
    (by simp) (fun k _ => by match k with | 0 => exact pp_lent _ _ _ | 1 => exact pp_lent _ _ _ | 2 => exact pp_lent _ _ _ | k + 3 => exact pp_lent _ _ _)
    (fun k _ => by match k with | 0 => exact .box_ _ rfl | 1 => exact .box_ _ rfl | 2 => exact .box_ _ rfl | k + 3 => exact .box_ _ rfl) ?_
  intro k t v h
  match k, h with
  | 0, h => cases h; exact ⟨rfl, rfl, rfl, _, meth_number, number_c b 0 0 _ 1 (.of (C := fun y => .int .i64 3 :: y :: .int .i64 0 :: .int .i64 0 :: .str [] :: .nils :: (accC zA ++ (.nils :: (rpZ ++ (sumC zM ++ (ordC zO ++ rplC zX)))))) [.int .i64 3] (.int .i64 0 :: .int .i64 0 :: .str [] :: .nils :: (accC zA ++ (.nils :: (rpZ ++ (sumC zM ++ (ordC zO ++ rplC zX)))))) (fun _ => rfl) rfl rfl rfl) hb⟩
  | 1, h => cases h; exact ⟨rfl, rfl, rfl, _, meth_number, number_c (q3_1 b).1 (q3_1 b).2.1 0 _ 2 (.of (C := fun y => .int .i64 3 :: .int .i64 (q3_1 b).2.2 :: y :: .int .i64 0 :: .str [] :: .nils :: (accC zA ++ (.nils :: (rpZ ++ (sumC zM ++ (ordC zO ++ rplC zX)))))) [.int .i64 3, .int .i64 (q3_1 b).2.2] (.int .i64 0 :: .str [] :: .nils :: (accC zA ++ (.nils :: (rpZ ++ (sumC zM ++ (ordC zO ++ rplC zX)))))) (fun _ => rfl) rfl rfl rfl) l1⟩
  | 2, h => cases h; exact ⟨rfl, rfl, rfl, _, meth_rowA, rowA_rb (q3_2 b).1 (q3_2 b).2.1 _ 9 (.of (C := fun y => .int .i64 3 :: .int .i64 (q3_1 b).2.2 :: .int .i64 (q3_2 b).2.2 :: .int .i64 0 :: .str [] :: .nils :: (accC zA ++ (y :: (rpZ ++ (sumC zM ++ (ordC zO ++ rplC zX)))))) ([.int .i64 3, .int .i64 (q3_1 b).2.2, .int .i64 (q3_2 b).2.2, .int .i64 0, .str [], .nils] ++ accC zA) ((rpZ ++ (sumC zM ++ (ordC zO ++ rplC zX)))) (fun _ => rfl) rfl rfl rfl) l2⟩
  | k + 3, h => simp at h
def q4_1 (b : Bytes) : Bytes × Int × Int := rdN b 0 0
def q4_2 (b : Bytes) : Bytes × Int × Rp := rdR (q4_1 b).1 (q4_1 b).2.1
def l4 (b : Bytes) : Ltr := { zL with kind := 4, slot := (q4_1 b).2.2, r := (q4_2 b).2.2 }
theorem told_4 (b : Bytes) (hb : b.length ≤ 1000000) : BSpec Try.prog 118 [.psl 1 [[.iface 148 (.agg [.ptr 1 2])], [.iface 171 (.psl 1 ((reportB_ 1 10).map partC))]], .ptr 0 0] [pp b true 0, .box (.int .i64 4 :: .int .i64 0 :: .int .i64 0 :: .int .i64 0 :: .str [] :: .nils :: (accC zA ++ (.nils :: (rpZ ++ (sumC zM ++ (ordC zO ++ rplC zX))))))] [pp (q4_2 b).1 true (q4_2 b).2.1, .box (.int .i64 4 :: .int .i64 0 :: .int .i64 (q4_1 b).2.2 :: .int .i64 0 :: .str [] :: .nils :: (accC zA ++ (.nils :: (rpC (q4_2 b).2.2 ++ (sumC zM ++ (ordC zO ++ rplC zX))))))] (.tup []) := by
  have l1 : (q4_1 b).1.length ≤ 1000000 := Nat.le_trans (rdN_le b 0 _) hb
  refine parts_r [(148, (.agg [.ptr 1 2])), (171, (.psl 1 ((reportB_ 1 10).map partC)))] (fun | 0 => pp b true 0 | 1 => pp (q4_1 b).1 true (q4_1 b).2.1 | _ => pp (q4_2 b).1 true (q4_2 b).2.1)
    (fun | 0 => .box (.int .i64 4 :: .int .i64 0 :: .int .i64 0 :: .int .i64 0 :: .str [] :: .nils :: (accC zA ++ (.nils :: (rpZ ++ (sumC zM ++ (ordC zO ++ rplC zX)))))) | 1 => .box (.int .i64 4 :: .int .i64 0 :: .int .i64 (q4_1 b).2.2 :: .int .i64 0 :: .str [] :: .nils :: (accC zA ++ (.nils :: (rpZ ++ (sumC zM ++ (ordC zO ++ rplC zX)))))) | _ => .box (.int .i64 4 :: .int .i64 0 :: .int .i64 (q4_1 b).2.2 :: .int .i64 0 :: .str [] :: .nils :: (accC zA ++ (.nils :: (rpC (q4_2 b).2.2 ++ (sumC zM ++ (ordC zO ++ rplC zX)))))))
    (by simp) (fun k _ => by match k with | 0 => exact pp_lent _ _ _ | 1 => exact pp_lent _ _ _ | k + 2 => exact pp_lent _ _ _)
    (fun k _ => by match k with | 0 => exact .box_ _ rfl | 1 => exact .box_ _ rfl | k + 2 => exact .box_ _ rfl) ?_
  intro k t v h
  match k, h with
  | 0, h => cases h; exact ⟨rfl, rfl, rfl, _, meth_number, number_c b 0 0 _ 2 (.of (C := fun y => .int .i64 4 :: .int .i64 0 :: y :: .int .i64 0 :: .str [] :: .nils :: (accC zA ++ (.nils :: (rpZ ++ (sumC zM ++ (ordC zO ++ rplC zX)))))) [.int .i64 4, .int .i64 0] (.int .i64 0 :: .str [] :: .nils :: (accC zA ++ (.nils :: (rpZ ++ (sumC zM ++ (ordC zO ++ rplC zX)))))) (fun _ => rfl) rfl rfl rfl) hb⟩
  | 1, h => cases h; exact ⟨rfl, rfl, rfl, _, meth_parts, report_rb (q4_1 b).1 (q4_1 b).2.1 ([.int .i64 4, .int .i64 0, .int .i64 (q4_1 b).2.2, .int .i64 0, .str [], .nils] ++ (accC zA ++ [.nils])) (sumC zM ++ (ordC zO ++ rplC zX)) 10 rfl rfl rfl l1⟩
  | k + 2, h => simp at h
def q5_1 (b : Bytes) : Bytes × Int × Int := rdN b 0 0
def q5_2 (b : Bytes) : Bytes × Int × Int := rdN (q5_1 b).1 (q5_1 b).2.1 0
def q5_3 (b : Bytes) : Bytes × Int × Bytes := rdT (q5_2 b).1 (q5_2 b).2.1 []
def l5 (b : Bytes) : Ltr := { zL with kind := 5, frm := (q5_1 b).2.2, slot := (q5_2 b).2.2, value := (q5_3 b).2.2 }
theorem told_5 (b : Bytes) (hb : b.length ≤ 1000000) : BSpec Try.prog 118 [.psl 1 [[.iface 148 (.agg [.ptr 1 1])], [.iface 148 (.agg [.ptr 1 2])], [.iface 165 (.agg [.ptr 1 4])]], .ptr 0 0] [pp b true 0, .box (.int .i64 5 :: .int .i64 0 :: .int .i64 0 :: .int .i64 0 :: .str [] :: .nils :: (accC zA ++ (.nils :: (rpZ ++ (sumC zM ++ (ordC zO ++ rplC zX))))))] [pp (q5_3 b).1 true (q5_3 b).2.1, .box (.int .i64 5 :: .int .i64 (q5_1 b).2.2 :: .int .i64 (q5_2 b).2.2 :: .int .i64 0 :: .str (q5_3 b).2.2 :: .nils :: (accC zA ++ (.nils :: (rpZ ++ (sumC zM ++ (ordC zO ++ rplC zX))))))] (.tup []) := by
  have l1 : (q5_1 b).1.length ≤ 1000000 := Nat.le_trans (rdN_le b 0 _) hb
  have l2 : (q5_2 b).1.length ≤ 1000000 := Nat.le_trans (rdN_le (q5_1 b).1 (q5_1 b).2.1 _) l1
  refine parts_r [(148, (.agg [.ptr 1 1])), (148, (.agg [.ptr 1 2])), (165, (.agg [.ptr 1 4]))] (fun | 0 => pp b true 0 | 1 => pp (q5_1 b).1 true (q5_1 b).2.1 | 2 => pp (q5_2 b).1 true (q5_2 b).2.1 | _ => pp (q5_3 b).1 true (q5_3 b).2.1)
    (fun | 0 => .box (.int .i64 5 :: .int .i64 0 :: .int .i64 0 :: .int .i64 0 :: .str [] :: .nils :: (accC zA ++ (.nils :: (rpZ ++ (sumC zM ++ (ordC zO ++ rplC zX)))))) | 1 => .box (.int .i64 5 :: .int .i64 (q5_1 b).2.2 :: .int .i64 0 :: .int .i64 0 :: .str [] :: .nils :: (accC zA ++ (.nils :: (rpZ ++ (sumC zM ++ (ordC zO ++ rplC zX)))))) | 2 => .box (.int .i64 5 :: .int .i64 (q5_1 b).2.2 :: .int .i64 (q5_2 b).2.2 :: .int .i64 0 :: .str [] :: .nils :: (accC zA ++ (.nils :: (rpZ ++ (sumC zM ++ (ordC zO ++ rplC zX)))))) | _ => .box (.int .i64 5 :: .int .i64 (q5_1 b).2.2 :: .int .i64 (q5_2 b).2.2 :: .int .i64 0 :: .str (q5_3 b).2.2 :: .nils :: (accC zA ++ (.nils :: (rpZ ++ (sumC zM ++ (ordC zO ++ rplC zX)))))))
    (by simp) (fun k _ => by match k with | 0 => exact pp_lent _ _ _ | 1 => exact pp_lent _ _ _ | 2 => exact pp_lent _ _ _ | k + 3 => exact pp_lent _ _ _)
    (fun k _ => by match k with | 0 => exact .box_ _ rfl | 1 => exact .box_ _ rfl | 2 => exact .box_ _ rfl | k + 3 => exact .box_ _ rfl) ?_
  intro k t v h
  match k, h with
  | 0, h => cases h; exact ⟨rfl, rfl, rfl, _, meth_number, number_c b 0 0 _ 1 (.of (C := fun y => .int .i64 5 :: y :: .int .i64 0 :: .int .i64 0 :: .str [] :: .nils :: (accC zA ++ (.nils :: (rpZ ++ (sumC zM ++ (ordC zO ++ rplC zX)))))) [.int .i64 5] (.int .i64 0 :: .int .i64 0 :: .str [] :: .nils :: (accC zA ++ (.nils :: (rpZ ++ (sumC zM ++ (ordC zO ++ rplC zX)))))) (fun _ => rfl) rfl rfl rfl) hb⟩
  | 1, h => cases h; exact ⟨rfl, rfl, rfl, _, meth_number, number_c (q5_1 b).1 (q5_1 b).2.1 0 _ 2 (.of (C := fun y => .int .i64 5 :: .int .i64 (q5_1 b).2.2 :: y :: .int .i64 0 :: .str [] :: .nils :: (accC zA ++ (.nils :: (rpZ ++ (sumC zM ++ (ordC zO ++ rplC zX)))))) [.int .i64 5, .int .i64 (q5_1 b).2.2] (.int .i64 0 :: .str [] :: .nils :: (accC zA ++ (.nils :: (rpZ ++ (sumC zM ++ (ordC zO ++ rplC zX)))))) (fun _ => rfl) rfl rfl rfl) l1⟩
  | 2, h => cases h; exact ⟨rfl, rfl, rfl, _, meth_text, text_c (q5_2 b).1 (q5_2 b).2.1 [] _ 4 (.of (C := fun y => .int .i64 5 :: .int .i64 (q5_1 b).2.2 :: .int .i64 (q5_2 b).2.2 :: .int .i64 0 :: y :: .nils :: (accC zA ++ (.nils :: (rpZ ++ (sumC zM ++ (ordC zO ++ rplC zX)))))) [.int .i64 5, .int .i64 (q5_1 b).2.2, .int .i64 (q5_2 b).2.2, .int .i64 0] (.nils :: (accC zA ++ (.nils :: (rpZ ++ (sumC zM ++ (ordC zO ++ rplC zX)))))) (fun _ => rfl) rfl rfl rfl) l2⟩
  | k + 3, h => simp at h
def q6_1 (b : Bytes) : Bytes × Int × Int := rdN b 0 0
def q6_2 (b : Bytes) : Bytes × Int × Int := rdN (q6_1 b).1 (q6_1 b).2.1 0
def l6 (b : Bytes) : Ltr := { zL with kind := 6, frm := (q6_1 b).2.2, view := (q6_2 b).2.2 }
theorem told_6 (b : Bytes) (hb : b.length ≤ 1000000) : BSpec Try.prog 118 [.psl 1 [[.iface 148 (.agg [.ptr 1 1])], [.iface 148 (.agg [.ptr 1 3])]], .ptr 0 0] [pp b true 0, .box (.int .i64 6 :: .int .i64 0 :: .int .i64 0 :: .int .i64 0 :: .str [] :: .nils :: (accC zA ++ (.nils :: (rpZ ++ (sumC zM ++ (ordC zO ++ rplC zX))))))] [pp (q6_2 b).1 true (q6_2 b).2.1, .box (.int .i64 6 :: .int .i64 (q6_1 b).2.2 :: .int .i64 0 :: .int .i64 (q6_2 b).2.2 :: .str [] :: .nils :: (accC zA ++ (.nils :: (rpZ ++ (sumC zM ++ (ordC zO ++ rplC zX))))))] (.tup []) := by
  have l1 : (q6_1 b).1.length ≤ 1000000 := Nat.le_trans (rdN_le b 0 _) hb
  refine parts_r [(148, (.agg [.ptr 1 1])), (148, (.agg [.ptr 1 3]))] (fun | 0 => pp b true 0 | 1 => pp (q6_1 b).1 true (q6_1 b).2.1 | _ => pp (q6_2 b).1 true (q6_2 b).2.1)
    (fun | 0 => .box (.int .i64 6 :: .int .i64 0 :: .int .i64 0 :: .int .i64 0 :: .str [] :: .nils :: (accC zA ++ (.nils :: (rpZ ++ (sumC zM ++ (ordC zO ++ rplC zX)))))) | 1 => .box (.int .i64 6 :: .int .i64 (q6_1 b).2.2 :: .int .i64 0 :: .int .i64 0 :: .str [] :: .nils :: (accC zA ++ (.nils :: (rpZ ++ (sumC zM ++ (ordC zO ++ rplC zX)))))) | _ => .box (.int .i64 6 :: .int .i64 (q6_1 b).2.2 :: .int .i64 0 :: .int .i64 (q6_2 b).2.2 :: .str [] :: .nils :: (accC zA ++ (.nils :: (rpZ ++ (sumC zM ++ (ordC zO ++ rplC zX)))))))
    (by simp) (fun k _ => by match k with | 0 => exact pp_lent _ _ _ | 1 => exact pp_lent _ _ _ | k + 2 => exact pp_lent _ _ _)
    (fun k _ => by match k with | 0 => exact .box_ _ rfl | 1 => exact .box_ _ rfl | k + 2 => exact .box_ _ rfl) ?_
  intro k t v h
  match k, h with
  | 0, h => cases h; exact ⟨rfl, rfl, rfl, _, meth_number, number_c b 0 0 _ 1 (.of (C := fun y => .int .i64 6 :: y :: .int .i64 0 :: .int .i64 0 :: .str [] :: .nils :: (accC zA ++ (.nils :: (rpZ ++ (sumC zM ++ (ordC zO ++ rplC zX)))))) [.int .i64 6] (.int .i64 0 :: .int .i64 0 :: .str [] :: .nils :: (accC zA ++ (.nils :: (rpZ ++ (sumC zM ++ (ordC zO ++ rplC zX)))))) (fun _ => rfl) rfl rfl rfl) hb⟩
  | 1, h => cases h; exact ⟨rfl, rfl, rfl, _, meth_number, number_c (q6_1 b).1 (q6_1 b).2.1 0 _ 3 (.of (C := fun y => .int .i64 6 :: .int .i64 (q6_1 b).2.2 :: .int .i64 0 :: y :: .str [] :: .nils :: (accC zA ++ (.nils :: (rpZ ++ (sumC zM ++ (ordC zO ++ rplC zX)))))) [.int .i64 6, .int .i64 (q6_1 b).2.2, .int .i64 0] (.str [] :: .nils :: (accC zA ++ (.nils :: (rpZ ++ (sumC zM ++ (ordC zO ++ rplC zX)))))) (fun _ => rfl) rfl rfl rfl) l1⟩
  | k + 2, h => simp at h
def q7_1 (b : Bytes) : Bytes × Int × Int := rdN b 0 0
def q7_2 (b : Bytes) : Bytes × Int × Int := rdN (q7_1 b).1 (q7_1 b).2.1 0
def q7_3 (b : Bytes) : Bytes × Int × Bytes := rdM (q7_2 b).1 (q7_2 b).2.1 zM
def l7 (b : Bytes) : Ltr := { zL with kind := 7, frm := (q7_1 b).2.2, slot := (q7_2 b).2.2, sum := (q7_3 b).2.2 }
theorem told_7 (b : Bytes) (hb : b.length ≤ 1000000) : BSpec Try.prog 118 [.psl 1 [[.iface 148 (.agg [.ptr 1 1])], [.iface 148 (.agg [.ptr 1 2])], [.iface 179 (.agg [.ptr 1 16])]], .ptr 0 0] [pp b true 0, .box (.int .i64 7 :: .int .i64 0 :: .int .i64 0 :: .int .i64 0 :: .str [] :: .nils :: (accC zA ++ (.nils :: (rpZ ++ (sumC zM ++ (ordC zO ++ rplC zX))))))] [pp (q7_3 b).1 true (q7_3 b).2.1, .box (.int .i64 7 :: .int .i64 (q7_1 b).2.2 :: .int .i64 (q7_2 b).2.2 :: .int .i64 0 :: .str [] :: .nils :: (accC zA ++ (.nils :: (rpZ ++ (sumC (q7_3 b).2.2 ++ (ordC zO ++ rplC zX))))))] (.tup []) := by
  have l1 : (q7_1 b).1.length ≤ 1000000 := Nat.le_trans (rdN_le b 0 _) hb
  have l2 : (q7_2 b).1.length ≤ 1000000 := Nat.le_trans (rdN_le (q7_1 b).1 (q7_1 b).2.1 _) l1
  refine parts_r [(148, (.agg [.ptr 1 1])), (148, (.agg [.ptr 1 2])), (179, (.agg [.ptr 1 16]))] (fun | 0 => pp b true 0 | 1 => pp (q7_1 b).1 true (q7_1 b).2.1 | 2 => pp (q7_2 b).1 true (q7_2 b).2.1 | _ => pp (q7_3 b).1 true (q7_3 b).2.1)
    (fun | 0 => .box (.int .i64 7 :: .int .i64 0 :: .int .i64 0 :: .int .i64 0 :: .str [] :: .nils :: (accC zA ++ (.nils :: (rpZ ++ (sumC zM ++ (ordC zO ++ rplC zX)))))) | 1 => .box (.int .i64 7 :: .int .i64 (q7_1 b).2.2 :: .int .i64 0 :: .int .i64 0 :: .str [] :: .nils :: (accC zA ++ (.nils :: (rpZ ++ (sumC zM ++ (ordC zO ++ rplC zX)))))) | 2 => .box (.int .i64 7 :: .int .i64 (q7_1 b).2.2 :: .int .i64 (q7_2 b).2.2 :: .int .i64 0 :: .str [] :: .nils :: (accC zA ++ (.nils :: (rpZ ++ (sumC zM ++ (ordC zO ++ rplC zX)))))) | _ => .box (.int .i64 7 :: .int .i64 (q7_1 b).2.2 :: .int .i64 (q7_2 b).2.2 :: .int .i64 0 :: .str [] :: .nils :: (accC zA ++ (.nils :: (rpZ ++ (sumC (q7_3 b).2.2 ++ (ordC zO ++ rplC zX)))))))
    (by simp) (fun k _ => by match k with | 0 => exact pp_lent _ _ _ | 1 => exact pp_lent _ _ _ | 2 => exact pp_lent _ _ _ | k + 3 => exact pp_lent _ _ _)
    (fun k _ => by match k with | 0 => exact .box_ _ rfl | 1 => exact .box_ _ rfl | 2 => exact .box_ _ rfl | k + 3 => exact .box_ _ (belL_app (xs := ([.int .i64 7, .int .i64 (q7_1 b).2.2, .int .i64 (q7_2 b).2.2, .int .i64 0, .str [], .nils] ++ (accC zA ++ (.nils :: rpZ)))) rfl (belL_app (sumC_bel _) rfl))) ?_
  intro k t v h
  match k, h with
  | 0, h => cases h; exact ⟨rfl, rfl, rfl, _, meth_number, number_c b 0 0 _ 1 (.of (C := fun y => .int .i64 7 :: y :: .int .i64 0 :: .int .i64 0 :: .str [] :: .nils :: (accC zA ++ (.nils :: (rpZ ++ (sumC zM ++ (ordC zO ++ rplC zX)))))) [.int .i64 7] (.int .i64 0 :: .int .i64 0 :: .str [] :: .nils :: (accC zA ++ (.nils :: (rpZ ++ (sumC zM ++ (ordC zO ++ rplC zX)))))) (fun _ => rfl) rfl rfl rfl) hb⟩
  | 1, h => cases h; exact ⟨rfl, rfl, rfl, _, meth_number, number_c (q7_1 b).1 (q7_1 b).2.1 0 _ 2 (.of (C := fun y => .int .i64 7 :: .int .i64 (q7_1 b).2.2 :: y :: .int .i64 0 :: .str [] :: .nils :: (accC zA ++ (.nils :: (rpZ ++ (sumC zM ++ (ordC zO ++ rplC zX)))))) [.int .i64 7, .int .i64 (q7_1 b).2.2] (.int .i64 0 :: .str [] :: .nils :: (accC zA ++ (.nils :: (rpZ ++ (sumC zM ++ (ordC zO ++ rplC zX)))))) (fun _ => rfl) rfl rfl rfl) l1⟩
  | 2, h => cases h; exact ⟨rfl, rfl, rfl, _, meth_sum, by
    have key := sum_r (q7_2 b).1 (q7_2 b).2.1 zM (.int .i64 7 :: .int .i64 (q7_1 b).2.2 :: .int .i64 (q7_2 b).2.2 :: .int .i64 0 :: .str [] :: .nils :: (accC zA ++ (.nils :: (rpZ ++ (sumC zM ++ (ordC zO ++ rplC zX)))))) 16 rfl rfl (Nat.le_of_ble_eq_true rfl) rfl
    rw [show lay (.int .i64 7 :: .int .i64 (q7_1 b).2.2 :: .int .i64 (q7_2 b).2.2 :: .int .i64 0 :: .str [] :: .nils :: (accC zA ++ (.nils :: (rpZ ++ (sumC zM ++ (ordC zO ++ rplC zX)))))) 16 (sumC (rdM (q7_2 b).1 (q7_2 b).2.1 zM).2.2) = .int .i64 7 :: .int .i64 (q7_1 b).2.2 :: .int .i64 (q7_2 b).2.2 :: .int .i64 0 :: .str [] :: .nils :: (accC zA ++ (.nils :: (rpZ ++ (sumC (rdM (q7_2 b).1 (q7_2 b).2.1 zM).2.2 ++ (ordC zO ++ rplC zX))))) from lay_mid (xs := ([.int .i64 7, .int .i64 (q7_1 b).2.2, .int .i64 (q7_2 b).2.2, .int .i64 0, .str [], .nils] ++ (accC zA ++ (.nils :: rpZ)))) (ms := sumC zM) (ys := (ordC zO ++ rplC zX)) (by rw [sumC_len, sumC_len, rdM_32 (q7_2 b).1 (q7_2 b).2.1 zM rfl]; rfl)] at key
    exact key⟩
  | k + 3, h => simp at h
def q8_1 (b : Bytes) : Bytes × Int × Ord := rdO b 0 zO
def l8 (b : Bytes) : Ltr := { zL with kind := 8, o := (q8_1 b).2.2 }
theorem told_8 (b : Bytes) (hb : b.length ≤ 1000000) : BSpec Try.prog 120 [.agg [.ptr 1 48], .ptr 0 0] [pp b true 0, .box (.int .i64 8 :: .int .i64 0 :: .int .i64 0 :: .int .i64 0 :: .str [] :: .nils :: (accC zA ++ (.nils :: (rpZ ++ (sumC zM ++ (ordC zO ++ rplC zX))))))] [pp (q8_1 b).1 true (q8_1 b).2.1, .box (.int .i64 8 :: .int .i64 0 :: .int .i64 0 :: .int .i64 0 :: .str [] :: .nils :: (accC zA ++ (.nils :: (rpZ ++ (sumC zM ++ (ordC (q8_1 b).2.2 ++ rplC zX))))))] (.tup []) := by
  exact by
    have key := asks_r b 0 zO (.int .i64 8 :: .int .i64 0 :: .int .i64 0 :: .int .i64 0 :: .str [] :: .nils :: (accC zA ++ (.nils :: (rpZ ++ (sumC zM ++ (ordC zO ++ rplC zX)))))) 48 hb rfl (Nat.le_of_ble_eq_true rfl) rfl
    exact key
def q9_1 (b : Bytes) : Bytes × Int × Int := rdN b 0 0
def q9_2 (b : Bytes) : Bytes × Int × Rpl := rdX (q9_1 b).1 (q9_1 b).2.1 zX
def l9 (b : Bytes) : Ltr := { zL with kind := 9, frm := (q9_1 b).2.2, x := (q9_2 b).2.2 }
theorem told_9 (b : Bytes) (hb : b.length ≤ 1000000) : BSpec Try.prog 118 [.psl 1 [[.iface 148 (.agg [.ptr 1 1])], [.iface 185 (.agg [.ptr 1 56])]], .ptr 0 0] [pp b true 0, .box (.int .i64 9 :: .int .i64 0 :: .int .i64 0 :: .int .i64 0 :: .str [] :: .nils :: (accC zA ++ (.nils :: (rpZ ++ (sumC zM ++ (ordC zO ++ rplC zX))))))] [pp (q9_2 b).1 true (q9_2 b).2.1, .box (.int .i64 9 :: .int .i64 (q9_1 b).2.2 :: .int .i64 0 :: .int .i64 0 :: .str [] :: .nils :: (accC zA ++ (.nils :: (rpZ ++ (sumC zM ++ (ordC zO ++ rplC (q9_2 b).2.2))))))] (.tup []) := by
  have l1 : (q9_1 b).1.length ≤ 1000000 := Nat.le_trans (rdN_le b 0 _) hb
  refine parts_r [(148, (.agg [.ptr 1 1])), (185, (.agg [.ptr 1 56]))] (fun | 0 => pp b true 0 | 1 => pp (q9_1 b).1 true (q9_1 b).2.1 | _ => pp (q9_2 b).1 true (q9_2 b).2.1)
    (fun | 0 => .box (.int .i64 9 :: .int .i64 0 :: .int .i64 0 :: .int .i64 0 :: .str [] :: .nils :: (accC zA ++ (.nils :: (rpZ ++ (sumC zM ++ (ordC zO ++ rplC zX)))))) | 1 => .box (.int .i64 9 :: .int .i64 (q9_1 b).2.2 :: .int .i64 0 :: .int .i64 0 :: .str [] :: .nils :: (accC zA ++ (.nils :: (rpZ ++ (sumC zM ++ (ordC zO ++ rplC zX)))))) | _ => .box (.int .i64 9 :: .int .i64 (q9_1 b).2.2 :: .int .i64 0 :: .int .i64 0 :: .str [] :: .nils :: (accC zA ++ (.nils :: (rpZ ++ (sumC zM ++ (ordC zO ++ rplC (q9_2 b).2.2)))))))
    (by simp) (fun k _ => by match k with | 0 => exact pp_lent _ _ _ | 1 => exact pp_lent _ _ _ | k + 2 => exact pp_lent _ _ _)
    (fun k _ => by match k with | 0 => exact .box_ _ rfl | 1 => exact .box_ _ rfl | k + 2 => exact .box_ _ rfl) ?_
  intro k t v h
  match k, h with
  | 0, h => cases h; exact ⟨rfl, rfl, rfl, _, meth_number, number_c b 0 0 _ 1 (.of (C := fun y => .int .i64 9 :: y :: .int .i64 0 :: .int .i64 0 :: .str [] :: .nils :: (accC zA ++ (.nils :: (rpZ ++ (sumC zM ++ (ordC zO ++ rplC zX)))))) [.int .i64 9] (.int .i64 0 :: .int .i64 0 :: .str [] :: .nils :: (accC zA ++ (.nils :: (rpZ ++ (sumC zM ++ (ordC zO ++ rplC zX)))))) (fun _ => rfl) rfl rfl rfl) hb⟩
  | 1, h => cases h; exact ⟨rfl, rfl, rfl, _, meth_replies, by
    have key := replies_r (q9_1 b).1 (q9_1 b).2.1 zX (.int .i64 9 :: .int .i64 (q9_1 b).2.2 :: .int .i64 0 :: .int .i64 0 :: .str [] :: .nils :: (accC zA ++ (.nils :: (rpZ ++ (sumC zM ++ (ordC zO ++ rplC zX)))))) 56 l1 rfl (Nat.le_of_ble_eq_true rfl) rfl
    exact key⟩
  | k + 2, h => simp at h
def q10_1 (b : Bytes) : Bytes × Int × Int := rdN b 0 0
def q10_2 (b : Bytes) : Bytes × Int × Int := rdN (q10_1 b).1 (q10_1 b).2.1 0
def l10 (b : Bytes) : Ltr := { zL with kind := 10, frm := (q10_1 b).2.2, slot := (q10_2 b).2.2 }
theorem told_10 (b : Bytes) (hb : b.length ≤ 1000000) : BSpec Try.prog 118 [.psl 1 [[.iface 148 (.agg [.ptr 1 1])], [.iface 148 (.agg [.ptr 1 2])]], .ptr 0 0] [pp b true 0, .box (.int .i64 10 :: .int .i64 0 :: .int .i64 0 :: .int .i64 0 :: .str [] :: .nils :: (accC zA ++ (.nils :: (rpZ ++ (sumC zM ++ (ordC zO ++ rplC zX))))))] [pp (q10_2 b).1 true (q10_2 b).2.1, .box (.int .i64 10 :: .int .i64 (q10_1 b).2.2 :: .int .i64 (q10_2 b).2.2 :: .int .i64 0 :: .str [] :: .nils :: (accC zA ++ (.nils :: (rpZ ++ (sumC zM ++ (ordC zO ++ rplC zX))))))] (.tup []) := by
  have l1 : (q10_1 b).1.length ≤ 1000000 := Nat.le_trans (rdN_le b 0 _) hb
  refine parts_r [(148, (.agg [.ptr 1 1])), (148, (.agg [.ptr 1 2]))] (fun | 0 => pp b true 0 | 1 => pp (q10_1 b).1 true (q10_1 b).2.1 | _ => pp (q10_2 b).1 true (q10_2 b).2.1)
    (fun | 0 => .box (.int .i64 10 :: .int .i64 0 :: .int .i64 0 :: .int .i64 0 :: .str [] :: .nils :: (accC zA ++ (.nils :: (rpZ ++ (sumC zM ++ (ordC zO ++ rplC zX)))))) | 1 => .box (.int .i64 10 :: .int .i64 (q10_1 b).2.2 :: .int .i64 0 :: .int .i64 0 :: .str [] :: .nils :: (accC zA ++ (.nils :: (rpZ ++ (sumC zM ++ (ordC zO ++ rplC zX)))))) | _ => .box (.int .i64 10 :: .int .i64 (q10_1 b).2.2 :: .int .i64 (q10_2 b).2.2 :: .int .i64 0 :: .str [] :: .nils :: (accC zA ++ (.nils :: (rpZ ++ (sumC zM ++ (ordC zO ++ rplC zX)))))))
    (by simp) (fun k _ => by match k with | 0 => exact pp_lent _ _ _ | 1 => exact pp_lent _ _ _ | k + 2 => exact pp_lent _ _ _)
    (fun k _ => by match k with | 0 => exact .box_ _ rfl | 1 => exact .box_ _ rfl | k + 2 => exact .box_ _ rfl) ?_
  intro k t v h
  match k, h with
  | 0, h => cases h; exact ⟨rfl, rfl, rfl, _, meth_number, number_c b 0 0 _ 1 (.of (C := fun y => .int .i64 10 :: y :: .int .i64 0 :: .int .i64 0 :: .str [] :: .nils :: (accC zA ++ (.nils :: (rpZ ++ (sumC zM ++ (ordC zO ++ rplC zX)))))) [.int .i64 10] (.int .i64 0 :: .int .i64 0 :: .str [] :: .nils :: (accC zA ++ (.nils :: (rpZ ++ (sumC zM ++ (ordC zO ++ rplC zX)))))) (fun _ => rfl) rfl rfl rfl) hb⟩
  | 1, h => cases h; exact ⟨rfl, rfl, rfl, _, meth_number, number_c (q10_1 b).1 (q10_1 b).2.1 0 _ 2 (.of (C := fun y => .int .i64 10 :: .int .i64 (q10_1 b).2.2 :: y :: .int .i64 0 :: .str [] :: .nils :: (accC zA ++ (.nils :: (rpZ ++ (sumC zM ++ (ordC zO ++ rplC zX)))))) [.int .i64 10, .int .i64 (q10_1 b).2.2] (.int .i64 0 :: .str [] :: .nils :: (accC zA ++ (.nils :: (rpZ ++ (sumC zM ++ (ordC zO ++ rplC zX)))))) (fun _ => rfl) rfl rfl rfl) l1⟩
  | k + 2, h => simp at h
end Go.Proofs.Ytkamcoechjdgpaa
/-
  Package wire's parts: what is taken is what was written, and what is written is taken as it was. No program in sight.
-/
namespace Go.Proofs.Ytkamcoechjdgpaa
open Go.RowKit
theorem drop_atK {α : Type} {l : List α} {k : Nat} {x : α} (hx : l[k]? = some x) : l.drop k = x :: l.drop (k + 1) := by
  obtain ⟨h, rfl⟩ := List.getElem?_eq_some_iff.1 hx
  exact List.drop_eq_getElem_cons h
structure Rdr {α : Type} (R : Bytes → Int → Bytes × Int × α) (W : α → Bytes) (S : α → Prop) : Prop where
  stick : ∀ b e, ¬ e = 0 → ¬ (R b e).2.1 = 0
  only0 : ∀ b, (R b 0).2.1 = 0 → S (R b 0).2.2 ∧ W (R b 0).2.2 ++ (R b 0).1 = b
  back : ∀ v r, S v → R (W v ++ r) 0 = (r, 0, v)
theorem Rdr.only {α : Type} {R : Bytes → Int → Bytes × Int × α} {W : α → Bytes} {S : α → Prop} (h : Rdr R W S) {b : Bytes} {e : Int} (he : (R b e).2.1 = 0) : e = 0 ∧ S (R b e).2.2 ∧ W (R b e).2.2 ++ (R b e).1 = b := by
  by_cases h0 : e = 0
  · subst h0; exact ⟨rfl, h.only0 b he⟩
  · exact absurd he (h.stick b e h0)
theorem rdrN (c : Int) : Rdr (fun b e => rdN b e c) (fun n => encN (zig n)) I64 where
  stick b e h := by simp only [rdN, if_neg h]; exact h
  only0 b h := by
    cases ht : takeZ b with
    | ok p => simp only [rdN, ht, reduceIte]; exact ⟨takeZ_i64 ht, takeZ_only ht⟩
    | error z => simp only [rdN, ht, reduceIte] at h; exact absurd h (takeZ_err ht)
  back v r h := by
    unfold I64 at h
    simp only [rdN, takeZ_enc v (by omega) (by omega), reduceIte]
theorem rdrT (c : Bytes) : Rdr (fun b e => rdT b e c) encT (fun s => s.length ≤ 6000) where
  stick b e h := by simp only [rdT, if_neg h]; exact h
  only0 b h := by
    cases ht : takeT b 6000 with
    | ok p => simp only [rdT, ht, reduceIte]; exact ⟨by have := takeT_size ht (by decide); omega, takeT_only ht⟩
    | error z => simp only [rdT, ht, reduceIte] at h; exact absurd h (takeT_err' ht)
  back v r h := by
    simp only [rdT, takeT_enc v 6000 (by omega) (by omega), reduceIte]
theorem rdrO (c : Ord) : Rdr (fun b e => rdO b e c) putO (fun o => mayO o = true ∧ smO o) where
  stick b e h := by simp only [rdO, if_neg h]; exact h
  only0 b h := by
    cases ht : takeO b with
    | ok p => simp only [rdO, ht, reduceIte]; have := takeO_only ht; exact ⟨this.2, this.1⟩
    | error z => simp only [rdO, ht, reduceIte] at h; exact absurd h (takeO_err ht)
  back v r h := by simp only [rdO, takeO_enc v h.1 h.2 r, reduceIte]
theorem rdrX (c : Rpl) : Rdr (fun b e => rdX b e c) putR SX where
  stick b e h := by simp only [rdX, if_neg h]; exact h
  only0 b h := by
    cases ht : takeRp b with
    | ok p => simp only [rdX, ht, reduceIte]; have := takeRp_SX ht; exact ⟨this.2, this.1⟩
    | error z => simp only [rdX, ht, reduceIte] at h; exact absurd h (takeRp_err ht)
  back v r h := by simp only [rdX, takeRp_encX v h r, reduceIte]
theorem rdrM (c : Bytes) : Rdr (fun b e => rdM b e c) id (fun s => s.length = 32) where
  stick b e h := by simp only [rdM, if_neg h]; exact h
  only0 b h := by
    simp only [rdM, reduceIte] at h ⊢
    split at h
    · simp at h
    · rename_i h1
      rw [if_neg h1]
      exact ⟨by simp; omega, List.take_append_drop 32 b⟩
  back v r h := by
    simp only [rdM, reduceIte, id]
    rw [if_neg (by rw [List.length_append]; omega), List.drop_left' h, List.take_left' h]
theorem flagZ (x : Int) (h : x = 0 ∨ x = 1) : (if decide (x = 1) = true then (1 : Int) else 0) = x := by
  rcases h with rfl | rfl <;> rfl
theorem rdrF (c : Bool) : Rdr (fun b e => rdF b e c) (fun h => encN (zig (if h then 1 else 0))) (fun _ => True) where
  stick b e h := by
    have key : ¬ (rdN b e (if c then 1 else 0)).2.1 = 0 := (rdrN (if c then 1 else 0)).stick b e h
    simp only [rdF]
    generalize rdN b e (if c then 1 else 0) = t at *
    split
    · omega
    · exact key
  only0 b h := by
    have key : (rdN b 0 (if c then 1 else 0)).2.1 = 0 → I64 (rdN b 0 (if c then 1 else 0)).2.2 ∧ encN (zig (rdN b 0 (if c then 1 else 0)).2.2) ++ (rdN b 0 (if c then 1 else 0)).1 = b := (rdrN (if c then 1 else 0)).only0 b
    simp only [rdF] at h ⊢
    by_cases hn : (rdN b 0 (if c then 1 else 0)).2.2 ≠ 0 ∧ (rdN b 0 (if c then 1 else 0)).2.2 ≠ 1
    · rw [if_pos hn] at h
      omega
    · rw [if_neg hn] at h
      obtain ⟨_, w⟩ := key h
      refine ⟨trivial, ?_⟩
      exact (congrArg (fun z => encN (zig z) ++ (rdN b 0 (if c then 1 else 0)).1) (flagZ (rdN b 0 (if c then 1 else 0)).2.2 (by omega))).trans w
  back v r _ := by
    have key : rdN (encN (zig (if v then 1 else 0)) ++ r) 0 (if c then 1 else 0) = (r, 0, if v then 1 else 0) := (rdrN (if c then 1 else 0)).back (if v then 1 else 0) r (by unfold I64; split <;> omega)
    simp only [rdF, key]
    cases v <;> rfl
def SA (a : Acc) : Prop := I64 a.by_ ∧ I64 a.view ∧ a.value.length ≤ 6000
theorem rdrA (c : Acc) : Rdr (fun b e => rdA b e c) voteB SA where
  stick b e h := by
    simp only [rdA]
    exact (rdrT _).stick _ _ ((rdrN _).stick _ _ ((rdrN _).stick _ _ h))
  only0 b h := by
    simp only [rdA] at h ⊢
    obtain ⟨h2, s3, w3⟩ := (rdrT _).only h
    obtain ⟨h1, s2, w2⟩ := (rdrN _).only h2
    obtain ⟨_, s1, w1⟩ := (rdrN _).only h1
    refine ⟨⟨s1, s2, s3⟩, ?_⟩
    rw [voteB, List.append_assoc, List.append_assoc]
    rw [w3, w2, w1]
  back v r h := by
    obtain ⟨h1, h2, h3⟩ := h
    have k1 := (rdrN c.by_).back v.by_ (encN (zig v.view) ++ (encT v.value ++ r)) h1
    have k2 := (rdrN c.view).back v.view (encT v.value ++ r) h2
    have k3 := (rdrT c.value).back v.value r h3
    simp only [rdA, voteB, List.append_assoc, k1, k2, k3]
def rds {α : Type} (R : Bytes → Int → Bytes × Int × α) : Nat → Bytes → Int → Bytes × Int × List α
  | 0, b, e => (b, e, [])
  | n + 1, b, e => ((R (rds R n b e).1 (rds R n b e).2.1).1, (R (rds R n b e).1 (rds R n b e).2.1).2.1, (rds R n b e).2.2 ++ [(R (rds R n b e).1 (rds R n b e).2.1).2.2])
section
variable {α : Type} {R : Bytes → Int → Bytes × Int × α} {W : α → Bytes} {S : α → Prop}
theorem rds_len (R : Bytes → Int → Bytes × Int × α) (b : Bytes) (e : Int) : ∀ n, (rds R n b e).2.2.length = n
  | 0 => rfl
  | n + 1 => by simp [rds, rds_len R b e n]
theorem rds_only (h : Rdr R W S) (b : Bytes) (e : Int) : ∀ n, (rds R n b e).2.1 = 0 → (∀ a ∈ (rds R n b e).2.2, S a) ∧ ((rds R n b e).2.2.map W).flatten ++ (rds R n b e).1 = b
  | 0, _ => ⟨fun a ha => absurd ha (by simp [rds]), rfl⟩
  | n + 1, he => by
    obtain ⟨h1, h2, h3⟩ := h.only he
    obtain ⟨g1, g2⟩ := rds_only h b e n h1
    refine ⟨fun a ha => ?_, ?_⟩
    · simp only [rds, List.mem_append, List.mem_singleton] at ha
      rcases ha with ha | rfl
      · exact g1 a ha
      · exact h2
    · simp only [rds, List.map_append, Yf, Ye, List.flatten_append, List.flatten_cons, List.flatten_nil, Yd, List.append_assoc]
      rw [h3, g2]
theorem rds_back (h : Rdr R W S) (l : List α) (r : Bytes) (hl : ∀ a ∈ l, S a) : ∀ n, n ≤ l.length → rds R n ((l.map W).flatten ++ r) 0 = (((l.drop n).map W).flatten ++ r, 0, l.take n)
  | 0, _ => rfl
  | n + 1, hn => by
    have ih := rds_back h l r hl n (by omega)
    obtain ⟨a, ha⟩ : ∃ a, l[n]? = some a := ⟨_, List.getElem?_eq_getElem (by omega)⟩
    have hb := h.back a (((l.drop (n + 1)).map W).flatten ++ r) (hl a (List.mem_of_getElem? ha))
    rw [drop_atK ha, List.map_cons, List.flatten_cons, List.append_assoc] at ih
    simp only [rds, ih, hb]
    rw [List.take_add_one, ha]
    rfl
end
def rdRow {α : Type} (R : Bytes → Int → Bytes × Int × α) (b : Bytes) (e : Int) : Bytes × Int × List α :=
  if (rdN b e 0).2.2 < 0 ∨ 30 < (rdN b e 0).2.2 then ((rdN b e 0).1, 5, []) else if (rdN b e 0).2.1 = 0 then rds R (rdN b e 0).2.2.toNat (rdN b e 0).1 0 else ((rdN b e 0).1, (rdN b e 0).2.1, [])
theorem rdrRow {α : Type} {R : Bytes → Int → Bytes × Int × α} {W : α → Bytes} {S : α → Prop} (h : Rdr R W S) : Rdr (rdRow R) (fun l => encN (zig l.length) ++ (l.map W).flatten) (fun l => l.length ≤ 30 ∧ ∀ a ∈ l, S a) where
  stick b e he := by
    have : ¬ (rdN b e 0).2.1 = 0 := (rdrN 0).stick b e he
    simp only [rdRow]
    split
    · simp
    · exact this
  only0 b he := by
    have key := (rdrN 0).only0 b
    simp only [rdRow] at he ⊢
    split at he
    · simp at he
    · rename_i h1
      rw [if_neg h1]
      split at he
      · rename_i h2
        rw [if_pos h2]
        obtain ⟨s1, w1⟩ := key h2
        obtain ⟨g1, g2⟩ := rds_only h _ _ _ he
        have hl := rds_len R (rdN b 0 0).1 0 (rdN b 0 0).2.2.toNat
        refine ⟨⟨by omega, g1⟩, ?_⟩
        rw [hl, List.append_assoc, g2, Int.toNat_of_nonneg (by omega), w1]
      · rename_i h2; exact absurd he h2
  back v r hv := by
    obtain ⟨h1, h2⟩ := hv
    have k1 := (rdrN 0).back v.length ((v.map W).flatten ++ r) (by unfold I64; omega)
    have k2 := rds_back h v r h2 v.length (Nat.le_refl _)
    simp only [rdRow, List.append_assoc, k1, reduceIte, Int.toNat_natCast]
    rw [if_neg (by omega), k2, List.drop_length, List.take_length]
    rfl
theorem rdAs_eq (b : Bytes) (e : Int) : ∀ n, rdAs n b e = rds (fun b e => rdA b e zA) n b e
  | 0 => rfl
  | n + 1 => by rw [rdAs, rds, rdAs_eq b e n]
theorem rdV_eq (b : Bytes) (e : Int) : rdV b e = rdRow (fun b e => rdA b e zA) b e := by
  unfold rdV rdRow
  rw [rdAs_eq]
def SV (l : List Acc) : Prop := l.length ≤ 30 ∧ ∀ a ∈ l, SA a
theorem rdrV : Rdr rdV votesB SV := by
  rw [show rdV = rdRow (fun b e => rdA b e zA) from funext fun b => funext fun e => rdV_eq b e]
  exact rdrRow (rdrA zA)
def SR (r : Rp) : Prop := I64 r.by_ ∧ I64 r.for_ ∧ I64 r.view ∧ r.value.length ≤ 6000 ∧ SV r.proof
theorem rdrR : Rdr rdR reportB SR where
  stick b e h := by
    simp only [rdR]
    exact rdrV.stick _ _ ((rdrT _).stick _ _ ((rdrN _).stick _ _ ((rdrF _).stick _ _ ((rdrN _).stick _ _ ((rdrN _).stick _ _ h)))))
  only0 b h := by
    simp only [rdR] at h ⊢
    obtain ⟨h5, s6, w6⟩ := rdrV.only (b := (r5 b 0).1) (e := (r5 b 0).2.1) h
    obtain ⟨h4, s5, w5⟩ := (rdrT []).only (b := (r4 b 0).1) (e := (r4 b 0).2.1) h5
    obtain ⟨h3, s4, w4⟩ := (rdrN 0).only (b := (r3 b 0).1) (e := (r3 b 0).2.1) h4
    obtain ⟨h2, s3, w3⟩ := (rdrF false).only (b := (r2 b 0).1) (e := (r2 b 0).2.1) h3
    obtain ⟨h1, s2, w2⟩ := (rdrN 0).only (b := (r1 b 0).1) (e := (r1 b 0).2.1) h2
    obtain ⟨_, s1, w1⟩ := (rdrN 0).only (b := b) (e := 0) h1
    refine ⟨⟨s1, s2, s4, s5, s6⟩, ?_⟩
    simp only [reportB, List.append_assoc]
    exact (congrArg _ ((congrArg _ ((congrArg _ ((congrArg _ ((congrArg _ w6).trans w5)).trans w4)).trans w3)).trans w2)).trans w1
  back v r h := by
    obtain ⟨h1, h2, h3, h4, h5⟩ := h
    have k1 := (rdrN 0).back v.by_ (encN (zig v.for_) ++ (encN (zig (if v.has then 1 else 0)) ++ (encN (zig v.view) ++ (encT v.value ++ (votesB v.proof ++ r))))) h1
    have k2 := (rdrN 0).back v.for_ (encN (zig (if v.has then 1 else 0)) ++ (encN (zig v.view) ++ (encT v.value ++ (votesB v.proof ++ r)))) h2
    have k3 := (rdrF false).back v.has (encN (zig v.view) ++ (encT v.value ++ (votesB v.proof ++ r))) trivial
    have k4 := (rdrN 0).back v.view (encT v.value ++ (votesB v.proof ++ r)) h3
    have k5 := (rdrT []).back v.value (votesB v.proof ++ r) h4
    have k6 := rdrV.back v.proof r h5
    simp only [rdR, r6, r5, r4, r3, r2, r1, reportB, List.append_assoc, k1, k2, k3, k4, k5, k6]
theorem rdRs_eq (b : Bytes) (e : Int) : ∀ n, rdRs n b e = rds rdR n b e
  | 0 => rfl
  | n + 1 => by rw [rdRs, rds, rdRs_eq b e n]
theorem rdC_eq (b : Bytes) (e : Int) : rdC b e = rdRow rdR b e := by
  unfold rdC rdRow
  rw [rdRs_eq]
def SC (l : List Rp) : Prop := l.length ≤ 30 ∧ ∀ a ∈ l, SR a
theorem rdrC : Rdr rdC rpsB SC := by
  rw [show rdC = rdRow rdR from funext fun b => funext fun e => rdC_eq b e]
  exact rdrRow rdrR
end Go.Proofs.Ytkamcoechjdgpaa
