/-
  Several texts in one: Iv, Ix.
-/
import Derived.Test.YtkamcoechjdgpaaMg
set_option maxRecDepth 20000
set_option maxHeartbeats 8000000
/-
  The document's Same of letters, told by its shadow; a letter as the document's.
-/
namespace Go.Proofs.Ytkamcoechjdgpaa
open Go.RowKit
theorem rsame18_spec (l m : List Acc) (hl : l.length ≤ 281474976710656) : ASpec Try.prog 62 [votesA l, votesA m] (.bool (decide (l = m))) := by
  by_cases hlm : l.length = m.length
  · have hlm' : (l.length : Int) = m.length := by omega
    refine ⟨⟨_, Try.func62, by kernel_rfl, rfl⟩, ACall.of Try.func62 rfl fun c0 hc0 => ?_⟩; simp only [Try.ntmps62, Ya, Y9, Nat.reduceAdd, Nat.reduceSub, Ym, Yn, Y5, Y3]; refine Run.god tab_ok follows_ok Try.func62 60 ?_; simp only [votesA, Yo, hlm', decide_true, ↓alt_f, drun, aops, aone, aop, needs, ext, aev, aconst, aput, aupd, acmp, ashift, abin, alen, tab_3, tab_78, ok1, Y4, Yb, Y6, Y7, Y1, Y2, Y3, Yt, Ys, Yr, Bool.not_true, Y0, Y8]
    refine Run.loopV (α := Nat) (fun k => k ≤ m.length ∧ decide (l = m) = decide (l.drop k = m.drop k)) (fun k => [(5, .int .i64 k)]) 0 (fun _ => []) (fun k => m.length - k) 0 ⟨Nat.zero_le _, rfl⟩ ?_ ?_
    · simp only [writes, junks, puts, hputs, List.filterMap_cons, List.filterMap_nil, Int.natCast_zero, Y6, Y7, Yk, Y5, Y3, Yd]
      (refine Weak.of (by simp [hc0]) ?_ ?_ <;> (repeat' first | exact .refl _ | exact .junk _ | exact .nil | exact .nil _ | exact .tok _ _ _ | rfl | apply WkT.cons | apply WkH.cons | apply LeB.same | apply LeB.box | apply Le1L.cons | apply Le.agg | apply Le.one))
    · rintro k ⟨hI, hrd⟩ ih
      simp only [writes, junks, puts, hputs, List.filterMap_cons, List.filterMap_nil, Y6, Y7, Yk, Y5, Y3, Yd] at ih ⊢
      by_cases hk : k < m.length
      · obtain ⟨x, hx⟩ : ∃ x, l[k]? = some x := ⟨_, List.getElem?_eq_getElem (by omega)⟩
        obtain ⟨y, hy⟩ : ∃ y, m[k]? = some y := ⟨_, List.getElem?_eq_getElem hk⟩
        have hkk : (k : Int) < m.length := by omega
        rw [dec_eq (drop_eqW hx hy)] at hrd
        have hd := acc_eq x y
        by_cases h1 : x.by_ = y.by_
        · by_cases h2 : x.view = y.view
          · by_cases h3 : x.value = y.value
            · have e : x = y := hd.2 ⟨h1, h2, h3⟩
              refine Run.god tab_ok follows_ok Try.func62 60 ?_; simp only [hx, hy, hkk, hlm', h1, h2, h3, accC, List.getElem?_map, Yo, decide_true, ↓alt_t, ↓alt_f, drun, adops, adone, places, mayNeed, freeOk, rdOf, AV.id, wrOf, aops, aone, aop, needs, ext, aev, aconst, aput, aupd, aload, aindexAddr, acmp, aarith, ashift, aeqs, abin, alen, tab_3, tab_77, tab_78, ok1, cellsAs, TI.agg, Y4, Yb, Yc, Y6, Y7, Ya, Y9, Y1, Y2, Yg, Yk, Y5, Y3, Yd, Yt, Yu, Ys, Yr, Nat.reduceAdd, Yp, Bool.true_and, Bool.not_true, Nat.reduceLT, Yv, Int.toNat_natCast, Y0, Y8]
              ((repeat' apply And.intro) <;> try first | rfl | omega | (unfold I64; omega))
              refine ih (k + 1) _ ⟨by omega, ?_⟩ (by omega) ?_
              · rw [hrd]; simp [e]
              · simp only [Int.natCast_add, Int.natCast_one]
                (refine Weak.of (by simp [hc0]) ?_ ?_ <;> (repeat' first | exact .refl _ | exact .junk _ | exact .nil | exact .nil _ | exact .tok _ _ _ | rfl | apply WkT.cons | apply WkH.cons | apply LeB.same | apply LeB.box | apply Le1L.cons | apply Le.agg | apply Le.one))
            · have e : ¬ x = y := fun e => h3 (hd.1 e).2.2
              refine Run.god tab_ok follows_ok Try.func62 60 ?_; simp only [Try.results62, hx, hy, hkk, hlm', h1, h2, h3, accC, List.getElem?_map, Yo, decide_true, decide_false, ↓alt_t, drun, adops, adone, places, mayNeed, freeOk, rdOf, AV.id, wrOf, aops, aone, afin, ares, aresL, ares1, aresOk, aresOk1, aop, needs, ext, aev, aconst, aput, aupd, aload, aindexAddr, acmp, ashift, aeqs, abin, alen, tab_3, tab_77, tab_78, ok1, cellsAs, TI.agg, Y4, Yb, Yc, Y6, Y7, Ya, Y9, Y1, Y2, Yg, Yk, Y5, Y3, Yd, Yt, Yu, Ys, Yr, Nat.reduceAdd, Yp, Bool.true_and, Bool.false_and, Bool.not_false, Nat.reduceLT, Yv, Int.toNat_natCast, Y0, Y8]
              ((repeat' apply And.intro) <;> try first | rfl | omega | (unfold I64; omega))
              rw [hrd, decide_eq_false (fun h => e h.1)]
              (repeat' first | exact .refl _ | apply LeR.tup | apply Le.agg | constructor)
          · have e : ¬ x = y := fun e => h2 (hd.1 e).2.1
            refine Run.god tab_ok follows_ok Try.func62 60 ?_; simp only [Try.results62, hx, hy, hkk, hlm', h1, h2, accC, List.getElem?_map, Yo, decide_true, decide_false, ↓alt_t, drun, adops, adone, places, mayNeed, freeOk, rdOf, AV.id, wrOf, aops, aone, afin, ares, aresL, ares1, aresOk, aresOk1, aop, needs, ext, aev, aconst, aput, aupd, aload, aindexAddr, acmp, ashift, aeqs, abin, alen, tab_3, tab_77, tab_78, ok1, cellsAs, TI.agg, Y4, Yb, Yc, Y6, Y7, Ya, Y9, Y1, Y2, Yg, Yk, Y5, Y3, Yd, Yt, Yu, Ys, Yr, Nat.reduceAdd, Yp, Bool.and_true, Bool.true_and, Bool.false_and, Bool.not_false, Nat.reduceLT, Yv, Int.toNat_natCast, Y0, Y8]
            ((repeat' apply And.intro) <;> try first | rfl | omega | (unfold I64; omega))
            rw [hrd, decide_eq_false (fun h => e h.1)]
            (repeat' first | exact .refl _ | apply LeR.tup | apply Le.agg | constructor)
        · have e : ¬ x = y := fun e => h1 (hd.1 e).1
          refine Run.god tab_ok follows_ok Try.func62 60 ?_; simp only [Try.results62, hx, hy, hkk, hlm', h1, accC, List.getElem?_map, Yo, decide_true, decide_false, ↓alt_t, drun, adops, adone, places, mayNeed, freeOk, rdOf, AV.id, wrOf, aops, aone, afin, ares, aresL, ares1, aresOk, aresOk1, aop, needs, ext, aev, aconst, aput, aupd, aload, aindexAddr, acmp, ashift, aeqs, abin, alen, tab_3, tab_77, tab_78, ok1, cellsAs, TI.agg, Y4, Yb, Yc, Y6, Y7, Ya, Y9, Y1, Y2, Yg, Yk, Y5, Y3, Yd, Yt, Yu, Ys, Yr, Nat.reduceAdd, Yp, Bool.and_true, Bool.false_and, Bool.not_false, Nat.reduceLT, Yv, Int.toNat_natCast, Y0, Y8]
          ((repeat' apply And.intro) <;> try first | rfl | omega | (unfold I64; omega))
          rw [hrd, decide_eq_false (fun h => e h.1)]
          (repeat' first | exact .refl _ | apply LeR.tup | apply Le.agg | constructor)
      · obtain rfl : k = m.length := by omega
        have hkk : ¬ (m.length : Int) < m.length := by omega
        refine Run.god tab_ok follows_ok Try.func62 60 ?_; simp only [Try.results62, hkk, hlm', Yo, ↓alt_f, drun, aops, aone, afin, ares, aresL, ares1, aresOk, aresOk1, aop, needs, ext, aev, aconst, aput, aupd, acmp, ashift, abin, alen, tab_3, tab_78, ok1, exitTo, Y4, Yb, Yc, Y6, Y7, Y1, Y2, Y3, Yt, Yu, Ys, Yr, beq_self_eq_true, decide_false, Y0, Y8]
        rw [hrd, decide_eq_true (by rw [List.drop_length, ← hlm, List.drop_length])]
        (repeat' first | exact .refl _ | apply LeR.tup | apply Le.agg | constructor)
  · have hlm' : ¬ (l.length : Int) = m.length := by omega
    have e : ¬ l = m := fun h => hlm (by rw [h])
    refine ⟨⟨_, Try.func62, by kernel_rfl, rfl⟩, ACall.of Try.func62 rfl fun c0 hc0 => ?_⟩; simp only [Try.ntmps62, Ya, Y9, Nat.reduceAdd, Nat.reduceSub, Ym, Yn, Y5, Y3]; refine Run.god tab_ok follows_ok Try.func62 60 ?_; simp only [Try.results62, votesA, Yo, hlm', decide_false, ↓alt_t, drun, aops, aone, afin, ares, aresL, ares1, aresOk, aresOk1, aop, needs, ext, aev, aconst, aput, aupd, acmp, ashift, abin, alen, tab_3, tab_78, ok1, Y4, Yb, Yc, Y6, Y7, Y1, Y2, Y3, Yt, Yu, Ys, Yr, Bool.not_false, Y0, Y8]
    rw [decide_eq_false e]
    (repeat' first | exact .refl _ | apply LeR.tup | apply Le.agg | constructor)
theorem rone_spec (r q : Rp) (hl : r.proof.length ≤ 281474976710656) : ASpec Try.prog 63 [encRp r, encRp q] (.bool (decide (r = q))) := by
  obtain ⟨b, f, h, v, x, p⟩ := r
  obtain ⟨b', f', h', v', x', p'⟩ := q
  have hs := rsame18_spec p p' hl
  refine ⟨⟨_, Try.func63, by kernel_rfl, rfl⟩, ACall.of Try.func63 rfl fun c0 hc0 => ?_⟩; simp only [Try.ntmps63, Ya, Y9, Nat.reduceAdd, Nat.reduceSub, Ym, Yn, Y5, Y3]; refine Run.god tab_ok follows_ok Try.func63 60 ?_; simp (config := { maxSteps := 2000000 }) +contextual only [Try.results63, encRp, rpC, votesA, Rp.mk.injEq, beq_iff_eq, beq_eq_false_iff_ne, ne_eq, ↓alts_t, ↓alts_f, alts, ↓gone_tt, ↓gone_tf, gslot, drun, aops, aone, afin, ares, aresL, ares1, aresOk, aresOk1, aop, needs, ext, aev, aconst, aput, aupd, aload, afieldAddr, acmp, ashift, abin, tab_3, tab_4, tab_9, tab_78, tab_80, ok1, cellsAs, TI.agg, AV.cells, AV.whole, Y4, Yb, Yc, Y6, Y7, Ya, Y9, Y1, Y2, Yw, Yi, Yh, Yg, Yj, Yk, Y5, Y3, Yt, Yu, Ys, Yr, Nat.reduceAdd, Nat.reduceLeDiff, Yp, Yq, beq_self_eq_true, decide_eq_true_eq, decide_eq_false_iff_not, decide_true, decide_false, Yv, Y0, Y8]
  (repeat' (first | (intro _) | (apply And.intro)))
  all_goals try (first | rfl | (repeat' first | exact .refl _ | exact .nil | exact .nil _ | exact .tok _ _ _ | apply LeR.tup | apply LeL.cons | apply Le1L.cons | apply Le.agg | apply Le.one | apply LeR.one))
  refine Ops.pure (Wanted.test 33 true true rfl) rfl rfl (hs) (by simp only [votesA, aev, Y4, Y1, Y2, Yf, Ye, Y3, Yd, Y0]; (repeat' first | exact .refl _ | apply LeR.tup | apply Le.agg | constructor)) rfl rfl ?_
  refine Ops.god tab_ok follows_ok Try.func63 60 ?_; simp only [Try.results63, drun, aops, aone, afin, ares, aresL, ares1, aresOk, aresOk1, aop, needs, ext, aev, aput, aupd, ok1, Y4, Yb, Yc, Y6, Y7, Y1, Y2, Y5, Y3, Yt, Yu, Yr, Y0, Y8]
  (repeat' first | exact .refl _ | apply LeR.tup | apply Le.agg | constructor)
theorem rsame20_spec (l m : List Rp) (hl : ∀ r ∈ l, r.proof.length ≤ 281474976710656) (hll : l.length ≤ 281474976710656) : ASpec Try.prog 61 [rpsA l, rpsA m] (.bool (decide (l = m))) := by
  by_cases hlm : l.length = m.length
  · have hlm' : (l.length : Int) = m.length := by omega
    refine ⟨⟨_, Try.func61, by kernel_rfl, rfl⟩, ACall.of Try.func61 rfl fun c0 hc0 => ?_⟩; simp only [Try.ntmps61, Ya, Y9, Nat.reduceAdd, Nat.reduceSub, Ym, Yn, Y5, Y3]; refine Run.god tab_ok follows_ok Try.func61 60 ?_; simp only [rpsA, Yo, hlm', decide_true, ↓alt_f, drun, aops, aone, aop, needs, ext, aev, aconst, aput, aupd, acmp, ashift, abin, alen, tab_3, tab_75, ok1, Y4, Yb, Y6, Y7, Y1, Y2, Y3, Yt, Ys, Yr, Bool.not_true, Y0, Y8]
    refine Run.loopV (α := Nat) (fun k => k ≤ m.length ∧ decide (l = m) = decide (l.drop k = m.drop k)) (fun k => [(5, .int .i64 k)]) 0 (fun _ => []) (fun k => m.length - k) 0 ⟨Nat.zero_le _, rfl⟩ ?_ ?_
    · simp only [writes, junks, puts, hputs, List.filterMap_cons, List.filterMap_nil, Int.natCast_zero, Y6, Y7, Yk, Y5, Y3, Yd]
      (refine Weak.of (by simp [hc0]) ?_ ?_ <;> (repeat' first | exact .refl _ | exact .junk _ | exact .nil | exact .nil _ | exact .tok _ _ _ | rfl | apply WkT.cons | apply WkH.cons | apply LeB.same | apply LeB.box | apply Le1L.cons | apply Le.agg | apply Le.one))
    · rintro k ⟨hI, hrd⟩ ih
      simp only [writes, junks, puts, hputs, List.filterMap_cons, List.filterMap_nil, Y6, Y7, Yk, Y5, Y3, Yd] at ih ⊢
      by_cases hk : k < m.length
      · obtain ⟨x, hx⟩ : ∃ x, l[k]? = some x := ⟨_, List.getElem?_eq_getElem (by omega)⟩
        obtain ⟨y, hy⟩ : ∃ y, m[k]? = some y := ⟨_, List.getElem?_eq_getElem hk⟩
        have hkk : (k : Int) < m.length := by omega
        rw [dec_eq (drop_eqW hx hy)] at hrd
        have hs := rone_spec x y (hl x (List.mem_of_getElem? hx))
        by_cases h1 : x = y
        · rw [decide_eq_true h1] at hs
          refine Run.god tab_ok follows_ok Try.func61 60 ?_; simp only [hx, hy, hkk, hlm', rpC, List.getElem?_map, Yo, ↓alt_t, drun, adops, adone, places, mayNeed, freeOk, rdOf, AV.id, wrOf, aops, aone, aop, needs, ext, aev, aput, aupd, aload, aindexAddr, acmp, ashift, abin, alen, tab_3, tab_75, tab_80, ok1, cellsAs, TI.agg, Y4, Yb, Yc, Y6, Y7, Ya, Y9, Y1, Y2, Yg, Yk, Y5, Y3, Yt, Yu, Ys, Yr, Nat.reduceAdd, Yp, decide_true, Nat.reduceLT, Yv, Int.toNat_natCast, Y0, Y8]
          ((repeat' apply And.intro) <;> try first | rfl | omega | (unfold I64; omega))
          refine DOps.pure rfl .free rfl rfl (hs) (by simp only [encRp, rpC, aev, Y4, Y1, Y2, Yf, Ye, Y3, Yd, Y0]; (repeat' first | exact .refl _ | apply LeR.tup | apply Le.agg | constructor)) rfl rfl ?_
          refine DOps.god tab_ok follows_ok Try.func61 60 rfl ?_; simp only [↓alt_f, drun, adops, adone, freeOk, rdOf, wrOf, aops, aone, aop, needs, ext, aev, aconst, aput, aupd, acmp, aarith, ashift, abin, tab_3, ok1, Y4, Yb, Y6, Y7, Y1, Y2, Y5, Y3, Yt, Yu, Ys, Yr, Yp, Bool.not_true, Y0, Y8]
          ((repeat' apply And.intro) <;> try first | rfl | omega | (unfold I64; omega))
          refine ih (k + 1) _ ⟨by omega, ?_⟩ (by omega) ?_
          · rw [hrd]; simp [h1]
          · simp only [Int.natCast_add, Int.natCast_one]
            (refine Weak.of (by simp [hc0]) ?_ ?_ <;> (repeat' first | exact .refl _ | exact .junk _ | exact .nil | exact .nil _ | exact .tok _ _ _ | rfl | apply WkT.cons | apply WkH.cons | apply LeB.same | apply LeB.box | apply Le1L.cons | apply Le.agg | apply Le.one))
        · rw [decide_eq_false h1] at hs
          refine Run.god tab_ok follows_ok Try.func61 60 ?_; simp only [hx, hy, hkk, hlm', rpC, List.getElem?_map, Yo, ↓alt_t, drun, adops, adone, places, mayNeed, freeOk, rdOf, AV.id, wrOf, aops, aone, aop, needs, ext, aev, aput, aupd, aload, aindexAddr, acmp, ashift, abin, alen, tab_3, tab_75, tab_80, ok1, cellsAs, TI.agg, Y4, Yb, Yc, Y6, Y7, Ya, Y9, Y1, Y2, Yg, Yk, Y5, Y3, Yt, Yu, Ys, Yr, Nat.reduceAdd, Yp, decide_true, Nat.reduceLT, Yv, Int.toNat_natCast, Y0, Y8]
          ((repeat' apply And.intro) <;> try first | rfl | omega | (unfold I64; omega))
          refine DOps.pure rfl .free rfl rfl (hs) (by simp only [encRp, rpC, aev, Y4, Y1, Y2, Yf, Ye, Y3, Yd, Y0]; (repeat' first | exact .refl _ | apply LeR.tup | apply Le.agg | constructor)) rfl rfl ?_
          refine DOps.god tab_ok follows_ok Try.func61 60 rfl ?_; simp only [Try.results61, ↓alt_t, drun, adops, adone, freeOk, rdOf, wrOf, aops, aone, afin, ares, aresL, ares1, aresOk, aresOk1, aop, needs, ext, aev, aconst, aput, aupd, ok1, Y4, Yb, Yc, Y6, Y7, Y1, Y2, Y5, Y3, Yt, Yu, Yr, Yp, Bool.not_false, Y0, Y8]
          rw [hrd, decide_eq_false (fun h => h1 h.1)]
          ((repeat' apply And.intro) <;> try first | rfl | omega | (unfold I64; omega))
          (repeat' first | exact .refl _ | apply LeR.tup | apply Le.agg | constructor)
      · obtain rfl : k = m.length := by omega
        have hkk : ¬ (m.length : Int) < m.length := by omega
        refine Run.god tab_ok follows_ok Try.func61 60 ?_; simp only [Try.results61, hkk, hlm', Yo, ↓alt_f, drun, aops, aone, afin, ares, aresL, ares1, aresOk, aresOk1, aop, needs, ext, aev, aconst, aput, aupd, acmp, ashift, abin, alen, tab_3, tab_75, ok1, exitTo, Y4, Yb, Yc, Y6, Y7, Y1, Y2, Y3, Yt, Yu, Ys, Yr, beq_self_eq_true, decide_false, Y0, Y8]
        rw [hrd, decide_eq_true (by rw [List.drop_length, ← hlm, List.drop_length])]
        (repeat' first | exact .refl _ | apply LeR.tup | apply Le.agg | constructor)
  · have hlm' : ¬ (l.length : Int) = m.length := by omega
    have e : ¬ l = m := fun h => hlm (by rw [h])
    refine ⟨⟨_, Try.func61, by kernel_rfl, rfl⟩, ACall.of Try.func61 rfl fun c0 hc0 => ?_⟩; simp only [Try.ntmps61, Ya, Y9, Nat.reduceAdd, Nat.reduceSub, Ym, Yn, Y5, Y3]; refine Run.god tab_ok follows_ok Try.func61 60 ?_; simp only [Try.results61, rpsA, Yo, hlm', decide_false, ↓alt_t, drun, aops, aone, afin, ares, aresL, ares1, aresOk, aresOk1, aop, needs, ext, aev, aconst, aput, aupd, acmp, ashift, abin, alen, tab_3, tab_75, ok1, Y4, Yb, Yc, Y6, Y7, Y1, Y2, Y3, Yt, Yu, Ys, Yr, Bool.not_false, Y0, Y8]
    rw [decide_eq_false e]
    (repeat' first | exact .refl _ | apply LeR.tup | apply Le.agg | constructor)
theorem Ltr.eq2 {l m : Ltr} (h1 : l.kind = m.kind) (h2 : l.frm = m.frm) (h3 : l.slot = m.slot) (h4 : l.view = m.view) (h5 : l.value = m.value) (h6 : l.vote = m.vote) (h7 : l.sum = m.sum) (h8 : l.o = m.o) : decide (l = m) = (decide (l.cert = m.cert) && decide (l.proof = m.proof) && decide (l.r = m.r) && decide (l.x = m.x)) := by
  obtain ⟨⟩ := l
  obtain ⟨⟩ := m
  simp only at *
  subst h1 h2 h3 h4 h5 h6 h7 h8
  simp only [Ltr.mk.injEq, Yt]
  simp only [Bool.decide_and, Bool.and_assoc]
theorem rsame27_spec (l m : Ltr) (hl : l.sum.length = 32) (hm : m.sum.length = 32) (hc : ∀ r ∈ l.cert ++ [l.r], r.proof.length ≤ 281474976710656) (hcl : l.cert.length ≤ 140737488355328) (hp : l.proof.length ≤ 281474976710656) (hx : l.x.l.length ≤ 281474976710656) : ASpec Try.prog 32 [.agg (letC l), .agg (letC m)] (.bool (decide (l = m))) := by
  have x16 := let_16 l hl
  have x48 := let_48 l hl
  have x56 := let_56 l hl
  have xlen := let_len l hl
  have y16 := let_16 m hm
  have y48 := let_48 m hm
  have y56 := let_56 m hm
  have ylen := let_len m hm
  have hV := accV_eq l.vote m.vote
  have hO := ordV_eq l.o m.o
  have hS := sumV_eq l.sum m.sum hl hm
  have s1 := rsame20_spec l.cert m.cert (fun r hr => hc r (List.mem_append_left _ hr)) (by omega)
  have s2 := rsame18_spec l.proof m.proof hp
  have s3 := rone_spec l.r m.r (hc l.r (by simp))
  have s4 := rsame12_spec l.x m.x hx
  by_cases h1 : l.kind = m.kind
  case neg =>
    rw [Ltr.ne fun e => h1 e.1]
    refine ⟨⟨_, Try.func32, by kernel_rfl, rfl⟩, ACall.of Try.func32 rfl fun c0 hc0 => ?_⟩; simp only [Try.ntmps32, Ya, Y9, Nat.reduceAdd, Nat.reduceSub, Ym, Yn, Y5, Y3]; refine Run.god tab_ok follows_ok Try.func32 60 ?_; simp only [Try.results32, let_0, xlen, ylen, decide_false, h1, ↓alts_f, ↓gone_tf, gslot, drun, aops, aone, afin, ares, aresL, ares1, aresOk, aresOk1, aop, needs, ext, aev, aconst, aput, aupd, aload, afieldAddr, acmp, ashift, abin, tab_3, tab_92, ok1, cellsAs, TI.agg, AV.cells, AV.whole, Y4, Yb, Yc, Y6, Y7, Ya, Y9, Y1, Y2, Yw, Yi, Y5, Y3, Yt, Yu, Ys, Yr, Nat.reduceLeDiff, Yp, Yq, Y0, Y8]
    ((repeat' apply And.intro) <;> try first | rfl | omega | (unfold I64; omega))
    all_goals (repeat' first | exact .refl _ | apply LeR.tup | apply Le.agg | constructor)
  by_cases h2 : l.frm = m.frm
  case neg =>
    rw [Ltr.ne fun e => h2 e.2.1]
    refine ⟨⟨_, Try.func32, by kernel_rfl, rfl⟩, ACall.of Try.func32 rfl fun c0 hc0 => ?_⟩; simp only [Try.ntmps32, Ya, Y9, Nat.reduceAdd, Nat.reduceSub, Ym, Yn, Y5, Y3]; refine Run.god tab_ok follows_ok Try.func32 60 ?_; simp only [Try.results32, let_0, let_1, xlen, ylen, decide_true, decide_false, h1, h2, ↓alts_t, ↓alts_f, ↓gone_tt, ↓gone_tf, gslot, drun, aops, aone, afin, ares, aresL, ares1, aresOk, aresOk1, aop, needs, ext, aev, aconst, aput, aupd, aload, afieldAddr, acmp, ashift, abin, tab_3, tab_92, ok1, cellsAs, TI.agg, AV.cells, AV.whole, Y4, Yb, Yc, Y6, Y7, Ya, Y9, Y1, Y2, Yw, Yi, Y5, Y3, Yt, Yu, Ys, Yr, Nat.reduceAdd, Nat.reduceLeDiff, Yp, Yq, Y0, Y8]
    ((repeat' apply And.intro) <;> try first | rfl | omega | (unfold I64; omega))
    all_goals (repeat' first | exact .refl _ | apply LeR.tup | apply Le.agg | constructor)
  by_cases h3 : l.slot = m.slot
  case neg =>
    rw [Ltr.ne fun e => h3 e.2.2.1]
    refine ⟨⟨_, Try.func32, by kernel_rfl, rfl⟩, ACall.of Try.func32 rfl fun c0 hc0 => ?_⟩; simp only [Try.ntmps32, Ya, Y9, Nat.reduceAdd, Nat.reduceSub, Ym, Yn, Y5, Y3]; refine Run.god tab_ok follows_ok Try.func32 60 ?_; simp only [Try.results32, let_0, let_1, let_2, xlen, ylen, decide_true, decide_false, h1, h2, h3, ↓alts_t, ↓alts_f, ↓gone_tt, ↓gone_tf, gslot, drun, aops, aone, afin, ares, aresL, ares1, aresOk, aresOk1, aop, needs, ext, aev, aconst, aput, aupd, aload, afieldAddr, acmp, ashift, abin, tab_3, tab_92, ok1, cellsAs, TI.agg, AV.cells, AV.whole, Y4, Yb, Yc, Y6, Y7, Ya, Y9, Y1, Y2, Yw, Yi, Y5, Y3, Yt, Yu, Ys, Yr, Nat.reduceAdd, Nat.reduceLeDiff, Yp, Yq, Y0, Y8]
    ((repeat' apply And.intro) <;> try first | rfl | omega | (unfold I64; omega))
    all_goals (repeat' first | exact .refl _ | apply LeR.tup | apply Le.agg | constructor)
  by_cases h4 : l.view = m.view
  case neg =>
    rw [Ltr.ne fun e => h4 e.2.2.2.1]
    refine ⟨⟨_, Try.func32, by kernel_rfl, rfl⟩, ACall.of Try.func32 rfl fun c0 hc0 => ?_⟩; simp only [Try.ntmps32, Ya, Y9, Nat.reduceAdd, Nat.reduceSub, Ym, Yn, Y5, Y3]; refine Run.god tab_ok follows_ok Try.func32 60 ?_; simp only [Try.results32, let_0, let_1, let_2, let_3, xlen, ylen, decide_true, decide_false, h1, h2, h3, h4, ↓alts_t, ↓alts_f, ↓gone_tt, ↓gone_tf, gslot, drun, aops, aone, afin, ares, aresL, ares1, aresOk, aresOk1, aop, needs, ext, aev, aconst, aput, aupd, aload, afieldAddr, acmp, ashift, abin, tab_3, tab_92, ok1, cellsAs, TI.agg, AV.cells, AV.whole, Y4, Yb, Yc, Y6, Y7, Ya, Y9, Y1, Y2, Yw, Yi, Y5, Y3, Yt, Yu, Ys, Yr, Nat.reduceAdd, Nat.reduceLeDiff, Yp, Yq, Y0, Y8]
    ((repeat' apply And.intro) <;> try first | rfl | omega | (unfold I64; omega))
    all_goals (repeat' first | exact .refl _ | apply LeR.tup | apply Le.agg | constructor)
  by_cases h5 : l.value = m.value
  case neg =>
    rw [Ltr.ne fun e => h5 e.2.2.2.2.1]
    refine ⟨⟨_, Try.func32, by kernel_rfl, rfl⟩, ACall.of Try.func32 rfl fun c0 hc0 => ?_⟩; simp only [Try.ntmps32, Ya, Y9, Nat.reduceAdd, Nat.reduceSub, Ym, Yn, Y5, Y3]; refine Run.god tab_ok follows_ok Try.func32 60 ?_; simp only [Try.results32, let_0, let_1, let_2, let_3, let_4, xlen, ylen, decide_true, decide_false, h1, h2, h3, h4, h5, ↓alts_t, ↓alts_f, ↓gone_tt, ↓gone_tf, gslot, drun, aops, aone, afin, ares, aresL, ares1, aresOk, aresOk1, aop, needs, ext, aev, aconst, aput, aupd, aload, afieldAddr, acmp, ashift, abin, tab_3, tab_9, tab_92, ok1, cellsAs, TI.agg, AV.cells, AV.whole, Y4, Yb, Yc, Y6, Y7, Ya, Y9, Y1, Y2, Yw, Yi, Y5, Y3, Yt, Yu, Ys, Yr, Nat.reduceAdd, Nat.reduceLeDiff, Yp, Yq, Y0, Y8]
    ((repeat' apply And.intro) <;> try first | rfl | omega | (unfold I64; omega))
    all_goals (repeat' first | exact .refl _ | apply LeR.tup | apply Le.agg | constructor)
  by_cases h6 : l.vote = m.vote
  case neg =>
    rw [Ltr.ne fun e => h6 e.2.2.2.2.2.1]
    refine ⟨⟨_, Try.func32, by kernel_rfl, rfl⟩, ACall.of Try.func32 rfl fun c0 hc0 => ?_⟩; simp only [Try.ntmps32, Ya, Y9, Nat.reduceAdd, Nat.reduceSub, Ym, Yn, Y5, Y3]; refine Run.god tab_ok follows_ok Try.func32 60 ?_; simp only [Try.results32, let_0, let_1, let_2, let_3, let_4, let_6, xlen, ylen, hV, decide_true, decide_false, h1, h2, h3, h4, h5, h6, ↓alts_t, ↓alts_f, ↓gone_tt, ↓gone_tf, gslot, drun, aops, aone, afin, ares, aresL, ares1, aresOk, aresOk1, aop, needs, ext, aev, aconst, aput, aupd, aload, afieldAddr, acmp, ashift, abin, tab_3, tab_9, tab_77, tab_92, ok1, cellsAs, TI.agg, AV.cells, AV.whole, Y4, Yb, Yc, Y6, Y7, Ya, Y9, Y1, Y2, Yw, Yi, Y5, Y3, Yt, Yu, Ys, Yr, Nat.reduceAdd, Nat.reduceLeDiff, Yp, Yq, Y0, Y8]
    ((repeat' apply And.intro) <;> try first | rfl | omega | (unfold I64; omega))
    all_goals (repeat' first | exact .refl _ | apply LeR.tup | apply Le.agg | constructor)
  rw [h6] at hV
  by_cases h7 : l.sum = m.sum
  case neg =>
    rw [Ltr.ne fun e => h7 e.2.2.2.2.2.2.1]
    refine ⟨⟨_, Try.func32, by kernel_rfl, rfl⟩, ACall.of Try.func32 rfl fun c0 hc0 => ?_⟩; simp only [Try.ntmps32, Ya, Y9, Nat.reduceAdd, Nat.reduceSub, Ym, Yn, Y5, Y3]; refine Run.god tab_ok follows_ok Try.func32 60 ?_; simp only [Try.results32, let_0, let_1, let_2, let_3, let_4, let_6, x16, y16, xlen, ylen, hV, hS, decide_true, decide_false, h1, h2, h3, h4, h5, h6, h7, ↓alts_t, ↓alts_f, ↓gone_tt, ↓gone_tf, gslot, drun, aops, aone, afin, ares, aresL, ares1, aresOk, aresOk1, aop, needs, ext, aev, aconst, aput, aupd, aload, afieldAddr, acmp, ashift, abin, tab_3, tab_9, tab_77, tab_81, tab_92, ok1, cellsAs, TI.agg, AV.cells, AV.whole, Y4, Yb, Yc, Y6, Y7, Ya, Y9, Y1, Y2, Yw, Yi, Y5, Y3, Yt, Yu, Ys, Yr, Nat.reduceAdd, Nat.reduceLeDiff, Yp, Yq, Y0, Y8]
    ((repeat' apply And.intro) <;> try first | rfl | omega | (unfold I64; omega))
    all_goals (repeat' first | exact .refl _ | apply LeR.tup | apply Le.agg | constructor)
  rw [h7] at hS
  by_cases h8 : l.o = m.o
  case neg =>
    rw [Ltr.ne fun e => h8 e.2.2.2.2.2.2.2.1]
    refine ⟨⟨_, Try.func32, by kernel_rfl, rfl⟩, ACall.of Try.func32 rfl fun c0 hc0 => ?_⟩; simp only [Try.ntmps32, Ya, Y9, Nat.reduceAdd, Nat.reduceSub, Ym, Yn, Y5, Y3]; refine Run.god tab_ok follows_ok Try.func32 60 ?_; simp only [Try.results32, let_0, let_1, let_2, let_3, let_4, let_6, x16, x48, y16, y48, xlen, ylen, hV, hO, hS, decide_true, decide_false, h1, h2, h3, h4, h5, h6, h7, h8, ↓alts_t, ↓alts_f, ↓gone_tt, ↓gone_tf, gslot, drun, aops, aone, afin, ares, aresL, ares1, aresOk, aresOk1, aop, needs, ext, aev, aconst, aput, aupd, aload, afieldAddr, acmp, ashift, abin, tab_3, tab_9, tab_59, tab_77, tab_81, tab_92, ok1, cellsAs, TI.agg, AV.cells, AV.whole, Y4, Yb, Yc, Y6, Y7, Ya, Y9, Y1, Y2, Yw, Yi, Y5, Y3, Yt, Yu, Ys, Yr, Nat.reduceAdd, Nat.reduceLeDiff, Yp, Yq, Y0, Y8]
    ((repeat' apply And.intro) <;> try first | rfl | omega | (unfold I64; omega))
    all_goals (repeat' first | exact .refl _ | apply LeR.tup | apply Le.agg | constructor)
  rw [h8] at hO
  rw [Ltr.eq2 h1 h2 h3 h4 h5 h6 h7 h8]
  refine ⟨⟨_, Try.func32, by kernel_rfl, rfl⟩, ACall.of Try.func32 rfl fun c0 hc0 => ?_⟩; simp only [Try.ntmps32, Ya, Y9, Nat.reduceAdd, Nat.reduceSub, Ym, Yn, Y5, Y3]; refine Run.god tab_ok follows_ok Try.func32 60 ?_; simp only [let_0, let_1, let_2, let_3, let_4, let_5, let_6, x16, x48, y16, y48, xlen, ylen, hV, hO, hS, decide_true, h1, h2, h3, h4, h5, h6, h7, h8, ↓alts_t, ↓gone_tt, gslot, drun, aops, aone, aop, needs, ext, aev, aconst, aput, aupd, aload, afieldAddr, acmp, ashift, abin, tab_3, tab_9, tab_59, tab_75, tab_77, tab_81, tab_92, ok1, cellsAs, TI.agg, AV.cells, AV.whole, Y4, Yb, Yc, Y6, Y7, Ya, Y9, Y1, Y2, Yw, Yi, Y5, Y3, Yt, Ys, Yr, Nat.reduceAdd, Nat.reduceLeDiff, Yp, Yq, Y0, Y8]
  ((repeat' apply And.intro) <;> try first | rfl | omega | (unfold I64; omega))
  by_cases k1 : l.cert = m.cert
  case neg =>
    rw [decide_eq_false k1] at s1 ⊢
    refine Ops.pure (Wanted.test 1 true true rfl) rfl rfl (s1) (by simp only [rpsA, aev, Y4, Y1, Y2, Yf, Ye, Y3, Yd, Y0]; (repeat' first | exact .refl _ | apply LeR.tup | apply Le.agg | constructor)) rfl rfl ?_
    refine Ops.god tab_ok follows_ok Try.func32 60 ?_; simp only [Try.results32, ↓alts_f, ↓gone_tf, gslot, drun, aops, aone, afin, ares, aresL, ares1, aresOk, aresOk1, aop, needs, ext, aev, aconst, aput, aupd, ok1, Y4, Yb, Yc, Y6, Y7, Y1, Y2, Yw, Y5, Y3, Yt, Yu, Yr, Bool.false_and, Y0, Y8]
    ((repeat' apply And.intro) <;> try first | rfl | omega | (unfold I64; omega))
    all_goals (repeat' first | exact .refl _ | apply LeR.tup | apply Le.agg | constructor)
  rw [decide_eq_true k1] at s1 ⊢
  refine Ops.pure (Wanted.test 1 true true rfl) rfl rfl (s1) (by simp only [rpsA, aev, Y4, Y1, Y2, Yf, Ye, Y3, Yd, Y0]; (repeat' first | exact .refl _ | apply LeR.tup | apply Le.agg | constructor)) rfl rfl ?_
  refine Ops.god tab_ok follows_ok Try.func32 60 ?_; simp only [let_9, xlen, ylen, ↓alts_t, ↓gone_tt, gslot, aops, aone, aop, needs, ext, aev, aput, aupd, aload, afieldAddr, tab_78, tab_92, ok1, cellsAs, TI.agg, Y4, Yb, Yc, Y6, Y7, Y1, Y2, Yw, Y5, Y3, Yt, Yr, Nat.reduceAdd, Nat.reduceLeDiff, Yp, Bool.true_and, Y0, Y8]
  ((repeat' apply And.intro) <;> try first | rfl | omega | (unfold I64; omega))
  by_cases k2 : l.proof = m.proof
  case neg =>
    rw [decide_eq_false k2] at s2 ⊢
    refine Ops.pure (Wanted.test 8 true true rfl) rfl rfl (s2) (by simp only [votesA, aev, Y4, Y1, Y2, Yf, Ye, Y3, Yd, Y0]; (repeat' first | exact .refl _ | apply LeR.tup | apply Le.agg | constructor)) rfl rfl ?_
    refine Ops.god tab_ok follows_ok Try.func32 60 ?_; simp only [Try.results32, ↓alts_f, ↓gone_tf, gslot, drun, aops, aone, afin, ares, aresL, ares1, aresOk, aresOk1, aop, needs, ext, aev, aconst, aput, aupd, ok1, Y4, Yb, Yc, Y6, Y7, Y1, Y2, Yw, Y5, Y3, Yt, Yu, Yr, Bool.false_and, Y0, Y8]
    ((repeat' apply And.intro) <;> try first | rfl | omega | (unfold I64; omega))
    all_goals (repeat' first | exact .refl _ | apply LeR.tup | apply Le.agg | constructor)
  rw [decide_eq_true k2] at s2 ⊢
  refine Ops.pure (Wanted.test 8 true true rfl) rfl rfl (s2) (by simp only [votesA, aev, Y4, Y1, Y2, Yf, Ye, Y3, Yd, Y0]; (repeat' first | exact .refl _ | apply LeR.tup | apply Le.agg | constructor)) rfl rfl ?_
  refine Ops.god tab_ok follows_ok Try.func32 60 ?_; simp only [let_10, xlen, ylen, ↓alts_t, ↓gone_tt, gslot, aops, aone, aop, needs, ext, aev, aput, aupd, aload, afieldAddr, tab_80, tab_92, ok1, cellsAs, TI.agg, Y4, Yb, Yc, Y6, Y7, Y1, Y2, Yw, Y5, Y3, Yt, Ys, Yr, Nat.reduceAdd, Nat.reduceLeDiff, Yp, Bool.true_and, Y0, Y8]
  ((repeat' apply And.intro) <;> try first | rfl | omega | (unfold I64; omega))
  by_cases k3 : l.r = m.r
  case neg =>
    rw [decide_eq_false k3] at s3 ⊢
    refine Ops.pure (Wanted.test 15 true true rfl) rfl rfl (s3) (by simp only [encRp, rpC, votesA, aev, Y4, Y1, Y2, Yf, Ye, Y3, Yd, Y0]; (repeat' first | exact .refl _ | apply LeR.tup | apply Le.agg | constructor)) rfl rfl ?_
    refine Ops.god tab_ok follows_ok Try.func32 60 ?_; simp only [Try.results32, ↓alts_f, ↓gone_tf, gslot, drun, aops, aone, afin, ares, aresL, ares1, aresOk, aresOk1, aop, needs, ext, aev, aconst, aput, aupd, ok1, Y4, Yb, Yc, Y6, Y7, Y1, Y2, Yw, Y5, Y3, Yt, Yu, Yr, Bool.false_and, Y0, Y8]
    ((repeat' apply And.intro) <;> try first | rfl | omega | (unfold I64; omega))
    all_goals (repeat' first | exact .refl _ | apply LeR.tup | apply Le.agg | constructor)
  rw [decide_eq_true k3] at s3 ⊢
  refine Ops.pure (Wanted.test 15 true true rfl) rfl rfl (s3) (by simp only [encRp, rpC, votesA, aev, Y4, Y1, Y2, Yf, Ye, Y3, Yd, Y0]; (repeat' first | exact .refl _ | apply LeR.tup | apply Le.agg | constructor)) rfl rfl ?_
  refine Ops.god tab_ok follows_ok Try.func32 60 ?_; simp only [x56, y56, xlen, ylen, ↓alts_t, ↓gone_tt, gslot, aops, aone, aop, needs, ext, aev, aput, aupd, aload, afieldAddr, tab_51, tab_92, ok1, cellsAs, TI.agg, Y4, Yb, Yc, Y6, Y7, Y1, Y2, Yw, Y5, Y3, Yt, Ys, Yr, Nat.reduceAdd, Yp, Bool.true_and, Yv, Y0, Y8]
  ((repeat' apply And.intro) <;> try first | rfl | omega | (unfold I64; omega))
  refine Ops.pure (Wanted.test 22 true true rfl) rfl rfl (s4) (by simp only [encR, rplC, textsA, aev, Y4, Y1, Y2, Yf, Ye, Y3, Yd, Y0]; (repeat' first | exact .refl _ | apply LeR.tup | apply Le.agg | constructor)) rfl rfl ?_
  refine Ops.god tab_ok follows_ok Try.func32 60 ?_; simp only [Try.results32, drun, aops, aone, afin, ares, aresL, ares1, aresOk, aresOk1, aop, needs, ext, aev, aput, aupd, ok1, Y4, Yb, Yc, Y6, Y7, Y1, Y2, Y5, Y3, Yt, Yu, Yr, Y0, Y8]
  ((repeat' apply And.intro) <;> try first | rfl | omega | (unfold I64; omega))
  all_goals (repeat' first | exact .refl _ | apply LeR.tup | apply Le.agg | constructor)
end Go.Proofs.Ytkamcoechjdgpaa
/-
  A letter as the document's.
-/
namespace Go.Proofs.Ytkamcoechjdgpaa
open Go.RowKit
theorem list32 : ∀ s : Bytes, s.length = 32 → ∃ b0 b1 b2 b3 b4 b5 b6 b7 b8 b9 b10 b11 b12 b13 b14 b15 b16 b17 b18 b19 b20 b21 b22 b23 b24 b25 b26 b27 b28 b29 b30 b31 : UInt8, s = [b0, b1, b2, b3, b4, b5, b6, b7, b8, b9, b10, b11, b12, b13, b14, b15, b16, b17, b18, b19, b20, b21, b22, b23, b24, b25, b26, b27, b28, b29, b30, b31]
  | [b0, b1, b2, b3, b4, b5, b6, b7, b8, b9, b10, b11, b12, b13, b14, b15, b16, b17, b18, b19, b20, b21, b22, b23, b24, b25, b26, b27, b28, b29, b30, b31], _ => ⟨b0, b1, b2, b3, b4, b5, b6, b7, b8, b9, b10, b11, b12, b13, b14, b15, b16, b17, b18, b19, b20, b21, b22, b23, b24, b25, b26, b27, b28, b29, b30, b31, rfl⟩
theorem plain27_spec (l : Ltr) (hl : l.sum.length = 32) : ASpec Try.prog 33 [.agg (letC l)] (.agg (letC l)) := by
  obtain ⟨k, f, s, v, x, c, ⟨a1, a2, a3⟩, p, ⟨r1, r2, r3, r4, r5, r6⟩, m, ⟨o1, o2, o3, o4, o5, o6, o7, o8⟩, ⟨y1, y2, y3, y4, y5, y6⟩⟩ := l
  obtain ⟨b0, b1, b2, b3, b4, b5, b6, b7, b8, b9, b10, b11, b12, b13, b14, b15, b16, b17, b18, b19, b20, b21, b22, b23, b24, b25, b26, b27, b28, b29, b30, b31, rfl⟩ := list32 m hl
  refine ⟨⟨_, Try.func33, by kernel_rfl, rfl⟩, ACall.of Try.func33 rfl fun c0 hc0 => ?_⟩; simp only [Try.ntmps33, Ya, Y9, Nat.reduceAdd, Nat.reduceSub, Ym, Yn, Y5, Y3]; refine Run.god tab_ok follows_ok Try.func33 3 ?_; simp only [letC, letT, accC, rpC, ordC, rplC, sumC, rpsA, votesA, textsA, drun, aops, aone, aop, needs, ext, aev, aput, aupd, tab_92, AV.cells, AV.whole, Y4, Yc, Y6, Y7, Ya, Y9, Y1, Yf, Ye, Y5, Y3, Yt, Ys, Yp, Y0]
  refine Run.god tab_ok follows_ok Try.func33 1 ?_; simp only [drun, adops, adone, places, mayNeed, freeOk, rdOf, AV.id, wrOf, aop, needs, aev, aput, aupd, aload, astore, afieldAddr, tab_29, tab_43, tab_83, ok1, lay, cellsAs, TI.agg, AV.cells, AV.whole, Y4, Yb, Yc, Y6, Y7, Ya, Y9, Y1, Y2, Yi, Yh, Yg, Yj, Yk, Yl, Y5, Y3, Yd, Yt, Yu, Ys, Yr, Nat.reduceAdd, Nat.reduceLeDiff, Yp, Yv, Y0, Y8]
  ((repeat' apply And.intro) <;> try first | rfl | omega | (unfold I64; omega))
  refine Run.god tab_ok follows_ok Try.func33 2 ?_; simp only [drun, aops, aone, aop, needs, ext, aev, aconst, aput, aupd, aload, astore, afieldAddr, abuild, tab_3, tab_9, tab_75, tab_77, tab_78, tab_80, tab_81, tab_83, tab_92, ok1, lay, cellsAs, TI.agg, AV.cells, AV.whole, Y4, Yb, Yc, Y6, Y7, Ya, Y9, Y1, Y2, Yi, Yh, Yg, Yj, Yl, Yf, Ye, Y5, Y3, Yd, Yt, Yu, Ys, Yr, Nat.reduceAdd, Nat.reduceLeDiff, Yp, Yq, Yv, Y0, Y8]
  refine Run.god tab_ok follows_ok Try.func33 2 ?_; simp only [drun, aops, aone, aop, needs, ext, aev, aconst, aput, aupd, aload, astore, afieldAddr, abuild, tab_3, tab_9, tab_29, tab_59, tab_92, ok1, lay, cellsAs, TI.agg, AV.cells, AV.whole, Y4, Yb, Yc, Y6, Y7, Ya, Y9, Y1, Y2, Yi, Yh, Yg, Yj, Yk, Yl, Yf, Ye, Y5, Y3, Yd, Yt, Yu, Yr, Nat.reduceAdd, Nat.reduceLeDiff, Yp, Yq, Yv, Y0, Y8]
  refine Run.god tab_ok follows_ok Try.func33 2 ?_; simp only [drun, aops, aone, aop, needs, ext, aev, aconst, aput, aupd, aload, astore, afieldAddr, abuild, tab_3, tab_9, tab_34, tab_41, tab_43, tab_51, tab_92, ok1, lay, cellsAs, TI.agg, AV.cells, AV.whole, Y4, Yb, Yc, Y6, Y7, Ya, Y9, Y1, Y2, Yi, Yh, Yg, Yj, Yk, Yl, Yf, Ye, Y5, Y3, Yd, Yt, Yu, Yr, Nat.reduceAdd, Nat.reduceLeDiff, Yp, Yq, Yv, Y0, Y8]
  refine Run.god tab_ok follows_ok Try.func33 60 ?_; simp only [Try.results33, drun, aops, aone, afin, ares, aresL, ares1, aresOk, aresOk1, aop, needs, ext, aev, aput, aupd, aload, astore, tab_92, lay, cellsAs, TI.agg, AV.cells, AV.whole, Y4, Yb, Yc, Y6, Y7, Ya, Y9, Y1, Y2, Yi, Yh, Yg, Yj, Yk, Yl, Y5, Y3, Yd, Yt, Yu, Ys, Yr, Nat.reduceAdd, Yp, Yv, Y0, Y8]
  ((repeat' apply And.intro) <;> try first | rfl | omega | (unfold I64; omega))
  all_goals (repeat' first | exact .refl _ | apply LeR.tup | apply Le.agg | constructor)
end Go.Proofs.Ytkamcoechjdgpaa
