/-
  The live question of layer 19 is answered true.
-/
import Derived.Test.YtgonmnjgodleeaaDoorPu
import Derived.Test.YtgonmnjgodleeaaDoorPc
import Derived.Test.YtgonmnjgodleeaaDoorPq
import Derived.Test.YtgonmnjgodleeaaDoorRr
namespace Go.Proofs.YtgonmnjgodleeaaDoor
open Go.RowKit
abbrev r19 : List Acc := [⟨0, 0, [97]⟩, ⟨2, 0, [97]⟩, ⟨3, 0, [97]⟩]
theorem text_spec : ASpec Tryd.prog 22 [votesA r19] (.str [48, 32, 48, 44, 50, 44, 51, 44, 32, 97]) := by
  refine ⟨⟨_, Tryd.func22, by kernel_rfl, rfl⟩, fun c vs hh hc ht => ?_⟩
  obtain ⟨h1, h2⟩ := ht
  obtain ⟨vs⟩ := vs
  match vs, h1 with
  | [v], _ =>
    have hv := h2 0 v _ rfl rfl
    obtain ⟨A, cap, xs, rfl, hl, hm, hf, _, hcc⟩ := hv.flat
    obtain ⟨b, o, rfl, hq⟩ := hcc (by simp)
    have key : ∀ (j : Nat) row (i : Nat) a, (r19.map accC)[j]? = some row → row[i]? = some a → ∃ u, c.im b (o + (j * 3 + i)) ∧ c.w.cell? ⟨b, o + (j * 3 + i), none⟩ = some u ∧ RV c u a := fun j row i a hj hi => by
      obtain ⟨_, u, g1, g2⟩ := hf.rv j row i a hj hi
      obtain ⟨w1, w2⟩ := hq _ u g1
      exact ⟨u, w1, w2, g2⟩
    obtain ⟨u0, i0, c0, r0⟩ := key 0 _ 0 _ rfl rfl
    obtain ⟨u1, _, c1, r1⟩ := key 0 _ 1 _ rfl rfl
    obtain ⟨u2, _, c2, r2⟩ := key 0 _ 2 _ rfl rfl
    obtain ⟨u3, _, c3, r3⟩ := key 1 _ 0 _ rfl rfl
    obtain ⟨u4, _, c4, r4⟩ := key 1 _ 1 _ rfl rfl
    obtain ⟨u5, _, c5, r5⟩ := key 1 _ 2 _ rfl rfl
    obtain ⟨u6, _, c6, r6⟩ := key 2 _ 0 _ rfl rfl
    obtain ⟨u7, _, c7, r7⟩ := key 2 _ 1 _ rfl rfl
    obtain ⟨u8, _, c8, r8⟩ := key 2 _ 2 _ rfl rfl
    have hs : ∀ {u : Value}, RV c u (.str [97]) → u = .string ⟨#[97]⟩ := fun {u} h => by
      cases h with
      | str s _ hs =>
        obtain ⟨s⟩ := s
        obtain ⟨s⟩ := s
        simp only at hs
        subst hs
        rfl
    cases r0; cases r1; cases r3; cases r4; cases r6; cases r7
    obtain rfl := hs r2; obtain rfl := hs r5; obtain rfl := hs r8
    refine (text_any c.w b o cap i0.1 (fun j v hv => ?_) hl hm).mono ?_
    · match j, hv with
      | 0, hv => cases hv; exact c0
      | 1, hv => cases hv; exact c1
      | 2, hv => cases hv; exact c2
      | 3, hv => cases hv; exact c3
      | 4, hv => cases hv; exact c4
      | 5, hv => cases hv; exact c5
      | 6, hv => cases hv; exact c6
      | 7, hv => cases hv; exact c7
      | 8, hv => cases hv; exact c8
      | j + 9, hv => simp [rowV] at hv
    · rintro e w' ⟨rfl, hb⟩
      obtain ⟨g1, g2⟩ := Below.ev hc hh hb
      exact ⟨_, _, _, _, rfl, g1, g2, .str _ _ rfl, .one (.refl _)⟩
set_option maxRecDepth 20000 in
set_option maxHeartbeats 4000000 in
theorem alive19_spec : ASpec Tryd.prog 10 [] (.bool true) := by
  have h1 := make19_spec ⟨1, 0⟩ r19 (by decide) (by decide) (best_spec r19 _ (by decide) (by decide))
  rw [show makeF ⟨1, 0⟩ r19 = some r19 from by decide] at h1
  have h2 := right19_spec ⟨1, 0⟩ r19 (by decide)
  rw [show rightP ⟨1, 0⟩ r19 = true from by decide] at h2
  have h3 := right19_spec ⟨1, 0⟩ [⟨0, 0, [97]⟩, ⟨2, 0, [97]⟩] (by decide)
  rw [show rightP ⟨1, 0⟩ [⟨0, 0, [97]⟩, ⟨2, 0, [97]⟩] = false from by decide] at h3
  have h4 := text_spec
  simp only [makeA, votesA, List.map_cons, List.map_nil, accC, encS] at h1 h2 h3 h4
  refine ⟨⟨_, Tryd.func10, by kernel_rfl, rfl⟩, ACall.of Tryd.func10 rfl fun c0 hc0 => ?_⟩; simp only [Tryd.ntmps10, List.length_nil, Nat.reduceSub, List.replicate_succ, List.replicate_zero, List.nil_append]; refine Run.god tab_ok follows_ok Tryd.func10 60 ?_; simp only [drun, aops, aone, aop, needs, ext, aev, aconst, aput, aupd, aload, astore, abuild, aelems, plains, tab_3, tab_9, tab_23, tab_24, tab_26, tab_35, ok1, lay, cellsAs, TI.agg, AV.cells, AV.whole, AV.plain, AV.bare, Option.getD_some, Option.bind_some, Option.map_some, List.set_cons_zero, List.set_cons_succ, List.length_cons, List.length_nil, List.getElem?_cons_zero, List.getElem?_cons_succ, List.drop_zero, List.drop_succ_cons, List.take_succ_cons, List.take_zero, List.take_nil, List.drop_nil, List.map_cons, List.map_nil, List.cons_append, List.nil_append, List.append_nil, List.all_cons, List.all_nil, List.replicate_succ, List.replicate_zero, true_and, and_true, if_true, if_false, Nat.reduceAdd, Nat.reduceLeDiff, Nat.reduceMul, Nat.reduceBEq, Nat.zero_add, Bool.and_self, Bool.and_false, Nat.reduceLT, Nat.reduceLeDiff, Nat.le_refl, List.getD_eq_getElem?_getD, Bool.false_eq_true]
  refine Ops.pure .free rfl rfl (h1) (by simp only [aev, Option.getD_some, List.getElem?_cons_zero, List.getElem?_cons_succ, List.map_cons, List.map_nil, List.nil_append, List.append_nil, List.getD_eq_getElem?_getD]; (repeat' (first | exact LeL.nil | exact Le1L.nil | exact Le.refl _ | exact Le1.refl _ | exact Le1.nil _ | exact Le1.tok _ _ _ | exact LeR.one (Le.refl _) | apply LeR.tup | apply LeL.cons | apply Le1L.cons | apply Le.agg | apply Le.one | apply LeR.one))) rfl rfl ?_
  refine Ops.god tab_ok follows_ok Tryd.func10 60 ?_; simp only [drun, adops, adone, places, mayNeed, freeOk, rdOf, AV.id, wrOf, aops, aone, aop, needs, ext, aev, aput, aupd, aload, tab_23, ok1, cellsAs, TI.agg, Option.getD_some, Option.bind_some, Option.map_some, List.set_cons_zero, List.set_cons_succ, List.length_cons, List.length_nil, List.getElem?_cons_zero, List.getElem?_cons_succ, List.drop_zero, List.take_succ_cons, List.take_nil, List.cons_append, List.nil_append, true_and, and_true, if_true, if_false, Nat.reduceAdd, Nat.zero_add, Nat.le_refl, List.getD_eq_getElem?_getD, Option.isSome_none, Bool.false_eq_true]
  ((repeat' (apply And.intro)) <;> try (first | rfl | omega | (unfold I64; omega)))
  refine DOps.pure rfl .free rfl rfl (h2) (by simp only [aev, Option.getD_some, List.getElem?_cons_zero, List.getElem?_cons_succ, List.map_cons, List.map_nil, List.nil_append, List.append_nil, List.getD_eq_getElem?_getD]; (repeat' (first | exact LeL.nil | exact Le1L.nil | exact Le.refl _ | exact Le1.refl _ | exact Le1.nil _ | exact Le1.tok _ _ _ | exact LeR.one (Le.refl _) | apply LeR.tup | apply LeL.cons | apply Le1L.cons | apply Le.agg | apply Le.one | apply LeR.one))) rfl rfl ?_
  refine DOps.god tab_ok follows_ok Tryd.func10 60 rfl ?_; simp only [Int.cast_ofNat_Int, ↓alts_t, ↓gdone_tt, gslot, adops, adone, mayNeed, freeOk, rdOf, wrOf, aop, needs, aev, aconst, aput, aupd, acmp, ashift, abin, alen, tab_3, tab_24, ok1, Option.getD_some, Option.bind_some, List.set_cons_zero, List.set_cons_succ, List.length_cons, List.length_nil, List.getElem?_cons_zero, List.getElem?_cons_succ, List.getElem?_toArray, List.cons_append, List.nil_append, true_and, and_true, if_true, if_false, Nat.reduceAdd, Nat.zero_add, decide_true, List.getD_eq_getElem?_getD, Bool.false_eq_true]
  ((repeat' (apply And.intro)) <;> try (first | rfl | omega | (unfold I64; omega)))
  refine DOps.pure rfl (Wanted.test 11 true true rfl) rfl rfl (h4) (by simp only [aev, Option.getD_some, List.getElem?_cons_zero, List.getElem?_cons_succ, List.map_cons, List.map_nil, List.nil_append, List.append_nil, List.getD_eq_getElem?_getD]; (repeat' (first | exact LeL.nil | exact Le1L.nil | exact Le.refl _ | exact Le1.refl _ | exact Le1.nil _ | exact Le1.tok _ _ _ | exact LeR.one (Le.refl _) | apply LeR.tup | apply LeL.cons | apply Le1L.cons | apply Le.agg | apply Le.one | apply LeR.one))) rfl rfl ?_
  refine DOps.god tab_ok follows_ok Tryd.func10 60 rfl ?_; simp only [Int.cast_ofNat_Int, Int.reduceToNat, ↓alts_t, ↓gdone_tt, gslot, Int.reduceLE, adops, adone, mayNeed, freeOk, rdOf, AV.id, wrOf, aop, needs, aev, aconst, aput, aupd, aload, abin, aslice, tab_9, tab_23, tab_24, tab_35, ok1, cellsAs, TI.agg, Option.getD_some, Option.bind_some, Option.map_some, Option.map_none, List.set_cons_zero, List.set_cons_succ, List.length_cons, List.length_nil, List.getElem?_cons_zero, List.getElem?_cons_succ, List.getElem?_toArray, List.drop_zero, List.take_succ_cons, List.take_zero, List.take_nil, List.cons_append, List.nil_append, true_and, and_true, if_true, if_false, Nat.reduceAdd, Nat.zero_add, decide_true, Nat.le_refl, List.getD_eq_getElem?_getD, Option.isSome_none, Bool.false_eq_true]
  ((repeat' (apply And.intro)) <;> try (first | rfl | omega | (unfold I64; omega)))
  refine DOps.pure rfl (Wanted.test 16 true true rfl) rfl rfl (h3) (by simp only [aev, Option.getD_some, List.getElem?_cons_zero, List.getElem?_cons_succ, List.map_cons, List.map_nil, List.nil_append, List.append_nil, List.getD_eq_getElem?_getD]; (repeat' (first | exact LeL.nil | exact Le1L.nil | exact Le.refl _ | exact Le1.refl _ | exact Le1.nil _ | exact Le1.tok _ _ _ | exact LeR.one (Le.refl _) | apply LeR.tup | apply LeL.cons | apply Le1L.cons | apply Le.agg | apply Le.one | apply LeR.one))) rfl rfl ?_
  refine DOps.god tab_ok follows_ok Tryd.func10 60 rfl ?_; simp only [Tryd.results10, ↓alts_t, ↓gdone_tt, gslot, drun, adops, adone, mayNeed, freeOk, rdOf, wrOf, afin, ares, aresL, ares1, aresOk, aresOk1, aop, needs, aev, aput, aupd, ok1, Option.getD_some, Option.bind_some, Option.map_some, List.set_cons_zero, List.set_cons_succ, List.getElem?_cons_zero, List.getElem?_cons_succ, List.getElem?_toArray, List.cons_append, List.nil_append, true_and, and_true, if_false, Nat.reduceAdd, Bool.not_false, List.getD_eq_getElem?_getD, Bool.false_eq_true]
  ((repeat' (apply And.intro)) <;> try (first | rfl | omega | (unfold I64; omega)))
  (repeat' (first | exact LeL.nil | exact Le1L.nil | exact Le.refl _ | exact Le1.refl _ | exact Le1.nil _ | exact Le1.tok _ _ _ | exact LeR.one (Le.refl _) | apply LeR.tup | apply LeL.cons | apply Le1L.cons | apply Le.agg | apply Le.one | apply LeR.one))
end Go.Proofs.YtgonmnjgodleeaaDoor
