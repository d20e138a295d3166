/-
  What books come to, told by their shadows.
-/
import Derived.Test.YthboeilpeggpoaaLf
namespace Go.Proofs.Ythboeilpeggpoaa
open Go.RowKit
theorem only_one {l : List Ses} (hs : sortedS l) {id : Int} {x y : Ses} {j : Nat} (hx : l[atL l id]? = some x) (hxi : x.id = id) (hy : l[j]? = some y) (hj : j ≠ atL l id) : ¬ y.id = id := by
  unfold sortedS at hs
  rw [List.pairwise_iff_getElem] at hs
  obtain ⟨q1, rfl⟩ := List.getElem?_eq_some_iff.1 hx
  obtain ⟨q2, rfl⟩ := List.getElem?_eq_some_iff.1 hy
  rcases Nat.lt_or_ge j (atL l id) with h | h
  · have := hs _ _ q2 q1 h; omega
  · have := hs _ _ q1 q2 (by omega); omega
theorem strike_eq {l : List Ses} (hs : sortedS l) {id : Int} {x : Ses} (hx : l[atL l id]? = some x) (hxi : x.id = id) : l.take (atL l id) ++ l.drop (atL l id + 1) = l.filter fun x => !decide (x.id = id) := by
  have h1 : l = l.take (atL l id) ++ x :: l.drop (atL l id + 1) := by rw [← drop_at hx, List.take_append_drop]
  have h2 : (l.take (atL l id)).filter (fun x => !decide (x.id = id)) = l.take (atL l id) := by
    rw [List.filter_eq_self]
    intro y hy
    obtain ⟨j, hj⟩ := List.getElem?_of_mem hy
    rw [List.getElem?_take] at hj
    split at hj
    · rename_i hlt
      have := only_one hs hx hxi hj (by omega)
      simp [this]
    · cases hj
  have h3 : (l.drop (atL l id + 1)).filter (fun x => !decide (x.id = id)) = l.drop (atL l id + 1) := by
    rw [List.filter_eq_self]
    intro y hy
    obtain ⟨j, hj⟩ := List.getElem?_of_mem hy
    rw [List.getElem?_drop] at hj
    have := only_one hs hx hxi hj (by omega)
    simp [this]
  conv => rhs; rw [h1]
  rw [List.filter_append, h2, List.filter_cons, h3]
  simp [hxi]
theorem insert_spec (l : List Ses) (x : Ses) (i : Nat) (hi : i ≤ l.length) (hl : l.length ≤ 1000000) : ACall Try.prog 63 [.msu 0 3 l.length, .int .i64 i, .sl 3 [sesC x] .no] [.rows 3 (l.map sesC)] fun r _ => LeR r (.sl 3 ((l.take i ++ x :: l.drop i).map sesC) .no) := by
  rcases Nat.lt_or_ge i l.length with h | h
  · exact insert_grow l x i h hl
  · obtain rfl : i = l.length := by omega
    have := insert_end l x hl
    simpa using this
set_option maxRecDepth 20000 in
theorem insert_nil (x : Ses) : ACall Try.prog 63 [.sl 3 [] (.own 0), .int .i64 0, .sl 3 [sesC x] .no] [.tok 3 0] fun r _ => LeR r (.sl 3 [sesC x] .no) := by
  have h1 : ¬ (1 : Int) = 0 := by omega
  refine ACall.of Try.func63 rfl fun c1 hc1 => ?_; simp only [Try.ntmps63, List.length_cons, List.length_nil, Nat.reduceAdd, Nat.reduceSub, List.replicate_succ, List.replicate_zero, List.cons_append, List.nil_append]; refine Run.god tab_ok follows_ok Try.func63 60 ?_; simp only [Try.results63, h1, sesC, Option.isSome_none, Int.natCast_one, Bool.false_eq_true, eq_self, Int.natCast_zero, Int.toNat_zero, ↓alt_t, ↓alt_f, aappendM, Int.reduceLE, drun, aops, aone, afin, ares, aresL, ares1, aresOk, aresOk1, aop, needs, ext, aev, aconst, aput, aupd, acmp, ashift, abin, alen, aslice, asrc, aappend, tab_3, tab_53, tab_94, ok1, Option.getD_some, Option.bind_some, Option.map_some, Option.map_none, List.set_cons_zero, List.set_cons_succ, List.length_cons, List.length_nil, List.getElem?_cons_zero, List.getElem?_cons_succ, List.getElem?_toArray, List.drop_nil, List.cons_append, List.nil_append, true_and, and_true, if_true, if_false, Nat.reduceLeDiff, Nat.reduceMul, Nat.zero_add, decide_true, decide_false, Nat.reduceLeDiff, List.getD_eq_getElem?_getD]
  ((repeat' (apply And.intro)) <;> try (first | rfl | omega | (unfold I64; omega)))
  (repeat' (first | exact LeL.nil | exact Le1L.nil | exact Le.refl _ | exact Le1.refl _ | exact Le1.nil _ | exact Le1.tok _ _ _ | exact LeR.one (Le.refl _) | apply LeR.tup | apply LeL.cons | apply Le1L.cons | apply Le.agg | apply Le.one | apply LeR.one))
theorem bel_ses : ∀ l : List Ses, belLL 0 (l.map sesC) = true
  | [] => rfl
  | x :: l => by simp only [List.map_cons, belLL, belL, sesC, AV.bel, bel_ses l, Bool.and_self]
set_option maxRecDepth 20000 in
set_option maxHeartbeats 2000000 in
theorem close_spec (b : Bk) (id : Int) (hs : sortedS b.l) (hl : b.l.length ≤ 1000000) : ASpec Try.prog 48 [encB b, .int .i64 id] (openAV (closeB b id)) := by
  have hp := place_spec b id hs hl
  obtain ⟨n, l⟩ := b
  simp only at hs hl hp
  unfold closeB
  cases hL : hasL l id with
  | false =>
    rw [hL] at hp
    rw [if_neg (by simp)]
    refine ⟨⟨_, Try.func48, by kernel_rfl, rfl⟩, ACall.of Try.func48 rfl fun c0 hc0 => ?_⟩; simp only [Try.ntmps48, List.length_cons, List.length_nil, Nat.reduceAdd, Nat.reduceSub, List.replicate_succ, List.replicate_zero, List.cons_append, List.nil_append]; refine Run.god tab_ok follows_ok Try.func48 60 ?_; simp only [encB, sesA, eq_self, drun, aops, aone, aop, needs, ext, aev, aconst, aput, aupd, aload, tab_55, ok1, cellsAs, TI.agg, AV.cells, AV.whole, Option.getD_some, Option.bind_some, Option.map_some, List.set_cons_zero, List.set_cons_succ, List.length_cons, List.length_nil, List.getElem?_cons_zero, List.getElem?_cons_succ, List.drop_zero, List.take_succ_cons, List.take_nil, List.cons_append, List.nil_append, true_and, if_true, if_false, Nat.reduceAdd, Nat.zero_add, reduceCtorEq, Nat.le_refl, List.getD_eq_getElem?_getD]
    refine Ops.pure .free rfl rfl (hp) (by simp only [encB, sesA, aev, Option.getD_some, List.getElem?_cons_zero, List.getElem?_cons_succ, List.map_cons, List.map_nil, List.nil_append, List.append_nil, List.getD_eq_getElem?_getD]; (repeat' (first | exact LeL.nil | exact Le1L.nil | exact Le.refl _ | exact Le1.refl _ | exact Le1.nil _ | exact Le1.tok _ _ _ | exact LeR.one (Le.refl _) | apply LeR.tup | apply LeL.cons | apply Le1L.cons | apply Le.agg | apply Le.one | apply LeR.one))) rfl rfl ?_
    refine Ops.god tab_ok follows_ok Try.func48 60 ?_; simp only [Try.results48, eq_self, ↓alt_t, drun, aops, aone, afin, ares, aresL, ares1, aresOk, aresOk1, aop, needs, ext, aev, aconst, aput, aupd, aload, astore, tab_55, ok1, lay, cellsAs, TI.agg, AV.cells, AV.whole, Option.getD_some, Option.bind_some, Option.map_some, List.set_cons_zero, List.set_cons_succ, List.length_cons, List.length_nil, List.getElem?_cons_zero, List.getElem?_cons_succ, List.drop_zero, List.drop_succ_cons, List.take_succ_cons, List.take_zero, List.take_nil, List.drop_nil, List.cons_append, List.nil_append, List.append_nil, true_and, and_true, if_true, if_false, Nat.reduceAdd, Nat.zero_add, Bool.not_false, reduceCtorEq, Nat.le_refl, List.getD_eq_getElem?_getD]
    ((repeat' (apply And.intro)) <;> try (first | rfl | omega | (unfold I64; omega)))
    simp only [openAV, encB, sesA]
    (repeat' (first | exact LeL.nil | exact Le1L.nil | exact Le.refl _ | exact Le1.refl _ | exact Le1.nil _ | exact Le1.tok _ _ _ | exact LeR.one (Le.refl _) | apply LeR.tup | apply LeL.cons | apply Le1L.cons | apply Le.agg | apply Le.one | apply LeR.one))
  | true =>
    rw [hL] at hp
    rw [if_pos rfl]
    obtain ⟨x, hx, hxi⟩ := (has_at hs).1 hL
    have hi : atL l id < l.length := (List.getElem?_eq_some_iff.1 hx).1
    have hne : l ≠ [] := by rintro rfl; simp at hi
    have hcl := clone_spec l hne hl
    have hdl := delete_spec l (atL l id) hi hl
    have hres := strike_eq hs hx hxi
    rw [hres] at hdl
    have hll : (l.map sesC).length = l.length := by simp
    refine ⟨⟨_, Try.func48, by kernel_rfl, rfl⟩, ACall.of Try.func48 rfl fun c0 hc0 => ?_⟩; simp only [Try.ntmps48, List.length_cons, List.length_nil, Nat.reduceAdd, Nat.reduceSub, List.replicate_succ, List.replicate_zero, List.cons_append, List.nil_append]; refine Run.god tab_ok follows_ok Try.func48 60 ?_; simp only [encB, sesA, eq_self, drun, aops, aone, aop, needs, ext, aev, aconst, aput, aupd, aload, tab_55, ok1, cellsAs, TI.agg, AV.cells, AV.whole, Option.getD_some, Option.bind_some, Option.map_some, List.set_cons_zero, List.set_cons_succ, List.length_cons, List.length_nil, List.getElem?_cons_zero, List.getElem?_cons_succ, List.drop_zero, List.take_succ_cons, List.take_nil, List.cons_append, List.nil_append, true_and, if_true, if_false, Nat.reduceAdd, Nat.zero_add, reduceCtorEq, Nat.le_refl, List.getD_eq_getElem?_getD]
    refine Ops.pure .free rfl rfl (hp) (by simp only [encB, sesA, aev, Option.getD_some, List.getElem?_cons_zero, List.getElem?_cons_succ, List.map_cons, List.map_nil, List.nil_append, List.append_nil, List.getD_eq_getElem?_getD]; (repeat' (first | exact LeL.nil | exact Le1L.nil | exact Le.refl _ | exact Le1.refl _ | exact Le1.nil _ | exact Le1.tok _ _ _ | exact LeR.one (Le.refl _) | apply LeR.tup | apply LeL.cons | apply Le1L.cons | apply Le.agg | apply Le.one | apply LeR.one))) rfl rfl ?_
    refine Ops.god tab_ok follows_ok Try.func48 60 ?_; simp only [eq_self, ↓alt_f, drun, aops, aone, aop, needs, ext, aev, aput, aupd, aload, afieldAddr, tab_53, tab_55, ok1, cellsAs, TI.agg, Option.getD_some, Option.bind_some, Option.map_some, List.set_cons_zero, List.set_cons_succ, List.length_cons, List.length_nil, List.getElem?_cons_zero, List.getElem?_cons_succ, List.drop_zero, List.drop_succ_cons, List.take_succ_cons, List.take_nil, List.cons_append, List.nil_append, true_and, if_false, Nat.reduceAdd, Nat.zero_add, Bool.not_true, reduceCtorEq, Nat.le_refl, List.getD_eq_getElem?_getD]
    refine Ops.made .free rfl rfl hcl (by simp only [sesA, Option.getD_some, List.getElem?_cons_zero, List.getElem?_cons_succ, List.map_cons, List.map_nil, List.nil_append, List.append_nil, List.getD_eq_getElem?_getD, aev]; (repeat' (first | exact LeL.nil | exact Le1L.nil | exact Le.refl _ | exact Le1.refl _ | exact Le1.nil _ | exact Le1.tok _ _ _ | exact LeR.one (Le.refl _) | apply LeR.tup | apply LeL.cons | apply Le1L.cons | apply Le.agg | apply Le.one | apply LeR.one))) rfl (bel_ses l) ?_
    rw [hll]
    refine Ops.god tab_ok follows_ok Try.func48 60 ?_; simp only [eq_self, aops, aone, aop, needs, ext, aev, aconst, aput, aupd, acmp, aarith, ashift, abin, tab_3, ok1, Option.getD_some, Option.bind_some, List.set_cons_zero, List.set_cons_succ, List.length_cons, List.length_nil, List.getElem?_cons_zero, List.getElem?_cons_succ, List.cons_append, List.nil_append, true_and, if_true, if_false, Nat.reduceAdd, Nat.zero_add, reduceCtorEq, List.getD_eq_getElem?_getD]
    ((repeat' (apply And.intro)) <;> try (first | rfl | omega | (unfold I64; omega)))
    refine Ops.lent .free rfl rfl ⟨_, Try.func66, by kernel_rfl, rfl⟩ (i := 2) rfl (.inl ⟨3, _, rfl, bel_ses l⟩) hdl rfl ?_ ?_
    · (repeat' (first | exact OneL.nil | apply OneL.cons | exact OneA.msu _ _ | exact OneA.own _ _ | exact OneA.le (.refl _) rfl | exact OneA.le (.one (.tok _ _ _)) rfl))
    · refine Ops.god tab_ok follows_ok Try.func48 60 ?_; simp only [Try.results48, eq_self, drun, aops, aone, afin, ares, aresL, ares1, aresOk, aresOk1, aop, needs, ext, aev, aconst, aput, aupd, aload, astore, afieldAddr, tab_53, tab_55, ok1, lay, cellsAs, TI.agg, AV.cells, AV.whole, Option.getD_some, Option.bind_some, Option.map_some, List.set_cons_zero, List.set_cons_succ, List.length_cons, List.length_nil, List.getElem?_cons_zero, List.getElem?_cons_succ, List.drop_zero, List.drop_succ_cons, List.take_succ_cons, List.take_zero, List.take_nil, List.drop_nil, List.cons_append, List.nil_append, List.append_nil, true_and, and_true, if_true, if_false, Nat.reduceAdd, Nat.zero_add, reduceCtorEq, Nat.le_refl, List.getD_eq_getElem?_getD]
      ((repeat' (apply And.intro)) <;> try (first | rfl | omega | (unfold I64; omega)))
      simp only [openAV, encB, sesA]
      (repeat' (first | exact LeL.nil | exact Le1L.nil | exact Le.refl _ | exact Le1.refl _ | exact Le1.nil _ | exact Le1.tok _ _ _ | exact LeR.one (Le.refl _) | apply LeR.tup | apply LeL.cons | apply Le1L.cons | apply Le.agg | apply Le.one | apply LeR.one))
theorem touch_set {l : List Ses} (hs : sortedS l) {n id : Int} {x : Ses} (hx : l[atL l id]? = some x) (hxi : x.id = id) : l.set (atL l id) ⟨x.id, x.span, n + x.span⟩ = touchL n id l := by
  apply List.ext_getElem?
  intro j
  unfold touchL
  rw [List.getElem?_set, List.getElem?_map]
  by_cases hj : atL l id = j
  · subst hj
    rw [if_pos rfl, if_pos (List.getElem?_eq_some_iff.1 hx).1, hx]
    simp [hxi]
  · rw [if_neg hj]
    cases hy : l[j]? with
    | none => rfl
    | some y =>
      have := only_one hs hx hxi hy (fun e => hj e.symm)
      simp [this]
set_option maxRecDepth 20000 in
set_option maxHeartbeats 2000000 in
theorem touch_spec (b : Bk) (id : Int) (hs : sortedS b.l) (hl : b.l.length ≤ 1000000) (hn : ∀ x ∈ b.l, I64 (b.now + x.span)) : ASpec Try.prog 40 [encB b, .int .i64 id] (openAV (touchB b id)) := by
  have hp := place_spec b id hs hl
  obtain ⟨n, l⟩ := b
  simp only at hs hl hp hn
  unfold touchB
  cases hL : hasL l id with
  | false =>
    rw [hL] at hp
    rw [if_neg (by simp)]
    refine ⟨⟨_, Try.func40, by kernel_rfl, rfl⟩, ACall.of Try.func40 rfl fun c0 hc0 => ?_⟩; simp only [Try.ntmps40, List.length_cons, List.length_nil, Nat.reduceAdd, Nat.reduceSub, List.replicate_succ, List.replicate_zero, List.cons_append, List.nil_append]; refine Run.god tab_ok follows_ok Try.func40 60 ?_; simp only [encB, sesA, eq_self, drun, aops, aone, aop, needs, ext, aev, aconst, aput, aupd, aload, tab_55, ok1, cellsAs, TI.agg, AV.cells, AV.whole, Option.getD_some, Option.bind_some, Option.map_some, List.set_cons_zero, List.set_cons_succ, List.length_cons, List.length_nil, List.getElem?_cons_zero, List.getElem?_cons_succ, List.drop_zero, List.take_succ_cons, List.take_nil, List.cons_append, List.nil_append, true_and, if_true, if_false, Nat.reduceAdd, Nat.zero_add, reduceCtorEq, Nat.le_refl, List.getD_eq_getElem?_getD]
    refine Ops.pure .free rfl rfl (hp) (by simp only [encB, sesA, aev, Option.getD_some, List.getElem?_cons_zero, List.getElem?_cons_succ, List.map_cons, List.map_nil, List.nil_append, List.append_nil, List.getD_eq_getElem?_getD]; (repeat' (first | exact LeL.nil | exact Le1L.nil | exact Le.refl _ | exact Le1.refl _ | exact Le1.nil _ | exact Le1.tok _ _ _ | exact LeR.one (Le.refl _) | apply LeR.tup | apply LeL.cons | apply Le1L.cons | apply Le.agg | apply Le.one | apply LeR.one))) rfl rfl ?_
    refine Ops.god tab_ok follows_ok Try.func40 60 ?_; simp only [Try.results40, eq_self, ↓alt_t, drun, aops, aone, afin, ares, aresL, ares1, aresOk, aresOk1, aop, needs, ext, aev, aconst, aput, aupd, aload, astore, tab_55, ok1, lay, cellsAs, TI.agg, AV.cells, AV.whole, Option.getD_some, Option.bind_some, Option.map_some, List.set_cons_zero, List.set_cons_succ, List.length_cons, List.length_nil, List.getElem?_cons_zero, List.getElem?_cons_succ, List.drop_zero, List.drop_succ_cons, List.take_succ_cons, List.take_zero, List.take_nil, List.drop_nil, List.cons_append, List.nil_append, List.append_nil, true_and, and_true, if_true, if_false, Nat.reduceAdd, Nat.zero_add, Bool.not_false, reduceCtorEq, Nat.le_refl, List.getD_eq_getElem?_getD]
    ((repeat' (apply And.intro)) <;> try (first | rfl | omega | (unfold I64; omega)))
    simp only [openAV, encB, sesA]
    (repeat' (first | exact LeL.nil | exact Le1L.nil | exact Le.refl _ | exact Le1.refl _ | exact Le1.nil _ | exact Le1.tok _ _ _ | exact LeR.one (Le.refl _) | apply LeR.tup | apply LeL.cons | apply Le1L.cons | apply Le.agg | apply Le.one | apply LeR.one))
  | true =>
    rw [hL] at hp
    rw [if_pos rfl]
    obtain ⟨x, hx, hxi⟩ := (has_at hs).1 hL
    have hi : atL l id < l.length := (List.getElem?_eq_some_iff.1 hx).1
    have hi2 : (atL l id : Int) < l.length := by omega
    have hne : l ≠ [] := by rintro rfl; simp at hi
    have hcl := clone_spec l hne hl
    have hxn := hn x (List.mem_of_getElem? hx)
    rw [← touch_set hs hx hxi]
    refine ⟨⟨_, Try.func40, by kernel_rfl, rfl⟩, ACall.of Try.func40 rfl fun c0 hc0 => ?_⟩; simp only [Try.ntmps40, List.length_cons, List.length_nil, Nat.reduceAdd, Nat.reduceSub, List.replicate_succ, List.replicate_zero, List.cons_append, List.nil_append]; refine Run.god tab_ok follows_ok Try.func40 60 ?_; simp only [encB, sesA, eq_self, drun, aops, aone, aop, needs, ext, aev, aconst, aput, aupd, aload, tab_55, ok1, cellsAs, TI.agg, AV.cells, AV.whole, Option.getD_some, Option.bind_some, Option.map_some, List.set_cons_zero, List.set_cons_succ, List.length_cons, List.length_nil, List.getElem?_cons_zero, List.getElem?_cons_succ, List.drop_zero, List.take_succ_cons, List.take_nil, List.cons_append, List.nil_append, true_and, if_true, if_false, Nat.reduceAdd, Nat.zero_add, reduceCtorEq, Nat.le_refl, List.getD_eq_getElem?_getD]
    refine Ops.pure .free rfl rfl (hp) (by simp only [encB, sesA, aev, Option.getD_some, List.getElem?_cons_zero, List.getElem?_cons_succ, List.map_cons, List.map_nil, List.nil_append, List.append_nil, List.getD_eq_getElem?_getD]; (repeat' (first | exact LeL.nil | exact Le1L.nil | exact Le.refl _ | exact Le1.refl _ | exact Le1.nil _ | exact Le1.tok _ _ _ | exact LeR.one (Le.refl _) | apply LeR.tup | apply LeL.cons | apply Le1L.cons | apply Le.agg | apply Le.one | apply LeR.one))) rfl rfl ?_
    refine Ops.god tab_ok follows_ok Try.func40 60 ?_; simp only [eq_self, ↓alt_f, drun, aops, aone, aop, needs, ext, aev, aput, aupd, aload, afieldAddr, tab_53, tab_55, ok1, cellsAs, TI.agg, Option.getD_some, Option.bind_some, Option.map_some, List.set_cons_zero, List.set_cons_succ, List.length_cons, List.length_nil, List.getElem?_cons_zero, List.getElem?_cons_succ, List.drop_zero, List.drop_succ_cons, List.take_succ_cons, List.take_nil, List.cons_append, List.nil_append, true_and, if_false, Nat.reduceAdd, Nat.zero_add, Bool.not_true, reduceCtorEq, Nat.le_refl, List.getD_eq_getElem?_getD]
    refine Ops.made .free rfl rfl hcl (by simp only [sesA, Option.getD_some, List.getElem?_cons_zero, List.getElem?_cons_succ, List.map_cons, List.map_nil, List.nil_append, List.append_nil, List.getD_eq_getElem?_getD, aev]; (repeat' (first | exact LeL.nil | exact Le1L.nil | exact Le.refl _ | exact Le1.refl _ | exact Le1.nil _ | exact Le1.tok _ _ _ | exact LeR.one (Le.refl _) | apply LeR.tup | apply LeL.cons | apply Le1L.cons | apply Le.agg | apply Le.one | apply LeR.one))) rfl (bel_ses l) ?_
    refine Ops.resolve (j := 19) (i := 2) rfl rfl fun cap hcap hcm => ?_
    rw [List.length_map] at hcap ⊢
    simp only [List.set_cons_zero, List.set_cons_succ, List.length_cons, List.length_nil, List.cons_append, List.nil_append, Nat.reduceAdd, Nat.zero_add]
    have hpl := pad_len hcap
    have hpt := pad_take l cap
    have hpx : (padJ 3 (l.map sesC) cap)[atL l id]? = some (sesC x) := by
      unfold padJ
      rw [List.getElem?_append_left (by simpa using hi), List.getElem?_map, hx]; rfl
    generalize padJ 3 (l.map sesC) cap = L at hpl hpt hpx
    have hiL : atL l id < L.length := by omega
    refine Ops.god tab_ok follows_ok Try.func40 3 ?_; simp only [hpx, hiL, hi2, sesC, eq_self, AV.cell, drun, adops, adone, places, mayNeed, freeOk, rdOf, AV.id, wrOf, aops, aone, aop, needs, ext, aev, aput, aupd, aload, astore, afieldAddr, aindexAddr, acmp, aarith, ashift, abin, tab_3, tab_53, tab_55, tab_94, ok1, lay, cellsAs, TI.agg, AV.cells, AV.whole, Option.getD_some, Option.bind_some, Option.map_some, List.set_cons_zero, List.set_cons_succ, List.length_cons, List.length_nil, List.getElem?_cons_zero, List.getElem?_cons_succ, List.drop_zero, List.drop_succ_cons, List.take_succ_cons, List.take_zero, List.take_nil, List.drop_nil, List.cons_append, List.nil_append, List.append_nil, List.all_cons, List.all_nil, true_and, and_true, if_true, if_false, Nat.reduceAdd, Nat.reduceLeDiff, Nat.zero_add, Nat.add_zero, Bool.and_self, Nat.reduceLT, Nat.reduceLeDiff, forall_const, reduceCtorEq, false_implies, implies_true, Nat.le_refl, Int.toNat_natCast, List.getD_eq_getElem?_getD]
    ((repeat' (apply And.intro)) <;> try (first | rfl | omega | (unfold I64; omega)))
    have hres : ((L.set (atL l id) [.int .i64 x.id, .int .i64 x.span, .int .i64 (n + x.span)]).drop 0).take l.length = (l.set (atL l id) ⟨x.id, x.span, n + x.span⟩).map sesC := by
      rw [List.drop_zero, List.take_set, hpt, List.map_set]; rfl
    refine Run.weak (Weak.freezeC 0 1 2 3 0 l.length cap _ _ rfl rfl rfl (by omega) (by simp; omega) (by rw [hres]; exact sesC_plain)) ?_
    rw [hres]
    simp only [List.set_cons_zero, List.set_cons_succ]
    refine Run.god tab_ok follows_ok Try.func40 60 ?_; simp only [Try.results40, eq_self, drun, aops, aone, afin, ares, aresL, ares1, aresOk, aresOk1, aop, needs, ext, aev, aconst, aput, aupd, aload, astore, tab_55, ok1, lay, cellsAs, TI.agg, AV.cells, AV.whole, Option.getD_some, Option.bind_some, Option.map_some, List.set_cons_zero, List.set_cons_succ, List.length_cons, List.length_nil, List.getElem?_cons_zero, List.getElem?_cons_succ, List.drop_zero, List.drop_succ_cons, List.take_succ_cons, List.take_zero, List.take_nil, List.drop_nil, List.cons_append, List.nil_append, List.append_nil, true_and, and_true, if_true, if_false, Nat.reduceAdd, Nat.zero_add, reduceCtorEq, Nat.le_refl, List.getD_eq_getElem?_getD]
    ((repeat' (apply And.intro)) <;> try (first | rfl | omega | (unfold I64; omega)))
    simp only [openAV, encB, sesA]
    (repeat' (first | exact LeL.nil | exact Le1L.nil | exact Le.refl _ | exact Le1.refl _ | exact Le1.nil _ | exact Le1.tok _ _ _ | exact LeR.one (Le.refl _) | apply LeR.tup | apply LeL.cons | apply Le1L.cons | apply Le.agg | apply Le.one | apply LeR.one))
set_option maxRecDepth 20000 in
set_option maxHeartbeats 2000000 in
theorem open_spec (b : Bk) (id span : Int) (hs : sortedS b.l) (hl : b.l.length ≤ 1000000) (hn : 0 ≤ b.now ∧ b.now ≤ 1000000000) : ASpec Try.prog 37 [encB b, .int .i64 id, .int .i64 span] (openAV (openB b id span)) := by
  have hp := place_spec b id hs hl
  obtain ⟨n, l⟩ := b
  simp only at hs hl hp hn
  unfold openB
  by_cases g1 : id < 1
  · rw [if_pos (.inl g1)]
    refine ⟨⟨_, Try.func37, by kernel_rfl, rfl⟩, ACall.of Try.func37 rfl fun c0 hc0 => ?_⟩; simp only [Try.ntmps37, List.length_cons, List.length_nil, Nat.reduceAdd, Nat.reduceSub, List.replicate_succ, List.replicate_zero, List.cons_append, List.nil_append]; refine Run.god tab_ok follows_ok Try.func37 60 ?_; simp only [encB, sesA, eq_self, drun, aops, aone, aop, needs, ext, aev, aconst, aput, aupd, aload, tab_55, ok1, cellsAs, TI.agg, AV.cells, AV.whole, Option.getD_some, Option.bind_some, Option.map_some, List.set_cons_zero, List.set_cons_succ, List.length_cons, List.length_nil, List.getElem?_cons_zero, List.getElem?_cons_succ, List.drop_zero, List.take_succ_cons, List.take_nil, List.cons_append, List.nil_append, true_and, if_true, if_false, Nat.reduceAdd, Nat.zero_add, reduceCtorEq, Nat.le_refl, List.getD_eq_getElem?_getD]
    refine Ops.pure .free rfl rfl (hp) (by simp only [encB, sesA, aev, Option.getD_some, List.getElem?_cons_zero, List.getElem?_cons_succ, List.map_cons, List.map_nil, List.nil_append, List.append_nil, List.getD_eq_getElem?_getD]; (repeat' (first | exact LeL.nil | exact Le1L.nil | exact Le.refl _ | exact Le1.refl _ | exact Le1.nil _ | exact Le1.tok _ _ _ | exact LeR.one (Le.refl _) | apply LeR.tup | apply LeL.cons | apply Le1L.cons | apply Le.agg | apply Le.one | apply LeR.one))) rfl rfl ?_
    refine Ops.god tab_ok follows_ok Try.func37 60 ?_; simp only [Try.results37, g1, decide_true, eq_self, ↓alt_t, ↓alts_t, ↓gone_ft, gslot, drun, aops, aone, afin, ares, aresL, ares1, aresOk, aresOk1, aop, needs, ext, aev, aconst, aput, aupd, aload, astore, acmp, ashift, abin, tab_3, tab_55, ok1, lay, cellsAs, TI.agg, AV.cells, AV.whole, Option.getD_some, Option.bind_some, Option.map_some, List.set_cons_zero, List.set_cons_succ, List.length_cons, List.length_nil, List.getElem?_cons_zero, List.getElem?_cons_succ, List.getElem?_toArray, List.drop_zero, List.drop_succ_cons, List.take_succ_cons, List.take_zero, List.take_nil, List.drop_nil, List.cons_append, List.nil_append, List.append_nil, true_and, and_true, if_true, if_false, Nat.reduceAdd, Nat.zero_add, decide_true, reduceCtorEq, Nat.le_refl, List.getD_eq_getElem?_getD]
    ((repeat' (apply And.intro)) <;> try (first | rfl | omega | (unfold I64; omega)))
    simp only [openAV, encB, sesA]
    (repeat' (first | exact LeL.nil | exact Le1L.nil | exact Le.refl _ | exact Le1.refl _ | exact Le1.nil _ | exact Le1.tok _ _ _ | exact LeR.one (Le.refl _) | apply LeR.tup | apply LeL.cons | apply Le1L.cons | apply Le.agg | apply Le.one | apply LeR.one))
  by_cases g2 : span < 1
  · rw [if_pos (.inr (.inl g2))]
    refine ⟨⟨_, Try.func37, by kernel_rfl, rfl⟩, ACall.of Try.func37 rfl fun c0 hc0 => ?_⟩; simp only [Try.ntmps37, List.length_cons, List.length_nil, Nat.reduceAdd, Nat.reduceSub, List.replicate_succ, List.replicate_zero, List.cons_append, List.nil_append]; refine Run.god tab_ok follows_ok Try.func37 60 ?_; simp only [encB, sesA, eq_self, drun, aops, aone, aop, needs, ext, aev, aconst, aput, aupd, aload, tab_55, ok1, cellsAs, TI.agg, AV.cells, AV.whole, Option.getD_some, Option.bind_some, Option.map_some, List.set_cons_zero, List.set_cons_succ, List.length_cons, List.length_nil, List.getElem?_cons_zero, List.getElem?_cons_succ, List.drop_zero, List.take_succ_cons, List.take_nil, List.cons_append, List.nil_append, true_and, if_true, if_false, Nat.reduceAdd, Nat.zero_add, reduceCtorEq, Nat.le_refl, List.getD_eq_getElem?_getD]
    refine Ops.pure .free rfl rfl (hp) (by simp only [encB, sesA, aev, Option.getD_some, List.getElem?_cons_zero, List.getElem?_cons_succ, List.map_cons, List.map_nil, List.nil_append, List.append_nil, List.getD_eq_getElem?_getD]; (repeat' (first | exact LeL.nil | exact Le1L.nil | exact Le.refl _ | exact Le1.refl _ | exact Le1.nil _ | exact Le1.tok _ _ _ | exact LeR.one (Le.refl _) | apply LeR.tup | apply LeL.cons | apply Le1L.cons | apply Le.agg | apply Le.one | apply LeR.one))) rfl rfl ?_
    refine Ops.god tab_ok follows_ok Try.func37 60 ?_; simp only [Try.results37, g1, g2, decide_true, decide_false, eq_self, ↓alt_t, ↓alts_t, ↓alts_f, ↓gone_ft, ↓gone_ff, gslot, drun, aops, aone, afin, ares, aresL, ares1, aresOk, aresOk1, aop, needs, ext, aev, aconst, aput, aupd, aload, astore, acmp, ashift, abin, tab_3, tab_55, ok1, lay, cellsAs, TI.agg, AV.cells, AV.whole, Option.getD_some, Option.bind_some, Option.map_some, List.set_cons_zero, List.set_cons_succ, List.length_cons, List.length_nil, List.getElem?_cons_zero, List.getElem?_cons_succ, List.getElem?_toArray, List.drop_zero, List.drop_succ_cons, List.take_succ_cons, List.take_zero, List.take_nil, List.drop_nil, List.cons_append, List.nil_append, List.append_nil, true_and, and_true, if_true, if_false, Nat.reduceAdd, Nat.zero_add, decide_true, decide_false, reduceCtorEq, Nat.le_refl, List.getD_eq_getElem?_getD]
    ((repeat' (apply And.intro)) <;> try (first | rfl | omega | (unfold I64; omega)))
    simp only [openAV, encB, sesA]
    (repeat' (first | exact LeL.nil | exact Le1L.nil | exact Le.refl _ | exact Le1.refl _ | exact Le1.nil _ | exact Le1.tok _ _ _ | exact LeR.one (Le.refl _) | apply LeR.tup | apply LeL.cons | apply Le1L.cons | apply Le.agg | apply Le.one | apply LeR.one))
  by_cases g3 : (1000 : Int) < span
  · rw [if_pos (.inr (.inr g3))]
    refine ⟨⟨_, Try.func37, by kernel_rfl, rfl⟩, ACall.of Try.func37 rfl fun c0 hc0 => ?_⟩; simp only [Try.ntmps37, List.length_cons, List.length_nil, Nat.reduceAdd, Nat.reduceSub, List.replicate_succ, List.replicate_zero, List.cons_append, List.nil_append]; refine Run.god tab_ok follows_ok Try.func37 60 ?_; simp only [encB, sesA, eq_self, drun, aops, aone, aop, needs, ext, aev, aconst, aput, aupd, aload, tab_55, ok1, cellsAs, TI.agg, AV.cells, AV.whole, Option.getD_some, Option.bind_some, Option.map_some, List.set_cons_zero, List.set_cons_succ, List.length_cons, List.length_nil, List.getElem?_cons_zero, List.getElem?_cons_succ, List.drop_zero, List.take_succ_cons, List.take_nil, List.cons_append, List.nil_append, true_and, if_true, if_false, Nat.reduceAdd, Nat.zero_add, reduceCtorEq, Nat.le_refl, List.getD_eq_getElem?_getD]
    refine Ops.pure .free rfl rfl (hp) (by simp only [encB, sesA, aev, Option.getD_some, List.getElem?_cons_zero, List.getElem?_cons_succ, List.map_cons, List.map_nil, List.nil_append, List.append_nil, List.getD_eq_getElem?_getD]; (repeat' (first | exact LeL.nil | exact Le1L.nil | exact Le.refl _ | exact Le1.refl _ | exact Le1.nil _ | exact Le1.tok _ _ _ | exact LeR.one (Le.refl _) | apply LeR.tup | apply LeL.cons | apply Le1L.cons | apply Le.agg | apply Le.one | apply LeR.one))) rfl rfl ?_
    refine Ops.god tab_ok follows_ok Try.func37 60 ?_; simp only [Try.results37, g1, g2, g3, decide_true, decide_false, eq_self, ↓alt_t, ↓alts_f, ↓gone_ff, gslot, drun, aops, aone, afin, ares, aresL, ares1, aresOk, aresOk1, aop, needs, ext, aev, aconst, aput, aupd, aload, astore, acmp, ashift, abin, tab_3, tab_55, ok1, lay, cellsAs, TI.agg, AV.cells, AV.whole, Option.getD_some, Option.bind_some, Option.map_some, List.set_cons_zero, List.set_cons_succ, List.length_cons, List.length_nil, List.getElem?_cons_zero, List.getElem?_cons_succ, List.getElem?_toArray, List.drop_zero, List.drop_succ_cons, List.take_succ_cons, List.take_zero, List.take_nil, List.drop_nil, List.cons_append, List.nil_append, List.append_nil, true_and, and_true, if_true, if_false, Nat.reduceAdd, Nat.zero_add, decide_true, decide_false, reduceCtorEq, Nat.le_refl, List.getD_eq_getElem?_getD]
    ((repeat' (apply And.intro)) <;> try (first | rfl | omega | (unfold I64; omega)))
    simp only [openAV, encB, sesA]
    (repeat' (first | exact LeL.nil | exact Le1L.nil | exact Le.refl _ | exact Le1.refl _ | exact Le1.nil _ | exact Le1.tok _ _ _ | exact LeR.one (Le.refl _) | apply LeR.tup | apply LeL.cons | apply Le1L.cons | apply Le.agg | apply Le.one | apply LeR.one))
  rw [if_neg (by omega)]
  cases hL : hasL l id with
  | true =>
    rw [hL] at hp
    rw [if_pos rfl]
    refine ⟨⟨_, Try.func37, by kernel_rfl, rfl⟩, ACall.of Try.func37 rfl fun c0 hc0 => ?_⟩; simp only [Try.ntmps37, List.length_cons, List.length_nil, Nat.reduceAdd, Nat.reduceSub, List.replicate_succ, List.replicate_zero, List.cons_append, List.nil_append]; refine Run.god tab_ok follows_ok Try.func37 60 ?_; simp only [encB, sesA, eq_self, drun, aops, aone, aop, needs, ext, aev, aconst, aput, aupd, aload, tab_55, ok1, cellsAs, TI.agg, AV.cells, AV.whole, Option.getD_some, Option.bind_some, Option.map_some, List.set_cons_zero, List.set_cons_succ, List.length_cons, List.length_nil, List.getElem?_cons_zero, List.getElem?_cons_succ, List.drop_zero, List.take_succ_cons, List.take_nil, List.cons_append, List.nil_append, true_and, if_true, if_false, Nat.reduceAdd, Nat.zero_add, reduceCtorEq, Nat.le_refl, List.getD_eq_getElem?_getD]
    refine Ops.pure .free rfl rfl (hp) (by simp only [encB, sesA, aev, Option.getD_some, List.getElem?_cons_zero, List.getElem?_cons_succ, List.map_cons, List.map_nil, List.nil_append, List.append_nil, List.getD_eq_getElem?_getD]; (repeat' (first | exact LeL.nil | exact Le1L.nil | exact Le.refl _ | exact Le1.refl _ | exact Le1.nil _ | exact Le1.tok _ _ _ | exact LeR.one (Le.refl _) | apply LeR.tup | apply LeL.cons | apply Le1L.cons | apply Le.agg | apply Le.one | apply LeR.one))) rfl rfl ?_
    refine Ops.god tab_ok follows_ok Try.func37 60 ?_; simp only [Try.results37, g1, g2, g3, decide_false, eq_self, ↓alt_t, ↓alt_f, ↓alts_f, ↓gone_ff, gslot, drun, aops, aone, afin, ares, aresL, ares1, aresOk, aresOk1, aop, needs, ext, aev, aconst, aput, aupd, aload, astore, acmp, ashift, abin, tab_3, tab_55, ok1, lay, cellsAs, TI.agg, AV.cells, AV.whole, Option.getD_some, Option.bind_some, Option.map_some, List.set_cons_zero, List.set_cons_succ, List.length_cons, List.length_nil, List.getElem?_cons_zero, List.getElem?_cons_succ, List.getElem?_toArray, List.drop_zero, List.drop_succ_cons, List.take_succ_cons, List.take_zero, List.take_nil, List.drop_nil, List.cons_append, List.nil_append, List.append_nil, true_and, and_true, if_true, if_false, Nat.reduceAdd, Nat.zero_add, decide_false, reduceCtorEq, Nat.le_refl, List.getD_eq_getElem?_getD]
    ((repeat' (apply And.intro)) <;> try (first | rfl | omega | (unfold I64; omega)))
    simp only [openAV, encB, sesA]
    (repeat' (first | exact LeL.nil | exact Le1L.nil | exact Le.refl _ | exact Le1.refl _ | exact Le1.nil _ | exact Le1.tok _ _ _ | exact LeR.one (Le.refl _) | apply LeR.tup | apply LeL.cons | apply Le1L.cons | apply Le.agg | apply Le.one | apply LeR.one))
  | false =>
    rw [hL] at hp
    rw [if_neg (by simp)]
    by_cases g4 : (50 : Int) ≤ l.length
    · rw [if_pos g4]
      refine ⟨⟨_, Try.func37, by kernel_rfl, rfl⟩, ACall.of Try.func37 rfl fun c0 hc0 => ?_⟩; simp only [Try.ntmps37, List.length_cons, List.length_nil, Nat.reduceAdd, Nat.reduceSub, List.replicate_succ, List.replicate_zero, List.cons_append, List.nil_append]; refine Run.god tab_ok follows_ok Try.func37 60 ?_; simp only [encB, sesA, eq_self, drun, aops, aone, aop, needs, ext, aev, aconst, aput, aupd, aload, tab_55, ok1, cellsAs, TI.agg, AV.cells, AV.whole, Option.getD_some, Option.bind_some, Option.map_some, List.set_cons_zero, List.set_cons_succ, List.length_cons, List.length_nil, List.getElem?_cons_zero, List.getElem?_cons_succ, List.drop_zero, List.take_succ_cons, List.take_nil, List.cons_append, List.nil_append, true_and, if_true, if_false, Nat.reduceAdd, Nat.zero_add, reduceCtorEq, Nat.le_refl, List.getD_eq_getElem?_getD]
      refine Ops.pure .free rfl rfl (hp) (by simp only [encB, sesA, aev, Option.getD_some, List.getElem?_cons_zero, List.getElem?_cons_succ, List.map_cons, List.map_nil, List.nil_append, List.append_nil, List.getD_eq_getElem?_getD]; (repeat' (first | exact LeL.nil | exact Le1L.nil | exact Le.refl _ | exact Le1.refl _ | exact Le1.nil _ | exact Le1.tok _ _ _ | exact LeR.one (Le.refl _) | apply LeR.tup | apply LeL.cons | apply Le1L.cons | apply Le.agg | apply Le.one | apply LeR.one))) rfl rfl ?_
      refine Ops.god tab_ok follows_ok Try.func37 60 ?_; simp only [Try.results37, g1, g2, g3, g4, decide_false, decide_true, List.length_map, eq_self, ↓alt_t, ↓alt_f, ↓alts_f, ↓gone_ff, gslot, drun, aops, aone, afin, ares, aresL, ares1, aresOk, aresOk1, aop, needs, ext, aev, aconst, aput, aupd, aload, astore, afieldAddr, acmp, ashift, abin, alen, tab_3, tab_53, tab_55, ok1, lay, cellsAs, TI.agg, AV.cells, AV.whole, Option.getD_some, Option.bind_some, Option.map_some, List.set_cons_zero, List.set_cons_succ, List.length_cons, List.length_nil, List.getElem?_cons_zero, List.getElem?_cons_succ, List.getElem?_toArray, List.drop_zero, List.drop_succ_cons, List.take_succ_cons, List.take_zero, List.take_nil, List.drop_nil, List.length_map, List.cons_append, List.nil_append, List.append_nil, true_and, and_true, if_true, if_false, Nat.reduceAdd, Nat.zero_add, decide_true, decide_false, reduceCtorEq, Nat.le_refl, List.getD_eq_getElem?_getD]
      ((repeat' (apply And.intro)) <;> try (first | rfl | omega | (unfold I64; omega)))
      simp only [openAV, encB, sesA]
      (repeat' (first | exact LeL.nil | exact Le1L.nil | exact Le.refl _ | exact Le1.refl _ | exact Le1.nil _ | exact Le1.tok _ _ _ | exact LeR.one (Le.refl _) | apply LeR.tup | apply LeL.cons | apply Le1L.cons | apply Le.agg | apply Le.one | apply LeR.one))
    rw [if_neg g4]
    have hat := atL_le l id
    by_cases hne : l = []
    · subst hne
      refine ⟨⟨_, Try.func37, by kernel_rfl, rfl⟩, ACall.of Try.func37 rfl fun c0 hc0 => ?_⟩; simp only [Try.ntmps37, List.length_cons, List.length_nil, Nat.reduceAdd, Nat.reduceSub, List.replicate_succ, List.replicate_zero, List.cons_append, List.nil_append]; refine Run.god tab_ok follows_ok Try.func37 60 ?_; simp only [encB, sesA, eq_self, drun, aops, aone, aop, needs, ext, aev, aconst, aput, aupd, aload, tab_55, ok1, cellsAs, TI.agg, AV.cells, AV.whole, Option.getD_some, Option.bind_some, Option.map_some, List.set_cons_zero, List.set_cons_succ, List.length_cons, List.length_nil, List.getElem?_cons_zero, List.getElem?_cons_succ, List.drop_zero, List.take_succ_cons, List.take_nil, List.drop_nil, List.map_nil, List.cons_append, List.nil_append, true_and, if_true, if_false, Nat.reduceAdd, Nat.zero_add, reduceCtorEq, Nat.le_refl, List.getD_eq_getElem?_getD]
      refine Ops.pure .free rfl rfl (hp) (by simp only [encB, sesA, aev, Option.getD_some, List.getElem?_cons_zero, List.getElem?_cons_succ, List.map_cons, List.map_nil, List.nil_append, List.append_nil, List.getD_eq_getElem?_getD]; (repeat' (first | exact LeL.nil | exact Le1L.nil | exact Le.refl _ | exact Le1.refl _ | exact Le1.nil _ | exact Le1.tok _ _ _ | exact LeR.one (Le.refl _) | apply LeR.tup | apply LeL.cons | apply Le1L.cons | apply Le.agg | apply Le.one | apply LeR.one))) rfl rfl ?_
      refine Ops.god tab_ok follows_ok Try.func37 60 ?_; simp only [g1, g2, g3, decide_false, eq_self, Int.natCast_zero, ↓alt_f, ↓alts_f, ↓gone_ff, gslot, Int.reduceLE, drun, adops, adone, places, mayNeed, freeOk, rdOf, AV.id, wrOf, aops, aone, aop, needs, ext, aev, aconst, aput, aupd, aload, afieldAddr, acmp, ashift, abin, alen, tab_3, tab_53, tab_55, ok1, cellsAs, TI.agg, Option.getD_some, Option.bind_some, Option.map_some, List.set_cons_zero, List.set_cons_succ, List.length_cons, List.length_nil, List.getElem?_cons_zero, List.getElem?_cons_succ, List.getElem?_toArray, List.drop_zero, List.drop_succ_cons, List.take_succ_cons, List.take_nil, List.cons_append, List.nil_append, true_and, and_true, if_true, if_false, Nat.reduceAdd, Nat.zero_add, decide_false, reduceCtorEq, Nat.le_refl, List.getD_eq_getElem?_getD]
      ((repeat' (apply And.intro)) <;> try (first | rfl | omega | (unfold I64; omega)))
      refine DOps.own rfl .free rfl rfl clone_nil (by simp only [sesA, Option.getD_some, List.getElem?_cons_zero, List.getElem?_cons_succ, List.map_cons, List.map_nil, List.nil_append, List.append_nil, List.getD_eq_getElem?_getD, aev, List.map_nil]; (repeat' (first | exact LeL.nil | exact Le1L.nil | exact Le.refl _ | exact Le1.refl _ | exact Le1.nil _ | exact Le1.tok _ _ _ | exact LeR.one (Le.refl _) | apply LeR.tup | apply LeL.cons | apply Le1L.cons | apply Le.agg | apply Le.one | apply LeR.one))) rfl rfl ?_
      refine DOps.god tab_ok follows_ok Try.func37 60 rfl ?_; simp only [eq_self, adops, adone, mayNeed, freeOk, rdOf, AV.id, wrOf, aop, needs, aev, aconst, aput, aupd, aload, afieldAddr, acmp, aarith, ashift, abin, abuild, aelems, plains, tab_3, tab_53, tab_55, tab_94, ok1, lay, cellsAs, TI.agg, AV.cells, AV.whole, AV.plain, AV.bare, Option.getD_some, Option.bind_some, Option.map_some, List.set_cons_zero, List.set_cons_succ, List.length_cons, List.length_nil, List.getElem?_cons_zero, List.getElem?_cons_succ, List.drop_zero, List.drop_succ_cons, List.take_succ_cons, List.take_zero, List.drop_nil, List.map_cons, List.map_nil, List.cons_append, List.nil_append, List.append_nil, List.all_cons, List.all_nil, List.replicate_succ, List.replicate_zero, true_and, and_true, if_true, if_false, Nat.reduceAdd, Nat.reduceLeDiff, Nat.reduceMul, Nat.reduceBEq, Nat.zero_add, Nat.add_zero, Bool.and_self, Bool.and_false, Nat.reduceLT, Nat.reduceLeDiff, reduceCtorEq, Nat.le_refl, List.getD_eq_getElem?_getD]
      ((repeat' (apply And.intro)) <;> try (first | rfl | omega | (unfold I64; omega)))
      refine DOps.lent rfl .free rfl rfl ⟨_, Try.func63, by kernel_rfl, rfl⟩ (i := 2) rfl (.inr ⟨3, rfl⟩) (insert_nil ⟨id, span, n + span⟩) rfl ?_ ?_
      · (repeat' (first | exact OneL.nil | apply OneL.cons | exact OneA.msu _ _ | exact OneA.own _ _ | exact OneA.le (.refl _) rfl | exact OneA.le (.one (.tok _ _ _)) rfl))
      · refine DOps.god tab_ok follows_ok Try.func37 60 rfl ?_; simp only [Try.results37, eq_self, drun, adops, adone, mayNeed, freeOk, rdOf, AV.id, wrOf, aops, aone, afin, ares, aresL, ares1, aresOk, aresOk1, aop, needs, ext, aev, aconst, aput, aupd, aload, astore, afieldAddr, tab_53, tab_55, ok1, lay, cellsAs, TI.agg, AV.cells, AV.whole, Option.getD_some, Option.bind_some, Option.map_some, List.set_cons_zero, List.set_cons_succ, List.length_cons, List.length_nil, List.getElem?_cons_zero, List.getElem?_cons_succ, List.drop_zero, List.drop_succ_cons, List.take_succ_cons, List.take_zero, List.take_nil, List.drop_nil, List.cons_append, List.nil_append, List.append_nil, true_and, and_true, if_true, if_false, Nat.reduceAdd, Nat.zero_add, reduceCtorEq, Nat.le_refl, List.getD_eq_getElem?_getD]
        ((repeat' (apply And.intro)) <;> try (first | rfl | omega | (unfold I64; omega)))
        simp only [openAV, encB, sesA, List.map_cons, List.map_nil, sesC]
        (repeat' (first | exact LeL.nil | exact Le1L.nil | exact Le.refl _ | exact Le1.refl _ | exact Le1.nil _ | exact Le1.tok _ _ _ | exact LeR.one (Le.refl _) | apply LeR.tup | apply LeL.cons | apply Le1L.cons | apply Le.agg | apply Le.one | apply LeR.one))
    · have hcl := clone_spec l hne hl
      refine ⟨⟨_, Try.func37, by kernel_rfl, rfl⟩, ACall.of Try.func37 rfl fun c0 hc0 => ?_⟩; simp only [Try.ntmps37, List.length_cons, List.length_nil, Nat.reduceAdd, Nat.reduceSub, List.replicate_succ, List.replicate_zero, List.cons_append, List.nil_append]; refine Run.god tab_ok follows_ok Try.func37 60 ?_; simp only [encB, sesA, eq_self, drun, aops, aone, aop, needs, ext, aev, aconst, aput, aupd, aload, tab_55, ok1, cellsAs, TI.agg, AV.cells, AV.whole, Option.getD_some, Option.bind_some, Option.map_some, List.set_cons_zero, List.set_cons_succ, List.length_cons, List.length_nil, List.getElem?_cons_zero, List.getElem?_cons_succ, List.drop_zero, List.take_succ_cons, List.take_nil, List.cons_append, List.nil_append, true_and, if_true, if_false, Nat.reduceAdd, Nat.zero_add, reduceCtorEq, Nat.le_refl, List.getD_eq_getElem?_getD]
      refine Ops.pure .free rfl rfl (hp) (by simp only [encB, sesA, aev, Option.getD_some, List.getElem?_cons_zero, List.getElem?_cons_succ, List.map_cons, List.map_nil, List.nil_append, List.append_nil, List.getD_eq_getElem?_getD]; (repeat' (first | exact LeL.nil | exact Le1L.nil | exact Le.refl _ | exact Le1.refl _ | exact Le1.nil _ | exact Le1.tok _ _ _ | exact LeR.one (Le.refl _) | apply LeR.tup | apply LeL.cons | apply Le1L.cons | apply Le.agg | apply Le.one | apply LeR.one))) rfl rfl ?_
      refine Ops.god tab_ok follows_ok Try.func37 60 ?_; simp only [g1, g2, g3, g4, decide_false, List.length_map, eq_self, ↓alt_f, ↓alts_f, ↓gone_ff, gslot, drun, adops, adone, places, mayNeed, freeOk, rdOf, AV.id, wrOf, aops, aone, aop, needs, ext, aev, aconst, aput, aupd, aload, afieldAddr, acmp, ashift, abin, alen, tab_3, tab_53, tab_55, ok1, cellsAs, TI.agg, Option.getD_some, Option.bind_some, Option.map_some, List.set_cons_zero, List.set_cons_succ, List.length_cons, List.length_nil, List.getElem?_cons_zero, List.getElem?_cons_succ, List.getElem?_toArray, List.drop_zero, List.drop_succ_cons, List.take_succ_cons, List.take_nil, List.length_map, List.cons_append, List.nil_append, true_and, and_true, if_true, if_false, Nat.reduceAdd, Nat.zero_add, decide_false, reduceCtorEq, Nat.le_refl, List.getD_eq_getElem?_getD]
      ((repeat' (apply And.intro)) <;> try (first | rfl | omega | (unfold I64; omega)))
      refine DOps.made rfl .free rfl rfl hcl (by simp only [sesA, Option.getD_some, List.getElem?_cons_zero, List.getElem?_cons_succ, List.map_cons, List.map_nil, List.nil_append, List.append_nil, List.getD_eq_getElem?_getD, aev]; (repeat' (first | exact LeL.nil | exact Le1L.nil | exact Le.refl _ | exact Le1.refl _ | exact Le1.nil _ | exact Le1.tok _ _ _ | exact LeR.one (Le.refl _) | apply LeR.tup | apply LeL.cons | apply Le1L.cons | apply Le.agg | apply Le.one | apply LeR.one))) rfl (bel_ses l) rfl ?_
      rw [List.length_map]
      refine DOps.god tab_ok follows_ok Try.func37 60 rfl ?_; simp only [eq_self, adops, adone, mayNeed, freeOk, rdOf, AV.id, wrOf, aop, needs, aev, aconst, aput, aupd, aload, afieldAddr, acmp, aarith, ashift, abin, abuild, aelems, plains, tab_3, tab_53, tab_55, tab_94, ok1, lay, cellsAs, TI.agg, AV.cells, AV.whole, AV.plain, AV.bare, Option.getD_some, Option.bind_some, Option.map_some, List.set_cons_zero, List.set_cons_succ, List.length_cons, List.length_nil, List.getElem?_cons_zero, List.getElem?_cons_succ, List.drop_zero, List.drop_succ_cons, List.take_succ_cons, List.take_zero, List.drop_nil, List.map_cons, List.map_nil, List.cons_append, List.nil_append, List.append_nil, List.all_cons, List.all_nil, List.replicate_succ, List.replicate_zero, true_and, and_true, if_true, if_false, Nat.reduceAdd, Nat.reduceLeDiff, Nat.reduceMul, Nat.reduceBEq, Nat.zero_add, Nat.add_zero, Bool.and_self, Bool.and_false, Nat.reduceLT, Nat.reduceLeDiff, reduceCtorEq, Nat.le_refl, List.getD_eq_getElem?_getD]
      ((repeat' (apply And.intro)) <;> try (first | rfl | omega | (unfold I64; omega)))
      refine DOps.lent rfl .free rfl rfl ⟨_, Try.func63, by kernel_rfl, rfl⟩ (i := 2) rfl (.inl ⟨3, _, rfl, bel_ses l⟩) (insert_spec l ⟨id, span, n + span⟩ (atL l id) hat hl) rfl ?_ ?_
      · (repeat' (first | exact OneL.nil | apply OneL.cons | exact OneA.msu _ _ | exact OneA.own _ _ | exact OneA.le (.refl _) rfl | exact OneA.le (.one (.tok _ _ _)) rfl))
      · refine DOps.god tab_ok follows_ok Try.func37 60 rfl ?_; simp only [Try.results37, eq_self, drun, adops, adone, mayNeed, freeOk, rdOf, AV.id, wrOf, aops, aone, afin, ares, aresL, ares1, aresOk, aresOk1, aop, needs, ext, aev, aconst, aput, aupd, aload, astore, afieldAddr, tab_53, tab_55, ok1, lay, cellsAs, TI.agg, AV.cells, AV.whole, Option.getD_some, Option.bind_some, Option.map_some, List.set_cons_zero, List.set_cons_succ, List.length_cons, List.length_nil, List.getElem?_cons_zero, List.getElem?_cons_succ, List.drop_zero, List.drop_succ_cons, List.take_succ_cons, List.take_zero, List.take_nil, List.drop_nil, List.cons_append, List.nil_append, List.append_nil, true_and, and_true, if_true, if_false, Nat.reduceAdd, Nat.zero_add, reduceCtorEq, Nat.le_refl, List.getD_eq_getElem?_getD]
        ((repeat' (apply And.intro)) <;> try (first | rfl | omega | (unfold I64; omega)))
        simp only [openAV, encB, sesA]
        (repeat' (first | exact LeL.nil | exact Le1L.nil | exact Le.refl _ | exact Le1.refl _ | exact Le1.nil _ | exact Le1.tok _ _ _ | exact LeR.one (Le.refl _) | apply LeR.tup | apply LeL.cons | apply Le1L.cons | apply Le.agg | apply Le.one | apply LeR.one))
end Go.Proofs.Ythboeilpeggpoaa
