/-
  Rows of replies cloned, one put in; told by their shadows.
-/
import Derived.Test.YtkamcoechjdgpaaCc
namespace Go.Proofs.Ytkamcoechjdgpaa
open Go.RowKit
theorem givC_cell {l : List Giv} : ∀ x ∈ l.map givC, ∀ a ∈ x, a.cell = true := by
  intro x hx a ha
  obtain ⟨y, _, rfl⟩ := List.mem_map.1 hx
  simp only [givC, List.mem_cons, List.not_mem_nil, or_false] at ha
  rcases ha with rfl | rfl | rfl | rfl | rfl | rfl | rfl <;> rfl
theorem givC_plain {l : List Giv} : ∀ x ∈ l.map givC, ∀ a ∈ x, a.plain = true := by
  intro x hx a ha
  obtain ⟨y, _, rfl⟩ := List.mem_map.1 hx
  simp only [givC, List.mem_cons, List.not_mem_nil, or_false] at ha
  rcases ha with rfl | rfl | rfl | rfl | rfl | rfl | rfl <;> rfl
theorem givC_len {l : List Giv} : ∀ x ∈ l.map givC, x.length = 7 := by
  intro x hx
  obtain ⟨y, _, rfl⟩ := List.mem_map.1 hx
  rfl
set_option maxRecDepth 20000 in
theorem clone_spec (l : List Giv) (hne : l ≠ []) (hl : l.length ≤ 1000000) : MSpec Try.prog 42 [givA l] 7 (l.map givC) := by
  have h0 : ¬ l.length = 0 := fun e => hne (List.length_eq_zero_iff.1 e)
  have h1 : ¬ l.length ≤ 0 := by omega
  refine ⟨⟨_, Try.func42, by kernel_rfl, rfl⟩, by simpa using hne, by omega, ?_⟩
  refine ACall.of Try.func42 rfl fun c1 hc1 => ?_; simp only [Try.ntmps42, List.length_cons, List.length_nil, Nat.reduceAdd, Nat.reduceSub, List.replicate_succ, List.replicate_zero, List.cons_append, List.nil_append]; refine Run.god tab_ok follows_ok Try.func42 60 ?_; simp only [givA, h0, h1, List.length_map, eq_self, ↓alt_f, aappendM, asrcM, AV.cell, drun, aops, aone, aop, needs, ext, aev, aconst, aput, aupd, abin, aelems, plains, asrc, tab_30, tab_105, ok1, Option.getD_some, Option.bind_some, Option.map_some, List.set_cons_zero, List.set_cons_succ, List.length_nil, List.getElem?_cons_zero, List.getElem?_cons_succ, List.getElem?_toArray, List.take_zero, List.drop_nil, List.map_nil, List.length_map, List.cons_append, List.nil_append, List.append_nil, List.all_nil, List.replicate_zero, true_and, and_true, if_true, if_false, Nat.reduceAdd, Nat.reduceLeDiff, Nat.reduceMul, Nat.zero_add, Nat.add_zero, beq_self_eq_true, Bool.and_true, Nat.reduceLT, Nat.reduceLeDiff, reduceCtorEq, List.getD_eq_getElem?_getD]
  ((repeat' (apply And.intro)) <;> try (first | rfl | omega | (unfold I64; omega)))
  refine Ops.appendF tab_ok .free rfl (q := (_, l.map givC)) (l := []) rfl rfl rfl rfl (by decide) rfl givC_cell (.rows 0 0 0 0 [] rfl (by simp) (by simp) (by simp; omega)) (by simp; omega) (by simp; omega) fun cap hcap hcm => ?_
  refine Ops.god tab_ok follows_ok Try.func42 60 ?_; simp only [Try.results42, List.length_map, drun, aops, aone, afin, ares, aresL, ares1, aresOk, aresOk1, aop, needs, ext, aev, aput, aupd, ok1, Option.getD_some, Option.bind_some, Option.map_some, List.set_cons_zero, List.set_cons_succ, List.length_cons, List.length_nil, List.getElem?_cons_zero, List.getElem?_cons_succ, List.length_map, List.cons_append, List.nil_append, true_and, and_true, if_false, Nat.zero_add, reduceCtorEq, List.getD_eq_getElem?_getD]
  exact ⟨1, cap, _, rfl, rfl, by simp at hcap ⊢; omega, by simp⟩
set_option maxRecDepth 20000 in
theorem clone_nil : OSpec Try.prog 42 [givA []] 7 [] := by
  refine OSpec.nil ⟨_, Try.func42, by kernel_rfl, rfl⟩ ?_
  refine ACall.of Try.func42 rfl fun c1 hc1 => ?_; simp only [Try.ntmps42, List.length_cons, List.length_nil, Nat.reduceAdd, Nat.reduceSub, List.replicate_succ, List.replicate_zero, List.cons_append, List.nil_append]; refine Run.god tab_ok follows_ok Try.func42 60 ?_; simp only [givA, eq_self, drun, aops, aone, aop, needs, ext, aev, aconst, aput, aupd, abin, tab_30, ok1, Option.getD_some, Option.bind_some, List.set_cons_zero, List.set_cons_succ, List.length_nil, List.getElem?_cons_zero, List.getElem?_cons_succ, List.map_nil, List.nil_append, true_and, if_true, if_false, Nat.zero_add, reduceCtorEq, List.getD_eq_getElem?_getD]
  refine Ops.eqnil .free rfl Try.underlying30 rfl rfl fun b => ?_
  cases b with
  | true =>
    refine Ops.god tab_ok follows_ok Try.func42 60 ?_; simp only [Try.results42, eq_self, ↓alt_t, drun, aops, aone, afin, ares, aresL, ares1, aresOk, aresOk1, aop, needs, ext, aev, aconst, aput, aupd, ok1, Option.getD_some, Option.bind_some, Option.map_some, List.set_cons_zero, List.set_cons_succ, List.getElem?_cons_zero, List.getElem?_cons_succ, List.nil_append, true_and, and_true, if_false, reduceCtorEq, List.getD_eq_getElem?_getD]
    first | exact .inl rfl | exact .inl trivial | simp
  | false =>
    refine Ops.god tab_ok follows_ok Try.func42 60 ?_; simp only [Try.results42, eq_self, ↓alt_f, aappendM, asrcM, AV.cell, drun, aops, aone, afin, ares, aresL, ares1, aresOk, aresOk1, aop, needs, ext, aev, aconst, aput, aupd, aelems, plains, asrc, tab_30, tab_105, ok1, Option.getD_some, Option.bind_some, Option.map_some, List.set_cons_zero, List.set_cons_succ, List.length_nil, List.getElem?_cons_zero, List.getElem?_cons_succ, List.getElem?_toArray, List.take_zero, List.drop_nil, List.map_nil, List.cons_append, List.nil_append, List.append_nil, List.all_nil, List.replicate_zero, true_and, and_true, if_true, if_false, Nat.reduceLeDiff, Nat.reduceMul, Nat.zero_add, Nat.add_zero, beq_self_eq_true, Bool.and_true, Nat.reduceLT, Nat.reduceLeDiff, reduceCtorEq, Nat.le_refl, List.getD_eq_getElem?_getD]
    ((repeat' (apply And.intro)) <;> try (first | rfl | omega | (unfold I64; omega)))
    all_goals first | (simp; done) | exact .inr ⟨_, _, _, rfl⟩
theorem pad_take (l : List Giv) (cap : Nat) : (padJ 7 (l.map givC) cap).take l.length = l.map givC := by
  unfold padJ
  rw [List.take_append_of_le_length (by simp)]
  exact List.take_of_length_le (by simp)
theorem pad_len {l : List Giv} {cap : Nat} (h : l.length ≤ cap) : (padJ 7 (l.map givC) cap).length = cap := by
  simp [padJ]; omega
/-- Rows that are left, as what they read as. -/
def FrzR (k : Nat) (res : List (List AV)) (r : AV) (h' : List ABlk) : Prop := ∃ i o n cap L, r = .msl i k o n cap ∧ h'[i]? = some (.rows k L) ∧ o + n ≤ L.length ∧ (L.drop o).take n = res
theorem ACall.frz {P : Program} {f : FuncId} {args : List AV} {h : List ABlk} {k : Nat} {res : List (List AV)} (hk : 0 < k) (hp : ∀ x ∈ res, ∀ a ∈ x, a.plain = true) (H : ACall P f args h (FrzR k res)) : ACall P f args h fun r _ => LeR r (.sl k res .no) := by
  refine ACall.freeze (H.mono ?_)
  rintro r h' ⟨i, o, n, cap, L, rfl, h1, h2, h3⟩
  exact ⟨i, k, o, n, cap, L, rfl, h1, hk, h2, by rw [h3]; exact hp, by rw [h3]; exact .one (.refl _)⟩
theorem take_front {α : Type} (a b : List α) (n : Nat) (h : a.length = n) : (a ++ b).take n = a := by
  subst h; simp
theorem overlaps_ext (args : Array Value) (w : World) (v : Value) (h : (Extern.SlicesOverlaps.overlaps #[30, 30] #[4] args).run Try.prog w = .ok v w) : (callFunc 70 args).run Try.prog w = .ok (.value v) w := by
  rw [run_callFunc_extern Try.func70 (by kernel_rfl) (by kernel_rfl) (by kernel_rfl) (e := Extern.SlicesOverlaps.overlaps #[30, 30] #[4]) (by kernel_rfl), h]
  try rfl
theorem drop_front {α : Type} (a b : List α) (n : Nat) (h : a.length = n) : (a ++ b).drop n = b := by
  subst h; simp
/-- L's first n elements: i, one, the others. -/
theorem three_of {α : Type} {L l : List α} {i n : Nat} (hi : i < n) (hL : L.take n = l) (hn : n ≤ L.length) : ∃ A b B T, L = A ++ (b :: B ++ T) ∧ l = A ++ b :: B ∧ A.length = i ∧ B.length + 1 + i = n ∧ A = l.take i ∧ b :: B = l.drop i := by
  subst hL
  have hd : (L.take n).drop i ≠ [] := by
    intro e
    have := congrArg List.length e
    simp at this; omega
  obtain ⟨b, B, hB⟩ := List.exists_cons_of_ne_nil hd
  have h1 : L.take n = (L.take n).take i ++ b :: B := by rw [← hB, List.take_append_drop]
  refine ⟨(L.take n).take i, b, B, L.drop n, ?_, h1, by simp; omega, ?_, rfl, hB.symm⟩
  · rw [← List.append_assoc, ← h1, List.take_append_drop]
  · have := congrArg List.length hB
    simp at this; omega
theorem ins_place {α : Type} {L l : List α} {x : α} {i n : Nat} (hi : i < n) (hL : L.take n = l) (hn : n ≤ L.length) (R : List α) (hR : R = L.take (i + 1) ++ (L.drop i).take (n - i) ++ L.drop (i + 1 + (n - i))) :
    (R.take i ++ [x] ++ R.drop (i + 1)).take (n + 1) = l.take i ++ x :: l.drop i := by
  obtain ⟨A, b, B, T, rfl, rfl, hA, hB, e1, e2⟩ := three_of hi hL hn
  have r1 : (A ++ (b :: B ++ T)).take (i + 1) = A ++ [b] := by
    have : A ++ (b :: B ++ T) = (A ++ [b]) ++ (B ++ T) := by simp
    rw [this]; exact take_front _ _ _ (by simp; omega)
  have r2 : ((A ++ (b :: B ++ T)).drop i).take (n - i) = b :: B := by
    rw [drop_front A _ i hA]; exact take_front _ _ _ (by simp; omega)
  rw [r1, r2] at hR
  generalize (A ++ (b :: B ++ T)).drop (i + 1 + (n - i)) = D at hR
  subst hR
  have r3 : (A ++ [b] ++ b :: B ++ D).take i = A := by
    rw [List.append_assoc, List.append_assoc]; exact take_front _ _ _ hA
  have r4 : (A ++ [b] ++ b :: B ++ D).drop (i + 1) = b :: B ++ D := by
    rw [List.append_assoc]; exact drop_front _ _ _ (by simp; omega)
  rw [r3, r4, ← e1, ← e2, ← List.append_assoc]
  rw [show A ++ [x] ++ b :: B ++ D = (A ++ x :: b :: B) ++ D by simp]
  exact take_front _ _ _ (by simp; omega)
theorem ins_grow {α : Type} {L l : List α} {x z : α} {i n : Nat} (hi : i < n) (hL : L.take n = l) (hn : n ≤ L.length) (D R : List α) (hR : R = L.take i ++ List.replicate (n + 1 - i) z ++ D) :
    ((R.take i ++ [x] ++ R.drop (i + 1)).take (i + 1) ++ (L.drop i).take (n - i) ++ (R.take i ++ [x] ++ R.drop (i + 1)).drop (i + 1 + (n - i))).take (n + 1) = l.take i ++ x :: l.drop i := by
  obtain ⟨A, b, B, T, rfl, rfl, hA, hB, e1, e2⟩ := three_of hi hL hn
  have r0 : (A ++ (b :: B ++ T)).take i = A := take_front _ _ _ hA
  have r2 : ((A ++ (b :: B ++ T)).drop i).take (n - i) = b :: B := by
    rw [drop_front A _ i hA]; exact take_front _ _ _ (by simp; omega)
  rw [r0] at hR
  have r1 : R.take i = A := by rw [hR, List.append_assoc]; exact take_front _ _ _ hA
  rw [r1, r2, ← e1, ← e2]
  rw [take_front (A ++ [x]) _ (i + 1) (by simp; omega)]
  rw [show ∀ E, A ++ [x] ++ b :: B ++ E = (A ++ x :: b :: B) ++ E by simp]
  exact take_front _ _ _ (by simp; omega)
theorem ins_plain (l : List Giv) (x : Giv) (i : Nat) : ∀ y ∈ (l.take i).map givC ++ givC x :: (l.drop i).map givC, ∀ a ∈ y, a.plain = true := by
  have : (l.take i).map givC ++ givC x :: (l.drop i).map givC = (l.take i ++ x :: l.drop i).map givC := by simp
  rw [this]; exact givC_plain
set_option maxRecDepth 20000 in
set_option maxHeartbeats 4000000 in
theorem insert_end (l : List Giv) (x : Giv) (hl : l.length ≤ 1000000) : ACall Try.prog 41 [.msu 0 7 l.length, .int .i64 l.length, .sl 7 [givC x] .no] [.rows 7 (l.map givC)] fun r _ => LeR r (.sl 7 ((l ++ [x]).map givC) .no) := by
  refine ACall.frz (by omega) givC_plain ?_
  refine ACall.of Try.func41 rfl fun c0 hc0 => ?_
  simp only [Try.ntmps41, List.length_cons, List.length_nil, Nat.reduceAdd, Nat.reduceSub, List.replicate_succ, List.replicate_zero, List.cons_append, List.nil_append]
  have hll : (l.map givC).length = l.length := by simp
  rw [← hll]
  refine Run.resolve (j := 0) (i := 0) rfl rfl fun cap hcap hcm => ?_
  rw [hll] at hcap ⊢
  simp only [List.set_cons_zero]
  have hpl := pad_len hcap
  have hpt := pad_take l cap
  generalize padJ 7 (l.map givC) cap = L at hpl hpt
  have h1 : ¬ (1 : Int) = 0 := by omega
  by_cases hroom : l.length + 1 ≤ cap
  · refine Run.god tab_ok follows_ok Try.func41 60 ?_; simp only [Try.results41, hroom, h1, givC, Option.isSome_none, Int.natCast_one, Bool.false_eq_true, eq_self, ↓alt_t, ↓alt_f, aappendM, asrcM, AV.cell, drun, aops, aone, afin, ares, aresL, ares1, aresOk, aresOk1, aop, needs, ext, aev, aconst, aput, aupd, acmp, ashift, abin, alen, aslice, asrc, tab_3, tab_30, tab_105, ok1, Option.getD_some, Option.bind_some, Option.map_some, Option.map_none, List.set_cons_zero, List.set_cons_succ, List.length_cons, List.length_nil, List.getElem?_cons_zero, List.getElem?_cons_succ, List.getElem?_toArray, List.cons_append, List.nil_append, true_and, and_true, if_true, if_false, Nat.zero_add, decide_true, decide_false, Nat.reduceLT, Int.toNat_natCast, List.getD_eq_getElem?_getD]
    ((repeat' (apply And.intro)) <;> try (first | rfl | omega | (unfold I64; omega)))
    · exact givC_cell (l := [x])
    · refine ⟨0, 0, l.length + 1, cap, _, rfl, rfl, by simp; omega, ?_⟩
      rw [List.drop_zero, hpt, List.map_append]
      exact take_front _ _ _ (by simp)
  · refine Run.god tab_ok follows_ok Try.func41 60 ?_; simp only [hroom, h1, givC, Option.isSome_none, Int.natCast_one, Bool.false_eq_true, eq_self, ↓alt_t, ↓alt_f, aappendM, asrcM, AV.cell, drun, aops, aone, aop, needs, ext, aev, aconst, aput, aupd, acmp, ashift, abin, alen, aslice, asrc, tab_3, tab_30, tab_105, ok1, Option.getD_some, Option.bind_some, Option.map_some, Option.map_none, List.set_cons_zero, List.set_cons_succ, List.length_cons, List.length_nil, List.getElem?_cons_zero, List.getElem?_cons_succ, List.getElem?_toArray, List.cons_append, List.nil_append, true_and, if_true, if_false, Nat.reduceAdd, Nat.zero_add, decide_true, decide_false, Nat.reduceLT, Int.toNat_natCast, List.getD_eq_getElem?_getD]
    ((repeat' (apply And.intro)) <;> try (first | rfl | omega | (unfold I64; omega)))
    refine Ops.appendF tab_ok .free rfl (q := (_, [givC x])) (l := l.map givC) rfl rfl rfl rfl (by decide) rfl (givC_cell (l := [x])) (hpt ▸ .rows 0 0 l.length cap L rfl (by omega) (by rw [List.drop_zero, hpt]; exact givC_cell) (by simp; omega)) (by simp; omega) (by simp; omega) fun cap2 hcap2 hcm2 => ?_
    refine Ops.god tab_ok follows_ok Try.func41 60 ?_; simp only [Try.results41, List.length_map, drun, aops, aone, afin, ares, aresL, ares1, aresOk, aresOk1, aop, needs, ext, aev, aput, aupd, ok1, Option.getD_some, Option.bind_some, Option.map_some, List.set_cons_zero, List.set_cons_succ, List.length_cons, List.length_nil, List.getElem?_cons_zero, List.getElem?_cons_succ, List.length_map, List.cons_append, List.nil_append, true_and, and_true, if_false, Nat.zero_add, reduceCtorEq, List.getD_eq_getElem?_getD]
    refine ⟨1, 0, l.length + 1, cap2, _, rfl, rfl, by simp, ?_⟩
    rw [List.drop_zero, List.map_append]
    exact take_front _ _ _ (by simp)
set_option maxRecDepth 20000 in
set_option maxHeartbeats 4000000 in
theorem insert_grow (l : List Giv) (x : Giv) (i : Nat) (hi : i < l.length) (hl : l.length ≤ 1000000) : ACall Try.prog 41 [.msu 0 7 l.length, .int .i64 i, .sl 7 [givC x] .no] [.rows 7 (l.map givC)] fun r _ => LeR r (.sl 7 ((l.take i ++ x :: l.drop i).map givC) .no) := by
  refine ACall.frz (by omega) givC_plain ?_
  refine ACall.of Try.func41 rfl fun c0 hc0 => ?_
  simp only [Try.ntmps41, List.length_cons, List.length_nil, Nat.reduceAdd, Nat.reduceSub, List.replicate_succ, List.replicate_zero, List.cons_append, List.nil_append]
  have hll : (l.map givC).length = l.length := by simp
  rw [← hll]
  refine Run.resolve (j := 0) (i := 0) rfl rfl fun cap hcap hcm => ?_
  rw [hll] at hcap ⊢
  simp only [List.set_cons_zero]
  have hpl := pad_len hcap
  have hpt := pad_take l cap
  generalize padJ 7 (l.map givC) cap = L at hpl hpt
  have h1 : ¬ (1 : Int) = 0 := by omega
  have h2 : ¬ (i : Int) = l.length := by omega
  have hm1 : min (l.length + 1 - i) (l.length + 1 - (i + 1)) = l.length - i := by omega
  have hm2 : min 1 (l.length + 1 - i) = 1 := by omega
  by_cases hroom : l.length + 1 ≤ cap
  · have h3 : ¬ (cap : Int) < (l.length : Int) + 1 := by omega
    have e3 : ((l.length : Int) + 1).toNat = l.length + 1 := by omega
    have e4 : ((i : Int) + 1).toNat = i + 1 := by omega
    refine Run.god tab_ok follows_ok Try.func41 60 ?_; simp only [h1, h2, h3, e3, e4, decide_false, givC, Option.isSome_none, Int.natCast_one, Bool.false_eq_true, eq_self, ↓alt_f, acap, drun, aops, aone, aop, needs, ext, aev, aconst, aput, aupd, acmp, aarith, ashift, abin, alen, aslice, tab_3, tab_30, tab_105, ok1, Option.getD_some, Option.bind_some, Option.map_some, Option.map_none, List.set_cons_zero, List.set_cons_succ, List.length_cons, List.length_nil, List.getElem?_cons_zero, List.getElem?_cons_succ, List.cons_append, List.nil_append, true_and, if_true, if_false, Nat.reduceAdd, Nat.zero_add, decide_false, Int.toNat_natCast, List.getD_eq_getElem?_getD]
    ((repeat' (apply And.intro)) <;> try (first | rfl | omega | (unfold I64; omega)))
    refine Ops.overlaps .free rfl rfl Try.underlying30 (size := 7) (fun w => (tab_ok 105 _ rfl).sizeOf w) overlaps_ext (by omega) rfl rfl rfl (by intro e; rw [e] at hpl; simp at hpl; omega) ?_
    refine Ops.god tab_ok follows_ok Try.func41 60 ?_; simp only [Try.results41, e4, Option.isSome_none, Bool.false_eq_true, eq_self, ↓alt_t, acopy, AV.cell, drun, adops, adone, places, mayNeed, freeOk, rdOf, AV.id, wrOf, aops, aone, afin, ares, aresL, ares1, aresOk, aresOk1, aop, needs, ext, aev, aput, aupd, acmp, aarith, ashift, abin, aslice, tab_3, tab_30, tab_105, ok1, Option.getD_some, Option.bind_some, Option.map_some, Option.map_none, List.set_cons_zero, List.set_cons_succ, List.length_cons, List.length_nil, List.getElem?_cons_zero, List.getElem?_cons_succ, List.cons_append, List.nil_append, List.append_nil, true_and, and_true, if_true, if_false, Nat.reduceAdd, Nat.zero_add, Bool.not_false, Nat.reduceLT, Int.toNat_natCast, List.getD_eq_getElem?_getD]
    ((repeat' (apply And.intro)) <;> try (first | rfl | omega | (unfold I64; omega)))
    all_goals simp only [hm1, hm2] at *
    · have : (L.drop i).take (l.length - i) = (l.drop i).map givC := by rw [← List.drop_take, hpt, List.map_drop]
      rw [this]; exact givC_cell
    · simp; omega
    · refine ⟨0, 0, l.length + 1, cap, _, rfl, rfl, by simp; omega, ?_⟩
      rw [List.drop_zero]
      refine (ins_place (x := givC x) hi hpt (by omega) _ rfl).trans ?_
      simp
  · have h3 : (cap : Int) < (l.length : Int) + 1 := by omega
    refine Run.god tab_ok follows_ok Try.func41 60 ?_; simp only [h1, h2, h3, decide_true, decide_false, givC, Option.isSome_none, Int.natCast_one, Bool.false_eq_true, eq_self, ↓alt_t, ↓alt_f, aappendM, asrcM, acap, AV.cell, drun, aops, aone, aop, needs, ext, aev, aconst, aput, aupd, acmp, aarith, ashift, abin, alen, aslice, asrc, tab_3, tab_30, tab_105, ok1, Option.getD_some, Option.bind_some, Option.bind_none, Option.map_some, Option.map_none, List.set_cons_zero, List.set_cons_succ, List.length_cons, List.length_nil, List.getElem?_cons_zero, List.getElem?_cons_succ, List.getElem?_toArray, List.cons_append, List.nil_append, true_and, if_true, if_false, Nat.reduceAdd, Nat.zero_add, decide_true, decide_false, Nat.reduceLT, Int.toNat_natCast, List.getD_eq_getElem?_getD]
    ((repeat' (apply And.intro)) <;> try (first | rfl | omega | (unfold I64; omega)))
    have hmm : ((l.length : Int) + 1 - i).toNat = l.length + 1 - i := by omega
    have e4 : ((i : Int) + 1).toNat = i + 1 := by omega
    have hm3 : min (l.length - i) (l.length + 1 - (i + 1)) = l.length - i := by omega
    have hlt : ((L.drop 0).take i).length = i := by simp; omega
    refine Ops.appendZ tab_ok .free rfl rfl rfl rfl rfl (by decide) (kd := .i64) (kd' := .i64) (m := (l.length : Int) + 1 - i) rfl rfl (by omega) (.rows 0 0 i cap L rfl (by omega) (by
      rw [List.drop_zero]; intro y hy; exact givC_cell (l := l) y (by rw [← hpt]; exact List.take_subset_take_left _ (by omega) hy)) (by rw [hmm]; omega)) (by rw [hmm, hlt]; simp; omega) (by rw [hmm, hlt]; omega) fun cap2 hcap2 hcm2 => ?_
    rw [hmm, hlt] at hcap2 ⊢
    have hn1 : i + (l.length + 1 - i) = l.length + 1 := by omega
    rw [hn1] at hcap2 ⊢
    refine Ops.god tab_ok follows_ok Try.func41 60 ?_; simp only [Try.results41, e4, Option.isSome_none, Bool.false_eq_true, eq_self, acopy, AV.cell, drun, adops, adone, places, mayNeed, freeOk, rdOf, AV.id, wrOf, aops, aone, afin, ares, aresL, ares1, aresOk, aresOk1, aop, needs, ext, aev, aput, aupd, acmp, aarith, ashift, abin, aslice, tab_3, tab_30, tab_105, ok1, Option.getD_some, Option.bind_some, Option.map_some, Option.map_none, List.set_cons_zero, List.set_cons_succ, List.length_cons, List.length_nil, List.getElem?_cons_zero, List.getElem?_cons_succ, List.drop_zero, List.cons_append, List.nil_append, List.append_nil, true_and, and_true, if_true, if_false, Nat.reduceAdd, Nat.zero_add, Nat.reduceLT, Int.toNat_natCast, List.getD_eq_getElem?_getD]
    ((repeat' (apply And.intro)) <;> try (first | rfl | omega | (unfold I64; omega)))
    all_goals simp only [hm2, hm3] at *
    · simp; omega
    · simp; omega
    · have : (L.drop i).take (l.length - i) = (l.drop i).map givC := by rw [← List.drop_take, hpt, List.map_drop]
      rw [this]; exact givC_cell
    · refine ⟨1, 0, l.length + 1, cap2, _, rfl, rfl, by simp; omega, ?_⟩
      rw [List.drop_zero]
      refine (ins_grow (x := givC x) (z := [.int .i64 0, .int .i64 0, .int .i64 0, .int .i64 0, .str [], .int .i64 0, .nils]) hi hpt (by omega) _ _ rfl).trans ?_
      simp
theorem insert_spec (l : List Giv) (x : Giv) (i : Nat) (hi : i ≤ l.length) (hl : l.length ≤ 1000000) : ACall Try.prog 41 [.msu 0 7 l.length, .int .i64 i, .sl 7 [givC x] .no] [.rows 7 (l.map givC)] fun r _ => LeR r (.sl 7 ((l.take i ++ x :: l.drop i).map givC) .no) := by
  rcases Nat.lt_or_ge i l.length with h | h
  · exact insert_grow l x i h hl
  · obtain rfl : i = l.length := by omega
    have := insert_end l x hl
    simpa using this
set_option maxRecDepth 20000 in
theorem insert_nil (x : Giv) : ACall Try.prog 41 [.sl 7 [] (.own 0), .int .i64 0, .sl 7 [givC x] .no] [.tok 7 0] fun r _ => LeR r (.sl 7 [givC x] .no) := by
  have h1 : ¬ (1 : Int) = 0 := by omega
  refine ACall.of Try.func41 rfl fun c1 hc1 => ?_; simp only [Try.ntmps41, List.length_cons, List.length_nil, Nat.reduceAdd, Nat.reduceSub, List.replicate_succ, List.replicate_zero, List.cons_append, List.nil_append]; refine Run.god tab_ok follows_ok Try.func41 60 ?_; simp only [Try.results41, h1, givC, Option.isSome_none, Int.natCast_one, Bool.false_eq_true, eq_self, Int.natCast_zero, Int.toNat_zero, ↓alt_t, ↓alt_f, aappendM, Int.reduceLE, drun, aops, aone, afin, ares, aresL, ares1, aresOk, aresOk1, aop, needs, ext, aev, aconst, aput, aupd, acmp, ashift, abin, alen, aslice, asrc, aappend, tab_3, tab_30, tab_105, ok1, Option.getD_some, Option.bind_some, Option.map_some, Option.map_none, List.set_cons_zero, List.set_cons_succ, List.length_cons, List.length_nil, List.getElem?_cons_zero, List.getElem?_cons_succ, List.getElem?_toArray, List.drop_nil, List.cons_append, List.nil_append, true_and, and_true, if_true, if_false, Nat.reduceLeDiff, Nat.reduceMul, Nat.zero_add, decide_true, decide_false, Nat.reduceLeDiff, List.getD_eq_getElem?_getD]
  ((repeat' (apply And.intro)) <;> try (first | rfl | omega | (unfold I64; omega)))
  (repeat' (first | exact LeL.nil | exact Le1L.nil | exact Le.refl _ | exact Le1.refl _ | exact Le1.nil _ | exact Le1.tok _ _ _ | exact LeR.one (Le.refl _) | apply LeR.tup | apply LeL.cons | apply Le1L.cons | apply Le.agg | apply Le.one | apply LeR.one))
theorem bel_giv : ∀ l : List Giv, belLL 0 (l.map givC) = true
  | [] => rfl
  | x :: l => by simp only [List.map_cons, belLL, belL, givC, AV.bel, bel_giv l, Bool.and_self]
end Go.Proofs.Ytkamcoechjdgpaa
