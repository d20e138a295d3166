/-
  Replies and by whom, in plain words; where one stands, told by its shadow.
-/
import Derived.Test.YtkamcoechjdgpaaCb
namespace Go.Proofs.Ytkamcoechjdgpaa
open Go.RowKit
structure Giv where
  id : Int
  x : Rpl
deriving DecidableEq
def rplC (r : Rpl) : List AV := [.int .i64 r.a, .int .i64 r.b, .int .i64 r.e, .str r.s, .int .i64 r.x, textsA r.l]
def givC (g : Giv) : List AV := [.int .i64 g.id, .int .i64 g.x.a, .int .i64 g.x.b, .int .i64 g.x.e, .str g.x.s, .int .i64 g.x.x, .sl 1 (g.x.l.map textC) .no]
def encGi (g : Giv) : AV := .agg (givC g)
def givA (l : List Giv) : AV := .sl 7 (l.map givC) .no
def hasL (l : List Giv) (id : Int) : Bool := l.any fun x => decide (x.id = id)
def atL (l : List Giv) (id : Int) : Nat := (l.takeWhile fun x => decide (x.id < id)).length
def sortedG (l : List Giv) : Prop := l.Pairwise fun x y => x.id < y.id
theorem atL_of {l : List Giv} {id : Int} {i : Nat} (hi : i ≤ l.length) (h1 : ∀ (j : Nat) x, j < i → l[j]? = some x → x.id < id) (h2 : ∀ (j : Nat) x, i ≤ j → l[j]? = some x → ¬ x.id < id) : i = atL l id := by
  induction l generalizing i with
  | nil => simp [atL] at hi ⊢; omega
  | cons y l ih =>
    unfold atL
    rw [List.takeWhile_cons]
    by_cases hy : y.id < id
    · rw [decide_eq_true hy]
      cases i with
      | zero => exact absurd hy (h2 0 y (Nat.le_refl _) rfl)
      | succ i =>
        have := ih (i := i) (by simpa using hi) (fun j x hj hx => h1 (j + 1) x (by omega) (by simpa using hx)) (fun j x hj hx => h2 (j + 1) x (by omega) (by simpa using hx))
        simp only [if_true, List.length_cons]
        rw [this]; rfl
    · rw [decide_eq_false hy]
      cases i with
      | zero => simp
      | succ i => exact absurd (h1 0 y (by omega) rfl) hy
theorem atL_le (l : List Giv) (id : Int) : atL l id ≤ l.length := (List.takeWhile_sublist _).length_le
theorem atL_lt {l : List Giv} {id : Int} {j : Nat} {x : Giv} (hj : j < atL l id) (hx : l[j]? = some x) : x.id < id := by
  induction l generalizing j with
  | nil => simp at hx
  | cons y l ih =>
    unfold atL at hj
    rw [List.takeWhile_cons] at hj
    by_cases hy : y.id < id
    · rw [decide_eq_true hy] at hj
      simp only [if_true, List.length_cons] at hj
      cases j with
      | zero => simp at hx; subst hx; exact hy
      | succ j => exact ih (j := j) (by unfold atL; omega) (by simpa using hx)
    · rw [decide_eq_false hy] at hj
      simp at hj
theorem atL_ge {l : List Giv} (hs : sortedG l) {id : Int} {j : Nat} {x : Giv} (hj : atL l id ≤ j) (hx : l[j]? = some x) : ¬ x.id < id := by
  induction l generalizing j with
  | nil => simp at hx
  | cons y l ih =>
    have hs' := List.pairwise_cons.1 hs
    unfold atL at hj
    rw [List.takeWhile_cons] at hj
    by_cases hy : y.id < id
    · rw [decide_eq_true hy] at hj
      simp only [if_true, List.length_cons] at hj
      cases j with
      | zero => omega
      | succ j => exact ih hs'.2 (j := j) (by unfold atL; omega) (by simpa using hx)
    · cases j with
      | zero => simp at hx; subst hx; exact hy
      | succ j =>
        have := hs'.1 x (List.mem_of_getElem? (by simpa using hx))
        omega
/-- An Id is there just if it stands at its place. -/
theorem has_at {l : List Giv} (hs : sortedG l) {id : Int} : hasL l id = true ↔ ∃ x, l[atL l id]? = some x ∧ x.id = id := by
  constructor
  · intro h
    simp only [hasL, List.any_eq_true, decide_eq_true_eq] at h
    obtain ⟨x, hx, rfl⟩ := h
    obtain ⟨j, hj⟩ := List.getElem?_of_mem hx
    have h1 : ¬ j < atL l x.id := fun h => by have := atL_lt h hj; omega
    have h2 : ¬ atL l x.id < j := fun h => by
      obtain ⟨y, hy⟩ : ∃ y, l[atL l x.id]? = some y := ⟨_, List.getElem?_eq_getElem (by have := (List.getElem?_eq_some_iff.1 hj).1; omega)⟩
      have g1 := atL_ge hs (Nat.le_refl _) hy
      unfold sortedG at hs
      rw [List.pairwise_iff_getElem] at hs
      obtain ⟨q1, rfl⟩ := List.getElem?_eq_some_iff.1 hj
      obtain ⟨q2, rfl⟩ := List.getElem?_eq_some_iff.1 hy
      have := hs _ _ q2 q1 h
      omega
    have : j = atL l x.id := by omega
    exact ⟨x, this ▸ hj, rfl⟩
  · rintro ⟨x, hx, rfl⟩
    simp only [hasL, List.any_eq_true, decide_eq_true_eq]
    exact ⟨x, List.mem_of_getElem? hx, rfl⟩
theorem nan_spec (n : Int) : ASpec Try.prog 69 [.int .i64 n] (.bool false) := by
  refine ⟨⟨_, Try.func69, by kernel_rfl, rfl⟩, ACall.of Try.func69 rfl fun c0 hc0 => ?_⟩; simp only [Try.ntmps69, List.length_cons, List.length_nil, Nat.reduceAdd, Nat.reduceSub, List.replicate_succ, List.replicate_zero, List.cons_append, List.nil_append]; refine Run.god tab_ok follows_ok Try.func69 60 ?_; simp only [Try.results69, eq_self, drun, aops, aone, afin, ares, aresL, ares1, aresOk, aresOk1, aop, needs, ext, aev, aconst, aput, aupd, acmp, ashift, abin, tab_3, ok1, Option.getD_some, Option.bind_some, Option.map_some, List.set_cons_zero, List.set_cons_succ, List.getElem?_cons_zero, List.getElem?_cons_succ, List.nil_append, true_and, and_true, if_true, if_false, Bool.not_true, decide_true, reduceCtorEq, List.getD_eq_getElem?_getD]
  (repeat' (first | exact LeL.nil | exact Le1L.nil | exact Le.refl _ | exact Le1.refl _ | exact Le1.nil _ | exact Le1.tok _ _ _ | exact LeR.one (Le.refl _) | apply LeR.tup | apply LeL.cons | apply Le1L.cons | apply Le.agg | apply Le.one | apply LeR.one))
def cmpI (a b : Int) : Int := if a < b then -1 else if b < a then 1 else 0
theorem cmp_spec (a b : Int) : ASpec Try.prog 40 [.int .i64 a, .int .i64 b] (.int .i64 (cmpI a b)) := by
  have h1 := nan_spec a
  have h2 := nan_spec b
  unfold cmpI
  by_cases g1 : a < b
  · rw [if_pos g1]
    refine ⟨⟨_, Try.func40, by kernel_rfl, rfl⟩, ACall.of Try.func40 rfl fun c0 hc0 => ?_⟩; simp only [Try.ntmps40, List.length_cons, List.length_nil, Nat.reduceAdd, Nat.reduceSub, List.replicate_succ, List.replicate_zero, List.cons_append, List.nil_append]; refine Run.god tab_ok follows_ok Try.func40 60 ?_; simp only [Int.reduceNeg, drun, aops, aone, aop, needs, ext, aev, aconst, aput, aupd, ok1, Option.getD_some, List.set_cons_zero, List.set_cons_succ, List.getElem?_cons_zero, List.nil_append, true_and, if_false, Nat.zero_add, reduceCtorEq, List.getD_eq_getElem?_getD]
    refine Ops.pure .free rfl rfl (h1) (by simp only [aev, Option.getD_some, List.getElem?_cons_zero, List.getElem?_cons_succ, List.map_cons, List.map_nil, List.nil_append, List.append_nil, List.getD_eq_getElem?_getD]; (repeat' (first | exact LeL.nil | exact Le1L.nil | exact Le.refl _ | exact Le1.refl _ | exact Le1.nil _ | exact Le1.tok _ _ _ | exact LeR.one (Le.refl _) | apply LeR.tup | apply LeL.cons | apply Le1L.cons | apply Le.agg | apply Le.one | apply LeR.one))) rfl rfl ?_
    refine Ops.god tab_ok follows_ok Try.func40 60 ?_; simp only [Int.reduceNeg, drun, aops, aone, aop, needs, ext, aev, aput, aupd, ok1, Option.getD_some, List.set_cons_zero, List.set_cons_succ, List.getElem?_cons_zero, List.getElem?_cons_succ, List.nil_append, true_and, if_false, Nat.zero_add, reduceCtorEq, List.getD_eq_getElem?_getD]
    refine Ops.pure .free rfl rfl (h2) (by simp only [aev, Option.getD_some, List.getElem?_cons_zero, List.getElem?_cons_succ, List.map_cons, List.map_nil, List.nil_append, List.append_nil, List.getD_eq_getElem?_getD]; (repeat' (first | exact LeL.nil | exact Le1L.nil | exact Le.refl _ | exact Le1.refl _ | exact Le1.nil _ | exact Le1.tok _ _ _ | exact LeR.one (Le.refl _) | apply LeR.tup | apply LeL.cons | apply Le1L.cons | apply Le.agg | apply Le.one | apply LeR.one))) rfl rfl ?_
    refine Ops.god tab_ok follows_ok Try.func40 60 ?_; simp only [Try.results40, g1, decide_true, eq_self, ↓alt_t, ↓alt_f, Int.reduceNeg, drun, aops, aone, afin, ares, aresL, ares1, aresOk, aresOk1, aop, needs, ext, aev, aconst, aput, aupd, acmp, ashift, abin, tab_3, ok1, Option.getD_some, Option.bind_some, Option.map_some, List.set_cons_zero, List.set_cons_succ, List.getElem?_cons_zero, List.getElem?_cons_succ, List.nil_append, true_and, and_true, if_true, if_false, decide_true, reduceCtorEq, List.getD_eq_getElem?_getD]
    (repeat' (first | exact LeL.nil | exact Le1L.nil | exact Le.refl _ | exact Le1.refl _ | exact Le1.nil _ | exact Le1.tok _ _ _ | exact LeR.one (Le.refl _) | apply LeR.tup | apply LeL.cons | apply Le1L.cons | apply Le.agg | apply Le.one | apply LeR.one))
  · rw [if_neg g1]
    by_cases g2 : b < a
    · rw [if_pos g2]
      refine ⟨⟨_, Try.func40, by kernel_rfl, rfl⟩, ACall.of Try.func40 rfl fun c0 hc0 => ?_⟩; simp only [Try.ntmps40, List.length_cons, List.length_nil, Nat.reduceAdd, Nat.reduceSub, List.replicate_succ, List.replicate_zero, List.cons_append, List.nil_append]; refine Run.god tab_ok follows_ok Try.func40 60 ?_; simp only [Int.reduceNeg, drun, aops, aone, aop, needs, ext, aev, aconst, aput, aupd, ok1, Option.getD_some, List.set_cons_zero, List.set_cons_succ, List.getElem?_cons_zero, List.nil_append, true_and, if_false, Nat.zero_add, reduceCtorEq, List.getD_eq_getElem?_getD]
      refine Ops.pure .free rfl rfl (h1) (by simp only [aev, Option.getD_some, List.getElem?_cons_zero, List.getElem?_cons_succ, List.map_cons, List.map_nil, List.nil_append, List.append_nil, List.getD_eq_getElem?_getD]; (repeat' (first | exact LeL.nil | exact Le1L.nil | exact Le.refl _ | exact Le1.refl _ | exact Le1.nil _ | exact Le1.tok _ _ _ | exact LeR.one (Le.refl _) | apply LeR.tup | apply LeL.cons | apply Le1L.cons | apply Le.agg | apply Le.one | apply LeR.one))) rfl rfl ?_
      refine Ops.god tab_ok follows_ok Try.func40 60 ?_; simp only [Int.reduceNeg, drun, aops, aone, aop, needs, ext, aev, aput, aupd, ok1, Option.getD_some, List.set_cons_zero, List.set_cons_succ, List.getElem?_cons_zero, List.getElem?_cons_succ, List.nil_append, true_and, if_false, Nat.zero_add, reduceCtorEq, List.getD_eq_getElem?_getD]
      refine Ops.pure .free rfl rfl (h2) (by simp only [aev, Option.getD_some, List.getElem?_cons_zero, List.getElem?_cons_succ, List.map_cons, List.map_nil, List.nil_append, List.append_nil, List.getD_eq_getElem?_getD]; (repeat' (first | exact LeL.nil | exact Le1L.nil | exact Le.refl _ | exact Le1.refl _ | exact Le1.nil _ | exact Le1.tok _ _ _ | exact LeR.one (Le.refl _) | apply LeR.tup | apply LeL.cons | apply Le1L.cons | apply Le.agg | apply Le.one | apply LeR.one))) rfl rfl ?_
      refine Ops.god tab_ok follows_ok Try.func40 60 ?_; simp only [Try.results40, g1, g2, decide_true, decide_false, eq_self, ↓alt_t, ↓alt_f, drun, aops, aone, afin, ares, aresL, ares1, aresOk, aresOk1, aop, needs, ext, aev, aconst, aput, aupd, acmp, ashift, abin, tab_3, ok1, Option.getD_some, Option.bind_some, Option.map_some, List.set_cons_zero, List.set_cons_succ, List.getElem?_cons_zero, List.getElem?_cons_succ, List.nil_append, true_and, and_true, if_true, if_false, decide_true, decide_false, reduceCtorEq, List.getD_eq_getElem?_getD]
      (repeat' (first | exact LeL.nil | exact Le1L.nil | exact Le.refl _ | exact Le1.refl _ | exact Le1.nil _ | exact Le1.tok _ _ _ | exact LeR.one (Le.refl _) | apply LeR.tup | apply LeL.cons | apply Le1L.cons | apply Le.agg | apply Le.one | apply LeR.one))
    · rw [if_neg g2]
      refine ⟨⟨_, Try.func40, by kernel_rfl, rfl⟩, ACall.of Try.func40 rfl fun c0 hc0 => ?_⟩; simp only [Try.ntmps40, List.length_cons, List.length_nil, Nat.reduceAdd, Nat.reduceSub, List.replicate_succ, List.replicate_zero, List.cons_append, List.nil_append]; refine Run.god tab_ok follows_ok Try.func40 60 ?_; simp only [Int.reduceNeg, drun, aops, aone, aop, needs, ext, aev, aconst, aput, aupd, ok1, Option.getD_some, List.set_cons_zero, List.set_cons_succ, List.getElem?_cons_zero, List.nil_append, true_and, if_false, Nat.zero_add, reduceCtorEq, List.getD_eq_getElem?_getD]
      refine Ops.pure .free rfl rfl (h1) (by simp only [aev, Option.getD_some, List.getElem?_cons_zero, List.getElem?_cons_succ, List.map_cons, List.map_nil, List.nil_append, List.append_nil, List.getD_eq_getElem?_getD]; (repeat' (first | exact LeL.nil | exact Le1L.nil | exact Le.refl _ | exact Le1.refl _ | exact Le1.nil _ | exact Le1.tok _ _ _ | exact LeR.one (Le.refl _) | apply LeR.tup | apply LeL.cons | apply Le1L.cons | apply Le.agg | apply Le.one | apply LeR.one))) rfl rfl ?_
      refine Ops.god tab_ok follows_ok Try.func40 60 ?_; simp only [Int.reduceNeg, drun, aops, aone, aop, needs, ext, aev, aput, aupd, ok1, Option.getD_some, List.set_cons_zero, List.set_cons_succ, List.getElem?_cons_zero, List.getElem?_cons_succ, List.nil_append, true_and, if_false, Nat.zero_add, reduceCtorEq, List.getD_eq_getElem?_getD]
      refine Ops.pure .free rfl rfl (h2) (by simp only [aev, Option.getD_some, List.getElem?_cons_zero, List.getElem?_cons_succ, List.map_cons, List.map_nil, List.nil_append, List.append_nil, List.getD_eq_getElem?_getD]; (repeat' (first | exact LeL.nil | exact Le1L.nil | exact Le.refl _ | exact Le1.refl _ | exact Le1.nil _ | exact Le1.tok _ _ _ | exact LeR.one (Le.refl _) | apply LeR.tup | apply LeL.cons | apply Le1L.cons | apply Le.agg | apply Le.one | apply LeR.one))) rfl rfl ?_
      refine Ops.god tab_ok follows_ok Try.func40 60 ?_; simp only [Try.results40, g1, g2, decide_false, eq_self, ↓alt_f, drun, aops, aone, afin, ares, aresL, ares1, aresOk, aresOk1, aop, needs, ext, aev, aconst, aput, aupd, acmp, ashift, abin, tab_3, ok1, Option.getD_some, Option.bind_some, Option.map_some, List.set_cons_zero, List.set_cons_succ, List.getElem?_cons_zero, List.getElem?_cons_succ, List.nil_append, true_and, and_true, if_true, if_false, decide_false, reduceCtorEq, List.getD_eq_getElem?_getD]
      (repeat' (first | exact LeL.nil | exact Le1L.nil | exact Le.refl _ | exact Le1.refl _ | exact Le1.nil _ | exact Le1.tok _ _ _ | exact LeR.one (Le.refl _) | apply LeR.tup | apply LeL.cons | apply Le1L.cons | apply Le.agg | apply Le.one | apply LeR.one))
theorem placeF_spec (x : Giv) (id : Int) : ASpec Try.prog 39 [encGi x, .int .i64 id] (.int .i64 (cmpI x.id id)) := by
  have h := cmp_spec x.id id
  refine ⟨⟨_, Try.func39, by kernel_rfl, rfl⟩, ACall.of Try.func39 rfl fun c0 hc0 => ?_⟩; simp only [Try.ntmps39, List.length_cons, List.length_nil, Nat.reduceAdd, Nat.reduceSub, List.replicate_succ, List.replicate_zero, List.cons_append, List.nil_append]; refine Run.god tab_ok follows_ok Try.func39 60 ?_; simp only [encGi, givC, eq_self, drun, aops, aone, aop, needs, ext, aev, aconst, aput, aupd, aload, afieldAddr, tab_3, tab_105, ok1, cellsAs, TI.agg, AV.cells, AV.whole, Option.getD_some, Option.bind_some, Option.map_some, List.set_cons_zero, List.set_cons_succ, List.length_cons, List.length_nil, List.getElem?_cons_zero, List.getElem?_cons_succ, List.drop_zero, List.take_succ_cons, List.take_zero, List.cons_append, List.nil_append, true_and, if_true, if_false, Nat.reduceAdd, Nat.reduceLeDiff, Nat.zero_add, Nat.add_zero, Nat.reduceLeDiff, reduceCtorEq, List.getD_eq_getElem?_getD]
  refine Ops.pure .free rfl rfl (h) (by simp only [aev, Option.getD_some, List.getElem?_cons_zero, List.getElem?_cons_succ, List.map_cons, List.map_nil, List.nil_append, List.append_nil, List.getD_eq_getElem?_getD]; (repeat' (first | exact LeL.nil | exact Le1L.nil | exact Le.refl _ | exact Le1.refl _ | exact Le1.nil _ | exact Le1.tok _ _ _ | exact LeR.one (Le.refl _) | apply LeR.tup | apply LeL.cons | apply Le1L.cons | apply Le.agg | apply Le.one | apply LeR.one))) rfl rfl ?_
  refine Ops.god tab_ok follows_ok Try.func39 60 ?_; simp only [Try.results39, drun, aops, aone, afin, ares, aresL, ares1, aresOk, aresOk1, aop, needs, ext, aev, aput, aupd, ok1, Option.getD_some, Option.bind_some, Option.map_some, List.set_cons_zero, List.set_cons_succ, List.getElem?_cons_zero, List.getElem?_cons_succ, List.cons_append, List.nil_append, true_and, and_true, if_false, reduceCtorEq, List.getD_eq_getElem?_getD]
  (repeat' (first | exact LeL.nil | exact Le1L.nil | exact Le.refl _ | exact Le1.refl _ | exact Le1.nil _ | exact Le1.tok _ _ _ | exact LeR.one (Le.refl _) | apply LeR.tup | apply LeL.cons | apply Le1L.cons | apply Le.agg | apply Le.one | apply LeR.one))
theorem wrapU (n : Nat) (h : n < 18446744073709551616) : IntKind.u64.wrap (n : Int) = n := by
  have e : (2 : Int) ^ IntKind.u64.bits = 18446744073709551616 := by decide
  simp only [IntKind.wrap, e, show IntKind.u64.signed = false from rfl, Bool.false_and, Bool.false_eq_true, if_false]
  omega
theorem sorted_le {l : List Giv} (hs : sortedG l) {i j : Nat} {x y : Giv} (hi : l[i]? = some x) (hj : l[j]? = some y) (h : i ≤ j) : x.id ≤ y.id := by
  rcases Nat.lt_or_ge i j with hlt | hge
  · unfold sortedG at hs
    rw [List.pairwise_iff_getElem] at hs
    obtain ⟨q1, rfl⟩ := List.getElem?_eq_some_iff.1 hi
    obtain ⟨q2, rfl⟩ := List.getElem?_eq_some_iff.1 hj
    exact Int.le_of_lt (hs _ _ q1 q2 hlt)
  · obtain rfl : i = j := by omega
    rw [hi] at hj; cases hj; exact Int.le_refl _
theorem cmpI_lt {a b : Int} : cmpI a b < 0 ↔ a < b := by unfold cmpI; split; omega; split <;> omega
theorem cmpI_eq {a b : Int} : cmpI a b = 0 ↔ a = b := by unfold cmpI; split; omega; split <;> omega
set_option maxRecDepth 20000 in
theorem search_spec (l : List Giv) (id : Int) (hs : sortedG l) (hl : l.length ≤ 1000000) : ASpec Try.prog 38 [givA l, .int .i64 id, .fn (.func 39) [] []] (.tup [.int .i64 (atL l id), .bool (hasL l id)]) := by
  refine ⟨⟨_, Try.func38, by kernel_rfl, rfl⟩, ACall.of Try.func38 rfl fun c0 hc0 => ?_⟩; simp only [Try.ntmps38, List.length_cons, List.length_nil, Nat.reduceAdd, Nat.reduceSub, List.replicate_succ, List.replicate_zero, List.cons_append, List.nil_append]; refine Run.god tab_ok follows_ok Try.func38 60 ?_; simp only [givA, List.length_map, drun, aops, aone, aop, needs, ext, aev, aconst, aput, aupd, alen, tab_30, ok1, Option.getD_some, Option.bind_some, List.set_cons_zero, List.set_cons_succ, List.getElem?_cons_zero, List.getElem?_cons_succ, List.length_map, List.nil_append, true_and, if_false, reduceCtorEq, List.getD_eq_getElem?_getD]
  refine Run.loopV (α := Nat × Nat) (fun q => q.1 ≤ q.2 ∧ q.2 ≤ l.length ∧ (∀ (j : Nat) x, j < q.1 → l[j]? = some x → x.id < id) ∧ ∀ (j : Nat) x, q.2 ≤ j → l[j]? = some x → ¬ x.id < id) (fun q => [(9, .int .i64 q.1), (10, .int .i64 q.2)]) 0 (fun _ => []) (fun q => q.2 - q.1) (0, l.length) ⟨Nat.zero_le _, Nat.le_refl _, fun j x h => absurd h (Nat.not_lt_zero j), fun j x h hx => absurd (List.getElem?_eq_some_iff.1 hx).1 (Nat.not_lt.2 h)⟩ ?_ ?_
  · simp only [writes, junks, puts, hputs, List.filterMap_cons, List.filterMap_nil, Int.natCast_zero, List.set_cons_zero, List.set_cons_succ, List.take_nil, List.cons_append, List.nil_append, List.append_nil]
    (refine Weak.of (by simp [hc0]) ?_ ?_ <;> (repeat' (first | exact WkT.nil | exact WkH.nil _ | exact Le.refl _ | exact Le.junk _ | exact Le1.refl _ | exact Le1.nil _ | exact Le1.tok _ _ _ | exact Le1L.nil | rfl | apply WkT.cons | apply WkH.cons | apply LeB.same | apply LeB.box | apply Le1L.cons | apply Le.agg | apply Le.one)))
  · rintro ⟨i, m⟩ ⟨h1, h2, h3, h4⟩ ih
    simp only [writes, junks, puts, hputs, List.filterMap_cons, List.filterMap_nil, List.set_cons_zero, List.set_cons_succ, List.take_nil, List.cons_append, List.nil_append, List.append_nil] at h1 h2 h3 h4 ih ⊢
    by_cases hk : i < m
    case neg =>
      have hkk : ¬ (i : Int) < m := by omega
      obtain rfl : i = m := by omega
      obtain rfl := atL_of h2 h3 h4
      by_cases hil : atL l id < l.length
      · obtain ⟨x, hx⟩ : ∃ x, l[atL l id]? = some x := ⟨_, List.getElem?_eq_getElem hil⟩
        have hil2 : (atL l id : Int) < l.length := by omega
        have hc := placeF_spec x id
        have hh : hasL l id = decide (cmpI x.id id = 0) := by
          rw [Bool.eq_iff_iff, has_at hs, decide_eq_true_eq, cmpI_eq]
          constructor
          · rintro ⟨y, hy, e⟩; rw [hx] at hy; cases hy; exact e
          · exact fun e => ⟨x, hx, e⟩
        rw [hh]
        refine Run.god tab_ok follows_ok Try.func38 60 ?_; simp only [hkk, hil2, hx, decide_true, decide_false, List.length_map, List.getElem?_map, givC, eq_self, ↓alt_f, ↓alts_t, ↓gone_tt, gslot, drun, aops, aone, aop, needs, ext, aev, aput, aupd, aload, aindexAddr, acmp, ashift, abin, tab_3, tab_30, tab_105, ok1, cellsAs, TI.agg, exitTo, Option.getD_some, Option.bind_some, Option.map_some, List.set_cons_zero, List.set_cons_succ, List.length_cons, List.length_nil, List.getElem?_cons_zero, List.getElem?_cons_succ, List.getElem?_toArray, List.take_succ_cons, List.take_nil, List.length_map, List.nil_append, true_and, and_true, if_true, if_false, Nat.reduceAdd, Nat.zero_add, beq_self_eq_true, decide_true, decide_false, Nat.reduceLT, reduceCtorEq, Nat.le_refl, Int.toNat_natCast, List.getD_eq_getElem?_getD]
        ((repeat' (apply And.intro)) <;> try (first | rfl | omega | (unfold I64; omega)))
        refine Ops.pure (Wanted.test 4 true true rfl) rfl rfl (hc) (by simp only [encGi, givC, aev, Option.getD_some, List.getElem?_cons_zero, List.getElem?_cons_succ, List.map_cons, List.map_nil, List.nil_append, List.append_nil, List.getD_eq_getElem?_getD]; (repeat' (first | exact LeL.nil | exact Le1L.nil | exact Le.refl _ | exact Le1.refl _ | exact Le1.nil _ | exact Le1.tok _ _ _ | exact LeR.one (Le.refl _) | apply LeR.tup | apply LeL.cons | apply Le1L.cons | apply Le.agg | apply Le.one | apply LeR.one))) rfl rfl ?_
        refine Ops.god tab_ok follows_ok Try.func38 60 ?_; simp only [Try.results38, eq_self, ↓alts_t, ↓gone_tt, gslot, drun, aops, aone, afin, ares, aresL, ares1, aresOk, aresOk1, aop, needs, ext, aev, aconst, aput, aupd, acmp, ashift, abin, tab_3, ok1, Option.getD_some, Option.bind_some, Option.map_some, List.set_cons_zero, List.set_cons_succ, List.getElem?_cons_zero, List.getElem?_cons_succ, List.getElem?_toArray, List.nil_append, true_and, and_true, if_true, if_false, reduceCtorEq, List.getD_eq_getElem?_getD]
        (repeat' (first | exact LeL.nil | exact Le1L.nil | exact Le.refl _ | exact Le1.refl _ | exact Le1.nil _ | exact Le1.tok _ _ _ | exact LeR.one (Le.refl _) | apply LeR.tup | apply LeL.cons | apply Le1L.cons | apply Le.agg | apply Le.one | apply LeR.one))
      · have hil2 : ¬ (atL l id : Int) < l.length := by omega
        have hh : hasL l id = false := by
          rw [← Bool.not_eq_true, has_at hs]
          rintro ⟨y, hy, _⟩
          exact hil (List.getElem?_eq_some_iff.1 hy).1
        rw [hh]
        refine Run.god tab_ok follows_ok Try.func38 60 ?_; simp only [Try.results38, hkk, hil2, decide_false, eq_self, ↓alt_f, ↓alts_f, ↓gone_tf, gslot, drun, aops, aone, afin, ares, aresL, ares1, aresOk, aresOk1, aop, needs, ext, aev, aconst, aput, aupd, acmp, ashift, abin, tab_3, ok1, exitTo, Option.getD_some, Option.bind_some, Option.map_some, List.set_cons_zero, List.set_cons_succ, List.getElem?_cons_zero, List.getElem?_cons_succ, List.getElem?_toArray, List.nil_append, true_and, and_true, if_true, if_false, beq_self_eq_true, decide_false, reduceCtorEq, List.getD_eq_getElem?_getD]
        (repeat' (first | exact LeL.nil | exact Le1L.nil | exact Le.refl _ | exact Le1.refl _ | exact Le1.nil _ | exact Le1.tok _ _ _ | exact LeR.one (Le.refl _) | apply LeR.tup | apply LeL.cons | apply Le1L.cons | apply Le.agg | apply Le.one | apply LeR.one))
    case pos =>
      have hkk : (i : Int) < m := by omega
      obtain ⟨h, hh⟩ : ∃ h, h = (i + m) / 2 := ⟨_, rfl⟩
      obtain ⟨x, hx⟩ : ∃ x, l[h]? = some x := ⟨_, List.getElem?_eq_getElem (by omega)⟩
      have hc := placeF_spec x id
      have hlt : (h : Int) < l.length := by omega
      have hmid : IntKind.i64.wrap ((IntKind.u64.wrap ((i : Int) + m)).fdiv (2 ^ min 1 IntKind.u64.bits)) = (h : Int) := by
        have e1 : IntKind.u64.wrap ((i : Int) + m) = ((i + m : Nat) : Int) := by rw [← Int.natCast_add]; exact wrapU (i + m) (by omega)
        have e2 : (2 : Int) ^ min 1 IntKind.u64.bits = 2 := by decide
        have e3 : ((i + m : Nat) : Int).fdiv 2 = h := by rw [Int.fdiv_eq_ediv_of_nonneg _ (by omega)]; omega
        rw [e1, e2, e3]
        exact IntWalk.i64_in _ ⟨by omega, by omega⟩
      refine Run.god tab_ok follows_ok Try.func38 60 ?_; simp only [hkk, hmid, hlt, hx, decide_true, List.length_map, List.getElem?_map, givC, eq_self, Int.reduceToNat, ↓alt_t, Int.reduceLE, drun, aops, aone, aop, needs, ext, aev, aconst, aput, aupd, aload, aindexAddr, acmp, aarith, ashift, abin, aconv, tab_3, tab_30, tab_105, tab_137, ok1, cellsAs, TI.agg, Option.getD_some, Option.bind_some, Option.map_some, List.set_cons_zero, List.set_cons_succ, List.length_cons, List.length_nil, List.getElem?_cons_zero, List.getElem?_cons_succ, List.take_succ_cons, List.take_nil, List.length_map, List.nil_append, true_and, and_true, if_true, if_false, Nat.reduceAdd, Nat.zero_add, decide_true, Nat.reduceLT, reduceCtorEq, Nat.le_refl, Int.toNat_natCast, List.getD_eq_getElem?_getD]
      ((repeat' (apply And.intro)) <;> try (first | rfl | omega | (unfold I64; omega)))
      refine Ops.pure .free rfl rfl (hc) (by simp only [encGi, givC, aev, Option.getD_some, List.getElem?_cons_zero, List.getElem?_cons_succ, List.map_cons, List.map_nil, List.nil_append, List.append_nil, List.getD_eq_getElem?_getD]; (repeat' (first | exact LeL.nil | exact Le1L.nil | exact Le.refl _ | exact Le1.refl _ | exact Le1.nil _ | exact Le1.tok _ _ _ | exact LeR.one (Le.refl _) | apply LeR.tup | apply LeL.cons | apply Le1L.cons | apply Le.agg | apply Le.one | apply LeR.one))) rfl rfl ?_
      by_cases hcm : x.id < id
      · refine Ops.god tab_ok follows_ok Try.func38 60 ?_; simp only [cmpI_lt, hcm, decide_true, eq_self, ↓alt_t, drun, aops, aone, aop, needs, ext, aev, aconst, aput, aupd, acmp, aarith, ashift, abin, tab_3, ok1, Option.getD_some, Option.bind_some, List.set_cons_zero, List.set_cons_succ, List.getElem?_cons_zero, List.getElem?_cons_succ, List.nil_append, true_and, if_true, if_false, decide_true, reduceCtorEq, List.getD_eq_getElem?_getD]
        ((repeat' (apply And.intro)) <;> try (first | rfl | omega | (unfold I64; omega)))
        refine ih (h + 1, m) _ ⟨by dsimp only; omega, h2, fun j y hj hy => ?_, h4⟩ (by dsimp only; omega) ?_
        · have := sorted_le hs hy hx (by dsimp only at hj; omega)
          omega
        · simp only [Int.natCast_add, Int.natCast_one]
          (refine Weak.of (by simp [hc0]) ?_ ?_ <;> (repeat' (first | exact WkT.nil | exact WkH.nil _ | exact Le.refl _ | exact Le.junk _ | exact Le1.refl _ | exact Le1.nil _ | exact Le1.tok _ _ _ | exact Le1L.nil | rfl | apply WkT.cons | apply WkH.cons | apply LeB.same | apply LeB.box | apply Le1L.cons | apply Le.agg | apply Le.one)))
      · refine Ops.god tab_ok follows_ok Try.func38 60 ?_; simp only [cmpI_lt, hcm, decide_false, eq_self, ↓alt_f, drun, aops, aone, aop, needs, ext, aev, aconst, aput, aupd, acmp, ashift, abin, tab_3, ok1, Option.getD_some, Option.bind_some, List.set_cons_zero, List.set_cons_succ, List.getElem?_cons_zero, List.getElem?_cons_succ, List.nil_append, true_and, if_true, if_false, decide_false, reduceCtorEq, List.getD_eq_getElem?_getD]
        ((repeat' (apply And.intro)) <;> try (first | rfl | omega | (unfold I64; omega)))
        refine ih (i, h) _ ⟨by dsimp only; omega, by dsimp only; omega, h3, fun j y hj hy => ?_⟩ (by dsimp only; omega) ?_
        · have := sorted_le hs hx hy (by dsimp only at hj; omega)
          omega
        · simp only []
          (refine Weak.of (by simp [hc0]) ?_ ?_ <;> (repeat' (first | exact WkT.nil | exact WkH.nil _ | exact Le.refl _ | exact Le.junk _ | exact Le1.refl _ | exact Le1.nil _ | exact Le1.tok _ _ _ | exact Le1L.nil | rfl | apply WkT.cons | apply WkH.cons | apply LeB.same | apply LeB.box | apply Le1L.cons | apply Le.agg | apply Le.one)))
end Go.Proofs.Ytkamcoechjdgpaa
