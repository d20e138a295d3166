/-
  order's reader: its ints and its text, in the caller's blocks.
-/
import Derived.Test.YtpigfpnpabnnbaaOm
namespace Go.Proofs.Ytpigfpnpabnnbaa
open Go.RowKit
theorem takeN_err' {b : Bytes} {z : Int} (h : takeN b = .error z) : ¬ z = 0 := by rcases takeN_err h with h | h <;> omega
theorem takeZ_err {b : Bytes} {z : Int} (h : takeZ b = .error z) : ¬ z = 0 := by
  unfold takeZ at h
  split at h
  · rename_i z' h'
    cases h
    exact takeN_err' h'
  · cases h
/-- Numbers taken, each laid at its place. -/
def rdI : List Nat → List AV → Bytes → Int → List AV × Bytes × Int
  | [], cs, b, e => (cs, b, e)
  | o :: os, cs, b, e => if e = 0 then match takeZ b with
      | .ok (n, r) => rdI os (lay cs o [.int .i64 n]) r 0
      | .error z => rdI os (lay cs o [.int .i64 0]) [] z
    else rdI os cs b e
theorem bel_ps (n i : Nat) (h : i < n) : ∀ offs : List Nat, belLL n (offs.map fun o => [.ptr i o]) = true
  | [] => rfl
  | o :: offs => by simp [belLL, belL, AV.bel, h, bel_ps n i h offs]
theorem bel_app {n : Nat} : ∀ {a b : List AV}, belL n a = true → belL n b = true → belL n (a ++ b) = true
  | [], b, _, h => h
  | x :: a, b, h, h' => by
    simp only [belL, Bool.and_eq_true, List.cons_append] at h ⊢
    exact ⟨h.1, bel_app h.2 h'⟩
theorem bel_sub {n : Nat} {l : List AV} (h : belL n l = true) (o : Nat) : belL n (l.take o) = true ∧ belL n (l.drop o) = true := by
  induction l generalizing o with
  | nil => simp [belL]
  | cons x l ih =>
    simp only [belL, Bool.and_eq_true] at h
    cases o with
    | zero => exact ⟨rfl, by simp [belL, h.1, h.2]⟩
    | succ o =>
      obtain ⟨h1, h2⟩ := ih h.2 o
      exact ⟨by simp [belL, h.1, h1], by simpa using h2⟩
theorem bel_lay {n : Nat} {cs xs : List AV} (o : Nat) (h : belL n cs = true) (h' : belL n xs = true) : belL n (lay cs o xs) = true := bel_app (bel_app (bel_sub h _).1 h') (bel_sub h _).2
theorem lay_length {cs xs : List AV} {o : Nat} (h : o + xs.length ≤ cs.length) : (lay cs o xs).length = cs.length := by simp [lay]; omega
theorem rdI_ok {o : Nat} {os : List Nat} {cs : List AV} {b : Bytes} {n : Int} {r : Bytes} (h : takeZ b = .ok (n, r)) : rdI (o :: os) cs b 0 = rdI os (lay cs o [.int .i64 n]) r 0 := by simp [rdI, h]
theorem rdI_error {o : Nat} {os : List Nat} {cs : List AV} {b : Bytes} {z : Int} (h : takeZ b = .error z) : rdI (o :: os) cs b 0 = rdI os (lay cs o [.int .i64 0]) [] z := by simp [rdI, h]
theorem rdI_no {o : Nat} {os : List Nat} {cs : List AV} {b : Bytes} {e : Int} (h : ¬ e = 0) : rdI (o :: os) cs b e = rdI os cs b e := by simp [rdI, h]
set_option maxRecDepth 20000 in
theorem rints_call (offs : List Nat) (ho : offs.length ≤ 1000) (hoo : ∀ o ∈ offs, o < 8) (z : ABlk) (hz : z.bel 4 = true) (q : ABlk) (hq : q.bel 4 = true) (b : Bytes) (cs : List AV) (hcs : cs.length = 8) (hbe : belL 4 cs = true) (R : AV → List ABlk → Prop)
    (hR : R (.tup []) [z, .box [bytesA (rdI offs cs b 0).2.1, .int .i64 (rdI offs cs b 0).2.2], .box (rdI offs cs b 0).1, q]) :
    ACall Try.prog 57 [.ptr 1 0, .psl 1 (offs.map fun o => [.ptr 2 o])] [z, .box [bytesA b, .int .i64 0], .box cs, q] R := by
  refine ACall.of Try.func57 rfl fun c1 hc1 => ?_; simp only [Try.ntmps57, List.length_cons, List.length_nil, Nat.reduceAdd, Nat.reduceSub, List.replicate_succ, List.replicate_zero, List.cons_append, List.nil_append]; refine Run.god tab_ok follows_ok Try.func57 60 ?_; simp only [drun, aops, aone, aop, needs, ext, aev, aconst, aput, aupd, alen, tab_91, ok1, Option.getD_some, Option.bind_some, List.set_cons_zero, List.set_cons_succ, List.getElem?_cons_zero, List.getElem?_cons_succ, List.length_map, List.cons_append, List.nil_append, true_and, if_false, reduceCtorEq, List.getD_eq_getElem?_getD]
  refine Run.loopV (α := Nat × List AV × Bytes × Int) (fun x => x.1 ≤ offs.length ∧ x.2.1.length = 8 ∧ belL 4 x.2.1 = true ∧ rdI (offs.drop x.1) x.2.1 x.2.2.1 x.2.2.2 = rdI offs cs b 0) (fun x => [(8, .int .i64 x.1)]) 4 (fun x => [(1, .box [bytesA x.2.2.1, .int .i64 x.2.2.2]), (2, .box x.2.1)]) (fun x => offs.length - x.1) (0, cs, b, 0) ⟨Nat.zero_le _, hcs, hbe, rfl⟩ ?_ ?_
  · simp only [writes, junks, puts, hputs, List.filterMap_cons, List.filterMap_nil, Int.natCast_zero, List.set_cons_zero, List.set_cons_succ, List.take_succ_cons, List.take_nil, List.cons_append, List.nil_append, List.append_nil]
    (refine Weak.of (by simp [hc1]) ?_ ?_ <;> (repeat' (first | exact WkT.nil | exact WkH.nil _ | exact Le.refl _ | exact Le.junk _ | exact Le1.refl _ | exact Le1.nil _ | exact Le1.tok _ _ _ | exact Le1L.nil | rfl | assumption | exact bel_ps 4 2 (by omega) offs | exact hbl | apply WkT.cons | apply WkH.cons | apply LeB.same | apply LeB.box | apply Le1L.cons | apply Le.agg | apply Le.one)))
  · rintro ⟨k, xs, y, e⟩ ⟨hI, hxs, hxb, hrd⟩ ih
    simp only [writes, junks, puts, hputs, List.filterMap_cons, List.filterMap_nil, List.set_cons_zero, List.set_cons_succ, List.take_succ_cons, List.take_nil, List.cons_append, List.nil_append, List.append_nil] at hI hxs hxb hrd ih ⊢
    by_cases hk : k < offs.length
    · obtain ⟨o, hx⟩ : ∃ x, offs[k]? = some x := ⟨_, List.getElem?_eq_getElem hk⟩
      have hkk : (k : Int) < offs.length := by omega
      have ho8 := hoo o (List.mem_of_getElem? hx)
      have hd : offs.drop k = o :: offs.drop (k + 1) := by
        obtain ⟨hk', rfl⟩ := List.getElem?_eq_some_iff.1 hx
        exact List.drop_eq_getElem_cons hk'
      rw [hd] at hrd
      by_cases he : e = 0
      · subst he
        cases ht : takeZ y with
        | error z =>
          rw [rdI_error ht] at hrd
          have hsp := takeint_spec y
          rw [ht] at hsp
          refine Run.god tab_ok follows_ok Try.func57 60 ?_; simp only [hx, hkk, bytesA, List.getElem?_map, List.length_map, eq_self, ↓alt_t, drun, aops, aone, aop, needs, ext, aev, aconst, aput, aupd, aload, afieldAddr, aindexAddr, acmp, ashift, abin, tab_3, tab_23, tab_33, tab_84, tab_86, tab_91, ok1, cellsAs, TI.agg, Option.getD_some, Option.bind_some, Option.map_some, List.set_cons_zero, List.set_cons_succ, List.length_cons, List.length_nil, List.getElem?_cons_zero, List.getElem?_cons_succ, List.drop_zero, List.drop_succ_cons, List.take_succ_cons, List.take_zero, List.take_nil, List.length_map, List.cons_append, List.nil_append, true_and, and_true, if_true, if_false, Nat.reduceAdd, Nat.reduceLeDiff, Nat.zero_add, Nat.add_zero, decide_true, Nat.reduceLT, Nat.reduceLeDiff, reduceCtorEq, Nat.le_refl, Int.toNat_natCast, List.getD_eq_getElem?_getD]
          refine ⟨by omega, ?_⟩
          refine Ops.pure .free rfl rfl (hsp) (by simp only [bytesA, aev, Option.getD_some, List.getElem?_cons_zero, List.getElem?_cons_succ, List.map_cons, List.map_nil, List.nil_append, List.append_nil, List.getD_eq_getElem?_getD]; (repeat' (first | exact LeL.nil | exact Le1L.nil | exact Le.refl _ | exact Le1.refl _ | exact Le1.nil _ | exact Le1.tok _ _ _ | exact LeR.one (Le.refl _) | apply LeR.tup | apply LeL.cons | apply Le1L.cons | apply Le.agg | apply Le.one | apply LeR.one))) rfl rfl ?_
          refine Ops.god tab_ok follows_ok Try.func57 60 ?_; simp only [takeZA, bytesA, eq_self, drun, aops, aone, aop, needs, ext, aev, aconst, aput, aupd, astore, afieldAddr, acmp, aarith, ashift, abin, tab_3, tab_23, tab_33, tab_84, ok1, lay, AV.cells, AV.whole, Option.getD_some, Option.bind_some, Option.map_some, List.set_cons_zero, List.set_cons_succ, List.length_cons, List.length_nil, List.getElem?_cons_zero, List.getElem?_cons_succ, List.drop_zero, List.drop_succ_cons, List.take_succ_cons, List.take_zero, List.drop_nil, List.map_nil, List.cons_append, List.nil_append, List.append_nil, true_and, and_true, if_true, if_false, Nat.reduceAdd, Nat.reduceLeDiff, Nat.zero_add, Nat.add_zero, Nat.reduceLeDiff, reduceCtorEq, Nat.le_refl, List.getD_eq_getElem?_getD]
          have hbl : belL 4 (lay xs o [.int .i64 0]) = true := bel_lay o hxb rfl
          refine ⟨by omega, by unfold I64; omega, ih (k + 1, lay xs o [.int .i64 0], [], z) _ ⟨by omega, by rw [lay_length (by simp; omega)]; exact hxs, hbl, hrd⟩ (by simp; omega) ?_⟩
          simp only [lay, Int.natCast_add, Int.natCast_one, List.length_cons, List.length_nil, List.map_nil, Nat.zero_add, bytesA] at hbl ⊢
          (refine Weak.of (by simp [hc1]) ?_ ?_ <;> (repeat' (first | exact WkT.nil | exact WkH.nil _ | exact Le.refl _ | exact Le.junk _ | exact Le1.refl _ | exact Le1.nil _ | exact Le1.tok _ _ _ | exact Le1L.nil | rfl | assumption | exact bel_ps 4 2 (by omega) offs | exact hbl | apply WkT.cons | apply WkH.cons | apply LeB.same | apply LeB.box | apply Le1L.cons | apply Le.agg | apply Le.one)))
        | ok p =>
          obtain ⟨n, r⟩ := p
          rw [rdI_ok ht] at hrd
          have hsp := takeint_spec y
          rw [ht] at hsp
          refine Run.god tab_ok follows_ok Try.func57 60 ?_; simp only [hx, hkk, bytesA, List.getElem?_map, List.length_map, eq_self, ↓alt_t, drun, aops, aone, aop, needs, ext, aev, aconst, aput, aupd, aload, afieldAddr, aindexAddr, acmp, ashift, abin, tab_3, tab_23, tab_33, tab_84, tab_86, tab_91, ok1, cellsAs, TI.agg, Option.getD_some, Option.bind_some, Option.map_some, List.set_cons_zero, List.set_cons_succ, List.length_cons, List.length_nil, List.getElem?_cons_zero, List.getElem?_cons_succ, List.drop_zero, List.drop_succ_cons, List.take_succ_cons, List.take_zero, List.take_nil, List.length_map, List.cons_append, List.nil_append, true_and, and_true, if_true, if_false, Nat.reduceAdd, Nat.reduceLeDiff, Nat.zero_add, Nat.add_zero, decide_true, Nat.reduceLT, Nat.reduceLeDiff, reduceCtorEq, Nat.le_refl, Int.toNat_natCast, List.getD_eq_getElem?_getD]
          refine ⟨by omega, ?_⟩
          refine Ops.pure .free rfl rfl (hsp) (by simp only [bytesA, aev, Option.getD_some, List.getElem?_cons_zero, List.getElem?_cons_succ, List.map_cons, List.map_nil, List.nil_append, List.append_nil, List.getD_eq_getElem?_getD]; (repeat' (first | exact LeL.nil | exact Le1L.nil | exact Le.refl _ | exact Le1.refl _ | exact Le1.nil _ | exact Le1.tok _ _ _ | exact LeR.one (Le.refl _) | apply LeR.tup | apply LeL.cons | apply Le1L.cons | apply Le.agg | apply Le.one | apply LeR.one))) rfl rfl ?_
          refine Ops.god tab_ok follows_ok Try.func57 60 ?_; simp only [takeZA, bytesA, eq_self, drun, aops, aone, aop, needs, ext, aev, aconst, aput, aupd, astore, afieldAddr, acmp, aarith, ashift, abin, tab_3, tab_23, tab_33, tab_84, ok1, lay, AV.cells, AV.whole, Option.getD_some, Option.bind_some, Option.map_some, List.set_cons_zero, List.set_cons_succ, List.length_cons, List.length_nil, List.getElem?_cons_zero, List.getElem?_cons_succ, List.drop_zero, List.drop_succ_cons, List.take_succ_cons, List.take_zero, List.drop_nil, List.cons_append, List.nil_append, List.append_nil, true_and, and_true, if_true, if_false, Nat.reduceAdd, Nat.reduceLeDiff, Nat.zero_add, Nat.add_zero, Nat.reduceLeDiff, reduceCtorEq, Nat.le_refl, List.getD_eq_getElem?_getD]
          have hbl : belL 4 (lay xs o [.int .i64 n]) = true := bel_lay o hxb rfl
          refine ⟨by omega, by unfold I64; omega, ih (k + 1, lay xs o [.int .i64 n], r, 0) _ ⟨by omega, by rw [lay_length (by simp; omega)]; exact hxs, hbl, hrd⟩ (by simp; omega) ?_⟩
          simp only [lay, Int.natCast_add, Int.natCast_one, List.length_cons, List.length_nil, Nat.zero_add, bytesA] at hbl ⊢
          (refine Weak.of (by simp [hc1]) ?_ ?_ <;> (repeat' (first | exact WkT.nil | exact WkH.nil _ | exact Le.refl _ | exact Le.junk _ | exact Le1.refl _ | exact Le1.nil _ | exact Le1.tok _ _ _ | exact Le1L.nil | rfl | assumption | exact bel_ps 4 2 (by omega) offs | exact hbl | apply WkT.cons | apply WkH.cons | apply LeB.same | apply LeB.box | apply Le1L.cons | apply Le.agg | apply Le.one)))
      · rw [rdI_no he] at hrd
        refine Run.god tab_ok follows_ok Try.func57 60 ?_; simp only [hx, hkk, he, bytesA, List.getElem?_map, List.length_map, eq_self, ↓alt_t, ↓alt_f, drun, aops, aone, aop, needs, ext, aev, aconst, aput, aupd, aload, afieldAddr, aindexAddr, acmp, aarith, ashift, abin, tab_3, tab_33, tab_84, tab_86, tab_91, ok1, cellsAs, TI.agg, Option.getD_some, Option.bind_some, Option.map_some, List.set_cons_zero, List.set_cons_succ, List.length_cons, List.length_nil, List.getElem?_cons_zero, List.getElem?_cons_succ, List.drop_zero, List.drop_succ_cons, List.take_succ_cons, List.take_nil, List.length_map, List.cons_append, List.nil_append, true_and, and_true, if_true, if_false, Nat.reduceAdd, Nat.zero_add, decide_true, decide_false, Nat.reduceLT, reduceCtorEq, Nat.le_refl, Int.toNat_natCast, List.getD_eq_getElem?_getD]
        refine ⟨by omega, by unfold I64; omega, ih (k + 1, xs, y, e) _ ⟨by omega, hxs, hxb, hrd⟩ (by simp; omega) ?_⟩
        simp only [Int.natCast_add, Int.natCast_one, bytesA]
        (refine Weak.of (by simp [hc1]) ?_ ?_ <;> (repeat' (first | exact WkT.nil | exact WkH.nil _ | exact Le.refl _ | exact Le.junk _ | exact Le1.refl _ | exact Le1.nil _ | exact Le1.tok _ _ _ | exact Le1L.nil | rfl | assumption | exact bel_ps 4 2 (by omega) offs | exact hbl | apply WkT.cons | apply WkH.cons | apply LeB.same | apply LeB.box | apply Le1L.cons | apply Le.agg | apply Le.one)))
    · obtain rfl : k = offs.length := by omega
      rw [List.drop_length] at hrd
      have hkk : ¬ (offs.length : Int) < offs.length := by omega
      refine Run.god tab_ok follows_ok Try.func57 60 ?_; simp only [Try.results57, hkk, bytesA, eq_self, ↓alt_f, drun, aops, aone, afin, ares, aresL, aresOk, aop, needs, ext, aev, aput, aupd, acmp, ashift, abin, tab_3, ok1, exitTo, Option.getD_some, Option.bind_some, Option.map_some, List.set_cons_zero, List.set_cons_succ, List.getElem?_cons_zero, List.getElem?_cons_succ, List.cons_append, List.nil_append, true_and, if_true, if_false, beq_self_eq_true, decide_false, reduceCtorEq, List.getD_eq_getElem?_getD]
      rw [← hrd] at hR
      exact hR
end Go.Proofs.Ytpigfpnpabnnbaa
