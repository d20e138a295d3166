/-
  octet.List and octet.TakeList, told by their shadows; order.PutReply.
-/
import Derived.Test.YtpigfpnpabnnbaaPd
namespace Go.Proofs.Ytpigfpnpabnnbaa
open Go.RowKit
def textC (s : Bytes) : List AV := [.str s]
def textsA (l : List Bytes) : AV := .sl 1 (l.map textC) .no
theorem put_spec (b : Bytes) (n : Nat) (hb : b.length ≤ 1000000) (h1 : n < 18446744073709551616) : OSpec Try.prog 14 [bytesA b, .int .u64 n] 1 ((b ++ encN n).map byteC) := by
  refine own_spec ⟨_, Try.func14, by kernel_rfl, rfl⟩ fun c vs hh hc hr => ?_
  obtain ⟨u, v, rfl, hu, hv⟩ := hr.two
  obtain ⟨A, cap, rfl, g1, g2, hs⟩ := hu.bytes
  cases hv
  refine (put_any A b b.length cap n rfl g1 g2 h1 hb c.w hs).mono ?_
  rintro e w' ⟨v, rfl, h, hb⟩
  exact ⟨v, _, rfl, h, hb⟩
set_option maxRecDepth 20000 in
theorem list_spec (b : Bytes) (l : List Bytes) (hb : b.length + tot l ≤ 900000) : ASpec Try.prog 23 [bytesA b, textsA l] (bytesA (b ++ encL l)) := by
  have hll := tot_length l
  have hn := encN_le l.length (by omega)
  have hw : IntKind.u64.wrap (l.length : Int) = l.length := wrap_nat _ (by omega)
  refine ⟨⟨_, Try.func23, by kernel_rfl, rfl⟩, ACall.of Try.func23 rfl fun c0 hc0 => ?_⟩; simp only [Try.ntmps23, List.length_cons, List.length_nil, Nat.reduceAdd, Nat.reduceSub, List.replicate_succ, List.replicate_zero, List.cons_append, List.nil_append]; refine Run.god tab_ok follows_ok Try.func23 60 ?_; simp only [bytesA, textsA, hw, List.length_map, drun, aops, aone, aop, needs, ext, aev, aconst, aput, aupd, aconv, alen, tab_3, tab_22, tab_28, ok1, Option.getD_some, Option.bind_some, List.set_cons_zero, List.set_cons_succ, List.getElem?_cons_zero, List.getElem?_cons_succ, List.length_map, List.nil_append, true_and, if_false, Nat.reduceAdd, Nat.zero_add, reduceCtorEq, List.getD_eq_getElem?_getD]
  refine Ops.pure .free rfl rfl ((put_spec b l.length (by omega) (by omega)).spec) (by simp only [bytesA, aev, Option.getD_some, List.getElem?_cons_zero, List.getElem?_cons_succ, List.map_cons, List.map_nil, List.nil_append, List.append_nil, List.getD_eq_getElem?_getD]; (repeat' (first | exact LeL.nil | exact Le1L.nil | exact Le.refl _ | exact Le1.refl _ | exact Le1.nil _ | exact Le1.tok _ _ _ | exact LeR.one (Le.refl _) | apply LeR.tup | apply LeL.cons | apply Le1L.cons | apply Le.agg | apply Le.one | apply LeR.one))) rfl rfl ?_
  refine Ops.god tab_ok follows_ok Try.func23 60 ?_; simp only [List.length_map, drun, aops, aone, aop, needs, ext, aev, aconst, aput, aupd, alen, tab_28, ok1, Option.getD_some, Option.bind_some, List.set_cons_zero, List.set_cons_succ, List.getElem?_cons_zero, List.getElem?_cons_succ, List.length_map, List.nil_append, true_and, if_false, reduceCtorEq, List.getD_eq_getElem?_getD]
  refine Run.loopV (α := Nat) (fun k => k ≤ l.length) (fun k => [(5, bytesA (b ++ encN l.length ++ encRow (l.take k))), (15, .int .i64 k)]) 0 (fun _ => []) (fun k => l.length - k) 0 (Nat.zero_le _) ?_ ?_
  · simp only [writes, junks, puts, hputs, List.filterMap_cons, List.filterMap_nil, Int.natCast_zero, List.set_cons_zero, List.set_cons_succ, List.take_zero, List.take_nil, List.map_nil, List.cons_append, List.nil_append, List.append_nil, bytesA, encRow, List.flatten_nil]
    (refine Weak.of (by simp [hc0]) ?_ ?_ <;> (repeat' (first | exact WkT.nil | exact WkH.nil _ | exact Le.refl _ | exact Le.junk _ | exact Le1.refl _ | exact Le1.nil _ | exact Le1.tok _ _ _ | exact Le1L.nil | rfl | apply WkT.cons | apply WkH.cons | apply LeB.same | apply LeB.box | apply Le1L.cons | apply Le.agg | apply Le.one)))
  · intro k hI ih
    simp only [writes, junks, puts, hputs, List.filterMap_cons, List.filterMap_nil, List.set_cons_zero, List.set_cons_succ, List.take_nil, List.cons_append, List.nil_append, List.append_nil] at ih ⊢
    by_cases hk : k < l.length
    · obtain ⟨x, hx⟩ : ∃ x, l[k]? = some x := ⟨_, List.getElem?_eq_getElem hk⟩
      have hkk : (k : Int) < l.length := by omega
      have hxt := tot_mem hx
      have hle := encRow_le (l.take k) (by have := tot_take l k; omega)
      have htk := tot_take l k
      have hsn := encRow_succ l k x hx
      refine Run.god tab_ok follows_ok Try.func23 60 ?_; simp only [hx, hkk, textC, List.getElem?_map, List.length_map, eq_self, ↓alt_t, drun, aops, aone, aop, needs, ext, aev, aput, aupd, aload, aindexAddr, acmp, ashift, abin, tab_3, tab_9, tab_28, ok1, cellsAs, TI.agg, Option.getD_some, Option.bind_some, Option.map_some, List.set_cons_zero, List.set_cons_succ, List.length_cons, List.length_nil, List.getElem?_cons_zero, List.getElem?_cons_succ, List.take_succ_cons, List.take_nil, List.length_map, List.nil_append, true_and, and_true, if_true, if_false, Nat.reduceAdd, Nat.zero_add, decide_true, Nat.reduceLT, reduceCtorEq, Nat.le_refl, Int.toNat_natCast, List.getD_eq_getElem?_getD]
      refine ⟨by omega, ?_⟩
      refine Ops.own .free rfl rfl (text_spec (b ++ encN l.length ++ encRow (l.take k)) x (by simp only [List.length_append]; omega) (by omega)) (by simp only [bytesA, aev, Option.getD_some, List.getElem?_cons_zero, List.getElem?_cons_succ, List.map_cons, List.map_nil, List.nil_append, List.append_nil, List.getD_eq_getElem?_getD]; (repeat' (first | exact LeL.nil | exact Le1L.nil | exact Le.refl _ | exact Le1.refl _ | exact Le1.nil _ | exact Le1.tok _ _ _ | exact LeR.one (Le.refl _) | apply LeR.tup | apply LeL.cons | apply Le1L.cons | apply Le.agg | apply Le.one | apply LeR.one))) rfl ?_
      refine Ops.god tab_ok follows_ok Try.func23 60 ?_; simp only [bytesA, eq_self, drun, aops, aone, aop, needs, ext, aev, aconst, aput, aupd, acmp, aarith, ashift, abin, tab_3, ok1, Option.getD_some, Option.bind_some, List.set_cons_zero, List.set_cons_succ, List.length_nil, List.getElem?_cons_zero, List.getElem?_cons_succ, List.length_map, List.cons_append, List.nil_append, true_and, if_true, if_false, reduceCtorEq, List.getD_eq_getElem?_getD]
      refine ⟨by unfold I64; omega, ih (k + 1) _ (by omega) (by omega) ?_⟩
      rw [hsn, ← List.append_assoc]
      simp only [Int.natCast_add, Int.natCast_one, bytesA]
      (refine Weak.of (by simp [hc0]) ?_ ?_ <;> (repeat' (first | exact WkT.nil | exact WkH.nil _ | exact Le.refl _ | exact Le.junk _ | exact Le1.refl _ | exact Le1.nil _ | exact Le1.tok _ _ _ | exact Le1L.nil | rfl | apply WkT.cons | apply WkH.cons | apply LeB.same | apply LeB.box | apply Le1L.cons | apply Le.agg | apply Le.one)))
    · obtain rfl : k = l.length := by omega
      have hkk : ¬ (l.length : Int) < l.length := by omega
      refine Run.god tab_ok follows_ok Try.func23 60 ?_; simp only [Try.results23, hkk, bytesA, eq_self, ↓alt_f, drun, aops, aone, afin, ares, aresL, ares1, aresOk, aresOk1, aop, needs, ext, aev, aput, aupd, acmp, ashift, abin, tab_3, ok1, exitTo, Option.getD_some, Option.bind_some, Option.map_some, List.set_cons_zero, List.set_cons_succ, List.getElem?_cons_zero, List.getElem?_cons_succ, List.nil_append, true_and, and_true, if_true, if_false, beq_self_eq_true, decide_false, reduceCtorEq, List.getD_eq_getElem?_getD]
      rw [List.take_length, encL_row, ← List.append_assoc]
      (repeat' (first | exact LeL.nil | exact Le1L.nil | exact Le.refl _ | exact Le1.refl _ | exact Le1.nil _ | exact Le1.tok _ _ _ | exact LeR.one (Le.refl _) | apply LeR.tup | apply LeL.cons | apply Le1L.cons | apply Le.agg | apply Le.one | apply LeR.one))
structure Rpl where
  a : Int
  b : Int
  e : Int
  s : Bytes
  x : Int
  l : List Bytes
deriving DecidableEq
def encR (r : Rpl) : AV := .agg [.int .i64 r.a, .int .i64 r.b, .int .i64 r.e, .str r.s, .int .i64 r.x, textsA r.l]
def putR (r : Rpl) : Bytes := encZs [r.a, r.b, r.e, r.x] ++ encT r.s ++ encL r.l
def smR (r : Rpl) : Prop := I64 r.a ∧ I64 r.b ∧ I64 r.e ∧ I64 r.x ∧ r.s.length ≤ 100000 ∧ tot r.l ≤ 100000
set_option maxRecDepth 20000 in
theorem putreply_spec (b : Bytes) (r : Rpl) (hb : b.length ≤ 100000) (ho : smR r) : ASpec Try.prog 40 [bytesA b, encR r] (bytesA (b ++ putR r)) := by
  obtain ⟨h1, h2, h3, h4, h7, h8⟩ := ho
  have hi := ints_spec b [r.a, r.b, r.e, r.x] (by omega) (by simp) (by simp; exact ⟨h1, h2, h3, h4⟩)
  have hl := encZs_le [r.a, r.b, r.e, r.x] (by simp; exact ⟨h1, h2, h3, h4⟩)
  simp only [List.length_cons, List.length_nil, Nat.reduceAdd, Nat.reduceMul] at hl
  have ht := encT_le r.s (by omega)
  refine ⟨⟨_, Try.func40, by kernel_rfl, rfl⟩, ACall.of Try.func40 rfl fun c0 hc0 => ?_⟩; simp only [Try.ntmps40, List.length_cons, List.length_nil, Nat.reduceAdd, Nat.reduceSub, List.replicate_succ, List.replicate_zero, List.cons_append, List.nil_append]; refine Run.god tab_ok follows_ok Try.func40 60 ?_; simp only [encR, textsA, bytesA, eq_self, drun, adops, adone, places, mayNeed, freeOk, rdOf, AV.id, wrOf, aops, aone, aop, needs, ext, aev, aconst, aput, aupd, aload, afieldAddr, aelems, plains, tab_3, tab_33, tab_52, tab_79, ok1, cellsAs, TI.agg, AV.cells, AV.whole, AV.plain, AV.bare, Option.getD_some, Option.bind_some, Option.map_some, List.set_cons_zero, List.set_cons_succ, List.length_cons, List.length_nil, List.getElem?_cons_zero, List.getElem?_cons_succ, List.drop_zero, List.drop_succ_cons, List.take_succ_cons, List.take_zero, List.map_cons, List.map_nil, List.cons_append, List.nil_append, List.all_cons, List.all_nil, List.replicate_succ, List.replicate_zero, true_and, and_true, if_true, if_false, Nat.reduceAdd, Nat.reduceLeDiff, Nat.reduceMul, Nat.zero_add, Nat.add_zero, Bool.and_self, Nat.reduceLT, Nat.reduceLeDiff, reduceCtorEq, List.getD_eq_getElem?_getD]
  refine ⟨rfl, ?_⟩
  refine DOps.pure rfl .free rfl rfl (hi) (by simp only [bytesA, intC, aev, Option.getD_some, List.getElem?_cons_zero, List.getElem?_cons_succ, List.map_cons, List.map_nil, List.nil_append, List.append_nil, List.getD_eq_getElem?_getD]; (repeat' (first | exact LeL.nil | exact Le1L.nil | exact Le.refl _ | exact Le1.refl _ | exact Le1.nil _ | exact Le1.tok _ _ _ | exact LeR.one (Le.refl _) | apply LeR.tup | apply LeL.cons | apply Le1L.cons | apply Le.agg | apply Le.one | apply LeR.one))) rfl rfl ?_
  refine DOps.god tab_ok follows_ok Try.func40 60 rfl ?_; simp only [bytesA, adops, adone, mayNeed, freeOk, rdOf, AV.id, wrOf, aop, needs, aev, aput, aupd, aload, afieldAddr, tab_9, tab_52, ok1, cellsAs, TI.agg, Option.getD_some, Option.bind_some, Option.map_some, List.set_cons_zero, List.set_cons_succ, List.length_cons, List.length_nil, List.getElem?_cons_zero, List.getElem?_cons_succ, List.drop_zero, List.drop_succ_cons, List.take_succ_cons, List.take_zero, List.cons_append, List.nil_append, true_and, and_true, if_false, Nat.reduceAdd, Nat.reduceLeDiff, Nat.zero_add, Nat.reduceLeDiff, reduceCtorEq, List.getD_eq_getElem?_getD]
  have hs1 := (text_spec (b ++ encZs [r.a, r.b, r.e, r.x]) r.s (by rw [List.length_append]; omega) (by omega)).spec
  refine DOps.pure rfl .free rfl rfl (hs1) (by simp only [bytesA, aev, Option.getD_some, List.getElem?_cons_zero, List.getElem?_cons_succ, List.map_cons, List.map_nil, List.nil_append, List.append_nil, List.getD_eq_getElem?_getD]; (repeat' (first | exact LeL.nil | exact Le1L.nil | exact Le.refl _ | exact Le1.refl _ | exact Le1.nil _ | exact Le1.tok _ _ _ | exact LeR.one (Le.refl _) | apply LeR.tup | apply LeL.cons | apply Le1L.cons | apply Le.agg | apply Le.one | apply LeR.one))) rfl rfl ?_
  refine DOps.god tab_ok follows_ok Try.func40 60 rfl ?_; simp only [adops, adone, mayNeed, freeOk, rdOf, AV.id, wrOf, aop, needs, aev, aput, aupd, aload, afieldAddr, tab_28, tab_52, ok1, cellsAs, TI.agg, Option.getD_some, Option.bind_some, Option.map_some, List.set_cons_zero, List.set_cons_succ, List.length_cons, List.length_nil, List.getElem?_cons_zero, List.getElem?_cons_succ, List.drop_zero, List.drop_succ_cons, List.take_succ_cons, List.take_nil, List.cons_append, List.nil_append, true_and, and_true, if_false, Nat.reduceAdd, Nat.zero_add, reduceCtorEq, Nat.le_refl, List.getD_eq_getElem?_getD]
  have hs2 := list_spec (b ++ encZs [r.a, r.b, r.e, r.x] ++ encT r.s) r.l (by simp only [List.length_append]; omega)
  refine DOps.pure rfl .free rfl rfl (hs2) (by simp only [bytesA, textsA, aev, Option.getD_some, List.getElem?_cons_zero, List.getElem?_cons_succ, List.map_cons, List.map_nil, List.nil_append, List.append_nil, List.getD_eq_getElem?_getD]; (repeat' (first | exact LeL.nil | exact Le1L.nil | exact Le.refl _ | exact Le1.refl _ | exact Le1.nil _ | exact Le1.tok _ _ _ | exact LeR.one (Le.refl _) | apply LeR.tup | apply LeL.cons | apply Le1L.cons | apply Le.agg | apply Le.one | apply LeR.one))) rfl rfl ?_
  refine DOps.god tab_ok follows_ok Try.func40 60 rfl ?_; simp only [Try.results40, bytesA, drun, adops, adone, freeOk, rdOf, wrOf, afin, ares, aresL, ares1, aresOk, aresOk1, aop, needs, aev, aput, aupd, ok1, Option.getD_some, Option.bind_some, Option.map_some, List.set_cons_zero, List.set_cons_succ, List.getElem?_cons_zero, List.getElem?_cons_succ, List.cons_append, List.nil_append, true_and, and_true, if_false, Nat.reduceAdd, reduceCtorEq, List.getD_eq_getElem?_getD]
  refine ⟨rfl, ?_⟩
  simp only [putR, List.append_assoc]
  (repeat' (first | exact LeL.nil | exact Le1L.nil | exact Le.refl _ | exact Le1.refl _ | exact Le1.nil _ | exact Le1.tok _ _ _ | exact LeR.one (Le.refl _) | apply LeR.tup | apply LeL.cons | apply Le1L.cons | apply Le.agg | apply Le.one | apply LeR.one))
def takeLA : Except Int (List Bytes × Bytes) → AV
  | .error z => .tup [textsA [], bytesA [], .int .i64 z]
  | .ok (s, r) => .tup [textsA s, bytesA r, .int .i64 0]
set_option maxRecDepth 20000 in
theorem takelist_spec (b : Bytes) (many most : Int) (hb : b.length ≤ 1000000) (hma : 0 ≤ many ∧ many ≤ 1000000) (hm : 0 ≤ most ∧ most ≤ 1000000) : ASpec Try.prog 29 [bytesA b, .int .i64 many, .int .i64 most] (takeLA (takeL b many most)) := by
  have hsp := take_spec b
  cases ht : takeN b with
  | error z =>
    rw [ht] at hsp
    have hz := takeN_err' ht
    refine ⟨⟨_, Try.func29, by kernel_rfl, rfl⟩, ACall.of Try.func29 rfl fun c0 hc0 => ?_⟩; simp only [Try.ntmps29, List.length_cons, List.length_nil, Nat.reduceAdd, Nat.reduceSub, List.replicate_succ, List.replicate_zero, List.cons_append, List.nil_append]; refine Run.god tab_ok follows_ok Try.func29 60 ?_; simp only [bytesA, drun, aops, aone, aop, needs, ext, aev, aconst, aput, aupd, ok1, Option.getD_some, List.set_cons_zero, List.set_cons_succ, List.getElem?_cons_zero, List.nil_append, true_and, if_false, Nat.zero_add, reduceCtorEq, List.getD_eq_getElem?_getD]
    refine Ops.pure .free rfl rfl (hsp) (by simp only [bytesA, aev, Option.getD_some, List.getElem?_cons_zero, List.getElem?_cons_succ, List.map_cons, List.map_nil, List.nil_append, List.append_nil, List.getD_eq_getElem?_getD]; (repeat' (first | exact LeL.nil | exact Le1L.nil | exact Le.refl _ | exact Le1.refl _ | exact Le1.nil _ | exact Le1.tok _ _ _ | exact LeR.one (Le.refl _) | apply LeR.tup | apply LeL.cons | apply Le1L.cons | apply Le.agg | apply Le.one | apply LeR.one))) rfl rfl ?_
    refine Ops.god tab_ok follows_ok Try.func29 60 ?_; simp only [Try.results29, takeA, bytesA, hz, eq_self, ↓alt_t, drun, aops, aone, afin, ares, aresL, ares1, aresOk, aresOk1, aop, needs, ext, aev, aconst, aput, aupd, acmp, ashift, abin, tab_33, ok1, Option.getD_some, Option.bind_some, Option.map_some, List.set_cons_zero, List.set_cons_succ, List.getElem?_cons_zero, List.getElem?_cons_succ, List.map_nil, List.nil_append, true_and, and_true, if_true, if_false, Bool.not_false, decide_false, reduceCtorEq, List.getD_eq_getElem?_getD]
    rw [takeL, ht]
    simp only [takeLA, textsA, bytesA, List.map_nil]
    (repeat' (first | exact LeL.nil | exact Le1L.nil | exact Le.refl _ | exact Le1.refl _ | exact Le1.nil _ | exact Le1.tok _ _ _ | exact LeR.one (Le.refl _) | apply LeR.tup | apply LeL.cons | apply Le1L.cons | apply Le.agg | apply Le.one | apply LeR.one))
  | ok p =>
    obtain ⟨n, r⟩ := p
    obtain ⟨hn, hl⟩ := taken_small ht
    rw [ht] at hsp
    have hw : IntKind.u64.wrap many = many := by
      obtain ⟨m, rfl⟩ := Int.eq_ofNat_of_zero_le hma.1
      exact wrap_nat m (by omega)
    have hmx : max many 0 = many := by omega
    by_cases h1 : many < (n : Int)
    · refine ⟨⟨_, Try.func29, by kernel_rfl, rfl⟩, ACall.of Try.func29 rfl fun c0 hc0 => ?_⟩; simp only [Try.ntmps29, List.length_cons, List.length_nil, Nat.reduceAdd, Nat.reduceSub, List.replicate_succ, List.replicate_zero, List.cons_append, List.nil_append]; refine Run.god tab_ok follows_ok Try.func29 60 ?_; simp only [bytesA, drun, aops, aone, aop, needs, ext, aev, aconst, aput, aupd, ok1, Option.getD_some, List.set_cons_zero, List.set_cons_succ, List.getElem?_cons_zero, List.nil_append, true_and, if_false, Nat.zero_add, reduceCtorEq, List.getD_eq_getElem?_getD]
      refine Ops.pure .free rfl rfl (hsp) (by simp only [bytesA, aev, Option.getD_some, List.getElem?_cons_zero, List.getElem?_cons_succ, List.map_cons, List.map_nil, List.nil_append, List.append_nil, List.getD_eq_getElem?_getD]; (repeat' (first | exact LeL.nil | exact Le1L.nil | exact Le.refl _ | exact Le1.refl _ | exact Le1.nil _ | exact Le1.tok _ _ _ | exact LeR.one (Le.refl _) | apply LeR.tup | apply LeL.cons | apply Le1L.cons | apply Le.agg | apply Le.one | apply LeR.one))) rfl rfl ?_
      refine Ops.god tab_ok follows_ok Try.func29 60 ?_; simp only [Try.results29, takeA, bytesA, hw, hmx, h1, eq_self, ↓alt_t, ↓alt_f, drun, aops, aone, afin, ares, aresL, ares1, aresOk, aresOk1, aop, needs, ext, aev, aconst, aput, aupd, acmp, ashift, abin, aconv, tab_3, tab_22, tab_33, ok1, Option.getD_some, Option.bind_some, Option.map_some, List.set_cons_zero, List.set_cons_succ, List.getElem?_cons_zero, List.getElem?_cons_succ, List.map_cons, List.map_nil, List.nil_append, true_and, and_true, if_true, if_false, Bool.not_true, decide_true, reduceCtorEq, List.getD_eq_getElem?_getD]
      rw [takeL, ht]
      simp only [if_pos (show (max many 0).toNat < n by omega), takeLA, textsA, bytesA, List.map_nil]
      (repeat' (first | exact LeL.nil | exact Le1L.nil | exact Le.refl _ | exact Le1.refl _ | exact Le1.nil _ | exact Le1.tok _ _ _ | exact LeR.one (Le.refl _) | apply LeR.tup | apply LeL.cons | apply Le1L.cons | apply Le.agg | apply Le.one | apply LeR.one))
    · have e : takeL b many most = takeTs most n r := by
        rw [takeL, ht]
        simp only [if_neg (show ¬ (max many 0).toNat < n by omega)]
      rw [e]
      refine ⟨⟨_, Try.func29, by kernel_rfl, rfl⟩, ACall.of Try.func29 rfl fun c0 hc0 => ?_⟩; simp only [Try.ntmps29, List.length_cons, List.length_nil, Nat.reduceAdd, Nat.reduceSub, List.replicate_succ, List.replicate_zero, List.cons_append, List.nil_append]; refine Run.god tab_ok follows_ok Try.func29 60 ?_; simp only [bytesA, drun, aops, aone, aop, needs, ext, aev, aconst, aput, aupd, ok1, Option.getD_some, List.set_cons_zero, List.set_cons_succ, List.getElem?_cons_zero, List.nil_append, true_and, if_false, Nat.zero_add, reduceCtorEq, List.getD_eq_getElem?_getD]
      refine Ops.pure .free rfl rfl (hsp) (by simp only [bytesA, aev, Option.getD_some, List.getElem?_cons_zero, List.getElem?_cons_succ, List.map_cons, List.map_nil, List.nil_append, List.append_nil, List.getD_eq_getElem?_getD]; (repeat' (first | exact LeL.nil | exact Le1L.nil | exact Le.refl _ | exact Le1.refl _ | exact Le1.nil _ | exact Le1.tok _ _ _ | exact LeR.one (Le.refl _) | apply LeR.tup | apply LeL.cons | apply Le1L.cons | apply Le.agg | apply Le.one | apply LeR.one))) rfl rfl ?_
      refine Ops.god tab_ok follows_ok Try.func29 60 ?_; simp only [takeA, bytesA, hw, hmx, h1, eq_self, ↓alt_f, drun, aops, aone, aop, needs, ext, aev, aconst, aput, aupd, acmp, ashift, abin, aconv, tab_3, tab_22, tab_33, ok1, Option.getD_some, Option.bind_some, Option.map_some, List.set_cons_zero, List.set_cons_succ, List.getElem?_cons_zero, List.getElem?_cons_succ, List.map_cons, List.map_nil, List.nil_append, true_and, if_true, if_false, Bool.not_true, decide_true, decide_false, reduceCtorEq, List.getD_eq_getElem?_getD]
      refine Run.weak (Weak.own 12 1 rfl) ?_
      simp only [List.set_cons_zero, List.set_cons_succ, List.length_nil, List.nil_append]
      refine Run.loopV (α := Nat × List Bytes × Bytes) (fun x => x.1 ≤ n ∧ x.2.1.length = x.1 ∧ x.2.2.length ≤ r.length ∧ takeTs most n r = glue x.2.1 (takeTs most (n - x.1) x.2.2)) (fun x => [(10, bytesA x.2.2), (12, .sl 1 (x.2.1.map textC) (.own 0)), (33, .int .u64 x.1)]) 1 (fun x => [(0, .tok 1 x.2.1.length)]) (fun x => n - x.1) (0, [], r) ⟨Nat.zero_le _, rfl, Nat.le_refl _, by simp only [Nat.sub_zero]; cases takeTs most n r <;> rfl⟩ ?_ ?_
      · simp only [writes, junks, puts, hputs, List.filterMap_cons, List.filterMap_nil, Int.natCast_zero, List.set_cons_zero, List.set_cons_succ, List.length_nil, List.take_succ_cons, List.take_nil, List.map_nil, List.cons_append, List.nil_append, List.append_nil, bytesA]
        (refine Weak.of (by simp [hc0]) ?_ ?_ <;> (repeat' (first | exact WkT.nil | exact WkH.nil _ | exact Le.refl _ | exact Le.junk _ | exact Le1.refl _ | exact Le1.nil _ | exact Le1.tok _ _ _ | exact Le1L.nil | rfl | apply WkT.cons | apply WkH.cons | apply LeB.same | apply LeB.box | apply Le1L.cons | apply Le.agg | apply Le.one)))
      · rintro ⟨k, l, y⟩ ⟨hI, hll, hyl, hrd⟩ ih
        simp only [writes, junks, puts, hputs, List.filterMap_cons, List.filterMap_nil, List.set_cons_zero, List.set_cons_succ, List.take_succ_cons, List.take_nil, List.cons_append, List.nil_append, List.append_nil] at hI hll hyl hrd ih ⊢
        by_cases hk : k < n
        · have hkk : (k : Int) < n := by omega
          have hs := taketext_spec y most (by omega) hm
          obtain ⟨m, hm⟩ : ∃ m, n - k = m + 1 := ⟨n - k - 1, by omega⟩
          rw [hm] at hrd
          cases hty : takeT y most with
          | error z =>
            rw [takeTs_err hty] at hrd
            rw [hty] at hs
            have hz := takeT_err' hty
            refine Run.god tab_ok follows_ok Try.func29 60 ?_; simp only [hkk, bytesA, eq_self, ↓alt_t, drun, aops, aone, aop, needs, ext, aev, aput, aupd, acmp, ashift, abin, tab_22, ok1, Option.getD_some, Option.bind_some, List.set_cons_zero, List.set_cons_succ, List.getElem?_cons_zero, List.getElem?_cons_succ, List.cons_append, List.nil_append, true_and, if_true, if_false, Nat.reduceAdd, Nat.zero_add, decide_true, reduceCtorEq, List.getD_eq_getElem?_getD]
            refine Ops.pure .free rfl rfl (hs) (by simp only [bytesA, aev, Option.getD_some, List.getElem?_cons_zero, List.getElem?_cons_succ, List.map_cons, List.map_nil, List.nil_append, List.append_nil, List.getD_eq_getElem?_getD]; (repeat' (first | exact LeL.nil | exact Le1L.nil | exact Le.refl _ | exact Le1.refl _ | exact Le1.nil _ | exact Le1.tok _ _ _ | exact LeR.one (Le.refl _) | apply LeR.tup | apply LeL.cons | apply Le1L.cons | apply Le.agg | apply Le.one | apply LeR.one))) rfl rfl ?_
            refine Ops.god tab_ok follows_ok Try.func29 60 ?_; simp only [Try.results29, takeTA, bytesA, hz, eq_self, ↓alt_t, drun, aops, aone, afin, ares, aresL, ares1, aresOk, aresOk1, aop, needs, ext, aev, aconst, aput, aupd, acmp, ashift, abin, tab_33, ok1, Option.getD_some, Option.bind_some, Option.map_some, List.set_cons_zero, List.set_cons_succ, List.getElem?_cons_zero, List.getElem?_cons_succ, List.map_nil, List.cons_append, List.nil_append, true_and, and_true, if_true, if_false, Bool.not_false, decide_false, reduceCtorEq, List.getD_eq_getElem?_getD]
            rw [hrd]
            simp only [takeLA, textsA, bytesA, List.map_nil]
            (repeat' (first | exact LeL.nil | exact Le1L.nil | exact Le.refl _ | exact Le1.refl _ | exact Le1.nil _ | exact Le1.tok _ _ _ | exact LeR.one (Le.refl _) | apply LeR.tup | apply LeL.cons | apply Le1L.cons | apply Le.agg | apply Le.one | apply LeR.one))
          | ok p =>
            obtain ⟨s, y2⟩ := p
            rw [takeTs_ok hty] at hrd
            rw [hty] at hs
            have hsh := (takeT_shorter hty).1
            refine Run.god tab_ok follows_ok Try.func29 60 ?_; simp only [hkk, bytesA, eq_self, ↓alt_t, drun, aops, aone, aop, needs, ext, aev, aput, aupd, acmp, ashift, abin, tab_22, ok1, Option.getD_some, Option.bind_some, List.set_cons_zero, List.set_cons_succ, List.getElem?_cons_zero, List.getElem?_cons_succ, List.cons_append, List.nil_append, true_and, if_true, if_false, Nat.reduceAdd, Nat.zero_add, decide_true, reduceCtorEq, List.getD_eq_getElem?_getD]
            refine Ops.pure .free rfl rfl (hs) (by simp only [bytesA, aev, Option.getD_some, List.getElem?_cons_zero, List.getElem?_cons_succ, List.map_cons, List.map_nil, List.nil_append, List.append_nil, List.getD_eq_getElem?_getD]; (repeat' (first | exact LeL.nil | exact Le1L.nil | exact Le.refl _ | exact Le1.refl _ | exact Le1.nil _ | exact Le1.tok _ _ _ | exact LeR.one (Le.refl _) | apply LeR.tup | apply LeL.cons | apply Le1L.cons | apply Le.agg | apply Le.one | apply LeR.one))) rfl rfl ?_
            have hwk : IntKind.u64.wrap ((k : Int) + 1) = (k : Int) + 1 := wrap_nat (k + 1) (by omega)
            refine Ops.god tab_ok follows_ok Try.func29 60 ?_; simp only [takeTA, bytesA, hwk, List.length_map, eq_self, ↓alt_f, drun, aops, aone, aop, needs, ext, aev, aconst, aput, aupd, acmp, aarith, ashift, abin, aelems, plains, asrc, aappend, tab_9, tab_22, tab_28, tab_33, ok1, AV.cells, AV.whole, AV.plain, AV.bare, Option.getD_some, Option.bind_some, Option.map_some, List.set_cons_zero, List.set_cons_succ, List.length_cons, List.length_nil, List.getElem?_cons_zero, List.getElem?_cons_succ, List.getElem?_toArray, List.map_cons, List.map_nil, List.length_map, List.cons_append, List.nil_append, List.all_cons, List.all_nil, List.replicate_succ, List.replicate_zero, true_and, and_true, if_true, if_false, Nat.reduceLeDiff, Nat.reduceMul, Nat.zero_add, Bool.and_self, Bool.not_true, decide_true, Nat.reduceLT, Nat.reduceLeDiff, reduceCtorEq, List.getD_eq_getElem?_getD]
            refine ⟨by omega, ih (k + 1, l ++ [s], y2) _ ⟨by dsimp only; omega, by simp; omega, by dsimp only; omega, ?_⟩ (by dsimp only; omega) ?_⟩
            · rw [hrd]
              show _ = glue (l ++ [s]) (takeTs most (n - (k + 1)) y2)
              rw [show n - (k + 1) = m by omega]
            · simp only [Int.natCast_add, Int.natCast_one, List.length_cons, List.length_nil, List.map_cons, List.map_nil, Nat.zero_add, bytesA, List.map_append, textC, List.length_append]
              (refine Weak.of (by simp [hc0]) ?_ ?_ <;> (repeat' (first | exact WkT.nil | exact WkH.nil _ | exact Le.refl _ | exact Le.junk _ | exact Le1.refl _ | exact Le1.nil _ | exact Le1.tok _ _ _ | exact Le1L.nil | rfl | apply WkT.cons | apply WkH.cons | apply LeB.same | apply LeB.box | apply Le1L.cons | apply Le.agg | apply Le.one)))
        · obtain rfl : k = n := by omega
          have hkk : ¬ (k : Int) < k := by omega
          rw [Nat.sub_self] at hrd
          refine Run.god tab_ok follows_ok Try.func29 60 ?_; simp only [Try.results29, hkk, bytesA, eq_self, ↓alt_f, drun, aops, aone, afin, ares, aresL, ares1, aresOk, aresOk1, aop, needs, ext, aev, aconst, aput, aupd, acmp, ashift, abin, tab_22, ok1, exitTo, Option.getD_some, Option.bind_some, Option.map_some, List.set_cons_zero, List.set_cons_succ, List.getElem?_cons_zero, List.getElem?_cons_succ, List.cons_append, List.nil_append, true_and, and_true, if_true, if_false, beq_self_eq_true, decide_false, reduceCtorEq, List.getD_eq_getElem?_getD]
          rw [hrd]
          simp only [takeTs, glue, List.append_nil, takeLA, textsA, bytesA]
          (repeat' (first | exact LeL.nil | exact Le1L.nil | exact Le.refl _ | exact Le1.refl _ | exact Le1.nil _ | exact Le1.tok _ _ _ | exact LeR.one (Le.refl _) | apply LeR.tup | apply LeL.cons | apply Le1L.cons | apply Le.agg | apply Le.one | apply LeR.one))
end Go.Proofs.Ytpigfpnpabnnbaa
