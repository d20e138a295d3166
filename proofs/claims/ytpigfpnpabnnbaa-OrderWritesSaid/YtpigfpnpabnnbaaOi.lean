/-
  octet.TakeInt and octet.TakeText, told by their shadows.
-/
import Derived.Test.YtpigfpnpabnnbaaOt
namespace Go.Proofs.Ytpigfpnpabnnbaa
open Go.RowKit
/-- The number with a sign ahead. -/
def takeZ (b : Bytes) : Except Int (Int × Bytes) := match takeN b with
  | .error z => .error z
  | .ok (n, r) => .ok (unzig n, r)
theorem taken_small {b : Bytes} {n : Nat} {r : Bytes} (h : takeN b = .ok (n, r)) : n < 18446744073709551616 ∧ r.length ≤ b.length := by
  cases b with
  | nil => simp [takeN] at h
  | cons k t =>
    simp only [takeN] at h
    split at h
    · cases h
    · split at h
      · cases h
      · rename_i h1 h2
        simp only [Except.ok.injEq, Prod.mk.injEq] at h
        obtain ⟨rfl, rfl⟩ := h
        have hF := fromBE_lt (t.take k.toNat)
        rw [List.length_take] at hF
        have : 256 ^ (min k.toNat t.length) ≤ 256 ^ 8 := Nat.pow_le_pow_right (by omega) (by omega)
        exact ⟨by omega, by simp; omega⟩
theorem ofInt_small (a : Nat) (ha : a < 9223372036854775808) : (BitVec.ofInt 64 (a : Int)).toNat = a := by
  rw [BitVec.ofInt_natCast, BitVec.toNat_ofNat]
  exact Nat.mod_eq_of_lt (by omega)
theorem and_one (n : Nat) (hn : n < 18446744073709551616) : bits .and .u64 (n : Int) 1 = ((n % 2 : Nat) : Int) := by
  have := u64_and_nat n 1 hn (by omega)
  rw [Nat.and_one_is_mod] at this
  exact this
theorem xor_unzig (n : Nat) (hn : n < 18446744073709551616) : bits .xor .i64 ((n / 2 : Nat) : Int) (-((n % 2 : Nat) : Int)) = unzig n := by
  have hd : n / 2 < 9223372036854775808 := by omega
  generalize hx : n / 2 = x at *
  show IntKind.i64.wrap ((BitVec.ofInt 64 (x : Int) ^^^ BitVec.ofInt 64 _).toNat : Int) = _
  rcases (by omega : n % 2 = 0 ∨ n % 2 = 1) with h | h
  · rw [h]
    have e0 : (-((0 : Nat) : Int)) = 0 := by omega
    rw [e0, BitVec.toNat_xor, ofInt_small x hd, show (BitVec.ofInt 64 0).toNat = 0 from rfl, Nat.xor_zero, IntKind.wrap_i64, unzig, if_neg (by omega), hx]
    omega
  · rw [h]
    have e0 : (-((1 : Nat) : Int)) = -1 := by omega
    rw [e0, show BitVec.ofInt 64 (-1) = BitVec.allOnes 64 by decide, BitVec.xor_allOnes, BitVec.toNat_not, ofInt_small x hd, IntKind.wrap_i64, unzig, if_pos h, hx]
    omega
theorem wrap_n64 (n : Nat) (h : n < 9223372036854775808) : IntKind.i64.wrap (n : Int) = n := by
  have e : (2 : Int) ^ IntKind.i64.bits = 18446744073709551616 := by decide
  have e' : (2 : Int) ^ (IntKind.i64.bits - 1) = 9223372036854775808 := by decide
  simp only [IntKind.wrap, e, e', show IntKind.i64.signed = true from rfl, Bool.true_and, decide_eq_true_eq]
  split <;> omega
def takeZA : Except Int (Int × Bytes) → AV
  | .error z => .tup [.int .i64 0, bytesA [], .int .i64 z]
  | .ok (n, r) => .tup [.int .i64 n, bytesA r, .int .i64 0]
theorem shr1 (a : Int) : ashift .shr .u64 a 1 = some ⟨(0 : Int) ≤ 1, .int .u64 (a.fdiv 2), none⟩ := rfl
set_option maxRecDepth 20000 in
theorem takeint_spec (b : Bytes) : ASpec Try.prog 31 [bytesA b] (takeZA (takeZ b)) := by
  have hsp := take_spec b
  cases ht : takeN b with
  | error z =>
    rw [ht] at hsp
    refine ⟨⟨_, Try.func31, by kernel_rfl, rfl⟩, ACall.of Try.func31 rfl fun c0 hc0 => ?_⟩; simp only [Try.ntmps31, List.length_cons, List.length_nil, Nat.reduceAdd, Nat.reduceSub, List.replicate_succ, List.replicate_zero, List.cons_append, List.nil_append]; refine Run.god tab_ok follows_ok Try.func31 60 ?_; simp only [bytesA, drun, aops, aone, aop, needs, ext, aev, aconst, aput, aupd, ok1, Option.getD_some, List.set_cons_zero, List.set_cons_succ, List.getElem?_cons_zero, List.nil_append, true_and, if_false, Nat.zero_add, reduceCtorEq, List.getD_eq_getElem?_getD]
    refine Ops.pure .free rfl rfl (hsp) (by simp only [bytesA, aev, Option.getD_some, List.getElem?_cons_zero, List.getElem?_cons_succ, List.map_cons, List.map_nil, List.nil_append, List.append_nil, List.getD_eq_getElem?_getD]; (repeat' (first | exact LeL.nil | exact Le1L.nil | exact Le.refl _ | exact Le1.refl _ | exact Le1.nil _ | exact Le1.tok _ _ _ | exact LeR.one (Le.refl _) | apply LeR.tup | apply LeL.cons | apply Le1L.cons | apply Le.agg | apply Le.one | apply LeR.one))) rfl rfl ?_
    refine Ops.god tab_ok follows_ok Try.func31 60 ?_; simp only [Try.results31, takeA, bytesA, ↓shr1, eq_self, Int.reduceLE, drun, aops, aone, afin, ares, aresL, ares1, aresOk, aresOk1, aop, needs, ext, aev, aconst, aput, aupd, acmp, aarith, ashift, abin, aconv, tab_3, tab_22, ok1, Option.getD_some, Option.bind_some, Option.map_some, List.set_cons_zero, List.set_cons_succ, List.getElem?_cons_zero, List.getElem?_cons_succ, List.map_nil, List.nil_append, true_and, and_true, if_true, if_false, reduceCtorEq, List.getD_eq_getElem?_getD]
    have e1 : IntKind.i64.wrap (Int.fdiv 0 2) = ((0 / 2 : Nat) : Int) := rfl
    have e2 : IntKind.i64.wrap (bits .and .u64 0 1) = ((0 % 2 : Nat) : Int) := by decide
    have e3 := xor_unzig 0 (by omega)
    rw [e1, e2, e3, takeZ, ht]
    exact ⟨by unfold I64; omega, by simp only [takeZA]; (repeat' (first | exact LeL.nil | exact Le1L.nil | exact Le.refl _ | exact Le1.refl _ | exact Le1.nil _ | exact Le1.tok _ _ _ | exact LeR.one (Le.refl _) | apply LeR.tup | apply LeL.cons | apply Le1L.cons | apply Le.agg | apply Le.one | apply LeR.one))⟩
  | ok p =>
    obtain ⟨n, r⟩ := p
    obtain ⟨hn, _⟩ := taken_small ht
    rw [ht] at hsp
    refine ⟨⟨_, Try.func31, by kernel_rfl, rfl⟩, ACall.of Try.func31 rfl fun c0 hc0 => ?_⟩; simp only [Try.ntmps31, List.length_cons, List.length_nil, Nat.reduceAdd, Nat.reduceSub, List.replicate_succ, List.replicate_zero, List.cons_append, List.nil_append]; refine Run.god tab_ok follows_ok Try.func31 60 ?_; simp only [bytesA, drun, aops, aone, aop, needs, ext, aev, aconst, aput, aupd, ok1, Option.getD_some, List.set_cons_zero, List.set_cons_succ, List.getElem?_cons_zero, List.nil_append, true_and, if_false, Nat.zero_add, reduceCtorEq, List.getD_eq_getElem?_getD]
    refine Ops.pure .free rfl rfl (hsp) (by simp only [bytesA, aev, Option.getD_some, List.getElem?_cons_zero, List.getElem?_cons_succ, List.map_cons, List.map_nil, List.nil_append, List.append_nil, List.getD_eq_getElem?_getD]; (repeat' (first | exact LeL.nil | exact Le1L.nil | exact Le.refl _ | exact Le1.refl _ | exact Le1.nil _ | exact Le1.tok _ _ _ | exact LeR.one (Le.refl _) | apply LeR.tup | apply LeL.cons | apply Le1L.cons | apply Le.agg | apply Le.one | apply LeR.one))) rfl rfl ?_
    refine Ops.god tab_ok follows_ok Try.func31 60 ?_; simp only [Try.results31, takeA, bytesA, ↓shr1, and_one n hn, eq_self, Int.reduceLE, drun, aops, aone, afin, ares, aresL, ares1, aresOk, aresOk1, aop, needs, ext, aev, aconst, aput, aupd, acmp, aarith, ashift, abin, aconv, tab_3, tab_22, ok1, Option.getD_some, Option.bind_some, Option.map_some, List.set_cons_zero, List.set_cons_succ, List.getElem?_cons_zero, List.getElem?_cons_succ, List.nil_append, true_and, and_true, if_true, if_false, reduceCtorEq, List.getD_eq_getElem?_getD]
    have e1 : IntKind.i64.wrap ((n : Int).fdiv 2) = ((n / 2 : Nat) : Int) := by
      rw [Int.fdiv_eq_ediv_of_nonneg _ (by decide), show (n : Int) / 2 = ((n / 2 : Nat) : Int) by omega, wrap_n64 _ (by omega)]
    have e2 : IntKind.i64.wrap ((n % 2 : Nat) : Int) = ((n % 2 : Nat) : Int) := wrap_n64 _ (by omega)
    rw [e1, e2, xor_unzig n hn, takeZ, ht]
    exact ⟨by unfold I64; omega, by simp only [takeZA]; (repeat' (first | exact LeL.nil | exact Le1L.nil | exact Le.refl _ | exact Le1.refl _ | exact Le1.nil _ | exact Le1.tok _ _ _ | exact LeR.one (Le.refl _) | apply LeR.tup | apply LeL.cons | apply Le1L.cons | apply Le.agg | apply Le.one | apply LeR.one))⟩
def takeTA : Except Int (Bytes × Bytes) → AV
  | .error z => .tup [.str [], bytesA [], .int .i64 z]
  | .ok (s, r) => .tup [.str s, bytesA r, .int .i64 0]
set_option maxRecDepth 20000 in
theorem taketext_spec (b : Bytes) (most : Int) (hb : b.length ≤ 1000000) (hm : 0 ≤ most ∧ most ≤ 1000000) : ASpec Try.prog 27 [bytesA b, .int .i64 most] (takeTA (takeT b most)) := by
  have hsp := take_spec b
  cases ht : takeN b with
  | error z =>
    rw [ht] at hsp
    have hz : ¬ z = 0 := by rcases takeN_err ht with h | h <;> omega
    refine ⟨⟨_, Try.func27, by kernel_rfl, rfl⟩, ACall.of Try.func27 rfl fun c0 hc0 => ?_⟩; simp only [Try.ntmps27, List.length_cons, List.length_nil, Nat.reduceAdd, Nat.reduceSub, List.replicate_succ, List.replicate_zero, List.cons_append, List.nil_append]; refine Run.god tab_ok follows_ok Try.func27 60 ?_; simp only [bytesA, drun, aops, aone, aop, needs, ext, aev, aconst, aput, aupd, ok1, Option.getD_some, List.set_cons_zero, List.set_cons_succ, List.getElem?_cons_zero, List.nil_append, true_and, if_false, Nat.zero_add, reduceCtorEq, List.getD_eq_getElem?_getD]
    refine Ops.pure .free rfl rfl (hsp) (by simp only [bytesA, aev, Option.getD_some, List.getElem?_cons_zero, List.getElem?_cons_succ, List.map_cons, List.map_nil, List.nil_append, List.append_nil, List.getD_eq_getElem?_getD]; (repeat' (first | exact LeL.nil | exact Le1L.nil | exact Le.refl _ | exact Le1.refl _ | exact Le1.nil _ | exact Le1.tok _ _ _ | exact LeR.one (Le.refl _) | apply LeR.tup | apply LeL.cons | apply Le1L.cons | apply Le.agg | apply Le.one | apply LeR.one))) rfl rfl ?_
    refine Ops.god tab_ok follows_ok Try.func27 60 ?_; simp only [Try.results27, takeA, bytesA, hz, eq_self, ↓alt_t, drun, aops, aone, afin, ares, aresL, ares1, aresOk, aresOk1, aop, needs, ext, aev, aconst, aput, aupd, acmp, ashift, abin, tab_33, ok1, Option.getD_some, Option.bind_some, Option.map_some, List.set_cons_zero, List.set_cons_succ, List.getElem?_cons_zero, List.getElem?_cons_succ, List.map_nil, List.nil_append, true_and, and_true, if_true, if_false, Bool.not_false, decide_false, reduceCtorEq, List.getD_eq_getElem?_getD]
    rw [takeT, ht]
    simp only [takeTA]
    (repeat' (first | exact LeL.nil | exact Le1L.nil | exact Le.refl _ | exact Le1.refl _ | exact Le1.nil _ | exact Le1.tok _ _ _ | exact LeR.one (Le.refl _) | apply LeR.tup | apply LeL.cons | apply Le1L.cons | apply Le.agg | apply Le.one | apply LeR.one))
  | ok p =>
    obtain ⟨n, r⟩ := p
    obtain ⟨hn, hl⟩ := taken_small ht
    rw [ht] at hsp
    have hw : IntKind.u64.wrap most = most := by
      obtain ⟨m, rfl⟩ := Int.eq_ofNat_of_zero_le hm.1
      exact wrap_nat m (by omega)
    have hw2 : IntKind.u64.wrap (r.length : Int) = r.length := wrap_nat _ (by omega)
    have hmx : max most 0 = most := by omega
    by_cases h1 : most < (n : Int)
    · refine ⟨⟨_, Try.func27, by kernel_rfl, rfl⟩, ACall.of Try.func27 rfl fun c0 hc0 => ?_⟩; simp only [Try.ntmps27, List.length_cons, List.length_nil, Nat.reduceAdd, Nat.reduceSub, List.replicate_succ, List.replicate_zero, List.cons_append, List.nil_append]; refine Run.god tab_ok follows_ok Try.func27 60 ?_; simp only [bytesA, drun, aops, aone, aop, needs, ext, aev, aconst, aput, aupd, ok1, Option.getD_some, List.set_cons_zero, List.set_cons_succ, List.getElem?_cons_zero, List.nil_append, true_and, if_false, Nat.zero_add, reduceCtorEq, List.getD_eq_getElem?_getD]
      refine Ops.pure .free rfl rfl (hsp) (by simp only [bytesA, aev, Option.getD_some, List.getElem?_cons_zero, List.getElem?_cons_succ, List.map_cons, List.map_nil, List.nil_append, List.append_nil, List.getD_eq_getElem?_getD]; (repeat' (first | exact LeL.nil | exact Le1L.nil | exact Le.refl _ | exact Le1.refl _ | exact Le1.nil _ | exact Le1.tok _ _ _ | exact LeR.one (Le.refl _) | apply LeR.tup | apply LeL.cons | apply Le1L.cons | apply Le.agg | apply Le.one | apply LeR.one))) rfl rfl ?_
      refine Ops.god tab_ok follows_ok Try.func27 60 ?_; simp only [Try.results27, takeA, bytesA, hw, hmx, h1, eq_self, ↓alt_t, ↓alt_f, drun, aops, aone, afin, ares, aresL, ares1, aresOk, aresOk1, aop, needs, ext, aev, aconst, aput, aupd, acmp, ashift, abin, aconv, tab_3, tab_22, tab_33, ok1, Option.getD_some, Option.bind_some, Option.map_some, List.set_cons_zero, List.set_cons_succ, List.getElem?_cons_zero, List.getElem?_cons_succ, List.map_cons, List.map_nil, List.nil_append, true_and, and_true, if_true, if_false, Bool.not_true, decide_true, reduceCtorEq, List.getD_eq_getElem?_getD]
      rw [takeT, ht]
      simp only [if_pos (show (max most 0).toNat < n by omega), takeTA]
      (repeat' (first | exact LeL.nil | exact Le1L.nil | exact Le.refl _ | exact Le1.refl _ | exact Le1.nil _ | exact Le1.tok _ _ _ | exact LeR.one (Le.refl _) | apply LeR.tup | apply LeL.cons | apply Le1L.cons | apply Le.agg | apply Le.one | apply LeR.one))
    · by_cases h2 : (r.length : Int) < (n : Int)
      · refine ⟨⟨_, Try.func27, by kernel_rfl, rfl⟩, ACall.of Try.func27 rfl fun c0 hc0 => ?_⟩; simp only [Try.ntmps27, List.length_cons, List.length_nil, Nat.reduceAdd, Nat.reduceSub, List.replicate_succ, List.replicate_zero, List.cons_append, List.nil_append]; refine Run.god tab_ok follows_ok Try.func27 60 ?_; simp only [bytesA, drun, aops, aone, aop, needs, ext, aev, aconst, aput, aupd, ok1, Option.getD_some, List.set_cons_zero, List.set_cons_succ, List.getElem?_cons_zero, List.nil_append, true_and, if_false, Nat.zero_add, reduceCtorEq, List.getD_eq_getElem?_getD]
        refine Ops.pure .free rfl rfl (hsp) (by simp only [bytesA, aev, Option.getD_some, List.getElem?_cons_zero, List.getElem?_cons_succ, List.map_cons, List.map_nil, List.nil_append, List.append_nil, List.getD_eq_getElem?_getD]; (repeat' (first | exact LeL.nil | exact Le1L.nil | exact Le.refl _ | exact Le1.refl _ | exact Le1.nil _ | exact Le1.tok _ _ _ | exact LeR.one (Le.refl _) | apply LeR.tup | apply LeL.cons | apply Le1L.cons | apply Le.agg | apply Le.one | apply LeR.one))) rfl rfl ?_
        refine Ops.god tab_ok follows_ok Try.func27 60 ?_; simp only [Try.results27, takeA, bytesA, hw, hw2, hmx, h1, h2, eq_self, ↓alt_t, ↓alt_f, drun, aops, aone, afin, ares, aresL, ares1, aresOk, aresOk1, aop, needs, ext, aev, aconst, aput, aupd, acmp, ashift, abin, aconv, alen, tab_3, tab_22, tab_23, tab_33, ok1, Option.getD_some, Option.bind_some, Option.map_some, List.set_cons_zero, List.set_cons_succ, List.getElem?_cons_zero, List.getElem?_cons_succ, List.map_cons, List.map_nil, List.length_map, List.nil_append, true_and, and_true, if_true, if_false, Bool.not_true, decide_true, decide_false, reduceCtorEq, List.getD_eq_getElem?_getD]
        rw [takeT, ht]
        simp only [if_neg (show ¬ (max most 0).toNat < n by omega), if_pos (show r.length < n by omega), takeTA]
        (repeat' (first | exact LeL.nil | exact Le1L.nil | exact Le.refl _ | exact Le1.refl _ | exact Le1.nil _ | exact Le1.tok _ _ _ | exact LeR.one (Le.refl _) | apply LeR.tup | apply LeL.cons | apply Le1L.cons | apply Le.agg | apply Le.one | apply LeR.one))
      · refine ⟨⟨_, Try.func27, by kernel_rfl, rfl⟩, ACall.of Try.func27 rfl fun c0 hc0 => ?_⟩; simp only [Try.ntmps27, List.length_cons, List.length_nil, Nat.reduceAdd, Nat.reduceSub, List.replicate_succ, List.replicate_zero, List.cons_append, List.nil_append]; refine Run.god tab_ok follows_ok Try.func27 60 ?_; simp only [bytesA, drun, aops, aone, aop, needs, ext, aev, aconst, aput, aupd, ok1, Option.getD_some, List.set_cons_zero, List.set_cons_succ, List.getElem?_cons_zero, List.nil_append, true_and, if_false, Nat.zero_add, reduceCtorEq, List.getD_eq_getElem?_getD]
        refine Ops.pure .free rfl rfl (hsp) (by simp only [bytesA, aev, Option.getD_some, List.getElem?_cons_zero, List.getElem?_cons_succ, List.map_cons, List.map_nil, List.nil_append, List.append_nil, List.getD_eq_getElem?_getD]; (repeat' (first | exact LeL.nil | exact Le1L.nil | exact Le.refl _ | exact Le1.refl _ | exact Le1.nil _ | exact Le1.tok _ _ _ | exact LeR.one (Le.refl _) | apply LeR.tup | apply LeL.cons | apply Le1L.cons | apply Le.agg | apply Le.one | apply LeR.one))) rfl rfl ?_
        refine Ops.god tab_ok follows_ok Try.func27 60 ?_; simp only [Try.results27, takeA, bytesA, hw, hw2, hmx, h1, h2, eq_self, ↓alt_f, drun, adops, adone, places, mayNeed, freeOk, rdOf, wrOf, aops, aone, afin, ares, aresL, ares1, aresOk, aresOk1, aop, needs, ext, aev, aconst, aput, aupd, acmp, ashift, abin, aconv, alen, aslice, tab_3, tab_5, tab_9, tab_22, tab_23, tab_33, ok1, Option.getD_some, Option.bind_some, Option.map_some, Option.map_none, List.set_cons_zero, List.set_cons_succ, List.length_nil, List.getElem?_cons_zero, List.getElem?_cons_succ, List.map_cons, List.map_nil, List.length_map, List.cons_append, List.nil_append, List.append_nil, true_and, and_true, if_true, if_false, Nat.zero_add, Bool.not_true, decide_true, decide_false, reduceCtorEq, Int.toNat_natCast, List.getD_eq_getElem?_getD]
        rw [takeT, ht]
        simp only [if_neg (show ¬ (max most 0).toNat < n by omega), if_neg (show ¬ r.length < n by omega), takeTA]
        rw [← List.map_take, ← List.map_drop, bytesOf_map]
        exact ⟨rfl, by omega, rfl, by omega, rfl, by (repeat' (first | exact LeL.nil | exact Le1L.nil | exact Le.refl _ | exact Le1.refl _ | exact Le1.nil _ | exact Le1.tok _ _ _ | exact LeR.one (Le.refl _) | apply LeR.tup | apply LeL.cons | apply Le1L.cons | apply Le.agg | apply Le.one | apply LeR.one))⟩
end Go.Proofs.Ytpigfpnpabnnbaa
