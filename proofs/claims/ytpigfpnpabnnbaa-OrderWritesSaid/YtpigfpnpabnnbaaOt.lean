/-
  Package octet's readers, told by their shadows.
-/
import Derived.Test.YtpigfpnpabnnbaaBr
import Derived.Test.YtpigfpnpabnnbaaAb
import Derived.Test.YtpigfpnpabnnbaaOctetSpec
namespace Go.Proofs.Ytpigfpnpabnnbaa
open Go.RowKit
def takeA : Except Int (Nat × Bytes) → AV
  | .error z => .tup [.int .u64 0, bytesA [], .int .i64 z]
  | .ok (n, r) => .tup [.int .u64 n, bytesA r, .int .i64 0]
theorem shl8 (a : Int) : ashift .shl .u64 a 8 = some ⟨(0 : Int) ≤ 8, .int .u64 (IntKind.u64.wrap (a * 256)), none⟩ := rfl
theorem wrap_u8 (k : UInt8) : IntKind.i64.wrap (k.toNat : Int) = k.toNat := by
  have := k.toNat_lt
  have e : (2 : Int) ^ IntKind.i64.bits = 18446744073709551616 := by decide
  have e' : (2 : Int) ^ (IntKind.i64.bits - 1) = 9223372036854775808 := by decide
  simp only [IntKind.wrap, e, e', show IntKind.i64.signed = true from rfl, Bool.true_and, decide_eq_true_eq]
  split <;> omega
theorem wrap_nat (n : Nat) (h : n < 18446744073709551616) : IntKind.u64.wrap (n : Int) = n := by
  have e : (2 : Int) ^ IntKind.u64.bits = 18446744073709551616 := by decide
  simp only [IntKind.wrap, e, show IntKind.u64.signed = false from rfl, Bool.false_and, Bool.false_eq_true, if_false]
  omega
theorem or_acc (n : Nat) (c : UInt8) (hn : n < 72057594037927936) : bits .or .u64 (IntKind.u64.wrap ((n : Int) * 256)) (IntKind.u64.wrap (c.toNat : Int)) = (n * 256 + c.toNat : Nat) := by
  have hc := c.toNat_lt
  have e1 : IntKind.u64.wrap ((n : Int) * 256) = ((n * 256 : Nat) : Int) := by rw [← wrap_nat (n * 256) (by omega)]; simp
  have e2 : IntKind.u64.wrap (c.toNat : Int) = (c.toNat : Int) := wrap_nat _ (by omega)
  rw [e1, e2, u64_or_nat (n * 256) c.toNat (by omega) (by omega)]
  have := Nat.shiftLeft_add_eq_or_of_lt (i := 8) (show c.toNat < 2 ^ 8 by omega) n
  rw [Nat.shiftLeft_eq] at this
  rw [← this]
set_option maxRecDepth 20000 in
theorem take_nil_s : ASpec Try.prog 25 [bytesA []] (takeA (.error 2)) := by
  refine ⟨⟨_, Try.func25, by kernel_rfl, rfl⟩, ACall.of Try.func25 rfl fun c0 hc0 => ?_⟩; simp only [Try.ntmps25, List.length_cons, List.length_nil, Nat.reduceAdd, Nat.reduceSub, List.replicate_succ, List.replicate_zero, List.cons_append, List.nil_append]; refine Run.god tab_ok follows_ok Try.func25 60 ?_; simp only [Try.results25, bytesA, takeA, eq_self, Int.natCast_zero, ↓alt_t, drun, aops, aone, afin, ares, aresL, ares1, aresOk, aresOk1, aop, needs, ext, aev, aconst, aput, aupd, acmp, ashift, abin, alen, tab_3, tab_23, ok1, Option.getD_some, Option.bind_some, Option.map_some, List.set_cons_zero, List.set_cons_succ, List.length_nil, List.getElem?_cons_zero, List.getElem?_cons_succ, List.map_nil, List.nil_append, true_and, and_true, if_true, if_false, decide_true, reduceCtorEq, List.getD_eq_getElem?_getD]
  (repeat' (first | exact LeL.nil | exact Le1L.nil | exact Le.refl _ | exact Le1.refl _ | exact Le1.nil _ | exact Le1.tok _ _ _ | exact LeR.one (Le.refl _) | apply LeR.tup | apply LeL.cons | apply Le1L.cons | apply Le.agg | apply Le.one | apply LeR.one))
theorem succ_ne (n : Nat) : (((n + 1 : Nat) : Int) = 0) = False := by simp; omega
theorem succ_pos' (n : Nat) : ((0 : Int) < ((n + 1 : Nat) : Int)) = True := by simp
set_option maxRecDepth 20000 in
theorem take_form_s (k : UInt8) (r : Bytes) (h : (8 : Int) < k.toNat) : ASpec Try.prog 25 [bytesA (k :: r)] (takeA (.error 3)) := by
  refine ⟨⟨_, Try.func25, by kernel_rfl, rfl⟩, ACall.of Try.func25 rfl fun c0 hc0 => ?_⟩; simp only [Try.ntmps25, List.length_cons, List.length_nil, Nat.reduceAdd, Nat.reduceSub, List.replicate_succ, List.replicate_zero, List.cons_append, List.nil_append]; refine Run.god tab_ok follows_ok Try.func25 60 ?_; simp only [Try.results25, bytesA, takeA, byteC, wrap_u8, h, succ_ne, decide_true, eq_self, Int.toNat_zero, Int.reduceToNat, ↓alt_t, ↓alt_f, ↓alts_t, ↓gone_ft, gslot, Int.reduceLE, drun, adops, adone, places, mayNeed, freeOk, rdOf, AV.id, wrOf, aops, aone, afin, ares, aresL, ares1, aresOk, aresOk1, aop, needs, ext, aev, aconst, aput, aupd, aload, aindexAddr, acmp, ashift, abin, aconv, alen, aslice, tab_3, tab_5, tab_23, ok1, cellsAs, TI.agg, Option.getD_some, Option.bind_some, Option.map_some, Option.map_none, List.set_cons_zero, List.set_cons_succ, List.length_cons, List.length_nil, List.getElem?_cons_zero, List.getElem?_cons_succ, List.getElem?_toArray, List.drop_zero, List.drop_succ_cons, List.take_succ_cons, List.take_nil, List.map_cons, List.map_nil, List.length_map, List.cons_append, List.nil_append, List.append_nil, true_and, and_true, if_true, if_false, Nat.zero_add, decide_true, decide_false, Nat.reduceLT, reduceCtorEq, Nat.le_refl, List.getD_eq_getElem?_getD]
  exact ⟨rfl, by omega, by omega, rfl, by (repeat' (first | exact LeL.nil | exact Le1L.nil | exact Le.refl _ | exact Le1.refl _ | exact Le1.nil _ | exact Le1.tok _ _ _ | exact LeR.one (Le.refl _) | apply LeR.tup | apply LeL.cons | apply Le1L.cons | apply Le.agg | apply Le.one | apply LeR.one))⟩
set_option maxRecDepth 20000 in
theorem take_short0_s (k : UInt8) (h : ¬ (8 : Int) < k.toNat) (h0 : (0 : Int) < k.toNat) : ASpec Try.prog 25 [bytesA [k]] (takeA (.error 2)) := by
  refine ⟨⟨_, Try.func25, by kernel_rfl, rfl⟩, ACall.of Try.func25 rfl fun c0 hc0 => ?_⟩; simp only [Try.ntmps25, List.length_cons, List.length_nil, Nat.reduceAdd, Nat.reduceSub, List.replicate_succ, List.replicate_zero, List.cons_append, List.nil_append]; refine Run.god tab_ok follows_ok Try.func25 60 ?_; simp only [Try.results25, bytesA, takeA, byteC, wrap_u8, h, h0, succ_ne, decide_true, eq_self, Int.natCast_zero, Int.toNat_zero, Int.reduceToNat, ↓alt_t, ↓alt_f, ↓alts_t, ↓alts_f, ↓gone_tt, ↓gone_tf, ↓gone_ff, gslot, Int.reduceLT, Int.reduceLE, drun, adops, adone, places, mayNeed, freeOk, rdOf, AV.id, wrOf, aops, aone, afin, ares, aresL, ares1, aresOk, aresOk1, aop, needs, ext, aev, aconst, aput, aupd, aload, aindexAddr, acmp, ashift, abin, aconv, alen, aslice, tab_3, tab_5, tab_23, ok1, cellsAs, TI.agg, Option.getD_some, Option.bind_some, Option.map_some, Option.map_none, List.set_cons_zero, List.set_cons_succ, List.length_cons, List.length_nil, List.getElem?_cons_zero, List.getElem?_cons_succ, List.getElem?_toArray, List.drop_succ_cons, List.take_succ_cons, List.take_nil, List.drop_nil, List.map_cons, List.map_nil, List.cons_append, List.nil_append, List.append_nil, true_and, and_true, if_true, if_false, Nat.zero_add, decide_true, decide_false, Nat.reduceLT, reduceCtorEq, Nat.le_refl, List.getD_eq_getElem?_getD]
  exact ⟨rfl, by omega, by omega, rfl, by (repeat' (first | exact LeL.nil | exact Le1L.nil | exact Le.refl _ | exact Le1.refl _ | exact Le1.nil _ | exact Le1.tok _ _ _ | exact LeR.one (Le.refl _) | apply LeR.tup | apply LeL.cons | apply Le1L.cons | apply Le.agg | apply Le.one | apply LeR.one))⟩
set_option maxRecDepth 20000 in
theorem take_zero_s (k c : UInt8) (r : Bytes) (h : ¬ (8 : Int) < k.toNat) (h0 : (0 : Int) < k.toNat) (hc : (c.toNat : Int) = 0) : ASpec Try.prog 25 [bytesA (k :: c :: r)] (takeA (.error 3)) := by
  refine ⟨⟨_, Try.func25, by kernel_rfl, rfl⟩, ACall.of Try.func25 rfl fun c0 hc0 => ?_⟩; simp only [Try.ntmps25, List.length_cons, List.length_nil, Nat.reduceAdd, Nat.reduceSub, List.replicate_succ, List.replicate_zero, List.cons_append, List.nil_append]; refine Run.god tab_ok follows_ok Try.func25 60 ?_; simp only [Try.results25, bytesA, takeA, byteC, wrap_u8, h, h0, hc, succ_ne, succ_pos', decide_true, eq_self, Int.toNat_zero, Int.reduceToNat, ↓alt_t, ↓alt_f, ↓alts_t, ↓alts_f, ↓gone_tt, ↓gone_ff, gslot, Int.reduceLE, drun, adops, adone, places, mayNeed, freeOk, rdOf, AV.id, wrOf, aops, aone, afin, ares, aresL, ares1, aresOk, aresOk1, aop, needs, ext, aev, aconst, aput, aupd, aload, aindexAddr, acmp, ashift, abin, aconv, alen, aslice, tab_3, tab_5, tab_23, ok1, cellsAs, TI.agg, Option.getD_some, Option.bind_some, Option.map_some, Option.map_none, List.set_cons_zero, List.set_cons_succ, List.length_cons, List.length_nil, List.getElem?_cons_zero, List.getElem?_cons_succ, List.getElem?_toArray, List.drop_zero, List.drop_succ_cons, List.take_succ_cons, List.take_nil, List.map_cons, List.map_nil, List.length_map, List.cons_append, List.nil_append, List.append_nil, true_and, and_true, if_true, if_false, Nat.zero_add, decide_true, decide_false, Nat.reduceLT, reduceCtorEq, Nat.le_refl, List.getD_eq_getElem?_getD]
  exact ⟨rfl, by omega, rfl, by (repeat' (first | exact LeL.nil | exact Le1L.nil | exact Le.refl _ | exact Le1.refl _ | exact Le1.nil _ | exact Le1.tok _ _ _ | exact LeR.one (Le.refl _) | apply LeR.tup | apply LeL.cons | apply Le1L.cons | apply Le.agg | apply Le.one | apply LeR.one))⟩
set_option maxRecDepth 20000 in
theorem take_short_s (k c : UInt8) (r : Bytes) (h : ¬ (8 : Int) < k.toNat) (h0 : (0 : Int) < k.toNat) (hc : ¬ (c.toNat : Int) = 0) (hl : ((r.length + 1 : Nat) : Int) < k.toNat) : ASpec Try.prog 25 [bytesA (k :: c :: r)] (takeA (.error 2)) := by
  refine ⟨⟨_, Try.func25, by kernel_rfl, rfl⟩, ACall.of Try.func25 rfl fun c0 hc0 => ?_⟩; simp only [Try.ntmps25, List.length_cons, List.length_nil, Nat.reduceAdd, Nat.reduceSub, List.replicate_succ, List.replicate_zero, List.cons_append, List.nil_append]; refine Run.god tab_ok follows_ok Try.func25 60 ?_; simp only [Try.results25, bytesA, takeA, byteC, wrap_u8, h, h0, hc, hl, succ_ne, succ_pos', decide_true, eq_self, Int.toNat_zero, Int.reduceToNat, ↓alt_t, ↓alt_f, ↓alts_t, ↓alts_f, ↓gone_tt, ↓gone_ff, gslot, Int.reduceLE, drun, adops, adone, places, mayNeed, freeOk, rdOf, AV.id, wrOf, aops, aone, afin, ares, aresL, ares1, aresOk, aresOk1, aop, needs, ext, aev, aconst, aput, aupd, aload, aindexAddr, acmp, ashift, abin, aconv, alen, aslice, tab_3, tab_5, tab_23, ok1, cellsAs, TI.agg, Option.getD_some, Option.bind_some, Option.map_some, Option.map_none, List.set_cons_zero, List.set_cons_succ, List.length_cons, List.length_nil, List.getElem?_cons_zero, List.getElem?_cons_succ, List.getElem?_toArray, List.drop_zero, List.drop_succ_cons, List.take_succ_cons, List.take_nil, List.map_cons, List.map_nil, List.length_map, List.cons_append, List.nil_append, List.append_nil, true_and, and_true, if_true, if_false, Nat.zero_add, decide_true, decide_false, Nat.reduceLT, reduceCtorEq, Nat.le_refl, List.getD_eq_getElem?_getD]
  exact ⟨rfl, by omega, rfl, by (repeat' (first | exact LeL.nil | exact Le1L.nil | exact Le.refl _ | exact Le1.refl _ | exact Le1.nil _ | exact Le1.tok _ _ _ | exact LeR.one (Le.refl _) | apply LeR.tup | apply LeL.cons | apply Le1L.cons | apply Le.agg | apply Le.one | apply LeR.one))⟩
set_option maxRecDepth 20000 in
theorem take_none_s (k : UInt8) (r : Bytes) (h0 : (k.toNat : Int) = 0) : ASpec Try.prog 25 [bytesA (k :: r)] (takeA (.ok (0, r))) := by
  have hl : ¬ (r.length : Int) < 0 := by omega
  refine ⟨⟨_, Try.func25, by kernel_rfl, rfl⟩, ACall.of Try.func25 rfl fun c0 hc0 => ?_⟩; simp only [Try.ntmps25, List.length_cons, List.length_nil, Nat.reduceAdd, Nat.reduceSub, List.replicate_succ, List.replicate_zero, List.cons_append, List.nil_append]; refine Run.god tab_ok follows_ok Try.func25 60 ?_; simp only [bytesA, takeA, byteC, h0, hl, show IntKind.i64.wrap 0 = 0 from rfl, succ_ne, succ_pos', eq_self, Int.natCast_zero, Int.toNat_zero, Int.reduceToNat, ↓alt_f, ↓alts_f, ↓gone_tf, ↓gone_ff, gslot, Int.reduceLT, Int.reduceLE, drun, adops, adone, places, mayNeed, freeOk, rdOf, AV.id, wrOf, aops, aone, aop, needs, ext, aev, aconst, aput, aupd, aload, aindexAddr, acmp, ashift, abin, aconv, alen, aslice, tab_3, tab_5, tab_23, ok1, cellsAs, TI.agg, Option.getD_some, Option.bind_some, Option.map_some, Option.map_none, List.set_cons_zero, List.set_cons_succ, List.length_cons, List.length_nil, List.getElem?_cons_zero, List.getElem?_cons_succ, List.getElem?_toArray, List.drop_zero, List.drop_succ_cons, List.take_succ_cons, List.take_zero, List.take_nil, List.map_cons, List.length_map, List.cons_append, List.nil_append, List.append_nil, true_and, and_true, if_true, if_false, Nat.zero_add, decide_false, Nat.reduceLT, reduceCtorEq, Nat.le_refl, List.getD_eq_getElem?_getD]
  refine ⟨rfl, by omega, rfl, by omega, Run.unloop ?_⟩
  refine Run.god tab_ok follows_ok Try.func25 60 ?_; simp only [Try.results25, eq_self, Int.toNat_zero, ↓alt_f, Int.reduceLT, Int.reduceLE, drun, adops, adone, places, mayNeed, freeOk, rdOf, wrOf, aops, aone, afin, ares, aresL, ares1, aresOk, aresOk1, aop, needs, ext, aev, aconst, aput, aupd, acmp, ashift, abin, aslice, tab_3, tab_5, tab_23, ok1, exitTo, Option.getD_some, Option.bind_some, Option.map_some, Option.map_none, List.set_cons_zero, List.set_cons_succ, List.length_nil, List.getElem?_cons_zero, List.getElem?_cons_succ, List.drop_zero, List.length_map, List.cons_append, List.nil_append, List.append_nil, true_and, and_true, if_true, if_false, Nat.zero_add, beq_self_eq_true, decide_false, reduceCtorEq, List.getD_eq_getElem?_getD]
  exact ⟨rfl, by omega, rfl, by (repeat' (first | exact LeL.nil | exact Le1L.nil | exact Le.refl _ | exact Le1.refl _ | exact Le1.nil _ | exact Le1.tok _ _ _ | exact LeR.one (Le.refl _) | apply LeR.tup | apply LeL.cons | apply Le1L.cons | apply Le.agg | apply Le.one | apply LeR.one))⟩
set_option maxRecDepth 20000 in
theorem take_some_s (k c : UInt8) (r : Bytes) (h : ¬ (8 : Int) < k.toNat) (h0 : (0 : Int) < k.toNat) (hc : ¬ (c.toNat : Int) = 0) (hl : ¬ ((r.length + 1 : Nat) : Int) < k.toNat) : ASpec Try.prog 25 [bytesA (k :: c :: r)] (takeA (.ok (fromBE ((c :: r).take k.toNat), (c :: r).drop k.toNat))) := by
  refine ⟨⟨_, Try.func25, by kernel_rfl, rfl⟩, ACall.of Try.func25 rfl fun c0 hc0 => ?_⟩; simp only [Try.ntmps25, List.length_cons, List.length_nil, Nat.reduceAdd, Nat.reduceSub, List.replicate_succ, List.replicate_zero, List.cons_append, List.nil_append]; refine Run.god tab_ok follows_ok Try.func25 60 ?_; simp only [bytesA, takeA, byteC, wrap_u8, h, h0, hc, hl, succ_ne, succ_pos', decide_true, eq_self, Int.toNat_zero, Int.reduceToNat, ↓alt_f, ↓alts_t, ↓alts_f, ↓gone_tt, ↓gone_ff, gslot, Int.reduceLE, drun, adops, adone, places, mayNeed, freeOk, rdOf, AV.id, wrOf, aops, aone, aop, needs, ext, aev, aconst, aput, aupd, aload, aindexAddr, acmp, ashift, abin, aconv, alen, aslice, tab_3, tab_5, tab_23, ok1, cellsAs, TI.agg, Option.getD_some, Option.bind_some, Option.map_some, Option.map_none, List.set_cons_zero, List.set_cons_succ, List.length_cons, List.length_nil, List.getElem?_cons_zero, List.getElem?_cons_succ, List.getElem?_toArray, List.drop_zero, List.drop_succ_cons, List.take_succ_cons, List.take_nil, List.map_cons, List.length_map, List.cons_append, List.nil_append, List.append_nil, true_and, and_true, if_true, if_false, Nat.zero_add, decide_true, decide_false, Nat.reduceLT, reduceCtorEq, Nat.le_refl, Int.toNat_natCast, List.getD_eq_getElem?_getD]
  refine ⟨rfl, by omega, rfl, by omega, ?_⟩
  have hlen : (List.take k.toNat ([AV.int .u8 c.toNat] :: List.map byteC r)).length = k.toNat := by simp; omega
  refine Run.loopV (α := Nat) (fun j => j ≤ k.toNat) (fun j => [(7, .int .u64 (fromBE ((c :: r).take j) : Nat)), (46, .int .i64 j)]) 0 (fun _ => []) (fun j => k.toNat - j) 0 (Nat.zero_le _) ?_ ?_
  · simp only [writes, junks, puts, hputs, List.filterMap_cons, List.filterMap_nil, Int.natCast_zero, Int.natCast_add, Int.natCast_one, List.set_cons_zero, List.set_cons_succ, List.take_zero, List.take_nil, List.cons_append, List.nil_append, List.append_nil]
    (refine Weak.of (by simp [hc0]) ?_ ?_ <;> (repeat' (first | exact WkT.nil | exact WkH.nil _ | exact Le.refl _ | exact Le.junk _ | exact Le1.refl _ | exact Le1.nil _ | exact Le1.tok _ _ _ | exact Le1L.nil | rfl | apply WkT.cons | apply WkH.cons | apply LeB.same | apply LeB.box | apply Le1L.cons | apply Le.agg | apply Le.one)))
  · intro j hj ih
    simp only [writes, junks, puts, hputs, List.filterMap_cons, List.filterMap_nil, Int.natCast_add, Int.natCast_one, List.set_cons_zero, List.set_cons_succ, List.take_nil, List.cons_append, List.nil_append, List.append_nil, hlen] at ih ⊢
    by_cases hjk : j < k.toNat
    · have hjr : j < (c :: r).length := by simp; omega
      have hg : (c :: r)[j]? = some ((c :: r)[j]) := List.getElem?_eq_getElem hjr
      have hsn : fromBE ((c :: r).take (j + 1)) = fromBE ((c :: r).take j) * 256 + ((c :: r)[j]).toNat := by
        rw [List.take_add_one, hg, ← fromBE_snoc]; rfl
      have hF := fromBE_lt ((c :: r).take j)
      have hFl : ((c :: r).take j).length = j := by rw [List.length_take]; omega
      rw [hFl] at hF
      have hpow : 256 ^ j ≤ 256 ^ 7 := Nat.pow_le_pow_right (by omega) (by omega)
      have hx : (List.take k.toNat ([AV.int .u8 c.toNat] :: List.map byteC r))[j]? = some [.int .u8 ((c :: r)[j]).toNat] := by
        have e : ([AV.int .u8 c.toNat] :: List.map byteC r) = (c :: r).map byteC := rfl
        rw [e, ← List.map_take, List.getElem?_map, List.getElem?_take_of_lt hjk, hg]; rfl
      have hor := or_acc (fromBE ((c :: r).take j)) ((c :: r)[j]) (by omega)
      rw [← hsn] at hor
      obtain ⟨G, hG⟩ : ∃ G, G = fromBE ((c :: r).take (j + 1)) := ⟨_, rfl⟩
      rw [← hG] at hor
      generalize (c :: r)[j] = x at *
      have hjj : (j : Int) < k.toNat := by omega
      refine Run.god tab_ok follows_ok Try.func25 60 ?_; simp only [hx, hjj, hlen, ↓shl8, hor, decide_true, Int.toNat_natCast, eq_self, ↓alt_t, Int.reduceLE, drun, aops, aone, aop, needs, ext, aev, aconst, aput, aupd, aload, aindexAddr, acmp, aarith, ashift, abin, aconv, tab_3, tab_5, tab_22, tab_23, ok1, cellsAs, TI.agg, Option.getD_some, Option.bind_some, Option.map_some, List.set_cons_zero, List.set_cons_succ, List.length_cons, List.length_nil, List.getElem?_cons_zero, List.getElem?_cons_succ, List.take_succ_cons, List.take_nil, List.nil_append, true_and, and_true, if_true, if_false, Nat.zero_add, decide_true, Nat.reduceLT, reduceCtorEq, Nat.le_refl, Int.toNat_natCast, List.getD_eq_getElem?_getD]
      refine ⟨by omega, by unfold I64; omega, ih (j + 1) _ (by omega) (by omega) ?_⟩
      rw [← hG]
      simp only [Int.natCast_add, Int.natCast_one]
      (refine Weak.of (by simp [hc0]) ?_ ?_ <;> (repeat' (first | exact WkT.nil | exact WkH.nil _ | exact Le.refl _ | exact Le.junk _ | exact Le1.refl _ | exact Le1.nil _ | exact Le1.tok _ _ _ | exact Le1L.nil | rfl | apply WkT.cons | apply WkH.cons | apply LeB.same | apply LeB.box | apply Le1L.cons | apply Le.agg | apply Le.one)))
    · obtain rfl : j = k.toNat := by omega
      have hjj : ¬ (k.toNat : Int) < k.toNat := by omega
      refine Run.god tab_ok follows_ok Try.func25 60 ?_; simp only [Try.results25, hjj, eq_self, ↓alt_f, drun, adops, adone, places, mayNeed, freeOk, rdOf, wrOf, aops, aone, afin, ares, aresL, ares1, aresOk, aresOk1, aop, needs, ext, aev, aconst, aput, aupd, acmp, ashift, abin, aslice, tab_3, tab_5, tab_23, ok1, exitTo, Option.getD_some, Option.bind_some, Option.map_some, Option.map_none, List.set_cons_zero, List.set_cons_succ, List.length_cons, List.length_nil, List.getElem?_cons_zero, List.getElem?_cons_succ, List.length_map, List.cons_append, List.nil_append, List.append_nil, true_and, and_true, if_true, if_false, Nat.zero_add, beq_self_eq_true, decide_false, reduceCtorEq, Int.toNat_natCast, List.getD_eq_getElem?_getD]
      have e : List.drop k.toNat ([AV.int .u8 c.toNat] :: List.map byteC r) = List.map byteC (List.drop k.toNat (c :: r)) := by rw [List.map_drop]; rfl
      rw [e]
      exact ⟨rfl, by omega, rfl, by (repeat' (first | exact LeL.nil | exact Le1L.nil | exact Le.refl _ | exact Le1.refl _ | exact Le1.nil _ | exact Le1.tok _ _ _ | exact LeR.one (Le.refl _) | apply LeR.tup | apply LeL.cons | apply Le1L.cons | apply Le.agg | apply Le.one | apply LeR.one))⟩
theorem take_spec (b : Bytes) : ASpec Try.prog 25 [bytesA b] (takeA (takeN b)) := by
  match b with
  | [] => exact take_nil_s
  | k :: r =>
    by_cases h8 : (8 : Int) < k.toNat
    · have e : takeN (k :: r) = .error 3 := by
        have q : 8 < k.toNat := by omega
        simp [takeN, q]
      rw [e]
      exact take_form_s k r h8
    · have q : ¬ 8 < k.toNat := by omega
      by_cases h0 : (0 : Int) < k.toNat
      · have q2 : 0 < k.toNat := by omega
        match r with
        | [] =>
          have e : takeN [k] = .error 2 := by simp [takeN, q, q2]
          rw [e]
          exact take_short0_s k h8 h0
        | c :: r =>
          by_cases hc : (c.toNat : Int) = 0
          · have hz : c = 0 := by apply UInt8.toNat_inj.1; simpa using hc
            have e : takeN (k :: c :: r) = .error 3 := by subst hz; simp [takeN, q2]
            rw [e]
            exact take_zero_s k c r h8 h0 hc
          · have hz : ¬ c = 0 := by intro h; subst h; exact hc rfl
            by_cases hl : ((r.length + 1 : Nat) : Int) < k.toNat
            · have q3 : r.length + 1 < k.toNat := by omega
              have e : takeN (k :: c :: r) = .error 2 := by simp [takeN, hz, q, q3]
              rw [e]
              exact take_short_s k c r h8 h0 hc hl
            · have q3 : ¬ r.length + 1 < k.toNat := by omega
              have e : takeN (k :: c :: r) = .ok (fromBE ((c :: r).take k.toNat), (c :: r).drop k.toNat) := by simp [takeN, hz, q, q3]
              rw [e]
              exact take_some_s k c r h8 h0 hc hl
      · have hk : (k.toNat : Int) = 0 := by omega
        have hk' : k.toNat = 0 := by omega
        have e : takeN (k :: r) = .ok (0, r) := by simp [takeN, hk', fromBE]
        rw [e]
        exact take_none_s k r hk
end Go.Proofs.Ytpigfpnpabnnbaa
