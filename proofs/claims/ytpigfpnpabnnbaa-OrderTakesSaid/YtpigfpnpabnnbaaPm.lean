/-
  The document's readers of layer 01, told by their shadows.
-/
import Derived.Test.YtpigfpnpabnnbaaPf
namespace Go.Proofs.Ytpigfpnpabnnbaa
open Go.RowKit
theorem mul_acc (n : Nat) (c : UInt8) (hn : n < 72057594037927936) : IntKind.u64.wrap (IntKind.u64.wrap (256 * (n : Int)) + IntKind.u64.wrap (c.toNat : Int)) = (n * 256 + c.toNat : Nat) := by
  have hc := c.toNat_lt
  have e1 : IntKind.u64.wrap (256 * (n : Int)) = ((n * 256 : Nat) : Int) := by rw [← wrap_nat (n * 256) (by omega)]; congr 1; omega
  have e2 : IntKind.u64.wrap (c.toNat : Int) = (c.toNat : Int) := wrap_nat _ (by omega)
  rw [e1, e2, ← wrap_nat (n * 256 + c.toNat) (by omega)]
  simp
set_option maxRecDepth 20000 in
theorem rtake_nil : ASpec Try.prog 26 [bytesA []] (takeA (.error 2)) := by
  refine ⟨⟨_, Try.func26, by kernel_rfl, rfl⟩, ACall.of Try.func26 rfl fun c0 hc0 => ?_⟩; simp only [Try.ntmps26, List.length_cons, List.length_nil, Nat.reduceAdd, Nat.reduceSub, List.replicate_succ, List.replicate_zero, List.cons_append, List.nil_append]; refine Run.god tab_ok follows_ok Try.func26 60 ?_; simp only [Try.results26, bytesA, takeA, eq_self, Int.natCast_zero, ↓alt_t, drun, aops, aone, afin, ares, aresL, ares1, aresOk, aresOk1, aop, needs, ext, aev, aconst, aput, aupd, acmp, ashift, abin, alen, tab_3, tab_23, ok1, Option.getD_some, Option.bind_some, Option.map_some, List.set_cons_zero, List.set_cons_succ, List.length_nil, List.getElem?_cons_zero, List.getElem?_cons_succ, List.map_nil, List.nil_append, true_and, and_true, if_true, if_false, decide_true, reduceCtorEq, List.getD_eq_getElem?_getD]
  (repeat' (first | exact LeL.nil | exact Le1L.nil | exact Le.refl _ | exact Le1.refl _ | exact Le1.nil _ | exact Le1.tok _ _ _ | exact LeR.one (Le.refl _) | apply LeR.tup | apply LeL.cons | apply Le1L.cons | apply Le.agg | apply Le.one | apply LeR.one))
set_option maxRecDepth 20000 in
theorem rtake_form (k : UInt8) (r : Bytes) (h : (8 : Int) < k.toNat) : ASpec Try.prog 26 [bytesA (k :: r)] (takeA (.error 3)) := by
  refine ⟨⟨_, Try.func26, by kernel_rfl, rfl⟩, ACall.of Try.func26 rfl fun c0 hc0 => ?_⟩; simp only [Try.ntmps26, List.length_cons, List.length_nil, Nat.reduceAdd, Nat.reduceSub, List.replicate_succ, List.replicate_zero, List.cons_append, List.nil_append]; refine Run.god tab_ok follows_ok Try.func26 60 ?_; simp only [Try.results26, bytesA, takeA, byteC, wrap_u8, h, succ_ne, decide_true, eq_self, Int.toNat_zero, ↓alt_t, ↓alt_f, ↓alts_t, ↓gone_ft, gslot, Int.reduceLE, drun, aops, aone, afin, ares, aresL, ares1, aresOk, aresOk1, aop, needs, ext, aev, aconst, aput, aupd, aload, aindexAddr, acmp, ashift, abin, aconv, alen, tab_3, tab_5, tab_23, ok1, cellsAs, TI.agg, Option.getD_some, Option.bind_some, Option.map_some, List.set_cons_zero, List.set_cons_succ, List.length_cons, List.length_nil, List.getElem?_cons_zero, List.getElem?_cons_succ, List.getElem?_toArray, List.take_succ_cons, List.take_nil, List.map_cons, List.map_nil, List.length_map, List.nil_append, true_and, and_true, if_true, if_false, Nat.zero_add, decide_true, decide_false, Nat.reduceLT, reduceCtorEq, Nat.le_refl, List.getD_eq_getElem?_getD]
  ((repeat' (apply And.intro)) <;> try (first | rfl | omega | (unfold I64; omega)))
  (repeat' (first | exact LeL.nil | exact Le1L.nil | exact Le.refl _ | exact Le1.refl _ | exact Le1.nil _ | exact Le1.tok _ _ _ | exact LeR.one (Le.refl _) | apply LeR.tup | apply LeL.cons | apply Le1L.cons | apply Le.agg | apply Le.one | apply LeR.one))
set_option maxRecDepth 20000 in
theorem rtake_short0 (k : UInt8) (h : ¬ (8 : Int) < k.toNat) (h0 : (0 : Int) < k.toNat) : ASpec Try.prog 26 [bytesA [k]] (takeA (.error 2)) := by
  have h1 : (1 : Int) < 1 + k.toNat := by omega
  refine ⟨⟨_, Try.func26, by kernel_rfl, rfl⟩, ACall.of Try.func26 rfl fun c0 hc0 => ?_⟩; simp only [Try.ntmps26, List.length_cons, List.length_nil, Nat.reduceAdd, Nat.reduceSub, List.replicate_succ, List.replicate_zero, List.cons_append, List.nil_append]; refine Run.god tab_ok follows_ok Try.func26 60 ?_; simp only [Try.results26, bytesA, takeA, byteC, wrap_u8, h, h0, h1, Int.natCast_one, Int.lt_irrefl, decide_true, eq_self, Int.toNat_zero, ↓alt_t, ↓alt_f, ↓alts_t, ↓alts_f, ↓gone_tt, ↓gone_tf, ↓gone_ff, gslot, Int.reduceEq, Int.reduceLT, Int.reduceLE, drun, aops, aone, afin, ares, aresL, ares1, aresOk, aresOk1, aop, needs, ext, aev, aconst, aput, aupd, aload, aindexAddr, acmp, aarith, ashift, abin, aconv, alen, tab_3, tab_5, tab_23, ok1, cellsAs, TI.agg, Option.getD_some, Option.bind_some, Option.map_some, List.set_cons_zero, List.set_cons_succ, List.length_cons, List.length_nil, List.getElem?_cons_zero, List.getElem?_cons_succ, List.getElem?_toArray, List.take_succ_cons, List.take_nil, List.map_cons, List.map_nil, List.nil_append, true_and, and_true, if_true, if_false, Nat.zero_add, decide_true, decide_false, Nat.reduceLT, reduceCtorEq, Nat.le_refl, List.getD_eq_getElem?_getD]
  ((repeat' (apply And.intro)) <;> try (first | rfl | omega | (unfold I64; omega)))
  (repeat' (first | exact LeL.nil | exact Le1L.nil | exact Le.refl _ | exact Le1.refl _ | exact Le1.nil _ | exact Le1.tok _ _ _ | exact LeR.one (Le.refl _) | apply LeR.tup | apply LeL.cons | apply Le1L.cons | apply Le.agg | apply Le.one | apply LeR.one))
theorem one_lt2 (n : Nat) : ((1 : Int) < ((n + 1 + 1 : Nat) : Int)) = True := by simp; omega
set_option maxRecDepth 20000 in
theorem rtake_zero (k c : UInt8) (r : Bytes) (h : ¬ (8 : Int) < k.toNat) (h0 : (0 : Int) < k.toNat) (hc : (c.toNat : Int) = 0) : ASpec Try.prog 26 [bytesA (k :: c :: r)] (takeA (.error 3)) := by
  refine ⟨⟨_, Try.func26, by kernel_rfl, rfl⟩, ACall.of Try.func26 rfl fun c0 hc0 => ?_⟩; simp only [Try.ntmps26, List.length_cons, List.length_nil, Nat.reduceAdd, Nat.reduceSub, List.replicate_succ, List.replicate_zero, List.cons_append, List.nil_append]; refine Run.god tab_ok follows_ok Try.func26 60 ?_; simp only [Try.results26, bytesA, takeA, byteC, wrap_u8, h, h0, hc, one_lt2, succ_ne, succ_pos', decide_true, eq_self, Int.toNat_zero, Int.reduceToNat, ↓alt_t, ↓alt_f, ↓alts_t, ↓alts_f, ↓gone_tt, ↓gone_ff, gslot, Int.reduceLE, drun, aops, aone, afin, ares, aresL, ares1, aresOk, aresOk1, aop, needs, ext, aev, aconst, aput, aupd, aload, aindexAddr, acmp, ashift, abin, aconv, alen, tab_3, tab_5, tab_23, ok1, cellsAs, TI.agg, Option.getD_some, Option.bind_some, Option.map_some, List.set_cons_zero, List.set_cons_succ, List.length_cons, List.length_nil, List.getElem?_cons_zero, List.getElem?_cons_succ, List.getElem?_toArray, List.take_succ_cons, List.take_nil, List.map_cons, List.map_nil, List.length_map, List.nil_append, true_and, and_true, if_true, if_false, Nat.zero_add, decide_true, decide_false, Nat.reduceLT, reduceCtorEq, Nat.le_refl, List.getD_eq_getElem?_getD]
  ((repeat' (apply And.intro)) <;> try (first | rfl | omega | (unfold I64; omega)))
  (repeat' (first | exact LeL.nil | exact Le1L.nil | exact Le.refl _ | exact Le1.refl _ | exact Le1.nil _ | exact Le1.tok _ _ _ | exact LeR.one (Le.refl _) | apply LeR.tup | apply LeL.cons | apply Le1L.cons | apply Le.agg | apply Le.one | apply LeR.one))
set_option maxRecDepth 20000 in
theorem rtake_short (k c : UInt8) (r : Bytes) (h : ¬ (8 : Int) < k.toNat) (h0 : (0 : Int) < k.toNat) (hc : ¬ (c.toNat : Int) = 0) (hl : ((r.length + 1 + 1 : Nat) : Int) < 1 + k.toNat) : ASpec Try.prog 26 [bytesA (k :: c :: r)] (takeA (.error 2)) := by
  refine ⟨⟨_, Try.func26, by kernel_rfl, rfl⟩, ACall.of Try.func26 rfl fun c0 hc0 => ?_⟩; simp only [Try.ntmps26, List.length_cons, List.length_nil, Nat.reduceAdd, Nat.reduceSub, List.replicate_succ, List.replicate_zero, List.cons_append, List.nil_append]; refine Run.god tab_ok follows_ok Try.func26 60 ?_; simp only [Try.results26, bytesA, takeA, byteC, wrap_u8, h, h0, hc, hl, one_lt2, succ_ne, succ_pos', decide_true, eq_self, Int.toNat_zero, Int.reduceToNat, ↓alt_t, ↓alt_f, ↓alts_t, ↓alts_f, ↓gone_tt, ↓gone_ff, gslot, Int.reduceLE, drun, aops, aone, afin, ares, aresL, ares1, aresOk, aresOk1, aop, needs, ext, aev, aconst, aput, aupd, aload, aindexAddr, acmp, aarith, ashift, abin, aconv, alen, tab_3, tab_5, tab_23, ok1, cellsAs, TI.agg, Option.getD_some, Option.bind_some, Option.map_some, List.set_cons_zero, List.set_cons_succ, List.length_cons, List.length_nil, List.getElem?_cons_zero, List.getElem?_cons_succ, List.getElem?_toArray, List.take_succ_cons, List.take_nil, List.map_cons, List.map_nil, List.length_map, List.nil_append, true_and, and_true, if_true, if_false, Nat.zero_add, decide_true, decide_false, Nat.reduceLT, reduceCtorEq, Nat.le_refl, List.getD_eq_getElem?_getD]
  ((repeat' (apply And.intro)) <;> try (first | rfl | omega | (unfold I64; omega)))
  (repeat' (first | exact LeL.nil | exact Le1L.nil | exact Le.refl _ | exact Le1.refl _ | exact Le1.nil _ | exact Le1.tok _ _ _ | exact LeR.one (Le.refl _) | apply LeR.tup | apply LeL.cons | apply Le1L.cons | apply Le.agg | apply Le.one | apply LeR.one))
set_option maxRecDepth 20000 in
theorem rtake_none (k : UInt8) (r : Bytes) (h0 : (k.toNat : Int) = 0) : ASpec Try.prog 26 [bytesA (k :: r)] (takeA (.ok (0, r))) := by
  have hl : ¬ ((r.length + 1 : Nat) : Int) < 1 := by omega
  refine ⟨⟨_, Try.func26, by kernel_rfl, rfl⟩, ACall.of Try.func26 rfl fun c0 hc0 => ?_⟩; simp only [Try.ntmps26, List.length_cons, List.length_nil, Nat.reduceAdd, Nat.reduceSub, List.replicate_succ, List.replicate_zero, List.cons_append, List.nil_append]; refine Run.god tab_ok follows_ok Try.func26 60 ?_; simp only [bytesA, takeA, byteC, h0, hl, Int.add_zero, show IntKind.i64.wrap 0 = 0 from rfl, succ_ne, succ_pos', eq_self, Int.natCast_zero, Int.toNat_zero, ↓alt_f, ↓alts_f, ↓gone_tf, ↓gone_ff, gslot, Int.reduceLT, Int.reduceLE, drun, aops, aone, aop, needs, ext, aev, aconst, aput, aupd, aload, aindexAddr, acmp, aarith, ashift, abin, aconv, alen, tab_3, tab_5, tab_23, ok1, cellsAs, TI.agg, Option.getD_some, Option.bind_some, Option.map_some, List.set_cons_zero, List.set_cons_succ, List.length_cons, List.length_nil, List.getElem?_cons_zero, List.getElem?_cons_succ, List.getElem?_toArray, List.take_succ_cons, List.take_nil, List.map_cons, List.length_map, List.nil_append, true_and, and_true, if_true, if_false, Nat.zero_add, decide_false, Nat.reduceLT, reduceCtorEq, Nat.le_refl, List.getD_eq_getElem?_getD]
  ((repeat' (apply And.intro)) <;> try (first | rfl | omega | (unfold I64; omega)))
  refine Run.unloop ?_
  refine Run.god tab_ok follows_ok Try.func26 60 ?_; simp only [Try.results26, Int.add_zero, eq_self, Int.reduceToNat, ↓alt_f, Int.reduceLE, drun, adops, adone, places, mayNeed, freeOk, rdOf, wrOf, aops, aone, afin, ares, aresL, ares1, aresOk, aresOk1, aop, needs, ext, aev, aconst, aput, aupd, acmp, aarith, ashift, abin, aslice, tab_3, tab_5, tab_23, ok1, exitTo, Option.getD_some, Option.bind_some, Option.map_some, Option.map_none, List.set_cons_zero, List.set_cons_succ, List.length_cons, List.length_nil, List.getElem?_cons_zero, List.getElem?_cons_succ, List.drop_zero, List.drop_succ_cons, List.length_map, List.cons_append, List.nil_append, List.append_nil, true_and, and_true, if_true, if_false, Nat.zero_add, beq_self_eq_true, decide_false, reduceCtorEq, List.getD_eq_getElem?_getD]
  ((repeat' (apply And.intro)) <;> try (first | rfl | omega | (unfold I64; omega)))
  (repeat' (first | exact LeL.nil | exact Le1L.nil | exact Le.refl _ | exact Le1.refl _ | exact Le1.nil _ | exact Le1.tok _ _ _ | exact LeR.one (Le.refl _) | apply LeR.tup | apply LeL.cons | apply Le1L.cons | apply Le.agg | apply Le.one | apply LeR.one))
set_option maxRecDepth 20000 in
theorem rtake_some (k c : UInt8) (r : Bytes) (h : ¬ (8 : Int) < k.toNat) (h0 : (0 : Int) < k.toNat) (hc : ¬ (c.toNat : Int) = 0) (hl : ¬ ((r.length + 1 + 1 : Nat) : Int) < 1 + k.toNat) : ASpec Try.prog 26 [bytesA (k :: c :: r)] (takeA (.ok (fromBE ((c :: r).take k.toNat), (c :: r).drop k.toNat))) := by
  refine ⟨⟨_, Try.func26, by kernel_rfl, rfl⟩, ACall.of Try.func26 rfl fun c0 hc0 => ?_⟩; simp only [Try.ntmps26, List.length_cons, List.length_nil, Nat.reduceAdd, Nat.reduceSub, List.replicate_succ, List.replicate_zero, List.cons_append, List.nil_append]; refine Run.god tab_ok follows_ok Try.func26 60 ?_; simp only [bytesA, takeA, byteC, wrap_u8, h, h0, hc, hl, one_lt2, succ_ne, succ_pos', decide_true, eq_self, Int.toNat_zero, Int.reduceToNat, ↓alt_f, ↓alts_t, ↓alts_f, ↓gone_tt, ↓gone_ff, gslot, Int.reduceLE, drun, aops, aone, aop, needs, ext, aev, aconst, aput, aupd, aload, aindexAddr, acmp, aarith, ashift, abin, aconv, alen, tab_3, tab_5, tab_23, ok1, cellsAs, TI.agg, Option.getD_some, Option.bind_some, Option.map_some, List.set_cons_zero, List.set_cons_succ, List.length_cons, List.length_nil, List.getElem?_cons_zero, List.getElem?_cons_succ, List.getElem?_toArray, List.take_succ_cons, List.take_nil, List.map_cons, List.length_map, List.nil_append, true_and, and_true, if_true, if_false, Nat.zero_add, decide_true, decide_false, Nat.reduceLT, reduceCtorEq, Nat.le_refl, List.getD_eq_getElem?_getD]
  ((repeat' (apply And.intro)) <;> try (first | rfl | omega | (unfold I64; omega)))
  refine Run.loopV (α := Nat) (fun j => j ≤ k.toNat) (fun j => [(6, .int .u64 (fromBE ((c :: r).take j) : Nat)), (7, .int .i64 ((j : Int) + 1))]) 0 (fun _ => []) (fun j => k.toNat - j) 0 (Nat.zero_le _) ?_ ?_
  · simp only [writes, junks, puts, hputs, List.filterMap_cons, List.filterMap_nil, Int.natCast_zero, Int.natCast_add, Int.natCast_one, List.set_cons_zero, List.set_cons_succ, List.take_zero, List.take_nil, List.cons_append, List.nil_append, List.append_nil]
    (refine Weak.of (by simp [hc0]) ?_ ?_ <;> (repeat' (first | exact WkT.nil | exact WkH.nil _ | exact Le.refl _ | exact Le.junk _ | exact Le1.refl _ | exact Le1.nil _ | exact Le1.tok _ _ _ | exact Le1L.nil | rfl | apply WkT.cons | apply WkH.cons | apply LeB.same | apply LeB.box | apply Le1L.cons | apply Le.agg | apply Le.one)))
  · intro j hj ih
    simp only [writes, junks, puts, hputs, List.filterMap_cons, List.filterMap_nil, Int.natCast_add, Int.natCast_one, List.set_cons_zero, List.set_cons_succ, List.take_nil, List.cons_append, List.nil_append, List.append_nil] at ih ⊢
    have hjn : ((j : Int) + 1).toNat = j + 1 := by omega
    by_cases hjk : j < k.toNat
    · have hjr : j < (c :: r).length := by simp; omega
      have hg : (c :: r)[j]? = some ((c :: r)[j]) := List.getElem?_eq_getElem hjr
      have hsn : fromBE ((c :: r).take (j + 1)) = fromBE ((c :: r).take j) * 256 + ((c :: r)[j]).toNat := by
        rw [List.take_add_one, hg, ← fromBE_snoc]; rfl
      have hF := fromBE_lt ((c :: r).take j)
      have hFl : ((c :: r).take j).length = j := by rw [List.length_take]; omega
      rw [hFl] at hF
      have hpow : 256 ^ j ≤ 256 ^ 7 := Nat.pow_le_pow_right (by omega) (by omega)
      have hx : ([AV.int .u8 c.toNat] :: List.map byteC r)[j]? = some [.int .u8 ((c :: r)[j]).toNat] := by
        have e : ([AV.int .u8 c.toNat] :: List.map byteC r) = (c :: r).map byteC := rfl
        rw [e, List.getElem?_map, hg]; rfl
      have hor := mul_acc (fromBE ((c :: r).take j)) ((c :: r)[j]) (by omega)
      rw [← hsn] at hor
      obtain ⟨G, hG⟩ : ∃ G, G = fromBE ((c :: r).take (j + 1)) := ⟨_, rfl⟩
      rw [← hG] at hor
      generalize (c :: r)[j] = x at *
      have hjj : (j : Int) + 1 ≤ k.toNat := by omega
      refine Run.god tab_ok follows_ok Try.func26 60 ?_; simp only [hx, hjj, hjn, List.getElem?_cons_succ, hor, decide_true, eq_self, ↓alt_t, drun, aops, aone, aop, needs, ext, aev, aconst, aput, aupd, aload, aindexAddr, acmp, aarith, ashift, abin, aconv, tab_3, tab_5, tab_22, tab_23, ok1, cellsAs, TI.agg, Option.getD_some, Option.bind_some, Option.map_some, List.set_cons_zero, List.set_cons_succ, List.length_cons, List.length_nil, List.getElem?_cons_zero, List.getElem?_cons_succ, List.take_succ_cons, List.take_nil, List.length_map, List.nil_append, true_and, if_true, if_false, Nat.zero_add, decide_true, Nat.reduceLT, reduceCtorEq, Nat.le_refl, List.getD_eq_getElem?_getD]
      ((repeat' (apply And.intro)) <;> try (first | rfl | omega | (unfold I64; omega)))
      refine ih (j + 1) _ (by omega) (by omega) ?_
      rw [← hG]
      simp only [Int.natCast_add, Int.natCast_one]
      (refine Weak.of (by simp [hc0]) ?_ ?_ <;> (repeat' (first | exact WkT.nil | exact WkH.nil _ | exact Le.refl _ | exact Le.junk _ | exact Le1.refl _ | exact Le1.nil _ | exact Le1.tok _ _ _ | exact Le1L.nil | rfl | apply WkT.cons | apply WkH.cons | apply LeB.same | apply LeB.box | apply Le1L.cons | apply Le.agg | apply Le.one)))
    · obtain rfl : j = k.toNat := by omega
      have hjj : ¬ (k.toNat : Int) + 1 ≤ k.toNat := by omega
      have hkn : (1 + (k.toNat : Int)).toNat = k.toNat + 1 := by omega
      refine Run.god tab_ok follows_ok Try.func26 60 ?_; simp only [Try.results26, hjj, hkn, eq_self, ↓alt_f, drun, adops, adone, places, mayNeed, freeOk, rdOf, wrOf, aops, aone, afin, ares, aresL, ares1, aresOk, aresOk1, aop, needs, ext, aev, aconst, aput, aupd, acmp, aarith, ashift, abin, aslice, tab_3, tab_5, tab_23, ok1, exitTo, Option.getD_some, Option.bind_some, Option.map_some, Option.map_none, List.set_cons_zero, List.set_cons_succ, List.length_cons, List.length_nil, List.getElem?_cons_zero, List.getElem?_cons_succ, List.drop_succ_cons, List.length_map, List.cons_append, List.nil_append, List.append_nil, true_and, and_true, if_true, if_false, Nat.zero_add, beq_self_eq_true, decide_false, reduceCtorEq, List.getD_eq_getElem?_getD]
      have e : List.drop k.toNat ([AV.int .u8 c.toNat] :: List.map byteC r) = List.map byteC (List.drop k.toNat (c :: r)) := by rw [List.map_drop]; rfl
      rw [e]
      ((repeat' (apply And.intro)) <;> try (first | rfl | omega | (unfold I64; omega)))
      (repeat' (first | exact LeL.nil | exact Le1L.nil | exact Le.refl _ | exact Le1.refl _ | exact Le1.nil _ | exact Le1.tok _ _ _ | exact LeR.one (Le.refl _) | apply LeR.tup | apply LeL.cons | apply Le1L.cons | apply Le.agg | apply Le.one | apply LeR.one))
theorem rtake_spec (b : Bytes) : ASpec Try.prog 26 [bytesA b] (takeA (takeN b)) := by
  match b with
  | [] => exact rtake_nil
  | k :: r =>
    by_cases h8 : (8 : Int) < k.toNat
    · have e : takeN (k :: r) = .error 3 := by
        have q : 8 < k.toNat := by omega
        simp [takeN, q]
      rw [e]
      exact rtake_form k r h8
    · have q : ¬ 8 < k.toNat := by omega
      by_cases h0 : (0 : Int) < k.toNat
      · have q2 : 0 < k.toNat := by omega
        match r with
        | [] =>
          have e : takeN [k] = .error 2 := by simp [takeN, q, q2]
          rw [e]
          exact rtake_short0 k h8 h0
        | c :: r =>
          by_cases hc : (c.toNat : Int) = 0
          · have hz : c = 0 := by apply UInt8.toNat_inj.1; simpa using hc
            have e : takeN (k :: c :: r) = .error 3 := by subst hz; simp [takeN, q2]
            rw [e]
            exact rtake_zero k c r h8 h0 hc
          · have hz : ¬ c = 0 := by intro h; subst h; exact hc rfl
            by_cases hl : ((r.length + 1 + 1 : Nat) : Int) < 1 + k.toNat
            · have q3 : r.length + 1 < k.toNat := by omega
              have e : takeN (k :: c :: r) = .error 2 := by simp [takeN, hz, q, q3]
              rw [e]
              exact rtake_short k c r h8 h0 hc hl
            · have q3 : ¬ r.length + 1 < k.toNat := by omega
              have e : takeN (k :: c :: r) = .ok (fromBE ((c :: r).take k.toNat), (c :: r).drop k.toNat) := by simp [takeN, hz, q, q3]
              rw [e]
              exact rtake_some k c r h8 h0 hc hl
      · have hk : (k.toNat : Int) = 0 := by omega
        have hk' : k.toNat = 0 := by omega
        have e : takeN (k :: r) = .ok (0, r) := by simp [takeN, hk', fromBE]
        rw [e]
        exact rtake_none k r hk
set_option maxRecDepth 20000 in
theorem rtakeint_spec (b : Bytes) : ASpec Try.prog 32 [bytesA b] (takeZA (takeZ b)) := by
  have hsp := rtake_spec b
  cases ht : takeN b with
  | error z =>
    rw [ht] at hsp
    have hz := takeN_err' ht
    refine ⟨⟨_, Try.func32, by kernel_rfl, rfl⟩, ACall.of Try.func32 rfl fun c0 hc0 => ?_⟩; simp only [Try.ntmps32, List.length_cons, List.length_nil, Nat.reduceAdd, Nat.reduceSub, List.replicate_succ, List.replicate_zero, List.cons_append, List.nil_append]; refine Run.god tab_ok follows_ok Try.func32 60 ?_; simp only [bytesA, drun, aops, aone, aop, needs, ext, aev, aconst, aput, aupd, ok1, Option.getD_some, List.set_cons_zero, List.set_cons_succ, List.getElem?_cons_zero, List.nil_append, true_and, if_false, Nat.zero_add, reduceCtorEq, List.getD_eq_getElem?_getD]
    refine Ops.pure .free rfl rfl (hsp) (by simp only [bytesA, aev, Option.getD_some, List.getElem?_cons_zero, List.getElem?_cons_succ, List.map_cons, List.map_nil, List.nil_append, List.append_nil, List.getD_eq_getElem?_getD]; (repeat' (first | exact LeL.nil | exact Le1L.nil | exact Le.refl _ | exact Le1.refl _ | exact Le1.nil _ | exact Le1.tok _ _ _ | exact LeR.one (Le.refl _) | apply LeR.tup | apply LeL.cons | apply Le1L.cons | apply Le.agg | apply Le.one | apply LeR.one))) rfl rfl ?_
    refine Ops.god tab_ok follows_ok Try.func32 60 ?_; simp only [Try.results32, takeA, bytesA, hz, eq_self, ↓alt_t, drun, aops, aone, afin, ares, aresL, ares1, aresOk, aresOk1, aop, needs, ext, aev, aconst, aput, aupd, acmp, ashift, abin, tab_33, ok1, Option.getD_some, Option.bind_some, Option.map_some, List.set_cons_zero, List.set_cons_succ, List.getElem?_cons_zero, List.getElem?_cons_succ, List.map_nil, List.nil_append, true_and, and_true, if_true, if_false, Bool.not_false, decide_false, reduceCtorEq, List.getD_eq_getElem?_getD]
    rw [takeZ, ht]
    simp only [takeZA]
    (repeat' (first | exact LeL.nil | exact Le1L.nil | exact Le.refl _ | exact Le1.refl _ | exact Le1.nil _ | exact Le1.tok _ _ _ | exact LeR.one (Le.refl _) | apply LeR.tup | apply LeL.cons | apply Le1L.cons | apply Le.agg | apply Le.one | apply LeR.one))
  | ok p =>
    obtain ⟨n, r⟩ := p
    obtain ⟨hn, _⟩ := taken_small ht
    rw [ht] at hsp
    have e1 : (n : Int).tmod 2 = ((n % 2 : Nat) : Int) := rfl
    have e2 : IntKind.u64.wrap ((n : Int).tdiv 2) = ((n / 2 : Nat) : Int) := wrap_nat (n / 2) (by omega)
    have e3 : IntKind.i64.wrap ((n / 2 : Nat) : Int) = ((n / 2 : Nat) : Int) := wrap_n64 _ (by omega)
    by_cases h : ((n % 2 : Nat) : Int) = 1
    · have hu : unzig n = -((n / 2 : Nat) : Int) - 1 := by rw [unzig, if_pos (by omega)]
      generalize hq : n / 2 = q at *
      generalize hm : n % 2 = m at *
      refine ⟨⟨_, Try.func32, by kernel_rfl, rfl⟩, ACall.of Try.func32 rfl fun c0 hc0 => ?_⟩; simp only [Try.ntmps32, List.length_cons, List.length_nil, Nat.reduceAdd, Nat.reduceSub, List.replicate_succ, List.replicate_zero, List.cons_append, List.nil_append]; refine Run.god tab_ok follows_ok Try.func32 60 ?_; simp only [bytesA, drun, aops, aone, aop, needs, ext, aev, aconst, aput, aupd, ok1, Option.getD_some, List.set_cons_zero, List.set_cons_succ, List.getElem?_cons_zero, List.nil_append, true_and, if_false, Nat.zero_add, reduceCtorEq, List.getD_eq_getElem?_getD]
      refine Ops.pure .free rfl rfl (hsp) (by simp only [bytesA, aev, Option.getD_some, List.getElem?_cons_zero, List.getElem?_cons_succ, List.map_cons, List.map_nil, List.nil_append, List.append_nil, List.getD_eq_getElem?_getD]; (repeat' (first | exact LeL.nil | exact Le1L.nil | exact Le.refl _ | exact Le1.refl _ | exact Le1.nil _ | exact Le1.tok _ _ _ | exact LeR.one (Le.refl _) | apply LeR.tup | apply LeL.cons | apply Le1L.cons | apply Le.agg | apply Le.one | apply LeR.one))) rfl rfl ?_
      refine Ops.god tab_ok follows_ok Try.func32 60 ?_; simp only [Try.results32, takeA, bytesA, e1, e2, e3, h, eq_self, ↓alt_t, ↓alt_f, drun, aops, aone, afin, ares, aresL, ares1, aresOk, aresOk1, aop, needs, ext, aev, aconst, aput, aupd, acmp, aarith, ashift, abin, aconv, tab_3, tab_22, tab_33, ok1, Option.getD_some, Option.bind_some, Option.map_some, List.set_cons_zero, List.set_cons_succ, List.getElem?_cons_zero, List.getElem?_cons_succ, List.nil_append, true_and, and_true, if_true, if_false, Bool.not_true, decide_true, reduceCtorEq, List.getD_eq_getElem?_getD]
      rw [takeZ, ht]
      simp only [takeZA, hu]
      ((repeat' (apply And.intro)) <;> try (first | rfl | omega | (unfold I64; omega)))
      (repeat' (first | exact LeL.nil | exact Le1L.nil | exact Le.refl _ | exact Le1.refl _ | exact Le1.nil _ | exact Le1.tok _ _ _ | exact LeR.one (Le.refl _) | apply LeR.tup | apply LeL.cons | apply Le1L.cons | apply Le.agg | apply Le.one | apply LeR.one))
    · have hu : unzig n = ((n / 2 : Nat) : Int) := by rw [unzig, if_neg (by omega)]
      generalize hq : n / 2 = q at *
      generalize hm : n % 2 = m at *
      refine ⟨⟨_, Try.func32, by kernel_rfl, rfl⟩, ACall.of Try.func32 rfl fun c0 hc0 => ?_⟩; simp only [Try.ntmps32, List.length_cons, List.length_nil, Nat.reduceAdd, Nat.reduceSub, List.replicate_succ, List.replicate_zero, List.cons_append, List.nil_append]; refine Run.god tab_ok follows_ok Try.func32 60 ?_; simp only [bytesA, drun, aops, aone, aop, needs, ext, aev, aconst, aput, aupd, ok1, Option.getD_some, List.set_cons_zero, List.set_cons_succ, List.getElem?_cons_zero, List.nil_append, true_and, if_false, Nat.zero_add, reduceCtorEq, List.getD_eq_getElem?_getD]
      refine Ops.pure .free rfl rfl (hsp) (by simp only [bytesA, aev, Option.getD_some, List.getElem?_cons_zero, List.getElem?_cons_succ, List.map_cons, List.map_nil, List.nil_append, List.append_nil, List.getD_eq_getElem?_getD]; (repeat' (first | exact LeL.nil | exact Le1L.nil | exact Le.refl _ | exact Le1.refl _ | exact Le1.nil _ | exact Le1.tok _ _ _ | exact LeR.one (Le.refl _) | apply LeR.tup | apply LeL.cons | apply Le1L.cons | apply Le.agg | apply Le.one | apply LeR.one))) rfl rfl ?_
      refine Ops.god tab_ok follows_ok Try.func32 60 ?_; simp only [Try.results32, takeA, bytesA, e1, e2, e3, h, eq_self, ↓alt_f, drun, aops, aone, afin, ares, aresL, ares1, aresOk, aresOk1, aop, needs, ext, aev, aconst, aput, aupd, acmp, aarith, ashift, abin, aconv, tab_3, tab_22, tab_33, ok1, Option.getD_some, Option.bind_some, Option.map_some, List.set_cons_zero, List.set_cons_succ, List.getElem?_cons_zero, List.getElem?_cons_succ, List.nil_append, true_and, and_true, if_true, if_false, Bool.not_true, decide_true, decide_false, reduceCtorEq, List.getD_eq_getElem?_getD]
      rw [takeZ, ht]
      simp only [takeZA, hu]
      ((repeat' (apply And.intro)) <;> try (first | rfl | omega | (unfold I64; omega)))
      (repeat' (first | exact LeL.nil | exact Le1L.nil | exact Le.refl _ | exact Le1.refl _ | exact Le1.nil _ | exact Le1.tok _ _ _ | exact LeR.one (Le.refl _) | apply LeR.tup | apply LeL.cons | apply Le1L.cons | apply Le.agg | apply Le.one | apply LeR.one))
set_option maxRecDepth 20000 in
theorem rtaketext_spec (b : Bytes) (most : Int) (hb : b.length ≤ 1000000) (hm : 0 ≤ most ∧ most ≤ 1000000) : ASpec Try.prog 28 [bytesA b, .int .i64 most] (takeTA (takeT b most)) := by
  have hsp := rtake_spec b
  cases ht : takeN b with
  | error z =>
    rw [ht] at hsp
    have hz : ¬ z = 0 := takeN_err' ht
    refine ⟨⟨_, Try.func28, by kernel_rfl, rfl⟩, ACall.of Try.func28 rfl fun c0 hc0 => ?_⟩; simp only [Try.ntmps28, List.length_cons, List.length_nil, Nat.reduceAdd, Nat.reduceSub, List.replicate_succ, List.replicate_zero, List.cons_append, List.nil_append]; refine Run.god tab_ok follows_ok Try.func28 60 ?_; simp only [bytesA, drun, aops, aone, aop, needs, ext, aev, aconst, aput, aupd, ok1, Option.getD_some, List.set_cons_zero, List.set_cons_succ, List.getElem?_cons_zero, List.nil_append, true_and, if_false, Nat.zero_add, reduceCtorEq, List.getD_eq_getElem?_getD]
    refine Ops.pure .free rfl rfl (hsp) (by simp only [bytesA, aev, Option.getD_some, List.getElem?_cons_zero, List.getElem?_cons_succ, List.map_cons, List.map_nil, List.nil_append, List.append_nil, List.getD_eq_getElem?_getD]; (repeat' (first | exact LeL.nil | exact Le1L.nil | exact Le.refl _ | exact Le1.refl _ | exact Le1.nil _ | exact Le1.tok _ _ _ | exact LeR.one (Le.refl _) | apply LeR.tup | apply LeL.cons | apply Le1L.cons | apply Le.agg | apply Le.one | apply LeR.one))) rfl rfl ?_
    refine Ops.god tab_ok follows_ok Try.func28 60 ?_; simp only [Try.results28, takeA, bytesA, hz, eq_self, ↓alt_t, drun, aops, aone, afin, ares, aresL, ares1, aresOk, aresOk1, aop, needs, ext, aev, aconst, aput, aupd, acmp, ashift, abin, tab_33, ok1, Option.getD_some, Option.bind_some, Option.map_some, List.set_cons_zero, List.set_cons_succ, List.getElem?_cons_zero, List.getElem?_cons_succ, List.map_nil, List.nil_append, true_and, and_true, if_true, if_false, Bool.not_false, decide_false, reduceCtorEq, List.getD_eq_getElem?_getD]
    rw [takeT, ht]
    simp only [takeTA]
    (repeat' (first | exact LeL.nil | exact Le1L.nil | exact Le.refl _ | exact Le1.refl _ | exact Le1.nil _ | exact Le1.tok _ _ _ | exact LeR.one (Le.refl _) | apply LeR.tup | apply LeL.cons | apply Le1L.cons | apply Le.agg | apply Le.one | apply LeR.one))
  | ok p =>
    obtain ⟨n, r⟩ := p
    obtain ⟨hn, hl⟩ := taken_small ht
    rw [ht] at hsp
    have hw : IntKind.u64.wrap most = most := by
      obtain ⟨m, rfl⟩ := Int.eq_ofNat_of_zero_le hm.1
      exact wrap_nat m (by omega)
    have hw2 : IntKind.u64.wrap (r.length : Int) = r.length := wrap_nat _ (by omega)
    have hmx : max most 0 = most := by omega
    by_cases h1 : most < (n : Int)
    · refine ⟨⟨_, Try.func28, by kernel_rfl, rfl⟩, ACall.of Try.func28 rfl fun c0 hc0 => ?_⟩; simp only [Try.ntmps28, List.length_cons, List.length_nil, Nat.reduceAdd, Nat.reduceSub, List.replicate_succ, List.replicate_zero, List.cons_append, List.nil_append]; refine Run.god tab_ok follows_ok Try.func28 60 ?_; simp only [bytesA, drun, aops, aone, aop, needs, ext, aev, aconst, aput, aupd, ok1, Option.getD_some, List.set_cons_zero, List.set_cons_succ, List.getElem?_cons_zero, List.nil_append, true_and, if_false, Nat.zero_add, reduceCtorEq, List.getD_eq_getElem?_getD]
      refine Ops.pure .free rfl rfl (hsp) (by simp only [bytesA, aev, Option.getD_some, List.getElem?_cons_zero, List.getElem?_cons_succ, List.map_cons, List.map_nil, List.nil_append, List.append_nil, List.getD_eq_getElem?_getD]; (repeat' (first | exact LeL.nil | exact Le1L.nil | exact Le.refl _ | exact Le1.refl _ | exact Le1.nil _ | exact Le1.tok _ _ _ | exact LeR.one (Le.refl _) | apply LeR.tup | apply LeL.cons | apply Le1L.cons | apply Le.agg | apply Le.one | apply LeR.one))) rfl rfl ?_
      refine Ops.god tab_ok follows_ok Try.func28 60 ?_; simp only [Try.results28, takeA, bytesA, hw, hmx, h1, eq_self, ↓alt_t, ↓alt_f, drun, aops, aone, afin, ares, aresL, ares1, aresOk, aresOk1, aop, needs, ext, aev, aconst, aput, aupd, acmp, ashift, abin, aconv, tab_3, tab_22, tab_33, ok1, Option.getD_some, Option.bind_some, Option.map_some, List.set_cons_zero, List.set_cons_succ, List.getElem?_cons_zero, List.getElem?_cons_succ, List.map_cons, List.map_nil, List.nil_append, true_and, and_true, if_true, if_false, Bool.not_true, decide_true, reduceCtorEq, List.getD_eq_getElem?_getD]
      rw [takeT, ht]
      simp only [if_pos (show (max most 0).toNat < n by omega), takeTA]
      (repeat' (first | exact LeL.nil | exact Le1L.nil | exact Le.refl _ | exact Le1.refl _ | exact Le1.nil _ | exact Le1.tok _ _ _ | exact LeR.one (Le.refl _) | apply LeR.tup | apply LeL.cons | apply Le1L.cons | apply Le.agg | apply Le.one | apply LeR.one))
    · by_cases h2 : (r.length : Int) < (n : Int)
      · refine ⟨⟨_, Try.func28, by kernel_rfl, rfl⟩, ACall.of Try.func28 rfl fun c0 hc0 => ?_⟩; simp only [Try.ntmps28, List.length_cons, List.length_nil, Nat.reduceAdd, Nat.reduceSub, List.replicate_succ, List.replicate_zero, List.cons_append, List.nil_append]; refine Run.god tab_ok follows_ok Try.func28 60 ?_; simp only [bytesA, drun, aops, aone, aop, needs, ext, aev, aconst, aput, aupd, ok1, Option.getD_some, List.set_cons_zero, List.set_cons_succ, List.getElem?_cons_zero, List.nil_append, true_and, if_false, Nat.zero_add, reduceCtorEq, List.getD_eq_getElem?_getD]
        refine Ops.pure .free rfl rfl (hsp) (by simp only [bytesA, aev, Option.getD_some, List.getElem?_cons_zero, List.getElem?_cons_succ, List.map_cons, List.map_nil, List.nil_append, List.append_nil, List.getD_eq_getElem?_getD]; (repeat' (first | exact LeL.nil | exact Le1L.nil | exact Le.refl _ | exact Le1.refl _ | exact Le1.nil _ | exact Le1.tok _ _ _ | exact LeR.one (Le.refl _) | apply LeR.tup | apply LeL.cons | apply Le1L.cons | apply Le.agg | apply Le.one | apply LeR.one))) rfl rfl ?_
        refine Ops.god tab_ok follows_ok Try.func28 60 ?_; simp only [Try.results28, takeA, bytesA, hw, hw2, hmx, h1, h2, eq_self, ↓alt_t, ↓alt_f, drun, aops, aone, afin, ares, aresL, ares1, aresOk, aresOk1, aop, needs, ext, aev, aconst, aput, aupd, acmp, ashift, abin, aconv, alen, tab_3, tab_22, tab_23, tab_33, ok1, Option.getD_some, Option.bind_some, Option.map_some, List.set_cons_zero, List.set_cons_succ, List.getElem?_cons_zero, List.getElem?_cons_succ, List.map_cons, List.map_nil, List.length_map, List.nil_append, true_and, and_true, if_true, if_false, Bool.not_true, decide_true, decide_false, reduceCtorEq, List.getD_eq_getElem?_getD]
        rw [takeT, ht]
        simp only [if_neg (show ¬ (max most 0).toNat < n by omega), if_pos (show r.length < n by omega), takeTA]
        (repeat' (first | exact LeL.nil | exact Le1L.nil | exact Le.refl _ | exact Le1.refl _ | exact Le1.nil _ | exact Le1.tok _ _ _ | exact LeR.one (Le.refl _) | apply LeR.tup | apply LeL.cons | apply Le1L.cons | apply Le.agg | apply Le.one | apply LeR.one))
      · refine ⟨⟨_, Try.func28, by kernel_rfl, rfl⟩, ACall.of Try.func28 rfl fun c0 hc0 => ?_⟩; simp only [Try.ntmps28, List.length_cons, List.length_nil, Nat.reduceAdd, Nat.reduceSub, List.replicate_succ, List.replicate_zero, List.cons_append, List.nil_append]; refine Run.god tab_ok follows_ok Try.func28 60 ?_; simp only [bytesA, drun, aops, aone, aop, needs, ext, aev, aconst, aput, aupd, ok1, Option.getD_some, List.set_cons_zero, List.set_cons_succ, List.getElem?_cons_zero, List.nil_append, true_and, if_false, Nat.zero_add, reduceCtorEq, List.getD_eq_getElem?_getD]
        refine Ops.pure .free rfl rfl (hsp) (by simp only [bytesA, aev, Option.getD_some, List.getElem?_cons_zero, List.getElem?_cons_succ, List.map_cons, List.map_nil, List.nil_append, List.append_nil, List.getD_eq_getElem?_getD]; (repeat' (first | exact LeL.nil | exact Le1L.nil | exact Le.refl _ | exact Le1.refl _ | exact Le1.nil _ | exact Le1.tok _ _ _ | exact LeR.one (Le.refl _) | apply LeR.tup | apply LeL.cons | apply Le1L.cons | apply Le.agg | apply Le.one | apply LeR.one))) rfl rfl ?_
        refine Ops.god tab_ok follows_ok Try.func28 60 ?_; simp only [Try.results28, takeA, bytesA, hw, hw2, hmx, h1, h2, eq_self, ↓alt_f, drun, adops, adone, places, mayNeed, freeOk, rdOf, wrOf, aops, aone, afin, ares, aresL, ares1, aresOk, aresOk1, aop, needs, ext, aev, aconst, aput, aupd, acmp, ashift, abin, aconv, alen, aslice, tab_3, tab_5, tab_9, tab_22, tab_23, tab_33, ok1, Option.getD_some, Option.bind_some, Option.map_some, Option.map_none, List.set_cons_zero, List.set_cons_succ, List.length_nil, List.getElem?_cons_zero, List.getElem?_cons_succ, List.map_cons, List.map_nil, List.length_map, List.cons_append, List.nil_append, List.append_nil, true_and, and_true, if_true, if_false, Nat.zero_add, Bool.not_true, decide_true, decide_false, reduceCtorEq, Int.toNat_natCast, List.getD_eq_getElem?_getD]
        rw [takeT, ht]
        simp only [if_neg (show ¬ (max most 0).toNat < n by omega), if_neg (show ¬ r.length < n by omega), takeTA]
        rw [← List.map_take, ← List.map_drop, bytesOf_map]
        ((repeat' (apply And.intro)) <;> try (first | rfl | omega | (unfold I64; omega)))
        (repeat' (first | exact LeL.nil | exact Le1L.nil | exact Le.refl _ | exact Le1.refl _ | exact Le1.nil _ | exact Le1.tok _ _ _ | exact LeR.one (Le.refl _) | apply LeR.tup | apply LeL.cons | apply Le1L.cons | apply Le.agg | apply Le.one | apply LeR.one))
set_option maxRecDepth 20000 in
theorem rtakelist_spec (b : Bytes) (many most : Int) (hb : b.length ≤ 1000000) (hma : 0 ≤ many ∧ many ≤ 1000000) (hm : 0 ≤ most ∧ most ≤ 1000000) : ASpec Try.prog 30 [bytesA b, .int .i64 many, .int .i64 most] (takeLA (takeL b many most)) := by
  have hsp := rtake_spec b
  cases ht : takeN b with
  | error z =>
    rw [ht] at hsp
    have hz := takeN_err' ht
    refine ⟨⟨_, Try.func30, by kernel_rfl, rfl⟩, ACall.of Try.func30 rfl fun c0 hc0 => ?_⟩; simp only [Try.ntmps30, List.length_cons, List.length_nil, Nat.reduceAdd, Nat.reduceSub, List.replicate_succ, List.replicate_zero, List.cons_append, List.nil_append]; refine Run.god tab_ok follows_ok Try.func30 60 ?_; simp only [bytesA, drun, aops, aone, aop, needs, ext, aev, aconst, aput, aupd, ok1, Option.getD_some, List.set_cons_zero, List.set_cons_succ, List.getElem?_cons_zero, List.nil_append, true_and, if_false, Nat.zero_add, reduceCtorEq, List.getD_eq_getElem?_getD]
    refine Ops.pure .free rfl rfl (hsp) (by simp only [bytesA, aev, Option.getD_some, List.getElem?_cons_zero, List.getElem?_cons_succ, List.map_cons, List.map_nil, List.nil_append, List.append_nil, List.getD_eq_getElem?_getD]; (repeat' (first | exact LeL.nil | exact Le1L.nil | exact Le.refl _ | exact Le1.refl _ | exact Le1.nil _ | exact Le1.tok _ _ _ | exact LeR.one (Le.refl _) | apply LeR.tup | apply LeL.cons | apply Le1L.cons | apply Le.agg | apply Le.one | apply LeR.one))) rfl rfl ?_
    refine Ops.god tab_ok follows_ok Try.func30 60 ?_; simp only [Try.results30, takeA, bytesA, hz, eq_self, ↓alt_t, drun, aops, aone, afin, ares, aresL, ares1, aresOk, aresOk1, aop, needs, ext, aev, aconst, aput, aupd, acmp, ashift, abin, tab_33, ok1, Option.getD_some, Option.bind_some, Option.map_some, List.set_cons_zero, List.set_cons_succ, List.getElem?_cons_zero, List.getElem?_cons_succ, List.map_nil, List.nil_append, true_and, and_true, if_true, if_false, Bool.not_false, decide_false, reduceCtorEq, List.getD_eq_getElem?_getD]
    rw [takeL, ht]
    simp only [takeLA, textsA, bytesA, List.map_nil]
    (repeat' (first | exact LeL.nil | exact Le1L.nil | exact Le.refl _ | exact Le1.refl _ | exact Le1.nil _ | exact Le1.tok _ _ _ | exact LeR.one (Le.refl _) | apply LeR.tup | apply LeL.cons | apply Le1L.cons | apply Le.agg | apply Le.one | apply LeR.one))
  | ok p =>
    obtain ⟨n, r⟩ := p
    obtain ⟨hn, hl⟩ := taken_small ht
    rw [ht] at hsp
    have hw : IntKind.u64.wrap many = many := by
      obtain ⟨m, rfl⟩ := Int.eq_ofNat_of_zero_le hma.1
      exact wrap_nat m (by omega)
    have hmx : max many 0 = many := by omega
    by_cases h1 : many < (n : Int)
    · refine ⟨⟨_, Try.func30, by kernel_rfl, rfl⟩, ACall.of Try.func30 rfl fun c0 hc0 => ?_⟩; simp only [Try.ntmps30, List.length_cons, List.length_nil, Nat.reduceAdd, Nat.reduceSub, List.replicate_succ, List.replicate_zero, List.cons_append, List.nil_append]; refine Run.god tab_ok follows_ok Try.func30 60 ?_; simp only [bytesA, drun, aops, aone, aop, needs, ext, aev, aconst, aput, aupd, ok1, Option.getD_some, List.set_cons_zero, List.set_cons_succ, List.getElem?_cons_zero, List.nil_append, true_and, if_false, Nat.zero_add, reduceCtorEq, List.getD_eq_getElem?_getD]
      refine Ops.pure .free rfl rfl (hsp) (by simp only [bytesA, aev, Option.getD_some, List.getElem?_cons_zero, List.getElem?_cons_succ, List.map_cons, List.map_nil, List.nil_append, List.append_nil, List.getD_eq_getElem?_getD]; (repeat' (first | exact LeL.nil | exact Le1L.nil | exact Le.refl _ | exact Le1.refl _ | exact Le1.nil _ | exact Le1.tok _ _ _ | exact LeR.one (Le.refl _) | apply LeR.tup | apply LeL.cons | apply Le1L.cons | apply Le.agg | apply Le.one | apply LeR.one))) rfl rfl ?_
      refine Ops.god tab_ok follows_ok Try.func30 60 ?_; simp only [Try.results30, takeA, bytesA, hw, hmx, h1, eq_self, ↓alt_t, ↓alt_f, drun, aops, aone, afin, ares, aresL, ares1, aresOk, aresOk1, aop, needs, ext, aev, aconst, aput, aupd, acmp, ashift, abin, aconv, tab_3, tab_22, tab_33, ok1, Option.getD_some, Option.bind_some, Option.map_some, List.set_cons_zero, List.set_cons_succ, List.getElem?_cons_zero, List.getElem?_cons_succ, List.map_cons, List.map_nil, List.nil_append, true_and, and_true, if_true, if_false, Bool.not_true, decide_true, reduceCtorEq, List.getD_eq_getElem?_getD]
      rw [takeL, ht]
      simp only [if_pos (show (max many 0).toNat < n by omega), takeLA, textsA, bytesA, List.map_nil]
      (repeat' (first | exact LeL.nil | exact Le1L.nil | exact Le.refl _ | exact Le1.refl _ | exact Le1.nil _ | exact Le1.tok _ _ _ | exact LeR.one (Le.refl _) | apply LeR.tup | apply LeL.cons | apply Le1L.cons | apply Le.agg | apply Le.one | apply LeR.one))
    · have e : takeL b many most = takeTs most n r := by
        rw [takeL, ht]
        simp only [if_neg (show ¬ (max many 0).toNat < n by omega)]
      rw [e]
      refine ⟨⟨_, Try.func30, by kernel_rfl, rfl⟩, ACall.of Try.func30 rfl fun c0 hc0 => ?_⟩; simp only [Try.ntmps30, List.length_cons, List.length_nil, Nat.reduceAdd, Nat.reduceSub, List.replicate_succ, List.replicate_zero, List.cons_append, List.nil_append]; refine Run.god tab_ok follows_ok Try.func30 60 ?_; simp only [bytesA, drun, aops, aone, aop, needs, ext, aev, aconst, aput, aupd, ok1, Option.getD_some, List.set_cons_zero, List.set_cons_succ, List.getElem?_cons_zero, List.nil_append, true_and, if_false, Nat.zero_add, reduceCtorEq, List.getD_eq_getElem?_getD]
      refine Ops.pure .free rfl rfl (hsp) (by simp only [bytesA, aev, Option.getD_some, List.getElem?_cons_zero, List.getElem?_cons_succ, List.map_cons, List.map_nil, List.nil_append, List.append_nil, List.getD_eq_getElem?_getD]; (repeat' (first | exact LeL.nil | exact Le1L.nil | exact Le.refl _ | exact Le1.refl _ | exact Le1.nil _ | exact Le1.tok _ _ _ | exact LeR.one (Le.refl _) | apply LeR.tup | apply LeL.cons | apply Le1L.cons | apply Le.agg | apply Le.one | apply LeR.one))) rfl rfl ?_
      refine Ops.god tab_ok follows_ok Try.func30 60 ?_; simp only [takeA, bytesA, hw, hmx, h1, eq_self, ↓alt_f, drun, aops, aone, aop, needs, ext, aev, aconst, aput, aupd, acmp, ashift, abin, aconv, aelems, plains, tab_3, tab_9, tab_22, tab_28, tab_33, ok1, Option.getD_some, Option.bind_some, Option.map_some, List.set_cons_zero, List.set_cons_succ, List.length_nil, List.getElem?_cons_zero, List.getElem?_cons_succ, List.map_cons, List.map_nil, List.cons_append, List.nil_append, List.all_nil, List.replicate_zero, true_and, and_true, if_true, if_false, Nat.reduceLeDiff, Nat.reduceMul, Bool.not_true, decide_true, decide_false, Nat.reduceLT, Nat.reduceLeDiff, reduceCtorEq, List.getD_eq_getElem?_getD]
      ((repeat' (apply And.intro)) <;> try (first | rfl | omega | (unfold I64; omega)))
      refine Run.loopV (α := Nat × List Bytes × Bytes) (fun x => x.1 ≤ n ∧ x.2.1.length = x.1 ∧ x.2.2.length ≤ r.length ∧ takeTs most n r = glue x.2.1 (takeTs most (n - x.1) x.2.2)) (fun x => [(10, bytesA x.2.2), (12, .sl 1 (x.2.1.map textC) (.own 0)), (13, .int .u64 x.1)]) 1 (fun x => [(0, .tok 1 x.2.1.length)]) (fun x => n - x.1) (0, [], r) ⟨Nat.zero_le _, rfl, Nat.le_refl _, by simp only [Nat.sub_zero]; cases takeTs most n r <;> rfl⟩ ?_ ?_
      · simp only [writes, junks, puts, hputs, List.filterMap_cons, List.filterMap_nil, Int.natCast_zero, List.set_cons_zero, List.set_cons_succ, List.length_nil, List.take_succ_cons, List.take_nil, List.map_nil, List.cons_append, List.nil_append, List.append_nil, bytesA]
        (refine Weak.of (by simp [hc0]) ?_ ?_ <;> (repeat' (first | exact WkT.nil | exact WkH.nil _ | exact Le.refl _ | exact Le.junk _ | exact Le1.refl _ | exact Le1.nil _ | exact Le1.tok _ _ _ | exact Le1L.nil | rfl | apply WkT.cons | apply WkH.cons | apply LeB.same | apply LeB.box | apply Le1L.cons | apply Le.agg | apply Le.one)))
      · rintro ⟨k, l, y⟩ ⟨hI, hll, hyl, hrd⟩ ih
        simp only [writes, junks, puts, hputs, List.filterMap_cons, List.filterMap_nil, List.set_cons_zero, List.set_cons_succ, List.take_succ_cons, List.take_nil, List.cons_append, List.nil_append, List.append_nil] at hI hll hyl hrd ih ⊢
        by_cases hk : k < n
        · have hkk : (k : Int) < n := by omega
          have hs := rtaketext_spec y most (by omega) hm
          obtain ⟨m, hm⟩ : ∃ m, n - k = m + 1 := ⟨n - k - 1, by omega⟩
          rw [hm] at hrd
          cases hty : takeT y most with
          | error z =>
            rw [takeTs_err hty] at hrd
            rw [hty] at hs
            have hz := takeT_err' hty
            refine Run.god tab_ok follows_ok Try.func30 60 ?_; simp only [hkk, bytesA, eq_self, ↓alt_t, drun, aops, aone, aop, needs, ext, aev, aput, aupd, acmp, ashift, abin, tab_22, ok1, Option.getD_some, Option.bind_some, List.set_cons_zero, List.set_cons_succ, List.getElem?_cons_zero, List.getElem?_cons_succ, List.cons_append, List.nil_append, true_and, if_true, if_false, Nat.reduceAdd, Nat.zero_add, decide_true, reduceCtorEq, List.getD_eq_getElem?_getD]
            refine Ops.pure .free rfl rfl (hs) (by simp only [bytesA, aev, Option.getD_some, List.getElem?_cons_zero, List.getElem?_cons_succ, List.map_cons, List.map_nil, List.nil_append, List.append_nil, List.getD_eq_getElem?_getD]; (repeat' (first | exact LeL.nil | exact Le1L.nil | exact Le.refl _ | exact Le1.refl _ | exact Le1.nil _ | exact Le1.tok _ _ _ | exact LeR.one (Le.refl _) | apply LeR.tup | apply LeL.cons | apply Le1L.cons | apply Le.agg | apply Le.one | apply LeR.one))) rfl rfl ?_
            refine Ops.god tab_ok follows_ok Try.func30 60 ?_; simp only [Try.results30, takeTA, bytesA, hz, eq_self, ↓alt_t, drun, aops, aone, afin, ares, aresL, ares1, aresOk, aresOk1, aop, needs, ext, aev, aconst, aput, aupd, acmp, ashift, abin, tab_33, ok1, Option.getD_some, Option.bind_some, Option.map_some, List.set_cons_zero, List.set_cons_succ, List.getElem?_cons_zero, List.getElem?_cons_succ, List.map_nil, List.cons_append, List.nil_append, true_and, and_true, if_true, if_false, Bool.not_false, decide_false, reduceCtorEq, List.getD_eq_getElem?_getD]
            rw [hrd]
            simp only [takeLA, textsA, bytesA, List.map_nil]
            (repeat' (first | exact LeL.nil | exact Le1L.nil | exact Le.refl _ | exact Le1.refl _ | exact Le1.nil _ | exact Le1.tok _ _ _ | exact LeR.one (Le.refl _) | apply LeR.tup | apply LeL.cons | apply Le1L.cons | apply Le.agg | apply Le.one | apply LeR.one))
          | ok p =>
            obtain ⟨s, y2⟩ := p
            rw [takeTs_ok hty] at hrd
            rw [hty] at hs
            have hsh := (takeT_shorter hty).1
            refine Run.god tab_ok follows_ok Try.func30 60 ?_; simp only [hkk, bytesA, eq_self, ↓alt_t, drun, aops, aone, aop, needs, ext, aev, aput, aupd, acmp, ashift, abin, tab_22, ok1, Option.getD_some, Option.bind_some, List.set_cons_zero, List.set_cons_succ, List.getElem?_cons_zero, List.getElem?_cons_succ, List.cons_append, List.nil_append, true_and, if_true, if_false, Nat.reduceAdd, Nat.zero_add, decide_true, reduceCtorEq, List.getD_eq_getElem?_getD]
            refine Ops.pure .free rfl rfl (hs) (by simp only [bytesA, aev, Option.getD_some, List.getElem?_cons_zero, List.getElem?_cons_succ, List.map_cons, List.map_nil, List.nil_append, List.append_nil, List.getD_eq_getElem?_getD]; (repeat' (first | exact LeL.nil | exact Le1L.nil | exact Le.refl _ | exact Le1.refl _ | exact Le1.nil _ | exact Le1.tok _ _ _ | exact LeR.one (Le.refl _) | apply LeR.tup | apply LeL.cons | apply Le1L.cons | apply Le.agg | apply Le.one | apply LeR.one))) rfl rfl ?_
            have hwk : IntKind.u64.wrap ((k : Int) + 1) = (k : Int) + 1 := wrap_nat (k + 1) (by omega)
            refine Ops.god tab_ok follows_ok Try.func30 60 ?_; simp only [takeTA, bytesA, hwk, List.length_map, eq_self, ↓alt_f, drun, aops, aone, aop, needs, ext, aev, aconst, aput, aupd, acmp, aarith, ashift, abin, aelems, plains, asrc, aappend, tab_9, tab_22, tab_28, tab_33, ok1, AV.cells, AV.whole, AV.plain, AV.bare, Option.getD_some, Option.bind_some, Option.map_some, List.set_cons_zero, List.set_cons_succ, List.length_cons, List.length_nil, List.getElem?_cons_zero, List.getElem?_cons_succ, List.getElem?_toArray, List.map_cons, List.map_nil, List.length_map, List.cons_append, List.nil_append, List.all_cons, List.all_nil, List.replicate_succ, List.replicate_zero, true_and, and_true, if_true, if_false, Nat.reduceLeDiff, Nat.reduceMul, Nat.zero_add, Bool.and_self, Bool.not_true, decide_true, Nat.reduceLT, Nat.reduceLeDiff, reduceCtorEq, List.getD_eq_getElem?_getD]
            ((repeat' (apply And.intro)) <;> try (first | rfl | omega | (unfold I64; omega)))
            refine ih (k + 1, l ++ [s], y2) _ ⟨by dsimp only; omega, by simp; omega, by dsimp only; omega, ?_⟩ (by dsimp only; omega) ?_
            · rw [hrd]
              show _ = glue (l ++ [s]) (takeTs most (n - (k + 1)) y2)
              rw [show n - (k + 1) = m by omega]
            · simp only [Int.natCast_add, Int.natCast_one, List.length_cons, List.length_nil, List.map_cons, List.map_nil, Nat.zero_add, bytesA, List.map_append, textC, List.length_append]
              (refine Weak.of (by simp [hc0]) ?_ ?_ <;> (repeat' (first | exact WkT.nil | exact WkH.nil _ | exact Le.refl _ | exact Le.junk _ | exact Le1.refl _ | exact Le1.nil _ | exact Le1.tok _ _ _ | exact Le1L.nil | rfl | apply WkT.cons | apply WkH.cons | apply LeB.same | apply LeB.box | apply Le1L.cons | apply Le.agg | apply Le.one)))
        · obtain rfl : k = n := by omega
          have hkk : ¬ (k : Int) < k := by omega
          rw [Nat.sub_self] at hrd
          refine Run.god tab_ok follows_ok Try.func30 60 ?_; simp only [Try.results30, hkk, bytesA, eq_self, ↓alt_f, drun, aops, aone, afin, ares, aresL, ares1, aresOk, aresOk1, aop, needs, ext, aev, aconst, aput, aupd, acmp, ashift, abin, tab_22, ok1, exitTo, Option.getD_some, Option.bind_some, Option.map_some, List.set_cons_zero, List.set_cons_succ, List.getElem?_cons_zero, List.getElem?_cons_succ, List.cons_append, List.nil_append, true_and, and_true, if_true, if_false, beq_self_eq_true, decide_false, reduceCtorEq, List.getD_eq_getElem?_getD]
          rw [hrd]
          simp only [takeTs, glue, List.append_nil, takeLA, textsA, bytesA]
          (repeat' (first | exact LeL.nil | exact Le1L.nil | exact Le.refl _ | exact Le1.refl _ | exact Le1.nil _ | exact Le1.tok _ _ _ | exact LeR.one (Le.refl _) | apply LeR.tup | apply LeL.cons | apply Le1L.cons | apply Le.agg | apply Le.one | apply LeR.one))
end Go.Proofs.Ytpigfpnpabnnbaa
