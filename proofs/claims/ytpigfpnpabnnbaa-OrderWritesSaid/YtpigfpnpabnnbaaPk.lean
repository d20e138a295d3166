/-
  The document's Put, PutReply and May of layer 12, told by their shadows.
-/
import Derived.Test.YtpigfpnpabnnbaaPi
import Derived.Test.YtpigfpnpabnnbaaPj
import Derived.Test.YtpigfpnpabnnbaaOctetRefB
namespace Go.Proofs.Ytpigfpnpabnnbaa
open Go.RowKit
theorem rint_spec (b : Bytes) (n : Int) (hb : b.length ≤ 1000000) (h1 : I64 n) : OSpec Try.prog 20 [bytesA b, .int .i64 n] 1 ((b ++ encN (zig n)).map byteC) := by
  refine own_spec ⟨_, Try.func20, by kernel_rfl, rfl⟩ fun c vs hh hc hr => ?_
  obtain ⟨u, v, rfl, hu, hv⟩ := hr.two
  obtain ⟨A, cap, rfl, g1, g2, hs⟩ := hu.bytes
  cases hv
  unfold I64 at h1
  refine (rint_any A b b.length cap n rfl g1 g2 (by omega) (by omega) hb c.w hs).mono ?_
  rintro e w' ⟨v, rfl, h, hb⟩
  exact ⟨v, _, rfl, h, hb⟩
theorem rtext_spec (b s : Bytes) (hb : b.length ≤ 1000000) (h1 : s.length ≤ 1000000) : OSpec Try.prog 22 [bytesA b, .str s] 1 ((b ++ encT s).map byteC) := by
  refine own_spec ⟨_, Try.func22, by kernel_rfl, rfl⟩ fun c vs hh hc hr => ?_
  obtain ⟨u, v, rfl, hu, hv⟩ := hr.two
  obtain ⟨A, cap, rfl, g1, g2, hs⟩ := hu.bytes
  obtain ⟨q, rfl, rfl⟩ := hv.strb
  rw [sb_size] at h1
  refine (rtext_any A b b.length cap q rfl g1 g2 h1 hb c.w hs).mono ?_
  rintro e w' ⟨v, rfl, h, hb⟩
  exact ⟨v, _, rfl, h, hb⟩
theorem rlist_own (b : Bytes) (l : List Bytes) (hb : b.length + tot l ≤ 900000) : OSpec Try.prog 24 [bytesA b, textsA l] 1 ((b ++ encL l).map byteC) := by
  refine own_spec ⟨_, Try.func24, by kernel_rfl, rfl⟩ fun c vs hh hc hr => ?_
  obtain ⟨u, v, rfl, hu, hv⟩ := hr.two
  obtain ⟨A, cap, rfl, g1, g2, hs⟩ := hu.bytes
  have hml : ∀ s ∈ l, s.length ≤ maxLen := fun s hs => by
    obtain ⟨j, hj⟩ := List.mem_iff_getElem?.1 hs
    have := tot_mem hj
    unfold maxLen; omega
  obtain ⟨A2, cap2, qs, rfl, k1, k2, hq, hs2⟩ := hv.texts hml
  have hlen : qs.length = l.length := by rw [← hq, List.length_map]
  have := rlist_any A A2 b qs b.length cap l.length cap2 rfl g1 g2 hlen (by rw [hq]; exact hb) c.w hs hs2
  rw [hq] at this
  refine this.mono ?_
  rintro e w' ⟨v, rfl, h, hb⟩
  exact ⟨v, _, rfl, h, hb⟩
set_option maxRecDepth 20000 in
theorem rput12_spec (b : Bytes) (o : Ord) (hb : b.length ≤ 100000) (ho : smO o) : ASpec Try.prog 38 [bytesA b, encO o] (bytesA (b ++ putO o)) := by
  obtain ⟨h0, h1, h2, h3, h4, h5, ha, hb2⟩ := ho
  have hz : ∀ n ∈ [o.a, o.b, o.kind, o.x, o.y, o.z], I64 n := by simp; exact ⟨h0, h1, h2, h3, h4, h5⟩
  have hl := encZs_le [o.a, o.b, o.kind, o.x, o.y, o.z] hz
  have ht := encT_le o.s (by omega)
  simp only [List.length_cons, List.length_nil, Nat.reduceAdd, Nat.reduceMul] at hl
  refine ⟨⟨_, Try.func38, by kernel_rfl, rfl⟩, ACall.of Try.func38 rfl fun c0 hc0 => ?_⟩; simp only [Try.ntmps38, List.length_cons, List.length_nil, Nat.reduceAdd, Nat.reduceSub, List.replicate_succ, List.replicate_zero, List.cons_append, List.nil_append]; refine Run.god tab_ok follows_ok Try.func38 60 ?_; simp only [encO, bytesA, eq_self, drun, aops, aone, aop, needs, ext, aev, aconst, aput, aupd, aload, afieldAddr, aelems, plains, tab_3, tab_56, tab_79, ok1, cellsAs, TI.agg, AV.cells, AV.whole, AV.plain, AV.bare, Option.getD_some, Option.bind_some, Option.map_some, List.set_cons_zero, List.set_cons_succ, List.length_cons, List.length_nil, List.getElem?_cons_zero, List.getElem?_cons_succ, List.drop_zero, List.drop_succ_cons, List.take_succ_cons, List.take_zero, List.take_nil, List.map_cons, List.map_nil, List.cons_append, List.nil_append, List.all_cons, List.all_nil, List.replicate_succ, List.replicate_zero, true_and, and_true, if_true, if_false, Nat.reduceAdd, Nat.reduceLeDiff, Nat.reduceMul, Nat.zero_add, Nat.add_zero, Bool.and_self, Nat.reduceLT, Nat.reduceLeDiff, reduceCtorEq, Nat.le_refl, List.getD_eq_getElem?_getD]
  refine Run.loopV (α := Nat) (fun k => k ≤ 6) (fun k => [(0, bytesA (b ++ encZs ([o.a, o.b, o.kind, o.x, o.y, o.z].take k))), (6, .int .i64 k)]) 2 (fun _ => []) (fun k => 6 - k) 0 (Nat.zero_le _) ?_ ?_
  · simp only [writes, junks, puts, hputs, List.filterMap_cons, List.filterMap_nil, Int.natCast_zero, List.set_cons_zero, List.set_cons_succ, List.take_succ_cons, List.take_zero, List.take_nil, List.map_nil, List.cons_append, List.nil_append, List.append_nil, bytesA, encZs, List.flatten_nil]
    (refine Weak.of (by simp [hc0]) ?_ ?_ <;> (repeat' (first | exact WkT.nil | exact WkH.nil _ | exact Le.refl _ | exact Le.junk _ | exact Le1.refl _ | exact Le1.nil _ | exact Le1.tok _ _ _ | exact Le1L.nil | rfl | apply WkT.cons | apply WkH.cons | apply LeB.same | apply LeB.box | apply Le1L.cons | apply Le.agg | apply Le.one)))
  · intro k hI ih
    simp only [writes, junks, puts, hputs, List.filterMap_cons, List.filterMap_nil, List.set_cons_zero, List.set_cons_succ, List.take_succ_cons, List.take_nil, List.cons_append, List.nil_append, List.append_nil] at ih ⊢
    by_cases hk : k < 6
    · obtain ⟨x, hx⟩ : ∃ x, ([o.a, o.b, o.kind, o.x, o.y, o.z])[k]? = some x := ⟨_, List.getElem?_eq_getElem (by simpa using hk)⟩
      have hkk : (k : Int) < 6 := by omega
      have hxm := hz x (List.mem_of_getElem? hx)
      have hx' : ([[.int .i64 o.a], [.int .i64 o.b], [.int .i64 o.kind], [.int .i64 o.x], [.int .i64 o.y], [.int .i64 o.z]] : List (List AV))[k]? = some [.int .i64 x] := by
        show (([o.a, o.b, o.kind, o.x, o.y, o.z]).map intC)[k]? = _
        rw [List.getElem?_map, hx]; rfl
      have hle := encZs_le ([o.a, o.b, o.kind, o.x, o.y, o.z].take k) fun n hn => hz n (List.mem_of_mem_take hn)
      rw [List.length_take] at hle
      have hsn : encZs ([o.a, o.b, o.kind, o.x, o.y, o.z].take (k + 1)) = encZs ([o.a, o.b, o.kind, o.x, o.y, o.z].take k) ++ encN (zig x) := by
        rw [List.take_add_one, hx]
        simp [encZs]
      refine Run.god tab_ok follows_ok Try.func38 60 ?_; simp only [hx', hkk, bytesA, Int.cast_ofNat_Int, eq_self, ↓alt_t, drun, aops, aone, aop, needs, ext, aev, aput, aupd, aload, aindexAddr, acmp, ashift, abin, alen, tab_3, tab_79, ok1, cellsAs, TI.agg, Option.getD_some, Option.bind_some, Option.map_some, List.set_cons_zero, List.set_cons_succ, List.length_cons, List.length_nil, List.getElem?_cons_zero, List.getElem?_cons_succ, List.take_succ_cons, List.take_nil, List.cons_append, List.nil_append, true_and, and_true, if_true, if_false, Nat.reduceAdd, Nat.zero_add, decide_true, Nat.reduceLT, reduceCtorEq, Nat.le_refl, Int.toNat_natCast, List.getD_eq_getElem?_getD]
      ((repeat' (apply And.intro)) <;> try (first | rfl | omega | (unfold I64; omega)))
      have hc := (rint_spec (b ++ encZs ([o.a, o.b, o.kind, o.x, o.y, o.z].take k)) x (by rw [List.length_append]; omega) hxm).spec
      refine Ops.pure .free rfl rfl (hc) (by simp only [bytesA, aev, Option.getD_some, List.getElem?_cons_zero, List.getElem?_cons_succ, List.map_cons, List.map_nil, List.nil_append, List.append_nil, List.getD_eq_getElem?_getD]; (repeat' (first | exact LeL.nil | exact Le1L.nil | exact Le.refl _ | exact Le1.refl _ | exact Le1.nil _ | exact Le1.tok _ _ _ | exact LeR.one (Le.refl _) | apply LeR.tup | apply LeL.cons | apply Le1L.cons | apply Le.agg | apply Le.one | apply LeR.one))) rfl rfl ?_
      refine Ops.god tab_ok follows_ok Try.func38 60 ?_; simp only [eq_self, drun, aops, aone, aop, needs, ext, aev, aconst, aput, aupd, acmp, aarith, ashift, abin, tab_3, ok1, Option.getD_some, Option.bind_some, List.set_cons_zero, List.set_cons_succ, List.getElem?_cons_zero, List.getElem?_cons_succ, List.cons_append, List.nil_append, true_and, if_true, if_false, reduceCtorEq, List.getD_eq_getElem?_getD]
      ((repeat' (apply And.intro)) <;> try (first | rfl | omega | (unfold I64; omega)))
      refine ih (k + 1) _ (by omega) (by omega) ?_
      rw [hsn, ← List.append_assoc]
      simp only [Int.natCast_add, Int.natCast_one, bytesA]
      (refine Weak.of (by simp [hc0]) ?_ ?_ <;> (repeat' (first | exact WkT.nil | exact WkH.nil _ | exact Le.refl _ | exact Le.junk _ | exact Le1.refl _ | exact Le1.nil _ | exact Le1.tok _ _ _ | exact Le1L.nil | rfl | apply WkT.cons | apply WkH.cons | apply LeB.same | apply LeB.box | apply Le1L.cons | apply Le.agg | apply Le.one)))
    · obtain rfl : k = 6 := by omega
      refine Run.god tab_ok follows_ok Try.func38 60 ?_; simp only [bytesA, Int.cast_ofNat_Int, Int.lt_irrefl, eq_self, ↓alt_f, drun, aops, aone, aop, needs, ext, aev, aput, aupd, aload, afieldAddr, acmp, ashift, abin, alen, tab_3, tab_9, tab_56, tab_79, ok1, cellsAs, TI.agg, exitTo, Option.getD_some, Option.bind_some, Option.map_some, List.set_cons_zero, List.set_cons_succ, List.length_cons, List.length_nil, List.getElem?_cons_zero, List.getElem?_cons_succ, List.drop_zero, List.drop_succ_cons, List.take_succ_cons, List.take_zero, List.take_nil, List.cons_append, List.nil_append, true_and, if_true, if_false, Nat.reduceAdd, Nat.reduceLeDiff, Nat.zero_add, beq_self_eq_true, decide_false, Nat.reduceLeDiff, reduceCtorEq, List.getD_eq_getElem?_getD]
      have hs1 := (rtext_spec (b ++ encZs [o.a, o.b, o.kind, o.x, o.y, o.z]) o.s (by rw [List.length_append]; omega) (by omega)).spec
      refine Ops.pure .free rfl rfl (hs1) (by simp only [bytesA, aev, Option.getD_some, List.getElem?_cons_zero, List.getElem?_cons_succ, List.map_cons, List.map_nil, List.nil_append, List.append_nil, List.getD_eq_getElem?_getD]; (repeat' (first | exact LeL.nil | exact Le1L.nil | exact Le.refl _ | exact Le1.refl _ | exact Le1.nil _ | exact Le1.tok _ _ _ | exact LeR.one (Le.refl _) | apply LeR.tup | apply LeL.cons | apply Le1L.cons | apply Le.agg | apply Le.one | apply LeR.one))) rfl rfl ?_
      refine Ops.god tab_ok follows_ok Try.func38 60 ?_; simp only [drun, aops, aone, aop, needs, ext, aev, aput, aupd, aload, afieldAddr, tab_9, tab_56, ok1, cellsAs, TI.agg, Option.getD_some, Option.bind_some, Option.map_some, List.set_cons_zero, List.set_cons_succ, List.length_cons, List.length_nil, List.getElem?_cons_zero, List.getElem?_cons_succ, List.drop_zero, List.drop_succ_cons, List.take_succ_cons, List.take_zero, List.cons_append, List.nil_append, true_and, if_false, Nat.reduceAdd, Nat.reduceLeDiff, Nat.zero_add, Nat.reduceLeDiff, reduceCtorEq, List.getD_eq_getElem?_getD]
      have hs2 := (rtext_spec (b ++ encZs [o.a, o.b, o.kind, o.x, o.y, o.z] ++ encT o.s) o.t (by simp only [List.length_append]; omega) (by omega)).spec
      refine Ops.pure .free rfl rfl (hs2) (by simp only [bytesA, aev, Option.getD_some, List.getElem?_cons_zero, List.getElem?_cons_succ, List.map_cons, List.map_nil, List.nil_append, List.append_nil, List.getD_eq_getElem?_getD]; (repeat' (first | exact LeL.nil | exact Le1L.nil | exact Le.refl _ | exact Le1.refl _ | exact Le1.nil _ | exact Le1.tok _ _ _ | exact LeR.one (Le.refl _) | apply LeR.tup | apply LeL.cons | apply Le1L.cons | apply Le.agg | apply Le.one | apply LeR.one))) rfl rfl ?_
      refine Ops.god tab_ok follows_ok Try.func38 60 ?_; simp only [Try.results38, drun, aops, aone, afin, ares, aresL, ares1, aresOk, aresOk1, aop, needs, ext, aev, aput, aupd, ok1, Option.getD_some, Option.bind_some, Option.map_some, List.set_cons_zero, List.set_cons_succ, List.getElem?_cons_zero, List.getElem?_cons_succ, List.cons_append, List.nil_append, true_and, and_true, if_false, reduceCtorEq, List.getD_eq_getElem?_getD]
      simp only [putO, List.append_assoc]
      (repeat' (first | exact LeL.nil | exact Le1L.nil | exact Le.refl _ | exact Le1.refl _ | exact Le1.nil _ | exact Le1.tok _ _ _ | exact LeR.one (Le.refl _) | apply LeR.tup | apply LeL.cons | apply Le1L.cons | apply Le.agg | apply Le.one | apply LeR.one))
set_option maxRecDepth 20000 in
theorem rputreply_spec (b : Bytes) (o : Rpl) (hb : b.length ≤ 100000) (ho : smR o) : ASpec Try.prog 41 [bytesA b, encR o] (bytesA (b ++ putR o)) := by
  obtain ⟨h0, h1, h2, h3, ha, hb2⟩ := ho
  have hz : ∀ n ∈ [o.a, o.b, o.e, o.x], I64 n := by simp; exact ⟨h0, h1, h2, h3⟩
  have hl := encZs_le [o.a, o.b, o.e, o.x] hz
  have ht := encT_le o.s (by omega)
  simp only [List.length_cons, List.length_nil, Nat.reduceAdd, Nat.reduceMul] at hl
  refine ⟨⟨_, Try.func41, by kernel_rfl, rfl⟩, ACall.of Try.func41 rfl fun c0 hc0 => ?_⟩; simp only [Try.ntmps41, List.length_cons, List.length_nil, Nat.reduceAdd, Nat.reduceSub, List.replicate_succ, List.replicate_zero, List.cons_append, List.nil_append]; refine Run.god tab_ok follows_ok Try.func41 60 ?_; simp only [encR, textsA, bytesA, eq_self, drun, aops, aone, aop, needs, ext, aev, aconst, aput, aupd, aload, afieldAddr, aelems, plains, tab_3, tab_33, tab_60, tab_79, ok1, cellsAs, TI.agg, AV.cells, AV.whole, AV.plain, AV.bare, Option.getD_some, Option.bind_some, Option.map_some, List.set_cons_zero, List.set_cons_succ, List.length_cons, List.length_nil, List.getElem?_cons_zero, List.getElem?_cons_succ, List.drop_zero, List.drop_succ_cons, List.take_succ_cons, List.take_zero, List.map_cons, List.map_nil, List.cons_append, List.nil_append, List.all_cons, List.all_nil, List.replicate_succ, List.replicate_zero, true_and, and_true, if_true, if_false, Nat.reduceAdd, Nat.reduceLeDiff, Nat.reduceMul, Nat.zero_add, Nat.add_zero, Bool.and_self, Nat.reduceLT, Nat.reduceLeDiff, reduceCtorEq, List.getD_eq_getElem?_getD]
  refine Run.loopV (α := Nat) (fun k => k ≤ 4) (fun k => [(0, bytesA (b ++ encZs ([o.a, o.b, o.e, o.x].take k))), (6, .int .i64 k)]) 2 (fun _ => []) (fun k => 4 - k) 0 (Nat.zero_le _) ?_ ?_
  · simp only [writes, junks, puts, hputs, List.filterMap_cons, List.filterMap_nil, Int.natCast_zero, List.set_cons_zero, List.set_cons_succ, List.take_succ_cons, List.take_zero, List.take_nil, List.map_nil, List.cons_append, List.nil_append, List.append_nil, bytesA, encZs, List.flatten_nil]
    (refine Weak.of (by simp [hc0]) ?_ ?_ <;> (repeat' (first | exact WkT.nil | exact WkH.nil _ | exact Le.refl _ | exact Le.junk _ | exact Le1.refl _ | exact Le1.nil _ | exact Le1.tok _ _ _ | exact Le1L.nil | rfl | apply WkT.cons | apply WkH.cons | apply LeB.same | apply LeB.box | apply Le1L.cons | apply Le.agg | apply Le.one)))
  · intro k hI ih
    simp only [writes, junks, puts, hputs, List.filterMap_cons, List.filterMap_nil, List.set_cons_zero, List.set_cons_succ, List.take_succ_cons, List.take_nil, List.cons_append, List.nil_append, List.append_nil] at ih ⊢
    by_cases hk : k < 4
    · obtain ⟨x, hx⟩ : ∃ x, ([o.a, o.b, o.e, o.x])[k]? = some x := ⟨_, List.getElem?_eq_getElem (by simpa using hk)⟩
      have hkk : (k : Int) < 4 := by omega
      have hxm := hz x (List.mem_of_getElem? hx)
      have hx' : ([[.int .i64 o.a], [.int .i64 o.b], [.int .i64 o.e], [.int .i64 o.x]] : List (List AV))[k]? = some [.int .i64 x] := by
        show (([o.a, o.b, o.e, o.x]).map intC)[k]? = _
        rw [List.getElem?_map, hx]; rfl
      have hle := encZs_le ([o.a, o.b, o.e, o.x].take k) fun n hn => hz n (List.mem_of_mem_take hn)
      rw [List.length_take] at hle
      have hsn : encZs ([o.a, o.b, o.e, o.x].take (k + 1)) = encZs ([o.a, o.b, o.e, o.x].take k) ++ encN (zig x) := by
        rw [List.take_add_one, hx]
        simp [encZs]
      refine Run.god tab_ok follows_ok Try.func41 60 ?_; simp only [hx', hkk, bytesA, Int.cast_ofNat_Int, eq_self, ↓alt_t, drun, aops, aone, aop, needs, ext, aev, aput, aupd, aload, aindexAddr, acmp, ashift, abin, alen, tab_3, tab_79, ok1, cellsAs, TI.agg, Option.getD_some, Option.bind_some, Option.map_some, List.set_cons_zero, List.set_cons_succ, List.length_cons, List.length_nil, List.getElem?_cons_zero, List.getElem?_cons_succ, List.take_succ_cons, List.take_nil, List.cons_append, List.nil_append, true_and, and_true, if_true, if_false, Nat.reduceAdd, Nat.zero_add, decide_true, Nat.reduceLT, reduceCtorEq, Nat.le_refl, Int.toNat_natCast, List.getD_eq_getElem?_getD]
      ((repeat' (apply And.intro)) <;> try (first | rfl | omega | (unfold I64; omega)))
      have hc := (rint_spec (b ++ encZs ([o.a, o.b, o.e, o.x].take k)) x (by rw [List.length_append]; omega) hxm).spec
      refine Ops.pure .free rfl rfl (hc) (by simp only [bytesA, aev, Option.getD_some, List.getElem?_cons_zero, List.getElem?_cons_succ, List.map_cons, List.map_nil, List.nil_append, List.append_nil, List.getD_eq_getElem?_getD]; (repeat' (first | exact LeL.nil | exact Le1L.nil | exact Le.refl _ | exact Le1.refl _ | exact Le1.nil _ | exact Le1.tok _ _ _ | exact LeR.one (Le.refl _) | apply LeR.tup | apply LeL.cons | apply Le1L.cons | apply Le.agg | apply Le.one | apply LeR.one))) rfl rfl ?_
      refine Ops.god tab_ok follows_ok Try.func41 60 ?_; simp only [eq_self, drun, aops, aone, aop, needs, ext, aev, aconst, aput, aupd, acmp, aarith, ashift, abin, tab_3, ok1, Option.getD_some, Option.bind_some, List.set_cons_zero, List.set_cons_succ, List.getElem?_cons_zero, List.getElem?_cons_succ, List.cons_append, List.nil_append, true_and, if_true, if_false, reduceCtorEq, List.getD_eq_getElem?_getD]
      ((repeat' (apply And.intro)) <;> try (first | rfl | omega | (unfold I64; omega)))
      refine ih (k + 1) _ (by omega) (by omega) ?_
      rw [hsn, ← List.append_assoc]
      simp only [Int.natCast_add, Int.natCast_one, bytesA]
      (refine Weak.of (by simp [hc0]) ?_ ?_ <;> (repeat' (first | exact WkT.nil | exact WkH.nil _ | exact Le.refl _ | exact Le.junk _ | exact Le1.refl _ | exact Le1.nil _ | exact Le1.tok _ _ _ | exact Le1L.nil | rfl | apply WkT.cons | apply WkH.cons | apply LeB.same | apply LeB.box | apply Le1L.cons | apply Le.agg | apply Le.one)))
    · obtain rfl : k = 4 := by omega
      refine Run.god tab_ok follows_ok Try.func41 60 ?_; simp only [bytesA, Int.cast_ofNat_Int, Int.lt_irrefl, eq_self, ↓alt_f, drun, aops, aone, aop, needs, ext, aev, aput, aupd, aload, afieldAddr, acmp, ashift, abin, alen, tab_3, tab_9, tab_60, tab_79, ok1, cellsAs, TI.agg, exitTo, Option.getD_some, Option.bind_some, Option.map_some, List.set_cons_zero, List.set_cons_succ, List.length_cons, List.length_nil, List.getElem?_cons_zero, List.getElem?_cons_succ, List.drop_zero, List.drop_succ_cons, List.take_succ_cons, List.take_zero, List.take_nil, List.cons_append, List.nil_append, true_and, if_true, if_false, Nat.reduceAdd, Nat.reduceLeDiff, Nat.zero_add, beq_self_eq_true, decide_false, Nat.reduceLeDiff, reduceCtorEq, List.getD_eq_getElem?_getD]
      have hs1 := (rtext_spec (b ++ encZs [o.a, o.b, o.e, o.x]) o.s (by rw [List.length_append]; omega) (by omega)).spec
      refine Ops.pure .free rfl rfl (hs1) (by simp only [bytesA, aev, Option.getD_some, List.getElem?_cons_zero, List.getElem?_cons_succ, List.map_cons, List.map_nil, List.nil_append, List.append_nil, List.getD_eq_getElem?_getD]; (repeat' (first | exact LeL.nil | exact Le1L.nil | exact Le.refl _ | exact Le1.refl _ | exact Le1.nil _ | exact Le1.tok _ _ _ | exact LeR.one (Le.refl _) | apply LeR.tup | apply LeL.cons | apply Le1L.cons | apply Le.agg | apply Le.one | apply LeR.one))) rfl rfl ?_
      refine Ops.god tab_ok follows_ok Try.func41 60 ?_; simp only [drun, aops, aone, aop, needs, ext, aev, aput, aupd, aload, afieldAddr, tab_28, tab_60, ok1, cellsAs, TI.agg, Option.getD_some, Option.bind_some, Option.map_some, List.set_cons_zero, List.set_cons_succ, List.length_cons, List.length_nil, List.getElem?_cons_zero, List.getElem?_cons_succ, List.drop_zero, List.drop_succ_cons, List.take_succ_cons, List.take_nil, List.cons_append, List.nil_append, true_and, if_false, Nat.reduceAdd, Nat.zero_add, reduceCtorEq, Nat.le_refl, List.getD_eq_getElem?_getD]
      have hs2 := (rlist_own (b ++ encZs [o.a, o.b, o.e, o.x] ++ encT o.s) o.l (by simp only [List.length_append]; omega)).spec
      refine Ops.pure .free rfl rfl (hs2) (by simp only [bytesA, textsA, aev, Option.getD_some, List.getElem?_cons_zero, List.getElem?_cons_succ, List.map_cons, List.map_nil, List.nil_append, List.append_nil, List.getD_eq_getElem?_getD]; (repeat' (first | exact LeL.nil | exact Le1L.nil | exact Le.refl _ | exact Le1.refl _ | exact Le1.nil _ | exact Le1.tok _ _ _ | exact LeR.one (Le.refl _) | apply LeR.tup | apply LeL.cons | apply Le1L.cons | apply Le.agg | apply Le.one | apply LeR.one))) rfl rfl ?_
      refine Ops.god tab_ok follows_ok Try.func41 60 ?_; simp only [Try.results41, drun, aops, aone, afin, ares, aresL, ares1, aresOk, aresOk1, aop, needs, ext, aev, aput, aupd, ok1, Option.getD_some, Option.bind_some, Option.map_some, List.set_cons_zero, List.set_cons_succ, List.getElem?_cons_zero, List.getElem?_cons_succ, List.cons_append, List.nil_append, true_and, and_true, if_false, reduceCtorEq, List.getD_eq_getElem?_getD]
      simp only [putR, List.append_assoc]
      (repeat' (first | exact LeL.nil | exact Le1L.nil | exact Le.refl _ | exact Le1.refl _ | exact Le1.nil _ | exact Le1.tok _ _ _ | exact LeR.one (Le.refl _) | apply LeR.tup | apply LeL.cons | apply Le1L.cons | apply Le.agg | apply Le.one | apply LeR.one))
end Go.Proofs.Ytpigfpnpabnnbaa
