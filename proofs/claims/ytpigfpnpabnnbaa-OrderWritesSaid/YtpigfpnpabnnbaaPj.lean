/-
  order.Put and order.PutReply as rows of their own.
-/
import Derived.Test.YtpigfpnpabnnbaaAj
import Derived.Test.YtpigfpnpabnnbaaPf
namespace Go.Proofs.Ytpigfpnpabnnbaa
open Go.RowKit
theorem RV.texts {c : Cx} {v : Value} {L : List Bytes} {t : Tk} (h : RV c v (.sl 1 (L.map textC) t)) (hl : ∀ s ∈ L, s.length ≤ maxLen) : ∃ A cap, ∃ qs : List ByteArray, v = .slice A L.length cap ∧ L.length ≤ cap ∧ cap ≤ maxLen ∧ qs.map sb = L ∧ Sl strR 1 c.w.heap.size c.w A qs := by
  obtain ⟨A, cap, xs, rfl, h1, h2, hf, _, hc⟩ := h.flat
  simp only [List.length_map] at h1 ⊢
  have hsb : ∀ s : Bytes, sb ⟨s.toArray⟩ = s := fun s => rfl
  refine ⟨A, cap, L.map fun s => ⟨s.toArray⟩, rfl, h1, h2, by rw [List.map_map]; exact (List.map_congr_left fun s _ => hsb s).trans (List.map_id L), fun hn => ?_⟩
  have hn' : L ≠ [] := by simpa using hn
  obtain ⟨bl, o, rfl, hcc⟩ := hc (by simpa using hn')
  obtain ⟨x0, hx0⟩ : ∃ x, L[0]? = some x := ⟨_, List.getElem?_eq_getElem (List.length_pos_iff.2 hn')⟩
  have key : ∀ (j : Nat) a, L[j]? = some a → c.im bl (o + j) ∧ c.w.cell? ⟨bl, o + j, none⟩ = some (.string ⟨a.toArray⟩) := fun j a hj => by
    obtain ⟨_, u, g1, g2⟩ := hf.rv j (textC a) 0 _ (by rw [List.getElem?_map, hj]; rfl) rfl
    rw [Nat.mul_one, Nat.add_zero] at g1
    obtain ⟨w1, w2⟩ := hcc j u g1
    refine ⟨w1, ?_⟩
    rw [w2]
    cases g2 with
    | str q l h => rw [← h]
  refine ⟨bl, o, rfl, (key 0 x0 hx0).1.1, fun j a hj => ?_⟩
  rw [List.getElem?_map, Option.map_eq_some_iff] at hj
  obtain ⟨s, hs, rfl⟩ := hj
  refine ⟨[.string ⟨s.toArray⟩], rfl, str_at (hl s (List.mem_of_getElem? hs)), fun i u hu => ?_⟩
  match i, hu with
  | 0, hu =>
    simp only [List.getElem?_cons_zero, Option.some.injEq] at hu
    subst hu
    rw [Nat.mul_one, Nat.add_zero]
    exact (key j s hs).2
theorem list_own (b : Bytes) (l : List Bytes) (hb : b.length + tot l ≤ 900000) : OSpec Try.prog 23 [bytesA b, textsA l] 1 ((b ++ encL l).map byteC) := by
  refine own_spec ⟨_, Try.func23, by kernel_rfl, rfl⟩ fun c vs hh hc hr => ?_
  obtain ⟨u, v, rfl, hu, hv⟩ := hr.two
  obtain ⟨A, cap, rfl, g1, g2, hs⟩ := hu.bytes
  have hml : ∀ s ∈ l, s.length ≤ maxLen := fun s hs => by
    obtain ⟨j, hj⟩ := List.mem_iff_getElem?.1 hs
    have := tot_mem hj
    unfold maxLen; omega
  obtain ⟨A2, cap2, qs, rfl, k1, k2, hq, hs2⟩ := hv.texts hml
  have hlen : qs.length = l.length := by rw [← hq, List.length_map]
  have := list_any A A2 b qs b.length cap l.length cap2 rfl g1 g2 hlen (by rw [hq]; exact hb) c.w hs hs2
  rw [hq] at this
  refine this.mono ?_
  rintro e w' ⟨v, rfl, h, hb⟩
  exact ⟨v, _, rfl, h, hb⟩
set_option maxRecDepth 20000 in
theorem put12_own (b : Bytes) (o : Ord) (hb : b.length ≤ 100000) (ho : smO o) : OSpec Try.prog 37 [bytesA b, encO o] 1 ((b ++ putO o).map byteC) := by
  obtain ⟨h1, h2, h3, h4, h5, h6, h7, h8⟩ := ho
  have hi := ints_spec b [o.a, o.b, o.kind, o.x, o.y, o.z] (by omega) (by simp) (by simp; exact ⟨h1, h2, h3, h4, h5, h6⟩)
  have hl := encZs_le [o.a, o.b, o.kind, o.x, o.y, o.z] (by simp; exact ⟨h1, h2, h3, h4, h5, h6⟩)
  simp only [List.length_cons, List.length_nil, Nat.reduceAdd, Nat.reduceMul] at hl
  have ht := encT_le o.s (by omega)
  refine ⟨⟨_, Try.func37, by kernel_rfl, rfl⟩, ACall.of Try.func37 rfl fun c0 hc0 => ?_⟩; simp only [Try.ntmps37, List.length_cons, List.length_nil, Nat.reduceAdd, Nat.reduceSub, List.replicate_succ, List.replicate_zero, List.cons_append, List.nil_append]; refine Run.god tab_ok follows_ok Try.func37 60 ?_; simp only [encO, bytesA, eq_self, drun, adops, adone, places, mayNeed, freeOk, rdOf, AV.id, wrOf, aops, aone, aop, needs, ext, aev, aconst, aput, aupd, aload, afieldAddr, aelems, plains, tab_3, tab_48, tab_79, ok1, cellsAs, TI.agg, AV.cells, AV.whole, AV.plain, AV.bare, Option.getD_some, Option.bind_some, Option.map_some, List.set_cons_zero, List.set_cons_succ, List.length_cons, List.length_nil, List.getElem?_cons_zero, List.getElem?_cons_succ, List.drop_zero, List.drop_succ_cons, List.take_succ_cons, List.take_zero, List.take_nil, List.map_cons, List.map_nil, List.length_map, List.cons_append, List.nil_append, List.all_cons, List.all_nil, List.replicate_succ, List.replicate_zero, true_and, and_true, if_true, if_false, Nat.reduceAdd, Nat.reduceLeDiff, Nat.reduceMul, Nat.zero_add, Nat.add_zero, Bool.and_self, Nat.reduceLT, Nat.reduceLeDiff, reduceCtorEq, Nat.le_refl, List.getD_eq_getElem?_getD]
  refine ⟨rfl, ?_⟩
  refine DOps.pure rfl .free rfl rfl (hi) (by simp only [bytesA, intC, aev, Option.getD_some, List.getElem?_cons_zero, List.getElem?_cons_succ, List.map_cons, List.map_nil, List.nil_append, List.append_nil, List.getD_eq_getElem?_getD]; (repeat' (first | exact LeL.nil | exact Le1L.nil | exact Le.refl _ | exact Le1.refl _ | exact Le1.nil _ | exact Le1.tok _ _ _ | exact LeR.one (Le.refl _) | apply LeR.tup | apply LeL.cons | apply Le1L.cons | apply Le.agg | apply Le.one | apply LeR.one))) rfl rfl ?_
  refine DOps.god tab_ok follows_ok Try.func37 60 rfl ?_; simp only [bytesA, adops, adone, mayNeed, freeOk, rdOf, AV.id, wrOf, aop, needs, aev, aput, aupd, aload, afieldAddr, tab_9, tab_48, ok1, cellsAs, TI.agg, Option.getD_some, Option.bind_some, Option.map_some, List.set_cons_zero, List.set_cons_succ, List.length_cons, List.length_nil, List.getElem?_cons_zero, List.getElem?_cons_succ, List.drop_zero, List.drop_succ_cons, List.take_succ_cons, List.take_zero, List.cons_append, List.nil_append, true_and, and_true, if_false, Nat.reduceAdd, Nat.reduceLeDiff, Nat.zero_add, Nat.reduceLeDiff, reduceCtorEq, List.getD_eq_getElem?_getD]
  have hs1 := (text_spec (b ++ encZs [o.a, o.b, o.kind, o.x, o.y, o.z]) o.s (by rw [List.length_append]; omega) (by omega)).spec
  refine DOps.pure rfl .free rfl rfl (hs1) (by simp only [bytesA, aev, Option.getD_some, List.getElem?_cons_zero, List.getElem?_cons_succ, List.map_cons, List.map_nil, List.nil_append, List.append_nil, List.getD_eq_getElem?_getD]; (repeat' (first | exact LeL.nil | exact Le1L.nil | exact Le.refl _ | exact Le1.refl _ | exact Le1.nil _ | exact Le1.tok _ _ _ | exact LeR.one (Le.refl _) | apply LeR.tup | apply LeL.cons | apply Le1L.cons | apply Le.agg | apply Le.one | apply LeR.one))) rfl rfl ?_
  refine DOps.god tab_ok follows_ok Try.func37 60 rfl ?_; simp only [adops, adone, mayNeed, freeOk, rdOf, AV.id, wrOf, aop, needs, aev, aput, aupd, aload, afieldAddr, tab_9, tab_48, ok1, cellsAs, TI.agg, Option.getD_some, Option.bind_some, Option.map_some, List.set_cons_zero, List.set_cons_succ, List.length_cons, List.length_nil, List.getElem?_cons_zero, List.getElem?_cons_succ, List.drop_zero, List.drop_succ_cons, List.take_succ_cons, List.take_zero, List.cons_append, List.nil_append, true_and, and_true, if_false, Nat.reduceAdd, Nat.reduceLeDiff, Nat.zero_add, Nat.reduceLeDiff, reduceCtorEq, List.getD_eq_getElem?_getD]
  have hs2 := text_spec (b ++ encZs [o.a, o.b, o.kind, o.x, o.y, o.z] ++ encT o.s) o.t (by simp only [List.length_append]; omega) (by omega)
  refine DOps.own rfl .free rfl rfl (hs2) (by simp only [bytesA, aev, Option.getD_some, List.getElem?_cons_zero, List.getElem?_cons_succ, List.map_cons, List.map_nil, List.nil_append, List.append_nil, List.getD_eq_getElem?_getD]; (repeat' (first | exact LeL.nil | exact Le1L.nil | exact Le.refl _ | exact Le1.refl _ | exact Le1.nil _ | exact Le1.tok _ _ _ | exact LeR.one (Le.refl _) | apply LeR.tup | apply LeL.cons | apply Le1L.cons | apply Le.agg | apply Le.one | apply LeR.one))) rfl rfl ?_
  refine DOps.god tab_ok follows_ok Try.func37 60 rfl ?_; simp only [Try.results37, drun, adops, adone, freeOk, rdOf, wrOf, afin, ares, aresL, ares1, aresOk, aresOk1, aop, needs, aev, aput, aupd, ok1, Option.getD_some, Option.bind_some, Option.map_some, List.set_cons_zero, List.set_cons_succ, List.getElem?_cons_zero, List.getElem?_cons_succ, List.length_map, List.cons_append, List.nil_append, true_and, and_true, if_false, Nat.reduceAdd, reduceCtorEq, List.getD_eq_getElem?_getD]
  refine ⟨rfl, _, by simp only [putO, List.append_assoc]; rfl, ?_⟩
  simp only [putO, List.append_assoc]
  rfl
set_option maxRecDepth 20000 in
theorem putreply_own (b : Bytes) (r : Rpl) (hb : b.length ≤ 100000) (ho : smR r) : OSpec Try.prog 40 [bytesA b, encR r] 1 ((b ++ putR r).map byteC) := by
  obtain ⟨h1, h2, h3, h4, h7, h8⟩ := ho
  have hi := ints_spec b [r.a, r.b, r.e, r.x] (by omega) (by simp) (by simp; exact ⟨h1, h2, h3, h4⟩)
  have hl := encZs_le [r.a, r.b, r.e, r.x] (by simp; exact ⟨h1, h2, h3, h4⟩)
  simp only [List.length_cons, List.length_nil, Nat.reduceAdd, Nat.reduceMul] at hl
  have ht := encT_le r.s (by omega)
  refine ⟨⟨_, Try.func40, by kernel_rfl, rfl⟩, ACall.of Try.func40 rfl fun c0 hc0 => ?_⟩; simp only [Try.ntmps40, List.length_cons, List.length_nil, Nat.reduceAdd, Nat.reduceSub, List.replicate_succ, List.replicate_zero, List.cons_append, List.nil_append]; refine Run.god tab_ok follows_ok Try.func40 60 ?_; simp only [encR, textsA, bytesA, eq_self, drun, adops, adone, places, mayNeed, freeOk, rdOf, AV.id, wrOf, aops, aone, aop, needs, ext, aev, aconst, aput, aupd, aload, afieldAddr, aelems, plains, tab_3, tab_33, tab_52, tab_79, ok1, cellsAs, TI.agg, AV.cells, AV.whole, AV.plain, AV.bare, Option.getD_some, Option.bind_some, Option.map_some, List.set_cons_zero, List.set_cons_succ, List.length_cons, List.length_nil, List.getElem?_cons_zero, List.getElem?_cons_succ, List.drop_zero, List.drop_succ_cons, List.take_succ_cons, List.take_zero, List.map_cons, List.map_nil, List.length_map, List.cons_append, List.nil_append, List.all_cons, List.all_nil, List.replicate_succ, List.replicate_zero, true_and, and_true, if_true, if_false, Nat.reduceAdd, Nat.reduceLeDiff, Nat.reduceMul, Nat.zero_add, Nat.add_zero, Bool.and_self, Nat.reduceLT, Nat.reduceLeDiff, reduceCtorEq, List.getD_eq_getElem?_getD]
  refine ⟨rfl, ?_⟩
  refine DOps.pure rfl .free rfl rfl (hi) (by simp only [bytesA, intC, aev, Option.getD_some, List.getElem?_cons_zero, List.getElem?_cons_succ, List.map_cons, List.map_nil, List.nil_append, List.append_nil, List.getD_eq_getElem?_getD]; (repeat' (first | exact LeL.nil | exact Le1L.nil | exact Le.refl _ | exact Le1.refl _ | exact Le1.nil _ | exact Le1.tok _ _ _ | exact LeR.one (Le.refl _) | apply LeR.tup | apply LeL.cons | apply Le1L.cons | apply Le.agg | apply Le.one | apply LeR.one))) rfl rfl ?_
  refine DOps.god tab_ok follows_ok Try.func40 60 rfl ?_; simp only [bytesA, adops, adone, mayNeed, freeOk, rdOf, AV.id, wrOf, aop, needs, aev, aput, aupd, aload, afieldAddr, tab_9, tab_52, ok1, cellsAs, TI.agg, Option.getD_some, Option.bind_some, Option.map_some, List.set_cons_zero, List.set_cons_succ, List.length_cons, List.length_nil, List.getElem?_cons_zero, List.getElem?_cons_succ, List.drop_zero, List.drop_succ_cons, List.take_succ_cons, List.take_zero, List.cons_append, List.nil_append, true_and, and_true, if_false, Nat.reduceAdd, Nat.reduceLeDiff, Nat.zero_add, Nat.reduceLeDiff, reduceCtorEq, List.getD_eq_getElem?_getD]
  have hs1 := (text_spec (b ++ encZs [r.a, r.b, r.e, r.x]) r.s (by rw [List.length_append]; omega) (by omega)).spec
  refine DOps.pure rfl .free rfl rfl (hs1) (by simp only [bytesA, aev, Option.getD_some, List.getElem?_cons_zero, List.getElem?_cons_succ, List.map_cons, List.map_nil, List.nil_append, List.append_nil, List.getD_eq_getElem?_getD]; (repeat' (first | exact LeL.nil | exact Le1L.nil | exact Le.refl _ | exact Le1.refl _ | exact Le1.nil _ | exact Le1.tok _ _ _ | exact LeR.one (Le.refl _) | apply LeR.tup | apply LeL.cons | apply Le1L.cons | apply Le.agg | apply Le.one | apply LeR.one))) rfl rfl ?_
  refine DOps.god tab_ok follows_ok Try.func40 60 rfl ?_; simp only [adops, adone, mayNeed, freeOk, rdOf, AV.id, wrOf, aop, needs, aev, aput, aupd, aload, afieldAddr, tab_28, tab_52, ok1, cellsAs, TI.agg, Option.getD_some, Option.bind_some, Option.map_some, List.set_cons_zero, List.set_cons_succ, List.length_cons, List.length_nil, List.getElem?_cons_zero, List.getElem?_cons_succ, List.drop_zero, List.drop_succ_cons, List.take_succ_cons, List.take_nil, List.cons_append, List.nil_append, true_and, and_true, if_false, Nat.reduceAdd, Nat.zero_add, reduceCtorEq, Nat.le_refl, List.getD_eq_getElem?_getD]
  have hs2 := list_own (b ++ encZs [r.a, r.b, r.e, r.x] ++ encT r.s) r.l (by simp only [List.length_append]; omega)
  refine DOps.own rfl .free rfl rfl (hs2) (by simp only [bytesA, textsA, aev, Option.getD_some, List.getElem?_cons_zero, List.getElem?_cons_succ, List.map_cons, List.map_nil, List.nil_append, List.append_nil, List.getD_eq_getElem?_getD]; (repeat' (first | exact LeL.nil | exact Le1L.nil | exact Le.refl _ | exact Le1.refl _ | exact Le1.nil _ | exact Le1.tok _ _ _ | exact LeR.one (Le.refl _) | apply LeR.tup | apply LeL.cons | apply Le1L.cons | apply Le.agg | apply Le.one | apply LeR.one))) rfl rfl ?_
  refine DOps.god tab_ok follows_ok Try.func40 60 rfl ?_; simp only [Try.results40, drun, adops, adone, freeOk, rdOf, wrOf, afin, ares, aresL, ares1, aresOk, aresOk1, aop, needs, aev, aput, aupd, ok1, Option.getD_some, Option.bind_some, Option.map_some, List.set_cons_zero, List.set_cons_succ, List.getElem?_cons_zero, List.getElem?_cons_succ, List.length_map, List.cons_append, List.nil_append, true_and, and_true, if_false, Nat.reduceAdd, reduceCtorEq, List.getD_eq_getElem?_getD]
  refine ⟨rfl, _, by simp only [putR, List.append_assoc]; rfl, ?_⟩
  simp only [putR, List.append_assoc]
  rfl
end Go.Proofs.Ytpigfpnpabnnbaa
