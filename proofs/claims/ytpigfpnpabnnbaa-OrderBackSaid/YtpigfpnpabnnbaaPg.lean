/-
  order's reader, for a reply; order.TakeReply.
-/
import Derived.Test.YtpigfpnpabnnbaaPf
namespace Go.Proofs.Ytpigfpnpabnnbaa
open Go.RowKit
theorem bel_pss (n : Nat) (hn : 3 < n) : ∀ ps : List (Nat × Nat), (∀ p ∈ ps, (p.1 = 2 ∧ p.2 < 6) ∨ (p.1 = 3 ∧ p.2 < 1)) → belLL n (ps.map fun p => [.ptr p.1 p.2]) = true
  | [], _ => rfl
  | p :: ps, h => by
    have h1 := h p List.mem_cons_self
    have h2 := bel_pss n hn ps fun q hq => h q (List.mem_cons_of_mem _ hq)
    have h3 : p.1 < n := by omega
    simp [belLL, belL, AV.bel, h2, h3]
def layP (c : List AV × List AV) (p : Nat × Nat) (n : Int) : List AV × List AV := if p.1 = 2 then (lay c.1 p.2 [.int .i64 n], c.2) else (c.1, lay c.2 p.2 [.int .i64 n])
/-- Numbers taken, each laid at its place. -/
def rdP : List (Nat × Nat) → List AV × List AV → Bytes → Int → (List AV × List AV) × Bytes × Int
  | [], cs, b, e => (cs, b, e)
  | o :: os, cs, b, e => if e = 0 then match takeZ b with
      | .ok (n, r) => rdP os (layP cs o n) r 0
      | .error z => rdP os (layP cs o 0) [] z
    else rdP os cs b e
theorem rdP_ok {o : Nat × Nat} {os : List (Nat × Nat)} {cs : List AV × List AV} {b : Bytes} {n : Int} {r : Bytes} (h : takeZ b = .ok (n, r)) : rdP (o :: os) cs b 0 = rdP os (layP cs o n) r 0 := by simp [rdP, h]
theorem rdP_error {o : Nat × Nat} {os : List (Nat × Nat)} {cs : List AV × List AV} {b : Bytes} {z : Int} (h : takeZ b = .error z) : rdP (o :: os) cs b 0 = rdP os (layP cs o 0) [] z := by simp [rdP, h]
theorem rdP_no {o : Nat × Nat} {os : List (Nat × Nat)} {cs : List AV × List AV} {b : Bytes} {e : Int} (h : ¬ e = 0) : rdP (o :: os) cs b e = rdP os cs b e := by simp [rdP, h]
theorem rdP_stop : ∀ (ps : List (Nat × Nat)) (cs : List AV × List AV) (b : Bytes) (z : Int), ¬ z = 0 → rdP ps cs b z = (cs, b, z)
  | [], _, _, _, _ => rfl
  | _ :: ps, cs, b, z, h => by rw [rdP_no h]; exact rdP_stop ps cs b z h
def layPs : List (Nat × Nat) → List AV × List AV → List Int → List AV × List AV
  | o :: os, cs, n :: l => layPs os (layP cs o n) l
  | _, cs, _ => cs
theorem rdP_seq : ∀ (ps : List (Nat × Nat)) (cs : List AV × List AV) (b : Bytes) (l : List Int) (r : Bytes), seqZ ps.length b = .ok (l, r) → rdP ps cs b 0 = (layPs ps cs l, r, 0)
  | [], cs, b, l, r, h => by
    simp only [List.length_nil, seqZ, Except.ok.injEq, Prod.mk.injEq] at h
    rw [← h.1, ← h.2]; rfl
  | o :: ps, cs, b, l, r, h => by
    simp only [List.length_cons, seqZ] at h
    split at h
    · cases h
    · rename_i h1
      split at h
      · cases h
      · rename_i h2
        simp only [Except.ok.injEq, Prod.mk.injEq] at h
        rw [rdP_ok h1, rdP_seq ps _ _ _ _ h2, ← h.1, ← h.2]
        rfl
theorem rdP_seqE : ∀ (ps : List (Nat × Nat)) (cs : List AV × List AV) (b : Bytes) (z : Int), seqZ ps.length b = .error z → (∀ p ∈ ps, (p.1 = 2 ∧ p.2 < 6) ∨ (p.1 = 3 ∧ p.2 < 1)) → cs.1.length = 6 → cs.2.length = 1 → ∃ c1 c2, rdP ps cs b 0 = ((c1, c2), [], z) ∧ c1.length = 6 ∧ ∃ n, c2 = [.int .i64 n] ∨ c2 = cs.2
  | [], cs, b, z, h, _, _, _ => by simp [seqZ] at h
  | o :: ps, (c1, c2), b, z, h, hp, l1, l2 => by
    have ho := hp o List.mem_cons_self
    have hps := fun q hq => hp q (List.mem_cons_of_mem _ hq)
    have hlay : ∀ n, (layP (c1, c2) o n).1.length = 6 ∧ ((layP (c1, c2) o n).2 = [.int .i64 n] ∨ (layP (c1, c2) o n).2 = c2) := fun n => by
      unfold layP
      simp only at l1 l2
      rcases ho with ⟨e1, e2⟩ | ⟨e1, e2⟩
      · rw [if_pos e1]
        exact ⟨by rw [lay_length (by simp; omega)]; exact l1, .inr rfl⟩
      · rw [if_neg (by omega)]
        refine ⟨l1, .inl ?_⟩
        have : o.2 = 0 := by omega
        match c2, l2 with
        | [c], _ => rw [this]; rfl
    simp only [List.length_cons, seqZ] at h
    split at h
    · rename_i h1
      cases h
      rw [rdP_error h1, rdP_stop _ _ _ _ (takeZ_err h1)]
      obtain ⟨g1, g2⟩ := hlay 0
      exact ⟨_, _, rfl, g1, 0, g2⟩
    · rename_i n r h1
      split at h
      · rename_i h2
        cases h
        rw [rdP_ok h1]
        obtain ⟨g1, g2⟩ := hlay n
        obtain ⟨d1, d2, e1, e2, m, e3⟩ := rdP_seqE ps (layP (c1, c2) o n) r _ h2 hps g1 (by rcases g2 with g | g <;> rw [g]; exact rfl; exact l2)
        refine ⟨d1, d2, e1, e2, ?_⟩
        rcases e3 with e3 | e3
        · exact ⟨m, .inl e3⟩
        · rcases g2 with g | g
          · exact ⟨n, .inl (e3.trans g)⟩
          · exact ⟨0, .inr (e3.trans g)⟩
      · cases h
set_option maxRecDepth 20000 in
theorem rints2_call (ps : List (Nat × Nat)) (ho : ps.length ≤ 1000) (hpp : ∀ p ∈ ps, (p.1 = 2 ∧ p.2 < 6) ∨ (p.1 = 3 ∧ p.2 < 1)) (z : ABlk) (hz : z.bel 5 = true) (q : ABlk) (hq : q.bel 5 = true) (b : Bytes) (cs es : List AV) (hcs : cs.length = 6) (hes : es.length = 1) (hbe : belL 5 cs = true) (hbf : belL 5 es = true) (R : AV → List ABlk → Prop)
    (hR : R (.tup []) [z, .box [bytesA (rdP ps (cs, es) b 0).2.1, .int .i64 (rdP ps (cs, es) b 0).2.2], .box (rdP ps (cs, es) b 0).1.1, .box (rdP ps (cs, es) b 0).1.2, q]) :
    ACall Try.prog 57 [.ptr 1 0, .psl 1 (ps.map fun p => [.ptr p.1 p.2])] [z, .box [bytesA b, .int .i64 0], .box cs, .box es, q] R := by
  refine ACall.of Try.func57 rfl fun c1 hc1 => ?_; simp only [Try.ntmps57, List.length_cons, List.length_nil, Nat.reduceAdd, Nat.reduceSub, List.replicate_succ, List.replicate_zero, List.cons_append, List.nil_append]; refine Run.god tab_ok follows_ok Try.func57 60 ?_; simp only [drun, aops, aone, aop, needs, ext, aev, aconst, aput, aupd, alen, tab_91, ok1, Option.getD_some, Option.bind_some, List.set_cons_zero, List.set_cons_succ, List.getElem?_cons_zero, List.getElem?_cons_succ, List.length_map, List.cons_append, List.nil_append, true_and, if_false, reduceCtorEq, List.getD_eq_getElem?_getD]
  refine Run.loopV (α := Nat × (List AV × List AV) × Bytes × Int) (fun x => x.1 ≤ ps.length ∧ x.2.1.1.length = 6 ∧ x.2.1.2.length = 1 ∧ belL 5 x.2.1.1 = true ∧ belL 5 x.2.1.2 = true ∧ rdP (ps.drop x.1) x.2.1 x.2.2.1 x.2.2.2 = rdP ps (cs, es) b 0) (fun x => [(8, .int .i64 x.1)]) 5 (fun x => [(1, .box [bytesA x.2.2.1, .int .i64 x.2.2.2]), (2, .box x.2.1.1), (3, .box x.2.1.2)]) (fun x => ps.length - x.1) (0, (cs, es), b, 0) ⟨Nat.zero_le _, hcs, hes, hbe, hbf, rfl⟩ ?_ ?_
  · simp only [writes, junks, puts, hputs, List.filterMap_cons, List.filterMap_nil, Int.natCast_zero, List.set_cons_zero, List.set_cons_succ, List.take_succ_cons, List.take_nil, List.cons_append, List.nil_append, List.append_nil]
    (refine Weak.of (by simp [hc1]) ?_ ?_ <;> (repeat' (first | exact WkT.nil | exact WkH.nil _ | exact Le.refl _ | exact Le.junk _ | exact Le1.refl _ | exact Le1.nil _ | exact Le1.tok _ _ _ | exact Le1L.nil | rfl | assumption | exact bel_pss 5 (by decide) ps hpp | exact hbl | apply WkT.cons | apply WkH.cons | apply LeB.same | apply LeB.box | apply Le1L.cons | apply Le.agg | apply Le.one)))
  · rintro ⟨k, ⟨xs, ys⟩, y, e⟩ ⟨hI, hxs, hys, hxb, hyb, hrd⟩ ih
    simp only [writes, junks, puts, hputs, List.filterMap_cons, List.filterMap_nil, List.set_cons_zero, List.set_cons_succ, List.take_succ_cons, List.take_nil, List.cons_append, List.nil_append, List.append_nil] at hI hxs hys hxb hyb hrd ih ⊢
    by_cases hk : k < ps.length
    · obtain ⟨⟨o1, o⟩, hx⟩ : ∃ x, ps[k]? = some x := ⟨_, List.getElem?_eq_getElem hk⟩
      have hkk : (k : Int) < ps.length := by omega
      have ho8 := hpp _ (List.mem_of_getElem? hx)
      have hd : ps.drop k = (o1, o) :: ps.drop (k + 1) := by
        obtain ⟨hk', e⟩ := List.getElem?_eq_some_iff.1 hx
        rw [← e]
        exact List.drop_eq_getElem_cons hk'
      rw [hd] at hrd
      by_cases he : e = 0
      · subst he
        have hsp := takeint_spec y
        rcases ho8 with ⟨w1, w2⟩ | ⟨w1, w2⟩
        · simp only at w1 w2
          subst w1
          cases ht : takeZ y with
          | error z =>
            rw [rdP_error ht, layP, if_pos rfl] at hrd
            rw [ht] at hsp
            refine Run.god tab_ok follows_ok Try.func57 60 ?_; simp only [hx, hkk, bytesA, List.getElem?_map, List.length_map, eq_self, ↓alt_t, drun, aops, aone, aop, needs, ext, aev, aconst, aput, aupd, aload, afieldAddr, aindexAddr, acmp, ashift, abin, tab_3, tab_23, tab_33, tab_84, tab_86, tab_91, ok1, cellsAs, TI.agg, Option.getD_some, Option.bind_some, Option.map_some, List.set_cons_zero, List.set_cons_succ, List.length_cons, List.length_nil, List.getElem?_cons_zero, List.getElem?_cons_succ, List.drop_zero, List.drop_succ_cons, List.take_succ_cons, List.take_zero, List.take_nil, List.length_map, List.cons_append, List.nil_append, true_and, and_true, if_true, if_false, Nat.reduceAdd, Nat.reduceLeDiff, Nat.zero_add, Nat.add_zero, decide_true, Nat.reduceLT, Nat.reduceLeDiff, reduceCtorEq, Nat.le_refl, Int.toNat_natCast, List.getD_eq_getElem?_getD]
            refine ⟨by omega, ?_⟩
            refine Ops.pure .free rfl rfl (hsp) (by simp only [bytesA, aev, Option.getD_some, List.getElem?_cons_zero, List.getElem?_cons_succ, List.map_cons, List.map_nil, List.nil_append, List.append_nil, List.getD_eq_getElem?_getD]; (repeat' (first | exact LeL.nil | exact Le1L.nil | exact Le.refl _ | exact Le1.refl _ | exact Le1.nil _ | exact Le1.tok _ _ _ | exact LeR.one (Le.refl _) | apply LeR.tup | apply LeL.cons | apply Le1L.cons | apply Le.agg | apply Le.one | apply LeR.one))) rfl rfl ?_
            refine Ops.god tab_ok follows_ok Try.func57 60 ?_; simp only [takeZA, bytesA, eq_self, drun, aops, aone, aop, needs, ext, aev, aconst, aput, aupd, astore, afieldAddr, acmp, aarith, ashift, abin, tab_3, tab_23, tab_33, tab_84, ok1, lay, AV.cells, AV.whole, Option.getD_some, Option.bind_some, Option.map_some, List.set_cons_zero, List.set_cons_succ, List.length_cons, List.length_nil, List.getElem?_cons_zero, List.getElem?_cons_succ, List.drop_zero, List.drop_succ_cons, List.take_succ_cons, List.take_zero, List.drop_nil, List.map_nil, List.cons_append, List.nil_append, List.append_nil, true_and, and_true, if_true, if_false, Nat.reduceAdd, Nat.reduceLeDiff, Nat.zero_add, Nat.add_zero, Nat.reduceLeDiff, reduceCtorEq, Nat.le_refl, List.getD_eq_getElem?_getD]
            have hbl : belL 5 (lay xs o [.int .i64 0]) = true := bel_lay o hxb rfl
            refine ⟨by omega, by unfold I64; omega, ih (k + 1, (lay xs o [.int .i64 0], ys), [], z) _ ⟨by dsimp only; omega, by rw [lay_length (by simp; omega)]; exact hxs, hys, hbl, hyb, hrd⟩ (by dsimp only; omega) ?_⟩
            simp only [lay, Int.natCast_add, Int.natCast_one, List.length_cons, List.length_nil, List.map_nil, Nat.zero_add, bytesA] at hbl ⊢
            (refine Weak.of (by simp [hc1]) ?_ ?_ <;> (repeat' (first | exact WkT.nil | exact WkH.nil _ | exact Le.refl _ | exact Le.junk _ | exact Le1.refl _ | exact Le1.nil _ | exact Le1.tok _ _ _ | exact Le1L.nil | rfl | assumption | exact bel_pss 5 (by decide) ps hpp | exact hbl | apply WkT.cons | apply WkH.cons | apply LeB.same | apply LeB.box | apply Le1L.cons | apply Le.agg | apply Le.one)))
          | ok p =>
            obtain ⟨n, r⟩ := p
            rw [rdP_ok ht, layP, if_pos rfl] at hrd
            rw [ht] at hsp
            refine Run.god tab_ok follows_ok Try.func57 60 ?_; simp only [hx, hkk, bytesA, List.getElem?_map, List.length_map, eq_self, ↓alt_t, drun, aops, aone, aop, needs, ext, aev, aconst, aput, aupd, aload, afieldAddr, aindexAddr, acmp, ashift, abin, tab_3, tab_23, tab_33, tab_84, tab_86, tab_91, ok1, cellsAs, TI.agg, Option.getD_some, Option.bind_some, Option.map_some, List.set_cons_zero, List.set_cons_succ, List.length_cons, List.length_nil, List.getElem?_cons_zero, List.getElem?_cons_succ, List.drop_zero, List.drop_succ_cons, List.take_succ_cons, List.take_zero, List.take_nil, List.length_map, List.cons_append, List.nil_append, true_and, and_true, if_true, if_false, Nat.reduceAdd, Nat.reduceLeDiff, Nat.zero_add, Nat.add_zero, decide_true, Nat.reduceLT, Nat.reduceLeDiff, reduceCtorEq, Nat.le_refl, Int.toNat_natCast, List.getD_eq_getElem?_getD]
            refine ⟨by omega, ?_⟩
            refine Ops.pure .free rfl rfl (hsp) (by simp only [bytesA, aev, Option.getD_some, List.getElem?_cons_zero, List.getElem?_cons_succ, List.map_cons, List.map_nil, List.nil_append, List.append_nil, List.getD_eq_getElem?_getD]; (repeat' (first | exact LeL.nil | exact Le1L.nil | exact Le.refl _ | exact Le1.refl _ | exact Le1.nil _ | exact Le1.tok _ _ _ | exact LeR.one (Le.refl _) | apply LeR.tup | apply LeL.cons | apply Le1L.cons | apply Le.agg | apply Le.one | apply LeR.one))) rfl rfl ?_
            refine Ops.god tab_ok follows_ok Try.func57 60 ?_; simp only [takeZA, bytesA, eq_self, drun, aops, aone, aop, needs, ext, aev, aconst, aput, aupd, astore, afieldAddr, acmp, aarith, ashift, abin, tab_3, tab_23, tab_33, tab_84, ok1, lay, AV.cells, AV.whole, Option.getD_some, Option.bind_some, Option.map_some, List.set_cons_zero, List.set_cons_succ, List.length_cons, List.length_nil, List.getElem?_cons_zero, List.getElem?_cons_succ, List.drop_zero, List.drop_succ_cons, List.take_succ_cons, List.take_zero, List.drop_nil, List.cons_append, List.nil_append, List.append_nil, true_and, and_true, if_true, if_false, Nat.reduceAdd, Nat.reduceLeDiff, Nat.zero_add, Nat.add_zero, Nat.reduceLeDiff, reduceCtorEq, Nat.le_refl, List.getD_eq_getElem?_getD]
            have hbl : belL 5 (lay xs o [.int .i64 n]) = true := bel_lay o hxb rfl
            refine ⟨by omega, by unfold I64; omega, ih (k + 1, (lay xs o [.int .i64 n], ys), r, 0) _ ⟨by dsimp only; omega, by rw [lay_length (by simp; omega)]; exact hxs, hys, hbl, hyb, hrd⟩ (by dsimp only; omega) ?_⟩
            simp only [lay, Int.natCast_add, Int.natCast_one, List.length_cons, List.length_nil, Nat.zero_add, bytesA] at hbl ⊢
            (refine Weak.of (by simp [hc1]) ?_ ?_ <;> (repeat' (first | exact WkT.nil | exact WkH.nil _ | exact Le.refl _ | exact Le.junk _ | exact Le1.refl _ | exact Le1.nil _ | exact Le1.tok _ _ _ | exact Le1L.nil | rfl | assumption | exact bel_pss 5 (by decide) ps hpp | exact hbl | apply WkT.cons | apply WkH.cons | apply LeB.same | apply LeB.box | apply Le1L.cons | apply Le.agg | apply Le.one)))
        · simp only at w1 w2
          subst w1
          cases ht : takeZ y with
          | error z =>
            rw [rdP_error ht, layP, if_neg (show ¬ (3 : Nat) = 2 by decide)] at hrd
            rw [ht] at hsp
            refine Run.god tab_ok follows_ok Try.func57 60 ?_; simp only [hx, hkk, bytesA, List.getElem?_map, List.length_map, eq_self, ↓alt_t, drun, aops, aone, aop, needs, ext, aev, aconst, aput, aupd, aload, afieldAddr, aindexAddr, acmp, ashift, abin, tab_3, tab_23, tab_33, tab_84, tab_86, tab_91, ok1, cellsAs, TI.agg, Option.getD_some, Option.bind_some, Option.map_some, List.set_cons_zero, List.set_cons_succ, List.length_cons, List.length_nil, List.getElem?_cons_zero, List.getElem?_cons_succ, List.drop_zero, List.drop_succ_cons, List.take_succ_cons, List.take_zero, List.take_nil, List.length_map, List.cons_append, List.nil_append, true_and, and_true, if_true, if_false, Nat.reduceAdd, Nat.reduceLeDiff, Nat.zero_add, Nat.add_zero, decide_true, Nat.reduceLT, Nat.reduceLeDiff, reduceCtorEq, Nat.le_refl, Int.toNat_natCast, List.getD_eq_getElem?_getD]
            refine ⟨by omega, ?_⟩
            refine Ops.pure .free rfl rfl (hsp) (by simp only [bytesA, aev, Option.getD_some, List.getElem?_cons_zero, List.getElem?_cons_succ, List.map_cons, List.map_nil, List.nil_append, List.append_nil, List.getD_eq_getElem?_getD]; (repeat' (first | exact LeL.nil | exact Le1L.nil | exact Le.refl _ | exact Le1.refl _ | exact Le1.nil _ | exact Le1.tok _ _ _ | exact LeR.one (Le.refl _) | apply LeR.tup | apply LeL.cons | apply Le1L.cons | apply Le.agg | apply Le.one | apply LeR.one))) rfl rfl ?_
            refine Ops.god tab_ok follows_ok Try.func57 60 ?_; simp only [takeZA, bytesA, eq_self, drun, aops, aone, aop, needs, ext, aev, aconst, aput, aupd, astore, afieldAddr, acmp, aarith, ashift, abin, tab_3, tab_23, tab_33, tab_84, ok1, lay, AV.cells, AV.whole, Option.getD_some, Option.bind_some, Option.map_some, List.set_cons_zero, List.set_cons_succ, List.length_cons, List.length_nil, List.getElem?_cons_zero, List.getElem?_cons_succ, List.drop_zero, List.drop_succ_cons, List.take_succ_cons, List.take_zero, List.drop_nil, List.map_nil, List.cons_append, List.nil_append, List.append_nil, true_and, and_true, if_true, if_false, Nat.reduceAdd, Nat.reduceLeDiff, Nat.zero_add, Nat.add_zero, Nat.reduceLeDiff, reduceCtorEq, Nat.le_refl, List.getD_eq_getElem?_getD]
            have hbl : belL 5 (lay ys o [.int .i64 0]) = true := bel_lay o hyb rfl
            refine ⟨by omega, by unfold I64; omega, ih (k + 1, (xs, lay ys o [.int .i64 0]), [], z) _ ⟨by dsimp only; omega, hxs, by rw [lay_length (by simp; omega)]; exact hys, hxb, hbl, hrd⟩ (by dsimp only; omega) ?_⟩
            simp only [lay, Int.natCast_add, Int.natCast_one, List.length_cons, List.length_nil, List.map_nil, Nat.zero_add, bytesA] at hbl ⊢
            (refine Weak.of (by simp [hc1]) ?_ ?_ <;> (repeat' (first | exact WkT.nil | exact WkH.nil _ | exact Le.refl _ | exact Le.junk _ | exact Le1.refl _ | exact Le1.nil _ | exact Le1.tok _ _ _ | exact Le1L.nil | rfl | assumption | exact bel_pss 5 (by decide) ps hpp | exact hbl | apply WkT.cons | apply WkH.cons | apply LeB.same | apply LeB.box | apply Le1L.cons | apply Le.agg | apply Le.one)))
          | ok p =>
            obtain ⟨n, r⟩ := p
            rw [rdP_ok ht, layP, if_neg (show ¬ (3 : Nat) = 2 by decide)] at hrd
            rw [ht] at hsp
            refine Run.god tab_ok follows_ok Try.func57 60 ?_; simp only [hx, hkk, bytesA, List.getElem?_map, List.length_map, eq_self, ↓alt_t, drun, aops, aone, aop, needs, ext, aev, aconst, aput, aupd, aload, afieldAddr, aindexAddr, acmp, ashift, abin, tab_3, tab_23, tab_33, tab_84, tab_86, tab_91, ok1, cellsAs, TI.agg, Option.getD_some, Option.bind_some, Option.map_some, List.set_cons_zero, List.set_cons_succ, List.length_cons, List.length_nil, List.getElem?_cons_zero, List.getElem?_cons_succ, List.drop_zero, List.drop_succ_cons, List.take_succ_cons, List.take_zero, List.take_nil, List.length_map, List.cons_append, List.nil_append, true_and, and_true, if_true, if_false, Nat.reduceAdd, Nat.reduceLeDiff, Nat.zero_add, Nat.add_zero, decide_true, Nat.reduceLT, Nat.reduceLeDiff, reduceCtorEq, Nat.le_refl, Int.toNat_natCast, List.getD_eq_getElem?_getD]
            refine ⟨by omega, ?_⟩
            refine Ops.pure .free rfl rfl (hsp) (by simp only [bytesA, aev, Option.getD_some, List.getElem?_cons_zero, List.getElem?_cons_succ, List.map_cons, List.map_nil, List.nil_append, List.append_nil, List.getD_eq_getElem?_getD]; (repeat' (first | exact LeL.nil | exact Le1L.nil | exact Le.refl _ | exact Le1.refl _ | exact Le1.nil _ | exact Le1.tok _ _ _ | exact LeR.one (Le.refl _) | apply LeR.tup | apply LeL.cons | apply Le1L.cons | apply Le.agg | apply Le.one | apply LeR.one))) rfl rfl ?_
            refine Ops.god tab_ok follows_ok Try.func57 60 ?_; simp only [takeZA, bytesA, eq_self, drun, aops, aone, aop, needs, ext, aev, aconst, aput, aupd, astore, afieldAddr, acmp, aarith, ashift, abin, tab_3, tab_23, tab_33, tab_84, ok1, lay, AV.cells, AV.whole, Option.getD_some, Option.bind_some, Option.map_some, List.set_cons_zero, List.set_cons_succ, List.length_cons, List.length_nil, List.getElem?_cons_zero, List.getElem?_cons_succ, List.drop_zero, List.drop_succ_cons, List.take_succ_cons, List.take_zero, List.drop_nil, List.cons_append, List.nil_append, List.append_nil, true_and, and_true, if_true, if_false, Nat.reduceAdd, Nat.reduceLeDiff, Nat.zero_add, Nat.add_zero, Nat.reduceLeDiff, reduceCtorEq, Nat.le_refl, List.getD_eq_getElem?_getD]
            have hbl : belL 5 (lay ys o [.int .i64 n]) = true := bel_lay o hyb rfl
            refine ⟨by omega, by unfold I64; omega, ih (k + 1, (xs, lay ys o [.int .i64 n]), r, 0) _ ⟨by dsimp only; omega, hxs, by rw [lay_length (by simp; omega)]; exact hys, hxb, hbl, hrd⟩ (by dsimp only; omega) ?_⟩
            simp only [lay, Int.natCast_add, Int.natCast_one, List.length_cons, List.length_nil, Nat.zero_add, bytesA] at hbl ⊢
            (refine Weak.of (by simp [hc1]) ?_ ?_ <;> (repeat' (first | exact WkT.nil | exact WkH.nil _ | exact Le.refl _ | exact Le.junk _ | exact Le1.refl _ | exact Le1.nil _ | exact Le1.tok _ _ _ | exact Le1L.nil | rfl | assumption | exact bel_pss 5 (by decide) ps hpp | exact hbl | apply WkT.cons | apply WkH.cons | apply LeB.same | apply LeB.box | apply Le1L.cons | apply Le.agg | apply Le.one)))
      · rw [rdP_no he] at hrd
        refine Run.god tab_ok follows_ok Try.func57 60 ?_; simp only [hx, hkk, he, bytesA, List.getElem?_map, List.length_map, eq_self, ↓alt_t, ↓alt_f, drun, aops, aone, aop, needs, ext, aev, aconst, aput, aupd, aload, afieldAddr, aindexAddr, acmp, aarith, ashift, abin, tab_3, tab_33, tab_84, tab_86, tab_91, ok1, cellsAs, TI.agg, Option.getD_some, Option.bind_some, Option.map_some, List.set_cons_zero, List.set_cons_succ, List.length_cons, List.length_nil, List.getElem?_cons_zero, List.getElem?_cons_succ, List.drop_zero, List.drop_succ_cons, List.take_succ_cons, List.take_nil, List.length_map, List.cons_append, List.nil_append, true_and, and_true, if_true, if_false, Nat.reduceAdd, Nat.zero_add, decide_true, decide_false, Nat.reduceLT, reduceCtorEq, Nat.le_refl, Int.toNat_natCast, List.getD_eq_getElem?_getD]
        refine ⟨by omega, by unfold I64; omega, ih (k + 1, (xs, ys), y, e) _ ⟨by dsimp only; omega, hxs, hys, hxb, hyb, hrd⟩ (by dsimp only; omega) ?_⟩
        simp only [Int.natCast_add, Int.natCast_one, bytesA]
        (refine Weak.of (by simp [hc1]) ?_ ?_ <;> (repeat' (first | exact WkT.nil | exact WkH.nil _ | exact Le.refl _ | exact Le.junk _ | exact Le1.refl _ | exact Le1.nil _ | exact Le1.tok _ _ _ | exact Le1L.nil | rfl | assumption | exact bel_pss 5 (by decide) ps hpp | exact hbl | apply WkT.cons | apply WkH.cons | apply LeB.same | apply LeB.box | apply Le1L.cons | apply Le.agg | apply Le.one)))
    · obtain rfl : k = ps.length := by omega
      rw [List.drop_length] at hrd
      have hkk : ¬ (ps.length : Int) < ps.length := by omega
      refine Run.god tab_ok follows_ok Try.func57 60 ?_; simp only [Try.results57, hkk, bytesA, eq_self, ↓alt_f, drun, aops, aone, afin, ares, aresL, aresOk, aop, needs, ext, aev, aput, aupd, acmp, ashift, abin, tab_3, ok1, exitTo, Option.getD_some, Option.bind_some, Option.map_some, List.set_cons_zero, List.set_cons_succ, List.getElem?_cons_zero, List.getElem?_cons_succ, List.cons_append, List.nil_append, true_and, if_true, if_false, beq_self_eq_true, decide_false, reduceCtorEq, List.getD_eq_getElem?_getD]
      rw [← hrd] at hR
      exact hR
end Go.Proofs.Ytpigfpnpabnnbaa
