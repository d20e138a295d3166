/-
  Several texts in one: Pi, Rs, Ia, Ib, Ic, Id, Ie, If, Ig, Ih.
-/
import Derived.Test.YtkamcoechjdgpaaMd
import Derived.Test.YtkamcoechjdgpaaMa
import Derived.Test.YtkamcoechjdgpaaMc
set_option maxRecDepth 20000
set_option maxHeartbeats 8000000
/-
  Rows of texts held against each other; one, told, long; whether replies are alike.
-/
namespace Go.Proofs.Ytkamcoechjdgpaa
open Go.RowKit
theorem drop_eq {α : Type} {l m : List α} {k : Nat} {x y : α} (hx : l[k]? = some x) (hy : m[k]? = some y) : l.drop k = m.drop k ↔ x = y ∧ l.drop (k + 1) = m.drop (k + 1) := by
  obtain ⟨h1, rfl⟩ := List.getElem?_eq_some_iff.1 hx
  obtain ⟨h2, rfl⟩ := List.getElem?_eq_some_iff.1 hy
  rw [List.drop_eq_getElem_cons h1, List.drop_eq_getElem_cons h2, List.cons.injEq]
theorem equal_spec (l m : List Bytes) (hl : l.length ≤ 281474976710656) : ASpec Try.prog 72 [textsA l, textsA m] (.bool (decide (l = m))) := by
  by_cases hlm : l.length = m.length
  · have hlm' : (l.length : Int) = m.length := by omega
    refine ⟨⟨_, Try.func72, by kernel_rfl, rfl⟩, ACall.of Try.func72 rfl fun c0 hc0 => ?_⟩; simp only [Try.ntmps72, Ya, Y9, Nat.reduceAdd, Nat.reduceSub, Ym, Yn, Y5, Y3]; refine Run.god tab_ok follows_ok Try.func72 60 ?_; simp only [textsA, Yo, hlm', decide_true, ↓alt_f, drun, aops, aone, aop, needs, ext, aev, aconst, aput, aupd, acmp, ashift, abin, alen, tab_3, tab_41, ok1, Y4, Yb, Y6, Y7, Y1, Y2, Y3, Yt, Ys, Yr, Bool.not_true, Y0, Y8]
    refine Run.loopV (α := Nat) (fun k => k ≤ l.length ∧ (l = m ↔ l.drop k = m.drop k)) (fun k => [(13, .int .i64 k)]) 0 (fun _ => []) (fun k => l.length - k) 0 ⟨Nat.zero_le _, Iff.rfl⟩ ?_ ?_
    · simp only [writes, junks, puts, hputs, List.filterMap_cons, List.filterMap_nil, Int.natCast_zero, Y6, Y7, Yk, Y5, Y3, Yd]
      (refine Weak.of (by simp [hc0]) ?_ ?_ <;> (repeat' first | exact .refl _ | exact .junk _ | exact .nil | exact .nil _ | exact .tok _ _ _ | rfl | apply WkT.cons | apply WkH.cons | apply LeB.same | apply LeB.box | apply Le1L.cons | apply Le.agg | apply Le.one))
    · rintro k ⟨hI, hk2⟩ ih
      simp only [writes, junks, puts, hputs, List.filterMap_cons, List.filterMap_nil, Y6, Y7, Yk, Y5, Y3, Yd] at ih ⊢
      by_cases hk : k < l.length
      · obtain ⟨x, hx⟩ : ∃ x, l[k]? = some x := ⟨_, List.getElem?_eq_getElem hk⟩
        obtain ⟨y, hy⟩ : ∃ x, m[k]? = some x := ⟨_, List.getElem?_eq_getElem (by omega)⟩
        have hkk : (k : Int) < m.length := by omega
        rw [drop_eq hx hy] at hk2
        by_cases hxy : x = y
        · subst hxy
          refine Run.god tab_ok follows_ok Try.func72 60 ?_; simp only [hx, hy, hkk, hlm', textC, List.getElem?_map, Yo, decide_true, ↓alt_t, ↓alt_f, drun, adops, adone, places, mayNeed, freeOk, rdOf, AV.id, wrOf, aops, aone, aop, needs, ext, aev, aconst, aput, aupd, aload, aindexAddr, acmp, aarith, ashift, abin, tab_3, tab_9, tab_41, ok1, cellsAs, TI.agg, Y4, Yb, Yc, Y6, Y7, Ya, Y9, Y1, Y2, Yg, Yk, Y5, Y3, Yd, Yt, Yu, Ys, Yr, Yp, Bool.not_true, Nat.reduceLT, Yv, Int.toNat_natCast, Y0, Y8]
          ((repeat' apply And.intro) <;> try first | rfl | omega | (unfold I64; omega))
          refine ih (k + 1) _ ⟨by omega, by rw [hk2]; simp⟩ (by omega) ?_
          simp only [Int.natCast_add, Int.natCast_one]
          (refine Weak.of (by simp [hc0]) ?_ ?_ <;> (repeat' first | exact .refl _ | exact .junk _ | exact .nil | exact .nil _ | exact .tok _ _ _ | rfl | apply WkT.cons | apply WkH.cons | apply LeB.same | apply LeB.box | apply Le1L.cons | apply Le.agg | apply Le.one))
        · refine Run.god tab_ok follows_ok Try.func72 60 ?_; simp only [Try.results72, hx, hy, hkk, hxy, hlm', textC, List.getElem?_map, Yo, decide_true, decide_false, ↓alt_t, drun, adops, adone, places, mayNeed, freeOk, rdOf, AV.id, wrOf, aops, aone, afin, ares, aresL, ares1, aresOk, aresOk1, aop, needs, ext, aev, aconst, aput, aupd, aload, aindexAddr, acmp, ashift, abin, tab_3, tab_9, tab_41, ok1, cellsAs, TI.agg, Y4, Yb, Yc, Y6, Y7, Ya, Y9, Y1, Y2, Yg, Yk, Y5, Y3, Yd, Yt, Yu, Ys, Yr, Yp, Bool.not_false, Nat.reduceLT, Yv, Int.toNat_natCast, Y0, Y8]
          ((repeat' apply And.intro) <;> try first | rfl | omega | (unfold I64; omega))
          rw [show decide (l = m) = false by rw [decide_eq_false_iff_not, hk2]; exact fun h => hxy h.1]
          (repeat' first | exact .refl _ | apply LeR.tup | apply Le.agg | constructor)
      · obtain rfl : k = l.length := by omega
        have hkk : ¬ (m.length : Int) < m.length := by omega
        refine Run.god tab_ok follows_ok Try.func72 60 ?_; simp only [Try.results72, hkk, hlm', ↓alt_f, drun, aops, aone, afin, ares, aresL, ares1, aresOk, aresOk1, aop, needs, ext, aev, aconst, aput, aupd, acmp, ashift, abin, tab_3, ok1, exitTo, Y4, Yb, Yc, Y6, Y7, Y1, Y2, Y3, Yt, Yu, Ys, Yr, beq_self_eq_true, decide_false, Y0, Y8]
        rw [show decide (l = m) = true by rw [decide_eq_true_eq, hk2, hlm, List.drop_length, ← hlm, List.drop_length]]
        (repeat' first | exact .refl _ | apply LeR.tup | apply Le.agg | constructor)
  · have hlm' : ¬ (l.length : Int) = m.length := by omega
    refine ⟨⟨_, Try.func72, by kernel_rfl, rfl⟩, ACall.of Try.func72 rfl fun c0 hc0 => ?_⟩; simp only [Try.ntmps72, Ya, Y9, Nat.reduceAdd, Nat.reduceSub, Ym, Yn, Y5, Y3]; refine Run.god tab_ok follows_ok Try.func72 60 ?_; simp only [Try.results72, textsA, Yo, hlm', decide_false, ↓alt_t, drun, aops, aone, afin, ares, aresL, ares1, aresOk, aresOk1, aop, needs, ext, aev, aconst, aput, aupd, acmp, ashift, abin, alen, tab_3, tab_41, ok1, Y4, Yb, Yc, Y6, Y7, Y1, Y2, Y3, Yt, Yu, Ys, Yr, Bool.not_false, Y0, Y8]
    rw [show decide (l = m) = false by rw [decide_eq_false_iff_not]; intro h; exact hlm (by rw [h])]
    (repeat' first | exact .refl _ | apply LeR.tup | apply Le.agg | constructor)
theorem strings_spec (l m : List Bytes) (hl : l.length ≤ 281474976710656) : ASpec Try.prog 46 [textsA l, textsA m] (.bool (decide (l = m))) := by
  by_cases hlm : l.length = m.length
  · have hlm' : (l.length : Int) = m.length := by omega
    refine ⟨⟨_, Try.func46, by kernel_rfl, rfl⟩, ACall.of Try.func46 rfl fun c0 hc0 => ?_⟩; simp only [Try.ntmps46, Ya, Y9, Nat.reduceAdd, Nat.reduceSub, Ym, Yn, Y5, Y3]; refine Run.god tab_ok follows_ok Try.func46 60 ?_; simp only [textsA, Yo, hlm', decide_true, ↓alt_f, drun, aops, aone, aop, needs, ext, aev, aconst, aput, aupd, acmp, ashift, abin, alen, tab_3, tab_41, ok1, Y4, Yb, Y6, Y7, Y1, Y2, Y3, Yt, Ys, Yr, Bool.not_true, Y0, Y8]
    refine Run.loopV (α := Nat) (fun k => k ≤ l.length ∧ (l = m ↔ l.drop k = m.drop k)) (fun k => [(5, .int .i64 k)]) 0 (fun _ => []) (fun k => l.length - k) 0 ⟨Nat.zero_le _, Iff.rfl⟩ ?_ ?_
    · simp only [writes, junks, puts, hputs, List.filterMap_cons, List.filterMap_nil, Int.natCast_zero, Y6, Y7, Yk, Y5, Y3, Yd]
      (refine Weak.of (by simp [hc0]) ?_ ?_ <;> (repeat' first | exact .refl _ | exact .junk _ | exact .nil | exact .nil _ | exact .tok _ _ _ | rfl | apply WkT.cons | apply WkH.cons | apply LeB.same | apply LeB.box | apply Le1L.cons | apply Le.agg | apply Le.one))
    · rintro k ⟨hI, hk2⟩ ih
      simp only [writes, junks, puts, hputs, List.filterMap_cons, List.filterMap_nil, Y6, Y7, Yk, Y5, Y3, Yd] at ih ⊢
      by_cases hk : k < l.length
      · obtain ⟨x, hx⟩ : ∃ x, l[k]? = some x := ⟨_, List.getElem?_eq_getElem hk⟩
        obtain ⟨y, hy⟩ : ∃ x, m[k]? = some x := ⟨_, List.getElem?_eq_getElem (by omega)⟩
        have hkk : (k : Int) < m.length := by omega
        rw [drop_eq hx hy] at hk2
        by_cases hxy : x = y
        · subst hxy
          refine Run.god tab_ok follows_ok Try.func46 60 ?_; simp only [hx, hy, hkk, hlm', textC, List.getElem?_map, Yo, decide_true, ↓alt_t, ↓alt_f, drun, adops, adone, places, mayNeed, freeOk, rdOf, AV.id, wrOf, aops, aone, aop, needs, ext, aev, aconst, aput, aupd, aload, aindexAddr, acmp, aarith, ashift, abin, alen, tab_3, tab_9, tab_41, ok1, cellsAs, TI.agg, Y4, Yb, Yc, Y6, Y7, Ya, Y9, Y1, Y2, Yg, Yk, Y5, Y3, Yd, Yt, Yu, Ys, Yr, Yp, Bool.not_true, Nat.reduceLT, Yv, Int.toNat_natCast, Y0, Y8]
          ((repeat' apply And.intro) <;> try first | rfl | omega | (unfold I64; omega))
          refine ih (k + 1) _ ⟨by omega, by rw [hk2]; simp⟩ (by omega) ?_
          simp only [Int.natCast_add, Int.natCast_one]
          (refine Weak.of (by simp [hc0]) ?_ ?_ <;> (repeat' first | exact .refl _ | exact .junk _ | exact .nil | exact .nil _ | exact .tok _ _ _ | rfl | apply WkT.cons | apply WkH.cons | apply LeB.same | apply LeB.box | apply Le1L.cons | apply Le.agg | apply Le.one))
        · refine Run.god tab_ok follows_ok Try.func46 60 ?_; simp only [Try.results46, hx, hy, hkk, hxy, hlm', textC, List.getElem?_map, Yo, decide_true, decide_false, ↓alt_t, drun, adops, adone, places, mayNeed, freeOk, rdOf, AV.id, wrOf, aops, aone, afin, ares, aresL, ares1, aresOk, aresOk1, aop, needs, ext, aev, aconst, aput, aupd, aload, aindexAddr, acmp, ashift, abin, alen, tab_3, tab_9, tab_41, ok1, cellsAs, TI.agg, Y4, Yb, Yc, Y6, Y7, Ya, Y9, Y1, Y2, Yg, Yk, Y5, Y3, Yd, Yt, Yu, Ys, Yr, Yp, Bool.not_false, Nat.reduceLT, Yv, Int.toNat_natCast, Y0, Y8]
          ((repeat' apply And.intro) <;> try first | rfl | omega | (unfold I64; omega))
          rw [show decide (l = m) = false by rw [decide_eq_false_iff_not, hk2]; exact fun h => hxy h.1]
          (repeat' first | exact .refl _ | apply LeR.tup | apply Le.agg | constructor)
      · obtain rfl : k = l.length := by omega
        have hkk : ¬ (m.length : Int) < m.length := by omega
        refine Run.god tab_ok follows_ok Try.func46 60 ?_; simp only [Try.results46, hkk, hlm', Yo, ↓alt_f, drun, aops, aone, afin, ares, aresL, ares1, aresOk, aresOk1, aop, needs, ext, aev, aconst, aput, aupd, acmp, ashift, abin, alen, tab_3, tab_41, ok1, exitTo, Y4, Yb, Yc, Y6, Y7, Y1, Y2, Y3, Yt, Yu, Ys, Yr, beq_self_eq_true, decide_false, Y0, Y8]
        rw [show decide (l = m) = true by rw [decide_eq_true_eq, hk2, hlm, List.drop_length, ← hlm, List.drop_length]]
        (repeat' first | exact .refl _ | apply LeR.tup | apply Le.agg | constructor)
  · have hlm' : ¬ (l.length : Int) = m.length := by omega
    refine ⟨⟨_, Try.func46, by kernel_rfl, rfl⟩, ACall.of Try.func46 rfl fun c0 hc0 => ?_⟩; simp only [Try.ntmps46, Ya, Y9, Nat.reduceAdd, Nat.reduceSub, Ym, Yn, Y5, Y3]; refine Run.god tab_ok follows_ok Try.func46 60 ?_; simp only [Try.results46, textsA, Yo, hlm', decide_false, ↓alt_t, drun, aops, aone, afin, ares, aresL, ares1, aresOk, aresOk1, aop, needs, ext, aev, aconst, aput, aupd, acmp, ashift, abin, alen, tab_3, tab_41, ok1, Y4, Yb, Yc, Y6, Y7, Y1, Y2, Y3, Yt, Yu, Ys, Yr, Bool.not_false, Y0, Y8]
    rw [show decide (l = m) = false by rw [decide_eq_false_iff_not]; intro h; exact hlm (by rw [h])]
    (repeat' first | exact .refl _ | apply LeR.tup | apply Le.agg | constructor)

def wideR (r : Rpl) : Prop := I64 r.a ∧ I64 r.b ∧ I64 r.e ∧ I64 r.x ∧ r.s.length ≤ 281474976710656 ∧ (∀ t ∈ r.l, t.length ≤ 281474976710656) ∧ r.l.length ≤ 281474976710656
theorem same_spec (r q : Rpl) (hl : r.l.length ≤ 281474976710656) : ASpec Try.prog 43 [encR r, encR q] (.bool (decide (r = q))) := by
  obtain ⟨a, b, e, s, x, l⟩ := r
  obtain ⟨a', b', e', s', x', l'⟩ := q
  have hs := equal_spec l l' hl
  refine ⟨⟨_, Try.func43, by kernel_rfl, rfl⟩, ACall.of Try.func43 rfl fun c0 hc0 => ?_⟩; simp only [Try.ntmps43, Ya, Y9, Nat.reduceAdd, Nat.reduceSub, Ym, Yn, Y5, Y3]; refine Run.god tab_ok follows_ok Try.func43 60 ?_; simp (config := { maxSteps := 2000000 }) +contextual only [Try.results43, encR, textsA, Rpl.mk.injEq, ↓alts_t, ↓alts_f, alts, ↓gone_tt, ↓gone_tf, gslot, drun, aops, aone, afin, ares, aresL, ares1, aresOk, aresOk1, aop, needs, ext, aev, aconst, aput, aupd, aload, afieldAddr, acmp, ashift, abin, tab_3, tab_9, tab_34, tab_41, tab_43, ok1, cellsAs, TI.agg, AV.cells, AV.whole, Y4, Yb, Yc, Y6, Y7, Ya, Y9, Y1, Y2, Yw, Yi, Yh, Yg, Yj, Yk, Y5, Y3, Yt, Yu, Ys, Yr, Nat.reduceAdd, Nat.reduceLeDiff, Yp, Yq, decide_eq_true_eq, decide_eq_false_iff_not, decide_true, decide_false, Yv, Y0, Y8]
  (repeat' (first | (intro _) | (apply And.intro)))
  all_goals try (first | rfl | (repeat' first | exact .refl _ | exact .nil | exact .nil _ | exact .tok _ _ _ | apply LeR.tup | apply LeL.cons | apply Le1L.cons | apply Le.agg | apply Le.one | apply LeR.one))
  refine Ops.pure (Wanted.test 33 true true rfl) rfl rfl (hs) (by simp only [textsA, aev, Y4, Y1, Y2, Yf, Ye, Y3, Yd, Y0]; (repeat' first | exact .refl _ | apply LeR.tup | apply Le.agg | constructor)) rfl rfl ?_
  refine Ops.god tab_ok follows_ok Try.func43 60 ?_; simp only [Try.results43, drun, aops, aone, afin, ares, aresL, ares1, aresOk, aresOk1, aop, needs, ext, aev, aput, aupd, ok1, Y4, Yb, Yc, Y6, Y7, Y1, Y2, Y5, Y3, Yt, Yu, Yr, Y0, Y8]
  (repeat' first | exact .refl _ | apply LeR.tup | apply Le.agg | constructor)
theorem rsame12_spec (r q : Rpl) (hl : r.l.length ≤ 281474976710656) : ASpec Try.prog 16 [encR r, encR q] (.bool (decide (r = q))) := by
  obtain ⟨a, b, e, s, x, l⟩ := r
  obtain ⟨a', b', e', s', x', l'⟩ := q
  have hs := strings_spec l l' hl
  refine ⟨⟨_, Try.func16, by kernel_rfl, rfl⟩, ACall.of Try.func16 rfl fun c0 hc0 => ?_⟩; simp only [Try.ntmps16, Ya, Y9, Nat.reduceAdd, Nat.reduceSub, Ym, Yn, Y5, Y3]; refine Run.god tab_ok follows_ok Try.func16 60 ?_; simp (config := { maxSteps := 2000000 }) +contextual only [Try.results16, encR, textsA, Rpl.mk.injEq, ↓alts_t, ↓alts_f, alts, ↓gone_tt, ↓gone_tf, gslot, drun, aops, aone, afin, ares, aresL, ares1, aresOk, aresOk1, aop, needs, ext, aev, aconst, aput, aupd, aload, afieldAddr, acmp, ashift, abin, tab_3, tab_9, tab_34, tab_41, tab_51, ok1, cellsAs, TI.agg, AV.cells, AV.whole, Y4, Yb, Yc, Y6, Y7, Ya, Y9, Y1, Y2, Yw, Yi, Yh, Yg, Yj, Yk, Y5, Y3, Yt, Yu, Ys, Yr, Nat.reduceAdd, Nat.reduceLeDiff, Yp, Yq, decide_eq_true_eq, decide_eq_false_iff_not, decide_true, decide_false, Yv, Y0, Y8]
  (repeat' (first | (intro _) | (apply And.intro)))
  all_goals try (first | rfl | (repeat' first | exact .refl _ | exact .nil | exact .nil _ | exact .tok _ _ _ | apply LeR.tup | apply LeL.cons | apply Le1L.cons | apply Le.agg | apply Le.one | apply LeR.one))
  refine Ops.pure (Wanted.test 33 true true rfl) rfl rfl (hs) (by simp only [textsA, aev, Y4, Y1, Y2, Yf, Ye, Y3, Yd, Y0]; (repeat' first | exact .refl _ | apply LeR.tup | apply Le.agg | constructor)) rfl rfl ?_
  refine Ops.god tab_ok follows_ok Try.func16 60 ?_; simp only [Try.results16, drun, aops, aone, afin, ares, aresL, ares1, aresOk, aresOk1, aop, needs, ext, aev, aput, aupd, ok1, Y4, Yb, Yc, Y6, Y7, Y1, Y2, Y5, Y3, Yt, Yu, Yr, Y0, Y8]
  (repeat' first | exact .refl _ | apply LeR.tup | apply Le.agg | constructor)
end Go.Proofs.Ytkamcoechjdgpaa
/-
  What reports say, in plain words: what may be, what is a certificate, what binds. Nothing here speaks of the program.
-/
namespace Go.Proofs.Ytkamcoechjdgpaa
abbrev Bts := List UInt8
structure Acc where
  by_ : Int
  view : Int
  value : Bts
deriving DecidableEq
structure Rp where
  by_ : Int
  for_ : Int
  has : Bool
  view : Int
  value : Bts
  proof : List Acc
deriving DecidableEq
/-! ### what was chosen -/
end Go.Proofs.Ytkamcoechjdgpaa
/-
  Package wire: a letter's parts, written: numbers, texts, flags, orders, replies.
-/
namespace Go.Proofs.Ytkamcoechjdgpaa
open Go.RowKit
def accC (a : Acc) : List AV := [.int .i64 a.by_, .int .i64 a.view, .str a.value]
def encA (a : Acc) : AV := .agg (accC a)
def votesA (l : List Acc) : AV := .sl 3 (l.map accC) .no
def rpC (r : Rp) : List AV := [.int .i64 r.by_, .int .i64 r.for_, .bool r.has, .int .i64 r.view, .str r.value, votesA r.proof]
def rpsA (l : List Rp) : AV := .sl 6 (l.map rpC) .no
def pp (b : Bytes) (back : Bool) (e : Int) : ABlk := .box [bytesA b, .bool back, .int .i64 e]
theorem LentB.box_ (cs : List AV) (h : belL 0 cs = true) : LentB (.box cs) := .inl ⟨_, rfl, h⟩
theorem pp_lent (b : Bytes) (back : Bool) (e : Int) : LentB (pp b back e) := .inl ⟨_, rfl, rfl⟩
theorem lent1 {x : ABlk} (h : LentB x) : ∀ y ∈ [x], LentB y := fun y hy => by simp at hy; subst hy; exact h
theorem lent2 {x z : ABlk} (h : LentB x) (h2 : LentB z) : ∀ y ∈ [x, z], LentB y := fun y hy => by
  simp at hy
  rcases hy with rfl | rfl
  · exact h
  · exact h2
theorem MethodAt.by_ {P : Program} {t : TypeId} {name : String} {g : FuncId} {d : TypeDesc} (hfn : Callable P g) (h : (P.info? t).bind (fun ti => (ti.methods.find? (fun m => m.name == name)).map fun m => (m.path, m.func)) = some (#[], some (g, false)))
    (hu : P.underlying t = some d) (hd : ∀ e, d ≠ .pointer e) : MethodAt P t name g := by
  simp only [Option.bind_eq_some_iff, Option.map_eq_some_iff] at h
  obtain ⟨ti, h1, m, h2, h3⟩ := h
  simp only [Prod.mk.injEq] at h3
  exact MethodAt.of hfn h1 h2 h3.1 h3.2 hu hd
theorem meth_number : MethodAt Try.prog 148 "consistory/wire.tell" 75 :=
  .by_ ⟨_, Try.func75, by kernel_rfl, rfl⟩ (by kernel_rfl) Try.underlying148 (fun _ h => by cases h)
theorem meth_text : MethodAt Try.prog 165 "consistory/wire.tell" 114 :=
  .by_ ⟨_, Try.func114, by kernel_rfl, rfl⟩ (by kernel_rfl) Try.underlying165 (fun _ h => by cases h)
theorem meth_flag : MethodAt Try.prog 195 "consistory/wire.tell" 131 :=
  .by_ ⟨_, Try.func131, by kernel_rfl, rfl⟩ (by kernel_rfl) Try.underlying195 (fun _ h => by cases h)
theorem meth_sum : MethodAt Try.prog 179 "consistory/wire.tell" 119 :=
  .by_ ⟨_, Try.func119, by kernel_rfl, rfl⟩ (by kernel_rfl) Try.underlying179 (fun _ h => by cases h)
theorem meth_asks : MethodAt Try.prog 182 "consistory/wire.tell" 120 :=
  .by_ ⟨_, Try.func120, by kernel_rfl, rfl⟩ (by kernel_rfl) Try.underlying182 (fun _ h => by cases h)
theorem meth_replies : MethodAt Try.prog 185 "consistory/wire.tell" 126 :=
  .by_ ⟨_, Try.func126, by kernel_rfl, rfl⟩ (by kernel_rfl) Try.underlying185 (fun _ h => by cases h)
theorem meth_parts : MethodAt Try.prog 171 "consistory/wire.tell" 118 :=
  .by_ ⟨_, Try.func118, by kernel_rfl, rfl⟩ (by kernel_rfl) Try.underlying171 (fun _ h => by cases h)
theorem meth_rowA : MethodAt Try.prog 197 "consistory/wire.tell" 132 :=
  .by_ ⟨_, Try.func132, by kernel_rfl, rfl⟩ (by kernel_rfl) Try.underlying197 (fun _ h => by cases h)
theorem meth_rowR : MethodAt Try.prog 169 "consistory/wire.tell" 117 :=
  .by_ ⟨_, Try.func117, by kernel_rfl, rfl⟩ (by kernel_rfl) Try.underlying169 (fun _ h => by cases h)
theorem number_w (b : Bytes) (n : Int) (cs : List AV) (hb : b.length ≤ 900000) (hn : I64 n) : BSpec Try.prog 75 [.agg [.rptr (.int .i64 n :: cs)], .ptr 0 0] [pp b false 0] [pp (b ++ encN (zig n)) false 0] (.tup []) := by
  have hi := (int_spec b n (by omega) hn).spec
  refine ⟨⟨_, Try.func75, by kernel_rfl, rfl⟩, ACall.of Try.func75 rfl fun c0 hc0 => ?_⟩; simp only [Try.ntmps75, Ya, Y9, Nat.reduceAdd, Nat.reduceSub, Ym, Yn, Y5, Y3]; refine Run.god tab_ok follows_ok Try.func75 60 ?_; simp only [pp, decide_true, ↓alt_f, drun, adops, adone, places, mayNeed, freeOk, rdOf, AV.id, wrOf, aops, aone, aop, needs, ext, aev, aconst, aput, aupd, aload, afieldAddr, acmp, ashift, abin, tab_3, tab_4, tab_34, tab_85, tab_145, tab_146, tab_148, ok1, cellsAs, TI.agg, AV.cells, AV.whole, Y4, Yb, Yc, Y6, Y7, Ya, Y9, Y1, Y2, Yi, Yh, Yg, Yj, Yk, Y5, Y3, Yt, Yu, Ys, Yr, Nat.reduceAdd, Nat.reduceLeDiff, Yp, Yq, Bool.not_true, Yv, Y0, Y8]
  refine ⟨rfl, ?_⟩
  refine DOps.pure rfl .free rfl rfl (hi) (by simp only [aev, Y4, Y1, Y2, Yf, Ye, Y3, Yd, Y0]; (repeat' first | exact .refl _ | apply LeR.tup | apply Le.agg | constructor)) rfl rfl ?_
  refine DOps.god tab_ok follows_ok Try.func75 60 rfl ?_; simp only [Try.results75, bytesA, drun, adops, adone, mayNeed, freeOk, rdOf, AV.id, wrOf, afin, ares, aresL, aresOk, aop, needs, aev, aput, aupd, astore, afieldAddr, tab_85, tab_145, ok1, lay, AV.cells, AV.whole, Y4, Yb, Yc, Y6, Y7, Ya, Y9, Y1, Y2, Yi, Yh, Yj, Y5, Y3, Yt, Yu, Yr, Nat.reduceAdd, Nat.reduceLeDiff, Yp, Yq, Y0, Y8]
  refine ⟨rfl, ?_⟩
  (refine ⟨by (repeat' first | exact .refl _ | apply LeR.tup | apply Le.agg | constructor), ?_⟩; (repeat' (first | exact WkH.nil _ | exact Le.refl _ | exact Le1.refl _ | exact Le1L.nil | rfl | apply WkH.cons | apply LeB.box | apply Le1L.cons | apply Le.one)))
theorem text_w (b : Bytes) (s : Bytes) (cs : List AV) (hb : b.length ≤ 900000) (hs : s.length ≤ 900000) : BSpec Try.prog 114 [.agg [.rptr (.str s :: cs)], .ptr 0 0] [pp b false 0] [pp (b ++ encT s) false 0] (.tup []) := by
  have hi := (text_spec b s (by omega) (by omega)).spec
  refine ⟨⟨_, Try.func114, by kernel_rfl, rfl⟩, ACall.of Try.func114 rfl fun c0 hc0 => ?_⟩; simp only [Try.ntmps114, Ya, Y9, Nat.reduceAdd, Nat.reduceSub, Ym, Yn, Y5, Y3]; refine Run.god tab_ok follows_ok Try.func114 60 ?_; simp only [pp, decide_true, ↓alt_f, drun, adops, adone, places, mayNeed, freeOk, rdOf, AV.id, wrOf, aops, aone, aop, needs, ext, aev, aconst, aput, aupd, aload, afieldAddr, acmp, ashift, abin, tab_4, tab_9, tab_34, tab_85, tab_145, tab_163, tab_165, ok1, cellsAs, TI.agg, AV.cells, AV.whole, Y4, Yb, Yc, Y6, Y7, Ya, Y9, Y1, Y2, Yi, Yh, Yg, Yj, Yk, Y5, Y3, Yt, Yu, Ys, Yr, Nat.reduceAdd, Nat.reduceLeDiff, Yp, Yq, Bool.not_true, Yv, Y0, Y8]
  refine ⟨rfl, ?_⟩
  refine DOps.pure rfl .free rfl rfl (hi) (by simp only [aev, Y4, Y1, Y2, Yf, Ye, Y3, Yd, Y0]; (repeat' first | exact .refl _ | apply LeR.tup | apply Le.agg | constructor)) rfl rfl ?_
  refine DOps.god tab_ok follows_ok Try.func114 60 rfl ?_; simp only [Try.results114, bytesA, drun, adops, adone, mayNeed, freeOk, rdOf, AV.id, wrOf, afin, ares, aresL, aresOk, aop, needs, aev, aput, aupd, astore, afieldAddr, tab_85, tab_145, ok1, lay, AV.cells, AV.whole, Y4, Yb, Yc, Y6, Y7, Ya, Y9, Y1, Y2, Yi, Yh, Yj, Y5, Y3, Yt, Yu, Yr, Nat.reduceAdd, Nat.reduceLeDiff, Yp, Yq, Y0, Y8]
  refine ⟨rfl, ?_⟩
  (refine ⟨by (repeat' first | exact .refl _ | apply LeR.tup | apply Le.agg | constructor), ?_⟩; (repeat' (first | exact WkH.nil _ | exact Le.refl _ | exact Le1.refl _ | exact Le1L.nil | rfl | apply WkH.cons | apply LeB.box | apply Le1L.cons | apply Le.one)))
theorem asks_w (b : Bytes) (q : Ord) (cs : List AV) (hb : b.length ≤ 100000) (hq : smO q) : BSpec Try.prog 120 [.agg [.rptr (.int .i64 q.a :: .int .i64 q.b :: .int .i64 q.kind :: .str q.s :: .str q.t :: .int .i64 q.x :: .int .i64 q.y :: .int .i64 q.z :: cs)], .ptr 0 0] [pp b false 0] [pp (b ++ putO q) false 0] (.tup []) := by
  have hi := put12_spec b q hb hq
  refine ⟨⟨_, Try.func120, by kernel_rfl, rfl⟩, ACall.of Try.func120 rfl fun c0 hc0 => ?_⟩; simp only [Try.ntmps120, Ya, Y9, Nat.reduceAdd, Nat.reduceSub, Ym, Yn, Y5, Y3]; refine Run.god tab_ok follows_ok Try.func120 60 ?_; simp only [pp, decide_true, ↓alt_f, drun, adops, adone, places, mayNeed, freeOk, rdOf, AV.id, wrOf, aops, aone, aop, needs, ext, aev, aconst, aput, aupd, aload, afieldAddr, acmp, ashift, abin, tab_4, tab_29, tab_34, tab_85, tab_145, tab_180, tab_182, ok1, cellsAs, TI.agg, AV.cells, AV.whole, Y4, Yb, Yc, Y6, Y7, Ya, Y9, Y1, Y2, Yi, Yh, Yg, Yj, Yk, Y5, Y3, Yt, Yu, Ys, Yr, Nat.reduceAdd, Nat.reduceLeDiff, Yp, Yq, Bool.not_true, Yv, Y0, Y8]
  refine ⟨rfl, ?_⟩
  refine DOps.pure rfl .free rfl rfl (hi) (by simp only [encO, aev, Y4, Y1, Y2, Yf, Ye, Y3, Yd, Y0]; (repeat' first | exact .refl _ | apply LeR.tup | apply Le.agg | constructor)) rfl rfl ?_
  refine DOps.god tab_ok follows_ok Try.func120 60 rfl ?_; simp only [Try.results120, bytesA, drun, adops, adone, mayNeed, freeOk, rdOf, AV.id, wrOf, afin, ares, aresL, aresOk, aop, needs, aev, aput, aupd, astore, afieldAddr, tab_85, tab_145, ok1, lay, AV.cells, AV.whole, Y4, Yb, Yc, Y6, Y7, Ya, Y9, Y1, Y2, Yi, Yh, Yj, Y5, Y3, Yt, Yu, Yr, Nat.reduceAdd, Nat.reduceLeDiff, Yp, Yq, Y0, Y8]
  refine ⟨rfl, ?_⟩
  (refine ⟨by (repeat' first | exact .refl _ | apply LeR.tup | apply Le.agg | constructor), ?_⟩; (repeat' (first | exact WkH.nil _ | exact Le.refl _ | exact Le1.refl _ | exact Le1L.nil | rfl | apply WkH.cons | apply LeB.box | apply Le1L.cons | apply Le.one)))
theorem replies_w (b : Bytes) (q : Rpl) (cs : List AV) (hb : b.length ≤ 100000) (hq : smR q) : BSpec Try.prog 126 [.agg [.rptr (.int .i64 q.a :: .int .i64 q.b :: .int .i64 q.e :: .str q.s :: .int .i64 q.x :: textsA q.l :: cs)], .ptr 0 0] [pp b false 0] [pp (b ++ putR q) false 0] (.tup []) := by
  have hi := putreply_spec b q hb hq
  refine ⟨⟨_, Try.func126, by kernel_rfl, rfl⟩, ACall.of Try.func126 rfl fun c0 hc0 => ?_⟩; simp only [Try.ntmps126, Ya, Y9, Nat.reduceAdd, Nat.reduceSub, Ym, Yn, Y5, Y3]; refine Run.god tab_ok follows_ok Try.func126 60 ?_; simp only [pp, decide_true, ↓alt_f, drun, adops, adone, places, mayNeed, freeOk, rdOf, AV.id, wrOf, aops, aone, aop, needs, ext, aev, aconst, aput, aupd, aload, afieldAddr, acmp, ashift, abin, tab_4, tab_34, tab_43, tab_85, tab_145, tab_183, tab_185, ok1, cellsAs, TI.agg, AV.cells, AV.whole, Y4, Yb, Yc, Y6, Y7, Ya, Y9, Y1, Y2, Yi, Yh, Yg, Yj, Yk, Y5, Y3, Yt, Yu, Ys, Yr, Nat.reduceAdd, Nat.reduceLeDiff, Yp, Yq, Bool.not_true, Yv, Y0, Y8]
  refine ⟨rfl, ?_⟩
  refine DOps.pure rfl .free rfl rfl (hi) (by simp only [encR, aev, Y4, Y1, Y2, Yf, Ye, Y3, Yd, Y0]; (repeat' first | exact .refl _ | apply LeR.tup | apply Le.agg | constructor)) rfl rfl ?_
  refine DOps.god tab_ok follows_ok Try.func126 60 rfl ?_; simp only [Try.results126, bytesA, drun, adops, adone, mayNeed, freeOk, rdOf, AV.id, wrOf, afin, ares, aresL, aresOk, aop, needs, aev, aput, aupd, astore, afieldAddr, tab_85, tab_145, ok1, lay, AV.cells, AV.whole, Y4, Yb, Yc, Y6, Y7, Ya, Y9, Y1, Y2, Yi, Yh, Yj, Y5, Y3, Yt, Yu, Yr, Nat.reduceAdd, Nat.reduceLeDiff, Yp, Yq, Y0, Y8]
  refine ⟨rfl, ?_⟩
  (refine ⟨by (repeat' first | exact .refl _ | apply LeR.tup | apply Le.agg | constructor), ?_⟩; (repeat' (first | exact WkH.nil _ | exact Le.refl _ | exact Le1.refl _ | exact Le1L.nil | rfl | apply WkH.cons | apply LeB.box | apply Le1L.cons | apply Le.one)))
theorem number_wb (b : Bytes) (n : Int) (hb : b.length ≤ 900000) (hn : I64 n) : BSpec Try.prog 75 [.agg [.ptr 1 0], .ptr 0 0] [pp b false 0, .box [.int .i64 n]] [pp (b ++ encN (zig n)) false 0, .box [.int .i64 n]] (.tup []) := by
  have hi := (int_spec b n (by omega) hn).spec
  refine ⟨⟨_, Try.func75, by kernel_rfl, rfl⟩, ACall.of Try.func75 rfl fun c0 hc0 => ?_⟩; simp only [Try.ntmps75, Ya, Y9, Nat.reduceAdd, Nat.reduceSub, Ym, Yn, Y5, Y3]; refine Run.god tab_ok follows_ok Try.func75 60 ?_; simp only [pp, decide_true, ↓alt_f, drun, adops, adone, places, mayNeed, freeOk, rdOf, AV.id, wrOf, aops, aone, aop, needs, ext, aev, aconst, aput, aupd, aload, afieldAddr, acmp, ashift, abin, tab_3, tab_4, tab_34, tab_85, tab_145, tab_146, tab_148, ok1, cellsAs, TI.agg, AV.cells, AV.whole, Y4, Yb, Yc, Y6, Y7, Ya, Y9, Y1, Y2, Yi, Yh, Yg, Yj, Yk, Y5, Y3, Yt, Yu, Ys, Yr, Nat.reduceAdd, Nat.reduceLeDiff, Yp, Yq, Bool.not_true, Yv, Y0, Y8]
  refine ⟨rfl, ?_⟩
  refine DOps.pure rfl .free rfl rfl (hi) (by simp only [aev, Y4, Y1, Y2, Yf, Ye, Y3, Yd, Y0]; (repeat' first | exact .refl _ | apply LeR.tup | apply Le.agg | constructor)) rfl rfl ?_
  refine DOps.god tab_ok follows_ok Try.func75 60 rfl ?_; simp only [Try.results75, drun, adops, adone, mayNeed, freeOk, rdOf, AV.id, wrOf, afin, ares, aresL, aresOk, aop, needs, aev, aput, aupd, astore, afieldAddr, tab_85, tab_145, ok1, lay, AV.cells, AV.whole, Y4, Yb, Yc, Y6, Y7, Ya, Y9, Y1, Y2, Yi, Yh, Yj, Y5, Y3, Yt, Yu, Yr, Nat.reduceAdd, Nat.reduceLeDiff, Yp, Yq, Y0, Y8]
  refine ⟨rfl, ?_⟩
  (refine ⟨by (repeat' first | exact .refl _ | apply LeR.tup | apply Le.agg | constructor), ?_⟩; (repeat' (first | exact WkH.nil _ | exact Le.refl _ | exact Le1.refl _ | exact Le1L.nil | rfl | apply WkH.cons | apply LeB.box | apply Le1L.cons | apply Le.one)))
theorem flag_w_true (b : Bytes) (cs : List AV) (hb : b.length ≤ 900000) : BSpec Try.prog 131 [.agg [.rptr (.bool true :: cs)], .ptr 0 0] [pp b false 0] [pp (b ++ encN (zig 1)) false 0] (.tup []) := by
  have hi := number_wb b 1 hb (by unfold I64; omega)
  refine ⟨⟨_, Try.func131, by kernel_rfl, rfl⟩, ACall.of Try.func131 rfl fun c0 hc0 => ?_⟩; simp only [Try.ntmps131, Ya, Y9, Nat.reduceAdd, Nat.reduceSub, Ym, Yn, Y5, Y3]; refine Run.god tab_ok follows_ok Try.func131 60 ?_; simp only [pp, ↓alt_t, drun, aops, aone, aop, needs, ext, aev, aconst, aput, aupd, aload, astore, afieldAddr, abuild, tab_3, tab_4, tab_146, tab_148, tab_193, tab_195, ok1, lay, cellsAs, TI.agg, AV.cells, AV.whole, Y4, Yb, Yc, Y6, Y7, Ya, Y9, Y1, Y2, Yi, Yh, Yg, Yj, Yk, Yl, Yf, Ye, Y5, Y3, Yd, Yt, Yu, Ys, Yr, Nat.reduceAdd, Nat.reduceLeDiff, Yp, Yq, Yv, Y0, Y8]
  refine Ops.callB .free rfl rfl (js := [0, 2]) (by decide) (LentAll.cons rfl (pp_lent b false 0) (LentAll.cons rfl (LentB.box_ [.int .i64 1] rfl) LentAll.nil)) (lent2 (pp_lent _ _ _) (LentB.box_ _ rfl)) rfl rfl (by simp only [cond_true, cond_false, renL, AV.ren, List.idxOf, List.findIdx, List.findIdx.go, aev, Y4, Y1, Y2, Yf, Ye, Y3, Yd, Nat.reduceAdd, Nat.reduceBEq, Yp, beq_self_eq_true, Y0]; (repeat' first | exact .refl _ | apply LeR.tup | apply Le.agg | constructor)) (hi) rfl ?_
  refine Ops.god tab_ok follows_ok Try.func131 60 ?_; simp only [Try.results131, putBack, pp, decide_true, decide_false, ↓alt_f, ↓alts_t, ↓gone_tt, gslot, Int.reduceEq, drun, aops, aone, afin, ares, aresL, aresOk, aop, needs, ext, aev, aconst, aput, aupd, aload, astore, afieldAddr, acmp, ashift, abin, tab_3, tab_4, tab_193, tab_195, ok1, cellsAs, TI.agg, Y4, Yb, Yc, Y6, Y7, Ya, Y9, Y1, Y2, Yw, Yi, Yg, Yk, Y5, Y3, Yt, Ys, Yr, Yp, Yq, Bool.not_true, Bool.not_false, Yv, Y0, Y8]
  ((repeat' apply And.intro) <;> try first | rfl | omega | (unfold I64; omega))
  all_goals (repeat' (first | exact WkH.nil _ | exact LeR.one (Le.refl _) | exact LeL.nil | apply LeR.tup | exact Le.refl _ | exact Le1.refl _ | exact Le1L.nil | rfl | apply WkH.cons | apply LeB.box | apply Le1L.cons | apply Le.one))
theorem flag_w_false (b : Bytes) (cs : List AV) (hb : b.length ≤ 900000) : BSpec Try.prog 131 [.agg [.rptr (.bool false :: cs)], .ptr 0 0] [pp b false 0] [pp (b ++ encN (zig 0)) false 0] (.tup []) := by
  have hi := number_wb b 0 hb (by unfold I64; omega)
  refine ⟨⟨_, Try.func131, by kernel_rfl, rfl⟩, ACall.of Try.func131 rfl fun c0 hc0 => ?_⟩; simp only [Try.ntmps131, Ya, Y9, Nat.reduceAdd, Nat.reduceSub, Ym, Yn, Y5, Y3]; refine Run.god tab_ok follows_ok Try.func131 60 ?_; simp only [pp, ↓alt_f, drun, aops, aone, aop, needs, ext, aev, aconst, aput, aupd, aload, astore, afieldAddr, abuild, tab_3, tab_4, tab_146, tab_148, tab_193, tab_195, ok1, lay, cellsAs, TI.agg, AV.cells, AV.whole, Y4, Yb, Yc, Y6, Y7, Ya, Y9, Y1, Y2, Yi, Yh, Yg, Yj, Yk, Yl, Yf, Ye, Y5, Y3, Yd, Yt, Yu, Ys, Yr, Nat.reduceAdd, Nat.reduceLeDiff, Yp, Yq, Yv, Y0, Y8]
  refine Ops.callB .free rfl rfl (js := [0, 2]) (by decide) (LentAll.cons rfl (pp_lent b false 0) (LentAll.cons rfl (LentB.box_ [.int .i64 0] rfl) LentAll.nil)) (lent2 (pp_lent _ _ _) (LentB.box_ _ rfl)) rfl rfl (by simp only [cond_true, cond_false, renL, AV.ren, List.idxOf, List.findIdx, List.findIdx.go, aev, Y4, Y1, Y2, Yf, Ye, Y3, Yd, Nat.reduceAdd, Nat.reduceBEq, Yp, beq_self_eq_true, Y0]; (repeat' first | exact .refl _ | apply LeR.tup | apply Le.agg | constructor)) (hi) rfl ?_
  refine Ops.god tab_ok follows_ok Try.func131 60 ?_; simp only [Try.results131, putBack, pp, decide_true, decide_false, ↓alt_f, ↓alts_f, ↓gone_tf, gslot, Int.reduceEq, drun, aops, aone, afin, ares, aresL, aresOk, aop, needs, ext, aev, aconst, aput, aupd, aload, astore, afieldAddr, acmp, ashift, abin, tab_3, tab_4, tab_193, tab_195, ok1, cellsAs, TI.agg, Y4, Yb, Yc, Y6, Y7, Ya, Y9, Y1, Y2, Yw, Yi, Yg, Yk, Y5, Y3, Yt, Ys, Yr, Yp, Yq, Bool.not_true, Yv, Y0, Y8]
  ((repeat' apply And.intro) <;> try first | rfl | omega | (unfold I64; omega))
  all_goals (repeat' (first | exact WkH.nil _ | exact LeR.one (Le.refl _) | exact LeL.nil | apply LeR.tup | exact Le.refl _ | exact Le1.refl _ | exact Le1L.nil | rfl | apply WkH.cons | apply LeB.box | apply Le1L.cons | apply Le.one))
end Go.Proofs.Ytkamcoechjdgpaa
/-
  Package wire: rows of parts, votes and reports, written.
-/
namespace Go.Proofs.Ytkamcoechjdgpaa
open Go.RowKit
def partC (p : Nat × AV) : List AV := [.iface p.1 p.2]
def ToldW (L : List (Nat × AV)) (W : Nat → Bytes) : Prop := ∀ (k : Nat) t v, L[k]? = some (t, v) → v.bel 1 = true ∧ v.among [0] = true ∧ v.ren [0] = v ∧ ∃ g, MethodAt Try.prog t "consistory/wire.tell" g ∧ BSpec Try.prog g [v, .ptr 0 0] [pp (W k) false 0] [pp (W (k + 1)) false 0] (.tup [])
theorem partsBel {n : Nat} : ∀ {L : List (Nat × AV)}, (∀ (k : Nat) t v, L[k]? = some (t, v) → v.bel n = true) → (AV.psl 1 (L.map partC)).bel n = true
  | [], _ => rfl
  | (t, v) :: L, h => by
    have h0 := h 0 t v rfl
    have ih := partsBel (n := n) (L := L) fun k t v hk => h (k + 1) t v (by simpa using hk)
    simp only [AV.bel, Yf, belLL, partC, belL, h0, Bool.and_true, Bool.true_and] at ih ⊢
    exact ih
theorem parts_w (L : List (Nat × AV)) (W : Nat → Bytes) (hl : L.length ≤ 1000) (hL : ToldW L W) : BSpec Try.prog 118 [.psl 1 (L.map partC), .ptr 0 0] [pp (W 0) false 0] [pp (W L.length) false 0] (.tup []) := by
  refine ⟨⟨_, Try.func118, by kernel_rfl, rfl⟩, ACall.of Try.func118 rfl fun c0 hc0 => ?_⟩; simp only [Try.ntmps118, Ya, Y9, Nat.reduceAdd, Nat.reduceSub, Ym, Yn, Y5, Y3]; refine Run.god tab_ok follows_ok Try.func118 60 ?_; simp only [Yo, drun, aops, aone, aop, needs, ext, aev, aconst, aput, aupd, alen, tab_171, ok1, Y4, Yb, Y6, Y7, Y1, Y2, Y5, Y3, Yt, Yr, Y0, Y8]
  refine Run.loopV (α := Nat) (fun k => k ≤ L.length) (fun k => [(8, .int .i64 k)]) 1 (fun k => [(0, pp (W k) false 0)]) (fun k => L.length - k) 0 (Nat.zero_le _) ?_ ?_
  · simp only [writes, junks, puts, hputs, List.filterMap_cons, List.filterMap_nil, Int.natCast_zero, Y6, Y7, Yg, Yk, Y5, Y3, Yd]
    (refine Weak.of (by simp [hc0]) ?_ ?_ <;> (repeat' first | exact .refl _ | exact .junk _ | exact .nil | exact .nil _ | exact .tok _ _ _ | rfl | apply WkT.cons | apply WkH.cons | apply LeB.same | apply LeB.box | apply Le1L.cons | apply Le.agg | apply Le.one))
    all_goals exact partsBel fun k t v h => (hL k t v h).1
  intro k hk ih
  simp only [writes, junks, puts, hputs, List.filterMap_cons, List.filterMap_nil, Y6, Y7, Yg, Yk, Y5, Y3, Yd] at hk ih ⊢
  by_cases hlt : k < L.length
  · obtain ⟨⟨t, v⟩, hp⟩ : ∃ p, L[k]? = some p := ⟨_, List.getElem?_eq_getElem hlt⟩
    have hkk : (k : Int) < L.length := by omega
    obtain ⟨h0, h1, h2, g, hm, hb⟩ := hL k t v hp
    refine Run.god tab_ok follows_ok Try.func118 60 ?_; simp only [hkk, List.getElem?_map, Yo, hp, partC, decide_true, ↓alt_t, drun, aops, aone, aop, needs, ext, aev, aput, aupd, aload, aindexAddr, acmp, ashift, abin, tab_3, tab_151, tab_171, ok1, cellsAs, TI.agg, Y4, Yb, Yc, Y6, Y7, Ya, Y9, Y1, Y2, Yg, Yk, Y5, Y3, Yt, Yu, Ys, Yr, Nat.reduceAdd, Yp, Nat.reduceLT, Yv, Int.toNat_natCast, Y0, Y8]
    refine ⟨by omega, ?_⟩
    refine Ops.invokeB .free rfl rfl hm (js := [0]) (by decide) (LentAll.cons rfl (pp_lent _ _ _) LentAll.nil) (lent1 (pp_lent _ _ _)) rfl (by simp only [Yf, Ye, aev, Y4, Y1, Y2, Bool.and_true, Bool.true_and, Y0, amongL, h1]; rfl) (by simp only [Yf, Ye, aev, Y4, Y1, Y2, Y0, renL, h2]; exact LeL.cons (Le.refl _) (LeL.cons (Le.refl _) LeL.nil)) hb rfl ?_
    refine Ops.god tab_ok follows_ok Try.func118 60 ?_; simp only [putBack, drun, aops, aone, aop, needs, ext, aev, aconst, aput, aupd, acmp, aarith, ashift, abin, tab_3, ok1, Y4, Yb, Y6, Y7, Y1, Y2, Y5, Y3, Yt, Ys, Yr, Y0, Y8]
    ((repeat' apply And.intro) <;> try first | rfl | omega | (unfold I64; omega))
    refine ih (k + 1) _ (by omega) (by omega) ?_
    simp only [Int.natCast_add, Int.natCast_one]
    (refine Weak.of (by simp [hc0]) ?_ ?_ <;> (repeat' first | exact .refl _ | exact .junk _ | exact .nil | exact .nil _ | exact .tok _ _ _ | rfl | apply WkT.cons | apply WkH.cons | apply LeB.same | apply LeB.box | apply Le1L.cons | apply Le.agg | apply Le.one))
    all_goals exact partsBel fun k t v h => (hL k t v h).1
  · obtain rfl : k = L.length := by omega
    have hkk : ¬ (L.length : Int) < L.length := by omega
    refine Run.god tab_ok follows_ok Try.func118 60 ?_; simp only [Try.results118, hkk, decide_false, ↓alt_f, drun, aops, aone, afin, ares, aresL, aresOk, aop, needs, ext, aev, aput, aupd, acmp, ashift, abin, tab_3, ok1, exitTo, Y4, Yb, Yc, Y6, Y7, Y1, Y2, Y5, Y3, Yt, Ys, Yr, beq_self_eq_true, Y0, Y8]
    (refine ⟨by (repeat' first | exact .refl _ | apply LeR.tup | apply Le.agg | constructor), ?_⟩; (repeat' (first | exact WkH.nil _ | exact Le.refl _ | exact Le1.refl _ | exact Le1L.nil | rfl | apply WkH.cons | apply LeB.box | apply Le1L.cons | apply Le.one)))
end Go.Proofs.Ytkamcoechjdgpaa
/-
  Package wire: votes and reports, written.
-/
namespace Go.Proofs.Ytkamcoechjdgpaa
open Go.RowKit
def Pln (cs : List AV) : Prop := (∀ n, belL n cs = true) ∧ (∀ js, amongL js cs = true) ∧ ∀ js, renL js cs = cs
theorem Pln.cons {a : AV} {cs : List AV} (h1 : ∀ n, a.bel n = true) (h2 : ∀ js, a.among js = true) (h3 : ∀ js, a.ren js = a) (h : Pln cs) : Pln (a :: cs) :=
  ⟨fun n => by simp [belL, h1 n, h.1 n], fun js => by simp [amongL, h2, h.2.1], fun js => by simp [renL, h3, h.2.2]⟩
theorem Pln.part {cs : List AV} (h : Pln cs) : (AV.agg [.rptr cs]).bel 1 = true ∧ (AV.agg [.rptr cs]).among [0] = true ∧ (AV.agg [.rptr cs]).ren [0] = .agg [.rptr cs] :=
  ⟨by simp [AV.bel, belL, h.1], by simp [AV.among, amongL, h.2.1], by simp [AV.ren, renL, h.2.2]⟩
def voteB (a : Acc) : Bytes := encN (zig a.by_) ++ encN (zig a.view) ++ encT a.value
def voteL (a : Acc) (cs : List AV) : List (Nat × AV) := [(148, .agg [.rptr (.int .i64 a.by_ :: .int .i64 a.view :: .str a.value :: cs)]), (148, .agg [.rptr (.int .i64 a.view :: .str a.value :: cs)]), (165, .agg [.rptr (.str a.value :: cs)])]
theorem vote_spec (a : Acc) (cs : List AV) : ASpec Try.prog 89 [.rptr (.int .i64 a.by_ :: .int .i64 a.view :: .str a.value :: cs)] (.iface 171 (.psl 1 ((voteL a cs).map partC))) := by
  refine ⟨⟨_, Try.func89, by kernel_rfl, rfl⟩, ACall.of Try.func89 rfl fun c0 hc0 => ?_⟩; simp only [Try.ntmps89, Ya, Y9, Nat.reduceAdd, Nat.reduceSub, Ym, Yn, Y5, Y3]; refine Run.god tab_ok follows_ok Try.func89 60 ?_; simp only [Try.results89, voteL, partC, drun, adops, adone, places, mayNeed, freeOk, rdOf, wrOf, aops, aone, afin, ares, aresL, ares1, aresOk, aresOk1, aop, needs, ext, aev, aconst, aput, aupd, afieldAddr, abuild, aelems, plains, tab_77, tab_146, tab_148, tab_151, tab_163, tab_165, tab_171, ok1, lay, AV.cells, AV.whole, AV.plain, AV.bare, Y4, Yb, Yc, Y6, Y7, Ya, Y9, Y1, Y2, Yi, Yh, Yj, Yl, Yf, Ye, Y5, Y3, Yd, List.all_cons, List.all_nil, Ym, Yn, Yt, Yu, Ys, Yr, Nat.reduceAdd, Nat.reduceLeDiff, Nat.reduceMul, Nat.reduceBEq, Yp, Bool.and_self, Bool.and_true, Bool.and_false, Nat.reduceLT, forall_const, reduceCtorEq, false_implies, implies_true, Yv, Y0, Y8]
  ((repeat' apply And.intro) <;> try first | rfl | omega | (unfold I64; omega))
  all_goals (repeat' first | exact .refl _ | apply LeR.tup | apply Le.agg | constructor)
theorem enc9 (n : Int) (h : I64 n) : (encN (zig n)).length ≤ 9 := encN_le _ (by unfold I64 at h; exact zig_lt n h.1 h.2)
theorem vote_told (a : Acc) (cs : List AV) (b : Bytes) (hcs : Pln cs) (h1 : I64 a.by_) (h2 : I64 a.view) (hb : b.length + a.value.length ≤ 800000) : ToldW (voteL a cs) (fun | 0 => b | 1 => b ++ encN (zig a.by_) | 2 => b ++ encN (zig a.by_) ++ encN (zig a.view) | _ => b ++ voteB a) := by
  have e1 := enc9 _ h1
  have e2 := enc9 _ h2
  have p1 : Pln (.str a.value :: cs) := .cons (fun _ => rfl) (fun _ => rfl) (fun _ => rfl) hcs
  have p2 : Pln (.int .i64 a.view :: .str a.value :: cs) := .cons (fun _ => rfl) (fun _ => rfl) (fun _ => rfl) p1
  have p3 : Pln (.int .i64 a.by_ :: .int .i64 a.view :: .str a.value :: cs) := .cons (fun _ => rfl) (fun _ => rfl) (fun _ => rfl) p2
  intro k t v h
  match k, h with
  | 0, h => cases h; exact ⟨p3.part.1, p3.part.2.1, p3.part.2.2, _, meth_number, number_w _ _ _ (by show b.length ≤ 900000; omega) h1⟩
  | 1, h => cases h; exact ⟨p2.part.1, p2.part.2.1, p2.part.2.2, _, meth_number, number_w _ _ _ (by show (b ++ encN (zig a.by_)).length ≤ 900000; simp; omega) h2⟩
  | 2, h =>
    cases h
    refine ⟨p1.part.1, p1.part.2.1, p1.part.2.2, _, meth_text, ?_⟩
    have := text_w (b ++ encN (zig a.by_) ++ encN (zig a.view)) a.value cs (by simp; omega) (by omega)
    rw [show b ++ encN (zig a.by_) ++ encN (zig a.view) ++ encT a.value = b ++ voteB a by unfold voteB; simp] at this
    exact this
  | k + 3, h => simp [voteL] at h
theorem vote_w (a : Acc) (cs : List AV) (b : Bytes) (hcs : Pln cs) (h1 : I64 a.by_) (h2 : I64 a.view) (hb : b.length + a.value.length ≤ 800000) : BSpec Try.prog 118 [.psl 1 ((voteL a cs).map partC), .ptr 0 0] [pp b false 0] [pp (b ++ voteB a) false 0] (.tup []) :=
  parts_w (voteL a cs) _ (by simp [voteL]) (vote_told a cs b hcs h1 h2 hb)
def votesB (l : List Acc) : Bytes := encN (zig l.length) ++ (l.map voteB).flatten
def smA (a : Acc) : Prop := I64 a.by_ ∧ I64 a.view ∧ a.value.length ≤ 100000
def totA (l : List Acc) : Nat := (l.map fun a => a.value.length + 27).sum
theorem voteB_le (a : Acc) (h : smA a) : (voteB a).length ≤ a.value.length + 27 := by
  have e1 := enc9 _ h.1
  have e2 := enc9 _ h.2.1
  have e3 := encT_le a.value (by have := h.2.2; omega)
  unfold voteB; simp; omega
theorem totA_take (l : List Acc) (k : Nat) (a : Acc) (h : l[k]? = some a) : totA (l.take k) + (a.value.length + 27) ≤ totA l := by
  have e : totA (l.take (k + 1)) ≤ totA l := by
    have h2 := List.take_append_drop (k + 1) l
    have h3 : totA l = totA (l.take (k + 1)) + totA (l.drop (k + 1)) := by
      unfold totA
      rw [← List.sum_append, ← List.map_append, h2]
    omega
  rw [List.take_add_one, h] at e
  simp only [totA, List.map_append, List.sum_append] at e ⊢
  simpa using e
theorem votesB_take (l : List Acc) (hl : ∀ a ∈ l, smA a) : ((l.map voteB).flatten).length ≤ totA l := by
  induction l with
  | nil => simp
  | cons a l ih =>
    have h1 := voteB_le a (hl a List.mem_cons_self)
    have h2 := ih fun x hx => hl x (List.mem_cons_of_mem _ hx)
    simp only [Yf, List.flatten_cons, List.length_append, totA, List.sum_cons] at h2 ⊢
    omega
theorem rowA_w (l : List Acc) (cs : List AV) (b : Bytes) (hcs : Pln cs) (hl : ∀ a ∈ l, smA a) (hn : l.length ≤ 30) (hb : b.length + totA l ≤ 700000) : BSpec Try.prog 132 [.agg [.rptr (votesA l :: cs), .fn (.func 89) [] []], .ptr 0 0] [pp b false 0] [pp (b ++ votesB l) false 0] (.tup []) := by
  have hi := number_wb b l.length (by omega) (by unfold I64; omega)
  have n1 : ¬ (l.length : Int) < 0 := by omega
  have n2 : ¬ (30 : Int) < l.length := by omega
  have e0 := enc9 l.length (by unfold I64; omega)
  refine ⟨⟨_, Try.func132, by kernel_rfl, rfl⟩, ACall.of Try.func132 rfl fun c0 hc0 => ?_⟩; simp only [Try.ntmps132, Ya, Y9, Nat.reduceAdd, Nat.reduceSub, Ym, Yn, Y5, Y3]; refine Run.god tab_ok follows_ok Try.func132 60 ?_; simp only [pp, votesA, Yo, drun, aops, aone, aop, needs, ext, aev, aconst, aput, aupd, aload, astore, afieldAddr, alen, abuild, tab_3, tab_78, tab_146, tab_148, tab_175, tab_197, ok1, lay, cellsAs, TI.agg, AV.cells, AV.whole, Y4, Yb, Yc, Y6, Y7, Ya, Y9, Y1, Y2, Yi, Yh, Yg, Yj, Yl, Yf, Ye, Y5, Y3, Yd, Yt, Yu, Ys, Yr, Nat.reduceAdd, Nat.reduceLeDiff, Yp, Yq, Yv, Y0, Y8]
  refine Ops.callB .free rfl rfl (js := [0, 2]) (by decide) (LentAll.cons rfl (pp_lent b false 0) (LentAll.cons rfl (LentB.box_ [.int .i64 l.length] rfl) LentAll.nil)) (lent2 (pp_lent _ _ _) (LentB.box_ _ rfl)) rfl rfl (by simp only [cond_true, cond_false, renL, AV.ren, List.idxOf, List.findIdx, List.findIdx.go, aev, Y4, Y1, Y2, Yf, Ye, Y3, Yd, Nat.reduceAdd, Nat.reduceBEq, Yp, beq_self_eq_true, Y0]; (repeat' first | exact .refl _ | apply LeR.tup | apply Le.agg | constructor)) (hi) rfl ?_
  refine Ops.god tab_ok follows_ok Try.func132 60 ?_; simp only [putBack, pp, n1, n2, decide_false, ↓alt_f, ↓alts_f, ↓gone_tf, ↓gone_ff, gslot, drun, aops, aone, aop, needs, ext, aev, aconst, aput, aupd, aload, afieldAddr, acmp, ashift, abin, alen, tab_3, tab_4, tab_78, tab_145, tab_175, tab_197, ok1, cellsAs, TI.agg, Y4, Yb, Yc, Y6, Y7, Ya, Y9, Y1, Y2, Yw, Yi, Yh, Yg, Yj, Yk, Yo, Y5, Y3, Yt, Ys, Yr, Nat.reduceAdd, Nat.reduceLeDiff, Yp, Yq, Yv, Y0, Y8]
  ((repeat' apply And.intro) <;> try first | rfl | omega | (unfold I64; omega))
  refine Run.loopV (α := Nat) (fun k => k ≤ l.length) (fun k => [(44, .int .i64 k)]) 3 (fun k => [(0, pp (b ++ encN (zig l.length) ++ ((l.take k).map voteB).flatten) false 0)]) (fun k => l.length - k) 0 (Nat.zero_le _) ?_ ?_
  · simp only [writes, junks, puts, hputs, List.filterMap_cons, List.filterMap_nil, Int.natCast_zero, Y6, Y7, Yg, Yj, Yk, Ye, Y5, Y3, Yd, pp, List.flatten_nil, bytesA]
    (refine Weak.of (by simp [hc0]) ?_ ?_ <;> (repeat' first | exact .refl _ | exact .junk _ | exact .nil | exact .nil _ | exact .tok _ _ _ | rfl | apply WkT.cons | apply WkH.cons | apply LeB.same | apply LeB.box | apply Le1L.cons | apply Le.agg | apply Le.one))
    all_goals simp [AV.bel, ABlk.bel, belL, hcs.1]
  intro k hk ih
  simp only [writes, junks, puts, hputs, List.filterMap_cons, List.filterMap_nil, Y6, Y7, Yg, Yk, Y5, Y3, Yd] at hk ih ⊢
  by_cases hlt : k < l.length
  · obtain ⟨a, ha⟩ : ∃ a, l[k]? = some a := ⟨_, List.getElem?_eq_getElem hlt⟩
    have hkk : (k : Int) < l.length := by omega
    have ht := totA_take l k a ha
    have hsa := hl a (List.mem_of_getElem? ha)
    have hle := votesB_take (l.take k) fun x hx => hl x (List.mem_of_mem_take hx)
    refine Run.god tab_ok follows_ok Try.func132 60 ?_; simp only [hkk, ha, List.getElem?_map, Yo, accC, pp, decide_true, ↓alt_t, drun, adops, adone, places, mayNeed, freeOk, rdOf, AV.id, wrOf, aops, aone, aop, needs, ext, aev, aput, aupd, aload, afieldAddr, aindexAddr, acmp, ashift, abin, tab_3, tab_77, tab_78, tab_172, tab_175, tab_197, ok1, cellsAs, TI.agg, Y4, Yb, Yc, Y6, Y7, Ya, Y9, Y1, Y2, Yi, Yh, Yg, Yj, Yk, Y5, Y3, Yt, Yu, Ys, Yr, Nat.reduceAdd, Nat.reduceLeDiff, Yp, Yq, Nat.reduceLT, Yv, Int.toNat_natCast, Y0, Y8]
    ((repeat' apply And.intro) <;> try first | rfl | omega | (unfold I64; omega))
    refine DOps.pure rfl .free rfl rfl (vote_spec a []) (by simp only [aev, Y4, Y1, Y2, Yf, Ye, Y3, Yd, Y0]; (repeat' first | exact .refl _ | apply LeR.tup | apply Le.agg | constructor)) rfl rfl ?_
    refine DOps.god tab_ok follows_ok Try.func132 60 rfl ?_; simp only [adops, adone, mayNeed, freeOk, rdOf, wrOf, aop, needs, aev, aput, aupd, ok1, Y4, Y6, Y7, Y1, Y2, Y5, Y3, Yt, Yu, Yr, Nat.reduceAdd, Y0, Y8]
    refine DOps.invokeB rfl .free rfl rfl meth_parts (js := [0]) (by decide) (LentAll.cons rfl (pp_lent _ _ _) LentAll.nil) (lent1 (pp_lent _ _ _)) rfl (by simp only [Yf, Ye, aev, Y4, Y1, Y2, Y0]; rfl) (by simp only [Yf, Ye, aev, Y4, Y1, Y2, Yp, beq_self_eq_true, Y0, cond_true, renL, AV.ren, List.idxOf, List.findIdx, List.findIdx.go]; exact LeL.cons (Le.refl _) (LeL.cons (Le.refl _) LeL.nil)) (vote_w a [] (b ++ encN (zig l.length) ++ ((l.take k).map voteB).flatten) ⟨fun _ => rfl, fun _ => rfl, fun _ => rfl⟩ hsa.1 hsa.2.1 (by simp only [List.length_append]; omega)) rfl ?_
    refine DOps.god tab_ok follows_ok Try.func132 60 rfl ?_; simp only [putBack, pp, drun, adops, aops, aone, aop, needs, ext, aev, aconst, aput, aupd, acmp, aarith, ashift, abin, tab_3, ok1, Y4, Yb, Y6, Y7, Y1, Y2, Y5, Y3, Yt, Ys, Yr, Y0, Y8]
    ((repeat' apply And.intro) <;> try first | rfl | omega | (unfold I64; omega))
    refine ih (k + 1) _ (by omega) (by omega) ?_
    simp only [Int.natCast_add, Int.natCast_one, Yf, Ye, Yd, pp, bytesA, List.take_add_one, ha, Option.toList_some, List.map_append, List.flatten_append, List.flatten_cons, List.flatten_nil, List.append_assoc]
    (refine Weak.of (by simp [hc0]) ?_ ?_ <;> (repeat' first | exact .refl _ | exact .junk _ | exact .nil | exact .nil _ | exact .tok _ _ _ | rfl | apply WkT.cons | apply WkH.cons | apply LeB.same | apply LeB.box | apply Le1L.cons | apply Le.agg | apply Le.one))
    all_goals simp [AV.bel, ABlk.bel, belL, hcs.1]
  · obtain rfl : k = l.length := by omega
    have hkk : ¬ (l.length : Int) < l.length := by omega
    rw [List.take_length]
    refine Run.god tab_ok follows_ok Try.func132 60 ?_; simp only [Try.results132, hkk, pp, decide_false, ↓alt_f, drun, aops, aone, afin, ares, aresL, aresOk, aop, needs, ext, aev, aput, aupd, acmp, ashift, abin, tab_3, ok1, exitTo, Y4, Yb, Yc, Y6, Y7, Y1, Y2, Y5, Y3, Yt, Ys, Yr, beq_self_eq_true, Y0, Y8]
    rw [show b ++ votesB l = b ++ encN (zig l.length) ++ (l.map voteB).flatten by unfold votesB; simp]
    (refine ⟨by (repeat' first | exact .refl _ | apply LeR.tup | apply Le.agg | constructor), ?_⟩; (repeat' (first | exact WkH.nil _ | exact Le.refl _ | exact Le1.refl _ | exact Le1L.nil | rfl | apply WkH.cons | apply LeB.box | apply Le1L.cons | apply Le.one)))
theorem votes_spec (l : List Acc) (cs : List AV) : ASpec Try.prog 90 [.rptr (votesA l :: cs)] (.iface 197 (.agg [.rptr (votesA l :: cs), .fn (.func 89) [] []])) := by
  refine ⟨⟨_, Try.func90, by kernel_rfl, rfl⟩, ACall.of Try.func90 rfl fun c0 hc0 => ?_⟩; simp only [Try.ntmps90, Ya, Y9, Nat.reduceAdd, Nat.reduceSub, Ym, Yn, Y5, Y3]; refine Run.god tab_ok follows_ok Try.func90 60 ?_; simp only [Try.results90, votesA, drun, aops, aone, afin, ares, aresL, ares1, aresOk, aresOk1, aop, needs, ext, aev, aconst, aput, aupd, abuild, tab_172, tab_175, tab_197, ok1, lay, AV.cells, AV.whole, Y4, Yb, Yc, Y6, Y7, Ya, Y9, Y1, Y2, Yi, Yh, Yg, Yj, Yl, Yf, Ye, Y5, Y3, Yd, Yt, Yu, Yr, Nat.reduceAdd, Nat.reduceLeDiff, Yp, Yv, Y0, Y8]
  (repeat' first | exact .refl _ | apply LeR.tup | apply Le.agg | constructor)
def reportB (r : Rp) : Bytes := encN (zig r.by_) ++ encN (zig r.for_) ++ encN (zig (if r.has then 1 else 0)) ++ encN (zig r.view) ++ encT r.value ++ votesB r.proof
def reportL (r : Rp) (cs : List AV) : List (Nat × AV) := [(148, .agg [.rptr (.int .i64 r.by_ :: .int .i64 r.for_ :: .bool r.has :: .int .i64 r.view :: .str r.value :: votesA r.proof :: cs)]), (148, .agg [.rptr (.int .i64 r.for_ :: .bool r.has :: .int .i64 r.view :: .str r.value :: votesA r.proof :: cs)]), (195, .agg [.rptr (.bool r.has :: .int .i64 r.view :: .str r.value :: votesA r.proof :: cs)]),
  (148, .agg [.rptr (.int .i64 r.view :: .str r.value :: votesA r.proof :: cs)]), (165, .agg [.rptr (.str r.value :: votesA r.proof :: cs)]), (197, .agg [.rptr (votesA r.proof :: cs), .fn (.func 89) [] []])]
theorem report_spec (r : Rp) (cs : List AV) (hcs : Pln cs) : ASpec Try.prog 88 [.rptr (.int .i64 r.by_ :: .int .i64 r.for_ :: .bool r.has :: .int .i64 r.view :: .str r.value :: votesA r.proof :: cs)] (.iface 171 (.psl 1 ((reportL r cs).map partC))) := by
  refine ⟨⟨_, Try.func88, by kernel_rfl, rfl⟩, ACall.of Try.func88 rfl fun c0 hc0 => ?_⟩; simp only [Try.ntmps88, Ya, Y9, Nat.reduceAdd, Nat.reduceSub, Ym, Yn, Y5, Y3]; refine Run.god tab_ok follows_ok Try.func88 60 ?_; simp only [reportL, partC, drun, adops, adone, places, mayNeed, freeOk, rdOf, wrOf, aops, aone, aop, needs, ext, aev, aconst, aput, aupd, afieldAddr, abuild, tab_80, tab_146, tab_148, tab_163, tab_165, tab_193, tab_195, ok1, lay, AV.cells, AV.whole, Y4, Yb, Yc, Y6, Y7, Ya, Y9, Y1, Y2, Yi, Yh, Yj, Yl, Yf, Ye, Y5, Y3, Yd, Yt, Yu, Ys, Yr, Nat.reduceAdd, Yp, forall_const, reduceCtorEq, false_implies, implies_true, Yv, Y0, Y8]
  refine ⟨rfl, ?_⟩
  refine DOps.pure rfl .free rfl rfl (votes_spec r.proof cs) (by simp only [aev, Y4, Y1, Y2, Yf, Ye, Y3, Yd, Y0]; (repeat' first | exact .refl _ | apply LeR.tup | apply Le.agg | constructor)) (by simp [belL, AV.bel, votesA, hcs.1]) (by simp [AV.bel, belL, votesA, hcs.1]) ?_
  refine DOps.god tab_ok follows_ok Try.func88 60 rfl ?_; simp only [Try.results88, drun, adops, adone, mayNeed, freeOk, rdOf, wrOf, afin, ares, aresL, ares1, aresOk, aresOk1, aop, needs, aev, aconst, aput, aupd, aelems, plains, tab_151, tab_171, ok1, AV.cells, AV.whole, AV.plain, AV.bare, Y4, Yb, Yc, Y6, Y7, Ya, Y9, Y1, Y2, Yf, Ye, Y5, Y3, List.all_cons, List.all_nil, Ym, Yn, Yt, Yu, Ys, Yr, Nat.reduceAdd, Nat.reduceLeDiff, Nat.reduceMul, Nat.reduceBEq, Yp, Bool.and_self, Bool.and_true, Bool.and_false, Nat.reduceLT, Y0, Y8]
  ((repeat' apply And.intro) <;> try first | rfl | omega | (unfold I64; omega))
  all_goals (repeat' first | exact .refl _ | apply LeR.tup | apply Le.agg | constructor)
def smRp (r : Rp) : Prop := I64 r.by_ ∧ I64 r.for_ ∧ I64 r.view ∧ r.value.length ≤ 100000 ∧ (∀ a ∈ r.proof, smA a) ∧ r.proof.length ≤ 30
def totR (r : Rp) : Nat := r.value.length + totA r.proof + 60
theorem votesB_le (l : List Acc) (hl : ∀ a ∈ l, smA a) (hn : l.length ≤ 30) : (votesB l).length ≤ totA l + 9 := by
  have e1 := enc9 l.length (by unfold I64; omega)
  have e2 := votesB_take l hl
  unfold votesB; simp only [List.length_append]; omega
theorem flag_w (h : Bool) (b : Bytes) (cs : List AV) (hb : b.length ≤ 900000) : BSpec Try.prog 131 [.agg [.rptr (.bool h :: cs)], .ptr 0 0] [pp b false 0] [pp (b ++ encN (zig (if h then 1 else 0))) false 0] (.tup []) := by
  cases h with
  | true => exact flag_w_true b cs hb
  | false => exact flag_w_false b cs hb
theorem reportB_le (r : Rp) (h : smRp r) : (reportB r).length ≤ totR r := by
  have e1 := enc9 _ h.1
  have e2 := enc9 _ h.2.1
  have e3 := enc9 (if r.has then 1 else 0) (by unfold I64; split <;> omega)
  have e4 := enc9 _ h.2.2.1
  have e5 := encT_le r.value (by have := h.2.2.2.1; omega)
  have e6 := votesB_le r.proof h.2.2.2.2.1 h.2.2.2.2.2
  unfold reportB totR; simp only [List.length_append]; omega
theorem report_told (r : Rp) (cs : List AV) (b : Bytes) (hcs : Pln cs) (h : smRp r) (hb : b.length + totR r ≤ 600000) : ToldW (reportL r cs) (fun | 0 => b | 1 => b ++ encN (zig r.by_) | 2 => b ++ encN (zig r.by_) ++ encN (zig r.for_) | 3 => b ++ encN (zig r.by_) ++ encN (zig r.for_) ++ encN (zig (if r.has then 1 else 0)) | 4 => b ++ encN (zig r.by_) ++ encN (zig r.for_) ++ encN (zig (if r.has then 1 else 0)) ++ encN (zig r.view) | 5 => b ++ encN (zig r.by_) ++ encN (zig r.for_) ++ encN (zig (if r.has then 1 else 0)) ++ encN (zig r.view) ++ encT r.value | _ => b ++ reportB r) := by
  have e1 := enc9 _ h.1
  have e2 := enc9 _ h.2.1
  have e3 := enc9 (if r.has then 1 else 0) (by unfold I64; split <;> omega)
  have e4 := enc9 _ h.2.2.1
  have e5 := encT_le r.value (by have := h.2.2.2.1; omega)
  unfold totR at hb
  have p6 : Pln (votesA r.proof :: cs) := .cons (fun _ => rfl) (fun _ => rfl) (fun _ => rfl) hcs
  have p5 : Pln (.str r.value :: votesA r.proof :: cs) := .cons (fun _ => rfl) (fun _ => rfl) (fun _ => rfl) p6
  have p4 : Pln (.int .i64 r.view :: .str r.value :: votesA r.proof :: cs) := .cons (fun _ => rfl) (fun _ => rfl) (fun _ => rfl) p5
  have p3 : Pln (.bool r.has :: .int .i64 r.view :: .str r.value :: votesA r.proof :: cs) := .cons (fun _ => rfl) (fun _ => rfl) (fun _ => rfl) p4
  have p2 : Pln (.int .i64 r.for_ :: .bool r.has :: .int .i64 r.view :: .str r.value :: votesA r.proof :: cs) := .cons (fun _ => rfl) (fun _ => rfl) (fun _ => rfl) p3
  have p1 : Pln (.int .i64 r.by_ :: .int .i64 r.for_ :: .bool r.has :: .int .i64 r.view :: .str r.value :: votesA r.proof :: cs) := .cons (fun _ => rfl) (fun _ => rfl) (fun _ => rfl) p2
  intro k t v hh
  match k, hh with
  | 0, hh => cases hh; exact ⟨p1.part.1, p1.part.2.1, p1.part.2.2, _, meth_number, number_w _ _ _ (by show b.length ≤ 900000; omega) h.1⟩
  | 1, hh => cases hh; exact ⟨p2.part.1, p2.part.2.1, p2.part.2.2, _, meth_number, number_w _ _ _ (by simp only [List.length_append]; omega) h.2.1⟩
  | 2, hh => cases hh; exact ⟨p3.part.1, p3.part.2.1, p3.part.2.2, _, meth_flag, flag_w _ _ _ (by simp only [List.length_append]; omega)⟩
  | 3, hh => cases hh; exact ⟨p4.part.1, p4.part.2.1, p4.part.2.2, _, meth_number, number_w _ _ _ (by simp only [List.length_append]; omega) h.2.2.1⟩
  | 4, hh => cases hh; exact ⟨p5.part.1, p5.part.2.1, p5.part.2.2, _, meth_text, text_w _ _ _ (by simp only [List.length_append]; omega) (by omega)⟩
  | 5, hh =>
    cases hh
    refine ⟨by simp [AV.bel, belL, votesA, hcs.1], by simp [AV.among, amongL, votesA, hcs.2.1], by simp [AV.ren, renL, votesA, hcs.2.2], _, meth_rowA, ?_⟩
    have := rowA_w r.proof cs (b ++ encN (zig r.by_) ++ encN (zig r.for_) ++ encN (zig (if r.has then 1 else 0)) ++ encN (zig r.view) ++ encT r.value) hcs h.2.2.2.2.1 h.2.2.2.2.2 (by simp only [List.length_append]; omega)
    rw [show b ++ encN (zig r.by_) ++ encN (zig r.for_) ++ encN (zig (if r.has then 1 else 0)) ++ encN (zig r.view) ++ encT r.value ++ votesB r.proof = b ++ reportB r by unfold reportB; simp] at this
    exact this
  | k + 6, hh => simp [reportL] at hh
theorem report_w (r : Rp) (cs : List AV) (b : Bytes) (hcs : Pln cs) (h : smRp r) (hb : b.length + totR r ≤ 600000) : BSpec Try.prog 118 [.psl 1 ((reportL r cs).map partC), .ptr 0 0] [pp b false 0] [pp (b ++ reportB r) false 0] (.tup []) :=
  parts_w (reportL r cs) _ (by simp [reportL]) (report_told r cs b hcs h hb)
def rpsB (l : List Rp) : Bytes := encN (zig l.length) ++ (l.map reportB).flatten
def totRs (l : List Rp) : Nat := (l.map totR).sum
theorem totRs_take (l : List Rp) (k : Nat) (a : Rp) (h : l[k]? = some a) : totRs (l.take k) + totR a ≤ totRs l := by
  have e : totRs (l.take (k + 1)) ≤ totRs l := by
    have h2 := List.take_append_drop (k + 1) l
    have h3 : totRs l = totRs (l.take (k + 1)) + totRs (l.drop (k + 1)) := by
      conv => lhs; rw [← h2]
      unfold totRs
      rw [← List.sum_append, ← List.map_append, h2]
    omega
  rw [List.take_add_one, h] at e
  simp only [totRs, List.map_append, List.sum_append] at e ⊢
  simpa using e
theorem rpsB_take (l : List Rp) (hl : ∀ a ∈ l, smRp a) : ((l.map reportB).flatten).length ≤ totRs l := by
  induction l with
  | nil => simp
  | cons a l ih =>
    have h1 := reportB_le a (hl a List.mem_cons_self)
    have h2 := ih fun x hx => hl x (List.mem_cons_of_mem _ hx)
    simp only [Yf, List.flatten_cons, List.length_append, totRs, List.sum_cons] at h2 ⊢
    omega
theorem rowR_w (l : List Rp) (cs : List AV) (b : Bytes) (hcs : Pln cs) (hl : ∀ a ∈ l, smRp a) (hn : l.length ≤ 30) (hb : b.length + totRs l ≤ 500000) : BSpec Try.prog 117 [.agg [.rptr (rpsA l :: cs), .fn (.func 88) [] []], .ptr 0 0] [pp b false 0] [pp (b ++ rpsB l) false 0] (.tup []) := by
  have hi := number_wb b l.length (by omega) (by unfold I64; omega)
  have n1 : ¬ (l.length : Int) < 0 := by omega
  have n2 : ¬ (30 : Int) < l.length := by omega
  have e0 := enc9 l.length (by unfold I64; omega)
  refine ⟨⟨_, Try.func117, by kernel_rfl, rfl⟩, ACall.of Try.func117 rfl fun c0 hc0 => ?_⟩; simp only [Try.ntmps117, Ya, Y9, Nat.reduceAdd, Nat.reduceSub, Ym, Yn, Y5, Y3]; refine Run.god tab_ok follows_ok Try.func117 60 ?_; simp only [pp, rpsA, Yo, drun, aops, aone, aop, needs, ext, aev, aconst, aput, aupd, aload, astore, afieldAddr, alen, abuild, tab_3, tab_75, tab_146, tab_148, tab_166, tab_169, ok1, lay, cellsAs, TI.agg, AV.cells, AV.whole, Y4, Yb, Yc, Y6, Y7, Ya, Y9, Y1, Y2, Yi, Yh, Yg, Yj, Yl, Yf, Ye, Y5, Y3, Yd, Yt, Yu, Ys, Yr, Nat.reduceAdd, Nat.reduceLeDiff, Yp, Yq, Yv, Y0, Y8]
  refine Ops.callB .free rfl rfl (js := [0, 2]) (by decide) (LentAll.cons rfl (pp_lent b false 0) (LentAll.cons rfl (LentB.box_ [.int .i64 l.length] rfl) LentAll.nil)) (lent2 (pp_lent _ _ _) (LentB.box_ _ rfl)) rfl rfl (by simp only [cond_true, cond_false, renL, AV.ren, List.idxOf, List.findIdx, List.findIdx.go, aev, Y4, Y1, Y2, Yf, Ye, Y3, Yd, Nat.reduceAdd, Nat.reduceBEq, Yp, beq_self_eq_true, Y0]; (repeat' first | exact .refl _ | apply LeR.tup | apply Le.agg | constructor)) (hi) rfl ?_
  refine Ops.god tab_ok follows_ok Try.func117 60 ?_; simp only [putBack, pp, n1, n2, decide_false, ↓alt_f, ↓alts_f, ↓gone_tf, ↓gone_ff, gslot, drun, aops, aone, aop, needs, ext, aev, aconst, aput, aupd, aload, afieldAddr, acmp, ashift, abin, alen, tab_3, tab_4, tab_75, tab_145, tab_166, tab_169, ok1, cellsAs, TI.agg, Y4, Yb, Yc, Y6, Y7, Ya, Y9, Y1, Y2, Yw, Yi, Yh, Yg, Yj, Yk, Yo, Y5, Y3, Yt, Ys, Yr, Nat.reduceAdd, Nat.reduceLeDiff, Yp, Yq, Yv, Y0, Y8]
  ((repeat' apply And.intro) <;> try first | rfl | omega | (unfold I64; omega))
  refine Run.loopV (α := Nat) (fun k => k ≤ l.length) (fun k => [(44, .int .i64 k)]) 3 (fun k => [(0, pp (b ++ encN (zig l.length) ++ ((l.take k).map reportB).flatten) false 0)]) (fun k => l.length - k) 0 (Nat.zero_le _) ?_ ?_
  · simp only [writes, junks, puts, hputs, List.filterMap_cons, List.filterMap_nil, Int.natCast_zero, Y6, Y7, Yg, Yj, Yk, Ye, Y5, Y3, Yd, pp, List.flatten_nil, bytesA]
    (refine Weak.of (by simp [hc0]) ?_ ?_ <;> (repeat' first | exact .refl _ | exact .junk _ | exact .nil | exact .nil _ | exact .tok _ _ _ | rfl | apply WkT.cons | apply WkH.cons | apply LeB.same | apply LeB.box | apply Le1L.cons | apply Le.agg | apply Le.one))
    all_goals simp [AV.bel, ABlk.bel, belL, hcs.1]
  intro k hk ih
  simp only [writes, junks, puts, hputs, List.filterMap_cons, List.filterMap_nil, Y6, Y7, Yg, Yk, Y5, Y3, Yd] at hk ih ⊢
  by_cases hlt : k < l.length
  · obtain ⟨a, ha⟩ : ∃ a, l[k]? = some a := ⟨_, List.getElem?_eq_getElem hlt⟩
    have hkk : (k : Int) < l.length := by omega
    have ht := totRs_take l k a ha
    have hsa := hl a (List.mem_of_getElem? ha)
    have hle := rpsB_take (l.take k) fun x hx => hl x (List.mem_of_mem_take hx)
    refine Run.god tab_ok follows_ok Try.func117 60 ?_; simp only [hkk, ha, List.getElem?_map, Yo, rpC, pp, decide_true, ↓alt_t, drun, adops, adone, places, mayNeed, freeOk, rdOf, AV.id, wrOf, aops, aone, aop, needs, ext, aev, aput, aupd, aload, afieldAddr, aindexAddr, acmp, ashift, abin, tab_3, tab_75, tab_80, tab_166, tab_167, tab_169, ok1, cellsAs, TI.agg, Y4, Yb, Yc, Y6, Y7, Ya, Y9, Y1, Y2, Yi, Yh, Yg, Yj, Yk, Y5, Y3, Yt, Yu, Ys, Yr, Nat.reduceAdd, Nat.reduceLeDiff, Yp, Yq, Nat.reduceLT, Yv, Int.toNat_natCast, Y0, Y8]
    ((repeat' apply And.intro) <;> try first | rfl | omega | (unfold I64; omega))
    refine DOps.pure rfl .free rfl rfl (report_spec a [] ⟨fun _ => rfl, fun _ => rfl, fun _ => rfl⟩) (by simp only [aev, Y4, Y1, Y2, Yf, Ye, Y3, Yd, Y0]; (repeat' first | exact .refl _ | apply LeR.tup | apply Le.agg | constructor)) rfl rfl ?_
    refine DOps.god tab_ok follows_ok Try.func117 60 rfl ?_; simp only [adops, adone, mayNeed, freeOk, rdOf, wrOf, aop, needs, aev, aput, aupd, ok1, Y4, Y6, Y7, Y1, Y2, Y5, Y3, Yt, Yu, Yr, Nat.reduceAdd, Y0, Y8]
    refine DOps.invokeB rfl .free rfl rfl meth_parts (js := [0]) (by decide) (LentAll.cons rfl (pp_lent _ _ _) LentAll.nil) (lent1 (pp_lent _ _ _)) rfl (by simp only [Yf, Ye, aev, Y4, Y1, Y2, Y0]; rfl) (by simp only [Yf, Ye, aev, Y4, Y1, Y2, Yp, beq_self_eq_true, Y0, cond_true, renL, AV.ren, List.idxOf, List.findIdx, List.findIdx.go]; exact LeL.cons (Le.refl _) (LeL.cons (Le.refl _) LeL.nil)) (report_w a [] (b ++ encN (zig l.length) ++ ((l.take k).map reportB).flatten) ⟨fun _ => rfl, fun _ => rfl, fun _ => rfl⟩ hsa (by simp only [List.length_append]; omega)) rfl ?_
    refine DOps.god tab_ok follows_ok Try.func117 60 rfl ?_; simp only [putBack, pp, drun, adops, aops, aone, aop, needs, ext, aev, aconst, aput, aupd, acmp, aarith, ashift, abin, tab_3, ok1, Y4, Yb, Y6, Y7, Y1, Y2, Y5, Y3, Yt, Ys, Yr, Y0, Y8]
    ((repeat' apply And.intro) <;> try first | rfl | omega | (unfold I64; omega))
    refine ih (k + 1) _ (by omega) (by omega) ?_
    simp only [Int.natCast_add, Int.natCast_one, Yf, Ye, Yd, pp, bytesA, List.take_add_one, ha, Option.toList_some, List.map_append, List.flatten_append, List.flatten_cons, List.flatten_nil, List.append_assoc]
    (refine Weak.of (by simp [hc0]) ?_ ?_ <;> (repeat' first | exact .refl _ | exact .junk _ | exact .nil | exact .nil _ | exact .tok _ _ _ | rfl | apply WkT.cons | apply WkH.cons | apply LeB.same | apply LeB.box | apply Le1L.cons | apply Le.agg | apply Le.one))
    all_goals simp [AV.bel, ABlk.bel, belL, hcs.1]
  · obtain rfl : k = l.length := by omega
    have hkk : ¬ (l.length : Int) < l.length := by omega
    rw [List.take_length]
    refine Run.god tab_ok follows_ok Try.func117 60 ?_; simp only [Try.results117, hkk, pp, decide_false, ↓alt_f, drun, aops, aone, afin, ares, aresL, aresOk, aop, needs, ext, aev, aput, aupd, acmp, ashift, abin, tab_3, ok1, exitTo, Y4, Yb, Yc, Y6, Y7, Y1, Y2, Y5, Y3, Yt, Ys, Yr, beq_self_eq_true, Y0, Y8]
    rw [show b ++ rpsB l = b ++ encN (zig l.length) ++ (l.map reportB).flatten by unfold rpsB; simp]
    (refine ⟨by (repeat' first | exact .refl _ | apply LeR.tup | apply Le.agg | constructor), ?_⟩; (repeat' (first | exact WkH.nil _ | exact Le.refl _ | exact Le1.refl _ | exact Le1L.nil | rfl | apply WkH.cons | apply LeB.box | apply Le1L.cons | apply Le.one)))
end Go.Proofs.Ytkamcoechjdgpaa
/-
  Package wire: letters, written: their parts by kind.
-/
namespace Go.Proofs.Ytkamcoechjdgpaa
open Go.RowKit
structure Ltr where
  kind : Int
  frm : Int
  slot : Int
  view : Int
  value : Bytes
  cert : List Rp
  vote : Acc
  proof : List Acc
  r : Rp
  sum : Bytes
  o : Ord
  x : Rpl
def sumC (s : Bytes) : List AV := s.map fun c => .int .u8 c.toNat
def ordC (q : Ord) : List AV := [.int .i64 q.a, .int .i64 q.b, .int .i64 q.kind, .str q.s, .str q.t, .int .i64 q.x, .int .i64 q.y, .int .i64 q.z]
def rplC (q : Rpl) : List AV := [.int .i64 q.a, .int .i64 q.b, .int .i64 q.e, .str q.s, .int .i64 q.x, textsA q.l]
def letT (l : Ltr) : List AV := [.int .i64 l.frm, .int .i64 l.slot, .int .i64 l.view, .str l.value, rpsA l.cert] ++ (accC l.vote ++ (votesA l.proof :: (rpC l.r ++ (sumC l.sum ++ (ordC l.o ++ rplC l.x)))))
def letC (l : Ltr) : List AV := .int .i64 l.kind :: letT l
def OkP (N : Nat) (p : Nat × AV × Bytes) : Prop := p.2.1.bel 1 = true ∧ p.2.1.among [0] = true ∧ p.2.1.ren [0] = p.2.1 ∧ ∃ g, MethodAt Try.prog p.1 "consistory/wire.tell" g ∧ ∀ b : Bytes, b.length ≤ N → BSpec Try.prog g [p.2.1, .ptr 0 0] [pp b false 0] [pp (b ++ p.2.2) false 0] (.tup [])
def pieces (L : List (Nat × AV × Bytes)) : List (Nat × AV) := L.map fun p => (p.1, p.2.1)
def bytesP (L : List (Nat × AV × Bytes)) : Bytes := (L.map fun p => p.2.2).flatten
theorem parts_p (N : Nat) (L : List (Nat × AV × Bytes)) (b : Bytes) (hl : L.length ≤ 1000) (hb : b.length + (bytesP L).length ≤ N) (h : ∀ p ∈ L, OkP N p) : BSpec Try.prog 118 [.psl 1 ((pieces L).map partC), .ptr 0 0] [pp b false 0] [pp (b ++ bytesP L) false 0] (.tup []) := by
  have key := parts_w (pieces L) (fun k => b ++ bytesP (L.take k)) (by simpa [pieces] using hl) fun k t v hk => by
    unfold pieces at hk
    rw [List.getElem?_map, Option.map_eq_some_iff] at hk
    obtain ⟨p, hp, e⟩ := hk
    simp only [Prod.mk.injEq] at e
    obtain ⟨rfl, rfl⟩ := e
    obtain ⟨h1, h2, h3, g, h4, h5⟩ := h p (List.mem_of_getElem? hp)
    refine ⟨h1, h2, h3, g, h4, ?_⟩
    have ht : bytesP (L.take (k + 1)) = bytesP (L.take k) ++ p.2.2 := by unfold bytesP; rw [List.take_add_one, hp]; simp
    have hd : bytesP L = bytesP (L.take k) ++ bytesP (L.drop k) := by
      have := List.take_append_drop k L
      unfold bytesP
      rw [← List.flatten_append, ← List.map_append, this]
    show BSpec _ _ _ [pp (b ++ bytesP (L.take k)) false 0] [pp (b ++ bytesP (L.take (k + 1))) false 0] _
    rw [ht, ← List.append_assoc]
    refine h5 _ ?_
    rw [hd, List.length_append] at hb
    rw [List.length_append]; omega
  have e : (pieces L).length = L.length := by simp [pieces]
  rw [e, List.take_length] at key
  simpa [bytesP] using key
theorem numP {n : Int} {cs : List AV} (h : I64 n) (hcs : Pln cs) : OkP 500000 (148, .agg [.rptr (.int .i64 n :: cs)], encN (zig n)) :=
  have p : Pln (.int .i64 n :: cs) := .cons (fun _ => rfl) (fun _ => rfl) (fun _ => rfl) hcs
  ⟨p.part.1, p.part.2.1, p.part.2.2, _, meth_number, fun b hb => number_w b n cs (by omega) h⟩
theorem textP {s : Bytes} {cs : List AV} (h : s.length ≤ 100000) (hcs : Pln cs) : OkP 500000 (165, .agg [.rptr (.str s :: cs)], encT s) :=
  have p : Pln (.str s :: cs) := .cons (fun _ => rfl) (fun _ => rfl) (fun _ => rfl) hcs
  ⟨p.part.1, p.part.2.1, p.part.2.2, _, meth_text, fun b hb => text_w b s cs (by omega) (by omega)⟩
theorem Pln.nil : Pln [] := ⟨fun _ => rfl, fun _ => rfl, fun _ => rfl⟩
theorem Pln.app : ∀ {xs bs : List AV}, Pln xs → Pln bs → Pln (xs ++ bs)
  | [], bs, _, h => h
  | a :: xs, bs, h1, h2 => by
    have h3 : Pln xs := ⟨fun n => by have := h1.1 n; simp only [belL, Bool.and_eq_true] at this; exact this.2, fun js => by have := h1.2.1 js; simp only [amongL, Bool.and_eq_true] at this; exact this.2, fun js => by have := h1.2.2 js; simp only [renL, List.cons.injEq] at this; exact this.2⟩
    have := Pln.app h3 h2
    exact .cons (fun n => by have := h1.1 n; simp only [belL, Bool.and_eq_true] at this; exact this.1) (fun js => by have := h1.2.1 js; simp only [amongL, Bool.and_eq_true] at this; exact this.1) (fun js => by have := h1.2.2 js; simp only [renL, List.cons.injEq] at this; exact this.1) this
theorem Pln.tail {a : AV} {cs : List AV} (h1 : Pln (a :: cs)) : Pln cs := ⟨fun n => by have := h1.1 n; simp only [belL, Bool.and_eq_true] at this; exact this.2, fun js => by have := h1.2.1 js; simp only [amongL, Bool.and_eq_true] at this; exact this.2, fun js => by have := h1.2.2 js; simp only [renL, List.cons.injEq] at this; exact this.2⟩
theorem Pln.drop : ∀ (n : Nat) {cs : List AV}, Pln cs → Pln (cs.drop n)
  | 0, _, h => h
  | n + 1, [], h => h
  | n + 1, a :: cs, h => Pln.drop n h.tail
theorem Pln.sum : ∀ s : Bytes, Pln (sumC s)
  | [] => .nil
  | c :: s => .cons (fun _ => rfl) (fun _ => rfl) (fun _ => rfl) (Pln.sum s)
theorem Pln.ox (o : Ord) (x : Rpl) : Pln (ordC o ++ rplC x) := ⟨fun _ => rfl, fun _ => rfl, fun _ => rfl⟩
theorem Pln.rp (r : Rp) : Pln (rpC r) := ⟨fun _ => rfl, fun _ => rfl, fun _ => rfl⟩
theorem Pln.acc (a : Acc) : Pln (accC a) := ⟨fun _ => rfl, fun _ => rfl, fun _ => rfl⟩
theorem Pln.d10 (l : Ltr) : Pln (sumC l.sum ++ (ordC l.o ++ rplC l.x)) := (Pln.sum _).app (Pln.ox _ _)
theorem Pln.d9 (l : Ltr) : Pln (rpC l.r ++ (sumC l.sum ++ (ordC l.o ++ rplC l.x))) := (Pln.rp _).app (Pln.d10 l)
theorem Pln.d8 (l : Ltr) : Pln (votesA l.proof :: (rpC l.r ++ (sumC l.sum ++ (ordC l.o ++ rplC l.x)))) := .cons (fun _ => rfl) (fun _ => rfl) (fun _ => rfl) (Pln.d9 l)
theorem Pln.d5 (l : Ltr) : Pln (accC l.vote ++ (votesA l.proof :: (rpC l.r ++ (sumC l.sum ++ (ordC l.o ++ rplC l.x))))) := (Pln.acc _).app (Pln.d8 l)
theorem Pln.let_ (l : Ltr) : Pln (letT l) := Pln.app (xs := [.int .i64 l.frm, .int .i64 l.slot, .int .i64 l.view, .str l.value, rpsA l.cert]) ⟨fun _ => rfl, fun _ => rfl, fun _ => rfl⟩ (Pln.d5 l)
theorem letparts_1 (cs : List AV) : ASpec Try.prog 76 [.rptr (.int .i64 1 :: cs)] (.iface 171 (.psl 1 [[.iface 148 (.agg [.rptr cs])], [.iface 148 (.agg [.rptr (cs.drop 1)])], [.iface 148 (.agg [.rptr (cs.drop 2)])], [.iface 165 (.agg [.rptr (cs.drop 3)])], [.iface 169 (.agg [.rptr (cs.drop 4), .fn (.func 88) [] []])]])) := by
  refine ⟨⟨_, Try.func76, by kernel_rfl, rfl⟩, ACall.of Try.func76 rfl fun c0 hc0 => ?_⟩; simp only [Try.ntmps76, Ya, Y9, Nat.reduceAdd, Nat.reduceSub, Ym, Yn, Y5, Y3]; refine Run.god tab_ok follows_ok Try.func76 60 ?_; simp only [Try.results76, decide_true, ↓alt_t, drun, adops, adone, places, mayNeed, freeOk, rdOf, AV.id, wrOf, aops, aone, afin, ares, aresL, ares1, aresOk, aresOk1, aop, needs, ext, aev, aconst, aput, aupd, aload, astore, afieldAddr, acmp, ashift, abin, abuild, aelems, plains, tab_3, tab_83, tab_146, tab_148, tab_151, tab_163, tab_165, tab_166, tab_167, tab_169, tab_171, ok1, lay, cellsAs, TI.agg, AV.cells, AV.whole, AV.plain, AV.bare, Y4, Yb, Yc, Y6, Y7, Ya, Y9, Y1, Y2, Yi, Yh, Yg, Yj, Yk, Yl, Yf, Ye, Y5, Y3, Yd, List.all_cons, List.all_nil, Ym, Yn, Yt, Yu, Ys, Yr, Nat.reduceAdd, Nat.reduceLeDiff, Nat.reduceMul, Nat.reduceBEq, Yp, Bool.and_self, Bool.and_true, Bool.and_false, Nat.reduceLT, forall_const, reduceCtorEq, false_implies, implies_true, Yv, Y0, Y8]
  ((repeat' apply And.intro) <;> try first | rfl | omega | (unfold I64; omega))
  all_goals (first | rfl | (repeat' first | exact .refl _ | apply LeR.tup | apply Le.agg | constructor))
theorem letparts_2 (cs : List AV) (a : Acc) (ds : List AV) (hd : cs.drop 5 = .int .i64 a.by_ :: .int .i64 a.view :: .str a.value :: ds) (hds : Pln ds) : ASpec Try.prog 76 [.rptr (.int .i64 2 :: cs)] (.iface 171 (.psl 1 [[.iface 148 (.agg [.rptr (cs.drop 1)])], [.iface 171 (.psl 1 ((voteL a ds).map partC))]])) := by
  refine ⟨⟨_, Try.func76, by kernel_rfl, rfl⟩, ACall.of Try.func76 rfl fun c0 hc0 => ?_⟩; simp only [Try.ntmps76, Ya, Y9, Nat.reduceAdd, Nat.reduceSub, Ym, Yn, Y5, Y3]; refine Run.god tab_ok follows_ok Try.func76 60 ?_; simp only [decide_true, decide_false, hd, ↓alt_t, ↓alt_f, Int.reduceEq, drun, adops, adone, places, mayNeed, freeOk, rdOf, AV.id, wrOf, aops, aone, aop, needs, ext, aev, aconst, aput, aupd, aload, astore, afieldAddr, acmp, ashift, abin, abuild, tab_3, tab_83, tab_146, tab_148, tab_163, tab_165, ok1, lay, cellsAs, TI.agg, AV.cells, AV.whole, Y4, Yb, Yc, Y6, Y7, Ya, Y9, Y1, Y2, Yi, Yh, Yg, Yj, Yk, Yl, Yf, Ye, Y5, Y3, Yd, Yt, Yu, Ys, Yr, Nat.reduceAdd, Nat.reduceLeDiff, Yp, forall_const, reduceCtorEq, false_implies, implies_true, Yv, Y0, Y8]
  ((repeat' apply And.intro) <;> try first | rfl | omega | (unfold I64; omega))
  refine DOps.pure rfl .free rfl rfl (vote_spec a ds) (by simp only [aev, Y4, Y1, Y2, Yf, Ye, Y3, Yd, Y0]; (repeat' first | exact .refl _ | apply LeR.tup | apply Le.agg | constructor)) (by simp [belL, AV.bel, hds.1]) (by simp [AV.bel, belL, belLL, partC, voteL, hds.1]) ?_
  refine DOps.god tab_ok follows_ok Try.func76 60 rfl ?_; simp only [Try.results76, drun, adops, adone, mayNeed, freeOk, rdOf, wrOf, afin, ares, aresL, ares1, aresOk, aresOk1, aop, needs, aev, aconst, aput, aupd, aelems, plains, tab_151, tab_171, ok1, AV.cells, AV.whole, AV.plain, AV.bare, Y4, Yb, Yc, Y6, Y7, Ya, Y9, Y1, Y2, Yf, Ye, Y5, Y3, List.all_cons, List.all_nil, Ym, Yn, Yt, Yu, Ys, Yr, Nat.reduceAdd, Nat.reduceLeDiff, Nat.reduceMul, Nat.reduceBEq, Yp, Bool.and_self, Bool.and_true, Bool.and_false, Nat.reduceLT, Y0, Y8]
  ((repeat' apply And.intro) <;> try first | rfl | omega | (unfold I64; omega))
  all_goals (first | rfl | (repeat' first | exact .refl _ | apply LeR.tup | apply Le.agg | constructor))
theorem letparts_3 (cs : List AV) (p : List Acc) (ds : List AV) (hd : cs.drop 8 = votesA p :: ds) (hds : Pln ds) : ASpec Try.prog 76 [.rptr (.int .i64 3 :: cs)] (.iface 171 (.psl 1 [[.iface 148 (.agg [.rptr cs])], [.iface 148 (.agg [.rptr (cs.drop 1)])], [.iface 197 (.agg [.rptr (votesA p :: ds), .fn (.func 89) [] []])]])) := by
  refine ⟨⟨_, Try.func76, by kernel_rfl, rfl⟩, ACall.of Try.func76 rfl fun c0 hc0 => ?_⟩; simp only [Try.ntmps76, Ya, Y9, Nat.reduceAdd, Nat.reduceSub, Ym, Yn, Y5, Y3]; refine Run.god tab_ok follows_ok Try.func76 60 ?_; simp only [decide_true, decide_false, hd, ↓alt_t, ↓alt_f, Int.reduceEq, drun, adops, adone, places, mayNeed, freeOk, rdOf, AV.id, wrOf, aops, aone, aop, needs, ext, aev, aconst, aput, aupd, aload, astore, afieldAddr, acmp, ashift, abin, abuild, tab_3, tab_83, tab_146, tab_148, tab_163, tab_165, ok1, lay, cellsAs, TI.agg, AV.cells, AV.whole, Y4, Yb, Yc, Y6, Y7, Ya, Y9, Y1, Y2, Yi, Yh, Yg, Yj, Yk, Yl, Yf, Ye, Y5, Y3, Yd, Yt, Yu, Ys, Yr, Nat.reduceAdd, Nat.reduceLeDiff, Yp, forall_const, reduceCtorEq, false_implies, implies_true, Yv, Y0, Y8]
  ((repeat' apply And.intro) <;> try first | rfl | omega | (unfold I64; omega))
  refine DOps.pure rfl .free rfl rfl (votes_spec p ds) (by simp only [aev, Y4, Y1, Y2, Yf, Ye, Y3, Yd, Y0]; (repeat' first | exact .refl _ | apply LeR.tup | apply Le.agg | constructor)) (by simp [belL, AV.bel, votesA, hds.1]) (by simp [AV.bel, belL, votesA, hds.1]) ?_
  refine DOps.god tab_ok follows_ok Try.func76 60 rfl ?_; simp only [Try.results76, drun, adops, adone, mayNeed, freeOk, rdOf, wrOf, afin, ares, aresL, ares1, aresOk, aresOk1, aop, needs, aev, aconst, aput, aupd, aelems, plains, tab_151, tab_171, ok1, AV.cells, AV.whole, AV.plain, AV.bare, Y4, Yb, Yc, Y6, Y7, Ya, Y9, Y1, Y2, Yf, Ye, Y5, Y3, List.all_cons, List.all_nil, Ym, Yn, Yt, Yu, Ys, Yr, Nat.reduceAdd, Nat.reduceLeDiff, Nat.reduceMul, Nat.reduceBEq, Yp, Bool.and_self, Bool.and_true, Bool.and_false, Nat.reduceLT, Y0, Y8]
  ((repeat' apply And.intro) <;> try first | rfl | omega | (unfold I64; omega))
  all_goals (first | rfl | (repeat' first | exact .refl _ | apply LeR.tup | apply Le.agg | constructor))
theorem letparts_4 (cs : List AV) (r : Rp) (ds : List AV) (hd : cs.drop 9 = .int .i64 r.by_ :: .int .i64 r.for_ :: .bool r.has :: .int .i64 r.view :: .str r.value :: votesA r.proof :: ds) (hds : Pln ds) : ASpec Try.prog 76 [.rptr (.int .i64 4 :: cs)] (.iface 171 (.psl 1 [[.iface 148 (.agg [.rptr (cs.drop 1)])], [.iface 171 (.psl 1 ((reportL r ds).map partC))]])) := by
  refine ⟨⟨_, Try.func76, by kernel_rfl, rfl⟩, ACall.of Try.func76 rfl fun c0 hc0 => ?_⟩; simp only [Try.ntmps76, Ya, Y9, Nat.reduceAdd, Nat.reduceSub, Ym, Yn, Y5, Y3]; refine Run.god tab_ok follows_ok Try.func76 60 ?_; simp only [decide_true, decide_false, hd, ↓alt_t, ↓alt_f, Int.reduceEq, drun, adops, adone, places, mayNeed, freeOk, rdOf, AV.id, wrOf, aops, aone, aop, needs, ext, aev, aconst, aput, aupd, aload, astore, afieldAddr, acmp, ashift, abin, abuild, tab_3, tab_83, tab_146, tab_148, tab_163, tab_165, ok1, lay, cellsAs, TI.agg, AV.cells, AV.whole, Y4, Yb, Yc, Y6, Y7, Ya, Y9, Y1, Y2, Yi, Yh, Yg, Yj, Yk, Yl, Yf, Ye, Y5, Y3, Yd, Yt, Yu, Ys, Yr, Nat.reduceAdd, Nat.reduceLeDiff, Yp, forall_const, reduceCtorEq, false_implies, implies_true, Yv, Y0, Y8]
  ((repeat' apply And.intro) <;> try first | rfl | omega | (unfold I64; omega))
  refine DOps.pure rfl .free rfl rfl (report_spec r ds hds) (by simp only [aev, Y4, Y1, Y2, Yf, Ye, Y3, Yd, Y0]; (repeat' first | exact .refl _ | apply LeR.tup | apply Le.agg | constructor)) (by simp [belL, AV.bel, votesA, hds.1]) (by simp [AV.bel, belL, belLL, partC, reportL, votesA, hds.1]) ?_
  refine DOps.god tab_ok follows_ok Try.func76 60 rfl ?_; simp only [Try.results76, drun, adops, adone, mayNeed, freeOk, rdOf, wrOf, afin, ares, aresL, ares1, aresOk, aresOk1, aop, needs, aev, aconst, aput, aupd, aelems, plains, tab_151, tab_171, ok1, AV.cells, AV.whole, AV.plain, AV.bare, Y4, Yb, Yc, Y6, Y7, Ya, Y9, Y1, Y2, Yf, Ye, Y5, Y3, List.all_cons, List.all_nil, Ym, Yn, Yt, Yu, Ys, Yr, Nat.reduceAdd, Nat.reduceLeDiff, Nat.reduceMul, Nat.reduceBEq, Yp, Bool.and_self, Bool.and_true, Bool.and_false, Nat.reduceLT, Y0, Y8]
  ((repeat' apply And.intro) <;> try first | rfl | omega | (unfold I64; omega))
  all_goals (first | rfl | (repeat' first | exact .refl _ | apply LeR.tup | apply Le.agg | constructor))
theorem letparts_5 (cs : List AV) : ASpec Try.prog 76 [.rptr (.int .i64 5 :: cs)] (.iface 171 (.psl 1 [[.iface 148 (.agg [.rptr cs])], [.iface 148 (.agg [.rptr (cs.drop 1)])], [.iface 165 (.agg [.rptr (cs.drop 3)])]])) := by
  refine ⟨⟨_, Try.func76, by kernel_rfl, rfl⟩, ACall.of Try.func76 rfl fun c0 hc0 => ?_⟩; simp only [Try.ntmps76, Ya, Y9, Nat.reduceAdd, Nat.reduceSub, Ym, Yn, Y5, Y3]; refine Run.god tab_ok follows_ok Try.func76 60 ?_; simp only [Try.results76, decide_true, decide_false, ↓alt_t, ↓alt_f, Int.reduceEq, drun, adops, adone, places, mayNeed, freeOk, rdOf, AV.id, wrOf, aops, aone, afin, ares, aresL, ares1, aresOk, aresOk1, aop, needs, ext, aev, aconst, aput, aupd, aload, astore, afieldAddr, acmp, ashift, abin, abuild, aelems, plains, tab_3, tab_83, tab_146, tab_148, tab_151, tab_163, tab_165, tab_171, ok1, lay, cellsAs, TI.agg, AV.cells, AV.whole, AV.plain, AV.bare, Y4, Yb, Yc, Y6, Y7, Ya, Y9, Y1, Y2, Yi, Yh, Yg, Yj, Yk, Yl, Yf, Ye, Y5, Y3, Yd, List.all_cons, List.all_nil, Ym, Yn, Yt, Yu, Ys, Yr, Nat.reduceAdd, Nat.reduceLeDiff, Nat.reduceMul, Nat.reduceBEq, Yp, Bool.and_self, Bool.and_true, Bool.and_false, Nat.reduceLT, forall_const, reduceCtorEq, false_implies, implies_true, Yv, Y0, Y8]
  ((repeat' apply And.intro) <;> try first | rfl | omega | (unfold I64; omega))
  all_goals (first | rfl | (repeat' first | exact .refl _ | apply LeR.tup | apply Le.agg | constructor))
theorem letparts_6 (cs : List AV) : ASpec Try.prog 76 [.rptr (.int .i64 6 :: cs)] (.iface 171 (.psl 1 [[.iface 148 (.agg [.rptr cs])], [.iface 148 (.agg [.rptr (cs.drop 2)])]])) := by
  refine ⟨⟨_, Try.func76, by kernel_rfl, rfl⟩, ACall.of Try.func76 rfl fun c0 hc0 => ?_⟩; simp only [Try.ntmps76, Ya, Y9, Nat.reduceAdd, Nat.reduceSub, Ym, Yn, Y5, Y3]; refine Run.god tab_ok follows_ok Try.func76 60 ?_; simp only [Try.results76, decide_true, decide_false, ↓alt_t, ↓alt_f, Int.reduceEq, drun, adops, adone, places, mayNeed, freeOk, rdOf, AV.id, wrOf, aops, aone, afin, ares, aresL, ares1, aresOk, aresOk1, aop, needs, ext, aev, aconst, aput, aupd, aload, astore, afieldAddr, acmp, ashift, abin, abuild, aelems, plains, tab_3, tab_83, tab_146, tab_148, tab_151, tab_163, tab_165, tab_171, ok1, lay, cellsAs, TI.agg, AV.cells, AV.whole, AV.plain, AV.bare, Y4, Yb, Yc, Y6, Y7, Ya, Y9, Y1, Y2, Yi, Yh, Yg, Yj, Yk, Yl, Yf, Ye, Y5, Y3, Yd, List.all_cons, List.all_nil, Ym, Yn, Yt, Yu, Ys, Yr, Nat.reduceAdd, Nat.reduceLeDiff, Nat.reduceMul, Nat.reduceBEq, Yp, Bool.and_self, Bool.and_true, Bool.and_false, Nat.reduceLT, forall_const, reduceCtorEq, false_implies, implies_true, Yv, Y0, Y8]
  ((repeat' apply And.intro) <;> try first | rfl | omega | (unfold I64; omega))
  all_goals (first | rfl | (repeat' first | exact .refl _ | apply LeR.tup | apply Le.agg | constructor))
theorem letparts_7 (cs : List AV) : ASpec Try.prog 76 [.rptr (.int .i64 7 :: cs)] (.iface 171 (.psl 1 [[.iface 148 (.agg [.rptr cs])], [.iface 148 (.agg [.rptr (cs.drop 1)])], [.iface 179 (.agg [.rptr (cs.drop 15)])]])) := by
  refine ⟨⟨_, Try.func76, by kernel_rfl, rfl⟩, ACall.of Try.func76 rfl fun c0 hc0 => ?_⟩; simp only [Try.ntmps76, Ya, Y9, Nat.reduceAdd, Nat.reduceSub, Ym, Yn, Y5, Y3]; refine Run.god tab_ok follows_ok Try.func76 60 ?_; simp only [Try.results76, decide_true, decide_false, ↓alt_t, ↓alt_f, Int.reduceEq, drun, adops, adone, places, mayNeed, freeOk, rdOf, AV.id, wrOf, aops, aone, afin, ares, aresL, ares1, aresOk, aresOk1, aop, needs, ext, aev, aconst, aput, aupd, aload, astore, afieldAddr, acmp, ashift, abin, abuild, aelems, plains, tab_3, tab_83, tab_146, tab_148, tab_151, tab_163, tab_165, tab_171, tab_177, tab_179, ok1, lay, cellsAs, TI.agg, AV.cells, AV.whole, AV.plain, AV.bare, Y4, Yb, Yc, Y6, Y7, Ya, Y9, Y1, Y2, Yi, Yh, Yg, Yj, Yk, Yl, Yf, Ye, Y5, Y3, Yd, List.all_cons, List.all_nil, Ym, Yn, Yt, Yu, Ys, Yr, Nat.reduceAdd, Nat.reduceLeDiff, Nat.reduceMul, Nat.reduceBEq, Yp, Bool.and_self, Bool.and_true, Bool.and_false, Nat.reduceLT, forall_const, reduceCtorEq, false_implies, implies_true, Yv, Y0, Y8]
  ((repeat' apply And.intro) <;> try first | rfl | omega | (unfold I64; omega))
  all_goals (first | rfl | (repeat' first | exact .refl _ | apply LeR.tup | apply Le.agg | constructor))
theorem letparts_8 (cs : List AV) : ASpec Try.prog 76 [.rptr (.int .i64 8 :: cs)] (.iface 182 (.agg [.rptr (cs.drop 47)])) := by
  refine ⟨⟨_, Try.func76, by kernel_rfl, rfl⟩, ACall.of Try.func76 rfl fun c0 hc0 => ?_⟩; simp only [Try.ntmps76, Ya, Y9, Nat.reduceAdd, Nat.reduceSub, Ym, Yn, Y5, Y3]; refine Run.god tab_ok follows_ok Try.func76 60 ?_; simp only [Try.results76, decide_true, decide_false, ↓alt_t, ↓alt_f, Int.reduceEq, drun, adops, adone, places, mayNeed, freeOk, rdOf, AV.id, wrOf, aops, aone, afin, ares, aresL, ares1, aresOk, aresOk1, aop, needs, ext, aev, aconst, aput, aupd, aload, astore, afieldAddr, acmp, ashift, abin, abuild, tab_3, tab_83, tab_146, tab_148, tab_163, tab_165, tab_180, tab_182, ok1, lay, cellsAs, TI.agg, AV.cells, AV.whole, Y4, Yb, Yc, Y6, Y7, Ya, Y9, Y1, Y2, Yi, Yh, Yg, Yj, Yl, Yf, Ye, Y5, Y3, Yd, Yt, Yu, Ys, Yr, Nat.reduceAdd, Nat.reduceLeDiff, Yp, forall_const, reduceCtorEq, false_implies, implies_true, Yv, Y0, Y8]
  ((repeat' apply And.intro) <;> try first | rfl | omega | (unfold I64; omega))
  all_goals (first | rfl | (repeat' first | exact .refl _ | apply LeR.tup | apply Le.agg | constructor))
theorem letparts_9 (cs : List AV) : ASpec Try.prog 76 [.rptr (.int .i64 9 :: cs)] (.iface 171 (.psl 1 [[.iface 148 (.agg [.rptr cs])], [.iface 185 (.agg [.rptr (cs.drop 55)])]])) := by
  refine ⟨⟨_, Try.func76, by kernel_rfl, rfl⟩, ACall.of Try.func76 rfl fun c0 hc0 => ?_⟩; simp only [Try.ntmps76, Ya, Y9, Nat.reduceAdd, Nat.reduceSub, Ym, Yn, Y5, Y3]; refine Run.god tab_ok follows_ok Try.func76 60 ?_; simp only [Try.results76, decide_true, decide_false, ↓alt_t, ↓alt_f, Int.reduceEq, drun, adops, adone, places, mayNeed, freeOk, rdOf, AV.id, wrOf, aops, aone, afin, ares, aresL, ares1, aresOk, aresOk1, aop, needs, ext, aev, aconst, aput, aupd, aload, astore, afieldAddr, acmp, ashift, abin, abuild, aelems, plains, tab_3, tab_83, tab_146, tab_148, tab_151, tab_163, tab_165, tab_171, tab_183, tab_185, ok1, lay, cellsAs, TI.agg, AV.cells, AV.whole, AV.plain, AV.bare, Y4, Yb, Yc, Y6, Y7, Ya, Y9, Y1, Y2, Yi, Yh, Yg, Yj, Yk, Yl, Yf, Ye, Y5, Y3, Yd, List.all_cons, List.all_nil, Ym, Yn, Yt, Yu, Ys, Yr, Nat.reduceAdd, Nat.reduceLeDiff, Nat.reduceMul, Nat.reduceBEq, Yp, Bool.and_self, Bool.and_true, Bool.and_false, Nat.reduceLT, forall_const, reduceCtorEq, false_implies, implies_true, Yv, Y0, Y8]
  ((repeat' apply And.intro) <;> try first | rfl | omega | (unfold I64; omega))
  all_goals (first | rfl | (repeat' first | exact .refl _ | apply LeR.tup | apply Le.agg | constructor))
theorem letparts_10 (cs : List AV) : ASpec Try.prog 76 [.rptr (.int .i64 10 :: cs)] (.iface 171 (.psl 1 [[.iface 148 (.agg [.rptr cs])], [.iface 148 (.agg [.rptr (cs.drop 1)])]])) := by
  refine ⟨⟨_, Try.func76, by kernel_rfl, rfl⟩, ACall.of Try.func76 rfl fun c0 hc0 => ?_⟩; simp only [Try.ntmps76, Ya, Y9, Nat.reduceAdd, Nat.reduceSub, Ym, Yn, Y5, Y3]; refine Run.god tab_ok follows_ok Try.func76 60 ?_; simp only [Try.results76, decide_true, decide_false, ↓alt_t, ↓alt_f, Int.reduceEq, drun, adops, adone, places, mayNeed, freeOk, rdOf, AV.id, wrOf, aops, aone, afin, ares, aresL, ares1, aresOk, aresOk1, aop, needs, ext, aev, aconst, aput, aupd, aload, astore, afieldAddr, acmp, ashift, abin, abuild, aelems, plains, tab_3, tab_83, tab_146, tab_148, tab_151, tab_163, tab_165, tab_171, ok1, lay, cellsAs, TI.agg, AV.cells, AV.whole, AV.plain, AV.bare, Y4, Yb, Yc, Y6, Y7, Ya, Y9, Y1, Y2, Yi, Yh, Yg, Yj, Yk, Yl, Yf, Ye, Y5, Y3, Yd, List.all_cons, List.all_nil, Ym, Yn, Yt, Yu, Ys, Yr, Nat.reduceAdd, Nat.reduceLeDiff, Nat.reduceMul, Nat.reduceBEq, Yp, Bool.and_self, Bool.and_true, Bool.and_false, Nat.reduceLT, forall_const, reduceCtorEq, false_implies, implies_true, Yv, Y0, Y8]
  ((repeat' apply And.intro) <;> try first | rfl | omega | (unfold I64; omega))
  all_goals (first | rfl | (repeat' first | exact .refl _ | apply LeR.tup | apply Le.agg | constructor))
end Go.Proofs.Ytkamcoechjdgpaa
/-
  Package wire: a letter's bytes.
-/
namespace Go.Proofs.Ytkamcoechjdgpaa
open Go.RowKit
/-- The first number, on a new paper. -/
theorem number_wn (n : Int) (cs : List AV) (hn : I64 n) : BSpec Try.prog 75 [.agg [.rptr (.int .i64 n :: cs)], .ptr 0 0] [.box [.nils, .bool false, .int .i64 0]] [pp (encN (zig n)) false 0] (.tup []) := by
  have hi := (int_spec [] n (by decide) hn).spec
  simp only [Y3] at hi
  refine ⟨⟨_, Try.func75, by kernel_rfl, rfl⟩, ACall.of Try.func75 rfl fun c0 hc0 => ?_⟩; simp only [Try.ntmps75, Ya, Y9, Nat.reduceAdd, Nat.reduceSub, Ym, Yn, Y5, Y3]; refine Run.god tab_ok follows_ok Try.func75 60 ?_; simp only [pp, decide_true, ↓alt_f, drun, adops, adone, places, mayNeed, freeOk, rdOf, AV.id, wrOf, aops, aone, aop, needs, ext, aev, aconst, aput, aupd, aload, afieldAddr, acmp, ashift, abin, tab_3, tab_4, tab_34, tab_85, tab_145, tab_146, tab_148, ok1, cellsAs, TI.agg, AV.cells, AV.whole, Y4, Yb, Yc, Y6, Y7, Ya, Y9, Y1, Y2, Yi, Yh, Yg, Yj, Yk, Y5, Y3, Yt, Yu, Ys, Yr, Nat.reduceAdd, Nat.reduceLeDiff, Yp, Yq, Bool.not_true, Yv, Y0, Y8]
  refine ⟨rfl, ?_⟩
  refine DOps.pure rfl .free rfl rfl (hi) (by simp only [bytesA, aev, Y4, Y1, Y2, Yf, Ye, Y3, Yd, Y0]; (repeat' first | exact .refl _ | apply LeR.tup | apply Le.agg | constructor)) rfl rfl ?_
  refine DOps.god tab_ok follows_ok Try.func75 60 rfl ?_; simp only [Try.results75, bytesA, drun, adops, adone, mayNeed, freeOk, rdOf, AV.id, wrOf, afin, ares, aresL, aresOk, aop, needs, aev, aput, aupd, astore, afieldAddr, tab_85, tab_145, ok1, lay, AV.cells, AV.whole, Y4, Yb, Yc, Y6, Y7, Ya, Y9, Y1, Y2, Yi, Yh, Yj, Y5, Y3, Yt, Yu, Yr, Nat.reduceAdd, Nat.reduceLeDiff, Yp, Yq, Y0, Y8]
  refine ⟨rfl, ?_⟩
  (refine ⟨by (repeat' first | exact .refl _ | apply LeR.tup | apply Le.agg | constructor), ?_⟩; (repeat' (first | exact WkH.nil _ | exact Le.refl _ | exact Le1.refl _ | exact Le1L.nil | rfl | apply WkH.cons | apply LeB.box | apply Le1L.cons | apply Le.one)))
theorem let_drop55 (l : Ltr) (h : l.sum.length = 32) : (letT l).drop 55 = rplC l.x := by
  have e : letT l = ([.int .i64 l.frm, .int .i64 l.slot, .int .i64 l.view, .str l.value, rpsA l.cert] ++ accC l.vote ++ [votesA l.proof] ++ rpC l.r ++ sumC l.sum ++ ordC l.o) ++ rplC l.x := by simp [letT]
  rw [e]
  exact List.drop_left' (by simp [accC, rpC, sumC, ordC, h])
theorem let_drop47 (l : Ltr) (h : l.sum.length = 32) : (letT l).drop 47 = ordC l.o ++ rplC l.x := by
  have e : letT l = ([.int .i64 l.frm, .int .i64 l.slot, .int .i64 l.view, .str l.value, rpsA l.cert] ++ accC l.vote ++ [votesA l.proof] ++ rpC l.r ++ sumC l.sum) ++ (ordC l.o ++ rplC l.x) := by simp [letT]
  rw [e]
  exact List.drop_left' (by simp [accC, rpC, sumC, h])
def wrB (l : Ltr) : Bytes :=
  if l.kind = 1 then encN (zig l.frm) ++ encN (zig l.slot) ++ encN (zig l.view) ++ encT l.value ++ rpsB l.cert
  else if l.kind = 2 then encN (zig l.slot) ++ voteB l.vote
  else if l.kind = 3 then encN (zig l.frm) ++ encN (zig l.slot) ++ votesB l.proof
  else if l.kind = 4 then encN (zig l.slot) ++ reportB l.r
  else if l.kind = 5 then encN (zig l.frm) ++ encN (zig l.slot) ++ encT l.value
  else if l.kind = 6 then encN (zig l.frm) ++ encN (zig l.view)
  else if l.kind = 7 then encN (zig l.frm) ++ encN (zig l.slot) ++ l.sum
  else if l.kind = 8 then putO l.o
  else if l.kind = 9 then encN (zig l.frm) ++ putR l.x
  else encN (zig l.frm) ++ encN (zig l.slot)
def wrL (l : Ltr) : Bytes := encN (zig l.kind) ++ wrB l
def smL (l : Ltr) : Prop := I64 l.frm ∧ I64 l.slot ∧ I64 l.view ∧ l.value.length ≤ 6000 ∧ (∀ r ∈ l.cert, smRp r) ∧ l.cert.length ≤ 30 ∧ totRs l.cert ≤ 200000 ∧ smA l.vote ∧ (∀ a ∈ l.proof, smA a) ∧ l.proof.length ≤ 30 ∧ totA l.proof ≤ 190000 ∧ smRp l.r ∧ totR l.r ≤ 190000 ∧ l.sum.length = 32 ∧ smO l.o ∧ smR l.x ∧ l.x.s.length ≤ 20000 ∧ tot l.x.l ≤ 20000 ∧ l.vote.value.length ≤ 20000
theorem rowAV {a : AV} {cs : List AV} {f : FuncId} (h1 : ∀ n, a.bel n = true) (h2 : a.among [0] = true) (h3 : a.ren [0] = a) (h : Pln cs) : (AV.agg [.rptr (a :: cs), .fn (.func f) [] []]).bel 1 = true ∧ (AV.agg [.rptr (a :: cs), .fn (.func f) [] []]).among [0] = true ∧ (AV.agg [.rptr (a :: cs), .fn (.func f) [] []]).ren [0] = .agg [.rptr (a :: cs), .fn (.func f) [] []] :=
  ⟨by simp [AV.bel, belL, h1, h.1], by simp [AV.among, amongL, h2, h.2.1], by simp [AV.ren, renL, h3, h.2.2]⟩
theorem voteAV {a : Acc} {cs : List AV} (h : Pln cs) : (AV.psl 1 ((voteL a cs).map partC)).bel 1 = true ∧ (AV.psl 1 ((voteL a cs).map partC)).among [0] = true ∧ (AV.psl 1 ((voteL a cs).map partC)).ren [0] = .psl 1 ((voteL a cs).map partC) :=
  ⟨by simp [AV.bel, belL, belLL, partC, voteL, h.1], by simp [AV.among, amongL, amongLL, partC, voteL, h.2.1], by simp [AV.ren, renL, renLL, partC, voteL, h.2.2]⟩
theorem reportAV {r : Rp} {cs : List AV} (h : Pln cs) : (AV.psl 1 ((reportL r cs).map partC)).bel 1 = true ∧ (AV.psl 1 ((reportL r cs).map partC)).among [0] = true ∧ (AV.psl 1 ((reportL r cs).map partC)).ren [0] = .psl 1 ((reportL r cs).map partC) :=
  ⟨by simp [AV.bel, belL, belLL, partC, reportL, votesA, h.1], by simp [AV.among, amongL, amongLL, partC, reportL, votesA, h.2.1], by simp [AV.ren, renL, renLL, partC, reportL, votesA, h.2.2]⟩
theorem certP (l : Ltr) (h5 : ∀ r ∈ l.cert, smRp r) (h6 : l.cert.length ≤ 30) (h7 : totRs l.cert ≤ 200000) : OkP 300000 (169, .agg [.rptr (rpsA l.cert :: (accC l.vote ++ (votesA l.proof :: (rpC l.r ++ (sumC l.sum ++ (ordC l.o ++ rplC l.x)))))), .fn (.func 88) [] []], rpsB l.cert) := by
  have q := Pln.d5 l
  have av := rowAV (a := rpsA l.cert) (f := 88) (fun _ => rfl) rfl rfl q
  exact ⟨av.1, av.2.1, av.2.2, _, meth_rowR, fun b hb => rowR_w l.cert _ b q h5 h6 (by omega)⟩
theorem voteP (l : Ltr) (h8 : smA l.vote) : OkP 300000 (171, .psl 1 ((voteL l.vote (votesA l.proof :: (rpC l.r ++ (sumC l.sum ++ (ordC l.o ++ rplC l.x))))).map partC), voteB l.vote) := by
  have q := Pln.d8 l
  have av := voteAV (a := l.vote) q
  exact ⟨av.1, av.2.1, av.2.2, _, meth_parts, fun b hb => vote_w l.vote _ b q h8.1 h8.2.1 (by have := h8.2.2; omega)⟩
theorem proofP (l : Ltr) (h9 : ∀ a ∈ l.proof, smA a) (h10 : l.proof.length ≤ 30) (h11 : totA l.proof ≤ 190000) : OkP 300000 (197, .agg [.rptr (votesA l.proof :: (rpC l.r ++ (sumC l.sum ++ (ordC l.o ++ rplC l.x)))), .fn (.func 89) [] []], votesB l.proof) := by
  have q := Pln.d9 l
  have av := rowAV (a := votesA l.proof) (f := 89) (fun _ => rfl) rfl rfl q
  exact ⟨av.1, av.2.1, av.2.2, _, meth_rowA, fun b hb => rowA_w l.proof _ b q h9 h10 (by omega)⟩
theorem rP (l : Ltr) (h12 : smRp l.r) (h13 : totR l.r ≤ 190000) : OkP 300000 (171, .psl 1 ((reportL l.r (sumC l.sum ++ (ordC l.o ++ rplC l.x))).map partC), reportB l.r) := by
  have q := Pln.d10 l
  have av := reportAV (r := l.r) q
  exact ⟨av.1, av.2.1, av.2.2, _, meth_parts, fun b hb => report_w l.r _ b q h12 (by omega)⟩
theorem xP (l : Ltr) (h16 : smR l.x) : OkP 90000 (185, .agg [.rptr (rplC l.x)], putR l.x) :=
  ⟨rfl, rfl, rfl, _, meth_replies, fun b hb => replies_w b l.x [] (by omega) h16⟩
theorem OkP.mono {N M : Nat} {p : Nat × AV × Bytes} (h : OkP N p) (hM : M ≤ N) : OkP M p := ⟨h.1, h.2.1, h.2.2.1, by obtain ⟨g, h1, h2⟩ := h.2.2.2; exact ⟨g, h1, fun b hb => h2 b (by omega)⟩⟩
theorem written_1 (l : Ltr) (hk : l.kind = 1) (h : smL l) : ASpec Try.prog 55 [.agg (letC l)] (bytesA (wrL l)) := by
  obtain ⟨h1, h2, h3, h4, h5, h6, h7, h8, h9, h10, h11, h12, h13, h14, h15, h16, h17, h18, h19⟩ := h
  have q4 : Pln (rpsA l.cert :: (accC l.vote ++ (votesA l.proof :: (rpC l.r ++ (sumC l.sum ++ (ordC l.o ++ rplC l.x)))))) := .cons (fun _ => rfl) (fun _ => rfl) (fun _ => rfl) (Pln.d5 l)
  have q3 : Pln (.str l.value :: rpsA l.cert :: (accC l.vote ++ (votesA l.proof :: (rpC l.r ++ (sumC l.sum ++ (ordC l.o ++ rplC l.x)))))) := .cons (fun _ => rfl) (fun _ => rfl) (fun _ => rfl) q4
  have q2 : Pln (.int .i64 l.view :: .str l.value :: rpsA l.cert :: (accC l.vote ++ (votesA l.proof :: (rpC l.r ++ (sumC l.sum ++ (ordC l.o ++ rplC l.x)))))) := .cons (fun _ => rfl) (fun _ => rfl) (fun _ => rfl) q3
  have q1 : Pln (.int .i64 l.slot :: .int .i64 l.view :: .str l.value :: rpsA l.cert :: (accC l.vote ++ (votesA l.proof :: (rpC l.r ++ (sumC l.sum ++ (ordC l.o ++ rplC l.x)))))) := .cons (fun _ => rfl) (fun _ => rfl) (fun _ => rfl) q2
  have hn := number_wn 1 (letT l) (by unfold I64; omega)
  have hp := letparts_1 (letT l)
  skip
  have hlen : (bytesP [(148, .agg [.rptr (.int .i64 l.frm :: (.int .i64 l.slot :: .int .i64 l.view :: .str l.value :: rpsA l.cert :: (accC l.vote ++ (votesA l.proof :: (rpC l.r ++ (sumC l.sum ++ (ordC l.o ++ rplC l.x)))))))], encN (zig l.frm)), (148, .agg [.rptr (.int .i64 l.slot :: .int .i64 l.view :: .str l.value :: rpsA l.cert :: (accC l.vote ++ (votesA l.proof :: (rpC l.r ++ (sumC l.sum ++ (ordC l.o ++ rplC l.x))))))], encN (zig l.slot)), (148, .agg [.rptr (.int .i64 l.view :: .str l.value :: rpsA l.cert :: (accC l.vote ++ (votesA l.proof :: (rpC l.r ++ (sumC l.sum ++ (ordC l.o ++ rplC l.x))))))], encN (zig l.view)), (165, .agg [.rptr (.str l.value :: rpsA l.cert :: (accC l.vote ++ (votesA l.proof :: (rpC l.r ++ (sumC l.sum ++ (ordC l.o ++ rplC l.x))))))], encT l.value), (169, .agg [.rptr (rpsA l.cert :: (accC l.vote ++ (votesA l.proof :: (rpC l.r ++ (sumC l.sum ++ (ordC l.o ++ rplC l.x)))))), .fn (.func 88) [] []], rpsB l.cert)]).length ≤ 290000 := by
    have e1 := enc9 _ h1
    have e2 := enc9 _ h2
    have e3 := enc9 _ h3
    have e4 := encT_le l.value (by omega)
    have e5 := enc9 l.cert.length (by unfold I64; omega)
    have e6 := rpsB_take l.cert h5
    have e7 : (rpsB l.cert).length = (encN (zig l.cert.length)).length + ((l.cert.map reportB).flatten).length := by unfold rpsB; simp only [List.length_append]
    simp only [bytesP, Yf, Ye, List.flatten_cons, List.flatten_nil, List.length_append, Y9]
    omega
  have ht := parts_p 300000 [(148, .agg [.rptr (.int .i64 l.frm :: (.int .i64 l.slot :: .int .i64 l.view :: .str l.value :: rpsA l.cert :: (accC l.vote ++ (votesA l.proof :: (rpC l.r ++ (sumC l.sum ++ (ordC l.o ++ rplC l.x)))))))], encN (zig l.frm)), (148, .agg [.rptr (.int .i64 l.slot :: .int .i64 l.view :: .str l.value :: rpsA l.cert :: (accC l.vote ++ (votesA l.proof :: (rpC l.r ++ (sumC l.sum ++ (ordC l.o ++ rplC l.x))))))], encN (zig l.slot)), (148, .agg [.rptr (.int .i64 l.view :: .str l.value :: rpsA l.cert :: (accC l.vote ++ (votesA l.proof :: (rpC l.r ++ (sumC l.sum ++ (ordC l.o ++ rplC l.x))))))], encN (zig l.view)), (165, .agg [.rptr (.str l.value :: rpsA l.cert :: (accC l.vote ++ (votesA l.proof :: (rpC l.r ++ (sumC l.sum ++ (ordC l.o ++ rplC l.x))))))], encT l.value), (169, .agg [.rptr (rpsA l.cert :: (accC l.vote ++ (votesA l.proof :: (rpC l.r ++ (sumC l.sum ++ (ordC l.o ++ rplC l.x)))))), .fn (.func 88) [] []], rpsB l.cert)] (encN (zig 1)) (by simp) (by have := enc9 1 (by unfold I64; omega); omega) (by
    intro p hp
    simp only [List.mem_cons, List.not_mem_nil, or_false] at hp
    rcases hp with rfl | rfl | rfl | rfl | rfl
    · exact OkP.mono (numP h1 q1) (by decide)
    · exact OkP.mono (numP h2 q2) (by decide)
    · exact OkP.mono (numP h3 q3) (by decide)
    · exact OkP.mono (textP (by omega) q4) (by decide)
    · exact OkP.mono (certP l h5 h6 h7) (by decide)
  )
  have hb : encN (zig 1) ++ bytesP [(148, .agg [.rptr (.int .i64 l.frm :: (.int .i64 l.slot :: .int .i64 l.view :: .str l.value :: rpsA l.cert :: (accC l.vote ++ (votesA l.proof :: (rpC l.r ++ (sumC l.sum ++ (ordC l.o ++ rplC l.x)))))))], encN (zig l.frm)), (148, .agg [.rptr (.int .i64 l.slot :: .int .i64 l.view :: .str l.value :: rpsA l.cert :: (accC l.vote ++ (votesA l.proof :: (rpC l.r ++ (sumC l.sum ++ (ordC l.o ++ rplC l.x))))))], encN (zig l.slot)), (148, .agg [.rptr (.int .i64 l.view :: .str l.value :: rpsA l.cert :: (accC l.vote ++ (votesA l.proof :: (rpC l.r ++ (sumC l.sum ++ (ordC l.o ++ rplC l.x))))))], encN (zig l.view)), (165, .agg [.rptr (.str l.value :: rpsA l.cert :: (accC l.vote ++ (votesA l.proof :: (rpC l.r ++ (sumC l.sum ++ (ordC l.o ++ rplC l.x))))))], encT l.value), (169, .agg [.rptr (rpsA l.cert :: (accC l.vote ++ (votesA l.proof :: (rpC l.r ++ (sumC l.sum ++ (ordC l.o ++ rplC l.x)))))), .fn (.func 88) [] []], rpsB l.cert)] = wrL l := by unfold wrL wrB bytesP; rw [hk]; simp
  rw [hb] at ht
  have hc : (.agg (letC l) : AV) = .agg (.int .i64 1 :: letT l) := by unfold letC; rw [hk]
  rw [hc]
  have hT := Pln.let_ l
  have hD : ∀ d n, belL n ((letT l).drop d) = true := fun d n => (hT.drop d).1 n
  have hA : ∀ d js, amongL js ((letT l).drop d) = true := fun d n => (hT.drop d).2.1 n
  have hR : ∀ d js, renL js ((letT l).drop d) = (letT l).drop d := fun d n => (hT.drop d).2.2 n
  have hD1 : belL 0 (letT l).tail = true := by have := hD 1 0; simpa using this
  have hA1 : amongL [1] (letT l).tail = true := by have := hA 1 [1]; simpa using this
  have q9 := Pln.d9 l
  have q10 := Pln.d10 l
  skip
  refine ⟨⟨_, Try.func55, by kernel_rfl, rfl⟩, ACall.of Try.func55 rfl fun c0 hc0 => ?_⟩; simp only [Try.ntmps55, Ya, Y9, Nat.reduceAdd, Nat.reduceSub, Ym, Yn, Y5, Y3]; refine Run.god tab_ok follows_ok Try.func55 2 ?_; simp only [drun, aops, aone, aop, needs, ext, aev, aconst, aput, aupd, ok1, AV.cells, AV.whole, Y4, Y6, Y7, Y9, Y1, Y5, Y3, Yt, Ys, Yr, Y0, Y8]
  refine Run.weak (Weak.freeze 1 0 _ rfl rfl) ?_
  refine Run.god tab_ok follows_ok Try.func55 60 ?_; simp only [drun, aops, aone, aop, needs, ext, aev, aconst, aput, aupd, afieldAddr, abuild, tab_83, tab_145, tab_146, tab_148, ok1, lay, AV.cells, AV.whole, Y4, Yb, Yc, Y6, Y7, Ya, Y9, Y1, Y2, Yi, Yh, Yj, Yl, Yf, Ye, Y5, Y3, Yd, Yt, Yu, Ys, Yr, Nat.reduceAdd, Yp, forall_const, reduceCtorEq, false_implies, implies_true, Yv, Y0, Y8]
  refine Ops.callB .free rfl rfl (js := [1]) (by decide) (LentAll.cons rfl (LentB.box_ [.nils, .bool false, .int .i64 0] rfl) LentAll.nil) (lent1 (pp_lent _ _ _)) rfl (by simp [aev, amongL, AV.among, hT.2.1]) (by simp only [Yf, Ye, aev, Y4, Y1, Y2, Y3, Yd, Yp, beq_self_eq_true, Y0, cond_true, renL, AV.ren, hT.2.2, List.idxOf, List.findIdx, List.findIdx.go]; exact LeL.cons (Le.refl _) (LeL.cons (Le.refl _) LeL.nil)) hn rfl ?_
  refine Ops.god tab_ok follows_ok Try.func55 60 ?_; simp only [putBack, drun, aops, aone, aop, aput, Y6, Y7]
  refine Ops.pure .free rfl rfl hp (by simp only [aev, Y4, Y1, Y2, Yf, Ye, Y3, Yd, Y0]; (repeat' first | exact .refl _ | apply LeR.tup | apply Le.agg | constructor)) (by simp [belL, AV.bel, hT.1]) (by simp [AV.bel, belL, belLL, hD, hD1, hT.1]) ?_
  refine Ops.god tab_ok follows_ok Try.func55 60 ?_; simp only [aops, aone, aop, needs, ext, aev, aput, aupd, ok1, Y4, Y6, Y7, Y1, Y2, Y5, Y3, Yt, Yr, Nat.reduceAdd, Yp, Y0, Y8]
  refine Ops.invokeB .free rfl rfl meth_parts (js := [1]) (by decide) (LentAll.cons rfl (pp_lent _ _ _) LentAll.nil) (lent1 (pp_lent _ _ _)) rfl (by simp [aev, amongL, amongLL, AV.among, hA, hA1, hT.2.1]) (by simp only [Yf, Ye, aev, votesA, Y4, Y1, Y2, Yp, beq_self_eq_true, Y0, cond_true, renL, renLL, AV.ren, hR, hT.2.2, List.idxOf, List.findIdx, List.findIdx.go]; exact LeL.cons (Le.refl _) (LeL.cons (Le.refl _) LeL.nil)) ht rfl ?_
  refine Ops.god tab_ok follows_ok Try.func55 60 ?_; simp only [Try.results55, putBack, pp, drun, aops, aone, afin, ares, aresL, ares1, aresOk, aresOk1, aop, needs, ext, aev, aput, aupd, aload, afieldAddr, tab_85, tab_145, ok1, cellsAs, TI.agg, Y4, Yb, Yc, Y6, Y7, Ya, Y9, Y1, Y2, Yi, Yg, Yj, Y5, Y3, Yt, Yu, Yr, Nat.reduceAdd, Nat.reduceLeDiff, Yp, Yq, Y0, Y8]
  ((repeat' apply And.intro) <;> try first | rfl | omega | (unfold I64; omega))
  all_goals (repeat' first | exact .refl _ | apply LeR.tup | apply Le.agg | constructor)
theorem written_2 (l : Ltr) (hk : l.kind = 2) (h : smL l) : ASpec Try.prog 55 [.agg (letC l)] (bytesA (wrL l)) := by
  obtain ⟨h1, h2, h3, h4, h5, h6, h7, h8, h9, h10, h11, h12, h13, h14, h15, h16, h17, h18, h19⟩ := h
  have q4 : Pln (rpsA l.cert :: (accC l.vote ++ (votesA l.proof :: (rpC l.r ++ (sumC l.sum ++ (ordC l.o ++ rplC l.x)))))) := .cons (fun _ => rfl) (fun _ => rfl) (fun _ => rfl) (Pln.d5 l)
  have q3 : Pln (.str l.value :: rpsA l.cert :: (accC l.vote ++ (votesA l.proof :: (rpC l.r ++ (sumC l.sum ++ (ordC l.o ++ rplC l.x)))))) := .cons (fun _ => rfl) (fun _ => rfl) (fun _ => rfl) q4
  have q2 : Pln (.int .i64 l.view :: .str l.value :: rpsA l.cert :: (accC l.vote ++ (votesA l.proof :: (rpC l.r ++ (sumC l.sum ++ (ordC l.o ++ rplC l.x)))))) := .cons (fun _ => rfl) (fun _ => rfl) (fun _ => rfl) q3
  have q1 : Pln (.int .i64 l.slot :: .int .i64 l.view :: .str l.value :: rpsA l.cert :: (accC l.vote ++ (votesA l.proof :: (rpC l.r ++ (sumC l.sum ++ (ordC l.o ++ rplC l.x)))))) := .cons (fun _ => rfl) (fun _ => rfl) (fun _ => rfl) q2
  have hn := number_wn 2 (letT l) (by unfold I64; omega)
  have hp := letparts_2 (letT l) l.vote (votesA l.proof :: (rpC l.r ++ (sumC l.sum ++ (ordC l.o ++ rplC l.x)))) rfl (Pln.d8 l)
  skip
  have hlen : (bytesP [(148, .agg [.rptr (.int .i64 l.slot :: .int .i64 l.view :: .str l.value :: rpsA l.cert :: (accC l.vote ++ (votesA l.proof :: (rpC l.r ++ (sumC l.sum ++ (ordC l.o ++ rplC l.x))))))], encN (zig l.slot)), (171, .psl 1 ((voteL l.vote (votesA l.proof :: (rpC l.r ++ (sumC l.sum ++ (ordC l.o ++ rplC l.x))))).map partC), voteB l.vote)]).length ≤ 290000 := by
    have e1 := enc9 _ h1
    have e2 := enc9 _ h2
    have e3 := enc9 _ h3
    have e4 := voteB_le l.vote h8
    simp only [bytesP, Yf, Ye, List.flatten_cons, List.flatten_nil, List.length_append, Y9]
    omega
  have ht := parts_p 300000 [(148, .agg [.rptr (.int .i64 l.slot :: .int .i64 l.view :: .str l.value :: rpsA l.cert :: (accC l.vote ++ (votesA l.proof :: (rpC l.r ++ (sumC l.sum ++ (ordC l.o ++ rplC l.x))))))], encN (zig l.slot)), (171, .psl 1 ((voteL l.vote (votesA l.proof :: (rpC l.r ++ (sumC l.sum ++ (ordC l.o ++ rplC l.x))))).map partC), voteB l.vote)] (encN (zig 2)) (by simp) (by have := enc9 2 (by unfold I64; omega); omega) (by
    intro p hp
    simp only [List.mem_cons, List.not_mem_nil, or_false] at hp
    rcases hp with rfl | rfl
    · exact OkP.mono (numP h2 q2) (by decide)
    · exact OkP.mono (voteP l h8) (by decide)
  )
  have hb : encN (zig 2) ++ bytesP [(148, .agg [.rptr (.int .i64 l.slot :: .int .i64 l.view :: .str l.value :: rpsA l.cert :: (accC l.vote ++ (votesA l.proof :: (rpC l.r ++ (sumC l.sum ++ (ordC l.o ++ rplC l.x))))))], encN (zig l.slot)), (171, .psl 1 ((voteL l.vote (votesA l.proof :: (rpC l.r ++ (sumC l.sum ++ (ordC l.o ++ rplC l.x))))).map partC), voteB l.vote)] = wrL l := by unfold wrL wrB bytesP; rw [hk]; simp
  rw [hb] at ht
  have hc : (.agg (letC l) : AV) = .agg (.int .i64 2 :: letT l) := by unfold letC; rw [hk]
  rw [hc]
  have hT := Pln.let_ l
  have hD : ∀ d n, belL n ((letT l).drop d) = true := fun d n => (hT.drop d).1 n
  have hA : ∀ d js, amongL js ((letT l).drop d) = true := fun d n => (hT.drop d).2.1 n
  have hR : ∀ d js, renL js ((letT l).drop d) = (letT l).drop d := fun d n => (hT.drop d).2.2 n
  have hD1 : belL 0 (letT l).tail = true := by have := hD 1 0; simpa using this
  have hA1 : amongL [1] (letT l).tail = true := by have := hA 1 [1]; simpa using this
  have q9 := Pln.d9 l
  have q10 := Pln.d10 l
  have qq := Pln.d8 l
  refine ⟨⟨_, Try.func55, by kernel_rfl, rfl⟩, ACall.of Try.func55 rfl fun c0 hc0 => ?_⟩; simp only [Try.ntmps55, Ya, Y9, Nat.reduceAdd, Nat.reduceSub, Ym, Yn, Y5, Y3]; refine Run.god tab_ok follows_ok Try.func55 2 ?_; simp only [drun, aops, aone, aop, needs, ext, aev, aconst, aput, aupd, ok1, AV.cells, AV.whole, Y4, Y6, Y7, Y9, Y1, Y5, Y3, Yt, Ys, Yr, Y0, Y8]
  refine Run.weak (Weak.freeze 1 0 _ rfl rfl) ?_
  refine Run.god tab_ok follows_ok Try.func55 60 ?_; simp only [drun, aops, aone, aop, needs, ext, aev, aconst, aput, aupd, afieldAddr, abuild, tab_83, tab_145, tab_146, tab_148, ok1, lay, AV.cells, AV.whole, Y4, Yb, Yc, Y6, Y7, Ya, Y9, Y1, Y2, Yi, Yh, Yj, Yl, Yf, Ye, Y5, Y3, Yd, Yt, Yu, Ys, Yr, Nat.reduceAdd, Yp, forall_const, reduceCtorEq, false_implies, implies_true, Yv, Y0, Y8]
  refine Ops.callB .free rfl rfl (js := [1]) (by decide) (LentAll.cons rfl (LentB.box_ [.nils, .bool false, .int .i64 0] rfl) LentAll.nil) (lent1 (pp_lent _ _ _)) rfl (by simp [aev, amongL, AV.among, hT.2.1]) (by simp only [Yf, Ye, aev, Y4, Y1, Y2, Y3, Yd, Yp, beq_self_eq_true, Y0, cond_true, renL, AV.ren, hT.2.2, List.idxOf, List.findIdx, List.findIdx.go]; exact LeL.cons (Le.refl _) (LeL.cons (Le.refl _) LeL.nil)) hn rfl ?_
  refine Ops.god tab_ok follows_ok Try.func55 60 ?_; simp only [putBack, drun, aops, aone, aop, aput, Y6, Y7]
  refine Ops.pure .free rfl rfl hp (by simp only [aev, Y4, Y1, Y2, Yf, Ye, Y3, Yd, Y0]; (repeat' first | exact .refl _ | apply LeR.tup | apply Le.agg | constructor)) (by simp [belL, AV.bel, hT.1]) (by simp [AV.bel, belL, belLL, partC, voteL, votesA, hD1, q9.1]) ?_
  refine Ops.god tab_ok follows_ok Try.func55 60 ?_; simp only [aops, aone, aop, needs, ext, aev, aput, aupd, ok1, Y4, Y6, Y7, Y1, Y2, Y5, Y3, Yt, Yr, Nat.reduceAdd, Yp, Y0, Y8]
  refine Ops.invokeB .free rfl rfl meth_parts (js := [1]) (by decide) (LentAll.cons rfl (pp_lent _ _ _) LentAll.nil) (lent1 (pp_lent _ _ _)) rfl (by simp [aev, amongL, amongLL, AV.among, partC, voteL, votesA, hA1, q9.2.1]) (by simp only [Yf, Ye, aev, partC, voteL, votesA, Y4, Y1, Y2, Yp, beq_self_eq_true, Y0, cond_true, renL, renLL, AV.ren, hR, q9.2.2, List.idxOf, List.findIdx, List.findIdx.go]; exact LeL.cons (Le.refl _) (LeL.cons (Le.refl _) LeL.nil)) ht rfl ?_
  refine Ops.god tab_ok follows_ok Try.func55 60 ?_; simp only [Try.results55, putBack, pp, drun, aops, aone, afin, ares, aresL, ares1, aresOk, aresOk1, aop, needs, ext, aev, aput, aupd, aload, afieldAddr, tab_85, tab_145, ok1, cellsAs, TI.agg, Y4, Yb, Yc, Y6, Y7, Ya, Y9, Y1, Y2, Yi, Yg, Yj, Y5, Y3, Yt, Yu, Yr, Nat.reduceAdd, Nat.reduceLeDiff, Yp, Yq, Y0, Y8]
  ((repeat' apply And.intro) <;> try first | rfl | omega | (unfold I64; omega))
  all_goals (repeat' first | exact .refl _ | apply LeR.tup | apply Le.agg | constructor)
theorem written_3 (l : Ltr) (hk : l.kind = 3) (h : smL l) : ASpec Try.prog 55 [.agg (letC l)] (bytesA (wrL l)) := by
  obtain ⟨h1, h2, h3, h4, h5, h6, h7, h8, h9, h10, h11, h12, h13, h14, h15, h16, h17, h18, h19⟩ := h
  have q4 : Pln (rpsA l.cert :: (accC l.vote ++ (votesA l.proof :: (rpC l.r ++ (sumC l.sum ++ (ordC l.o ++ rplC l.x)))))) := .cons (fun _ => rfl) (fun _ => rfl) (fun _ => rfl) (Pln.d5 l)
  have q3 : Pln (.str l.value :: rpsA l.cert :: (accC l.vote ++ (votesA l.proof :: (rpC l.r ++ (sumC l.sum ++ (ordC l.o ++ rplC l.x)))))) := .cons (fun _ => rfl) (fun _ => rfl) (fun _ => rfl) q4
  have q2 : Pln (.int .i64 l.view :: .str l.value :: rpsA l.cert :: (accC l.vote ++ (votesA l.proof :: (rpC l.r ++ (sumC l.sum ++ (ordC l.o ++ rplC l.x)))))) := .cons (fun _ => rfl) (fun _ => rfl) (fun _ => rfl) q3
  have q1 : Pln (.int .i64 l.slot :: .int .i64 l.view :: .str l.value :: rpsA l.cert :: (accC l.vote ++ (votesA l.proof :: (rpC l.r ++ (sumC l.sum ++ (ordC l.o ++ rplC l.x)))))) := .cons (fun _ => rfl) (fun _ => rfl) (fun _ => rfl) q2
  have hn := number_wn 3 (letT l) (by unfold I64; omega)
  have hp := letparts_3 (letT l) l.proof (rpC l.r ++ (sumC l.sum ++ (ordC l.o ++ rplC l.x))) rfl (Pln.d9 l)
  skip
  have hlen : (bytesP [(148, .agg [.rptr (.int .i64 l.frm :: (.int .i64 l.slot :: .int .i64 l.view :: .str l.value :: rpsA l.cert :: (accC l.vote ++ (votesA l.proof :: (rpC l.r ++ (sumC l.sum ++ (ordC l.o ++ rplC l.x)))))))], encN (zig l.frm)), (148, .agg [.rptr (.int .i64 l.slot :: .int .i64 l.view :: .str l.value :: rpsA l.cert :: (accC l.vote ++ (votesA l.proof :: (rpC l.r ++ (sumC l.sum ++ (ordC l.o ++ rplC l.x))))))], encN (zig l.slot)), (197, .agg [.rptr (votesA l.proof :: (rpC l.r ++ (sumC l.sum ++ (ordC l.o ++ rplC l.x)))), .fn (.func 89) [] []], votesB l.proof)]).length ≤ 290000 := by
    have e1 := enc9 _ h1
    have e2 := enc9 _ h2
    have e3 := enc9 _ h3
    have e4 := votesB_le l.proof h9 h10
    simp only [bytesP, Yf, Ye, List.flatten_cons, List.flatten_nil, List.length_append, Y9]
    omega
  have ht := parts_p 300000 [(148, .agg [.rptr (.int .i64 l.frm :: (.int .i64 l.slot :: .int .i64 l.view :: .str l.value :: rpsA l.cert :: (accC l.vote ++ (votesA l.proof :: (rpC l.r ++ (sumC l.sum ++ (ordC l.o ++ rplC l.x)))))))], encN (zig l.frm)), (148, .agg [.rptr (.int .i64 l.slot :: .int .i64 l.view :: .str l.value :: rpsA l.cert :: (accC l.vote ++ (votesA l.proof :: (rpC l.r ++ (sumC l.sum ++ (ordC l.o ++ rplC l.x))))))], encN (zig l.slot)), (197, .agg [.rptr (votesA l.proof :: (rpC l.r ++ (sumC l.sum ++ (ordC l.o ++ rplC l.x)))), .fn (.func 89) [] []], votesB l.proof)] (encN (zig 3)) (by simp) (by have := enc9 3 (by unfold I64; omega); omega) (by
    intro p hp
    simp only [List.mem_cons, List.not_mem_nil, or_false] at hp
    rcases hp with rfl | rfl | rfl
    · exact OkP.mono (numP h1 q1) (by decide)
    · exact OkP.mono (numP h2 q2) (by decide)
    · exact OkP.mono (proofP l h9 h10 h11) (by decide)
  )
  have hb : encN (zig 3) ++ bytesP [(148, .agg [.rptr (.int .i64 l.frm :: (.int .i64 l.slot :: .int .i64 l.view :: .str l.value :: rpsA l.cert :: (accC l.vote ++ (votesA l.proof :: (rpC l.r ++ (sumC l.sum ++ (ordC l.o ++ rplC l.x)))))))], encN (zig l.frm)), (148, .agg [.rptr (.int .i64 l.slot :: .int .i64 l.view :: .str l.value :: rpsA l.cert :: (accC l.vote ++ (votesA l.proof :: (rpC l.r ++ (sumC l.sum ++ (ordC l.o ++ rplC l.x))))))], encN (zig l.slot)), (197, .agg [.rptr (votesA l.proof :: (rpC l.r ++ (sumC l.sum ++ (ordC l.o ++ rplC l.x)))), .fn (.func 89) [] []], votesB l.proof)] = wrL l := by unfold wrL wrB bytesP; rw [hk]; simp
  rw [hb] at ht
  have hc : (.agg (letC l) : AV) = .agg (.int .i64 3 :: letT l) := by unfold letC; rw [hk]
  rw [hc]
  have hT := Pln.let_ l
  have hD : ∀ d n, belL n ((letT l).drop d) = true := fun d n => (hT.drop d).1 n
  have hA : ∀ d js, amongL js ((letT l).drop d) = true := fun d n => (hT.drop d).2.1 n
  have hR : ∀ d js, renL js ((letT l).drop d) = (letT l).drop d := fun d n => (hT.drop d).2.2 n
  have hD1 : belL 0 (letT l).tail = true := by have := hD 1 0; simpa using this
  have hA1 : amongL [1] (letT l).tail = true := by have := hA 1 [1]; simpa using this
  have q9 := Pln.d9 l
  have q10 := Pln.d10 l
  have qq := Pln.d9 l
  refine ⟨⟨_, Try.func55, by kernel_rfl, rfl⟩, ACall.of Try.func55 rfl fun c0 hc0 => ?_⟩; simp only [Try.ntmps55, Ya, Y9, Nat.reduceAdd, Nat.reduceSub, Ym, Yn, Y5, Y3]; refine Run.god tab_ok follows_ok Try.func55 2 ?_; simp only [drun, aops, aone, aop, needs, ext, aev, aconst, aput, aupd, ok1, AV.cells, AV.whole, Y4, Y6, Y7, Y9, Y1, Y5, Y3, Yt, Ys, Yr, Y0, Y8]
  refine Run.weak (Weak.freeze 1 0 _ rfl rfl) ?_
  refine Run.god tab_ok follows_ok Try.func55 60 ?_; simp only [drun, aops, aone, aop, needs, ext, aev, aconst, aput, aupd, afieldAddr, abuild, tab_83, tab_145, tab_146, tab_148, ok1, lay, AV.cells, AV.whole, Y4, Yb, Yc, Y6, Y7, Ya, Y9, Y1, Y2, Yi, Yh, Yj, Yl, Yf, Ye, Y5, Y3, Yd, Yt, Yu, Ys, Yr, Nat.reduceAdd, Yp, forall_const, reduceCtorEq, false_implies, implies_true, Yv, Y0, Y8]
  refine Ops.callB .free rfl rfl (js := [1]) (by decide) (LentAll.cons rfl (LentB.box_ [.nils, .bool false, .int .i64 0] rfl) LentAll.nil) (lent1 (pp_lent _ _ _)) rfl (by simp [aev, amongL, AV.among, hT.2.1]) (by simp only [Yf, Ye, aev, Y4, Y1, Y2, Y3, Yd, Yp, beq_self_eq_true, Y0, cond_true, renL, AV.ren, hT.2.2, List.idxOf, List.findIdx, List.findIdx.go]; exact LeL.cons (Le.refl _) (LeL.cons (Le.refl _) LeL.nil)) hn rfl ?_
  refine Ops.god tab_ok follows_ok Try.func55 60 ?_; simp only [putBack, drun, aops, aone, aop, aput, Y6, Y7]
  refine Ops.pure .free rfl rfl hp (by simp only [aev, Y4, Y1, Y2, Yf, Ye, Y3, Yd, Y0]; (repeat' first | exact .refl _ | apply LeR.tup | apply Le.agg | constructor)) (by simp [belL, AV.bel, hT.1]) (by simp [AV.bel, belL, belLL, votesA, hD1, q9.1, hT.1]) ?_
  refine Ops.god tab_ok follows_ok Try.func55 60 ?_; simp only [aops, aone, aop, needs, ext, aev, aput, aupd, ok1, Y4, Y6, Y7, Y1, Y2, Y5, Y3, Yt, Yr, Nat.reduceAdd, Yp, Y0, Y8]
  refine Ops.invokeB .free rfl rfl meth_parts (js := [1]) (by decide) (LentAll.cons rfl (pp_lent _ _ _) LentAll.nil) (lent1 (pp_lent _ _ _)) rfl (by simp [aev, amongL, amongLL, AV.among, votesA, hA1, q9.2.1, hT.2.1]) (by simp only [Yf, Ye, aev, votesA, Y4, Y1, Y2, Yp, beq_self_eq_true, Y0, cond_true, renL, renLL, AV.ren, hR, hT.2.2, q9.2.2, List.idxOf, List.findIdx, List.findIdx.go]; exact LeL.cons (Le.refl _) (LeL.cons (Le.refl _) LeL.nil)) ht rfl ?_
  refine Ops.god tab_ok follows_ok Try.func55 60 ?_; simp only [Try.results55, putBack, pp, drun, aops, aone, afin, ares, aresL, ares1, aresOk, aresOk1, aop, needs, ext, aev, aput, aupd, aload, afieldAddr, tab_85, tab_145, ok1, cellsAs, TI.agg, Y4, Yb, Yc, Y6, Y7, Ya, Y9, Y1, Y2, Yi, Yg, Yj, Y5, Y3, Yt, Yu, Yr, Nat.reduceAdd, Nat.reduceLeDiff, Yp, Yq, Y0, Y8]
  ((repeat' apply And.intro) <;> try first | rfl | omega | (unfold I64; omega))
  all_goals (repeat' first | exact .refl _ | apply LeR.tup | apply Le.agg | constructor)
theorem written_4 (l : Ltr) (hk : l.kind = 4) (h : smL l) : ASpec Try.prog 55 [.agg (letC l)] (bytesA (wrL l)) := by
  obtain ⟨h1, h2, h3, h4, h5, h6, h7, h8, h9, h10, h11, h12, h13, h14, h15, h16, h17, h18, h19⟩ := h
  have q4 : Pln (rpsA l.cert :: (accC l.vote ++ (votesA l.proof :: (rpC l.r ++ (sumC l.sum ++ (ordC l.o ++ rplC l.x)))))) := .cons (fun _ => rfl) (fun _ => rfl) (fun _ => rfl) (Pln.d5 l)
  have q3 : Pln (.str l.value :: rpsA l.cert :: (accC l.vote ++ (votesA l.proof :: (rpC l.r ++ (sumC l.sum ++ (ordC l.o ++ rplC l.x)))))) := .cons (fun _ => rfl) (fun _ => rfl) (fun _ => rfl) q4
  have q2 : Pln (.int .i64 l.view :: .str l.value :: rpsA l.cert :: (accC l.vote ++ (votesA l.proof :: (rpC l.r ++ (sumC l.sum ++ (ordC l.o ++ rplC l.x)))))) := .cons (fun _ => rfl) (fun _ => rfl) (fun _ => rfl) q3
  have q1 : Pln (.int .i64 l.slot :: .int .i64 l.view :: .str l.value :: rpsA l.cert :: (accC l.vote ++ (votesA l.proof :: (rpC l.r ++ (sumC l.sum ++ (ordC l.o ++ rplC l.x)))))) := .cons (fun _ => rfl) (fun _ => rfl) (fun _ => rfl) q2
  have hn := number_wn 4 (letT l) (by unfold I64; omega)
  have hp := letparts_4 (letT l) l.r (sumC l.sum ++ (ordC l.o ++ rplC l.x)) rfl (Pln.d10 l)
  skip
  have hlen : (bytesP [(148, .agg [.rptr (.int .i64 l.slot :: .int .i64 l.view :: .str l.value :: rpsA l.cert :: (accC l.vote ++ (votesA l.proof :: (rpC l.r ++ (sumC l.sum ++ (ordC l.o ++ rplC l.x))))))], encN (zig l.slot)), (171, .psl 1 ((reportL l.r (sumC l.sum ++ (ordC l.o ++ rplC l.x))).map partC), reportB l.r)]).length ≤ 290000 := by
    have e1 := enc9 _ h1
    have e2 := enc9 _ h2
    have e3 := enc9 _ h3
    have e4 := reportB_le l.r h12
    simp only [bytesP, Yf, Ye, List.flatten_cons, List.flatten_nil, List.length_append, Y9]
    omega
  have ht := parts_p 300000 [(148, .agg [.rptr (.int .i64 l.slot :: .int .i64 l.view :: .str l.value :: rpsA l.cert :: (accC l.vote ++ (votesA l.proof :: (rpC l.r ++ (sumC l.sum ++ (ordC l.o ++ rplC l.x))))))], encN (zig l.slot)), (171, .psl 1 ((reportL l.r (sumC l.sum ++ (ordC l.o ++ rplC l.x))).map partC), reportB l.r)] (encN (zig 4)) (by simp) (by have := enc9 4 (by unfold I64; omega); omega) (by
    intro p hp
    simp only [List.mem_cons, List.not_mem_nil, or_false] at hp
    rcases hp with rfl | rfl
    · exact OkP.mono (numP h2 q2) (by decide)
    · exact OkP.mono (rP l h12 h13) (by decide)
  )
  have hb : encN (zig 4) ++ bytesP [(148, .agg [.rptr (.int .i64 l.slot :: .int .i64 l.view :: .str l.value :: rpsA l.cert :: (accC l.vote ++ (votesA l.proof :: (rpC l.r ++ (sumC l.sum ++ (ordC l.o ++ rplC l.x))))))], encN (zig l.slot)), (171, .psl 1 ((reportL l.r (sumC l.sum ++ (ordC l.o ++ rplC l.x))).map partC), reportB l.r)] = wrL l := by unfold wrL wrB bytesP; rw [hk]; simp
  rw [hb] at ht
  have hc : (.agg (letC l) : AV) = .agg (.int .i64 4 :: letT l) := by unfold letC; rw [hk]
  rw [hc]
  have hT := Pln.let_ l
  have hD : ∀ d n, belL n ((letT l).drop d) = true := fun d n => (hT.drop d).1 n
  have hA : ∀ d js, amongL js ((letT l).drop d) = true := fun d n => (hT.drop d).2.1 n
  have hR : ∀ d js, renL js ((letT l).drop d) = (letT l).drop d := fun d n => (hT.drop d).2.2 n
  have hD1 : belL 0 (letT l).tail = true := by have := hD 1 0; simpa using this
  have hA1 : amongL [1] (letT l).tail = true := by have := hA 1 [1]; simpa using this
  have q9 := Pln.d9 l
  have q10 := Pln.d10 l
  have qq := Pln.d10 l
  refine ⟨⟨_, Try.func55, by kernel_rfl, rfl⟩, ACall.of Try.func55 rfl fun c0 hc0 => ?_⟩; simp only [Try.ntmps55, Ya, Y9, Nat.reduceAdd, Nat.reduceSub, Ym, Yn, Y5, Y3]; refine Run.god tab_ok follows_ok Try.func55 2 ?_; simp only [drun, aops, aone, aop, needs, ext, aev, aconst, aput, aupd, ok1, AV.cells, AV.whole, Y4, Y6, Y7, Y9, Y1, Y5, Y3, Yt, Ys, Yr, Y0, Y8]
  refine Run.weak (Weak.freeze 1 0 _ rfl rfl) ?_
  refine Run.god tab_ok follows_ok Try.func55 60 ?_; simp only [drun, aops, aone, aop, needs, ext, aev, aconst, aput, aupd, afieldAddr, abuild, tab_83, tab_145, tab_146, tab_148, ok1, lay, AV.cells, AV.whole, Y4, Yb, Yc, Y6, Y7, Ya, Y9, Y1, Y2, Yi, Yh, Yj, Yl, Yf, Ye, Y5, Y3, Yd, Yt, Yu, Ys, Yr, Nat.reduceAdd, Yp, forall_const, reduceCtorEq, false_implies, implies_true, Yv, Y0, Y8]
  refine Ops.callB .free rfl rfl (js := [1]) (by decide) (LentAll.cons rfl (LentB.box_ [.nils, .bool false, .int .i64 0] rfl) LentAll.nil) (lent1 (pp_lent _ _ _)) rfl (by simp [aev, amongL, AV.among, hT.2.1]) (by simp only [Yf, Ye, aev, Y4, Y1, Y2, Y3, Yd, Yp, beq_self_eq_true, Y0, cond_true, renL, AV.ren, hT.2.2, List.idxOf, List.findIdx, List.findIdx.go]; exact LeL.cons (Le.refl _) (LeL.cons (Le.refl _) LeL.nil)) hn rfl ?_
  refine Ops.god tab_ok follows_ok Try.func55 60 ?_; simp only [putBack, drun, aops, aone, aop, aput, Y6, Y7]
  refine Ops.pure .free rfl rfl hp (by simp only [aev, Y4, Y1, Y2, Yf, Ye, Y3, Yd, Y0]; (repeat' first | exact .refl _ | apply LeR.tup | apply Le.agg | constructor)) (by simp [belL, AV.bel, hT.1]) (by simp [AV.bel, belL, belLL, partC, reportL, votesA, hD1, q10.1]) ?_
  refine Ops.god tab_ok follows_ok Try.func55 60 ?_; simp only [aops, aone, aop, needs, ext, aev, aput, aupd, ok1, Y4, Y6, Y7, Y1, Y2, Y5, Y3, Yt, Yr, Nat.reduceAdd, Yp, Y0, Y8]
  refine Ops.invokeB .free rfl rfl meth_parts (js := [1]) (by decide) (LentAll.cons rfl (pp_lent _ _ _) LentAll.nil) (lent1 (pp_lent _ _ _)) rfl (by simp [aev, amongL, amongLL, AV.among, partC, reportL, votesA, hA1, q10.2.1]) (by simp only [Yf, Ye, aev, partC, reportL, votesA, Y4, Y1, Y2, Yp, beq_self_eq_true, Y0, cond_true, renL, renLL, AV.ren, hR, q10.2.2, List.idxOf, List.findIdx, List.findIdx.go]; exact LeL.cons (Le.refl _) (LeL.cons (Le.refl _) LeL.nil)) ht rfl ?_
  refine Ops.god tab_ok follows_ok Try.func55 60 ?_; simp only [Try.results55, putBack, pp, drun, aops, aone, afin, ares, aresL, ares1, aresOk, aresOk1, aop, needs, ext, aev, aput, aupd, aload, afieldAddr, tab_85, tab_145, ok1, cellsAs, TI.agg, Y4, Yb, Yc, Y6, Y7, Ya, Y9, Y1, Y2, Yi, Yg, Yj, Y5, Y3, Yt, Yu, Yr, Nat.reduceAdd, Nat.reduceLeDiff, Yp, Yq, Y0, Y8]
  ((repeat' apply And.intro) <;> try first | rfl | omega | (unfold I64; omega))
  all_goals (repeat' first | exact .refl _ | apply LeR.tup | apply Le.agg | constructor)
theorem written_5 (l : Ltr) (hk : l.kind = 5) (h : smL l) : ASpec Try.prog 55 [.agg (letC l)] (bytesA (wrL l)) := by
  obtain ⟨h1, h2, h3, h4, h5, h6, h7, h8, h9, h10, h11, h12, h13, h14, h15, h16, h17, h18, h19⟩ := h
  have q4 : Pln (rpsA l.cert :: (accC l.vote ++ (votesA l.proof :: (rpC l.r ++ (sumC l.sum ++ (ordC l.o ++ rplC l.x)))))) := .cons (fun _ => rfl) (fun _ => rfl) (fun _ => rfl) (Pln.d5 l)
  have q3 : Pln (.str l.value :: rpsA l.cert :: (accC l.vote ++ (votesA l.proof :: (rpC l.r ++ (sumC l.sum ++ (ordC l.o ++ rplC l.x)))))) := .cons (fun _ => rfl) (fun _ => rfl) (fun _ => rfl) q4
  have q2 : Pln (.int .i64 l.view :: .str l.value :: rpsA l.cert :: (accC l.vote ++ (votesA l.proof :: (rpC l.r ++ (sumC l.sum ++ (ordC l.o ++ rplC l.x)))))) := .cons (fun _ => rfl) (fun _ => rfl) (fun _ => rfl) q3
  have q1 : Pln (.int .i64 l.slot :: .int .i64 l.view :: .str l.value :: rpsA l.cert :: (accC l.vote ++ (votesA l.proof :: (rpC l.r ++ (sumC l.sum ++ (ordC l.o ++ rplC l.x)))))) := .cons (fun _ => rfl) (fun _ => rfl) (fun _ => rfl) q2
  have hn := number_wn 5 (letT l) (by unfold I64; omega)
  have hp := letparts_5 (letT l)
  skip
  have hlen : (bytesP [(148, .agg [.rptr (.int .i64 l.frm :: (.int .i64 l.slot :: .int .i64 l.view :: .str l.value :: rpsA l.cert :: (accC l.vote ++ (votesA l.proof :: (rpC l.r ++ (sumC l.sum ++ (ordC l.o ++ rplC l.x)))))))], encN (zig l.frm)), (148, .agg [.rptr (.int .i64 l.slot :: .int .i64 l.view :: .str l.value :: rpsA l.cert :: (accC l.vote ++ (votesA l.proof :: (rpC l.r ++ (sumC l.sum ++ (ordC l.o ++ rplC l.x))))))], encN (zig l.slot)), (165, .agg [.rptr (.str l.value :: rpsA l.cert :: (accC l.vote ++ (votesA l.proof :: (rpC l.r ++ (sumC l.sum ++ (ordC l.o ++ rplC l.x))))))], encT l.value)]).length ≤ 290000 := by
    have e1 := enc9 _ h1
    have e2 := enc9 _ h2
    have e3 := enc9 _ h3
    have e4 := encT_le l.value (by omega)
    simp only [bytesP, Yf, Ye, List.flatten_cons, List.flatten_nil, List.length_append, Y9]
    omega
  have ht := parts_p 300000 [(148, .agg [.rptr (.int .i64 l.frm :: (.int .i64 l.slot :: .int .i64 l.view :: .str l.value :: rpsA l.cert :: (accC l.vote ++ (votesA l.proof :: (rpC l.r ++ (sumC l.sum ++ (ordC l.o ++ rplC l.x)))))))], encN (zig l.frm)), (148, .agg [.rptr (.int .i64 l.slot :: .int .i64 l.view :: .str l.value :: rpsA l.cert :: (accC l.vote ++ (votesA l.proof :: (rpC l.r ++ (sumC l.sum ++ (ordC l.o ++ rplC l.x))))))], encN (zig l.slot)), (165, .agg [.rptr (.str l.value :: rpsA l.cert :: (accC l.vote ++ (votesA l.proof :: (rpC l.r ++ (sumC l.sum ++ (ordC l.o ++ rplC l.x))))))], encT l.value)] (encN (zig 5)) (by simp) (by have := enc9 5 (by unfold I64; omega); omega) (by
    intro p hp
    simp only [List.mem_cons, List.not_mem_nil, or_false] at hp
    rcases hp with rfl | rfl | rfl
    · exact OkP.mono (numP h1 q1) (by decide)
    · exact OkP.mono (numP h2 q2) (by decide)
    · exact OkP.mono (textP (by omega) q4) (by decide)
  )
  have hb : encN (zig 5) ++ bytesP [(148, .agg [.rptr (.int .i64 l.frm :: (.int .i64 l.slot :: .int .i64 l.view :: .str l.value :: rpsA l.cert :: (accC l.vote ++ (votesA l.proof :: (rpC l.r ++ (sumC l.sum ++ (ordC l.o ++ rplC l.x)))))))], encN (zig l.frm)), (148, .agg [.rptr (.int .i64 l.slot :: .int .i64 l.view :: .str l.value :: rpsA l.cert :: (accC l.vote ++ (votesA l.proof :: (rpC l.r ++ (sumC l.sum ++ (ordC l.o ++ rplC l.x))))))], encN (zig l.slot)), (165, .agg [.rptr (.str l.value :: rpsA l.cert :: (accC l.vote ++ (votesA l.proof :: (rpC l.r ++ (sumC l.sum ++ (ordC l.o ++ rplC l.x))))))], encT l.value)] = wrL l := by unfold wrL wrB bytesP; rw [hk]; simp
  rw [hb] at ht
  have hc : (.agg (letC l) : AV) = .agg (.int .i64 5 :: letT l) := by unfold letC; rw [hk]
  rw [hc]
  have hT := Pln.let_ l
  have hD : ∀ d n, belL n ((letT l).drop d) = true := fun d n => (hT.drop d).1 n
  have hA : ∀ d js, amongL js ((letT l).drop d) = true := fun d n => (hT.drop d).2.1 n
  have hR : ∀ d js, renL js ((letT l).drop d) = (letT l).drop d := fun d n => (hT.drop d).2.2 n
  have hD1 : belL 0 (letT l).tail = true := by have := hD 1 0; simpa using this
  have hA1 : amongL [1] (letT l).tail = true := by have := hA 1 [1]; simpa using this
  have q9 := Pln.d9 l
  have q10 := Pln.d10 l
  skip
  refine ⟨⟨_, Try.func55, by kernel_rfl, rfl⟩, ACall.of Try.func55 rfl fun c0 hc0 => ?_⟩; simp only [Try.ntmps55, Ya, Y9, Nat.reduceAdd, Nat.reduceSub, Ym, Yn, Y5, Y3]; refine Run.god tab_ok follows_ok Try.func55 2 ?_; simp only [drun, aops, aone, aop, needs, ext, aev, aconst, aput, aupd, ok1, AV.cells, AV.whole, Y4, Y6, Y7, Y9, Y1, Y5, Y3, Yt, Ys, Yr, Y0, Y8]
  refine Run.weak (Weak.freeze 1 0 _ rfl rfl) ?_
  refine Run.god tab_ok follows_ok Try.func55 60 ?_; simp only [drun, aops, aone, aop, needs, ext, aev, aconst, aput, aupd, afieldAddr, abuild, tab_83, tab_145, tab_146, tab_148, ok1, lay, AV.cells, AV.whole, Y4, Yb, Yc, Y6, Y7, Ya, Y9, Y1, Y2, Yi, Yh, Yj, Yl, Yf, Ye, Y5, Y3, Yd, Yt, Yu, Ys, Yr, Nat.reduceAdd, Yp, forall_const, reduceCtorEq, false_implies, implies_true, Yv, Y0, Y8]
  refine Ops.callB .free rfl rfl (js := [1]) (by decide) (LentAll.cons rfl (LentB.box_ [.nils, .bool false, .int .i64 0] rfl) LentAll.nil) (lent1 (pp_lent _ _ _)) rfl (by simp [aev, amongL, AV.among, hT.2.1]) (by simp only [Yf, Ye, aev, Y4, Y1, Y2, Y3, Yd, Yp, beq_self_eq_true, Y0, cond_true, renL, AV.ren, hT.2.2, List.idxOf, List.findIdx, List.findIdx.go]; exact LeL.cons (Le.refl _) (LeL.cons (Le.refl _) LeL.nil)) hn rfl ?_
  refine Ops.god tab_ok follows_ok Try.func55 60 ?_; simp only [putBack, drun, aops, aone, aop, aput, Y6, Y7]
  refine Ops.pure .free rfl rfl hp (by simp only [aev, Y4, Y1, Y2, Yf, Ye, Y3, Yd, Y0]; (repeat' first | exact .refl _ | apply LeR.tup | apply Le.agg | constructor)) (by simp [belL, AV.bel, hT.1]) (by simp [AV.bel, belL, belLL, hD, hD1, hT.1]) ?_
  refine Ops.god tab_ok follows_ok Try.func55 60 ?_; simp only [aops, aone, aop, needs, ext, aev, aput, aupd, ok1, Y4, Y6, Y7, Y1, Y2, Y5, Y3, Yt, Yr, Nat.reduceAdd, Yp, Y0, Y8]
  refine Ops.invokeB .free rfl rfl meth_parts (js := [1]) (by decide) (LentAll.cons rfl (pp_lent _ _ _) LentAll.nil) (lent1 (pp_lent _ _ _)) rfl (by simp [aev, amongL, amongLL, AV.among, hA, hA1, hT.2.1]) (by simp only [Yf, Ye, aev, votesA, Y4, Y1, Y2, Yp, beq_self_eq_true, Y0, cond_true, renL, renLL, AV.ren, hR, hT.2.2, List.idxOf, List.findIdx, List.findIdx.go]; exact LeL.cons (Le.refl _) (LeL.cons (Le.refl _) LeL.nil)) ht rfl ?_
  refine Ops.god tab_ok follows_ok Try.func55 60 ?_; simp only [Try.results55, putBack, pp, drun, aops, aone, afin, ares, aresL, ares1, aresOk, aresOk1, aop, needs, ext, aev, aput, aupd, aload, afieldAddr, tab_85, tab_145, ok1, cellsAs, TI.agg, Y4, Yb, Yc, Y6, Y7, Ya, Y9, Y1, Y2, Yi, Yg, Yj, Y5, Y3, Yt, Yu, Yr, Nat.reduceAdd, Nat.reduceLeDiff, Yp, Yq, Y0, Y8]
  ((repeat' apply And.intro) <;> try first | rfl | omega | (unfold I64; omega))
  all_goals (repeat' first | exact .refl _ | apply LeR.tup | apply Le.agg | constructor)
theorem written_6 (l : Ltr) (hk : l.kind = 6) (h : smL l) : ASpec Try.prog 55 [.agg (letC l)] (bytesA (wrL l)) := by
  obtain ⟨h1, h2, h3, h4, h5, h6, h7, h8, h9, h10, h11, h12, h13, h14, h15, h16, h17, h18, h19⟩ := h
  have q4 : Pln (rpsA l.cert :: (accC l.vote ++ (votesA l.proof :: (rpC l.r ++ (sumC l.sum ++ (ordC l.o ++ rplC l.x)))))) := .cons (fun _ => rfl) (fun _ => rfl) (fun _ => rfl) (Pln.d5 l)
  have q3 : Pln (.str l.value :: rpsA l.cert :: (accC l.vote ++ (votesA l.proof :: (rpC l.r ++ (sumC l.sum ++ (ordC l.o ++ rplC l.x)))))) := .cons (fun _ => rfl) (fun _ => rfl) (fun _ => rfl) q4
  have q2 : Pln (.int .i64 l.view :: .str l.value :: rpsA l.cert :: (accC l.vote ++ (votesA l.proof :: (rpC l.r ++ (sumC l.sum ++ (ordC l.o ++ rplC l.x)))))) := .cons (fun _ => rfl) (fun _ => rfl) (fun _ => rfl) q3
  have q1 : Pln (.int .i64 l.slot :: .int .i64 l.view :: .str l.value :: rpsA l.cert :: (accC l.vote ++ (votesA l.proof :: (rpC l.r ++ (sumC l.sum ++ (ordC l.o ++ rplC l.x)))))) := .cons (fun _ => rfl) (fun _ => rfl) (fun _ => rfl) q2
  have hn := number_wn 6 (letT l) (by unfold I64; omega)
  have hp := letparts_6 (letT l)
  skip
  have hlen : (bytesP [(148, .agg [.rptr (.int .i64 l.frm :: (.int .i64 l.slot :: .int .i64 l.view :: .str l.value :: rpsA l.cert :: (accC l.vote ++ (votesA l.proof :: (rpC l.r ++ (sumC l.sum ++ (ordC l.o ++ rplC l.x)))))))], encN (zig l.frm)), (148, .agg [.rptr (.int .i64 l.view :: .str l.value :: rpsA l.cert :: (accC l.vote ++ (votesA l.proof :: (rpC l.r ++ (sumC l.sum ++ (ordC l.o ++ rplC l.x))))))], encN (zig l.view))]).length ≤ 290000 := by
    have e1 := enc9 _ h1
    have e2 := enc9 _ h2
    have e3 := enc9 _ h3
    skip
    simp only [bytesP, Yf, Ye, List.flatten_cons, List.flatten_nil, List.length_append, Y9]
    omega
  have ht := parts_p 300000 [(148, .agg [.rptr (.int .i64 l.frm :: (.int .i64 l.slot :: .int .i64 l.view :: .str l.value :: rpsA l.cert :: (accC l.vote ++ (votesA l.proof :: (rpC l.r ++ (sumC l.sum ++ (ordC l.o ++ rplC l.x)))))))], encN (zig l.frm)), (148, .agg [.rptr (.int .i64 l.view :: .str l.value :: rpsA l.cert :: (accC l.vote ++ (votesA l.proof :: (rpC l.r ++ (sumC l.sum ++ (ordC l.o ++ rplC l.x))))))], encN (zig l.view))] (encN (zig 6)) (by simp) (by have := enc9 6 (by unfold I64; omega); omega) (by
    intro p hp
    simp only [List.mem_cons, List.not_mem_nil, or_false] at hp
    rcases hp with rfl | rfl
    · exact OkP.mono (numP h1 q1) (by decide)
    · exact OkP.mono (numP h3 q3) (by decide)
  )
  have hb : encN (zig 6) ++ bytesP [(148, .agg [.rptr (.int .i64 l.frm :: (.int .i64 l.slot :: .int .i64 l.view :: .str l.value :: rpsA l.cert :: (accC l.vote ++ (votesA l.proof :: (rpC l.r ++ (sumC l.sum ++ (ordC l.o ++ rplC l.x)))))))], encN (zig l.frm)), (148, .agg [.rptr (.int .i64 l.view :: .str l.value :: rpsA l.cert :: (accC l.vote ++ (votesA l.proof :: (rpC l.r ++ (sumC l.sum ++ (ordC l.o ++ rplC l.x))))))], encN (zig l.view))] = wrL l := by unfold wrL wrB bytesP; rw [hk]; simp
  rw [hb] at ht
  have hc : (.agg (letC l) : AV) = .agg (.int .i64 6 :: letT l) := by unfold letC; rw [hk]
  rw [hc]
  have hT := Pln.let_ l
  have hD : ∀ d n, belL n ((letT l).drop d) = true := fun d n => (hT.drop d).1 n
  have hA : ∀ d js, amongL js ((letT l).drop d) = true := fun d n => (hT.drop d).2.1 n
  have hR : ∀ d js, renL js ((letT l).drop d) = (letT l).drop d := fun d n => (hT.drop d).2.2 n
  have hD1 : belL 0 (letT l).tail = true := by have := hD 1 0; simpa using this
  have hA1 : amongL [1] (letT l).tail = true := by have := hA 1 [1]; simpa using this
  have q9 := Pln.d9 l
  have q10 := Pln.d10 l
  skip
  refine ⟨⟨_, Try.func55, by kernel_rfl, rfl⟩, ACall.of Try.func55 rfl fun c0 hc0 => ?_⟩; simp only [Try.ntmps55, Ya, Y9, Nat.reduceAdd, Nat.reduceSub, Ym, Yn, Y5, Y3]; refine Run.god tab_ok follows_ok Try.func55 2 ?_; simp only [drun, aops, aone, aop, needs, ext, aev, aconst, aput, aupd, ok1, AV.cells, AV.whole, Y4, Y6, Y7, Y9, Y1, Y5, Y3, Yt, Ys, Yr, Y0, Y8]
  refine Run.weak (Weak.freeze 1 0 _ rfl rfl) ?_
  refine Run.god tab_ok follows_ok Try.func55 60 ?_; simp only [drun, aops, aone, aop, needs, ext, aev, aconst, aput, aupd, afieldAddr, abuild, tab_83, tab_145, tab_146, tab_148, ok1, lay, AV.cells, AV.whole, Y4, Yb, Yc, Y6, Y7, Ya, Y9, Y1, Y2, Yi, Yh, Yj, Yl, Yf, Ye, Y5, Y3, Yd, Yt, Yu, Ys, Yr, Nat.reduceAdd, Yp, forall_const, reduceCtorEq, false_implies, implies_true, Yv, Y0, Y8]
  refine Ops.callB .free rfl rfl (js := [1]) (by decide) (LentAll.cons rfl (LentB.box_ [.nils, .bool false, .int .i64 0] rfl) LentAll.nil) (lent1 (pp_lent _ _ _)) rfl (by simp [aev, amongL, AV.among, hT.2.1]) (by simp only [Yf, Ye, aev, Y4, Y1, Y2, Y3, Yd, Yp, beq_self_eq_true, Y0, cond_true, renL, AV.ren, hT.2.2, List.idxOf, List.findIdx, List.findIdx.go]; exact LeL.cons (Le.refl _) (LeL.cons (Le.refl _) LeL.nil)) hn rfl ?_
  refine Ops.god tab_ok follows_ok Try.func55 60 ?_; simp only [putBack, drun, aops, aone, aop, aput, Y6, Y7]
  refine Ops.pure .free rfl rfl hp (by simp only [aev, Y4, Y1, Y2, Yf, Ye, Y3, Yd, Y0]; (repeat' first | exact .refl _ | apply LeR.tup | apply Le.agg | constructor)) (by simp [belL, AV.bel, hT.1]) (by simp [AV.bel, belL, belLL, hD, hT.1]) ?_
  refine Ops.god tab_ok follows_ok Try.func55 60 ?_; simp only [aops, aone, aop, needs, ext, aev, aput, aupd, ok1, Y4, Y6, Y7, Y1, Y2, Y5, Y3, Yt, Yr, Nat.reduceAdd, Yp, Y0, Y8]
  refine Ops.invokeB .free rfl rfl meth_parts (js := [1]) (by decide) (LentAll.cons rfl (pp_lent _ _ _) LentAll.nil) (lent1 (pp_lent _ _ _)) rfl (by simp [aev, amongL, amongLL, AV.among, hA, hT.2.1]) (by simp only [Yf, Ye, aev, votesA, Y4, Y1, Y2, Yp, beq_self_eq_true, Y0, cond_true, renL, renLL, AV.ren, hR, hT.2.2, List.idxOf, List.findIdx, List.findIdx.go]; exact LeL.cons (Le.refl _) (LeL.cons (Le.refl _) LeL.nil)) ht rfl ?_
  refine Ops.god tab_ok follows_ok Try.func55 60 ?_; simp only [Try.results55, putBack, pp, drun, aops, aone, afin, ares, aresL, ares1, aresOk, aresOk1, aop, needs, ext, aev, aput, aupd, aload, afieldAddr, tab_85, tab_145, ok1, cellsAs, TI.agg, Y4, Yb, Yc, Y6, Y7, Ya, Y9, Y1, Y2, Yi, Yg, Yj, Y5, Y3, Yt, Yu, Yr, Nat.reduceAdd, Nat.reduceLeDiff, Yp, Yq, Y0, Y8]
  ((repeat' apply And.intro) <;> try first | rfl | omega | (unfold I64; omega))
  all_goals (repeat' first | exact .refl _ | apply LeR.tup | apply Le.agg | constructor)
theorem written_9 (l : Ltr) (hk : l.kind = 9) (h : smL l) : ASpec Try.prog 55 [.agg (letC l)] (bytesA (wrL l)) := by
  obtain ⟨h1, h2, h3, h4, h5, h6, h7, h8, h9, h10, h11, h12, h13, h14, h15, h16, h17, h18, h19⟩ := h
  have q4 : Pln (rpsA l.cert :: (accC l.vote ++ (votesA l.proof :: (rpC l.r ++ (sumC l.sum ++ (ordC l.o ++ rplC l.x)))))) := .cons (fun _ => rfl) (fun _ => rfl) (fun _ => rfl) (Pln.d5 l)
  have q3 : Pln (.str l.value :: rpsA l.cert :: (accC l.vote ++ (votesA l.proof :: (rpC l.r ++ (sumC l.sum ++ (ordC l.o ++ rplC l.x)))))) := .cons (fun _ => rfl) (fun _ => rfl) (fun _ => rfl) q4
  have q2 : Pln (.int .i64 l.view :: .str l.value :: rpsA l.cert :: (accC l.vote ++ (votesA l.proof :: (rpC l.r ++ (sumC l.sum ++ (ordC l.o ++ rplC l.x)))))) := .cons (fun _ => rfl) (fun _ => rfl) (fun _ => rfl) q3
  have q1 : Pln (.int .i64 l.slot :: .int .i64 l.view :: .str l.value :: rpsA l.cert :: (accC l.vote ++ (votesA l.proof :: (rpC l.r ++ (sumC l.sum ++ (ordC l.o ++ rplC l.x)))))) := .cons (fun _ => rfl) (fun _ => rfl) (fun _ => rfl) q2
  have hn := number_wn 9 (letT l) (by unfold I64; omega)
  have hp := letparts_9 (letT l)
  rw [let_drop55 l h14] at hp
  have hlen : (bytesP [(148, .agg [.rptr (.int .i64 l.frm :: (.int .i64 l.slot :: .int .i64 l.view :: .str l.value :: rpsA l.cert :: (accC l.vote ++ (votesA l.proof :: (rpC l.r ++ (sumC l.sum ++ (ordC l.o ++ rplC l.x)))))))], encN (zig l.frm)), (185, .agg [.rptr (rplC l.x)], putR l.x)]).length ≤ 80000 := by
    have e1 := enc9 _ h1
    have e2 := enc9 _ h2
    have e3 := enc9 _ h3
    have e4 := encT_le l.x.s (by omega)
    have e5 := encZs_le [l.x.a, l.x.b, l.x.e, l.x.x] (fun n hn => by simp only [List.mem_cons, List.not_mem_nil, or_false] at hn; rcases hn with e | e | e | e <;> (subst e; first | exact h16.1 | exact h16.2.1 | exact h16.2.2.1 | exact h16.2.2.2.1))
    have e6 := encRow_le l.x.l (by omega)
    have e7 := encN_le l.x.l.length (by have := tot_length l.x.l; omega)
    have e8 : (putR l.x).length = (encZs [l.x.a, l.x.b, l.x.e, l.x.x]).length + (encT l.x.s).length + ((encN l.x.l.length).length + (encRow l.x.l).length) := by unfold putR; rw [encL_row]; simp only [List.length_append]
    simp only [Ya, Y9] at e5
    simp only [bytesP, Yf, Ye, List.flatten_cons, List.flatten_nil, List.length_append, Y9]
    omega
  have ht := parts_p 90000 [(148, .agg [.rptr (.int .i64 l.frm :: (.int .i64 l.slot :: .int .i64 l.view :: .str l.value :: rpsA l.cert :: (accC l.vote ++ (votesA l.proof :: (rpC l.r ++ (sumC l.sum ++ (ordC l.o ++ rplC l.x)))))))], encN (zig l.frm)), (185, .agg [.rptr (rplC l.x)], putR l.x)] (encN (zig 9)) (by simp) (by have := enc9 9 (by unfold I64; omega); omega) (by
    intro p hp
    simp only [List.mem_cons, List.not_mem_nil, or_false] at hp
    rcases hp with rfl | rfl
    · exact OkP.mono (numP h1 q1) (by decide)
    · exact OkP.mono (xP l h16) (by decide)
  )
  have hb : encN (zig 9) ++ bytesP [(148, .agg [.rptr (.int .i64 l.frm :: (.int .i64 l.slot :: .int .i64 l.view :: .str l.value :: rpsA l.cert :: (accC l.vote ++ (votesA l.proof :: (rpC l.r ++ (sumC l.sum ++ (ordC l.o ++ rplC l.x)))))))], encN (zig l.frm)), (185, .agg [.rptr (rplC l.x)], putR l.x)] = wrL l := by unfold wrL wrB bytesP; rw [hk]; simp
  rw [hb] at ht
  have hc : (.agg (letC l) : AV) = .agg (.int .i64 9 :: letT l) := by unfold letC; rw [hk]
  rw [hc]
  have hT := Pln.let_ l
  have hD : ∀ d n, belL n ((letT l).drop d) = true := fun d n => (hT.drop d).1 n
  have hA : ∀ d js, amongL js ((letT l).drop d) = true := fun d n => (hT.drop d).2.1 n
  have hR : ∀ d js, renL js ((letT l).drop d) = (letT l).drop d := fun d n => (hT.drop d).2.2 n
  have hD1 : belL 0 (letT l).tail = true := by have := hD 1 0; simpa using this
  have hA1 : amongL [1] (letT l).tail = true := by have := hA 1 [1]; simpa using this
  have q9 := Pln.d9 l
  have q10 := Pln.d10 l
  have qq : Pln (rplC l.x) := ⟨fun _ => rfl, fun _ => rfl, fun _ => rfl⟩
  refine ⟨⟨_, Try.func55, by kernel_rfl, rfl⟩, ACall.of Try.func55 rfl fun c0 hc0 => ?_⟩; simp only [Try.ntmps55, Ya, Y9, Nat.reduceAdd, Nat.reduceSub, Ym, Yn, Y5, Y3]; refine Run.god tab_ok follows_ok Try.func55 2 ?_; simp only [drun, aops, aone, aop, needs, ext, aev, aconst, aput, aupd, ok1, AV.cells, AV.whole, Y4, Y6, Y7, Y9, Y1, Y5, Y3, Yt, Ys, Yr, Y0, Y8]
  refine Run.weak (Weak.freeze 1 0 _ rfl rfl) ?_
  refine Run.god tab_ok follows_ok Try.func55 60 ?_; simp only [drun, aops, aone, aop, needs, ext, aev, aconst, aput, aupd, afieldAddr, abuild, tab_83, tab_145, tab_146, tab_148, ok1, lay, AV.cells, AV.whole, Y4, Yb, Yc, Y6, Y7, Ya, Y9, Y1, Y2, Yi, Yh, Yj, Yl, Yf, Ye, Y5, Y3, Yd, Yt, Yu, Ys, Yr, Nat.reduceAdd, Yp, forall_const, reduceCtorEq, false_implies, implies_true, Yv, Y0, Y8]
  refine Ops.callB .free rfl rfl (js := [1]) (by decide) (LentAll.cons rfl (LentB.box_ [.nils, .bool false, .int .i64 0] rfl) LentAll.nil) (lent1 (pp_lent _ _ _)) rfl (by simp [aev, amongL, AV.among, hT.2.1]) (by simp only [Yf, Ye, aev, Y4, Y1, Y2, Y3, Yd, Yp, beq_self_eq_true, Y0, cond_true, renL, AV.ren, hT.2.2, List.idxOf, List.findIdx, List.findIdx.go]; exact LeL.cons (Le.refl _) (LeL.cons (Le.refl _) LeL.nil)) hn rfl ?_
  refine Ops.god tab_ok follows_ok Try.func55 60 ?_; simp only [putBack, drun, aops, aone, aop, aput, Y6, Y7]
  refine Ops.pure .free rfl rfl hp (by simp only [aev, Y4, Y1, Y2, Yf, Ye, Y3, Yd, Y0]; (repeat' first | exact .refl _ | apply LeR.tup | apply Le.agg | constructor)) (by simp [belL, AV.bel, hT.1]) (by simp [AV.bel, belL, belLL, hT.1, qq.1]) ?_
  refine Ops.god tab_ok follows_ok Try.func55 60 ?_; simp only [aops, aone, aop, needs, ext, aev, aput, aupd, ok1, Y4, Y6, Y7, Y1, Y2, Y5, Y3, Yt, Yr, Nat.reduceAdd, Yp, Y0, Y8]
  refine Ops.invokeB .free rfl rfl meth_parts (js := [1]) (by decide) (LentAll.cons rfl (pp_lent _ _ _) LentAll.nil) (lent1 (pp_lent _ _ _)) rfl (by simp [aev, amongL, amongLL, AV.among, hT.2.1, qq.2.1]) (by simp only [Yf, Ye, aev, votesA, Y4, Y1, Y2, Yp, beq_self_eq_true, Y0, cond_true, renL, renLL, AV.ren, hT.2.2, qq.2.2, List.idxOf, List.findIdx, List.findIdx.go]; exact LeL.cons (Le.refl _) (LeL.cons (Le.refl _) LeL.nil)) ht rfl ?_
  refine Ops.god tab_ok follows_ok Try.func55 60 ?_; simp only [Try.results55, putBack, pp, drun, aops, aone, afin, ares, aresL, ares1, aresOk, aresOk1, aop, needs, ext, aev, aput, aupd, aload, afieldAddr, tab_85, tab_145, ok1, cellsAs, TI.agg, Y4, Yb, Yc, Y6, Y7, Ya, Y9, Y1, Y2, Yi, Yg, Yj, Y5, Y3, Yt, Yu, Yr, Nat.reduceAdd, Nat.reduceLeDiff, Yp, Yq, Y0, Y8]
  ((repeat' apply And.intro) <;> try first | rfl | omega | (unfold I64; omega))
  all_goals (repeat' first | exact .refl _ | apply LeR.tup | apply Le.agg | constructor)
theorem written_10 (l : Ltr) (hk : l.kind = 10) (h : smL l) : ASpec Try.prog 55 [.agg (letC l)] (bytesA (wrL l)) := by
  obtain ⟨h1, h2, h3, h4, h5, h6, h7, h8, h9, h10, h11, h12, h13, h14, h15, h16, h17, h18, h19⟩ := h
  have q4 : Pln (rpsA l.cert :: (accC l.vote ++ (votesA l.proof :: (rpC l.r ++ (sumC l.sum ++ (ordC l.o ++ rplC l.x)))))) := .cons (fun _ => rfl) (fun _ => rfl) (fun _ => rfl) (Pln.d5 l)
  have q3 : Pln (.str l.value :: rpsA l.cert :: (accC l.vote ++ (votesA l.proof :: (rpC l.r ++ (sumC l.sum ++ (ordC l.o ++ rplC l.x)))))) := .cons (fun _ => rfl) (fun _ => rfl) (fun _ => rfl) q4
  have q2 : Pln (.int .i64 l.view :: .str l.value :: rpsA l.cert :: (accC l.vote ++ (votesA l.proof :: (rpC l.r ++ (sumC l.sum ++ (ordC l.o ++ rplC l.x)))))) := .cons (fun _ => rfl) (fun _ => rfl) (fun _ => rfl) q3
  have q1 : Pln (.int .i64 l.slot :: .int .i64 l.view :: .str l.value :: rpsA l.cert :: (accC l.vote ++ (votesA l.proof :: (rpC l.r ++ (sumC l.sum ++ (ordC l.o ++ rplC l.x)))))) := .cons (fun _ => rfl) (fun _ => rfl) (fun _ => rfl) q2
  have hn := number_wn 10 (letT l) (by unfold I64; omega)
  have hp := letparts_10 (letT l)
  skip
  have hlen : (bytesP [(148, .agg [.rptr (.int .i64 l.frm :: (.int .i64 l.slot :: .int .i64 l.view :: .str l.value :: rpsA l.cert :: (accC l.vote ++ (votesA l.proof :: (rpC l.r ++ (sumC l.sum ++ (ordC l.o ++ rplC l.x)))))))], encN (zig l.frm)), (148, .agg [.rptr (.int .i64 l.slot :: .int .i64 l.view :: .str l.value :: rpsA l.cert :: (accC l.vote ++ (votesA l.proof :: (rpC l.r ++ (sumC l.sum ++ (ordC l.o ++ rplC l.x))))))], encN (zig l.slot))]).length ≤ 290000 := by
    have e1 := enc9 _ h1
    have e2 := enc9 _ h2
    have e3 := enc9 _ h3
    skip
    simp only [bytesP, Yf, Ye, List.flatten_cons, List.flatten_nil, List.length_append, Y9]
    omega
  have ht := parts_p 300000 [(148, .agg [.rptr (.int .i64 l.frm :: (.int .i64 l.slot :: .int .i64 l.view :: .str l.value :: rpsA l.cert :: (accC l.vote ++ (votesA l.proof :: (rpC l.r ++ (sumC l.sum ++ (ordC l.o ++ rplC l.x)))))))], encN (zig l.frm)), (148, .agg [.rptr (.int .i64 l.slot :: .int .i64 l.view :: .str l.value :: rpsA l.cert :: (accC l.vote ++ (votesA l.proof :: (rpC l.r ++ (sumC l.sum ++ (ordC l.o ++ rplC l.x))))))], encN (zig l.slot))] (encN (zig 10)) (by simp) (by have := enc9 10 (by unfold I64; omega); omega) (by
    intro p hp
    simp only [List.mem_cons, List.not_mem_nil, or_false] at hp
    rcases hp with rfl | rfl
    · exact OkP.mono (numP h1 q1) (by decide)
    · exact OkP.mono (numP h2 q2) (by decide)
  )
  have hb : encN (zig 10) ++ bytesP [(148, .agg [.rptr (.int .i64 l.frm :: (.int .i64 l.slot :: .int .i64 l.view :: .str l.value :: rpsA l.cert :: (accC l.vote ++ (votesA l.proof :: (rpC l.r ++ (sumC l.sum ++ (ordC l.o ++ rplC l.x)))))))], encN (zig l.frm)), (148, .agg [.rptr (.int .i64 l.slot :: .int .i64 l.view :: .str l.value :: rpsA l.cert :: (accC l.vote ++ (votesA l.proof :: (rpC l.r ++ (sumC l.sum ++ (ordC l.o ++ rplC l.x))))))], encN (zig l.slot))] = wrL l := by unfold wrL wrB bytesP; rw [hk]; simp
  rw [hb] at ht
  have hc : (.agg (letC l) : AV) = .agg (.int .i64 10 :: letT l) := by unfold letC; rw [hk]
  rw [hc]
  have hT := Pln.let_ l
  have hD : ∀ d n, belL n ((letT l).drop d) = true := fun d n => (hT.drop d).1 n
  have hA : ∀ d js, amongL js ((letT l).drop d) = true := fun d n => (hT.drop d).2.1 n
  have hR : ∀ d js, renL js ((letT l).drop d) = (letT l).drop d := fun d n => (hT.drop d).2.2 n
  have hD1 : belL 0 (letT l).tail = true := by have := hD 1 0; simpa using this
  have hA1 : amongL [1] (letT l).tail = true := by have := hA 1 [1]; simpa using this
  have q9 := Pln.d9 l
  have q10 := Pln.d10 l
  skip
  refine ⟨⟨_, Try.func55, by kernel_rfl, rfl⟩, ACall.of Try.func55 rfl fun c0 hc0 => ?_⟩; simp only [Try.ntmps55, Ya, Y9, Nat.reduceAdd, Nat.reduceSub, Ym, Yn, Y5, Y3]; refine Run.god tab_ok follows_ok Try.func55 2 ?_; simp only [drun, aops, aone, aop, needs, ext, aev, aconst, aput, aupd, ok1, AV.cells, AV.whole, Y4, Y6, Y7, Y9, Y1, Y5, Y3, Yt, Ys, Yr, Y0, Y8]
  refine Run.weak (Weak.freeze 1 0 _ rfl rfl) ?_
  refine Run.god tab_ok follows_ok Try.func55 60 ?_; simp only [drun, aops, aone, aop, needs, ext, aev, aconst, aput, aupd, afieldAddr, abuild, tab_83, tab_145, tab_146, tab_148, ok1, lay, AV.cells, AV.whole, Y4, Yb, Yc, Y6, Y7, Ya, Y9, Y1, Y2, Yi, Yh, Yj, Yl, Yf, Ye, Y5, Y3, Yd, Yt, Yu, Ys, Yr, Nat.reduceAdd, Yp, forall_const, reduceCtorEq, false_implies, implies_true, Yv, Y0, Y8]
  refine Ops.callB .free rfl rfl (js := [1]) (by decide) (LentAll.cons rfl (LentB.box_ [.nils, .bool false, .int .i64 0] rfl) LentAll.nil) (lent1 (pp_lent _ _ _)) rfl (by simp [aev, amongL, AV.among, hT.2.1]) (by simp only [Yf, Ye, aev, Y4, Y1, Y2, Y3, Yd, Yp, beq_self_eq_true, Y0, cond_true, renL, AV.ren, hT.2.2, List.idxOf, List.findIdx, List.findIdx.go]; exact LeL.cons (Le.refl _) (LeL.cons (Le.refl _) LeL.nil)) hn rfl ?_
  refine Ops.god tab_ok follows_ok Try.func55 60 ?_; simp only [putBack, drun, aops, aone, aop, aput, Y6, Y7]
  refine Ops.pure .free rfl rfl hp (by simp only [aev, Y4, Y1, Y2, Yf, Ye, Y3, Yd, Y0]; (repeat' first | exact .refl _ | apply LeR.tup | apply Le.agg | constructor)) (by simp [belL, AV.bel, hT.1]) (by simp [AV.bel, belL, belLL, hD1, hT.1]) ?_
  refine Ops.god tab_ok follows_ok Try.func55 60 ?_; simp only [aops, aone, aop, needs, ext, aev, aput, aupd, ok1, Y4, Y6, Y7, Y1, Y2, Y5, Y3, Yt, Yr, Nat.reduceAdd, Yp, Y0, Y8]
  refine Ops.invokeB .free rfl rfl meth_parts (js := [1]) (by decide) (LentAll.cons rfl (pp_lent _ _ _) LentAll.nil) (lent1 (pp_lent _ _ _)) rfl (by simp [aev, amongL, amongLL, AV.among, hA1, hT.2.1]) (by simp only [Yf, Ye, aev, votesA, Y4, Y1, Y2, Yp, beq_self_eq_true, Y0, cond_true, renL, renLL, AV.ren, hR, hT.2.2, List.idxOf, List.findIdx, List.findIdx.go]; exact LeL.cons (Le.refl _) (LeL.cons (Le.refl _) LeL.nil)) ht rfl ?_
  refine Ops.god tab_ok follows_ok Try.func55 60 ?_; simp only [Try.results55, putBack, pp, drun, aops, aone, afin, ares, aresL, ares1, aresOk, aresOk1, aop, needs, ext, aev, aput, aupd, aload, afieldAddr, tab_85, tab_145, ok1, cellsAs, TI.agg, Y4, Yb, Yc, Y6, Y7, Ya, Y9, Y1, Y2, Yi, Yg, Yj, Y5, Y3, Yt, Yu, Yr, Nat.reduceAdd, Nat.reduceLeDiff, Yp, Yq, Y0, Y8]
  ((repeat' apply And.intro) <;> try first | rfl | omega | (unfold I64; omega))
  all_goals (repeat' first | exact .refl _ | apply LeR.tup | apply Le.agg | constructor)
theorem written_8 (l : Ltr) (hk : l.kind = 8) (h : smL l) : ASpec Try.prog 55 [.agg (letC l)] (bytesA (wrL l)) := by
  obtain ⟨h1, h2, h3, h4, h5, h6, h7, h8, h9, h10, h11, h12, h13, h14, h15, h16, h17, h18, h19⟩ := h
  have hn := number_wn 8 (letT l) (by unfold I64; omega)
  have hp := letparts_8 (letT l)
  rw [let_drop47 l h14] at hp
  have e8 := enc9 8 (by unfold I64; omega)
  have ht := asks_w (encN (zig 8)) l.o (rplC l.x) (by omega) h15
  have hb : encN (zig 8) ++ putO l.o = wrL l := by unfold wrL wrB; rw [hk]; simp
  rw [hb] at ht
  have hc : (.agg (letC l) : AV) = .agg (.int .i64 8 :: letT l) := by unfold letC; rw [hk]
  rw [hc]
  have hT := Pln.let_ l
  refine ⟨⟨_, Try.func55, by kernel_rfl, rfl⟩, ACall.of Try.func55 rfl fun c0 hc0 => ?_⟩; simp only [Try.ntmps55, Ya, Y9, Nat.reduceAdd, Nat.reduceSub, Ym, Yn, Y5, Y3]; refine Run.god tab_ok follows_ok Try.func55 2 ?_; simp only [drun, aops, aone, aop, needs, ext, aev, aconst, aput, aupd, ok1, AV.cells, AV.whole, Y4, Y6, Y7, Y9, Y1, Y5, Y3, Yt, Ys, Yr, Y0, Y8]
  refine Run.weak (Weak.freeze 1 0 _ rfl rfl) ?_
  refine Run.god tab_ok follows_ok Try.func55 60 ?_; simp only [drun, aops, aone, aop, needs, ext, aev, aconst, aput, aupd, afieldAddr, abuild, tab_83, tab_145, tab_146, tab_148, ok1, lay, AV.cells, AV.whole, Y4, Yb, Yc, Y6, Y7, Ya, Y9, Y1, Y2, Yi, Yh, Yj, Yl, Yf, Ye, Y5, Y3, Yd, Yt, Yu, Ys, Yr, Nat.reduceAdd, Yp, forall_const, reduceCtorEq, false_implies, implies_true, Yv, Y0, Y8]
  refine Ops.callB .free rfl rfl (js := [1]) (by decide) (LentAll.cons rfl (LentB.box_ [.nils, .bool false, .int .i64 0] rfl) LentAll.nil) (lent1 (pp_lent _ _ _)) rfl (by simp [aev, amongL, AV.among, hT.2.1]) (by simp only [Yf, Ye, aev, Y4, Y1, Y2, Y3, Yd, Yp, beq_self_eq_true, Y0, cond_true, renL, AV.ren, hT.2.2, List.idxOf, List.findIdx, List.findIdx.go]; exact LeL.cons (Le.refl _) (LeL.cons (Le.refl _) LeL.nil)) hn rfl ?_
  refine Ops.god tab_ok follows_ok Try.func55 60 ?_; simp only [putBack, drun, aops, aone, aop, aput, Y6, Y7]
  refine Ops.pure .free rfl rfl hp (by simp only [aev, Y4, Y1, Y2, Yf, Ye, Y3, Yd, Y0]; (repeat' first | exact .refl _ | apply LeR.tup | apply Le.agg | constructor)) (by simp [belL, AV.bel, hT.1]) (by rfl) ?_
  refine Ops.god tab_ok follows_ok Try.func55 60 ?_; simp only [aops, aone, aop, needs, ext, aev, aput, aupd, ok1, Y4, Y6, Y7, Y1, Y2, Y5, Y3, Yt, Yr, Nat.reduceAdd, Yp, Y0, Y8]
  refine Ops.invokeB .free rfl rfl meth_asks (js := [1]) (by decide) (LentAll.cons rfl (pp_lent _ _ _) LentAll.nil) (lent1 (pp_lent _ _ _)) rfl rfl (by exact LeL.cons (Le.refl _) (LeL.cons (Le.refl _) LeL.nil)) ht rfl ?_
  refine Ops.god tab_ok follows_ok Try.func55 60 ?_; simp only [Try.results55, putBack, pp, drun, aops, aone, afin, ares, aresL, ares1, aresOk, aresOk1, aop, needs, ext, aev, aput, aupd, aload, afieldAddr, tab_85, tab_145, ok1, cellsAs, TI.agg, Y4, Yb, Yc, Y6, Y7, Ya, Y9, Y1, Y2, Yi, Yg, Yj, Y5, Y3, Yt, Yu, Yr, Nat.reduceAdd, Nat.reduceLeDiff, Yp, Yq, Y0, Y8]
  ((repeat' apply And.intro) <;> try first | rfl | omega | (unfold I64; omega))
  all_goals (repeat' first | exact .refl _ | apply LeR.tup | apply Le.agg | constructor)
end Go.Proofs.Ytkamcoechjdgpaa
/-
  Package wire: a letter's bytes, of the kind that tells a sum.
-/
namespace Go.Proofs.Ytkamcoechjdgpaa
open Go.RowKit
theorem let_drop15 (l : Ltr) : (letT l).drop 15 = sumC l.sum ++ (ordC l.o ++ rplC l.x) := rfl
theorem written_7 (l : Ltr) (hk : l.kind = 7) (h : smL l) : ASpec Try.prog 55 [.agg (letC l)] (bytesA (wrL l)) := by
  obtain ⟨h1, h2, h3, h4, h5, h6, h7, h8, h9, h10, h11, h12, h13, h14, h15, h16, h17, h18, h19⟩ := h
  have hn := number_wn 7 (letT l) (by unfold I64; omega)
  have hp := letparts_7 (letT l)
  rw [let_drop15 l, show (letT l).drop 1 = .int .i64 l.slot :: (letT l).drop 2 from rfl] at hp
  have e7 := enc9 7 (by unfold I64; omega)
  have e1 := enc9 _ h1
  have e2 := enc9 _ h2
  have hf := number_w (encN (zig 7)) l.frm ((letT l).drop 1) (by omega) h1
  have hs := int_spec (encN (zig 7) ++ encN (zig l.frm)) l.slot (by simp only [List.length_append]; omega) h2
  have hsl : (sumC l.sum).length = 32 := by simp [sumC, h14]
  have htk : (sumC l.sum ++ (ordC l.o ++ rplC l.x)).take 32 = sumC l.sum := List.take_left' hsl
  have hmp : (sumC l.sum).map (fun a => [a]) = l.sum.map byteC := by unfold sumC; rw [List.map_map]; rfl
  have hall : (sumC l.sum).all AV.plain = true := by unfold sumC; simp [AV.plain]
  have hc : (.agg (letC l) : AV) = .agg (.int .i64 7 :: letT l) := by unfold letC; rw [hk]
  rw [hc]
  have hT := Pln.let_ l
  have hD : ∀ d n, belL n ((letT l).drop d) = true := fun d n => (hT.drop d).1 n
  have hD1 : belL 0 (letT l).tail = true := by have := hD 1 0; simpa using this
  have hA1 : amongL [1] (letT l).tail = true := by have := (hT.drop 1).2.1 [1]; simpa using this
  have q10 := Pln.d10 l
  refine ⟨⟨_, Try.func55, by kernel_rfl, rfl⟩, ACall.of Try.func55 rfl fun c0 hc0 => ?_⟩; simp only [Try.ntmps55, Ya, Y9, Nat.reduceAdd, Nat.reduceSub, Ym, Yn, Y5, Y3]; refine Run.god tab_ok follows_ok Try.func55 2 ?_; simp only [drun, aops, aone, aop, needs, ext, aev, aconst, aput, aupd, ok1, AV.cells, AV.whole, Y4, Y6, Y7, Y9, Y1, Y5, Y3, Yt, Ys, Yr, Y0, Y8]
  refine Run.weak (Weak.freeze 1 0 _ rfl rfl) ?_
  refine Run.god tab_ok follows_ok Try.func55 60 ?_; simp only [drun, aops, aone, aop, needs, ext, aev, aconst, aput, aupd, afieldAddr, abuild, tab_83, tab_145, tab_146, tab_148, ok1, lay, AV.cells, AV.whole, Y4, Yb, Yc, Y6, Y7, Ya, Y9, Y1, Y2, Yi, Yh, Yj, Yl, Yf, Ye, Y5, Y3, Yd, Yt, Yu, Ys, Yr, Nat.reduceAdd, Yp, forall_const, reduceCtorEq, false_implies, implies_true, Yv, Y0, Y8]
  refine Ops.callB .free rfl rfl (js := [1]) (by decide) (LentAll.cons rfl (LentB.box_ [.nils, .bool false, .int .i64 0] rfl) LentAll.nil) (lent1 (pp_lent _ _ _)) rfl (by simp [aev, amongL, AV.among, hT.2.1]) (by simp only [Yf, Ye, aev, Y4, Y1, Y2, Y3, Yd, Yp, beq_self_eq_true, Y0, cond_true, renL, AV.ren, hT.2.2, List.idxOf, List.findIdx, List.findIdx.go]; exact LeL.cons (Le.refl _) (LeL.cons (Le.refl _) LeL.nil)) hn rfl ?_
  refine Ops.god tab_ok follows_ok Try.func55 60 ?_; simp only [putBack, drun, aops, aone, aop, aput, Y6, Y7]
  refine Ops.pure .free rfl rfl hp (by simp only [aev, Y4, Y1, Y2, Yf, Ye, Y3, Yd, Y0]; (repeat' first | exact .refl _ | apply LeR.tup | apply Le.agg | constructor)) (by simp [belL, AV.bel, hT.1]) (by simp [AV.bel, belL, belLL, hD, q10.1, hT.1]) ?_
  refine Ops.god tab_ok follows_ok Try.func55 60 ?_; simp only [aops, aone, aop, needs, ext, aev, aput, aupd, ok1, Y4, Y6, Y7, Y1, Y2, Y5, Y3, Yt, Yr, Nat.reduceAdd, Yp, Y0, Y8]
  refine Ops.invoke .free rfl rfl meth_parts ?_
  refine ACall.of Try.func118 rfl fun c1 hc1 => ?_; simp only [Try.ntmps118, Ya, Nat.reduceAdd, Y5]; refine Run.god tab_ok follows_ok Try.func118 60 ?_; simp only [drun, aops, aone, aop, needs, ext, aev, aconst, aput, aupd, alen, tab_171, ok1, Y4, Yb, Y6, Y7, Ya, Y9, Y1, Y2, Yf, Ye, Y5, Y3, Ym, Yn, Yt, Yr, Nat.reduceAdd, Nat.reduceSub, Yp, Y0, Y8]
  refine Run.unloop ?_
  refine Run.god tab_ok follows_ok Try.func118 60 ?_; simp only [Int.cast_ofNat_Int, Int.toNat_zero, ↓alt_t, Int.reduceLT, Int.reduceLE, drun, aops, aone, aop, needs, ext, aev, aput, aupd, aload, aindexAddr, acmp, ashift, abin, tab_3, tab_151, tab_171, ok1, cellsAs, TI.agg, Y4, Yb, Yc, Y6, Y7, Ya, Y9, Y1, Y2, Yg, Yk, Y5, Y3, Yt, Yu, Ys, Yr, Nat.reduceAdd, Yp, decide_true, Nat.reduceLT, Yv, Y0, Y8]
  ((repeat' apply And.intro) <;> try first | rfl | omega | (unfold I64; omega))
  refine Ops.invokeB .free rfl rfl meth_number (js := [1]) (by decide) (LentAll.cons rfl (pp_lent _ _ _) LentAll.nil) (lent1 (pp_lent _ _ _)) rfl (by simp [aev, amongL, AV.among, hT.2.1]) (by simp only [Yf, Ye, aev, Y4, Y1, Y2, Yp, beq_self_eq_true, Y0, cond_true, renL, AV.ren, hT.2.2, List.idxOf, List.findIdx, List.findIdx.go]; exact LeL.cons (Le.refl _) (LeL.cons (Le.refl _) LeL.nil)) hf rfl ?_
  refine Ops.god tab_ok follows_ok Try.func118 60 ?_; simp only [putBack, Int.reduceAdd, drun, aops, aone, aop, needs, ext, aev, aconst, aput, aupd, acmp, aarith, ashift, abin, tab_3, ok1, Y4, Yb, Y6, Y7, Y1, Y2, Y5, Y3, Yt, Ys, Yr, Y0, Y8]
  ((repeat' apply And.intro) <;> try first | rfl | omega | (unfold I64; omega))
  refine Run.again ?_
  refine Run.god tab_ok follows_ok Try.func118 60 ?_; simp only [Int.cast_ofNat_Int, Int.reduceToNat, ↓alt_t, Int.reduceLT, Int.reduceLE, drun, aops, aone, aop, needs, ext, aev, aput, aupd, aload, aindexAddr, acmp, ashift, abin, tab_3, tab_151, tab_171, ok1, cellsAs, TI.agg, Y4, Yb, Yc, Y6, Y7, Ya, Y9, Y1, Y2, Yg, Yk, Y5, Y3, Yt, Yu, Ys, Yr, Nat.reduceAdd, Yp, decide_true, Nat.reduceLT, Yv, Y0, Y8]
  ((repeat' apply And.intro) <;> try first | rfl | omega | (unfold I64; omega))
  refine Ops.invoke .free rfl rfl meth_number ?_
  refine ACall.of Try.func75 rfl fun c1 hc1 => ?_; simp only [Try.ntmps75, Ya, Nat.reduceAdd, Y5]; refine Run.god tab_ok follows_ok Try.func75 60 ?_; simp only [pp, decide_true, ↓alt_f, drun, adops, adone, places, mayNeed, freeOk, rdOf, AV.id, wrOf, aops, aone, aop, needs, ext, aev, aconst, aput, aupd, aload, afieldAddr, acmp, ashift, abin, tab_3, tab_4, tab_34, tab_85, tab_145, tab_146, tab_148, ok1, cellsAs, TI.agg, AV.cells, AV.whole, Y4, Yb, Yc, Y6, Y7, Ya, Y9, Y1, Y2, Yi, Yh, Yg, Yj, Yk, Yf, Ye, Y5, Y3, Ym, Yn, Yt, Yu, Ys, Yr, Nat.reduceAdd, Nat.reduceLeDiff, Nat.reduceSub, Yp, Yq, Bool.not_true, Yv, Y0, Y8]
  refine ⟨rfl, ?_⟩
  refine DOps.own rfl .free rfl rfl (hs) (by simp only [aev, Y4, Y1, Y2, Yf, Ye, Y3, Yd, Y0]; (repeat' first | exact .refl _ | apply LeR.tup | apply Le.agg | constructor)) rfl rfl ?_
  refine DOps.god tab_ok follows_ok Try.func75 60 rfl ?_; simp only [Try.results75, drun, adops, adone, mayNeed, freeOk, rdOf, AV.id, wrOf, afin, ares, aresL, aresOk, aop, needs, aev, aput, aupd, astore, afieldAddr, tab_85, tab_145, ok1, lay, AV.cells, AV.whole, Y4, Yb, Yc, Y6, Y7, Ya, Y9, Y1, Y2, Yi, Yh, Yj, Yo, Y5, Y3, Yt, Yu, Yr, Nat.reduceAdd, Nat.reduceLeDiff, Yp, Yq, Y0, Y8]
  refine ⟨rfl, ?_⟩
  refine Ops.god tab_ok follows_ok Try.func118 60 ?_; simp only [Int.reduceAdd, drun, aops, aone, aop, needs, ext, aev, aconst, aput, aupd, acmp, aarith, ashift, abin, tab_3, ok1, Y4, Yb, Y6, Y7, Y1, Y2, Y5, Y3, Yt, Ys, Yr, Y0, Y8]
  ((repeat' apply And.intro) <;> try first | rfl | omega | (unfold I64; omega))
  refine Run.again ?_
  refine Run.god tab_ok follows_ok Try.func118 60 ?_; simp only [Int.cast_ofNat_Int, Int.reduceToNat, ↓alt_t, Int.reduceLT, Int.reduceLE, drun, aops, aone, aop, needs, ext, aev, aput, aupd, aload, aindexAddr, acmp, ashift, abin, tab_3, tab_151, tab_171, ok1, cellsAs, TI.agg, Y4, Yb, Yc, Y6, Y7, Ya, Y9, Y1, Y2, Yg, Yk, Y5, Y3, Yt, Yu, Ys, Yr, Nat.reduceAdd, Yp, decide_true, Nat.reduceLT, Yv, Y0, Y8]
  ((repeat' apply And.intro) <;> try first | rfl | omega | (unfold I64; omega))
  refine Ops.invoke .free rfl rfl meth_sum ?_
  refine ACall.of Try.func119 rfl fun c1 hc1 => ?_; simp only [Try.ntmps119, Ya, Nat.reduceAdd, Y5]; refine Run.god tab_ok follows_ok Try.func119 60 ?_; simp only [Try.results119, htk, hmp, hall, decide_true, ↓alt_t, ↓alt_f, aappendM, AV.mid, drun, adops, adone, places, mayNeed, freeOk, rdOf, AV.id, wrOf, aops, aone, afin, ares, aresL, aresOk, aop, needs, ext, aev, aconst, aput, aupd, aload, astore, afieldAddr, acmp, ashift, abin, aslice, asrc, aappend, tab_4, tab_5, tab_34, tab_81, tab_85, tab_145, tab_177, tab_179, ok1, lay, cellsAs, TI.agg, AV.cells, AV.whole, Y4, Yb, Yc, Option.map_none, Y6, Y7, Ya, Y9, Y1, Y2, Yw, Yi, Yh, Yg, Yj, Yk, Yf, Ye, Yo, Y5, Y3, Yd, Ym, Yn, Yt, Yu, Ys, Yr, Nat.reduceAdd, Nat.reduceLeDiff, Nat.reduceSub, Yp, Yq, Bool.not_true, Bool.not_false, Yv, Y0, Option.isSome_none, Y8]
  refine ⟨rfl, ?_⟩
  have hb : encN (zig 7) ++ encN (zig l.frm) ++ encN (zig l.slot) ++ l.sum = wrL l := by unfold wrL wrB; rw [hk]; simp
  have hbl : (encN (zig 7) ++ encN (zig l.frm) ++ encN (zig l.slot)).length ≤ 27 := by simp only [List.length_append]; omega
  ((repeat' apply And.intro) <;> try first | rfl | omega | (unfold I64; omega))
  all_goals (first | (simp only [List.length_append, hsl]; omega) | (simp only [Yo]; omega) | skip)
  refine Ops.god tab_ok follows_ok Try.func118 60 ?_; simp only [Int.reduceAdd, drun, aops, aone, aop, needs, ext, aev, aconst, aput, aupd, acmp, aarith, ashift, abin, tab_3, ok1, Y4, Yb, Y6, Y7, Y1, Y2, Y5, Y3, Yt, Ys, Yr, Y0, Y8]
  ((repeat' apply And.intro) <;> try first | rfl | omega | (unfold I64; omega))
  refine Run.again ?_
  refine Run.god tab_ok follows_ok Try.func118 60 ?_; simp only [Try.results118, ↓alt_f, Int.reduceLT, drun, aops, aone, afin, ares, aresL, aresOk, aop, needs, ext, aev, aput, aupd, acmp, ashift, abin, tab_3, ok1, exitTo, Y4, Yb, Yc, Y6, Y7, Y1, Y2, Y5, Y3, Yt, Ys, Yr, beq_self_eq_true, decide_false, Y0, Y8]
  ((repeat' apply And.intro) <;> try first | rfl | omega | (unfold I64; omega))
  refine Ops.god tab_ok follows_ok Try.func55 60 ?_; simp only [Try.results55, drun, aops, aone, afin, ares, aresL, ares1, aresOk, aresOk1, aop, needs, ext, aev, aput, aupd, aload, afieldAddr, tab_85, tab_145, ok1, cellsAs, TI.agg, Y4, Yb, Yc, Y6, Y7, Ya, Y9, Y1, Y2, Yi, Yg, Yj, Y5, Y3, Yt, Yu, Yr, Nat.reduceAdd, Nat.reduceLeDiff, Yp, Yq, Y0, Y8]
  ((repeat' apply And.intro) <;> try first | rfl | omega | (unfold I64; omega))
  rw [← hb, ← List.map_append]
  all_goals (repeat' first | exact .refl _ | apply LeR.tup | apply Le.agg | constructor)
end Go.Proofs.Ytkamcoechjdgpaa
/-
  Package wire: a letter's parts, taken: numbers, texts, orders, replies, flags.
-/
namespace Go.Proofs.Ytkamcoechjdgpaa
open Go.RowKit
def rdN (b : Bytes) (e : Int) (cur : Int) : Bytes × Int × Int := if e = 0 then (match takeZ b with | .ok (n, r) => (r, 0, n) | .error z => ([], z, 0)) else (b, e, cur)
def rdT (b : Bytes) (e : Int) (cur : Bytes) : Bytes × Int × Bytes := if e = 0 then (match takeT b 6000 with | .ok (n, r) => (r, 0, n) | .error z => ([], z, [])) else (b, e, cur)
def rdO (b : Bytes) (e : Int) (cur : Ord) : Bytes × Int × Ord := if e = 0 then (match takeO b with | .ok (n, r) => (r, 0, n) | .error z => ([], z, ⟨0, 0, 0, [], [], 0, 0, 0⟩)) else (b, e, cur)
def rdX (b : Bytes) (e : Int) (cur : Rpl) : Bytes × Int × Rpl := if e = 0 then (match takeRp b with | .ok (n, r) => (r, 0, n) | .error z => ([], z, ⟨0, 0, 0, [], 0, []⟩)) else (b, e, cur)
theorem le1l_refl : ∀ l : List AV, Le1L l l
  | [] => .nil
  | a :: l => .cons (.refl _) (le1l_refl l)
theorem lay_self {cs xs : List AV} {o : Nat} (h : (cs.drop o).take xs.length = xs) (hl : o + xs.length ≤ cs.length) : lay cs o xs = cs := by
  unfold lay
  have h1 : cs.drop (o + xs.length) = (cs.drop o).drop xs.length := by rw [List.drop_drop]
  rw [h1, List.append_assoc]
  have h2 := List.take_append_drop xs.length (cs.drop o)
  rw [h] at h2
  rw [h2, List.take_append_drop]
theorem belL_app {n : Nat} : ∀ {xs ys : List AV}, belL n xs = true → belL n ys = true → belL n (xs ++ ys) = true
  | [], _, _, h => h
  | x :: xs, ys, h1, h2 => by
    simp only [belL, Y5, Bool.and_eq_true] at h1 ⊢
    exact ⟨h1.1, belL_app h1.2 h2⟩
theorem belL_take {n : Nat} : ∀ (k : Nat) {xs : List AV}, belL n xs = true → belL n (xs.take k) = true
  | 0, _, _ => rfl
  | k + 1, [], _ => rfl
  | k + 1, x :: xs, h => by
    simp only [belL, Yg, Bool.and_eq_true] at h ⊢
    exact ⟨h.1, belL_take k h.2⟩
theorem belL_drop {n : Nat} : ∀ (k : Nat) {xs : List AV}, belL n xs = true → belL n (xs.drop k) = true
  | 0, _, h => h
  | k + 1, [], h => h
  | k + 1, x :: xs, h => by
    simp only [belL, Bool.and_eq_true] at h
    exact belL_drop k h.2
theorem belL_lay {n : Nat} {cs xs : List AV} {o : Nat} (h1 : belL n cs = true) (h2 : belL n xs = true) : belL n (lay cs o xs) = true := by
  unfold lay
  exact belL_app (belL_app (belL_take _ h1) h2) (belL_drop _ h1)
theorem number_r (b : Bytes) (e : Int) (cur : Int) (cs : List AV) (o : Nat) (hb : b.length ≤ 1000000) (ho : (cs.drop o).take 1 = [.int .i64 cur]) (hl : o + 1 ≤ cs.length) (hcs : belL 0 cs = true) : BSpec Try.prog 75 [.agg [.ptr 1 o], .ptr 0 0] [pp b true e, .box cs] [pp (rdN b e cur).1 true (rdN b e cur).2.1, .box (lay cs o [.int .i64 (rdN b e cur).2.2])] (.tup []) := by
  by_cases he : e = 0
  · subst he
    have hi := takeint_spec b
    cases ht : takeZ b with
    | error z =>
      rw [ht] at hi
      simp only [takeZA] at hi
      have e1 : rdN b 0 cur = ([], z, 0) := by unfold rdN; simp [ht]
      rw [e1]
      refine ⟨⟨_, Try.func75, by kernel_rfl, rfl⟩, ACall.of Try.func75 rfl fun c0 hc0 => ?_⟩; simp only [Try.ntmps75, Ya, Y9, Nat.reduceAdd, Nat.reduceSub, Ym, Yn, Y5, Y3]; refine Run.god tab_ok follows_ok Try.func75 60 ?_; simp only [pp, decide_true, ↓alt_t, ↓alt_f, drun, adops, adone, places, mayNeed, freeOk, rdOf, AV.id, wrOf, aops, aone, aop, needs, ext, aev, aconst, aput, aupd, aload, afieldAddr, acmp, ashift, abin, tab_4, tab_34, tab_85, tab_145, tab_146, tab_148, ok1, lay, cellsAs, TI.agg, AV.cells, AV.whole, Y4, Yb, Yc, Y6, Y7, Ya, Y9, Y1, Y2, Yi, Yh, Yg, Yj, Yk, Y5, Y3, Yt, Yu, Ys, Yr, Nat.reduceAdd, Nat.reduceLeDiff, Yp, Yq, Bool.not_true, Yv, Y0, Y8]
      refine ⟨rfl, ?_⟩
      refine DOps.pure rfl .free rfl rfl (hi) (by simp only [aev, Y4, Y1, Y2, Yf, Ye, Y3, Yd, Y0]; (repeat' first | exact .refl _ | apply LeR.tup | apply Le.agg | constructor)) rfl rfl ?_
      refine DOps.god tab_ok follows_ok Try.func75 60 rfl ?_; simp only [Try.results75, hl, bytesA, drun, adops, adone, mayNeed, freeOk, rdOf, AV.id, wrOf, afin, ares, aresL, aresOk, aop, needs, aev, aput, aupd, astore, afieldAddr, tab_3, tab_34, tab_85, tab_145, ok1, lay, AV.cells, AV.whole, Y4, Yb, Yc, Y6, Y7, Ya, Y9, Y1, Y2, Yi, Yh, Yg, Yj, Yl, Ye, Y5, Y3, Yd, Yt, Yu, Yr, Nat.reduceAdd, Nat.reduceLeDiff, Yp, Yq, Yv, Y0, Y8]
      ((repeat' apply And.intro) <;> try first | rfl | omega | (unfold I64; omega))
      all_goals (first | omega | (repeat' (first | exact WkH.nil _ | exact LeR.one (Le.refl _) | exact LeL.nil | apply LeR.tup | exact Le.refl _ | exact Le1.refl _ | exact Le1L.nil | exact le1l_refl _ | rfl | exact hcs | exact belL_app (belL_app (belL_take _ hcs) rfl) (belL_drop _ hcs) | apply WkH.cons | apply LeB.box | apply Le1L.cons | apply Le.one)))
    | ok p =>
      obtain ⟨n, q⟩ := p
      rw [ht] at hi
      simp only [takeZA] at hi
      have e1 : rdN b 0 cur = (q, 0, n) := by unfold rdN; simp [ht]
      rw [e1]
      refine ⟨⟨_, Try.func75, by kernel_rfl, rfl⟩, ACall.of Try.func75 rfl fun c0 hc0 => ?_⟩; simp only [Try.ntmps75, Ya, Y9, Nat.reduceAdd, Nat.reduceSub, Ym, Yn, Y5, Y3]; refine Run.god tab_ok follows_ok Try.func75 60 ?_; simp only [pp, decide_true, ↓alt_t, ↓alt_f, drun, adops, adone, places, mayNeed, freeOk, rdOf, AV.id, wrOf, aops, aone, aop, needs, ext, aev, aconst, aput, aupd, aload, afieldAddr, acmp, ashift, abin, tab_4, tab_34, tab_85, tab_145, tab_146, tab_148, ok1, lay, cellsAs, TI.agg, AV.cells, AV.whole, Y4, Yb, Yc, Y6, Y7, Ya, Y9, Y1, Y2, Yi, Yh, Yg, Yj, Yk, Y5, Y3, Yt, Yu, Ys, Yr, Nat.reduceAdd, Nat.reduceLeDiff, Yp, Yq, Bool.not_true, Yv, Y0, Y8]
      refine ⟨rfl, ?_⟩
      refine DOps.pure rfl .free rfl rfl (hi) (by simp only [aev, Y4, Y1, Y2, Yf, Ye, Y3, Yd, Y0]; (repeat' first | exact .refl _ | apply LeR.tup | apply Le.agg | constructor)) rfl rfl ?_
      refine DOps.god tab_ok follows_ok Try.func75 60 rfl ?_; simp only [Try.results75, hl, bytesA, drun, adops, adone, mayNeed, freeOk, rdOf, AV.id, wrOf, afin, ares, aresL, aresOk, aop, needs, aev, aput, aupd, astore, afieldAddr, tab_3, tab_34, tab_85, tab_145, ok1, lay, AV.cells, AV.whole, Y4, Yb, Yc, Y6, Y7, Ya, Y9, Y1, Y2, Yi, Yh, Yg, Yj, Yl, Y5, Y3, Yd, Yt, Yu, Yr, Nat.reduceAdd, Nat.reduceLeDiff, Yp, Yq, Yv, Y0, Y8]
      ((repeat' apply And.intro) <;> try first | rfl | omega | (unfold I64; omega))
      all_goals (first | omega | (repeat' (first | exact WkH.nil _ | exact LeR.one (Le.refl _) | exact LeL.nil | apply LeR.tup | exact Le.refl _ | exact Le1.refl _ | exact Le1L.nil | exact le1l_refl _ | rfl | exact hcs | exact belL_app (belL_app (belL_take _ hcs) rfl) (belL_drop _ hcs) | apply WkH.cons | apply LeB.box | apply Le1L.cons | apply Le.one)))
  · have e1 : rdN b e cur = (b, e, cur) := by unfold rdN; simp [he]
    rw [e1, lay_self (xs := [.int .i64 cur]) ho hl]
    refine ⟨⟨_, Try.func75, by kernel_rfl, rfl⟩, ACall.of Try.func75 rfl fun c0 hc0 => ?_⟩; simp only [Try.ntmps75, Ya, Y9, Nat.reduceAdd, Nat.reduceSub, Ym, Yn, Y5, Y3]; refine Run.god tab_ok follows_ok Try.func75 60 ?_; simp only [Try.results75, pp, he, decide_false, ↓alt_t, drun, aops, aone, afin, ares, aresL, aresOk, aop, needs, ext, aev, aconst, aput, aupd, aload, afieldAddr, acmp, ashift, abin, tab_34, tab_145, ok1, cellsAs, TI.agg, AV.cells, AV.whole, Y4, Yb, Yc, Y6, Y7, Ya, Y9, Y1, Y2, Yi, Yh, Yg, Yk, Y5, Y3, Yt, Ys, Yr, Nat.reduceAdd, Yp, Bool.not_false, Yv, Y0, Y8]
    ((repeat' apply And.intro) <;> try first | rfl | omega | (unfold I64; omega))
    all_goals (first | omega | (repeat' (first | exact WkH.nil _ | exact LeR.one (Le.refl _) | exact LeL.nil | apply LeR.tup | exact Le.refl _ | exact Le1.refl _ | exact Le1L.nil | exact le1l_refl _ | rfl | exact hcs | exact belL_app (belL_app (belL_take _ hcs) rfl) (belL_drop _ hcs) | apply WkH.cons | apply LeB.box | apply Le1L.cons | apply Le.one)))
theorem text_r (b : Bytes) (e : Int) (cur : Bytes) (cs : List AV) (o : Nat) (hb : b.length ≤ 1000000) (ho : (cs.drop o).take 1 = [.str cur]) (hl : o + 1 ≤ cs.length) (hcs : belL 0 cs = true) : BSpec Try.prog 114 [.agg [.ptr 1 o], .ptr 0 0] [pp b true e, .box cs] [pp (rdT b e cur).1 true (rdT b e cur).2.1, .box (lay cs o [.str (rdT b e cur).2.2])] (.tup []) := by
  by_cases he : e = 0
  · subst he
    have hi := taketext_spec b 6000 hb (by omega)
    cases ht : takeT b 6000 with
    | error z =>
      rw [ht] at hi
      simp only [takeTA] at hi
      have e1 : rdT b 0 cur = ([], z, []) := by unfold rdT; simp [ht]
      rw [e1]
      refine ⟨⟨_, Try.func114, by kernel_rfl, rfl⟩, ACall.of Try.func114 rfl fun c0 hc0 => ?_⟩; simp only [Try.ntmps114, Ya, Y9, Nat.reduceAdd, Nat.reduceSub, Ym, Yn, Y5, Y3]; refine Run.god tab_ok follows_ok Try.func114 60 ?_; simp only [pp, decide_true, ↓alt_t, ↓alt_f, drun, adops, adone, places, mayNeed, freeOk, rdOf, AV.id, wrOf, aops, aone, aop, needs, ext, aev, aconst, aput, aupd, aload, afieldAddr, acmp, ashift, abin, tab_4, tab_34, tab_85, tab_145, tab_163, tab_165, ok1, lay, cellsAs, TI.agg, AV.cells, AV.whole, Y4, Yb, Yc, Y6, Y7, Ya, Y9, Y1, Y2, Yi, Yh, Yg, Yj, Yk, Y5, Y3, Yt, Yu, Ys, Yr, Nat.reduceAdd, Nat.reduceLeDiff, Yp, Yq, Bool.not_true, Yv, Y0, Y8]
      refine ⟨rfl, ?_⟩
      refine DOps.pure rfl .free rfl rfl (hi) (by simp only [aev, aconst, Y4, Y1, Y2, Yf, Ye, Y3, Yd, Y0]; (repeat' first | exact .refl _ | apply LeR.tup | apply Le.agg | constructor)) rfl rfl ?_
      refine DOps.god tab_ok follows_ok Try.func114 60 rfl ?_; simp only [Try.results114, hl, bytesA, drun, adops, adone, mayNeed, freeOk, rdOf, AV.id, wrOf, afin, ares, aresL, aresOk, aop, needs, aev, aput, aupd, astore, afieldAddr, tab_9, tab_34, tab_85, tab_145, ok1, lay, AV.cells, AV.whole, Y4, Yb, Yc, Y6, Y7, Ya, Y9, Y1, Y2, Yi, Yh, Yg, Yj, Yl, Ye, Y5, Y3, Yd, Yt, Yu, Yr, Nat.reduceAdd, Nat.reduceLeDiff, Yp, Yq, Yv, Y0, Y8]
      ((repeat' apply And.intro) <;> try first | rfl | omega | (unfold I64; omega))
      all_goals (first | omega | (repeat' (first | exact WkH.nil _ | exact LeR.one (Le.refl _) | exact LeL.nil | apply LeR.tup | exact Le.refl _ | exact Le1.refl _ | exact Le1L.nil | exact le1l_refl _ | rfl | exact hcs | exact belL_app (belL_app (belL_take _ hcs) rfl) (belL_drop _ hcs) | apply WkH.cons | apply LeB.box | apply Le1L.cons | apply Le.one)))
    | ok p =>
      obtain ⟨n, q⟩ := p
      rw [ht] at hi
      simp only [takeTA] at hi
      have e1 : rdT b 0 cur = (q, 0, n) := by unfold rdT; simp [ht]
      rw [e1]
      refine ⟨⟨_, Try.func114, by kernel_rfl, rfl⟩, ACall.of Try.func114 rfl fun c0 hc0 => ?_⟩; simp only [Try.ntmps114, Ya, Y9, Nat.reduceAdd, Nat.reduceSub, Ym, Yn, Y5, Y3]; refine Run.god tab_ok follows_ok Try.func114 60 ?_; simp only [pp, decide_true, ↓alt_t, ↓alt_f, drun, adops, adone, places, mayNeed, freeOk, rdOf, AV.id, wrOf, aops, aone, aop, needs, ext, aev, aconst, aput, aupd, aload, afieldAddr, acmp, ashift, abin, tab_4, tab_34, tab_85, tab_145, tab_163, tab_165, ok1, lay, cellsAs, TI.agg, AV.cells, AV.whole, Y4, Yb, Yc, Y6, Y7, Ya, Y9, Y1, Y2, Yi, Yh, Yg, Yj, Yk, Y5, Y3, Yt, Yu, Ys, Yr, Nat.reduceAdd, Nat.reduceLeDiff, Yp, Yq, Bool.not_true, Yv, Y0, Y8]
      refine ⟨rfl, ?_⟩
      refine DOps.pure rfl .free rfl rfl (hi) (by simp only [aev, aconst, Y4, Y1, Y2, Yf, Ye, Y3, Yd, Y0]; (repeat' first | exact .refl _ | apply LeR.tup | apply Le.agg | constructor)) rfl rfl ?_
      refine DOps.god tab_ok follows_ok Try.func114 60 rfl ?_; simp only [Try.results114, hl, bytesA, drun, adops, adone, mayNeed, freeOk, rdOf, AV.id, wrOf, afin, ares, aresL, aresOk, aop, needs, aev, aput, aupd, astore, afieldAddr, tab_9, tab_34, tab_85, tab_145, ok1, lay, AV.cells, AV.whole, Y4, Yb, Yc, Y6, Y7, Ya, Y9, Y1, Y2, Yi, Yh, Yg, Yj, Yl, Y5, Y3, Yd, Yt, Yu, Yr, Nat.reduceAdd, Nat.reduceLeDiff, Yp, Yq, Yv, Y0, Y8]
      ((repeat' apply And.intro) <;> try first | rfl | omega | (unfold I64; omega))
      all_goals (first | omega | (repeat' (first | exact WkH.nil _ | exact LeR.one (Le.refl _) | exact LeL.nil | apply LeR.tup | exact Le.refl _ | exact Le1.refl _ | exact Le1L.nil | exact le1l_refl _ | rfl | exact hcs | exact belL_app (belL_app (belL_take _ hcs) rfl) (belL_drop _ hcs) | apply WkH.cons | apply LeB.box | apply Le1L.cons | apply Le.one)))
  · have e1 : rdT b e cur = (b, e, cur) := by unfold rdT; simp [he]
    rw [e1, lay_self (xs := [.str cur]) ho hl]
    refine ⟨⟨_, Try.func114, by kernel_rfl, rfl⟩, ACall.of Try.func114 rfl fun c0 hc0 => ?_⟩; simp only [Try.ntmps114, Ya, Y9, Nat.reduceAdd, Nat.reduceSub, Ym, Yn, Y5, Y3]; refine Run.god tab_ok follows_ok Try.func114 60 ?_; simp only [Try.results114, pp, he, decide_false, ↓alt_t, drun, aops, aone, afin, ares, aresL, aresOk, aop, needs, ext, aev, aconst, aput, aupd, aload, afieldAddr, acmp, ashift, abin, tab_34, tab_145, ok1, cellsAs, TI.agg, AV.cells, AV.whole, Y4, Yb, Yc, Y6, Y7, Ya, Y9, Y1, Y2, Yi, Yh, Yg, Yk, Y5, Y3, Yt, Ys, Yr, Nat.reduceAdd, Yp, Bool.not_false, Yv, Y0, Y8]
    ((repeat' apply And.intro) <;> try first | rfl | omega | (unfold I64; omega))
    all_goals (first | omega | (repeat' (first | exact WkH.nil _ | exact LeR.one (Le.refl _) | exact LeL.nil | apply LeR.tup | exact Le.refl _ | exact Le1.refl _ | exact Le1L.nil | exact le1l_refl _ | rfl | exact hcs | exact belL_app (belL_app (belL_take _ hcs) rfl) (belL_drop _ hcs) | apply WkH.cons | apply LeB.box | apply Le1L.cons | apply Le.one)))
theorem asks_r (b : Bytes) (e : Int) (cur : Ord) (cs : List AV) (o : Nat) (hb : b.length ≤ 1000000) (ho : (cs.drop o).take 8 = [.int .i64 cur.a, .int .i64 cur.b, .int .i64 cur.kind, .str cur.s, .str cur.t, .int .i64 cur.x, .int .i64 cur.y, .int .i64 cur.z]) (hl : o + 8 ≤ cs.length) (hcs : belL 0 cs = true) : BSpec Try.prog 120 [.agg [.ptr 1 o], .ptr 0 0] [pp b true e, .box cs] [pp (rdO b e cur).1 true (rdO b e cur).2.1, .box (lay cs o [.int .i64 (rdO b e cur).2.2.a, .int .i64 (rdO b e cur).2.2.b, .int .i64 (rdO b e cur).2.2.kind, .str (rdO b e cur).2.2.s, .str (rdO b e cur).2.2.t, .int .i64 (rdO b e cur).2.2.x, .int .i64 (rdO b e cur).2.2.y, .int .i64 (rdO b e cur).2.2.z])] (.tup []) := by
  by_cases he : e = 0
  · subst he
    have hi := take12_spec b hb
    cases ht : takeO b with
    | error z =>
      rw [ht] at hi
      simp only [takeOA] at hi
      have e1 : rdO b 0 cur = ([], z, ⟨0, 0, 0, [], [], 0, 0, 0⟩) := by unfold rdO; simp [ht]
      rw [e1]
      refine ⟨⟨_, Try.func120, by kernel_rfl, rfl⟩, ACall.of Try.func120 rfl fun c0 hc0 => ?_⟩; simp only [Try.ntmps120, Ya, Y9, Nat.reduceAdd, Nat.reduceSub, Ym, Yn, Y5, Y3]; refine Run.god tab_ok follows_ok Try.func120 60 ?_; simp only [pp, decide_true, ↓alt_t, ↓alt_f, drun, adops, adone, places, mayNeed, freeOk, rdOf, AV.id, wrOf, aops, aone, aop, needs, ext, aev, aconst, aput, aupd, aload, afieldAddr, acmp, ashift, abin, tab_4, tab_34, tab_85, tab_145, tab_180, tab_182, ok1, lay, cellsAs, TI.agg, AV.cells, AV.whole, Y4, Yb, Yc, Y6, Y7, Ya, Y9, Y1, Y2, Yi, Yh, Yg, Yj, Yk, Y5, Y3, Yt, Yu, Ys, Yr, Nat.reduceAdd, Nat.reduceLeDiff, Yp, Yq, Bool.not_true, Yv, Y0, Y8]
      refine ⟨rfl, ?_⟩
      refine DOps.pure rfl .free rfl rfl (hi) (by simp only [aev, Y4, Y1, Y2, Yf, Ye, Y3, Yd, Y0]; (repeat' first | exact .refl _ | apply LeR.tup | apply Le.agg | constructor)) rfl rfl ?_
      refine DOps.god tab_ok follows_ok Try.func120 60 rfl ?_; simp only [Try.results120, hl, bytesA, encO, drun, adops, adone, mayNeed, freeOk, rdOf, AV.id, wrOf, afin, ares, aresL, aresOk, aop, needs, aev, aput, aupd, astore, afieldAddr, tab_29, tab_34, tab_85, tab_145, ok1, lay, AV.cells, AV.whole, Y4, Yb, Yc, Y6, Y7, Ya, Y9, Y1, Y2, Yi, Yh, Yg, Yj, Yl, Ye, Y5, Y3, Yd, Yt, Yu, Yr, Nat.reduceAdd, Nat.reduceLeDiff, Yp, Yq, Yv, Y0, Y8]
      ((repeat' apply And.intro) <;> try first | rfl | omega | (unfold I64; omega))
      all_goals (first | omega | (repeat' (first | exact WkH.nil _ | exact LeR.one (Le.refl _) | exact LeL.nil | apply LeR.tup | exact Le.refl _ | exact Le1.refl _ | exact Le1L.nil | exact le1l_refl _ | rfl | exact hcs | exact belL_app (belL_app (belL_take _ hcs) rfl) (belL_drop _ hcs) | apply WkH.cons | apply LeB.box | apply Le1L.cons | apply Le.one)))
    | ok p =>
      obtain ⟨n, q⟩ := p
      rw [ht] at hi
      simp only [takeOA] at hi
      have e1 : rdO b 0 cur = (q, 0, n) := by unfold rdO; simp [ht]
      rw [e1]
      refine ⟨⟨_, Try.func120, by kernel_rfl, rfl⟩, ACall.of Try.func120 rfl fun c0 hc0 => ?_⟩; simp only [Try.ntmps120, Ya, Y9, Nat.reduceAdd, Nat.reduceSub, Ym, Yn, Y5, Y3]; refine Run.god tab_ok follows_ok Try.func120 60 ?_; simp only [pp, decide_true, ↓alt_t, ↓alt_f, drun, adops, adone, places, mayNeed, freeOk, rdOf, AV.id, wrOf, aops, aone, aop, needs, ext, aev, aconst, aput, aupd, aload, afieldAddr, acmp, ashift, abin, tab_4, tab_34, tab_85, tab_145, tab_180, tab_182, ok1, lay, cellsAs, TI.agg, AV.cells, AV.whole, Y4, Yb, Yc, Y6, Y7, Ya, Y9, Y1, Y2, Yi, Yh, Yg, Yj, Yk, Y5, Y3, Yt, Yu, Ys, Yr, Nat.reduceAdd, Nat.reduceLeDiff, Yp, Yq, Bool.not_true, Yv, Y0, Y8]
      refine ⟨rfl, ?_⟩
      refine DOps.pure rfl .free rfl rfl (hi) (by simp only [aev, Y4, Y1, Y2, Yf, Ye, Y3, Yd, Y0]; (repeat' first | exact .refl _ | apply LeR.tup | apply Le.agg | constructor)) rfl rfl ?_
      refine DOps.god tab_ok follows_ok Try.func120 60 rfl ?_; simp only [Try.results120, hl, bytesA, encO, drun, adops, adone, mayNeed, freeOk, rdOf, AV.id, wrOf, afin, ares, aresL, aresOk, aop, needs, aev, aput, aupd, astore, afieldAddr, tab_29, tab_34, tab_85, tab_145, ok1, lay, AV.cells, AV.whole, Y4, Yb, Yc, Y6, Y7, Ya, Y9, Y1, Y2, Yi, Yh, Yg, Yj, Yl, Y5, Y3, Yd, Yt, Yu, Yr, Nat.reduceAdd, Nat.reduceLeDiff, Yp, Yq, Yv, Y0, Y8]
      ((repeat' apply And.intro) <;> try first | rfl | omega | (unfold I64; omega))
      all_goals (first | omega | (repeat' (first | exact WkH.nil _ | exact LeR.one (Le.refl _) | exact LeL.nil | apply LeR.tup | exact Le.refl _ | exact Le1.refl _ | exact Le1L.nil | exact le1l_refl _ | rfl | exact hcs | exact belL_app (belL_app (belL_take _ hcs) rfl) (belL_drop _ hcs) | apply WkH.cons | apply LeB.box | apply Le1L.cons | apply Le.one)))
  · have e1 : rdO b e cur = (b, e, cur) := by unfold rdO; simp [he]
    rw [e1, lay_self (xs := [.int .i64 cur.a, .int .i64 cur.b, .int .i64 cur.kind, .str cur.s, .str cur.t, .int .i64 cur.x, .int .i64 cur.y, .int .i64 cur.z]) ho hl]
    refine ⟨⟨_, Try.func120, by kernel_rfl, rfl⟩, ACall.of Try.func120 rfl fun c0 hc0 => ?_⟩; simp only [Try.ntmps120, Ya, Y9, Nat.reduceAdd, Nat.reduceSub, Ym, Yn, Y5, Y3]; refine Run.god tab_ok follows_ok Try.func120 60 ?_; simp only [Try.results120, pp, he, decide_false, ↓alt_t, drun, aops, aone, afin, ares, aresL, aresOk, aop, needs, ext, aev, aconst, aput, aupd, aload, afieldAddr, acmp, ashift, abin, tab_34, tab_145, ok1, cellsAs, TI.agg, AV.cells, AV.whole, Y4, Yb, Yc, Y6, Y7, Ya, Y9, Y1, Y2, Yi, Yh, Yg, Yk, Y5, Y3, Yt, Ys, Yr, Nat.reduceAdd, Yp, Bool.not_false, Yv, Y0, Y8]
    ((repeat' apply And.intro) <;> try first | rfl | omega | (unfold I64; omega))
    all_goals (first | omega | (repeat' (first | exact WkH.nil _ | exact LeR.one (Le.refl _) | exact LeL.nil | apply LeR.tup | exact Le.refl _ | exact Le1.refl _ | exact Le1L.nil | exact le1l_refl _ | rfl | exact hcs | exact belL_app (belL_app (belL_take _ hcs) rfl) (belL_drop _ hcs) | apply WkH.cons | apply LeB.box | apply Le1L.cons | apply Le.one)))
theorem replies_r (b : Bytes) (e : Int) (cur : Rpl) (cs : List AV) (o : Nat) (hb : b.length ≤ 1000000) (ho : (cs.drop o).take 6 = [.int .i64 cur.a, .int .i64 cur.b, .int .i64 cur.e, .str cur.s, .int .i64 cur.x, textsA cur.l]) (hl : o + 6 ≤ cs.length) (hcs : belL 0 cs = true) : BSpec Try.prog 126 [.agg [.ptr 1 o], .ptr 0 0] [pp b true e, .box cs] [pp (rdX b e cur).1 true (rdX b e cur).2.1, .box (lay cs o [.int .i64 (rdX b e cur).2.2.a, .int .i64 (rdX b e cur).2.2.b, .int .i64 (rdX b e cur).2.2.e, .str (rdX b e cur).2.2.s, .int .i64 (rdX b e cur).2.2.x, textsA (rdX b e cur).2.2.l])] (.tup []) := by
  by_cases he : e = 0
  · subst he
    have hi := takereply_spec b hb
    cases ht : takeRp b with
    | error z =>
      rw [ht] at hi
      simp only [takeRpA] at hi
      have e1 : rdX b 0 cur = ([], z, ⟨0, 0, 0, [], 0, []⟩) := by unfold rdX; simp [ht]
      rw [e1]
      refine ⟨⟨_, Try.func126, by kernel_rfl, rfl⟩, ACall.of Try.func126 rfl fun c0 hc0 => ?_⟩; simp only [Try.ntmps126, Ya, Y9, Nat.reduceAdd, Nat.reduceSub, Ym, Yn, Y5, Y3]; refine Run.god tab_ok follows_ok Try.func126 60 ?_; simp only [pp, decide_true, ↓alt_t, ↓alt_f, drun, adops, adone, places, mayNeed, freeOk, rdOf, AV.id, wrOf, aops, aone, aop, needs, ext, aev, aconst, aput, aupd, aload, afieldAddr, acmp, ashift, abin, tab_4, tab_34, tab_85, tab_145, tab_183, tab_185, ok1, lay, cellsAs, TI.agg, AV.cells, AV.whole, Y4, Yb, Yc, Y6, Y7, Ya, Y9, Y1, Y2, Yi, Yh, Yg, Yj, Yk, Y5, Y3, Yt, Yu, Ys, Yr, Nat.reduceAdd, Nat.reduceLeDiff, Yp, Yq, Bool.not_true, Yv, Y0, Y8]
      refine ⟨rfl, ?_⟩
      refine DOps.pure rfl .free rfl rfl (hi) (by simp only [aev, Y4, Y1, Y2, Yf, Ye, Y3, Yd, Y0]; (repeat' first | exact .refl _ | apply LeR.tup | apply Le.agg | constructor)) rfl rfl ?_
      refine DOps.god tab_ok follows_ok Try.func126 60 rfl ?_; simp only [Try.results126, hl, bytesA, encR, drun, adops, adone, mayNeed, freeOk, rdOf, AV.id, wrOf, afin, ares, aresL, aresOk, aop, needs, aev, aput, aupd, astore, afieldAddr, tab_34, tab_43, tab_85, tab_145, ok1, lay, AV.cells, AV.whole, Y4, Yb, Yc, Y6, Y7, Ya, Y9, Y1, Y2, Yi, Yh, Yg, Yj, Yl, Ye, Y5, Y3, Yd, Yt, Yu, Yr, Nat.reduceAdd, Nat.reduceLeDiff, Yp, Yq, Yv, Y0, Y8]
      ((repeat' apply And.intro) <;> try first | rfl | omega | (unfold I64; omega))
      all_goals (first | omega | (repeat' (first | exact WkH.nil _ | exact LeR.one (Le.refl _) | exact LeL.nil | apply LeR.tup | exact Le.refl _ | exact Le1.refl _ | exact Le1L.nil | exact le1l_refl _ | rfl | exact hcs | exact belL_app (belL_app (belL_take _ hcs) rfl) (belL_drop _ hcs) | apply WkH.cons | apply LeB.box | apply Le1L.cons | apply Le.one)))
    | ok p =>
      obtain ⟨n, q⟩ := p
      rw [ht] at hi
      simp only [takeRpA] at hi
      have e1 : rdX b 0 cur = (q, 0, n) := by unfold rdX; simp [ht]
      rw [e1]
      refine ⟨⟨_, Try.func126, by kernel_rfl, rfl⟩, ACall.of Try.func126 rfl fun c0 hc0 => ?_⟩; simp only [Try.ntmps126, Ya, Y9, Nat.reduceAdd, Nat.reduceSub, Ym, Yn, Y5, Y3]; refine Run.god tab_ok follows_ok Try.func126 60 ?_; simp only [pp, decide_true, ↓alt_t, ↓alt_f, drun, adops, adone, places, mayNeed, freeOk, rdOf, AV.id, wrOf, aops, aone, aop, needs, ext, aev, aconst, aput, aupd, aload, afieldAddr, acmp, ashift, abin, tab_4, tab_34, tab_85, tab_145, tab_183, tab_185, ok1, lay, cellsAs, TI.agg, AV.cells, AV.whole, Y4, Yb, Yc, Y6, Y7, Ya, Y9, Y1, Y2, Yi, Yh, Yg, Yj, Yk, Y5, Y3, Yt, Yu, Ys, Yr, Nat.reduceAdd, Nat.reduceLeDiff, Yp, Yq, Bool.not_true, Yv, Y0, Y8]
      refine ⟨rfl, ?_⟩
      refine DOps.pure rfl .free rfl rfl (hi) (by simp only [aev, Y4, Y1, Y2, Yf, Ye, Y3, Yd, Y0]; (repeat' first | exact .refl _ | apply LeR.tup | apply Le.agg | constructor)) rfl rfl ?_
      refine DOps.god tab_ok follows_ok Try.func126 60 rfl ?_; simp only [Try.results126, hl, bytesA, encR, drun, adops, adone, mayNeed, freeOk, rdOf, AV.id, wrOf, afin, ares, aresL, aresOk, aop, needs, aev, aput, aupd, astore, afieldAddr, tab_34, tab_43, tab_85, tab_145, ok1, lay, AV.cells, AV.whole, Y4, Yb, Yc, Y6, Y7, Ya, Y9, Y1, Y2, Yi, Yh, Yg, Yj, Yl, Y5, Y3, Yd, Yt, Yu, Yr, Nat.reduceAdd, Nat.reduceLeDiff, Yp, Yq, Yv, Y0, Y8]
      ((repeat' apply And.intro) <;> try first | rfl | omega | (unfold I64; omega))
      all_goals (first | omega | (repeat' (first | exact WkH.nil _ | exact LeR.one (Le.refl _) | exact LeL.nil | apply LeR.tup | exact Le.refl _ | exact Le1.refl _ | exact Le1L.nil | exact le1l_refl _ | rfl | exact hcs | exact belL_app (belL_app (belL_take _ hcs) rfl) (belL_drop _ hcs) | apply WkH.cons | apply LeB.box | apply Le1L.cons | apply Le.one)))
  · have e1 : rdX b e cur = (b, e, cur) := by unfold rdX; simp [he]
    rw [e1, lay_self (xs := [.int .i64 cur.a, .int .i64 cur.b, .int .i64 cur.e, .str cur.s, .int .i64 cur.x, textsA cur.l]) ho hl]
    refine ⟨⟨_, Try.func126, by kernel_rfl, rfl⟩, ACall.of Try.func126 rfl fun c0 hc0 => ?_⟩; simp only [Try.ntmps126, Ya, Y9, Nat.reduceAdd, Nat.reduceSub, Ym, Yn, Y5, Y3]; refine Run.god tab_ok follows_ok Try.func126 60 ?_; simp only [Try.results126, pp, he, decide_false, ↓alt_t, drun, aops, aone, afin, ares, aresL, aresOk, aop, needs, ext, aev, aconst, aput, aupd, aload, afieldAddr, acmp, ashift, abin, tab_34, tab_145, ok1, cellsAs, TI.agg, AV.cells, AV.whole, Y4, Yb, Yc, Y6, Y7, Ya, Y9, Y1, Y2, Yi, Yh, Yg, Yk, Y5, Y3, Yt, Ys, Yr, Nat.reduceAdd, Yp, Bool.not_false, Yv, Y0, Y8]
    ((repeat' apply And.intro) <;> try first | rfl | omega | (unfold I64; omega))
    all_goals (first | omega | (repeat' (first | exact WkH.nil _ | exact LeR.one (Le.refl _) | exact LeL.nil | apply LeR.tup | exact Le.refl _ | exact Le1.refl _ | exact Le1L.nil | exact le1l_refl _ | rfl | exact hcs | exact belL_app (belL_app (belL_take _ hcs) rfl) (belL_drop _ hcs) | apply WkH.cons | apply LeB.box | apply Le1L.cons | apply Le.one)))
end Go.Proofs.Ytkamcoechjdgpaa
/-
  Package wire: a letter's parts, taken: flags; numbers, texts, flags of rows.
-/
namespace Go.Proofs.Ytkamcoechjdgpaa
open Go.RowKit
def rdF (b : Bytes) (e : Int) (cur : Bool) : Bytes × Int × Bool := ((rdN b e (if cur then 1 else 0)).1, (if (rdN b e (if cur then 1 else 0)).2.2 ≠ 0 ∧ (rdN b e (if cur then 1 else 0)).2.2 ≠ 1 then 3 else (rdN b e (if cur then 1 else 0)).2.1), decide ((rdN b e (if cur then 1 else 0)).2.2 = 1))
theorem belLL_set {n : Nat} : ∀ {L : List (List AV)} {j : Nat} {x : List AV}, belLL n L = true → belL n x = true → belLL n (L.set j x) = true
  | [], _, _, h, _ => h
  | y :: L, 0, x, h, hx => by
    simp only [belLL, Y6, Bool.and_eq_true] at h ⊢
    exact ⟨hx, h.2⟩
  | y :: L, j + 1, x, h, hx => by
    simp only [belLL, Y7, Bool.and_eq_true] at h ⊢
    exact ⟨h.1, belLL_set h.2 hx⟩
theorem flag_r_true (b : Bytes) (e : Int) (cs : List AV) (o : Nat) (hb : b.length ≤ 1000000) (ho : (cs.drop o).take 1 = [.bool true]) (hl : o + 1 ≤ cs.length) (hcs : belL 0 cs = true) : BSpec Try.prog 131 [.agg [.ptr 1 o], .ptr 0 0] [pp b true e, .box cs] [pp (rdF b e true).1 true (rdF b e true).2.1, .box (lay cs o [.bool (rdF b e true).2.2])] (.tup []) := by
  have hn := number_r b e 1 [.int .i64 1] 0 hb rfl (by decide) rfl
  unfold rdF
  simp only [Ys]
  generalize rdN b e 1 = t at *
  obtain ⟨b', e', n⟩ := t
  simp only [lay, Yj, Y3, Ya, Y9, Yp, Yh, Yl, Yd] at hn ⊢
  refine ⟨⟨_, Try.func131, by kernel_rfl, rfl⟩, ACall.of Try.func131 rfl fun c0 hc0 => ?_⟩; simp only [Try.ntmps131, Ya, Y9, Nat.reduceAdd, Nat.reduceSub, Ym, Yn, Y5, Y3]; refine Run.god tab_ok follows_ok Try.func131 60 ?_; simp only [pp, ho, ne_eq, ↓alt_t, drun, aops, aone, aop, needs, ext, aev, aconst, aput, aupd, aload, astore, afieldAddr, abuild, tab_3, tab_4, tab_146, tab_148, tab_193, tab_195, ok1, lay, cellsAs, TI.agg, AV.cells, AV.whole, Y4, Yb, Yc, Y6, Y7, Ya, Y9, Y1, Y2, Yi, Yh, Yg, Yj, Yk, Yl, Yf, Ye, Y5, Y3, Yd, Yt, Yu, Ys, Yr, Nat.reduceAdd, Yp, Yq, Yv, Y0, Y8]
  refine ⟨by omega, ?_⟩
  refine Ops.callB .free rfl rfl (js := [0, 3]) (by decide) (LentAll.cons rfl (pp_lent b true e) (LentAll.cons rfl (LentB.box_ [.int .i64 1] rfl) LentAll.nil)) (lent2 (pp_lent _ _ _) (LentB.box_ _ rfl)) rfl rfl (by simp only [cond_true, cond_false, renL, AV.ren, List.idxOf, List.findIdx, List.findIdx.go, aev, Y4, Y1, Y2, Yf, Ye, Y3, Yd, Nat.reduceAdd, Nat.reduceBEq, Yp, beq_self_eq_true, Y0]; (repeat' first | exact .refl _ | apply LeR.tup | apply Le.agg | constructor)) (hn) rfl ?_
  by_cases n0 : n = 0
  · subst n0
    refine Ops.god tab_ok follows_ok Try.func131 60 ?_; simp only [Try.results131, putBack, pp, hl, decide_true, decide_false, ↓alt_f, ↓alts_f, ↓gone_tf, gslot, Int.reduceEq, drun, aops, aone, afin, ares, aresL, aresOk, aop, needs, ext, aev, aconst, aput, aupd, aload, astore, afieldAddr, acmp, ashift, abin, tab_3, tab_4, tab_193, tab_195, ok1, lay, cellsAs, TI.agg, AV.cells, AV.whole, Y4, Yb, Yc, Y6, Y7, Ya, Y9, Y1, Y2, Yw, Yi, Yg, Yk, Y5, Y3, Yt, Yu, Ys, Yr, Yp, Yq, Bool.not_true, not_false_eq_true, not_true_eq_false, Yv, Y0, Y8]
    ((repeat' apply And.intro) <;> try first | rfl | omega | (unfold I64; omega))
    all_goals (first | omega | (repeat' (first | exact WkH.nil _ | exact LeR.one (Le.refl _) | exact LeL.nil | apply LeR.tup | exact Le.refl _ | exact Le1.refl _ | exact Le1L.nil | exact le1l_refl _ | rfl | exact hcs | exact belL_app (belL_app (belL_take _ hcs) rfl) (belL_drop _ hcs) | apply WkH.cons | apply LeB.box | apply Le1L.cons | apply Le.one)))
  · by_cases n1 : n = 1
    · subst n1
      refine Ops.god tab_ok follows_ok Try.func131 60 ?_; simp only [Try.results131, putBack, pp, hl, decide_true, decide_false, show ¬ (1 : Int) = 0 by decide, ↓alt_f, ↓alts_t, ↓gone_tt, gslot, drun, aops, aone, afin, ares, aresL, aresOk, aop, needs, ext, aev, aconst, aput, aupd, aload, astore, afieldAddr, acmp, ashift, abin, tab_3, tab_4, tab_193, tab_195, ok1, lay, cellsAs, TI.agg, AV.cells, AV.whole, Y4, Yb, Yc, Y6, Y7, Ya, Y9, Y1, Y2, Yw, Yi, Yg, Yk, Y5, Y3, Yt, Yu, Ys, Yr, Yp, Yq, Bool.not_true, Bool.not_false, not_false_eq_true, not_true_eq_false, Yv, Y0, Y8]
      ((repeat' apply And.intro) <;> try first | rfl | omega | (unfold I64; omega))
      all_goals (first | omega | (repeat' (first | exact WkH.nil _ | exact LeR.one (Le.refl _) | exact LeL.nil | apply LeR.tup | exact Le.refl _ | exact Le1.refl _ | exact Le1L.nil | exact le1l_refl _ | rfl | exact hcs | exact belL_app (belL_app (belL_take _ hcs) rfl) (belL_drop _ hcs) | apply WkH.cons | apply LeB.box | apply Le1L.cons | apply Le.one)))
    · have h3 : (n ≠ 0 ∧ n ≠ 1) := ⟨n0, n1⟩
      rw [if_pos h3]
      refine Ops.god tab_ok follows_ok Try.func131 60 ?_; simp only [Try.results131, putBack, pp, hl, n0, n1, decide_false, ↓alt_t, ↓alts_t, ↓gone_tt, gslot, drun, aops, aone, afin, ares, aresL, aresOk, aop, needs, ext, aev, aconst, aput, aupd, aload, astore, afieldAddr, acmp, ashift, abin, tab_3, tab_4, tab_34, tab_145, tab_193, tab_195, ok1, lay, cellsAs, TI.agg, AV.cells, AV.whole, Y4, Yb, Yc, Y6, Y7, Ya, Y9, Y1, Y2, Yw, Yi, Yh, Yg, Yj, Yk, Yl, Y5, Y3, Yd, Yt, Yu, Ys, Yr, Nat.reduceAdd, Yp, Yq, Bool.not_false, Yv, Y0, Y8]
      ((repeat' apply And.intro) <;> try first | rfl | omega | (unfold I64; omega))
      all_goals (first | omega | (repeat' (first | exact WkH.nil _ | exact LeR.one (Le.refl _) | exact LeL.nil | apply LeR.tup | exact Le.refl _ | exact Le1.refl _ | exact Le1L.nil | exact le1l_refl _ | rfl | exact hcs | exact belL_app (belL_app (belL_take _ hcs) rfl) (belL_drop _ hcs) | apply WkH.cons | apply LeB.box | apply Le1L.cons | apply Le.one)))
theorem flag_r_false (b : Bytes) (e : Int) (cs : List AV) (o : Nat) (hb : b.length ≤ 1000000) (ho : (cs.drop o).take 1 = [.bool false]) (hl : o + 1 ≤ cs.length) (hcs : belL 0 cs = true) : BSpec Try.prog 131 [.agg [.ptr 1 o], .ptr 0 0] [pp b true e, .box cs] [pp (rdF b e false).1 true (rdF b e false).2.1, .box (lay cs o [.bool (rdF b e false).2.2])] (.tup []) := by
  have hn := number_r b e 0 [.int .i64 0] 0 hb rfl (by decide) rfl
  unfold rdF
  simp only [Y8, Yr]
  generalize rdN b e 0 = t at *
  obtain ⟨b', e', n⟩ := t
  simp only [lay, Yj, Y3, Ya, Y9, Yp, Yh, Yl, Yd] at hn ⊢
  refine ⟨⟨_, Try.func131, by kernel_rfl, rfl⟩, ACall.of Try.func131 rfl fun c0 hc0 => ?_⟩; simp only [Try.ntmps131, Ya, Y9, Nat.reduceAdd, Nat.reduceSub, Ym, Yn, Y5, Y3]; refine Run.god tab_ok follows_ok Try.func131 60 ?_; simp only [pp, ho, ne_eq, ↓alt_f, drun, aops, aone, aop, needs, ext, aev, aconst, aput, aupd, aload, astore, afieldAddr, abuild, tab_3, tab_4, tab_146, tab_148, tab_193, tab_195, ok1, lay, cellsAs, TI.agg, AV.cells, AV.whole, Y4, Yb, Yc, Y6, Y7, Ya, Y9, Y1, Y2, Yi, Yh, Yg, Yj, Yk, Yl, Yf, Ye, Y5, Y3, Yd, Yt, Yu, Ys, Yr, Nat.reduceAdd, Yp, Yq, Yv, Y0, Y8]
  refine ⟨by omega, ?_⟩
  refine Ops.callB .free rfl rfl (js := [0, 3]) (by decide) (LentAll.cons rfl (pp_lent b true e) (LentAll.cons rfl (LentB.box_ [.int .i64 0] rfl) LentAll.nil)) (lent2 (pp_lent _ _ _) (LentB.box_ _ rfl)) rfl rfl (by simp only [cond_true, cond_false, renL, AV.ren, List.idxOf, List.findIdx, List.findIdx.go, aev, Y4, Y1, Y2, Yf, Ye, Y3, Yd, Nat.reduceAdd, Nat.reduceBEq, Yp, beq_self_eq_true, Y0]; (repeat' first | exact .refl _ | apply LeR.tup | apply Le.agg | constructor)) (hn) rfl ?_
  by_cases n0 : n = 0
  · subst n0
    refine Ops.god tab_ok follows_ok Try.func131 60 ?_; simp only [Try.results131, putBack, pp, hl, decide_true, decide_false, ↓alt_f, ↓alts_f, ↓gone_tf, gslot, Int.reduceEq, drun, aops, aone, afin, ares, aresL, aresOk, aop, needs, ext, aev, aconst, aput, aupd, aload, astore, afieldAddr, acmp, ashift, abin, tab_3, tab_4, tab_193, tab_195, ok1, lay, cellsAs, TI.agg, AV.cells, AV.whole, Y4, Yb, Yc, Y6, Y7, Ya, Y9, Y1, Y2, Yw, Yi, Yg, Yk, Y5, Y3, Yt, Yu, Ys, Yr, Yp, Yq, Bool.not_true, not_false_eq_true, not_true_eq_false, Yv, Y0, Y8]
    ((repeat' apply And.intro) <;> try first | rfl | omega | (unfold I64; omega))
    all_goals (first | omega | (repeat' (first | exact WkH.nil _ | exact LeR.one (Le.refl _) | exact LeL.nil | apply LeR.tup | exact Le.refl _ | exact Le1.refl _ | exact Le1L.nil | exact le1l_refl _ | rfl | exact hcs | exact belL_app (belL_app (belL_take _ hcs) rfl) (belL_drop _ hcs) | apply WkH.cons | apply LeB.box | apply Le1L.cons | apply Le.one)))
  · by_cases n1 : n = 1
    · subst n1
      refine Ops.god tab_ok follows_ok Try.func131 60 ?_; simp only [Try.results131, putBack, pp, hl, decide_true, decide_false, show ¬ (1 : Int) = 0 by decide, ↓alt_f, ↓alts_t, ↓gone_tt, gslot, drun, aops, aone, afin, ares, aresL, aresOk, aop, needs, ext, aev, aconst, aput, aupd, aload, astore, afieldAddr, acmp, ashift, abin, tab_3, tab_4, tab_193, tab_195, ok1, lay, cellsAs, TI.agg, AV.cells, AV.whole, Y4, Yb, Yc, Y6, Y7, Ya, Y9, Y1, Y2, Yw, Yi, Yg, Yk, Y5, Y3, Yt, Yu, Ys, Yr, Yp, Yq, Bool.not_true, Bool.not_false, not_false_eq_true, not_true_eq_false, Yv, Y0, Y8]
      ((repeat' apply And.intro) <;> try first | rfl | omega | (unfold I64; omega))
      all_goals (first | omega | (repeat' (first | exact WkH.nil _ | exact LeR.one (Le.refl _) | exact LeL.nil | apply LeR.tup | exact Le.refl _ | exact Le1.refl _ | exact Le1L.nil | exact le1l_refl _ | rfl | exact hcs | exact belL_app (belL_app (belL_take _ hcs) rfl) (belL_drop _ hcs) | apply WkH.cons | apply LeB.box | apply Le1L.cons | apply Le.one)))
    · have h3 : (n ≠ 0 ∧ n ≠ 1) := ⟨n0, n1⟩
      rw [if_pos h3]
      refine Ops.god tab_ok follows_ok Try.func131 60 ?_; simp only [Try.results131, putBack, pp, hl, n0, n1, decide_false, ↓alt_t, ↓alts_t, ↓gone_tt, gslot, drun, aops, aone, afin, ares, aresL, aresOk, aop, needs, ext, aev, aconst, aput, aupd, aload, astore, afieldAddr, acmp, ashift, abin, tab_3, tab_4, tab_34, tab_145, tab_193, tab_195, ok1, lay, cellsAs, TI.agg, AV.cells, AV.whole, Y4, Yb, Yc, Y6, Y7, Ya, Y9, Y1, Y2, Yw, Yi, Yh, Yg, Yj, Yk, Yl, Y5, Y3, Yd, Yt, Yu, Ys, Yr, Nat.reduceAdd, Yp, Yq, Bool.not_false, Yv, Y0, Y8]
      ((repeat' apply And.intro) <;> try first | rfl | omega | (unfold I64; omega))
      all_goals (first | omega | (repeat' (first | exact WkH.nil _ | exact LeR.one (Le.refl _) | exact LeL.nil | apply LeR.tup | exact Le.refl _ | exact Le1.refl _ | exact Le1L.nil | exact le1l_refl _ | rfl | exact hcs | exact belL_app (belL_app (belL_take _ hcs) rfl) (belL_drop _ hcs) | apply WkH.cons | apply LeB.box | apply Le1L.cons | apply Le.one)))
end Go.Proofs.Ytkamcoechjdgpaa
