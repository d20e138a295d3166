/-
  octet.Int, octet.Text as rows of their own; order's ints and Put, told by their shadows.
-/
import Derived.Test.YtpigfpnpabnnbaaOm
import Derived.Test.YtpigfpnpabnnbaaOctetB
namespace Go.Proofs.Ytpigfpnpabnnbaa
open Go.RowKit
theorem TRel.two {c : Cx} {vs : Array Value} {x y : AV} (h : TRel c vs [x, y]) : ∃ u v, vs = #[u, v] ∧ RV c u x ∧ RV c v y := by
  obtain ⟨h1, h2⟩ := h
  obtain ⟨vs⟩ := vs
  match vs, h1 with
  | [u, v], _ => exact ⟨u, v, rfl, h2 0 u x rfl rfl, h2 1 v y rfl rfl⟩
theorem RV.strb {c : Cx} {v : Value} {s : Bytes} (h : RV c v (.str s)) : ∃ q : ByteArray, v = .string q ∧ sb q = s := by
  cases h with
  | str q l h => exact ⟨q, rfl, h⟩
theorem sb_size (q : ByteArray) : (sb q).length = q.size := by unfold sb; rfl
theorem int_spec (b : Bytes) (n : Int) (hb : b.length ≤ 1000000) (h1 : I64 n) : OSpec Try.prog 19 [bytesA b, .int .i64 n] 1 ((b ++ encN (zig n)).map byteC) := by
  refine own_spec ⟨_, Try.func19, by kernel_rfl, rfl⟩ fun c vs hh hc hr => ?_
  obtain ⟨u, v, rfl, hu, hv⟩ := hr.two
  obtain ⟨A, cap, rfl, g1, g2, hs⟩ := hu.bytes
  cases hv
  unfold I64 at h1
  refine (int_any A b b.length cap n rfl g1 g2 (by omega) (by omega) hb c.w hs).mono ?_
  rintro e w' ⟨v, rfl, h, hb⟩
  exact ⟨v, _, rfl, h, hb⟩
theorem text_spec (b s : Bytes) (hb : b.length ≤ 1000000) (h1 : s.length ≤ 1000000) : OSpec Try.prog 21 [bytesA b, .str s] 1 ((b ++ encT s).map byteC) := by
  refine own_spec ⟨_, Try.func21, by kernel_rfl, rfl⟩ fun c vs hh hc hr => ?_
  obtain ⟨u, v, rfl, hu, hv⟩ := hr.two
  obtain ⟨A, cap, rfl, g1, g2, hs⟩ := hu.bytes
  obtain ⟨q, rfl, rfl⟩ := hv.strb
  rw [sb_size] at h1
  refine (text_any A b b.length cap q rfl g1 g2 h1 hb c.w hs).mono ?_
  rintro e w' ⟨v, rfl, h, hb⟩
  exact ⟨v, _, rfl, h, hb⟩
def intC (n : Int) : List AV := [.int .i64 n]
def encZs (l : List Int) : Bytes := (l.map fun n => encN (zig n)).flatten
theorem encZs_le : ∀ (l : List Int), (∀ n ∈ l, I64 n) → (encZs l).length ≤ 9 * l.length
  | [], _ => by simp [encZs]
  | n :: l, h => by
    have ih := encZs_le l fun m hm => h m (List.mem_cons_of_mem _ hm)
    have h0 := h n List.mem_cons_self
    unfold I64 at h0
    have h1 := encN_le (zig n) (zig_lt n (by omega) (by omega))
    unfold encZs at ih ⊢
    simp only [List.map_cons, List.flatten_cons, List.length_append, List.length_cons]
    omega
set_option maxRecDepth 20000 in
theorem ints_spec (b : Bytes) (l : List Int) (hb : b.length ≤ 900000) (hl : l.length ≤ 1000) (hz : ∀ n ∈ l, I64 n) : ASpec Try.prog 53 [bytesA b, .sl 1 (l.map intC) .no] (bytesA (b ++ encZs l)) := by
  refine ⟨⟨_, Try.func53, by kernel_rfl, rfl⟩, ACall.of Try.func53 rfl fun c0 hc0 => ?_⟩; simp only [Try.ntmps53, List.length_cons, List.length_nil, Nat.reduceAdd, Nat.reduceSub, List.replicate_succ, List.replicate_zero, List.cons_append, List.nil_append]; refine Run.god tab_ok follows_ok Try.func53 60 ?_; simp only [bytesA, drun, aops, aone, aop, needs, ext, aev, aconst, aput, aupd, alen, tab_79, ok1, Option.getD_some, Option.bind_some, List.set_cons_zero, List.set_cons_succ, List.getElem?_cons_zero, List.getElem?_cons_succ, List.length_map, List.nil_append, true_and, if_false, reduceCtorEq, List.getD_eq_getElem?_getD]
  refine Run.loopV (α := Nat) (fun k => k ≤ l.length) (fun k => [(0, bytesA (b ++ encZs (l.take k))), (9, .int .i64 k)]) 0 (fun _ => []) (fun k => l.length - k) 0 (Nat.zero_le _) ?_ ?_
  · simp only [writes, junks, puts, hputs, List.filterMap_cons, List.filterMap_nil, Int.natCast_zero, List.set_cons_zero, List.set_cons_succ, List.take_zero, List.take_nil, List.map_nil, List.cons_append, List.nil_append, List.append_nil, bytesA, encZs, List.flatten_nil]
    (refine Weak.of (by simp [hc0]) ?_ ?_ <;> (repeat' (first | exact WkT.nil | exact WkH.nil _ | exact Le.refl _ | exact Le.junk _ | exact Le1.refl _ | exact Le1.nil _ | exact Le1.tok _ _ _ | exact Le1L.nil | rfl | apply WkT.cons | apply WkH.cons | apply LeB.same | apply LeB.box | apply Le1L.cons | apply Le.agg | apply Le.one)))
  · intro k hI ih
    simp only [writes, junks, puts, hputs, List.filterMap_cons, List.filterMap_nil, List.set_cons_zero, List.set_cons_succ, List.take_nil, List.cons_append, List.nil_append, List.append_nil] at ih ⊢
    by_cases hk : k < l.length
    · obtain ⟨x, hx⟩ : ∃ x, l[k]? = some x := ⟨_, List.getElem?_eq_getElem hk⟩
      have hkk : (k : Int) < l.length := by omega
      have hxm := List.mem_of_getElem? hx
      have hle := encZs_le (l.take k) fun n hn => hz n (List.mem_of_mem_take hn)
      rw [List.length_take] at hle
      have hsn : encZs (l.take (k + 1)) = encZs (l.take k) ++ encN (zig x) := by
        rw [List.take_add_one, hx]
        simp [encZs]
      refine Run.god tab_ok follows_ok Try.func53 60 ?_; simp only [hx, hkk, intC, List.getElem?_map, List.length_map, eq_self, ↓alt_t, drun, aops, aone, aop, needs, ext, aev, aput, aupd, aload, aindexAddr, acmp, ashift, abin, tab_3, tab_79, ok1, cellsAs, TI.agg, Option.getD_some, Option.bind_some, Option.map_some, List.set_cons_zero, List.set_cons_succ, List.length_cons, List.length_nil, List.getElem?_cons_zero, List.getElem?_cons_succ, List.take_succ_cons, List.take_nil, List.length_map, List.nil_append, true_and, and_true, if_true, if_false, Nat.reduceAdd, Nat.zero_add, decide_true, Nat.reduceLT, reduceCtorEq, Nat.le_refl, Int.toNat_natCast, List.getD_eq_getElem?_getD]
      refine ⟨by omega, ?_⟩
      refine Ops.own .free rfl rfl (int_spec (b ++ encZs (l.take k)) x (by rw [List.length_append]; omega) (hz x hxm)) (by simp only [bytesA, aev, Option.getD_some, List.getElem?_cons_zero, List.getElem?_cons_succ, List.map_cons, List.map_nil, List.nil_append, List.append_nil, List.getD_eq_getElem?_getD]; (repeat' (first | exact LeL.nil | exact Le1L.nil | exact Le.refl _ | exact Le1.refl _ | exact Le1.nil _ | exact Le1.tok _ _ _ | exact LeR.one (Le.refl _) | apply LeR.tup | apply LeL.cons | apply Le1L.cons | apply Le.agg | apply Le.one | apply LeR.one))) rfl ?_
      refine Ops.god tab_ok follows_ok Try.func53 60 ?_; simp only [bytesA, eq_self, drun, aops, aone, aop, needs, ext, aev, aconst, aput, aupd, acmp, aarith, ashift, abin, tab_3, ok1, Option.getD_some, Option.bind_some, List.set_cons_zero, List.set_cons_succ, List.length_nil, List.getElem?_cons_zero, List.getElem?_cons_succ, List.length_map, List.cons_append, List.nil_append, true_and, if_true, if_false, reduceCtorEq, List.getD_eq_getElem?_getD]
      refine ⟨by unfold I64; omega, ih (k + 1) _ (by omega) (by omega) ?_⟩
      rw [hsn, ← List.append_assoc]
      simp only [Int.natCast_add, Int.natCast_one, bytesA]
      (refine Weak.of (by simp [hc0]) ?_ ?_ <;> (repeat' (first | exact WkT.nil | exact WkH.nil _ | exact Le.refl _ | exact Le.junk _ | exact Le1.refl _ | exact Le1.nil _ | exact Le1.tok _ _ _ | exact Le1L.nil | rfl | apply WkT.cons | apply WkH.cons | apply LeB.same | apply LeB.box | apply Le1L.cons | apply Le.agg | apply Le.one)))
    · obtain rfl : k = l.length := by omega
      have hkk : ¬ (l.length : Int) < l.length := by omega
      refine Run.god tab_ok follows_ok Try.func53 60 ?_; simp only [Try.results53, hkk, bytesA, eq_self, ↓alt_f, drun, aops, aone, afin, ares, aresL, ares1, aresOk, aresOk1, aop, needs, ext, aev, aput, aupd, acmp, ashift, abin, tab_3, ok1, exitTo, Option.getD_some, Option.bind_some, Option.map_some, List.set_cons_zero, List.set_cons_succ, List.getElem?_cons_zero, List.getElem?_cons_succ, List.nil_append, true_and, and_true, if_true, if_false, beq_self_eq_true, decide_false, reduceCtorEq, List.getD_eq_getElem?_getD]
      rw [List.take_length]
      (repeat' (first | exact LeL.nil | exact Le1L.nil | exact Le.refl _ | exact Le1.refl _ | exact Le1.nil _ | exact Le1.tok _ _ _ | exact LeR.one (Le.refl _) | apply LeR.tup | apply LeL.cons | apply Le1L.cons | apply Le.agg | apply Le.one | apply LeR.one))
end Go.Proofs.Ytpigfpnpabnnbaa
