/-
  A size's numbers, by their old contracts; a row of answers clipped.
-/
import Derived.Test.YtkamcoechjdgpaaBr
import Derived.Test.YtkamcoechjdgpaaRs
import Derived.Test.YtkamcoechjdgpaaSize
import Derived.Test.YtkamcoechjdgpaaCe
namespace Go.Proofs.Ytkamcoechjdgpaa
open Go.RowKit
def Sz.weak (s : Sz) : Int := s.f + 1
def encS (s : Sz) : AV := .agg [.int .i64 s.f, .int .i64 s.t]
theorem sz_of {c : Cx} {vs : Array Value} {s : Sz} (h : TRel c vs [encS s]) : vs = #[szV s.f s.t] := by
  obtain ⟨h1, h2⟩ := h
  obtain ⟨vs⟩ := vs
  match vs, h1 with
  | [u], _ =>
    have hu := h2 0 u _ rfl rfl
    cases hu with
    | agg us _ hs hc hr =>
      obtain ⟨us⟩ := us
      match us, hs with
      | [x, y], _ =>
        have hx := hr 0 x _ rfl rfl
        have hy := hr 1 y _ rfl rfl
        cases hx; cases hy
        rfl
/-- From an old contract on a size. -/
theorem size_spec {P : Program} {f : FuncId} {s : Sz} {r : AV} {v : Value} (hfn : Callable P f) (hv : ∀ c, RV c v r) (h : ∀ w, Calls P f #[szV s.f s.t] w fun e w' => e = .returned v ∧ Below w.heap.size w w') : ASpec P f [encS s] r := by
  refine ⟨hfn, fun c vs hh hc ht => ?_⟩
  obtain rfl := sz_of ht
  refine (h c.w).mono ?_
  rintro e w' ⟨rfl, hb⟩
  obtain ⟨g1, g2⟩ := Below.ev hc hh hb
  exact ⟨_, _, _, _, rfl, g1, g2, hv _, .one (.refl _)⟩
theorem sizeOk_right (s : Sz) : sizeOk s.f s.t = s.right := by
  rw [Bool.eq_iff_iff, sizeOk_iff]
  simp only [Sz.right, Bool.and_eq_true, decide_eq_true_eq]
  omega
theorem right_spec (s : Sz) : ASpec Try.prog 10 [encS s] (.bool s.right) :=
  size_spec ⟨_, Try.func10, by kernel_rfl, rfl⟩ (fun _ => .bool _) fun w => by rw [← sizeOk_right]; exact right_any s.f s.t w
theorem zN_spec {s : Sz} (h : s.right = true) : ASpec Try.prog 11 [encS s] (.int .i64 s.n) :=
  size_spec ⟨_, Try.func11, by kernel_rfl, rfl⟩ (fun _ => .int _ _) fun w => zN_any s.f s.t (by rw [sizeOk_right]; exact h) w
theorem zWeak_spec {s : Sz} (h : s.right = true) : ASpec Try.prog 44 [encS s] (.int .i64 s.weak) :=
  size_spec ⟨_, Try.func44, by kernel_rfl, rfl⟩ (fun _ => .int _ _) fun w => zWeak_any s.f s.t (by rw [sizeOk_right]; exact h) w
set_option maxRecDepth 20000 in
theorem clip_spec (l : List Ans) : OSpec Try.prog 45 [ansA l] 14 (l.map ansC) := by
  refine ⟨⟨_, Try.func45, by kernel_rfl, rfl⟩, ?_⟩
  have hll : (l.map ansC).length = l.length := by simp
  have htk : (l.map ansC).take l.length = l.map ansC := by rw [← hll]; exact List.take_length
  refine ACall.of Try.func45 rfl fun c1 hc1 => ?_; simp only [Try.ntmps45, List.length_cons, List.length_nil, Nat.reduceAdd, Nat.reduceSub, List.replicate_succ, List.replicate_zero, List.cons_append, List.nil_append]; refine Run.god tab_ok follows_ok Try.func45 60 ?_; simp only [Try.results45, ansA, List.length_map, htk, eq_self, aslice3, drun, aops, aone, afin, ares, aresL, ares1, aresOk, aresOk1, aop, needs, ext, aev, aconst, aput, aupd, alen, tab_31, tab_54, ok1, Option.getD_some, Option.bind_some, Option.map_some, Option.map_none, List.set_cons_zero, List.set_cons_succ, List.length_nil, List.getElem?_cons_zero, List.getElem?_cons_succ, List.length_map, List.nil_append, true_and, and_true, if_false, reduceCtorEq, Int.toNat_natCast, List.getD_eq_getElem?_getD]
  ((repeat' (apply And.intro)) <;> try (first | rfl | omega | (unfold I64; omega)))
  exact ⟨_, rfl, rfl⟩
end Go.Proofs.Ytkamcoechjdgpaa
