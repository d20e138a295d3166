/-
  Sizes, votes and reports, as the shadow reads them; the size's numbers, told by their old contracts.
-/
import Derived.Test.YtgonmnjgodleeaaDoorBr
import Derived.Test.YtgonmnjgodleeaaDoorTp
import Derived.Test.YtgonmnjgodleeaaDoorAb
import Derived.Test.YtgonmnjgodleeaaDoorRs
import Derived.Test.YtgonmnjgodleeaaDoorSize
namespace Go.Proofs.YtgonmnjgodleeaaDoor
open Go.RowKit
def encS (s : Sz) : AV := .agg [.int .i64 s.f, .int .i64 s.t]
theorem sz_of {c : Cx} {vs : Array Value} {s : Sz} (h : TRel c vs [encS s]) : vs = #[szV s.f s.t] := by
  obtain ⟨h1, h2⟩ := h
  obtain ⟨vs⟩ := vs
  match vs, h1 with
  | [u], _ =>
    have hu := h2 0 u _ rfl rfl
    cases hu with
    | agg us _ hs hc hr =>
      obtain ⟨us⟩ := us
      match us, hs with
      | [x, y], _ =>
        have hx := hr 0 x _ rfl rfl
        have hy := hr 1 y _ rfl rfl
        cases hx; cases hy
        rfl
/-- From an old contract on a size. -/
theorem size_spec {P : Program} {f : FuncId} {s : Sz} {r : AV} {v : Value} (hfn : Callable P f) (hv : ∀ c, RV c v r) (h : ∀ w, Calls P f #[szV s.f s.t] w fun e w' => e = .returned v ∧ Below w.heap.size w w') : ASpec P f [encS s] r := by
  refine ⟨hfn, fun c vs hh hc ht => ?_⟩
  obtain rfl := sz_of ht
  refine (h c.w).mono ?_
  rintro e w' ⟨rfl, hb⟩
  obtain ⟨g1, g2⟩ := Below.ev hc hh hb
  exact ⟨_, _, _, _, rfl, g1, g2, hv _, .one (.refl _)⟩
theorem sizeOk_right (s : Sz) : sizeOk s.f s.t = s.right := by
  rw [Bool.eq_iff_iff, sizeOk_iff]
  simp only [Sz.right, Bool.and_eq_true, decide_eq_true_eq]
  omega
theorem right_spec (s : Sz) : ASpec Tryd.prog 29 [encS s] (.bool s.right) :=
  size_spec ⟨_, Tryd.func29, by kernel_rfl, rfl⟩ (fun _ => .bool _) fun w => by rw [← sizeOk_right]; exact right_any s.f s.t w
theorem rright_spec (s : Sz) : ASpec Tryd.prog 7 [encS s] (.bool s.right) :=
  size_spec ⟨_, Tryd.func7, by kernel_rfl, rfl⟩ (fun _ => .bool _) fun w => by rw [← sizeOk_right]; exact rright_any s.f s.t w
theorem zN_spec {s : Sz} (h : s.right = true) : ASpec Tryd.prog 31 [encS s] (.int .i64 s.n) :=
  size_spec ⟨_, Tryd.func31, by kernel_rfl, rfl⟩ (fun _ => .int _ _) fun w => zN_any s.f s.t (by rw [sizeOk_right]; exact h) w
theorem rN_spec {s : Sz} (h : s.right = true) : ASpec Tryd.prog 11 [encS s] (.int .i64 s.n) :=
  size_spec ⟨_, Tryd.func11, by kernel_rfl, rfl⟩ (fun _ => .int _ _) fun w => rN_any s.f s.t (by rw [sizeOk_right]; exact h) w
theorem zProof_spec {s : Sz} (h : s.right = true) : ASpec Tryd.prog 24 [encS s] (.int .i64 s.proof) :=
  size_spec ⟨_, Tryd.func24, by kernel_rfl, rfl⟩ (fun _ => .int _ _) fun w => zProof_any s.f s.t (by rw [sizeOk_right]; exact h) w
theorem rProof_spec {s : Sz} (h : s.right = true) : ASpec Tryd.prog 26 [encS s] (.int .i64 s.proof) :=
  size_spec ⟨_, Tryd.func26, by kernel_rfl, rfl⟩ (fun _ => .int _ _) fun w => rProof_any s.f s.t (by rw [sizeOk_right]; exact h) w
/-- A vote's cells; a row of votes; a report's cells; a row of reports. -/
def accC (a : Acc) : List AV := [.int .i64 a.by_, .int .i64 a.view, .str a.value]
def encA (a : Acc) : AV := .agg (accC a)
def votesA (l : List Acc) : AV := .sl 3 (l.map accC) .no
def rpC (r : Rp) : List AV := [.int .i64 r.by_, .int .i64 r.for_, .bool r.has, .int .i64 r.view, .str r.value, votesA r.proof]
def encRp (r : Rp) : AV := .agg (rpC r)
def rpsA (l : List Rp) : AV := .sl 6 (l.map rpC) .no
end Go.Proofs.YtgonmnjgodleeaaDoor
