/-
  DiskKept's rows of acts as an argument, and its two walks in one.
-/
import Derived.Test.YthboeilpeggpoaaDiskOpen
import Derived.Test.YthboeilpeggpoaaLawDiskKept
namespace Go.Proofs.Ythboeilpeggpoaa
open Go.ChangeShapes Go.WideShapes Go.ChangeAt Go.RowKit Go.Deep
theorem act_fields : ∃ f0 f1 f2 : Field, Try.prog.underlying 50 = some (.struct #[f0, f1, f2]) ∧ (f0.offset = 0 ∧ f1.offset = 1 ∧ f2.offset = 2) ∧ (f0.type = 3 ∧ f1.type = 3 ∧ f2.type = 22) :=
  ⟨_, _, _, Try.underlying50, ⟨rfl, rfl, rfl⟩, ⟨rfl, rfl, rfl⟩⟩
set_option maxRecDepth 20000 in
theorem opens_act : Opens Try.prog 50 actR := fun enc w base sp hd n cs x h hr => by
  obtain ⟨f0, f1, f2, hs, ⟨o0, o1, o2⟩, ⟨t0, t1, t2⟩⟩ := act_fields
  obtain ⟨hlen, hg⟩ := open_fields hs h hr
  have hc : Try.prog.cellsOf 50 = 3 := by kernel_rfl
  have ci : Try.prog.cellsOf 3 = 1 := by kernel_rfl
  have cl : Try.prog.cellsOf 22 = 1 := by kernel_rfl
  rw [hc] at hlen
  match cs, hlen with
  | [c0, c1, c2], _ =>
    obtain ⟨a0, h0⟩ := hg 0 f0 rfl (R := intR .i64) (by rw [t0]; exact opens_int Try.underlying3)
    obtain ⟨a1, h1⟩ := hg 1 f1 rfl (R := intR .i64) (by rw [t1]; exact opens_int Try.underlying3)
    obtain ⟨a2, h2⟩ := hg 2 f2 rfl (R := subR (slR byteR 1) fun l => l.length * 1 ≤ reachBytes) (by rw [t2]; exact opens_bytes)
    rw [o0, t0, ci] at h0
    rw [o1, t1, ci] at h1
    rw [o2, t2, cl] at h2
    obtain ⟨e0, i0⟩ := h0
    obtain ⟨e1, i1⟩ := h1
    obtain ⟨⟨A2, k2, e2, g2, m2, s2⟩, _⟩ := h2
    simp only [List.drop_zero, List.drop_succ_cons, List.take_succ_cons, List.take_zero, List.cons.injEq, and_true] at e0 e1 e2
    subst e0 e1 e2
    exact ⟨(a0, a1, a2), A2, k2, rfl, g2, m2, s2, i64_lim i1⟩
theorem opens_acts : Opens Try.prog 48 (subR (slR actR 3) fun l => l.length * 40 ≤ reachBytes) := opens_slice (bytes := 40) Try.underlying48 (by kernel_rfl) (by kernel_rfl) (by omega) opens_act
theorem kept_any (size : Int) (A : Option Addr) (l : List (Int × Int × Bytes)) (n c : Nat) (keep : Int) (hm : l.length = n) (hn : n ≤ c) (hc : c ≤ maxLen) (w : World) (hs : Sl actR 3 w.heap.size w A l) :
    Calls Try.prog 5 #[.int .i64 size, .slice A n c, .int .i64 keep] w fun e w' => e = .returned (.bool true) ∧ Below w.heap.size w w' := by
  by_cases h : 40 < n ∨ size < 0 ∨ 1000000 < size
  · exact kept_no size A n c keep hn hc h w
  · exact kept_ok size A l n c keep hm hn hc (by omega) (by omega) (by omega) w hs
end Go.Proofs.Ythboeilpeggpoaa
