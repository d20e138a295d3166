/-
  A disk as an argument.
-/
import Derived.Test.YthboeilpeggpoaaOpenS
import Derived.Test.YthboeilpeggpoaaDisk
namespace Go.Proofs.Ythboeilpeggpoaa
open Go.ChangeShapes Go.WideShapes Go.ChangeAt Go.RowKit Go.Deep
theorem disk_fields : ∃ f0 f1 f2 f3 f4 : Field, Try.prog.underlying 24 = some (.struct #[f0, f1, f2, f3, f4]) ∧ (f0.offset = 0 ∧ f1.offset = 1 ∧ f2.offset = 2 ∧ f3.offset = 3 ∧ f4.offset = 4) ∧ (f0.type = 3 ∧ f1.type = 22 ∧ f2.type = 22 ∧ f3.type = 4 ∧ f4.type = 3) :=
  ⟨_, _, _, _, _, Try.underlying24, ⟨rfl, rfl, rfl, rfl, rfl⟩, ⟨rfl, rfl, rfl, rfl, rfl⟩⟩
theorem opens_bytes : Opens Try.prog 22 (subR (slR byteR 1) fun l => l.length * 1 ≤ reachBytes) := opens_slice (bytes := 1) Try.underlying22 (by kernel_rfl) (by kernel_rfl) (by omega) (opens_byte Try.underlying5)
set_option maxRecDepth 20000 in
/-- A disk that is handed in: where it lies. -/
theorem open_disk {H : Type} {enc : TypeId × Value → H} {w : World} {base base' : Nat} {sp : Nat → Bool} {hd : Bool} {v : Value} {x : DataW H} {p : List MemPlace} {r : Reach}
    (hval : Value.okWide Try.prog w r base' 24 v) (h : DataW.Trod enc Try.prog w base sp hd 24 v x p) (hr : InReach Try.prog 24 x) :
    ∃ d : Dk, v = d.v ∧ d.ok (fun k => k < w.heap.size) w ∧ d.s.length ≤ reachBytes ∧ d.l.length ≤ reachBytes := by
  obtain ⟨f0, f1, f2, f3, f4, hs, ⟨o0, o1, o2, o3, o4⟩, ⟨t0, t1, t2, t3, t4⟩⟩ := disk_fields
  obtain ⟨cs, rfl, hsz⟩ := okWide_struct hs hval
  obtain ⟨l⟩ := cs
  obtain ⟨fuel, hf⟩ := h
  obtain ⟨hlen, hg⟩ := open_fields hs hf hr
  have hc : Try.prog.cellsOf 24 = 5 := by kernel_rfl
  have ci : Try.prog.cellsOf 3 = 1 := by kernel_rfl
  have cb : Try.prog.cellsOf 4 = 1 := by kernel_rfl
  have cl : Try.prog.cellsOf 22 = 1 := by kernel_rfl
  rw [hc] at hlen
  simp only [Value.cells] at hlen hg
  match l, hlen with
  | [c0, c1, c2, c3, c4], _ =>
    obtain ⟨a0, h0⟩ := hg 0 f0 rfl (R := intR .i64) (by rw [t0]; exact opens_int Try.underlying3)
    obtain ⟨a1, h1⟩ := hg 1 f1 rfl (R := subR (slR byteR 1) fun l => l.length * 1 ≤ reachBytes) (by rw [t1]; exact opens_bytes)
    obtain ⟨a2, h2⟩ := hg 2 f2 rfl (R := subR (slR byteR 1) fun l => l.length * 1 ≤ reachBytes) (by rw [t2]; exact opens_bytes)
    obtain ⟨a3, h3⟩ := hg 3 f3 rfl (R := boolR) (by rw [t3]; exact opens_bool Try.underlying4)
    obtain ⟨a4, h4⟩ := hg 4 f4 rfl (R := intR .i64) (by rw [t4]; exact opens_int Try.underlying3)
    rw [o0, t0, ci] at h0
    rw [o1, t1, cl] at h1
    rw [o2, t2, cl] at h2
    rw [o3, t3, cb] at h3
    rw [o4, t4, ci] at h4
    obtain ⟨e0, i0⟩ := h0
    obtain ⟨⟨A1, k1, e1, g1, m1, s1⟩, r1⟩ := h1
    obtain ⟨⟨A2, k2, e2, g2, m2, s2⟩, r2⟩ := h2
    obtain ⟨e4, i4⟩ := h4
    have e3 : [c3] = [.bool a3] := h3
    simp only [List.drop_zero, List.drop_succ_cons, List.take_succ_cons, List.take_zero, List.cons.injEq, and_true] at e0 e1 e2 e3 e4
    subst e0 e1 e2 e3 e4
    exact ⟨⟨a0, A1, a1, k1, A2, a2, k2, a3, a4⟩, rfl, ⟨s1.slzW, s2.slzW, g1, m1, g2, m2, i64_lim i0, i64_lim i4⟩, by simpa using r1, by simpa using r2⟩
end Go.Proofs.Ythboeilpeggpoaa
