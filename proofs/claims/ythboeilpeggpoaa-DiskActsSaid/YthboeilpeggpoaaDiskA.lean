/-
  Disks: plain, Blow, Read of both packages.
-/
import Derived.Test.YthboeilpeggpoaaDiskR
namespace Go.Proofs.Ythboeilpeggpoaa
open Go.RowKit
/-- It returns bytes and an errno. -/
def RetR (w : World) (x : Bytes × Int) (e : Ending) (w' : World) : Prop := ∃ v, e = .returned (.tuple #[v, .int .i64 x.2]) ∧ Own byteR 1 5 w.heap.size 0 w' v x.1 ∧ Below w.heap.size w w'
def Dk.cells (d : Dk) : List Value := [.int .i64 d.cap, .slice d.A1 d.s.length d.c1, .slice d.A2 d.l.length d.c2, .bool d.down, .int .i64 d.fuse]
theorem Dk.v_cells (d : Dk) : d.v = .agg d.cells.toArray := rfl
theorem plain_any (d : Dk) (w : World) : Calls Try.prog 19 #[d.v] w fun e w' => e = .returned d.v ∧ Below w.heap.size w w' := by
  rw [show d.v = .agg d.cells.toArray from rfl]
  unfold Dk.cells
  go_enter Try.func19, Try.ntmps19
  go_wp2
  exact bodyPost_ret (results_cell rfl (b := w.heap.size + 1) (o := 0) d.cells rfl (range_new (by simp)) Try.underlying30 rfl (by kernel_rfl)) rfl ⟨rfl, below_alloc (below_new _ _) _⟩
theorem read_any (d : Dk) {Z : Nat → Prop} (hs : d.sm) (w : World) (hd : d.ok Z w) : Calls Try.prog 28 #[d.v] w (RetR w (readS d.dd)) := by
  have S1 := hid hd.s1.bsl; have S2 := hid hd.s2.bsl; have G := hid hd; clear hd
  obtain ⟨z1, z2⟩ := hs
  cases hdn : d.down with
  | true =>
    have hr : readS d.dd = ([], 11) := if_pos hdn
    rw [hr]
    unfold Dk.v
    go_enter Try.func28, Try.ntmps28
    go_wp2
    go_ret2
    exact ⟨_, rfl, Own.nil _, below_new _ _⟩
  | false =>
    have hr : readS d.dd = (d.s ++ d.l, 0) := if_neg (by simp [Dk.dd, hdn])
    rw [hr]
    clear hr
    have r2 := fun (o : Obj) (t : TypeId) => rows2 (q := w.heap.size + 1) (w := w.alloc o) t (S1.out.below (below_new w o)) rfl G.out.g1 G.out.m1 (S2.out.below (below_new w o)) rfl G.out.g2 G.out.m2 (by simp) (by simp)
    have R2 := hid r2; clear r2
    have ht : [d.s, d.l].flatten.length ≤ 3000000 := by simp; omega
    have HT := hid ht; clear ht
    unfold Dk.v
    go_enter Try.func28, Try.ntmps28
    go_wp2_with (go_at_call 56; refine (concat_any _ [d.s, d.l] 2 2 rfl (by omega) HT.out _ (R2.out _ _)).mono ?_; rintro e w2 ⟨v, rfl, hown, hbl⟩)
    go_ret2
    refine ⟨_, rfl, ?_, below_then (below_alloc (below_new _ _) _) hbl⟩
    rw [show d.s ++ d.l = [d.s, d.l].flatten by simp]
    exact hown.low (by simp; omega)
end Go.Proofs.Ythboeilpeggpoaa
