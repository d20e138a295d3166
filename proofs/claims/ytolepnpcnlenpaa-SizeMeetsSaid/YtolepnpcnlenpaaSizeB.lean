/-
  The walks of package size, on: New, Leader, Meet; the live question.
-/
import Derived.Test.YtolepnpcnlenpaaSize
import Derived.Deep.QuietTactic
import Derived.BigQuiet
namespace Go.Proofs.Ytolepnpcnlenpaa
open Go.RowKit

/-- Who leads a view, of so many. -/
def leadI (v n : Int) : Int := (max v 0) % n
theorem leader_any (F T v : Int) (hs : sizeOk F T = true) (w : World) :
    Calls Try.prog 10 #[szV F T, .int .i64 v] w fun e w' => e = .returned (.int .i64 (leadI v (3 * F + 2 * T + 1))) ∧ Below w.heap.size w w' := by
  have hb := sizeOk_iff.1 hs
  by_cases hv : v < 0
  · have hl : leadI v (3 * F + 2 * T + 1) = 0 := by rw [leadI, show max v 0 = 0 by omega]; simp
    have HL := hid hl; clear hl
    go_enter Try.func10, Try.ntmps10
    go_wp2_with (go_at_call 9; refine (zN_any _ _ hs _).mono ?_; rintro e w' ⟨rfl, hb⟩)
    go_ret
    exact ⟨ret_int HL.out.symm, below_then (below_new _ _) hb⟩
  · have hl : leadI v (3 * F + 2 * T + 1) = v % (3 * F + 2 * T + 1) := by rw [leadI, show max v 0 = v by omega]
    have HL := hid hl; clear hl
    go_enter Try.func10, Try.ntmps10
    go_wp2_with (go_at_call 9; refine (zN_any _ _ hs _).mono ?_; rintro e w' ⟨rfl, hb⟩)
    go_ret
    exact ⟨ret_int HL.out.symm, below_then (below_new _ _) hb⟩
theorem rleader_any (F T v : Int) (hs : sizeOk F T = true) (w : World) :
    Calls Try.prog 25 #[szV F T, .int .i64 v] w fun e w' => e = .returned (.int .i64 (leadI v (3 * F + 2 * T + 1))) ∧ Below w.heap.size w w' := by
  have hb := sizeOk_iff.1 hs
  by_cases hv : v < 0
  · have hl : leadI v (3 * F + 2 * T + 1) = 0 := by rw [leadI, show max v 0 = 0 by omega]; simp
    have HL := hid hl; clear hl
    go_enter Try.func25, Try.ntmps25
    go_wp2_with (go_at_call 14; refine (rN_any _ _ hs _).mono ?_; rintro e w' ⟨rfl, hb⟩)
    go_ret
    exact ⟨ret_int HL.out.symm, below_then (below_new _ _) hb⟩
  · have hl : leadI v (3 * F + 2 * T + 1) = v % (3 * F + 2 * T + 1) := by rw [leadI, show max v 0 = v by omega]
    have HL := hid hl; clear hl
    go_enter Try.func25, Try.ntmps25
    go_wp2_with (go_at_call 14; refine (rN_any _ _ hs _).mono ?_; rintro e w' ⟨rfl, hb⟩)
    go_ret
    exact ⟨ret_int HL.out.symm, below_then (below_new _ _) hb⟩

/-- A number within 0 to n. -/
def within (k n : Int) : Int := min (max k 0) n
theorem within_le {k n : Int} (hn : 0 ≤ n) : 0 ≤ within k n ∧ within k n ≤ n := by unfold within; omega
def meetI (a b n : Int) : Int := max 0 (within a n + within b n - n)
theorem meetc_any (k n : Int) (b : Nat) (w : World) (hn : 0 ≤ n) (hc : w.cell? ⟨b, 0, none⟩ = some (.int .i64 n)) :
    Calls Try.prog 29 #[.int .i64 k, .pointer (some ⟨b, 0, none⟩)] w fun e w' => e = .returned (.int .i64 (within k n)) ∧ w' = w := by
  go_enter Try.func29, Try.ntmps29
  go_wp2
  all_goals (go_ret; exact ⟨ret_int (by unfold within; omega), rfl⟩)

theorem rmeet_any (F T a b : Int) (hs : sizeOk F T = true) (w : World) :
    Calls Try.prog 27 #[szV F T, .int .i64 a, .int .i64 b] w fun e w' => e = .returned (.int .i64 (meetI a b (3 * F + 2 * T + 1))) ∧ Below w.heap.size w w' := by
  have hb := sizeOk_iff.1 hs
  go_enter Try.func27, Try.ntmps27
  go_wp2_with (go_at_call 14; refine (rN_any _ _ hs _).mono ?_; rintro e w' ⟨rfl, hb⟩)
  all_goals (go_ret; exact ⟨ret_int (by unfold meetI within; omega), below_then (below_new _ _) hb⟩)

theorem meet_any (F T a b : Int) (hs : sizeOk F T = true) (w : World) :
    Calls Try.prog 26 #[szV F T, .int .i64 a, .int .i64 b] w fun e w' => e = .returned (.int .i64 (meetI a b (3 * F + 2 * T + 1))) ∧ Below w.heap.size w w' := by
  have hb := sizeOk_iff.1 hs
  have w1 := within_le (k := a) (n := 3 * F + 2 * T + 1) (by omega)
  have w2 := within_le (k := b) (n := 3 * F + 2 * T + 1) (by omega)
  go_enter Try.func26, Try.ntmps26
  go_wp2_with (go_at_call 9; refine (zN_any _ _ hs _).mono ?_; rintro e w' ⟨rfl, hb⟩)
  go_quiet ((go_at_call 29; exact Calls.quiet_of_same (meetc_any _ (3 * F + 2 * T + 1) _ _ (by omega) (by simp))))
  go_wp2
  all_goals (go_ret; exact ⟨ret_int (by unfold meetI; omega), below_drewN ((below_alloc (below_then (below_new _ _) hb) _)) _⟩)
theorem new_yes (f t : Int) (hs : sizeOk f t = true) (w : World) :
    Calls Try.prog 11 #[.int .i64 f, .int .i64 t] w fun e w' => e = .returned (.tuple #[szV f t, .int .i64 0]) ∧ Below w.heap.size w w' := by
  go_enter Try.func11, Try.ntmps11
  go_wp2_with (go_at_call 7; refine (right_any _ _ _).mono ?_; rintro e w' ⟨rfl, hb⟩; rw [hs]; have c0 := cellB hb (b := w.heap.size) (o := 0) (v := .int .i64 0) (by simp [go_sem]); have c1 := cellB hb (b := w.heap.size) (o := 1) (v := .int .i64 0) (by simp [go_sem]); obtain ⟨hc, hf⟩ := bcell hb)
  clear hc hf
  refine bodyPost_ret (results_cell2 rfl (b := w.heap.size) (o := 0) [.int .i64 f, .int .i64 t] rfl (rangeAt2 (by simp [go_sem, c0, c1]) (by simp [go_sem, c0, c1])) Try.underlying23 rfl (by kernel_rfl)) rfl ⟨rfl, ?_⟩
  exact ((below_then (below_alloc (below_new _ _) _) hb).setCell (Nat.le_refl _) _).setCell (Nat.le_refl _) _
theorem new_no (f t : Int) (hs : sizeOk f t = false) (w : World) :
    Calls Try.prog 11 #[.int .i64 f, .int .i64 t] w fun e w' => e = .returned (.tuple #[szV 0 0, .int .i64 1]) ∧ Below w.heap.size w w' := by
  go_enter Try.func11, Try.ntmps11
  go_wp2_with (go_at_call 7; refine (right_any _ _ _).mono ?_; rintro e w' ⟨rfl, hb⟩; rw [hs]; have c0 := cellB hb (b := w.heap.size) (o := 0) (v := .int .i64 0) (by simp [go_sem]); have c1 := cellB hb (b := w.heap.size) (o := 1) (v := .int .i64 0) (by simp [go_sem]); obtain ⟨hc, hf⟩ := bcell hb)
  clear hc hf
  refine bodyPost_ret (results_cell2 rfl (b := w.heap.size) (o := 0) [.int .i64 0, .int .i64 0] rfl (rangeAt2 (by simp [go_sem, c0, c1]) (by simp [go_sem, c0, c1])) Try.underlying23 rfl (by kernel_rfl)) rfl ⟨rfl, ?_⟩
  exact ((below_then (below_alloc (below_new _ _) _) hb).setCell (Nat.le_refl _) _).setCell (Nat.le_refl _) _
theorem rnew_yes (f t : Int) (hs : sizeOk f t = true) (w : World) :
    Calls Try.prog 12 #[.int .i64 f, .int .i64 t] w fun e w' => e = .returned (.tuple #[szV f t, .int .i64 0]) ∧ Below w.heap.size w w' := by
  go_enter Try.func12, Try.ntmps12
  go_wp2_with (go_at_call 13; refine (rright_any _ _ _).mono ?_; rintro e w' ⟨rfl, hb⟩; rw [hs]; have c0 := cellB hb (b := w.heap.size) (o := 0) (v := .int .i64 0) (by simp [go_sem]); have c1 := cellB hb (b := w.heap.size) (o := 1) (v := .int .i64 0) (by simp [go_sem]); obtain ⟨hc, hf⟩ := bcell hb)
  clear hc hf
  refine bodyPost_ret (results_cell2 rfl (b := w.heap.size) (o := 0) [.int .i64 f, .int .i64 t] rfl (rangeAt2 (by simp [go_sem, c0, c1]) (by simp [go_sem, c0, c1])) Try.underlying33 rfl (by kernel_rfl)) rfl ⟨rfl, ?_⟩
  exact ((below_then (below_alloc (below_new _ _) _) hb).setCell (Nat.le_refl _) _).setCell (Nat.le_refl _) _
theorem rnew_no (f t : Int) (hs : sizeOk f t = false) (w : World) :
    Calls Try.prog 12 #[.int .i64 f, .int .i64 t] w fun e w' => e = .returned (.tuple #[szV 0 0, .int .i64 1]) ∧ Below w.heap.size w w' := by
  go_enter Try.func12, Try.ntmps12
  go_wp2_with (go_at_call 13; refine (rright_any _ _ _).mono ?_; rintro e w' ⟨rfl, hb⟩; rw [hs]; have c0 := cellB hb (b := w.heap.size) (o := 0) (v := .int .i64 0) (by simp [go_sem]); have c1 := cellB hb (b := w.heap.size) (o := 1) (v := .int .i64 0) (by simp [go_sem]); obtain ⟨hc, hf⟩ := bcell hb)
  clear hc hf
  refine bodyPost_ret (results_cell2 rfl (b := w.heap.size) (o := 0) [.int .i64 0, .int .i64 0] rfl (rangeAt2 (by simp [go_sem, c0, c1]) (by simp [go_sem, c0, c1])) Try.underlying33 rfl (by kernel_rfl)) rfl ⟨rfl, ?_⟩
  exact ((below_then (below_alloc (below_new _ _) _) hb).setCell (Nat.le_refl _) _).setCell (Nat.le_refl _) _
end Go.Proofs.Ytolepnpcnlenpaa
