/-
  Package disk and the document's: what each function makes of a disk.
-/
import Derived.Test.YthboeilpeggpoaaLibB
import Derived.Test.YthboeilpeggpoaaDiskSpec
import Derived.Test.YthboeilpeggpoaaRegL
namespace Go.Proofs.Ythboeilpeggpoaa
open Go.RowKit
/-- A disk as a value: where its bytes lie. -/
structure Dk where
  cap : Int
  A1 : Option Addr
  s : Bytes
  c1 : Nat
  A2 : Option Addr
  l : Bytes
  c2 : Nat
  down : Bool
  fuse : Int
def Dk.dd (d : Dk) : DD := ⟨d.cap, d.s, d.l, d.down, d.fuse⟩
def Dk.v (d : Dk) : Value := .agg #[.int .i64 d.cap, .slice d.A1 d.s.length d.c1, .slice d.A2 d.l.length d.c2, .bool d.down, .int .i64 d.fuse]
structure Dk.ok (Z : Nat → Prop) (w : World) (d : Dk) : Prop where
  s1 : SlZ byteZ 1 Z w d.A1 d.s
  s2 : SlZ byteZ 1 Z w d.A2 d.l
  g1 : d.s.length ≤ d.c1
  m1 : d.c1 ≤ maxLen
  g2 : d.l.length ≤ d.c2
  m2 : d.c2 ≤ maxLen
  i1 : -9223372036854775808 ≤ d.cap ∧ d.cap ≤ 9223372036854775807
  i2 : -9223372036854775808 ≤ d.fuse ∧ d.fuse ≤ 9223372036854775807
/-- Its rows are not so long. -/
def Dk.sm (d : Dk) : Prop := d.s.length ≤ 1000000 ∧ d.l.length ≤ 1000000
section
variable {Z Z' : Nat → Prop} {w w' : World} {d : Dk}
theorem Dk.ok.agree (h : d.ok Z w) (hb : Agree Z w w') : d.ok Z w' := ⟨h.s1.agree hb, h.s2.agree hb, h.g1, h.m1, h.g2, h.m2, h.i1, h.i2⟩
theorem Dk.ok.below (h : d.ok Z w) (hb : Below w.heap.size w w') : d.ok Z w' := h.agree (agree_of_below hb)
theorem Dk.ok.mono (h : d.ok Z w) (hZ : ∀ k, Z k → Z' k) : d.ok Z' w := ⟨h.s1.mono hZ, h.s2.mono hZ, h.g1, h.m1, h.g2, h.m2, h.i1, h.i2⟩
theorem Dk.ok.shrink {B N : Nat} (h : d.ok Z w) (hB : w.heap.size ≤ B) : d.ok (fun k => Z k ∧ (k < B ∨ N ≤ k)) w := ⟨h.s1.shrink hB, h.s2.shrink hB, h.g1, h.m1, h.g2, h.m2, h.i1, h.i2⟩
end
/-- It returns a disk and an errno. -/
def RetD (Z : Nat → Prop) (w : World) (x : DD × Int) (e : Ending) (w' : World) : Prop := ∃ d : Dk, e = .returned (.tuple #[d.v, .int .i64 x.2]) ∧ d.dd = x.1 ∧ d.ok Z w' ∧ Below w.heap.size w w'
/-- It returns a disk. -/
def RetD1 (Z : Nat → Prop) (w : World) (x : DD) (e : Ending) (w' : World) : Prop := ∃ d : Dk, e = .returned d.v ∧ d.dd = x ∧ d.ok Z w' ∧ Below w.heap.size w w'
theorem dk_none (Z : Nat → Prop) (w : World) (n f : Int) (down : Bool) (h1 : -9223372036854775808 ≤ n ∧ n ≤ 9223372036854775807) (h2 : -9223372036854775808 ≤ f ∧ f ≤ 9223372036854775807) : (Dk.mk n none [] 0 none [] 0 down f).ok Z w :=
  ⟨SlZ.nil, SlZ.nil, Nat.le_refl _, Nat.zero_le _, Nat.le_refl _, Nat.zero_le _, h1, h2⟩
theorem longint {n : Nat} (h : n ≤ maxLen) : (n : Int) ≤ 9223372036854775807 := by unfold maxLen at h; omega

/-! ### questions -/
theorem short_any (d : Dk) (w : World) : Calls Try.prog 13 #[d.v] w fun e w' => e = .returned (.bool (shortB d.dd)) ∧ Below w.heap.size w w' := by
  unfold Dk.v
  by_cases h1 : d.s.length ≤ 2000
  · have k1 : (d.s.length : Int) ≤ 2000 := by omega
    by_cases h2 : d.l.length ≤ 2000
    · have k2 : (d.l.length : Int) ≤ 2000 := by omega
      have hr : shortB d.dd = true := by simp [shortB, Dk.dd, h1, h2]
      go_enter Try.func13, Try.ntmps13
      go_wp2
      go_ret
      exact ⟨ret_bool (by first | rfl | rw [hr]), below_new _ _⟩
    · have k2 : ¬ (d.l.length : Int) ≤ 2000 := by omega
      have hr : shortB d.dd = false := by simp [shortB, Dk.dd, h1, h2]
      go_enter Try.func13, Try.ntmps13
      go_wp2
      go_ret
      exact ⟨ret_bool (by first | rfl | rw [hr]), below_new _ _⟩
  · have k1 : ¬ (d.s.length : Int) ≤ 2000 := by omega
    have hr : shortB d.dd = false := by simp [shortB, Dk.dd, h1]
    go_enter Try.func13, Try.ntmps13
    go_wp2
    go_ret
    exact ⟨ret_bool (by first | rfl | rw [hr]), below_new _ _⟩
end Go.Proofs.Ythboeilpeggpoaa
