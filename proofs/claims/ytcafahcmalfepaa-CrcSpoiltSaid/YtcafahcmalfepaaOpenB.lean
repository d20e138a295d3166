/-
  Rows of bytes, and rows of such rows, as arguments.
-/
import Derived.Test.YtcafahcmalfepaaOpenS
import Derived.Test.YtcafahcmalfepaaRows
namespace Go.Proofs.Ytcafahcmalfepaa
open Go.ChangeShapes Go.WideShapes Go.ChangeAt Go.RowKit Go.Deep
theorem opens_bytes : Opens Try.prog 22 (subR (slR byteR 1) fun l => l.length * 1 ≤ reachBytes) := opens_slice (bytes := 1) Try.underlying22 (by kernel_rfl) (by kernel_rfl) (by omega) (opens_byte Try.underlying5)
theorem opens_rows : Opens Try.prog 34 (subR (slR (subR (slR byteR 1) fun (l : List UInt8) => l.length * 1 ≤ reachBytes) 1) fun l => l.length * 24 ≤ reachBytes) := opens_slice (bytes := 24) Try.underlying34 (by kernel_rfl) (by kernel_rfl) (by omega) opens_bytes
theorem nat_u8 {n : Int} (h : (Lit.int .u8 n).wf = true) : ∃ m : Nat, n = m ∧ m < 256 := by
  simp [Lit.wf, IntKind.min, IntKind.max, IntKind.signed, IntKind.bits] at h
  obtain ⟨m, rfl⟩ := Int.eq_ofNat_of_zero_le h.1
  exact ⟨m, rfl, by omega⟩
theorem nat_u32 {n : Int} (h : (Lit.int .u32 n).wf = true) : ∃ m : Nat, n = m ∧ m < 4294967296 := by
  simp [Lit.wf, IntKind.min, IntKind.max, IntKind.signed, IntKind.bits] at h
  obtain ⟨m, rfl⟩ := Int.eq_ofNat_of_zero_le h.1
  exact ⟨m, rfl, by omega⟩
end Go.Proofs.Ytcafahcmalfepaa
