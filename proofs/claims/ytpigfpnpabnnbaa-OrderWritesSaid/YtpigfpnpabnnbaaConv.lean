/-
  Rows of bytes and strings at this seat's types: append's table, string(b), a row's length.
-/
import Derived.Test.YtpigfpnpabnnbaaRows
import Derived.Test.YtpigfpnpabnnbaaStr
import Derived.Test.YtpigfpnpabnnbaaOctetSpec
namespace Go.Proofs.Ytpigfpnpabnnbaa
open Go.RowKit Go.Deep
theorem tabB : Tab Try.prog 23 5 1 1 := by
  obtain ⟨i, h1, h2, h3, h4⟩ := info_parts (P := Try.prog) (e := 5) (z := .int .u8 0) (size := 1) (bytes := 1) (by kernel_rfl)
  exact ⟨Try.underlying23, ⟨i, _, h1, h2, h3, h4, rfl⟩, by omega⟩
theorem Own.len {α : Type} {R : Rep α} {k B base : Nat} {e : TypeId} {w : World} {v : Value} {l : List α} (h : Own R k e base B w v l) (hB : B ≤ w.heap.size) {m : Nat} (hm : l.length = m) :
    ∃ A c, v = .slice A m c ∧ m ≤ c ∧ c ≤ maxLen ∧ Sl R k w.heap.size w A l := by
  obtain ⟨A, c, rfl, h1, h2, h3⟩ := h.sl hB
  exact ⟨A, c, by rw [hm], by rw [← hm]; exact h1, h2, h3⟩
theorem Own.form2 {α : Type} {R : Rep α} {k B base : Nat} {e : TypeId} {w : World} {v : Value} {l : List α} (h : Own R k e base B w v l) {m : Nat} (hm : l.length = m) : ∃ A c, v = .slice A m c := by
  obtain ⟨A, c, rfl, _⟩ := h.form
  exact ⟨A, c, by rw [hm]⟩
/-- It returns a row of its own that reads as l. -/
def RetB (w : World) (l : Bytes) (e : Ending) (w' : World) : Prop := ∃ v, e = .returned v ∧ Own byteR 1 5 w.heap.size 0 w' v l ∧ Below w.heap.size w w'
/-- string(b), here and now. -/
theorem conv_str {w : World} {A : Option Addr} {n c B : Nat} {l : Bytes} (hl : l.length = n) (h : Sl byteR 1 B w A l) :
    (convert 23 9 (.slice A n c)).run Try.prog w = .ok (.string ⟨l.toArray⟩) w :=
  run_str (P := Try.prog) _ _ 5 Try.underlying23 Try.underlying5 Try.underlying9 A n c B l hl h
theorem str_inj {a b : ByteArray} (h : a.toList = b.toList) : a = b := by
  rw [ByteArray.toList_eq, ByteArray.toList_eq] at h
  obtain ⟨⟨x⟩⟩ := a
  obtain ⟨⟨y⟩⟩ := b
  simpa using h
end Go.Proofs.Ytpigfpnpabnnbaa
