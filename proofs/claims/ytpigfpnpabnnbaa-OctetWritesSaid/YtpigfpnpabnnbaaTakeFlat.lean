/-
  What the Take family answers, in one shape.
-/
import Derived.Test.YtpigfpnpabnnbaaTakeD
import Derived.Test.YtpigfpnpabnnbaaOctetAlive
namespace Go.Proofs.Ytpigfpnpabnnbaa
open Go.RowKit
/-- An answer with an error code, as three things. -/
def flat {α : Type} (d : α) : Except Int (α × Bytes) → α × Bytes × Int
  | .error z => (d, [], z)
  | .ok (a, r) => (a, r, 0)
theorem TakeRet.flat {B : Nat} {w w' : World} {r : Except Int (Nat × Bytes)} {e : Ending} (h : TakeRet B w r e w') :
    (∃ q, w' = w.drewN q) ∧ ∃ A c, e = .returned (.tuple #[.int .u64 (flat 0 r).1, .slice A (flat 0 r).2.1.length c, .int .i64 (flat 0 r).2.2]) ∧ (flat 0 r).2.1.length ≤ c ∧ c ≤ maxLen ∧ Sl byteR 1 B w A (flat 0 r).2.1 := by
  obtain ⟨hw, h⟩ := h
  refine ⟨hw, ?_⟩
  match r, h with
  | .error z, h => exact ⟨none, 0, h, Nat.le_refl _, Nat.zero_le _, Sl.nil⟩
  | .ok (n, l), ⟨A, c, h1, h2, h3, h4⟩ => exact ⟨A, c, h1, h2, h3, h4⟩
theorem IntRet.flat {B : Nat} {w w' : World} {r : Except Int (Int × Bytes)} {e : Ending} (h : IntRet B w r e w') :
    (∃ q, w' = w.drewN q) ∧ ∃ A c, e = .returned (.tuple #[.int .i64 (flat 0 r).1, .slice A (flat 0 r).2.1.length c, .int .i64 (flat 0 r).2.2]) ∧ (flat 0 r).2.1.length ≤ c ∧ c ≤ maxLen ∧ Sl byteR 1 B w A (flat 0 r).2.1 := by
  obtain ⟨hw, h⟩ := h
  refine ⟨hw, ?_⟩
  match r, h with
  | .error z, h => exact ⟨none, 0, h, Nat.le_refl _, Nat.zero_le _, Sl.nil⟩
  | .ok (n, l), ⟨A, c, h1, h2, h3, h4⟩ => exact ⟨A, c, h1, h2, h3, h4⟩
theorem TextRet.flat {B : Nat} {w w' : World} {r : Except Int (Bytes × Bytes)} {e : Ending} (h : TextRet B w r e w') :
    (∃ q, w' = w.drewN q) ∧ ∃ A c, e = .returned (.tuple #[.string (mkS (flat [] r).1), .slice A (flat [] r).2.1.length c, .int .i64 (flat [] r).2.2]) ∧ (flat [] r).2.1.length ≤ c ∧ c ≤ maxLen ∧ Sl byteR 1 B w A (flat [] r).2.1 := by
  obtain ⟨hw, h⟩ := h
  refine ⟨hw, ?_⟩
  match r, h with
  | .error z, h => exact ⟨none, 0, h, Nat.le_refl _, Nat.zero_le _, Sl.nil⟩
  | .ok (n, l), ⟨A, c, h1, h2, h3, h4⟩ => exact ⟨A, c, h1, h2, h3, h4⟩
theorem ListRet.flat {B : Nat} {w w' : World} {r : Except Int (List Bytes × Bytes)} {e : Ending} (h : ListRet B w r e w') (hB : B ≤ w.heap.size) :
    Below w.heap.size w w' ∧ ∃ A' c' A c, e = .returned (.tuple #[.slice A' (flat [] r).1.length c', .slice A (flat [] r).2.1.length c, .int .i64 (flat [] r).2.2]) ∧ (flat [] r).1.length ≤ c' ∧ c' ≤ maxLen ∧ Sl strR 1 w'.heap.size w' A' ((flat [] r).1.map mkS) ∧
      (flat [] r).2.1.length ≤ c ∧ c ≤ maxLen ∧ Sl byteR 1 B w' A (flat [] r).2.1 := by
  obtain ⟨hw, h⟩ := h
  refine ⟨hw, ?_⟩
  match r, h with
  | .error z, h => exact ⟨none, 0, none, 0, h, Nat.le_refl _, Nat.zero_le _, Sl.nil, Nat.le_refl _, Nat.zero_le _, Sl.nil⟩
  | .ok (n, l), ⟨v, A, c, h1, h2, h3, h4, h5⟩ =>
    obtain ⟨A', c', rfl, g1, g2, g3⟩ := h2.len (Nat.zero_le _) (m := n.length) (by simp)
    exact ⟨A', c', A, c, h1, g1, g2, g3, h3, h4, h5⟩
end Go.Proofs.Ytpigfpnpabnnbaa
