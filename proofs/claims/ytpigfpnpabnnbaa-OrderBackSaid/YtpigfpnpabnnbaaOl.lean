/-
  Orders and replies, written and taken: plain laws.
-/
import Derived.Test.YtpigfpnpabnnbaaBk
import Derived.Test.YtpigfpnpabnnbaaPj
import Derived.Test.YtpigfpnpabnnbaaPh
namespace Go.Proofs.Ytpigfpnpabnnbaa
open Go.RowKit
theorem tot_row (l : List Bytes) : tot l ≤ 9 * (encRow l).length := by
  induction l with
  | nil => simp [tot]
  | cons x l ih =>
    rw [tot_cons, encRow_cons, List.length_append, encT, List.length_append, encN_length]
    omega
theorem unzig_i64 (n : Nat) (h : n < 18446744073709551616) : I64 (unzig n) := by
  unfold unzig I64
  split <;> omega
theorem takeZ_i64 {b r : Bytes} {n : Int} (h : takeZ b = .ok (n, r)) : I64 n := by
  unfold takeZ at h
  split at h
  · cases h
  · rename_i h1
    cases h
    exact unzig_i64 _ (taken_small h1).1
theorem encZs_cons (n : Int) (l : List Int) : encZs (n :: l) = encN (zig n) ++ encZs l := by simp [encZs]
theorem seqZ_only : ∀ (k : Nat) (b : Bytes) (l : List Int) (r : Bytes), seqZ k b = .ok (l, r) → encZs l ++ r = b ∧ ∀ n ∈ l, I64 n
  | 0, b, l, r, h => by
    simp only [seqZ, Except.ok.injEq, Prod.mk.injEq] at h
    rw [← h.1, ← h.2]
    simp [encZs]
  | k + 1, b, l, r, h => by
    simp only [seqZ] at h
    split at h
    · cases h
    · rename_i h1
      split at h
      · cases h
      · rename_i h2
        simp only [Except.ok.injEq, Prod.mk.injEq] at h
        obtain ⟨g1, g2⟩ := seqZ_only k _ _ _ h2
        rw [← h.1, ← h.2, encZs_cons, List.append_assoc, g1, takeZ_only h1]
        refine ⟨rfl, ?_⟩
        intro m hm
        rcases List.mem_cons.1 hm with rfl | hm
        · exact takeZ_i64 h1
        · exact g2 m hm
theorem takeO_only {b r : Bytes} {o : Ord} (h : takeO b = .ok (o, r)) : putO o ++ r = b ∧ mayO o = true ∧ smO o := by
  unfold takeO at h
  split at h
  · cases h
  · rename_i l r1 h1
    have hl := seqZ_len _ _ _ _ h1
    obtain ⟨n0, n1, n2, n3, n4, n5, rfl⟩ : ∃ n0 n1 n2 n3 n4 n5, l = [n0, n1, n2, n3, n4, n5] := by
      match l, hl with
      | [n0, n1, n2, n3, n4, n5], _ => exact ⟨n0, n1, n2, n3, n4, n5, rfl⟩
    obtain ⟨g1, g2⟩ := seqZ_only _ _ _ _ h1
    split at h
    · cases h
    · rename_i s r2 h2
      have k1 := takeT_only h2
      have q1 := (takeT_shorter h2).2
      split at h
      · cases h
      · rename_i t r3 h3
        have k2 := takeT_only h3
        have q2 := (takeT_shorter h3).2
        split at h
        · rename_i hm
          cases h
          simp only [List.mem_cons, List.not_mem_nil, or_false, forall_eq_or_imp, forall_eq] at g2
          obtain ⟨i0, i1, i2, i3, i4, i5⟩ := g2
          refine ⟨?_, hm, i0, i1, i2, i3, i4, i5, by dsimp only; omega, by dsimp only; omega⟩
          rw [← g1, ← k1, ← k2]
          simp [putO]
        · cases h
theorem takeRp_only {b r : Bytes} {o : Rpl} (h : takeRp b = .ok (o, r)) (hb : b.length ≤ 4000) : putR o ++ r = b ∧ smR o := by
  unfold takeRp at h
  split at h
  · cases h
  · rename_i l r1 h1
    have hl := seqZ_len _ _ _ _ h1
    obtain ⟨n0, n1, n2, n3, rfl⟩ : ∃ n0 n1 n2 n3, l = [n0, n1, n2, n3] := by
      match l, hl with
      | [n0, n1, n2, n3], _ => exact ⟨n0, n1, n2, n3, rfl⟩
    obtain ⟨g1, g2⟩ := seqZ_only _ _ _ _ h1
    split at h
    · cases h
    · rename_i s r2 h2
      have k1 := takeT_only h2
      have q1 := (takeT_shorter h2).2
      split at h
      · cases h
      · rename_i t r3 h3
        have k2 := takeL_only h3
        split at h
        · cases h
        · cases h
          simp only [List.mem_cons, List.not_mem_nil, or_false, forall_eq_or_imp, forall_eq] at g2
          obtain ⟨i0, i1, i2, i3⟩ := g2
          have e : putR ⟨n0, n1, n2, s, n3, t⟩ ++ r = b := by
            rw [← g1, ← k1, ← k2]
            simp [putR]
          refine ⟨e, i0, i1, i2, i3, by dsimp only; omega, ?_⟩
          have := tot_row t
          have he := congrArg List.length e
          simp only [putR, encL_row, List.length_append] at he
          dsimp only
          omega
end Go.Proofs.Ytpigfpnpabnnbaa
