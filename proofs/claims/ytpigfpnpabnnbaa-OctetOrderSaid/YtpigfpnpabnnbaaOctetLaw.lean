/-
  What is written of numbers: order. No program in sight.
-/
import Derived.Test.YtpigfpnpabnnbaaOctetSpec
import Derived.Laws.Strings
namespace Go.Proofs.Ytpigfpnpabnnbaa
theorem be_less (k n m : Nat) : Op.bytesLess (be k n) (be k m) = decide (n % 256 ^ k < m % 256 ^ k) := by
  induction k with
  | zero => simp [be, Op.bytesLess, Nat.mod_one]
  | succ k ih =>
    rw [be, be, Op.bytesLess, ih, Nat.mod_pow_succ, Nat.mod_pow_succ]
    have hp : 0 < 256 ^ k := Nat.pos_of_ne_zero (by simp)
    have hn := Nat.mod_lt n hp
    have hm := Nat.mod_lt m hp
    generalize n % 256 ^ k = a at *
    generalize m % 256 ^ k = b at *
    have hx : n / 256 ^ k % 256 < 256 := Nat.mod_lt _ (by omega)
    have hy : m / 256 ^ k % 256 < 256 := Nat.mod_lt _ (by omega)
    have e1 : (UInt8.ofNat (n / 256 ^ k) < UInt8.ofNat (m / 256 ^ k)) ↔ n / 256 ^ k % 256 < m / 256 ^ k % 256 := by
      rw [UInt8.lt_iff_toNat_lt]; simp
    have e2 : (UInt8.ofNat (n / 256 ^ k) = UInt8.ofNat (m / 256 ^ k)) ↔ n / 256 ^ k % 256 = m / 256 ^ k % 256 := by
      rw [← UInt8.toNat_inj]; simp
    rw [Bool.eq_iff_iff]
    simp only [Bool.or_eq_true, Bool.and_eq_true, decide_eq_true_eq, beq_iff_eq, e1, e2]
    generalize n / 256 ^ k % 256 = x at *
    generalize m / 256 ^ k % 256 = y at *
    generalize 256 ^ k = p at *
    constructor
    · rintro (h | ⟨h, h'⟩)
      · have : p * (x + 1) ≤ p * y := Nat.mul_le_mul_left _ h
        rw [Nat.mul_add] at this
        omega
      · subst h; omega
    · intro h
      rcases Nat.lt_trichotomy x y with h1 | h1 | h1
      · exact Or.inl h1
      · subst h1; exact Or.inr ⟨rfl, by omega⟩
      · have : p * (y + 1) ≤ p * x := Nat.mul_le_mul_left _ h1
        rw [Nat.mul_add] at this
        omega
theorem enc_less (n m : Nat) (hn : n < 18446744073709551616) (hm : m < 18446744073709551616) (h : nb n = nb m) : Op.bytesLess (encN n) (encN m) = decide (n < m) := by
  have h1 := nb_lt n hn
  have h2 := nb_lt m hm
  rw [← h] at h2
  rw [encN, encN, ← h, Op.bytesLess, be_less, Nat.mod_eq_of_lt h1, Nat.mod_eq_of_lt h2]
  have : ¬ (UInt8.ofNat (nb n) < UInt8.ofNat (nb n)) := by rw [UInt8.lt_iff_toNat_lt]; omega
  simp [this]
theorem nb_less (n m : Nat) (hn : n < 18446744073709551616) (hm : m < 18446744073709551616) (h : nb n < nb m) : n < m := by
  have h1 := nb_lt n hn
  have h0 : m ≠ 0 := by rintro rfl; rw [nb_zero] at h; omega
  have h2 := nb_ge m h0 hm
  have : 256 ^ nb n ≤ 256 ^ (nb m - 1) := Nat.pow_le_pow_right (by omega) (by omega)
  omega
end Go.Proofs.Ytpigfpnpabnnbaa
