/-
  Sums of CRC-32C, and frames: the plain functions, and what they obey. No program in sight.
-/
import Derived.Test.YtcafahcmalfepaaTakeLaw
namespace Go.Proofs.Ytcafahcmalfepaa
def crcBit (x : Nat) : Nat := x / 2 ^^^ (if x % 2 = 1 then 2197175160 else 0)
def crcBits : Nat → Nat → Nat
  | 0, x => x
  | k + 1, x => crcBit (crcBits k x)
def crcByte (x : Nat) : Nat := crcBits 8 x
def crcStep (x : Nat) (c : UInt8) : Nat := crcByte (x ^^^ c.toNat)
def crcRun (x : Nat) (b : Bytes) : Nat := b.foldl crcStep x
def crcMore (s : Nat) (b : Bytes) : Nat := crcRun (s ^^^ 4294967295) b ^^^ 4294967295
def crcSum (b : Bytes) : Nat := crcMore 0 b
theorem xor32 {a b : Nat} (ha : a < 4294967296) (hb : b < 4294967296) : a ^^^ b < 4294967296 := Nat.xor_lt_two_pow (n := 32) ha hb
theorem byte_lt (c : UInt8) : c.toNat < 4294967296 := by have := c.toNat_lt; omega
theorem xor_rc {a b c : Nat} (h : a ^^^ c = b ^^^ c) : a = b := by
  have e := congrArg (· ^^^ c) h
  simpa [Nat.xor_assoc] using e
theorem xor_lc {a b c : Nat} (h : c ^^^ a = c ^^^ b) : a = b := by
  rw [Nat.xor_comm c a, Nat.xor_comm c b] at h
  exact xor_rc h
theorem crcBit_lt {x : Nat} (h : x < 4294967296) : crcBit x < 4294967296 := by
  unfold crcBit
  refine xor32 (by omega) ?_
  split <;> omega
theorem crcBits_lt {x : Nat} (h : x < 4294967296) (k : Nat) : crcBits k x < 4294967296 := by
  induction k with
  | zero => exact h
  | succ k ih => exact crcBit_lt ih
theorem crcByte_lt {x : Nat} (h : x < 4294967296) : crcByte x < 4294967296 := crcBits_lt h 8
theorem crcStep_lt {x : Nat} (h : x < 4294967296) (c : UInt8) : crcStep x c < 4294967296 := crcByte_lt (xor32 h (byte_lt c))
theorem crcRun_lt {x : Nat} (h : x < 4294967296) (b : Bytes) : crcRun x b < 4294967296 := by
  induction b generalizing x with
  | nil => exact h
  | cons c b ih => exact ih (crcStep_lt h c)
theorem crcMore_lt {x : Nat} (h : x < 4294967296) (b : Bytes) : crcMore x b < 4294967296 := xor32 (crcRun_lt (xor32 h (by decide)) b) (by decide)
theorem crcSum_lt (b : Bytes) : crcSum b < 4294967296 := crcMore_lt (by decide) b
theorem xor_half (a b : Nat) : (a ^^^ b) / 2 = a / 2 ^^^ b / 2 := by
  have := Nat.shiftRight_xor_distrib (a := a) (b := b) (i := 1)
  simpa [Nat.shiftRight_eq_div_pow] using this
theorem xor_byte (a b : Nat) : (a ^^^ b) / 256 = a / 256 ^^^ b / 256 := by
  have := Nat.shiftRight_xor_distrib (a := a) (b := b) (i := 8)
  simpa [Nat.shiftRight_eq_div_pow] using this
theorem xor_odd (a b : Nat) : ((a ^^^ b) % 2 = 1) ↔ ¬ (a % 2 = 1 ↔ b % 2 = 1) := Nat.xor_mod_two_eq_one
theorem crcBit_xor (a b : Nat) : crcBit (a ^^^ b) = crcBit a ^^^ crcBit b := by
  unfold crcBit
  rw [xor_half]
  have e : (if (a ^^^ b) % 2 = 1 then 2197175160 else 0) = (if a % 2 = 1 then 2197175160 else 0) ^^^ (if b % 2 = 1 then 2197175160 else 0) := by
    by_cases h1 : a % 2 = 1
    · by_cases h2 : b % 2 = 1
      · rw [if_neg (fun h => (xor_odd a b).1 h ⟨fun _ => h2, fun _ => h1⟩), if_pos h1, if_pos h2, Nat.xor_self]
      · rw [if_pos ((xor_odd a b).2 fun h => h2 (h.1 h1)), if_pos h1, if_neg h2, Nat.xor_zero]
    · by_cases h2 : b % 2 = 1
      · rw [if_pos ((xor_odd a b).2 fun h => h1 (h.2 h2)), if_neg h1, if_pos h2, Nat.zero_xor]
      · rw [if_neg (fun h => (xor_odd a b).1 h ⟨fun k => absurd k h1, fun k => absurd k h2⟩), if_neg h1, if_neg h2, Nat.xor_self]
  rw [e]
  generalize (if a % 2 = 1 then 2197175160 else 0) = p
  generalize (if b % 2 = 1 then 2197175160 else 0) = q
  rw [Nat.xor_assoc, Nat.xor_assoc, ← Nat.xor_assoc (b / 2) p q, Nat.xor_comm (b / 2) p, Nat.xor_assoc p]
theorem crcBits_xor (k a b : Nat) : crcBits k (a ^^^ b) = crcBits k a ^^^ crcBits k b := by
  induction k with
  | zero => rfl
  | succ k ih => simp only [crcBits, ih, crcBit_xor]
theorem crcBit_even (m : Nat) : crcBit (2 * m) = m := by
  unfold crcBit
  rw [if_neg (by omega), Nat.xor_zero]
  omega
theorem crcBits_high (k h : Nat) : crcBits k (2 ^ k * h) = h := by
  induction k generalizing h with
  | zero => simp [crcBits]
  | succ k ih =>
    have e : 2 ^ (k + 1) * h = 2 ^ k * (2 * h) := by rw [Nat.pow_succ, Nat.mul_assoc]
    rw [e]
    show crcBit (crcBits k (2 ^ k * (2 * h))) = h
    rw [ih, crcBit_even]
theorem split_byte (x : Nat) : 2 ^ 8 * (x / 256) ^^^ x % 256 = x := by
  apply Nat.eq_of_testBit_eq
  intro j
  have e : x / 256 = x / 2 ^ 8 := rfl
  have e2 : x % 256 = x % 2 ^ 8 := rfl
  rw [Nat.testBit_xor, Nat.testBit_two_pow_mul, e, e2, Nat.testBit_div_two_pow, Nat.testBit_mod_two_pow]
  by_cases h : j < 8
  · have h2 : ¬ 8 ≤ j := by omega
    simp [h, h2]
  · have : 8 + (j - 8) = j := by omega
    have h2 : 8 ≤ j := by omega
    simp [h, h2, this]
/-- A register and a byte, by the table. -/
theorem crcByte_split (x : Nat) : crcByte x = x / 256 ^^^ crcByte (x % 256) := by
  have e := crcBits_xor 8 (2 ^ 8 * (x / 256)) (x % 256)
  rw [split_byte, crcBits_high] at e
  exact e
theorem crcStep_table (x : Nat) (c : UInt8) : crcStep x c = x / 256 ^^^ crcByte (x % 256 ^^^ c.toNat) := by
  have hc := c.toNat_lt
  unfold crcStep
  rw [crcByte_split, xor_byte, show c.toNat / 256 = 0 by omega, Nat.xor_zero]
  have e := Nat.xor_mod_two_pow (a := x) (b := c.toNat) (n := 8)
  rw [show (2 : Nat) ^ 8 = 256 from rfl, Nat.mod_eq_of_lt hc] at e
  rw [e]
/-- Bit by bit: what the register is behind k bits of a byte. -/
def bitStep (c : Nat) (k x : Nat) : Nat := x / 2 ^^^ (if c / 2 ^ k % 2 = x % 2 then 0 else 2197175160)
def bitRun (c : Nat) : Nat → Nat → Nat
  | 0, x => x
  | k + 1, x => bitStep c k (bitRun c k x)
theorem bitRun_crc (c x k : Nat) : bitRun c k x ^^^ c / 2 ^ k = crcBits k (x ^^^ c) := by
  induction k with
  | zero => simp [bitRun, crcBits]
  | succ k ih =>
    simp only [bitRun, crcBits, bitStep]
    rw [← ih]
    generalize bitRun c k x = y
    unfold crcBit
    have hc : c / 2 ^ (k + 1) = c / 2 ^ k / 2 := by rw [Nat.pow_succ, Nat.div_div_eq_div_mul]
    rw [hc]
    generalize c / 2 ^ k = d
    rw [xor_half]
    have e : (if (y ^^^ d) % 2 = 1 then 2197175160 else 0) = (if d % 2 = y % 2 then 0 else 2197175160) := by
      by_cases h : d % 2 = y % 2
      · rw [if_pos h, if_neg (fun k => (xor_odd y d).1 k ⟨fun _ => by omega, fun _ => by omega⟩)]
      · rw [if_neg h, if_pos ((xor_odd y d).2 fun k => h (by omega))]
    rw [e, Nat.xor_assoc, Nat.xor_assoc, Nat.xor_comm (d / 2)]
theorem bitRun_byte (c : UInt8) (x : Nat) : bitRun c.toNat 8 x = crcStep x c := by
  have h := bitRun_crc c.toNat x 8
  rw [show c.toNat / 2 ^ 8 = 0 by have := c.toNat_lt; omega, Nat.xor_zero] at h
  exact h
theorem bitRun_lt {x : Nat} (c : Nat) (h : x < 4294967296) (k : Nat) : bitRun c k x < 4294967296 := by
  induction k with
  | zero => exact h
  | succ k ih =>
    simp only [bitRun, bitStep]
    refine xor32 (by omega) ?_
    split <;> omega
/-! ### one to one -/
theorem crcBit_inj {a b : Nat} (ha : a < 4294967296) (hb : b < 4294967296) (h : crcBit a = crcBit b) : a = b := by
  have top : ∀ x, x < 4294967296 → (crcBit x).testBit 31 = decide (x % 2 = 1) := by
    intro x hx
    unfold crcBit
    rw [Nat.testBit_xor, Nat.testBit_lt_two_pow (x := x / 2) (i := 31) (by omega)]
    by_cases h1 : x % 2 = 1
    · rw [if_pos h1]; simp [h1]; decide
    · rw [if_neg h1]; simp [h1]
  have e := top a ha
  rw [h, top b hb] at e
  have e2 : (b % 2 = 1) ↔ (a % 2 = 1) := by simpa using e
  have e3 : a / 2 = b / 2 := by
    unfold crcBit at h
    rw [show (if a % 2 = 1 then 2197175160 else 0) = (if b % 2 = 1 then 2197175160 else 0) from by by_cases k : b % 2 = 1 <;> simp [k, e2.symm]] at h
    exact xor_rc h
  omega
theorem crcBits_inj {a b : Nat} (k : Nat) (ha : a < 4294967296) (hb : b < 4294967296) (h : crcBits k a = crcBits k b) : a = b := by
  induction k with
  | zero => exact h
  | succ k ih => exact ih (crcBit_inj (crcBits_lt ha k) (crcBits_lt hb k) h)
theorem crcStep_inj {a b : Nat} (c : UInt8) (ha : a < 4294967296) (hb : b < 4294967296) (h : crcStep a c = crcStep b c) : a = b :=
  xor_rc (crcBits_inj 8 (xor32 ha (byte_lt c)) (xor32 hb (byte_lt c)) h)
theorem crcStep_byte {a : Nat} {c d : UInt8} (ha : a < 4294967296) (h : crcStep a c = crcStep a d) : c = d :=
  UInt8.toNat_inj.1 (xor_lc (crcBits_inj 8 (xor32 ha (byte_lt c)) (xor32 ha (byte_lt d)) h))
theorem crcRun_inj {a b : Nat} (l : Bytes) (ha : a < 4294967296) (hb : b < 4294967296) (h : crcRun a l = crcRun b l) : a = b := by
  induction l generalizing a b with
  | nil => exact h
  | cons c l ih => exact crcStep_inj c ha hb (ih (crcStep_lt ha c) (crcStep_lt hb c) h)
theorem crcRun_append (x : Nat) (a b : Bytes) : crcRun x (a ++ b) = crcRun (crcRun x a) b := by simp [crcRun]
theorem ones_ones (x : Nat) : x ^^^ 4294967295 ^^^ 4294967295 = x := by rw [Nat.xor_assoc, Nat.xor_self, Nat.xor_zero]
/-- A sum goes on. -/
theorem crc_pieces (s : Nat) (a b : Bytes) : crcMore (crcMore s a) b = crcMore s (a ++ b) := by
  unfold crcMore
  rw [ones_ones, crcRun_append]
/-- One byte that is another one has another sum. -/
theorem crc_other (s : Nat) (hs : s < 4294967296) (a b : Bytes) (c d : UInt8) (h : crcMore s (a ++ c :: b) = crcMore s (a ++ d :: b)) : c = d := by
  unfold crcMore at h
  have h := xor_rc h
  rw [crcRun_append, crcRun_append] at h
  have hx := crcRun_lt (xor32 hs (by decide : 4294967295 < 4294967296)) a
  exact crcStep_byte hx (crcRun_inj b (crcStep_lt hx c) (crcStep_lt hx d) h)
end Go.Proofs.Ytcafahcmalfepaa
