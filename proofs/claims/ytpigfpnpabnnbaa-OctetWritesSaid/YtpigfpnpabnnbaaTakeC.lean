/-
  The walks of octet, on: TakeInt.
-/
import Derived.Test.YtpigfpnpabnnbaaTakeB
namespace Go.Proofs.Ytpigfpnpabnnbaa
open Go.RowKit
/-- The number with a sign ahead. -/
def takeI (b : Bytes) : Except Int (Int × Bytes) := match takeN b with
  | .error z => .error z
  | .ok (n, r) => .ok (unzig n, r)
def IntRet (B : Nat) (w : World) (r : Except Int (Int × Bytes)) (e : Ending) (w' : World) : Prop :=
  (∃ q, w' = w.drewN q) ∧ match r with
    | .error z => e = .returned (.tuple #[.int .i64 0, .slice none 0 0, .int .i64 z])
    | .ok (n, l) => ∃ A c, e = .returned (.tuple #[.int .i64 n, .slice A l.length c, .int .i64 0]) ∧ l.length ≤ c ∧ c ≤ maxLen ∧ Sl byteR 1 B w A l
theorem ofInt_nat (a : Nat) (ha : a < 9223372036854775808) : (BitVec.ofInt 64 (a : Int)).toNat = a := by
  rw [BitVec.ofInt_natCast, BitVec.toNat_ofNat]
  exact Nat.mod_eq_of_lt (by omega)
theorem unzig_bits (n : Nat) (hn : n < 18446744073709551616) : bits .xor .i64 ((n : Int) / 2) (wrap64 (-wrap64 (bits .and .u64 (n : Int) 1))) = unzig n := by
  have h1 : bits .and .u64 (n : Int) 1 = ((n % 2 : Nat) : Int) := by
    have := u64_and_nat n 1 hn (by omega)
    rw [Nat.and_one_is_mod] at this
    exact this
  rw [h1, show ((n : Int) / 2) = ((n / 2 : Nat) : Int) by omega]
  have hd : n / 2 < 9223372036854775808 := by omega
  generalize hx : n / 2 = x at *
  show IntKind.i64.wrap ((BitVec.ofInt 64 (x : Int) ^^^ BitVec.ofInt 64 _).toNat : Int) = _
  rcases (by omega : n % 2 = 0 ∨ n % 2 = 1) with h | h
  · rw [h]
    have e0 : wrap64 (-wrap64 ((0 : Nat) : Int)) = 0 := by unfold wrap64; omega
    rw [e0, BitVec.toNat_xor, ofInt_nat x hd, show (BitVec.ofInt 64 0).toNat = 0 from rfl, Nat.xor_zero, IntKind.wrap_i64, unzig, if_neg (by omega), hx]
    omega
  · rw [h]
    have e0 : wrap64 (-wrap64 ((1 : Nat) : Int)) = -1 := by unfold wrap64; omega
    rw [e0, show BitVec.ofInt 64 (-1) = BitVec.allOnes 64 by decide, BitVec.xor_allOnes, BitVec.toNat_not, ofInt_nat x hd, IntKind.wrap_i64, unzig, if_pos h, hx]
    omega
theorem takeint_any (A : Option Addr) (b : Bytes) (m c : Nat) (hm : b.length = m) (hc1 : m ≤ c) (hc : c ≤ maxLen) (w : World) {B : Nat} (hs : Sl byteR 1 B w A b) :
    Calls Try.prog 31 #[.slice A m c] w (IntRet B w (takeI b)) := by
  cases ht : takeN b with
  | error z =>
    rw [show takeI b = .error z by rw [takeI, ht]]
    have HT := hid ht; clear ht
    go_enter Try.func31, Try.ntmps31
    go_wp2_with fail
    refine (take_any A b m c hm hc1 hc _ hs).mono ?_
    rw [HT.out]
    rintro e w1 ⟨⟨q, rfl⟩, rfl⟩
    go_wp2_with fail
    go_ret3
    have h0 : bits .xor .i64 0 (wrap64 (-wrap64 (bits .and .u64 0 1))) = 0 := unzig_bits 0 (by omega)
    exact ⟨⟨q, rfl⟩, congrArg (fun x => Ending.returned (.tuple #[.int .i64 x, .slice none 0 0, .int .i64 z])) h0⟩
  | ok p =>
    obtain ⟨n, r⟩ := p
    obtain ⟨hn64, _⟩ := taken_lt ht
    rw [show takeI b = .ok (unzig n, r) by rw [takeI, ht]]
    have HT := hid ht; clear ht
    go_enter Try.func31, Try.ntmps31
    go_wp2_with fail
    refine (take_any A b m c hm hc1 hc _ hs).mono ?_
    rw [HT.out]
    rintro e w1 ⟨⟨q, rfl⟩, A', c', rfl, hc2, hc3, hsl⟩
    go_wp2_with fail
    go_ret3
    refine ⟨⟨q, rfl⟩, A', c', ?_, hc2, hc3, hsl⟩
    rw [← unzig_bits n hn64]
    rfl
end Go.Proofs.Ytpigfpnpabnnbaa
