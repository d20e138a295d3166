/-
  The walks of package crc: the table, sums.
-/
import Derived.Test.YtcafahcmalfepaaOctet
import Derived.Test.YtcafahcmalfepaaZRep
import Derived.Test.YtcafahcmalfepaaFrameSpec
import Derived.Laws.BitsAllLaws
namespace Go.Proofs.Ytcafahcmalfepaa
open Go.RowKit Go.Deep
theorem bit_step (x : Nat) (h : x < 4294967296) : bits .xor .u32 ((x : Int) / 2) (bits .and .u32 2197175160 (IntKind.u32.wrap (-(bits .and .u32 (x : Int) 1)))) = (crcBit x : Nat) := by
  have e1 : bits .and .u32 (x : Int) 1 = ((x % 2 : Nat) : Int) := by
    have := u32_and_nat x 1 h (by omega)
    rw [Nat.and_one_is_mod] at this
    exact this
  rw [e1, IntKind.wrap_u32]
  unfold crcBit
  rw [show ((x : Int) / 2) = ((x / 2 : Nat) : Int) by omega]
  by_cases h2 : x % 2 = 1
  · rw [h2, if_pos rfl, show (-((1 : Nat) : Int)) % 4294967296 = ((4294967295 : Nat) : Int) by decide]
    have e2 := u32_and_nat 2197175160 4294967295 (by omega) (by omega)
    rw [show (2197175160 &&& 4294967295 : Nat) = 2197175160 by decide] at e2
    rw [show (2197175160 : Int) = ((2197175160 : Nat) : Int) from rfl, e2, u32_xor_nat _ _ (by omega) (by omega)]
  · rw [show x % 2 = 0 by omega, if_neg (by omega), show (-((0 : Nat) : Int)) % 4294967296 = ((0 : Nat) : Int) by decide]
    have e2 := u32_and_nat 2197175160 0 (by omega) (by omega)
    rw [show (2197175160 &&& 0 : Nat) = 0 by decide] at e2
    rw [show (2197175160 : Int) = ((2197175160 : Nat) : Int) from rfl, e2, u32_xor_nat _ _ (by omega) (by omega)]
/-- The table in block Y. -/
def TabAt (Y : Nat) (w : World) : Prop := ∀ i, i < 256 → w.cell? ⟨Y, i, none⟩ = some (.int .u32 (crcByte i : Nat))
/-- The table's first k cells, in block Y, which may be written. -/
structure TabUpTo (Y k : Nat) (w : World) : Prop where
  lt : Y < w.heap.size
  fz : ∀ j, j < 256 → w.frozen? ⟨Y, j, none⟩ = false
  there : ∀ j, j < 256 → (w.cell? ⟨Y, j, none⟩).isSome = true
  done : ∀ j, j < k → w.cell? ⟨Y, j, none⟩ = some (.int .u32 (crcByte j : Nat))
theorem TabUpTo.step {Y k : Nat} {w : World} (h : TabUpTo Y k w) (hk : k < 256) : TabUpTo Y (k + 1) (w.setCell ⟨Y, k, none⟩ (.int .u32 (crcByte k : Nat))) := by
  have key : ∀ j, j ≠ k → (w.setCell ⟨Y, k, none⟩ (.int .u32 (crcByte k : Nat))).cell? ⟨Y, j, none⟩ = w.cell? ⟨Y, j, none⟩ := fun j hj => World.cell?_setCell_other _ _ _ _ (fun e => hj (congrArg Addr.off e).symm)
  have same := World.cell?_setCell_same' w ⟨Y, k, none⟩ (.int .u32 (crcByte k : Nat)) (h.there k hk)
  refine ⟨by rw [World.size_setCell]; exact h.lt, fun j hj => by rw [World.frozen?_setCell]; exact h.fz j hj, fun j hj => ?_, fun j hj => ?_⟩
  · by_cases e : j = k
    · subst e; rw [same]; rfl
    · rw [key j e]; exact h.there j hj
  · by_cases e : j = k
    · subst e; exact same
    · rw [key j e]; exact h.done j (by omega)
theorem zeros_size : Try.zeroCells100.size = 256 := by kernel_rfl
set_option maxRecDepth 20000 in
theorem table_any (w : World) : Calls Try.prog 50 #[] w fun e w' => ∃ Y, e = .returned (.pointer (some ⟨Y, 0, none⟩)) ∧ w.heap.size ≤ Y ∧ Y < w'.heap.size ∧ TabAt Y w' ∧ Below w.heap.size w w' := by
  go_enter Try.func50, Try.ntmps50
  go_wp2_with fail
  go_loopw [6] (fun i wr => ∃ k : Nat, k ≤ 256 ∧ i = .int .i64 k ∧ TabUpTo w.heap.size k wr ∧ Below w.heap.size w wr) (fun i _ => 256 - (intOf i).toNat)
  case atStart =>
    refine ⟨0, by omega, rfl, ⟨by simp, fun j _ => World.frozen?_alloc_new _ _ _ _, fun j hj => ?_, fun j hj => by omega⟩, below_new _ _⟩
    rw [World.cell?_alloc_new]
    have := zeros_size
    rw [Array.getElem?_eq_getElem (by omega)]
    rfl
  case round =>
    obtain ⟨k, hk, rfl, ht, hb⟩ := hrel
    by_cases hlt : k < 256
    · have HT := hid ht; have HB := hid hb; clear ht hb
      go_wp2_with fail
      go_loop [3, 11] (fun x i => ∃ q : Nat, q ≤ 8 ∧ i = .int .i64 q ∧ x = .int .u32 (crcBits q k : Nat)) (fun _ i => 8 - (intOf i).toNat)
      case atStart => exact ⟨0, by omega, rfl, by go_num⟩
      case round =>
        obtain ⟨q, hq, rfl, rfl⟩ := hrel
        have hx : crcBits q k < 4294967296 := crcBits_lt (by omega) q
        have hs := bit_step _ hx
        have e : crcBit (crcBits q k) = crcBits (q + 1) k := rfl
        rw [e, IntKind.wrap_u32] at hs
        by_cases hq8 : q < 8
        · generalize crcBits q k = x at *
          go_wp2_with fail
          go_round
          case rel => exact ⟨q + 1, by omega, by go_num, rfl⟩
          case measure => simp [intOf]; omega
        · obtain rfl : q = 8 := by omega
          clear hs e
          have e8 : crcBits 8 k = crcByte k := rfl
          rw [e8] at *
          have lt := HT.out.lt; have f1 := HT.out.fz k hlt
          obtain ⟨t0, t1⟩ := Option.isSome_iff_exists.1 (HT.out.there k hlt)
          go_wp2_with fail
          go_roundw
          case rel => exact ⟨k + 1, by omega, by go_num, HT.out.step hlt, HB.out.trans (((Agree.refl wr).setCell (Z := fun j => j ≠ w.heap.size) (p := ⟨w.heap.size, k, none⟩) (by simp) _).below fun j hj => ⟨Nat.lt_of_lt_of_le hj HB.out.size, by omega⟩)⟩
          case measure => simp [intOf]; omega
    · obtain rfl : k = 256 := by omega
      go_wp2_with fail
      go_ret
      exact ⟨_, rfl, Nat.le_refl _, ht.lt, fun i hi => ht.done i hi, hb⟩
theorem ones_u32 (x : Nat) (h : x < 4294967296) : bits .xor .u32 IntKind.u32.max (x : Int) = (x ^^^ 4294967295 : Nat) := by
  have := u32_xor_nat 4294967295 x (by omega) h
  rw [Nat.xor_comm] at this
  exact this
theorem ones_u32' (x : Nat) (h : x < 4294967296) : bits .xor .u32 (x : Int) 4294967295 = (x ^^^ 4294967295 : Nat) := u32_xor_nat x 4294967295 h (by omega)
theorem idx_u8 (x : Nat) (c : UInt8) : bits .xor .u8 ((x : Int) % 256) (c.toNat : Int) = (x % 256 ^^^ c.toNat : Nat) := by
  have hc := c.toNat_lt
  have := u8_xor_nat (x % 256) c.toNat (by omega) (by omega)
  rw [show ((x : Int) % 256) = ((x % 256 : Nat) : Int) by omega]
  exact this
theorem idx_lt (x : Nat) (c : UInt8) : x % 256 ^^^ c.toNat < 256 := Nat.xor_lt_two_pow (n := 8) (by omega) c.toNat_lt
theorem crcRun_take (b : Bytes) (x k : Nat) (c : UInt8) (h : b[k]? = some c) : crcRun x (b.take (k + 1)) = crcStep (crcRun x (b.take k)) c := by
  rw [List.take_add_one, h, crcRun_append]
  rfl
theorem crc_step (x : Nat) (c : UInt8) (h : x < 4294967296) : bits .xor .u32 ((x : Int) / 256) ((crcByte (x % 256 ^^^ c.toNat) : Nat) : Int) = (crcStep x c : Nat) := by
  have hc := c.toNat_lt
  rw [crcStep_table, show ((x : Int) / 256) = ((x / 256 : Nat) : Int) by omega, u32_xor_nat _ _ (by omega) (crcByte_lt (Nat.lt_of_lt_of_le (Nat.xor_lt_two_pow (n := 8) (by omega) (by omega)) (by decide)))]
set_option maxRecDepth 20000 in
theorem more_any (s : Nat) (hs32 : s < 4294967296) (A : Option Addr) (b : Bytes) (n c : Nat) (hm : b.length = n) (hn : n ≤ 9223372036854775807) (w : World) {B : Nat} (hB : B ≤ w.heap.size) (hs : Sl byteR 1 B w A b) :
    Calls Try.prog 18 #[.int .u32 s, .slice A n c] w fun e w' => e = .returned (.int .u32 (crcMore s b : Nat)) ∧ Below w.heap.size w w' := by
  have HS := hid hs; have HM := hid hm; clear hs hm
  have hn63 : (n : Int) ≤ 9223372036854775807 := by omega
  have hs0 : s ^^^ 4294967295 < 4294967296 := xor32 hs32 (by decide)
  go_enter Try.func18, Try.ntmps18
  go_wp2_with fail
  refine (table_any _).mono ?_
  rintro e w1 ⟨Y, rfl, hY1, hY2, hT, hb⟩
  have HT := hid hT; have HB := hid hb; clear hT hb
  have hones := ones_u32 s hs32
  go_wp2_with fail
  go_loop [6, 14] (fun x i => ∃ k : Nat, k ≤ n ∧ i = .int .i64 k ∧ x = .int .u32 (crcRun (s ^^^ 4294967295) (b.take k) : Nat)) (fun _ i => n - (intOf i).toNat)
  case atStart => exact ⟨0, Nat.zero_le _, rfl, rfl⟩
  case round =>
    obtain ⟨k, hk, rfl, rfl⟩ := hrel
    by_cases hlt : k < n
    · obtain ⟨x, hx⟩ : ∃ x, b[k]? = some x := ⟨_, List.getElem?_eq_getElem (by rw [HM.out]; exact hlt)⟩
      obtain ⟨b0, o, v, rfl, hb0, hv, hcell⟩ := HS.out.get1 hx
      have hv : v = byteV x := by have h' : [v] = [byteV x] := hv; simpa using h'
      subst hv
      have hcell := (HB.out.cell (p := ⟨b0, o + k, none⟩) (Nat.lt_of_lt_of_le hb0 hB)).trans hcell
      have hr := crcRun_take b (s ^^^ 4294967295) k x hx
      have hlt2 := crcRun_lt hs0 (b.take k)
      have HR := hid hr; clear hr hx
      generalize crcRun (s ^^^ 4294967295) (b.take k) = z at *
      have h8 := idx_u8 z x
      have hil := idx_lt z x
      have hst := HT.out _ hil
      have hfin := crc_step z x hlt2
      have HF := hid hfin; clear hfin
      unfold byteV at hcell
      generalize z % 256 ^^^ x.toNat = q at *
      generalize x.toNat = cn at *
      have hqi : (q : Int) < 256 := by omega
      go_wp2_with fail
      go_round
      case rel => exact ⟨k + 1, by omega, by go_num, by rw [HR.out, ← HF.out]⟩
      case measure => simp [intOf]; omega
    · obtain rfl : k = n := by omega
      rw [List.take_of_length_le (by rw [HM.out]; omega)]
      have hz := crcRun_lt hs0 b
      have hones := ones_u32 _ hz
      go_wp2_with fail
      go_ret
      exact ⟨by first | rfl | (rw [hones]; rfl), HB.out⟩
theorem sum_any (A : Option Addr) (b : Bytes) (n c : Nat) (hm : b.length = n) (hn : n ≤ 9223372036854775807) (w : World) {B : Nat} (hB : B ≤ w.heap.size) (hs : Sl byteR 1 B w A b) :
    Calls Try.prog 16 #[.slice A n c] w fun e w' => e = .returned (.int .u32 (crcSum b : Nat)) ∧ Below w.heap.size w w' := by
  have h := more_any 0 (by decide) A b n c hm hn w hB hs
  go_enter Try.func16, Try.ntmps16
  go_wp2_with fail
  refine h.mono ?_
  rintro e w1 ⟨rfl, hb⟩
  go_wp2_with fail
  go_ret
  exact ⟨rfl, hb⟩
theorem long_any (n : Nat) (hn : n ≤ 1000000) (w : World) :
    Calls Try.prog 22 #[.int .i64 n] w fun e w' => e = .returned (.int .i64 (frLong n : Nat)) ∧ Below w.heap.size w w' := by
  have h0 : (0 : Int) ≤ n := by omega
  have hn2 : (n : Int) ≤ 1000000 := by omega
  have h8 := nb_le n (by omega)
  go_enter Try.func22, Try.ntmps22
  go_wp2_with fail
  refine (size_any n (by omega) _).mono ?_
  rintro e w' ⟨rfl, rfl⟩
  go_wp2_with fail
  go_ret
  exact ⟨by first | rfl | (unfold frLong; go_num), Below.refl _ _⟩
end Go.Proofs.Ytcafahcmalfepaa
