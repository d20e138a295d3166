/-
  A byte of a row of the call's own is another one.
-/
import Derived.Test.YtcafahcmalfepaaCrcI
namespace Go.Proofs.Ytcafahcmalfepaa
open Go.RowKit Go.Deep
theorem own_block {α : Type} {R : Rep α} {k base B n c : Nat} {e : TypeId} {w : World} {A : Option Addr} {l : List α} (h : Own R k e base B w (.slice A n c) l) (hn : 0 < n) : ∃ g, A = some ⟨g, 0, none⟩ ∧ base ≤ g ∧ g < w.heap.size ∧ ∀ j, w.frozen? ⟨g, j, none⟩ = false := by
  obtain ⟨xs, ⟨_, h2⟩, _⟩ := h
  rcases h2 with ⟨h2, h0⟩ | ⟨g, cap, cur, hv, hg, hh, _⟩
  · simp only [Value.slice.injEq] at h2
    omega
  · simp only [Value.slice.injEq] at hv
    obtain ⟨rfl, _, _⟩ := hv
    refine ⟨g, rfl, hg, (Array.getElem?_eq_some_iff.1 hh).1, fun j => ?_⟩
    unfold World.frozen?
    simp only [hh]
    simp
theorem Sl.cellb {B g o i : Nat} {w : World} {l : Bytes} {a : UInt8} (h : Sl byteR 1 B w (some ⟨g, o, none⟩) l) (hi : l[i]? = some a) : w.cell? ⟨g, o + i, none⟩ = some (.int .u8 (a.toNat : Int)) := by
  obtain ⟨b, o', v, he, _, hv, hc⟩ := h.get1 hi
  simp only [Option.some.injEq, Addr.mk.injEq, and_true] at he
  obtain ⟨rfl, rfl⟩ := he
  rw [byte_at hv] at hc
  exact hc
theorem Sl.setb {B g o k : Nat} {w : World} {l : Bytes} (h : Sl byteR 1 B w (some ⟨g, o, none⟩) l) (hk : k < l.length) (y : UInt8) : Sl byteR 1 B (w.setCell ⟨g, o + k, none⟩ (.int .u8 (y.toNat : Int))) (some ⟨g, o, none⟩) (l.set k y) := fun _ => by
  have hne : l ≠ [] := by rintro rfl; simp at hk
  obtain ⟨b, o', he, hlt, _⟩ := h hne
  simp only [Option.some.injEq, Addr.mk.injEq, and_true] at he
  obtain ⟨rfl, rfl⟩ := he
  refine ⟨g, o, rfl, hlt, fun j a hj => ⟨[byteV a], rfl, rfl, fun i u hu => ?_⟩⟩
  match i, hu with
  | 0, hu =>
    simp only [List.getElem?_cons_zero, Option.some.injEq] at hu
    subst hu
    rw [Nat.mul_one, Nat.add_zero]
    by_cases hjk : j = k
    · subst hjk
      rw [List.getElem?_set_self hk] at hj
      simp only [Option.some.injEq] at hj
      subst hj
      refine World.cell?_setCell_same' w ⟨g, o + j, none⟩ _ ?_
      rw [h.cellb (List.getElem?_eq_getElem hk)]
      rfl
    · rw [List.getElem?_set_ne (Ne.symm hjk)] at hj
      have := h.cellb hj
      refine (World.cell?_setCell_other _ _ _ _ ?_).trans this
      simp only [ne_eq, Addr.mk.injEq, true_and, and_true]
      omega
theorem xor_other {y : UInt8} {x : Nat} (hx : x < 256) (h0 : x ≠ 0) : bits .xor .u8 (y.toNat : Int) (x : Int) = ((UInt8.ofNat (y.toNat ^^^ x)).toNat : Int) ∧ UInt8.ofNat (y.toNat ^^^ x) ≠ y := by
  have hy := y.toNat_lt
  have hlt : y.toNat ^^^ x < 256 := Nat.xor_lt_two_pow (n := 8) hy hx
  have e : (UInt8.ofNat (y.toNat ^^^ x)).toNat = y.toNat ^^^ x := by rw [UInt8.toNat_ofNat']; exact Nat.mod_eq_of_lt hlt
  refine ⟨by rw [e]; exact u8_xor_nat _ _ hy hx, fun h => ?_⟩
  have h2 := congrArg UInt8.toNat h
  rw [e] at h2
  have h3 : y.toNat ^^^ x = y.toNat ^^^ 0 := by rw [h2, Nat.xor_zero]
  exact h0 (xor_lc h3)
theorem crc_set {l : Bytes} {k : Nat} {y y' : UInt8} (h : l[k]? = some y) (hne : y' ≠ y) : crcSum (l.set k y') ≠ crcSum l := by
  intro he
  have hk := (List.getElem?_eq_some_iff.1 h).1
  have hg := (List.getElem?_eq_some_iff.1 h).2
  have e1 : l = l.take k ++ y :: l.drop (k + 1) := by rw [← hg, List.getElem_cons_drop, List.take_append_drop]
  have e2 : l.set k y' = l.take k ++ y' :: l.drop (k + 1) := by rw [List.set_eq_take_append_cons_drop, if_pos hk]
  rw [e2] at he
  conv at he => rhs; rw [e1]
  exact hne (crc_other 0 (by decide) _ _ _ _ he)
end Go.Proofs.Ytcafahcmalfepaa
