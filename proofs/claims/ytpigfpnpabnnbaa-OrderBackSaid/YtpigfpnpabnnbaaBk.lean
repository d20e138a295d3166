/-
  What is written is taken as it was; what is taken is what would be written. No program in sight.
-/
import Derived.Test.YtpigfpnpabnnbaaOi
namespace Go.Proofs.Ytpigfpnpabnnbaa
theorem fromBE_be (k n : Nat) : fromBE (be k n) = n % 256 ^ k := by
  have key : ∀ (k a n : Nat), (be k n).foldl (fun n c => n * 256 + c.toNat) a = a * 256 ^ k + n % 256 ^ k := by
    intro k
    induction k with
    | zero => intro a n; simp [be, Nat.mod_one]
    | succ k ih =>
      intro a n
      rw [be, List.foldl_cons, ih, Nat.mod_pow_succ]
      have : (UInt8.ofNat (n / 256 ^ k)).toNat = n / 256 ^ k % 256 := by simp
      rw [this, Nat.add_mul, Nat.pow_succ, Nat.mul_assoc, Nat.mul_comm 256 (256 ^ k), Nat.mul_comm (n / 256 ^ k % 256)]
      omega
  have := key k 0 n
  simpa [fromBE] using this
theorem head_be (n : Nat) (h0 : n ≠ 0) (h : n < 18446744073709551616) (r : Bytes) : (be (nb n) n ++ r).head? ≠ some 0 := by
  have h1 := nb_pos n h0
  have h2 := nb_ge n h0 h
  have h3 := nb_lt n h
  obtain ⟨k, hk⟩ : ∃ k, nb n = k + 1 := ⟨nb n - 1, by omega⟩
  rw [hk] at h2 h3 ⊢
  rw [Nat.add_sub_cancel] at h2
  rw [Nat.pow_succ] at h3
  simp only [be, List.cons_append, List.head?_cons, ne_eq, Option.some.injEq]
  intro hc
  have hc' : (UInt8.ofNat (n / 256 ^ k)).toNat = 0 := by rw [hc]; rfl
  have hp : 0 < 256 ^ k := Nat.pos_of_ne_zero (by simp)
  have h4 : n / 256 ^ k < 256 := Nat.div_lt_of_lt_mul h3
  have h5 : 1 ≤ n / 256 ^ k := (Nat.one_le_div_iff hp).2 h2
  simp at hc'
  omega
theorem takeN_enc (n : Nat) (h : n < 18446744073709551616) (r : Bytes) : takeN (encN n ++ r) = .ok (n, r) := by
  have h8 := nb_le n h
  have hk : (UInt8.ofNat (nb n)).toNat = nb n := by simp; omega
  rw [encN, List.cons_append, takeN, hk, if_neg, if_neg]
  · rw [List.take_left' (be_length _ _), List.drop_left' (be_length _ _), fromBE_be, Nat.mod_eq_of_lt (nb_lt n h)]
  · rw [List.length_append, be_length]; omega
  · rintro (h1 | ⟨h1, h2⟩)
    · omega
    · exact head_be n (by rintro rfl; rw [nb_zero] at h1; omega) h r h2
theorem unzig_zig (n : Int) (h : -9223372036854775808 ≤ n) (h' : n ≤ 9223372036854775807) : unzig (zig n) = n := by
  unfold zig unzig
  split <;> split <;> omega
theorem takeZ_enc (n : Int) (h : -9223372036854775808 ≤ n) (h' : n ≤ 9223372036854775807) (r : Bytes) : takeZ (encN (zig n) ++ r) = .ok (n, r) := by
  rw [takeZ, takeN_enc _ (zig_lt n h h')]
  simp only [unzig_zig n h h']
theorem takeT_enc (s : Bytes) (most : Int) (h : s.length < 18446744073709551616) (hm : s.length ≤ max most 0) (r : Bytes) : takeT (encT s ++ r) most = .ok (s, r) := by
  rw [takeT, encT, List.append_assoc, takeN_enc _ h]
  simp only
  rw [if_neg (by omega), if_neg (by simp), List.take_left, List.drop_left]
theorem takeT_large (s : Bytes) (most : Int) (h : s.length < 18446744073709551616) (hm : max most 0 < s.length) (r : Bytes) : takeT (encT s ++ r) most = .error 5 := by
  rw [takeT, encT, List.append_assoc, takeN_enc _ h]
  simp only
  rw [if_pos (by omega)]
theorem encRow_cons (s : Bytes) (l : List Bytes) : encRow (s :: l) = encT s ++ encRow l := by simp [encRow]
theorem takeTs_enc (l : List Bytes) (most : Int) (h : tot l < 18446744073709551616) (hm : ∀ s ∈ l, (s.length : Int) ≤ max most 0) (r : Bytes) : takeTs most l.length (encRow l ++ r) = .ok (l, r) := by
  induction l with
  | nil => rfl
  | cons s l ih =>
    rw [tot_cons] at h
    rw [List.length_cons, takeTs, encRow_cons, List.append_assoc, takeT_enc s most (by omega) (hm s (by simp))]
    simp only
    rw [ih (by omega) fun x hx => hm x (by simp [hx])]
theorem takeTs_large (l : List Bytes) (most : Int) (h : tot l < 18446744073709551616) (hm : ∃ s ∈ l, max most 0 < (s.length : Int)) (r : Bytes) : takeTs most l.length (encRow l ++ r) = .error 5 := by
  induction l with
  | nil => simp at hm
  | cons s l ih =>
    rw [tot_cons] at h
    rw [List.length_cons, takeTs, encRow_cons, List.append_assoc]
    by_cases hs : max most 0 < (s.length : Int)
    · rw [takeT_large s most (by omega) hs]
    · rw [takeT_enc s most (by omega) (by omega)]
      simp only
      rw [ih (by omega)]
      obtain ⟨x, hx, hx'⟩ := hm
      rcases List.mem_cons.1 hx with rfl | hx
      · exact absurd hx' hs
      · exact ⟨x, hx, hx'⟩
theorem takeL_enc (l : List Bytes) (many most : Int) (h : tot l < 18446744073709551616) (hl : l.length ≤ max many 0) (hm : ∀ s ∈ l, (s.length : Int) ≤ max most 0) (r : Bytes) : takeL (encL l ++ r) many most = .ok (l, r) := by
  have := tot_length l
  rw [takeL, encL_row, List.append_assoc, takeN_enc _ (by omega)]
  simp only
  rw [if_neg (by omega), takeTs_enc l most h hm]
theorem takeL_large (l : List Bytes) (many most : Int) (h : tot l < 18446744073709551616) (hl : max many 0 < l.length ∨ ∃ s ∈ l, max most 0 < (s.length : Int)) (r : Bytes) : takeL (encL l ++ r) many most = .error 5 := by
  have := tot_length l
  rw [takeL, encL_row, List.append_assoc, takeN_enc _ (by omega)]
  simp only
  split
  · rfl
  · rename_i hn
    rcases hl with hl | hl
    · omega
    · exact takeTs_large l most h hl r
/-! ### what is taken, written again -/
theorem be_add (k a n : Nat) (j : Nat) (h : j ≤ k) : be j (n + a * 256 ^ k) = be j n := by
  induction j with
  | zero => rfl
  | succ j ih =>
    rw [be, be, ih (by omega)]
    congr 1
    have hp : 0 < 256 ^ j := Nat.pos_of_ne_zero (by simp)
    obtain ⟨d, hd⟩ : ∃ d, k = j + (d + 1) := ⟨k - j - 1, by omega⟩
    have : a * 256 ^ k = (a * 256 ^ d * 256) * 256 ^ j := by rw [hd, Nat.pow_add, Nat.pow_succ]; ac_rfl
    rw [this, Nat.add_mul_div_right _ _ hp]
    apply UInt8.toNat_inj.1
    simp
theorem fold_be (l : Bytes) (a : Nat) : l.foldl (fun n c => n * 256 + c.toNat) a = a * 256 ^ l.length + fromBE l := by
  induction l generalizing a with
  | nil => simp [fromBE]
  | cons c l ih =>
    have hf : fromBE (c :: l) = (0 * 256 + c.toNat) * 256 ^ l.length + fromBE l := by rw [← ih]; rfl
    rw [List.foldl_cons, ih, hf, List.length_cons, Nat.pow_succ, Nat.add_mul, Nat.add_mul, Nat.mul_assoc, Nat.mul_comm 256]
    omega
theorem fromBE_cons (c : UInt8) (l : Bytes) : fromBE (c :: l) = c.toNat * 256 ^ l.length + fromBE l := by
  rw [fromBE, List.foldl_cons, fold_be]; simp
theorem be_fromBE (l : Bytes) : be l.length (fromBE l) = l := by
  induction l with
  | nil => rfl
  | cons c l ih =>
    have hp : 0 < 256 ^ l.length := Nat.pos_of_ne_zero (by simp)
    rw [List.length_cons, be, fromBE_cons, Nat.add_comm, Nat.add_mul_div_right _ _ hp, Nat.div_eq_of_lt (fromBE_lt l), Nat.zero_add, be_add _ _ _ _ (Nat.le_refl _), ih]
    simp
theorem nb_fromBE (l : Bytes) (hl : l.length ≤ 8) (h : l = [] ∨ l.head? ≠ some 0) : nb (fromBE l) = l.length := by
  match l, hl, h with
  | [], _, _ => rfl
  | c :: l, hl, h =>
    have h : c ≠ 0 := by rcases h with h | h <;> simp at h; exact h
    have hc : 1 ≤ c.toNat := by
      have : c.toNat ≠ 0 := fun h0 => h (UInt8.toNat_inj.1 h0)
      omega
    have hlt := fromBE_lt (c :: l)
    have hge : 256 ^ l.length ≤ fromBE (c :: l) := by rw [fromBE_cons]; have := Nat.mul_le_mul_right (256 ^ l.length) hc; omega
    have hp : 0 < 256 ^ l.length := Nat.pos_of_ne_zero (by simp)
    have h64 : fromBE (c :: l) < 18446744073709551616 := Nat.lt_of_lt_of_le hlt (Nat.le_trans (Nat.pow_le_pow_right (by omega) hl) (by decide))
    have h1 := nb_lt _ h64
    have h2 := nb_ge _ (by omega) h64
    rw [List.length_cons] at hlt ⊢
    generalize fromBE (c :: l) = n at *
    rcases Nat.lt_trichotomy (nb n) (l.length + 1) with h3 | h3 | h3
    · have : 256 ^ nb n ≤ 256 ^ l.length := Nat.pow_le_pow_right (by omega) (by omega)
      omega
    · exact h3
    · have : 256 ^ (l.length + 1) ≤ 256 ^ (nb n - 1) := Nat.pow_le_pow_right (by omega) (by omega)
      omega
theorem takeN_only {b r : Bytes} {n : Nat} (h : takeN b = .ok (n, r)) : encN n ++ r = b := by
  match b, h with
  | k :: t, h =>
    rw [takeN] at h
    split at h
    · cases h
    · rename_i h1
      split at h
      · cases h
      · rename_i h2
        simp only [Except.ok.injEq, Prod.mk.injEq] at h
        obtain ⟨rfl, rfl⟩ := h
        have hlen : (t.take k.toNat).length = k.toNat := by rw [List.length_take]; omega
        have hnb := nb_fromBE (t.take k.toNat) (by omega) (by
          by_cases h0 : k.toNat = 0
          · left; rw [h0]; rfl
          · right
            intro hh
            apply h1
            right
            refine ⟨by omega, ?_⟩
            cases t with
            | nil => simp at hh
            | cons c t' =>
              obtain ⟨q, hq⟩ : ∃ q, k.toNat = q + 1 := ⟨k.toNat - 1, by omega⟩
              rw [hq, List.take_succ_cons] at hh
              exact hh)
        rw [hlen] at hnb
        have hbe := be_fromBE (t.take k.toNat)
        rw [hlen] at hbe
        rw [encN, hnb, hbe, List.cons_append, List.take_append_drop, UInt8.ofNat_toNat]
theorem zig_unzig (n : Nat) (h : n < 18446744073709551616) : zig (unzig n) = n := by
  unfold zig unzig
  split <;> split <;> omega
theorem takeZ_only {b r : Bytes} {n : Int} (h : takeZ b = .ok (n, r)) : encN (zig n) ++ r = b := by
  unfold takeZ at h
  split at h
  · cases h
  · rename_i m q hm
    simp only [Except.ok.injEq, Prod.mk.injEq] at h
    obtain ⟨rfl, rfl⟩ := h
    rw [zig_unzig m (taken_small hm).1]
    exact takeN_only hm
theorem takeT_only {b s r : Bytes} {most : Int} (h : takeT b most = .ok (s, r)) : encT s ++ r = b := by
  unfold takeT at h
  split at h
  · cases h
  · rename_i n q hn
    split at h
    · cases h
    · split at h
      · cases h
      · simp only [Except.ok.injEq, Prod.mk.injEq] at h
        obtain ⟨rfl, rfl⟩ := h
        rw [encT, List.length_take, Nat.min_eq_left (by omega), List.append_assoc, List.take_append_drop]
        exact takeN_only hn
theorem takeTs_only {n : Nat} {b r : Bytes} {l : List Bytes} {most : Int} (h : takeTs most n b = .ok (l, r)) : l.length = n ∧ encRow l ++ r = b := by
  induction n generalizing b l r with
  | zero => simp only [takeTs, Except.ok.injEq, Prod.mk.injEq] at h; obtain ⟨rfl, rfl⟩ := h; exact ⟨rfl, rfl⟩
  | succ n ih =>
    rw [takeTs] at h
    split at h
    · cases h
    · rename_i s q hs
      split at h
      · cases h
      · rename_i l' r' hl
        simp only [Except.ok.injEq, Prod.mk.injEq] at h
        obtain ⟨rfl, rfl⟩ := h
        obtain ⟨h1, h2⟩ := ih hl
        exact ⟨by rw [List.length_cons, h1], by rw [encRow_cons, List.append_assoc, h2, takeT_only hs]⟩
theorem takeL_only {b r : Bytes} {l : List Bytes} {many most : Int} (h : takeL b many most = .ok (l, r)) : encL l ++ r = b := by
  unfold takeL at h
  split at h
  · cases h
  · rename_i n q hn
    split at h
    · cases h
    · obtain ⟨h1, h2⟩ := takeTs_only h
      rw [encL_row, h1, List.append_assoc, h2]
      exact takeN_only hn
end Go.Proofs.Ytpigfpnpabnnbaa
