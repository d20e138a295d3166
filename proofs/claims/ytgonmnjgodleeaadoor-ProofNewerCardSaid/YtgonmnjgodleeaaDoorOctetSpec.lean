/-
  Numbers, texts and rows as bytes: the plain functions, and what they obey. No program in sight.
-/
import Derived.Lib.BitFns
namespace Go.Proofs.YtgonmnjgodleeaaDoor
abbrev Bytes := List UInt8

/-- How many bytes a number takes. -/
def nbF : Nat → Nat → Nat
  | 0, _ => 0
  | f + 1, n => if n = 0 then 0 else nbF f (n / 256) + 1
def nb (n : Nat) : Nat := nbF 9 n
/-- k bytes, the highest one first. -/
def be : Nat → Nat → Bytes
  | 0, _ => []
  | k + 1, n => UInt8.ofNat (n / 256 ^ k) :: be k n
def encN (n : Nat) : Bytes := UInt8.ofNat (nb n) :: be (nb n) n
def encT (s : Bytes) : Bytes := encN s.length ++ s
def encL (l : List Bytes) : Bytes := encN l.length ++ (l.map encT).flatten
/-- A number with a sign, as one without. -/
def zig (n : Int) : Nat := if n < 0 then (-2 * n - 1).toNat else (2 * n).toNat

theorem be_length (k n : Nat) : (be k n).length = k := by
  induction k with
  | zero => rfl
  | succ k ih => simp [be, ih]
theorem be_get (k n j : Nat) (h : j < k) : (be k n)[j]? = some (UInt8.ofNat (n / 256 ^ (k - 1 - j))) := by
  induction k generalizing j with
  | zero => omega
  | succ k ih =>
    cases j with
    | zero => simp [be]
    | succ j =>
      simp only [be, List.getElem?_cons_succ]
      rw [ih j (by omega), show k + 1 - 1 - (j + 1) = k - 1 - j by omega]
theorem be_take (k n j : Nat) (h : j < k) : (be k n).take (j + 1) = (be k n).take j ++ [UInt8.ofNat (n / 256 ^ (k - 1 - j))] := by
  rw [List.take_add_one, be_get k n j h]
  rfl
theorem nbF_le (f n : Nat) : nbF f n ≤ f := by
  induction f generalizing n with
  | zero => simp [nbF]
  | succ f ih =>
    unfold nbF
    split
    · omega
    · have := ih (n / 256)
      omega
theorem nbF_more (f n : Nat) (h : n < 256 ^ f) : nbF (f + 1) n = nbF f n := by
  induction f generalizing n with
  | zero => simp at h; simp [nbF, h]
  | succ f ih =>
    unfold nbF
    split
    · rfl
    · rw [ih (n / 256) (by rw [Nat.pow_succ] at h; omega)]
theorem nb_zero : nb 0 = 0 := rfl
theorem nb_step (n : Nat) (h0 : n ≠ 0) (h : n < 18446744073709551616) : nb n = nb (n / 256) + 1 := by
  have : nb n = nbF 8 (n / 256) + 1 := by show (if n = 0 then 0 else nbF 8 (n / 256) + 1) = _; rw [if_neg h0]
  rw [this, nb, nbF_more 8 (n / 256) (by omega)]
theorem nb_le (n : Nat) (h : n < 18446744073709551616) : nb n ≤ 8 := by
  have : nb n = nbF 8 n := nbF_more 8 n (by omega)
  rw [this]
  exact nbF_le 8 n
theorem nb_lt (n : Nat) (h : n < 18446744073709551616) : n < 256 ^ nb n := by
  have key : ∀ f n, n < 256 ^ f → n < 256 ^ nbF f n := by
    intro f
    induction f with
    | zero => intro n h; simp at h; subst h; simp [nbF]
    | succ f ih =>
      intro n h
      unfold nbF
      split
      · rename_i h0; subst h0; simp
      · have := ih (n / 256) (by rw [Nat.pow_succ] at h; omega)
        rw [Nat.pow_succ]
        omega
  exact key 9 n (by omega)
theorem nb_ge (n : Nat) (h0 : n ≠ 0) (h : n < 18446744073709551616) : 256 ^ (nb n - 1) ≤ n := by
  have key : ∀ f n, n ≠ 0 → n < 256 ^ f → 256 ^ (nbF f n - 1) ≤ n := by
    intro f
    induction f with
    | zero => intro n h0 h; simp at h; exact absurd h h0
    | succ f ih =>
      intro n h0 h
      unfold nbF
      rw [if_neg h0]
      simp only [Nat.add_sub_cancel]
      by_cases hz : n / 256 = 0
      · rw [hz]
        have : nbF f 0 = 0 := by cases f <;> simp [nbF]
        rw [this]; simp; omega
      · have hi := ih (n / 256) hz (by rw [Nat.pow_succ] at h; omega)
        have hp : 0 < nbF f (n / 256) := by
          cases f with
          | zero => simp at h; omega
          | succ f => unfold nbF; rw [if_neg hz]; omega
        obtain ⟨q, hq⟩ : ∃ q, nbF f (n / 256) = q + 1 := ⟨nbF f (n / 256) - 1, by omega⟩
        rw [hq] at hi ⊢
        simp only [Nat.add_sub_cancel] at hi
        rw [Nat.pow_succ]
        omega
  exact key 9 n h0 (by omega)
theorem nb_pos (n : Nat) (h0 : n ≠ 0) : 1 ≤ nb n := by show 1 ≤ (if n = 0 then 0 else nbF 8 (n / 256) + 1); rw [if_neg h0]; omega
theorem bitLen_nb (n : Nat) (h : n < 18446744073709551616) : (Lib.bitLen n + 7) / 8 = nb n := by
  induction n using Nat.strongRecOn with
  | _ n ih =>
    by_cases h0 : n = 0
    · subst h0; rfl
    · by_cases h1 : n < 256
      · have h8 : Lib.bitLen n ≤ 8 := Lib.bitLen_le8 ⟨n, h1⟩
        have hp : 1 ≤ Lib.bitLen n := by
          have := Lib.bitLen_half n h0 (by omega)
          omega
        rw [nb_step n h0 h, show n / 256 = 0 by omega, nb_zero]
        omega
      · have hs := Lib.bitLen_shift8 n (by omega) h
        have := ih (n / 256) (by omega) (by omega)
        rw [nb_step n h0 h, ← this, hs]
        omega
theorem shr_byte (n p : Nat) : (n : Int) / 2 ^ (8 * p) % 256 = ((n / 256 ^ p) % 256 : Nat) := by
  have h : (2 : Int) ^ (8 * p) = ((256 ^ p : Nat) : Int) := by rw [Int.pow_mul]; simp
  rw [h]
  rw [Int.natCast_emod, Int.natCast_ediv]; rfl
theorem encN_length (n : Nat) : (encN n).length = 1 + nb n := by simp [encN, be_length]; omega
theorem encN_le (n : Nat) (h : n < 18446744073709551616) : (encN n).length ≤ 9 := by have := nb_le n h; rw [encN_length]; omega
theorem zig_lt (n : Int) (h : -9223372036854775808 ≤ n) (h' : n ≤ 9223372036854775807) : zig n < 18446744073709551616 := by unfold zig; split <;> omega
/-- A row's texts, written one behind the other. -/
def encRow (l : List Bytes) : Bytes := (l.map encT).flatten
theorem encL_row (l : List Bytes) : encL l = encN l.length ++ encRow l := rfl
theorem encRow_succ (l : List Bytes) (k : Nat) (a : Bytes) (h : l[k]? = some a) : encRow (l.take (k + 1)) = encRow (l.take k) ++ encT a := by
  rw [encRow, encRow, List.take_add_one, h]
  simp
theorem encT_le (s : Bytes) (h : s.length < 18446744073709551616) : (encT s).length ≤ s.length + 9 := by
  have := encN_le s.length h
  simp [encT]
  omega
/-- The bytes of a row, at most. -/
def tot (l : List Bytes) : Nat := (l.map fun s => s.length + 9).sum
theorem tot_cons (x : Bytes) (l : List Bytes) : tot (x :: l) = x.length + 9 + tot l := by simp [tot]
theorem tot_take (l : List Bytes) (k : Nat) : tot (l.take k) ≤ tot l := by
  induction l generalizing k with
  | nil => simp
  | cons x l ih =>
    cases k with
    | zero => simp [tot]
    | succ k =>
      have := ih k
      rw [List.take_succ_cons, tot_cons, tot_cons]
      omega
theorem tot_mem {l : List Bytes} {k : Nat} {a : Bytes} (h : l[k]? = some a) : a.length + 9 ≤ tot l := by
  induction l generalizing k with
  | nil => simp at h
  | cons x l ih =>
    cases k with
    | zero => simp at h; subst h; rw [tot_cons]; omega
    | succ k => have := ih (k := k) (by simpa using h); rw [tot_cons]; omega
theorem encRow_le (l : List Bytes) (h : tot l < 18446744073709551616) : (encRow l).length ≤ tot l := by
  induction l with
  | nil => simp [encRow, tot]
  | cons x l ih =>
    simp only [tot, List.map_cons, List.sum_cons] at h ⊢
    have h1 := encT_le x (by omega)
    have h2 := ih (by unfold tot; omega)
    simp only [encRow, List.map_cons, List.flatten_cons, List.length_append] at h2 ⊢
    unfold tot at h2
    omega
theorem tot_length (l : List Bytes) : 9 * l.length ≤ tot l := by
  induction l with
  | nil => simp
  | cons x l ih => simp [tot] at ih ⊢; omega
/-! ### taking -/
def fromBE (l : Bytes) : Nat := l.foldl (fun n c => n * 256 + c.toNat) 0
theorem fromBE_snoc (l : Bytes) (c : UInt8) : fromBE (l ++ [c]) = fromBE l * 256 + c.toNat := by simp [fromBE]
theorem fromBE_lt (l : Bytes) : fromBE l < 256 ^ l.length := by
  have key : ∀ (l : Bytes) (n : Nat), l.foldl (fun n c => n * 256 + c.toNat) n < (n + 1) * 256 ^ l.length := by
    intro l
    induction l with
    | nil => intro n; simp
    | cons c l ih =>
      intro n
      have h := ih (n * 256 + c.toNat)
      have hc := c.toNat_lt
      simp only [List.foldl_cons, List.length_cons]
      refine Nat.lt_of_lt_of_le h ?_
      rw [Nat.pow_succ, Nat.mul_comm (256 ^ l.length) 256, ← Nat.mul_assoc]
      exact Nat.mul_le_mul_right _ (by omega)
  have := key l 0
  rw [Nat.zero_add, Nat.one_mul] at this
  exact this
/-- The number ahead of bytes, and what is behind; or why there is none. -/
def takeN : Bytes → Except Int (Nat × Bytes)
  | [] => .error 2
  | k :: r => if 8 < k.toNat ∨ (0 < k.toNat ∧ r.head? = some 0) then .error 3 else if r.length < k.toNat then .error 2 else .ok (fromBE (r.take k.toNat), r.drop k.toNat)
/-- The text ahead. -/
def takeT (b : Bytes) (most : Int) : Except Int (Bytes × Bytes) :=
  match takeN b with
  | .error z => .error z
  | .ok (n, r) => if (max most 0).toNat < n then .error 5 else if r.length < n then .error 2 else .ok (r.take n, r.drop n)
/-- So many texts. -/
def takeTs (most : Int) : Nat → Bytes → Except Int (List Bytes × Bytes)
  | 0, b => .ok ([], b)
  | n + 1, b => match takeT b most with
    | .error z => .error z
    | .ok (s, r) => match takeTs most n r with
      | .error z => .error z
      | .ok (l, r') => .ok (s :: l, r')
/-- The row ahead. -/
def takeL (b : Bytes) (many most : Int) : Except Int (List Bytes × Bytes) :=
  match takeN b with
  | .error z => .error z
  | .ok (n, r) => if (max many 0).toNat < n then .error 5 else takeTs most n r
/-- The number with a sign. -/
def unzig (u : Nat) : Int := if u % 2 = 1 then -(u / 2 : Nat) - 1 else (u / 2 : Nat)
def glue (l : List Bytes) : Except Int (List Bytes × Bytes) → Except Int (List Bytes × Bytes)
  | .error z => .error z
  | .ok (l', r) => .ok (l ++ l', r)
theorem takeTs_ok {most : Int} {n : Nat} {b s r : Bytes} (h : takeT b most = .ok (s, r)) (l : List Bytes) : glue l (takeTs most (n + 1) b) = glue (l ++ [s]) (takeTs most n r) := by
  simp only [takeTs, h]
  cases takeTs most n r with
  | error z => rfl
  | ok p => obtain ⟨l', r'⟩ := p; simp [glue]
theorem takeTs_err {most : Int} {n : Nat} {b : Bytes} {z : Int} (h : takeT b most = .error z) (l : List Bytes) : glue l (takeTs most (n + 1) b) = .error z := by
  simp only [takeTs, h, glue]
theorem takeN_shorter {b r : Bytes} {n : Nat} (h : takeN b = .ok (n, r)) : r.length + 1 ≤ b.length := by
  unfold takeN at h
  split at h
  · cases h
  · split at h
    · cases h
    · split at h
      · cases h
      · simp only [Except.ok.injEq, Prod.mk.injEq] at h
        obtain ⟨_, rfl⟩ := h
        simp
theorem takeT_shorter {b s r : Bytes} {most : Int} (h : takeT b most = .ok (s, r)) : s.length + r.length + 1 ≤ b.length ∧ s.length ≤ (max most 0).toNat := by
  unfold takeT at h
  split at h
  · cases h
  · rename_i n q hq
    have := takeN_shorter hq
    split at h
    · cases h
    · split at h
      · cases h
      · simp only [Except.ok.injEq, Prod.mk.injEq] at h
        obtain ⟨rfl, rfl⟩ := h
        simp only [List.length_take, List.length_drop]
        omega
theorem takeN_err {b : Bytes} {z : Int} (h : takeN b = .error z) : z = 2 ∨ z = 3 := by
  unfold takeN at h
  split at h
  · cases h; simp
  · split at h
    · cases h; simp
    · split at h
      · cases h; simp
      · cases h
theorem takeT_err {b : Bytes} {z most : Int} (h : takeT b most = .error z) : z = 2 ∨ z = 3 ∨ z = 5 := by
  unfold takeT at h
  split at h
  · rename_i q
    cases h
    rcases takeN_err q with h | h <;> simp [h]
  · split at h
    · cases h; simp
    · split at h
      · cases h; simp
      · cases h
end Go.Proofs.YtgonmnjgodleeaaDoor
