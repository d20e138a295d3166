/-
  Frames, and rows of them: the plain functions, and what they obey. No program in sight.
-/
import Derived.Test.YtcafahcmalfepaaCrcSpec
namespace Go.Proofs.Ytcafahcmalfepaa
/-- A frame ahead of its sum. -/
def frB (x : Bytes) : Bytes := 167 :: (encN x.length ++ x)
def fr (x : Bytes) : Bytes := frB x ++ be 4 (crcSum (frB x))
/-- The frame ahead, and what is behind; or why there is none. -/
def takeF (b : Bytes) : Except Int (Bytes × Bytes) :=
  match b with
  | [] => .error 2
  | m :: t => if m ≠ 167 then .error 3 else
    match takeN t with
    | .error z => .error z
    | .ok (n, r) =>
      if 100000 < n then .error 5
      else if r.length < n + 4 then .error 2
      else if be 4 (crcSum ((m :: t).take ((m :: t).length - (r.length - n)))) = (r.drop n).take 4 then .ok (r.take n, r.drop (n + 4))
      else .error 4
def frLong (n : Nat) : Nat := 1 + (1 + nb n) + n + 4
theorem frB_length (x : Bytes) : (frB x).length = 1 + (1 + nb x.length) + x.length := by simp [frB, encN_length]; omega
theorem fr_length (x : Bytes) : (fr x).length = frLong x.length := by simp [fr, frB_length, be_length, frLong]
theorem takeF_fr (x r : Bytes) (hx : x.length ≤ 100000) : takeF (fr x ++ r) = .ok (x, r) := by
  have e : fr x ++ r = 167 :: (encN x.length ++ (x ++ (be 4 (crcSum (frB x)) ++ r))) := by simp [fr, frB]
  rw [e]
  unfold takeF
  simp only [ne_eq, not_true_eq_false, if_false]
  rw [takeN_enc x.length (by omega)]
  simp only
  have hl : (x ++ (be 4 (crcSum (frB x)) ++ r)).length = x.length + 4 + r.length := by simp [be_length]; omega
  rw [if_neg (by omega), if_neg (by rw [hl]; omega), hl]
  have h1 : (167 :: (encN x.length ++ (x ++ (be 4 (crcSum (frB x)) ++ r)))).take ((167 :: (encN x.length ++ (x ++ (be 4 (crcSum (frB x)) ++ r)))).length - (x.length + 4 + r.length - x.length)) = frB x := by
    have e2 : (167 : UInt8) :: (encN x.length ++ (x ++ (be 4 (crcSum (frB x)) ++ r))) = frB x ++ (be 4 (crcSum (frB x)) ++ r) := by simp [frB]
    rw [e2]
    have e3 : (frB x ++ (be 4 (crcSum (frB x)) ++ r)).length - (x.length + 4 + r.length - x.length) = (frB x).length := by simp [be_length]; omega
    rw [e3, List.take_left]
  rw [h1]
  have h2 : (x ++ (be 4 (crcSum (frB x)) ++ r)).drop x.length = be 4 (crcSum (frB x)) ++ r := List.drop_left
  have h3 : (be 4 (crcSum (frB x)) ++ r).take 4 = be 4 (crcSum (frB x)) := List.take_left' (be_length _ _)
  have h4 : (x ++ (be 4 (crcSum (frB x)) ++ r)).drop (x.length + 4) = r := by
    rw [← List.drop_drop, h2]; exact List.drop_left' (be_length _ _)
  rw [h2, h3, if_pos rfl, h4, List.take_left]
theorem takeF_only {b x r : Bytes} (h : takeF b = .ok (x, r)) : fr x ++ r = b ∧ x.length ≤ 100000 := by
  unfold takeF at h
  split at h
  · cases h
  · rename_i m t
    split at h
    · cases h
    · rename_i hm
      have hm : m = 167 := Classical.byContradiction hm
      subst hm
      split at h
      · cases h
      · rename_i n q hq
        have hb := takeN_only hq
        split at h
        · cases h
        · rename_i hn
          split at h
          · cases h
          · rename_i hl
            split at h
            · rename_i hs
              simp only [Except.ok.injEq, Prod.mk.injEq] at h
              obtain ⟨rfl, rfl⟩ := h
              have hx : (q.take n).length = n := by rw [List.length_take]; omega
              refine ⟨?_, by omega⟩
              have e1 : frB (q.take n) = 167 :: (encN n ++ q.take n) := by rw [frB, hx]
              have e2 : ((167 : UInt8) :: t).take (((167 : UInt8) :: t).length - (q.length - n)) = frB (q.take n) := by
                rw [← hb, e1]
                have e3 : (167 : UInt8) :: (encN n ++ q) = (167 :: (encN n ++ q.take n)) ++ q.drop n := by simp
                rw [e3]
                exact List.take_left' (by simp [List.length_drop, List.length_take]; omega)
              rw [e2] at hs
              unfold fr
              rw [hs, e1, ← hb]
              simp only [List.cons_append, List.append_assoc, List.cons.injEq, true_and, List.append_cancel_left_eq]
              rw [← List.drop_drop, List.take_append_drop, List.take_append_drop]
            · cases h
theorem takeF_err {b : Bytes} {z : Int} (h : takeF b = .error z) : z = 2 ∨ z = 3 ∨ z = 4 ∨ z = 5 := by
  unfold takeF at h
  split at h
  · cases h; simp
  · split at h
    · cases h; simp
    · split at h
      · rename_i q
        cases h
        rcases takeN_err q with h | h <;> simp [h]
      · split at h
        · cases h; simp
        · split at h
          · cases h; simp
          · split at h
            · cases h
            · cases h; simp
theorem fr_pos (x : Bytes) : 0 < (fr x).length := by rw [fr_length]; unfold frLong; omega
theorem takeF_shorter {b x r : Bytes} (h : takeF b = .ok (x, r)) : r.length < b.length ∧ x.length ≤ b.length := by
  obtain ⟨rfl, _⟩ := takeF_only h
  have := fr_pos x
  have e := fr_length x
  unfold frLong at e
  rw [List.length_append]
  omega
/-- All frames ahead, and what is left. -/
def scanS (b : Bytes) : List Bytes × Bytes :=
  match h : takeF b with
  | .error _ => ([], b)
  | .ok (x, r) => (x :: (scanS r).1, (scanS r).2)
termination_by b.length
decreasing_by
  all_goals exact (takeF_shorter h).1
theorem scanS_err {b : Bytes} {z : Int} (h : takeF b = .error z) : scanS b = ([], b) := by
  rw [scanS]
  split
  · rfl
  · rename_i h2
    rw [h] at h2; cases h2
theorem scanS_ok {b x r : Bytes} (h : takeF b = .ok (x, r)) : scanS b = (x :: (scanS r).1, (scanS r).2) := by
  rw [scanS]
  split
  · rename_i h2
    rw [h] at h2; cases h2
  · rename_i h2
    rw [h] at h2
    simp only [Except.ok.injEq, Prod.mk.injEq] at h2
    obtain ⟨rfl, rfl⟩ := h2
    rfl
/-- Frames, one behind the other. -/
def frs (l : List Bytes) : Bytes := (l.map fr).flatten
theorem frs_cons (x : Bytes) (l : List Bytes) : frs (x :: l) = fr x ++ frs l := by simp [frs]
theorem frs_append (a b : List Bytes) : frs (a ++ b) = frs a ++ frs b := by simp [frs]
theorem scanS_frs (l : List Bytes) (hl : ∀ x ∈ l, x.length ≤ 100000) (r : Bytes) : scanS (frs l ++ r) = (l ++ (scanS r).1, (scanS r).2) := by
  induction l with
  | nil => simp [frs]
  | cons x l ih =>
    rw [frs_cons, List.append_assoc, scanS_ok (takeF_fr x _ (hl x (by simp))), ih (fun y hy => hl y (by simp [hy]))]
    rfl
theorem scanS_split (b : Bytes) : frs (scanS b).1 ++ (scanS b).2 = b ∧ ∀ x ∈ (scanS b).1, x.length ≤ 100000 := by
  induction h : b.length using Nat.strongRecOn generalizing b with
  | _ n ih =>
    cases hb : takeF b with
    | error z => rw [scanS_err hb]; exact ⟨by simp [frs], by simp⟩
    | ok p =>
      obtain ⟨x, r⟩ := p
      obtain ⟨h1, h2⟩ := takeF_only hb
      have hs := (takeF_shorter hb).1
      obtain ⟨i1, i2⟩ := ih r.length (by omega) r rfl
      rw [scanS_ok hb]
      refine ⟨?_, ?_⟩
      · simp only
        rw [frs_cons, List.append_assoc, i1, h1]
      · intro y hy
        rcases List.mem_cons.1 hy with rfl | hy
        · exact h2
        · exact i2 y hy
theorem scanS_le (b : Bytes) : (scanS b).2.length ≤ b.length ∧ (scanS b).1.length ≤ b.length := by
  obtain ⟨h1, _⟩ := scanS_split b
  have e := congrArg List.length h1
  rw [List.length_append] at e
  refine ⟨by omega, ?_⟩
  have key : ∀ l : List Bytes, l.length ≤ (frs l).length := by
    intro l
    induction l with
    | nil => simp
    | cons x l ih => have := fr_pos x; rw [frs_cons, List.length_append, List.length_cons]; omega
  have := key (scanS b).1
  omega
/-- A frame that is cut off before its end. -/
theorem takeF_cut (x : Bytes) (hx : x.length ≤ 100000) (k : Nat) (hk : k < (fr x).length) : ∃ z, takeF ((fr x).take k) = .error z := by
  cases h : takeF ((fr x).take k) with
  | error z => exact ⟨z, rfl⟩
  | ok p =>
    obtain ⟨y, r⟩ := p
    obtain ⟨h1, h2⟩ := takeF_only h
    have e : fr x = fr y ++ (r ++ (fr x).drop k) := by rw [← List.append_assoc, h1, List.take_append_drop]
    have e1 := takeF_fr x [] hx
    rw [List.append_nil, e, takeF_fr y _ h2] at e1
    simp only [Except.ok.injEq, Prod.mk.injEq, List.append_eq_nil_iff, List.drop_eq_nil_iff] at e1
    omega
theorem be_inj {a b : Nat} (ha : a < 4294967296) (hb : b < 4294967296) (h : be 4 a = be 4 b) : a = b := by
  have e1 := fromBE_be 4 a
  have e2 := fromBE_be 4 b
  rw [h] at e1
  rw [e1] at e2
  rw [Nat.mod_eq_of_lt (by omega), Nat.mod_eq_of_lt (by omega)] at e2
  exact e2
/-- One byte of a frame is another one, none of those that tell how many. -/
theorem takeF_spoilt (x r : Bytes) (hx : x.length ≤ 100000) (k : Nat) (hk : k < (fr x).length) (hn : k = 0 ∨ 2 + nb x.length ≤ k) (c : UInt8) (hc : (fr x)[k]? ≠ some c) : ∃ z, takeF ((fr x).set k c ++ r) = .error z := by
  have hfr : fr x = 167 :: (encN x.length ++ (x ++ be 4 (crcSum (frB x)))) := by simp [fr, frB]
  rcases hn with rfl | hn
  · refine ⟨3, ?_⟩
    rw [hfr, List.set_cons_zero]
    unfold takeF
    simp only [List.cons_append]
    rw [if_pos]
    intro h
    subst h
    exact hc (by rw [hfr]; rfl)
  · cases h : takeF ((fr x).set k c ++ r) with
    | error z => exact ⟨z, rfl⟩
    | ok p =>
      exfalso
      obtain ⟨y, q⟩ := p
      obtain ⟨h1, h2⟩ := takeF_only h
      -- the bytes that tell how many are the same
      have hlx := encN_length x.length
      obtain ⟨j, rfl⟩ : ∃ j, k = 1 + (encN x.length).length + j := ⟨k - 1 - (encN x.length).length, by omega⟩
      have hset : (fr x).set (1 + (encN x.length).length + j) c = 167 :: (encN x.length ++ (x ++ be 4 (crcSum (frB x))).set j c) := by
        rw [hfr, show 1 + (encN x.length).length + j = ((encN x.length).length + j) + 1 by omega, List.set_cons_succ, List.set_append, if_neg (by omega), show (encN x.length).length + j - (encN x.length).length = j by omega]
      rw [hset] at h1
      have hy : fr y = 167 :: (encN y.length ++ (y ++ be 4 (crcSum (frB y)))) := by simp [fr, frB]
      rw [hy] at h1
      simp only [List.cons_append, List.append_assoc, List.cons.injEq, true_and] at h1
      have t1 := takeN_enc y.length (by omega) (y ++ (be 4 (crcSum (frB y)) ++ q))
      rw [h1, takeN_enc x.length (by omega)] at t1
      simp only [Except.ok.injEq, Prod.mk.injEq] at t1
      obtain ⟨t1, t2⟩ := t1
      have hjl : j < x.length + 4 := by rw [fr_length] at hk; unfold frLong at hk; omega
      have hold : (x ++ be 4 (crcSum (frB x)))[j]? ≠ some c := by
        intro e
        apply hc
        rw [hfr, show 1 + (encN x.length).length + j = ((encN x.length).length + j) + 1 by omega, List.getElem?_cons_succ, List.getElem?_append_right (by omega), show (encN x.length).length + j - (encN x.length).length = j by omega]
        exact e
      by_cases hj : j < x.length
      · rw [List.set_append, if_pos hj, List.append_assoc] at t2
        have t3 := List.append_inj t2 (by simp [t1])
        obtain ⟨t3, t4⟩ := t3
        have t5 := (List.append_inj t4 (by simp [be_length])).1
        have hsum := be_inj (crcSum_lt _) (crcSum_lt _) t5
        -- the two sums are of bytes that are unlike in one place
        have hsplit : x = x.take j ++ x[j] :: x.drop (j + 1) := by rw [List.getElem_cons_drop, List.take_append_drop]
        have hy2 : y = x.take j ++ c :: x.drop (j + 1) := by rw [← t3, List.set_eq_take_append_cons_drop, if_pos hj]
        have f1 : frB x = (167 :: (encN x.length ++ x.take j)) ++ x[j] :: x.drop (j + 1) := by
          unfold frB
          conv => lhs; rw [show encN x.length ++ x = encN x.length ++ (x.take j ++ x[j] :: x.drop (j + 1)) by rw [← hsplit]]
          simp
        have f2 : frB y = (167 :: (encN x.length ++ x.take j)) ++ c :: x.drop (j + 1) := by
          unfold frB
          rw [← t1, hy2]
          simp
        rw [f1, f2] at hsum
        have := crc_other 0 (by decide) _ _ _ _ hsum
        rw [List.getElem?_append_left hj, List.getElem?_eq_getElem hj, this] at hold
        exact hold rfl
      · rw [List.set_append, if_neg hj, List.append_assoc] at t2
        obtain ⟨t3, t4⟩ := List.append_inj t2 t1
        subst t3
        have t5 := (List.append_inj t4 (by simp [be_length])).1
        rw [List.getElem?_append_right (by omega)] at hold
        rw [← t5, List.getElem?_set_self (by rw [be_length]; omega)] at hold
        exact hold rfl
end Go.Proofs.Ytcafahcmalfepaa
