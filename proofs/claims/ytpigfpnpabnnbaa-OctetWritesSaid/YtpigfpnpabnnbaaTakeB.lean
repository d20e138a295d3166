/-
  The walks of octet, on: TakeText.
-/
import Derived.Test.YtpigfpnpabnnbaaTake
namespace Go.Proofs.Ytpigfpnpabnnbaa
open Go.RowKit
/-- What TakeText answers. -/
def TextRet (B : Nat) (w : World) (r : Except Int (Bytes × Bytes)) (e : Ending) (w' : World) : Prop :=
  (∃ q, w' = w.drewN q) ∧ match r with
    | .error z => e = .returned (.tuple #[.string ⟨#[]⟩, .slice none 0 0, .int .i64 z])
    | .ok (s, l) => ∃ A c, e = .returned (.tuple #[.string ⟨s.toArray⟩, .slice A l.length c, .int .i64 0]) ∧ l.length ≤ c ∧ c ≤ maxLen ∧ Sl byteR 1 B w A l
theorem taken_lt {b : Bytes} {n : Nat} {r : Bytes} (h : takeN b = .ok (n, r)) : n < 18446744073709551616 ∧ r.length ≤ b.length := by
  unfold takeN at h
  split at h
  · cases h
  · split at h
    · cases h
    · split at h
      · cases h
      · rename_i k r' h1 h2
        simp only [Except.ok.injEq, Prod.mk.injEq] at h
        obtain ⟨rfl, rfl⟩ := h
        refine ⟨?_, by simp; omega⟩
        have hk : k.toNat ≤ 8 := by omega
        have := fromBE_lt (r'.take k.toNat)
        have hl : (r'.take k.toNat).length ≤ 8 := by rw [List.length_take]; omega
        have := Nat.pow_le_pow_right (n := 256) (by omega) hl
        omega
theorem text_err (A : Option Addr) (b : Bytes) (m c : Nat) (most z : Int) (hm : b.length = m) (hc1 : m ≤ c) (hc : c ≤ maxLen) (hz : z ≠ 0) (ht : takeN b = .error z) (w : World) {B : Nat} (hs : Sl byteR 1 B w A b) :
    Calls Try.prog 27 #[.slice A m c, .int .i64 most] w (TextRet B w (.error z)) := by
  have hzb : (z != 0) = true := by rw [bne_iff_ne]; exact hz
  have HT := hid ht; clear ht
  go_enter Try.func27, Try.ntmps27
  go_wp2_with fail
  refine (take_any A b m c hm hc1 hc _ hs).mono ?_
  rw [HT.out]
  rintro e w1 ⟨⟨q, rfl⟩, rfl⟩
  go_wp2_with fail
  go_ret3
  exact ⟨⟨q, rfl⟩, rfl⟩
theorem text_large (A : Option Addr) (b r : Bytes) (m c n : Nat) (most z : Int) (hm : b.length = m) (hc1 : m ≤ c) (hc : c ≤ maxLen) (hmo : most ≤ 9223372036854775807) (ht : takeN b = .ok (n, r)) (hn : (max most 0 < n ∧ z = 5) ∨ (n ≤ max most 0 ∧ r.length < n ∧ z = 2)) (w : World) {B : Nat} (hs : Sl byteR 1 B w A b) :
    Calls Try.prog 27 #[.slice A m c, .int .i64 most] w (TextRet B w (.error z)) := by
  obtain ⟨hn64, hrl⟩ := taken_lt ht
  rw [hm] at hrl
  have HT := hid ht; clear ht
  unfold maxLen at hc
  rcases hn with ⟨hn, rfl⟩ | ⟨hn, hn2, rfl⟩
  · by_cases hm0 : most < 0
    · have hn' : 0 < n := by omega
      clear hn
      go_enter Try.func27, Try.ntmps27
      go_wp2_with fail
      refine (take_any A b m c hm hc1 (by unfold maxLen; omega) _ hs).mono ?_
      rw [HT.out]
      rintro e w1 ⟨⟨q, rfl⟩, A', c', rfl, hc2, hc3, hsl⟩
      unfold maxLen at hc3
      go_wp2_with fail
      go_ret3
      exact ⟨⟨q, rfl⟩, rfl⟩
    · have hn' : most < n := by omega
      clear hn
      go_enter Try.func27, Try.ntmps27
      go_wp2_with fail
      refine (take_any A b m c hm hc1 (by unfold maxLen; omega) _ hs).mono ?_
      rw [HT.out]
      rintro e w1 ⟨⟨q, rfl⟩, A', c', rfl, hc2, hc3, hsl⟩
      unfold maxLen at hc3
      go_wp2_with fail
      go_ret3
      exact ⟨⟨q, rfl⟩, rfl⟩
  · have h0n : 0 < n := by omega
    have hm0 : ¬ most < 0 := by omega
    have hn' : (n : Int) ≤ most := by omega
    clear hn
    go_enter Try.func27, Try.ntmps27
    go_wp2_with fail
    refine (take_any A b m c hm hc1 (by unfold maxLen; omega) _ hs).mono ?_
    rw [HT.out]
    rintro e w1 ⟨⟨q, rfl⟩, A', c', rfl, hc2, hc3, hsl⟩
    unfold maxLen at hc3
    go_wp2_with fail
    go_ret3
    exact ⟨⟨q, rfl⟩, rfl⟩

theorem str_drewN {w : World} (A : Option Addr) (n c B : Nat) (l : Bytes) (hl : l.length = n) (h : Sl byteR 1 B w A l) (q : Nat) :
    (convert 23 9 (.slice A n c)).run Try.prog (w.drewN q) = .ok (.string ⟨l.toArray⟩) (w.drewN q) :=
  run_str (P := Try.prog) _ _ 5 Try.underlying23 Try.underlying5 Try.underlying9 A n c B l hl (h.below (below_drewN (Below.refl _ _) _))
theorem text_ok (A : Option Addr) (b r : Bytes) (m c n : Nat) (most : Int) (hm : b.length = m) (hc1 : m ≤ c) (hc : c ≤ maxLen) (hmo : most ≤ 9223372036854775807) (ht : takeN b = .ok (n, r)) (hn : n ≤ max most 0) (hnr : n ≤ r.length) (w : World) {B : Nat} (hs : Sl byteR 1 B w A b) :
    Calls Try.prog 27 #[.slice A m c, .int .i64 most] w (TextRet B w (.ok (r.take n, r.drop n))) := by
  obtain ⟨hn64, hrl⟩ := taken_lt ht
  rw [hm] at hrl
  have HT := hid ht; clear ht
  unfold maxLen at hc
  have hmx : (n : Int) ≤ (if most < 0 then 0 else most) := by split <;> omega
  go_enter Try.func27, Try.ntmps27
  go_wp2_with fail
  refine (take_any A b m c hm hc1 (by unfold maxLen; omega) _ hs).mono ?_
  rw [HT.out]
  rintro e w1 ⟨⟨q, rfl⟩, A', c', rfl, hc2, hc3, hsl⟩
  have hlt : (r.take n).length = n := by rw [List.length_take]; omega
  have hld : (r.drop n).length = r.length - n := List.length_drop
  have hcv := str_drewN A' n c' _ (r.take n) hlt (hsl.take n)
  unfold maxLen at hc3
  generalize htn : r.take n = tn at *
  have HS := hid hsl; have HL := hid hlt; have HD := hid hld; clear hsl hs hlt hld htn
  by_cases hr0 : r.length = 0
  · have hr1 : r = [] := List.length_eq_zero_iff.1 hr0
    subst hr1
    have hn0 : n = 0 := by simpa using hnr
    subst hn0
    cases A' with
    | none =>
      go_wp2_with fail
      go_quiet (fail)
      go_wp2_with fail
      go_ret3
      exact ⟨⟨_, World.drewN_drewN _ _ _⟩, _, _, rfl, by simp, by unfold maxLen; omega, Sl.nil⟩
    | some ad =>
      by_cases hcn : c' = 0
      · subst hcn
        go_wp2_with fail
        go_quiet (fail)
        go_wp2_with fail
        go_ret3
        exact ⟨⟨_, World.drewN_drewN _ _ _⟩, _, _, rfl, by simp, by unfold maxLen; omega, Sl.nil⟩
      · go_wp2_with fail
        go_quiet (fail)
        go_wp2_with fail
        go_ret3
        exact ⟨⟨_, World.drewN_drewN _ _ _⟩, _, _, rfl, by simp, by unfold maxLen; omega, Sl.nil⟩
  · obtain ⟨b', o', rfl, _, _⟩ := HS.out (by rintro rfl; exact hr0 rfl)
    have hdr := HS.out.drop n
    rw [Nat.mul_one] at hdr
    have HDR := hid hdr; clear hdr
    by_cases hcn : c' = n
    · subst hcn
      go_wp2_with fail
      go_quiet (fail)
      go_wp2_with fail
      go_ret3
      refine ⟨⟨_, World.drewN_drewN _ _ _⟩, some ⟨b', o', none⟩, 0, by rw [HD.out]; simp <;> omega, ?_, by simp [maxLen], fun hne => absurd (List.drop_eq_nil_of_le (by omega)) hne⟩
      rw [HD.out]; omega
    · go_wp2_with fail
      go_quiet (fail)
      go_wp2_with fail
      go_ret3
      refine ⟨⟨_, World.drewN_drewN _ _ _⟩, some ⟨b', o' + n, none⟩, c' - n, by rw [HD.out]; rfl, ?_, by unfold maxLen; omega, HDR.out⟩
      rw [HD.out]; omega
theorem taketext_any (A : Option Addr) (b : Bytes) (m c : Nat) (most : Int) (hm : b.length = m) (hc1 : m ≤ c) (hc : c ≤ maxLen) (hmo : most ≤ 9223372036854775807) (w : World) {B : Nat} (hs : Sl byteR 1 B w A b) :
    Calls Try.prog 27 #[.slice A m c, .int .i64 most] w (TextRet B w (takeT b most)) := by
  cases ht : takeN b with
  | error z =>
    have hz : z ≠ 0 := by
      unfold takeN at ht
      split at ht
      · cases ht; decide
      · split at ht
        · cases ht; decide
        · split at ht <;> cases ht
          decide
    rw [show takeT b most = .error z by rw [takeT, ht]]
    exact text_err A b m c most z hm hc1 hc hz ht w hs
  | ok p =>
    obtain ⟨n, r⟩ := p
    by_cases h1 : (max most 0).toNat < n
    · rw [show takeT b most = .error 5 by rw [takeT, ht]; simp only; rw [if_pos h1]]
      exact text_large A b r m c n most 5 hm hc1 hc hmo ht (.inl ⟨by omega, rfl⟩) w hs
    · by_cases h2 : r.length < n
      · rw [show takeT b most = .error 2 by rw [takeT, ht]; simp only; rw [if_neg h1, if_pos h2]]
        exact text_large A b r m c n most 2 hm hc1 hc hmo ht (.inr ⟨by omega, h2, rfl⟩) w hs
      · rw [show takeT b most = .ok (r.take n, r.drop n) by rw [takeT, ht]; simp only; rw [if_neg h1, if_neg h2]]
        exact text_ok A b r m c n most hm hc1 hc hmo ht (by omega) (by omega) w hs
end Go.Proofs.Ytpigfpnpabnnbaa
