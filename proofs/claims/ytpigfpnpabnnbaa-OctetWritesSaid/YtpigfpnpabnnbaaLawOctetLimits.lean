/-
  OctetLimits: a row that is written is taken just if it has at most so many texts, each of at most so many bytes.
-/
import Derived.Test.YtpigfpnpabnnbaaTakeFlat
import Derived.Test.YtpigfpnpabnnbaaOctetBackLaw
namespace Go.Proofs.Ytpigfpnpabnnbaa
open Go.RowKit
/-- The longest text's length. -/
def mx (l : List Bytes) : Nat := l.foldl (fun n s => max n s.length) 0
theorem mx_snoc (l : List Bytes) (s : Bytes) : mx (l ++ [s]) = max (mx l) s.length := by simp [mx]
theorem mx_le (l : List Bytes) (m : Nat) : mx l ≤ m ↔ ∀ s ∈ l, s.length ≤ m := by
  have key : ∀ (l : List Bytes) (a : Nat), l.foldl (fun n s => max n s.length) a ≤ m ↔ a ≤ m ∧ ∀ s ∈ l, s.length ≤ m := by
    intro l
    induction l with
    | nil => intro a; simp
    | cons x l ih => intro a; rw [List.foldl_cons, ih]; simp only [List.mem_cons, forall_eq_or_imp, Nat.max_le, and_assoc]
  rw [mx, key]; simp
theorem tot_snoc (l : List Bytes) (s : Bytes) : tot (l ++ [s]) = tot l + s.length + 9 := by simp [tot]; omega
theorem take_snoc {α : Type} (l : List α) (k : Nat) (a : α) (h : l[k]? = some a) : l.take (k + 1) = l.take k ++ [a] := by rw [List.take_add_one, h]; rfl
theorem limits_large (L : List Bytes) (many long : Int) (h : tot L < 18446744073709551616) (hl : max many 0 < L.length ∨ max long 0 < (mx L : Int)) : takeL ([] ++ encL L) many long = .error 5 := by
  rw [List.nil_append, ← List.append_nil (encL L)]
  refine takeL_large L many long h (hl.imp id fun hx => ?_) []
  have : ¬ mx L ≤ (max long 0).toNat := by omega
  rw [mx_le] at this
  simp only [Classical.not_forall, Nat.not_le] at this
  obtain ⟨s, hs, hs'⟩ := this
  exact ⟨s, hs, by omega⟩
theorem limits_ok (L : List Bytes) (many long : Int) (h : tot L < 18446744073709551616) (h1 : L.length ≤ max many 0) (h2 : (mx L : Int) ≤ max long 0) : takeL ([] ++ encL L) many long = .ok (L, []) := by
  rw [List.nil_append, ← List.append_nil (encL L)]
  refine takeL_enc L many long h h1 (fun s hs => ?_) []
  have := (mx_le L (max long 0).toNat).1 (by omega) s hs
  omega
set_option maxHeartbeats 2000000 in
set_option maxRecDepth 20000 in
theorem limits_any (A : Option Addr) (l : List ByteArray) (n c : Nat) (many long : Int) (hl : l.length = n) (hc : n ≤ c) (hc' : c ≤ maxLen) (hr : ∀ s ∈ l, s.size ≤ reachBytes) (hm : -9223372036854775808 ≤ many ∧ many ≤ 9223372036854775807) (hlo : -9223372036854775808 ≤ long ∧ long ≤ 9223372036854775807) (w : World) (hs : Sl strR 1 w.heap.size w A l) :
    Calls Try.prog 6 #[.slice A n c, .int .i64 many, .int .i64 long] w fun e w' => e = .returned (.bool true) ∧ Below w.heap.size w w' := by
  have HS := hid hs; have HL := hid hl; have HC := hid hc'; have HR := hid hr; clear hs hl hc' hr
  have hn63 : n ≤ 9223372036854775807 := by have := HC.out; unfold maxLen at this; omega
  go_enter Try.func6, Try.ntmps6
  go_wp2_with fail
  go_loop [7, 8, 9] (fun t m i => ∃ k : Nat, k ≤ n ∧ i = .int .i64 k ∧ t = .int .i64 (tot ((l.map sb).take k)) ∧ tot ((l.map sb).take k) ≤ 4000 ∧ m = .int .i64 (mx ((l.map sb).take k)) ∧ mx ((l.map sb).take k) ≤ 4000)
    (fun _ _ i => n - (intOf i).toNat)
  case atStart => exact ⟨0, Nat.zero_le _, rfl, rfl, by simp [tot], rfl, by simp [mx]⟩
  case round =>
    obtain ⟨k, hk, rfl, rfl, ht, rfl, hx⟩ := hrel
    by_cases hlt : k < n
    · obtain ⟨s, hsk⟩ : ∃ s, l[k]? = some s := ⟨_, List.getElem?_eq_getElem (by rw [HL.out]; exact hlt)⟩
      obtain ⟨b, o, v, rfl, _, hv, hcell⟩ := HS.out.get1 hsk
      obtain ⟨hv, _⟩ := hv
      simp only [List.cons.injEq, and_true] at hv
      subst hv
      have hs47 := HR.out s (List.mem_of_getElem? hsk)
      have hs47 : (s.size : Int) ≤ 140737488351232 := by unfold reachBytes at hs47; omega
      have e1 : tot ((l.map sb).take (k + 1)) = tot ((l.map sb).take k) + s.size + 9 := by rw [take_snoc _ k (sb s) (by simp [hsk]), tot_snoc, sb_length]
      have e2 : mx ((l.map sb).take (k + 1)) = max (mx ((l.map sb).take k)) s.size := by rw [take_snoc _ k (sb s) (by simp [hsk]), mx_snoc, sb_length]
      have E1 := hid e1; have E2 := hid e2; clear e1 e2 hsk
      generalize tot ((l.map sb).take k) = T at *
      generalize mx ((l.map sb).take k) = M at *
      by_cases hbig : 4000 < T + s.size + 9
      · have hbig' : (4000 : Int) < T + s.size + 9 := by omega
        go_wp2_with (first
          | (go_at_call 16; refine (alive01 _).mono ?_; rintro e w3 ⟨rfl, hb3⟩))
        go_ret
        exact ⟨rfl, hb3⟩
      · have hsm : (T : Int) + s.size + 9 ≤ 4000 := by omega
        have hM := hid hx
        clear hbig ht hx hs47
        go_wp2_with fail
        go_round
        case rel =>
          have := hM.out
          exact ⟨k + 1, by omega, by go_num, by rw [E1.out]; go_num, by rw [E1.out]; omega, by rw [E2.out]; go_num, by rw [E2.out]; omega⟩
        case measure => simp [intOf]; omega
    · obtain rfl : k = n := by omega
      have hL : (l.map sb).length = k := by rw [List.length_map, HL.out]
      rw [List.take_of_length_le (by omega)] at *
      have ht4 := tot_length (l.map sb)
      rw [hL] at ht4
      have ht64 : tot (l.map sb) < 18446744073709551616 := by omega
      have hL9 : ([] ++ encL (l.map sb)).length ≤ 1000000 := by
        have h1 := encRow_le (l.map sb) ht64
        have h2 := encN_le (l.map sb).length (by omega)
        rw [List.nil_append, encL_row, List.length_append]; omega
      have hm2 : (l.map sb).map mkS = l := by rw [List.map_map, show mkS ∘ sb = id from rfl, List.map_id]
      by_cases hc1 : max many 0 < k
      · have htl := limits_large (l.map sb) many long ht64 (Or.inl (by rw [hL]; exact hc1))
        have HT := hid htl; clear htl ht64
        go_wp2_with fail
        refine (list_any none A [] l 0 0 k c rfl (Nat.le_refl _) (Nat.zero_le _) HL.out (by omega) _ Sl.nil HS.out).mono ?_
        rintro e w1 ⟨v, rfl, hown, hb1⟩
        generalize [] ++ encL (l.map sb) = L1 at *
        obtain ⟨A1, c1, rfl, e1, e1', s1⟩ := hown.len (Nat.zero_le _) rfl
        have S1 := hid s1; clear hown s1
        go_wp2_with fail
        refine (takelist_any A1 L1 _ c1 many long rfl e1 e1' hL9 hlo.2 hm.2 _ (Nat.le_refl _) S1.out).mono ?_
        rw [HT.out]
        rintro e w2 ⟨hb2, rfl⟩
        have hb2' := below_then hb1 hb2
        go_wp2_with (first
          | (go_at_call 16; refine (alive01 _).mono ?_; rintro e w3 ⟨rfl, hb3⟩))
        go_ret
        exact ⟨rfl, below_then hb2' hb3⟩
      · by_cases hc2 : max long 0 < (mx (l.map sb) : Int)
        · have htl := limits_large (l.map sb) many long ht64 (Or.inr hc2)
          have HT := hid htl; clear htl ht64
          go_wp2_with fail
          refine (list_any none A [] l 0 0 k c rfl (Nat.le_refl _) (Nat.zero_le _) HL.out (by omega) _ Sl.nil HS.out).mono ?_
          rintro e w1 ⟨v, rfl, hown, hb1⟩
          generalize [] ++ encL (l.map sb) = L1 at *
          obtain ⟨A1, c1, rfl, e1, e1', s1⟩ := hown.len (Nat.zero_le _) rfl
          have S1 := hid s1; clear hown s1
          go_wp2_with fail
          refine (takelist_any A1 L1 _ c1 many long rfl e1 e1' hL9 hlo.2 hm.2 _ (Nat.le_refl _) S1.out).mono ?_
          rw [HT.out]
          rintro e w2 ⟨hb2, rfl⟩
          have hb2' := below_then hb1 hb2
          go_wp2_with (first
            | (go_at_call 16; refine (alive01 _).mono ?_; rintro e w3 ⟨rfl, hb3⟩))
          go_ret
          exact ⟨rfl, below_then hb2' hb3⟩
        · have htl := limits_ok (l.map sb) many long ht64 (by rw [hL]; omega) (by omega)
          have HT := hid htl; clear htl ht64
          go_wp2_with fail
          refine (list_any none A [] l 0 0 k c rfl (Nat.le_refl _) (Nat.zero_le _) HL.out (by omega) _ Sl.nil HS.out).mono ?_
          rintro e w1 ⟨v, rfl, hown, hb1⟩
          generalize [] ++ encL (l.map sb) = L1 at *
          obtain ⟨A1, c1, rfl, e1, e1', s1⟩ := hown.len (Nat.zero_le _) rfl
          have S1 := hid s1; clear hown s1
          go_wp2_with fail
          refine (takelist_any A1 L1 _ c1 many long rfl e1 e1' hL9 hlo.2 hm.2 _ (Nat.le_refl _) S1.out).mono ?_
          rw [HT.out]
          rintro e w2 ⟨hb2, v2, A2, c2, rfl, hown2, e2, e2', s2⟩
          obtain ⟨B2, d2, rfl, f2, f2', t2⟩ := hown2.len (Nat.zero_le _) (m := k) (by rw [hm2, HL.out])
          rw [hm2] at t2
          have hb2' := below_then hb1 hb2
          have hz1 := hb2'.size
          have T2 := hid t2; clear hown2 t2 s2
          go_wp2_with (first
            | (go_at_call 16; refine (alive01 _).mono ?_; rintro e w3 ⟨rfl, hb3⟩)
            | (go_at_call 33; have hb3' := below_then hb2' hb3
               refine (strings_any (B := w2.heap.size) B2 A l l k k d2 c HL.out HL.out (by unfold maxLen; omega) _ (T2.out.below hb3) ((HS.out.below hb3').mono hz1)).mono ?_; rw [decide_eq_true rfl]; rintro e w4 ⟨rfl, q, rfl⟩; have hb4 := below_drewN hb3' q))
          go_ret
          exact ⟨rfl, hb4⟩
end Go.Proofs.Ytpigfpnpabnnbaa
