/-
  The live question of the laws on numbers, texts and rows is answered true; whether two rows of texts are alike.
-/
import Derived.Test.YtpigfpnpabnnbaaOctetB
import Derived.Test.YtpigfpnpabnnbaaTakeD
namespace Go.Proofs.Ytpigfpnpabnnbaa
open Go.RowKit Go.Deep
theorem Own.len {α : Type} {R : Rep α} {k B base : Nat} {e : TypeId} {w : World} {v : Value} {l : List α} (h : Own R k e base B w v l) (hB : B ≤ w.heap.size) {m : Nat} (hm : l.length = m) :
    ∃ A c, v = .slice A m c ∧ m ≤ c ∧ c ≤ maxLen ∧ Sl R k w.heap.size w A l := by
  obtain ⟨A, c, rfl, h1, h2, h3⟩ := h.sl hB
  exact ⟨A, c, by rw [hm], by rw [← hm]; exact h1, h2, h3⟩
/-- string(b), here and now. -/
theorem conv_str {w : World} {A : Option Addr} {n c B : Nat} {l : Bytes} (hl : l.length = n) (h : Sl byteR 1 B w A l) :
    (convert 23 9 (.slice A n c)).run Try.prog w = .ok (.string ⟨l.toArray⟩) w :=
  run_str (P := Try.prog) _ _ 5 Try.underlying23 Try.underlying5 Try.underlying9 A n c B l hl h
theorem enc300 : ([] : Bytes) ++ encN 300 = [2, 1, 44] := by decide
theorem take300 : takeN ([] ++ [2, 1, 44] ++ [7]) = .ok (300, [7]) := by rfl
theorem take9 : takeN [9] = .error 3 := by rfl
set_option maxHeartbeats 1000000 in
theorem alive01 (w : World) : Calls Try.prog 16 #[] w fun e w' => e = .returned (.bool true) ∧ Below w.heap.size w w' := by
  go_enter Try.func16, Try.ntmps16
  go_wp2_with fail
  refine (put_any none [] 0 0 300 rfl (Nat.le_refl _) (Nat.zero_le _) (by omega) (by omega) _ Sl.nil).mono ?_
  rw [enc300]
  rintro e w1 ⟨v, rfl, hown, hbl⟩
  obtain ⟨A, c, xs, rfl, hc1, hc2, hr, hcs, _⟩ := hown.rdc
  have hsl := (hown.sl (Nat.zero_le _))
  obtain ⟨A', c', he, _, _, hsl⟩ := hsl
  obtain ⟨rfl, rfl⟩ : A = A' ∧ c = c' := by simpa using he
  have HR := hid hr; have HC := hid hcs; have HS := hid hsl; clear hr hcs hsl hown he
  go_wp2_with (first
    | (at_builtin; refine wpl_app0 (W := w1) (R := byteR) (B := 0) rfl (.tmp 10) (.tmp 11) _ rfl tabB _ [] [2, 1, 44] rfl (Own.made w1 (Nat.le_refl _)) (Nat.zero_le _) (below_new _ _) A 3 c xs rfl rfl (HR.out.alloc _) (cs_bytes.2 (cs_bytes.1 HC.out)) (by rw [cs_bytes.1 HC.out]; exact bytes_oneCell _) (by decide) (by decide) ?_; intro v2 w2 hown2 hbl2 _)
    | (at_builtin; refine wpl_one0 (W := w1) (R := byteR) (B := 0) rfl (.tmp 13) (.tmp 14) _ rfl tabB _ ([] ++ [2, 1, 44]) 7 rfl hown2 (Nat.zero_le _) hbl2 rfl rfl (byteV_of (k := 7) rfl ▸ rfl) (bytes1 _) (by decide) (by decide) ?_; intro v3 w3 hown3 hbl3 hsz3))
  obtain ⟨A3, c3, he3, hc31, hc32, hsl3⟩ := hown3.sl (Nat.zero_le _)
  obtain rfl : v3 = .slice A3 4 c3 := he3
  have hb3 : Below w.heap.size w w3 := below_then hbl hbl3
  refine (take_any A3 ([] ++ [2, 1, 44] ++ [7]) 4 c3 rfl hc31 hc32 _ hsl3).mono ?_
  rw [take300]
  rintro e w4 ⟨⟨q, rfl⟩, A4, c4, rfl, hc41, hc42, _⟩
  have HS3 := hid HS.out
  clear hsl3 hown3 HR HC HS
  go_wp2_with fail
  refine (take_any (some ⟨(w3.drewN q).heap.size, 0, none⟩) [9] 1 1 rfl (Nat.le_refl _) (by decide) _ ((rdc_new _ [byteV 9] _ rfl).sl (B := (w3.drewN q).heap.size + 1) (cs_map _ _ [9]) (by rintro b o h; cases h; exact Nat.lt_succ_self _))).mono ?_
  rw [take9]
  rintro e w5 ⟨⟨q5, rfl⟩, rfl⟩
  have hbl5 : Below w3.heap.size w3 (((w3.drewN q).alloc (.cells #[.int .u8 9] 5)).drewN q5) := below_drewN (below_alloc (below_drewN (Below.refl _ _) _) _) _
  have hcv := conv_str (n := 3) (c := c) rfl (HS3.out.below (below_then hbl3 hbl5)); clear HS3
  have hb5 := below_then hb3 hbl5
  go_wp2_with (first
    | (go_at_call 15; refine (size_any 0 (by omega) _).mono ?_; rintro e w' ⟨rfl, rfl⟩))
  go_ret
  exact ⟨rfl, hb5⟩
theorem str_inj {a b : ByteArray} (h : a.toList = b.toList) : a = b := by
  rw [ByteArray.toList_eq, ByteArray.toList_eq] at h
  obtain ⟨⟨x⟩⟩ := a
  obtain ⟨⟨y⟩⟩ := b
  simpa using h
set_option maxHeartbeats 1000000 in
theorem strings_ne (A1 A2 : Option Addr) (n m c1 c2 : Nat) (hne : n ≠ m) (w : World) :
    Calls Try.prog 33 #[.slice A1 n c1, .slice A2 m c2] w fun e w' => e = .returned (.bool false) ∧ w' = w := by
  have hb : decide (n = m) = false := by simpa using hne
  go_enter Try.func33, Try.ntmps33
  go_wp2_with fail
  go_ret
  exact ⟨rfl, rfl⟩
set_option maxHeartbeats 1000000 in
theorem strings_any (A1 A2 : Option Addr) (l1 l2 : List ByteArray) (n m c1 c2 : Nat) {B : Nat} (h1 : l1.length = n) (h2 : l2.length = m) (hn : n ≤ maxLen) (w : World) (hs1 : Sl strR 1 B w A1 l1) (hs2 : Sl strR 1 B w A2 l2) :
    Calls Try.prog 33 #[.slice A1 n c1, .slice A2 m c2] w fun e w' => e = .returned (.bool (decide (l1 = l2))) ∧ ∃ q, w' = w.drewN q := by
  unfold maxLen at hn
  by_cases hne : n = m
  · subst hne
    have HL1 := hid h1; have HL2 := hid h2; have HS1 := hid hs1; have HS2 := hid hs2; clear h1 h2 hs1 hs2
    go_enter Try.func33, Try.ntmps33
    go_wp2_with fail
    go_loopw [5] (fun i wr => ∃ k : Nat, k ≤ n ∧ i = .int .i64 k ∧ l1.take k = l2.take k ∧ ∃ q, wr = w.drewN q)
      (fun i _ => n - (intOf i).toNat)
    case atStart => exact ⟨0, Nat.zero_le _, rfl, rfl, 0, rfl⟩
    case round =>
      obtain ⟨k, hk, rfl, heq, q, rfl⟩ := hrel
      have HE := hid heq; clear heq
      by_cases hlt : k < n
      · obtain ⟨x1, hx1⟩ : ∃ x, l1[k]? = some x := ⟨_, List.getElem?_eq_getElem (by rw [HL1.out]; exact hlt)⟩
        obtain ⟨x2, hx2⟩ : ∃ x, l2[k]? = some x := ⟨_, List.getElem?_eq_getElem (by rw [HL2.out]; exact hlt)⟩
        obtain ⟨b1, o1, v1, rfl, _, hv1, hc1⟩ := HS1.out.get1 hx1
        obtain ⟨b2, o2, v2, rfl, _, hv2, hc2⟩ := HS2.out.get1 hx2
        obtain ⟨hv1, _⟩ := hv1
        obtain ⟨hv2, _⟩ := hv2
        have hp1 : l1.take (k + 1) = l1.take k ++ [x1] := by rw [List.take_add_one, hx1]; rfl
        have hp2 : l2.take (k + 1) = l2.take k ++ [x2] := by rw [List.take_add_one, hx2]; rfl
        have hdec : (l1 = l2) → x1 = x2 := by intro h; rw [h, hx2] at hx1; simpa using hx1.symm
        clear hx1 hx2
        simp only [List.cons.injEq, and_true] at hv1 hv2
        subst hv1 hv2
        have HD := hid hdec; have HP1 := hid hp1; have HP2 := hid hp2; clear hdec hp1 hp2
        by_cases hx : x1 = x2
        · have hxb : (x1.toList == x2.toList) = true := by rw [hx]; simp
          have HX := hid hx; clear hx
          go_wp2_with fail
          go_quiet (fail)
          go_wp2_with fail
          go_roundw
          case rel => exact ⟨k + 1, by omega, by go_num, by rw [HP1.out, HP2.out, HE.out, HX.out], _, rfl⟩
          case measure => simp [intOf]; omega
        · have hxb : (x1.toList == x2.toList) = false := by rw [beq_eq_false_iff_ne]; exact fun h => hx (str_inj h)
          have HX := hid hx; clear hx
          go_wp2_with fail
          go_quiet (fail)
          go_wp2_with fail
          go_ret
          exact ⟨by rw [decide_eq_false (fun h => HX.out (HD.out h))]; rfl, _, World.drewN_drewN _ _ _⟩
      · obtain rfl : k = n := by omega
        go_wp2_with fail
        go_ret
        refine ⟨?_, q, rfl⟩
        have := HE.out
        rw [List.take_of_length_le (by rw [HL1.out]; omega), List.take_of_length_le (by rw [HL2.out]; omega)] at this
        rw [decide_eq_true this]
        rfl
  · refine (strings_ne A1 A2 n m c1 c2 hne w).mono ?_
    rintro e w' ⟨rfl, rfl⟩
    refine ⟨?_, 0, rfl⟩
    rw [decide_eq_false (fun h => hne (by rw [← h1, ← h2, h]))]
end Go.Proofs.Ytpigfpnpabnnbaa
