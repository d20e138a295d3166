/-
  The walks of the reference of crc: Take in one, Scan.
-/
import Derived.Test.YtcafahcmalfepaaCrcF
import Derived.Test.YtcafahcmalfepaaCrcH
namespace Go.Proofs.Ytcafahcmalfepaa
open Go.RowKit Go.Deep
theorem rctake_any (A : Option Addr) (b : Bytes) (n c : Nat) (hl : b.length = n) (hn : n ≤ 1000000) (hc1 : n ≤ c) (hc2 : c ≤ maxLen) (Z : Nat → Prop) (w : World) (hs : SlZ byteZ 1 Z w A b) :
    Calls Try.prog 15 #[.slice A n c] w (TakeFZ Z w (takeF b)) := by
  match b, hl, hs with
  | [], hl, hs =>
    subst hl
    exact rctake_nil A c Z w
  | m :: t, hl, hs =>
    by_cases hm : m = 167
    · subst hm
      match t, hl, hs with
      | [], hl, hs =>
        subst hl
        exact rctake_one A c hc1 hc2 Z w hs
      | t0 :: t', hl, hs =>
        generalize ht' : t0 :: t' = t at *
        have htn : t ≠ [] := by rw [← ht']; simp
        clear ht'
        cases htk : takeN t with
        | error z =>
          rw [show takeF (167 :: t) = .error z by simp [takeF, htk]]
          exact rctake_err A t n c z hl hc1 hc2 htn htk Z w hs
        | ok p =>
          obtain ⟨nn, r⟩ := p
          by_cases h1 : 100000 < nn
          · rw [show takeF (167 :: t) = .error 5 by simp [takeF, htk, h1]]
            exact rctake_large A t r n c nn hl hc1 hc2 htn htk h1 Z w hs
          · by_cases h2 : r.length < nn + 4
            · rw [show takeF (167 :: t) = .error 2 by simp [takeF, htk, h1, h2]]
              exact rctake_short A t r n c nn hl hc1 hc2 htn htk (by omega) h2 Z w hs
            · refine rctake_rest A t r n c nn hl hn hc1 hc2 htn htk (by omega) (by omega) _ _ rfl ?_ Z w hs
              unfold takeF
              simp only [ne_eq, not_true_eq_false, if_false, htk, if_neg h1, if_neg h2, hl]
              by_cases h3 : be 4 (crcSum (((167 : UInt8) :: t).take (n - (r.length - nn)))) = (r.drop nn).take 4
              · rw [if_pos h3, decide_eq_true h3]; rfl
              · rw [if_neg h3, decide_eq_false h3]; rfl
    · rw [show takeF (m :: t) = .error 3 by simp [takeF, hm]]
      exact rctake_mark A m t n c hl hm Z w hs
set_option maxHeartbeats 1000000 in
set_option maxRecDepth 20000 in
theorem rscan_any (A : Option Addr) (b : Bytes) (n c : Nat) (hl : b.length = n) (hn : n ≤ 1000000) (hc1 : n ≤ c) (hc2 : c ≤ maxLen) (Z : Nat → Prop) (w : World) (hs : SlZ byteZ 1 Z w A b) :
    Calls Try.prog 25 #[.slice A n c] w (RetRows Z w (scanS b).1 ((n : Int) - (scanS b).2.length)) := by
  have HS := hid hs.narrow; have HL := hid hl; have HC := hid (And.intro hc1 hc2); clear hs hl hc1 hc2
  have HSC := hid (scanS_le b)
  have hni : (n : Int) ≤ 1000000 := by omega
  go_enter Try.func25, Try.ntmps25
  go_wp2_with fail
  go_loopw [4, 5] (fun v x wr => ∃ (L : List Bytes) (r : Bytes) (A' : Option Addr) (c' : Nat), x = .slice A' r.length c' ∧ r.length ≤ n ∧ r.length ≤ c' ∧ c' ≤ maxLen ∧ SlZ byteZ 1 (fun k => Z k ∧ k < w.heap.size) wr A' r ∧ Own (rowZ Z) 1 22 w.heap.size w.heap.size wr v L ∧ scanS b = (L ++ (scanS r).1, (scanS r).2) ∧ Below w.heap.size w wr)
    (fun _ x _ => sliceLen x)
  case atStart => exact ⟨[], b, A, c, by rw [HL.out], Nat.le_of_eq HL.out, by rw [HL.out]; exact HC.out.1, HC.out.2, HS.out.below (below_new w (.cells #[] 22)), Own.made w (Nat.le_refl _), rfl, below_new _ _⟩
  case round =>
    obtain ⟨L, r, A', c', rfl, hrn, g1, g2, hsr, hown, heq, hb⟩ := hrel
    have HSR := hid hsr; have HO := hid hown; have HE := hid heq; have HB := hid hb; clear hsr hown heq hb
    have hLn : L.length ≤ n := by have h1 := HSC.out.2; rw [HE.out] at h1; rw [← HL.out]; simp at h1; omega
    go_wp2_with fail
    refine (rctake_any A' r r.length c' rfl (by omega) g1 g2 (fun k => Z k ∧ k < w.heap.size) wr HSR.out).mono ?_
    cases ht : takeF r with
    | error z =>
      rintro e w1 ⟨hb1, rfl⟩
      have hsc := scanS_err ht
      have hz : (z == 0) = false := by rcases takeF_err ht with h | h | h | h <;> subst h <;> rfl
      have HB1 := hid hb1; have HSE := hid hsc; clear hb1 hsc ht
      have hr63 : (r.length : Int) ≤ n := by omega
      go_wp2_with fail
      go_ret2
      have hsb : scanS b = (L, r) := by rw [HE.out, HSE.out, List.append_nil]
      rw [hsb]
      exact ⟨u4, rfl, HO.out.call HB.out.size HB1.out, below_then HB.out HB1.out⟩
    | ok p =>
      obtain ⟨x, q⟩ := p
      rintro e w1 ⟨hb1, A1, c1, A2, c2, rfl, ⟨k1, k2, k3, k4⟩, s1, s2⟩
      have hsc := scanS_ok ht
      have hsh := takeF_shorter ht
      have HB1 := hid hb1; have HSE := hid hsc; have S1 := hid s1; have S2 := hid s2; clear hb1 hsc ht s1 s2
      have HO1 := hid (HO.out.call HB.out.size HB1.out)
      have hl1 : (L.length + 1) * 24 ≤ 140737488355328 := by omega
      have hl2 : L.length + 1 ≤ maxLen := by unfold maxLen; omega
      have HL1 := hid hl1; have HL2 := hid hl2; clear hl1 hl2
      have HBB := hid (below_then HB.out HB1.out)
      go_wp2_with (at_builtin; refine wpl_one0 (W := w) (R := rowZ Z) (B := w.heap.size) (te := 22) (cs := [.slice A1 x.length c1]) rfl (.tmp 25) (.tmp 27) _ rfl tabR _ L x rfl HO1.out (Nat.le_refl _) HBB.out rfl rfl ⟨A1, c1, rfl, k1, k2, S1.out⟩ (mem_one _ rfl) HL1.out HL2.out ?_; intro v2 w2 hown2 hbl2 hsz2)
      have HO2 := hid hown2; clear hown2
      have hag : Agree (fun k => Z k ∧ k < w.heap.size) w1 w2 := by
        have hbb := below_both HBB.out hbl2 hsz2
        exact ⟨hbb.os, hbb.tape, hbb.output, hbb.size, fun k _ hk => hbb.block k hk.2⟩
      go_roundw
      case rel => exact ⟨L ++ [x], q, A2, c2, rfl, by omega, k3, k4, S2.out.agree hag, HO2.out, by rw [HE.out, HSE.out]; simp, hbl2⟩
      case measure => simp [sliceLen]; omega
end Go.Proofs.Ytcafahcmalfepaa
