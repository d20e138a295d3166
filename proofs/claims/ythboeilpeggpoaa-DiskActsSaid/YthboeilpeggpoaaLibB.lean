/-
  Library functions on bytes: bytes.Equal, slices.Clone, slices.Grow of nothing, slices.Concat.
-/
import Derived.Test.YthboeilpeggpoaaConv
import Derived.Test.YthboeilpeggpoaaZRep
import Derived.Lib.AppendZeros
import Derived.Deep.QuietTactic
import Derived.BigQuiet
namespace Go.Proofs.Ythboeilpeggpoaa
open Go.RowKit
theorem bytes_equal_any (A1 A2 : Option Addr) (l1 l2 : Bytes) (n m c1 c2 : Nat) (h1 : l1.length = n) (h2 : l2.length = m) (w : World) {B : Nat} (hs1 : Sl byteR 1 B w A1 l1) (hs2 : Sl byteR 1 B w A2 l2) :
    Calls Try.prog 52 #[.slice A1 n c1, .slice A2 m c2] w fun e w' => e = .returned (.bool (decide (l1 = l2))) ∧ w = w' := by
  have q1 := conv_str (c := c1) h1 hs1
  have q2 := conv_str (c := c2) h2 hs2
  go_enter Try.func52, Try.ntmps52
  go_wp2
  go_ret
  refine ⟨ret_bool ?_, rfl⟩
  rw [Bool.eq_iff_iff]; simp
theorem own_grown {α : Type} {R : Rep α} {e : TypeId} (w : World) (cur : Array Value) (cap : Nat) (hc : cur.size = cap * 1) (hm : cap ≤ maxLen) :
    Own R 1 e w.heap.size 0 (w.alloc (.cells cur e)) (.slice (some ⟨w.heap.size, 0, none⟩) 0 cap) ([] : List α) :=
  ⟨[], World.ownsRow_made w cur cap (Nat.le_refl _) hm hc, Cs.nil⟩
set_option maxHeartbeats 400000 in
set_option maxRecDepth 20000 in
theorem grow_any (n : Nat) (hn : n ≤ 4000000) (w : World) :
    Calls Try.prog 67 #[.slice none 0 0, .int .i64 n] w fun e w' => ∃ v, e = .returned v ∧ Own byteR 1 5 w.heap.size 0 w' v [] ∧ Below w.heap.size w w' := by
  obtain ⟨i, hi, hz, hs, hb⟩ := info_parts (P := Try.prog) (e := 5) (z := .int .u8 0) (size := 1) (bytes := 1) (by kernel_rfl)
  rcases Nat.eq_zero_or_pos n with rfl | hp
  · go_enter Try.func67, Try.ntmps67
    go_wp2
    go_ret
    exact ⟨_, rfl, Own.nil _, Below.refl _ _⟩
  · have hp' : (0 : Int) < n := by omega
    go_enter Try.func67, Try.ntmps67
    go_wp2_with (at_builtin; refine Lib.wpList_append_run _ rfl (.tmp 20) (.tmp 21) _ _ rfl _ _ rfl rfl _ _ (Lib.run_append_nil_zeros _ 22 3 22 5 i (.int .u8 0) .i64 .i64 Try.underlying22 Try.underlying3 hi hz n hp (by omega) (by omega) (by rw [hb]; omega)) ?_)
    go_ret
    refine ⟨_, rfl, Own.drew (own_grown w _ _ ?_ (grownCap_le_maxLen _ _ _ _ (by unfold maxLen; omega))), ((Below.refl _ _).alloc (Nat.le_refl _) _).drew⟩
    have := grownCap_ge w n 0 5
    simp [Builtin.zeroCells]
    omega
set_option maxHeartbeats 400000 in
theorem clone_any (A : Option Addr) (b : Bytes) (n c : Nat) (hm : b.length = n) (hb : n ≤ 1000000) (w : World) (hs : Sl byteR 1 w.heap.size w A b) :
    Calls Try.prog 61 #[.slice A n c] w (RetB w b) := by
  have hq := fun (W : World) (a : Option Addr) (k c : Nat) => Lib.run_eql_slice_nil (P := Try.prog) W 22 5 a k c 0 0 Try.underlying22
  cases A with
  | none =>
    have hb0 : b = [] := by
      apply Classical.byContradiction; intro hn
      obtain ⟨_, _, h, _⟩ := hs hn
      cases h
    subst hb0
    obtain rfl : 0 = n := hm
    go_enter Try.func61, Try.ntmps61
    go_wp2
    go_ret
    exact ⟨_, rfl, Own.nil _, Below.refl _ _⟩
  | some ad =>
    have hl1 : (([] : Bytes).length + b.length) * 1 ≤ 140737488355328 := by simp; omega
    have hl2 : ([] : Bytes).length + b.length ≤ maxLen := by simp [maxLen]; omega
    have HS := hid hs; have HM := hid hm; have HL1 := hid hl1; have HL2 := hid hl2; clear hs hl1 hl2 hm
    go_enter Try.func61, Try.ntmps61
    go_wp2_with (at_builtin; refine wpl_app0 (W := w) (R := byteR) (B := 0) rfl (.tmp 5) (.tmp 6) _ rfl tabB _ [] b rfl (Own.made w (Nat.le_refl _)) (Nat.zero_le _) (below_new _ _) (some ad) n c (b.map byteV) rfl HM.out ((sl_bytes HS.out HM.out).alloc _) (cs_map _ _ _) (bytes_oneCell _) HL1.out HL2.out ?_; intro v0 w0 hown0 hbl0 _)
    go_ret
    exact ⟨_, rfl, hown0, hbl0⟩
theorem cs_row {B n : Nat} {w : World} {A : Option Addr} {l : Bytes} {c : Nat} (h : Sl byteR 1 B w A l) (hn : l.length = n) (g : n ≤ c) (m : c ≤ maxLen) : Cs (slR byteR 1) 1 B w [.slice A n c] [l] := by subst hn; exact Cs.one rfl ⟨A, c, rfl, g, m, h⟩
/-- A row that was just made. -/
theorem sl_made {α : Type} {R : Rep α} {B q : Nat} {w : World} {cs : List Value} {t : TypeId} {l : List α} (h : Cs R 1 B w cs l) (hB : B ≤ w.heap.size) (hq : q = w.heap.size) : Sl R 1 (w.alloc (.cells cs.toArray t)).heap.size (w.alloc (.cells cs.toArray t)) (some ⟨q, 0, none⟩) l := by
  subst hq
  have h' := h.below ((Below.refl B w).alloc hB (.cells cs.toArray t))
  refine RdC.sl (xs := cs) ⟨h.1, fun _ => ⟨_, _, rfl, fun j u hu => ?_⟩⟩ (h'.mono (by simp; omega)) (by rintro b o h; cases h; simp)
  rw [Nat.zero_add, World.cell?_alloc_new]
  simpa using hu
theorem rows2 {B q : Nat} {w : World} {A1 A2 : Option Addr} {l1 l2 : Bytes} {c1 c2 n1 n2 : Nat} (t : TypeId) (h1 : Sl byteR 1 B w A1 l1) (e1 : l1.length = n1) (g1 : n1 ≤ c1) (m1 : c1 ≤ maxLen) (h2 : Sl byteR 1 B w A2 l2) (e2 : l2.length = n2) (g2 : n2 ≤ c2) (m2 : c2 ≤ maxLen) (hB : B ≤ w.heap.size) (hq : q = w.heap.size) :
    Sl (slR byteR 1) 1 (w.alloc (.cells #[.slice A1 n1 c1, .slice A2 n2 c2] t)).heap.size (w.alloc (.cells #[.slice A1 n1 c1, .slice A2 n2 c2] t)) (some ⟨q, 0, none⟩) [l1, l2] :=
  sl_made ((cs_row h1 e1 g1 m1).append (cs_row h2 e2 g2 m2)) hB hq
theorem rows3 {B q : Nat} {w : World} {A1 A2 A3 : Option Addr} {l1 l2 l3 : Bytes} {c1 c2 c3 n1 n2 n3 : Nat} (t : TypeId) (h1 : Sl byteR 1 B w A1 l1) (e1 : l1.length = n1) (g1 : n1 ≤ c1) (m1 : c1 ≤ maxLen) (h2 : Sl byteR 1 B w A2 l2) (e2 : l2.length = n2) (g2 : n2 ≤ c2) (m2 : c2 ≤ maxLen) (h3 : Sl byteR 1 B w A3 l3) (e3 : l3.length = n3) (g3 : n3 ≤ c3) (m3 : c3 ≤ maxLen) (hB : B ≤ w.heap.size) (hq : q = w.heap.size) :
    Sl (slR byteR 1) 1 (w.alloc (.cells #[.slice A1 n1 c1, .slice A2 n2 c2, .slice A3 n3 c3] t)).heap.size (w.alloc (.cells #[.slice A1 n1 c1, .slice A2 n2 c2, .slice A3 n3 c3] t)) (some ⟨q, 0, none⟩) [l1, l2, l3] :=
  sl_made ((cs_row h1 e1 g1 m1).append ((cs_row h2 e2 g2 m2).append (cs_row h3 e3 g3 m3))) hB hq
/-- How many bytes rows have together. -/
def flen (L : List Bytes) : Nat := L.flatten.length
theorem flen_succ (L : List Bytes) (k : Nat) (x : Bytes) (h : L[k]? = some x) : (L.take (k + 1)).flatten = (L.take k).flatten ++ x := by
  rw [List.take_add_one, h]; simp
theorem flen_take (L : List Bytes) (k : Nat) : (L.take k).flatten.length ≤ L.flatten.length := by
  conv => rhs; rw [← List.take_append_drop k L]
  rw [List.flatten_append, List.length_append]
  omega
set_option maxHeartbeats 1000000 in
theorem concat_any (A : Option Addr) (L : List Bytes) (n c : Nat) (hL : L.length = n) (hn : n ≤ 1000000) (ht : L.flatten.length ≤ 3000000) (w : World) (hs : Sl (slR byteR 1) 1 w.heap.size w A L) :
    Calls Try.prog 56 #[.slice A n c] w (RetB w L.flatten) := by
  have HS := hid hs; have HL := hid hL; have HT := hid ht; clear hs hL ht
  have hn' : (n : Int) ≤ 1000000 := by omega
  go_enter Try.func56, Try.ntmps56
  go_wp2_with fail
  go_loop [3, 11] (fun s i => ∃ k : Nat, k ≤ n ∧ i = .int .i64 k ∧ s = .int .i64 (flen (L.take k) : Nat) ∧ flen (L.take k) ≤ 3000000) (fun _ i => n - (intOf i).toNat)
  case atStart => exact ⟨0, Nat.zero_le _, rfl, by simp [flen], by simp [flen]⟩
  case round =>
    obtain ⟨k, hk, rfl, rfl, hm⟩ := hrel
    by_cases hlt : k < n
    · obtain ⟨x, hx⟩ : ∃ x, L[k]? = some x := ⟨_, List.getElem?_eq_getElem (by rw [HL.out]; exact hlt)⟩
      obtain ⟨b, o, v, rfl, hb, ⟨A', c', hv, hc1, hc2, hsx⟩, hcell⟩ := HS.out.get1 hx
      simp only [List.cons.injEq, and_true] at hv
      subst hv
      have e1 := flen_succ L k x hx
      have e2 : flen (L.take (k + 1)) = flen (L.take k) + x.length := by rw [flen, e1, List.length_append]; rfl
      have e3 : flen (L.take (k + 1)) ≤ flen L := flen_take L (k + 1)
      rw [e2] at e3
      have e4 : flen (L.take k) + x.length ≤ 3000000 := by have : flen L ≤ 3000000 := HT.out; omega
      have e5 : (flen (L.take k) : Int) + x.length ≤ 3000000 := by omega
      have E2 := hid e2; have E1 := hid e1; clear e1 e2 e3 hx hsx
      generalize flen (L.take k) = T at *
      go_wp2_with fail
      go_round
      case rel => exact ⟨k + 1, by omega, by go_num, by rw [E2.out]; go_num, by rw [E2.out]; exact e4⟩
      case measure => simp [intOf]; omega
    · obtain rfl : k = n := by omega
      rw [List.take_of_length_le (by rw [HL.out]; omega)] at *
      clear hlt
      go_wp2_with fail
      refine (grow_any (flen L) (by omega) _).mono ?_; rintro e w1 ⟨v, rfl, hown, hbl⟩
      have HO := hid hown; clear hown hm
      go_wp2_with fail
      go_loopw [6, 27] (fun v i wr => ∃ q : Nat, q ≤ k ∧ i = .int .i64 q ∧ Own byteR 1 5 w.heap.size 0 wr v (L.take q).flatten ∧ Below w.heap.size w wr)
        (fun _ i _ => k - (intOf i).toNat)
      case atStart => exact ⟨0, Nat.zero_le _, rfl, by simpa using HO.out, hbl⟩
      case round =>
        obtain ⟨q, hq, rfl, hown, hbr⟩ := hrel
        have HO2 := hid hown; clear hown
        by_cases hlt : q < k
        · obtain ⟨x, hx⟩ : ∃ x, L[q]? = some x := ⟨_, List.getElem?_eq_getElem (by rw [HL.out]; exact hlt)⟩
          obtain ⟨b, o, v', rfl, hb, ⟨A', c', hv, hc1, hc2, hsx⟩, hcell⟩ := HS.out.get1 hx
          simp only [List.cons.injEq, and_true] at hv
          subst hv
          have hcell := (hbr.cell (p := ⟨b, o + q, none⟩) hb).trans hcell
          have e1 := flen_succ L q x hx
          have e3 := flen_take L (q + 1)
          rw [e1, List.length_append] at e3
          have hl1 : ((L.take q).flatten.length + x.length) * 1 ≤ 140737488355328 := by have := HT.out; omega
          have hl2 : (L.take q).flatten.length + x.length ≤ maxLen := by have := HT.out; unfold maxLen; omega
          have HX := hid (sl_bytes (hsx.below hbr) rfl)
          have HL1 := hid hl1; have HL2 := hid hl2; have E1 := hid e1; clear hl1 hl2 e1 e3 hx hsx
          generalize (L.take q).flatten = T at *
          go_wp2_with (at_builtin; refine wpl_app0 (W := w) (R := byteR) (B := 0) rfl (.tmp 31) (.tmp 32) _ rfl tabB _ T x rfl HO2.out (Nat.zero_le _) hbr A' x.length c' (x.map byteV) rfl rfl HX.out (cs_map _ _ _) (bytes_oneCell _) HL1.out HL2.out ?_; intro v2 w2 hown2 hbl2 _)
          have HO3 := hid hown2; clear hown2
          go_roundw
          case rel => exact ⟨q + 1, by omega, by go_num, by rw [E1.out]; exact HO3.out, hbl2⟩
          case measure => simp [intOf]; omega
        · obtain rfl : q = k := by omega
          rw [List.take_of_length_le (by rw [HL.out]; omega)] at *
          go_wp2_with fail
          go_ret
          exact ⟨_, rfl, HO2.out, hbr⟩
end Go.Proofs.Ythboeilpeggpoaa
