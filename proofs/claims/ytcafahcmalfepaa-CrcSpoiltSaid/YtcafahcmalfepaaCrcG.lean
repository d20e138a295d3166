/-
  Rows of rows of bytes; the walk of crc.Scan.
-/
import Derived.Test.YtcafahcmalfepaaCrcE
namespace Go.Proofs.Ytcafahcmalfepaa
open Go.RowKit Go.Deep
/-- A row of bytes in one cell, whose block lies in Z. -/
def rowZ (Z : Nat → Prop) : Rep Bytes :=
  ⟨fun B w cs l => ∃ A c, cs = [.slice A l.length c] ∧ l.length ≤ c ∧ c ≤ maxLen ∧ SlZ byteZ 1 (fun k => Z k ∧ k < B) w A l,
   fun hB ⟨A, c, h1, h2, h3, h4⟩ => ⟨A, c, h1, h2, h3, h4.mono fun _ h => ⟨h.1, Nat.lt_of_lt_of_le h.2 hB⟩⟩,
   fun hb ⟨A, c, h1, h2, h3, h4⟩ => ⟨A, c, h1, h2, h3, h4.agree ⟨hb.os, hb.tape, hb.output, hb.size, fun k _ hk => hb.block k hk.2⟩⟩⟩
theorem rowZ_of {B : Nat} {w : World} {cs : List Value} {l : Bytes} (hB : B ≤ w.heap.size) (h : (slR byteR 1).at_ B w cs l) : (rowZ fun _ => True).at_ B w cs l := by
  obtain ⟨A, c, h1, h2, h3, h4⟩ := h
  exact ⟨A, c, h1, h2, h3, h4.slz hB fun k hk => ⟨trivial, hk⟩⟩
theorem Sl.imp {α : Type} {R R' : Rep α} {k B : Nat} {w : World} {A : Option Addr} {l : List α} (h : Sl R k B w A l) (hi : ∀ cs a, R.at_ B w cs a → R'.at_ B w cs a) : Sl R' k B w A l := fun hn => by
  obtain ⟨b, o, h1, h2, h3⟩ := h hn
  refine ⟨b, o, h1, h2, fun j a hj => ?_⟩
  obtain ⟨cs, g1, g2, g3⟩ := h3 j a hj
  exact ⟨cs, g1, hi _ _ g2, g3⟩
theorem tabR : Tab Try.prog 34 22 1 24 := by
  obtain ⟨i, h1, h2, h3, h4⟩ := info_parts (P := Try.prog) (e := 22) (z := .slice none 0 0) (size := 1) (bytes := 24) (by kernel_rfl)
  exact ⟨Try.underlying34, ⟨i, _, h1, h2, h3, h4, rfl⟩, by omega⟩
/-- It returns rows of its own, and a number. -/
def RetRows (Z : Nat → Prop) (w : World) (L : List Bytes) (n : Int) (e : Ending) (w' : World) : Prop :=
  ∃ v, e = .returned (.tuple #[v, .int .i64 n]) ∧ Own (rowZ Z) 1 22 w.heap.size w.heap.size w' v L ∧ Below w.heap.size w w'
def sliceLen : Value → Nat
  | .slice _ n _ => n
  | _ => 0
set_option maxHeartbeats 1000000 in
set_option maxRecDepth 20000 in
theorem scan_any (A : Option Addr) (b : Bytes) (n c : Nat) (hl : b.length = n) (hn : n ≤ 1000000) (hc1 : n ≤ c) (hc2 : c ≤ maxLen) (Z : Nat → Prop) (w : World) (hs : SlZ byteZ 1 Z w A b) :
    Calls Try.prog 24 #[.slice A n c] w (RetRows Z w (scanS b).1 ((n : Int) - (scanS b).2.length)) := by
  have HS := hid hs.narrow; have HL := hid hl; have HC := hid (And.intro hc1 hc2); clear hs hl hc1 hc2
  have HSC := hid (scanS_le b)
  have hni : (n : Int) ≤ 1000000 := by omega
  go_enter Try.func24, Try.ntmps24
  go_wp2_with fail
  go_loopw [4, 5] (fun v x wr => ∃ (L : List Bytes) (r : Bytes) (A' : Option Addr) (c' : Nat), x = .slice A' r.length c' ∧ r.length ≤ n ∧ r.length ≤ c' ∧ c' ≤ maxLen ∧ SlZ byteZ 1 (fun k => Z k ∧ k < w.heap.size) wr A' r ∧ Own (rowZ Z) 1 22 w.heap.size w.heap.size wr v L ∧ scanS b = (L ++ (scanS r).1, (scanS r).2) ∧ Below w.heap.size w wr)
    (fun _ x _ => sliceLen x)
  case atStart => exact ⟨[], b, A, c, by rw [HL.out], Nat.le_of_eq HL.out, by rw [HL.out]; exact HC.out.1, HC.out.2, HS.out, Own.nil _, rfl, Below.refl _ _⟩
  case round =>
    obtain ⟨L, r, A', c', rfl, hrn, g1, g2, hsr, hown, heq, hb⟩ := hrel
    have HSR := hid hsr; have HO := hid hown; have HE := hid heq; have HB := hid hb; clear hsr hown heq hb
    have hLn : L.length ≤ n := by have h1 := HSC.out.2; rw [HE.out] at h1; rw [← HL.out]; simp at h1; omega
    go_wp2_with fail
    refine (ctake_any A' r r.length c' rfl (by omega) g1 g2 (fun k => Z k ∧ k < w.heap.size) wr HSR.out).mono ?_
    cases ht : takeF r with
    | error z =>
      rintro e w1 ⟨hb1, rfl⟩
      have hsc := scanS_err ht
      have hz : (z == 0) = false := by rcases takeF_err ht with h | h | h | h <;> subst h <;> rfl
      have HB1 := hid hb1; have HSE := hid hsc; clear hb1 hsc ht
      have hr63 : (r.length : Int) ≤ n := by omega
      go_wp2_with fail
      go_ret2
      have hsb : scanS b = (L, r) := by rw [HE.out, HSE.out, List.append_nil]
      rw [hsb]
      exact ⟨u4, rfl, HO.out.call HB.out.size HB1.out, below_then HB.out HB1.out⟩
    | ok p =>
      obtain ⟨x, q⟩ := p
      rintro e w1 ⟨hb1, A1, c1, A2, c2, rfl, ⟨k1, k2, k3, k4⟩, s1, s2⟩
      have hsc := scanS_ok ht
      have hsh := takeF_shorter ht
      have HB1 := hid hb1; have HSE := hid hsc; have S1 := hid s1; have S2 := hid s2; clear hb1 hsc ht s1 s2
      have HO1 := hid (HO.out.call HB.out.size HB1.out)
      have hl1 : (L.length + 1) * 24 ≤ 140737488355328 := by omega
      have hl2 : L.length + 1 ≤ maxLen := by unfold maxLen; omega
      have HL1 := hid hl1; have HL2 := hid hl2; clear hl1 hl2
      have HBB := hid (below_then HB.out HB1.out)
      go_wp2_with (at_builtin; refine wpl_one0 (W := w) (R := rowZ Z) (B := w.heap.size) (te := 22) (cs := [.slice A1 x.length c1]) rfl (.tmp 24) (.tmp 26) _ rfl tabR _ L x rfl HO1.out (Nat.le_refl _) HBB.out rfl rfl ⟨A1, c1, rfl, k1, k2, S1.out⟩ (mem_one _ rfl) HL1.out HL2.out ?_; intro v2 w2 hown2 hbl2 hsz2)
      have HO2 := hid hown2; clear hown2
      have hag : Agree (fun k => Z k ∧ k < w.heap.size) w1 w2 := by
        have hbb := below_both HBB.out hbl2 hsz2
        exact ⟨hbb.os, hbb.tape, hbb.output, hbb.size, fun k _ hk => hbb.block k hk.2⟩
      go_roundw
      case rel => exact ⟨L ++ [x], q, A2, c2, rfl, by omega, k3, k4, S2.out.agree hag, HO2.out, by rw [HE.out, HSE.out]; simp, hbl2⟩
      case measure => simp [sliceLen]; omega
end Go.Proofs.Ytcafahcmalfepaa
