/-
  OctetBack: numbers and texts that are written are taken as they were.
-/
import Derived.Test.YtpigfpnpabnnbaaTakeFlat
import Derived.Test.YtpigfpnpabnnbaaOctetBackLaw
namespace Go.Proofs.Ytpigfpnpabnnbaa
open Go.RowKit
set_option maxHeartbeats 400000 in
theorem back_long (n : Nat) (s : ByteArray) (A : Option Addr) (m c : Nat) (hs : s.size ≤ 140737488355328) (hm : m ≤ 140737488355328) (hn : 4000 < s.size + m) (w : World) :
    Calls Try.prog 7 #[.int .u64 n, .string s, .slice A m c] w fun e w' => e = .returned (.bool true) ∧ Below w.heap.size w w' := by
  go_enter Try.func7, Try.ntmps7
  go_wp2_with (first
    | (go_at_call 16; refine (alive01 _).mono ?_; rintro e w3 ⟨rfl, hb3⟩))
  go_ret
  exact ⟨rfl, hb3⟩
theorem int64_of (n : Nat) (h : n < 18446744073709551616) : ∃ k : Int, k = wrap64 n ∧ -9223372036854775808 ≤ k ∧ k ≤ 9223372036854775807 := by
  refine ⟨_, rfl, ?_, ?_⟩ <;> unfold wrap64 <;> omega
theorem three_cells (s : ByteArray) (hs : s.size ≤ maxLen) (B : Nat) (w : World) : Cs strR 1 B w [.string s, .string ⟨#[]⟩, .string s] [s, ⟨#[]⟩, s] :=
  (Cs.one (k := 1) (R := strR) (xs := [.string s]) rfl (str_at hs)).append ((Cs.one (k := 1) (R := strR) (xs := [.string ⟨#[]⟩]) rfl (str_at (Nat.zero_le _))).append (Cs.one (k := 1) (R := strR) (xs := [.string s]) rfl (str_at hs)))
theorem back_tot (s : ByteArray) : tot ([s, ⟨#[]⟩, s].map sb) = s.size + 9 + (9 + (s.size + 9)) := by
  simp only [List.map_cons, List.map_nil, tot_cons, tot]
  simp
theorem back_row (s : ByteArray) (more : Bytes) (h : s.size ≤ 4000) : takeL (encL ([s, ⟨#[]⟩, s].map sb) ++ more) 3 s.size = .ok ([s, ⟨#[]⟩, s].map sb, more) := by
  refine takeL_enc _ 3 s.size (by rw [back_tot]; omega) (by show ((3 : Nat) : Int) ≤ _; omega) (fun x hx => ?_) more
  have hs : (sb s).length = s.size := sb_length s
  simp only [List.map_cons, List.map_nil, List.mem_cons, List.not_mem_nil, or_false] at hx
  rcases hx with rfl | rfl | rfl
  · rw [hs]; omega
  · show ((0 : Nat) : Int) ≤ _; omega
  · rw [hs]; omega
theorem sl_new {α : Type} {R : Rep α} {B : Nat} (w : World) (cs : List Value) (t : TypeId) {l : List α} (h : Cs R 1 B (w.alloc (.cells cs.toArray t)) cs l) (hB : B ≤ w.heap.size) : Sl R 1 (w.heap.size + 1) (w.alloc (.cells cs.toArray t)) (some ⟨w.heap.size, 0, none⟩) l := by
  refine RdC.sl (xs := cs) ⟨h.1, fun _ => ⟨_, _, rfl, fun j u hu => ?_⟩⟩ (h.mono (by omega)) (by rintro b o h; cases h; exact Nat.lt_succ_self _)
  have hj : j < cs.length := (List.getElem?_eq_some_iff.1 hu).1
  rw [Nat.zero_add, World.cell?_alloc_new]
  simpa using hu
set_option maxHeartbeats 2000000 in
theorem back_any (n : Nat) (s : ByteArray) (A : Option Addr) (more : Bytes) (m c : Nat) (hz : n < 18446744073709551616) (hn : s.size + m ≤ 4000) (hm : more.length = m) (hc : m ≤ c) (hc' : c ≤ maxLen) (w : World) (hs : Sl byteR 1 w.heap.size w A more) :
    Calls Try.prog 7 #[.int .u64 n, .string s, .slice A m c] w fun e w' => e = .returned (.bool true) ∧ Below w.heap.size w w' := by
  have HS := hid hs; have HL := hid hm; have HC := hid hc'; clear hs hm hc'
  obtain ⟨k, hk, hk1, hk2⟩ := int64_of n hz
  have HK := hid hk; clear hk
  have hn' : (s.size : Int) + m ≤ 4000 := by omega
  go_enter Try.func7, Try.ntmps7
  go_wp2_with fail
  refine (put_any none [] 0 0 n rfl (Nat.le_refl _) (Nat.zero_le _) hz (by omega) _ Sl.nil).mono ?_
  rintro e w1 ⟨v, rfl, hown, hbl⟩
  rw [← HK.out]
  have hn9 := encN_le n hz
  have hk9 := encN_le (zig k) (zig_lt k hk1 hk2)
  obtain ⟨A1, c1, rfl, e1, e1', s1⟩ := hown.len (Nat.zero_le _) (m := (encN n).length) (by simp)
  clear hown
  go_wp2_with fail
  refine (int_any A1 _ _ c1 k rfl e1 e1' hk1 hk2 (by omega) _ s1).mono ?_
  rintro e w2 ⟨v2, rfl, hown2, hbl2⟩
  obtain ⟨A2, c2, rfl, e2, e2', s2⟩ := hown2.len (Nat.zero_le _) (m := (encN n).length + (encN (zig k)).length) (by simp)
  clear hown2 s1
  have hb2 : Below w.heap.size w w2 := below_then hbl hbl2
  have hs1 : s.size ≤ maxLen := by unfold maxLen; omega
  have htot := back_tot s
  have hS2 := hid s2; clear s2
  have HT := hid htot; have HZ := hid hs1; clear htot hs1
  have n2 : ([] ++ encN n ++ encN (zig k)).length = (encN n).length + (encN (zig k)).length := by simp
  have N2 := hid n2; clear n2
  go_wp2_with fail
  refine (list_any A2 _ _ [s, ⟨#[]⟩, s] _ c2 3 3 N2.out e2 e2' rfl (by rw [HT.out]; omega) _ ((hS2.out.below (below_new _ _)).mono (by simp)) ((sl_new _ _ _ (three_cells s HZ.out 0 _) (Nat.zero_le _)).mono (by simp))).mono ?_
  rintro e w3 ⟨v3, rfl, hown3, hbl3⟩
  have hT9 := encRow_le ([s, ⟨#[]⟩, s].map sb) (by rw [HT.out]; omega)
  have hL9 : (encL ([s, ⟨#[]⟩, s].map sb)).length ≤ 9 + tot ([s, ⟨#[]⟩, s].map sb) := by
    rw [encL_row, List.length_append]
    have := encN_le ([s, ⟨#[]⟩, s].map sb).length (by simp)
    omega
  rw [HT.out] at hL9
  clear hT9
  have HO3 := hid hown3; clear hown3 hS2
  have hb3 : Below w.heap.size w w3 := below_then hb2 (below_then (below_new _ _) hbl3)
  obtain ⟨ys, hr, hcs⟩ := sl_rdc (HS.out.below hb3) HL.out
  rw [cs_bytes] at hcs
  subst hcs
  have HR := hid hr; clear hr
  have l4 : ([] ++ encN n ++ encN (zig k) ++ encL ([s, ⟨#[]⟩, s].map sb)).length + more.length ≤ 140000 := by
    rw [List.length_append, N2.out, HL.out]; omega
  have L4 := hid l4; clear l4
  go_wp2_with (first
    | (at_builtin; refine wpl_app0 (W := w2.alloc (.cells #[.string s, .string ⟨#[]⟩, .string s] 9)) (R := byteR) (B := 0) rfl (.tmp 37) (.tmp 38) _ rfl tabB _ _ more rfl HO3.out (Nat.zero_le _) hbl3 A m c (more.map byteV) rfl HL.out HR.out (cs_map _ _ _) (bytes_oneCell _) (by have := L4.out; omega) (by have := L4.out; unfold maxLen; omega) ?_; intro v4 w4 hown4 hbl4 hsz4))
  have hb4 : Below w.heap.size w w4 := below_then hb2 (below_then (below_new _ _) hbl4)
  have hz4 : w2.heap.size ≤ w4.heap.size := by have := hbl4.size; simp at this; omega
  have hz2 : w.heap.size ≤ w2.heap.size := hb2.size
  rw [show [] ++ encN n ++ encN (zig k) ++ encL ([s, ⟨#[]⟩, s].map sb) ++ more = encN n ++ (encN (zig k) ++ (encL ([s, ⟨#[]⟩, s].map sb) ++ more)) by simp] at hown4
  obtain ⟨A4, c4, rfl, e4, e4', s4⟩ := hown4.len (Nat.zero_le _) rfl
  have hr9 : (encL ([s, ⟨#[]⟩, s].map sb) ++ more).length ≤ 1000000 := by rw [List.length_append, HL.out]; omega
  clear HR HO3 hown4 L4 HT N2
  have htl := back_row s more (by omega)
  have hti := takeI_enc k hk1 hk2 (encL ([s, ⟨#[]⟩, s].map sb) ++ more)
  have htn := takeN_enc n hz (encN (zig k) ++ (encL ([s, ⟨#[]⟩, s].map sb) ++ more))
  have HR9 := hid hr9
  generalize encL ([s, ⟨#[]⟩, s].map sb) ++ more = R2 at *
  generalize encN (zig k) ++ R2 = R1 at *
  have HTL := hid htl; have HTI := hid hti; have HTN := hid htn; clear htl hti htn
  refine (take_any A4 _ _ c4 rfl e4 e4' _ s4).mono ?_
  rw [HTN.out]
  rintro e w5 ⟨⟨q, rfl⟩, A5, c5, rfl, e5, e5', s5⟩
  have hb5 := below_drewN hb4 q
  have s6 := s5.below (below_drewN (Below.refl _ _) q)
  have z5 : w4.heap.size ≤ (w4.drewN q).heap.size := by simp
  clear s5
  generalize w4.drewN q = w5 at *
  go_wp2_with fail
  refine (takeint_any A5 _ _ c5 rfl e5 e5' _ s6).mono ?_
  rw [HTI.out]
  rintro e w6 ⟨⟨q, rfl⟩, A6, c6, rfl, e6, e6', s7⟩
  have hb6 := below_drewN hb5 q
  have s8 := s7.below (below_drewN (Below.refl _ _) q)
  have z6 : w5.heap.size ≤ (w5.drewN q).heap.size := by simp
  clear s6 s7
  generalize w5.drewN q = w6 at *
  go_wp2_with fail
  refine (takelist_any A6 _ _ c6 3 s.size rfl e6 e6' HR9.out (by omega) (by omega) _ (by omega) s8).mono ?_
  rw [HTL.out]
  rintro e w7 ⟨hb7, v7, A7, c7, rfl, hown7, e7, e7', s9⟩
  obtain ⟨A8, c8, rfl, e8, e8', t8⟩ := hown7.len (Nat.zero_le _) (m := 3) rfl
  have hbw7 := below_then hb6 hb7
  have hm7 : ([s, ⟨#[]⟩, s].map sb).map mkS = [s, ⟨#[]⟩, s] := rfl
  rw [hm7] at t8
  have S9 := hid s9; have T8 := hid t8; clear s9 t8 hown7 s8
  have hk7 : w6.heap.size ≤ w7.heap.size := hb7.size
  have hz7 : w4.heap.size ≤ w7.heap.size := by omega
  go_wp2_with (first
    | (go_at_call 16; refine (alive01 _).mono ?_; rintro e w8 ⟨rfl, hb8⟩)
    | (go_at_call 33
       have hA8 := below_then hb8 (below_new w8 (.cells #[.string s, .string ⟨#[]⟩, .string s] 9))
       refine (strings_any (B := w8.heap.size + 1) A8 (some ⟨w8.heap.size, 0, none⟩) [s, ⟨#[]⟩, s] [s, ⟨#[]⟩, s] 3 3 c8 3 rfl rfl (by decide) _ ((T8.out.below hA8).mono (by have := hb8.size; omega)) (sl_new _ _ _ (three_cells s HZ.out 0 _) (Nat.zero_le _))).mono ?_
       rw [decide_eq_true rfl]
       rintro e w9 ⟨rfl, q, rfl⟩
       have hA9 := below_drewN hA8 q
       have hW9 := below_then hbw7 hA9
       have q1 := conv_str (c := c7) rfl (S9.out.below (hA9.mono hz7))
       have q2 := conv_str (c := c) HL.out (HS.out.below hW9)))
  go_ret
  exact ⟨rfl, hW9⟩
end Go.Proofs.Ytpigfpnpabnnbaa
