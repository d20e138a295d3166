/-
  OctetWrites: any number, any text and any row are written as the document says.
-/
import Derived.Test.YtpigfpnpabnnbaaLawOctetLimits
import Derived.Test.YtpigfpnpabnnbaaLawOctetBack
import Derived.Test.YtpigfpnpabnnbaaOctetRefB
import Derived.Test.YtpigfpnpabnnbaaRegL
namespace Go.Proofs.Ytpigfpnpabnnbaa
open Go.RowKit
set_option maxHeartbeats 4000000 in
set_option maxRecDepth 20000 in
theorem writes_some (A A2 : Option Addr) (b : Bytes) (l : List ByteArray) (m c x n c2 : Nat) (hn0 : l ≠ []) (hx : x < 18446744073709551616) (hm : b.length = m) (hc : m ≤ c) (hc' : c ≤ maxLen) (hmr : m ≤ 140737488355328) (hl : l.length = n) (hr : ∀ s ∈ l, s.size ≤ reachBytes) (hn : n ≤ 140737488355328) (w : World) (hs : Sl byteR 1 w.heap.size w A b) (hs2 : Sl strR 1 w.heap.size w A2 l) :
    Calls Try.prog 4 #[.slice A m c, .int .u64 x, .slice A2 n c2] w fun e w' => e = .returned (.bool true) ∧ Below w.heap.size w w' := by
  have HS := hid hs; have HS2 := hid hs2; have HL := hid hl; have HM := hid hm; have HC := hid hc'; have HR := hid hr; have HX := hid hx; clear hs hs2 hl hm hc' hr
  go_enter Try.func4, Try.ntmps4
  go_wp2_with fail
  go_loop [7, 8] (fun t i => ∃ k : Nat, k ≤ n ∧ i = .int .i64 k ∧ t = .int .i64 ((m : Int) + tot ((l.map sb).take k)) ∧ (k = 0 ∨ m + tot ((l.map sb).take k) ≤ 4000) ∧ tot ((l.map sb).take k) ≤ 4000)
    (fun _ i => n - (intOf i).toNat)
  case atStart => exact ⟨0, Nat.zero_le _, rfl, by simp [tot], .inl rfl, by simp [tot]⟩
  case round =>
    obtain ⟨k, hk, rfl, rfl, ht, ht4⟩ := hrel
    by_cases hlt : k < n
    · obtain ⟨s, hsk⟩ : ∃ s, l[k]? = some s := ⟨_, List.getElem?_eq_getElem (by rw [HL.out]; exact hlt)⟩
      obtain ⟨b', o, v, rfl, _, hv, hcell⟩ := HS2.out.get1 hsk
      obtain ⟨hv, _⟩ := hv
      simp only [List.cons.injEq, and_true] at hv
      subst hv
      have hs47 := HR.out s (List.mem_of_getElem? hsk)
      have hs47 : (s.size : Int) ≤ 140737488351232 := by unfold reachBytes at hs47; omega
      have e1 : tot ((l.map sb).take (k + 1)) = tot ((l.map sb).take k) + s.size + 9 := by rw [take_snoc _ k (sb s) (by simp [hsk]), tot_snoc, sb_length]
      have E1 := hid e1; have HT := hid ht; clear e1 hsk ht
      generalize tot ((l.map sb).take k) = T at *
      by_cases hbig : 4000 < m + T + s.size + 9
      · have hbig' : (4000 : Int) < m + T + s.size + 9 := by omega
        go_wp2_with (first
          | (go_at_call 16; refine (alive01 _).mono ?_; rintro e w3 ⟨rfl, hb3⟩))
        go_ret
        exact ⟨rfl, hb3⟩
      · have hsm : (m : Int) + T + s.size + 9 ≤ 4000 := by omega
        clear hbig hs47
        go_wp2_with fail
        go_round
        case rel => exact ⟨k + 1, by omega, by go_num, by rw [E1.out]; go_num, by rw [E1.out]; omega, by rw [E1.out]; omega⟩
        case measure => simp [intOf]; omega
    · obtain rfl : k = n := by omega
      have hL : (l.map sb).length = k := by rw [List.length_map, HL.out]
      rw [List.take_of_length_le (by omega)] at *
      clear ht
      by_cases hbig : 4000 < m + tot (l.map sb)
      · have hbig' : (4000 : Int) < m + tot (l.map sb) := by omega
        generalize tot (l.map sb) = T at *
        go_wp2_with (first
          | (go_at_call 16; refine (alive01 _).mono ?_; rintro e w3 ⟨rfl, hb3⟩))
        go_ret
        exact ⟨rfl, hb3⟩
      · have hsm : (m : Int) + tot (l.map sb) ≤ 4000 := by omega
        obtain ⟨T, hTT⟩ : ∃ T, tot (l.map sb) = T := ⟨_, rfl⟩
        have HTT := hid hTT
        rw [hTT] at hsm
        simp only [hTT]
        clear hTT hbig hL ht4
        have hmM : m ≤ 1000000 := by omega
        have htb : m + tot (l.map sb) ≤ 900000 := by rw [HTT.out]; omega
        have HTB := hid htb; clear htb
        obtain ⟨s, hsk⟩ : ∃ s, l[0]? = some s := ⟨_, List.getElem?_eq_getElem (List.length_pos_iff.2 hn0)⟩
        have hk0 : 0 < k := by rw [← HL.out]; exact List.length_pos_iff.2 hn0
        obtain ⟨b', o, v, rfl, _, hv, hcell⟩ := HS2.out.get1 hsk
        obtain ⟨hv, _⟩ := hv
        simp only [List.cons.injEq, and_true] at hv
        subst hv
        rw [Nat.add_zero] at hcell
        have hss : s.size ≤ 4000 := by
          have h1 := HTT.out
          have h2 : tot (l.map sb) = s.size + 9 + tot ((l.tail).map sb) := by
            cases l with
            | nil => simp at hsk
            | cons y l' =>
              simp at hsk
              subst hsk
              rw [List.map_cons, tot_cons, sb_length]
              rfl
          omega
        clear hsk
        clear hn0
        have hs6 : s.size ≤ 1000000 := by omega
        obtain ⟨z, hz, hz1, hz2⟩ := int64_of x HX.out
        have HZ := hid hz; clear hz
        obtain ⟨LP, hLP⟩ : ∃ L, b ++ encN x = L := ⟨_, rfl⟩
        obtain ⟨LI, hLI⟩ : ∃ L, b ++ encN (zig z) = L := ⟨_, rfl⟩
        obtain ⟨LT, hLT⟩ : ∃ L, b ++ encT (sb s) = L := ⟨_, rfl⟩
        obtain ⟨LL, hLL⟩ : ∃ L, b ++ encL (l.map sb) = L := ⟨_, rfl⟩
        have hl1 : (([] : Bytes).length + b.length) * 1 ≤ 140737488355328 := by have := HM.out; simp; omega
        have hl2 : ([] : Bytes).length + b.length ≤ maxLen := by have := HM.out; simp [maxLen]; omega
        have HLP := hid hLP; have HLI := hid hLI; have HLT := hid hLT; have HLL := hid hLL; have HL1 := hid hl1; have HL2 := hid hl2; clear hLP hLI hLT hLL hl1 hl2
        go_wp2_with (first
          | (at_builtin; refine wpl_app0 (W := w) (R := byteR) (B := 0) rfl (.tmp 35) (.tmp 36) _ rfl tabB _ [] b rfl (Own.made w (Nat.le_refl _)) (Nat.zero_le _) (below_new _ _) A m c (b.map byteV) rfl HM.out ((sl_bytes HS.out HM.out).alloc _) (cs_map _ _ _) (bytes_oneCell _) HL1.out HL2.out ?_; intro v0 w0 hown0 hbl0 _; obtain ⟨A0, c0, rfl, e0, e0', s0⟩ := hown0.len (Nat.zero_le _) HM.out; have S0 := hid s0; clear hown0 s0; obtain ⟨hc0, hf0⟩ := bcell hbl0))
        rw [← HZ.out]
        have SB := hid (HS.out.call hbl0); have SL := hid (HS2.out.call hbl0)
        refine reg_start (by kernel_rfl) fun w4 hHeld hz4 => ?_
        have hT := hHeld
        refine reg_rd 0 (v := ?_) rfl (by kernel_rfl) (by kernel_rfl) (by kernel_rfl) (fun _ _ _ h => h) (by rfl) (by assumption) ?_ ?_
        rotate_left
        · intro w hSw; go_simp; with_reducible rfl
        try simp only [Act.put, List.setIfInBounds_toArray, List.set_cons_zero, List.set_cons_succ]
        refine reg_rd 1 (v := ?_) rfl (by kernel_rfl) (by kernel_rfl) (by kernel_rfl) (fun _ _ _ h => h) (by rfl) (by assumption) ?_ ?_
        rotate_left
        · intro w hSw; go_simp; with_reducible rfl
        try simp only [Act.put, List.setIfInBounds_toArray, List.set_cons_zero, List.set_cons_succ]
        refine reg_rd 4 (v := ?_) rfl (by kernel_rfl) (by kernel_rfl) (by kernel_rfl) (fun _ _ _ h => h) (by rfl) (by assumption) ?_ ?_
        rotate_left
        · intro w hSw; go_simp; with_reducible rfl
        try simp only [Act.put, List.setIfInBounds_toArray, List.set_cons_zero, List.set_cons_succ]
        refine reg_rd 5 (v := ?_) rfl (by kernel_rfl) (by kernel_rfl) (by kernel_rfl) (fun _ _ _ h => h) (by rfl) (by assumption) ?_ ?_
        rotate_left
        · intro w hSw; go_simp; with_reducible rfl
        try simp only [Act.put, List.setIfInBounds_toArray, List.set_cons_zero, List.set_cons_succ]
        refine wpAnyH_ready (rs := [2]) (by kernel_rfl) (by simp) ?_
        refine reg_do1 rfl (by rfl) (fun K hK => ?_)
        go_simp
        first | (go_at_call 14; refine (put_any A0 b m c0 x HM.out e0 e0' HX.out hmM _ (S0.out.call hT)).mono ?_; rintro e wX ⟨v, rfl, hown, hbX⟩; rw [HLP.out] at hown; obtain ⟨AX, cX, rfl, _, _, sX⟩ := hown.len (Nat.zero_le _) rfl; clear hown; replace hT := below_then hT hbX) | (go_at_call 17; refine (rput_any A b m c x HM.out hc HC.out HX.out hmM _ (SB.out.call hT)).mono ?_; rintro e wX ⟨v, rfl, hown, hbX⟩; rw [HLP.out] at hown; obtain ⟨AX, cX, rfl, _, _, sX⟩ := hown.len (Nat.zero_le _) rfl; clear hown; replace hT := below_then hT hbX) | (go_at_call 15; refine (size_any x HX.out _).mono ?_; rintro e wX ⟨rfl, rfl⟩) | (go_at_call 18; refine (rsize_any x HX.out _).mono ?_; rintro e wX ⟨rfl, rfl⟩) | (go_at_call 19; refine (int_any A0 b m c0 z HM.out e0 e0' hz1 hz2 hmM _ (S0.out.call hT)).mono ?_; rintro e wX ⟨v, rfl, hown, hbX⟩; rw [HLI.out] at hown; obtain ⟨AX, cX, rfl, _, _, sX⟩ := hown.len (Nat.zero_le _) rfl; clear hown; replace hT := below_then hT hbX) | (go_at_call 20; refine (rint_any A b m c z HM.out hc HC.out hz1 hz2 hmM _ (SB.out.call hT)).mono ?_; rintro e wX ⟨v, rfl, hown, hbX⟩; rw [HLI.out] at hown; obtain ⟨AX, cX, rfl, _, _, sX⟩ := hown.len (Nat.zero_le _) rfl; clear hown; replace hT := below_then hT hbX)
        go_wp2_with fail
        refine hK.out _ _ ?_ (fun hNext => ?_)
        · assumption
        clear hK K hHeld
        refine wpAnyH_base hNext.size hNext fun hHeld => ?_
        clear hNext
        try simp only [Act.put, List.setIfInBounds_toArray, List.set_cons_zero, List.set_cons_succ]
        refine reg_rd 3 (v := ?_) rfl (by kernel_rfl) (by kernel_rfl) (by kernel_rfl) (fun _ _ _ h => h) (by rfl) (by assumption) ?_ ?_
        rotate_left
        · (intro w hSw; have hq := conv_str (c := cX) rfl (sX.below hSw); go_simp); with_reducible rfl
        try simp only [Act.put, List.setIfInBounds_toArray, List.set_cons_zero, List.set_cons_succ]
        refine wpAnyH_ready (rs := [6]) (by kernel_rfl) (by simp) ?_
        refine reg_do1 rfl (by rfl) (fun K hK => ?_)
        go_simp
        first | (go_at_call 14; refine (put_any A0 b m c0 x HM.out e0 e0' HX.out hmM _ (S0.out.call hT)).mono ?_; rintro e wX ⟨v, rfl, hown, hbX⟩; rw [HLP.out] at hown; obtain ⟨AX, cX, rfl, _, _, sX⟩ := hown.len (Nat.zero_le _) rfl; clear hown; replace hT := below_then hT hbX) | (go_at_call 17; refine (rput_any A b m c x HM.out hc HC.out HX.out hmM _ (SB.out.call hT)).mono ?_; rintro e wX ⟨v, rfl, hown, hbX⟩; rw [HLP.out] at hown; obtain ⟨AX, cX, rfl, _, _, sX⟩ := hown.len (Nat.zero_le _) rfl; clear hown; replace hT := below_then hT hbX) | (go_at_call 15; refine (size_any x HX.out _).mono ?_; rintro e wX ⟨rfl, rfl⟩) | (go_at_call 18; refine (rsize_any x HX.out _).mono ?_; rintro e wX ⟨rfl, rfl⟩) | (go_at_call 19; refine (int_any A0 b m c0 z HM.out e0 e0' hz1 hz2 hmM _ (S0.out.call hT)).mono ?_; rintro e wX ⟨v, rfl, hown, hbX⟩; rw [HLI.out] at hown; obtain ⟨AX, cX, rfl, _, _, sX⟩ := hown.len (Nat.zero_le _) rfl; clear hown; replace hT := below_then hT hbX) | (go_at_call 20; refine (rint_any A b m c z HM.out hc HC.out hz1 hz2 hmM _ (SB.out.call hT)).mono ?_; rintro e wX ⟨v, rfl, hown, hbX⟩; rw [HLI.out] at hown; obtain ⟨AX, cX, rfl, _, _, sX⟩ := hown.len (Nat.zero_le _) rfl; clear hown; replace hT := below_then hT hbX)
        go_wp2_with fail
        refine hK.out _ _ ?_ (fun hNext => ?_)
        · assumption
        clear hK K hHeld
        refine wpAnyH_base hNext.size hNext fun hHeld => ?_
        clear hNext
        try simp only [Act.put, List.setIfInBounds_toArray, List.set_cons_zero, List.set_cons_succ]
        refine reg_rd 7 (v := ?_) rfl (by kernel_rfl) (by kernel_rfl) (by kernel_rfl) (fun _ _ _ h => h) (by rfl) (by assumption) ?_ ?_
        rotate_left
        · (intro w hSw; have hq := conv_str (c := cX) rfl (sX.below hSw); go_simp); with_reducible rfl
        try simp only [Act.put, List.setIfInBounds_toArray, List.set_cons_zero, List.set_cons_succ]
        refine reg_rd 8 (v := ?_) rfl (by kernel_rfl) (by kernel_rfl) (by kernel_rfl) (fun _ _ _ h => h) (by rfl) (by assumption) ?_ ?_
        rotate_left
        · intro w hSw; go_simp; with_reducible rfl
        try simp only [Act.put, List.setIfInBounds_toArray, List.set_cons_zero, List.set_cons_succ]
        refine reg_rd 9 (v := ?_) rfl (by kernel_rfl) (by kernel_rfl) (by kernel_rfl) (fun _ _ _ h => h) (by rfl) (by assumption) ?_ ?_
        rotate_left
        · intro w hSw; go_simp; with_reducible rfl
        try simp only [Act.put, List.setIfInBounds_toArray, List.set_cons_zero, List.set_cons_succ]
        refine reg_rd 10 (v := ?_) rfl (by kernel_rfl) (by kernel_rfl) (by kernel_rfl) (fun _ _ _ h => h) (by rfl) (by assumption) ?_ ?_
        rotate_left
        · intro w hSw; go_simp; with_reducible rfl
        try simp only [Act.put, List.setIfInBounds_toArray, List.set_cons_zero, List.set_cons_succ]
        refine reg_rd 12 (v := ?_) rfl (by kernel_rfl) (by kernel_rfl) (by kernel_rfl) (fun _ _ _ h => h) (by rfl) (by assumption) ?_ ?_
        rotate_left
        · intro w hSw; go_simp; with_reducible rfl
        try simp only [Act.put, List.setIfInBounds_toArray, List.set_cons_zero, List.set_cons_succ]
        refine wpAnyH_ready (rs := [11]) (by kernel_rfl) (by simp) ?_
        refine reg_do1 rfl (by rfl) (fun K hK => ?_)
        go_simp
        first | (go_at_call 14; refine (put_any A0 b m c0 x HM.out e0 e0' HX.out hmM _ (S0.out.call hT)).mono ?_; rintro e wX ⟨v, rfl, hown, hbX⟩; rw [HLP.out] at hown; obtain ⟨AX, cX, rfl, _, _, sX⟩ := hown.len (Nat.zero_le _) rfl; clear hown; replace hT := below_then hT hbX) | (go_at_call 17; refine (rput_any A b m c x HM.out hc HC.out HX.out hmM _ (SB.out.call hT)).mono ?_; rintro e wX ⟨v, rfl, hown, hbX⟩; rw [HLP.out] at hown; obtain ⟨AX, cX, rfl, _, _, sX⟩ := hown.len (Nat.zero_le _) rfl; clear hown; replace hT := below_then hT hbX) | (go_at_call 15; refine (size_any x HX.out _).mono ?_; rintro e wX ⟨rfl, rfl⟩) | (go_at_call 18; refine (rsize_any x HX.out _).mono ?_; rintro e wX ⟨rfl, rfl⟩) | (go_at_call 19; refine (int_any A0 b m c0 z HM.out e0 e0' hz1 hz2 hmM _ (S0.out.call hT)).mono ?_; rintro e wX ⟨v, rfl, hown, hbX⟩; rw [HLI.out] at hown; obtain ⟨AX, cX, rfl, _, _, sX⟩ := hown.len (Nat.zero_le _) rfl; clear hown; replace hT := below_then hT hbX) | (go_at_call 20; refine (rint_any A b m c z HM.out hc HC.out hz1 hz2 hmM _ (SB.out.call hT)).mono ?_; rintro e wX ⟨v, rfl, hown, hbX⟩; rw [HLI.out] at hown; obtain ⟨AX, cX, rfl, _, _, sX⟩ := hown.len (Nat.zero_le _) rfl; clear hown; replace hT := below_then hT hbX)
        go_wp2_with fail
        refine hK.out _ _ ?_ (fun hNext => ?_)
        · assumption
        clear hK K hHeld
        refine wpAnyH_base hNext.size hNext fun hHeld => ?_
        clear hNext
        try simp only [Act.put, List.setIfInBounds_toArray, List.set_cons_zero, List.set_cons_succ]
        refine wpAnyH_ready (rs := [13]) (by kernel_rfl) (by simp) ?_
        refine reg_do1 rfl (by rfl) (fun K hK => ?_)
        go_simp
        first | (go_at_call 14; refine (put_any A0 b m c0 x HM.out e0 e0' HX.out hmM _ (S0.out.call hT)).mono ?_; rintro e wX ⟨v, rfl, hown, hbX⟩; rw [HLP.out] at hown; obtain ⟨AX, cX, rfl, _, _, sX⟩ := hown.len (Nat.zero_le _) rfl; clear hown; replace hT := below_then hT hbX) | (go_at_call 17; refine (rput_any A b m c x HM.out hc HC.out HX.out hmM _ (SB.out.call hT)).mono ?_; rintro e wX ⟨v, rfl, hown, hbX⟩; rw [HLP.out] at hown; obtain ⟨AX, cX, rfl, _, _, sX⟩ := hown.len (Nat.zero_le _) rfl; clear hown; replace hT := below_then hT hbX) | (go_at_call 15; refine (size_any x HX.out _).mono ?_; rintro e wX ⟨rfl, rfl⟩) | (go_at_call 18; refine (rsize_any x HX.out _).mono ?_; rintro e wX ⟨rfl, rfl⟩) | (go_at_call 19; refine (int_any A0 b m c0 z HM.out e0 e0' hz1 hz2 hmM _ (S0.out.call hT)).mono ?_; rintro e wX ⟨v, rfl, hown, hbX⟩; rw [HLI.out] at hown; obtain ⟨AX, cX, rfl, _, _, sX⟩ := hown.len (Nat.zero_le _) rfl; clear hown; replace hT := below_then hT hbX) | (go_at_call 20; refine (rint_any A b m c z HM.out hc HC.out hz1 hz2 hmM _ (SB.out.call hT)).mono ?_; rintro e wX ⟨v, rfl, hown, hbX⟩; rw [HLI.out] at hown; obtain ⟨AX, cX, rfl, _, _, sX⟩ := hown.len (Nat.zero_le _) rfl; clear hown; replace hT := below_then hT hbX)
        go_wp2_with fail
        refine hK.out _ _ ?_ (fun hNext => ?_)
        · assumption
        clear hK K hHeld
        refine wpAnyH_base hNext.size hNext fun hHeld => ?_
        clear hNext
        try simp only [Act.put, List.setIfInBounds_toArray, List.set_cons_zero, List.set_cons_succ]
        refine reg_rd 14 (v := ?_) rfl (by kernel_rfl) (by kernel_rfl) (by kernel_rfl) (fun _ _ _ h => h) (by rfl) (by assumption) ?_ ?_
        rotate_left
        · intro w hSw; go_simp; with_reducible rfl
        try simp only [Act.put, List.setIfInBounds_toArray, List.set_cons_zero, List.set_cons_succ]
        refine reg_rd 15 (v := ?_) rfl (by kernel_rfl) (by kernel_rfl) (by kernel_rfl) (fun _ _ _ h => h) (by rfl) (by assumption) ?_ ?_
        rotate_left
        · intro w hSw; go_simp; with_reducible rfl
        try simp only [Act.put, List.setIfInBounds_toArray, List.set_cons_zero, List.set_cons_succ]
        refine reg_rd 16 (v := ?_) rfl (by kernel_rfl) (by kernel_rfl) (by kernel_rfl) (fun _ _ _ h => h) (by rfl) (by assumption) ?_ ?_
        rotate_left
        · intro w hSw; go_simp; with_reducible rfl
        try simp only [Act.put, List.setIfInBounds_toArray, List.set_cons_zero, List.set_cons_succ]
        refine reg_rd 17 (v := ?_) rfl (by kernel_rfl) (by kernel_rfl) (by kernel_rfl) (fun _ _ _ h => h) (by rfl) (by assumption) ?_ ?_
        rotate_left
        · intro w hSw; go_simp; with_reducible rfl
        try simp only [Act.put, List.setIfInBounds_toArray, List.set_cons_zero, List.set_cons_succ]
        refine reg_rd 18 (v := ?_) rfl (by kernel_rfl) (by kernel_rfl) (by kernel_rfl) (fun _ _ _ h => h) (by rfl) (by assumption) ?_ ?_
        rotate_left
        · intro w hSw; go_simp; with_reducible rfl
        try simp only [Act.put, List.setIfInBounds_toArray, List.set_cons_zero, List.set_cons_succ]
        refine reg_rd 21 (v := ?_) rfl (by kernel_rfl) (by kernel_rfl) (by kernel_rfl) (fun _ _ _ h => h) (by rfl) (by assumption) ?_ ?_
        rotate_left
        · intro w hSw; go_simp; with_reducible rfl
        try simp only [Act.put, List.setIfInBounds_toArray, List.set_cons_zero, List.set_cons_succ]
        refine reg_rd 22 (v := ?_) rfl (by kernel_rfl) (by kernel_rfl) (by kernel_rfl) (fun _ _ _ h => h) (by rfl) (by assumption) ?_ ?_
        rotate_left
        · intro w hSw; go_simp; with_reducible rfl
        try simp only [Act.put, List.setIfInBounds_toArray, List.set_cons_zero, List.set_cons_succ]
        refine wpAnyH_ready (rs := [19]) (by kernel_rfl) (by simp) ?_
        refine reg_do1 rfl (by rfl) (fun K hK => ?_)
        go_simp
        first | (go_at_call 14; refine (put_any A0 b m c0 x HM.out e0 e0' HX.out hmM _ (S0.out.call hT)).mono ?_; rintro e wX ⟨v, rfl, hown, hbX⟩; rw [HLP.out] at hown; obtain ⟨AX, cX, rfl, _, _, sX⟩ := hown.len (Nat.zero_le _) rfl; clear hown; replace hT := below_then hT hbX) | (go_at_call 17; refine (rput_any A b m c x HM.out hc HC.out HX.out hmM _ (SB.out.call hT)).mono ?_; rintro e wX ⟨v, rfl, hown, hbX⟩; rw [HLP.out] at hown; obtain ⟨AX, cX, rfl, _, _, sX⟩ := hown.len (Nat.zero_le _) rfl; clear hown; replace hT := below_then hT hbX) | (go_at_call 15; refine (size_any x HX.out _).mono ?_; rintro e wX ⟨rfl, rfl⟩) | (go_at_call 18; refine (rsize_any x HX.out _).mono ?_; rintro e wX ⟨rfl, rfl⟩) | (go_at_call 19; refine (int_any A0 b m c0 z HM.out e0 e0' hz1 hz2 hmM _ (S0.out.call hT)).mono ?_; rintro e wX ⟨v, rfl, hown, hbX⟩; rw [HLI.out] at hown; obtain ⟨AX, cX, rfl, _, _, sX⟩ := hown.len (Nat.zero_le _) rfl; clear hown; replace hT := below_then hT hbX) | (go_at_call 20; refine (rint_any A b m c z HM.out hc HC.out hz1 hz2 hmM _ (SB.out.call hT)).mono ?_; rintro e wX ⟨v, rfl, hown, hbX⟩; rw [HLI.out] at hown; obtain ⟨AX, cX, rfl, _, _, sX⟩ := hown.len (Nat.zero_le _) rfl; clear hown; replace hT := below_then hT hbX)
        go_wp2_with fail
        refine hK.out _ _ ?_ (fun hNext => ?_)
        · assumption
        clear hK K hHeld
        refine wpAnyH_base hNext.size hNext fun hHeld => ?_
        clear hNext
        try simp only [Act.put, List.setIfInBounds_toArray, List.set_cons_zero, List.set_cons_succ]
        refine reg_rd 20 (v := ?_) rfl (by kernel_rfl) (by kernel_rfl) (by kernel_rfl) (fun _ _ _ h => h) (by rfl) (by assumption) ?_ ?_
        rotate_left
        · (intro w hSw; have hq := conv_str (c := cX) rfl (sX.below hSw); go_simp); with_reducible rfl
        try simp only [Act.put, List.setIfInBounds_toArray, List.set_cons_zero, List.set_cons_succ]
        refine wpAnyH_ready (rs := [23]) (by kernel_rfl) (by simp) ?_
        refine reg_do1 rfl (by rfl) (fun K hK => ?_)
        go_simp
        first | (go_at_call 14; refine (put_any A0 b m c0 x HM.out e0 e0' HX.out hmM _ (S0.out.call hT)).mono ?_; rintro e wX ⟨v, rfl, hown, hbX⟩; rw [HLP.out] at hown; obtain ⟨AX, cX, rfl, _, _, sX⟩ := hown.len (Nat.zero_le _) rfl; clear hown; replace hT := below_then hT hbX) | (go_at_call 17; refine (rput_any A b m c x HM.out hc HC.out HX.out hmM _ (SB.out.call hT)).mono ?_; rintro e wX ⟨v, rfl, hown, hbX⟩; rw [HLP.out] at hown; obtain ⟨AX, cX, rfl, _, _, sX⟩ := hown.len (Nat.zero_le _) rfl; clear hown; replace hT := below_then hT hbX) | (go_at_call 15; refine (size_any x HX.out _).mono ?_; rintro e wX ⟨rfl, rfl⟩) | (go_at_call 18; refine (rsize_any x HX.out _).mono ?_; rintro e wX ⟨rfl, rfl⟩) | (go_at_call 19; refine (int_any A0 b m c0 z HM.out e0 e0' hz1 hz2 hmM _ (S0.out.call hT)).mono ?_; rintro e wX ⟨v, rfl, hown, hbX⟩; rw [HLI.out] at hown; obtain ⟨AX, cX, rfl, _, _, sX⟩ := hown.len (Nat.zero_le _) rfl; clear hown; replace hT := below_then hT hbX) | (go_at_call 20; refine (rint_any A b m c z HM.out hc HC.out hz1 hz2 hmM _ (SB.out.call hT)).mono ?_; rintro e wX ⟨v, rfl, hown, hbX⟩; rw [HLI.out] at hown; obtain ⟨AX, cX, rfl, _, _, sX⟩ := hown.len (Nat.zero_le _) rfl; clear hown; replace hT := below_then hT hbX)
        go_wp2_with fail
        refine hK.out _ _ ?_ (fun hNext => ?_)
        · assumption
        clear hK K hHeld
        refine wpAnyH_base hNext.size hNext fun hHeld => ?_
        clear hNext
        try simp only [Act.put, List.setIfInBounds_toArray, List.set_cons_zero, List.set_cons_succ]
        refine reg_rd 24 (v := ?_) rfl (by kernel_rfl) (by kernel_rfl) (by kernel_rfl) (fun _ _ _ h => h) (by rfl) (by assumption) ?_ ?_
        rotate_left
        · (intro w hSw; have hq := conv_str (c := cX) rfl (sX.below hSw); go_simp); with_reducible rfl
        try simp only [Act.put, List.setIfInBounds_toArray, List.set_cons_zero, List.set_cons_succ]
        refine reg_rd 25 (v := ?_) rfl (by kernel_rfl) (by kernel_rfl) (by kernel_rfl) (fun _ _ _ h => h) (by rfl) (by assumption) ?_ ?_
        rotate_left
        · intro w hSw; go_simp; with_reducible rfl
        try simp only [Act.put, List.setIfInBounds_toArray, List.set_cons_zero, List.set_cons_succ]
        refine reg_rd 26 (v := ?_) rfl (by kernel_rfl) (by kernel_rfl) (by kernel_rfl) (fun _ _ _ h => h) (by rfl) (by assumption) ?_ ?_
        rotate_left
        · intro w hSw; go_simp; with_reducible rfl
        try simp only [Act.put, List.setIfInBounds_toArray, List.set_cons_zero, List.set_cons_succ]
        refine reg_rd 27 (v := ?_) rfl (by kernel_rfl) (by kernel_rfl) (by kernel_rfl) (fun _ _ _ h => h) (by rfl) (by assumption) ?_ ?_
        rotate_left
        · intro w hSw; go_simp; with_reducible rfl
        try simp only [Act.put, List.setIfInBounds_toArray, List.set_cons_zero, List.set_cons_succ]
        refine wpAnyH_done (by kernel_rfl) ?_ _
        have hb1 := below_then hbl0 hT
        have SB1 := hid (SB.out.call hT); have SL1 := hid (SL.out.call hT); have S01 := hid (S0.out.call hT)
        clear hT hbX SB SL S0 sX HLP HLI
        go_wp2_with fail
        refine reg_start (by kernel_rfl) fun w5 hHeld hz5 => ?_
        have hT := hHeld
        refine wpAnyH_ready (rs := [0]) (by kernel_rfl) (by simp) ?_
        refine reg_do1 rfl (by rfl) (fun K hK => ?_)
        go_simp
        first | (go_at_call 16; refine (alive01 _).mono ?_; rintro e wX ⟨rfl, hbX⟩; replace hT := below_then hT hbX) | (go_at_call 21; refine (text_any A0 b m c0 s HM.out e0 e0' hs6 hmM _ (S01.out.call hT)).mono ?_; rintro e wX ⟨v, rfl, hown, hbX⟩; rw [HLT.out] at hown; obtain ⟨AX, cX, rfl, _, _, sX⟩ := hown.len (Nat.zero_le _) rfl; clear hown; replace hT := below_then hT hbX) | (go_at_call 22; refine (rtext_any A b m c s HM.out hc HC.out hs6 hmM _ (SB1.out.call hT)).mono ?_; rintro e wX ⟨v, rfl, hown, hbX⟩; rw [HLT.out] at hown; obtain ⟨AX, cX, rfl, _, _, sX⟩ := hown.len (Nat.zero_le _) rfl; clear hown; replace hT := below_then hT hbX) | (go_at_call 23; refine (list_any A0 _ b l m c0 _ c2 HM.out e0 e0' HL.out HTB.out _ (S01.out.call hT) (SL1.out.call hT)).mono ?_; rintro e wX ⟨v, rfl, hown, hbX⟩; rw [HLL.out] at hown; obtain ⟨AX, cX, rfl, _, _, sX⟩ := hown.len (Nat.zero_le _) rfl; clear hown; replace hT := below_then hT hbX) | (go_at_call 24; refine (rlist_any A _ b l m c _ c2 HM.out hc HC.out HL.out HTB.out _ (SB1.out.call hT) (SL1.out.call hT)).mono ?_; rintro e wX ⟨v, rfl, hown, hbX⟩; rw [HLL.out] at hown; obtain ⟨AX, cX, rfl, _, _, sX⟩ := hown.len (Nat.zero_le _) rfl; clear hown; replace hT := below_then hT hbX)
        go_wp2_with fail
        refine hK.out _ _ ?_ (fun hNext => ?_)
        · assumption
        clear hK K hHeld
        refine wpAnyH_base hNext.size hNext fun hHeld => ?_
        clear hNext
        try simp only [Act.put, List.setIfInBounds_toArray, List.set_cons_zero, List.set_cons_succ]
        refine reg_rd 1 (v := ?_) rfl (by kernel_rfl) (by kernel_rfl) (by kernel_rfl) (fun _ _ _ h => h) (by rfl) (by assumption) ?_ ?_
        rotate_left
        · intro w hSw; go_simp; with_reducible rfl
        try simp only [Act.put, List.setIfInBounds_toArray, List.set_cons_zero, List.set_cons_succ]
        refine reg_rd 2 (v := ?_) rfl (by kernel_rfl) (by kernel_rfl) (by kernel_rfl) (fun _ _ _ h => h) (by rfl) (by assumption) ?_ ?_
        rotate_left
        · intro w hSw; go_simp; with_reducible rfl
        try simp only [Act.put, List.setIfInBounds_toArray, List.set_cons_zero, List.set_cons_succ]
        refine reg_rd 3 (v := ?_) rfl (by kernel_rfl) (by kernel_rfl) (by kernel_rfl) (fun _ _ _ h => h) (by rfl) (by assumption) ?_ ?_
        rotate_left
        · intro w hSw; go_simp; with_reducible rfl
        try simp only [Act.put, List.setIfInBounds_toArray, List.set_cons_zero, List.set_cons_succ]
        refine reg_rd 4 (v := ?_) rfl (by kernel_rfl) (by kernel_rfl) (by kernel_rfl) (fun _ _ _ h => h) (by rfl) (by assumption) ?_ ?_
        rotate_left
        · intro w hSw; go_simp; with_reducible rfl
        try simp only [Act.put, List.setIfInBounds_toArray, List.set_cons_zero, List.set_cons_succ]
        refine reg_rd 5 (v := ?_) rfl (by kernel_rfl) (by kernel_rfl) (by kernel_rfl) (fun _ _ _ h => h) (by rfl) (by assumption) ?_ ?_
        rotate_left
        · intro w hSw; go_simp; with_reducible rfl
        try simp only [Act.put, List.setIfInBounds_toArray, List.set_cons_zero, List.set_cons_succ]
        refine reg_rd 6 (v := ?_) rfl (by kernel_rfl) (by kernel_rfl) (by kernel_rfl) (fun _ _ _ h => h) (by rfl) (by assumption) ?_ ?_
        rotate_left
        · intro w hSw; go_simp; with_reducible rfl
        try simp only [Act.put, List.setIfInBounds_toArray, List.set_cons_zero, List.set_cons_succ]
        refine reg_rd 9 (v := ?_) rfl (by kernel_rfl) (by kernel_rfl) (by kernel_rfl) (fun _ _ _ h => h) (by rfl) (by assumption) ?_ ?_
        rotate_left
        · intro w hSw; go_simp; with_reducible rfl
        try simp only [Act.put, List.setIfInBounds_toArray, List.set_cons_zero, List.set_cons_succ]
        refine reg_rd 10 (v := ?_) rfl (by kernel_rfl) (by kernel_rfl) (by kernel_rfl) (fun _ _ _ h => h) (by rfl) (by assumption) ?_ ?_
        rotate_left
        · intro w hSw; go_simp; with_reducible rfl
        try simp only [Act.put, List.setIfInBounds_toArray, List.set_cons_zero, List.set_cons_succ]
        refine wpAnyH_ready (rs := [7]) (by kernel_rfl) (by simp) ?_
        refine reg_do1 rfl (by rfl) (fun K hK => ?_)
        go_simp
        first | (go_at_call 16; refine (alive01 _).mono ?_; rintro e wX ⟨rfl, hbX⟩; replace hT := below_then hT hbX) | (go_at_call 21; refine (text_any A0 b m c0 s HM.out e0 e0' hs6 hmM _ (S01.out.call hT)).mono ?_; rintro e wX ⟨v, rfl, hown, hbX⟩; rw [HLT.out] at hown; obtain ⟨AX, cX, rfl, _, _, sX⟩ := hown.len (Nat.zero_le _) rfl; clear hown; replace hT := below_then hT hbX) | (go_at_call 22; refine (rtext_any A b m c s HM.out hc HC.out hs6 hmM _ (SB1.out.call hT)).mono ?_; rintro e wX ⟨v, rfl, hown, hbX⟩; rw [HLT.out] at hown; obtain ⟨AX, cX, rfl, _, _, sX⟩ := hown.len (Nat.zero_le _) rfl; clear hown; replace hT := below_then hT hbX) | (go_at_call 23; refine (list_any A0 _ b l m c0 _ c2 HM.out e0 e0' HL.out HTB.out _ (S01.out.call hT) (SL1.out.call hT)).mono ?_; rintro e wX ⟨v, rfl, hown, hbX⟩; rw [HLL.out] at hown; obtain ⟨AX, cX, rfl, _, _, sX⟩ := hown.len (Nat.zero_le _) rfl; clear hown; replace hT := below_then hT hbX) | (go_at_call 24; refine (rlist_any A _ b l m c _ c2 HM.out hc HC.out HL.out HTB.out _ (SB1.out.call hT) (SL1.out.call hT)).mono ?_; rintro e wX ⟨v, rfl, hown, hbX⟩; rw [HLL.out] at hown; obtain ⟨AX, cX, rfl, _, _, sX⟩ := hown.len (Nat.zero_le _) rfl; clear hown; replace hT := below_then hT hbX)
        go_wp2_with fail
        refine hK.out _ _ ?_ (fun hNext => ?_)
        · assumption
        clear hK K hHeld
        refine wpAnyH_base hNext.size hNext fun hHeld => ?_
        clear hNext
        try simp only [Act.put, List.setIfInBounds_toArray, List.set_cons_zero, List.set_cons_succ]
        refine reg_rd 8 (v := ?_) rfl (by kernel_rfl) (by kernel_rfl) (by kernel_rfl) (fun _ _ _ h => h) (by rfl) (by assumption) ?_ ?_
        rotate_left
        · (intro w hSw; first | (have hq := conv_str (c := cX) rfl (sX.below hSw); go_simp; (try with_reducible rfl); done) | (have hq := conv_str (c := c0) HM.out (S01.out.below (below_then hT hSw)); go_simp; (try with_reducible rfl); done) | (have hq := conv_str (c := c) HM.out (SB1.out.below (below_then hT hSw)); go_simp; (try with_reducible rfl); done))
        try simp only [Act.put, List.setIfInBounds_toArray, List.set_cons_zero, List.set_cons_succ]
        refine wpAnyH_ready (rs := [11]) (by kernel_rfl) (by simp) ?_
        refine reg_do1 rfl (by rfl) (fun K hK => ?_)
        go_simp
        first | (go_at_call 16; refine (alive01 _).mono ?_; rintro e wX ⟨rfl, hbX⟩; replace hT := below_then hT hbX) | (go_at_call 21; refine (text_any A0 b m c0 s HM.out e0 e0' hs6 hmM _ (S01.out.call hT)).mono ?_; rintro e wX ⟨v, rfl, hown, hbX⟩; rw [HLT.out] at hown; obtain ⟨AX, cX, rfl, _, _, sX⟩ := hown.len (Nat.zero_le _) rfl; clear hown; replace hT := below_then hT hbX) | (go_at_call 22; refine (rtext_any A b m c s HM.out hc HC.out hs6 hmM _ (SB1.out.call hT)).mono ?_; rintro e wX ⟨v, rfl, hown, hbX⟩; rw [HLT.out] at hown; obtain ⟨AX, cX, rfl, _, _, sX⟩ := hown.len (Nat.zero_le _) rfl; clear hown; replace hT := below_then hT hbX) | (go_at_call 23; refine (list_any A0 _ b l m c0 _ c2 HM.out e0 e0' HL.out HTB.out _ (S01.out.call hT) (SL1.out.call hT)).mono ?_; rintro e wX ⟨v, rfl, hown, hbX⟩; rw [HLL.out] at hown; obtain ⟨AX, cX, rfl, _, _, sX⟩ := hown.len (Nat.zero_le _) rfl; clear hown; replace hT := below_then hT hbX) | (go_at_call 24; refine (rlist_any A _ b l m c _ c2 HM.out hc HC.out HL.out HTB.out _ (SB1.out.call hT) (SL1.out.call hT)).mono ?_; rintro e wX ⟨v, rfl, hown, hbX⟩; rw [HLL.out] at hown; obtain ⟨AX, cX, rfl, _, _, sX⟩ := hown.len (Nat.zero_le _) rfl; clear hown; replace hT := below_then hT hbX)
        go_wp2_with fail
        refine hK.out _ _ ?_ (fun hNext => ?_)
        · assumption
        clear hK K hHeld
        refine wpAnyH_base hNext.size hNext fun hHeld => ?_
        clear hNext
        try simp only [Act.put, List.setIfInBounds_toArray, List.set_cons_zero, List.set_cons_succ]
        refine reg_rd 12 (v := ?_) rfl (by kernel_rfl) (by kernel_rfl) (by kernel_rfl) (fun _ _ _ h => h) (by rfl) (by assumption) ?_ ?_
        rotate_left
        · (intro w hSw; first | (have hq := conv_str (c := cX) rfl (sX.below hSw); go_simp; (try with_reducible rfl); done) | (have hq := conv_str (c := c0) HM.out (S01.out.below (below_then hT hSw)); go_simp; (try with_reducible rfl); done) | (have hq := conv_str (c := c) HM.out (SB1.out.below (below_then hT hSw)); go_simp; (try with_reducible rfl); done))
        try simp only [Act.put, List.setIfInBounds_toArray, List.set_cons_zero, List.set_cons_succ]
        refine reg_rd 13 (v := ?_) rfl (by kernel_rfl) (by kernel_rfl) (by kernel_rfl) (fun _ _ _ h => h) (by rfl) (by assumption) ?_ ?_
        rotate_left
        · intro w hSw; go_simp; with_reducible rfl
        try simp only [Act.put, List.setIfInBounds_toArray, List.set_cons_zero, List.set_cons_succ]
        refine reg_rd 14 (v := ?_) rfl (by kernel_rfl) (by kernel_rfl) (by kernel_rfl) (fun _ _ _ h => h) (by rfl) (by assumption) ?_ ?_
        rotate_left
        · intro w hSw; go_simp; with_reducible rfl
        try simp only [Act.put, List.setIfInBounds_toArray, List.set_cons_zero, List.set_cons_succ]
        refine reg_rd 15 (v := ?_) rfl (by kernel_rfl) (by kernel_rfl) (by kernel_rfl) (fun _ _ _ h => h) (by rfl) (by assumption) ?_ ?_
        rotate_left
        · intro w hSw; go_simp; with_reducible rfl
        try simp only [Act.put, List.setIfInBounds_toArray, List.set_cons_zero, List.set_cons_succ]
        refine reg_rd 16 (v := ?_) rfl (by kernel_rfl) (by kernel_rfl) (by kernel_rfl) (fun _ _ _ h => h) (by rfl) (by assumption) ?_ ?_
        rotate_left
        · intro w hSw; go_simp; with_reducible rfl
        try simp only [Act.put, List.setIfInBounds_toArray, List.set_cons_zero, List.set_cons_succ]
        refine reg_rd 17 (v := ?_) rfl (by kernel_rfl) (by kernel_rfl) (by kernel_rfl) (fun _ _ _ h => h) (by rfl) (by assumption) ?_ ?_
        rotate_left
        · intro w hSw; go_simp; with_reducible rfl
        try simp only [Act.put, List.setIfInBounds_toArray, List.set_cons_zero, List.set_cons_succ]
        refine reg_rd 20 (v := ?_) rfl (by kernel_rfl) (by kernel_rfl) (by kernel_rfl) (fun _ _ _ h => h) (by rfl) (by assumption) ?_ ?_
        rotate_left
        · intro w hSw; go_simp; with_reducible rfl
        try simp only [Act.put, List.setIfInBounds_toArray, List.set_cons_zero, List.set_cons_succ]
        refine reg_rd 21 (v := ?_) rfl (by kernel_rfl) (by kernel_rfl) (by kernel_rfl) (fun _ _ _ h => h) (by rfl) (by assumption) ?_ ?_
        rotate_left
        · intro w hSw; go_simp; with_reducible rfl
        try simp only [Act.put, List.setIfInBounds_toArray, List.set_cons_zero, List.set_cons_succ]
        refine wpAnyH_ready (rs := [18]) (by kernel_rfl) (by simp) ?_
        refine reg_do1 rfl (by rfl) (fun K hK => ?_)
        go_simp
        first | (go_at_call 16; refine (alive01 _).mono ?_; rintro e wX ⟨rfl, hbX⟩; replace hT := below_then hT hbX) | (go_at_call 21; refine (text_any A0 b m c0 s HM.out e0 e0' hs6 hmM _ (S01.out.call hT)).mono ?_; rintro e wX ⟨v, rfl, hown, hbX⟩; rw [HLT.out] at hown; obtain ⟨AX, cX, rfl, _, _, sX⟩ := hown.len (Nat.zero_le _) rfl; clear hown; replace hT := below_then hT hbX) | (go_at_call 22; refine (rtext_any A b m c s HM.out hc HC.out hs6 hmM _ (SB1.out.call hT)).mono ?_; rintro e wX ⟨v, rfl, hown, hbX⟩; rw [HLT.out] at hown; obtain ⟨AX, cX, rfl, _, _, sX⟩ := hown.len (Nat.zero_le _) rfl; clear hown; replace hT := below_then hT hbX) | (go_at_call 23; refine (list_any A0 _ b l m c0 _ c2 HM.out e0 e0' HL.out HTB.out _ (S01.out.call hT) (SL1.out.call hT)).mono ?_; rintro e wX ⟨v, rfl, hown, hbX⟩; rw [HLL.out] at hown; obtain ⟨AX, cX, rfl, _, _, sX⟩ := hown.len (Nat.zero_le _) rfl; clear hown; replace hT := below_then hT hbX) | (go_at_call 24; refine (rlist_any A _ b l m c _ c2 HM.out hc HC.out HL.out HTB.out _ (SB1.out.call hT) (SL1.out.call hT)).mono ?_; rintro e wX ⟨v, rfl, hown, hbX⟩; rw [HLL.out] at hown; obtain ⟨AX, cX, rfl, _, _, sX⟩ := hown.len (Nat.zero_le _) rfl; clear hown; replace hT := below_then hT hbX)
        go_wp2_with fail
        refine hK.out _ _ ?_ (fun hNext => ?_)
        · assumption
        clear hK K hHeld
        refine wpAnyH_base hNext.size hNext fun hHeld => ?_
        clear hNext
        try simp only [Act.put, List.setIfInBounds_toArray, List.set_cons_zero, List.set_cons_succ]
        refine reg_rd 19 (v := ?_) rfl (by kernel_rfl) (by kernel_rfl) (by kernel_rfl) (fun _ _ _ h => h) (by rfl) (by assumption) ?_ ?_
        rotate_left
        · (intro w hSw; first | (have hq := conv_str (c := cX) rfl (sX.below hSw); go_simp; (try with_reducible rfl); done) | (have hq := conv_str (c := c0) HM.out (S01.out.below (below_then hT hSw)); go_simp; (try with_reducible rfl); done) | (have hq := conv_str (c := c) HM.out (SB1.out.below (below_then hT hSw)); go_simp; (try with_reducible rfl); done))
        try simp only [Act.put, List.setIfInBounds_toArray, List.set_cons_zero, List.set_cons_succ]
        refine wpAnyH_ready (rs := [22]) (by kernel_rfl) (by simp) ?_
        refine reg_do1 rfl (by rfl) (fun K hK => ?_)
        go_simp
        first | (go_at_call 16; refine (alive01 _).mono ?_; rintro e wX ⟨rfl, hbX⟩; replace hT := below_then hT hbX) | (go_at_call 21; refine (text_any A0 b m c0 s HM.out e0 e0' hs6 hmM _ (S01.out.call hT)).mono ?_; rintro e wX ⟨v, rfl, hown, hbX⟩; rw [HLT.out] at hown; obtain ⟨AX, cX, rfl, _, _, sX⟩ := hown.len (Nat.zero_le _) rfl; clear hown; replace hT := below_then hT hbX) | (go_at_call 22; refine (rtext_any A b m c s HM.out hc HC.out hs6 hmM _ (SB1.out.call hT)).mono ?_; rintro e wX ⟨v, rfl, hown, hbX⟩; rw [HLT.out] at hown; obtain ⟨AX, cX, rfl, _, _, sX⟩ := hown.len (Nat.zero_le _) rfl; clear hown; replace hT := below_then hT hbX) | (go_at_call 23; refine (list_any A0 _ b l m c0 _ c2 HM.out e0 e0' HL.out HTB.out _ (S01.out.call hT) (SL1.out.call hT)).mono ?_; rintro e wX ⟨v, rfl, hown, hbX⟩; rw [HLL.out] at hown; obtain ⟨AX, cX, rfl, _, _, sX⟩ := hown.len (Nat.zero_le _) rfl; clear hown; replace hT := below_then hT hbX) | (go_at_call 24; refine (rlist_any A _ b l m c _ c2 HM.out hc HC.out HL.out HTB.out _ (SB1.out.call hT) (SL1.out.call hT)).mono ?_; rintro e wX ⟨v, rfl, hown, hbX⟩; rw [HLL.out] at hown; obtain ⟨AX, cX, rfl, _, _, sX⟩ := hown.len (Nat.zero_le _) rfl; clear hown; replace hT := below_then hT hbX)
        go_wp2_with fail
        refine hK.out _ _ ?_ (fun hNext => ?_)
        · assumption
        clear hK K hHeld
        refine wpAnyH_base hNext.size hNext fun hHeld => ?_
        clear hNext
        try simp only [Act.put, List.setIfInBounds_toArray, List.set_cons_zero, List.set_cons_succ]
        refine reg_rd 23 (v := ?_) rfl (by kernel_rfl) (by kernel_rfl) (by kernel_rfl) (fun _ _ _ h => h) (by rfl) (by assumption) ?_ ?_
        rotate_left
        · (intro w hSw; first | (have hq := conv_str (c := cX) rfl (sX.below hSw); go_simp; (try with_reducible rfl); done) | (have hq := conv_str (c := c0) HM.out (S01.out.below (below_then hT hSw)); go_simp; (try with_reducible rfl); done) | (have hq := conv_str (c := c) HM.out (SB1.out.below (below_then hT hSw)); go_simp; (try with_reducible rfl); done))
        try simp only [Act.put, List.setIfInBounds_toArray, List.set_cons_zero, List.set_cons_succ]
        refine reg_rd 24 (v := ?_) rfl (by kernel_rfl) (by kernel_rfl) (by kernel_rfl) (fun _ _ _ h => h) (by rfl) (by assumption) ?_ ?_
        rotate_left
        · intro w hSw; go_simp; with_reducible rfl
        try simp only [Act.put, List.setIfInBounds_toArray, List.set_cons_zero, List.set_cons_succ]
        refine reg_rd 25 (v := ?_) rfl (by kernel_rfl) (by kernel_rfl) (by kernel_rfl) (fun _ _ _ h => h) (by rfl) (by assumption) ?_ ?_
        rotate_left
        · intro w hSw; go_simp; with_reducible rfl
        try simp only [Act.put, List.setIfInBounds_toArray, List.set_cons_zero, List.set_cons_succ]
        refine reg_rd 26 (v := ?_) rfl (by kernel_rfl) (by kernel_rfl) (by kernel_rfl) (fun _ _ _ h => h) (by rfl) (by assumption) ?_ ?_
        rotate_left
        · intro w hSw; go_simp; with_reducible rfl
        try simp only [Act.put, List.setIfInBounds_toArray, List.set_cons_zero, List.set_cons_succ]
        refine reg_rd 27 (v := ?_) rfl (by kernel_rfl) (by kernel_rfl) (by kernel_rfl) (fun _ _ _ h => h) (by rfl) (by assumption) ?_ ?_
        rotate_left
        · intro w hSw; go_simp; with_reducible rfl
        try simp only [Act.put, List.setIfInBounds_toArray, List.set_cons_zero, List.set_cons_succ]
        refine reg_rd 28 (v := ?_) rfl (by kernel_rfl) (by kernel_rfl) (by kernel_rfl) (fun _ _ _ h => h) (by rfl) (by assumption) ?_ ?_
        rotate_left
        · (intro w hSw; first | (have hq := conv_str (c := cX) rfl (sX.below hSw); go_simp; (try with_reducible rfl); done) | (have hq := conv_str (c := c0) HM.out (S01.out.below (below_then hT hSw)); go_simp; (try with_reducible rfl); done) | (have hq := conv_str (c := c) HM.out (SB1.out.below (below_then hT hSw)); go_simp; (try with_reducible rfl); done))
        try simp only [Act.put, List.setIfInBounds_toArray, List.set_cons_zero, List.set_cons_succ]
        refine reg_rd 29 (v := ?_) rfl (by kernel_rfl) (by kernel_rfl) (by kernel_rfl) (fun _ _ _ h => h) (by rfl) (by assumption) ?_ ?_
        rotate_left
        · intro w hSw; go_simp; with_reducible rfl
        try simp only [Act.put, List.setIfInBounds_toArray, List.set_cons_zero, List.set_cons_succ]
        refine reg_rd 30 (v := ?_) rfl (by kernel_rfl) (by kernel_rfl) (by kernel_rfl) (fun _ _ _ h => h) (by rfl) (by assumption) ?_ ?_
        rotate_left
        · (intro w hSw; first | (have hq := conv_str (c := cX) rfl (sX.below hSw); go_simp; (try with_reducible rfl); done) | (have hq := conv_str (c := c0) HM.out (S01.out.below (below_then hT hSw)); go_simp; (try with_reducible rfl); done) | (have hq := conv_str (c := c) HM.out (SB1.out.below (below_then hT hSw)); go_simp; (try with_reducible rfl); done))
        try simp only [Act.put, List.setIfInBounds_toArray, List.set_cons_zero, List.set_cons_succ]
        refine reg_rd 31 (v := ?_) rfl (by kernel_rfl) (by kernel_rfl) (by kernel_rfl) (fun _ _ _ h => h) (by rfl) (by assumption) ?_ ?_
        rotate_left
        · intro w hSw; go_simp; with_reducible rfl
        try simp only [Act.put, List.setIfInBounds_toArray, List.set_cons_zero, List.set_cons_succ]
        refine reg_rd 32 (v := ?_) rfl (by kernel_rfl) (by kernel_rfl) (by kernel_rfl) (fun _ _ _ h => h) (by rfl) (by assumption) ?_ ?_
        rotate_left
        · intro w hSw; go_simp; with_reducible rfl
        try simp only [Act.put, List.setIfInBounds_toArray, List.set_cons_zero, List.set_cons_succ]
        refine reg_rd 33 (v := ?_) rfl (by kernel_rfl) (by kernel_rfl) (by kernel_rfl) (fun _ _ _ h => h) (by rfl) (by assumption) ?_ ?_
        rotate_left
        · intro w hSw; go_simp; with_reducible rfl
        try simp only [Act.put, List.setIfInBounds_toArray, List.set_cons_zero, List.set_cons_succ]
        refine wpAnyH_done (by kernel_rfl) ?_ _
        have hE := below_then hb1 hT
        go_wp2_with fail
        go_ret
        exact ⟨rfl, hE⟩
set_option maxHeartbeats 4000000 in
set_option maxRecDepth 20000 in
theorem writes_none (A A2 : Option Addr) (b : Bytes) (l : List ByteArray) (m c x n c2 : Nat) (hn0 : l = []) (hx : x < 18446744073709551616) (hm : b.length = m) (hc : m ≤ c) (hc' : c ≤ maxLen) (hmr : m ≤ 140737488355328) (hl : l.length = n) (hr : ∀ s ∈ l, s.size ≤ reachBytes) (hn : n ≤ 140737488355328) (w : World) (hs : Sl byteR 1 w.heap.size w A b) (hs2 : Sl strR 1 w.heap.size w A2 l) :
    Calls Try.prog 4 #[.slice A m c, .int .u64 x, .slice A2 n c2] w fun e w' => e = .returned (.bool true) ∧ Below w.heap.size w w' := by
  have HS := hid hs; have HS2 := hid hs2; have HL := hid hl; have HM := hid hm; have HC := hid hc'; have HR := hid hr; have HX := hid hx; clear hs hs2 hl hm hc' hr
  go_enter Try.func4, Try.ntmps4
  go_wp2_with fail
  go_loop [7, 8] (fun t i => ∃ k : Nat, k ≤ n ∧ i = .int .i64 k ∧ t = .int .i64 ((m : Int) + tot ((l.map sb).take k)) ∧ (k = 0 ∨ m + tot ((l.map sb).take k) ≤ 4000) ∧ tot ((l.map sb).take k) ≤ 4000)
    (fun _ i => n - (intOf i).toNat)
  case atStart => exact ⟨0, Nat.zero_le _, rfl, by simp [tot], .inl rfl, by simp [tot]⟩
  case round =>
    obtain ⟨k, hk, rfl, rfl, ht, ht4⟩ := hrel
    by_cases hlt : k < n
    · obtain ⟨s, hsk⟩ : ∃ s, l[k]? = some s := ⟨_, List.getElem?_eq_getElem (by rw [HL.out]; exact hlt)⟩
      obtain ⟨b', o, v, rfl, _, hv, hcell⟩ := HS2.out.get1 hsk
      obtain ⟨hv, _⟩ := hv
      simp only [List.cons.injEq, and_true] at hv
      subst hv
      have hs47 := HR.out s (List.mem_of_getElem? hsk)
      have hs47 : (s.size : Int) ≤ 140737488351232 := by unfold reachBytes at hs47; omega
      have e1 : tot ((l.map sb).take (k + 1)) = tot ((l.map sb).take k) + s.size + 9 := by rw [take_snoc _ k (sb s) (by simp [hsk]), tot_snoc, sb_length]
      have E1 := hid e1; have HT := hid ht; clear e1 hsk ht
      generalize tot ((l.map sb).take k) = T at *
      by_cases hbig : 4000 < m + T + s.size + 9
      · have hbig' : (4000 : Int) < m + T + s.size + 9 := by omega
        go_wp2_with (first
          | (go_at_call 16; refine (alive01 _).mono ?_; rintro e w3 ⟨rfl, hb3⟩))
        go_ret
        exact ⟨rfl, hb3⟩
      · have hsm : (m : Int) + T + s.size + 9 ≤ 4000 := by omega
        clear hbig hs47
        go_wp2_with fail
        go_round
        case rel => exact ⟨k + 1, by omega, by go_num, by rw [E1.out]; go_num, by rw [E1.out]; omega, by rw [E1.out]; omega⟩
        case measure => simp [intOf]; omega
    · obtain rfl : k = n := by omega
      have hL : (l.map sb).length = k := by rw [List.length_map, HL.out]
      rw [List.take_of_length_le (by omega)] at *
      clear ht
      by_cases hbig : 4000 < m + tot (l.map sb)
      · have hbig' : (4000 : Int) < m + tot (l.map sb) := by omega
        generalize tot (l.map sb) = T at *
        go_wp2_with (first
          | (go_at_call 16; refine (alive01 _).mono ?_; rintro e w3 ⟨rfl, hb3⟩))
        go_ret
        exact ⟨rfl, hb3⟩
      · have hsm : (m : Int) + tot (l.map sb) ≤ 4000 := by omega
        obtain ⟨T, hTT⟩ : ∃ T, tot (l.map sb) = T := ⟨_, rfl⟩
        have HTT := hid hTT
        rw [hTT] at hsm
        simp only [hTT]
        clear hTT hbig hL ht4
        have hmM : m ≤ 1000000 := by omega
        have htb : m + tot (l.map sb) ≤ 900000 := by rw [HTT.out]; omega
        have HTB := hid htb; clear htb
        obtain rfl : k = 0 := by rw [← HL.out, hn0]; rfl
        obtain ⟨s, hs0⟩ : ∃ s : ByteArray, s = ⟨#[]⟩ := ⟨_, rfl⟩
        have HS0 := hid hs0
        have hss : s.size ≤ 4000 := by rw [hs0]; exact Nat.zero_le _
        clear hs0
        clear hn0
        have hs6 : s.size ≤ 1000000 := by omega
        obtain ⟨z, hz, hz1, hz2⟩ := int64_of x HX.out
        have HZ := hid hz; clear hz
        obtain ⟨LP, hLP⟩ : ∃ L, b ++ encN x = L := ⟨_, rfl⟩
        obtain ⟨LI, hLI⟩ : ∃ L, b ++ encN (zig z) = L := ⟨_, rfl⟩
        obtain ⟨LT, hLT⟩ : ∃ L, b ++ encT (sb s) = L := ⟨_, rfl⟩
        obtain ⟨LL, hLL⟩ : ∃ L, b ++ encL (l.map sb) = L := ⟨_, rfl⟩
        have hl1 : (([] : Bytes).length + b.length) * 1 ≤ 140737488355328 := by have := HM.out; simp; omega
        have hl2 : ([] : Bytes).length + b.length ≤ maxLen := by have := HM.out; simp [maxLen]; omega
        have HLP := hid hLP; have HLI := hid hLI; have HLT := hid hLT; have HLL := hid hLL; have HL1 := hid hl1; have HL2 := hid hl2; clear hLP hLI hLT hLL hl1 hl2
        go_wp2_with (first
          | (at_builtin; refine wpl_app0 (W := w) (R := byteR) (B := 0) rfl (.tmp 35) (.tmp 36) _ rfl tabB _ [] b rfl (Own.made w (Nat.le_refl _)) (Nat.zero_le _) (below_new _ _) A m c (b.map byteV) rfl HM.out ((sl_bytes HS.out HM.out).alloc _) (cs_map _ _ _) (bytes_oneCell _) HL1.out HL2.out ?_; intro v0 w0 hown0 hbl0 _; obtain ⟨A0, c0, rfl, e0, e0', s0⟩ := hown0.len (Nat.zero_le _) HM.out; have S0 := hid s0; clear hown0 s0; obtain ⟨hc0, hf0⟩ := bcell hbl0))
        rw [← HS0.out]
        rw [← HZ.out]
        have SB := hid (HS.out.call hbl0); have SL := hid (HS2.out.call hbl0)
        refine reg_start (by kernel_rfl) fun w4 hHeld hz4 => ?_
        have hT := hHeld
        refine reg_rd 0 (v := ?_) rfl (by kernel_rfl) (by kernel_rfl) (by kernel_rfl) (fun _ _ _ h => h) (by rfl) (by assumption) ?_ ?_
        rotate_left
        · intro w hSw; go_simp; with_reducible rfl
        try simp only [Act.put, List.setIfInBounds_toArray, List.set_cons_zero, List.set_cons_succ]
        refine reg_rd 1 (v := ?_) rfl (by kernel_rfl) (by kernel_rfl) (by kernel_rfl) (fun _ _ _ h => h) (by rfl) (by assumption) ?_ ?_
        rotate_left
        · intro w hSw; go_simp; with_reducible rfl
        try simp only [Act.put, List.setIfInBounds_toArray, List.set_cons_zero, List.set_cons_succ]
        refine reg_rd 4 (v := ?_) rfl (by kernel_rfl) (by kernel_rfl) (by kernel_rfl) (fun _ _ _ h => h) (by rfl) (by assumption) ?_ ?_
        rotate_left
        · intro w hSw; go_simp; with_reducible rfl
        try simp only [Act.put, List.setIfInBounds_toArray, List.set_cons_zero, List.set_cons_succ]
        refine reg_rd 5 (v := ?_) rfl (by kernel_rfl) (by kernel_rfl) (by kernel_rfl) (fun _ _ _ h => h) (by rfl) (by assumption) ?_ ?_
        rotate_left
        · intro w hSw; go_simp; with_reducible rfl
        try simp only [Act.put, List.setIfInBounds_toArray, List.set_cons_zero, List.set_cons_succ]
        refine wpAnyH_ready (rs := [2]) (by kernel_rfl) (by simp) ?_
        refine reg_do1 rfl (by rfl) (fun K hK => ?_)
        go_simp
        first | (go_at_call 14; refine (put_any A0 b m c0 x HM.out e0 e0' HX.out hmM _ (S0.out.call hT)).mono ?_; rintro e wX ⟨v, rfl, hown, hbX⟩; rw [HLP.out] at hown; obtain ⟨AX, cX, rfl, _, _, sX⟩ := hown.len (Nat.zero_le _) rfl; clear hown; replace hT := below_then hT hbX) | (go_at_call 17; refine (rput_any A b m c x HM.out hc HC.out HX.out hmM _ (SB.out.call hT)).mono ?_; rintro e wX ⟨v, rfl, hown, hbX⟩; rw [HLP.out] at hown; obtain ⟨AX, cX, rfl, _, _, sX⟩ := hown.len (Nat.zero_le _) rfl; clear hown; replace hT := below_then hT hbX) | (go_at_call 15; refine (size_any x HX.out _).mono ?_; rintro e wX ⟨rfl, rfl⟩) | (go_at_call 18; refine (rsize_any x HX.out _).mono ?_; rintro e wX ⟨rfl, rfl⟩) | (go_at_call 19; refine (int_any A0 b m c0 z HM.out e0 e0' hz1 hz2 hmM _ (S0.out.call hT)).mono ?_; rintro e wX ⟨v, rfl, hown, hbX⟩; rw [HLI.out] at hown; obtain ⟨AX, cX, rfl, _, _, sX⟩ := hown.len (Nat.zero_le _) rfl; clear hown; replace hT := below_then hT hbX) | (go_at_call 20; refine (rint_any A b m c z HM.out hc HC.out hz1 hz2 hmM _ (SB.out.call hT)).mono ?_; rintro e wX ⟨v, rfl, hown, hbX⟩; rw [HLI.out] at hown; obtain ⟨AX, cX, rfl, _, _, sX⟩ := hown.len (Nat.zero_le _) rfl; clear hown; replace hT := below_then hT hbX)
        go_wp2_with fail
        refine hK.out _ _ ?_ (fun hNext => ?_)
        · assumption
        clear hK K hHeld
        refine wpAnyH_base hNext.size hNext fun hHeld => ?_
        clear hNext
        try simp only [Act.put, List.setIfInBounds_toArray, List.set_cons_zero, List.set_cons_succ]
        refine reg_rd 3 (v := ?_) rfl (by kernel_rfl) (by kernel_rfl) (by kernel_rfl) (fun _ _ _ h => h) (by rfl) (by assumption) ?_ ?_
        rotate_left
        · (intro w hSw; have hq := conv_str (c := cX) rfl (sX.below hSw); go_simp); with_reducible rfl
        try simp only [Act.put, List.setIfInBounds_toArray, List.set_cons_zero, List.set_cons_succ]
        refine wpAnyH_ready (rs := [6]) (by kernel_rfl) (by simp) ?_
        refine reg_do1 rfl (by rfl) (fun K hK => ?_)
        go_simp
        first | (go_at_call 14; refine (put_any A0 b m c0 x HM.out e0 e0' HX.out hmM _ (S0.out.call hT)).mono ?_; rintro e wX ⟨v, rfl, hown, hbX⟩; rw [HLP.out] at hown; obtain ⟨AX, cX, rfl, _, _, sX⟩ := hown.len (Nat.zero_le _) rfl; clear hown; replace hT := below_then hT hbX) | (go_at_call 17; refine (rput_any A b m c x HM.out hc HC.out HX.out hmM _ (SB.out.call hT)).mono ?_; rintro e wX ⟨v, rfl, hown, hbX⟩; rw [HLP.out] at hown; obtain ⟨AX, cX, rfl, _, _, sX⟩ := hown.len (Nat.zero_le _) rfl; clear hown; replace hT := below_then hT hbX) | (go_at_call 15; refine (size_any x HX.out _).mono ?_; rintro e wX ⟨rfl, rfl⟩) | (go_at_call 18; refine (rsize_any x HX.out _).mono ?_; rintro e wX ⟨rfl, rfl⟩) | (go_at_call 19; refine (int_any A0 b m c0 z HM.out e0 e0' hz1 hz2 hmM _ (S0.out.call hT)).mono ?_; rintro e wX ⟨v, rfl, hown, hbX⟩; rw [HLI.out] at hown; obtain ⟨AX, cX, rfl, _, _, sX⟩ := hown.len (Nat.zero_le _) rfl; clear hown; replace hT := below_then hT hbX) | (go_at_call 20; refine (rint_any A b m c z HM.out hc HC.out hz1 hz2 hmM _ (SB.out.call hT)).mono ?_; rintro e wX ⟨v, rfl, hown, hbX⟩; rw [HLI.out] at hown; obtain ⟨AX, cX, rfl, _, _, sX⟩ := hown.len (Nat.zero_le _) rfl; clear hown; replace hT := below_then hT hbX)
        go_wp2_with fail
        refine hK.out _ _ ?_ (fun hNext => ?_)
        · assumption
        clear hK K hHeld
        refine wpAnyH_base hNext.size hNext fun hHeld => ?_
        clear hNext
        try simp only [Act.put, List.setIfInBounds_toArray, List.set_cons_zero, List.set_cons_succ]
        refine reg_rd 7 (v := ?_) rfl (by kernel_rfl) (by kernel_rfl) (by kernel_rfl) (fun _ _ _ h => h) (by rfl) (by assumption) ?_ ?_
        rotate_left
        · (intro w hSw; have hq := conv_str (c := cX) rfl (sX.below hSw); go_simp); with_reducible rfl
        try simp only [Act.put, List.setIfInBounds_toArray, List.set_cons_zero, List.set_cons_succ]
        refine reg_rd 8 (v := ?_) rfl (by kernel_rfl) (by kernel_rfl) (by kernel_rfl) (fun _ _ _ h => h) (by rfl) (by assumption) ?_ ?_
        rotate_left
        · intro w hSw; go_simp; with_reducible rfl
        try simp only [Act.put, List.setIfInBounds_toArray, List.set_cons_zero, List.set_cons_succ]
        refine reg_rd 9 (v := ?_) rfl (by kernel_rfl) (by kernel_rfl) (by kernel_rfl) (fun _ _ _ h => h) (by rfl) (by assumption) ?_ ?_
        rotate_left
        · intro w hSw; go_simp; with_reducible rfl
        try simp only [Act.put, List.setIfInBounds_toArray, List.set_cons_zero, List.set_cons_succ]
        refine reg_rd 10 (v := ?_) rfl (by kernel_rfl) (by kernel_rfl) (by kernel_rfl) (fun _ _ _ h => h) (by rfl) (by assumption) ?_ ?_
        rotate_left
        · intro w hSw; go_simp; with_reducible rfl
        try simp only [Act.put, List.setIfInBounds_toArray, List.set_cons_zero, List.set_cons_succ]
        refine reg_rd 12 (v := ?_) rfl (by kernel_rfl) (by kernel_rfl) (by kernel_rfl) (fun _ _ _ h => h) (by rfl) (by assumption) ?_ ?_
        rotate_left
        · intro w hSw; go_simp; with_reducible rfl
        try simp only [Act.put, List.setIfInBounds_toArray, List.set_cons_zero, List.set_cons_succ]
        refine wpAnyH_ready (rs := [11]) (by kernel_rfl) (by simp) ?_
        refine reg_do1 rfl (by rfl) (fun K hK => ?_)
        go_simp
        first | (go_at_call 14; refine (put_any A0 b m c0 x HM.out e0 e0' HX.out hmM _ (S0.out.call hT)).mono ?_; rintro e wX ⟨v, rfl, hown, hbX⟩; rw [HLP.out] at hown; obtain ⟨AX, cX, rfl, _, _, sX⟩ := hown.len (Nat.zero_le _) rfl; clear hown; replace hT := below_then hT hbX) | (go_at_call 17; refine (rput_any A b m c x HM.out hc HC.out HX.out hmM _ (SB.out.call hT)).mono ?_; rintro e wX ⟨v, rfl, hown, hbX⟩; rw [HLP.out] at hown; obtain ⟨AX, cX, rfl, _, _, sX⟩ := hown.len (Nat.zero_le _) rfl; clear hown; replace hT := below_then hT hbX) | (go_at_call 15; refine (size_any x HX.out _).mono ?_; rintro e wX ⟨rfl, rfl⟩) | (go_at_call 18; refine (rsize_any x HX.out _).mono ?_; rintro e wX ⟨rfl, rfl⟩) | (go_at_call 19; refine (int_any A0 b m c0 z HM.out e0 e0' hz1 hz2 hmM _ (S0.out.call hT)).mono ?_; rintro e wX ⟨v, rfl, hown, hbX⟩; rw [HLI.out] at hown; obtain ⟨AX, cX, rfl, _, _, sX⟩ := hown.len (Nat.zero_le _) rfl; clear hown; replace hT := below_then hT hbX) | (go_at_call 20; refine (rint_any A b m c z HM.out hc HC.out hz1 hz2 hmM _ (SB.out.call hT)).mono ?_; rintro e wX ⟨v, rfl, hown, hbX⟩; rw [HLI.out] at hown; obtain ⟨AX, cX, rfl, _, _, sX⟩ := hown.len (Nat.zero_le _) rfl; clear hown; replace hT := below_then hT hbX)
        go_wp2_with fail
        refine hK.out _ _ ?_ (fun hNext => ?_)
        · assumption
        clear hK K hHeld
        refine wpAnyH_base hNext.size hNext fun hHeld => ?_
        clear hNext
        try simp only [Act.put, List.setIfInBounds_toArray, List.set_cons_zero, List.set_cons_succ]
        refine wpAnyH_ready (rs := [13]) (by kernel_rfl) (by simp) ?_
        refine reg_do1 rfl (by rfl) (fun K hK => ?_)
        go_simp
        first | (go_at_call 14; refine (put_any A0 b m c0 x HM.out e0 e0' HX.out hmM _ (S0.out.call hT)).mono ?_; rintro e wX ⟨v, rfl, hown, hbX⟩; rw [HLP.out] at hown; obtain ⟨AX, cX, rfl, _, _, sX⟩ := hown.len (Nat.zero_le _) rfl; clear hown; replace hT := below_then hT hbX) | (go_at_call 17; refine (rput_any A b m c x HM.out hc HC.out HX.out hmM _ (SB.out.call hT)).mono ?_; rintro e wX ⟨v, rfl, hown, hbX⟩; rw [HLP.out] at hown; obtain ⟨AX, cX, rfl, _, _, sX⟩ := hown.len (Nat.zero_le _) rfl; clear hown; replace hT := below_then hT hbX) | (go_at_call 15; refine (size_any x HX.out _).mono ?_; rintro e wX ⟨rfl, rfl⟩) | (go_at_call 18; refine (rsize_any x HX.out _).mono ?_; rintro e wX ⟨rfl, rfl⟩) | (go_at_call 19; refine (int_any A0 b m c0 z HM.out e0 e0' hz1 hz2 hmM _ (S0.out.call hT)).mono ?_; rintro e wX ⟨v, rfl, hown, hbX⟩; rw [HLI.out] at hown; obtain ⟨AX, cX, rfl, _, _, sX⟩ := hown.len (Nat.zero_le _) rfl; clear hown; replace hT := below_then hT hbX) | (go_at_call 20; refine (rint_any A b m c z HM.out hc HC.out hz1 hz2 hmM _ (SB.out.call hT)).mono ?_; rintro e wX ⟨v, rfl, hown, hbX⟩; rw [HLI.out] at hown; obtain ⟨AX, cX, rfl, _, _, sX⟩ := hown.len (Nat.zero_le _) rfl; clear hown; replace hT := below_then hT hbX)
        go_wp2_with fail
        refine hK.out _ _ ?_ (fun hNext => ?_)
        · assumption
        clear hK K hHeld
        refine wpAnyH_base hNext.size hNext fun hHeld => ?_
        clear hNext
        try simp only [Act.put, List.setIfInBounds_toArray, List.set_cons_zero, List.set_cons_succ]
        refine reg_rd 14 (v := ?_) rfl (by kernel_rfl) (by kernel_rfl) (by kernel_rfl) (fun _ _ _ h => h) (by rfl) (by assumption) ?_ ?_
        rotate_left
        · intro w hSw; go_simp; with_reducible rfl
        try simp only [Act.put, List.setIfInBounds_toArray, List.set_cons_zero, List.set_cons_succ]
        refine reg_rd 15 (v := ?_) rfl (by kernel_rfl) (by kernel_rfl) (by kernel_rfl) (fun _ _ _ h => h) (by rfl) (by assumption) ?_ ?_
        rotate_left
        · intro w hSw; go_simp; with_reducible rfl
        try simp only [Act.put, List.setIfInBounds_toArray, List.set_cons_zero, List.set_cons_succ]
        refine reg_rd 16 (v := ?_) rfl (by kernel_rfl) (by kernel_rfl) (by kernel_rfl) (fun _ _ _ h => h) (by rfl) (by assumption) ?_ ?_
        rotate_left
        · intro w hSw; go_simp; with_reducible rfl
        try simp only [Act.put, List.setIfInBounds_toArray, List.set_cons_zero, List.set_cons_succ]
        refine reg_rd 17 (v := ?_) rfl (by kernel_rfl) (by kernel_rfl) (by kernel_rfl) (fun _ _ _ h => h) (by rfl) (by assumption) ?_ ?_
        rotate_left
        · intro w hSw; go_simp; with_reducible rfl
        try simp only [Act.put, List.setIfInBounds_toArray, List.set_cons_zero, List.set_cons_succ]
        refine reg_rd 18 (v := ?_) rfl (by kernel_rfl) (by kernel_rfl) (by kernel_rfl) (fun _ _ _ h => h) (by rfl) (by assumption) ?_ ?_
        rotate_left
        · intro w hSw; go_simp; with_reducible rfl
        try simp only [Act.put, List.setIfInBounds_toArray, List.set_cons_zero, List.set_cons_succ]
        refine reg_rd 21 (v := ?_) rfl (by kernel_rfl) (by kernel_rfl) (by kernel_rfl) (fun _ _ _ h => h) (by rfl) (by assumption) ?_ ?_
        rotate_left
        · intro w hSw; go_simp; with_reducible rfl
        try simp only [Act.put, List.setIfInBounds_toArray, List.set_cons_zero, List.set_cons_succ]
        refine reg_rd 22 (v := ?_) rfl (by kernel_rfl) (by kernel_rfl) (by kernel_rfl) (fun _ _ _ h => h) (by rfl) (by assumption) ?_ ?_
        rotate_left
        · intro w hSw; go_simp; with_reducible rfl
        try simp only [Act.put, List.setIfInBounds_toArray, List.set_cons_zero, List.set_cons_succ]
        refine wpAnyH_ready (rs := [19]) (by kernel_rfl) (by simp) ?_
        refine reg_do1 rfl (by rfl) (fun K hK => ?_)
        go_simp
        first | (go_at_call 14; refine (put_any A0 b m c0 x HM.out e0 e0' HX.out hmM _ (S0.out.call hT)).mono ?_; rintro e wX ⟨v, rfl, hown, hbX⟩; rw [HLP.out] at hown; obtain ⟨AX, cX, rfl, _, _, sX⟩ := hown.len (Nat.zero_le _) rfl; clear hown; replace hT := below_then hT hbX) | (go_at_call 17; refine (rput_any A b m c x HM.out hc HC.out HX.out hmM _ (SB.out.call hT)).mono ?_; rintro e wX ⟨v, rfl, hown, hbX⟩; rw [HLP.out] at hown; obtain ⟨AX, cX, rfl, _, _, sX⟩ := hown.len (Nat.zero_le _) rfl; clear hown; replace hT := below_then hT hbX) | (go_at_call 15; refine (size_any x HX.out _).mono ?_; rintro e wX ⟨rfl, rfl⟩) | (go_at_call 18; refine (rsize_any x HX.out _).mono ?_; rintro e wX ⟨rfl, rfl⟩) | (go_at_call 19; refine (int_any A0 b m c0 z HM.out e0 e0' hz1 hz2 hmM _ (S0.out.call hT)).mono ?_; rintro e wX ⟨v, rfl, hown, hbX⟩; rw [HLI.out] at hown; obtain ⟨AX, cX, rfl, _, _, sX⟩ := hown.len (Nat.zero_le _) rfl; clear hown; replace hT := below_then hT hbX) | (go_at_call 20; refine (rint_any A b m c z HM.out hc HC.out hz1 hz2 hmM _ (SB.out.call hT)).mono ?_; rintro e wX ⟨v, rfl, hown, hbX⟩; rw [HLI.out] at hown; obtain ⟨AX, cX, rfl, _, _, sX⟩ := hown.len (Nat.zero_le _) rfl; clear hown; replace hT := below_then hT hbX)
        go_wp2_with fail
        refine hK.out _ _ ?_ (fun hNext => ?_)
        · assumption
        clear hK K hHeld
        refine wpAnyH_base hNext.size hNext fun hHeld => ?_
        clear hNext
        try simp only [Act.put, List.setIfInBounds_toArray, List.set_cons_zero, List.set_cons_succ]
        refine reg_rd 20 (v := ?_) rfl (by kernel_rfl) (by kernel_rfl) (by kernel_rfl) (fun _ _ _ h => h) (by rfl) (by assumption) ?_ ?_
        rotate_left
        · (intro w hSw; have hq := conv_str (c := cX) rfl (sX.below hSw); go_simp); with_reducible rfl
        try simp only [Act.put, List.setIfInBounds_toArray, List.set_cons_zero, List.set_cons_succ]
        refine wpAnyH_ready (rs := [23]) (by kernel_rfl) (by simp) ?_
        refine reg_do1 rfl (by rfl) (fun K hK => ?_)
        go_simp
        first | (go_at_call 14; refine (put_any A0 b m c0 x HM.out e0 e0' HX.out hmM _ (S0.out.call hT)).mono ?_; rintro e wX ⟨v, rfl, hown, hbX⟩; rw [HLP.out] at hown; obtain ⟨AX, cX, rfl, _, _, sX⟩ := hown.len (Nat.zero_le _) rfl; clear hown; replace hT := below_then hT hbX) | (go_at_call 17; refine (rput_any A b m c x HM.out hc HC.out HX.out hmM _ (SB.out.call hT)).mono ?_; rintro e wX ⟨v, rfl, hown, hbX⟩; rw [HLP.out] at hown; obtain ⟨AX, cX, rfl, _, _, sX⟩ := hown.len (Nat.zero_le _) rfl; clear hown; replace hT := below_then hT hbX) | (go_at_call 15; refine (size_any x HX.out _).mono ?_; rintro e wX ⟨rfl, rfl⟩) | (go_at_call 18; refine (rsize_any x HX.out _).mono ?_; rintro e wX ⟨rfl, rfl⟩) | (go_at_call 19; refine (int_any A0 b m c0 z HM.out e0 e0' hz1 hz2 hmM _ (S0.out.call hT)).mono ?_; rintro e wX ⟨v, rfl, hown, hbX⟩; rw [HLI.out] at hown; obtain ⟨AX, cX, rfl, _, _, sX⟩ := hown.len (Nat.zero_le _) rfl; clear hown; replace hT := below_then hT hbX) | (go_at_call 20; refine (rint_any A b m c z HM.out hc HC.out hz1 hz2 hmM _ (SB.out.call hT)).mono ?_; rintro e wX ⟨v, rfl, hown, hbX⟩; rw [HLI.out] at hown; obtain ⟨AX, cX, rfl, _, _, sX⟩ := hown.len (Nat.zero_le _) rfl; clear hown; replace hT := below_then hT hbX)
        go_wp2_with fail
        refine hK.out _ _ ?_ (fun hNext => ?_)
        · assumption
        clear hK K hHeld
        refine wpAnyH_base hNext.size hNext fun hHeld => ?_
        clear hNext
        try simp only [Act.put, List.setIfInBounds_toArray, List.set_cons_zero, List.set_cons_succ]
        refine reg_rd 24 (v := ?_) rfl (by kernel_rfl) (by kernel_rfl) (by kernel_rfl) (fun _ _ _ h => h) (by rfl) (by assumption) ?_ ?_
        rotate_left
        · (intro w hSw; have hq := conv_str (c := cX) rfl (sX.below hSw); go_simp); with_reducible rfl
        try simp only [Act.put, List.setIfInBounds_toArray, List.set_cons_zero, List.set_cons_succ]
        refine reg_rd 25 (v := ?_) rfl (by kernel_rfl) (by kernel_rfl) (by kernel_rfl) (fun _ _ _ h => h) (by rfl) (by assumption) ?_ ?_
        rotate_left
        · intro w hSw; go_simp; with_reducible rfl
        try simp only [Act.put, List.setIfInBounds_toArray, List.set_cons_zero, List.set_cons_succ]
        refine reg_rd 26 (v := ?_) rfl (by kernel_rfl) (by kernel_rfl) (by kernel_rfl) (fun _ _ _ h => h) (by rfl) (by assumption) ?_ ?_
        rotate_left
        · intro w hSw; go_simp; with_reducible rfl
        try simp only [Act.put, List.setIfInBounds_toArray, List.set_cons_zero, List.set_cons_succ]
        refine reg_rd 27 (v := ?_) rfl (by kernel_rfl) (by kernel_rfl) (by kernel_rfl) (fun _ _ _ h => h) (by rfl) (by assumption) ?_ ?_
        rotate_left
        · intro w hSw; go_simp; with_reducible rfl
        try simp only [Act.put, List.setIfInBounds_toArray, List.set_cons_zero, List.set_cons_succ]
        refine wpAnyH_done (by kernel_rfl) ?_ _
        have hb1 := below_then hbl0 hT
        have SB1 := hid (SB.out.call hT); have SL1 := hid (SL.out.call hT); have S01 := hid (S0.out.call hT)
        clear hT hbX SB SL S0 sX HLP HLI
        go_wp2_with fail
        refine reg_start (by kernel_rfl) fun w5 hHeld hz5 => ?_
        have hT := hHeld
        refine wpAnyH_ready (rs := [0]) (by kernel_rfl) (by simp) ?_
        refine reg_do1 rfl (by rfl) (fun K hK => ?_)
        go_simp
        first | (go_at_call 16; refine (alive01 _).mono ?_; rintro e wX ⟨rfl, hbX⟩; replace hT := below_then hT hbX) | (go_at_call 21; refine (text_any A0 b m c0 s HM.out e0 e0' hs6 hmM _ (S01.out.call hT)).mono ?_; rintro e wX ⟨v, rfl, hown, hbX⟩; rw [HLT.out] at hown; obtain ⟨AX, cX, rfl, _, _, sX⟩ := hown.len (Nat.zero_le _) rfl; clear hown; replace hT := below_then hT hbX) | (go_at_call 22; refine (rtext_any A b m c s HM.out hc HC.out hs6 hmM _ (SB1.out.call hT)).mono ?_; rintro e wX ⟨v, rfl, hown, hbX⟩; rw [HLT.out] at hown; obtain ⟨AX, cX, rfl, _, _, sX⟩ := hown.len (Nat.zero_le _) rfl; clear hown; replace hT := below_then hT hbX) | (go_at_call 23; refine (list_any A0 _ b l m c0 _ c2 HM.out e0 e0' HL.out HTB.out _ (S01.out.call hT) (SL1.out.call hT)).mono ?_; rintro e wX ⟨v, rfl, hown, hbX⟩; rw [HLL.out] at hown; obtain ⟨AX, cX, rfl, _, _, sX⟩ := hown.len (Nat.zero_le _) rfl; clear hown; replace hT := below_then hT hbX) | (go_at_call 24; refine (rlist_any A _ b l m c _ c2 HM.out hc HC.out HL.out HTB.out _ (SB1.out.call hT) (SL1.out.call hT)).mono ?_; rintro e wX ⟨v, rfl, hown, hbX⟩; rw [HLL.out] at hown; obtain ⟨AX, cX, rfl, _, _, sX⟩ := hown.len (Nat.zero_le _) rfl; clear hown; replace hT := below_then hT hbX)
        go_wp2_with fail
        refine hK.out _ _ ?_ (fun hNext => ?_)
        · assumption
        clear hK K hHeld
        refine wpAnyH_base hNext.size hNext fun hHeld => ?_
        clear hNext
        try simp only [Act.put, List.setIfInBounds_toArray, List.set_cons_zero, List.set_cons_succ]
        refine reg_rd 1 (v := ?_) rfl (by kernel_rfl) (by kernel_rfl) (by kernel_rfl) (fun _ _ _ h => h) (by rfl) (by assumption) ?_ ?_
        rotate_left
        · intro w hSw; go_simp; with_reducible rfl
        try simp only [Act.put, List.setIfInBounds_toArray, List.set_cons_zero, List.set_cons_succ]
        refine reg_rd 2 (v := ?_) rfl (by kernel_rfl) (by kernel_rfl) (by kernel_rfl) (fun _ _ _ h => h) (by rfl) (by assumption) ?_ ?_
        rotate_left
        · intro w hSw; go_simp; with_reducible rfl
        try simp only [Act.put, List.setIfInBounds_toArray, List.set_cons_zero, List.set_cons_succ]
        refine reg_rd 3 (v := ?_) rfl (by kernel_rfl) (by kernel_rfl) (by kernel_rfl) (fun _ _ _ h => h) (by rfl) (by assumption) ?_ ?_
        rotate_left
        · intro w hSw; go_simp; with_reducible rfl
        try simp only [Act.put, List.setIfInBounds_toArray, List.set_cons_zero, List.set_cons_succ]
        refine reg_rd 4 (v := ?_) rfl (by kernel_rfl) (by kernel_rfl) (by kernel_rfl) (fun _ _ _ h => h) (by rfl) (by assumption) ?_ ?_
        rotate_left
        · intro w hSw; go_simp; with_reducible rfl
        try simp only [Act.put, List.setIfInBounds_toArray, List.set_cons_zero, List.set_cons_succ]
        refine reg_rd 5 (v := ?_) rfl (by kernel_rfl) (by kernel_rfl) (by kernel_rfl) (fun _ _ _ h => h) (by rfl) (by assumption) ?_ ?_
        rotate_left
        · intro w hSw; go_simp; with_reducible rfl
        try simp only [Act.put, List.setIfInBounds_toArray, List.set_cons_zero, List.set_cons_succ]
        refine reg_rd 6 (v := ?_) rfl (by kernel_rfl) (by kernel_rfl) (by kernel_rfl) (fun _ _ _ h => h) (by rfl) (by assumption) ?_ ?_
        rotate_left
        · intro w hSw; go_simp; with_reducible rfl
        try simp only [Act.put, List.setIfInBounds_toArray, List.set_cons_zero, List.set_cons_succ]
        refine reg_rd 9 (v := ?_) rfl (by kernel_rfl) (by kernel_rfl) (by kernel_rfl) (fun _ _ _ h => h) (by rfl) (by assumption) ?_ ?_
        rotate_left
        · intro w hSw; go_simp; with_reducible rfl
        try simp only [Act.put, List.setIfInBounds_toArray, List.set_cons_zero, List.set_cons_succ]
        refine reg_rd 10 (v := ?_) rfl (by kernel_rfl) (by kernel_rfl) (by kernel_rfl) (fun _ _ _ h => h) (by rfl) (by assumption) ?_ ?_
        rotate_left
        · intro w hSw; go_simp; with_reducible rfl
        try simp only [Act.put, List.setIfInBounds_toArray, List.set_cons_zero, List.set_cons_succ]
        refine wpAnyH_ready (rs := [7]) (by kernel_rfl) (by simp) ?_
        refine reg_do1 rfl (by rfl) (fun K hK => ?_)
        go_simp
        first | (go_at_call 16; refine (alive01 _).mono ?_; rintro e wX ⟨rfl, hbX⟩; replace hT := below_then hT hbX) | (go_at_call 21; refine (text_any A0 b m c0 s HM.out e0 e0' hs6 hmM _ (S01.out.call hT)).mono ?_; rintro e wX ⟨v, rfl, hown, hbX⟩; rw [HLT.out] at hown; obtain ⟨AX, cX, rfl, _, _, sX⟩ := hown.len (Nat.zero_le _) rfl; clear hown; replace hT := below_then hT hbX) | (go_at_call 22; refine (rtext_any A b m c s HM.out hc HC.out hs6 hmM _ (SB1.out.call hT)).mono ?_; rintro e wX ⟨v, rfl, hown, hbX⟩; rw [HLT.out] at hown; obtain ⟨AX, cX, rfl, _, _, sX⟩ := hown.len (Nat.zero_le _) rfl; clear hown; replace hT := below_then hT hbX) | (go_at_call 23; refine (list_any A0 _ b l m c0 _ c2 HM.out e0 e0' HL.out HTB.out _ (S01.out.call hT) (SL1.out.call hT)).mono ?_; rintro e wX ⟨v, rfl, hown, hbX⟩; rw [HLL.out] at hown; obtain ⟨AX, cX, rfl, _, _, sX⟩ := hown.len (Nat.zero_le _) rfl; clear hown; replace hT := below_then hT hbX) | (go_at_call 24; refine (rlist_any A _ b l m c _ c2 HM.out hc HC.out HL.out HTB.out _ (SB1.out.call hT) (SL1.out.call hT)).mono ?_; rintro e wX ⟨v, rfl, hown, hbX⟩; rw [HLL.out] at hown; obtain ⟨AX, cX, rfl, _, _, sX⟩ := hown.len (Nat.zero_le _) rfl; clear hown; replace hT := below_then hT hbX)
        go_wp2_with fail
        refine hK.out _ _ ?_ (fun hNext => ?_)
        · assumption
        clear hK K hHeld
        refine wpAnyH_base hNext.size hNext fun hHeld => ?_
        clear hNext
        try simp only [Act.put, List.setIfInBounds_toArray, List.set_cons_zero, List.set_cons_succ]
        refine reg_rd 8 (v := ?_) rfl (by kernel_rfl) (by kernel_rfl) (by kernel_rfl) (fun _ _ _ h => h) (by rfl) (by assumption) ?_ ?_
        rotate_left
        · (intro w hSw; first | (have hq := conv_str (c := cX) rfl (sX.below hSw); go_simp; (try with_reducible rfl); done) | (have hq := conv_str (c := c0) HM.out (S01.out.below (below_then hT hSw)); go_simp; (try with_reducible rfl); done) | (have hq := conv_str (c := c) HM.out (SB1.out.below (below_then hT hSw)); go_simp; (try with_reducible rfl); done))
        try simp only [Act.put, List.setIfInBounds_toArray, List.set_cons_zero, List.set_cons_succ]
        refine wpAnyH_ready (rs := [11]) (by kernel_rfl) (by simp) ?_
        refine reg_do1 rfl (by rfl) (fun K hK => ?_)
        go_simp
        first | (go_at_call 16; refine (alive01 _).mono ?_; rintro e wX ⟨rfl, hbX⟩; replace hT := below_then hT hbX) | (go_at_call 21; refine (text_any A0 b m c0 s HM.out e0 e0' hs6 hmM _ (S01.out.call hT)).mono ?_; rintro e wX ⟨v, rfl, hown, hbX⟩; rw [HLT.out] at hown; obtain ⟨AX, cX, rfl, _, _, sX⟩ := hown.len (Nat.zero_le _) rfl; clear hown; replace hT := below_then hT hbX) | (go_at_call 22; refine (rtext_any A b m c s HM.out hc HC.out hs6 hmM _ (SB1.out.call hT)).mono ?_; rintro e wX ⟨v, rfl, hown, hbX⟩; rw [HLT.out] at hown; obtain ⟨AX, cX, rfl, _, _, sX⟩ := hown.len (Nat.zero_le _) rfl; clear hown; replace hT := below_then hT hbX) | (go_at_call 23; refine (list_any A0 _ b l m c0 _ c2 HM.out e0 e0' HL.out HTB.out _ (S01.out.call hT) (SL1.out.call hT)).mono ?_; rintro e wX ⟨v, rfl, hown, hbX⟩; rw [HLL.out] at hown; obtain ⟨AX, cX, rfl, _, _, sX⟩ := hown.len (Nat.zero_le _) rfl; clear hown; replace hT := below_then hT hbX) | (go_at_call 24; refine (rlist_any A _ b l m c _ c2 HM.out hc HC.out HL.out HTB.out _ (SB1.out.call hT) (SL1.out.call hT)).mono ?_; rintro e wX ⟨v, rfl, hown, hbX⟩; rw [HLL.out] at hown; obtain ⟨AX, cX, rfl, _, _, sX⟩ := hown.len (Nat.zero_le _) rfl; clear hown; replace hT := below_then hT hbX)
        go_wp2_with fail
        refine hK.out _ _ ?_ (fun hNext => ?_)
        · assumption
        clear hK K hHeld
        refine wpAnyH_base hNext.size hNext fun hHeld => ?_
        clear hNext
        try simp only [Act.put, List.setIfInBounds_toArray, List.set_cons_zero, List.set_cons_succ]
        refine reg_rd 12 (v := ?_) rfl (by kernel_rfl) (by kernel_rfl) (by kernel_rfl) (fun _ _ _ h => h) (by rfl) (by assumption) ?_ ?_
        rotate_left
        · (intro w hSw; first | (have hq := conv_str (c := cX) rfl (sX.below hSw); go_simp; (try with_reducible rfl); done) | (have hq := conv_str (c := c0) HM.out (S01.out.below (below_then hT hSw)); go_simp; (try with_reducible rfl); done) | (have hq := conv_str (c := c) HM.out (SB1.out.below (below_then hT hSw)); go_simp; (try with_reducible rfl); done))
        try simp only [Act.put, List.setIfInBounds_toArray, List.set_cons_zero, List.set_cons_succ]
        refine reg_rd 13 (v := ?_) rfl (by kernel_rfl) (by kernel_rfl) (by kernel_rfl) (fun _ _ _ h => h) (by rfl) (by assumption) ?_ ?_
        rotate_left
        · intro w hSw; go_simp; with_reducible rfl
        try simp only [Act.put, List.setIfInBounds_toArray, List.set_cons_zero, List.set_cons_succ]
        refine reg_rd 14 (v := ?_) rfl (by kernel_rfl) (by kernel_rfl) (by kernel_rfl) (fun _ _ _ h => h) (by rfl) (by assumption) ?_ ?_
        rotate_left
        · intro w hSw; go_simp; with_reducible rfl
        try simp only [Act.put, List.setIfInBounds_toArray, List.set_cons_zero, List.set_cons_succ]
        refine reg_rd 15 (v := ?_) rfl (by kernel_rfl) (by kernel_rfl) (by kernel_rfl) (fun _ _ _ h => h) (by rfl) (by assumption) ?_ ?_
        rotate_left
        · intro w hSw; go_simp; with_reducible rfl
        try simp only [Act.put, List.setIfInBounds_toArray, List.set_cons_zero, List.set_cons_succ]
        refine reg_rd 16 (v := ?_) rfl (by kernel_rfl) (by kernel_rfl) (by kernel_rfl) (fun _ _ _ h => h) (by rfl) (by assumption) ?_ ?_
        rotate_left
        · intro w hSw; go_simp; with_reducible rfl
        try simp only [Act.put, List.setIfInBounds_toArray, List.set_cons_zero, List.set_cons_succ]
        refine reg_rd 17 (v := ?_) rfl (by kernel_rfl) (by kernel_rfl) (by kernel_rfl) (fun _ _ _ h => h) (by rfl) (by assumption) ?_ ?_
        rotate_left
        · intro w hSw; go_simp; with_reducible rfl
        try simp only [Act.put, List.setIfInBounds_toArray, List.set_cons_zero, List.set_cons_succ]
        refine reg_rd 20 (v := ?_) rfl (by kernel_rfl) (by kernel_rfl) (by kernel_rfl) (fun _ _ _ h => h) (by rfl) (by assumption) ?_ ?_
        rotate_left
        · intro w hSw; go_simp; with_reducible rfl
        try simp only [Act.put, List.setIfInBounds_toArray, List.set_cons_zero, List.set_cons_succ]
        refine reg_rd 21 (v := ?_) rfl (by kernel_rfl) (by kernel_rfl) (by kernel_rfl) (fun _ _ _ h => h) (by rfl) (by assumption) ?_ ?_
        rotate_left
        · intro w hSw; go_simp; with_reducible rfl
        try simp only [Act.put, List.setIfInBounds_toArray, List.set_cons_zero, List.set_cons_succ]
        refine wpAnyH_ready (rs := [18]) (by kernel_rfl) (by simp) ?_
        refine reg_do1 rfl (by rfl) (fun K hK => ?_)
        go_simp
        first | (go_at_call 16; refine (alive01 _).mono ?_; rintro e wX ⟨rfl, hbX⟩; replace hT := below_then hT hbX) | (go_at_call 21; refine (text_any A0 b m c0 s HM.out e0 e0' hs6 hmM _ (S01.out.call hT)).mono ?_; rintro e wX ⟨v, rfl, hown, hbX⟩; rw [HLT.out] at hown; obtain ⟨AX, cX, rfl, _, _, sX⟩ := hown.len (Nat.zero_le _) rfl; clear hown; replace hT := below_then hT hbX) | (go_at_call 22; refine (rtext_any A b m c s HM.out hc HC.out hs6 hmM _ (SB1.out.call hT)).mono ?_; rintro e wX ⟨v, rfl, hown, hbX⟩; rw [HLT.out] at hown; obtain ⟨AX, cX, rfl, _, _, sX⟩ := hown.len (Nat.zero_le _) rfl; clear hown; replace hT := below_then hT hbX) | (go_at_call 23; refine (list_any A0 _ b l m c0 _ c2 HM.out e0 e0' HL.out HTB.out _ (S01.out.call hT) (SL1.out.call hT)).mono ?_; rintro e wX ⟨v, rfl, hown, hbX⟩; rw [HLL.out] at hown; obtain ⟨AX, cX, rfl, _, _, sX⟩ := hown.len (Nat.zero_le _) rfl; clear hown; replace hT := below_then hT hbX) | (go_at_call 24; refine (rlist_any A _ b l m c _ c2 HM.out hc HC.out HL.out HTB.out _ (SB1.out.call hT) (SL1.out.call hT)).mono ?_; rintro e wX ⟨v, rfl, hown, hbX⟩; rw [HLL.out] at hown; obtain ⟨AX, cX, rfl, _, _, sX⟩ := hown.len (Nat.zero_le _) rfl; clear hown; replace hT := below_then hT hbX)
        go_wp2_with fail
        refine hK.out _ _ ?_ (fun hNext => ?_)
        · assumption
        clear hK K hHeld
        refine wpAnyH_base hNext.size hNext fun hHeld => ?_
        clear hNext
        try simp only [Act.put, List.setIfInBounds_toArray, List.set_cons_zero, List.set_cons_succ]
        refine reg_rd 19 (v := ?_) rfl (by kernel_rfl) (by kernel_rfl) (by kernel_rfl) (fun _ _ _ h => h) (by rfl) (by assumption) ?_ ?_
        rotate_left
        · (intro w hSw; first | (have hq := conv_str (c := cX) rfl (sX.below hSw); go_simp; (try with_reducible rfl); done) | (have hq := conv_str (c := c0) HM.out (S01.out.below (below_then hT hSw)); go_simp; (try with_reducible rfl); done) | (have hq := conv_str (c := c) HM.out (SB1.out.below (below_then hT hSw)); go_simp; (try with_reducible rfl); done))
        try simp only [Act.put, List.setIfInBounds_toArray, List.set_cons_zero, List.set_cons_succ]
        refine wpAnyH_ready (rs := [22]) (by kernel_rfl) (by simp) ?_
        refine reg_do1 rfl (by rfl) (fun K hK => ?_)
        go_simp
        first | (go_at_call 16; refine (alive01 _).mono ?_; rintro e wX ⟨rfl, hbX⟩; replace hT := below_then hT hbX) | (go_at_call 21; refine (text_any A0 b m c0 s HM.out e0 e0' hs6 hmM _ (S01.out.call hT)).mono ?_; rintro e wX ⟨v, rfl, hown, hbX⟩; rw [HLT.out] at hown; obtain ⟨AX, cX, rfl, _, _, sX⟩ := hown.len (Nat.zero_le _) rfl; clear hown; replace hT := below_then hT hbX) | (go_at_call 22; refine (rtext_any A b m c s HM.out hc HC.out hs6 hmM _ (SB1.out.call hT)).mono ?_; rintro e wX ⟨v, rfl, hown, hbX⟩; rw [HLT.out] at hown; obtain ⟨AX, cX, rfl, _, _, sX⟩ := hown.len (Nat.zero_le _) rfl; clear hown; replace hT := below_then hT hbX) | (go_at_call 23; refine (list_any A0 _ b l m c0 _ c2 HM.out e0 e0' HL.out HTB.out _ (S01.out.call hT) (SL1.out.call hT)).mono ?_; rintro e wX ⟨v, rfl, hown, hbX⟩; rw [HLL.out] at hown; obtain ⟨AX, cX, rfl, _, _, sX⟩ := hown.len (Nat.zero_le _) rfl; clear hown; replace hT := below_then hT hbX) | (go_at_call 24; refine (rlist_any A _ b l m c _ c2 HM.out hc HC.out HL.out HTB.out _ (SB1.out.call hT) (SL1.out.call hT)).mono ?_; rintro e wX ⟨v, rfl, hown, hbX⟩; rw [HLL.out] at hown; obtain ⟨AX, cX, rfl, _, _, sX⟩ := hown.len (Nat.zero_le _) rfl; clear hown; replace hT := below_then hT hbX)
        go_wp2_with fail
        refine hK.out _ _ ?_ (fun hNext => ?_)
        · assumption
        clear hK K hHeld
        refine wpAnyH_base hNext.size hNext fun hHeld => ?_
        clear hNext
        try simp only [Act.put, List.setIfInBounds_toArray, List.set_cons_zero, List.set_cons_succ]
        refine reg_rd 23 (v := ?_) rfl (by kernel_rfl) (by kernel_rfl) (by kernel_rfl) (fun _ _ _ h => h) (by rfl) (by assumption) ?_ ?_
        rotate_left
        · (intro w hSw; first | (have hq := conv_str (c := cX) rfl (sX.below hSw); go_simp; (try with_reducible rfl); done) | (have hq := conv_str (c := c0) HM.out (S01.out.below (below_then hT hSw)); go_simp; (try with_reducible rfl); done) | (have hq := conv_str (c := c) HM.out (SB1.out.below (below_then hT hSw)); go_simp; (try with_reducible rfl); done))
        try simp only [Act.put, List.setIfInBounds_toArray, List.set_cons_zero, List.set_cons_succ]
        refine reg_rd 24 (v := ?_) rfl (by kernel_rfl) (by kernel_rfl) (by kernel_rfl) (fun _ _ _ h => h) (by rfl) (by assumption) ?_ ?_
        rotate_left
        · intro w hSw; go_simp; with_reducible rfl
        try simp only [Act.put, List.setIfInBounds_toArray, List.set_cons_zero, List.set_cons_succ]
        refine reg_rd 25 (v := ?_) rfl (by kernel_rfl) (by kernel_rfl) (by kernel_rfl) (fun _ _ _ h => h) (by rfl) (by assumption) ?_ ?_
        rotate_left
        · intro w hSw; go_simp; with_reducible rfl
        try simp only [Act.put, List.setIfInBounds_toArray, List.set_cons_zero, List.set_cons_succ]
        refine reg_rd 26 (v := ?_) rfl (by kernel_rfl) (by kernel_rfl) (by kernel_rfl) (fun _ _ _ h => h) (by rfl) (by assumption) ?_ ?_
        rotate_left
        · intro w hSw; go_simp; with_reducible rfl
        try simp only [Act.put, List.setIfInBounds_toArray, List.set_cons_zero, List.set_cons_succ]
        refine reg_rd 27 (v := ?_) rfl (by kernel_rfl) (by kernel_rfl) (by kernel_rfl) (fun _ _ _ h => h) (by rfl) (by assumption) ?_ ?_
        rotate_left
        · intro w hSw; go_simp; with_reducible rfl
        try simp only [Act.put, List.setIfInBounds_toArray, List.set_cons_zero, List.set_cons_succ]
        refine reg_rd 28 (v := ?_) rfl (by kernel_rfl) (by kernel_rfl) (by kernel_rfl) (fun _ _ _ h => h) (by rfl) (by assumption) ?_ ?_
        rotate_left
        · (intro w hSw; first | (have hq := conv_str (c := cX) rfl (sX.below hSw); go_simp; (try with_reducible rfl); done) | (have hq := conv_str (c := c0) HM.out (S01.out.below (below_then hT hSw)); go_simp; (try with_reducible rfl); done) | (have hq := conv_str (c := c) HM.out (SB1.out.below (below_then hT hSw)); go_simp; (try with_reducible rfl); done))
        try simp only [Act.put, List.setIfInBounds_toArray, List.set_cons_zero, List.set_cons_succ]
        refine reg_rd 29 (v := ?_) rfl (by kernel_rfl) (by kernel_rfl) (by kernel_rfl) (fun _ _ _ h => h) (by rfl) (by assumption) ?_ ?_
        rotate_left
        · intro w hSw; go_simp; with_reducible rfl
        try simp only [Act.put, List.setIfInBounds_toArray, List.set_cons_zero, List.set_cons_succ]
        refine reg_rd 30 (v := ?_) rfl (by kernel_rfl) (by kernel_rfl) (by kernel_rfl) (fun _ _ _ h => h) (by rfl) (by assumption) ?_ ?_
        rotate_left
        · (intro w hSw; first | (have hq := conv_str (c := cX) rfl (sX.below hSw); go_simp; (try with_reducible rfl); done) | (have hq := conv_str (c := c0) HM.out (S01.out.below (below_then hT hSw)); go_simp; (try with_reducible rfl); done) | (have hq := conv_str (c := c) HM.out (SB1.out.below (below_then hT hSw)); go_simp; (try with_reducible rfl); done))
        try simp only [Act.put, List.setIfInBounds_toArray, List.set_cons_zero, List.set_cons_succ]
        refine reg_rd 31 (v := ?_) rfl (by kernel_rfl) (by kernel_rfl) (by kernel_rfl) (fun _ _ _ h => h) (by rfl) (by assumption) ?_ ?_
        rotate_left
        · intro w hSw; go_simp; with_reducible rfl
        try simp only [Act.put, List.setIfInBounds_toArray, List.set_cons_zero, List.set_cons_succ]
        refine reg_rd 32 (v := ?_) rfl (by kernel_rfl) (by kernel_rfl) (by kernel_rfl) (fun _ _ _ h => h) (by rfl) (by assumption) ?_ ?_
        rotate_left
        · intro w hSw; go_simp; with_reducible rfl
        try simp only [Act.put, List.setIfInBounds_toArray, List.set_cons_zero, List.set_cons_succ]
        refine reg_rd 33 (v := ?_) rfl (by kernel_rfl) (by kernel_rfl) (by kernel_rfl) (fun _ _ _ h => h) (by rfl) (by assumption) ?_ ?_
        rotate_left
        · intro w hSw; go_simp; with_reducible rfl
        try simp only [Act.put, List.setIfInBounds_toArray, List.set_cons_zero, List.set_cons_succ]
        refine wpAnyH_done (by kernel_rfl) ?_ _
        have hE := below_then hb1 hT
        go_wp2_with fail
        go_ret
        exact ⟨rfl, hE⟩
end Go.Proofs.Ytpigfpnpabnnbaa
