/-
  OctetOnly: what is taken of any bytes, written again, is these bytes.
-/
import Derived.Test.YtpigfpnpabnnbaaTakeFlat
import Derived.Test.YtpigfpnpabnnbaaOctetBackLaw
import Derived.Deep.QuietTactic
import Derived.BigQuiet
import Derived.Deep.RegionWith
import Derived.Test.YtpigfpnpabnnbaaRegL
namespace Go.Proofs.Ytpigfpnpabnnbaa
open Go.RowKit
set_option maxHeartbeats 400000 in
theorem only_long (A : Option Addr) (n c : Nat) (hn : 4000 < n) (w : World) :
    Calls Try.prog 8 #[.slice A n c] w fun e w' => e = .returned (.bool true) ∧ Below w.heap.size w w' := by
  go_enter Try.func8, Try.ntmps8
  go_wp2_with (first
    | (go_at_call 16; refine (alive01 _).mono ?_; rintro e w3 ⟨rfl, hb3⟩))
  go_ret
  exact ⟨rfl, hb3⟩
theorem tot_row (l : List Bytes) : tot l ≤ 9 * (encRow l).length := by
  induction l with
  | nil => simp [tot]
  | cons s l ih =>
    rw [tot_cons, encRow_cons, List.length_append, encT, List.length_append, encN_length]
    omega
set_option maxHeartbeats 4000000 in
/-- Where no number is ahead. -/
theorem only_err (A : Option Addr) (b : Bytes) (n c : Nat) (z : Int) (hn : n ≤ 4000) (hl : b.length = n) (hc : n ≤ c) (hc' : c ≤ maxLen) (ht : takeN b = .error z) (w : World) (hs : Sl byteR 1 w.heap.size w A b) :
    Calls Try.prog 8 #[.slice A n c] w fun e w' => e = .returned (.bool true) ∧ Below w.heap.size w w' := by
  have hti : takeI b = .error z := by rw [takeI, ht]
  have htl : takeL b 4000 4000 = .error z := by rw [takeL, ht]
  have HS := hid hs; have HL := hid hl; have HC := hid hc'; have HT := hid ht; have HTI := hid hti; have HTL := hid htl; clear hs hl hc' ht hti htl
  rcases takeN_err HT.out with rfl | rfl
  · go_enter Try.func8, Try.ntmps8
    go_wp2_with fail
    refine (take_any A b n c HL.out hc HC.out _ HS.out).mono ?_
    rw [HT.out]
    rintro e w1 ⟨⟨q, rfl⟩, rfl⟩
    have hb1 := below_drewN (Below.refl w.heap.size w) q
    have hz1 : (w.drewN q).heap.size = w.heap.size := by simp
    generalize w.drewN q = w1 at *
    go_wp2_with fail
    refine (takelist_any A b n c 4000 4000 HL.out hc HC.out (by omega) (by omega) (by omega) _ (by omega) (HS.out.below hb1)).mono ?_
    rw [HTL.out]
    rintro e w2 ⟨hb2', rfl⟩
    have hb2 := below_then hb1 hb2'
    go_wp2_with fail
    refine (takeint_any A b n c HL.out hc HC.out _ (HS.out.below hb2)).mono ?_
    rw [HTI.out]
    rintro e w3 ⟨⟨q3, rfl⟩, rfl⟩
    have hb3 := below_drewN hb2 q3
    generalize w2.drewN q3 = w3 at *
    go_wp2_with fail
    go_quiet (fail)
    have hb4 := below_drewN hb3 nq
    generalize w3.drewN nq = w4 at *
    go_wp2_with fail
    refine reg_start (by kernel_rfl) fun w5 hHeld hz5 => ?_
    refine wpAnyH_ready (rs := [0]) (by kernel_rfl) (by simp) ?_
    refine reg_do1 rfl (by rfl) (fun K hK => ?_)
    go_simp
    (go_at_call 16; refine (alive01 _).mono ?_; rintro e w6 ⟨rfl, hb6⟩)
    go_wp2_with fail
    refine hK.out _ _ ?_ (fun hNext => ?_)
    · exact below_then (by assumption) hb6
    clear hK K hHeld
    have hHeld := hNext
    clear hNext
    try simp only [Act.put, List.setIfInBounds_toArray, List.set_cons_zero, List.set_cons_succ]
    refine reg_rd 1 (v := ?_) rfl (by kernel_rfl) (by kernel_rfl) (by kernel_rfl) (fun _ _ _ h => h) (by rfl) (by assumption) ?_ ?_
    rotate_left
    · intro w hSw; go_simp; with_reducible rfl
    try simp only [Act.put, List.setIfInBounds_toArray, List.set_cons_zero, List.set_cons_succ]
    refine reg_rd 2 (v := ?_) rfl (by kernel_rfl) (by kernel_rfl) (by kernel_rfl) (fun _ _ _ h => h) (by rfl) (by assumption) ?_ ?_
    rotate_left
    · intro w hSw; go_simp; with_reducible rfl
    try simp only [Act.put, List.setIfInBounds_toArray, List.set_cons_zero, List.set_cons_succ]
    refine reg_rd 3 (v := ?_) rfl (by kernel_rfl) (by kernel_rfl) (by kernel_rfl) (fun _ _ _ h => h) (by rfl) (by assumption) ?_ ?_
    rotate_left
    · intro w hSw; go_simp; with_reducible rfl
    try simp only [Act.put, List.setIfInBounds_toArray, List.set_cons_zero, List.set_cons_succ]
    refine reg_rd 4 (v := ?_) rfl (by kernel_rfl) (by kernel_rfl) (by kernel_rfl) (fun _ _ _ h => h) (by rfl) (by assumption) ?_ ?_
    rotate_left
    · intro w hSw; go_simp; with_reducible rfl
    try simp only [Act.put, List.setIfInBounds_toArray, List.set_cons_zero, List.set_cons_succ]
    refine reg_rd 5 (v := ?_) rfl (by kernel_rfl) (by kernel_rfl) (by kernel_rfl) (fun _ _ _ h => h) (by rfl) (by assumption) ?_ ?_
    rotate_left
    · intro w hSw; go_simp; with_reducible rfl
    try simp only [Act.put, List.setIfInBounds_toArray, List.set_cons_zero, List.set_cons_succ]
    refine reg_rd 6 (v := ?_) rfl (by kernel_rfl) (by kernel_rfl) (by kernel_rfl) (fun _ _ _ h => h) (by rfl) (by assumption) ?_ ?_
    rotate_left
    · intro w hSw; go_simp; with_reducible rfl
    try simp only [Act.put, List.setIfInBounds_toArray, List.set_cons_zero, List.set_cons_succ]
    refine reg_rd 7 (v := ?_) rfl (by kernel_rfl) (by kernel_rfl) (by kernel_rfl) (fun _ _ _ h => h) (by rfl) (by assumption) ?_ ?_
    rotate_left
    · intro w hSw; go_simp; with_reducible rfl
    try simp only [Act.put, List.setIfInBounds_toArray, List.set_cons_zero, List.set_cons_succ]
    refine reg_rd 8 (v := ?_) rfl (by kernel_rfl) (by kernel_rfl) (by kernel_rfl) (fun _ _ _ h => h) (by rfl) (by assumption) ?_ ?_
    rotate_left
    · intro w hSw; go_simp; with_reducible rfl
    try simp only [Act.put, List.setIfInBounds_toArray, List.set_cons_zero, List.set_cons_succ]
    refine reg_rd 9 (v := ?_) rfl (by kernel_rfl) (by kernel_rfl) (by kernel_rfl) (fun _ _ _ h => h) (by rfl) (by assumption) ?_ ?_
    rotate_left
    · intro w hSw; go_simp; with_reducible rfl
    try simp only [Act.put, List.setIfInBounds_toArray, List.set_cons_zero, List.set_cons_succ]
    refine reg_un 10 rfl (by kernel_rfl) (by kernel_rfl) (by kernel_rfl) (fun _ _ _ h => h) (by rfl) (by assumption) ?_
    try simp only [Act.put, List.setIfInBounds_toArray, List.set_cons_zero, List.set_cons_succ]
    refine reg_un 11 rfl (by kernel_rfl) (by kernel_rfl) (by kernel_rfl) (fun _ _ _ h => h) (by rfl) (by assumption) ?_
    try simp only [Act.put, List.setIfInBounds_toArray, List.set_cons_zero, List.set_cons_succ]
    refine reg_un 12 rfl (by kernel_rfl) (by kernel_rfl) (by kernel_rfl) (fun _ _ _ h => h) (by rfl) (by assumption) ?_
    try simp only [Act.put, List.setIfInBounds_toArray, List.set_cons_zero, List.set_cons_succ]
    refine reg_un 13 rfl (by kernel_rfl) (by kernel_rfl) (by kernel_rfl) (fun _ _ _ h => h) (by rfl) (by assumption) ?_
    try simp only [Act.put, List.setIfInBounds_toArray, List.set_cons_zero, List.set_cons_succ]
    refine reg_un 14 rfl (by kernel_rfl) (by kernel_rfl) (by kernel_rfl) (fun _ _ _ h => h) (by rfl) (by assumption) ?_
    try simp only [Act.put, List.setIfInBounds_toArray, List.set_cons_zero, List.set_cons_succ]
    refine reg_un 15 rfl (by kernel_rfl) (by kernel_rfl) (by kernel_rfl) (fun _ _ _ h => h) (by rfl) (by assumption) ?_
    try simp only [Act.put, List.setIfInBounds_toArray, List.set_cons_zero, List.set_cons_succ]
    refine reg_un 16 rfl (by kernel_rfl) (by kernel_rfl) (by kernel_rfl) (fun _ _ _ h => h) (by rfl) (by assumption) ?_
    try simp only [Act.put, List.setIfInBounds_toArray, List.set_cons_zero, List.set_cons_succ]
    refine reg_un 17 rfl (by kernel_rfl) (by kernel_rfl) (by kernel_rfl) (fun _ _ _ h => h) (by rfl) (by assumption) ?_
    try simp only [Act.put, List.setIfInBounds_toArray, List.set_cons_zero, List.set_cons_succ]
    refine reg_rd 18 (v := ?_) rfl (by kernel_rfl) (by kernel_rfl) (by kernel_rfl) (fun _ _ _ h => h) (by rfl) (by assumption) ?_ ?_
    rotate_left
    · intro w hSw; go_simp; with_reducible rfl
    try simp only [Act.put, List.setIfInBounds_toArray, List.set_cons_zero, List.set_cons_succ]
    refine reg_rd 19 (v := ?_) rfl (by kernel_rfl) (by kernel_rfl) (by kernel_rfl) (fun _ _ _ h => h) (by rfl) (by assumption) ?_ ?_
    rotate_left
    · intro w hSw; go_simp; with_reducible rfl
    try simp only [Act.put, List.setIfInBounds_toArray, List.set_cons_zero, List.set_cons_succ]
    refine reg_rd 20 (v := ?_) rfl (by kernel_rfl) (by kernel_rfl) (by kernel_rfl) (fun _ _ _ h => h) (by rfl) (by assumption) ?_ ?_
    rotate_left
    · intro w hSw; go_simp; with_reducible rfl
    try simp only [Act.put, List.setIfInBounds_toArray, List.set_cons_zero, List.set_cons_succ]
    refine wpAnyH_done (by kernel_rfl) ?_ _
    have hb7 := below_then hb4 ‹Below w4.heap.size w4 w6›
    go_wp2_with fail
    go_ret
    exact ⟨rfl, hb7⟩
  · go_enter Try.func8, Try.ntmps8
    go_wp2_with fail
    refine (take_any A b n c HL.out hc HC.out _ HS.out).mono ?_
    rw [HT.out]
    rintro e w1 ⟨⟨q, rfl⟩, rfl⟩
    have hb1 := below_drewN (Below.refl w.heap.size w) q
    have hz1 : (w.drewN q).heap.size = w.heap.size := by simp
    generalize w.drewN q = w1 at *
    go_wp2_with fail
    refine (takelist_any A b n c 4000 4000 HL.out hc HC.out (by omega) (by omega) (by omega) _ (by omega) (HS.out.below hb1)).mono ?_
    rw [HTL.out]
    rintro e w2 ⟨hb2', rfl⟩
    have hb2 := below_then hb1 hb2'
    go_wp2_with fail
    refine (takeint_any A b n c HL.out hc HC.out _ (HS.out.below hb2)).mono ?_
    rw [HTI.out]
    rintro e w3 ⟨⟨q3, rfl⟩, rfl⟩
    have hb3 := below_drewN hb2 q3
    generalize w2.drewN q3 = w3 at *
    go_wp2_with fail
    go_quiet (fail)
    have hb4 := below_drewN hb3 nq
    generalize w3.drewN nq = w4 at *
    go_wp2_with fail
    refine reg_start (by kernel_rfl) fun w5 hHeld hz5 => ?_
    refine wpAnyH_ready (rs := [0]) (by kernel_rfl) (by simp) ?_
    refine reg_do1 rfl (by rfl) (fun K hK => ?_)
    go_simp
    (go_at_call 16; refine (alive01 _).mono ?_; rintro e w6 ⟨rfl, hb6⟩)
    go_wp2_with fail
    refine hK.out _ _ ?_ (fun hNext => ?_)
    · exact below_then (by assumption) hb6
    clear hK K hHeld
    have hHeld := hNext
    clear hNext
    try simp only [Act.put, List.setIfInBounds_toArray, List.set_cons_zero, List.set_cons_succ]
    refine reg_rd 1 (v := ?_) rfl (by kernel_rfl) (by kernel_rfl) (by kernel_rfl) (fun _ _ _ h => h) (by rfl) (by assumption) ?_ ?_
    rotate_left
    · intro w hSw; go_simp; with_reducible rfl
    try simp only [Act.put, List.setIfInBounds_toArray, List.set_cons_zero, List.set_cons_succ]
    refine reg_rd 2 (v := ?_) rfl (by kernel_rfl) (by kernel_rfl) (by kernel_rfl) (fun _ _ _ h => h) (by rfl) (by assumption) ?_ ?_
    rotate_left
    · intro w hSw; go_simp; with_reducible rfl
    try simp only [Act.put, List.setIfInBounds_toArray, List.set_cons_zero, List.set_cons_succ]
    refine reg_rd 3 (v := ?_) rfl (by kernel_rfl) (by kernel_rfl) (by kernel_rfl) (fun _ _ _ h => h) (by rfl) (by assumption) ?_ ?_
    rotate_left
    · intro w hSw; go_simp; with_reducible rfl
    try simp only [Act.put, List.setIfInBounds_toArray, List.set_cons_zero, List.set_cons_succ]
    refine reg_rd 4 (v := ?_) rfl (by kernel_rfl) (by kernel_rfl) (by kernel_rfl) (fun _ _ _ h => h) (by rfl) (by assumption) ?_ ?_
    rotate_left
    · intro w hSw; go_simp; with_reducible rfl
    try simp only [Act.put, List.setIfInBounds_toArray, List.set_cons_zero, List.set_cons_succ]
    refine reg_rd 5 (v := ?_) rfl (by kernel_rfl) (by kernel_rfl) (by kernel_rfl) (fun _ _ _ h => h) (by rfl) (by assumption) ?_ ?_
    rotate_left
    · intro w hSw; go_simp; with_reducible rfl
    try simp only [Act.put, List.setIfInBounds_toArray, List.set_cons_zero, List.set_cons_succ]
    refine reg_rd 6 (v := ?_) rfl (by kernel_rfl) (by kernel_rfl) (by kernel_rfl) (fun _ _ _ h => h) (by rfl) (by assumption) ?_ ?_
    rotate_left
    · intro w hSw; go_simp; with_reducible rfl
    try simp only [Act.put, List.setIfInBounds_toArray, List.set_cons_zero, List.set_cons_succ]
    refine reg_rd 7 (v := ?_) rfl (by kernel_rfl) (by kernel_rfl) (by kernel_rfl) (fun _ _ _ h => h) (by rfl) (by assumption) ?_ ?_
    rotate_left
    · intro w hSw; go_simp; with_reducible rfl
    try simp only [Act.put, List.setIfInBounds_toArray, List.set_cons_zero, List.set_cons_succ]
    refine reg_rd 8 (v := ?_) rfl (by kernel_rfl) (by kernel_rfl) (by kernel_rfl) (fun _ _ _ h => h) (by rfl) (by assumption) ?_ ?_
    rotate_left
    · intro w hSw; go_simp; with_reducible rfl
    try simp only [Act.put, List.setIfInBounds_toArray, List.set_cons_zero, List.set_cons_succ]
    refine reg_rd 9 (v := ?_) rfl (by kernel_rfl) (by kernel_rfl) (by kernel_rfl) (fun _ _ _ h => h) (by rfl) (by assumption) ?_ ?_
    rotate_left
    · intro w hSw; go_simp; with_reducible rfl
    try simp only [Act.put, List.setIfInBounds_toArray, List.set_cons_zero, List.set_cons_succ]
    refine reg_un 10 rfl (by kernel_rfl) (by kernel_rfl) (by kernel_rfl) (fun _ _ _ h => h) (by rfl) (by assumption) ?_
    try simp only [Act.put, List.setIfInBounds_toArray, List.set_cons_zero, List.set_cons_succ]
    refine reg_un 11 rfl (by kernel_rfl) (by kernel_rfl) (by kernel_rfl) (fun _ _ _ h => h) (by rfl) (by assumption) ?_
    try simp only [Act.put, List.setIfInBounds_toArray, List.set_cons_zero, List.set_cons_succ]
    refine reg_un 12 rfl (by kernel_rfl) (by kernel_rfl) (by kernel_rfl) (fun _ _ _ h => h) (by rfl) (by assumption) ?_
    try simp only [Act.put, List.setIfInBounds_toArray, List.set_cons_zero, List.set_cons_succ]
    refine reg_un 13 rfl (by kernel_rfl) (by kernel_rfl) (by kernel_rfl) (fun _ _ _ h => h) (by rfl) (by assumption) ?_
    try simp only [Act.put, List.setIfInBounds_toArray, List.set_cons_zero, List.set_cons_succ]
    refine reg_un 14 rfl (by kernel_rfl) (by kernel_rfl) (by kernel_rfl) (fun _ _ _ h => h) (by rfl) (by assumption) ?_
    try simp only [Act.put, List.setIfInBounds_toArray, List.set_cons_zero, List.set_cons_succ]
    refine reg_un 15 rfl (by kernel_rfl) (by kernel_rfl) (by kernel_rfl) (fun _ _ _ h => h) (by rfl) (by assumption) ?_
    try simp only [Act.put, List.setIfInBounds_toArray, List.set_cons_zero, List.set_cons_succ]
    refine reg_un 16 rfl (by kernel_rfl) (by kernel_rfl) (by kernel_rfl) (fun _ _ _ h => h) (by rfl) (by assumption) ?_
    try simp only [Act.put, List.setIfInBounds_toArray, List.set_cons_zero, List.set_cons_succ]
    refine reg_un 17 rfl (by kernel_rfl) (by kernel_rfl) (by kernel_rfl) (fun _ _ _ h => h) (by rfl) (by assumption) ?_
    try simp only [Act.put, List.setIfInBounds_toArray, List.set_cons_zero, List.set_cons_succ]
    refine reg_rd 18 (v := ?_) rfl (by kernel_rfl) (by kernel_rfl) (by kernel_rfl) (fun _ _ _ h => h) (by rfl) (by assumption) ?_ ?_
    rotate_left
    · intro w hSw; go_simp; with_reducible rfl
    try simp only [Act.put, List.setIfInBounds_toArray, List.set_cons_zero, List.set_cons_succ]
    refine reg_rd 19 (v := ?_) rfl (by kernel_rfl) (by kernel_rfl) (by kernel_rfl) (fun _ _ _ h => h) (by rfl) (by assumption) ?_ ?_
    rotate_left
    · intro w hSw; go_simp; with_reducible rfl
    try simp only [Act.put, List.setIfInBounds_toArray, List.set_cons_zero, List.set_cons_succ]
    refine reg_rd 20 (v := ?_) rfl (by kernel_rfl) (by kernel_rfl) (by kernel_rfl) (fun _ _ _ h => h) (by rfl) (by assumption) ?_ ?_
    rotate_left
    · intro w hSw; go_simp; with_reducible rfl
    try simp only [Act.put, List.setIfInBounds_toArray, List.set_cons_zero, List.set_cons_succ]
    refine wpAnyH_done (by kernel_rfl) ?_ _
    have hb7 := below_then hb4 ‹Below w4.heap.size w4 w6›
    go_wp2_with fail
    go_ret
    exact ⟨rfl, hb7⟩
theorem conv_prep : True := trivial
theorem takeL_err {b : Bytes} {z many most : Int} (h : takeL b many most = .error z) : z = 2 ∨ z = 3 ∨ z = 5 := by
  have key : ∀ (n : Nat) (b : Bytes) (z : Int), takeTs most n b = .error z → z = 2 ∨ z = 3 ∨ z = 5 := by
    intro n
    induction n with
    | zero => intro b z h; cases h
    | succ n ih =>
      intro b z h
      rw [takeTs] at h
      split at h
      · rename_i hq; cases h; exact takeT_err hq
      · split at h
        · rename_i hq; cases h; exact ih _ _ hq
        · cases h
  unfold takeL at h
  split at h
  · rename_i hq; cases h; rcases takeN_err hq with h | h <;> simp [h]
  · split at h
    · cases h; simp
    · exact key _ _ _ h
set_option maxHeartbeats 4000000 in
theorem only_ok (A : Option Addr) (b x : Bytes) (n c m : Nat) (l : List Bytes) (y : Bytes) (hn : n ≤ 4000) (hl : b.length = n) (hc : n ≤ c) (hc' : c ≤ maxLen) (ht : takeN b = .ok (m, x)) (htl : takeL b 4000 4000 = .ok (l, y)) (w : World) (hs : Sl byteR 1 w.heap.size w A b) :
    Calls Try.prog 8 #[.slice A n c] w fun e w' => e = .returned (.bool true) ∧ Below w.heap.size w w' := by
  have hti : takeI b = .ok (unzig m, x) := by rw [takeI, ht]
  have hm64 := (taken_lt ht).1
  have hx9 := (taken_lt ht).2
  have hon : ([] ++ encN m) ++ x = b := by rw [List.nil_append]; exact takeN_only ht
  have hoi : ([] ++ encN (zig (unzig m))) ++ x = b := by rw [List.nil_append]; exact takeI_only hti
  have hk1 : -9223372036854775808 ≤ unzig m ∧ unzig m ≤ 9223372036854775807 := by unfold unzig; split <;> omega
  have h9 := encN_le m hm64
  have h9' := encN_le (zig (unzig m)) (zig_lt _ hk1.1 hk1.2)
  rw [hl] at hx9
  have hol : ([] ++ encL ((l.map mkS).map sb)) ++ y = b := by
    rw [List.nil_append, List.map_map, show sb ∘ mkS = id from rfl, List.map_id]
    exact takeL_only htl
  have hlen : (encL l).length + y.length = n := by rw [← hl, ← takeL_only htl, List.length_append]
  have htot : tot ((l.map mkS).map sb) ≤ 36000 := by
    rw [List.map_map, show sb ∘ mkS = id from rfl, List.map_id]
    have := tot_row l
    rw [encL_row, List.length_append] at hlen
    omega
  have HOL := hid hol; have HLE := hid hlen; have HTT := hid htot; clear hol hlen htot
  have HS := hid hs; have HL := hid hl; have HC := hid hc'; have HT := hid ht; have HTI := hid hti; have HTL := hid htl; have HON := hid hon; have HOI := hid hoi; have HK := hid hk1; have H9 := hid h9; have H9' := hid h9'; have HX := hid hx9; clear hs hl hc' ht hti htl hon hoi hk1 h9 h9' hx9
  go_enter Try.func8, Try.ntmps8
  go_wp2_with fail
  refine (take_any A b n c HL.out hc HC.out _ HS.out).mono ?_
  rw [HT.out]
  rintro e w1 ⟨⟨q, rfl⟩, A1, c1, rfl, _, _, s1⟩
  have hb1 := below_drewN (Below.refl w.heap.size w) q
  have k1 : (w.drewN q).heap.size = w.heap.size := by simp
  have s1 := s1.below hb1
  generalize w.drewN q = w1 at *
  go_wp2_with fail
  refine (takelist_any A b n c 4000 4000 HL.out hc HC.out (by omega) (by omega) (by omega) _ (by omega) (HS.out.below hb1)).mono ?_
  rw [HTL.out]
  rintro e w2 ⟨hb2', v2, A2, c2, rfl, hown2, _, _, s2⟩
  obtain ⟨B2, d2, rfl, f2, _, t2⟩ := hown2.len (Nat.zero_le _) (m := l.length) (by simp)
  clear hown2
  have hb2 := below_then hb1 hb2'
  have k2 := hb2'.size
  have s1 := s1.below (hb2'.mono (Nat.le_of_eq k1.symm))
  go_wp2_with fail
  refine (takeint_any A b n c HL.out hc HC.out _ (HS.out.below hb2)).mono ?_
  rw [HTI.out]
  rintro e w3 ⟨⟨q3, rfl⟩, A3, c3, rfl, _, _, s3⟩
  have hb3' := below_drewN (Below.refl w2.heap.size w2) q3
  have hb3 := below_then hb2 hb3'
  have k3 : w2.heap.size ≤ (w2.drewN q3).heap.size := by simp
  have k3' : (w2.drewN q3).heap.size = w2.heap.size := by simp
  have s3 := (s3.below (hb3'.mono (by omega))).mono (B' := (w2.drewN q3).heap.size) (by omega)
  have s1 := (s1.below (hb3'.mono (by omega))).mono (B' := (w2.drewN q3).heap.size) (by omega)
  have s2 := (s2.below (hb3'.mono (by omega))).mono (B' := (w2.drewN q3).heap.size) (by omega)
  have t2 := (t2.below hb3').mono (B' := (w2.drewN q3).heap.size) (by omega)
  have S2 := hid s2; have T2 := hid t2; clear s2 t2
  have sb3 := (HS.out.below hb3).mono (B' := (w2.drewN q3).heap.size) (by omega)
  have S1 := hid s1; have S3 := hid s3; have SB := hid sb3; clear s1 s3 sb3
  generalize w2.drewN q3 = w3 at *
  go_wp2_with fail
  refine reg_start (by kernel_rfl) fun w4 hHeld hz4 => ?_
  refine reg_rd 0 (v := ?_) rfl (by kernel_rfl) (by kernel_rfl) (by kernel_rfl) (fun _ _ _ h => h) (by rfl) (by assumption) ?_ ?_
  rotate_left
  · intro w hSw; go_simp; with_reducible rfl
  try simp only [Act.put, List.setIfInBounds_toArray, List.set_cons_zero, List.set_cons_succ]
  refine reg_rd 1 (v := ?_) rfl (by kernel_rfl) (by kernel_rfl) (by kernel_rfl) (fun _ _ _ h => h) (by rfl) (by assumption) ?_ ?_
  rotate_left
  · intro w hSw; go_simp; with_reducible rfl
  try simp only [Act.put, List.setIfInBounds_toArray, List.set_cons_zero, List.set_cons_succ]
  refine reg_rd 2 (v := ?_) rfl (by kernel_rfl) (by kernel_rfl) (by kernel_rfl) (fun _ _ _ h => h) (by rfl) (by assumption) ?_ ?_
  rotate_left
  · intro w hSw; go_simp; with_reducible rfl
  try simp only [Act.put, List.setIfInBounds_toArray, List.set_cons_zero, List.set_cons_succ]
  refine reg_rd 3 (v := ?_) rfl (by kernel_rfl) (by kernel_rfl) (by kernel_rfl) (fun _ _ _ h => h) (by rfl) (by assumption) ?_ ?_
  rotate_left
  · intro w hSw; go_simp; with_reducible rfl
  try simp only [Act.put, List.setIfInBounds_toArray, List.set_cons_zero, List.set_cons_succ]
  refine reg_rd 5 (v := ?_) rfl (by kernel_rfl) (by kernel_rfl) (by kernel_rfl) (fun _ _ _ h => h) (by rfl) (by assumption) ?_ ?_
  rotate_left
  · intro w hSw; go_simp; with_reducible rfl
  try simp only [Act.put, List.setIfInBounds_toArray, List.set_cons_zero, List.set_cons_succ]
  refine reg_rd 8 (v := ?_) rfl (by kernel_rfl) (by kernel_rfl) (by kernel_rfl) (fun _ _ _ h => h) (by rfl) (by assumption) ?_ ?_
  rotate_left
  · intro w hSw; go_simp; with_reducible rfl
  try simp only [Act.put, List.setIfInBounds_toArray, List.set_cons_zero, List.set_cons_succ]
  refine reg_rd 9 (v := ?_) rfl (by kernel_rfl) (by kernel_rfl) (by kernel_rfl) (fun _ _ _ h => h) (by rfl) (by assumption) ?_ ?_
  rotate_left
  · (intro w hSw; have hq := conv_str (c := c) HL.out (SB.out.below hSw); go_simp); with_reducible rfl
  try simp only [Act.put, List.setIfInBounds_toArray, List.set_cons_zero, List.set_cons_succ]
  refine wpAnyH_ready (rs := [4]) (by kernel_rfl) (by simp) ?_
  refine reg_do1 rfl (by rfl) (fun K hK => ?_)
  go_simp
  first | (go_at_call 14; refine (put_any none [] 0 0 m rfl (Nat.le_refl _) (Nat.zero_le _) hm64 (by omega) _ Sl.nil).mono ?_; rintro e w6 ⟨v, rfl, hown, hb6⟩; obtain ⟨hk5, hS6⟩ := below_pre (w := w3) (by assumption) hb6; obtain ⟨ys, hr, hcs⟩ := sl_rdc (S1.out.below hS6) rfl) | (go_at_call 19; refine (int_any none [] 0 0 (unzig m) rfl (Nat.le_refl _) (Nat.zero_le _) HK.out.1 HK.out.2 (by omega) _ Sl.nil).mono ?_; rintro e w6 ⟨v, rfl, hown, hb6⟩; obtain ⟨hk5, hS6⟩ := below_pre (w := w3) (by assumption) hb6; obtain ⟨ys, hr, hcs⟩ := sl_rdc (S3.out.below hS6) rfl) | (refine opw_app (.tmp 38) (.tmp 39) _ rfl tabB _ ([] ++ encN m) x rfl hown (Nat.zero_le _) _ _ _ ys rfl rfl hr (cs_bytes.2 (cs_bytes.1 hcs)) (by rw [cs_bytes.1 hcs]; exact bytes_oneCell _) (by have := H9.out; have := HX.out; simp; omega) (by have := H9.out; have := HX.out; unfold maxLen; simp; omega) hb6.size ?_; intro v7 w7 hown7 hb7; have hS7 : Below w3.heap.size w3 w7 := hS6.trans (hb7.mono hk5); rw [HON.out] at hown7; obtain ⟨A7, c7, rfl, _, _, sl7⟩ := hown7.len (Nat.zero_le _) HL.out; have hq7 := conv_str (c := c7) HL.out sl7) | (refine opw_app (.tmp 51) (.tmp 52) _ rfl tabB _ ([] ++ encN (zig (unzig m))) x rfl hown (Nat.zero_le _) _ _ _ ys rfl rfl hr (cs_bytes.2 (cs_bytes.1 hcs)) (by rw [cs_bytes.1 hcs]; exact bytes_oneCell _) (by have := H9'.out; have := HX.out; simp; omega) (by have := H9'.out; have := HX.out; unfold maxLen; simp; omega) hb6.size ?_; intro v7 w7 hown7 hb7; have hS7 : Below w3.heap.size w3 w7 := hS6.trans (hb7.mono hk5); rw [HOI.out] at hown7; obtain ⟨A7, c7, rfl, _, _, sl7⟩ := hown7.len (Nat.zero_le _) HL.out; have hq7 := conv_str (c := c7) HL.out sl7)
  go_wp2_with fail
  refine hK.out _ _ ?_ (fun hNext => ?_)
  · assumption
  clear hK K hHeld
  have hHeld := hNext
  clear hNext
  try simp only [Act.put, List.setIfInBounds_toArray, List.set_cons_zero, List.set_cons_succ]
  refine wpAnyH_ready (rs := [6]) (by kernel_rfl) (by simp) ?_
  refine reg_do1 rfl (by rfl) (fun K hK => ?_)
  first | (go_at_call 14; refine (put_any none [] 0 0 m rfl (Nat.le_refl _) (Nat.zero_le _) hm64 (by omega) _ Sl.nil).mono ?_; rintro e w6 ⟨v, rfl, hown, hb6⟩; obtain ⟨hk5, hS6⟩ := below_pre (w := w3) (by assumption) hb6; obtain ⟨ys, hr, hcs⟩ := sl_rdc (S1.out.below hS6) rfl) | (go_at_call 19; refine (int_any none [] 0 0 (unzig m) rfl (Nat.le_refl _) (Nat.zero_le _) HK.out.1 HK.out.2 (by omega) _ Sl.nil).mono ?_; rintro e w6 ⟨v, rfl, hown, hb6⟩; obtain ⟨hk5, hS6⟩ := below_pre (w := w3) (by assumption) hb6; obtain ⟨ys, hr, hcs⟩ := sl_rdc (S3.out.below hS6) rfl) | (refine opw_app (.tmp 38) (.tmp 39) _ rfl tabB _ ([] ++ encN m) x rfl hown (Nat.zero_le _) _ _ _ ys rfl rfl hr (cs_bytes.2 (cs_bytes.1 hcs)) (by rw [cs_bytes.1 hcs]; exact bytes_oneCell _) (by have := H9.out; have := HX.out; simp; omega) (by have := H9.out; have := HX.out; unfold maxLen; simp; omega) hb6.size ?_; intro v7 w7 hown7 hb7; have hS7 : Below w3.heap.size w3 w7 := hS6.trans (hb7.mono hk5); rw [HON.out] at hown7; obtain ⟨A7, c7, rfl, _, _, sl7⟩ := hown7.len (Nat.zero_le _) HL.out; have hq7 := conv_str (c := c7) HL.out sl7) | (refine opw_app (.tmp 51) (.tmp 52) _ rfl tabB _ ([] ++ encN (zig (unzig m))) x rfl hown (Nat.zero_le _) _ _ _ ys rfl rfl hr (cs_bytes.2 (cs_bytes.1 hcs)) (by rw [cs_bytes.1 hcs]; exact bytes_oneCell _) (by have := H9'.out; have := HX.out; simp; omega) (by have := H9'.out; have := HX.out; unfold maxLen; simp; omega) hb6.size ?_; intro v7 w7 hown7 hb7; have hS7 : Below w3.heap.size w3 w7 := hS6.trans (hb7.mono hk5); rw [HOI.out] at hown7; obtain ⟨A7, c7, rfl, _, _, sl7⟩ := hown7.len (Nat.zero_le _) HL.out; have hq7 := conv_str (c := c7) HL.out sl7)
  refine hK.out _ _ ?_ (fun hNext => ?_)
  · assumption
  clear hK K hHeld
  have hHeld := hNext
  clear hNext
  try simp only [Act.put, List.setIfInBounds_toArray, List.set_cons_zero, List.set_cons_succ]
  refine wpAnyH_ready (rs := [7]) (by kernel_rfl) (by simp) ?_
  refine reg_do1 rfl (by rfl) (fun K hK => ?_)
  go_simp
  refine hK.out _ _ ?_ (fun hNext => ?_)
  · assumption
  clear hK K hHeld
  have hHeld := hNext
  clear hNext
  try simp only [Act.put, List.setIfInBounds_toArray, List.set_cons_zero, List.set_cons_succ]
  refine reg_rd 10 (v := ?_) rfl (by kernel_rfl) (by kernel_rfl) (by kernel_rfl) (fun _ _ _ h => h) (by rfl) (by assumption) ?_ ?_
  rotate_left
  · intro w hSw; go_simp; with_reducible rfl
  try simp only [Act.put, List.setIfInBounds_toArray, List.set_cons_zero, List.set_cons_succ]
  refine reg_rd 11 (v := ?_) rfl (by kernel_rfl) (by kernel_rfl) (by kernel_rfl) (fun _ _ _ h => h) (by rfl) (by assumption) ?_ ?_
  rotate_left
  · intro w hSw; go_simp; with_reducible rfl
  try simp only [Act.put, List.setIfInBounds_toArray, List.set_cons_zero, List.set_cons_succ]
  refine reg_rd 12 (v := ?_) rfl (by kernel_rfl) (by kernel_rfl) (by kernel_rfl) (fun _ _ _ h => h) (by rfl) (by assumption) ?_ ?_
  rotate_left
  · intro w hSw; go_simp; with_reducible rfl
  try simp only [Act.put, List.setIfInBounds_toArray, List.set_cons_zero, List.set_cons_succ]
  refine reg_rd 13 (v := ?_) rfl (by kernel_rfl) (by kernel_rfl) (by kernel_rfl) (fun _ _ _ h => h) (by rfl) (by assumption) ?_ ?_
  rotate_left
  · intro w hSw; go_simp; with_reducible rfl
  try simp only [Act.put, List.setIfInBounds_toArray, List.set_cons_zero, List.set_cons_succ]
  refine reg_rd 14 (v := ?_) rfl (by kernel_rfl) (by kernel_rfl) (by kernel_rfl) (fun _ _ _ h => h) (by rfl) (by assumption) ?_ ?_
  rotate_left
  · intro w hSw; go_simp; with_reducible rfl
  try simp only [Act.put, List.setIfInBounds_toArray, List.set_cons_zero, List.set_cons_succ]
  refine reg_rd 15 (v := ?_) rfl (by kernel_rfl) (by kernel_rfl) (by kernel_rfl) (fun _ _ _ h => h) (by rfl) (by assumption) ?_ ?_
  rotate_left
  · intro w hSw; go_simp; with_reducible rfl
  try simp only [Act.put, List.setIfInBounds_toArray, List.set_cons_zero, List.set_cons_succ]
  refine reg_rd 16 (v := ?_) rfl (by kernel_rfl) (by kernel_rfl) (by kernel_rfl) (fun _ _ _ h => h) (by rfl) (by assumption) ?_ ?_
  rotate_left
  · intro w hSw; go_simp; with_reducible rfl
  try simp only [Act.put, List.setIfInBounds_toArray, List.set_cons_zero, List.set_cons_succ]
  refine reg_rd 18 (v := ?_) rfl (by kernel_rfl) (by kernel_rfl) (by kernel_rfl) (fun _ _ _ h => h) (by rfl) (by assumption) ?_ ?_
  rotate_left
  · intro w hSw; go_simp; with_reducible rfl
  try simp only [Act.put, List.setIfInBounds_toArray, List.set_cons_zero, List.set_cons_succ]
  refine reg_rd 21 (v := ?_) rfl (by kernel_rfl) (by kernel_rfl) (by kernel_rfl) (fun _ _ _ h => h) (by rfl) (by assumption) ?_ ?_
  rotate_left
  · intro w hSw; go_simp; with_reducible rfl
  try simp only [Act.put, List.setIfInBounds_toArray, List.set_cons_zero, List.set_cons_succ]
  refine reg_rd 22 (v := ?_) rfl (by kernel_rfl) (by kernel_rfl) (by kernel_rfl) (fun _ _ _ h => h) (by rfl) (by assumption) ?_ ?_
  rotate_left
  · (intro w hSw; have hq := conv_str (c := c) HL.out (SB.out.below hSw); go_simp); with_reducible rfl
  try simp only [Act.put, List.setIfInBounds_toArray, List.set_cons_zero, List.set_cons_succ]
  refine wpAnyH_ready (rs := [17]) (by kernel_rfl) (by simp) ?_
  refine reg_do1 rfl (by rfl) (fun K hK => ?_)
  go_simp
  first | (go_at_call 14; refine (put_any none [] 0 0 m rfl (Nat.le_refl _) (Nat.zero_le _) hm64 (by omega) _ Sl.nil).mono ?_; rintro e w6 ⟨v, rfl, hown, hb6⟩; obtain ⟨hk5, hS6⟩ := below_pre (w := w3) (by assumption) hb6; obtain ⟨ys, hr, hcs⟩ := sl_rdc (S1.out.below hS6) rfl) | (go_at_call 19; refine (int_any none [] 0 0 (unzig m) rfl (Nat.le_refl _) (Nat.zero_le _) HK.out.1 HK.out.2 (by omega) _ Sl.nil).mono ?_; rintro e w6 ⟨v, rfl, hown, hb6⟩; obtain ⟨hk5, hS6⟩ := below_pre (w := w3) (by assumption) hb6; obtain ⟨ys, hr, hcs⟩ := sl_rdc (S3.out.below hS6) rfl) | (refine opw_app (.tmp 38) (.tmp 39) _ rfl tabB _ ([] ++ encN m) x rfl hown (Nat.zero_le _) _ _ _ ys rfl rfl hr (cs_bytes.2 (cs_bytes.1 hcs)) (by rw [cs_bytes.1 hcs]; exact bytes_oneCell _) (by have := H9.out; have := HX.out; simp; omega) (by have := H9.out; have := HX.out; unfold maxLen; simp; omega) hb6.size ?_; intro v7 w7 hown7 hb7; have hS7 : Below w3.heap.size w3 w7 := hS6.trans (hb7.mono hk5); rw [HON.out] at hown7; obtain ⟨A7, c7, rfl, _, _, sl7⟩ := hown7.len (Nat.zero_le _) HL.out; have hq7 := conv_str (c := c7) HL.out sl7) | (refine opw_app (.tmp 51) (.tmp 52) _ rfl tabB _ ([] ++ encN (zig (unzig m))) x rfl hown (Nat.zero_le _) _ _ _ ys rfl rfl hr (cs_bytes.2 (cs_bytes.1 hcs)) (by rw [cs_bytes.1 hcs]; exact bytes_oneCell _) (by have := H9'.out; have := HX.out; simp; omega) (by have := H9'.out; have := HX.out; unfold maxLen; simp; omega) hb6.size ?_; intro v7 w7 hown7 hb7; have hS7 : Below w3.heap.size w3 w7 := hS6.trans (hb7.mono hk5); rw [HOI.out] at hown7; obtain ⟨A7, c7, rfl, _, _, sl7⟩ := hown7.len (Nat.zero_le _) HL.out; have hq7 := conv_str (c := c7) HL.out sl7)
  go_wp2_with fail
  refine hK.out _ _ ?_ (fun hNext => ?_)
  · assumption
  clear hK K hHeld
  have hHeld := hNext
  clear hNext
  try simp only [Act.put, List.setIfInBounds_toArray, List.set_cons_zero, List.set_cons_succ]
  refine wpAnyH_ready (rs := [19]) (by kernel_rfl) (by simp) ?_
  refine reg_do1 rfl (by rfl) (fun K hK => ?_)
  first | (go_at_call 14; refine (put_any none [] 0 0 m rfl (Nat.le_refl _) (Nat.zero_le _) hm64 (by omega) _ Sl.nil).mono ?_; rintro e w6 ⟨v, rfl, hown, hb6⟩; obtain ⟨hk5, hS6⟩ := below_pre (w := w3) (by assumption) hb6; obtain ⟨ys, hr, hcs⟩ := sl_rdc (S1.out.below hS6) rfl) | (go_at_call 19; refine (int_any none [] 0 0 (unzig m) rfl (Nat.le_refl _) (Nat.zero_le _) HK.out.1 HK.out.2 (by omega) _ Sl.nil).mono ?_; rintro e w6 ⟨v, rfl, hown, hb6⟩; obtain ⟨hk5, hS6⟩ := below_pre (w := w3) (by assumption) hb6; obtain ⟨ys, hr, hcs⟩ := sl_rdc (S3.out.below hS6) rfl) | (refine opw_app (.tmp 38) (.tmp 39) _ rfl tabB _ ([] ++ encN m) x rfl hown (Nat.zero_le _) _ _ _ ys rfl rfl hr (cs_bytes.2 (cs_bytes.1 hcs)) (by rw [cs_bytes.1 hcs]; exact bytes_oneCell _) (by have := H9.out; have := HX.out; simp; omega) (by have := H9.out; have := HX.out; unfold maxLen; simp; omega) hb6.size ?_; intro v7 w7 hown7 hb7; have hS7 : Below w3.heap.size w3 w7 := hS6.trans (hb7.mono hk5); rw [HON.out] at hown7; obtain ⟨A7, c7, rfl, _, _, sl7⟩ := hown7.len (Nat.zero_le _) HL.out; have hq7 := conv_str (c := c7) HL.out sl7) | (refine opw_app (.tmp 51) (.tmp 52) _ rfl tabB _ ([] ++ encN (zig (unzig m))) x rfl hown (Nat.zero_le _) _ _ _ ys rfl rfl hr (cs_bytes.2 (cs_bytes.1 hcs)) (by rw [cs_bytes.1 hcs]; exact bytes_oneCell _) (by have := H9'.out; have := HX.out; simp; omega) (by have := H9'.out; have := HX.out; unfold maxLen; simp; omega) hb6.size ?_; intro v7 w7 hown7 hb7; have hS7 : Below w3.heap.size w3 w7 := hS6.trans (hb7.mono hk5); rw [HOI.out] at hown7; obtain ⟨A7, c7, rfl, _, _, sl7⟩ := hown7.len (Nat.zero_le _) HL.out; have hq7 := conv_str (c := c7) HL.out sl7)
  refine hK.out _ _ ?_ (fun hNext => ?_)
  · assumption
  clear hK K hHeld
  have hHeld := hNext
  clear hNext
  try simp only [Act.put, List.setIfInBounds_toArray, List.set_cons_zero, List.set_cons_succ]
  refine wpAnyH_ready (rs := [20]) (by kernel_rfl) (by simp) ?_
  refine reg_do1 rfl (by rfl) (fun K hK => ?_)
  go_simp
  refine hK.out _ _ ?_ (fun hNext => ?_)
  · assumption
  clear hK K hHeld
  have hHeld := hNext
  clear hNext
  try simp only [Act.put, List.setIfInBounds_toArray, List.set_cons_zero, List.set_cons_succ]
  refine reg_rd 23 (v := ?_) rfl (by kernel_rfl) (by kernel_rfl) (by kernel_rfl) (fun _ _ _ h => h) (by rfl) (by assumption) ?_ ?_
  rotate_left
  · intro w hSw; go_simp; with_reducible rfl
  try simp only [Act.put, List.setIfInBounds_toArray, List.set_cons_zero, List.set_cons_succ]
  refine reg_rd 24 (v := ?_) rfl (by kernel_rfl) (by kernel_rfl) (by kernel_rfl) (fun _ _ _ h => h) (by rfl) (by assumption) ?_ ?_
  rotate_left
  · intro w hSw; go_simp; with_reducible rfl
  try simp only [Act.put, List.setIfInBounds_toArray, List.set_cons_zero, List.set_cons_succ]
  refine reg_rd 25 (v := ?_) rfl (by kernel_rfl) (by kernel_rfl) (by kernel_rfl) (fun _ _ _ h => h) (by rfl) (by assumption) ?_ ?_
  rotate_left
  · intro w hSw; go_simp; with_reducible rfl
  try simp only [Act.put, List.setIfInBounds_toArray, List.set_cons_zero, List.set_cons_succ]
  refine wpAnyH_done (by kernel_rfl) ?_ _
  have hb7 := below_then hb3 hS7
  have hz7 := hS7.size
  have SB7 := hid ((SB.out.below hS7).mono hz7)
  have S27 := hid ((S2.out.below hS7).mono hz7)
  have T27 := hid ((T2.out.below hS7).mono hz7)
  clear hown hb6 hcs hr
  go_wp2_with fail
  refine reg_start (by kernel_rfl) fun w10 hHeld hz10 => ?_
  refine wpAnyH_ready (rs := [0]) (by kernel_rfl) (by simp) ?_
  refine reg_do1 rfl (by rfl) (fun K hK => ?_)
  go_simp
  first | (go_at_call 16; refine (alive01 _).mono ?_; rintro e w8 ⟨rfl, hb8⟩; obtain ⟨hk8, hS8⟩ := below_pre (w := w7) (by assumption) hb8) | (go_at_call 23; refine (list_any none B2 [] (l.map mkS) 0 0 _ d2 rfl (Nat.le_refl _) (Nat.zero_le _) (List.length_map _) (by have := HTT.out; omega) _ Sl.nil ((T27.out.below hS8).mono hS8.size)).mono ?_; rintro e w9 ⟨v, rfl, hown, hb9⟩; obtain ⟨hk9, hS9⟩ := below_pre (w := w7) (by assumption) hb9; obtain ⟨ys, hr, hcs⟩ := sl_rdc (S27.out.below hS9) rfl) | (refine opw_app (.tmp 71) (.tmp 72) _ rfl tabB _ ([] ++ encL ((l.map mkS).map sb)) y rfl hown (Nat.zero_le _) _ _ _ ys rfl rfl hr (cs_bytes.2 (cs_bytes.1 hcs)) (by rw [cs_bytes.1 hcs]; exact bytes_oneCell _) (by rw [← List.length_append, HOL.out, HL.out]; omega) (by rw [← List.length_append, HOL.out, HL.out]; unfold maxLen; omega) hb9.size ?_; intro v11 w11 hown11 hb11; have hS11 : Below w7.heap.size w7 w11 := hS9.trans (hb11.mono hk9); rw [HOL.out] at hown11; obtain ⟨A11, c11, rfl, _, _, sl11⟩ := hown11.len (Nat.zero_le _) HL.out; have hq11 := conv_str (c := c11) HL.out sl11)
  go_wp2_with fail
  refine hK.out _ _ ?_ (fun hNext => ?_)
  · assumption
  clear hK K hHeld
  have hHeld := hNext
  clear hNext
  try simp only [Act.put, List.setIfInBounds_toArray, List.set_cons_zero, List.set_cons_succ]
  refine reg_rd 1 (v := ?_) rfl (by kernel_rfl) (by kernel_rfl) (by kernel_rfl) (fun _ _ _ h => h) (by rfl) (by assumption) ?_ ?_
  rotate_left
  · intro w hSw; go_simp; with_reducible rfl
  try simp only [Act.put, List.setIfInBounds_toArray, List.set_cons_zero, List.set_cons_succ]
  refine reg_rd 2 (v := ?_) rfl (by kernel_rfl) (by kernel_rfl) (by kernel_rfl) (fun _ _ _ h => h) (by rfl) (by assumption) ?_ ?_
  rotate_left
  · intro w hSw; go_simp; with_reducible rfl
  try simp only [Act.put, List.setIfInBounds_toArray, List.set_cons_zero, List.set_cons_succ]
  refine reg_rd 3 (v := ?_) rfl (by kernel_rfl) (by kernel_rfl) (by kernel_rfl) (fun _ _ _ h => h) (by rfl) (by assumption) ?_ ?_
  rotate_left
  · intro w hSw; go_simp; with_reducible rfl
  try simp only [Act.put, List.setIfInBounds_toArray, List.set_cons_zero, List.set_cons_succ]
  refine reg_rd 4 (v := ?_) rfl (by kernel_rfl) (by kernel_rfl) (by kernel_rfl) (fun _ _ _ h => h) (by rfl) (by assumption) ?_ ?_
  rotate_left
  · intro w hSw; go_simp; with_reducible rfl
  try simp only [Act.put, List.setIfInBounds_toArray, List.set_cons_zero, List.set_cons_succ]
  refine reg_rd 5 (v := ?_) rfl (by kernel_rfl) (by kernel_rfl) (by kernel_rfl) (fun _ _ _ h => h) (by rfl) (by assumption) ?_ ?_
  rotate_left
  · intro w hSw; go_simp; with_reducible rfl
  try simp only [Act.put, List.setIfInBounds_toArray, List.set_cons_zero, List.set_cons_succ]
  refine reg_rd 6 (v := ?_) rfl (by kernel_rfl) (by kernel_rfl) (by kernel_rfl) (fun _ _ _ h => h) (by rfl) (by assumption) ?_ ?_
  rotate_left
  · intro w hSw; go_simp; with_reducible rfl
  try simp only [Act.put, List.setIfInBounds_toArray, List.set_cons_zero, List.set_cons_succ]
  refine reg_rd 7 (v := ?_) rfl (by kernel_rfl) (by kernel_rfl) (by kernel_rfl) (fun _ _ _ h => h) (by rfl) (by assumption) ?_ ?_
  rotate_left
  · intro w hSw; go_simp; with_reducible rfl
  try simp only [Act.put, List.setIfInBounds_toArray, List.set_cons_zero, List.set_cons_succ]
  refine reg_rd 8 (v := ?_) rfl (by kernel_rfl) (by kernel_rfl) (by kernel_rfl) (fun _ _ _ h => h) (by rfl) (by assumption) ?_ ?_
  rotate_left
  · intro w hSw; go_simp; with_reducible rfl
  try simp only [Act.put, List.setIfInBounds_toArray, List.set_cons_zero, List.set_cons_succ]
  refine reg_rd 9 (v := ?_) rfl (by kernel_rfl) (by kernel_rfl) (by kernel_rfl) (fun _ _ _ h => h) (by rfl) (by assumption) ?_ ?_
  rotate_left
  · intro w hSw; go_simp; with_reducible rfl
  try simp only [Act.put, List.setIfInBounds_toArray, List.set_cons_zero, List.set_cons_succ]
  refine reg_rd 10 (v := ?_) rfl (by kernel_rfl) (by kernel_rfl) (by kernel_rfl) (fun _ _ _ h => h) (by rfl) (by assumption) ?_ ?_
  rotate_left
  · intro w hSw; go_simp; with_reducible rfl
  try simp only [Act.put, List.setIfInBounds_toArray, List.set_cons_zero, List.set_cons_succ]
  refine reg_rd 12 (v := ?_) rfl (by kernel_rfl) (by kernel_rfl) (by kernel_rfl) (fun _ _ _ h => h) (by rfl) (by assumption) ?_ ?_
  rotate_left
  · intro w hSw; go_simp; with_reducible rfl
  try simp only [Act.put, List.setIfInBounds_toArray, List.set_cons_zero, List.set_cons_succ]
  refine reg_rd 15 (v := ?_) rfl (by kernel_rfl) (by kernel_rfl) (by kernel_rfl) (fun _ _ _ h => h) (by rfl) (by assumption) ?_ ?_
  rotate_left
  · intro w hSw; go_simp; with_reducible rfl
  try simp only [Act.put, List.setIfInBounds_toArray, List.set_cons_zero, List.set_cons_succ]
  refine reg_rd 16 (v := ?_) rfl (by kernel_rfl) (by kernel_rfl) (by kernel_rfl) (fun _ _ _ h => h) (by rfl) (by assumption) ?_ ?_
  rotate_left
  · (intro w hSw; have hq := conv_str (c := c) HL.out (SB7.out.below hSw); go_simp); with_reducible rfl
  try simp only [Act.put, List.setIfInBounds_toArray, List.set_cons_zero, List.set_cons_succ]
  refine wpAnyH_ready (rs := [11]) (by kernel_rfl) (by simp) ?_
  refine reg_do1 rfl (by rfl) (fun K hK => ?_)
  go_simp
  first | (go_at_call 16; refine (alive01 _).mono ?_; rintro e w8 ⟨rfl, hb8⟩; obtain ⟨hk8, hS8⟩ := below_pre (w := w7) (by assumption) hb8) | (go_at_call 23; refine (list_any none B2 [] (l.map mkS) 0 0 _ d2 rfl (Nat.le_refl _) (Nat.zero_le _) (List.length_map _) (by have := HTT.out; omega) _ Sl.nil ((T27.out.below hS8).mono hS8.size)).mono ?_; rintro e w9 ⟨v, rfl, hown, hb9⟩; obtain ⟨hk9, hS9⟩ := below_pre (w := w7) (by assumption) hb9; obtain ⟨ys, hr, hcs⟩ := sl_rdc (S27.out.below hS9) rfl) | (refine opw_app (.tmp 71) (.tmp 72) _ rfl tabB _ ([] ++ encL ((l.map mkS).map sb)) y rfl hown (Nat.zero_le _) _ _ _ ys rfl rfl hr (cs_bytes.2 (cs_bytes.1 hcs)) (by rw [cs_bytes.1 hcs]; exact bytes_oneCell _) (by rw [← List.length_append, HOL.out, HL.out]; omega) (by rw [← List.length_append, HOL.out, HL.out]; unfold maxLen; omega) hb9.size ?_; intro v11 w11 hown11 hb11; have hS11 : Below w7.heap.size w7 w11 := hS9.trans (hb11.mono hk9); rw [HOL.out] at hown11; obtain ⟨A11, c11, rfl, _, _, sl11⟩ := hown11.len (Nat.zero_le _) HL.out; have hq11 := conv_str (c := c11) HL.out sl11)
  go_wp2_with fail
  refine hK.out _ _ ?_ (fun hNext => ?_)
  · assumption
  clear hK K hHeld
  have hHeld := hNext
  clear hNext
  try simp only [Act.put, List.setIfInBounds_toArray, List.set_cons_zero, List.set_cons_succ]
  refine wpAnyH_ready (rs := [13]) (by kernel_rfl) (by simp) ?_
  refine reg_do1 rfl (by rfl) (fun K hK => ?_)
  first | (go_at_call 16; refine (alive01 _).mono ?_; rintro e w8 ⟨rfl, hb8⟩; obtain ⟨hk8, hS8⟩ := below_pre (w := w7) (by assumption) hb8) | (go_at_call 23; refine (list_any none B2 [] (l.map mkS) 0 0 _ d2 rfl (Nat.le_refl _) (Nat.zero_le _) (List.length_map _) (by have := HTT.out; omega) _ Sl.nil ((T27.out.below hS8).mono hS8.size)).mono ?_; rintro e w9 ⟨v, rfl, hown, hb9⟩; obtain ⟨hk9, hS9⟩ := below_pre (w := w7) (by assumption) hb9; obtain ⟨ys, hr, hcs⟩ := sl_rdc (S27.out.below hS9) rfl) | (refine opw_app (.tmp 71) (.tmp 72) _ rfl tabB _ ([] ++ encL ((l.map mkS).map sb)) y rfl hown (Nat.zero_le _) _ _ _ ys rfl rfl hr (cs_bytes.2 (cs_bytes.1 hcs)) (by rw [cs_bytes.1 hcs]; exact bytes_oneCell _) (by rw [← List.length_append, HOL.out, HL.out]; omega) (by rw [← List.length_append, HOL.out, HL.out]; unfold maxLen; omega) hb9.size ?_; intro v11 w11 hown11 hb11; have hS11 : Below w7.heap.size w7 w11 := hS9.trans (hb11.mono hk9); rw [HOL.out] at hown11; obtain ⟨A11, c11, rfl, _, _, sl11⟩ := hown11.len (Nat.zero_le _) HL.out; have hq11 := conv_str (c := c11) HL.out sl11)
  refine hK.out _ _ ?_ (fun hNext => ?_)
  · assumption
  clear hK K hHeld
  have hHeld := hNext
  clear hNext
  try simp only [Act.put, List.setIfInBounds_toArray, List.set_cons_zero, List.set_cons_succ]
  refine wpAnyH_ready (rs := [14]) (by kernel_rfl) (by simp) ?_
  refine reg_do1 rfl (by rfl) (fun K hK => ?_)
  go_simp
  refine hK.out _ _ ?_ (fun hNext => ?_)
  · assumption
  clear hK K hHeld
  have hHeld := hNext
  clear hNext
  try simp only [Act.put, List.setIfInBounds_toArray, List.set_cons_zero, List.set_cons_succ]
  refine reg_rd 17 (v := ?_) rfl (by kernel_rfl) (by kernel_rfl) (by kernel_rfl) (fun _ _ _ h => h) (by rfl) (by assumption) ?_ ?_
  rotate_left
  · intro w hSw; go_simp; with_reducible rfl
  try simp only [Act.put, List.setIfInBounds_toArray, List.set_cons_zero, List.set_cons_succ]
  refine reg_rd 18 (v := ?_) rfl (by kernel_rfl) (by kernel_rfl) (by kernel_rfl) (fun _ _ _ h => h) (by rfl) (by assumption) ?_ ?_
  rotate_left
  · intro w hSw; go_simp; with_reducible rfl
  try simp only [Act.put, List.setIfInBounds_toArray, List.set_cons_zero, List.set_cons_succ]
  refine reg_rd 19 (v := ?_) rfl (by kernel_rfl) (by kernel_rfl) (by kernel_rfl) (fun _ _ _ h => h) (by rfl) (by assumption) ?_ ?_
  rotate_left
  · intro w hSw; go_simp; with_reducible rfl
  try simp only [Act.put, List.setIfInBounds_toArray, List.set_cons_zero, List.set_cons_succ]
  refine reg_rd 20 (v := ?_) rfl (by kernel_rfl) (by kernel_rfl) (by kernel_rfl) (fun _ _ _ h => h) (by rfl) (by assumption) ?_ ?_
  rotate_left
  · intro w hSw; go_simp; with_reducible rfl
  try simp only [Act.put, List.setIfInBounds_toArray, List.set_cons_zero, List.set_cons_succ]
  refine wpAnyH_done (by kernel_rfl) ?_ _
  have hE := below_then hb7 hS11
  go_wp2_with fail
  go_ret
  exact ⟨rfl, hE⟩
set_option maxHeartbeats 4000000 in
theorem only_no (A : Option Addr) (b x : Bytes) (n c m : Nat) (z : Int) (hn : n ≤ 4000) (hl : b.length = n) (hc : n ≤ c) (hc' : c ≤ maxLen) (ht : takeN b = .ok (m, x)) (htl : takeL b 4000 4000 = .error z) (w : World) (hs : Sl byteR 1 w.heap.size w A b) :
    Calls Try.prog 8 #[.slice A n c] w fun e w' => e = .returned (.bool true) ∧ Below w.heap.size w w' := by
  have hti : takeI b = .ok (unzig m, x) := by rw [takeI, ht]
  have hm64 := (taken_lt ht).1
  have hx9 := (taken_lt ht).2
  have hon : ([] ++ encN m) ++ x = b := by rw [List.nil_append]; exact takeN_only ht
  have hoi : ([] ++ encN (zig (unzig m))) ++ x = b := by rw [List.nil_append]; exact takeI_only hti
  have hk1 : -9223372036854775808 ≤ unzig m ∧ unzig m ≤ 9223372036854775807 := by unfold unzig; split <;> omega
  have h9 := encN_le m hm64
  have h9' := encN_le (zig (unzig m)) (zig_lt _ hk1.1 hk1.2)
  rw [hl] at hx9
  have hz : (z == 0) = false ∧ (z != 0) = true := by rcases takeL_err htl with rfl | rfl | rfl <;> exact ⟨rfl, rfl⟩
  obtain ⟨hz1, hz2⟩ := hz
  have HS := hid hs; have HL := hid hl; have HC := hid hc'; have HT := hid ht; have HTI := hid hti; have HTL := hid htl; have HON := hid hon; have HOI := hid hoi; have HK := hid hk1; have H9 := hid h9; have H9' := hid h9'; have HX := hid hx9; clear hs hl hc' ht hti htl hon hoi hk1 h9 h9' hx9
  go_enter Try.func8, Try.ntmps8
  go_wp2_with fail
  refine (take_any A b n c HL.out hc HC.out _ HS.out).mono ?_
  rw [HT.out]
  rintro e w1 ⟨⟨q, rfl⟩, A1, c1, rfl, _, _, s1⟩
  have hb1 := below_drewN (Below.refl w.heap.size w) q
  have k1 : (w.drewN q).heap.size = w.heap.size := by simp
  have s1 := s1.below hb1
  generalize w.drewN q = w1 at *
  go_wp2_with fail
  refine (takelist_any A b n c 4000 4000 HL.out hc HC.out (by omega) (by omega) (by omega) _ (by omega) (HS.out.below hb1)).mono ?_
  rw [HTL.out]
  rintro e w2 ⟨hb2', rfl⟩
  have hb2 := below_then hb1 hb2'
  have k2 := hb2'.size
  have s1 := s1.below (hb2'.mono (Nat.le_of_eq k1.symm))
  go_wp2_with fail
  refine (takeint_any A b n c HL.out hc HC.out _ (HS.out.below hb2)).mono ?_
  rw [HTI.out]
  rintro e w3 ⟨⟨q3, rfl⟩, A3, c3, rfl, _, _, s3⟩
  have hb3' := below_drewN (Below.refl w2.heap.size w2) q3
  have hb3 := below_then hb2 hb3'
  have k3 : w2.heap.size ≤ (w2.drewN q3).heap.size := by simp
  have k3' : (w2.drewN q3).heap.size = w2.heap.size := by simp
  have s3 := (s3.below (hb3'.mono (by omega))).mono (B' := (w2.drewN q3).heap.size) (by omega)
  have s1 := (s1.below (hb3'.mono (by omega))).mono (B' := (w2.drewN q3).heap.size) (by omega)
  have sb3 := (HS.out.below hb3).mono (B' := (w2.drewN q3).heap.size) (by omega)
  have S1 := hid s1; have S3 := hid s3; have SB := hid sb3; clear s1 s3 sb3
  generalize w2.drewN q3 = w3 at *
  go_wp2_with fail
  refine reg_start (by kernel_rfl) fun w4 hHeld hz4 => ?_
  refine reg_rd 0 (v := ?_) rfl (by kernel_rfl) (by kernel_rfl) (by kernel_rfl) (fun _ _ _ h => h) (by rfl) (by assumption) ?_ ?_
  rotate_left
  · intro w hSw; go_simp; with_reducible rfl
  try simp only [Act.put, List.setIfInBounds_toArray, List.set_cons_zero, List.set_cons_succ]
  refine reg_rd 1 (v := ?_) rfl (by kernel_rfl) (by kernel_rfl) (by kernel_rfl) (fun _ _ _ h => h) (by rfl) (by assumption) ?_ ?_
  rotate_left
  · intro w hSw; go_simp; with_reducible rfl
  try simp only [Act.put, List.setIfInBounds_toArray, List.set_cons_zero, List.set_cons_succ]
  refine reg_rd 2 (v := ?_) rfl (by kernel_rfl) (by kernel_rfl) (by kernel_rfl) (fun _ _ _ h => h) (by rfl) (by assumption) ?_ ?_
  rotate_left
  · intro w hSw; go_simp; with_reducible rfl
  try simp only [Act.put, List.setIfInBounds_toArray, List.set_cons_zero, List.set_cons_succ]
  refine reg_rd 3 (v := ?_) rfl (by kernel_rfl) (by kernel_rfl) (by kernel_rfl) (fun _ _ _ h => h) (by rfl) (by assumption) ?_ ?_
  rotate_left
  · intro w hSw; go_simp; with_reducible rfl
  try simp only [Act.put, List.setIfInBounds_toArray, List.set_cons_zero, List.set_cons_succ]
  refine reg_rd 5 (v := ?_) rfl (by kernel_rfl) (by kernel_rfl) (by kernel_rfl) (fun _ _ _ h => h) (by rfl) (by assumption) ?_ ?_
  rotate_left
  · intro w hSw; go_simp; with_reducible rfl
  try simp only [Act.put, List.setIfInBounds_toArray, List.set_cons_zero, List.set_cons_succ]
  refine reg_rd 8 (v := ?_) rfl (by kernel_rfl) (by kernel_rfl) (by kernel_rfl) (fun _ _ _ h => h) (by rfl) (by assumption) ?_ ?_
  rotate_left
  · intro w hSw; go_simp; with_reducible rfl
  try simp only [Act.put, List.setIfInBounds_toArray, List.set_cons_zero, List.set_cons_succ]
  refine reg_rd 9 (v := ?_) rfl (by kernel_rfl) (by kernel_rfl) (by kernel_rfl) (fun _ _ _ h => h) (by rfl) (by assumption) ?_ ?_
  rotate_left
  · (intro w hSw; have hq := conv_str (c := c) HL.out (SB.out.below hSw); go_simp); with_reducible rfl
  try simp only [Act.put, List.setIfInBounds_toArray, List.set_cons_zero, List.set_cons_succ]
  refine wpAnyH_ready (rs := [4]) (by kernel_rfl) (by simp) ?_
  refine reg_do1 rfl (by rfl) (fun K hK => ?_)
  go_simp
  first | (go_at_call 14; refine (put_any none [] 0 0 m rfl (Nat.le_refl _) (Nat.zero_le _) hm64 (by omega) _ Sl.nil).mono ?_; rintro e w6 ⟨v, rfl, hown, hb6⟩; obtain ⟨hk5, hS6⟩ := below_pre (w := w3) (by assumption) hb6; obtain ⟨ys, hr, hcs⟩ := sl_rdc (S1.out.below hS6) rfl) | (go_at_call 19; refine (int_any none [] 0 0 (unzig m) rfl (Nat.le_refl _) (Nat.zero_le _) HK.out.1 HK.out.2 (by omega) _ Sl.nil).mono ?_; rintro e w6 ⟨v, rfl, hown, hb6⟩; obtain ⟨hk5, hS6⟩ := below_pre (w := w3) (by assumption) hb6; obtain ⟨ys, hr, hcs⟩ := sl_rdc (S3.out.below hS6) rfl) | (refine opw_app (.tmp 38) (.tmp 39) _ rfl tabB _ ([] ++ encN m) x rfl hown (Nat.zero_le _) _ _ _ ys rfl rfl hr (cs_bytes.2 (cs_bytes.1 hcs)) (by rw [cs_bytes.1 hcs]; exact bytes_oneCell _) (by have := H9.out; have := HX.out; simp; omega) (by have := H9.out; have := HX.out; unfold maxLen; simp; omega) hb6.size ?_; intro v7 w7 hown7 hb7; have hS7 : Below w3.heap.size w3 w7 := hS6.trans (hb7.mono hk5); rw [HON.out] at hown7; obtain ⟨A7, c7, rfl, _, _, sl7⟩ := hown7.len (Nat.zero_le _) HL.out; have hq7 := conv_str (c := c7) HL.out sl7) | (refine opw_app (.tmp 51) (.tmp 52) _ rfl tabB _ ([] ++ encN (zig (unzig m))) x rfl hown (Nat.zero_le _) _ _ _ ys rfl rfl hr (cs_bytes.2 (cs_bytes.1 hcs)) (by rw [cs_bytes.1 hcs]; exact bytes_oneCell _) (by have := H9'.out; have := HX.out; simp; omega) (by have := H9'.out; have := HX.out; unfold maxLen; simp; omega) hb6.size ?_; intro v7 w7 hown7 hb7; have hS7 : Below w3.heap.size w3 w7 := hS6.trans (hb7.mono hk5); rw [HOI.out] at hown7; obtain ⟨A7, c7, rfl, _, _, sl7⟩ := hown7.len (Nat.zero_le _) HL.out; have hq7 := conv_str (c := c7) HL.out sl7)
  go_wp2_with fail
  refine hK.out _ _ ?_ (fun hNext => ?_)
  · assumption
  clear hK K hHeld
  have hHeld := hNext
  clear hNext
  try simp only [Act.put, List.setIfInBounds_toArray, List.set_cons_zero, List.set_cons_succ]
  refine wpAnyH_ready (rs := [6]) (by kernel_rfl) (by simp) ?_
  refine reg_do1 rfl (by rfl) (fun K hK => ?_)
  first | (go_at_call 14; refine (put_any none [] 0 0 m rfl (Nat.le_refl _) (Nat.zero_le _) hm64 (by omega) _ Sl.nil).mono ?_; rintro e w6 ⟨v, rfl, hown, hb6⟩; obtain ⟨hk5, hS6⟩ := below_pre (w := w3) (by assumption) hb6; obtain ⟨ys, hr, hcs⟩ := sl_rdc (S1.out.below hS6) rfl) | (go_at_call 19; refine (int_any none [] 0 0 (unzig m) rfl (Nat.le_refl _) (Nat.zero_le _) HK.out.1 HK.out.2 (by omega) _ Sl.nil).mono ?_; rintro e w6 ⟨v, rfl, hown, hb6⟩; obtain ⟨hk5, hS6⟩ := below_pre (w := w3) (by assumption) hb6; obtain ⟨ys, hr, hcs⟩ := sl_rdc (S3.out.below hS6) rfl) | (refine opw_app (.tmp 38) (.tmp 39) _ rfl tabB _ ([] ++ encN m) x rfl hown (Nat.zero_le _) _ _ _ ys rfl rfl hr (cs_bytes.2 (cs_bytes.1 hcs)) (by rw [cs_bytes.1 hcs]; exact bytes_oneCell _) (by have := H9.out; have := HX.out; simp; omega) (by have := H9.out; have := HX.out; unfold maxLen; simp; omega) hb6.size ?_; intro v7 w7 hown7 hb7; have hS7 : Below w3.heap.size w3 w7 := hS6.trans (hb7.mono hk5); rw [HON.out] at hown7; obtain ⟨A7, c7, rfl, _, _, sl7⟩ := hown7.len (Nat.zero_le _) HL.out; have hq7 := conv_str (c := c7) HL.out sl7) | (refine opw_app (.tmp 51) (.tmp 52) _ rfl tabB _ ([] ++ encN (zig (unzig m))) x rfl hown (Nat.zero_le _) _ _ _ ys rfl rfl hr (cs_bytes.2 (cs_bytes.1 hcs)) (by rw [cs_bytes.1 hcs]; exact bytes_oneCell _) (by have := H9'.out; have := HX.out; simp; omega) (by have := H9'.out; have := HX.out; unfold maxLen; simp; omega) hb6.size ?_; intro v7 w7 hown7 hb7; have hS7 : Below w3.heap.size w3 w7 := hS6.trans (hb7.mono hk5); rw [HOI.out] at hown7; obtain ⟨A7, c7, rfl, _, _, sl7⟩ := hown7.len (Nat.zero_le _) HL.out; have hq7 := conv_str (c := c7) HL.out sl7)
  refine hK.out _ _ ?_ (fun hNext => ?_)
  · assumption
  clear hK K hHeld
  have hHeld := hNext
  clear hNext
  try simp only [Act.put, List.setIfInBounds_toArray, List.set_cons_zero, List.set_cons_succ]
  refine wpAnyH_ready (rs := [7]) (by kernel_rfl) (by simp) ?_
  refine reg_do1 rfl (by rfl) (fun K hK => ?_)
  go_simp
  refine hK.out _ _ ?_ (fun hNext => ?_)
  · assumption
  clear hK K hHeld
  have hHeld := hNext
  clear hNext
  try simp only [Act.put, List.setIfInBounds_toArray, List.set_cons_zero, List.set_cons_succ]
  refine reg_rd 10 (v := ?_) rfl (by kernel_rfl) (by kernel_rfl) (by kernel_rfl) (fun _ _ _ h => h) (by rfl) (by assumption) ?_ ?_
  rotate_left
  · intro w hSw; go_simp; with_reducible rfl
  try simp only [Act.put, List.setIfInBounds_toArray, List.set_cons_zero, List.set_cons_succ]
  refine reg_rd 11 (v := ?_) rfl (by kernel_rfl) (by kernel_rfl) (by kernel_rfl) (fun _ _ _ h => h) (by rfl) (by assumption) ?_ ?_
  rotate_left
  · intro w hSw; go_simp; with_reducible rfl
  try simp only [Act.put, List.setIfInBounds_toArray, List.set_cons_zero, List.set_cons_succ]
  refine reg_rd 12 (v := ?_) rfl (by kernel_rfl) (by kernel_rfl) (by kernel_rfl) (fun _ _ _ h => h) (by rfl) (by assumption) ?_ ?_
  rotate_left
  · intro w hSw; go_simp; with_reducible rfl
  try simp only [Act.put, List.setIfInBounds_toArray, List.set_cons_zero, List.set_cons_succ]
  refine reg_rd 13 (v := ?_) rfl (by kernel_rfl) (by kernel_rfl) (by kernel_rfl) (fun _ _ _ h => h) (by rfl) (by assumption) ?_ ?_
  rotate_left
  · intro w hSw; go_simp; with_reducible rfl
  try simp only [Act.put, List.setIfInBounds_toArray, List.set_cons_zero, List.set_cons_succ]
  refine reg_rd 14 (v := ?_) rfl (by kernel_rfl) (by kernel_rfl) (by kernel_rfl) (fun _ _ _ h => h) (by rfl) (by assumption) ?_ ?_
  rotate_left
  · intro w hSw; go_simp; with_reducible rfl
  try simp only [Act.put, List.setIfInBounds_toArray, List.set_cons_zero, List.set_cons_succ]
  refine reg_rd 15 (v := ?_) rfl (by kernel_rfl) (by kernel_rfl) (by kernel_rfl) (fun _ _ _ h => h) (by rfl) (by assumption) ?_ ?_
  rotate_left
  · intro w hSw; go_simp; with_reducible rfl
  try simp only [Act.put, List.setIfInBounds_toArray, List.set_cons_zero, List.set_cons_succ]
  refine reg_rd 16 (v := ?_) rfl (by kernel_rfl) (by kernel_rfl) (by kernel_rfl) (fun _ _ _ h => h) (by rfl) (by assumption) ?_ ?_
  rotate_left
  · intro w hSw; go_simp; with_reducible rfl
  try simp only [Act.put, List.setIfInBounds_toArray, List.set_cons_zero, List.set_cons_succ]
  refine reg_rd 18 (v := ?_) rfl (by kernel_rfl) (by kernel_rfl) (by kernel_rfl) (fun _ _ _ h => h) (by rfl) (by assumption) ?_ ?_
  rotate_left
  · intro w hSw; go_simp; with_reducible rfl
  try simp only [Act.put, List.setIfInBounds_toArray, List.set_cons_zero, List.set_cons_succ]
  refine reg_rd 21 (v := ?_) rfl (by kernel_rfl) (by kernel_rfl) (by kernel_rfl) (fun _ _ _ h => h) (by rfl) (by assumption) ?_ ?_
  rotate_left
  · intro w hSw; go_simp; with_reducible rfl
  try simp only [Act.put, List.setIfInBounds_toArray, List.set_cons_zero, List.set_cons_succ]
  refine reg_rd 22 (v := ?_) rfl (by kernel_rfl) (by kernel_rfl) (by kernel_rfl) (fun _ _ _ h => h) (by rfl) (by assumption) ?_ ?_
  rotate_left
  · (intro w hSw; have hq := conv_str (c := c) HL.out (SB.out.below hSw); go_simp); with_reducible rfl
  try simp only [Act.put, List.setIfInBounds_toArray, List.set_cons_zero, List.set_cons_succ]
  refine wpAnyH_ready (rs := [17]) (by kernel_rfl) (by simp) ?_
  refine reg_do1 rfl (by rfl) (fun K hK => ?_)
  go_simp
  first | (go_at_call 14; refine (put_any none [] 0 0 m rfl (Nat.le_refl _) (Nat.zero_le _) hm64 (by omega) _ Sl.nil).mono ?_; rintro e w6 ⟨v, rfl, hown, hb6⟩; obtain ⟨hk5, hS6⟩ := below_pre (w := w3) (by assumption) hb6; obtain ⟨ys, hr, hcs⟩ := sl_rdc (S1.out.below hS6) rfl) | (go_at_call 19; refine (int_any none [] 0 0 (unzig m) rfl (Nat.le_refl _) (Nat.zero_le _) HK.out.1 HK.out.2 (by omega) _ Sl.nil).mono ?_; rintro e w6 ⟨v, rfl, hown, hb6⟩; obtain ⟨hk5, hS6⟩ := below_pre (w := w3) (by assumption) hb6; obtain ⟨ys, hr, hcs⟩ := sl_rdc (S3.out.below hS6) rfl) | (refine opw_app (.tmp 38) (.tmp 39) _ rfl tabB _ ([] ++ encN m) x rfl hown (Nat.zero_le _) _ _ _ ys rfl rfl hr (cs_bytes.2 (cs_bytes.1 hcs)) (by rw [cs_bytes.1 hcs]; exact bytes_oneCell _) (by have := H9.out; have := HX.out; simp; omega) (by have := H9.out; have := HX.out; unfold maxLen; simp; omega) hb6.size ?_; intro v7 w7 hown7 hb7; have hS7 : Below w3.heap.size w3 w7 := hS6.trans (hb7.mono hk5); rw [HON.out] at hown7; obtain ⟨A7, c7, rfl, _, _, sl7⟩ := hown7.len (Nat.zero_le _) HL.out; have hq7 := conv_str (c := c7) HL.out sl7) | (refine opw_app (.tmp 51) (.tmp 52) _ rfl tabB _ ([] ++ encN (zig (unzig m))) x rfl hown (Nat.zero_le _) _ _ _ ys rfl rfl hr (cs_bytes.2 (cs_bytes.1 hcs)) (by rw [cs_bytes.1 hcs]; exact bytes_oneCell _) (by have := H9'.out; have := HX.out; simp; omega) (by have := H9'.out; have := HX.out; unfold maxLen; simp; omega) hb6.size ?_; intro v7 w7 hown7 hb7; have hS7 : Below w3.heap.size w3 w7 := hS6.trans (hb7.mono hk5); rw [HOI.out] at hown7; obtain ⟨A7, c7, rfl, _, _, sl7⟩ := hown7.len (Nat.zero_le _) HL.out; have hq7 := conv_str (c := c7) HL.out sl7)
  go_wp2_with fail
  refine hK.out _ _ ?_ (fun hNext => ?_)
  · assumption
  clear hK K hHeld
  have hHeld := hNext
  clear hNext
  try simp only [Act.put, List.setIfInBounds_toArray, List.set_cons_zero, List.set_cons_succ]
  refine wpAnyH_ready (rs := [19]) (by kernel_rfl) (by simp) ?_
  refine reg_do1 rfl (by rfl) (fun K hK => ?_)
  first | (go_at_call 14; refine (put_any none [] 0 0 m rfl (Nat.le_refl _) (Nat.zero_le _) hm64 (by omega) _ Sl.nil).mono ?_; rintro e w6 ⟨v, rfl, hown, hb6⟩; obtain ⟨hk5, hS6⟩ := below_pre (w := w3) (by assumption) hb6; obtain ⟨ys, hr, hcs⟩ := sl_rdc (S1.out.below hS6) rfl) | (go_at_call 19; refine (int_any none [] 0 0 (unzig m) rfl (Nat.le_refl _) (Nat.zero_le _) HK.out.1 HK.out.2 (by omega) _ Sl.nil).mono ?_; rintro e w6 ⟨v, rfl, hown, hb6⟩; obtain ⟨hk5, hS6⟩ := below_pre (w := w3) (by assumption) hb6; obtain ⟨ys, hr, hcs⟩ := sl_rdc (S3.out.below hS6) rfl) | (refine opw_app (.tmp 38) (.tmp 39) _ rfl tabB _ ([] ++ encN m) x rfl hown (Nat.zero_le _) _ _ _ ys rfl rfl hr (cs_bytes.2 (cs_bytes.1 hcs)) (by rw [cs_bytes.1 hcs]; exact bytes_oneCell _) (by have := H9.out; have := HX.out; simp; omega) (by have := H9.out; have := HX.out; unfold maxLen; simp; omega) hb6.size ?_; intro v7 w7 hown7 hb7; have hS7 : Below w3.heap.size w3 w7 := hS6.trans (hb7.mono hk5); rw [HON.out] at hown7; obtain ⟨A7, c7, rfl, _, _, sl7⟩ := hown7.len (Nat.zero_le _) HL.out; have hq7 := conv_str (c := c7) HL.out sl7) | (refine opw_app (.tmp 51) (.tmp 52) _ rfl tabB _ ([] ++ encN (zig (unzig m))) x rfl hown (Nat.zero_le _) _ _ _ ys rfl rfl hr (cs_bytes.2 (cs_bytes.1 hcs)) (by rw [cs_bytes.1 hcs]; exact bytes_oneCell _) (by have := H9'.out; have := HX.out; simp; omega) (by have := H9'.out; have := HX.out; unfold maxLen; simp; omega) hb6.size ?_; intro v7 w7 hown7 hb7; have hS7 : Below w3.heap.size w3 w7 := hS6.trans (hb7.mono hk5); rw [HOI.out] at hown7; obtain ⟨A7, c7, rfl, _, _, sl7⟩ := hown7.len (Nat.zero_le _) HL.out; have hq7 := conv_str (c := c7) HL.out sl7)
  refine hK.out _ _ ?_ (fun hNext => ?_)
  · assumption
  clear hK K hHeld
  have hHeld := hNext
  clear hNext
  try simp only [Act.put, List.setIfInBounds_toArray, List.set_cons_zero, List.set_cons_succ]
  refine wpAnyH_ready (rs := [20]) (by kernel_rfl) (by simp) ?_
  refine reg_do1 rfl (by rfl) (fun K hK => ?_)
  go_simp
  refine hK.out _ _ ?_ (fun hNext => ?_)
  · assumption
  clear hK K hHeld
  have hHeld := hNext
  clear hNext
  try simp only [Act.put, List.setIfInBounds_toArray, List.set_cons_zero, List.set_cons_succ]
  refine reg_rd 23 (v := ?_) rfl (by kernel_rfl) (by kernel_rfl) (by kernel_rfl) (fun _ _ _ h => h) (by rfl) (by assumption) ?_ ?_
  rotate_left
  · intro w hSw; go_simp; with_reducible rfl
  try simp only [Act.put, List.setIfInBounds_toArray, List.set_cons_zero, List.set_cons_succ]
  refine reg_rd 24 (v := ?_) rfl (by kernel_rfl) (by kernel_rfl) (by kernel_rfl) (fun _ _ _ h => h) (by rfl) (by assumption) ?_ ?_
  rotate_left
  · intro w hSw; go_simp; with_reducible rfl
  try simp only [Act.put, List.setIfInBounds_toArray, List.set_cons_zero, List.set_cons_succ]
  refine reg_rd 25 (v := ?_) rfl (by kernel_rfl) (by kernel_rfl) (by kernel_rfl) (fun _ _ _ h => h) (by rfl) (by assumption) ?_ ?_
  rotate_left
  · intro w hSw; go_simp; with_reducible rfl
  try simp only [Act.put, List.setIfInBounds_toArray, List.set_cons_zero, List.set_cons_succ]
  refine wpAnyH_done (by kernel_rfl) ?_ _
  have hb7 := below_then hb3 hS7
  have hz7 := hS7.size
  have SB7 := hid ((SB.out.below hS7).mono hz7)
  clear hown hb6 hcs hr
  go_wp2_with fail
  refine reg_start (by kernel_rfl) fun w10 hHeld hz10 => ?_
  refine wpAnyH_ready (rs := [0]) (by kernel_rfl) (by simp) ?_
  refine reg_do1 rfl (by rfl) (fun K hK => ?_)
  go_simp
  first | (go_at_call 16; refine (alive01 _).mono ?_; rintro e w8 ⟨rfl, hb8⟩; obtain ⟨hk8, hS8⟩ := below_pre (w := w7) (by assumption) hb8)
  go_wp2_with fail
  refine hK.out _ _ ?_ (fun hNext => ?_)
  · assumption
  clear hK K hHeld
  have hHeld := hNext
  clear hNext
  try simp only [Act.put, List.setIfInBounds_toArray, List.set_cons_zero, List.set_cons_succ]
  refine reg_rd 1 (v := ?_) rfl (by kernel_rfl) (by kernel_rfl) (by kernel_rfl) (fun _ _ _ h => h) (by rfl) (by assumption) ?_ ?_
  rotate_left
  · intro w hSw; go_simp; with_reducible rfl
  try simp only [Act.put, List.setIfInBounds_toArray, List.set_cons_zero, List.set_cons_succ]
  refine reg_rd 2 (v := ?_) rfl (by kernel_rfl) (by kernel_rfl) (by kernel_rfl) (fun _ _ _ h => h) (by rfl) (by assumption) ?_ ?_
  rotate_left
  · intro w hSw; go_simp; with_reducible rfl
  try simp only [Act.put, List.setIfInBounds_toArray, List.set_cons_zero, List.set_cons_succ]
  refine reg_rd 3 (v := ?_) rfl (by kernel_rfl) (by kernel_rfl) (by kernel_rfl) (fun _ _ _ h => h) (by rfl) (by assumption) ?_ ?_
  rotate_left
  · intro w hSw; go_simp; with_reducible rfl
  try simp only [Act.put, List.setIfInBounds_toArray, List.set_cons_zero, List.set_cons_succ]
  refine reg_rd 4 (v := ?_) rfl (by kernel_rfl) (by kernel_rfl) (by kernel_rfl) (fun _ _ _ h => h) (by rfl) (by assumption) ?_ ?_
  rotate_left
  · intro w hSw; go_simp; with_reducible rfl
  try simp only [Act.put, List.setIfInBounds_toArray, List.set_cons_zero, List.set_cons_succ]
  refine reg_rd 5 (v := ?_) rfl (by kernel_rfl) (by kernel_rfl) (by kernel_rfl) (fun _ _ _ h => h) (by rfl) (by assumption) ?_ ?_
  rotate_left
  · intro w hSw; go_simp; with_reducible rfl
  try simp only [Act.put, List.setIfInBounds_toArray, List.set_cons_zero, List.set_cons_succ]
  refine reg_rd 6 (v := ?_) rfl (by kernel_rfl) (by kernel_rfl) (by kernel_rfl) (fun _ _ _ h => h) (by rfl) (by assumption) ?_ ?_
  rotate_left
  · intro w hSw; go_simp; with_reducible rfl
  try simp only [Act.put, List.setIfInBounds_toArray, List.set_cons_zero, List.set_cons_succ]
  refine reg_rd 7 (v := ?_) rfl (by kernel_rfl) (by kernel_rfl) (by kernel_rfl) (fun _ _ _ h => h) (by rfl) (by assumption) ?_ ?_
  rotate_left
  · intro w hSw; go_simp; with_reducible rfl
  try simp only [Act.put, List.setIfInBounds_toArray, List.set_cons_zero, List.set_cons_succ]
  refine reg_rd 8 (v := ?_) rfl (by kernel_rfl) (by kernel_rfl) (by kernel_rfl) (fun _ _ _ h => h) (by rfl) (by assumption) ?_ ?_
  rotate_left
  · intro w hSw; go_simp; with_reducible rfl
  try simp only [Act.put, List.setIfInBounds_toArray, List.set_cons_zero, List.set_cons_succ]
  refine reg_rd 9 (v := ?_) rfl (by kernel_rfl) (by kernel_rfl) (by kernel_rfl) (fun _ _ _ h => h) (by rfl) (by assumption) ?_ ?_
  rotate_left
  · intro w hSw; go_simp; with_reducible rfl
  try simp only [Act.put, List.setIfInBounds_toArray, List.set_cons_zero, List.set_cons_succ]
  refine reg_un 10 rfl (by kernel_rfl) (by kernel_rfl) (by kernel_rfl) (fun _ _ _ h => h) (by rfl) (by assumption) ?_
  try simp only [Act.put, List.setIfInBounds_toArray, List.set_cons_zero, List.set_cons_succ]
  refine reg_un 11 rfl (by kernel_rfl) (by kernel_rfl) (by kernel_rfl) (fun _ _ _ h => h) (by rfl) (by assumption) ?_
  try simp only [Act.put, List.setIfInBounds_toArray, List.set_cons_zero, List.set_cons_succ]
  refine reg_un 12 rfl (by kernel_rfl) (by kernel_rfl) (by kernel_rfl) (fun _ _ _ h => h) (by rfl) (by assumption) ?_
  try simp only [Act.put, List.setIfInBounds_toArray, List.set_cons_zero, List.set_cons_succ]
  refine reg_un 13 rfl (by kernel_rfl) (by kernel_rfl) (by kernel_rfl) (fun _ _ _ h => h) (by rfl) (by assumption) ?_
  try simp only [Act.put, List.setIfInBounds_toArray, List.set_cons_zero, List.set_cons_succ]
  refine reg_un 14 rfl (by kernel_rfl) (by kernel_rfl) (by kernel_rfl) (fun _ _ _ h => h) (by rfl) (by assumption) ?_
  try simp only [Act.put, List.setIfInBounds_toArray, List.set_cons_zero, List.set_cons_succ]
  refine reg_un 15 rfl (by kernel_rfl) (by kernel_rfl) (by kernel_rfl) (fun _ _ _ h => h) (by rfl) (by assumption) ?_
  try simp only [Act.put, List.setIfInBounds_toArray, List.set_cons_zero, List.set_cons_succ]
  refine reg_un 16 rfl (by kernel_rfl) (by kernel_rfl) (by kernel_rfl) (fun _ _ _ h => h) (by rfl) (by assumption) ?_
  try simp only [Act.put, List.setIfInBounds_toArray, List.set_cons_zero, List.set_cons_succ]
  refine reg_un 17 rfl (by kernel_rfl) (by kernel_rfl) (by kernel_rfl) (fun _ _ _ h => h) (by rfl) (by assumption) ?_
  try simp only [Act.put, List.setIfInBounds_toArray, List.set_cons_zero, List.set_cons_succ]
  refine reg_rd 18 (v := ?_) rfl (by kernel_rfl) (by kernel_rfl) (by kernel_rfl) (fun _ _ _ h => h) (by rfl) (by assumption) ?_ ?_
  rotate_left
  · intro w hSw; go_simp; with_reducible rfl
  try simp only [Act.put, List.setIfInBounds_toArray, List.set_cons_zero, List.set_cons_succ]
  refine reg_rd 19 (v := ?_) rfl (by kernel_rfl) (by kernel_rfl) (by kernel_rfl) (fun _ _ _ h => h) (by rfl) (by assumption) ?_ ?_
  rotate_left
  · intro w hSw; go_simp; with_reducible rfl
  try simp only [Act.put, List.setIfInBounds_toArray, List.set_cons_zero, List.set_cons_succ]
  refine reg_rd 20 (v := ?_) rfl (by kernel_rfl) (by kernel_rfl) (by kernel_rfl) (fun _ _ _ h => h) (by rfl) (by assumption) ?_ ?_
  rotate_left
  · intro w hSw; go_simp; with_reducible rfl
  try simp only [Act.put, List.setIfInBounds_toArray, List.set_cons_zero, List.set_cons_succ]
  refine wpAnyH_done (by kernel_rfl) ?_ _
  have hE := below_then hb7 hS8
  go_wp2_with fail
  go_ret
  exact ⟨rfl, hE⟩
end Go.Proofs.Ytpigfpnpabnnbaa
