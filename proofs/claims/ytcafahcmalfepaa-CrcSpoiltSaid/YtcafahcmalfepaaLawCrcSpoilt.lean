/-
  CrcSpoilt: frames, one byte of which is another one, are found up to the spoilt one alone.
-/
import Derived.Test.YtcafahcmalfepaaOwnSet
import Derived.Test.YtcafahcmalfepaaCrcAlive
namespace Go.Proofs.Ytcafahcmalfepaa
open Go.RowKit Go.Deep
theorem own_rowS {Z : Nat → Prop} {base B : Nat} {w : World} {v : Value} {l : List Bytes} {e : TypeId} (h : Own (rowZ Z) 1 e base B w v l) (hB : B ≤ w.heap.size) : ∃ A c, v = .slice A l.length c ∧ l.length ≤ c ∧ c ≤ maxLen ∧ Sl (rowZ Z) 1 w.heap.size w A l := h.sl hB
theorem frs_takeS (l : List Bytes) (k : Nat) (x : Bytes) (h : l[k]? = some x) : frs (l.take (k + 1)) = frs (l.take k) ++ fr x := by
  rw [List.take_add_one, h, frs_append]
  simp [frs]
/-- What the loop has found so far of the frame in which the spoilt byte lies: none, or it is the a-th, from byte g on. -/
def Found (l : List Bytes) (k : Nat) (at_ : Int) (ah gd : Int) : Prop :=
  (ah = -1 ∧ gd = 0 ∧ (at_ < 0 ∨ ((frs (l.take k)).length : Int) ≤ at_)) ∨
  ∃ (a : Nat) (x : Bytes) (j : Nat), ah = a ∧ a < k ∧ l[a]? = some x ∧ gd = ((frs (l.take a)).length : Nat) ∧ at_ = (((frs (l.take a)).length + j : Nat) : Int) ∧ j < (fr x).length ∧ (j = 0 ∨ 2 + nb x.length ≤ j)
set_option maxHeartbeats 4000000 in
set_option maxRecDepth 20000 in
theorem spoilt_any (A0 : Option Addr) (l : List Bytes) (n c0 : Nat) (at_ : Int) (by_ : Nat) (hl : l.length = n) (g0 : n ≤ c0) (m0 : c0 ≤ maxLen) (hat : -9223372036854775808 ≤ at_ ∧ at_ ≤ 9223372036854775807) (hby : by_ < 256) (w : World) (hu : ∀ y ∈ l, y.length * 1 ≤ reachBytes) (hs : Sl (slR byteR 1) 1 w.heap.size w A0 l) :
    Calls Try.prog 7 #[.slice A0 n c0, .int .i64 at_, .int .u8 (by_ : Int)] w fun e w' => e = .returned (.bool true) ∧ Below w.heap.size w w' := by
  have HS := hid hs; have HL := hid hl; have G0 := hid (And.intro g0 m0)
  have hn63 : (n : Int) ≤ 9223372036854775807 := by unfold maxLen at m0; omega
  have hat1 := hat.1; have hat2 := hat.2
  clear hs hl g0 m0 hat
  go_enter Try.func7, Try.ntmps7
  go_wp2_with fail
  go_loopw [7, 8, 9, 10] (fun v ah gd i wr => ∃ (k : Nat) (za zg : Int), k ≤ n ∧ k ≤ 30 ∧ i = .int .i64 k ∧ ah = .int .i64 za ∧ gd = .int .i64 zg ∧ (frs (l.take k)).length ≤ 120 * k ∧ (∀ y ∈ l.take k, y.length ≤ 100) ∧ Found l k at_ za zg ∧ Own byteR 1 5 w.heap.size 0 wr v (frs (l.take k)) ∧ Below w.heap.size w wr) (fun _ _ _ i _ => n - (intOf i).toNat)
  case atStart => exact ⟨0, -1, 0, Nat.zero_le _, by omega, rfl, rfl, rfl, by simp [frs], by simp, .inl ⟨rfl, rfl, by simp [frs]; omega⟩, Own.made w (Nat.le_refl _), below_new _ _⟩
  case round =>
    obtain ⟨k, za, zg, hk, hk30, rfl, rfl, rfl, hfl, hall, hfound, hown, hb⟩ := hrel
    have HO := hid hown; have HB := hid hb; have HA := hid hall; have HF := hid hfound; clear hown hb hall hfound
    by_cases hlt : k < n
    · obtain ⟨x, hx⟩ : ∃ x, l[k]? = some x := ⟨_, List.getElem?_eq_getElem (by rw [HL.out]; exact hlt)⟩
      obtain ⟨b0, o0, v, rfl, hb0, ⟨AX, cX, hv, gX, mX, sX⟩, hcell⟩ := HS.out.get1 hx
      simp only [List.cons.injEq, and_true] at hv
      subst hv
      have hcell := (HB.out.cell (p := ⟨b0, o0 + k, none⟩) hb0).trans hcell
      have hb0 := Nat.lt_of_lt_of_le hb0 HB.out.size
      have HX := hid (sX.call HB.out); have GX := hid (And.intro gX mX); have hft := frs_takeS l k x hx
      have HFT := hid hft; have HXK := hid hx; clear sX gX mX hft hx
      obtain ⟨m, hm⟩ : ∃ m, (frs (l.take k)).length = m := ⟨_, rfl⟩
      obtain ⟨Ao, co, rfl⟩ := HO.out.form2 hm
      rw [hm] at hfl
      have HM := hid hm; clear hm
      have hxu := hu x (List.mem_of_getElem? HXK.out)
      unfold reachBytes at hxu
      generalize hp : x.length = p at *
      have HP := hid hp
      have hxl : (p : Int) ≤ 140737488355328 := by omega
      have hmi : (m : Int) ≤ 4000 := by omega
      clear hp
      by_cases hal : k = 30 ∨ 100 < p
      · rcases hal with hal | hal
        · subst hal
          go_wp2_with (go_at_call 13; refine (alive15 _).mono ?_; rintro e w9 ⟨rfl, hb9⟩)
          go_ret
          exact ⟨rfl, below_then HB.out hb9⟩
        · have ht : (100 : Int) < p := by omega
          go_wp2_with (go_at_call 13; refine (alive15 _).mono ?_; rintro e w9 ⟨rfl, hb9⟩)
          all_goals go_ret
          all_goals exact ⟨rfl, below_then HB.out hb9⟩
      · have ht : (p : Int) ≤ 100 := by omega
        have hk1 : ((k : Int) == 30) = false := by simp; omega
        obtain ⟨Ao', co', he, go, mo, so⟩ := HO.out.len (Nat.zero_le _) HM.out
        simp only [Value.slice.injEq, true_and] at he
        obtain ⟨rfl, rfl⟩ := he
        have SO := hid so; clear so
        have hnb := nb_le p (by omega)
        obtain ⟨q, hq⟩ : ∃ q, frLong p = q := ⟨_, rfl⟩
        have hq14 : q ≤ p + 14 := by unfold frLong at hq; omega
        have hqd : (q : Int) - p - 4 = ((2 + nb p : Nat) : Int) := by unfold frLong at hq; omega
        obtain ⟨M2, hM2⟩ : ∃ M2, m + q = M2 := ⟨_, rfl⟩
        have hlen2 : (frs (l.take (k + 1))).length = M2 := by rw [HFT.out, List.length_append, HM.out, fr_length, HP.out, hq, hM2]
        have HLEN2 := hid hlen2; have HQ := hid hq; clear hlen2 hq
        have hM2i : (M2 : Int) ≤ 5000 := by omega
        have hall2 : ∀ y ∈ l.take (k + 1), y.length ≤ 100 := by
          intro y hy
          rw [List.take_add_one, HXK.out, List.mem_append] at hy
          rcases hy with hy | hy
          · exact HA.out y hy
          · simp only [Option.toList_some, List.mem_singleton] at hy
            subst hy
            rw [HP.out]; omega
        have HA2 := hid hall2; clear hall2
        go_wp2_with fail
        refine (frame_any Ao (frs (l.take k)) m co HM.out go mo (by omega) AX x p cX HP.out GX.out.1 GX.out.2 (by omega) wr SO.out HX.out).mono ?_
        rintro e w2 ⟨v2, rfl, hown2, hb2⟩
        rw [← HFT.out] at hown2
        obtain ⟨A2, c2, rfl⟩ := hown2.form2 HLEN2.out
        have hcell2 := (hb2.cell (p := ⟨b0, o0 + k, none⟩) hb0).trans hcell
        have HO2 := hid (hown2.low (base' := w.heap.size) HB.out.size); have HB2 := hid (below_then HB.out hb2); clear hown2 hb2 hcell
        by_cases hin : (m : Int) ≤ at_ ∧ at_ < M2
        · have hin1 := hin.1; have hin2 := hin.2
          obtain ⟨j, hj⟩ : ∃ j : Nat, at_ = ((m + j : Nat) : Int) := ⟨(at_ - m).toNat, by omega⟩
          have HJ := hid hj; clear hj
          obtain ⟨nd, hnd⟩ : ∃ nd, 2 + nb p = nd := ⟨_, rfl⟩
          have h1 : (M2 : Int) - m - p - 4 = nd := by omega
          have h2 : (M2 : Int) - m = q := by omega
          have h3 : (q : Int) - p - 4 = nd := by omega
          have h4 : (q : Int) - p = ((nd + 4 : Nat) : Int) := by omega
          by_cases hbad : (m : Int) < at_ ∧ at_ < m + nd
          · have hbad1 := hbad.1; have hbad2 := hbad.2
            go_wp2_with (go_at_call 13; refine (alive15 _).mono ?_; rintro e w9 ⟨rfl, hb9⟩)
            all_goals go_ret
            all_goals exact ⟨rfl, below_then HB2.out hb9⟩
          · have hbad1 : at_ ≤ m ∨ (m : Int) + nd ≤ at_ := by omega
            rcases hbad1 with hbad1 | hbad1
            · go_wp2_with fail
              go_roundw
              case rel => exact ⟨k + 1, k, m, by omega, by omega, by go_num, rfl, rfl, by rw [HLEN2.out]; omega, HA2.out, .inr ⟨k, x, j, rfl, by omega, HXK.out, by rw [HM.out], by rw [HM.out]; exact HJ.out, by rw [fr_length, HP.out, HQ.out]; have := HJ.out; omega, by rw [HP.out]; have := HJ.out; omega⟩, HO2.out, HB2.out⟩
              case measure => simp [intOf]; omega
            · go_wp2_with fail
              go_roundw
              case rel => exact ⟨k + 1, k, m, by omega, by omega, by go_num, rfl, rfl, by rw [HLEN2.out]; omega, HA2.out, .inr ⟨k, x, j, rfl, by omega, HXK.out, by rw [HM.out], by rw [HM.out]; exact HJ.out, by rw [fr_length, HP.out, HQ.out]; have := HJ.out; omega, by rw [HP.out]; have := HJ.out; omega⟩, HO2.out, HB2.out⟩
              case measure => simp [intOf]; omega
        · have hin1 : at_ < m ∨ (M2 : Int) ≤ at_ := by omega
          have hf2 : Found l (k + 1) at_ za zg := by
            rcases HF.out with ⟨f1, f2, f3⟩ | ⟨a, y, j, f1, f2, f3⟩
            · refine .inl ⟨f1, f2, ?_⟩
              rw [HLEN2.out]
              rw [HM.out] at f3
              omega
            · exact .inr ⟨a, y, j, f1, by omega, f3⟩
          have HF2 := hid hf2; clear hf2
          rcases hin1 with hin1 | hin1
          · go_wp2_with fail
            go_roundw
            case rel => exact ⟨k + 1, za, zg, by omega, by omega, by go_num, rfl, rfl, by rw [HLEN2.out]; omega, HA2.out, HF2.out, HO2.out, HB2.out⟩
            case measure => simp [intOf]; omega
          · have hin2 : (m : Int) ≤ at_ := by omega
            go_wp2_with fail
            go_roundw
            case rel => exact ⟨k + 1, za, zg, by omega, by omega, by go_num, rfl, rfl, by rw [HLEN2.out]; omega, HA2.out, HF2.out, HO2.out, HB2.out⟩
            case measure => simp [intOf]; omega
    · obtain rfl : k = n := by omega
      have htk : l.take k = l := List.take_of_length_le (by rw [HL.out]; omega)
      have HO0 := HO.out; have HA0 := HA.out
      rw [htk] at HO0 HA0 hfl
      clear HO HA htk
      have HO := hid HO0; have HA := hid HA0; clear HO0 HA0
      obtain ⟨m, hm⟩ : ∃ m, (frs l).length = m := ⟨_, rfl⟩
      obtain ⟨Ao, co, rfl⟩ := HO.out.form2 hm
      rw [hm] at hfl
      have HM := hid hm; clear hm
      have hmi : (m : Int) ≤ 4000 := by omega
      by_cases hz1 : za < 0
      · go_wp2_with (go_at_call 13; refine (alive15 _).mono ?_; rintro e w9 ⟨rfl, hb9⟩)
        all_goals go_ret
        all_goals exact ⟨rfl, below_then HB.out hb9⟩
      · by_cases hz2 : by_ = 0
        · subst hz2
          go_wp2_with (go_at_call 13; refine (alive15 _).mono ?_; rintro e w9 ⟨rfl, hb9⟩)
          all_goals go_ret
          all_goals exact ⟨rfl, below_then HB.out hb9⟩
        · rcases HF.out with ⟨f1, _⟩ | ⟨a, x, j, hza, ha, hx, hzg, hatt, hjl, hjn⟩
          · omega
          · subst hza hzg hatt
            clear HF hz1 hat1 hat2
            have hb0 : ((by_ : Int) == 0) = false := by simp; omega
            -- the bytes, in three pieces
            have hsplit : l = l.take a ++ x :: l.drop (a + 1) := by
              have hg := (List.getElem?_eq_some_iff.1 hx).2
              rw [← hg, List.getElem_cons_drop, List.take_append_drop]
            have hfr : frs l = frs (l.take a) ++ (fr x ++ frs (l.drop (a + 1))) := by
              conv => lhs; rw [hsplit]
              rw [frs_append, frs_cons]
            have hxl : x.length ≤ 100 := HA.out x (List.mem_of_getElem? hx)
            obtain ⟨g, hg⟩ : ∃ g, (frs (l.take a)).length = g := ⟨_, rfl⟩
            have hlens : g + ((fr x).length + (frs (l.drop (a + 1))).length) = m := by rw [← HM.out, hfr, List.length_append, List.length_append, hg]
            rw [hg]
            obtain ⟨K, hK⟩ : ∃ K, g + j = K := ⟨_, rfl⟩
            rw [hK]
            have hKm : K < m := by omega
            obtain ⟨y, hy⟩ : ∃ y, (frs l)[K]? = some y := ⟨_, List.getElem?_eq_getElem (by rw [HM.out]; exact hKm)⟩
            obtain ⟨G, rfl, hg1, hg2, hfz⟩ := own_block HO.out (by omega)
            obtain ⟨Ao', co', he, go, mo, so⟩ := HO.out.len (Nat.zero_le _) HM.out
            simp only [Value.slice.injEq, true_and] at he
            obtain ⟨rfl, rfl⟩ := he
            have hcell := so.cellb hy
            have hf := hfz K
            rw [Nat.zero_add] at hcell
            obtain ⟨hxv, hxn⟩ := xor_other (y := y) hby (fun h => hz2 h)
            have hss := so.setb (k := K) (by rw [HM.out]; exact hKm) (UInt8.ofNat (y.toNat ^^^ by_))
            rw [Nat.zero_add] at hss
            have hlen : ((frs l).set K (UInt8.ofNat (y.toNat ^^^ by_))).length = m := by rw [List.length_set]; exact HM.out
            have hxy : (fr x)[j]? = some y := by
              rw [hfr, List.getElem?_append_right (by omega), List.getElem?_append_left (by omega)] at hy
              rw [← hy]; congr 1; omega
            have hsc : scanS ((frs l).set K (UInt8.ofNat (y.toNat ^^^ by_))) = (l.take a, (fr x).set j (UInt8.ofNat (y.toNat ^^^ by_)) ++ frs (l.drop (a + 1))) := by
              obtain ⟨z, hz⟩ := takeF_spoilt x (frs (l.drop (a + 1))) (by omega) j hjl hjn (UInt8.ofNat (y.toNat ^^^ by_)) (by rw [hxy]; intro h; exact hxn (Option.some.inj h).symm)
              have e : (frs l).set K (UInt8.ofNat (y.toNat ^^^ by_)) = frs (l.take a) ++ ((fr x).set j (UInt8.ofNat (y.toNat ^^^ by_)) ++ frs (l.drop (a + 1))) := by
                rw [hfr, List.set_append_right _ _ (by omega), List.set_append_left _ _ (by omega)]
                congr 3; omega
              rw [e, scanS_frs (l.take a) (fun y hy => by have := HA.out y (List.mem_of_mem_take hy); omega), scanS_err hz, List.append_nil]
            have hleft : ((m : Nat) : Int) - ((fr x).set j (UInt8.ofNat (y.toNat ^^^ by_)) ++ frs (l.drop (a + 1))).length = g := by
              rw [List.length_append, List.length_set]; omega
            generalize UInt8.ofNat (y.toNat ^^^ by_) = y2 at *
            have HSS := hid hss; have HLEN := hid hlen; have HSC := hid hsc; have HLEFT := hid hleft; have HAK := hid (show a ≤ k by omega)
            have hta : (l.take a).length = a := by rw [List.length_take, HL.out]; omega
            have HTA := hid hta
            have HBS := hid (HB.out.trans (((Agree.refl wr).setCell (Z := fun j => j ≠ G) (p := ⟨G, K, none⟩) (by simp) (.int .u8 (y2.toNat : Int))).below fun j hj => ⟨Nat.lt_of_lt_of_le hj HB.out.size, by omega⟩))
            have HMM := hid (show m ≤ 1000000 by omega)
            have hac : (a : Int) ≤ c0 := by have := G0.out.1; omega
            have HG := hid (And.intro go mo)
            have G0n := hid (Nat.le_trans (show a ≤ c0 by have := G0.out.1; omega) G0.out.2)
            clear hss hlen hsc hleft hta hsplit hfr hxy hx hjl hjn hlens hxn so hfz
            go_wp2_with fail
            have hsc := scan_any (some ⟨G, 0, none⟩) ((frs l).set K y2) m co HLEN.out HMM.out HG.out.1 HG.out.2 _ (wr.setCell ⟨G, K, none⟩ (.int .u8 (y2.toNat : Int))) ((HSS.out.mono (B' := (wr.setCell ⟨G, K, none⟩ (.int .u8 (y2.toNat : Int))).heap.size) (by simp)).slzW)
            rw [HSC.out, HLEFT.out] at hsc
            refine hsc.mono ?_
            clear hsc
            rintro e w7 ⟨v7, rfl, hown7, hb7⟩
            obtain ⟨A7, c7, hv7, g7, m7, s7⟩ := own_rowS hown7 hb7.size
            rw [HTA.out] at hv7
            subst hv7
            have HT7 := hid (below_then HBS.out hb7); have S7 := hid s7
            clear hown7 hb7 s7
            go_wp2_with fail
            refine (alive15 _).mono ?_
            rintro e w8 ⟨rfl, hb8⟩
            have HT8 := hid (below_then HT7.out hb8)
            go_wp2_with fail
            refine (rows_any A7 A0 (l.take a) (l.take a) a a c7 c0 HTA.out HTA.out G0n.out w8 (Nat.le_refl _) HT8.out.size (S7.out.call hb8) (((HS.out.take a).below HT8.out).imp fun cs q h => rowZ_of HT8.out.size h)).mono ?_
            rw [decide_eq_true rfl]
            rintro e w9 ⟨rfl, hb9⟩
            go_wp2_with fail
            go_ret
            exact ⟨rfl, below_then HT8.out hb9⟩
end Go.Proofs.Ytcafahcmalfepaa
