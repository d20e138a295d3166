/-
  A box that no one writes any more, and a text's way in short runs. Nothing here speaks of the program.
-/
import Derived.Test.YtpigfpnpabnnbaaAi
namespace Go.Proofs.Ytpigfpnpabnnbaa
open Go.RowKit
/-- A box, frozen: one temporary that points to it is now a pointer to what stays. -/
theorem Weak.freeze {P : Program} {c0 : Cx} {s : AState} (j i : Nat) (cs : List AV) (hj : s.t[j]? = some (.ptr i 0)) (hi : s.h[i]? = some (.box cs)) : Weak P c0 s ⟨s.t.set j (.rptr cs), s.h.set i .dead⟩ := by
  refine ⟨fun ρ w vs h1 h2 h3 => ?_⟩
  obtain ⟨q1, q2⟩ := Cx.freeze h1 i _ hi rfl
  have hil : i < s.h.length := (List.getElem?_eq_some_iff.1 hi).1
  refine ⟨ρ, q1, h2.trans q2, by simp [h3.1], fun m v x hv hx => ?_⟩
  rw [List.getElem?_set] at hx
  split at hx
  · rename_i hij
    subst hij
    split at hx
    · cases hx
      have hr := h3.2 j v _ hv hj
      obtain ⟨b, us, e, hb, hcell, hsz, hall⟩ := h1.blk i _ hi
      cases hr with
      | ptr _ _ b' hk hb' ht =>
        have hbb : b' = b := by
          have : some b' = some b := hb'.symm.trans hb
          exact Option.some.inj this
        subst hbb
        refine .rptr cs b' 0 (fun q => us.getD q undef) (fun q a ha => ?_) (fun q a ha => ?_)
        · obtain ⟨hc1, u, hu, hr⟩ := hall q a ha
          refine ⟨hc1, ⟨(Array.getElem?_eq_some_iff.1 hcell).1, fun hX => ?_, fun i' x hx hbi => ?_⟩, ?_⟩
          · exact (h1.xs _ _ hX).2 i _ hi rfl hb
          · by_cases hii : i' = i
            · subst hii
              simp only [List.getElem?_set_self hil] at hx
              cases hx
              trivial
            · simp only [List.getElem?_set_ne (Ne.symm hii)] at hx
              cases hl : x.live with
              | true => exact absurd (h1.inj i' i x _ b' hx hi hl rfl hbi hb) hii
              | false => cases x <;> first | trivial | cases hl
          · rw [cell_of_row w b' (0 + q) us e (0, 0) hcell, Nat.zero_add, hu]
            simp [Array.getD_eq_getD_getElem?, hu]
        · obtain ⟨hc1, u, hu, hr⟩ := hall q a ha
          have : us.getD q undef = u := by simp [Array.getD_eq_getD_getElem?, hu]
          show RV _ (us.getD q undef) a
          rw [this]
          exact hr.mono q2
    · cases hx
  · exact (h3.2 m v x hv hx).mono q2
/-- A loop, entered. -/
theorem Run.unloop {P : Program} {f : FuncId} {c0 : Cx} {R : AV → List ABlk → Prop} {k : List Item} {s : AState} {c : Code} (h : Run P f c0 R (.code c :: .inLoop c :: k) s) : Run P f c0 R (.code (.loop c) :: k) s := ⟨ARun.loop1 h.h⟩
/-- A loop's body, once more. -/
theorem Run.again {P : Program} {f : FuncId} {c0 : Cx} {R : AV → List ABlk → Prop} {k : List Item} {s : AState} {c : Code} (h : Run P f c0 R (.code c :: .inLoop c :: k) s) : Run P f c0 R (.inLoop c :: k) s := ⟨ARun.inLoop h.h⟩
end Go.Proofs.Ytpigfpnpabnnbaa
