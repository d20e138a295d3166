/-
  The shadow of a run: rows that were written and stay as they are from here on. Nothing here speaks of the program.
-/
import Derived.Test.YtgonmnjgodleeaaBc
namespace Go.Proofs.Ytgonmnjgodleeaa
open Go.RowKit
section
variable {P : Program}
/-- Rows, read for good once no one writes them. -/
theorem RV.frozen {c : Cx} (hc : RelH c) {v : Value} {i k o n cap : Nat} {L : List (List AV)} (hv : RV c v (.msl i k o n cap)) (hi : c.h[i]? = some (.rows k L)) (hk : 0 < k) (hon : o + n ≤ L.length) (hp : ∀ x ∈ (L.drop o).take n, ∀ a ∈ x, a.plain = true) :
    RelH ⟨c.ρ, c.h.set i .dead, c.w, c.X⟩ ∧ Ev c ⟨c.ρ, c.h.set i .dead, c.w, c.X⟩ ∧ RV ⟨c.ρ, c.h.set i .dead, c.w, c.X⟩ v (.sl k ((L.drop o).take n) .no) := by
  obtain ⟨q1, q2⟩ := Cx.freeze hc i _ hi rfl
  refine ⟨q1, q2, ?_⟩
  cases hv with
  | msl _ _ _ _ _ b o' hkn hb hnt hcap hm ho =>
    obtain ⟨vs, e, hR⟩ := RowsAt.of hc hi hb
    obtain ⟨hf, hcell⟩ := hR.part hk o n hon hp
    have hln : ((L.drop o).take n).length = n := by simp; omega
    have hbs : b < c.w.heap.size := hc.here i _ b hi hb
    refine RV.sl_of (t := .no) (FlatP.mono' q2 hf) (by omega) hm b o' (fun _ => rfl) (fun q u hq => ?_) trivial hln
    have hq' := (List.getElem?_eq_some_iff.1 hq).1
    rw [hf.len, hln] at hq'
    have hn0 : 0 < n := Nat.pos_of_ne_zero fun h => by rw [h] at hq'; simp at hq'
    obtain rfl := ho (by omega)
    refine ⟨⟨hbs, fun hX => (hc.xs b _ hX).2 i _ hi rfl hb, fun j x hj hjb => ?_⟩, hcell q u hq⟩
    by_cases hji : j = i
    · subst hji
      rw [show (Cx.mk c.ρ (c.h.set j .dead) c.w c.X).h = c.h.set j .dead from rfl, List.getElem?_set_self (List.getElem?_eq_some_iff.1 hi).1] at hj
      cases hj
      trivial
    · rw [show (Cx.mk c.ρ (c.h.set i .dead) c.w c.X).h = c.h.set i .dead from rfl, List.getElem?_set_ne (Ne.symm hji)] at hj
      by_cases hl : x.live = true
      · exact absurd (hc.inj j i x _ b hj hi hl rfl hjb hb) hji
      · cases x <;> first | exact absurd rfl hl | trivial
/-- A call's result, frozen. -/
theorem ACall.freeze {f : FuncId} {args : List AV} {h : List ABlk} {R : AV → List ABlk → Prop}
    (H : ACall P f args h fun r h' => ∃ i k o n cap L, r = .msl i k o n cap ∧ h'[i]? = some (.rows k L) ∧ 0 < k ∧ o + n ≤ L.length ∧ (∀ x ∈ (L.drop o).take n, ∀ a ∈ x, a.plain = true) ∧ R (.sl k ((L.drop o).take n) .no) (h'.set i .dead)) : ACall P f args h R := by
  intro c vs hch hc ht
  refine (H c vs hch hc ht).mono ?_
  rintro e w' ⟨v, ρ', r, h', rfl, g1, g2, g3, i, k, o, n, cap, L, rfl, hi, hk, hon, hp, hR⟩
  obtain ⟨q1, q2, q3⟩ := g3.frozen g1 hi hk hon hp
  exact ⟨v, ρ', _, _, rfl, q1, g2.trans q2, q3, hR⟩
/-- A temporary, frozen. -/
theorem Weak.freezeM {c0 : Cx} {s : AState} (j i k o n cap : Nat) (L : List (List AV)) (hj : s.t[j]? = some (.msl i k o n cap)) (hi : s.h[i]? = some (.rows k L)) (hk : 0 < k) (hon : o + n ≤ L.length) (hp : ∀ x ∈ (L.drop o).take n, ∀ a ∈ x, a.plain = true) :
    Weak P c0 s ⟨s.t.set j (.sl k ((L.drop o).take n) .no), s.h.set i .dead⟩ := by
  refine ⟨fun ρ w vs h1 h2 h3 => ?_⟩
  have hjl : j < s.t.length := (List.getElem?_eq_some_iff.1 hj).1
  have hjv : j < vs.size := by rw [h3.1]; exact hjl
  obtain ⟨q1, q2, q3⟩ := (h3.2 j vs[j] _ (Array.getElem?_eq_getElem hjv) hj).frozen h1 hi hk hon hp
  refine ⟨ρ, q1, h2.trans q2, by simp [h3.1], fun m v x hv hx => ?_⟩
  rw [List.getElem?_set] at hx
  split at hx
  · rename_i hjm
    subst hjm
    rw [Array.getElem?_eq_getElem hjv] at hv
    cases hv
    first
      | (cases hx; exact q3)
      | (split at hx
         · cases hx; exact q3
         · cases hx)
  · exact (h3.2 m v x hv hx).mono q2
end
end Go.Proofs.Ytgonmnjgodleeaa
