/-
  The shadow of a run: operators, conversions, slices, rows built. Nothing here speaks of the program.
-/
import Derived.Test.YtgonmnjgodleeaaDoorAp
import Derived.Laws.StructEq
import Derived.ChangeKeysEq
import Derived.Laws.IdiomStrings
namespace Go.Proofs.YtgonmnjgodleeaaDoor
open Go.RowKit
section
variable {P : Program} {T : TabT} {c : Cx}
theorem str_beq {s s' : ByteArray} : (s.toList == s'.toList) = decide (s.data.toList = s'.data.toList) := by
  rw [ByteArray.toList_eq, ByteArray.toList_eq, Bool.eq_iff_iff]
  simp
theorem scal_eq {ft : Nat} {s : TS} (hs : scalB P ft s = true) {v u : Value} {x y : AV} {xs ys : List AV} {ss : List TS} {r : Bool} (hv : RV c v x) (hu : RV c u y) (h : aeqs (s :: ss) (x :: xs) (y :: ys) = some r) (d : Nat) (w : World) :
    ∃ q r', aeqs ss xs ys = some r' ∧ r = (q && r') ∧ (Op.equalIn (d + 1) ft v u).run P w = .ok q w := by
  unfold aeqs at h
  unfold scalB at hs
  split at h
  · rename_i e _ _; cases e
  · rename_i e1 e2 e3
    cases e1; cases e2; cases e3
    split at h
    · rename_i hk
      subst hk
      simp only [Option.map_eq_some_iff] at h
      obtain ⟨r', hr, rfl⟩ := h
      split at hs <;> first | cases hs; done | skip
      · rename_i _ e; cases e
      · rename_i _ _ hd _
        cases hv; cases hu
        exact ⟨_, r', hr, rfl, by rw [run_equalIn_int w d ft _ _ _ _ hd]; congr 1⟩
      · rename_i _ e; cases e
    · cases h
  · rename_i e1 e2 e3
    cases e1; cases e2; cases e3
    simp only [Option.map_eq_some_iff] at h
    obtain ⟨r', hr, rfl⟩ := h
    split at hs <;> first | cases hs; done | skip
    · rename_i hd _
      cases hv; cases hu
      exact ⟨_, r', hr, rfl, run_equalIn_bool w d ft _ _ hd⟩
    · rename_i _ e; cases e
    · rename_i _ e; cases e
  · rename_i e1 e2 e3
    cases e1; cases e2; cases e3
    simp only [Option.map_eq_some_iff] at h
    obtain ⟨r', hr, rfl⟩ := h
    split at hs <;> first | cases hs; done | skip
    · rename_i _ e; cases e
    · rename_i _ e; cases e
    · rename_i hd _
      cases hv with
      | str s1 _ h1 =>
        cases hu with
        | str s2 _ h2 =>
          subst h1 h2
          exact ⟨_, r', hr, rfl, by rw [run_equalIn_string w d ft _ _ hd, str_beq]⟩
  · cases h
theorem eqFields_flat {vs us : Array Value} {xs ys : List AV} (hv : vs.size = xs.length) (hu : us.size = ys.length) (rv : ∀ (i : Nat) v a, vs[i]? = some v → xs[i]? = some a → RV c v a) (ru : ∀ (i : Nat) v a, us[i]? = some v → ys[i]? = some a → RV c v a) (d : Nat) (w : World) :
    ∀ (fs : List Field) (o : Nat) (ss : List TS) (r : Bool), flatL P fs o ss = true → aeqs ss (xs.drop o) (ys.drop o) = some r → (Op.eqFields (d + 1) vs us fs).run P w = .ok r w
  | [], o, ss, r, h, ha => by
    cases ss with
    | cons s ss => cases h
    | nil =>
      unfold aeqs at ha
      split at ha
      · cases ha; simp [Op.eqFields]
      · rename_i e _ _; cases e
      · rename_i e _ _; cases e
      · rename_i e _ _; cases e
      · cases ha
  | f :: fs, o, [], r, h, ha => by cases h
  | f :: fs, o, s :: ss, r, h, ha => by
    simp only [flatL, Bool.and_eq_true, beq_iff_eq, bne_iff_ne] at h
    obtain ⟨⟨⟨h1, h2⟩, h3⟩, h4⟩ := h
    cases hx : xs.drop o with
    | nil => rw [hx] at ha; simp [aeqs] at ha
    | cons x xs' =>
      cases hy : ys.drop o with
      | nil => rw [hx, hy] at ha; simp [aeqs] at ha
      | cons y ys' =>
        rw [hx, hy] at ha
        have hxo : xs[o]? = some x := by have := congrArg (·[0]?) hx; simpa [List.getElem?_drop] using this
        have hyo : ys[o]? = some y := by have := congrArg (·[0]?) hy; simpa [List.getElem?_drop] using this
        have hvo : o < vs.size := by rw [hv]; exact (List.getElem?_eq_some_iff.1 hxo).1
        have huo : o < us.size := by rw [hu]; exact (List.getElem?_eq_some_iff.1 hyo).1
        have hx' : xs.drop (o + 1) = xs' := by rw [← List.drop_drop, hx]; rfl
        have hy' : ys.drop (o + 1) = ys' := by rw [← List.drop_drop, hy]; rfl
        obtain ⟨q, r', g1, rfl, g2⟩ := scal_eq h3 (rv o vs[o] x (Array.getElem?_eq_getElem hvo) hxo) (ru o us[o] y (Array.getElem?_eq_getElem huo) hyo) ha d w
        have ih := eqFields_flat hv hu rv ru d w fs (o + 1) ss r' h4 (by rw [hx', hy']; exact g1)
        have hag : ∀ W : World, (isAgg f.type).run P W = .ok false W := by
          intro W
          unfold scalB at h3
          unfold Go.isAgg
          rw [Sem.run_bind]
          split at h3 <;> first | cases h3; done | (rename_i hd _; rw [run_underlying hd]; simp) | (rename_i hd; rw [run_underlying hd]; simp)
        have p1 : (Go.part f.type vs f.offset).run P w = .ok vs[o] w := by simp [Go.part, Sem.run_bind, hag, h1, hvo]
        have p2 : (Go.part f.type us f.offset).run P w = .ok us[o] w := by simp [Go.part, Sem.run_bind, hag, h1, huo]
        simp only [Op.eqFields, ne_eq, h2, not_false_eq_true, if_true, Sem.run_bind, p1, p2, g2, Result.andThen_ok]
        cases q
        · simp
        · simpa using ih
theorem eqItems_flat {e : Nat} {vs us : Array Value} {xs ys : List AV} (hv : vs.size = xs.length) (hu : us.size = ys.length) (rv : ∀ (i : Nat) v a, vs[i]? = some v → xs[i]? = some a → RV c v a) (ru : ∀ (i : Nat) v a, us[i]? = some v → ys[i]? = some a → RV c v a) (d : Nat) (w : World) :
    ∀ (ss : List TS) (o : Nat) (r : Bool), ss.all (scalB P e) = true → aeqs ss (xs.drop o) (ys.drop o) = some r → (Op.eqItems (d + 1) e 1 vs us (List.range' o ss.length)).run P w = .ok r w
  | [], o, r, h, ha => by
    unfold aeqs at ha
    split at ha
    · cases ha; simp [Op.eqItems]
    · rename_i e _ _; cases e
    · rename_i e _ _; cases e
    · rename_i e _ _; cases e
    · cases ha
  | s :: ss, o, r, h, ha => by
    simp only [List.all_cons, Bool.and_eq_true] at h
    obtain ⟨h3, h4⟩ := h
    cases hx : xs.drop o with
    | nil => rw [hx] at ha; simp [aeqs] at ha
    | cons x xs' =>
      cases hy : ys.drop o with
      | nil => rw [hx, hy] at ha; simp [aeqs] at ha
      | cons y ys' =>
        rw [hx, hy] at ha
        have hxo : xs[o]? = some x := by have := congrArg (·[0]?) hx; simpa [List.getElem?_drop] using this
        have hyo : ys[o]? = some y := by have := congrArg (·[0]?) hy; simpa [List.getElem?_drop] using this
        have hvo : o < vs.size := by rw [hv]; exact (List.getElem?_eq_some_iff.1 hxo).1
        have huo : o < us.size := by rw [hu]; exact (List.getElem?_eq_some_iff.1 hyo).1
        have hx' : xs.drop (o + 1) = xs' := by rw [← List.drop_drop, hx]; rfl
        have hy' : ys.drop (o + 1) = ys' := by rw [← List.drop_drop, hy]; rfl
        obtain ⟨q, r', g1, rfl, g2⟩ := scal_eq h3 (rv o vs[o] x (Array.getElem?_eq_getElem hvo) hxo) (ru o us[o] y (Array.getElem?_eq_getElem huo) hyo) ha d w
        have ih := eqItems_flat hv hu rv ru d w ss (o + 1) r' h4 (by rw [hx', hy']; exact g1)
        have hag : ∀ W : World, (isAgg e).run P W = .ok false W := by
          intro W
          unfold scalB at h3
          unfold Go.isAgg
          rw [Sem.run_bind]
          split at h3 <;> first | cases h3; done | (rename_i hd _; rw [run_underlying hd]; simp) | (rename_i hd; rw [run_underlying hd]; simp)
        have p1 : (Go.part e vs (o * 1)).run P w = .ok vs[o] w := by simp [Go.part, Sem.run_bind, hag, hvo]
        have p2 : (Go.part e us (o * 1)).run P w = .ok us[o] w := by simp [Go.part, Sem.run_bind, hag, huo]
        simp only [List.length_cons, List.range'_succ, Op.eqItems, Sem.run_bind, p1, p2, g2, Result.andThen_ok]
        cases q
        · simp
        · simpa using ih
theorem agg_eq {t : Nat} {ss : List TS} (hf : flatEq P t ss = true) {vs us : Array Value} {xs ys : List AV} (hv : vs.size = xs.length) (hu : us.size = ys.length) (rv : ∀ (i : Nat) v a, vs[i]? = some v → xs[i]? = some a → RV c v a) (ru : ∀ (i : Nat) v a, us[i]? = some v → ys[i]? = some a → RV c v a) {r : Bool} (ha : aeqs ss xs ys = some r) (w : World) :
    P.eqGuardType P.depth t = false ∧ (Op.equalIn 10000 t (.agg vs) (.agg us)).run P w = .ok r w := by
  unfold flatEq at hf
  split at hf
  · rename_i fs hd
    simp only [Bool.and_eq_true, Bool.not_eq_true'] at hf
    refine ⟨hf.2, ?_⟩
    rw [run_equalIn_struct w 9999 t vs us (by simp [Program.fieldsOf, hd]) hf.1.1]
    rw [show P.fieldsOf t = fs by simp [Program.fieldsOf, hd]]
    exact eqFields_flat hv hu rv ru 9998 w fs.toList 0 ss r hf.1.2 (by simpa using ha)
  · rename_i n e hd
    simp only [Bool.and_eq_true, Bool.not_eq_true', beq_iff_eq] at hf
    obtain ⟨⟨⟨⟨h1, h2⟩, h3⟩, h4⟩, h5⟩ := hf
    refine ⟨h5, ?_⟩
    obtain ⟨i, hi⟩ := Option.isSome_iff_exists.1 h4
    rw [run_equalIn_array w 9999 vs us hd hi, h3, List.range_eq_range', ← h1]
    exact eqItems_flat hv hu rv ru 9998 w ss 0 r h2 (by simpa using ha)
  · cases hf
theorem acmp_ok (op : BinOp) (a b : Int) {r : Bool} (h : acmp op a b = some r) (w : World) : (Op.intCmp op a b).run P w = .ok (.bool r) w := by
  unfold acmp at h
  split at h <;> cases h
  all_goals (simp [Op.intCmp])
  all_goals (try rw [Bool.eq_iff_iff]; simp)
end
end Go.Proofs.YtgonmnjgodleeaaDoor
