/-
  The shadow of a run: rows as flat cells; slices of slices; strings and bytes. Nothing here speaks of the program.
-/
import Derived.Test.YtgonmnjgodleeaaDoorAx
namespace Go.Proofs.YtgonmnjgodleeaaDoor
open Go.RowKit
/-- Cells that are a row's, one element behind the other. -/
structure FlatP (p : AV → Bool) (c : Cx) (k : Nat) (l : List (List AV)) (xs : List Value) : Prop where
  len : xs.length = l.length * k
  el : ∀ (j : Nat) e, l[j]? = some e → e.length = k
  rv : ∀ (j : Nat) e (i : Nat) a, l[j]? = some e → e[i]? = some a → p a = true ∧ ∃ u, xs[j * k + i]? = some u ∧ RV c u a
abbrev Flat (c : Cx) (k : Nat) (l : List (List AV)) (xs : List Value) : Prop := FlatP AV.plain c k l xs
theorem FlatP.mono' {p : AV → Bool} {c c' : Cx} (h : Ev c c') {k : Nat} {l : List (List AV)} {xs : List Value} (hf : FlatP p c k l xs) : FlatP p c' k l xs :=
  ⟨hf.len, hf.el, fun j e i a he ha => by obtain ⟨h1, u, h2, h3⟩ := hf.rv j e i a he ha; exact ⟨h1, u, h2, h3.mono h⟩⟩
section
variable {P : Program} {T : TabT} {c : Cx}
theorem Flat.mono {c' : Cx} (h : Ev c c') {k : Nat} {l : List (List AV)} {xs : List Value} (hf : Flat c k l xs) : Flat c' k l xs :=
  ⟨hf.len, hf.el, fun j e i a he ha => by obtain ⟨h1, u, h2, h3⟩ := hf.rv j e i a he ha; exact ⟨h1, u, h2, h3.mono h⟩⟩
theorem Flat.nil {k : Nat} : Flat c k [] [] := ⟨by simp, fun j e h => by simp at h, fun j e i a h => by simp at h⟩
theorem Flat.append {k : Nat} {l l2 : List (List AV)} {xs ys : List Value} (h : Flat c k l xs) (g : Flat c k l2 ys) : Flat c k (l ++ l2) (xs ++ ys) := by
  refine ⟨by simp [h.len, g.len, Nat.add_mul], fun j e he => ?_, fun j e i a he ha => ?_⟩
  · rw [List.getElem?_append] at he
    split at he
    · exact h.el _ _ he
    · exact g.el _ _ he
  · rw [List.getElem?_append] at he
    split at he
    · rename_i hj
      obtain ⟨h1, u, h2, h3⟩ := h.rv j e i a he ha
      exact ⟨h1, u, by rw [List.getElem?_append_left (List.getElem?_eq_some_iff.1 h2).1]; exact h2, h3⟩
    · rename_i hj
      obtain ⟨h1, u, h2, h3⟩ := g.rv _ e i a he ha
      refine ⟨h1, u, ?_, h3⟩
      have hle : l.length * k ≤ j * k := Nat.mul_le_mul_right k (by omega)
      rw [List.getElem?_append_right (by rw [h.len]; omega), h.len, ← h2, Nat.sub_mul]
      congr 1; omega
theorem Flat.one {c : Cx} {k : Nat} {l : List (List AV)} {xs : List Value} (h : Flat c k l xs) : ∀ u ∈ xs, u.oneCell' = true := by
  intro u hu
  obtain ⟨q, hq⟩ := List.getElem?_of_mem hu
  have hql : q < l.length * k := by rw [← h.len]; exact (List.getElem?_eq_some_iff.1 hq).1
  have hk : 0 < k := by
    rcases Nat.eq_zero_or_pos k with h0 | h0
    · rw [h0, Nat.mul_zero] at hql; omega
    · exact h0
  have hj : q / k < l.length := (Nat.div_lt_iff_lt_mul hk).2 hql
  have hi : q % k < (l[q / k]).length := by rw [h.el _ _ (List.getElem?_eq_getElem hj)]; exact Nat.mod_lt _ hk
  obtain ⟨h1, u', h2, h3⟩ := h.rv _ _ _ _ (List.getElem?_eq_getElem hj) (List.getElem?_eq_getElem hi)
  rw [Nat.mul_comm, Nat.div_add_mod, hq] at h2
  obtain rfl := Option.some.inj h2
  exact h3.one (AV.plain_cell h1)
/-- A slice's cells, flat. -/
theorem RV.flat {v : Value} {k : Nat} {l : List (List AV)} {t : Tk} (h : RV c v (.sl k l t)) : ∃ A cap xs, v = .slice A l.length cap ∧ l.length ≤ cap ∧ cap ≤ maxLen ∧ Flat c k l xs ∧ TkOk c A l.length cap k t ∧
    (l ≠ [] → ∃ b o, A = some ⟨b, o, none⟩ ∧ ∀ (q : Nat) u, xs[q]? = some u → c.im b (o + q) ∧ c.w.cell? ⟨b, o + q, none⟩ = some u) := by
  cases h with
  | sl _ _ _ A n cap b o vs hn hcap hm hA hk hc hr ht =>
    subst hn
    have hq : ∀ q u, ((List.range (l.length * k)).map fun q => vs (q / k) (q % k))[q]? = some u → ∃ e a, l[q / k]? = some e ∧ e[q % k]? = some a ∧ u = vs (q / k) (q % k) ∧ q / k * k + q % k = q := by
      intro q u hu
      rw [List.getElem?_map] at hu
      simp only [Option.map_eq_some_iff] at hu
      obtain ⟨q', hq', rfl⟩ := hu
      obtain ⟨hlt, hq2⟩ := List.getElem?_eq_some_iff.1 hq'
      simp only [List.length_range] at hlt
      rw [List.getElem_range] at hq2
      subst hq2
      have hk0 : 0 < k := by
        rcases Nat.eq_zero_or_pos k with h0 | h0
        · rw [h0, Nat.mul_zero] at hlt; omega
        · exact h0
      have hj : q / k < l.length := (Nat.div_lt_iff_lt_mul hk0).2 hlt
      have hi : q % k < (l[q / k]).length := by rw [hk _ _ (List.getElem?_eq_getElem hj)]; exact Nat.mod_lt _ hk0
      exact ⟨_, _, List.getElem?_eq_getElem hj, List.getElem?_eq_getElem hi, rfl, by rw [Nat.mul_comm]; exact Nat.div_add_mod q k⟩
    refine ⟨A, cap, (List.range (l.length * k)).map fun q => vs (q / k) (q % k), rfl, hcap, hm, ⟨by simp, hk, fun j e i a he ha => ⟨(hc j e i a he ha).1, vs j i, ?_, hr j e i a he ha⟩⟩, ht, fun hne => ⟨b, o, hA hne, fun q u hu => ?_⟩⟩
    · have hj := (List.getElem?_eq_some_iff.1 he).1
      have hi : i < k := by rw [← hk j e he]; exact (List.getElem?_eq_some_iff.1 ha).1
      have hlt : j * k + i < l.length * k := by
        have : (j + 1) * k ≤ l.length * k := Nat.mul_le_mul_right k hj
        rw [Nat.add_mul] at this; omega
      rw [List.getElem?_map, List.getElem?_range hlt]
      have e1 : (j * k + i) / k = j := by rw [Nat.mul_comm, Nat.mul_add_div (by omega)]; rw [Nat.div_eq_of_lt hi]; rfl
      have e2 : (j * k + i) % k = i := by rw [Nat.mul_comm, Nat.mul_add_mod]; exact Nat.mod_eq_of_lt hi
      simp [e1, e2]
    · obtain ⟨e, a, h1, h2, rfl, h4⟩ := hq q u hu
      obtain ⟨_, g2, g3⟩ := hc _ _ _ _ h1 h2
      rw [Nat.add_assoc, h4] at g2 g3
      exact ⟨g2, g3⟩
theorem RV.sl_of {k : Nat} {l : List (List AV)} {xs : List Value} (hf : Flat c k l xs) {A : Option Addr} {cap : Nat} (hcap : l.length ≤ cap) (hm : cap ≤ maxLen) (b o : Nat) (hA : l ≠ [] → A = some ⟨b, o, none⟩)
    (hc : ∀ (q : Nat) u, xs[q]? = some u → c.im b (o + q) ∧ c.w.cell? ⟨b, o + q, none⟩ = some u) {t : Tk} (ht : TkOk c A l.length cap k t) {n : Nat} (hn : l.length = n) : RV c (.slice A n cap) (.sl k l t) := by
  subst hn
  refine .sl k l t A _ cap b o (fun j i => xs.getD (j * k + i) undef) rfl hcap hm hA hf.el (fun j e i a he ha => ?_) (fun j e i a he ha => ?_) ht
  · obtain ⟨h1, u, h2, h3⟩ := hf.rv j e i a he ha
    obtain ⟨g1, g2⟩ := hc _ u h2
    rw [← Nat.add_assoc] at g1 g2
    exact ⟨h1, g1, by rw [g2, List.getD_eq_getElem?_getD, h2]; rfl⟩
  · obtain ⟨h1, u, h2, h3⟩ := hf.rv j e i a he ha
    rw [List.getD_eq_getElem?_getD, h2]
    exact h3
theorem RV.psl_of {k : Nat} {l : List (List AV)} {xs : List Value} (hf : FlatP AV.cell c k l xs) {A : Option Addr} {cap : Nat} (hcap : l.length ≤ cap) (hm : cap ≤ maxLen) (b o : Nat) (hA : l ≠ [] → A = some ⟨b, o, none⟩)
    (hc : ∀ (q : Nat) u, xs[q]? = some u → c.im b (o + q) ∧ c.w.cell? ⟨b, o + q, none⟩ = some u) {n : Nat} (hn : l.length = n) : RV c (.slice A n cap) (.psl k l) := by
  subst hn
  refine .psl k l A _ cap b o (fun j i => xs.getD (j * k + i) undef) rfl hcap hm hA hf.el (fun j e i a he ha => ?_) (fun j e i a he ha => ?_)
  · obtain ⟨h1, u, h2, h3⟩ := hf.rv j e i a he ha
    obtain ⟨g1, g2⟩ := hc _ u h2
    rw [← Nat.add_assoc] at g1 g2
    exact ⟨h1, g1, by rw [g2, List.getD_eq_getElem?_getD, h2]; rfl⟩
  · obtain ⟨h1, u, h2, h3⟩ := hf.rv j e i a he ha
    rw [List.getD_eq_getElem?_getD, h2]
    exact h3
/-- A slice of a slice. -/
theorem RV.sub {k : Nat} {l : List (List AV)} {t : Tk} {A : Option Addr} {n cap : Nat} (h : RV c (.slice A n cap) (.sl k l t)) (lo hi : Nat) (h1 : lo ≤ hi) (h2 : hi ≤ n) (mx : Nat) (hmx : hi ≤ mx) (hmc : mx ≤ cap) :
    RV c (.slice (if mx = lo then A else A.map (·.add (lo * k))) (hi - lo) (mx - lo)) (.sl k ((l.take hi).drop lo) .no) := by
  cases h with
  | sl _ _ _ _ _ _ b o vs hn hcap hm hA hk hc hr ht =>
    have hel : ∀ (j : Nat) e, ((l.take hi).drop lo)[j]? = some e → l[lo + j]? = some e ∧ lo + j < hi := by
      intro j e he
      rw [List.getElem?_drop, List.getElem?_take] at he
      split at he
      · exact ⟨he, by assumption⟩
      · cases he
    refine .sl k _ .no _ _ _ b (o + lo * k) (fun j i => vs (lo + j) i) (by simp; omega) (by omega) (by omega) (fun hne => ?_) (fun j e he => hk _ e (hel j e he).1) (fun j e i a he ha => ?_) (fun j e i a he ha => hr _ e i a (hel j e he).1 ha) trivial
    · have hlen : lo < hi := by
        rcases Nat.lt_or_ge lo hi with h | h
        · exact h
        · exact absurd (List.drop_eq_nil_of_le (by simp; omega)) hne
      have : l ≠ [] := by rintro rfl; simp at hn; omega
      rw [if_neg (by omega), hA this]
      simp [Addr.add_mid]
    · obtain ⟨g1, g2, g3⟩ := hc _ e i a (hel j e he).1 ha
      rw [Nat.add_mul, ← Nat.add_assoc] at g2 g3
      exact ⟨g1, g2, g3⟩
theorem extract_list (s : ByteArray) (a b : Nat) : (s.extract a b).data.toList = (s.data.toList.take b).drop a := by
  simp [ByteArray.data_extract, Array.toList_extract, List.extract_eq_take_drop, List.drop_take]
theorem RV.ints {v : Value} {k : IntKind} {n : Int} (h : RV c v (.int k n)) : v = .int k n := by cases h; rfl
theorem aslice_ok (hT : TabOk P T) {t : Nat} {ti : TI} (ht : TIok P t ti) {v : Value} {x : AV} (hv : RV c v x) {lo hi mx : Option Value} {alo ahi amx : Option AV}
    (h1 : ∀ a, alo = some a → ∃ u, lo = some u ∧ RV c u a) (h1n : alo = none → lo = none) (h2 : ∀ a, ahi = some a → ∃ u, hi = some u ∧ RV c u a) (h2n : ahi = none → hi = none) (h3n : amx = none → mx = none)
    {r : ARes} (hr : aslice T ti alo ahi amx x = some r) (hp : r.p) : r.d = none ∧ ∃ u, (Instr.sliceAt t v lo hi mx).run P c.w = .ok u c.w ∧ RV c u r.v := by
  obtain ⟨d, hd, hso⟩ := ht.desc
  unfold sortOk at hso
  unfold aslice at hr
  split at hr
  · rename_i k l tk
    split at hr
    · rename_i e hs he
      rw [hs] at hso
      subst hso
      have hsz := (hT _ _ he).sizeOf c.w
      obtain ⟨A, cap, xs, rfl, hcap, hm, hf, _⟩ := hv.flat
      split at hr
      · cases hr
        obtain rfl := h1n rfl; obtain rfl := h2n rfl; obtain rfl := h3n rfl
        obtain rfl : k = e.size := hp
        refine ⟨rfl, _, by simp [Instr.sliceAt, Instr.slice, Instr.sliceBounds, Sem.run_bind, run_underlying hd, hsz]; rfl, ?_⟩
        have := hv.sub 0 l.length (Nat.zero_le _) (Nat.le_refl _) cap hcap (Nat.le_refl _)
        simpa using this
      · rename_i kk a
        obtain ⟨u, rfl, hu⟩ := h1 _ rfl; obtain rfl := h2n rfl; obtain rfl := h3n rfl
        cases hr
        obtain rfl := hu.ints
        obtain ⟨rfl, h0, hle⟩ := hp
        refine ⟨rfl, _, by simp [Instr.sliceAt, Instr.slice, Instr.sliceBounds, Instr.sliceBound, asIntOf, Sem.run_bind, run_underlying hd, hsz, h0, hle]; rfl, ?_⟩
        have := hv.sub a.toNat l.length (by omega) (Nat.le_refl _) cap hcap (Nat.le_refl _)
        rwa [List.take_length] at this
      · rename_i kk a
        obtain ⟨u, rfl, hu⟩ := h2 _ rfl; obtain rfl := h1n rfl; obtain rfl := h3n rfl
        cases hr
        obtain rfl := hu.ints
        obtain ⟨rfl, h0, hle⟩ := hp
        have hle2 : a ≤ (cap : Int) := by omega
        refine ⟨rfl, _, by simp [Instr.sliceAt, Instr.slice, Instr.sliceBounds, Instr.sliceBound, asIntOf, Sem.run_bind, run_underlying hd, hsz, h0, hle2]; rfl, ?_⟩
        have := hv.sub 0 a.toNat (Nat.zero_le _) (by omega) cap (by omega) (Nat.le_refl _)
        simpa using this
      · rename_i ka a kb b
        obtain ⟨u, rfl, hu⟩ := h1 _ rfl; obtain ⟨u2, rfl, hu2⟩ := h2 _ rfl; obtain rfl := h3n rfl
        cases hr
        obtain rfl := hu.ints
        obtain rfl := hu2.ints
        obtain ⟨rfl, h0, hab, hle⟩ := hp
        have hle2 : b ≤ (cap : Int) := by omega
        have hb0 : 0 ≤ b := by omega
        have hab2 : a ≤ (b.toNat : Int) := by omega
        have hab3 : a ≤ max b 0 := by omega
        refine ⟨rfl, _, by simp [Instr.sliceAt, Instr.slice, Instr.sliceBounds, Instr.sliceBound, asIntOf, Sem.run_bind, run_underlying hd, hsz, h0, hle2, hb0, hab2, hab, hab3]; rfl, ?_⟩
        exact hv.sub a.toNat b.toNat (by omega) (by omega) cap (by omega) (Nat.le_refl _)
      · cases hr
    · cases hr
  · rename_i i k o n cap
    split at hr
    · rename_i e hs he
      rw [hs] at hso
      subst hso
      have hsz := (hT _ _ he).sizeOf c.w
      cases hv with
      | msl _ _ _ _ _ b o' hk hb hn hcap hm ho =>
        have hadd0 : (Addr.mk b o' none).add 0 = ⟨b, o', none⟩ := by unfold Addr.add; simp
        have hadd : ∀ q : Nat, (Addr.mk b o' none).add (q * e.size) = ⟨b, o' + q * e.size, none⟩ := fun q => by
          unfold Addr.add; split
          · rename_i h; rw [h]; rfl
          · rfl
        split at hr
        · cases hr
          obtain rfl := h1n rfl; obtain rfl := h2n rfl; obtain rfl := h3n rfl
          obtain rfl : k = e.size := hp
          refine ⟨rfl, .slice (some ⟨b, o', none⟩) n cap, by simp [Instr.sliceAt, Instr.slice, Instr.sliceBounds, Sem.run_bind, run_underlying hd, hsz, hadd0], .msl _ _ _ _ _ b o' hk hb hn hcap hm ho⟩
        · rename_i kk a
          obtain ⟨u, rfl, hu⟩ := h1 _ rfl; obtain rfl := h2n rfl; obtain rfl := h3n rfl
          cases hr
          obtain rfl := hu.ints
          obtain ⟨rfl, h0, hle⟩ := hp
          refine ⟨rfl, .slice (some ⟨b, if cap = a.toNat then o' else o' + a.toNat * e.size, none⟩) (n - a.toNat) (cap - a.toNat), ?_, .msl _ _ _ _ _ b _ hk hb hn (by omega) (by omega) fun h => ?_⟩
          · simp [Instr.sliceAt, Instr.slice, Instr.sliceBounds, Instr.sliceBound, asIntOf, Sem.run_bind, run_underlying hd, hsz, h0, hle, hadd]
            split <;> rfl
          · rw [if_neg (by omega), ho (by omega), Nat.add_mul]
        · rename_i kk a
          obtain ⟨u, rfl, hu⟩ := h2 _ rfl; obtain rfl := h1n rfl; obtain rfl := h3n rfl
          cases hr
          obtain rfl := hu.ints
          obtain ⟨rfl, h0, hle⟩ := hp
          refine ⟨rfl, .slice (some ⟨b, o', none⟩) a.toNat cap, ?_, .msl _ _ _ _ _ b _ hk hb hn (by omega) (by omega) ho⟩
          simp [Instr.sliceAt, Instr.slice, Instr.sliceBounds, Instr.sliceBound, asIntOf, Sem.run_bind, run_underlying hd, hsz, h0, hle, hadd0]
        · rename_i ka a kb b2
          obtain ⟨u, rfl, hu⟩ := h1 _ rfl; obtain ⟨u2, rfl, hu2⟩ := h2 _ rfl; obtain rfl := h3n rfl
          cases hr
          obtain rfl := hu.ints
          obtain rfl := hu2.ints
          obtain ⟨rfl, h0, hab, hle⟩ := hp
          have hb0 : 0 ≤ b2 := by omega
          have hab2 : a ≤ (b2.toNat : Int) := by omega
          have hab3 : a ≤ max b2 0 := by omega
          refine ⟨rfl, .slice (some ⟨b, if cap = a.toNat then o' else o' + a.toNat * e.size, none⟩) (b2.toNat - a.toNat) (cap - a.toNat), ?_, .msl _ _ _ _ _ b _ hk hb hn (by omega) (by omega) fun h => ?_⟩
          · simp [Instr.sliceAt, Instr.slice, Instr.sliceBounds, Instr.sliceBound, asIntOf, Sem.run_bind, run_underlying hd, hsz, h0, hle, hb0, hab2, hab, hab3, hadd]
            split <;> rfl
          · rw [if_neg (by omega), ho (by omega), Nat.add_mul]
        · cases hr
    · cases hr
  · rename_i l
    split at hr
    · rename_i hs
      rw [hs] at hso
      subst hso
      cases hv with
      | str s _ hl =>
        subst hl
        split at hr
        · rename_i kk a
          obtain ⟨u, rfl, hu⟩ := h1 _ rfl; obtain rfl := h2n rfl; obtain rfl := h3n rfl
          cases hr
          obtain rfl := hu.ints
          obtain ⟨h0, hle⟩ := hp
          simp only [Array.length_toList, ByteArray.size_data] at hle
          refine ⟨rfl, .string (s.extract a.toNat s.size), by simp [Instr.sliceAt, Instr.slice, Instr.sliceBounds, Instr.sliceBound, asIntOf, Sem.run_bind, run_underlying hd, h0, hle], .str _ _ ?_⟩
          rw [extract_list, List.take_of_length_le (by simp)]
        · rename_i kk a
          obtain ⟨u, rfl, hu⟩ := h2 _ rfl; obtain rfl := h1n rfl; obtain rfl := h3n rfl
          cases hr
          obtain rfl := hu.ints
          obtain ⟨h0, hle⟩ := hp
          simp only [Array.length_toList, ByteArray.size_data] at hle
          refine ⟨rfl, .string (s.extract 0 a.toNat), by simp [Instr.sliceAt, Instr.slice, Instr.sliceBounds, Instr.sliceBound, asIntOf, Sem.run_bind, run_underlying hd, h0, hle], .str _ _ ?_⟩
          rw [extract_list, List.drop_zero]
        · rename_i ka a kb b
          obtain ⟨u, rfl, hu⟩ := h1 _ rfl; obtain ⟨u2, rfl, hu2⟩ := h2 _ rfl; obtain rfl := h3n rfl
          cases hr
          obtain rfl := hu.ints
          obtain rfl := hu2.ints
          obtain ⟨h0, hab, hle⟩ := hp
          simp only [Array.length_toList, ByteArray.size_data] at hle
          have hb0 : 0 ≤ b := by omega
          have hab2 : a ≤ (b.toNat : Int) := by omega
          have hab3 : a ≤ max b 0 := by omega
          exact ⟨rfl, .string (s.extract a.toNat b.toNat), by simp [Instr.sliceAt, Instr.slice, Instr.sliceBounds, Instr.sliceBound, asIntOf, Sem.run_bind, run_underlying hd, h0, hle, hb0, hab2, hab, hab3], .str _ _ (extract_list s _ _)⟩
        · cases hr
    · cases hr
  · cases hr
end
end Go.Proofs.YtgonmnjgodleeaaDoor
