/-
  The shadow of a run: full slices, maps. Nothing here speaks of the program.
-/
import Derived.Test.YtgonmnjgodleeaaDoorAz
import Derived.Maps.RangeRun
import Derived.MapKept
namespace Go.Proofs.YtgonmnjgodleeaaDoor
open Go.RowKit Go.ChangeMaps
section
variable {P : Program} {T : TabT} {c : Cx}
/-- What an operation comes to: the value, the blocks. -/
def Comes (c : Cx) (r : ARes) (q : Value) (w' : World) : Prop := ∃ ρ', RelH ⟨ρ', aupd c.h r.d, w', c.X⟩ ∧ Ev c ⟨ρ', aupd c.h r.d, w', c.X⟩ ∧ RV ⟨ρ', aupd c.h r.d, w', c.X⟩ q r.v
theorem aslice3_ok (hT : TabOk P T) (hc : RelH c) {slot : Nat} (hs : c.h[slot]? = some .free) {t : Nat} {ti : TI} (ht : TIok P t ti) {v : Value} {x : AV} (hv : RV c v x) {lo : Option Value} {vh vm : Value} {alo : Option AV} {ahi amx : AV}
    (h1 : ∀ a, alo = some a → ∃ u, lo = some u ∧ RV c u a) (h1n : alo = none → lo = none) (h2 : RV c vh ahi) (h3 : RV c vm amx) {r : ARes} (hr : aslice3 T slot ti alo ahi amx x = some r) (hp : r.p) :
    ∃ q w', (Instr.sliceAt t v lo (some vh) (some vm)).run P c.w = .ok q w' ∧ Comes c r q w' := by
  obtain ⟨d, hd, hso⟩ := ht.desc
  unfold sortOk at hso
  unfold aslice3 at hr
  split at hr
  · rename_i k l tk
    split at hr <;> first | (cases hr; done) | skip
    rename_i e kb b km m hst he
    cases hr
    rw [hst] at hso
    subst hso
    obtain ⟨rfl, rfl, h0, hle⟩ := hp
    obtain rfl := h1n rfl
    obtain rfl := h2.ints
    obtain rfl := h3.ints
    have hsz := (hT _ _ he).sizeOf c.w
    cases hv with
    | sl _ _ _ A n cap bb o vs hn hcap hm hA hk hcc hrr htt =>
      have hle2 : b ≤ (cap : Int) := by omega
      obtain ⟨q1, q2⟩ := Cx.unbornN hc slot e.size b.toNat hs
      refine ⟨.slice A b.toNat b.toNat, c.w, ?_, c.ρ, q1, q2, ?_⟩
      · have hA : A.map (fun x => x.add 0) = A := by
          cases A with
          | none => rfl
          | some a => simp [Addr.add]
        simp [Instr.sliceAt, Instr.slice, Instr.sliceBounds, Instr.sliceBound, asIntOf, Sem.run_bind, run_underlying hd, hsz, h0, hle2, hA]
        try omega
      · have hlast : (c.h.set slot (ABlk.tok e.size b.toNat))[slot]? = some (.tok e.size b.toNat) := List.getElem?_set_self (List.getElem?_eq_some_iff.1 hs).1
        have hg : ∀ (j : Nat) x, (l.take b.toNat)[j]? = some x → l[j]? = some x := fun j x hx => by
          rw [List.getElem?_take] at hx
          split at hx
          · exact hx
          · cases hx
        refine .sl _ _ _ A _ _ bb o vs (by rw [List.length_take]; omega) (Nat.le_refl _) (by omega) (fun h => hA fun e => h (by rw [e]; simp)) (fun j x hx => hk j x (hg j x hx)) (fun j x i a hx ha => ?_) (fun j x i a hx ha => (hrr j x i a (hg j x hx) ha).mono q2) ?_
        · obtain ⟨g1, g2, g3⟩ := hcc j x i a (hg j x hx) ha
          obtain ⟨w1, w2⟩ := q2.im _ _ g2
          exact ⟨g1, w1, w2.trans g3⟩
        · refine ⟨⟨_, hlast, rfl⟩, fun k' n' e' => ?_⟩
          have e2 : (c.h.set slot (ABlk.tok e.size b.toNat))[slot]? = some (.tok k' n') := e'
          rw [hlast] at e2
          cases e2
          exact ⟨rfl, Nat.le_refl _, fun _ => .inl rfl⟩
  · split at hr <;> first | (cases hr; done) | skip
    rename_i e ka a kb b km m hst he
    cases hr
    rw [hst] at hso
    subst hso
    obtain ⟨rfl, h0, hab, hbm, hmc⟩ := hp
    obtain ⟨u, rfl, hu⟩ := h1 _ rfl
    obtain rfl := hu.ints
    obtain rfl := h2.ints
    obtain rfl := h3.ints
    cases hv with
    | msl _ _ _ _ _ bb o' hk hb hn hcap hm ho =>
      have hsz := (hT _ _ he).sizeOf c.w
      have g1 : 0 ≤ b := by omega
      have g2 : 0 ≤ m := by omega
      have g3 : b ≤ (m.toNat : Int) := by omega
      have g4 : a ≤ (b.toNat : Int) := by omega
      have g6 : b ≤ max m 0 := by omega
      have g7 : a ≤ max b 0 := by omega
      have g5 : ∀ n, (Addr.mk bb o' none).add n = ⟨bb, o' + n, none⟩ := fun n => by
        unfold Addr.add; split
        · rename_i h; rw [h]; rfl
        · rfl
      refine ⟨.slice (some ⟨bb, if m.toNat = a.toNat then o' else o' + a.toNat * e.size, none⟩) (b.toNat - a.toNat) (m.toNat - a.toNat), c.w, ?_, c.ρ, hc, Ev.refl c, .msl _ _ _ _ _ bb _ hk hb hn (by omega) (by omega) fun h => ?_⟩
      · simp [Instr.sliceAt, Instr.slice, Instr.sliceBounds, Instr.sliceBound, asIntOf, Sem.run_bind, run_underlying hd, hsz, h0, hab, hbm, hmc, g1, g2, g3, g4, g5, g6, g7]
        try (split <;> first | rfl | omega)
      · rw [if_neg (by omega), ho (by omega), Nat.add_mul]
  · split at hr <;> first | (cases hr; done) | skip
    rename_i e kb b km m hst he
    cases hr
    rw [hst] at hso
    subst hso
    obtain ⟨rfl, rfl⟩ := hp
    obtain rfl := h1n rfl
    obtain rfl := h2.ints
    obtain rfl := h3.ints
    cases hv
    have hsz := (hT _ _ he).sizeOf c.w
    exact ⟨.slice none 0 0, c.w, by simp [Instr.sliceAt, Instr.slice, Instr.sliceBounds, Instr.sliceBound, asIntOf, Sem.run_bind, run_underlying hd, hsz], c.ρ, hc, Ev.refl c, .nils⟩
  · cases hr
/-! ### maps -/
theorem bytes_ext {s s' : ByteArray} (h : s.data.toList = s'.data.toList) : s = s' := by
  cases s; cases s'
  simp only [ByteArray.mk.injEq]
  exact Array.toList_inj.1 h
theorem bytes_beq {s s' : ByteArray} : (s == s') = decide (s.data.toList = s'.data.toList) := by
  show (s.data == s'.data) = _
  rw [Bool.eq_iff_iff, decide_eq_true_eq, beq_iff_eq]
  exact ⟨fun h => by rw [h], fun h => Array.toList_inj.1 h⟩
/-- A key's type: compared at once, or a struct of numbers and texts. -/
def KeyD (P : Program) (kt : Nat) (d : TypeDesc) : AV → Prop
  | .int _ _ => ∃ k, d = .int k
  | .str _ => d = .string
  | .agg cs => ∃ fs ss, d = .struct fs ∧ flatEq P kt ss = true ∧ keyCs ss cs = true
  | _ => False
theorem keyTy_ok {kt : Nat} {ki : TI} (ht : TIok P kt ki) {key : AV} (h : keyTy ki key = true) : ∃ d, P.underlying kt = some d ∧ KeyD P kt d key := by
  obtain ⟨d, hd, hso⟩ := ht.desc
  refine ⟨d, hd, ?_⟩
  unfold keyTy at h
  unfold sortOk at hso
  split at h
  · split at h
    · rename_i hs; rw [hs] at hso; exact ⟨_, hso⟩
    · cases h
  · split at h
    · rename_i hs; rw [hs] at hso; exact hso
    · cases h
  · split at h
    · rename_i s ss hs he
      rw [hs] at hso
      obtain ⟨fs, rfl, _⟩ := hso
      have := ht.eq (by rw [he]; simp)
      rw [he] at this
      exact ⟨fs, _, rfl, this, h⟩
    · cases h
  · cases h
/-- Cells that are told the same by the key are told so by the type. -/
theorem akeqs_aeqs : ∀ {ss : List TS} {xs ys : List AV} {r : Bool}, keyCs ss xs = true → akeqs xs ys = some r → aeqs ss xs ys = some r
  | [], [], ys, r, _, h => by
    cases ys with
    | nil => exact h
    | cons y ys => simp [akeqs] at h
  | [], x :: xs, ys, r, hk, h => by simp [keyCs] at hk
  | s :: ss, [], ys, r, hk, h => by cases s <;> simp [keyCs] at hk
  | s :: ss, x :: xs, ys, r, hk, h => by
    unfold keyCs at hk
    split at hk
    · rename_i e _; cases e
    · rename_i e1 e2
      cases e1; cases e2
      cases ys with
      | nil => simp [akeqs] at h
      | cons y ys =>
        cases y with
        | int k' b =>
          unfold akeqs at h
          unfold aeqs
          split at h
          · rename_i hkk
            rw [if_pos hkk]
            simp only [Option.map_eq_some_iff] at h ⊢
            obtain ⟨r', h1, h2⟩ := h
            exact ⟨r', akeqs_aeqs hk h1, h2⟩
          · cases h
        | _ => simp [akeqs] at h
    · rename_i e1 e2
      cases e1; cases e2
      cases ys with
      | nil => simp [akeqs] at h
      | cons y ys =>
        cases y with
        | str b =>
          unfold akeqs at h
          unfold aeqs
          simp only [Option.map_eq_some_iff] at h ⊢
          obtain ⟨r', h1, h2⟩ := h
          exact ⟨r', akeqs_aeqs hk h1, h2⟩
        | _ => simp [akeqs] at h
    · cases hk
/-- Cells of scalars that are the same lie alike. -/
theorem akeqs_same : ∀ {ss : List TS} {xs ys : List AV}, keyCs ss xs = true → akeqs xs ys = some true → xs = ys
  | [], [], ys, _, h => by
    cases ys with
    | nil => rfl
    | cons y ys => simp [akeqs] at h
  | [], x :: xs, ys, hk, h => by simp [keyCs] at hk
  | s :: ss, [], ys, hk, h => by cases s <;> simp [keyCs] at hk
  | s :: ss, x :: xs, ys, hk, h => by
    unfold keyCs at hk
    split at hk
    · rename_i e _; cases e
    · rename_i e1 e2
      cases e1; cases e2
      cases ys with
      | nil => simp [akeqs] at h
      | cons y ys =>
        cases y with
        | int k' b =>
          unfold akeqs at h
          split at h
          · rename_i hkk
            simp only [Option.map_eq_some_iff, Bool.and_eq_true, decide_eq_true_eq] at h
            obtain ⟨r', h1, h2, rfl⟩ := h
            subst hkk h2
            rw [akeqs_same hk h1]
          · cases h
        | _ => simp [akeqs] at h
    · rename_i e1 e2
      cases e1; cases e2
      cases ys with
      | nil => simp [akeqs] at h
      | cons y ys =>
        cases y with
        | str b =>
          unfold akeqs at h
          simp only [Option.map_eq_some_iff, Bool.and_eq_true, decide_eq_true_eq] at h
          obtain ⟨r', h1, h2, rfl⟩ := h
          subst h2
          rw [akeqs_same hk h1]
        | _ => simp [akeqs] at h
    · cases hk
/-- What reads as such a cell is one value. -/
theorem keyCs_one : ∀ {ss : List TS} {cs : List AV}, keyCs ss cs = true → ∀ (i : Nat) a, cs[i]? = some a → (∃ k n, a = .int k n) ∨ ∃ l, a = .str l
  | [], [], _, i, a, h => by simp at h
  | [], x :: xs, hk, i, a, h => by simp [keyCs] at hk
  | s :: ss, [], hk, i, a, h => by simp at h
  | s :: ss, x :: xs, hk, i, a, h => by
    unfold keyCs at hk
    split at hk
    · rename_i e _; cases e
    · rename_i e1 e2
      cases e1; cases e2
      cases i with
      | zero => simp at h; exact .inl ⟨_, _, h.symm⟩
      | succ i => exact keyCs_one hk i a (by simpa using h)
    · rename_i e1 e2
      cases e1; cases e2
      cases i with
      | zero => simp at h; exact .inr ⟨_, h.symm⟩
      | succ i => exact keyCs_one hk i a (by simpa using h)
    · cases hk
theorem RV.onev {u v : Value} {a : AV} (h : (∃ k n, a = .int k n) ∨ ∃ l, a = .str l) (hu : RV c u a) (hv : RV c v a) : u = v := by
  rcases h with ⟨k, n, rfl⟩ | ⟨l, rfl⟩
  · cases hu; cases hv; rfl
  · cases hu with
    | str s _ hs =>
      cases hv with
      | str s' _ hs' => subst hs; rw [bytes_ext hs']
theorem agg_onev {ss : List TS} {cs : List AV} (hk : keyCs ss cs = true) {u v : Value} (hu : RV c u (.agg cs)) (hv : RV c v (.agg cs)) : u = v := by
  cases hu with
  | agg us _ h1 _ hr1 =>
    cases hv with
    | agg vs _ h2 _ hr2 =>
      congr 1
      refine Array.ext (by rw [h1, h2]) fun i hi1 hi2 => ?_
      have hi : i < cs.length := by rw [← h1]; exact hi1
      exact RV.onev (keyCs_one hk i _ (List.getElem?_eq_getElem hi)) (hr1 i _ _ (Array.getElem?_eq_getElem hi1) (List.getElem?_eq_getElem hi)) (hr2 i _ _ (Array.getElem?_eq_getElem hi2) (List.getElem?_eq_getElem hi))
theorem sameNow_ok {kt : Nat} {d : TypeDesc} {key p : AV} (hna : ∀ cs, key ≠ .agg cs) (hk : KeyD P kt d key) {u v : Value} (hu : RV c u key) (hv : RV c v p) {b : Bool} (h : akeq key p = some b) : Instr.sameNow d u v = some b ∧ (b = true → Instr.sameBits 10000 v u = true ∧ u = v) := by
  unfold akeq at h
  split at h
  · rename_i k a k' a'
    split at h
    · rename_i hkk
      subst hkk
      cases h
      obtain ⟨k0, rfl⟩ := hk
      cases hu; cases hv
      refine ⟨by simp only [Instr.sameNow, if_true]; congr 1, fun hb => ?_⟩
      simp only [decide_eq_true_eq] at hb
      subst hb
      exact ⟨by simp [Instr.sameBits], rfl⟩
    · cases h
  · rename_i a a'
    cases h
    obtain rfl := hk
    cases hu with
    | str s _ hs =>
      cases hv with
      | str s' _ hs' =>
        subst hs hs'
        refine ⟨by simp [Instr.sameNow, bytes_beq], fun hb => ?_⟩
        simp only [decide_eq_true_eq] at hb
        obtain rfl := bytes_ext hb
        exact ⟨by simp [Instr.sameBits, bytes_beq], rfl⟩
  · exact absurd rfl (hna _)
  · cases h
theorem findNow_ok {kt : Nat} {d : TypeDesc} {key : AV} (hna : ∀ cs, key ≠ .agg cs) (hk : KeyD P kt d key) {u : Value} (hu : RV c u key) : ∀ (es : List MapEntry) (l : List (AV × AV)) (i : Nat) (res : Option Nat), es.length = l.length → (∀ (j : Nat) e p, es[j]? = some e → l[j]? = some p → RV c e.key p.1) → afind key l i = some res →
    match res with
    | none => Instr.findNow d u es i = some none
    | some j => i ≤ j ∧ j < i + l.length ∧ ∃ e, es[j - i]? = some e ∧ e.key = u ∧ Instr.findNow d u es i = some (some (j, e.val))
  | [], [], i, res, _, _, h => by
    simp only [afind, Option.some.injEq] at h
    subst h
    rfl
  | e :: es, p :: l, i, res, hl, hr, h => by
    have h0 := hr 0 e p rfl rfl
    simp only [afind] at h
    split at h
    · rename_i hq
      cases h
      obtain ⟨g1, g2⟩ := sameNow_ok hna hk hu h0 hq
      refine ⟨Nat.le_refl _, by simp, e, by simp, (g2 rfl).2.symm, ?_⟩
      simp [Instr.findNow, g1]
    · rename_i hq
      obtain ⟨g1, _⟩ := sameNow_ok hna hk hu h0 hq
      have ih := findNow_ok hna hk hu es l (i + 1) res (by simpa using hl) (fun j e p he hp => hr (j + 1) e p (by simpa using he) (by simpa using hp)) h
      cases res with
      | none => simp only at ih ⊢; simp [Instr.findNow, g1, ih]
      | some j =>
        simp only at ih ⊢
        obtain ⟨k1, k2, e', k3, k4, k5⟩ := ih
        refine ⟨by omega, by simp; omega, e', ?_, k4, by simp [Instr.findNow, g1, k5]⟩
        rw [show j - i = (j - (i + 1)) + 1 by omega]
        simpa using k3
    · cases h
  | [], _ :: _, _, _, h, _, _ => by simp at h
  | _ :: _, [], _, _, h, _, _ => by simp at h
theorem findAsking_ok {kt : Nat} {ss : List TS} {cs : List AV} (hf : flatEq P kt ss = true) (hkc : keyCs ss cs = true) {u : Value} (hu : RV c u (.agg cs)) (w : World) : ∀ (es : List MapEntry) (l : List (AV × AV)) (i : Nat) (res : Option Nat), es.length = l.length → (∀ (j : Nat) e p, es[j]? = some e → l[j]? = some p → RV c e.key p.1) → afind (.agg cs) l i = some res →
    match res with
    | none => (Instr.findAsking kt u es i).run P w = .ok none w
    | some j => i ≤ j ∧ j < i + l.length ∧ ∃ e, es[j - i]? = some e ∧ e.key = u ∧ (Instr.findAsking kt u es i).run P w = .ok (some (j, e.val)) w
  | [], [], i, res, _, _, h => by
    simp only [afind, Option.some.injEq] at h
    subst h
    simp [Instr.findAsking]
  | e :: es, p :: l, i, res, hl, hr, h => by
    have h0 := hr 0 e p rfl rfl
    have heq : ∀ b, akeq (.agg cs) p.1 = some b → (Op.equal kt u e.key).run P w = .ok b w ∧ (b = true → e.key = u) := fun b hb => by
      cases hp : p.1 with
      | agg ds =>
        rw [hp] at hb h0
        have hb' : akeqs cs ds = some b := hb
        have hu' := hu
        cases hu' with
        | agg us _ hs1 hc1 hr1 =>
          generalize hek : e.key = ek at h0
          have h0' := h0
          cases h0' with
          | agg vs _ hs2 hc2 hr2 =>
            refine ⟨?_, fun ht => ?_⟩
            · have := (agg_eq (w := w) hf hs1 hs2 hr1 hr2 (akeqs_aeqs hkc hb')).2
              simpa [Op.equal, Op.maxDepth] using this
            · subst ht
              obtain rfl := akeqs_same hkc hb'
              exact agg_onev hkc h0 hu
      | _ => rw [hp] at hb; simp [akeq] at hb
    simp only [afind] at h
    split at h
    · rename_i hq
      cases h
      obtain ⟨g1, g2⟩ := heq _ hq
      refine ⟨Nat.le_refl _, by simp, e, by simp, g2 rfl, ?_⟩
      simp [Instr.findAsking, Sem.run_bind, g1]
    · rename_i hq
      obtain ⟨g1, _⟩ := heq _ hq
      have ih := findAsking_ok hf hkc hu w es l (i + 1) res (by simpa using hl) (fun j e p he hp => hr (j + 1) e p (by simpa using he) (by simpa using hp)) h
      cases res with
      | none => simp only at ih ⊢; simp [Instr.findAsking, Sem.run_bind, g1, ih]
      | some j =>
        simp only at ih ⊢
        obtain ⟨k1, k2, e', k3, k4, k5⟩ := ih
        refine ⟨by omega, by simp; omega, e', ?_, k4, by simp [Instr.findAsking, Sem.run_bind, g1, k5]⟩
        rw [show j - i = (j - (i + 1)) + 1 by omega]
        simpa using k3
    · cases h
  | [], _ :: _, _, _, h, _, _ => by simp at h
  | _ :: _, [], _, _, h, _, _ => by simp at h
theorem run_findKey {kt : Nat} {d : TypeDesc} (hd : P.underlying kt = some d) {key : AV} (hk : KeyD P kt d key) {u : Value} (hu : RV c u key) {es : Array MapEntry} {l : List (AV × AV)} (hl : es.size = l.length) (hr : ∀ (j : Nat) e p, es[j]? = some e → l[j]? = some p → RV c e.key p.1) {res : Option Nat} (h : afind key l 0 = some res) (w : World) :
    match res with
    | none => (Instr.findKey kt u es.toList).run P w = .ok none w
    | some j => j < l.length ∧ ∃ e, es[j]? = some e ∧ e.key = u ∧ (Instr.findKey kt u es.toList).run P w = .ok (some (j, e.val)) w := by
  by_cases hag : ∃ cs, key = .agg cs
  · obtain ⟨cs, rfl⟩ := hag
    obtain ⟨fs, ss, rfl, hf, hkc⟩ := hk
    have := findAsking_ok (c := c) hf hkc hu w es.toList l 0 res (by simpa using hl) (fun j e p he hp => hr j e p (by simpa using he) hp) h
    have hfk : (Instr.findKey kt u es.toList).run P w = (Instr.findAsking kt u es.toList 0).run P w := by
      cases hes : es.toList with
      | nil => simp [Instr.findKey, Sem.run_bind, run_underlying hd, Instr.findNow, Instr.findAsking]
      | cons e es' => simp [Instr.findKey, Sem.run_bind, run_underlying hd, Instr.findNow, Instr.sameNow]
    cases res with
    | none => simp only at this ⊢; rw [hfk]; exact this
    | some j =>
      simp only at this ⊢
      obtain ⟨_, k2, e, k3, k4, k5⟩ := this
      exact ⟨by omega, e, by simpa using k3, k4, by rw [hfk]; exact k5⟩
  have hna : ∀ cs, key ≠ .agg cs := fun cs e => hag ⟨cs, e⟩
  have := findNow_ok (c := c) hna hk hu es.toList l 0 res (by simpa using hl) (fun j e p he hp => hr j e p (by simpa using he) hp) h
  cases res with
  | none => simp only at this ⊢; simp [Instr.findKey, Sem.run_bind, run_underlying hd, this]
  | some j =>
    simp only at this ⊢
    obtain ⟨_, k2, e, k3, k4, k5⟩ := this
    refine ⟨by omega, e, by simpa using k3, k4, by simp [Instr.findKey, Sem.run_bind, run_underlying hd, k5]⟩
theorem forIn_ok {B : Field → PUnit → Sem (ForInStep PUnit)} {w : World} : ∀ (fs : List Field), (∀ f ∈ fs, (B f PUnit.unit).run P w = .ok (ForInStep.yield PUnit.unit) w) → (forIn fs PUnit.unit B).run P w = .ok PUnit.unit w
  | [], _ => by simp
  | f :: fs, h => by
    rw [List.forIn_cons]
    simp only [Sem.run_bind, h f (List.mem_cons_self ..), Result.andThen_ok]
    exact forIn_ok fs fun g hg => h g (List.mem_cons_of_mem _ hg)
/-- The fields of a key, checked. -/
theorem check_fields {vs : Array Value} {xs : List AV} (hv : vs.size = xs.length) (rv : ∀ (i : Nat) v a, vs[i]? = some v → xs[i]? = some a → RV c v a) (e : Bool) (w : World) :
    ∀ (fs : List Field) (o : Nat) (ss : List TS), flatL P fs o ss = true → keyCs ss (xs.drop o) = true →
      ∀ f ∈ fs, f.name ≠ "_" ∧ ∃ v, (Go.part f.type vs f.offset).run P w = .ok v w ∧ (Instr.checkKey e 9999 f.type v).run P w = .ok () w
  | [], o, ss, h, ha => by simp
  | f :: fs, o, [], h, ha => by cases h
  | f :: fs, o, s :: ss, h, ha => by
    simp only [flatL, Bool.and_eq_true, beq_iff_eq, bne_iff_ne] at h
    obtain ⟨⟨⟨h1, h2⟩, h3⟩, h4⟩ := h
    cases hx : xs.drop o with
    | nil => rw [hx] at ha; cases s <;> simp [keyCs] at ha
    | cons x xs' =>
      rw [hx] at ha
      have hxo : xs[o]? = some x := by have := congrArg (·[0]?) hx; simpa [List.getElem?_drop] using this
      have hvo : o < vs.size := by rw [hv]; exact (List.getElem?_eq_some_iff.1 hxo).1
      have hx' : xs.drop (o + 1) = xs' := by rw [← List.drop_drop, hx]; rfl
      have hone := keyCs_one ha 0 x rfl
      have hss : keyCs ss xs' = true := by
        unfold keyCs at ha
        split at ha
        · rename_i q _; cases q
        · rename_i q1 q2; cases q1; cases q2; exact ha
        · rename_i q1 q2; cases q1; cases q2; exact ha
        · cases ha
      have ih := check_fields hv rv e w fs (o + 1) ss h4 (by rw [hx']; exact hss)
      have hag : ∀ W : World, (isAgg f.type).run P W = .ok false W := by
        intro W
        unfold scalB at h3
        unfold Go.isAgg
        rw [Sem.run_bind]
        split at h3 <;> first | cases h3; done | (rename_i hd _; rw [run_underlying hd]; simp) | (rename_i hd; rw [run_underlying hd]; simp)
      have p1 : (Go.part f.type vs f.offset).run P w = .ok vs[o] w := by simp [Go.part, Sem.run_bind, hag, h1, hvo]
      have hck : (Instr.checkKey e 9999 f.type vs[o]).run P w = .ok () w := by
        have hr := rv o vs[o] x (Array.getElem?_eq_getElem hvo) hxo
        show (Instr.checkKey e (9998 + 1) f.type vs[o]).run P w = .ok () w
        unfold Instr.checkKey
        generalize vs[o] = y at hr
        rcases hone with ⟨k, n, rfl⟩ | ⟨l, rfl⟩
        · cases hr
          unfold scalB at h3
          split at h3 <;> first | cases h3; done | (rename_i hd _; simp [Sem.run_bind, run_underlying hd]) | (rename_i hd; simp [Sem.run_bind, run_underlying hd])
        · cases hr
          unfold scalB at h3
          split at h3 <;> first | cases h3; done | (rename_i hd _; simp [Sem.run_bind, run_underlying hd]) | (rename_i hd; simp [Sem.run_bind, run_underlying hd])
      intro g hg
      rcases List.mem_cons.1 hg with rfl | hg
      · exact ⟨h2, _, p1, hck⟩
      · exact ih g hg
theorem run_check {kt : Nat} {d : TypeDesc} (hd : P.underlying kt = some d) {key : AV} (hk : KeyD P kt d key) {u : Value} (hu : RV c u key) (e : Bool) (w : World) : (Instr.checkKey e 10000 kt u).run P w = .ok () w := by
  show (Instr.checkKey e (9999 + 1) kt u).run P w = .ok () w
  unfold Instr.checkKey
  simp only [Sem.run_bind, run_underlying hd, Result.andThen]
  unfold KeyD at hk
  split at hk
  · obtain ⟨k, rfl⟩ := hk; cases hu; simp
  · subst hk; cases hu; simp
  · obtain ⟨fs, ss, rfl, hf, hkc⟩ := hk
    cases hu with
    | agg vs cs hs _ hr =>
      unfold flatEq at hf
      rw [hd] at hf
      simp only [Bool.and_eq_true, Bool.not_eq_true'] at hf
      have := check_fields (P := P) (c := c) hs hr e w fs.toList 0 ss hf.1.2 (by simpa using hkc)
      simp only [← Array.forIn_toList]
      rw [Sem.run_bind, forIn_ok (P := P) fs.toList]
      · simp
      · intro f hf
        obtain ⟨g1, v, g2, g3⟩ := this f hf
        simp [g1, Sem.run_bind, g2, g3]
  · exact hk.elim
theorem run_stays {u v : Value} (h : Instr.sameBits 10000 v u = true) (w : World) : (Instr.keyThatStays v u).run P w = .ok u w := by
  simp [Instr.keyThatStays, h]
theorem sameBits_self {kt : Nat} {key : AV} {d : TypeDesc} (hk : KeyD P kt d key) {u : Value} (hu : RV c u key) : Instr.sameBits 10000 u u = true := by
  unfold KeyD at hk
  split at hk
  · cases hu; simp [Instr.sameBits]
  · cases hu; simp [Instr.sameBits, bytes_beq]
  · rename_i cs
    obtain ⟨fs, ss, rfl, hf, hkc⟩ := hk
    cases hu with
    | agg vs _ hs _ hr =>
      show Instr.sameBits (9999 + 1) (.agg vs) (.agg vs) = true
      simp only [Instr.sameBits, beq_self_eq_true, Bool.true_and, List.all_eq_true]
      rintro ⟨x, y⟩ hxy
      obtain ⟨i, hi⟩ := List.getElem?_of_mem hxy
      rw [List.getElem?_zip_eq_some] at hi
      obtain ⟨hi1, hi2⟩ := hi
      simp only at hi1 hi2
      rw [hi1] at hi2
      cases hi2
      rw [Array.getElem?_toList] at hi1
      have hil : i < cs.length := by rw [← hs]; exact (Array.getElem?_eq_some_iff.1 hi1).1
      have hv := hr i x _ hi1 (List.getElem?_eq_getElem hil)
      have hone := keyCs_one hkc i _ (List.getElem?_eq_getElem hil)
      generalize cs[i] = a at hv hone
      show Instr.sameBits (9998 + 1) x x = true
      rcases hone with ⟨k, n, rfl⟩ | ⟨l, rfl⟩
      · cases hv; simp [Instr.sameBits]
      · cases hv; simp [Instr.sameBits, bytes_beq]
  · exact hk.elim
/-- A map's entries, written. -/
theorem Cx.setMap (hc : RelH c) {i b : Nat} {l l' : List (AV × AV)} {es es' : Array MapEntry} (hi : c.h[i]? = some (.map l)) (hb : c.ρ i = some b) (hes : c.w.heap[b]? = some (.map es l.length)) (hl : es'.size = l'.length)
    (hr : ∀ (j : Nat) e p, es'[j]? = some e → l'[j]? = some p → e.born = j ∧ RV c e.key p.1 ∧ RV c e.val p.2) :
    RelH ⟨c.ρ, c.h.set i (.map l'), setBlock c.w b (.map es' l'.length), c.X⟩ ∧ Ev c ⟨c.ρ, c.h.set i (.map l'), setBlock c.w b (.map es' l'.length), c.X⟩ :=
  Cx.write hc i (.map l) (.map l') b hi hb rfl rfl _ (by simp [setBlock]) rfl rfl rfl (fun b' hb' => heap_setBlock_other hes _ hb') (fun o h => h.elim) (.inl ⟨rfl, rfl⟩) (fun vs e f h0 => by rw [hes] at h0; cases h0) fun hev =>
    ⟨b, es', hb, heap_setBlock_same hes _, hl, fun j e p he hp => by obtain ⟨h1, h2, h3⟩ := hr j e p he hp; exact ⟨h1, h2.mono hev, h3.mono hev⟩⟩
theorem amakeMap_ok (hc : RelH c) {slot : Nat} (hs : c.h[slot]? = some .free) (t : Nat) : ∃ q w', (Instr.makeMap t none).run P c.w = .ok q w' ∧ Comes c ⟨True, .mp slot, some (slot, .map [])⟩ q w' := by
  have hsl : slot < c.h.length := (List.getElem?_eq_some_iff.1 hs).1
  obtain ⟨h1, h2⟩ := Cx.alloc hc slot .free hs (.map []) (.inl rfl) rfl (c.w.alloc (.map #[] 0)) (.map #[] 0) rfl rfl rfl rfl (fun hev =>
    ⟨c.w.heap.size, #[], setρ_same _ _ _, (by show (c.w.heap.push _)[c.w.heap.size]? = _; simp), rfl, fun j e p he => by simp at he⟩)
  refine ⟨.map (some c.w.heap.size), c.w.alloc (.map #[] 0), by simp [Instr.makeMap], _, h1, h2, .mp _ _ ⟨_, List.getElem?_set_self hsl, rfl⟩ (setρ_same _ _ _) fun x hx => ?_⟩
  simp only [aupd] at hx
  rw [List.getElem?_set_self hsl] at hx
  cases hx; rfl
theorem mapK_ok (hT : TabOk P T) {t : Nat} {ti : TI} (ht : TIok P t ti) {ki ei : TI} (h : mapK T ti = some (ki, ei)) : ∃ kt et, P.underlying t = some (.map kt et) ∧ TIok P kt ki ∧ TIok P et ei := by
  obtain ⟨d, hd, hso⟩ := ht.desc
  unfold sortOk at hso
  unfold mapK at h
  split at h
  · rename_i o k hs ho
    rw [hs] at hso
    obtain ⟨k', rfl, hk⟩ := hso
    rw [ho] at hk
    cases hk
    simp only [Option.bind_eq_some_iff, Option.map_eq_some_iff, Prod.mk.injEq] at h
    obtain ⟨ki', h1, ei', h2, rfl, rfl⟩ := h
    exact ⟨_, _, hd, hT _ _ h1, hT _ _ h2⟩
  · cases h
theorem zero_ok {et : Nat} {ei : TI} (ht : TIok P et ei) {z : AV} (h : cellsAs ei.agg ei.zero = some z) (w : World) : ∃ q, (zeroValue et).run P w = .ok q w ∧ ∀ c : Cx, RV c q z := by
  obtain ⟨i, q, g1, g2, g3, g4, g5, g6⟩ := ht.info
  have hz := ht.za i q g1 g4
  refine ⟨q, by simp [zeroValue, typeInfo, Sem.run_bind, g1, g4], fun c => ?_⟩
  unfold cellsAs at h
  split at h
  · rename_i hag
    rw [hag] at hz
    cases h
    unfold aggB at hz
    split at hz
    · rename_i cs
      refine .agg _ _ g5 (fun j a ha => ?_) (fun j v a hv ha => (g6 j v a hv ha).2 c)
      have hj : j < cs.size := by rw [show cs.size = ei.zero.length from g5]; exact (List.getElem?_eq_some_iff.1 ha).1
      exact AV.plain_cell (g6 j cs[j] a (Array.getElem?_eq_getElem hj) ha).1
    · cases hz
  · rename_i hag
    have hag' : ei.agg = false := by simpa using hag
    rw [hag'] at hz
    split at h
    · rename_i x hx
      cases h
      rw [hx] at g6
      have hq : q.cells = #[q] := by
        unfold aggB at hz
        split at hz
        · cases hz
        · rename_i hne
          unfold Value.cells
          split
          · rename_i cs; exact absurd rfl (hne cs)
          · rfl
      exact (g6 0 q z (by rw [hq]; rfl) rfl).2 c
    · cases h
theorem getElem?_pset (l : List (AV × AV)) (j : Nat) (v : AV) (i : Nat) : (pset l j v)[i]? = if j = i then (l[i]?).map (fun p => (p.1, v)) else l[i]? := by
  unfold pset
  rw [List.getElem?_modify]
  split <;> simp
theorem length_pset (l : List (AV × AV)) (j : Nat) (v : AV) : (pset l j v).length = l.length := by simp [pset]
theorem amapEntry_ok (hT : TabOk P T) (hc : RelH c) {t : Nat} {ti : TI} (ht : TIok P t ti) {vm vk : Value} {m key : AV} (hm : RV c vm m) (hk : RV c vk key) {r : ARes} (hr : amapEntry T c.h ti m key = some r) :
    ∃ q w', (Instr.mapEntry t vm vk).run P c.w = .ok q w' ∧ Comes c r q w' := by
  unfold amapEntry at hr
  split at hr
  · rename_i i
    split at hr <;> first | (cases hr; done) | skip
    rename_i l ki ei hi hmk
    obtain ⟨kt, et, hd, hkt, het⟩ := mapK_ok hT ht hmk
    cases hm with
    | mp _ b hkn hb hn =>
      obtain ⟨b', es, g1, g2, g3, g4⟩ := hc.blk i _ hi
      rw [hb] at g1
      obtain rfl := Option.some.inj g1
      split at hr <;> first | (cases hr; done) | skip
      · rename_i j z hty hf hz
        cases hr
        obtain ⟨d, hkd, hKD⟩ := keyTy_ok hkt hty
        obtain ⟨hj, e, he, hek, hfind⟩ := run_findKey hkd hKD hk g3 (fun j e p he hp => (g4 j e p he hp).2.1) hf c.w
        obtain ⟨q1, q2⟩ := Cx.setMap hc hi hb g2 (l' := l) (es' := es.modify j fun e => { e with key := vk }) (by simpa using g3) (fun j' e' p he' hp => by
          rw [Array.getElem?_modify] at he'
          split at he'
          · rename_i hjj
            subst hjj
            rw [he] at he'
            cases he'
            obtain ⟨w0, w1, w2⟩ := g4 j e p he hp
            exact ⟨w0, by rw [← hek]; exact w1, w2⟩
          · exact g4 j' e' p he' hp)
        obtain ⟨p, hp⟩ : ∃ p, l[j]? = some p := ⟨_, List.getElem?_eq_getElem hj⟩
        obtain ⟨w0, w1, w2⟩ := g4 j e p he hp
        refine ⟨.tuple #[e.val, goInt e.born], _, ?_, c.ρ, q1, q2, .tup _ _ rfl fun n v a hv ha => ?_⟩
        · simp [Instr.mapEntry, Sem.run_bind, run_underlying hd, MapKept.run_getObj_map g2, run_check hkd hKD hk, hfind, he, hek, run_stays (sameBits_self hKD hk), MapKept.run_setObj_map _ g2, setBlock]
        · rw [hp] at ha
          match n, hv, ha with
          | 0, hv, ha => simp at hv ha; subst hv ha; exact w2.mono q2
          | 1, hv, ha => simp [goInt] at hv ha; subst hv ha; rw [w0]; exact .int _ _
          | n + 2, hv, ha => simp at hv
      · rename_i z hty hf hz
        cases hr
        obtain ⟨d, hkd, hKD⟩ := keyTy_ok hkt hty
        have hfind := run_findKey hkd hKD hk g3 (fun j e p he hp => (g4 j e p he hp).2.1) hf c.w
        obtain ⟨zv, hz1, hz2⟩ := zero_ok het hz c.w
        obtain ⟨q1, q2⟩ := Cx.setMap hc hi hb g2 (l' := l ++ [(key, z)]) (es' := es.push { key := vk, val := zv, born := l.length }) (by simpa using g3) (fun j' e' p he' hp => by
          rw [Array.getElem?_push] at he'
          rw [List.getElem?_append] at hp
          split at he'
          · rename_i hjj
            cases he'
            rw [g3] at hjj
            subst hjj
            simp at hp
            subst hp
            exact ⟨rfl, hk, hz2 c⟩
          · rename_i hjj
            rw [g3] at hjj
            have hjl : j' < l.length := by
              have := (Array.getElem?_eq_some_iff.1 he').1
              omega
            rw [if_pos hjl] at hp
            exact g4 j' e' p he' hp)
        rw [List.length_append] at q1 q2
        refine ⟨.tuple #[zv, goInt l.length], _, ?_, c.ρ, q1, q2, .tup _ _ rfl fun n v a hv ha => ?_⟩
        · simp [Instr.mapEntry, Sem.run_bind, run_underlying hd, MapKept.run_getObj_map g2, run_check hkd hKD hk, hfind, hz1, MapKept.run_setObj_map _ g2, setBlock]
        · match n, hv, ha with
          | 0, hv, ha => simp at hv ha; subst hv ha; exact (hz2 _)
          | 1, hv, ha => simp [goInt] at hv ha; subst hv ha; exact .int _ _
          | n + 2, hv, ha => simp at hv
  · cases hr
theorem findIdx_born {es : Array MapEntry} (h : ∀ (j : Nat) e, es[j]? = some e → e.born = j) {n : Int} (h0 : 0 ≤ n) (hn : n < es.size) : es.findIdx? (fun e => (e.born : Int) == n) = some n.toNat := by
  have hnl : n.toNat < es.size := by omega
  rw [Array.findIdx?_eq_some_iff_getElem]
  refine ⟨hnl, ?_, fun j hj => ?_⟩
  · have := h n.toNat _ (Array.getElem?_eq_getElem hnl)
    simp [this]; omega
  · have := h j _ (Array.getElem?_eq_getElem (by omega))
    simp [this]; omega
theorem aentryStore_ok (hc : RelH c) {t : Nat} {vm vs vv : Value} {m s v : AV} (hm : RV c vm m) (hs : RV c vs s) (hv : RV c vv v) {r : ARes} (hr : aentryStore c.h m s v = some r) (hp : r.p) :
    ∃ w', (Instr.entryStore t vm vs vv).run P c.w = .ok () w' ∧ Comes c r undef w' := by
  unfold aentryStore at hr
  split at hr
  · rename_i i k n
    split at hr
    · rename_i l hi
      cases hr
      obtain ⟨h0, hn⟩ := hp
      obtain rfl := hs.ints
      cases hm with
      | mp _ b hkn hb hnt =>
        obtain ⟨b', es, g1, g2, g3, g4⟩ := hc.blk i _ hi
        rw [hb] at g1
        obtain rfl := Option.some.inj g1
        have hfi := findIdx_born (es := es) (fun j e he => by
          have hjl : j < l.length := by rw [← g3]; exact (Array.getElem?_eq_some_iff.1 he).1
          exact (g4 j e _ he (List.getElem?_eq_getElem hjl)).1) h0 (by rw [g3]; exact hn)
        obtain ⟨q1, q2⟩ := Cx.setMap hc hi hb g2 (l' := pset l n.toNat v) (es' := es.modify n.toNat fun e => { e with val := vv }) (by rw [length_pset]; simpa using g3) (fun j' e' p he' hp => by
          rw [Array.getElem?_modify] at he'
          rw [getElem?_pset] at hp
          split at he'
          · rename_i hjj
            rw [if_pos hjj] at hp
            simp only [Option.map_eq_some_iff] at he' hp
            obtain ⟨e, he, rfl⟩ := he'
            obtain ⟨p', hp', rfl⟩ := hp
            obtain ⟨w0, w1, w2⟩ := g4 j' e p' he hp'
            exact ⟨w0, w1, hv⟩
          · rename_i hjj
            rw [if_neg hjj] at hp
            exact g4 j' e' p he' hp)
        rw [length_pset] at q1 q2
        exact ⟨_, by simp [Instr.entryStore, Sem.run_bind, MapKept.run_getObj_map g2, asInt, asIntOf, hfi, MapKept.run_setObj_map _ g2, setBlock], c.ρ, q1, q2, .junk _⟩
    · cases hr
  · cases hr
theorem amapUpdate_ok (hT : TabOk P T) (hc : RelH c) {t : Nat} {ti : TI} (ht : TIok P t ti) {vm vk vv : Value} {m key v : AV} (hm : RV c vm m) (hk : RV c vk key) (hv : RV c vv v) {r : ARes} (hr : amapUpdate T c.h ti m key v = some r) :
    ∃ w', (Instr.mapUpdate t vm vk vv).run P c.w = .ok () w' ∧ Comes c r undef w' := by
  unfold amapUpdate at hr
  split at hr
  · rename_i i
    split at hr <;> first | (cases hr; done) | skip
    rename_i l ki ei hi hmk
    obtain ⟨kt, et, hd, hkt, het⟩ := mapK_ok hT ht hmk
    cases hm with
    | mp _ b hkn hb hn =>
      obtain ⟨b', es, g1, g2, g3, g4⟩ := hc.blk i _ hi
      rw [hb] at g1
      obtain rfl := Option.some.inj g1
      split at hr <;> first | (cases hr; done) | skip
      · rename_i j hty hf
        cases hr
        obtain ⟨d, hkd, hKD⟩ := keyTy_ok hkt hty
        obtain ⟨hj, e, he, hek, hfind⟩ := run_findKey hkd hKD hk g3 (fun j e p he hp => (g4 j e p he hp).2.1) hf c.w
        obtain ⟨q1, q2⟩ := Cx.setMap hc hi hb g2 (l' := pset l j v) (es' := es.modify j fun e => { e with key := vk, val := vv }) (by rw [length_pset]; simpa using g3) (fun j' e' p he' hp => by
          rw [Array.getElem?_modify] at he'
          rw [getElem?_pset] at hp
          split at he'
          · rename_i hjj
            subst hjj
            rw [if_pos rfl] at hp
            rw [he] at he'
            cases he'
            simp only [Option.map_eq_some_iff] at hp
            obtain ⟨p', hp', rfl⟩ := hp
            obtain ⟨w0, w1, w2⟩ := g4 j e p' he hp'
            exact ⟨w0, by rw [← hek]; exact w1, hv⟩
          · rename_i hjj
            rw [if_neg hjj] at hp
            exact g4 j' e' p he' hp)
        rw [length_pset] at q1 q2
        exact ⟨_, by simp [Instr.mapUpdate, Sem.run_bind, run_underlying hd, MapKept.run_getObj_map g2, run_check hkd hKD hk, hfind, he, hek, run_stays (sameBits_self hKD hk), MapKept.run_setObj_map _ g2, setBlock], c.ρ, q1, q2, .junk _⟩
      · rename_i hty hf
        cases hr
        obtain ⟨d, hkd, hKD⟩ := keyTy_ok hkt hty
        have hfind := run_findKey hkd hKD hk g3 (fun j e p he hp => (g4 j e p he hp).2.1) hf c.w
        obtain ⟨q1, q2⟩ := Cx.setMap hc hi hb g2 (l' := l ++ [(key, v)]) (es' := es.push { key := vk, val := vv, born := l.length }) (by simpa using g3) (fun j' e' p he' hp => by
          rw [Array.getElem?_push] at he'
          rw [List.getElem?_append] at hp
          split at he'
          · rename_i hjj
            cases he'
            rw [g3] at hjj
            subst hjj
            simp at hp
            subst hp
            exact ⟨rfl, hk, hv⟩
          · rename_i hjj
            rw [g3] at hjj
            have hjl : j' < l.length := by
              have := (Array.getElem?_eq_some_iff.1 he').1
              omega
            rw [if_pos hjl] at hp
            exact g4 j' e' p he' hp)
        rw [List.length_append] at q1 q2
        exact ⟨_, by simp [Instr.mapUpdate, Sem.run_bind, run_underlying hd, MapKept.run_getObj_map g2, run_check hkd hKD hk, hfind, MapKept.run_setObj_map _ g2, setBlock], c.ρ, q1, q2, .junk _⟩
  · cases hr
theorem alookup_ok (hT : TabOk P T) (hc : RelH c) {t : Nat} {ti : TI} (ht : TIok P t ti) {vm vk : Value} {m key : AV} (hm : RV c vm m) (hk : RV c vk key) {ok : Bool} {r : ARes} (hr : alookup T c.h ti ok m key = some r) :
    r.d = none ∧ ∃ q, (Instr.lookup t vm vk ok).run P c.w = .ok q c.w ∧ RV c q r.v := by
  unfold alookup at hr
  split at hr
  · rename_i i
    split at hr <;> first | (cases hr; done) | skip
    rename_i l ki ei hi hmk
    obtain ⟨kt, et, hd, hkt, het⟩ := mapK_ok hT ht hmk
    cases hm with
    | mp _ b hkn hb hn =>
      obtain ⟨b', es, g1, g2, g3, g4⟩ := hc.blk i _ hi
      rw [hb] at g1
      obtain rfl := Option.some.inj g1
      split at hr <;> first | (cases hr; done) | skip
      · rename_i j z hty hf hz
        cases hr
        obtain ⟨d, hkd, hKD⟩ := keyTy_ok hkt hty
        obtain ⟨hj, e, he, hek, hfind⟩ := run_findKey hkd hKD hk g3 (fun j e p he hp => (g4 j e p he hp).2.1) hf c.w
        obtain ⟨p, hp⟩ : ∃ p, l[j]? = some p := ⟨_, List.getElem?_eq_getElem hj⟩
        obtain ⟨w0, w1, w2⟩ := g4 j e p he hp
        refine ⟨rfl, if ok then .tuple #[e.val, .bool true] else e.val, ?_, ?_⟩
        · simp only [Instr.lookup, Sem.run_bind, run_underlying hd, MapKept.run_getObj_map g2, run_check hkd hKD hk, hfind, Result.andThen_ok, Sem.run_pure]
        · rw [hp]
          cases ok with
          | false => exact w2
          | true =>
            refine .tup _ _ rfl fun n v a hv ha => ?_
            match n, hv, ha with
            | 0, hv, ha => simp at hv ha; subst hv ha; exact w2
            | 1, hv, ha => simp at hv ha; subst hv ha; exact .bool _
            | n + 2, hv, ha => simp at hv
      · rename_i z hty hf hz
        cases hr
        obtain ⟨d, hkd, hKD⟩ := keyTy_ok hkt hty
        have hfind := run_findKey hkd hKD hk g3 (fun j e p he hp => (g4 j e p he hp).2.1) hf c.w
        obtain ⟨zv, hz1, hz2⟩ := zero_ok het hz c.w
        refine ⟨rfl, if ok then .tuple #[zv, .bool false] else zv, ?_, ?_⟩
        · simp only [Instr.lookup, Sem.run_bind, run_underlying hd, MapKept.run_getObj_map g2, run_check hkd hKD hk, hfind, hz1, Result.andThen_ok, Sem.run_pure]
        · cases ok with
          | false => exact hz2 c
          | true =>
            refine .tup _ _ rfl fun n v a hv ha => ?_
            match n, hv, ha with
            | 0, hv, ha => simp at hv ha; subst hv ha; exact hz2 c
            | 1, hv, ha => simp at hv ha; subst hv ha; exact .bool _
            | n + 2, hv, ha => simp at hv
  · cases hr
theorem arange_ok (hc : RelH c) {slot : Nat} (hs : c.h[slot]? = some .free) {t : Nat} {ti : TI} (ht : TIok P t ti) {vm : Value} {m : AV} (hm : RV c vm m) {r : ARes} (hr : arange c.h slot ti m = some r) :
    ∃ q w', (Instr.range t vm).run P c.w = .ok q w' ∧ Comes c r q w' := by
  obtain ⟨d, hd, hso⟩ := ht.desc
  unfold sortOk at hso
  unfold arange at hr
  split at hr
  · rename_i i
    split at hr
    · rename_i l hst hi
      cases hr
      rw [hst] at hso
      obtain ⟨kt, rfl, _⟩ := hso
      have hm' := hm
      cases hm with
      | mp _ b hkn hb hn =>
        obtain ⟨b', es, g1, g2, g3, g4⟩ := hc.blk i _ hi
        rw [hb] at g1
        obtain rfl := Option.some.inj g1
        have hsl : slot < c.h.length := (List.getElem?_eq_some_iff.1 hs).1
        obtain ⟨h1, h2⟩ := Cx.alloc hc slot .free hs (.iter i l.length []) (.inl rfl) rfl (c.w.alloc (.mapIter (some b) l.length #[] l.length)) (.mapIter (some b) l.length #[] l.length) rfl rfl rfl rfl (fun hev =>
          ⟨c.w.heap.size, b, #[], setρ_same _ _ _, (by show (c.w.heap.push _)[c.w.heap.size]? = _; simp), rfl, hm'.mono hev⟩)
        refine ⟨.pointer (some ⟨c.w.heap.size, 0, none⟩), c.w.alloc (.mapIter (some b) l.length #[] l.length), by simp [Instr.range, Sem.run_bind, run_underlying hd, MapKept.run_getObj_map g2], _, h1, h2, .ptr _ _ _ ⟨_, List.getElem?_set_self hsl, rfl⟩ (setρ_same _ _ _) fun x hx => ?_⟩
        simp only [aupd] at hx
        rw [List.getElem?_set_self hsl] at hx
        cases hx; rfl
    · cases hr
  · cases hr
end
end Go.Proofs.YtgonmnjgodleeaaDoor
