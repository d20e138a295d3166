/-
  The shadow of a run: full slices, maps. Nothing here speaks of the program.
-/
import Derived.Test.YtgonmnjgodleeaaAz
import Derived.Maps.RangeRun
import Derived.MapKept
namespace Go.Proofs.Ytgonmnjgodleeaa
open Go.RowKit Go.ChangeMaps
section
variable {P : Program} {T : TabT} {c : Cx}
/-- What an operation comes to: the value, the blocks. -/
def Comes (c : Cx) (r : ARes) (q : Value) (w' : World) : Prop := ∃ ρ', RelH ⟨ρ', aupd c.h r.d, w', c.X⟩ ∧ Ev c ⟨ρ', aupd c.h r.d, w', c.X⟩ ∧ RV ⟨ρ', aupd c.h r.d, w', c.X⟩ q r.v
theorem aslice3_ok (hT : TabOk P T) (hc : RelH c) {slot : Nat} (hs : c.h[slot]? = some .free) {t : Nat} {ti : TI} (ht : TIok P t ti) {v : Value} {x : AV} (hv : RV c v x) {lo : Option Value} {vh vm : Value} {alo : Option AV} {ahi amx : AV}
    (h1 : ∀ a, alo = some a → ∃ u, lo = some u ∧ RV c u a) (h1n : alo = none → lo = none) (h2 : RV c vh ahi) (h3 : RV c vm amx) {r : ARes} (hr : aslice3 T slot ti alo ahi amx x = some r) (hp : r.p) :
    ∃ q w', (Instr.sliceAt t v lo (some vh) (some vm)).run P c.w = .ok q w' ∧ Comes c r q w' := by
  obtain ⟨d, hd, hso⟩ := ht.desc
  unfold sortOk at hso
  unfold aslice3 at hr
  split at hr
  · rename_i k l tk
    split at hr <;> first | (cases hr; done) | skip
    rename_i e kb b km m hst he
    cases hr
    rw [hst] at hso
    subst hso
    obtain ⟨rfl, rfl, h0, hle⟩ := hp
    obtain rfl := h1n rfl
    obtain rfl := h2.ints
    obtain rfl := h3.ints
    have hsz := (hT _ _ he).sizeOf c.w
    cases hv with
    | sl _ _ _ A n cap bb o vs hn hcap hm hA hk hcc hrr htt =>
      have hle2 : b ≤ (cap : Int) := by omega
      obtain ⟨q1, q2⟩ := Cx.unbornN hc slot e.size b.toNat hs
      refine ⟨.slice A b.toNat b.toNat, c.w, ?_, c.ρ, q1, q2, ?_⟩
      · have hA : A.map (fun x => x.add 0) = A := by
          cases A with
          | none => rfl
          | some a => simp [Addr.add]
        simp [Instr.sliceAt, Instr.slice, Instr.sliceBounds, Instr.sliceBound, asIntOf, Sem.run_bind, run_underlying hd, hsz, h0, hle2, hA]
        try omega
      · have hlast : (c.h.set slot (ABlk.tok e.size b.toNat))[slot]? = some (.tok e.size b.toNat) := List.getElem?_set_self (List.getElem?_eq_some_iff.1 hs).1
        have hg : ∀ (j : Nat) x, (l.take b.toNat)[j]? = some x → l[j]? = some x := fun j x hx => by
          rw [List.getElem?_take] at hx
          split at hx
          · exact hx
          · cases hx
        refine .sl _ _ _ A _ _ bb o vs (by rw [List.length_take]; omega) (Nat.le_refl _) (by omega) (fun h => hA fun e => h (by rw [e]; simp)) (fun j x hx => hk j x (hg j x hx)) (fun j x i a hx ha => ?_) (fun j x i a hx ha => (hrr j x i a (hg j x hx) ha).mono q2) ?_
        · obtain ⟨g1, g2, g3⟩ := hcc j x i a (hg j x hx) ha
          obtain ⟨w1, w2⟩ := q2.im _ _ g2
          exact ⟨g1, w1, w2.trans g3⟩
        · refine ⟨⟨_, hlast, rfl⟩, fun k' n' e' => ?_⟩
          have e2 : (c.h.set slot (ABlk.tok e.size b.toNat))[slot]? = some (.tok k' n') := e'
          rw [hlast] at e2
          cases e2
          exact ⟨rfl, Nat.le_refl _, fun _ => .inl rfl⟩
  · split at hr <;> first | (cases hr; done) | skip
    rename_i e ka a kb b km m hst he
    cases hr
    rw [hst] at hso
    subst hso
    obtain ⟨rfl, h0, hab, hbm, hmc⟩ := hp
    obtain ⟨u, rfl, hu⟩ := h1 _ rfl
    obtain rfl := hu.ints
    obtain rfl := h2.ints
    obtain rfl := h3.ints
    cases hv with
    | msl _ _ _ _ _ bb o' hk hb hn hcap hm ho =>
      have hsz := (hT _ _ he).sizeOf c.w
      have g1 : 0 ≤ b := by omega
      have g2 : 0 ≤ m := by omega
      have g3 : b ≤ (m.toNat : Int) := by omega
      have g4 : a ≤ (b.toNat : Int) := by omega
      have g6 : b ≤ max m 0 := by omega
      have g7 : a ≤ max b 0 := by omega
      have g5 : ∀ n, (Addr.mk bb o' none).add n = ⟨bb, o' + n, none⟩ := fun n => by
        unfold Addr.add; split
        · rename_i h; rw [h]; rfl
        · rfl
      refine ⟨.slice (some ⟨bb, if m.toNat = a.toNat then o' else o' + a.toNat * e.size, none⟩) (b.toNat - a.toNat) (m.toNat - a.toNat), c.w, ?_, c.ρ, hc, Ev.refl c, .msl _ _ _ _ _ bb _ hk hb hn (by omega) (by omega) fun h => ?_⟩
      · simp [Instr.sliceAt, Instr.slice, Instr.sliceBounds, Instr.sliceBound, asIntOf, Sem.run_bind, run_underlying hd, hsz, h0, hab, hbm, hmc, g1, g2, g3, g4, g5, g6, g7]
        try (split <;> first | rfl | omega)
      · rw [if_neg (by omega), ho (by omega), Nat.add_mul]
  · split at hr <;> first | (cases hr; done) | skip
    rename_i e kb b km m hst he
    cases hr
    rw [hst] at hso
    subst hso
    obtain ⟨rfl, rfl⟩ := hp
    obtain rfl := h1n rfl
    obtain rfl := h2.ints
    obtain rfl := h3.ints
    cases hv
    have hsz := (hT _ _ he).sizeOf c.w
    exact ⟨.slice none 0 0, c.w, by simp [Instr.sliceAt, Instr.slice, Instr.sliceBounds, Instr.sliceBound, asIntOf, Sem.run_bind, run_underlying hd, hsz], c.ρ, hc, Ev.refl c, .nils⟩
  · cases hr
/-! ### maps -/
theorem bytes_ext {s s' : ByteArray} (h : s.data.toList = s'.data.toList) : s = s' := by
  cases s; cases s'
  simp only [ByteArray.mk.injEq]
  exact Array.toList_inj.1 h
theorem bytes_beq {s s' : ByteArray} : (s == s') = decide (s.data.toList = s'.data.toList) := by
  show (s.data == s'.data) = _
  rw [Bool.eq_iff_iff, decide_eq_true_eq, beq_iff_eq]
  exact ⟨fun h => by rw [h], fun h => Array.toList_inj.1 h⟩
/-- A key's type is compared at once. -/
def KeyD (d : TypeDesc) : AV → Prop
  | .int _ _ => ∃ k, d = .int k
  | .str _ => d = .string
  | _ => False
theorem keyTy_ok {kt : Nat} {ki : TI} (ht : TIok P kt ki) {key : AV} (h : keyTy ki key = true) : ∃ d, P.underlying kt = some d ∧ KeyD d key := by
  obtain ⟨d, hd, hso⟩ := ht.desc
  refine ⟨d, hd, ?_⟩
  unfold keyTy at h
  unfold sortOk at hso
  split at h
  · split at h
    · rename_i hs; rw [hs] at hso; exact ⟨_, hso⟩
    · cases h
  · split at h
    · rename_i hs; rw [hs] at hso; exact hso
    · cases h
  · cases h
theorem sameNow_ok {d : TypeDesc} {key p : AV} (hk : KeyD d key) {u v : Value} (hu : RV c u key) (hv : RV c v p) {b : Bool} (h : akeq key p = some b) : Instr.sameNow d u v = some b ∧ (b = true → Instr.sameBits 10000 v u = true ∧ u = v) := by
  unfold akeq at h
  split at h
  · rename_i k a k' a'
    split at h
    · rename_i hkk
      subst hkk
      cases h
      obtain ⟨k0, rfl⟩ := hk
      cases hu; cases hv
      refine ⟨by simp only [Instr.sameNow, if_true]; congr 1, fun hb => ?_⟩
      simp only [decide_eq_true_eq] at hb
      subst hb
      exact ⟨by simp [Instr.sameBits], rfl⟩
    · cases h
  · rename_i a a'
    cases h
    obtain rfl := hk
    cases hu with
    | str s _ hs =>
      cases hv with
      | str s' _ hs' =>
        subst hs hs'
        refine ⟨by simp [Instr.sameNow, bytes_beq], fun hb => ?_⟩
        simp only [decide_eq_true_eq] at hb
        obtain rfl := bytes_ext hb
        exact ⟨by simp [Instr.sameBits, bytes_beq], rfl⟩
  · cases h
theorem findNow_ok {d : TypeDesc} {key : AV} (hk : KeyD d key) {u : Value} (hu : RV c u key) : ∀ (es : List MapEntry) (l : List (AV × AV)) (i : Nat) (res : Option Nat), es.length = l.length → (∀ (j : Nat) e p, es[j]? = some e → l[j]? = some p → RV c e.key p.1) → afind key l i = some res →
    match res with
    | none => Instr.findNow d u es i = some none
    | some j => i ≤ j ∧ j < i + l.length ∧ ∃ e, es[j - i]? = some e ∧ e.key = u ∧ Instr.findNow d u es i = some (some (j, e.val))
  | [], [], i, res, _, _, h => by
    simp only [afind, Option.some.injEq] at h
    subst h
    rfl
  | e :: es, p :: l, i, res, hl, hr, h => by
    have h0 := hr 0 e p rfl rfl
    simp only [afind] at h
    split at h
    · rename_i hq
      cases h
      obtain ⟨g1, g2⟩ := sameNow_ok hk hu h0 hq
      refine ⟨Nat.le_refl _, by simp, e, by simp, (g2 rfl).2.symm, ?_⟩
      simp [Instr.findNow, g1]
    · rename_i hq
      obtain ⟨g1, _⟩ := sameNow_ok hk hu h0 hq
      have ih := findNow_ok hk hu es l (i + 1) res (by simpa using hl) (fun j e p he hp => hr (j + 1) e p (by simpa using he) (by simpa using hp)) h
      cases res with
      | none => simp only at ih ⊢; simp [Instr.findNow, g1, ih]
      | some j =>
        simp only at ih ⊢
        obtain ⟨k1, k2, e', k3, k4, k5⟩ := ih
        refine ⟨by omega, by simp; omega, e', ?_, k4, by simp [Instr.findNow, g1, k5]⟩
        rw [show j - i = (j - (i + 1)) + 1 by omega]
        simpa using k3
    · cases h
  | [], _ :: _, _, _, h, _, _ => by simp at h
  | _ :: _, [], _, _, h, _, _ => by simp at h
theorem run_findKey {kt : Nat} {d : TypeDesc} (hd : P.underlying kt = some d) {key : AV} (hk : KeyD d key) {u : Value} (hu : RV c u key) {es : Array MapEntry} {l : List (AV × AV)} (hl : es.size = l.length) (hr : ∀ (j : Nat) e p, es[j]? = some e → l[j]? = some p → RV c e.key p.1) {res : Option Nat} (h : afind key l 0 = some res) (w : World) :
    match res with
    | none => (Instr.findKey kt u es.toList).run P w = .ok none w
    | some j => j < l.length ∧ ∃ e, es[j]? = some e ∧ e.key = u ∧ (Instr.findKey kt u es.toList).run P w = .ok (some (j, e.val)) w := by
  have := findNow_ok (c := c) hk hu es.toList l 0 res (by simpa using hl) (fun j e p he hp => hr j e p (by simpa using he) hp) h
  cases res with
  | none => simp only at this ⊢; simp [Instr.findKey, Sem.run_bind, run_underlying hd, this]
  | some j =>
    simp only at this ⊢
    obtain ⟨_, k2, e, k3, k4, k5⟩ := this
    refine ⟨by omega, e, by simpa using k3, k4, by simp [Instr.findKey, Sem.run_bind, run_underlying hd, k5]⟩
theorem run_check {kt : Nat} {d : TypeDesc} (hd : P.underlying kt = some d) {key : AV} (hk : KeyD d key) {u : Value} (hu : RV c u key) (e : Bool) (w : World) : (Instr.checkKey e 10000 kt u).run P w = .ok () w := by
  show (Instr.checkKey e (9999 + 1) kt u).run P w = .ok () w
  unfold Instr.checkKey
  simp only [Sem.run_bind, run_underlying hd, Result.andThen]
  unfold KeyD at hk
  split at hk
  · obtain ⟨k, rfl⟩ := hk; cases hu; simp
  · subst hk; cases hu; simp
  · exact hk.elim
theorem run_stays {u v : Value} (h : Instr.sameBits 10000 v u = true) (w : World) : (Instr.keyThatStays v u).run P w = .ok u w := by
  simp [Instr.keyThatStays, h]
theorem sameBits_self {key : AV} {d : TypeDesc} (hk : KeyD d key) {u : Value} (hu : RV c u key) : Instr.sameBits 10000 u u = true := by
  unfold KeyD at hk
  split at hk
  · cases hu; simp [Instr.sameBits]
  · cases hu; simp [Instr.sameBits, bytes_beq]
  · exact hk.elim
/-- A map's entries, written. -/
theorem Cx.setMap (hc : RelH c) {i b : Nat} {l l' : List (AV × AV)} {es es' : Array MapEntry} (hi : c.h[i]? = some (.map l)) (hb : c.ρ i = some b) (hes : c.w.heap[b]? = some (.map es l.length)) (hl : es'.size = l'.length)
    (hr : ∀ (j : Nat) e p, es'[j]? = some e → l'[j]? = some p → e.born = j ∧ RV c e.key p.1 ∧ RV c e.val p.2) :
    RelH ⟨c.ρ, c.h.set i (.map l'), setBlock c.w b (.map es' l'.length), c.X⟩ ∧ Ev c ⟨c.ρ, c.h.set i (.map l'), setBlock c.w b (.map es' l'.length), c.X⟩ :=
  Cx.write hc i (.map l) (.map l') b hi hb rfl rfl _ (by simp [setBlock]) rfl rfl rfl (fun b' hb' => heap_setBlock_other hes _ hb') (fun o h => h.elim) (.inl ⟨rfl, rfl⟩) (fun vs e f h0 => by rw [hes] at h0; cases h0) fun hev =>
    ⟨b, es', hb, heap_setBlock_same hes _, hl, fun j e p he hp => by obtain ⟨h1, h2, h3⟩ := hr j e p he hp; exact ⟨h1, h2.mono hev, h3.mono hev⟩⟩
theorem amakeMap_ok (hc : RelH c) {slot : Nat} (hs : c.h[slot]? = some .free) (t : Nat) : ∃ q w', (Instr.makeMap t none).run P c.w = .ok q w' ∧ Comes c ⟨True, .mp slot, some (slot, .map [])⟩ q w' := by
  have hsl : slot < c.h.length := (List.getElem?_eq_some_iff.1 hs).1
  obtain ⟨h1, h2⟩ := Cx.alloc hc slot .free hs (.map []) (.inl rfl) rfl (c.w.alloc (.map #[] 0)) (.map #[] 0) rfl rfl rfl rfl (fun hev =>
    ⟨c.w.heap.size, #[], setρ_same _ _ _, (by show (c.w.heap.push _)[c.w.heap.size]? = _; simp), rfl, fun j e p he => by simp at he⟩)
  refine ⟨.map (some c.w.heap.size), c.w.alloc (.map #[] 0), by simp [Instr.makeMap], _, h1, h2, .mp _ _ ⟨_, List.getElem?_set_self hsl, rfl⟩ (setρ_same _ _ _) fun x hx => ?_⟩
  simp only [aupd] at hx
  rw [List.getElem?_set_self hsl] at hx
  cases hx; rfl
theorem mapK_ok (hT : TabOk P T) {t : Nat} {ti : TI} (ht : TIok P t ti) {ki ei : TI} (h : mapK T ti = some (ki, ei)) : ∃ kt et, P.underlying t = some (.map kt et) ∧ TIok P kt ki ∧ TIok P et ei := by
  obtain ⟨d, hd, hso⟩ := ht.desc
  unfold sortOk at hso
  unfold mapK at h
  split at h
  · rename_i o k hs ho
    rw [hs] at hso
    obtain ⟨k', rfl, hk⟩ := hso
    rw [ho] at hk
    cases hk
    simp only [Option.bind_eq_some_iff, Option.map_eq_some_iff, Prod.mk.injEq] at h
    obtain ⟨ki', h1, ei', h2, rfl, rfl⟩ := h
    exact ⟨_, _, hd, hT _ _ h1, hT _ _ h2⟩
  · cases h
theorem zero_ok {et : Nat} {ei : TI} (ht : TIok P et ei) {z : AV} (h : cellsAs ei.agg ei.zero = some z) (w : World) : ∃ q, (zeroValue et).run P w = .ok q w ∧ ∀ c : Cx, RV c q z := by
  obtain ⟨i, q, g1, g2, g3, g4, g5, g6⟩ := ht.info
  have hz := ht.za i q g1 g4
  refine ⟨q, by simp [zeroValue, typeInfo, Sem.run_bind, g1, g4], fun c => ?_⟩
  unfold cellsAs at h
  split at h
  · rename_i hag
    rw [hag] at hz
    cases h
    unfold aggB at hz
    split at hz
    · rename_i cs
      refine .agg _ _ g5 (fun j a ha => ?_) (fun j v a hv ha => (g6 j v a hv ha).2 c)
      have hj : j < cs.size := by rw [show cs.size = ei.zero.length from g5]; exact (List.getElem?_eq_some_iff.1 ha).1
      exact AV.plain_cell (g6 j cs[j] a (Array.getElem?_eq_getElem hj) ha).1
    · cases hz
  · rename_i hag
    have hag' : ei.agg = false := by simpa using hag
    rw [hag'] at hz
    split at h
    · rename_i x hx
      cases h
      rw [hx] at g6
      have hq : q.cells = #[q] := by
        unfold aggB at hz
        split at hz
        · cases hz
        · rename_i hne
          unfold Value.cells
          split
          · rename_i cs; exact absurd rfl (hne cs)
          · rfl
      exact (g6 0 q z (by rw [hq]; rfl) rfl).2 c
    · cases h
theorem getElem?_pset (l : List (AV × AV)) (j : Nat) (v : AV) (i : Nat) : (pset l j v)[i]? = if j = i then (l[i]?).map (fun p => (p.1, v)) else l[i]? := by
  unfold pset
  rw [List.getElem?_modify]
  split <;> simp
theorem length_pset (l : List (AV × AV)) (j : Nat) (v : AV) : (pset l j v).length = l.length := by simp [pset]
theorem amapEntry_ok (hT : TabOk P T) (hc : RelH c) {t : Nat} {ti : TI} (ht : TIok P t ti) {vm vk : Value} {m key : AV} (hm : RV c vm m) (hk : RV c vk key) {r : ARes} (hr : amapEntry T c.h ti m key = some r) :
    ∃ q w', (Instr.mapEntry t vm vk).run P c.w = .ok q w' ∧ Comes c r q w' := by
  unfold amapEntry at hr
  split at hr
  · rename_i i
    split at hr <;> first | (cases hr; done) | skip
    rename_i l ki ei hi hmk
    obtain ⟨kt, et, hd, hkt, het⟩ := mapK_ok hT ht hmk
    cases hm with
    | mp _ b hkn hb hn =>
      obtain ⟨b', es, g1, g2, g3, g4⟩ := hc.blk i _ hi
      rw [hb] at g1
      obtain rfl := Option.some.inj g1
      split at hr <;> first | (cases hr; done) | skip
      · rename_i j z hty hf hz
        cases hr
        obtain ⟨d, hkd, hKD⟩ := keyTy_ok hkt hty
        obtain ⟨hj, e, he, hek, hfind⟩ := run_findKey hkd hKD hk g3 (fun j e p he hp => (g4 j e p he hp).2.1) hf c.w
        obtain ⟨q1, q2⟩ := Cx.setMap hc hi hb g2 (l' := l) (es' := es.modify j fun e => { e with key := vk }) (by simpa using g3) (fun j' e' p he' hp => by
          rw [Array.getElem?_modify] at he'
          split at he'
          · rename_i hjj
            subst hjj
            rw [he] at he'
            cases he'
            obtain ⟨w0, w1, w2⟩ := g4 j e p he hp
            exact ⟨w0, by rw [← hek]; exact w1, w2⟩
          · exact g4 j' e' p he' hp)
        obtain ⟨p, hp⟩ : ∃ p, l[j]? = some p := ⟨_, List.getElem?_eq_getElem hj⟩
        obtain ⟨w0, w1, w2⟩ := g4 j e p he hp
        refine ⟨.tuple #[e.val, goInt e.born], _, ?_, c.ρ, q1, q2, .tup _ _ rfl fun n v a hv ha => ?_⟩
        · simp [Instr.mapEntry, Sem.run_bind, run_underlying hd, MapKept.run_getObj_map g2, run_check hkd hKD hk, hfind, he, hek, run_stays (sameBits_self hKD hk), MapKept.run_setObj_map _ g2, setBlock]
        · rw [hp] at ha
          match n, hv, ha with
          | 0, hv, ha => simp at hv ha; subst hv ha; exact w2.mono q2
          | 1, hv, ha => simp [goInt] at hv ha; subst hv ha; rw [w0]; exact .int _ _
          | n + 2, hv, ha => simp at hv
      · rename_i z hty hf hz
        cases hr
        obtain ⟨d, hkd, hKD⟩ := keyTy_ok hkt hty
        have hfind := run_findKey hkd hKD hk g3 (fun j e p he hp => (g4 j e p he hp).2.1) hf c.w
        obtain ⟨zv, hz1, hz2⟩ := zero_ok het hz c.w
        obtain ⟨q1, q2⟩ := Cx.setMap hc hi hb g2 (l' := l ++ [(key, z)]) (es' := es.push { key := vk, val := zv, born := l.length }) (by simpa using g3) (fun j' e' p he' hp => by
          rw [Array.getElem?_push] at he'
          rw [List.getElem?_append] at hp
          split at he'
          · rename_i hjj
            cases he'
            rw [g3] at hjj
            subst hjj
            simp at hp
            subst hp
            exact ⟨rfl, hk, hz2 c⟩
          · rename_i hjj
            rw [g3] at hjj
            have hjl : j' < l.length := by
              have := (Array.getElem?_eq_some_iff.1 he').1
              omega
            rw [if_pos hjl] at hp
            exact g4 j' e' p he' hp)
        rw [List.length_append] at q1 q2
        refine ⟨.tuple #[zv, goInt l.length], _, ?_, c.ρ, q1, q2, .tup _ _ rfl fun n v a hv ha => ?_⟩
        · simp [Instr.mapEntry, Sem.run_bind, run_underlying hd, MapKept.run_getObj_map g2, run_check hkd hKD hk, hfind, hz1, MapKept.run_setObj_map _ g2, setBlock]
        · match n, hv, ha with
          | 0, hv, ha => simp at hv ha; subst hv ha; exact (hz2 _)
          | 1, hv, ha => simp [goInt] at hv ha; subst hv ha; exact .int _ _
          | n + 2, hv, ha => simp at hv
  · cases hr
theorem findIdx_born {es : Array MapEntry} (h : ∀ (j : Nat) e, es[j]? = some e → e.born = j) {n : Int} (h0 : 0 ≤ n) (hn : n < es.size) : es.findIdx? (fun e => (e.born : Int) == n) = some n.toNat := by
  have hnl : n.toNat < es.size := by omega
  rw [Array.findIdx?_eq_some_iff_getElem]
  refine ⟨hnl, ?_, fun j hj => ?_⟩
  · have := h n.toNat _ (Array.getElem?_eq_getElem hnl)
    simp [this]; omega
  · have := h j _ (Array.getElem?_eq_getElem (by omega))
    simp [this]; omega
theorem aentryStore_ok (hc : RelH c) {t : Nat} {vm vs vv : Value} {m s v : AV} (hm : RV c vm m) (hs : RV c vs s) (hv : RV c vv v) {r : ARes} (hr : aentryStore c.h m s v = some r) (hp : r.p) :
    ∃ w', (Instr.entryStore t vm vs vv).run P c.w = .ok () w' ∧ Comes c r undef w' := by
  unfold aentryStore at hr
  split at hr
  · rename_i i k n
    split at hr
    · rename_i l hi
      cases hr
      obtain ⟨h0, hn⟩ := hp
      obtain rfl := hs.ints
      cases hm with
      | mp _ b hkn hb hnt =>
        obtain ⟨b', es, g1, g2, g3, g4⟩ := hc.blk i _ hi
        rw [hb] at g1
        obtain rfl := Option.some.inj g1
        have hfi := findIdx_born (es := es) (fun j e he => by
          have hjl : j < l.length := by rw [← g3]; exact (Array.getElem?_eq_some_iff.1 he).1
          exact (g4 j e _ he (List.getElem?_eq_getElem hjl)).1) h0 (by rw [g3]; exact hn)
        obtain ⟨q1, q2⟩ := Cx.setMap hc hi hb g2 (l' := pset l n.toNat v) (es' := es.modify n.toNat fun e => { e with val := vv }) (by rw [length_pset]; simpa using g3) (fun j' e' p he' hp => by
          rw [Array.getElem?_modify] at he'
          rw [getElem?_pset] at hp
          split at he'
          · rename_i hjj
            rw [if_pos hjj] at hp
            simp only [Option.map_eq_some_iff] at he' hp
            obtain ⟨e, he, rfl⟩ := he'
            obtain ⟨p', hp', rfl⟩ := hp
            obtain ⟨w0, w1, w2⟩ := g4 j' e p' he hp'
            exact ⟨w0, w1, hv⟩
          · rename_i hjj
            rw [if_neg hjj] at hp
            exact g4 j' e' p he' hp)
        rw [length_pset] at q1 q2
        exact ⟨_, by simp [Instr.entryStore, Sem.run_bind, MapKept.run_getObj_map g2, asInt, asIntOf, hfi, MapKept.run_setObj_map _ g2, setBlock], c.ρ, q1, q2, .junk _⟩
    · cases hr
  · cases hr
theorem amapUpdate_ok (hT : TabOk P T) (hc : RelH c) {t : Nat} {ti : TI} (ht : TIok P t ti) {vm vk vv : Value} {m key v : AV} (hm : RV c vm m) (hk : RV c vk key) (hv : RV c vv v) {r : ARes} (hr : amapUpdate T c.h ti m key v = some r) :
    ∃ w', (Instr.mapUpdate t vm vk vv).run P c.w = .ok () w' ∧ Comes c r undef w' := by
  unfold amapUpdate at hr
  split at hr
  · rename_i i
    split at hr <;> first | (cases hr; done) | skip
    rename_i l ki ei hi hmk
    obtain ⟨kt, et, hd, hkt, het⟩ := mapK_ok hT ht hmk
    cases hm with
    | mp _ b hkn hb hn =>
      obtain ⟨b', es, g1, g2, g3, g4⟩ := hc.blk i _ hi
      rw [hb] at g1
      obtain rfl := Option.some.inj g1
      split at hr <;> first | (cases hr; done) | skip
      · rename_i j hty hf
        cases hr
        obtain ⟨d, hkd, hKD⟩ := keyTy_ok hkt hty
        obtain ⟨hj, e, he, hek, hfind⟩ := run_findKey hkd hKD hk g3 (fun j e p he hp => (g4 j e p he hp).2.1) hf c.w
        obtain ⟨q1, q2⟩ := Cx.setMap hc hi hb g2 (l' := pset l j v) (es' := es.modify j fun e => { e with key := vk, val := vv }) (by rw [length_pset]; simpa using g3) (fun j' e' p he' hp => by
          rw [Array.getElem?_modify] at he'
          rw [getElem?_pset] at hp
          split at he'
          · rename_i hjj
            subst hjj
            rw [if_pos rfl] at hp
            rw [he] at he'
            cases he'
            simp only [Option.map_eq_some_iff] at hp
            obtain ⟨p', hp', rfl⟩ := hp
            obtain ⟨w0, w1, w2⟩ := g4 j e p' he hp'
            exact ⟨w0, by rw [← hek]; exact w1, hv⟩
          · rename_i hjj
            rw [if_neg hjj] at hp
            exact g4 j' e' p he' hp)
        rw [length_pset] at q1 q2
        exact ⟨_, by simp [Instr.mapUpdate, Sem.run_bind, run_underlying hd, MapKept.run_getObj_map g2, run_check hkd hKD hk, hfind, he, hek, run_stays (sameBits_self hKD hk), MapKept.run_setObj_map _ g2, setBlock], c.ρ, q1, q2, .junk _⟩
      · rename_i hty hf
        cases hr
        obtain ⟨d, hkd, hKD⟩ := keyTy_ok hkt hty
        have hfind := run_findKey hkd hKD hk g3 (fun j e p he hp => (g4 j e p he hp).2.1) hf c.w
        obtain ⟨q1, q2⟩ := Cx.setMap hc hi hb g2 (l' := l ++ [(key, v)]) (es' := es.push { key := vk, val := vv, born := l.length }) (by simpa using g3) (fun j' e' p he' hp => by
          rw [Array.getElem?_push] at he'
          rw [List.getElem?_append] at hp
          split at he'
          · rename_i hjj
            cases he'
            rw [g3] at hjj
            subst hjj
            simp at hp
            subst hp
            exact ⟨rfl, hk, hv⟩
          · rename_i hjj
            rw [g3] at hjj
            have hjl : j' < l.length := by
              have := (Array.getElem?_eq_some_iff.1 he').1
              omega
            rw [if_pos hjl] at hp
            exact g4 j' e' p he' hp)
        rw [List.length_append] at q1 q2
        exact ⟨_, by simp [Instr.mapUpdate, Sem.run_bind, run_underlying hd, MapKept.run_getObj_map g2, run_check hkd hKD hk, hfind, MapKept.run_setObj_map _ g2, setBlock], c.ρ, q1, q2, .junk _⟩
  · cases hr
theorem alookup_ok (hT : TabOk P T) (hc : RelH c) {t : Nat} {ti : TI} (ht : TIok P t ti) {vm vk : Value} {m key : AV} (hm : RV c vm m) (hk : RV c vk key) {ok : Bool} {r : ARes} (hr : alookup T c.h ti ok m key = some r) :
    r.d = none ∧ ∃ q, (Instr.lookup t vm vk ok).run P c.w = .ok q c.w ∧ RV c q r.v := by
  unfold alookup at hr
  split at hr
  · rename_i i
    split at hr <;> first | (cases hr; done) | skip
    rename_i l ki ei hi hmk
    obtain ⟨kt, et, hd, hkt, het⟩ := mapK_ok hT ht hmk
    cases hm with
    | mp _ b hkn hb hn =>
      obtain ⟨b', es, g1, g2, g3, g4⟩ := hc.blk i _ hi
      rw [hb] at g1
      obtain rfl := Option.some.inj g1
      split at hr <;> first | (cases hr; done) | skip
      · rename_i j z hty hf hz
        cases hr
        obtain ⟨d, hkd, hKD⟩ := keyTy_ok hkt hty
        obtain ⟨hj, e, he, hek, hfind⟩ := run_findKey hkd hKD hk g3 (fun j e p he hp => (g4 j e p he hp).2.1) hf c.w
        obtain ⟨p, hp⟩ : ∃ p, l[j]? = some p := ⟨_, List.getElem?_eq_getElem hj⟩
        obtain ⟨w0, w1, w2⟩ := g4 j e p he hp
        refine ⟨rfl, if ok then .tuple #[e.val, .bool true] else e.val, ?_, ?_⟩
        · simp only [Instr.lookup, Sem.run_bind, run_underlying hd, MapKept.run_getObj_map g2, run_check hkd hKD hk, hfind, Result.andThen_ok, Sem.run_pure]
        · rw [hp]
          cases ok with
          | false => exact w2
          | true =>
            refine .tup _ _ rfl fun n v a hv ha => ?_
            match n, hv, ha with
            | 0, hv, ha => simp at hv ha; subst hv ha; exact w2
            | 1, hv, ha => simp at hv ha; subst hv ha; exact .bool _
            | n + 2, hv, ha => simp at hv
      · rename_i z hty hf hz
        cases hr
        obtain ⟨d, hkd, hKD⟩ := keyTy_ok hkt hty
        have hfind := run_findKey hkd hKD hk g3 (fun j e p he hp => (g4 j e p he hp).2.1) hf c.w
        obtain ⟨zv, hz1, hz2⟩ := zero_ok het hz c.w
        refine ⟨rfl, if ok then .tuple #[zv, .bool false] else zv, ?_, ?_⟩
        · simp only [Instr.lookup, Sem.run_bind, run_underlying hd, MapKept.run_getObj_map g2, run_check hkd hKD hk, hfind, hz1, Result.andThen_ok, Sem.run_pure]
        · cases ok with
          | false => exact hz2 c
          | true =>
            refine .tup _ _ rfl fun n v a hv ha => ?_
            match n, hv, ha with
            | 0, hv, ha => simp at hv ha; subst hv ha; exact hz2 c
            | 1, hv, ha => simp at hv ha; subst hv ha; exact .bool _
            | n + 2, hv, ha => simp at hv
  · cases hr
theorem arange_ok (hc : RelH c) {slot : Nat} (hs : c.h[slot]? = some .free) {t : Nat} {ti : TI} (ht : TIok P t ti) {vm : Value} {m : AV} (hm : RV c vm m) {r : ARes} (hr : arange c.h slot ti m = some r) :
    ∃ q w', (Instr.range t vm).run P c.w = .ok q w' ∧ Comes c r q w' := by
  obtain ⟨d, hd, hso⟩ := ht.desc
  unfold sortOk at hso
  unfold arange at hr
  split at hr
  · rename_i i
    split at hr
    · rename_i l hst hi
      cases hr
      rw [hst] at hso
      obtain ⟨kt, rfl, _⟩ := hso
      have hm' := hm
      cases hm with
      | mp _ b hkn hb hn =>
        obtain ⟨b', es, g1, g2, g3, g4⟩ := hc.blk i _ hi
        rw [hb] at g1
        obtain rfl := Option.some.inj g1
        have hsl : slot < c.h.length := (List.getElem?_eq_some_iff.1 hs).1
        obtain ⟨h1, h2⟩ := Cx.alloc hc slot .free hs (.iter i l.length []) (.inl rfl) rfl (c.w.alloc (.mapIter (some b) l.length #[] l.length)) (.mapIter (some b) l.length #[] l.length) rfl rfl rfl rfl (fun hev =>
          ⟨c.w.heap.size, b, #[], setρ_same _ _ _, (by show (c.w.heap.push _)[c.w.heap.size]? = _; simp), rfl, hm'.mono hev⟩)
        refine ⟨.pointer (some ⟨c.w.heap.size, 0, none⟩), c.w.alloc (.mapIter (some b) l.length #[] l.length), by simp [Instr.range, Sem.run_bind, run_underlying hd, MapKept.run_getObj_map g2], _, h1, h2, .ptr _ _ _ ⟨_, List.getElem?_set_self hsl, rfl⟩ (setρ_same _ _ _) fun x hx => ?_⟩
        simp only [aupd] at hx
        rw [List.getElem?_set_self hsl] at hx
        cases hx; rfl
    · cases hr
  · cases hr
end
end Go.Proofs.Ytgonmnjgodleeaa
