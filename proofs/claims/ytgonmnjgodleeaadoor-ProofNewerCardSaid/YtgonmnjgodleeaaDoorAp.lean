/-
  The shadow of a run: the other simple operations do what they are said to do. Nothing here speaks of the program.
-/
import Derived.Test.YtgonmnjgodleeaaDoorAs
namespace Go.Proofs.YtgonmnjgodleeaaDoor
open Go.RowKit
section
variable {P : Program} {T : TabT} {c : Cx}
theorem fieldPlace_ok {b o : Nat} {f : Field} {i : TypeInfo} (hi : P.info? f.type = some i) (hs : i.size ≠ 0) (w : World) : (fieldPlace ⟨b, o, none⟩ f).run P w = .ok ⟨b, o + f.offset, none⟩ w := by
  simp [fieldPlace, sizeOf, typeInfo, hi, hs, Addr.add_mid]
theorem TIok.field {t : Nat} {ti : TI} (ht : TIok P t ti) {n o ft : Nat} (h : ti.offs[n]? = some (o, ft)) (hst : ti.sort = .st) :
    ∃ fs f i, P.underlying t = some (.struct fs) ∧ fs[n]? = some f ∧ f.offset = o ∧ f.type = ft ∧ P.info? f.type = some i ∧ i.size ≠ 0 := by
  obtain ⟨d, h1, h2⟩ := ht.desc
  unfold sortOk at h2
  rw [hst] at h2
  obtain ⟨fs, rfl, h3, h4⟩ := h2
  rw [← h3, List.getElem?_map] at h
  simp only [Option.map_eq_some_iff] at h
  obtain ⟨f, hf, he⟩ := h
  cases he
  obtain ⟨i, hi, hs⟩ := h4 f (List.mem_of_getElem? hf)
  exact ⟨fs, f, i, h1, by simpa using hf, rfl, rfl, hi, hs⟩
theorem afieldAddr_ok {t : Nat} {ti : TI} (ht : TIok P t ti) {n : Nat} {v : Value} {x : AV} (hv : RV c v x) {r : ARes} (hr : afieldAddr ti n x = some r) (hst : ti.sort = .st) :
    r.d = none ∧ ∃ u, (Instr.fieldAt t v n).run P c.w = .ok u c.w ∧ RV c u r.v := by
  unfold afieldAddr at hr
  have key : ∀ (b o o' ft : Nat), ti.offs[n]? = some (o', ft) → (Instr.fieldAt t (.pointer (some ⟨b, o, none⟩)) n).run P c.w = .ok (.pointer (some ⟨b, o + o', none⟩)) c.w := by
    intro b o o' ft h
    obtain ⟨fs, f, i, h1, h2, rfl, rfl, h3, h4⟩ := ht.field h hst
    simp [Instr.fieldAt, run_underlying h1, h2, Instr.sureAddr, fieldPlace_ok h3 h4, Sem.run_bind]
  split at hr
  · rename_i o' ft i o h
    cases hr
    cases hv with
    | ptr _ _ b hk hb hn => exact ⟨rfl, _, key b o o' ft h, .ptr i (o + o') b hk hb hn⟩
  · rename_i o' ft cs h
    cases hr
    cases hv with
    | rptr _ b o vs h1 h2 =>
      refine ⟨rfl, _, key b o o' ft h, .rptr _ b (o + o') (fun j => vs (o' + j)) (fun j a ha => ?_) (fun j a ha => ?_)⟩
      · rw [List.getElem?_drop] at ha
        have := h1 _ a ha
        rwa [← Nat.add_assoc] at this
      · rw [List.getElem?_drop] at ha
        exact h2 _ a ha
  · rename_i o' ft i k j o h
    cases hr
    cases hv with
    | eptr _ _ _ _ b hk hb hn =>
      have := key b (j * k + o) o' ft h
      rw [Nat.add_assoc] at this
      exact ⟨rfl, _, this, .eptr i k j (o + o') b hk hb hn⟩
  · cases hr
theorem aindexAddr_ok (hT : TabOk P T) {t : Nat} {ti : TI} (ht : TIok P t ti) {v vi : Value} {x y : AV} (hv : RV c v x) (hi : RV c vi y) {r : ARes} (hr : aindexAddr T ti x y = some r) (hp : r.p) :
    r.d = none ∧ ∃ u, (Instr.indexAt t v vi).run P c.w = .ok u c.w ∧ RV c u r.v := by
  obtain ⟨d, hd, hso⟩ := ht.desc
  unfold sortOk at hso
  unfold aindexAddr at hr
  split at hr
  · rename_i k l tk kk n
    split at hr
    · rename_i e hs he
      cases hr
      rw [hs] at hso
      subst hso
      obtain ⟨rfl, hk, h0, hlt⟩ := hp
      have hsz := (hT _ _ he).sizeOf c.w
      cases hi
      cases hv with
      | sl _ _ _ A m cap b o vs hn hcap hm hA hk2 hc hr2 htk =>
        have hne : l ≠ [] := by rintro rfl; simp at hlt; omega
        obtain rfl := hA hne
        have hnl : n.toNat < l.length := by omega
        refine ⟨rfl, .pointer (some ⟨b, o + n.toNat * e.size, none⟩), ?_, ?_⟩
        · have hn2 : n < (m : Int) := by omega
          simp [Instr.indexAt, asIntOf, run_underlying hd, Sem.run_bind, h0, hn2, hsz, Addr.add_mid]
        · rw [List.getD_eq_getElem?_getD, List.getElem?_eq_getElem hnl]
          exact .rptr _ b _ (fun j => vs n.toNat j) (fun j a ha => by obtain ⟨g1, g2⟩ := hc _ _ j a (List.getElem?_eq_getElem hnl) ha; exact ⟨AV.plain_cell g1, g2⟩) (fun j a ha => hr2 _ _ j a (List.getElem?_eq_getElem hnl) ha)
    · cases hr
  · rename_i k l kk n
    split at hr
    · rename_i e hs he
      cases hr
      rw [hs] at hso
      subst hso
      obtain ⟨rfl, hk, h0, hlt⟩ := hp
      have hsz := (hT _ _ he).sizeOf c.w
      cases hi
      cases hv with
      | psl _ _ A m cap b o vs hn hcap hm hA hk2 hc hr2 =>
        have hne : l ≠ [] := by rintro rfl; simp at hlt; omega
        obtain rfl := hA hne
        have hnl : n.toNat < l.length := by omega
        refine ⟨rfl, .pointer (some ⟨b, o + n.toNat * e.size, none⟩), ?_, ?_⟩
        · have hn2 : n < (m : Int) := by omega
          simp [Instr.indexAt, asIntOf, run_underlying hd, Sem.run_bind, h0, hn2, hsz, Addr.add_mid]
        · rw [List.getD_eq_getElem?_getD, List.getElem?_eq_getElem hnl]
          exact .rptr _ b _ (fun j => vs n.toNat j) (fun j a ha => hc _ _ j a (List.getElem?_eq_getElem hnl) ha) (fun j a ha => hr2 _ _ j a (List.getElem?_eq_getElem hnl) ha)
    · cases hr
  · rename_i i k o m cp kk n
    split at hr
    · rename_i e hs he
      cases hr
      rw [hs] at hso
      subst hso
      obtain ⟨rfl, hk, h0, hlt⟩ := hp
      have hsz := (hT _ _ he).sizeOf c.w
      cases hi
      cases hv with
      | msl _ _ _ _ _ b o' hk hb hn hcap hm ho =>
        refine ⟨rfl, .pointer (some ⟨b, (o + n.toNat) * e.size + 0, none⟩), ?_, .eptr i e.size (o + n.toNat) 0 b hk hb hn⟩
        obtain rfl := ho (by omega)
        have e1 : o * e.size + n.toNat * e.size = (o + n.toNat) * e.size := by rw [Nat.add_mul]
        simp [Instr.indexAt, asIntOf, run_underlying hd, Sem.run_bind, h0, hlt, hsz, Addr.add_mid, e1]
    · cases hr
  · rename_i i o kk n
    split at hr
    · rename_i m e hs he
      cases hr
      rw [hs] at hso
      subst hso
      obtain ⟨hk, h0, hlt⟩ := hp
      have hsz := (hT _ _ he).sizeOf c.w
      cases hi
      cases hv with
      | ptr _ _ b hk hb hn =>
        refine ⟨rfl, .pointer (some ⟨b, o + n.toNat * e.size, none⟩), ?_, .ptr i _ b hk hb hn⟩
        simp [Instr.indexAt, asIntOf, run_underlying hd, Sem.run_bind, Instr.sureAddr, h0, hlt, hsz, Addr.add_mid]
    · cases hr
  · rename_i cs kk n
    split at hr
    · rename_i m e hs he
      cases hr
      rw [hs] at hso
      subst hso
      obtain ⟨hk, h0, hlt⟩ := hp
      have hsz := (hT _ _ he).sizeOf c.w
      cases hi
      cases hv with
      | rptr _ b o vs h1 h2 =>
        refine ⟨rfl, .pointer (some ⟨b, o + n.toNat * e.size, none⟩), ?_, .rptr _ b _ (fun j => vs (n.toNat * e.size + j)) (fun j a ha => ?_) (fun j a ha => ?_)⟩
        · simp [Instr.indexAt, asIntOf, run_underlying hd, Sem.run_bind, Instr.sureAddr, h0, hlt, hsz, Addr.add_mid]
        · rw [List.getElem?_drop] at ha
          have := h1 _ a ha
          rwa [← Nat.add_assoc] at this
        · rw [List.getElem?_drop] at ha
          exact h2 _ a ha
    · cases hr
  · cases hr
theorem apart_ok {t : Nat} {ti : TI} (ht : TIok P t ti) {vs : Array Value} {cs : List AV} (hs : vs.size = cs.length) (hc : ∀ (i : Nat) a, cs[i]? = some a → a.cell = true) (hr' : ∀ (i : Nat) v a, vs[i]? = some v → cs[i]? = some a → RV c v a) {o : Nat} {r : ARes} (hr : apart ti cs o = some r) (hp : r.p) (w : World) :
    r.d = none ∧ ∃ u, (Go.part t vs o).run P w = .ok u w ∧ RV c u r.v := by
  unfold apart at hr
  simp only [Option.map_eq_some_iff] at hr
  obtain ⟨y, hy, rfl⟩ := hr
  refine ⟨rfl, ?_⟩
  have hag := ht.isAgg w
  have hsz := ht.sizeOf w
  unfold cellsAs at hy
  split at hy
  · rename_i hagg
    cases hy
    refine ⟨.agg (vs.extract o (o + ti.size)), by simp [Go.part, Sem.run_bind, hag, hagg, hsz], .agg _ _ (by simp at hp; simp; omega) (fun j a ha => ?_) fun j v a hv ha => ?_⟩
    · rw [List.getElem?_take] at ha
      split at ha
      · rw [List.getElem?_drop] at ha; exact hc _ a ha
      · cases ha
    · rw [List.getElem?_take] at ha
      split at ha
      · rw [List.getElem?_drop] at ha
        rw [Array.getElem?_extract] at hv
        split at hv
        · exact hr' _ v a hv ha
        · cases hv
      · cases ha
  · rename_i hagg
    have hagg' : ti.agg = false := by simpa using hagg
    split at hy
    · rename_i x hx
      cases hy
      have h1 : cs[o]? = some y := by
        have := congrArg (·[0]?) hx
        simp only [List.getElem?_cons_zero, List.getElem?_take, ht.one hagg', Nat.zero_lt_one, if_true, List.getElem?_drop, Nat.add_zero] at this
        exact this
      have ho : o < vs.size := by rw [hs]; exact (List.getElem?_eq_some_iff.1 h1).1
      refine ⟨vs[o], by simp [Go.part, Sem.run_bind, hag, hagg', ho], hr' o _ y (Array.getElem?_eq_getElem ho) h1⟩
    · cases hy
theorem afield_ok (hT : TabOk P T) {t : Nat} {ti : TI} (ht : TIok P t ti) {n : Nat} {v : Value} {x : AV} (hv : RV c v x) {r : ARes} (hr : afield T ti n x = some r) (hp : r.p) :
    r.d = none ∧ ∃ u, (Instr.field t v n).run P c.w = .ok u c.w ∧ RV c u r.v := by
  unfold afield at hr
  split at hr
  · rename_i cs
    split at hr
    · rename_i o ft hst ho
      simp only [Option.bind_eq_some_iff] at hr
      obtain ⟨fi, hfi, hr⟩ := hr
      obtain ⟨fs, f, i, h1, h2, rfl, rfl, h3, h4⟩ := ht.field ho hst
      cases hv with
      | agg vs _ hs hc hr' =>
        obtain ⟨g1, u, g2, g3⟩ := apart_ok (hT _ _ hfi) hs hc hr' hr hp c.w
        exact ⟨g1, u, by simp [Instr.field, run_underlying h1, h2, Sem.run_bind, asAgg, g2], g3⟩
    · cases hr
  · cases hr
theorem aindex_ok (hT : TabOk P T) {t : Nat} {ti : TI} (ht : TIok P t ti) {v vi : Value} {x y : AV} (hv : RV c v x) (hi : RV c vi y) {r : ARes} (hr : aindex T ti x y = some r) (hp : r.p) :
    r.d = none ∧ ∃ u, (Instr.index t v vi).run P c.w = .ok u c.w ∧ RV c u r.v := by
  obtain ⟨d, hd, hso⟩ := ht.desc
  unfold sortOk at hso
  unfold aindex at hr
  split at hr
  · rename_i cs kk n
    split at hr
    · rename_i m e hs he
      simp only [Option.map_eq_some_iff] at hr
      obtain ⟨q, hq, rfl⟩ := hr
      rw [hs] at hso
      subst hso
      obtain ⟨⟨h0, hlt⟩, hp⟩ := hp
      have hsz := (hT _ _ he).sizeOf c.w
      cases hi
      cases hv with
      | agg vs _ hs hc hr' =>
        obtain ⟨g1, u, g2, g3⟩ := apart_ok (hT _ _ he) hs hc hr' hq hp c.w
        exact ⟨rfl, u, by simp [Instr.index, asIntOf, run_underlying hd, Sem.run_bind, h0, hlt, hsz, g2], g3⟩
    · cases hr
  · rename_i l kk n
    split at hr
    · rename_i hs
      cases hr
      rw [hs] at hso
      subst hso
      obtain ⟨h0, hlt⟩ := hp
      cases hi
      cases hv with
      | str s _ hl =>
        have hsz : n.toNat < s.data.toList.length := by rw [hl]; omega
        have hsz' : n.toNat < s.size := by simpa using hsz
        have e1 : l.getD n.toNat 0 = s[n.toNat] := by
          rw [List.getD_eq_getElem?_getD, ← hl, List.getElem?_eq_getElem hsz]
          simp [ByteArray.getElem_eq_getElem_data]
        refine ⟨rfl, .int .u8 (s[n.toNat].toNat : Int), ?_, by rw [e1]; exact .int _ _⟩
        simp [Instr.index, asIntOf, run_underlying hd, Sem.run_bind, h0, hsz']
    · cases hr
  · cases hr
end
end Go.Proofs.YtgonmnjgodleeaaDoor
