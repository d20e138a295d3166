/-
  The shadow of a run: the table of types, checked against a program's; loads, stores, parts as the model carries them out. Nothing here speaks of the program.
-/
import Derived.Test.YtgonmnjgodleeaaDoorAo
namespace Go.Proofs.YtgonmnjgodleeaaDoor
open Go.RowKit
def zeroC : Value → AV → Bool
  | .int k 0, .int k' 0 => k == k'
  | .bool false, .bool false => true
  | .string s, .str [] => s.data.toList.isEmpty
  | .pointer none, .nilp => true
  | .slice none 0 0, .nils => true
  | .map none, .nilm => true
  | .nilFunc, .nilf => true
  | .nilIface, .nilI => true
  | _, _ => false
def zeroL : List Value → List AV → Bool
  | [], [] => true
  | v :: vs, a :: as => zeroC v a && zeroL vs as
  | _, _ => false
theorem zeroC_ok {v : Value} {a : AV} (h : zeroC v a = true) : a.plain = true ∧ ∀ c, RV c v a := by
  unfold zeroC at h
  split at h <;> first | cases h; done | skip
  · simp at h; subst h; exact ⟨rfl, fun c => .int _ _⟩
  · exact ⟨rfl, fun c => .bool _⟩
  · exact ⟨rfl, fun c => .str _ _ (by simpa using h)⟩
  · exact ⟨rfl, fun c => .nilp⟩
  · exact ⟨rfl, fun c => .nils⟩
  · exact ⟨rfl, fun c => .nilm⟩
  · exact ⟨rfl, fun c => .nilf⟩
  · exact ⟨rfl, fun c => .nilI⟩
theorem zeroL_ok : ∀ {vs : List Value} {as : List AV}, zeroL vs as = true → vs.length = as.length ∧ ∀ (j : Nat) v a, vs[j]? = some v → as[j]? = some a → a.plain = true ∧ ∀ c, RV c v a
  | [], [], _ => ⟨rfl, fun j v a h => by simp at h⟩
  | v :: vs, a :: as, h => by
    simp only [zeroL, Bool.and_eq_true] at h
    obtain ⟨h1, h2⟩ := zeroL_ok h.2
    refine ⟨by simp [h1], fun j v' a' hv ha => ?_⟩
    cases j with
    | zero => simp at hv ha; subst hv ha; exact zeroC_ok h.1
    | succ j => exact h2 j v' a' (by simpa using hv) (by simpa using ha)
  | [], _ :: _, h => by cases h
  | _ :: _, [], h => by cases h
/-- A type's sort, as the program tells it. -/
def sortOk (P : Program) (ti : TI) (d : TypeDesc) : Prop :=
  match ti.sort with
  | .bool => d = .bool | .int k => d = .int k | .str => d = .string | .ptr => d = .pointer ti.elem | .sl => d = .slice ti.elem | .arr n => d = .array n ti.elem
  | .st => ∃ fs, d = .struct fs ∧ fs.toList.map (fun f => (f.offset, f.type)) = ti.offs ∧ ∀ f ∈ fs.toList, ∃ i, P.info? f.type = some i ∧ i.size ≠ 0
  | .map => ∃ k, d = .map k ti.elem ∧ ti.offs = [(0, k)] | .fn => ∃ a b c, d = .func a b c | .iface => ∃ ms, d = .interface ms | .other => False
def sortB (P : Program) (ti : TI) (d : TypeDesc) : Bool :=
  match ti.sort, d with
  | .bool, .bool | .str, .string | .fn, .func .. | .iface, .interface _ => true
  | .map, .map k e => e == ti.elem && ti.offs == [(0, k)]
  | .int k, .int k' => k == k'
  | .ptr, .pointer e | .sl, .slice e => e == ti.elem
  | .arr n, .array m e => n == m && e == ti.elem
  | .st, .struct fs => fs.toList.map (fun f => (f.offset, f.type)) == ti.offs && fs.toList.all fun f => match P.info? f.type with | some i => i.size != 0 | none => false
  | _, _ => false
theorem sortB_ok {P : Program} {ti : TI} {d : TypeDesc} (h : sortB P ti d = true) : sortOk P ti d := by
  unfold sortB at h
  unfold sortOk
  split at h <;> first | cases h; done | skip
  all_goals rename_i hs
  all_goals simp only [hs]
  all_goals try simp only [Bool.and_eq_true, beq_iff_eq, List.all_eq_true] at h
  all_goals first | (subst h; rfl) | (obtain ⟨rfl, rfl⟩ := h; rfl) | (obtain ⟨rfl, h⟩ := h; exact ⟨_, rfl, h⟩) | exact ⟨_, _, _, rfl⟩ | exact ⟨_, rfl⟩ | rfl | skip
  obtain ⟨h1, h2⟩ := h
  refine ⟨_, rfl, h1, fun f hf => ?_⟩
  have := h2 f hf
  split at this
  · rename_i i hi; exact ⟨i, hi, by simpa using this⟩
  · cases this
def scalB (P : Program) (t : TypeId) (s : TS) : Bool :=
  match P.underlying t, s with
  | some .bool, .bool | some (.int _), .int _ | some .string, .str => true
  | _, _ => false
def flatL (P : Program) : List Field → Nat → List TS → Bool
  | [], _, [] => true
  | f :: fs, o, s :: ss => f.offset == o && f.name != "_" && scalB P f.type s && flatL P fs (o + 1) ss
  | _, _, _ => false
/-- Its cells are those of scalars, without a name that is blank, and it is compared cell by cell. -/
def flatEq (P : Program) (t : TypeId) (ss : List TS) : Bool :=
  match P.underlying t with
  | some (.struct fs) => !P.stoodInHeld t && flatL P fs.toList 0 ss && !P.eqGuardType P.depth t
  | some (.array n e) => ss.length == n && ss.all (scalB P e) && P.cellsOf e == 1 && (P.info? e).isSome && !P.eqGuardType P.depth t
  | _ => false
def aggB : Value → Bool
  | .agg _ => true
  | _ => false
structure TIok (P : Program) (t : Nat) (ti : TI) : Prop where
  info : ∃ i z, P.info? t = some i ∧ i.size = ti.size ∧ i.bytes = ti.bytes ∧ i.zero = some z ∧ z.cells.size = ti.zero.length ∧ ∀ (j : Nat) v a, z.cells[j]? = some v → ti.zero[j]? = some a → a.plain = true ∧ ∀ c, RV c v a
  desc : ∃ d, P.underlying t = some d ∧ sortOk P ti d
  one : ti.agg = false → ti.size = 1
  zl : ti.zero.length = ti.size
  eq : ti.eqs ≠ [] → flatEq P t ti.eqs = true
  za : ∀ i z, P.info? t = some i → i.zero = some z → aggB z = ti.agg
def tiB (P : Program) (t : Nat) (ti : TI) : Bool :=
  (match P.info? t with
   | some i => i.size == ti.size && i.bytes == ti.bytes && (match i.zero with | some z => zeroL z.cells.toList ti.zero && aggB z == ti.agg | none => false)
   | none => false) &&
  (match P.underlying t with | some d => sortB P ti d | none => false) && (ti.agg || ti.size == 1) && ti.zero.length == ti.size && (ti.eqs.isEmpty || flatEq P t ti.eqs)
theorem tiB_ok {P : Program} {t : Nat} {ti : TI} (h : tiB P t ti = true) : TIok P t ti := by
  simp only [tiB, Bool.and_eq_true] at h
  obtain ⟨⟨⟨⟨h1, h2⟩, h3⟩, h5⟩, h4⟩ := h
  refine ⟨?_, ?_, fun e => by simp [e] at h3; exact h3, by simpa using h5, fun e => by simp [e] at h4; exact h4, fun i z hi hz => ?_⟩
  rotate_left 2
  · rw [hi] at h1
    simp only [hz, Bool.and_eq_true, beq_iff_eq] at h1
    exact h1.2.2
  · split at h1
    · rename_i i hi
      simp only [Bool.and_eq_true, beq_iff_eq] at h1
      obtain ⟨⟨g1, g2⟩, g3⟩ := h1
      split at g3
      · rename_i z hz
        simp only [Bool.and_eq_true] at g3
        obtain ⟨q1, q2⟩ := zeroL_ok g3.1
        exact ⟨i, z, hi, g1, g2, hz, by simpa using q1, fun j v a hv ha => q2 j v a (by simpa using hv) ha⟩
      · cases g3
    · cases h1
  · split at h2
    · rename_i d hd; exact ⟨d, hd, sortB_ok h2⟩
    · cases h2
def TabOk (P : Program) (T : TabT) : Prop := ∀ t ti, T t = some ti → TIok P t ti
section
variable {P : Program} {t : Nat} {ti : TI}
theorem TIok.sizeOf (h : TIok P t ti) (w : World) : (sizeOf t).run P w = .ok ti.size w := by
  obtain ⟨i, z, h1, h2, _⟩ := h.info
  simp [Go.sizeOf, typeInfo, h1, h2]
theorem TIok.isAgg (h : TIok P t ti) (w : World) : (isAgg t).run P w = .ok ti.agg w := by
  obtain ⟨d, h1, h2⟩ := h.desc
  unfold Go.isAgg TI.agg
  unfold sortOk at h2
  rw [Sem.run_bind, run_underlying h1 w]
  split at h2 <;> rename_i hs <;> simp only [hs] <;> first | (subst h2; simp) | skip
  · obtain ⟨fs, rfl, _⟩ := h2; simp
  · obtain ⟨k, rfl, _⟩ := h2; simp
  · obtain ⟨a, b, c, rfl⟩ := h2; simp
  · obtain ⟨ms, rfl⟩ := h2; simp
  · exact h2.elim
end
/-- Cells from a place on read as these. -/
def Cells (c : Cx) (b o : Nat) (xs : List AV) : Prop := ∀ (j : Nat) a, xs[j]? = some a → a.cell = true ∧ ∃ v, c.w.cell? ⟨b, o + j, none⟩ = some v ∧ RV c v a
theorem Cells.vals {c : Cx} {b o : Nat} {xs : List AV} (h : Cells c b o xs) : ∃ vs : List Value, vs.length = xs.length ∧ c.w.rangeAt b o vs ∧ ∀ (j : Nat) v a, vs[j]? = some v → xs[j]? = some a → a.cell = true ∧ RV c v a := by
  induction xs generalizing o with
  | nil => exact ⟨[], rfl, fun j v hv => by simp at hv, fun j v a hv => by simp at hv⟩
  | cons x xs ih =>
    obtain ⟨h0, v0, h1, h2⟩ := h 0 x rfl
    obtain ⟨vs, q1, q2, q3⟩ := ih (o := o + 1) (fun j a ha => by
      obtain ⟨g1, v, g2, g3⟩ := h (j + 1) a (by simpa using ha)
      exact ⟨g1, v, by rw [← g2]; congr 2; omega, g3⟩)
    refine ⟨v0 :: vs, by simp [q1], fun j v hv => ?_, fun j v a hv ha => ?_⟩
    · cases j with
      | zero => simp at hv; subst hv; exact h1
      | succ j => rw [← q2 j v (by simpa using hv)]; congr 2; omega
    · cases j with
      | zero => simp at hv ha; subst hv ha; exact ⟨h0, h2⟩
      | succ j => exact q3 j v a (by simpa using hv) (by simpa using ha)
theorem RV.one {c : Cx} {v : Value} {a : AV} (h : RV c v a) (ha : a.cell = true) : v.oneCell' = true := by
  cases h <;> first | rfl | cases ha
theorem RV.cells {c : Cx} {v : Value} {a : AV} (h : RV c v a) (ha : a.whole = true) : v.cells.size = a.cells.length ∧ ∀ (j : Nat) u x, v.cells[j]? = some u → a.cells[j]? = some x → x.cell = true ∧ RV c u x := by
  have key : ∀ (v : Value) (a : AV), RV c v a → a.cell = true → v.cells = #[v] → a.cells = [a] → (v.cells.size = a.cells.length ∧ ∀ (j : Nat) u x, v.cells[j]? = some u → a.cells[j]? = some x → x.cell = true ∧ RV c u x) := by
    intro v a h ha h1 h2
    rw [h1, h2]
    refine ⟨rfl, fun j u x hu hx => ?_⟩
    match j, hu, hx with
    | 0, hu, hx => simp at hu hx; subst hu hx; exact ⟨ha, h⟩
  cases h with
  | agg vs cs hs hc hr => exact ⟨hs, fun j u x hu hx => ⟨hc j x hx, hr j u x hu hx⟩⟩
  | tup => cases ha
  | cnd => cases ha
  | junk => cases ha
  | int k n => exact key _ _ (.int k n) rfl rfl rfl
  | bool b => exact key _ _ (.bool b) rfl rfl rfl
  | str s l h => exact key _ _ (.str s l h) rfl rfl rfl
  | nilp => exact key _ _ .nilp rfl rfl rfl
  | ptr i o b h1 h2 h3 => exact key _ _ (.ptr i o b h1 h2 h3) rfl rfl rfl
  | rptr cs b o vs h1 h2 => exact key _ _ (.rptr cs b o vs h1 h2) rfl rfl rfl
  | sl k l t A n cap b o vs h1 h2 h3 h4 h5 h6 h7 h8 => exact key _ _ (.sl k l t A n cap b o vs h1 h2 h3 h4 h5 h6 h7 h8) rfl rfl rfl
  | psl k l A n cap b o vs h1 h2 h3 h4 h5 h6 h7 => exact key _ _ (.psl k l A n cap b o vs h1 h2 h3 h4 h5 h6 h7) rfl rfl rfl
  | nils => exact key _ _ .nils rfl rfl rfl
  | fn f v1 v2 a1 a2 h1 h2 h3 h4 => exact key _ _ (.fn f v1 v2 a1 a2 h1 h2 h3 h4) rfl rfl rfl
  | nilf => exact key _ _ .nilf rfl rfl rfl
  | iface t v a h => exact key _ _ (.iface t v a h) rfl rfl rfl
  | nilI => exact key _ _ .nilI rfl rfl rfl
  | mp i b h1 h2 h3 => exact key _ _ (.mp i b h1 h2 h3) rfl rfl rfl
  | nilm => exact key _ _ .nilm rfl rfl rfl
  | msl i k o n cap b o' h1 h2 h3 h4 h5 h6 => exact key _ _ (.msl i k o n cap b o' h1 h2 h3 h4 h5 h6) rfl rfl rfl
  | msu i k n cap b h1 h2 h3 h4 h5 h6 => exact key _ _ (.msu i k n cap b h1 h2 h3 h4 h5 h6) rfl rfl rfl
  | eptr i k j o b h1 h2 h3 => exact key _ _ (.eptr i k j o b h1 h2 h3) rfl rfl rfl
theorem load_ok {P : Program} {c : Cx} {t : Nat} {ti : TI} (hT : TIok P t ti) {b o : Nat} {xs : List AV} (h : Cells c b o xs) (hl : xs.length = ti.size) {r : AV} (hr : cellsAs ti.agg xs = some r) :
    ∃ v, (Instr.loadAt t (.pointer (some ⟨b, o, none⟩))).run P c.w = .ok v c.w ∧ RV c v r := by
  obtain ⟨vs, h1, h2, h3⟩ := h.vals
  obtain ⟨i, z, hi, hs, _⟩ := hT.info
  unfold cellsAs at hr
  split at hr
  · rename_i hagg
    cases hr
    refine ⟨.agg vs.toArray, ?_, .agg _ _ (by simpa using h1) (fun j a ha => (h j a ha).1) fun j v a hv ha => (h3 j v a (by simpa using hv) ha).2⟩
    have hag := hT.isAgg c.w
    have hsz := hT.sizeOf c.w
    have hll : (loadCells ⟨b, o, none⟩ vs.length).run P c.w = .ok vs.toArray c.w :=
      run_loadCells_list (P := P) c.w ⟨b, o, none⟩ vs (fun j v hv => by rw [Addr.add_mid]; exact h2 j v hv)
    rw [h1, hl] at hll
    simp [Instr.loadAt, Instr.sureAddr, loadVar, Sem.run_bind, hag, hagg, hsz, hll]
  · rename_i hagg
    have hagg' : ti.agg = false := by simpa using hagg
    split at hr
    · rename_i x
      cases hr
      obtain ⟨_, v, g1, g2⟩ := h 0 r rfl
      refine ⟨v, ?_, g2⟩
      have hag := hT.isAgg c.w
      rw [Nat.add_zero] at g1
      simp [Instr.loadAt, Instr.sureAddr, loadVar, Sem.run_bind, hag, hagg', Go.load, Sem.run, g1]
    · cases hr
/-- A store into a block whose cells are known. -/
theorem store_ok {P : Program} {w : World} {t : Nat} {ti : TI} (hT : TIok P t ti) {b o : Nat} {vs : Array Value} {e : TypeId} (hb : w.heap[b]? = some (.cells vs e (0, 0))) {v : Value} (hs : v.cells.size = ti.size) (ho : o + ti.size ≤ vs.size)
    (h1 : ∀ u ∈ v.cells.toList, u.oneCell' = true) :
    (Instr.storeAt t (.pointer (some ⟨b, o, none⟩)) v).run P w = .ok () (w.setRow b (vs.toList.take o ++ v.cells.toList ++ vs.toList.drop (o + ti.size)).toArray) := by
  have hsz := hT.sizeOf w
  have := run_storeCells_at P b o e v.cells.toList 0 vs w hb (by simpa [hs] using ho) h1
  simp only [Nat.add_zero, Array.length_toList, hs] at this
  simp [Instr.storeAt, Instr.sureAddr, storeVar, Sem.run_bind, hsz, hs, this]
end Go.Proofs.YtgonmnjgodleeaaDoor
