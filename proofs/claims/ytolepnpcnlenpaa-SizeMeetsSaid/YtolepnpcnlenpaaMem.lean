/-
  Words for memory: what a slice reads as, as a list of anything; how an argument's reading gives it; what stays behind a call. Nothing here speaks of the program.
-/
import Derived.Test.YtolepnpcnlenpaaBase
import Derived.Deep.Slices
import Derived.Deep.AppendLies
import Derived.Laws.OwnMore
namespace Go.Proofs.Ytolepnpcnlenpaa
open Go.ChangeShapes Go.WideShapes Go.ChangeAt Go.RowKit Go.Deep

/-- How cells read as a thing, in a world. -/
abbrev Rep (α : Type) := World → List Value → α → Prop
/-- What reads so still does, behind whatever leaves the old blocks alone. -/
def Stable {α : Type} (R : Rep α) : Prop := ∀ w w' cs a, Below w.heap.size w w' → R w cs a → R w' cs a

def intR (k : IntKind) : Rep Int := fun _ cs n => cs = [.int k n] ∧ (Lit.int k n).wf = true
def boolR : Rep Bool := fun _ cs b => cs = [.bool b]
def strR : Rep ByteArray := fun _ cs s => cs = [.string s] ∧ s.size ≤ maxLen
/-- A byte as a cell. -/
def byteV (c : UInt8) : Value := .int .u8 c.toNat
def byteR : Rep UInt8 := fun _ cs c => cs = [byteV c]
theorem intR_stable (k : IntKind) : Stable (intR k) := fun _ _ _ _ _ h => h
theorem boolR_stable : Stable boolR := fun _ _ _ _ _ h => h
theorem strR_stable : Stable strR := fun _ _ _ _ _ h => h
theorem byteR_stable : Stable byteR := fun _ _ _ _ _ h => h

/-- The slice at A reads as l, an element k cells. -/
def Sl {α : Type} (R : Rep α) (k : Nat) (w : World) (A : Option Addr) (l : List α) : Prop :=
  l ≠ [] → ∃ b o, A = some ⟨b, o, none⟩ ∧ b < w.heap.size ∧ ∀ (j : Nat) a, l[j]? = some a → ∃ cs, cs.length = k ∧ R w cs a ∧ ∀ i u, cs[i]? = some u → w.cell? ⟨b, o + j * k + i, none⟩ = some u
/-- A slice's one cell. -/
def slR {α : Type} (R : Rep α) (k : Nat) : Rep (List α) := fun w cs l => ∃ A c, cs = [.slice A l.length c] ∧ l.length ≤ c ∧ c ≤ maxLen ∧ Sl R k w A l

section
variable {α : Type} {R : Rep α} {k : Nat} {w w' : World} {A : Option Addr} {l : List α}
theorem Sl.nil : Sl R k w A [] := fun h => absurd rfl h
theorem Sl.below (hR : Stable R) (h : Sl R k w A l) (hb : Below w.heap.size w w') : Sl R k w' A l := fun hn => by
  obtain ⟨b, o, rfl, hlt, hc⟩ := h hn
  refine ⟨b, o, rfl, Nat.lt_of_lt_of_le hlt hb.size, fun j a hj => ?_⟩
  obtain ⟨cs, hl, hr, hcs⟩ := hc j a hj
  exact ⟨cs, hl, hR _ _ _ _ hb hr, fun i u hu => (hb.cell (p := ⟨b, _, none⟩) hlt).trans (hcs i u hu)⟩
theorem slR_stable (hR : Stable R) : Stable (slR R k) := fun _ _ _ _ hb ⟨A, c, h1, h2, h3, h4⟩ => ⟨A, c, h1, h2, h3, h4.below hR hb⟩
/-- An element of k cells. -/
theorem Sl.get (h : Sl R k w A l) {i : Nat} {a : α} (hi : l[i]? = some a) :
    ∃ b o cs, A = some ⟨b, o, none⟩ ∧ b < w.heap.size ∧ cs.length = k ∧ R w cs a ∧ ∀ j u, cs[j]? = some u → w.cell? ⟨b, o + i * k + j, none⟩ = some u := by
  obtain ⟨b, o, rfl, hlt, hc⟩ := h (by rintro rfl; simp at hi)
  obtain ⟨cs, hl, hr, hcs⟩ := hc i a hi
  exact ⟨b, o, cs, rfl, hlt, hl, hr, hcs⟩
/-- An element of one cell. -/
theorem Sl.get1 (h : Sl R 1 w A l) {i : Nat} {a : α} (hi : l[i]? = some a) :
    ∃ b o v, A = some ⟨b, o, none⟩ ∧ b < w.heap.size ∧ R w [v] a ∧ w.cell? ⟨b, o + i, none⟩ = some v := by
  obtain ⟨b, o, cs, rfl, hlt, hl, hr, hcs⟩ := h.get hi
  match cs, hl with
  | [v], _ => exact ⟨b, o, v, rfl, hlt, hr, by simpa using hcs 0 v rfl⟩
theorem Sl.take (h : Sl R k w A l) (n : Nat) : Sl R k w A (l.take n) := fun hn => by
  obtain ⟨b, o, rfl, hlt, hc⟩ := h (by rintro rfl; simp at hn)
  refine ⟨b, o, rfl, hlt, fun j a hj => hc j a ?_⟩
  rw [List.getElem?_take] at hj
  split at hj
  · exact hj
  · cases hj
theorem Sl.drop {b o : Nat} (h : Sl R k w (some ⟨b, o, none⟩) l) (n : Nat) : Sl R k w (some ⟨b, o + n * k, none⟩) (l.drop n) := fun hn => by
  obtain ⟨b', o', he, hlt, hc⟩ := h (by rintro rfl; simp at hn)
  simp only [Option.some.injEq, Addr.mk.injEq, and_true] at he
  obtain ⟨rfl, rfl⟩ := he
  refine ⟨b, _, rfl, hlt, fun j a hj => ?_⟩
  rw [List.getElem?_drop] at hj
  obtain ⟨cs, hl, hr, hcs⟩ := hc _ a hj
  refine ⟨cs, hl, hr, fun i u hu => ?_⟩
  rw [← hcs i u hu]
  congr 2
  rw [Nat.add_mul]
  omega
/-- A row that the call itself has laid reads as what its cells read as. -/
theorem Sl.of_own {base : Nat} {e : TypeId} {n c : Nat} {xs : List Value} (h : w.ownsRow base e k (.slice A n c) n xs) (hl : l.length = n)
    (hx : ∀ (j : Nat) a, l[j]? = some a → R w ((xs.drop (j * k)).take k) a) : Sl R k w A l := fun hn => by
  have hpos : 0 < n := by rw [← hl]; exact List.length_pos_iff.2 hn
  obtain ⟨g, cap, hv, _, hlt⟩ := h.form hpos
  simp only [Value.slice.injEq, true_and] at hv
  obtain ⟨rfl, rfl⟩ := hv
  refine ⟨g, 0, rfl, hlt, fun j a hj => ⟨_, ?_, hx j a hj, fun i u hu => ?_⟩⟩
  · have hjl : j < n := by rw [← hl]; exact (List.getElem?_eq_some_iff.1 hj).1
    have hx1 := h.1
    have : (j + 1) * k ≤ n * k := Nat.mul_le_mul_right k hjl
    rw [Nat.add_mul] at this
    simp only [List.length_take, List.length_drop]
    omega
  · have hjl : j < n := by rw [← hl]; exact (List.getElem?_eq_some_iff.1 hj).1
    rw [List.getElem?_take] at hu
    split at hu
    · rename_i hik
      rw [List.getElem?_drop] at hu
      have : (j + 1) * k ≤ n * k := Nat.mul_le_mul_right k hjl
      rw [Nat.add_mul] at this
      rw [Nat.zero_add, h.cellAt (j * k + i) (by omega), hu]
    · cases hu
end

/-! ### out of an argument's reading -/
/-- Cells that read as data of type e read as R has it. -/
def Opens {α : Type} (P : Program) (e : TypeId) (R : Rep α) : Prop :=
  ∀ {H : Type} (enc : TypeId × Value → H) (w : World) (base : Nat) (sp : Nat → Bool) (hd : Bool) (n : Nat) (cs : List Value) (x : DataW H × List MemPlace), DataW.trod enc P w base sp hd n e cs = some x → ∃ a, R w cs a
section
variable {P : Program}
theorem opens_int {e : TypeId} {k : IntKind} (he : P.underlying e = some (.int k)) : Opens P e (intR k) := fun _ _ _ _ _ _ _ _ h => by
  obtain ⟨n, rfl, _, hw⟩ := DataW.trod_int he h
  exact ⟨n, rfl, hw⟩
theorem opens_bool {e : TypeId} (he : P.underlying e = some .bool) : Opens P e boolR := fun _ _ _ _ _ _ _ _ h => by
  obtain ⟨b, rfl, _⟩ := DataW.trod_bool he h
  exact ⟨b, rfl⟩
theorem opens_str {e : TypeId} (he : P.underlying e = some .string) : Opens P e strR := fun _ _ _ _ _ _ _ _ h => by
  obtain ⟨s, rfl, _, hs⟩ := DataW.trod_string he h
  exact ⟨s, rfl, hs⟩
theorem opens_byte {e : TypeId} (he : P.underlying e = some (.int .u8)) : Opens P e byteR := fun _ _ _ _ _ _ _ _ h => by
  obtain ⟨n, rfl, _, hw⟩ := DataW.trod_int he h
  simp [Lit.wf, IntKind.min, IntKind.max, IntKind.signed, IntKind.bits] at hw
  obtain ⟨m, rfl⟩ := Int.eq_ofNat_of_zero_le hw.1
  have hm : m < 256 := by omega
  exact ⟨UInt8.ofNat m, by simp [byteR, byteV, Nat.mod_eq_of_lt hm]⟩
theorem opens_slice {α : Type} {R : Rep α} {t e : TypeId} {k : Nat} (ht : P.underlying t = some (.slice e)) (hk : P.cellsOf e = k) (hk0 : 0 < k) (hR : Opens P e R) : Opens P t (slR R k) := fun enc w base sp hd n cs x h => by
  subst hk
  rcases open_slice ht h with ⟨rfl, _⟩ | ⟨ad, len, cap, m, n', D, Pl, rfl, _, hlc, hcm, hm, _, hi⟩
  · exact ⟨[], none, 0, rfl, Nat.le_refl _, Nat.zero_le _, Sl.nil⟩
  · have hlm : len ≤ m := by rw [hm]; split <;> omega
    have hex : ∀ i, i < len → ∃ a, ∃ cs', w.cells? base (ad.add (i * P.cellsOf e)) (P.cellsOf e) = some cs' ∧ R w cs' a := fun i hl => by
      obtain ⟨cs', hc, ht'⟩ := hi i (by omega)
      obtain ⟨a, ha⟩ := hR enc w base sp hd n' cs' _ ht'
      exact ⟨a, cs', hc, ha⟩
    have hlist : ∀ m', m' ≤ len → ∃ l : List α, l.length = m' ∧ ∀ i a, l[i]? = some a → ∃ cs', w.cells? base (ad.add (i * P.cellsOf e)) (P.cellsOf e) = some cs' ∧ R w cs' a := by
      intro m'
      induction m' with
      | zero => exact fun _ => ⟨[], rfl, fun i a h => by simp at h⟩
      | succ q ih =>
        intro hq
        obtain ⟨l, hl, hg⟩ := ih (by omega)
        obtain ⟨a, ha⟩ := hex q (by omega)
        refine ⟨l ++ [a], by simp [hl], fun i b hb => ?_⟩
        rw [List.getElem?_append] at hb
        split at hb
        · exact hg i b hb
        · rename_i hge
          have : i = q := by
            have := (List.getElem?_eq_some_iff.1 hb).1
            simp at this
            omega
          subst this
          simp [hl] at hb
          subst hb
          exact ha
    obtain ⟨l, hl, hg⟩ := hlist len (Nat.le_refl _)
    refine ⟨l, some ad, cap, by rw [hl], by omega, hcm, fun hne => ?_⟩
    obtain ⟨a0, ha0⟩ : ∃ a, l[0]? = some a := ⟨l[0]'(List.length_pos_iff.2 hne), List.getElem?_eq_getElem _⟩
    obtain ⟨cs0, hc0, _⟩ := hg 0 a0 ha0
    obtain ⟨_, hl0, hat0⟩ := World.cells?_some hc0
    have h00 := hat0 0 hk0
    have hsome : cs0[0]? = some (cs0[0]'(by omega)) := List.getElem?_eq_getElem _
    rw [hsome] at h00
    obtain ⟨b, o, sp'⟩ := ad
    have hsp : sp' = none := by
      simp only [Nat.zero_mul, Addr.add, if_true] at h00
      unfold World.cell? at h00
      split at h00
      · cases sp' with
        | none => rfl
        | some q => simp at h00
      · cases h00
    subst hsp
    have hblt := World.block_lt_of_cell? w _ h00
    refine ⟨b, o, rfl, by simpa [Addr.add] using hblt, fun j a hj => ?_⟩
    obtain ⟨cs', hc', hr'⟩ := hg j a hj
    obtain ⟨_, hl', hat'⟩ := World.cells?_some hc'
    refine ⟨cs', hl', hr', fun i u hu => ?_⟩
    have hi' : i < P.cellsOf e := by rw [← hl']; exact (List.getElem?_eq_some_iff.1 hu).1
    rw [← hu, ← hat' i hi']
    congr 1
    unfold Addr.add
    split <;> split <;> simp_all <;> omega
end
end Go.Proofs.Ytolepnpcnlenpaa
