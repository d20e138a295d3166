/-
  Out of an argument's reading: what its cells read as. Nothing here speaks of the program.
-/
import Derived.Test.YtpigfpnpabnnbaaRep
namespace Go.Proofs.Ytpigfpnpabnnbaa
open Go.ChangeShapes Go.WideShapes Go.ChangeAt Go.RowKit Go.Deep
/-! ### out of an argument's reading -/
/-- Cells that read as data of type e read as R has it. -/
def Opens {α : Type} (P : Program) (e : TypeId) (R : Rep α) : Prop :=
  ∀ {H : Type} (enc : TypeId × Value → H) (w : World) (base : Nat) (sp : Nat → Bool) (hd : Bool) (n : Nat) (cs : List Value) (x : DataW H × List MemPlace), DataW.trod enc P w base sp hd n e cs = some x → ∃ a, R.at_ w.heap.size w cs a
section
variable {P : Program}
theorem opens_int {e : TypeId} {k : IntKind} (he : P.underlying e = some (.int k)) : Opens P e (intR k) := fun _ _ _ _ _ _ _ _ h => by
  obtain ⟨n, rfl, _, hw⟩ := DataW.trod_int he h
  exact ⟨n, rfl, hw⟩
theorem opens_bool {e : TypeId} (he : P.underlying e = some .bool) : Opens P e boolR := fun _ _ _ _ _ _ _ _ h => by
  obtain ⟨b, rfl, _⟩ := DataW.trod_bool he h
  exact ⟨b, rfl⟩
theorem opens_str {e : TypeId} (he : P.underlying e = some .string) : Opens P e strR := fun _ _ _ _ _ _ _ _ h => by
  obtain ⟨s, rfl, _, hs⟩ := DataW.trod_string he h
  exact ⟨s, rfl, hs⟩
theorem opens_byte {e : TypeId} (he : P.underlying e = some (.int .u8)) : Opens P e byteR := fun _ _ _ _ _ _ _ _ h => by
  obtain ⟨n, rfl, _, hw⟩ := DataW.trod_int he h
  simp [Lit.wf, IntKind.min, IntKind.max, IntKind.signed, IntKind.bits] at hw
  obtain ⟨m, rfl⟩ := Int.eq_ofNat_of_zero_le hw.1
  have hm : m < 256 := by omega
  refine ⟨UInt8.ofNat m, ?_⟩
  show [Value.int .u8 _] = [byteV _]
  simp [byteV, Nat.mod_eq_of_lt hm]
theorem opens_slice {α : Type} {R : Rep α} {t e : TypeId} {k : Nat} (ht : P.underlying t = some (.slice e)) (hk : P.cellsOf e = k) (hk0 : 0 < k) (hR : Opens P e R) : Opens P t (slR R k) := fun enc w base sp hd n cs x h => by
  subst hk
  rcases open_slice ht h with ⟨rfl, _⟩ | ⟨ad, len, cap, m, n', D, Pl, rfl, _, hlc, hcm, hm, _, hi⟩
  · exact ⟨[], none, 0, rfl, Nat.le_refl _, Nat.zero_le _, Sl.nil⟩
  · have hlm : len ≤ m := by rw [hm]; split <;> omega
    have hex : ∀ i, i < len → ∃ a, ∃ cs', w.cells? base (ad.add (i * P.cellsOf e)) (P.cellsOf e) = some cs' ∧ R.at_ w.heap.size w cs' a := fun i hl => by
      obtain ⟨cs', hc, ht'⟩ := hi i (by omega)
      obtain ⟨a, ha⟩ := hR enc w base sp hd n' cs' _ ht'
      exact ⟨a, cs', hc, ha⟩
    have hlist : ∀ m', m' ≤ len → ∃ l : List α, l.length = m' ∧ ∀ i a, l[i]? = some a → ∃ cs', w.cells? base (ad.add (i * P.cellsOf e)) (P.cellsOf e) = some cs' ∧ R.at_ w.heap.size w cs' a := by
      intro m'
      induction m' with
      | zero => exact fun _ => ⟨[], rfl, fun i a h => by simp at h⟩
      | succ q ih =>
        intro hq
        obtain ⟨l, hl, hg⟩ := ih (by omega)
        obtain ⟨a, ha⟩ := hex q (by omega)
        refine ⟨l ++ [a], by simp [hl], fun i b hb => ?_⟩
        rw [List.getElem?_append] at hb
        split at hb
        · exact hg i b hb
        · rename_i hge
          have : i = q := by
            have := (List.getElem?_eq_some_iff.1 hb).1
            simp at this
            omega
          subst this
          simp [hl] at hb
          subst hb
          exact ha
    obtain ⟨l, hl, hg⟩ := hlist len (Nat.le_refl _)
    refine ⟨l, some ad, cap, by rw [hl], by omega, hcm, fun hne => ?_⟩
    obtain ⟨a0, ha0⟩ : ∃ a, l[0]? = some a := ⟨l[0]'(List.length_pos_iff.2 hne), List.getElem?_eq_getElem _⟩
    obtain ⟨cs0, hc0, _⟩ := hg 0 a0 ha0
    obtain ⟨_, hl0, hat0⟩ := World.cells?_some hc0
    have h00 := hat0 0 hk0
    have hsome : cs0[0]? = some (cs0[0]'(by omega)) := List.getElem?_eq_getElem _
    rw [hsome] at h00
    obtain ⟨b, o, sp'⟩ := ad
    have hsp : sp' = none := by
      simp only [Nat.zero_mul, Addr.add, if_true] at h00
      unfold World.cell? at h00
      split at h00
      · cases sp' with
        | none => rfl
        | some q => simp at h00
      · cases h00
    subst hsp
    have hblt := World.block_lt_of_cell? w _ h00
    refine ⟨b, o, rfl, by simpa [Addr.add] using hblt, fun j a hj => ?_⟩
    obtain ⟨cs', hc', hr'⟩ := hg j a hj
    obtain ⟨_, hl', hat'⟩ := World.cells?_some hc'
    refine ⟨cs', hl', hr', fun i u hu => ?_⟩
    have hi' : i < P.cellsOf e := by rw [← hl']; exact (List.getElem?_eq_some_iff.1 hu).1
    rw [← hu, ← hat' i hi']
    congr 1
    unfold Addr.add
    split <;> split <;> simp_all <;> omega
theorem nat_u64 {n : Int} (h : (Lit.int .u64 n).wf = true) : ∃ m : Nat, n = m ∧ m < 18446744073709551616 := by
  simp [Lit.wf, IntKind.min, IntKind.max, IntKind.signed, IntKind.bits] at h
  obtain ⟨m, rfl⟩ := Int.eq_ofNat_of_zero_le h.1
  exact ⟨m, rfl, by omega⟩
theorem i64_lim {n : Int} (h : (Lit.int .i64 n).wf = true) : -9223372036854775808 ≤ n ∧ n ≤ 9223372036854775807 := by
  simp [Lit.wf, IntKind.min, IntKind.max, IntKind.signed, IntKind.bits] at h
  omega
/-- A slice as an argument. -/
theorem open_arg {α : Type} {R : Rep α} {k : Nat} {t e : TypeId} {H : Type} {enc : TypeId × Value → H} {w : World} {base base' : Nat} {sp : Nat → Bool} {hd : Bool} {v : Value} {d : DataW H} {p : List MemPlace} {r : Reach}
    (ht : P.underlying t = some (.slice e)) (hO : Opens P t (slR R k)) (hval : Value.okWide P w r base' t v) (h : DataW.Trod enc P w base sp hd t v d p) :
    ∃ l A c, v = .slice A l.length c ∧ l.length ≤ c ∧ c ≤ maxLen ∧ Sl R k w.heap.size w A l := by
  obtain ⟨f, hf⟩ := h
  obtain ⟨A, n, c, rfl⟩ := okWide_slice ht hval
  obtain ⟨l, A', k', e', g, g', s⟩ := hO enc w _ _ _ _ _ _ hf
  simp only [Value.cells, List.cons.injEq, Value.slice.injEq, and_true] at e'
  obtain ⟨rfl, rfl, rfl⟩ := e'
  exact ⟨l, _, _, rfl, g, g', s⟩
/-- A string as an argument. -/
theorem open_str {t : TypeId} {H : Type} {enc : TypeId × Value → H} {w : World} {base base' : Nat} {sp : Nat → Bool} {hd : Bool} {v : Value} {d : DataW H} {p : List MemPlace} {r : Reach}
    (ht : P.underlying t = some .string) (hval : Value.okWide P w r base' t v) (h : DataW.Trod enc P w base sp hd t v d p) : ∃ s, v = .string s ∧ s.size ≤ maxLen := by
  obtain ⟨f, hf⟩ := h
  obtain ⟨s, hs, _, hm⟩ := DataW.trod_string ht hf
  have : ∃ s', v = .string s' := okWide_string ht hval
  obtain ⟨s', rfl⟩ := this
  simp only [Value.cells, List.cons.injEq, Value.string.injEq, and_true] at hs
  subst hs
  exact ⟨s', rfl, hm⟩
end
end Go.Proofs.Ytpigfpnpabnnbaa
