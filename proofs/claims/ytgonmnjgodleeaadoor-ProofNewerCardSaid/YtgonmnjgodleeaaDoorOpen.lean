/-
  Out of an argument's reading: what its cells read as. Nothing here speaks of the program.
-/
import Derived.Test.YtgonmnjgodleeaaDoorRep
import Derived.SizedLaws
namespace Go.Proofs.YtgonmnjgodleeaaDoor
open Go.ChangeShapes Go.WideShapes Go.ChangeAt Go.RowKit Go.Deep
/-! ### out of an argument's reading -/
/-- Of the things that read so, those with Z. -/
def subR {α : Type} (R : Rep α) (Z : α → Prop) : Rep α := ⟨fun B w cs a => R.at_ B w cs a ∧ Z a, fun h hr => ⟨R.mono h hr.1, hr.2⟩, fun h hr => ⟨R.stable h hr.1, hr.2⟩⟩
theorem Sl.sub {α : Type} {R : Rep α} {Z : α → Prop} {k B : Nat} {w : World} {A : Option Addr} {l : List α} (h : Sl (subR R Z) k B w A l) : Sl R k B w A l ∧ ∀ a ∈ l, Z a := by
  constructor
  · intro hn
    obtain ⟨b, o, h1, h2, h3⟩ := h hn
    refine ⟨b, o, h1, h2, fun j a hj => ?_⟩
    obtain ⟨cs, g1, g2, g3⟩ := h3 j a hj
    exact ⟨cs, g1, g2.1, g3⟩
  · intro a ha
    obtain ⟨b, o, h1, h2, h3⟩ := h (List.ne_nil_of_mem ha)
    obtain ⟨j, hj⟩ := List.mem_iff_getElem?.1 ha
    obtain ⟨cs, g1, g2, g3⟩ := h3 j a hj
    exact g2.2
/-- What is read is within the form's reach. -/
def InReach {H : Type} (P : Program) (t : TypeId) (d : DataW H) : Prop := ∀ n ∈ d.weights P t, n ≤ reachBytes
theorem inReach_all {H : Type} {P : Program} {e : TypeId} {d : DataW H} : ∀ {ds : List (DataW H)}, d ∈ ds → (∀ n ∈ DataW.weightsAll P e ds, n ≤ reachBytes) → InReach P e d
  | d0 :: ds, h, hr => by
    rcases List.mem_cons.1 h with rfl | h
    · exact fun n hn => hr n (by simp only [DataW.weightsAll, List.mem_append]; exact Or.inl hn)
    · exact inReach_all h fun n hn => hr n (by simp only [DataW.weightsAll, List.mem_append]; exact Or.inr hn)
theorem inReach_slice {H : Type} {P : Program} {t e : TypeId} {els sp : List (DataW H)} (ht : P.underlying t = some (.slice e)) (h : InReach P t (.slice els sp)) :
    (els.length + sp.length) * P.bytesOf e ≤ reachBytes ∧ ∀ d ∈ els, InReach P e d := by
  unfold InReach at h
  simp only [DataW.weights, ht, List.mem_cons, List.mem_append] at h
  exact ⟨h _ (Or.inl rfl), fun d hd => inReach_all hd fun n hn => h n (Or.inr (Or.inl hn))⟩
/-- Cells that read as data of type e read as R has it. -/
def Opens {α : Type} (P : Program) (e : TypeId) (R : Rep α) : Prop :=
  ∀ {H : Type} (enc : TypeId × Value → H) (w : World) (base : Nat) (sp : Nat → Bool) (hd : Bool) (n : Nat) (cs : List Value) (x : DataW H × List MemPlace), DataW.trod enc P w base sp hd n e cs = some x → InReach P e x.1 → ∃ a, R.at_ w.heap.size w cs a
section
variable {P : Program}
theorem opens_int {e : TypeId} {k : IntKind} (he : P.underlying e = some (.int k)) : Opens P e (intR k) := fun _ _ _ _ _ _ _ _ h hr => by
  obtain ⟨n, rfl, _, hw⟩ := DataW.trod_int he h
  exact ⟨n, rfl, hw⟩
theorem opens_bool {e : TypeId} (he : P.underlying e = some .bool) : Opens P e boolR := fun _ _ _ _ _ _ _ _ h hr => by
  obtain ⟨b, rfl, _⟩ := DataW.trod_bool he h
  exact ⟨b, rfl⟩
theorem opens_str {e : TypeId} (he : P.underlying e = some .string) : Opens P e (subR strR fun s => s.size ≤ reachBytes) := fun _ _ _ _ _ _ _ _ h hr => by
  obtain ⟨s, rfl, rfl, hs⟩ := DataW.trod_string he h
  exact ⟨s, ⟨rfl, hs⟩, hr _ (by simp [DataW.weights])⟩
theorem opens_byte {e : TypeId} (he : P.underlying e = some (.int .u8)) : Opens P e byteR := fun _ _ _ _ _ _ _ _ h hr => by
  obtain ⟨n, rfl, _, hw⟩ := DataW.trod_int he h
  simp [Lit.wf, IntKind.min, IntKind.max, IntKind.signed, IntKind.bits] at hw
  obtain ⟨m, rfl⟩ := Int.eq_ofNat_of_zero_le hw.1
  have hm : m < 256 := by omega
  refine ⟨UInt8.ofNat m, ?_⟩
  show [Value.int .u8 _] = [byteV _]
  simp [byteV, Nat.mod_eq_of_lt hm]
theorem opens_slice {α : Type} {R : Rep α} {t e : TypeId} {k bytes : Nat} (ht : P.underlying t = some (.slice e)) (hk : P.cellsOf e = k) (hby : P.bytesOf e = bytes) (hk0 : 0 < k) (hR : Opens P e R) : Opens P t (subR (slR R k) fun l => l.length * bytes ≤ reachBytes) := fun enc w base sp hd n cs x h hr => by
  subst hk
  rcases open_slice ht h with ⟨rfl, _⟩ | ⟨ad, len, cap, m, n', D, Pl, rfl, _, hlc, hcm, hm, rfl, hi⟩
  · exact ⟨[], ⟨none, 0, rfl, Nat.le_refl _, Nat.zero_le _, Sl.nil⟩, by simp⟩
  · have hlm : len ≤ m := by rw [hm]; split <;> omega
    obtain ⟨hw, hel⟩ := inReach_slice ht hr
    rw [hby] at hw
    simp only [List.length_map, List.length_range] at hw
    have hex : ∀ i, i < len → ∃ a, ∃ cs', w.cells? base (ad.add (i * P.cellsOf e)) (P.cellsOf e) = some cs' ∧ R.at_ w.heap.size w cs' a := fun i hl => by
      obtain ⟨cs', hc, ht'⟩ := hi i (by omega)
      obtain ⟨a, ha⟩ := hR enc w base sp hd n' cs' _ ht' (hel _ (List.mem_map.2 ⟨i, List.mem_range.2 hl, rfl⟩))
      exact ⟨a, cs', hc, ha⟩
    have hlist : ∀ m', m' ≤ len → ∃ l : List α, l.length = m' ∧ ∀ i a, l[i]? = some a → ∃ cs', w.cells? base (ad.add (i * P.cellsOf e)) (P.cellsOf e) = some cs' ∧ R.at_ w.heap.size w cs' a := by
      intro m'
      induction m' with
      | zero => exact fun _ => ⟨[], rfl, fun i a h => by simp at h⟩
      | succ q ih =>
        intro hq
        obtain ⟨l, hl, hg⟩ := ih (by omega)
        obtain ⟨a, ha⟩ := hex q (by omega)
        refine ⟨l ++ [a], by simp [hl], fun i b hb => ?_⟩
        rw [List.getElem?_append] at hb
        split at hb
        · exact hg i b hb
        · rename_i hge
          have : i = q := by
            have := (List.getElem?_eq_some_iff.1 hb).1
            simp at this
            omega
          subst this
          simp [hl] at hb
          subst hb
          exact ha
    obtain ⟨l, hl, hg⟩ := hlist len (Nat.le_refl _)
    refine ⟨l, ⟨some ad, cap, by rw [hl], by omega, hcm, fun hne => ?_⟩, (show l.length * bytes ≤ reachBytes by rw [hl]; exact Nat.le_trans (Nat.mul_le_mul_right _ (Nat.le_add_right _ _)) hw)⟩
    obtain ⟨a0, ha0⟩ : ∃ a, l[0]? = some a := ⟨l[0]'(List.length_pos_iff.2 hne), List.getElem?_eq_getElem _⟩
    obtain ⟨cs0, hc0, _⟩ := hg 0 a0 ha0
    obtain ⟨_, hl0, hat0⟩ := World.cells?_some hc0
    have h00 := hat0 0 hk0
    have hsome : cs0[0]? = some (cs0[0]'(by omega)) := List.getElem?_eq_getElem _
    rw [hsome] at h00
    obtain ⟨b, o, sp'⟩ := ad
    have hsp : sp' = none := by
      simp only [Nat.zero_mul, Addr.add, if_true] at h00
      unfold World.cell? at h00
      split at h00
      · cases sp' with
        | none => rfl
        | some q => simp at h00
      · cases h00
    subst hsp
    have hblt := World.block_lt_of_cell? w _ h00
    refine ⟨b, o, rfl, by simpa [Addr.add] using hblt, fun j a hj => ?_⟩
    obtain ⟨cs', hc', hr'⟩ := hg j a hj
    obtain ⟨_, hl', hat'⟩ := World.cells?_some hc'
    refine ⟨cs', hl', hr', fun i u hu => ?_⟩
    have hi' : i < P.cellsOf e := by rw [← hl']; exact (List.getElem?_eq_some_iff.1 hu).1
    rw [← hu, ← hat' i hi']
    congr 1
    unfold Addr.add
    split <;> split <;> simp_all <;> omega
theorem nat_u64 {n : Int} (h : (Lit.int .u64 n).wf = true) : ∃ m : Nat, n = m ∧ m < 18446744073709551616 := by
  simp [Lit.wf, IntKind.min, IntKind.max, IntKind.signed, IntKind.bits] at h
  obtain ⟨m, rfl⟩ := Int.eq_ofNat_of_zero_le h.1
  exact ⟨m, rfl, by omega⟩
theorem i64_lim {n : Int} (h : (Lit.int .i64 n).wf = true) : -9223372036854775808 ≤ n ∧ n ≤ 9223372036854775807 := by
  simp [Lit.wf, IntKind.min, IntKind.max, IntKind.signed, IntKind.bits] at h
  omega
/-- A slice as an argument. -/
theorem open_arg {α : Type} {R : Rep α} {k bytes : Nat} {t e : TypeId} {H : Type} {enc : TypeId × Value → H} {w : World} {base base' : Nat} {sp : Nat → Bool} {hd : Bool} {v : Value} {d : DataW H} {p : List MemPlace} {r : Reach}
    (ht : P.underlying t = some (.slice e)) (hO : Opens P t (subR (slR R k) fun l => l.length * bytes ≤ reachBytes)) (hval : Value.okWide P w r base' t v) (h : DataW.Trod enc P w base sp hd t v d p) (hr : InReach P t d) :
    ∃ l A c, v = .slice A l.length c ∧ l.length ≤ c ∧ c ≤ maxLen ∧ l.length * bytes ≤ reachBytes ∧ Sl R k w.heap.size w A l := by
  obtain ⟨f, hf⟩ := h
  obtain ⟨A, n, c, rfl⟩ := okWide_slice ht hval
  obtain ⟨l, ⟨A', k', e', g, g', s⟩, hz⟩ := hO enc w _ _ _ _ _ _ hf hr
  simp only [Value.cells, List.cons.injEq, Value.slice.injEq, and_true] at e'
  obtain ⟨rfl, rfl, rfl⟩ := e'
  exact ⟨l, _, _, rfl, g, g', hz, s⟩
/-- A string as an argument. -/
theorem open_str {t : TypeId} {H : Type} {enc : TypeId × Value → H} {w : World} {base base' : Nat} {sp : Nat → Bool} {hd : Bool} {v : Value} {d : DataW H} {p : List MemPlace} {r : Reach}
    (ht : P.underlying t = some .string) (hval : Value.okWide P w r base' t v) (h : DataW.Trod enc P w base sp hd t v d p) (hr : InReach P t d) : ∃ s, v = .string s ∧ s.size ≤ reachBytes := by
  obtain ⟨f, hf⟩ := h
  obtain ⟨s, hs, hx, hm⟩ := DataW.trod_string ht hf
  obtain ⟨s', rfl⟩ := okWide_string ht hval
  simp only [Value.cells, List.cons.injEq, Value.string.injEq, and_true] at hs
  subst hs
  simp only [Prod.mk.injEq] at hx
  obtain ⟨rfl, _⟩ := hx
  exact ⟨s', rfl, hr _ (by simp [DataW.weights])⟩
end
/-- A LAW's ROW, out of its walk, which may lean on the form's reach. -/
theorem law_lifted_sized {C : Checked} {os : Os} {k : FuncId} {f : Func} {s : ChangeSpec} {H : Type} {enc : TypeId × Value → H} {tb : TypeId}
    (own : ownKnob C.prog.godebug = none) (started : os.Started) (noInit : C.prog.inits.idxOf? k = none) (hfn : C.prog.funcs[k]? = some f)
    (witness : ∃ (w : World) (tape : Tape) (i : Input), w.os = os ∧ (w.forCall tape i).Shaped C.prog ∧ i.vars = [] ∧ Input.okWide C.prog (w.forCall tape i) .any w.heap.size k i ∧
      s.pre6 enc C.prog f [] false (w.forCall tape i).memory i.args ∧ Assume.holds {} C.prog (lone (Frame.enter C.prog k i.args .normal) [] (w.forCall tape i)))
    (hl : laidOutB C.prog = true) (hts : (f.params.toList.all fun t => C.prog.readableRec t && decide (t < C.prog.types.size)) = true)
    (hres : f.resultTypes = #[tb]) (hbool : C.prog.underlying tb = some .bool) (hvars : s.vars = [])
    (hspec : ∀ ds : List (DataW H), ds.length = f.params.toList.length → s.fn H ds = { results := [.lit (.bool true)], args := ds })
    (walk : ∀ (W : World) (base : Nat) (args : Array Value) (ds : List (DataW H)) (p : List MemPlace),
      (∀ (j : Nat) t v, f.params[j]? = some t → args[j]? = some v → Value.okWide C.prog W .any base t v) →
      (∀ (j : Nat) t d, f.params[j]? = some t → ds[j]? = some d → InReach C.prog t d) →
      DataW.TrodAll enc C.prog W 0 (fun _ => true) true f.params.toList args.toList ds p → (∀ x ∈ p, x.block < W.heap.size) →
      Calls C.prog k args W fun e W' => e = .returned (.bool true) ∧ Below W.heap.size W W') :
    ReturnsInHanded {} C os k .any (s.pre6 enc C.prog f [] false) (s.post enc C.prog f false true false false) := by
  refine returnsInHanded_of_change_sized (C := C) own started noInit hfn witness ?_
  intro W base args ds gs before hval hW _ hsz _
  have hW' := hW
  have hlt : ∀ x ∈ before, x.block < W.heap.size := fun x hx => by simpa using hW.lt x hx
  obtain ⟨p, q, hA, hV, rfl, hfz, hnd⟩ := hW
  rw [hvars] at hV
  obtain ⟨rfl, rfl⟩ := trodVars_none hV
  rw [List.append_nil] at hlt
  have hlen := trodAll_length _ _ _ _ hA
  have hs := hspec ds hlen
  have hin : ∀ (j : Nat) t d, f.params[j]? = some t → ds[j]? = some d → InReach C.prog t d := fun j t d ht hd n hn => by
    have hj : j < f.params.toList.length := by
      have := (Array.getElem?_eq_some_iff.1 ht).1
      simpa using this
    have := List.all_eq_true.1 hsz n (DataW.weights_mem_each (j := j) (t := t) (d := d) (by rw [List.getElem?_append_left hj]; simpa using ht) (by rw [List.append_nil]; exact hd) n hn)
    simpa using this
  refine (walk W base args ds p hval hin hA hlt).mono fun e W' ⟨he, hb⟩ => ⟨_, he, ds, [], p ++ [], [], p, [], hW', ?_, ?_, ?_, hb.frame _, fun h => by cases h⟩
  · simp only [List.append_nil, hs, hres]
    exact trodAll_mk1 (shut_bool hbool true)
  · simp only [List.append_nil, hs]
    exact trodAll_below hl hb _ _ _ _ hts hA hlt
  · rw [hvars]
    simp only [List.append_nil, hs]
    exact (rfl : ([] : List MemPlace) = [])
end Go.Proofs.YtgonmnjgodleeaaDoor
