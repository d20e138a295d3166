/-
  Sizes, votes, reports, as arguments; arrays.
-/
import Derived.Test.YtgonmnjgodleeaaRd
import Derived.Test.YtgonmnjgodleeaaRe
import Derived.OpenShut
namespace Go.Proofs.Ytgonmnjgodleeaa
open Go.ChangeShapes Go.WideShapes Go.ChangeAt Go.RowKit Go.Deep
theorem reads_array {P : Program} {E : List AV → Prop} {t e : TypeId} {k m : Nat} (ht : P.underlying t = some (.array m e)) (hk : P.cellsOf e = k) (hc : P.cellsOf t = m * k) (hR : Reads P e E) :
    Reads P t fun cl => ∃ cls : List (List AV), cl = cls.flatten ∧ cls.length = m ∧ ∀ x ∈ cls, E x := fun enc w base sp hd n cs x h hr => by
  obtain ⟨xs, q, _, rfl, hlen, hxl, hg⟩ := DataW.trod_array ht h
  unfold InReach at hr
  simp only [DataW.weights, ht] at hr
  have key : ∀ j, j ≤ m → ∃ cls : List (List AV), cls.length = j ∧ RdAt w (cs.take (j * k)) cls.flatten ∧ ∀ x ∈ cls, E x := by
    intro j
    induction j with
    | zero => exact fun _ => ⟨[], rfl, by simpa using RdAt.nil, by simp⟩
    | succ j ih =>
      intro hj
      obtain ⟨cls, h1, h2, h3⟩ := ih (by omega)
      have hjl : j < xs.length := by omega
      have h4 := hg j (by omega)
      rw [List.getElem?_eq_getElem hjl, hk] at h4
      obtain ⟨a, r1, e1⟩ := hR enc w base sp hd q _ _ h4 (inReach_all (List.mem_map.2 ⟨xs[j], List.getElem_mem hjl, rfl⟩) hr)
      refine ⟨cls ++ [a], by simp [h1], ?_, fun x hx => ?_⟩
      · have : cs.take ((j + 1) * k) = cs.take (j * k) ++ (cs.drop (j * k)).take k := by rw [Nat.succ_mul, List.take_add]
        rw [this, List.flatten_append]
        simpa using h2.app r1
      · rcases List.mem_append.1 hx with hx | hx
        · exact h3 x hx
        · simp at hx; subst hx; exact e1
  obtain ⟨cls, h1, h2, h3⟩ := key m (Nat.le_refl _)
  refine ⟨cls.flatten, ?_, cls, rfl, h1, h3⟩
  rw [← hc, ← hlen, List.take_length] at h2
  exact h2
theorem okWide_array {P : Program} {w : World} {r : Reach} {base : Nat} {t e : TypeId} {n : Nat} {v : Value} (ht : P.underlying t = some (.array n e)) (h : Value.okWide P w r base t v) : ∃ cs, v = .agg cs ∧ cs.size = P.cellsOf t := by
  simp only [Value.okWide, ht] at h
  obtain ⟨cs, h1, h2, _⟩ := h
  exact ⟨cs, h1, h2⟩
/-- An array as an argument. -/
theorem rd_array {P : Program} {t e : TypeId} {m : Nat} {H : Type} {enc : TypeId × Value → H} {w : World} {base base' : Nat} {sp : Nat → Bool} {hd : Bool} {v : Value} {d : DataW H} {p : List MemPlace} {r : Reach} {E : List AV → Prop}
    (ht : P.underlying t = some (.array m e)) (hR : Reads P t E) (hval : Value.okWide P w r base' t v) (h : DataW.Trod enc P w base sp hd t v d p) (hr : InReach P t d) : ∃ cl, RV (Cx.top w) v (.agg cl) ∧ E cl := by
  obtain ⟨f, hf⟩ := h
  obtain ⟨cs, rfl, hsz⟩ := okWide_array ht hval
  obtain ⟨cl, h1, h2⟩ := hR enc w _ _ _ _ _ _ hf hr
  refine ⟨cl, .agg _ _ ?_ (fun i a ha => AV.plain_cell (h1.pl i a ha)) (fun i u a hu ha => h1.rv i u a ?_ ha), h2⟩
  · have := h1.len
    simpa [Value.cells] using this.symm
  · simpa [Value.cells] using hu
def intE (cl : List AV) : Prop := ∃ n, cl = [.int .i64 n] ∧ (Lit.int .i64 n).wf = true
def strE (cl : List AV) : Prop := ∃ s : Bytes, cl = [.str s] ∧ s.length ≤ reachBytes
def boolE (cl : List AV) : Prop := ∃ b, cl = [.bool b]
def wideA (a : Acc) : Prop := I64 a.by_ ∧ I64 a.view ∧ a.value.length ≤ reachBytes
def wideVs (l : List Acc) : Prop := (∀ a ∈ l, wideA a) ∧ l.length * 32 ≤ reachBytes
def wideRp (r : Rp) : Prop := I64 r.by_ ∧ I64 r.for_ ∧ I64 r.view ∧ r.value.length ≤ reachBytes ∧ wideVs r.proof
def wideRps (l : List Rp) : Prop := (∀ a ∈ l, wideRp a) ∧ l.length * 72 ≤ reachBytes
set_option maxRecDepth 20000 in
theorem reads_acc : Reads Try.prog 56 fun cl => ∃ a : Acc, cl = accC a ∧ wideA a :=
  Reads.mono (reads_struct (Es := [(1, intE), (1, intE), (1, strE)]) Try.underlying56
    ⟨rfl, by kernel_rfl, reads_int Try.underlying3, rfl, by kernel_rfl, reads_int Try.underlying3, rfl, by kernel_rfl, reads_str Try.underlying9, trivial⟩ (by kernel_rfl)) fun cl => by
    rintro ⟨_, _, rfl, ⟨a, rfl, ha⟩, _, _, rfl, ⟨b, rfl, hb⟩, _, _, rfl, ⟨s, rfl, hs⟩, rfl⟩
    exact ⟨⟨a, b, s⟩, rfl, wf64 ha, wf64 hb, hs⟩
theorem reads_votes : Reads Try.prog 51 fun cl => ∃ l : List Acc, cl = [votesA l] ∧ wideVs l :=
  Reads.mono (reads_slice Try.underlying51 (k := 3) (bytes := 32) (by kernel_rfl) (by kernel_rfl) (by omega) reads_acc) fun cl => by
    rintro ⟨l, rfl, hl, hn⟩
    obtain ⟨b, rfl, hb⟩ := list_of hl
    exact ⟨b, rfl, hb, by simpa using hn⟩
set_option maxRecDepth 20000 in
theorem reads_rp : Reads Try.prog 53 fun cl => ∃ r : Rp, cl = rpC r ∧ wideRp r :=
  Reads.mono (reads_struct (Es := [(1, intE), (1, intE), (1, boolE), (1, intE), (1, strE), (1, fun cl => ∃ l : List Acc, cl = [votesA l] ∧ wideVs l)]) Try.underlying53
    ⟨rfl, by kernel_rfl, reads_int Try.underlying3, rfl, by kernel_rfl, reads_int Try.underlying3, rfl, by kernel_rfl, reads_bool Try.underlying4, rfl, by kernel_rfl, reads_int Try.underlying3, rfl, by kernel_rfl, reads_str Try.underlying9, rfl, by kernel_rfl, reads_votes, trivial⟩ (by kernel_rfl)) fun cl => by
    rintro ⟨_, _, rfl, ⟨a, rfl, ha⟩, _, _, rfl, ⟨b, rfl, hb⟩, _, _, rfl, ⟨h, rfl⟩, _, _, rfl, ⟨c, rfl, hc⟩, _, _, rfl, ⟨s, rfl, hs⟩, _, _, rfl, ⟨l, rfl, hl⟩, rfl⟩
    exact ⟨⟨a, b, h, c, s, l⟩, rfl, wf64 ha, wf64 hb, wf64 hc, hs, hl⟩
theorem reads_rps : Reads Try.prog 43 fun cl => ∃ l : List Rp, cl = [rpsA l] ∧ wideRps l :=
  Reads.mono (reads_slice Try.underlying43 (k := 6) (bytes := 72) (by kernel_rfl) (by kernel_rfl) (by omega) reads_rp) fun cl => by
    rintro ⟨l, rfl, hl, hn⟩
    obtain ⟨b, rfl, hb⟩ := list_of hl
    exact ⟨b, rfl, hb, by simpa using hn⟩
def szC (s : Sz) : List AV := [.int .i64 s.f, .int .i64 s.t]
set_option maxRecDepth 20000 in
theorem reads_size : Reads Try.prog 23 fun cl => ∃ s : Sz, cl = szC s ∧ I64 s.f ∧ I64 s.t :=
  Reads.mono (reads_struct (Es := [(1, intE), (1, intE)]) Try.underlying23
    ⟨rfl, by kernel_rfl, reads_int Try.underlying3, rfl, by kernel_rfl, reads_int Try.underlying3, trivial⟩ (by kernel_rfl)) fun cl => by
    rintro ⟨_, _, rfl, ⟨a, rfl, ha⟩, _, _, rfl, ⟨b, rfl, hb⟩, rfl⟩
    exact ⟨⟨a, b⟩, rfl, wf64 ha, wf64 hb⟩
set_option maxRecDepth 20000 in
theorem reads_with : Reads Try.prog 64 fun cl => ∃ (v : Int) (x : Bts) (m : List Rp), cl = [.int .i64 v, .str x, rpsA m] ∧ wideRps m :=
  Reads.mono (reads_struct (Es := [(1, intE), (1, strE), (1, fun cl => ∃ l : List Rp, cl = [rpsA l] ∧ wideRps l)]) Try.underlying64
    ⟨rfl, by kernel_rfl, reads_int Try.underlying3, rfl, by kernel_rfl, reads_str Try.underlying9, rfl, by kernel_rfl, reads_rps, trivial⟩ (by kernel_rfl)) fun cl => by
    rintro ⟨_, _, rfl, ⟨a, rfl, ha⟩, _, _, rfl, ⟨b, rfl, hb⟩, _, _, rfl, ⟨l, rfl, hl⟩, rfl⟩
    exact ⟨a, b, l, rfl, hl⟩
def boolC (b : Bool) : List AV := [.bool b]
def boolsA (l : List Bool) : AV := .sl 1 (l.map boolC) .no
theorem reads_bools : Reads Try.prog 27 fun cl => ∃ l : List Bool, cl = [boolsA l] ∧ l.length ≤ reachBytes :=
  Reads.mono (reads_slice Try.underlying27 (k := 1) (bytes := 1) (by kernel_rfl) (by kernel_rfl) (by omega) (reads_bool Try.underlying4)) fun cl => by
    rintro ⟨l, rfl, hl, hn⟩
    obtain ⟨b, rfl, _⟩ := list_of (f := boolC) (Q := fun _ => True) fun x hx => by obtain ⟨c, rfl⟩ := hl x hx; exact ⟨c, rfl, trivial⟩
    exact ⟨b, rfl, by simpa using hn⟩
set_option maxRecDepth 20000 in
theorem reads_past : Reads Try.prog 59 fun cl => ∃ (s : Sz) (v : Int) (x : Bts) (bad inn : List Bool), cl = [.int .i64 s.f, .int .i64 s.t, .int .i64 v, .str x, boolsA bad, boolsA inn] ∧ bad.length ≤ reachBytes ∧ inn.length ≤ reachBytes :=
  Reads.mono (reads_struct (Es := [(2, fun cl => ∃ s : Sz, cl = szC s ∧ I64 s.f ∧ I64 s.t), (1, intE), (1, strE), (1, fun cl => ∃ l : List Bool, cl = [boolsA l] ∧ l.length ≤ reachBytes), (1, fun cl => ∃ l : List Bool, cl = [boolsA l] ∧ l.length ≤ reachBytes)]) Try.underlying59
    ⟨rfl, by kernel_rfl, reads_size, rfl, by kernel_rfl, reads_int Try.underlying3, rfl, by kernel_rfl, reads_str Try.underlying9, rfl, by kernel_rfl, reads_bools, rfl, by kernel_rfl, reads_bools, trivial⟩ (by kernel_rfl)) fun cl => by
    rintro ⟨_, _, rfl, ⟨s, rfl, hs⟩, _, _, rfl, ⟨a, rfl, ha⟩, _, _, rfl, ⟨b, rfl, hb⟩, _, _, rfl, ⟨l, rfl, hl⟩, _, _, rfl, ⟨m, rfl, hm⟩, rfl⟩
    exact ⟨s, a, b, l, m, rfl, hl, hm⟩
set_option maxRecDepth 20000 in
theorem reads_three : Reads Try.prog 61 fun cl => ∃ x y z : Bts, cl = [.str x, .str y, .str z] :=
  Reads.mono (reads_array Try.underlying61 (k := 1) (by kernel_rfl) (by kernel_rfl) (reads_str Try.underlying9)) fun cl => by
    rintro ⟨cls, rfl, hl, hE⟩
    match cls, hl, hE with
    | [a, b, c], _, hE =>
      obtain ⟨x, rfl, _⟩ := hE a (by simp)
      obtain ⟨y, rfl, _⟩ := hE b (by simp)
      obtain ⟨z, rfl, _⟩ := hE c (by simp)
      exact ⟨x, y, z, rfl⟩
end Go.Proofs.Ytgonmnjgodleeaa
