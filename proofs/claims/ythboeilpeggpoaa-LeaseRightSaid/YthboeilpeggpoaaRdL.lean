/-
  Books of leases as arguments.
-/
import Derived.Test.YthboeilpeggpoaaRd
import Derived.Test.YthboeilpeggpoaaLb
import Derived.OpenShut
namespace Go.Proofs.Ythboeilpeggpoaa
open Go.ChangeShapes Go.WideShapes Go.ChangeAt Go.RowKit Go.Deep
theorem reads_array {P : Program} {E : List AV → Prop} {t e : TypeId} {k m : Nat} (ht : P.underlying t = some (.array m e)) (hk : P.cellsOf e = k) (hc : P.cellsOf t = m * k) (hR : Reads P e E) :
    Reads P t fun cl => ∃ cls : List (List AV), cl = cls.flatten ∧ cls.length = m ∧ ∀ x ∈ cls, E x := fun enc w base sp hd n cs x h hr => by
  obtain ⟨xs, q, _, rfl, hlen, hxl, hg⟩ := DataW.trod_array ht h
  unfold InReach at hr
  simp only [DataW.weights, ht] at hr
  have key : ∀ j, j ≤ m → ∃ cls : List (List AV), cls.length = j ∧ RdAt w (cs.take (j * k)) cls.flatten ∧ ∀ x ∈ cls, E x := by
    intro j
    induction j with
    | zero => exact fun _ => ⟨[], rfl, by simpa using RdAt.nil, by simp⟩
    | succ j ih =>
      intro hj
      obtain ⟨cls, h1, h2, h3⟩ := ih (by omega)
      have hjl : j < xs.length := by omega
      have h4 := hg j (by omega)
      rw [List.getElem?_eq_getElem hjl, hk] at h4
      obtain ⟨a, r1, e1⟩ := hR enc w base sp hd q _ _ h4 (inReach_all (List.mem_map.2 ⟨xs[j], List.getElem_mem hjl, rfl⟩) hr)
      refine ⟨cls ++ [a], by simp [h1], ?_, fun x hx => ?_⟩
      · have : cs.take ((j + 1) * k) = cs.take (j * k) ++ (cs.drop (j * k)).take k := by rw [Nat.succ_mul, List.take_add]
        rw [this, List.flatten_append]
        simpa using h2.app r1
      · rcases List.mem_append.1 hx with hx | hx
        · exact h3 x hx
        · simp at hx; subst hx; exact e1
  obtain ⟨cls, h1, h2, h3⟩ := key m (Nat.le_refl _)
  refine ⟨cls.flatten, ?_, cls, rfl, h1, h3⟩
  rw [← hc, ← hlen, List.take_length] at h2
  exact h2
theorem okWide_array {P : Program} {w : World} {r : Reach} {base : Nat} {t e : TypeId} {n : Nat} {v : Value} (ht : P.underlying t = some (.array n e)) (h : Value.okWide P w r base t v) : ∃ cs, v = .agg cs ∧ cs.size = P.cellsOf t := by
  simp only [Value.okWide, ht] at h
  obtain ⟨cs, h1, h2, _⟩ := h
  exact ⟨cs, h1, h2⟩
/-- An array as an argument. -/
theorem rd_array {P : Program} {t e : TypeId} {m : Nat} {H : Type} {enc : TypeId × Value → H} {w : World} {base base' : Nat} {sp : Nat → Bool} {hd : Bool} {v : Value} {d : DataW H} {p : List MemPlace} {r : Reach} {E : List AV → Prop}
    (ht : P.underlying t = some (.array m e)) (hR : Reads P t E) (hval : Value.okWide P w r base' t v) (h : DataW.Trod enc P w base sp hd t v d p) (hr : InReach P t d) : ∃ cl, RV (Cx.top w) v (.agg cl) ∧ E cl := by
  obtain ⟨f, hf⟩ := h
  obtain ⟨cs, rfl, hsz⟩ := okWide_array ht hval
  obtain ⟨cl, h1, h2⟩ := hR enc w _ _ _ _ _ _ hf hr
  refine ⟨cl, .agg _ _ ?_ (fun i a ha => AV.plain_cell (h1.pl i a ha)) (fun i u a hu ha => h1.rv i u a ?_ ha), h2⟩
  · have := h1.len
    simpa [Value.cells] using this.symm
  · simpa [Value.cells] using hu
def intE (cl : List AV) : Prop := ∃ n, cl = [.int .i64 n] ∧ (Lit.int .i64 n).wf = true
set_option maxRecDepth 20000 in
theorem reads_ses : Reads Try.prog 94 fun cl => ∃ x : Ses, cl = sesC x ∧ True :=
  Reads.mono (reads_struct (Es := [(1, intE), (1, intE), (1, intE)]) Try.underlying94
    ⟨rfl, by kernel_rfl, reads_int Try.underlying3, rfl, by kernel_rfl, reads_int Try.underlying3, rfl, by kernel_rfl, reads_int Try.underlying3, trivial⟩ (by kernel_rfl)) fun cl => by
    rintro ⟨_, _, rfl, ⟨a, rfl, _⟩, _, _, rfl, ⟨b, rfl, _⟩, _, _, rfl, ⟨c, rfl, _⟩, rfl⟩
    exact ⟨⟨a, b, c⟩, rfl, trivial⟩
theorem reads_sess : Reads Try.prog 53 fun cl => ∃ l : List Ses, cl = [sesA l] ∧ l.length * 24 ≤ reachBytes :=
  Reads.mono (reads_slice Try.underlying53 (k := 3) (bytes := 24) (by kernel_rfl) (by kernel_rfl) (by omega) reads_ses) fun cl => by
    rintro ⟨l, rfl, hl, hn⟩
    obtain ⟨b, rfl, _⟩ := list_of hl
    exact ⟨b, rfl, by simpa using hn⟩
set_option maxRecDepth 20000 in
theorem reads_book : Reads Try.prog 55 fun cl => ∃ b : Bk, .agg cl = encB b ∧ b.l.length * 24 ≤ reachBytes :=
  Reads.mono (reads_struct (Es := [(1, intE), (1, fun cl => ∃ l : List Ses, cl = [sesA l] ∧ l.length * 24 ≤ reachBytes)]) Try.underlying55
    ⟨rfl, by kernel_rfl, reads_int Try.underlying3, rfl, by kernel_rfl, reads_sess, trivial⟩ (by kernel_rfl)) fun cl => by
    rintro ⟨_, _, rfl, ⟨a, rfl, _⟩, _, _, rfl, ⟨l, rfl, hl⟩, rfl⟩
    exact ⟨⟨a, l⟩, rfl, hl⟩
theorem reads_i3 : Reads Try.prog 82 fun cl => ∃ x y z : Int, cl = [.int .i64 x, .int .i64 y, .int .i64 z] :=
  Reads.mono (reads_array Try.underlying82 (k := 1) (by kernel_rfl) (by kernel_rfl) (reads_int Try.underlying3)) fun cl => by
    rintro ⟨cls, rfl, hl, hE⟩
    match cls, hl, hE with
    | [a, b, c], _, hE =>
      obtain ⟨x, rfl, _⟩ := hE a (by simp)
      obtain ⟨y, rfl, _⟩ := hE b (by simp)
      obtain ⟨z, rfl, _⟩ := hE c (by simp)
      exact ⟨x, y, z, rfl⟩
theorem reads_i4 : Reads Try.prog 56 fun cl => ∃ x y z u : Int, cl = [.int .i64 x, .int .i64 y, .int .i64 z, .int .i64 u] :=
  Reads.mono (reads_array Try.underlying56 (k := 1) (by kernel_rfl) (by kernel_rfl) (reads_int Try.underlying3)) fun cl => by
    rintro ⟨cls, rfl, hl, hE⟩
    match cls, hl, hE with
    | [a, b, c, d], _, hE =>
      obtain ⟨x, rfl, _⟩ := hE a (by simp)
      obtain ⟨y, rfl, _⟩ := hE b (by simp)
      obtain ⟨z, rfl, _⟩ := hE c (by simp)
      obtain ⟨u, rfl, _⟩ := hE d (by simp)
      exact ⟨x, y, z, u, rfl⟩
end Go.Proofs.Ythboeilpeggpoaa
