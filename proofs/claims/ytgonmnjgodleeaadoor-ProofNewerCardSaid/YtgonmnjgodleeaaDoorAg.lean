/-
  The shadow of a run: a region that draws its order: whatever the order, it comes to what the text's order comes to. Nothing here speaks of the program.
-/
import Derived.Test.YtgonmnjgodleeaaDoorAd
namespace Go.Proofs.YtgonmnjgodleeaaDoor
open Go.RowKit
/-- A world, and what is in the temporaries, read as the state. -/
def Rel (c0 : Cx) (s : AState) (a : Act) (w : World) : Prop := ∃ ρ, RelH ⟨ρ, s.h, w, c0.X⟩ ∧ Ev c0 ⟨ρ, s.h, w, c0.X⟩ ∧ TRel ⟨ρ, s.h, w, c0.X⟩ a.tmps s.t ∧ a.defers = []
/-- The operation does what the entry says, wherever its operands and the blocks that it reads are the same. -/
def StepOk (P : Program) (c0 : Cx) (ops : Array Oper) (i : Nat) (o : Oper) (s : AState) (e : Ent) : Prop :=
  ∀ s' : AState, s'.t.length = s.t.length → (∀ x ∈ o.looksAt ops, s'.t[x]? = s.t[x]?) → (∀ y ∈ e.rd, s'.h[y]? = s.h[y]?) →
    ∀ (a : Act) (w : World) (K : Act → World → Prop) (Q : Exit → Act → World → Prop), Rel c0 s' a w → (∀ a' w', Rel c0 (e.app o s') a' w' → K a' w') → wpOp P ops Q i K a w
def TraceOk (P : Program) (c0 : Cx) (ops : Array Oper) : Nat → List Oper → List Ent → AState → Prop
  | n, o :: os, e :: es, s => StepOk P c0 ops n o s e ∧ TraceOk P c0 ops (n + 1) os es (e.app o s)
  | _, _, _, _ => True
section
variable {P : Program} {c0 : Cx} {ops : Array Oper}
theorem sub_congr {D D' : Nat → Bool} : ∀ (os : List Oper) (es : List Ent) (n : Nat) (s : AState), (∀ j, j < os.length → D (n + j) = D' (n + j)) → sub D n os es s = sub D' n os es s
  | [], _, _, _, _ => by simp [sub]
  | _ :: _, [], _, _, _ => by simp [sub]
  | o :: os, e :: es, n, s, h => by
    have h0 := h 0 (by simp)
    rw [Nat.add_zero] at h0
    simp only [sub, h0]
    exact sub_congr os es (n + 1) _ fun j hj => by have := h (j + 1) (by simpa using hj); rwa [← Nat.add_assoc, Nat.add_right_comm] at this
theorem TraceOk.at_ : ∀ (os : List Oper) (es : List Ent) (n : Nat) (s : AState), TraceOk P c0 ops n os es s → ∀ j o e, os[j]? = some o → es[j]? = some e → StepOk P c0 ops (n + j) o (sub (fun q => decide (q < n + j)) n os es s) e
  | [], _, _, _, _, j, o, e, ho, _ => by simp at ho
  | _ :: _, [], _, _, _, j, o, e, _, he => by simp at he
  | o' :: os, e' :: es, n, s, h, j, o, e, ho, he => by
    obtain ⟨h1, h2⟩ := h
    cases j with
    | zero =>
      simp only [List.getElem?_cons_zero, Option.some.injEq] at ho he
      subst ho he
      have : sub (fun q => decide (q < n + 0)) n (o' :: os) (e' :: es) s = s := by
        have : ∀ (os : List Oper) (es : List Ent) (m : Nat) (s : AState), n ≤ m → sub (fun q => decide (q < n + 0)) m os es s = s := by
          intro os
          induction os with
          | nil => intro es m s _; simp [sub]
          | cons o os ih =>
            intro es m s hm
            cases es with
            | nil => simp [sub]
            | cons e es =>
              have : ¬ m < n + 0 := by omega
              simp only [sub, this, decide_false, Bool.false_eq_true, if_false]
              exact ih es (m + 1) s (by omega)
        exact this _ _ n s (Nat.le_refl _)
      rw [this]
      exact h1
    | succ j =>
      have := TraceOk.at_ os es (n + 1) _ h2 j o e (by simpa using ho) (by simpa using he)
      have e1 : n + 1 + j = n + (j + 1) := by omega
      rw [e1] at this
      have e2 : n < n + (j + 1) := by omega
      simp only [sub, e2, decide_true, if_true]
      exact this
theorem countP_lt {p p' : Nat → Bool} {i : Nat} : ∀ {l : List Nat}, (∀ x, p' x = true → p x = true) → i ∈ l → p i = true → p' i = false → l.countP p' < l.countP p
  | [], _, hi, _, _ => by simp at hi
  | x :: l, h, hi, h1, h2 => by
    have hle : l.countP p' ≤ l.countP p := List.countP_mono_left fun x _ => h x
    by_cases hx : x = i
    · subst hx
      rw [List.countP_cons_of_pos h1, List.countP_cons_of_neg (by simp [h2])]
      omega
    · have hi' : i ∈ l := by
        rcases List.mem_cons.1 hi with e | e
        · exact absurd e.symm hx
        · exact e
      have ih := countP_lt h hi' h1 h2
      simp only [List.countP_cons]
      have : (if p' x = true then 1 else 0) ≤ (if p x = true then 1 else 0) := by
        cases hpx : p' x with
        | false => simp
        | true => simp [h x hpx]
      omega
theorem all_range {n : Nat} {p : Nat → Bool} (h : (List.range n).all p = true) {i : Nat} (hi : i < n) : p i = true := List.all_eq_true.1 h i (List.mem_range.2 hi)
theorem ARun.draw {f : FuncId} {R : AV → List ABlk → Prop} {k : List Item} {s : AState} {id : Nat} (hm : P.follows .mixedOrders = true) (hst : statOk ops = true) (es : List Ent) (hlen : es.length = ops.size)
    (htr : TraceOk P c0 ops 0 ops.toList es s) (hdyn : dynOk (masks ops.toList []) es = true) (hk : ARun P f c0 R k (sub (fun _ => true) 0 ops.toList es s)) : ARun P f c0 R (.code (.region id ops true) :: k) s := fun ρ w a h1 h2 h3 h4 => by
  refine Goes.of_wp (wp_region_any hm ?_)
  have hbef : ∀ i j, ((masks ops.toList []).getD j 0).testBit i = true → Bef ops i j := fun i j h => masks_ok ops.toList [] rfl (fun k i h => by simp at h) j i h
  -- what the checks say of two operations
  have stat : ∀ i j oi oj, i < j → ops[i]? = some oi → ops[j]? = some oj → Bef ops i j ∨ ((∀ d, oi.dst = some d → d ∉ oj.looksAt ops) ∧ (∀ d, oi.dst = some d → oj.dst ≠ some d) ∧ (∀ d, oj.dst = some d → d ∉ oi.looksAt ops)) := by
    intro i j oi oj hij hi hj
    have hjn : j < ops.size := (Array.getElem?_eq_some_iff.1 hj).1
    have := all_range hst hjn
    simp only [hj, Bool.and_eq_true] at this
    have := all_range this.2 hij
    simp only [Bool.or_eq_true, hi] at this
    rcases this with h | h
    · exact .inl (hbef i j h)
    · exact .inr (Oper.apart_spec h)
  have back : ∀ j oj e, ops[j]? = some oj → e ∈ oj.after.toList → Region.binds .any e = true → e.on < j := by
    intro j oj e hj he hb
    have hjn : j < ops.size := (Array.getElem?_eq_some_iff.1 hj).1
    have := all_range hst hjn
    simp only [hj, Bool.and_eq_true] at this
    have := List.all_eq_true.1 this.1 e he
    simpa [hb] using this
  have dyn : ∀ i j ei ej, i < j → es[i]? = some ei → es[j]? = some ej → Bef ops i j ∨ (disj ei.wr ej.rd = true ∧ disj ei.wr ej.wr = true ∧ disj ei.rd ej.wr = true) := by
    intro i j ei ej hij hi hj
    have hjn : j < es.length := (List.getElem?_eq_some_iff.1 hj).1
    have := all_range hdyn hjn
    simp only [hj] at this
    have := all_range this hij
    simp only [Bool.or_eq_true, hi, Bool.and_eq_true] at this
    rcases this with h | ⟨⟨h, h'⟩, h''⟩
    · exact .inl (hbef i j h)
    · exact .inr ⟨h, h', h''⟩
  have hdisj : ∀ {xs ys : List Nat} {y : Nat}, disj xs ys = true → y ∈ xs → y ∉ ys := by
    intro xs ys y h hy hy'
    have := List.all_eq_true.1 h y hy
    simp [hy'] at this
  have hstep := fun (j : Nat) o e (ho : ops.toList[j]? = some o) he => by have := TraceOk.at_ ops.toList es 0 s htr j o e ho he; rwa [Nat.zero_add] at this
  have key : ∀ (fuel : Nat) (listed : Array Bool) (a : Act) (w : World), listed.size = ops.size → Closed ops (fun j => listed.getD j false) → (List.range ops.size).countP (fun j => !listed.getD j true) ≤ fuel →
      Rel c0 (sub (fun j => listed.getD j false) 0 ops.toList es s) a w → wpAny P .any ops (fun e a' w' => e = .normal ∧ Goes P f (fun v w' => ∃ ρ' r h', RelH ⟨ρ', h', w', c0.X⟩ ∧ Ev c0 ⟨ρ', h', w', c0.X⟩ ∧ RV ⟨ρ', h', w', c0.X⟩ v r ∧ R r h') k a' w') fuel listed a w := by
    intro fuel
    have hdone : ∀ (listed : Array Bool) (a : Act) (w : World), listed.size = ops.size → (∀ j, j < ops.size → listed.getD j true = true) → Rel c0 (sub (fun j => listed.getD j false) 0 ops.toList es s) a w →
        Goes P f (fun v w' => ∃ ρ' r h', RelH ⟨ρ', h', w', c0.X⟩ ∧ Ev c0 ⟨ρ', h', w', c0.X⟩ ∧ RV ⟨ρ', h', w', c0.X⟩ v r ∧ R r h') k a w := by
      intro listed a w hsz hall ⟨ρ, q1, q2, q3, q4⟩
      have : sub (fun j => listed.getD j false) 0 ops.toList es s = sub (fun _ => true) 0 ops.toList es s := sub_congr _ _ _ _ fun j hj => by
        have hj' : j < ops.size := by simpa using hj
        have := hall j hj'
        rw [Nat.zero_add]
        have hjl : j < listed.size := by omega
        rw [Array.getD_eq_getD_getElem?, Array.getElem?_eq_getElem hjl] at this ⊢
        exact this
      rw [this] at q1 q2 q3
      exact hk ρ w a q1 q2 q3 q4
    have hready : ∀ (listed : Array Bool), listed.size = ops.size → Region.ready .any ops listed = [] → ∀ j, j < ops.size → listed.getD j true = true := by
      intro listed hsz hnil j
      induction j using Nat.strongRecOn with
      | _ j ih =>
        intro hj
        apply Classical.byContradiction
        intro hnot
        have hmem : j ∈ Region.ready .any ops listed := by
          refine List.mem_filter.2 ⟨List.mem_range.2 hj, ?_⟩
          simp only [Bool.and_eq_true, Bool.not_eq_true']
          refine ⟨by simpa using hnot, ?_⟩
          have hoj : ops[j]? = some ops[j] := Array.getElem?_eq_getElem hj
          rw [hoj]
          simp only [Option.map_some, Option.getD_some]
          rw [Array.all_eq_true_iff_forall_mem]
          intro e he
          cases hb : Region.binds .any e with
          | false => rfl
          | true =>
            have hlt := back j _ e hoj (by simpa using he) hb
            have := ih e.on hlt (by omega)
            have hjl : e.on < listed.size := by omega
            rw [Array.getD_eq_getD_getElem?, Array.getElem?_eq_getElem hjl] at this ⊢
            simpa using this
        rw [hnil] at hmem
        simp at hmem
    induction fuel with
    | zero =>
      intro listed a w hsz hcl hcnt hrel
      have h0 : ∀ j, j < ops.size → listed.getD j true = true := by
        intro j hj
        have := List.countP_eq_zero.1 (Nat.le_zero.1 hcnt) j (List.mem_range.2 hj)
        simpa using this
      refine ⟨?_, rfl, hdone listed a w hsz h0 hrel⟩
      refine List.filter_eq_nil_iff.2 fun j hj => ?_
      rw [h0 j (List.mem_range.1 hj)]
      simp
    | succ fuel ih =>
      intro listed a w hsz hcl hcnt hrel
      refine ⟨fun hnil => ⟨rfl, hdone listed a w hsz (hready listed hsz hnil) hrel⟩, fun i hi => ?_⟩
      obtain ⟨hir, hcond⟩ := List.mem_filter.1 hi
      have hin : i < ops.size := List.mem_range.1 hir
      simp only [Bool.and_eq_true, Bool.not_eq_true'] at hcond
      obtain ⟨hnl, hpre⟩ := hcond
      have hoi : ops[i]? = some ops[i] := Array.getElem?_eq_getElem hin
      rw [hoi] at hpre
      simp only [Option.map_some, Option.getD_some] at hpre
      rw [Array.all_eq_true_iff_forall_mem] at hpre
      have hil : i < listed.size := by omega
      have hDi : listed.getD i false = false := by
        rw [Array.getD_eq_getD_getElem?, Array.getElem?_eq_getElem hil] at hnl ⊢
        exact hnl
      have hpre' : ∀ o e, ops[i]? = some o → e ∈ o.after.toList → Region.binds .any e = true → listed.getD e.on false = true := by
        intro o e ho he hb
        rw [hoi] at ho
        cases ho
        have := hpre e (by simpa using he)
        simpa [hb] using this
      have hie : i < es.length := by omega
      have hei : es[i]? = some es[i] := List.getElem?_eq_getElem hie
      generalize ops[i] = oi at *
      generalize es[i] = ei at *
      have hoi' : ops.toList[i]? = some oi := by simpa using hoi
      have hD : ∀ j, j < i → Bef ops j i → listed.getD j false = true := fun j _ hb => Bef.pre hcl hb hpre'
      have hD' : ∀ j, Bef ops i j → listed.getD j false = false := fun j hb => by
        cases hj : listed.getD j false with
        | false => rfl
        | true => have h : listed.getD i false = true := hcl.bef hb hj; rw [hDi] at h; cases h
      refine hstep i oi ei hoi' hei _ (by rw [sub_tlen, sub_tlen]) (fun x hx => ?_) (fun y hy => ?_) a w _ _ hrel fun a' w' hr => ?_
      · refine sub_tmp _ _ _ _ _ rfl rfl fun j oj hoj hdj => ?_
        rw [Nat.zero_add]
        have hoj' : ops[j]? = some oj := by simpa using hoj
        rcases Nat.lt_trichotomy j i with hlt | rfl | hgt
        · rw [decide_eq_true hlt]
          rcases stat j i oj oi hlt hoj' hoi with hb | ⟨h1, _, _⟩
          · exact hD j hlt hb
          · exact absurd hx (h1 x hdj)
        · simp [hDi]
        · rw [decide_eq_false (by omega)]
          rcases stat i j oi oj hgt hoi hoj' with hb | ⟨_, _, h1⟩
          · exact hD' j hb
          · exact absurd hx (h1 x hdj)
      · refine sub_blk _ _ _ _ _ rfl rfl fun j ej hej hwj => ?_
        rw [Nat.zero_add]
        rcases Nat.lt_trichotomy j i with hlt | rfl | hgt
        · rw [decide_eq_true hlt]
          rcases dyn j i ej ei hlt hej hei with hb | ⟨h1, _, _⟩
          · exact hD j hlt hb
          · exact absurd hy (hdisj h1 hwj)
        · simp [hDi]
        · rw [decide_eq_false (by omega)]
          rcases dyn i j ei ej hgt hei hej with hb | ⟨_, _, h1⟩
          · exact hD' j hb
          · exact absurd hwj (hdisj h1 hy)
      · have hset : ∀ j, (listed.setIfInBounds i true).getD j false = (listed.getD j false || j == i) := fun j => by
          rw [Array.getD_eq_getD_getElem?, Array.getD_eq_getD_getElem?, Array.getElem?_setIfInBounds]
          by_cases hji : i = j
          · subst hji; simp [hil]
          · have : (j == i) = false := by simp; omega
            simp [hji, this]
        have e1 : sub (fun j => (listed.setIfInBounds i true).getD j false) 0 ops.toList es s = ei.app oi (sub (fun j => listed.getD j false) 0 ops.toList es s) := by
          have : (fun j => (listed.setIfInBounds i true).getD j false) = (fun j => listed.getD j false || j == i) := funext hset
          rw [this]
          refine sub_set (D := fun j => listed.getD j false) hDi ops.toList es 0 s oi ei hoi' hei (Nat.zero_le _) fun j oj ej hj hoj hej hDj => ?_
          rw [Nat.zero_add] at hj hDj
          have hoj' : ops[j]? = some oj := by simpa using hoj
          have hno : ¬ Bef ops i j := fun hb => by rw [hD' j hb] at hDj; cases hDj
          refine ⟨?_, ?_⟩
          · rcases stat i j oi oj hj hoi hoj' with hb | ⟨_, h1, _⟩
            · exact absurd hb hno
            · exact h1
          · rcases dyn i j ei ej hj hei hej with hb | ⟨_, h1, _⟩
            · exact absurd hb hno
            · exact h1
        refine ih _ a' w' (by simpa using hsz) (fun j o e ho hj he hb => ?_) ?_ (by rw [e1]; exact hr)
        · simp only [hset] at hj ⊢
          simp only [Bool.or_eq_true, beq_iff_eq] at hj ⊢
          rcases hj with hj | rfl
          · exact .inl (hcl j o e ho hj he hb)
          · exact .inl (hpre' o e ho he hb)
        · have hlt : (List.range ops.size).countP (fun j => !(listed.setIfInBounds i true).getD j true) < (List.range ops.size).countP (fun j => !listed.getD j true) := by
            refine countP_lt (i := i) (fun x hx => ?_) hir (by simp [hnl]) ?_
            · simp only [Bool.not_eq_true'] at hx ⊢
              rw [Array.getD_eq_getD_getElem?, Array.getElem?_setIfInBounds] at hx
              rw [Array.getD_eq_getD_getElem?]
              by_cases hix : i = x
              · subst hix
                rw [if_pos rfl, if_pos hil] at hx
                simp at hx
              · rw [if_neg hix] at hx
                exact hx
            · rw [Array.getD_eq_getD_getElem?, Array.getElem?_setIfInBounds]
              simp [hil]
          omega
  refine key ops.size (Array.replicate ops.size false) a _ (by simp) (fun j o e ho hj he hb => ?_) ?_ ?_
  · exfalso
    simp only at hj
    rw [Array.getD_eq_getD_getElem?, Array.getElem?_replicate] at hj
    split at hj <;> simp at hj
  · exact Nat.le_trans List.countP_le_length (by simp)
  · have e0 : sub (fun j => (Array.replicate ops.size false).getD j false) 0 ops.toList es s = s := by
      have hf : ∀ j, (Array.replicate ops.size false).getD j false = false := fun j => by
        rw [Array.getD_eq_getD_getElem?, Array.getElem?_replicate]
        split <;> rfl
      have : ∀ (os : List Oper) (es : List Ent) (m : Nat) (s : AState), sub (fun j => (Array.replicate ops.size false).getD j false) m os es s = s := by
        intro os
        induction os with
        | nil => intro es m s; simp [sub]
        | cons o os ih =>
          intro es m s
          cases es with
          | nil => simp [sub]
          | cons e es =>
            have := ih es (m + 1) s
            simp only [hf] at this
            simp only [sub, hf, Bool.false_eq_true, if_false]
            exact this
      exact this _ _ _ _
    rw [e0]
    have hev : Ev ⟨ρ, s.h, w, c0.X⟩ ⟨ρ, s.h, { w with drawn := w.drawn + 1 }, c0.X⟩ := ⟨rfl, rfl, rfl, Nat.le_refl _, rfl, fun _ _ h => ⟨h, rfl⟩, fun _ _ h => ⟨rfl, h⟩, Nat.le_refl _, fun _ x h hf => ⟨x, h, hf, fun ht => ⟨ht, rfl⟩, fun _ n e => ⟨n, e, .inr ⟨rfl, rfl, fun _ _ => rfl⟩⟩⟩, fun _ vs _ _ h => ⟨vs, h, rfl⟩⟩
    exact ⟨ρ, ⟨h1.inj, h1.here, fun i x hx => (h1.blk i x hx).mono hev rfl fun _ _ _ => rfl, h1.xs⟩, h2.trans hev, h3.mono hev, h4⟩
end
end Go.Proofs.YtgonmnjgodleeaaDoor
