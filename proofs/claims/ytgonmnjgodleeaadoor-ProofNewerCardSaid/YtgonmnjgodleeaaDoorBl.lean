/-
  The shadow of a run: a region that draws its order, in which one operation may read a block before or behind the write of another. Nothing here speaks of the program.
-/
import Derived.Test.YtgonmnjgodleeaaDoorAi
namespace Go.Proofs.YtgonmnjgodleeaaDoor
open Go.RowKit
/-- The operation does what the entry says; operation i0 also where block y holds b. -/
def StepS (P : Program) (c0 : Cx) (ops : Array Oper) (i0 y : Nat) (b : ABlk) (i : Nat) (o : Oper) (s : AState) (e : Ent) : Prop :=
  ∀ s' : AState, s'.t.length = s.t.length → (∀ x ∈ o.looksAt ops, s'.t[x]? = s.t[x]?) → (∀ y ∈ e.rd, s'.h[y]? = s.h[y]?) → (i = i0 → s'.h[y]? = s.h[y]? ∨ s'.h[y]? = some b) →
    ∀ (a : Act) (w : World) (K : Act → World → Prop) (Q : Exit → Act → World → Prop), Rel c0 s' a w → (∀ a' w', Rel c0 (e.app o s') a' w' → K a' w') → wpOp P ops Q i K a w
theorem StepS.of {P : Program} {c0 : Cx} {ops : Array Oper} {i0 y i : Nat} {b : ABlk} {o : Oper} {s : AState} {e : Ent} (h : StepOk P c0 ops i o s e) : StepS P c0 ops i0 y b i o s e := fun s' h1 h2 h3 _ => h s' h1 h2 h3
def TraceS (P : Program) (c0 : Cx) (ops : Array Oper) (i0 y : Nat) (b : ABlk) : Nat → List Oper → List Ent → AState → Prop
  | n, o :: os, e :: es, s => StepS P c0 ops i0 y b n o s e ∧ TraceS P c0 ops i0 y b (n + 1) os es (e.app o s)
  | _, _, _, _ => True
/-- Who writes y stands before i0 for sure, or behind it for sure, or is j0. -/
def softP (ms : List Nat) (fp : List (List Nat × List Nat)) (i0 j0 y : Nat) : Bool :=
  decide (i0 < j0) && (List.range fp.length).all fun j => match fp[j]? with
    | some e => !e.2.contains y || (if j < i0 then (ms.getD i0 0).testBit j else decide (j = i0) || decide (j = j0) || (ms.getD j 0).testBit i0)
    | none => true
section
variable {P : Program} {c0 : Cx} {ops : Array Oper}
theorem TraceS.at_ {i0 y : Nat} {b : ABlk} : ∀ (os : List Oper) (es : List Ent) (n : Nat) (s : AState), TraceS P c0 ops i0 y b n os es s → ∀ j o e, os[j]? = some o → es[j]? = some e → StepS P c0 ops i0 y b (n + j) o (sub (fun q => decide (q < n + j)) n os es s) e
  | [], _, _, _, _, j, o, e, ho, _ => by simp at ho
  | _ :: _, [], _, _, _, j, o, e, _, he => by simp at he
  | o' :: os, e' :: es, n, s, h, j, o, e, ho, he => by
    obtain ⟨h1, h2⟩ := h
    cases j with
    | zero =>
      simp only [List.getElem?_cons_zero, Option.some.injEq] at ho he
      subst ho he
      have : sub (fun q => decide (q < n + 0)) n (o' :: os) (e' :: es) s = s := by
        have : ∀ (os : List Oper) (es : List Ent) (m : Nat) (s : AState), n ≤ m → sub (fun q => decide (q < n + 0)) m os es s = s := by
          intro os
          induction os with
          | nil => intro es m s _; simp [sub]
          | cons o os ih =>
            intro es m s hm
            cases es with
            | nil => simp [sub]
            | cons e es =>
              have : ¬ m < n + 0 := by omega
              simp only [sub, this, decide_false, Bool.false_eq_true, if_false]
              exact ih es (m + 1) s (by omega)
        exact this _ _ n s (Nat.le_refl _)
      rw [this]
      exact h1
    | succ j =>
      have := TraceS.at_ os es (n + 1) _ h2 j o e (by simpa using ho) (by simpa using he)
      have e1 : n + 1 + j = n + (j + 1) := by omega
      rw [e1] at this
      have e2 : n < n + (j + 1) := by omega
      simp only [sub, e2, decide_true, if_true]
      exact this
theorem sub_hlen {D : Nat → Bool} : ∀ (os : List Oper) (es : List Ent) (n : Nat) (s : AState), (sub D n os es s).h.length = s.h.length
  | [], _, _, _ => by simp [sub]
  | _ :: _, [], _, _ => by simp [sub]
  | o :: os, e :: es, n, s => by
    simp only [sub]
    rw [sub_hlen os es]
    split
    · simp only [Ent.app]; exact aupds_len _ _
    · rfl
theorem sub_no : ∀ (os : List Oper) (es : List Ent) (n : Nat) (s : AState), sub (fun _ => false) n os es s = s
  | [], _, _, _ => by simp [sub]
  | _ :: _, [], _, _ => by simp [sub]
  | o :: os, e :: es, n, s => by
    simp only [sub, Bool.false_eq_true, if_false]
    exact sub_no os es _ s
/-- What the last one wrote. -/
theorem sub_last {D : Nat → Bool} {y : Nat} {b : ABlk} {e0 : Ent} (hd : e0.d = [(y, b)]) : ∀ (os : List Oper) (es : List Ent) (n : Nat) (s : AState) (j0 : Nat), j0 < os.length → es[j0]? = some e0 → y < s.h.length → D (n + j0) = true → (∀ j e, j0 < j → es[j]? = some e → y ∈ e.wr → D (n + j) = false) → (sub D n os es s).h[y]? = some b
  | [], _, _, _, _, h, _, _, _, _ => by simp at h
  | _ :: _, [], _, _, _, _, h, _, _, _ => by simp at h
  | o :: os, e :: es, n, s, j0, hj, he, hy, hD, hall => by
    simp only [sub]
    cases j0 with
    | zero =>
      simp only [List.getElem?_cons_zero, Option.some.injEq] at he
      subst he
      rw [Nat.add_zero] at hD
      rw [hD, if_pos rfl]
      rw [sub_blk (D := D) (D' := fun _ => false) os es (n + 1) _ _ rfl rfl fun j e he hw => by have := hall (j + 1) e (by omega) (by simpa using he) hw; rwa [← Nat.add_assoc, Nat.add_right_comm] at this, sub_no]
      simp only [Ent.app, hd, aupds]
      rw [List.getElem?_set_self hy]
    | succ j0 =>
      refine sub_last hd os es (n + 1) _ j0 (by simpa using hj) (by simpa using he) ?_ (by rwa [Nat.add_right_comm, Nat.add_assoc]) fun j e hj he hw => ?_
      · split
        · simp only [Ent.app]; rw [aupds_len]; exact hy
        · exact hy
      · have := hall (j + 1) e (by omega) (by simpa using he) hw
        rwa [← Nat.add_assoc, Nat.add_right_comm] at this
theorem ARun.drawS {f : FuncId} {R : AV → List ABlk → Prop} {k : List Item} {s : AState} {id : Nat} (hm : P.follows .mixedOrders = true) (hst : statOk ops = true) (es : List Ent) (hlen : es.length = ops.size)
    {i0 j0 y0 : Nat} {b0 : ABlk} (htr : TraceS P c0 ops i0 y0 b0 0 ops.toList es s) (hsoft : softP (masks ops.toList []) (es.map Ent.fp) i0 j0 y0 = true) (hj0 : ∃ e0, es[j0]? = some e0 ∧ e0.d = [(y0, b0)]) (hdyn : dynOk (masks ops.toList []) es = true) (hk : ARun P f c0 R k (sub (fun _ => true) 0 ops.toList es s)) : ARun P f c0 R (.code (.region id ops true) :: k) s := fun ρ w a h1 h2 h3 h4 => by
  refine Goes.of_wp (wp_region_any hm ?_)
  have hbef : ∀ i j, ((masks ops.toList []).getD j 0).testBit i = true → Bef ops i j := fun i j h => masks_ok ops.toList [] rfl (fun k i h => by simp at h) j i h
  -- what the checks say of two operations
  have stat : ∀ i j oi oj, i < j → ops[i]? = some oi → ops[j]? = some oj → Bef ops i j ∨ ((∀ d, oi.dst = some d → d ∉ oj.looksAt ops) ∧ (∀ d, oi.dst = some d → oj.dst ≠ some d) ∧ (∀ d, oj.dst = some d → d ∉ oi.looksAt ops)) := by
    intro i j oi oj hij hi hj
    have hjn : j < ops.size := (Array.getElem?_eq_some_iff.1 hj).1
    have := all_range hst hjn
    simp only [hj, Bool.and_eq_true] at this
    have := all_range this.2 hij
    simp only [Bool.or_eq_true, hi] at this
    rcases this with h | h
    · exact .inl (hbef i j h)
    · exact .inr (Oper.apart_spec h)
  have back : ∀ j oj e, ops[j]? = some oj → e ∈ oj.after.toList → Region.binds .any e = true → e.on < j := by
    intro j oj e hj he hb
    have hjn : j < ops.size := (Array.getElem?_eq_some_iff.1 hj).1
    have := all_range hst hjn
    simp only [hj, Bool.and_eq_true] at this
    have := List.all_eq_true.1 this.1 e he
    simpa [hb] using this
  have dyn : ∀ i j ei ej, i < j → es[i]? = some ei → es[j]? = some ej → Bef ops i j ∨ (disj ei.wr ej.rd = true ∧ disj ei.wr ej.wr = true ∧ disj ei.rd ej.wr = true) := by
    intro i j ei ej hij hi hj
    have hjn : j < es.length := (List.getElem?_eq_some_iff.1 hj).1
    have := all_range hdyn hjn
    simp only [hj] at this
    have := all_range this hij
    simp only [Bool.or_eq_true, hi, Bool.and_eq_true] at this
    rcases this with h | ⟨⟨h, h'⟩, h''⟩
    · exact .inl (hbef i j h)
    · exact .inr ⟨h, h', h''⟩
  have hdisj : ∀ {xs ys : List Nat} {y : Nat}, disj xs ys = true → y ∈ xs → y ∉ ys := by
    intro xs ys y h hy hy'
    have := List.all_eq_true.1 h y hy
    simp [hy'] at this
  have hstep := fun (j : Nat) o e (ho : ops.toList[j]? = some o) he => by have := TraceS.at_ ops.toList es 0 s htr j o e ho he; rwa [Nat.zero_add] at this
  have soft : i0 < j0 ∧ ∀ j ej, es[j]? = some ej → y0 ∈ ej.wr → (j < i0 → Bef ops j i0) ∧ (i0 < j → j = j0 ∨ Bef ops i0 j) := by
    unfold softP at hsoft
    simp only [Bool.and_eq_true, decide_eq_true_eq, List.length_map] at hsoft
    refine ⟨hsoft.1, fun j ej hej hy => ?_⟩
    have hjn : j < es.length := (List.getElem?_eq_some_iff.1 hej).1
    have := all_range hsoft.2 hjn
    simp only [List.getElem?_map, hej, Option.map_some] at this
    have hy' : ej.fp.2.contains y0 = true := by simpa [Ent.fp] using hy
    rw [hy'] at this
    simp only [Bool.not_true, Bool.false_or] at this
    refine ⟨fun hlt => ?_, fun hlt => ?_⟩
    · rw [if_pos hlt] at this
      exact hbef _ _ this
    · rw [if_neg (by omega)] at this
      simp only [Bool.or_eq_true, decide_eq_true_eq] at this
      rcases this with (h | h) | h
      · omega
      · exact .inl h
      · exact .inr (hbef _ _ h)
  have key : ∀ (fuel : Nat) (listed : Array Bool) (a : Act) (w : World), listed.size = ops.size → Closed ops (fun j => listed.getD j false) → (List.range ops.size).countP (fun j => !listed.getD j true) ≤ fuel →
      Rel c0 (sub (fun j => listed.getD j false) 0 ops.toList es s) a w → wpAny P .any ops (fun e a' w' => e = .normal ∧ Goes P f (fun v w' => ∃ ρ' r h', RelH ⟨ρ', h', w', c0.X⟩ ∧ Ev c0 ⟨ρ', h', w', c0.X⟩ ∧ RV ⟨ρ', h', w', c0.X⟩ v r ∧ R r h') k a' w') fuel listed a w := by
    intro fuel
    have hdone : ∀ (listed : Array Bool) (a : Act) (w : World), listed.size = ops.size → (∀ j, j < ops.size → listed.getD j true = true) → Rel c0 (sub (fun j => listed.getD j false) 0 ops.toList es s) a w →
        Goes P f (fun v w' => ∃ ρ' r h', RelH ⟨ρ', h', w', c0.X⟩ ∧ Ev c0 ⟨ρ', h', w', c0.X⟩ ∧ RV ⟨ρ', h', w', c0.X⟩ v r ∧ R r h') k a w := by
      intro listed a w hsz hall ⟨ρ, q1, q2, q3, q4⟩
      have : sub (fun j => listed.getD j false) 0 ops.toList es s = sub (fun _ => true) 0 ops.toList es s := sub_congr _ _ _ _ fun j hj => by
        have hj' : j < ops.size := by simpa using hj
        have := hall j hj'
        rw [Nat.zero_add]
        have hjl : j < listed.size := by omega
        rw [Array.getD_eq_getD_getElem?, Array.getElem?_eq_getElem hjl] at this ⊢
        exact this
      rw [this] at q1 q2 q3
      exact hk ρ w a q1 q2 q3 q4
    have hready : ∀ (listed : Array Bool), listed.size = ops.size → Region.ready .any ops listed = [] → ∀ j, j < ops.size → listed.getD j true = true := by
      intro listed hsz hnil j
      induction j using Nat.strongRecOn with
      | _ j ih =>
        intro hj
        apply Classical.byContradiction
        intro hnot
        have hmem : j ∈ Region.ready .any ops listed := by
          refine List.mem_filter.2 ⟨List.mem_range.2 hj, ?_⟩
          simp only [Bool.and_eq_true, Bool.not_eq_true']
          refine ⟨by simpa using hnot, ?_⟩
          have hoj : ops[j]? = some ops[j] := Array.getElem?_eq_getElem hj
          rw [hoj]
          simp only [Option.map_some, Option.getD_some]
          rw [Array.all_eq_true_iff_forall_mem]
          intro e he
          cases hb : Region.binds .any e with
          | false => rfl
          | true =>
            have hlt := back j _ e hoj (by simpa using he) hb
            have := ih e.on hlt (by omega)
            have hjl : e.on < listed.size := by omega
            rw [Array.getD_eq_getD_getElem?, Array.getElem?_eq_getElem hjl] at this ⊢
            simpa using this
        rw [hnil] at hmem
        simp at hmem
    induction fuel with
    | zero =>
      intro listed a w hsz hcl hcnt hrel
      have h0 : ∀ j, j < ops.size → listed.getD j true = true := by
        intro j hj
        have := List.countP_eq_zero.1 (Nat.le_zero.1 hcnt) j (List.mem_range.2 hj)
        simpa using this
      refine ⟨?_, rfl, hdone listed a w hsz h0 hrel⟩
      refine List.filter_eq_nil_iff.2 fun j hj => ?_
      rw [h0 j (List.mem_range.1 hj)]
      simp
    | succ fuel ih =>
      intro listed a w hsz hcl hcnt hrel
      refine ⟨fun hnil => ⟨rfl, hdone listed a w hsz (hready listed hsz hnil) hrel⟩, fun i hi => ?_⟩
      obtain ⟨hir, hcond⟩ := List.mem_filter.1 hi
      have hin : i < ops.size := List.mem_range.1 hir
      simp only [Bool.and_eq_true, Bool.not_eq_true'] at hcond
      obtain ⟨hnl, hpre⟩ := hcond
      have hoi : ops[i]? = some ops[i] := Array.getElem?_eq_getElem hin
      rw [hoi] at hpre
      simp only [Option.map_some, Option.getD_some] at hpre
      rw [Array.all_eq_true_iff_forall_mem] at hpre
      have hil : i < listed.size := by omega
      have hDi : listed.getD i false = false := by
        rw [Array.getD_eq_getD_getElem?, Array.getElem?_eq_getElem hil] at hnl ⊢
        exact hnl
      have hpre' : ∀ o e, ops[i]? = some o → e ∈ o.after.toList → Region.binds .any e = true → listed.getD e.on false = true := by
        intro o e ho he hb
        rw [hoi] at ho
        cases ho
        have := hpre e (by simpa using he)
        simpa [hb] using this
      have hie : i < es.length := by omega
      have hei : es[i]? = some es[i] := List.getElem?_eq_getElem hie
      generalize ops[i] = oi at *
      generalize es[i] = ei at *
      have hoi' : ops.toList[i]? = some oi := by simpa using hoi
      have hD : ∀ j, j < i → Bef ops j i → listed.getD j false = true := fun j _ hb => Bef.pre hcl hb hpre'
      have hD' : ∀ j, Bef ops i j → listed.getD j false = false := fun j hb => by
        cases hj : listed.getD j false with
        | false => rfl
        | true => have h : listed.getD i false = true := hcl.bef hb hj; rw [hDi] at h; cases h
      refine hstep i oi ei hoi' hei _ (by rw [sub_tlen, sub_tlen]) (fun x hx => ?_) (fun y hy => ?_) (fun hi0 => ?_) a w _ _ hrel fun a' w' hr => ?_
      · refine sub_tmp _ _ _ _ _ rfl rfl fun j oj hoj hdj => ?_
        rw [Nat.zero_add]
        have hoj' : ops[j]? = some oj := by simpa using hoj
        rcases Nat.lt_trichotomy j i with hlt | rfl | hgt
        · rw [decide_eq_true hlt]
          rcases stat j i oj oi hlt hoj' hoi with hb | ⟨h1, _, _⟩
          · exact hD j hlt hb
          · exact absurd hx (h1 x hdj)
        · simp [hDi]
        · rw [decide_eq_false (by omega)]
          rcases stat i j oi oj hgt hoi hoj' with hb | ⟨_, _, h1⟩
          · exact hD' j hb
          · exact absurd hx (h1 x hdj)
      · refine sub_blk _ _ _ _ _ rfl rfl fun j ej hej hwj => ?_
        rw [Nat.zero_add]
        rcases Nat.lt_trichotomy j i with hlt | rfl | hgt
        · rw [decide_eq_true hlt]
          rcases dyn j i ej ei hlt hej hei with hb | ⟨h1, _, _⟩
          · exact hD j hlt hb
          · exact absurd hy (hdisj h1 hwj)
        · simp [hDi]
        · rw [decide_eq_false (by omega)]
          rcases dyn i j ei ej hgt hei hej with hb | ⟨_, _, h1⟩
          · exact hD' j hb
          · exact absurd hwj (hdisj h1 hy)
      · subst hi0
        obtain ⟨hij0, hs0⟩ := soft
        obtain ⟨e0, he0, hd0⟩ := hj0
        cases hlj : listed.getD j0 false with
        | false =>
          left
          refine sub_blk _ _ _ _ _ rfl rfl fun j ej hej hwj => ?_
          rw [Nat.zero_add]
          rcases Nat.lt_trichotomy j i with hlt | rfl | hgt
          · rw [decide_eq_true hlt]
            exact hD j hlt ((hs0 j ej hej hwj).1 hlt)
          · simp [hDi]
          · rw [decide_eq_false (by omega)]
            rcases (hs0 j ej hej hwj).2 hgt with rfl | hb
            · exact hlj
            · exact hD' j hb
        | true =>
          by_cases hyl : y0 < s.h.length
          · right
            have hj0n : j0 < ops.toList.length := by rw [Array.length_toList]; have := (List.getElem?_eq_some_iff.1 he0).1; omega
            refine sub_last hd0 ops.toList es 0 s j0 (by simpa using hj0n) he0 hyl (by rw [Nat.zero_add]; exact hlj) fun j ej hj hej hwj => ?_
            rw [Nat.zero_add]
            rcases (hs0 j ej hej hwj).2 (by omega) with h | hb
            · omega
            · exact hD' j hb
          · left
            rw [List.getElem?_eq_none (by rw [sub_hlen]; omega), List.getElem?_eq_none (by rw [sub_hlen]; omega)]
      · have hset : ∀ j, (listed.setIfInBounds i true).getD j false = (listed.getD j false || j == i) := fun j => by
          rw [Array.getD_eq_getD_getElem?, Array.getD_eq_getD_getElem?, Array.getElem?_setIfInBounds]
          by_cases hji : i = j
          · subst hji; simp [hil]
          · have : (j == i) = false := by simp; omega
            simp [hji, this]
        have e1 : sub (fun j => (listed.setIfInBounds i true).getD j false) 0 ops.toList es s = ei.app oi (sub (fun j => listed.getD j false) 0 ops.toList es s) := by
          have : (fun j => (listed.setIfInBounds i true).getD j false) = (fun j => listed.getD j false || j == i) := funext hset
          rw [this]
          refine sub_set (D := fun j => listed.getD j false) hDi ops.toList es 0 s oi ei hoi' hei (Nat.zero_le _) fun j oj ej hj hoj hej hDj => ?_
          rw [Nat.zero_add] at hj hDj
          have hoj' : ops[j]? = some oj := by simpa using hoj
          have hno : ¬ Bef ops i j := fun hb => by rw [hD' j hb] at hDj; cases hDj
          refine ⟨?_, ?_⟩
          · rcases stat i j oi oj hj hoi hoj' with hb | ⟨_, h1, _⟩
            · exact absurd hb hno
            · exact h1
          · rcases dyn i j ei ej hj hei hej with hb | ⟨_, h1, _⟩
            · exact absurd hb hno
            · exact h1
        refine ih _ a' w' (by simpa using hsz) (fun j o e ho hj he hb => ?_) ?_ (by rw [e1]; exact hr)
        · simp only [hset] at hj ⊢
          simp only [Bool.or_eq_true, beq_iff_eq] at hj ⊢
          rcases hj with hj | rfl
          · exact .inl (hcl j o e ho hj he hb)
          · exact .inl (hpre' o e ho he hb)
        · have hlt : (List.range ops.size).countP (fun j => !(listed.setIfInBounds i true).getD j true) < (List.range ops.size).countP (fun j => !listed.getD j true) := by
            refine countP_lt (i := i) (fun x hx => ?_) hir (by simp [hnl]) ?_
            · simp only [Bool.not_eq_true'] at hx ⊢
              rw [Array.getD_eq_getD_getElem?, Array.getElem?_setIfInBounds] at hx
              rw [Array.getD_eq_getD_getElem?]
              by_cases hix : i = x
              · subst hix
                rw [if_pos rfl, if_pos hil] at hx
                simp at hx
              · rw [if_neg hix] at hx
                exact hx
            · rw [Array.getD_eq_getD_getElem?, Array.getElem?_setIfInBounds]
              simp [hil]
          omega
  refine key ops.size (Array.replicate ops.size false) a _ (by simp) (fun j o e ho hj he hb => ?_) ?_ ?_
  · exfalso
    simp only at hj
    rw [Array.getD_eq_getD_getElem?, Array.getElem?_replicate] at hj
    split at hj <;> simp at hj
  · exact Nat.le_trans List.countP_le_length (by simp)
  · have e0 : sub (fun j => (Array.replicate ops.size false).getD j false) 0 ops.toList es s = s := by
      have hf : ∀ j, (Array.replicate ops.size false).getD j false = false := fun j => by
        rw [Array.getD_eq_getD_getElem?, Array.getElem?_replicate]
        split <;> rfl
      have : ∀ (os : List Oper) (es : List Ent) (m : Nat) (s : AState), sub (fun j => (Array.replicate ops.size false).getD j false) m os es s = s := by
        intro os
        induction os with
        | nil => intro es m s; simp [sub]
        | cons o os ih =>
          intro es m s
          cases es with
          | nil => simp [sub]
          | cons e es =>
            have := ih es (m + 1) s
            simp only [hf] at this
            simp only [sub, hf, Bool.false_eq_true, if_false]
            exact this
      exact this _ _ _ _
    rw [e0]
    have hev : Ev ⟨ρ, s.h, w, c0.X⟩ ⟨ρ, s.h, { w with drawn := w.drawn + 1 }, c0.X⟩ := ⟨rfl, rfl, rfl, Nat.le_refl _, rfl, fun _ _ h => ⟨h, rfl⟩, fun _ _ h => ⟨rfl, h⟩, Nat.le_refl _, fun _ x h hf => ⟨x, h, hf, fun ht => ⟨ht, rfl⟩, fun _ n e => ⟨n, e, .inr ⟨rfl, rfl, fun _ _ => rfl⟩⟩⟩, fun _ vs _ _ h => ⟨vs, h, rfl⟩⟩
    exact ⟨ρ, ⟨h1.inj, h1.here, fun i x hx => (h1.blk i x hx).mono hev rfl fun _ _ _ => rfl, h1.xs⟩, h2.trans hev, h3.mono hev, h4⟩
end
/-- The operations of such a region that are left. -/
structure DSoft (P : Program) (f : FuncId) (c0 : Cx) (R : AV → List ABlk → Prop) (ops : Array Oper) (i0 j0 y : Nat) (b : ABlk) (n sl : Nat) (rest : List Oper) (fp : List (List Nat × List Nat)) (k : List Item) (s : AState) : Prop where
  h : ∃ es : List Ent, es.length = rest.length ∧ TraceS P c0 ops i0 y b n rest es s ∧ dynP (masks ops.toList []) (fp ++ es.map Ent.fp) = true ∧ softP (masks ops.toList []) (fp ++ es.map Ent.fp) i0 j0 y = true ∧ (n ≤ j0 → ∃ e0, es[j0 - n]? = some e0 ∧ e0.d = [(y, b)]) ∧ ARun P f c0 R k (sub (fun _ => true) n rest es s)
section
variable {P : Program} {f : FuncId} {c0 : Cx} {R : AV → List ABlk → Prop} {T : TabT} {ops : Array Oper} {i0 j0 y n sl sl' : Nat} {b : ABlk} {o : Oper} {rest : List Oper} {fp : List (List Nat × List Nat)} {k : List Item} {s : AState}
theorem DSoft.nil (hn : j0 < n) (hd : dynP (masks ops.toList []) fp = true) (hs : softP (masks ops.toList []) fp i0 j0 y = true) (h : Run P f c0 R k s) : DSoft P f c0 R ops i0 j0 y b n sl [] fp k s := ⟨[], rfl, trivial, by simpa using hd, by simpa using hs, fun h => by omega, by simpa [sub] using h.h⟩
theorem DSoft.cons {e : Ent} (hs : StepS P c0 ops i0 y b n o s e) (he : n = j0 → e.d = [(y, b)]) (h : DSoft P f c0 R ops i0 j0 y b (n + 1) sl' rest (fp ++ [e.fp]) k (e.app o s)) : DSoft P f c0 R ops i0 j0 y b n sl (o :: rest) fp k s := by
  obtain ⟨es, h1, h2, h3, h4, h5, h6⟩ := h.h
  refine ⟨e :: es, by simp [h1], ⟨hs, h2⟩, by simpa using h3, by simpa using h4, fun hn => ?_, by simpa [sub] using h6⟩
  by_cases hnj : n = j0
  · subst hnj
    exact ⟨e, by simp, he rfl⟩
  · obtain ⟨e0, g1, g2⟩ := h5 (by omega)
    refine ⟨e0, ?_, g2⟩
    have : j0 - n = (j0 - (n + 1)) + 1 := by omega
    rw [this]
    simpa using g1
theorem DSoft.op (hT : TabOk P T) (ho : ops[n]? = some o) (hw : Wanted ops s.t o.guard true) {r : ARes} (hr : aop T sl s.t s.h o.op = some r) (hp : r.p) (hf : freeOk s.t s.h sl o.op) (he : n = j0 → r.d.toList = [(y, b)])
    (h : DSoft P f c0 R ops i0 j0 y b (n + 1) (if mayNeed o.op then sl + 1 else sl) rest (fp ++ [(if needs s.t o.op then sl :: rdOf s.t o.op else rdOf s.t o.op, wrOf r.d)]) k ⟨aput s.t o.dst r.v, aupd s.h r.d⟩) : DSoft P f c0 R ops i0 j0 y b n sl (o :: rest) fp k s := by
  rw [← wrOf_list, ← aupds_one] at h
  refine DSoft.cons (StepS.of (StepOk.op hT ho hw hr hp fun hn => ?_)) he h
  unfold freeOk at hf
  rw [if_pos hn] at hf
  split at hf
  · assumption
  · exact hf.elim
/-- The reading of the block: it answers the same, whether the other one has written or not. -/
theorem DSoft.look (hT : TabOk P T) (ho : ops[n]? = some o) (hw : Wanted ops s.t o.guard true) {r r' : ARes} (hi : n = i0) (hij : n ≠ j0) (hrd : rdOf s.t o.op = [y]) (hnn : needs s.t o.op = false) (hr : aop T sl s.t s.h o.op = some r) (hrb : aop T sl s.t (s.h.set y b) o.op = some r') (hv : r'.v = r.v) (hd : r.d = none) (hd' : r'.d = none) (hp : r.p) (hp' : r'.p) (hy : y < s.h.length)
    (h : DSoft P f c0 R ops i0 j0 y b (n + 1) sl rest (fp ++ [([], [])]) k ⟨aput s.t o.dst r.v, s.h⟩) : DSoft P f c0 R ops i0 j0 y b n sl (o :: rest) fp k s := by
  refine DSoft.cons (e := ⟨r.v, [], []⟩) ?_ (fun h => absurd h hij) h
  intro s' hl ht hh hsoft a w K Q ⟨ρ, h1, h2, h3, h4⟩ hK
  have hx := looks_op ht
  have hr' : ∃ q : ARes, aop T sl s'.t s'.h o.op = some q ∧ q.v = r.v ∧ q.d = none ∧ q.p := by
    rcases hsoft hi with hs | hs
    · refine ⟨r, (aop_local hx fun z hz => ?_).trans hr, rfl, hd, hp⟩
      rw [hrd] at hz
      simp only [List.mem_singleton] at hz
      subst hz
      exact hs
    · refine ⟨r', (aop_local hx fun z hz => ?_).trans hrb, hv, hd', hp'⟩
      rw [hrd] at hz
      simp only [List.mem_singleton] at hz
      subst hz
      rw [hs, List.getElem?_set_self hy]
  obtain ⟨q, hq, hqv, hqd, hqp⟩ := hr'
  obtain ⟨nx, v, ρ', w', q1, q2, q3, q4, q5⟩ := aop_ok (P := P) hT h1 h3 o (fun hn => by rw [needs_local hx, hnn] at hn; simp at hn) hq hqp
  rw [hqd] at q3 q4 q5
  rw [hqv] at q5
  have hrel : Rel c0 (Ent.app ⟨r.v, [], []⟩ o s') (a.put o.dst v) w' := ⟨ρ', q3, h2.trans q4, (h3.mono q4).put o.dst q5, by cases o.dst <;> exact h4⟩
  unfold wpOp
  simp only [ho]
  rw [(looks_guard ht hw).ok h3, if_pos rfl]
  refine .inl ?_
  unfold Oper.wp
  rw [q1]
  rcases q2 with rfl | ⟨rfl, rfl⟩
  · exact hK _ _ hrel
  · exact hK _ _ hrel
theorem DSoft.draw {id : Nat} {i0 j0 y : Nat} {b : ABlk} (hm : P.follows .mixedOrders = true) (hst : statOk ops = true) (h : DSoft P f c0 R ops i0 j0 y b 0 s.h.length ops.toList [] k ⟨s.t, s.h ++ places ops.toList⟩) : Run P f c0 R (.code (.region id ops true) :: k) s := by
  have hgrow : ∀ m, Wk P c0 s ⟨s.t, s.h ++ List.replicate m .free⟩ := by
    intro m
    clear h
    induction m with
    | zero => simpa using Wk.refl s
    | succ m ih =>
      refine ih.trans fun ρ w vs h1 h2 h3 => ?_
      obtain ⟨g1, g2⟩ := Cx.grow h1
      have e : s.h ++ List.replicate m ABlk.free ++ [.free] = s.h ++ List.replicate (m + 1) .free := by rw [List.replicate_succ', List.append_assoc]
      simp only [e] at g1 g2
      exact ⟨_, g1, h2.trans g2, h3.mono g2⟩
  obtain ⟨m, hm'⟩ := places_eq ops.toList
  rw [hm'] at h
  refine ⟨ARun.weak (hgrow m) ?_⟩
  obtain ⟨es, h1, h2, h3, h4, h5, h6⟩ := h.h
  exact ARun.drawS hm hst es (by simpa using h1) h2 (by simpa using h4) (by simpa using h5 (Nat.zero_le _)) (by rw [← dynP_ok]; simpa using h3) h6
end
section
variable (P : Program) (f : FuncId) (c0 : Cx) (R : AV → List ABlk → Prop) (T : TabT)
def sdone (i0 j0 y : Nat) (b : ABlk) (n : Nat) (o : Oper) (sl : Nat) (fp : List (List Nat × List Nat)) (s : AState) (K : Nat → List (List Nat × List Nat) → AState → Prop) : Prop :=
  if n = i0 then
    match aop T sl s.t s.h o.op, aop T sl s.t (s.h.set y b) o.op with
    | some r, some r' => (n ≠ j0 ∧ rdOf s.t o.op = [y] ∧ needs s.t o.op = false ∧ r'.v = r.v ∧ r.d = none ∧ r'.d = none ∧ r.p ∧ r'.p ∧ y < s.h.length) ∧ K sl (fp ++ [([], [])]) ⟨aput s.t o.dst r.v, s.h⟩
    | _, _ => False
  else match aop T sl s.t s.h o.op with
    | some r => (r.p ∧ freeOk s.t s.h sl o.op ∧ (n = j0 → r.d = some (y, b))) ∧ K (if mayNeed o.op then sl + 1 else sl) (fp ++ [(if needs s.t o.op then sl :: rdOf s.t o.op else rdOf s.t o.op, wrOf r.d)]) ⟨aput s.t o.dst r.v, aupd s.h r.d⟩
    | none => False
def sadops (ops : Array Oper) (i0 j0 y : Nat) (b : ABlk) (K : AState → Prop) : Nat → List Oper → Nat → List (List Nat × List Nat) → AState → Prop
  | n, [], _, fp, s => (dynP (masks ops.toList []) fp = true ∧ softP (masks ops.toList []) fp i0 j0 y = true ∧ j0 < n) ∧ K s
  | n, o :: rest, sl, fp, s => match o.guard with
    | none => sdone T i0 j0 y b n o sl fp s (sadops ops i0 j0 y b K (n + 1) rest)
    | some _ => False
end
section
variable {P : Program} {f : FuncId} {c0 : Cx} {R : AV → List ABlk → Prop} {T : TabT} {ops : Array Oper} {k : List Item} {s : AState}
theorem sadops_ok (hT : TabOk P T) {i0 j0 y : Nat} {b : ABlk} {K : AState → Prop} (hK : ∀ s, K s → Run P f c0 R k s) : ∀ (rest : List Oper) (n sl : Nat) (fp : List (List Nat × List Nat)) (s : AState), ops.toList.drop n = rest → sadops T ops i0 j0 y b K n rest sl fp s → DSoft P f c0 R ops i0 j0 y b n sl rest fp k s
  | [], n, sl, fp, s, _, h => by
    unfold sadops at h
    exact DSoft.nil h.1.2.2 h.1.1 h.1.2.1 (hK s h.2)
  | o :: rest, n, sl, fp, s, hd, h => by
    obtain ⟨ho, hd'⟩ := range'_cons hd
    have ih := fun sl' fp s => sadops_ok hT (i0 := i0) (j0 := j0) (y := y) (b := b) hK rest (n + 1) sl' fp s hd'
    unfold sadops at h
    split at h
    · rename_i hg
      have hw : Wanted ops s.t o.guard true := by rw [hg]; exact .free
      unfold sdone at h
      split at h
      · rename_i hn
        split at h
        · rename_i r r' hr hr'
          obtain ⟨⟨h1, h2, h3, h4, h5, h6, h7, h8, h9⟩, h10⟩ := h
          exact DSoft.look hT ho hw hn h1 h2 h3 hr hr' h4 h5 h6 h7 h8 h9 (ih _ _ _ h10)
        · exact h.elim
      · split at h
        · rename_i r hr
          obtain ⟨⟨h1, h2, h3⟩, h4⟩ := h
          exact DSoft.op hT ho hw hr h1 h2 (fun hn => by rw [h3 hn]; rfl) (ih _ _ _ h4)
        · exact h.elim
    · exact h.elim
/-- A drawn region in which operation i0 may read block y before or behind the write of b by j0. -/
theorem Run.soft (hT : TabOk P T) (hM : P.follows .mixedOrders = true) {fn : Func} (hf : P.funcs[f]? = some fn) (m i0 j0 y : Nat) (b : ABlk) {id : Nat} (hst : statOk ops = true)
    (h : sadops T ops i0 j0 y b (drun P f c0 R T fn.results.toList m k) 0 ops.toList s.h.length [] ⟨s.t, s.h ++ places ops.toList⟩) : Run P f c0 R (.code (.region id ops true) :: k) s :=
  DSoft.draw hM hst (sadops_ok hT (fun s h => ⟨drun_ok hT hM hf m k s h⟩) ops.toList 0 _ [] _ rfl h)
end
end Go.Proofs.YtgonmnjgodleeaaDoor
