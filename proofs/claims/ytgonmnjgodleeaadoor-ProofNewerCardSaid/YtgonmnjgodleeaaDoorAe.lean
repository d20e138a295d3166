/-
  The shadow of a run, reckoned: what is left to show of a run, as a statement that simp unfolds. Nothing here speaks of the program.
-/
import Derived.Test.YtgonmnjgodleeaaDoorAc
namespace Go.Proofs.YtgonmnjgodleeaaDoor
open Go.RowKit
/-- ARun, so that no tactic opens it by itself. -/
structure Run (P : Program) (f : FuncId) (c0 : Cx) (R : AV → List ABlk → Prop) (k : List Item) (s : AState) : Prop where
  h : ARun P f c0 R k s
structure Ops (P : Program) (f : FuncId) (c0 : Cx) (R : AV → List ABlk → Prop) (ops : Array Oper) (n : Nat) (rest : List Oper) (k : List Item) (s : AState) : Prop where
  h : AOps P f c0 R ops n rest k s
structure Weak (P : Program) (c0 : Cx) (s s' : AState) : Prop where
  h : Wk P c0 s s'
/-- This one or that. -/
def alt (g : Bool) (A B : Prop) : Prop := (g = true → A) ∧ (g = false → B)
theorem alt_t {g : Bool} (h : g = true) (A B : Prop) : alt g A B = A := by subst h; simp [alt]
theorem alt_f {g : Bool} (h : g = false) (A B : Prop) : alt g A B = B := by subst h; simp [alt]
/-- The two ways of a test, the test's answer laid into its place. -/
def alts (t : List AV) (d : Nat) (g : Bool) (F : Bool → List AV → Prop) : Prop := (g = true → F true (t.set d (.bool true))) ∧ (g = false → F false (t.set d (.bool false)))
theorem set_same {t : List AV} {d : Nat} {v : AV} (h : t[d]? = some v) : t.set d v = t := by
  obtain ⟨h1, rfl⟩ := List.getElem?_eq_some_iff.1 h
  exact List.set_getElem_self h1
theorem alts_t {t : List AV} {d : Nat} {g : Bool} {F : Bool → List AV → Prop} (h : g = true) : alts t d g F = F true (t.set d (.bool true)) := by
  subst h
  simp [alts]
theorem alts_f {t : List AV} {d : Nat} {g : Bool} {F : Bool → List AV → Prop} (h : g = false) : alts t d g F = F false (t.set d (.bool false)) := by
  subst h
  simp [alts]
theorem alts_at {t : List AV} {d : Nat} {g : Bool} {F : Bool → List AV → Prop} (h : alts t d g F) (ht : t[d]? = some (.bool g)) : F g t := by
  cases g with
  | true => have := h.1 rfl; rwa [set_same ht] at this
  | false => have := h.2 rfl; rwa [set_same ht] at this
def gslot (ops : Array Oper) (j : Nat) : Option Nat := (ops[j]?).bind (·.dst)
theorem gval_of {ops : Array Oper} {t : List AV} {j d : Nat} {v : AV} (h : gslot ops j = some d) (ht : t[d]? = some v) : gval ops t j = some v := by
  unfold gslot at h
  unfold gval
  rw [h]; exact ht
/-- One operation. -/
def aone (T : TabT) (o : Oper) (s : AState) (K : AState → Prop) (stop : Prop) : Prop :=
  match aop T s.h.length s.t (ext s.t s.h o.op) o.op with
  | some r => r.p ∧ K ⟨aput s.t o.dst r.v, aupd (ext s.t s.h o.op) r.d⟩
  | none => stop
section
variable (P : Program) (f : FuncId) (c0 : Cx) (R : AV → List ABlk → Prop) (T : TabT) (rs : List ResultVar)
def gone (ops : Array Oper) (n : Nat) (o : Oper) (rest : List Oper) (k : List Item) (want : Bool) (h : List ABlk) (K : AState → Prop) (b : Bool) (t : List AV) : Prop :=
  if b = want then aone T o ⟨t, h⟩ K (Ops P f c0 R ops n (o :: rest) k ⟨t, h⟩) else K ⟨aput t o.dst (.tup []), h⟩
def aops (ops : Array Oper) (k : List Item) (K : AState → Prop) : Nat → List Oper → AState → Prop
  | _, [], s => K s
  | n, o :: rest, s =>
    match o.guard with
    | none => aone T o s (aops ops k K (n + 1) rest) (Ops P f c0 R ops n (o :: rest) k s)
    | some (j, want) => match gslot ops j with
      | none => False
      | some d => match s.t[d]? with
        | some (.bool g) => alts s.t d g (gone P f c0 R T ops n o rest k want s.h (aops ops k K (n + 1) rest))
        | some (.tup []) => aops ops k K (n + 1) rest ⟨aput s.t o.dst (.tup []), s.h⟩
        | _ => False
def afin (s : AState) : Prop := match ares T s rs with | some r => aresOk T s rs ∧ R r s.h | none => False
def arun : Nat → List Item → AState → Prop
  | 0, k, s => Run P f c0 R k s
  | _ + 1, [], s => afin R T rs s
  | n + 1, .code (.seq a b) :: k, s => arun n (.code a :: .code b :: k) s
  | n + 1, .code .skip :: k, s => arun n k s
  | n + 1, .code (.label _) :: k, s => arun n k s
  | n + 1, .code (.block id c) :: k, s => arun n (.code c :: .inBlock id :: k) s
  | n + 1, .code (.scope c) :: k, s => arun n (.code c :: .inScope c :: k) s
  | n + 1, .inBlock _ :: k, s => arun n k s
  | n + 1, .inScope _ :: k, s => arun n k s
  | n + 1, .code (.exit id) :: k, s => match exitTo id k with | some k' => arun n k' s | none => False
  | n + 1, .code (.goto l) :: k, s => match gotoIn l k with | some k' => arun n k' s | none => False
  | n + 1, .code (.cond c x y) :: k, s => match aev s.t c with
    | .bool b => alt b (arun n (.code x :: k) s) (arun n (.code y :: k) s)
    | _ => False
  | n + 1, .code (.region _ ops false) :: k, s => aops P f c0 R T ops k (arun n k) 0 ops.toList s
  | _ + 1, .code .ret :: _, s => afin R T rs s
  | _ + 1, k, s => Run P f c0 R k s
end
section
variable {P : Program} {f : FuncId} {c0 : Cx} {R : AV → List ABlk → Prop} {T : TabT} {ops : Array Oper} {n : Nat} {o : Oper} {rest : List Oper} {k : List Item} {h : List ABlk} {K : AState → Prop} {t : List AV}
theorem gone_tt : gone P f c0 R T ops n o rest k true h K true t = aone T o ⟨t, h⟩ K (Ops P f c0 R ops n (o :: rest) k ⟨t, h⟩) := rfl
theorem gone_ff : gone P f c0 R T ops n o rest k false h K false t = aone T o ⟨t, h⟩ K (Ops P f c0 R ops n (o :: rest) k ⟨t, h⟩) := rfl
theorem gone_tf : gone P f c0 R T ops n o rest k true h K false t = K ⟨aput t o.dst (.tup []), h⟩ := by unfold gone; exact if_neg (by decide)
theorem gone_ft : gone P f c0 R T ops n o rest k false h K true t = K ⟨aput t o.dst (.tup []), h⟩ := by unfold gone; exact if_neg (by decide)
end
section
variable {P : Program} {f : FuncId} {c0 : Cx} {R : AV → List ABlk → Prop} {T : TabT}
theorem aone_ok (hT : TabOk P T) {ops : Array Oper} {n : Nat} {o : Oper} {rest : List Oper} {k : List Item} {s : AState} {K : AState → Prop} (hw : Wanted ops s.t o.guard true)
    (hK : ∀ s, K s → AOps P f c0 R ops (n + 1) rest k s) (h : aone T o s K (Ops P f c0 R ops n (o :: rest) k s)) : AOps P f c0 R ops n (o :: rest) k s := by
  unfold aone at h
  split at h
  · rename_i r hr; exact AOps.op hT hw hr h.1 (hK _ h.2)
  · exact h.h
theorem aops_ok (hT : TabOk P T) {ops : Array Oper} {k : List Item} {K : AState → Prop} (hK : ∀ s, K s → ARun P f c0 R k s) : ∀ (rest : List Oper) (n : Nat) (s : AState), aops P f c0 R T ops k K n rest s → AOps P f c0 R ops n rest k s
  | [], n, s, h => AOps.nil (hK s h)
  | o :: rest, n, s, h => by
    have ih := fun s => aops_ok (ops := ops) hT hK rest (n + 1) s
    unfold aops at h
    split at h
    · rename_i hg
      exact aone_ok hT (by rw [hg]; exact .free) ih h
    · rename_i j want hg
      split at h
      · exact h.elim
      · rename_i d hd
        split at h
        · rename_i g hgd
          have hgv := gval_of hd hgd
          have h := alts_at h hgd
          unfold gone at h
          split at h
          · rename_i hb
            exact aone_ok hT (by rw [hg, show true = (g == want) by rw [hb]; simp]; exact .test j want g hgv) ih h
          · rename_i hb
            exact AOps.skip (by rw [hg, show false = (g == want) by simpa using hb]; exact .test j want g hgv) (ih _ h)
        · rename_i hgd
          exact AOps.skip (by rw [hg]; exact .undef j want (gval_of hd hgd)) (ih _ h)
        · exact h.elim
theorem arun_ok (hT : TabOk P T) {fn : Func} (hf : P.funcs[f]? = some fn) : ∀ (n : Nat) (k : List Item) (s : AState), arun P f c0 R T fn.results.toList n k s → ARun P f c0 R k s := by
  have hfin : ∀ s, afin R T fn.results.toList s → ∃ r, ares T s fn.results.toList = some r ∧ aresOk T s fn.results.toList ∧ R r s.h := by
    intro s h
    unfold afin at h
    split at h
    · rename_i r hr; exact ⟨r, hr, h.1, h.2⟩
    · exact h.elim
  intro n
  induction n with
  | zero => intro k s h; unfold arun at h; exact h.h
  | succ n ih =>
    intro k s h
    unfold arun at h
    split at h
    · omega
    · obtain ⟨r, h1, h2, h3⟩ := hfin _ h; exact ARun.fin hT hf h1 h2 h3
    · rename_i e; cases e; exact ARun.seq (ih _ _ h)
    · rename_i e; cases e; exact ARun.skip (ih _ _ h)
    · rename_i e; cases e; exact ARun.label (ih _ _ h)
    · rename_i e; cases e; exact ARun.block (ih _ _ h)
    · rename_i e; cases e; exact ARun.scope (ih _ _ h)
    · rename_i e; cases e; exact ARun.inBlock (ih _ _ h)
    · rename_i e; cases e; exact ARun.inScope (ih _ _ h)
    · rename_i e; cases e
      split at h
      · rename_i k' he; exact ARun.exit he (ih _ _ h)
      · exact h.elim
    · rename_i e; cases e
      split at h
      · rename_i k' he; exact ARun.goto he (ih _ _ h)
      · exact h.elim
    · rename_i e; cases e
      split at h
      · rename_i b hb; exact ARun.cond hb (fun hb => ih _ _ (h.1 hb)) (fun hb => ih _ _ (h.2 hb))
      · exact h.elim
    · rename_i e; cases e; exact ARun.region (aops_ok hT (fun s h => ih _ _ h) _ 0 _ h)
    · obtain ⟨r, h1, h2, h3⟩ := hfin _ h; exact ARun.ret hT hf h1 h2 h3
    · exact h.h
theorem Run.go (hT : TabOk P T) {fn : Func} (hf : P.funcs[f]? = some fn) (n : Nat) {k : List Item} {s : AState} (h : arun P f c0 R T fn.results.toList n k s) : Run P f c0 R k s := ⟨arun_ok hT hf n k s h⟩
end
end Go.Proofs.YtgonmnjgodleeaaDoor
