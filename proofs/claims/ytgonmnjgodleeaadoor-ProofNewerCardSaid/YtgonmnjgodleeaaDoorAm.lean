/-
  The shadow of a run: how it goes on, construct by construct, to the function's return. Nothing here speaks of the program.
-/
import Derived.Test.YtgonmnjgodleeaaDoorAk
import Derived.Scope
import Derived.Orders
namespace Go.Proofs.YtgonmnjgodleeaaDoor
open Go.RowKit
/-- From here the run goes on to a return. -/
def Goes (P : Program) (f : FuncId) (R : Value → World → Prop) (k : List Item) (a : Act) (w : World) : Prop :=
  ∀ (b : Frame) (cs : List Frame), b.fn = f → b.kind = .normal → ∃ v w' fr, R v w' ∧ Steps P (lone (b.at a k) cs w) (lone fr cs w') ∧ fr.fn = f ∧ fr.leaving P w' (.returned v)
section
variable {P : Program} {f : FuncId} {R : Value → World → Prop} {k k' : List Item} {a a' : Act} {w w' : World}
theorem Goes.step (h : Goes P f R k' a' w') (hs : ∀ (b : Frame) (cs : List Frame), b.fn = f → step P (lone (b.at a k) cs w) = .next (lone (b.at a' k') cs w')) : Goes P f R k a w := fun b cs hb hk => by
  obtain ⟨v, w1, fr, h1, h2, h3⟩ := h b cs hb hk
  exact ⟨v, w1, fr, h1, .head (hs b cs hb) h2, h3⟩
theorem Goes.of_wp {c : Code} (h : c.wp P (fun e a' w' => e = .normal ∧ Goes P f R k a' w') a w) : Goes P f R (.code c :: k) a w := fun b cs hb hk => by
  obtain ⟨e, a', w', ⟨rfl, hg⟩, harr⟩ := h b k cs
  obtain ⟨v, w1, fr, h1, h2, h3⟩ := hg b cs hb hk
  exact ⟨v, w1, fr, h1, Steps.trans harr h2, h3⟩
end
/-- The run, told by its shadow: from a state that reads as s it goes on to a return that reads as R says; c0: where the function's run began. -/
def ARun (P : Program) (f : FuncId) (c0 : Cx) (R : AV → List ABlk → Prop) (k : List Item) (s : AState) : Prop :=
  ∀ ρ w a, RelH ⟨ρ, s.h, w, c0.X⟩ → Ev c0 ⟨ρ, s.h, w, c0.X⟩ → TRel ⟨ρ, s.h, w, c0.X⟩ a.tmps s.t → a.defers = [] →
    Goes P f (fun v w' => ∃ ρ' r h', RelH ⟨ρ', h', w', c0.X⟩ ∧ Ev c0 ⟨ρ', h', w', c0.X⟩ ∧ RV ⟨ρ', h', w', c0.X⟩ v r ∧ R r h') k a w
/-- A call, told by its shadow. -/
def ACall (P : Program) (f : FuncId) (args : List AV) (h : List ABlk) (R : AV → List ABlk → Prop) : Prop :=
  ∀ (c : Cx) (vs : Array Value), c.h = h → RelH c → TRel c vs args →
    Calls P f vs c.w fun e w' => ∃ v ρ' r h', e = .returned v ∧ RelH ⟨ρ', h', w', c.X⟩ ∧ Ev c ⟨ρ', h', w', c.X⟩ ∧ RV ⟨ρ', h', w', c.X⟩ v r ∧ R r h'
theorem ACall.mono {P : Program} {f : FuncId} {args : List AV} {h : List ABlk} {R R' : AV → List ABlk → Prop} (H : ACall P f args h R) (hR : ∀ r h', R r h' → R' r h') : ACall P f args h R' := fun c vs hc hr ht =>
  (H c vs hc hr ht).mono fun _ _ ⟨v, ρ', r, h', h1, h2, h3, h4, h5⟩ => ⟨v, ρ', r, h', h1, h2, h3, h4, hR _ _ h5⟩
section
variable {P : Program} {T : TabT} {f : FuncId} {c0 : Cx} {R : AV → List ABlk → Prop} {k k' : List Item} {s : AState}
theorem ARun.seq {x y : Code} (h : ARun P f c0 R (.code x :: .code y :: k) s) : ARun P f c0 R (.code (.seq x y) :: k) s := fun ρ w a h1 h2 h3 h4 => (h ρ w a h1 h2 h3 h4).step fun _ _ _ => step_seq
theorem ARun.skip (h : ARun P f c0 R k s) : ARun P f c0 R (.code .skip :: k) s := fun ρ w a h1 h2 h3 h4 => (h ρ w a h1 h2 h3 h4).step fun _ _ _ => step_skip
theorem ARun.label {l : Nat} (h : ARun P f c0 R k s) : ARun P f c0 R (.code (.label l) :: k) s := fun ρ w a h1 h2 h3 h4 => (h ρ w a h1 h2 h3 h4).step fun _ _ _ => step_label
theorem ARun.inBlock {id : Nat} (h : ARun P f c0 R k s) : ARun P f c0 R (.inBlock id :: k) s := fun ρ w a h1 h2 h3 h4 => (h ρ w a h1 h2 h3 h4).step fun _ _ _ => step_inBlock
theorem ARun.block {id : Nat} {c : Code} (h : ARun P f c0 R (.code c :: .inBlock id :: k) s) : ARun P f c0 R (.code (.block id c) :: k) s := fun ρ w a h1 h2 h3 h4 => (h ρ w a h1 h2 h3 h4).step fun _ _ _ => step_block
theorem ARun.scope {c : Code} (h : ARun P f c0 R (.code c :: .inScope c :: k) s) : ARun P f c0 R (.code (.scope c) :: k) s := fun ρ w a h1 h2 h3 h4 => (h ρ w a h1 h2 h3 h4).step fun _ _ _ => step_scope
theorem ARun.inScope {c : Code} (h : ARun P f c0 R k s) : ARun P f c0 R (.inScope c :: k) s := fun ρ w a h1 h2 h3 h4 => (h ρ w a h1 h2 h3 h4).step fun _ _ _ => step_inScope
theorem ARun.exit {id : Nat} (he : exitTo id k = some k') (h : ARun P f c0 R k' s) : ARun P f c0 R (.code (.exit id) :: k) s := fun ρ w a h1 h2 h3 h4 => (h ρ w a h1 h2 h3 h4).step fun _ _ _ => step_exit he
theorem ARun.goto {l : Nat} (he : gotoIn l k = some k') (h : ARun P f c0 R k' s) : ARun P f c0 R (.code (.goto l) :: k) s := fun ρ w a h1 h2 h3 h4 => (h ρ w a h1 h2 h3 h4).step fun _ _ _ => step_goto he
theorem ARun.loop1 {c : Code} (h : ARun P f c0 R (.code c :: .inLoop c :: k) s) : ARun P f c0 R (.code (.loop c) :: k) s := fun ρ w a h1 h2 h3 h4 => (h ρ w a h1 h2 h3 h4).step fun _ _ _ => step_loop
theorem ARun.inLoop {c : Code} (h : ARun P f c0 R (.code c :: .inLoop c :: k) s) : ARun P f c0 R (.inLoop c :: k) s := fun ρ w a h1 h2 h3 h4 => (h ρ w a h1 h2 h3 h4).step fun _ _ _ => step_inLoop
theorem ARun.cond {x y : Code} {c : Operand} {b : Bool} (hc : aev s.t c = .bool b) (ht : b = true → ARun P f c0 R (.code x :: k) s) (hf : b = false → ARun P f c0 R (.code y :: k) s) : ARun P f c0 R (.code (.cond c x y) :: k) s := fun ρ w a h1 h2 h3 h4 => by
  have hv := h3.ev c
  rw [hc] at hv
  have hev : a.eval c = .bool b := by revert hv; generalize a.eval c = v; intro h; cases h; rfl
  cases b with
  | true => exact (ht rfl ρ w a h1 h2 h3 h4).step fun _ _ _ => step_cond hev
  | false => exact (hf rfl ρ w a h1 h2 h3 h4).step fun _ _ _ => step_cond hev
def resF (tmps : Array Value) : ResultVar → Sem Value
  | .tmp t => pure (tmps.getD t undef)
  | .cell b t => do loadVar t (← asAddr (tmps.getD b undef))
theorem results_resF (fn : Func) (tmps : Array Value) : results fn tmps = (do let vs ← fn.results.mapM (resF tmps); pure (if h : vs.size = 1 then vs[0] else .tuple vs)) := by
  unfold results
  congr 2
/-- The results, out of the state. -/
def ares1 (T : TabT) (s : AState) : ResultVar → Option AV
  | .tmp t => some (s.t.getD t .junk)
  | .cell a t => (T t).bind fun ti => match aload s.h ti (s.t.getD a .junk) with
    | some r => some r.v
    | none => none
def aresL (T : TabT) (s : AState) : List ResultVar → Option (List AV)
  | [] => some []
  | x :: xs => (ares1 T s x).bind fun v => (aresL T s xs).map fun vs => v :: vs
def aresOk1 (T : TabT) (s : AState) : ResultVar → Prop
  | .tmp _ => True
  | .cell a t => match T t with
    | some ti => match aload s.h ti (s.t.getD a .junk) with
      | some r => r.p
      | none => True
    | none => True
def aresOk (T : TabT) (s : AState) : List ResultVar → Prop
  | [] => True
  | x :: xs => aresOk1 T s x ∧ aresOk T s xs
def ares (T : TabT) (s : AState) (rs : List ResultVar) : Option AV := (aresL T s rs).map fun vs => match vs with | [v] => v | vs => .tup vs
theorem ares1_ok (hT : TabOk P T) {ρ : Nat → Option Nat} {w : World} {a : Act} (h1 : RelH ⟨ρ, s.h, w, c0.X⟩) (h3 : TRel ⟨ρ, s.h, w, c0.X⟩ a.tmps s.t) {x : ResultVar} {r : AV} (hr : ares1 T s x = some r) (hp : aresOk1 T s x) :
    ∃ v, (resF a.tmps x).run P w = .ok v w ∧ RV ⟨ρ, s.h, w, c0.X⟩ v r := by
  cases x with
  | tmp t =>
    simp only [ares1, Option.some.injEq] at hr
    subst hr
    exact ⟨_, rfl, h3.ev (.tmp t)⟩
  | cell b t =>
    simp only [ares1, Option.bind_eq_some_iff] at hr
    obtain ⟨ti, hti, hr⟩ := hr
    split at hr
    · rename_i q hq
      cases hr
      have hpq : q.p := by
        simp only [aresOk1, hti, hq] at hp
        exact hp
      obtain ⟨_, u, g1, g2⟩ := aload_ok (P := P) h1 (hT _ _ hti) (h3.ev (.tmp b)) hq hpq
      refine ⟨u, ?_, g2⟩
      simp only [Act.eval] at g1
      obtain ⟨v, hv⟩ : ∃ v, v = a.tmps.getD b undef := ⟨_, rfl⟩
      simp only [resF, ← hv] at g1 ⊢
      cases v with
      | pointer p =>
        cases p with
        | none => simp [Instr.loadAt, Instr.sureAddr, stuck, Sem.run] at g1
        | some ad => simpa [Instr.loadAt, Instr.sureAddr, asAddr] using g1
      | _ => simp [Instr.loadAt, Instr.sureAddr, stuck, Sem.run] at g1
    · cases hr
theorem aresL_ok (hT : TabOk P T) {ρ : Nat → Option Nat} {w : World} {a : Act} (h1 : RelH ⟨ρ, s.h, w, c0.X⟩) (h3 : TRel ⟨ρ, s.h, w, c0.X⟩ a.tmps s.t) : ∀ {xs : List ResultVar} {r : List AV}, aresL T s xs = some r → aresOk T s xs →
    ∃ vs : List Value, (xs.mapM (resF a.tmps)).run P w = .ok vs w ∧ vs.length = r.length ∧ ∀ (i : Nat) v x, vs[i]? = some v → r[i]? = some x → RV ⟨ρ, s.h, w, c0.X⟩ v x
  | [], r, hr, _ => by
    simp only [aresL, Option.some.injEq] at hr
    subst hr
    exact ⟨[], by simp, rfl, fun i v x h => by simp at h⟩
  | x :: xs, r, hr, hp => by
    simp only [aresL, Option.bind_eq_some_iff, Option.map_eq_some_iff] at hr
    obtain ⟨v, hv, vs, hvs, rfl⟩ := hr
    obtain ⟨u, g1, g2⟩ := ares1_ok hT h1 h3 hv hp.1
    obtain ⟨us, q1, q2, q3⟩ := aresL_ok hT h1 h3 hvs hp.2
    refine ⟨u :: us, ?_, by simp [q2], fun i v' x' hv' hx' => ?_⟩
    · simp only [List.mapM_cons, Sem.run_bind, g1, Result.andThen_ok, q1, Sem.run_pure]
    · cases i with
      | zero => simp at hv' hx'; subst hv' hx'; exact g2
      | succ i => exact q3 i v' x' (by simpa using hv') (by simpa using hx')
theorem ares_ok (hT : TabOk P T) {ρ : Nat → Option Nat} {w : World} {a : Act} (h1 : RelH ⟨ρ, s.h, w, c0.X⟩) (h3 : TRel ⟨ρ, s.h, w, c0.X⟩ a.tmps s.t) {fn : Func} {r : AV} (hr : ares T s fn.results.toList = some r) (hp : aresOk T s fn.results.toList) :
    ∃ v, (results fn a.tmps).run P w = .ok v w ∧ RV ⟨ρ, s.h, w, c0.X⟩ v r := by
  simp only [ares, Option.map_eq_some_iff] at hr
  obtain ⟨rs, hrs, rfl⟩ := hr
  obtain ⟨vs, g1, g2, g3⟩ := aresL_ok hT h1 h3 hrs hp
  have hm : (results fn a.tmps).run P w = .ok (if h : vs.toArray.size = 1 then vs.toArray[0] else .tuple vs.toArray) w := by
    rw [results_resF, Array.mapM_eq_mapM_toList]
    simp only [Sem.run_bind, Sem.run_map, g1, Result.andThen_ok, Sem.run_pure]
  refine ⟨_, hm, ?_⟩
  clear hm g1 hrs
  match vs, rs, g2, g3 with
  | [v], [x], _, g3 => exact g3 0 v x rfl rfl
  | [], [], _, _ => exact .tup _ _ rfl (fun i v x h => by simp at h)
  | u :: u2 :: us, x :: x2 :: xs, g2, g3 =>
    rw [dif_neg (by simp)]
    exact .tup _ _ (by simpa using g2) (fun i v x hv hx => g3 i v x (by simpa using hv) hx)
/-- The return. -/
theorem ARun.ret (hT : TabOk P T) {fn : Func} (hf : P.funcs[f]? = some fn) {r : AV} (hr : ares T s fn.results.toList = some r) (hp : aresOk T s fn.results.toList) (h : R r s.h) : ARun P f c0 R (.code .ret :: k) s := fun ρ w a h1 h2 h3 h4 b cs hb hk => by
  obtain ⟨v, g1, g2⟩ := ares_ok hT h1 h3 hr hp
  exact ⟨v, w, _, ⟨ρ, r, s.h, h1, h2, g2, h⟩, .one step_ret, hb, rfl, h4, hk, fn, by rw [← hb] at hf; exact hf, g1⟩
theorem ARun.fin (hT : TabOk P T) {fn : Func} (hf : P.funcs[f]? = some fn) {r : AV} (hr : ares T s fn.results.toList = some r) (hp : aresOk T s fn.results.toList) (h : R r s.h) : ARun P f c0 R [] s := fun ρ w a h1 h2 h3 h4 b cs hb hk => by
  obtain ⟨v, g1, g2⟩ := ares_ok hT h1 h3 hr hp
  exact ⟨v, w, _, ⟨ρ, r, s.h, h1, h2, g2, h⟩, .one step_end, hb, rfl, h4, hk, fn, by rw [← hb] at hf; exact hf, g1⟩
/-- A function's call, by its body. -/
theorem ACall.body {fn : Func} {c : Code} {args : List AV} {h : List ABlk} (hf : P.funcs[f]? = some fn) (hb : fn.body = some c)
    (H : ∀ c0 : Cx, c0.h = h → ARun P f c0 R [.code c] ⟨args ++ List.replicate (fn.ntmps - args.length) .junk, h⟩) : ACall P f args h R := by
  intro c0 vs hc hr ht cs
  subst hc
  let b : Frame := { (default : Frame) with fn := f, kind := .normal }
  have henter : Frame.enter P f vs .normal = b.at { tmps := vs ++ Array.replicate (fn.ntmps - vs.size) undef, defers := [] } [.code c] := by
    simp [Frame.enter, Frame.at, hf, hb, b]
  have htr : TRel c0 (vs ++ Array.replicate (fn.ntmps - vs.size) undef) (args ++ List.replicate (fn.ntmps - args.length) .junk) := by
    refine ⟨by simp [ht.1], fun i v x hv hx => ?_⟩
    by_cases hi : i < args.length
    · rw [List.getElem?_append_left hi] at hx
      rw [Array.getElem?_append_left (by rw [ht.1]; exact hi)] at hv
      exact ht.2 i v x hv hx
    · rw [List.getElem?_append_right (by omega), List.getElem?_replicate] at hx
      split at hx
      · cases hx; exact .junk _
      · cases hx
  obtain ⟨v, w', fr, ⟨ρ', r, h', g1, g2, g3, g4⟩, hs, hfn, hl⟩ := H c0 rfl c0.ρ c0.w ⟨vs ++ Array.replicate (fn.ntmps - vs.size) undef, []⟩ hr (Ev.refl c0) htr rfl b cs rfl rfl
  rw [← henter] at hs
  exact ⟨.returned v, w', fr, ⟨v, ρ', r, h', rfl, g1, g2, g3, g4⟩, hs, hfn, hl⟩
end
end Go.Proofs.YtgonmnjgodleeaaDoor
