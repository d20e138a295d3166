/-
  The shadow of a run: all simple operations together: what one is said to do, it does. Nothing here speaks of the program.
-/
import Derived.Test.YtgonmnjgodleeaaDoorAn
import Derived.Test.YtgonmnjgodleeaaDoorBa
namespace Go.Proofs.YtgonmnjgodleeaaDoor
open Go.RowKit
section
variable {P : Program} {T : TabT} {c : Cx}
theorem OpOk.of {s : Sem Next} {r : ARes} {q : Value} {ρ' : Nat → Option Nat} {w' : World} (hs : s.run P c.w = .ok (.value q) w') (h1 : RelH ⟨ρ', aupd c.h r.d, w', c.X⟩) (h2 : Ev c ⟨ρ', aupd c.h r.d, w', c.X⟩) (h3 : RV ⟨ρ', aupd c.h r.d, w', c.X⟩ q r.v) : OpOk P c s r :=
  ⟨_, q, ρ', w', hs, .inl rfl, h1, h2, h3⟩
theorem aop_ok (hT : TabOk P T) (hc : RelH c) {a : Act} {t : List AV} (ht : TRel c a.tmps t) (o : Oper) {slot : Nat} (hs : needs t o.op = true → c.h[slot]? = some .free) {r : ARes} (hr : aop T slot t c.h o.op = some r) (hp : r.p) :
    OpOk P c (execOp a.eval o) r := by
  obtain ⟨dst, op, ty, pos, after, guard⟩ := o
  simp only at hs hr
  have hopt : ∀ (q : Option Operand) b, q.map (aev t) = some b → ∃ u, q.map a.eval = some u ∧ RV c u b := by
    intro q b hq
    simp only [Option.map_eq_some_iff] at hq
    obtain ⟨z, rfl, rfl⟩ := hq
    exact ⟨_, rfl, ht.ev z⟩
  have hnon : ∀ (q : Option Operand), q.map (aev t) = none → q.map a.eval = none := by
    intro q hq
    simp only [Option.map_eq_none_iff] at hq
    subst hq; rfl
  unfold aop at hr
  split at hr
  · cases hr; exact .pure hc (by simp [execOp]) (ht.ev _) rfl
  · cases hr; exact .pure hc (by simp [execOp]) (ht.ev _) rfl
  · rename_i cc x y
    have hcv := ht.ev cc
    split at hr
    · rename_i hb
      rw [hb] at hcv
      cases hr
      have hb' : a.eval cc = .bool true := by revert hcv; generalize a.eval cc = v; intro h; cases h; rfl
      exact .pure hc (by simp [execOp, hb', asBool]) (ht.ev x) rfl
    · rename_i hb
      rw [hb] at hcv
      cases hr
      have hb' : a.eval cc = .bool false := by revert hcv; generalize a.eval cc = v; intro h; cases h; rfl
      exact .pure hc (by simp [execOp, hb', asBool]) (ht.ev y) rfl
    · cases hr
  · rename_i e x
    split at hr
    · rename_i hw
      cases hr
      obtain ⟨q1, q2⟩ := (ht.ev x).cells hw
      obtain ⟨h1, h2, h3⟩ := new_ok hc (hs rfl) (aev t x).cells (a.eval x).cells e q1 q2
      exact .of (by simp [execOp, Instr.box, newVar, newRow]) h1 h2 h3
    · cases hr
  · rename_i e
    simp only [Option.map_eq_some_iff] at hr
    obtain ⟨ti, hti, rfl⟩ := hr
    obtain ⟨i, z, g1, g2, g3, g4, g5, g6⟩ := (hT _ _ hti).info
    obtain ⟨h1, h2, h3⟩ := new_ok hc (hs rfl) ti.zero z.cells e g5 (fun j v x hv hx => ⟨AV.plain_cell (g6 j v x hv hx).1, (g6 j v x hv hx).2 c⟩)
    exact .of (by simp [execOp, Instr.alloc, zeroValue, typeInfo, g1, g4, newVar, newRow]) h1 h2 h3
  · simp only [Option.bind_eq_some_iff] at hr
    obtain ⟨ti, hti, hr⟩ := hr
    obtain ⟨h1, u, h2, h3⟩ := aload_ok hc (hT _ _ hti) (ht.ev _) hr hp
    exact .pure hc (by simp [execOp, Sem.run_bind, h2]) h3 h1
  · simp only [Option.bind_eq_some_iff] at hr
    obtain ⟨ti, hti, hr⟩ := hr
    obtain ⟨ρ', w', h1, h2, h3⟩ := astore_ok hc (hT _ _ hti) (ht.ev _) (ht.ev _) hr hp
    refine ⟨.skip, undef, ρ', w', by simp [execOp, Sem.run_bind, h1], .inr ⟨rfl, rfl⟩, h2, h3, ?_⟩
    have : r.v = .junk := by
      unfold astore at hr
      split at hr <;> first | (cases hr; done) | skip
      all_goals (split at hr <;> first | (cases hr; done) | (cases hr; rfl))
    rw [this]; exact .junk _
  · simp only [Option.bind_eq_some_iff] at hr
    obtain ⟨ti, hti, hr⟩ := hr
    split at hr
    · rename_i hst
      obtain ⟨h1, u, h2, h3⟩ := afieldAddr_ok (hT _ _ hti) (ht.ev _) hr hst
      exact .pure hc (by simp [execOp, Sem.run_bind, h2]) h3 h1
    · cases hr
  · simp only [Option.bind_eq_some_iff] at hr
    obtain ⟨ti, hti, hr⟩ := hr
    obtain ⟨h1, u, h2, h3⟩ := aindexAddr_ok hT (hT _ _ hti) (ht.ev _) (ht.ev _) hr hp
    exact .pure hc (by simp [execOp, Sem.run_bind, h2]) h3 h1
  · simp only [Option.bind_eq_some_iff] at hr
    obtain ⟨ti, hti, hr⟩ := hr
    obtain ⟨h1, u, h2, h3⟩ := afield_ok hT (hT _ _ hti) (ht.ev _) hr hp
    exact .pure hc (by simp [execOp, Sem.run_bind, h2]) h3 h1
  · simp only [Option.bind_eq_some_iff] at hr
    obtain ⟨ti, hti, hr⟩ := hr
    obtain ⟨h1, u, h2, h3⟩ := aindex_ok hT (hT _ _ hti) (ht.ev _) (ht.ev _) hr hp
    exact .pure hc (by simp [execOp, Sem.run_bind, h2]) h3 h1
  · rename_i op e x y u
    simp only [Option.bind_eq_some_iff] at hr
    obtain ⟨ti, hti, hr⟩ := hr
    obtain ⟨h1, u, h2, h3⟩ := abin_ok (hT _ _ hti) (ht.ev x) (ht.ev y) hr hp
    refine .pure hc ?_ h3 h1
    simp only [Sem.run_bind] at h2
    simp only [execOp, Sem.run_bind]
    cases hg : (eqGuard op e x y (a.eval x) (a.eval y)).run P c.w with
    | ok u1 w1 => rw [hg] at h2; simp only [Result.andThen_ok] at h2 ⊢; rw [h2]; rfl
    | halt q w1 => rw [hg] at h2; cases h2
  · rename_i e x
    have hcv := ht.ev x
    split at hr
    · rename_i b hb
      rw [hb] at hcv
      cases hr
      have hb' : a.eval x = .bool b := by revert hcv; generalize a.eval x = v; intro h; cases h; rfl
      exact .pure hc (by simp [execOp, Op.unary, hb']) (.bool _) rfl
    · cases hr
  · rename_i e x
    have hcv := ht.ev x
    split at hr
    · rename_i n hb
      rw [hb] at hcv
      cases hr
      have hb' : a.eval x = .int .i64 n := hcv.ints
      have hi : IntKind.i64.wrap (-n) = -n := IntWalk.i64_in _ hp
      exact .pure hc (v := .int .i64 (-n)) (by simp [execOp, Op.unary, hb', Op.intArith, hi]) (.int _ _) rfl
    · cases hr
  · rename_i s d x
    simp only [Option.bind_eq_some_iff] at hr
    obtain ⟨si, hsi, di, hdi, hr⟩ := hr
    obtain ⟨h1, u, w', h2, h3, h4, h5⟩ := aconv_ok hT hc (hT _ _ hsi) (hT _ _ hdi) (ht.ev x) hr hp
    exact .of (q := u) (w' := w') (by simp [execOp, Sem.run_bind, h2]) (by rw [h1]; exact h3) (by rw [h1]; exact h4) (by rw [h1]; exact h5)
  · rename_i e x lo hi
    simp only [Option.bind_eq_some_iff] at hr
    obtain ⟨ti, hti, hr⟩ := hr
    obtain ⟨h1, u, h2, h3⟩ := aslice_ok (mx := none) hT (hT _ _ hti) (ht.ev x) (hopt lo) (hnon lo) (hopt hi) (hnon hi) (fun _ => rfl) hr hp
    exact .pure hc (by simp [execOp, Sem.run_bind, h2]) h3 h1
  · rename_i e x lo hi mx
    simp only [Option.bind_eq_some_iff] at hr
    obtain ⟨ti, hti, hr⟩ := hr
    obtain ⟨q, w', h1, ρ', h2, h3, h4⟩ := aslice3_ok hT hc (hs rfl) (hT _ _ hti) (ht.ev x) (hopt lo) (hnon lo) (ht.ev hi) (ht.ev mx) hr hp
    exact .of (q := q) (w' := w') (by simp [execOp, Sem.run_bind, h1]) h2 h3 h4
  · rename_i e
    simp only [Option.bind_eq_some_iff] at hr
    obtain ⟨ti, hti, hr⟩ := hr
    split at hr
    · cases hr
      obtain ⟨q, w', h1, ρ', h2, h3, h4⟩ := amakeMap_ok (P := P) hc (hs rfl) e
      exact .of (q := q) (w' := w') (by simp [execOp, Sem.run_bind, h1]) h2 h3 h4
    · cases hr
  · rename_i e m k
    simp only [Option.bind_eq_some_iff] at hr
    obtain ⟨ti, hti, hr⟩ := hr
    obtain ⟨q, w', h1, ρ', h2, h3, h4⟩ := amapEntry_ok hT hc (hT _ _ hti) (ht.ev m) (ht.ev k) hr
    exact .of (q := q) (w' := w') (by simp [execOp, Sem.run_bind, h1]) h2 h3 h4
  · rename_i e m k v
    simp only [Option.bind_eq_some_iff] at hr
    obtain ⟨ti, hti, hr⟩ := hr
    obtain ⟨w', h1, ρ', h2, h3, h4⟩ := amapUpdate_ok hT hc (hT _ _ hti) (ht.ev m) (ht.ev k) (ht.ev v) hr
    exact ⟨.skip, undef, ρ', w', by simp [execOp, Sem.run_bind, h1], .inr ⟨rfl, rfl⟩, h2, h3, h4⟩
  · rename_i e m k v
    simp only [Option.bind_eq_some_iff] at hr
    obtain ⟨ti, hti, hr⟩ := hr
    obtain ⟨w', h1, ρ', h2, h3, h4⟩ := amapUpdate_ok hT hc (hT _ _ hti) (ht.ev m) (ht.ev k) (ht.ev v) hr
    exact ⟨.skip, undef, ρ', w', by simp [execOp, Sem.run_bind, h1], .inr ⟨rfl, rfl⟩, h2, h3, h4⟩
  · rename_i e m s v
    obtain ⟨w', h1, ρ', h2, h3, h4⟩ := aentryStore_ok (P := P) (t := e) hc (ht.ev m) (ht.ev s) (ht.ev v) hr hp
    exact ⟨.skip, undef, ρ', w', by simp [execOp, Sem.run_bind, h1], .inr ⟨rfl, rfl⟩, h2, h3, h4⟩
  · rename_i e m k ok
    simp only [Option.bind_eq_some_iff] at hr
    obtain ⟨ti, hti, hr⟩ := hr
    obtain ⟨h1, q, h2, h3⟩ := alookup_ok hT hc (hT _ _ hti) (ht.ev m) (ht.ev k) hr
    exact .pure hc (by simp [execOp, Sem.run_bind, h2]) h3 h1
  · rename_i e m
    simp only [Option.bind_eq_some_iff] at hr
    obtain ⟨ti, hti, hr⟩ := hr
    obtain ⟨q, w', h1, ρ', h2, h3, h4⟩ := arange_ok (P := P) hc (hs rfl) (hT _ _ hti) (ht.ev m) hr
    exact .of (q := q) (w' := w') (by simp [execOp, Sem.run_bind, h1]) h2 h3 h4
  · rename_i x i
    have hcv := ht.ev x
    split at hr
    · rename_i vs hb
      rw [hb] at hcv
      simp only [Option.map_eq_some_iff] at hr
      obtain ⟨y, hy, rfl⟩ := hr
      generalize hev : a.eval x = v at hcv
      cases hcv with
      | tup us _ hsz hrv =>
        have hi : i < us.size := by rw [hsz]; exact (List.getElem?_eq_some_iff.1 hy).1
        exact .pure hc (v := us[i]) (by simp [execOp, Instr.extract, hev, hi]) (hrv i _ y (Array.getElem?_eq_getElem hi) hy) rfl
    · cases hr
  · rename_i x
    have hcv := ht.ev x
    split at hr
    · rename_i i o hb
      rw [hb] at hcv
      cases hr
      generalize hev : a.eval x = v at hcv
      have hk := hcv
      cases hcv
      exact .pure hc (by simp [execOp, hev]) hk rfl
    · rename_i i k j o hb
      rw [hb] at hcv
      cases hr
      generalize hev : a.eval x = v at hcv
      have hk := hcv
      cases hcv
      exact .pure hc (by simp [execOp, hev]) hk rfl
    · rename_i cs hb
      rw [hb] at hcv
      cases hr
      generalize hev : a.eval x = v at hcv
      have hk := hcv
      cases hcv
      exact .pure hc (by simp [execOp, hev]) hk rfl
    · cases hr
  · rename_i f xs ys
    cases hr
    have hmap : ∀ (q : Array Operand) (i : Nat) v x, (q.map a.eval)[i]? = some v → (q.toList.map (aev t))[i]? = some x → RV c v x := by
      intro q i v x hv hx
      rw [Array.getElem?_map] at hv
      rw [List.getElem?_map] at hx
      simp only [Option.map_eq_some_iff] at hv hx
      obtain ⟨z, hz, rfl⟩ := hv
      obtain ⟨z', hz', rfl⟩ := hx
      rw [Array.getElem?_toList, hz] at hz'
      cases hz'
      exact ht.ev z
    exact .pure hc (v := .func (.func f) (xs.map a.eval) (ys.map a.eval)) (by simp [execOp, Instr.makeFunc]) (.fn _ _ _ _ _ (by simp) (by simp) (hmap xs) (hmap ys)) rfl
  · rename_i e x
    simp only [Option.bind_eq_some_iff] at hr
    obtain ⟨ti, hti, hr⟩ := hr
    obtain ⟨d, hd, hso⟩ := (hT _ _ hti).desc
    unfold sortOk at hso
    have key : (∀ ms, d ≠ .interface ms) → OpOk P c (execOp a.eval { dst := dst, op := .makeInterface e x, type := ty, pos := pos, after := after, guard := guard }) ⟨True, .iface e (aev t x), none⟩ := fun hni => by
      refine .pure hc (v := .iface e (a.eval x)) ?_ (.iface _ _ _ (ht.ev x)) rfl
      cases d <;> first | (exact absurd rfl (hni _)) | simp [execOp, Instr.makeInterface, Sem.run_bind, run_underlying hd]
    split at hr
    · cases hr
    · cases hr
    · rename_i h1 h2
      cases hr
      refine key fun ms hms => ?_
      subst hms
      split at hso <;> first | (cases hso; done) | (obtain ⟨_, h, _⟩ := hso; cases h; done) | (obtain ⟨_, _, h⟩ := hso; cases h; done) | (obtain ⟨_, _, _, h⟩ := hso; cases h; done) | skip
      · rename_i hq; exact h1 hq
  · rename_i e ps
    simp only [Option.bind_eq_some_iff] at hr
    obtain ⟨ti, hti, hr⟩ := hr
    split at hr
    · rename_i hst
      simp only [Option.map_eq_some_iff] at hr
      obtain ⟨q, hq, rfl⟩ := hr
      obtain ⟨v, h1, h2⟩ := abuild_ok hT (hT _ _ hti) hst ht ps hq hp
      exact .pure hc (by simp [execOp, Sem.run_bind, h1]) h2 rfl
    · cases hr
  · rename_i args argTypes
    split at hr
    · rename_i x e hx he
      obtain ⟨args⟩ := args
      obtain ⟨argTypes⟩ := argTypes
      simp only at hx he
      subst hx he
      simp only [Option.bind_eq_some_iff] at hr
      obtain ⟨ti, hti, hr⟩ := hr
      obtain ⟨h1, q, h2, h3⟩ := alen_ok (hT _ _ hti) (ht.ev x) hr ty
      exact .pure hc (by simp [execOp, resolve, invoke, builtin, Sem.run_bind, h2]) h3 h1
    · cases hr
  · rename_i e n ps
    simp only [Option.bind_eq_some_iff] at hr
    obtain ⟨ti, hti, hr⟩ := hr
    split at hr
    · rename_i ei hst hei
      split at hr
      · rename_i hmut
        simp only [Option.map_eq_some_iff] at hr
        obtain ⟨q, hq, rfl⟩ := hr
        obtain ⟨p1, p2, p3⟩ := hp
        obtain ⟨v, ρ', w', h1, h2, h3, h4⟩ := abuildM_ok hT hc (hT _ _ hti) hst hei (hs rfl) ht n ps hq p1 p2 p3
        exact .of (q := v) (w' := w') (by simp [execOp, Sem.run_bind, h1]) h2 h3 h4
      · simp only [Option.map_eq_some_iff] at hr
        obtain ⟨q, hq, rfl⟩ := hr
        obtain ⟨p1, p2, p3⟩ := hp
        obtain ⟨v, ρ', w', h1, h2, h3, h4⟩ := abuildSlice_ok hT hc (hT _ _ hti) hst hei (hs rfl) ht n ps hq p1 p2 p3
        exact .of (q := v) (w' := w') (by simp [execOp, Sem.run_bind, h1]) h2 h3 h4
    · cases hr
  · rename_i args argTypes
    split at hr
    · rename_i sx x e f hx he
      obtain ⟨args⟩ := args
      obtain ⟨argTypes⟩ := argTypes
      simp only at hx he
      subst hx he
      simp only [Option.bind_eq_some_iff] at hr
      obtain ⟨ti, hti, ui, hui, hr⟩ := hr
      obtain ⟨q, ρ', w', h1, h2, h3, h4⟩ := aappendM_ok hT hc (hT _ _ hti) (hT _ _ hui) (ht.ev sx) (ht.ev x) (fun e => hs (by simp [needs, e])) hr hp ty
      exact .of (q := q) (w' := w') (by simp [execOp, resolve, invoke, builtin, Sem.run_bind, h1]) h2 h3 h4
    · cases hr
  · rename_i args argTypes
    split at hr
    · rename_i m n hx
      cases hr
      obtain ⟨args⟩ := args
      match args, hx with
      | [], hx => simp at hx
      | [_], hx => simp at hx
      | _ :: _ :: _ :: _, hx => simp at hx
      | [x, y], hx =>
        simp only [List.map_cons, List.map_nil, List.cons.injEq, and_true] at hx
        have h1 := ht.ev x; have h2 := ht.ev y
        rw [hx.1] at h1; rw [hx.2] at h2
        refine .pure hc (v := .int .i64 (min m n)) ?_ (.int _ _) rfl
        have e1 : (if n < m then n else m) = min m n := by rw [Int.min_def]; split <;> split <;> omega
        simp [execOp, resolve, invoke, builtin, Sem.run_bind, h1.ints, h2.ints, Builtin.min_, Builtin.min2, e1]
    · cases hr
  · rename_i args argTypes
    split at hr
    · rename_i m n hx
      cases hr
      obtain ⟨args⟩ := args
      match args, hx with
      | [], hx => simp at hx
      | [_], hx => simp at hx
      | _ :: _ :: _ :: _, hx => simp at hx
      | [x, y], hx =>
        simp only [List.map_cons, List.map_nil, List.cons.injEq, and_true] at hx
        have h1 := ht.ev x; have h2 := ht.ev y
        rw [hx.1] at h1; rw [hx.2] at h2
        refine .pure hc (v := .int .i64 (max m n)) ?_ (.int _ _) rfl
        have e1 : (if n > m then n else m) = max m n := by rw [Int.max_def]; split <;> split <;> omega
        simp [execOp, resolve, invoke, builtin, Sem.run_bind, h1.ints, h2.ints, Builtin.max_, Builtin.max2, e1]
    · cases hr
  · rename_i e l m
    simp only [Option.bind_eq_some_iff] at hr
    obtain ⟨ti, hti, hr⟩ := hr
    split at hr
    · rename_i ei ka x kb y hst hei hl hm
      cases hr
      obtain ⟨p1, p2, p3, p4, p5⟩ := hp
      have e1 := ht.ev l
      have e2 := ht.ev m
      rw [hl] at e1
      rw [hm] at e2
      obtain ⟨v, ρ', w', h1, h2, h3, h4⟩ := amakeSlice_ok (kl := ka) (kc := kb) hT hc (hT _ _ hti) hst hei (hs rfl) p1 p2 p3 p4 p5
      exact .of (q := v) (w' := w') (by simp [execOp, Sem.run_bind, e1.ints, e2.ints, h1]) h2 h3 h4
    · cases hr
  · rename_i args argTypes
    split at hr
    · rename_i x e hx he
      obtain ⟨args⟩ := args
      obtain ⟨argTypes⟩ := argTypes
      simp only at hx he
      subst hx he
      simp only [Option.bind_eq_some_iff] at hr
      obtain ⟨ti, hti, hr⟩ := hr
      obtain ⟨h1, q, h2, h3⟩ := acap_ok (hT _ _ hti) (ht.ev x) hr ty
      exact .pure hc (by simp [execOp, resolve, invoke, builtin, Sem.run_bind, h2]) h3 h1
    · cases hr
  · rename_i args argTypes
    split at hr
    · rename_i x e hx he
      obtain ⟨args⟩ := args
      obtain ⟨argTypes⟩ := argTypes
      simp only at hx he
      subst hx he
      simp only [Option.bind_eq_some_iff] at hr
      obtain ⟨ti, hti, hr⟩ := hr
      obtain ⟨q, w', h1, ρ', h2, h3, h4⟩ := aclear_ok hT hc (hT _ _ hti) (ht.ev x) hr hp ty
      exact .of (q := q) (w' := w') (by simp [execOp, resolve, invoke, builtin, Sem.run_bind, h1]) h2 h3 h4
    · cases hr
  · rename_i args argTypes
    split at hr
    · rename_i d x e f hx he
      obtain ⟨args⟩ := args
      obtain ⟨argTypes⟩ := argTypes
      simp only at hx he
      subst hx he
      simp only [Option.bind_eq_some_iff] at hr
      obtain ⟨ti, hti, hr⟩ := hr
      obtain ⟨q, w', h1, ρ', h2, h3, h4⟩ := acopy_ok (u := f) hT hc (hT _ _ hti) (ht.ev d) (ht.ev x) hr hp ty
      exact .of (q := q) (w' := w') (by simp [execOp, resolve, invoke, builtin, Sem.run_bind, h1]) h2 h3 h4
    · cases hr
  · cases hr
end
end Go.Proofs.YtgonmnjgodleeaaDoor
