/-
  A box that no one writes any more, and a text's way in short runs. Nothing here speaks of the program.
-/
import Derived.Test.YtgonmnjgodleeaaDoorAi
namespace Go.Proofs.YtgonmnjgodleeaaDoor
open Go.RowKit
/-- A box, frozen: one temporary that points to it is now a pointer to what stays. -/
theorem Weak.freeze {P : Program} {c0 : Cx} {s : AState} (j i : Nat) (cs : List AV) (hj : s.t[j]? = some (.ptr i 0)) (hi : s.h[i]? = some (.box cs)) : Weak P c0 s ⟨s.t.set j (.rptr cs), s.h.set i .dead⟩ := by
  refine ⟨fun ρ w vs h1 h2 h3 => ?_⟩
  obtain ⟨q1, q2⟩ := Cx.freeze h1 i _ hi rfl
  have hil : i < s.h.length := (List.getElem?_eq_some_iff.1 hi).1
  refine ⟨ρ, q1, h2.trans q2, by simp [h3.1], fun m v x hv hx => ?_⟩
  rw [List.getElem?_set] at hx
  split at hx
  · rename_i hij
    subst hij
    split at hx
    · cases hx
      have hr := h3.2 j v _ hv hj
      obtain ⟨b, us, e, hb, hcell, hsz, hall⟩ := h1.blk i _ hi
      cases hr with
      | ptr _ _ b' hk hb' ht =>
        have hbb : b' = b := by
          have : some b' = some b := hb'.symm.trans hb
          exact Option.some.inj this
        subst hbb
        refine .rptr cs b' 0 (fun q => us.getD q undef) (fun q a ha => ?_) (fun q a ha => ?_)
        · obtain ⟨hc1, u, hu, hr⟩ := hall q a ha
          refine ⟨hc1, ⟨(Array.getElem?_eq_some_iff.1 hcell).1, fun hX => ?_, fun i' x hx hbi => ?_⟩, ?_⟩
          · exact (h1.xs _ _ hX).2 i _ hi rfl hb
          · by_cases hii : i' = i
            · subst hii
              simp only [List.getElem?_set_self hil] at hx
              cases hx
              trivial
            · simp only [List.getElem?_set_ne (Ne.symm hii)] at hx
              cases hl : x.live with
              | true => exact absurd (h1.inj i' i x _ b' hx hi hl rfl hbi hb) hii
              | false => cases x <;> first | trivial | cases hl
          · rw [cell_of_row w b' (0 + q) us e (0, 0) hcell, Nat.zero_add, hu]
            simp [Array.getD_eq_getD_getElem?, hu]
        · obtain ⟨hc1, u, hu, hr⟩ := hall q a ha
          have : us.getD q undef = u := by simp [Array.getD_eq_getD_getElem?, hu]
          show RV _ (us.getD q undef) a
          rw [this]
          exact hr.mono q2
    · cases hx
  · exact (h3.2 m v x hv hx).mono q2
/-- A loop, entered. -/
theorem Run.unloop {P : Program} {f : FuncId} {c0 : Cx} {R : AV → List ABlk → Prop} {k : List Item} {s : AState} {c : Code} (h : Run P f c0 R (.code c :: .inLoop c :: k) s) : Run P f c0 R (.code (.loop c) :: k) s := ⟨ARun.loop1 h.h⟩
/-- A loop's body, once more. -/
theorem Run.again {P : Program} {f : FuncId} {c0 : Cx} {R : AV → List ABlk → Prop} {k : List Item} {s : AState} {c : Code} (h : Run P f c0 R (.code c :: .inLoop c :: k) s) : Run P f c0 R (.inLoop c :: k) s := ⟨ARun.inLoop h.h⟩
/-- Entries that are still to come. -/
theorem left_born {c : Cx} {es : Array MapEntry} {l : List (AV × AV)} (h : ∀ (j : Nat) e p, es[j]? = some e → l[j]? = some p → e.born = j ∧ RV c e.key p.1 ∧ RV c e.val p.2) (hl : es.size = l.length) {e : MapEntry} (he : e ∈ es.toList) : ∃ p, e.born < l.length ∧ l[e.born]? = some p ∧ RV c e.key p.1 ∧ RV c e.val p.2 := by
  obtain ⟨j, hj⟩ := List.getElem?_of_mem he
  have hj' : es[j]? = some e := by simpa using hj
  have hjl : j < l.length := by rw [← hl]; exact (Array.getElem?_eq_some_iff.1 hj').1
  obtain ⟨h0, h1, h2⟩ := h j e _ hj' (List.getElem?_eq_getElem hjl)
  exact ⟨l[j], by omega, by rw [h0]; exact List.getElem?_eq_getElem hjl, h1, h2⟩
/-- The next entry of a map that is ranged over: whichever is left, or none. -/
theorem Ops.next {P : Program} {f : FuncId} {c0 : Cx} {R : AV → List ABlk → Prop} {k : List Item} {s : AState} {ops : Array Oper} {n : Nat} {o : Oper} {rest : List Oper} (hw : Wanted ops s.t o.guard true) {x : Operand} (ho : o.op = .next x false)
    {i m nn : Nat} {seen : List Nat} {l : List (AV × AV)} (hx : aev s.t x = .ptr i 0) (hi : s.h[i]? = some (.iter m nn seen)) (hm : s.h[m]? = some (.map l)) (hn : nn = l.length)
    (h0 : (∀ j, j < l.length → j ∈ seen) → Ops P f c0 R ops (n + 1) rest k ⟨aput s.t o.dst (.tup [.bool false]), s.h⟩)
    (h1 : ∀ j p, l[j]? = some p → j ∉ seen → Ops P f c0 R ops (n + 1) rest k ⟨aput s.t o.dst (.tup [.bool true, p.1, p.2]), s.h.set i (.iter m nn (seen ++ [j]))⟩) : Ops P f c0 R ops n (o :: rest) k s := by
  refine ⟨fun hd ρ w a g1 g2 g3 g4 => ?_⟩
  obtain ⟨ho', hd'⟩ := range'_cons hd
  rw [List.length_cons, List.range'_succ]
  have hv := g3.ev x
  rw [hx] at hv
  obtain ⟨dst, op, ty, pos, after, guard⟩ := o
  simp only at ho
  subst ho
  obtain ⟨b, mb, sa, q1, q2, q3, q4⟩ := g1.blk i _ hi
  simp only at q1 q2 q3 q4
  cases q4 with
  | mp _ _ hkm hρm hnm =>
  obtain ⟨mb', es, e1, e2, e3, e4⟩ := g1.blk m _ hm
  simp only at e1 e2 e3 e4 hρm
  rw [hρm] at e1
  obtain rfl := Option.some.inj e1
  generalize hev : a.eval x = v at hv
  cases hv with
  | ptr _ _ b' hkb hρb hnb =>
  simp only at hρb
  rw [q1] at hρb
  obtain rfl := Option.some.inj hρb
  subst hn
  have hold : ∀ y ∈ es.toList, y.born < l.length := fun y hy => by
    obtain ⟨p, hp, _⟩ := left_born e4 e3 hy
    exact hp
  rcases run_next_at (P := P) w ty b mb l.length l.length sa es l.length q2 e2 hold (Nat.le_refl _) with ⟨z1, z2⟩ | ⟨e, z1, w1, z2, z3⟩
  · have hall : ∀ j, j < l.length → j ∈ seen := fun j hj => by
      have hjs : j < es.size := by rw [e3]; exact hj
      have hb := (e4 j es[j] l[j] (Array.getElem?_eq_getElem hjs) (List.getElem?_eq_getElem hj)).1
      have hmem : es[j] ∉ (leftOf es sa) := by
        rw [Array.eq_empty_of_size_eq_zero z1]; simp
      unfold leftOf at hmem
      simp only [Array.mem_filter, Array.getElem_mem, true_and, Bool.not_eq_true', Bool.not_eq_false] at hmem
      rw [← q3, ← hb]
      simpa using hmem
    have hR : RV ⟨ρ, s.h, w, c0.X⟩ (.tuple #[.bool false]) (.tup [.bool false]) := .tup _ _ rfl fun i v x hv hx => by
      match i, hv, hx with
      | 0, hv, hx => simp at hv hx; subst hv hx; exact .bool _
      | i + 1, hv, hx => simp at hv
    exact ((h0 hall).h hd' ρ w (a.put dst (.tuple #[.bool false])) g1 g2 (g3.put dst hR) (by cases dst <;> exact g4)).step fun bb cs _ => step_value (P := P) ho' (hw.ok g3) (by simp [execOp, Sem.run_bind, hev, z2]) (.inl rfl)
  · have hmem : e ∈ es.toList ∧ e.born ∉ seen := by
      unfold leftOf at z1
      simp only [Array.toList_filter, List.mem_filter, Bool.not_eq_true'] at z1
      refine ⟨z1.1, ?_⟩
      rw [← q3]
      have := z1.2
      simpa using this
    obtain ⟨p, hp1, hp2, hp3, hp4⟩ := left_born e4 e3 hmem.1
    have hw1 : w1.heap = w.heap ∧ w1.os = w.os ∧ w1.tape = w.tape ∧ w1.output = w.output := by rcases z2 with rfl | rfl <;> exact ⟨rfl, rfl, rfl, rfl⟩
    obtain ⟨y1, y2, y3, y4⟩ := hw1
    have hbm : b ≠ mb := fun e => by rw [e, e2] at q2; cases q2
    have hbs : b < w.heap.size := (Array.getElem?_eq_some_iff.1 q2).1
    obtain ⟨r1, r2⟩ := Cx.write (c := ⟨ρ, s.h, w, c0.X⟩) g1 i (.iter m l.length seen) (.iter m l.length (seen ++ [e.born])) b hi q1 rfl rfl (Go.ChangeMaps.setBlock w1 b (.mapIter (some mb) l.length (sa.push e.born) l.length)) (by simp [Go.ChangeMaps.setBlock, y1]) y2 y3 y4
      (fun b' hb' => by simp only [Go.ChangeMaps.setBlock, y1]; exact Array.getElem?_setIfInBounds_ne (Ne.symm hb')) (fun o h => h.elim) (.inl ⟨rfl, rfl⟩) (fun vs e f h0 => by rw [q2] at h0; cases h0) fun hev' => by
        refine ⟨b, mb, sa.push e.born, q1, ?_, by simp [q3], (RV.mp m mb hkm hρm hnm : RV ⟨ρ, s.h, w, c0.X⟩ _ _).mono hev'⟩
        simp only [Go.ChangeMaps.setBlock, y1]
        rw [Array.getElem?_setIfInBounds_self_of_lt hbs]
    have hR : RV ⟨ρ, s.h.set i (.iter m l.length (seen ++ [e.born])), _, c0.X⟩ (.tuple #[.bool true, e.key, e.val]) (.tup [.bool true, p.1, p.2]) := .tup _ _ rfl fun i v x hv hx => by
      match i, hv, hx with
      | 0, hv, hx => simp at hv hx; subst hv hx; exact .bool _
      | 1, hv, hx => simp at hv hx; subst hv hx; exact hp3.mono r2
      | 2, hv, hx => simp at hv hx; subst hv hx; exact hp4.mono r2
      | i + 3, hv, hx => simp at hv
    exact ((h1 e.born p hp2 hmem.2).h hd' ρ _ (a.put dst (.tuple #[.bool true, e.key, e.val])) r1 (g2.trans r2) ((g3.mono r2).put dst hR) (by cases dst <;> exact g4)).step fun bb cs _ => step_value (P := P) ho' (hw.ok g3) (by simp [execOp, Sem.run_bind, hev, z3]) (.inl rfl)
/-- The key and the value of the entry that the last step came to. -/
theorem Ops.entry {P : Program} {f : FuncId} {c0 : Cx} {R : AV → List ABlk → Prop} {k : List Item} {s : AState} {ops : Array Oper} {n : Nat} {o : Oper} {rest : List Oper} (hw : Wanted ops s.t o.guard true) {x : Operand} (ho : o.op = .entry x)
    {i m nn j : Nat} {seen : List Nat} {l : List (AV × AV)} {p : AV × AV} (hx : aev s.t x = .ptr i 0) (hi : s.h[i]? = some (.iter m nn (seen ++ [j]))) (hm : s.h[m]? = some (.map l)) (hn : nn = l.length) (hp : l[j]? = some p)
    (h : Ops P f c0 R ops (n + 1) rest k ⟨aput s.t o.dst (.tup [p.1, p.2]), s.h⟩) : Ops P f c0 R ops n (o :: rest) k s := by
  refine ⟨fun hd ρ w a g1 g2 g3 g4 => ?_⟩
  obtain ⟨ho', hd'⟩ := range'_cons hd
  rw [List.length_cons, List.range'_succ]
  have hv := g3.ev x
  rw [hx] at hv
  obtain ⟨dst, op, ty, pos, after, guard⟩ := o
  simp only at ho
  subst ho
  obtain ⟨b, mb, sa, q1, q2, q3, q4⟩ := g1.blk i _ hi
  simp only at q1 q2 q3 q4
  cases q4 with
  | mp _ _ hkm hρm hnm =>
  obtain ⟨mb', es, e1, e2, e3, e4⟩ := g1.blk m _ hm
  simp only at e1 e2 e3 e4 hρm
  rw [hρm] at e1
  obtain rfl := Option.some.inj e1
  generalize hev : a.eval x = v at hv
  cases hv with
  | ptr _ _ b' hkb hρb hnb =>
  simp only at hρb
  rw [q1] at hρb
  obtain rfl := Option.some.inj hρb
  subst hn
  have hjl : j < l.length := (List.getElem?_eq_some_iff.1 hp).1
  have hjs : j < es.size := by rw [e3]; exact hjl
  obtain ⟨b0, b1, b2⟩ := e4 j es[j] p (Array.getElem?_eq_getElem hjs) hp
  have hsa : sa = (seen.toArray).push es[j].born := by
    apply Array.toList_inj.1
    simp [q3, b0]
  have hnd : (es.toList.map (·.born)).Nodup := by
    have : es.toList.map (·.born) = List.range es.size := by
      apply List.ext_getElem?
      intro q
      rw [List.getElem?_map]
      by_cases hq : q < es.size
      · have hql : q < l.length := by rw [← e3]; exact hq
        have := (e4 q es[q] l[q] (Array.getElem?_eq_getElem hq) (List.getElem?_eq_getElem hql)).1
        simp [hq, this]
      · simp [hq]
    rw [this]
    exact List.nodup_range
  rw [hsa] at q2
  have hrun := run_entry_at (P := P) w b mb l.length seen.toArray es l.length es[j] q2 e2 (by simp) hnd
  have hR : RV ⟨ρ, s.h, w, c0.X⟩ (.tuple #[es[j].key, es[j].val]) (.tup [p.1, p.2]) := .tup _ _ rfl fun i v x hv hx => by
    match i, hv, hx with
    | 0, hv, hx => simp at hv hx; subst hv hx; exact b1
    | 1, hv, hx => simp at hv hx; subst hv hx; exact b2
    | i + 2, hv, hx => simp at hv
  exact (h.h hd' ρ w (a.put dst (.tuple #[es[j].key, es[j].val])) g1 g2 (g3.put dst hR) (by cases dst <;> exact g4)).step fun bb cs _ => step_value (P := P) ho' (hw.ok g3) (by simp [execOp, Sem.run_bind, hev, hrun]) (.inl rfl)
end Go.Proofs.YtgonmnjgodleeaaDoor
