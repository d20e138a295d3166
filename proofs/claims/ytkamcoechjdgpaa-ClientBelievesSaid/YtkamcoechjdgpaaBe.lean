/-
  The shadow of a run: slices that overlap, or do not; rows in a box that no one writes any more; a slice held against nil. Nothing here speaks of the program.
-/
import Derived.Test.YtkamcoechjdgpaaBd
namespace Go.Proofs.Ytkamcoechjdgpaa
open Go.RowKit
section
variable {P : Program} {T : TabT} {f : FuncId} {c0 : Cx} {R : AV → List ABlk → Prop} {k : List Item} {s : AState} {ops : Array Oper} {n : Nat} {o : Oper} {rest : List Oper}
theorem run_nil_sl (d : Nat) (t : TypeId) {el : Nat} (hd : P.underlying t = some (.slice el)) (n cap : Nat) (w : World) : (Op.equalIn (d + 1) t (.slice none n cap) (.slice none 0 0)).run P w = .ok true w := by
  simp [Op.equalIn, run_underlying hd]
/-- Two slices in two blocks, the second one the run's own. -/
theorem run_overlaps_own (w : World) (tS tR e : TypeId) (ht : P.underlying tS = some (.slice e)) (size : Nat) (hz : ∀ w, (Go.sizeOf e).run P w = .ok size w)
    (a b : Addr) (la ca lb cb : Nat) (hne : a.block ≠ b.block) (tA tB : TypeId) (kA kB : Nat) (hsa : w.shape? a.block = some (tA, kA)) (hkA : kA ≠ 0) (hsb : w.shape? b.block = some (tB, kB)) (hkB : kB ≠ 0)
    (hfb : w.frozen? b = false) (hfe : w.frozen? { block := b.block, off := kB } = false) :
    (Extern.SlicesOverlaps.overlaps #[tS, tS] #[tR] #[.slice (some a) la ca, .slice (some b) lb cb]).run P w = .ok (.bool false) w := by
  have hnb : (a.block != b.block) = true := by simpa using hne
  have hnb' : (a.block == b.block) = false := by simpa using hne
  change Sem.run P (α := Value) (do
    let some t := (#[tS, tS] : Array TypeId)[0]? | stuck "slices.overlaps: no parameter types"
    let .slice elem ← underlying t | stuck "slices.overlaps: slice type expected"
    let size ← sizeOf elem
    match (some a : Option Addr), (some b : Option Addr) with
    | some a, some b =>
      if la = 0 ∨ lb = 0 ∨ size = 0 then pure (Value.bool false)
      else if a.block != b.block && (← frozen a) && (← frozen b) then unsupported .addressObserved
      else do
        if a.block != b.block then do
          noView a; noView b
          if ← mayBeOne a b then return Value.bool ((← choose (.extern "sameAddr.stringBytes" 2)) == 1)
        pure (Value.bool (a.block == b.block && a.off < b.off + lb * size && b.off < a.off + la * size))
    | _, _ => pure (Value.bool false)) w = _
  by_cases h0 : la = 0 ∨ lb = 0 ∨ size = 0
  · simp [run_underlying ht, hz, h0]
  · cases kA with
    | zero => exact absurd rfl hkA
    | succ kA =>
      cases kB with
      | zero => exact absurd rfl hkB
      | succ kB =>
        by_cases h1 : w.frozen? a = true
        · simp [run_underlying ht, hz, h0, hnb, hnb', frozen, noView, viewAt, mayBeOne, stringish, shape, Sem.run, hsa, hsb, hfb, hfe, h1]
        · have h1' : w.frozen? a = false := by simpa using h1
          by_cases h2 : w.frozen? { block := a.block, off := kA + 1 } = true
          · simp [run_underlying ht, hz, h0, hnb, hnb', frozen, noView, viewAt, mayBeOne, stringish, shape, Sem.run, hsa, hsb, hfb, hfe, h1', h2]
          · have h2' : w.frozen? { block := a.block, off := kA + 1 } = false := by simpa using h2
            simp [run_underlying ht, hz, h0, hnb, hnb', frozen, noView, viewAt, mayBeOne, stringish, shape, Sem.run, hsa, hsb, hfb, hfe, h1', h2']
theorem Ops.overlaps (hw : Wanted ops s.t o.guard true) {x a0 a1 : Operand} {ts : Array TypeId} (hop : o.op = .call { callee := .value x, args := #[a0, a1], argTypes := ts }) {g : FuncId} (hx : aev s.t x = .fn (.func g) [] [])
    {tS tR e : TypeId} {size : Nat} (hund : P.underlying tS = some (.slice e)) (hz : ∀ w, (Go.sizeOf e).run P w = .ok size w) (hext : ∀ args w v, (Extern.SlicesOverlaps.overlaps #[tS, tS] #[tR] args).run P w = .ok v w → (callFunc g args).run P w = .ok (.value v) w)
    {kk : Nat} (hk : 0 < kk) {y : List AV} {ys : List (List AV)} {tk : Tk} (h0 : aev s.t a0 = .sl kk (y :: ys) tk) {i oo m cap : Nat} {L : List (List AV)} (h1 : aev s.t a1 = .msl i kk oo m cap) (hi : s.h[i]? = some (.rows kk L)) (hL : L ≠ [])
    (h : Ops P f c0 R ops (n + 1) rest k ⟨aput s.t o.dst (.bool false), s.h⟩) : Ops P f c0 R ops n (o :: rest) k s := by
  refine ⟨fun hd ρ w a g1 g2 g3 g4 => ?_⟩
  obtain ⟨ho', hd'⟩ := range'_cons hd
  rw [List.length_cons, List.range'_succ]
  obtain ⟨dst, op, ty, pos, after, guard⟩ := o
  simp only at hop
  subst hop
  have hvx := g3.ev x
  rw [hx] at hvx
  have hv0 := g3.ev a0
  rw [h0] at hv0
  have hv1 := g3.ev a1
  rw [h1] at hv1
  generalize hevx : a.eval x = vx at hvx
  generalize hev0 : a.eval a0 = v0 at hv0
  generalize hev1 : a.eval a1 = v1 at hv1
  cases hvx with
  | fn _ u1 u2 _ _ l1 l2 r1 r2 =>
    obtain rfl : u1 = #[] := Array.eq_empty_of_size_eq_zero (by simpa using l1)
    obtain rfl : u2 = #[] := Array.eq_empty_of_size_eq_zero (by simpa using l2)
    cases hv1 with
    | msl _ _ _ _ _ b o' hkn hb hnt hcap hm ho =>
      obtain ⟨vs, te, hR⟩ := RowsAt.of g1 hi hb
      have hsz := hR.size hk
      have hLl : 0 < L.length := List.length_pos_iff.2 hL
      have hpos : 0 < L.length * kk := Nat.mul_pos hLl hk
      cases hv0 with
      | sl _ _ _ A q cap2 b2 o2 us hn hc2 hm2 hA hkk hcc hrr htt =>
        obtain rfl := hA (by simp)
        obtain ⟨y0, hy0⟩ : ∃ y0, y[0]? = some y0 := ⟨_, List.getElem?_eq_getElem (by rw [hkk 0 y rfl]; exact hk)⟩
        obtain ⟨_, him, hcell⟩ := hcc 0 y 0 y0 rfl hy0
        have hbb : b2 ≠ b := fun e => by
          subst e
          exact him.2.2 i _ hi hb
        have hsh : ∃ tA kA, w.shape? b2 = some (tA, kA) ∧ kA ≠ 0 := by
          simp only [World.cell?] at hcell
          split at hcell
          · rename_i cs te2 fr hh
            refine ⟨te2, cs.size, by simp only [World.shape?]; rw [hh], fun e => ?_⟩
            simp at hcell
            have := (Array.getElem?_eq_some_iff.1 hcell).1
            omega
          · cases hcell
        obtain ⟨tA, kA, hsa, hkA⟩ := hsh
        have hh : w.heap[b]? = some (.cells vs te (0, 0)) := hR.hh
        have hov := run_overlaps_own (P := P) w tS tR e hund size hz ⟨b2, o2, none⟩ ⟨b, o', none⟩ q cap2 m cap hbb tA te kA vs.size hsa hkA (by simp only [World.shape?]; rw [hh]) (by omega) (by simp only [World.frozen?]; rw [hh]; simp) (by simp only [World.frozen?]; rw [hh]; simp)
        have hcall := hext _ _ _ hov
        exact (h.h hd' ρ w (a.put dst (.bool false)) g1 g2 (g3.put dst (.bool false)) (by cases dst <;> exact g4)).step fun bb cs _ => step_value (P := P) ho' (hw.ok g3) (by simp [execOp, Go.resolve, Deferred.ofValue, Go.invoke, hevx, hev0, hev1, Sem.run_bind, hcall]) (.inl rfl)
/-- Rows in a box, frozen. -/
theorem Weak.freezeC (q m i kk oo nn cap : Nat) (L : List (List AV)) (cs : List AV) (hq : s.h[q]? = some (.box cs)) (hm : cs[m]? = some (.msl i kk oo nn cap)) (hi : s.h[i]? = some (.rows kk L)) (hk : 0 < kk) (hon : oo + nn ≤ L.length) (hp : ∀ x ∈ (L.drop oo).take nn, ∀ a ∈ x, a.plain = true) :
    Weak P c0 s ⟨s.t, (s.h.set i .dead).set q (.box (cs.set m (.sl kk ((L.drop oo).take nn) .no)))⟩ := by
  refine ⟨fun ρ w vs h1 h2 h3 => ?_⟩
  have hiq : i ≠ q := fun e => by subst e; rw [hi] at hq; cases hq
  obtain ⟨b, us, e, hb, hh, hsz, hall⟩ := h1.blk q _ hq
  have hml : m < cs.length := (List.getElem?_eq_some_iff.1 hm).1
  obtain ⟨hc1, v, hv, hr⟩ := hall m _ hm
  obtain ⟨q1, q2, q3⟩ := hr.frozen h1 hi hk hon hp
  have hq' : (s.h.set i .dead)[q]? = some (.box cs) := by rw [List.getElem?_set_ne hiq]; exact hq
  obtain ⟨q4, q5⟩ := Cx.retell q1 q b _ (.box (cs.set m (.sl kk ((L.drop oo).take nn) .no))) hq' hb rfl rfl rfl rfl (fun o h => h.elim) fun hev => by
    refine ⟨b, us, e, hb, hh, by simpa using hsz, fun j a ha => ?_⟩
    rw [List.getElem?_set] at ha
    split at ha
    · rename_i hjm
      subst hjm
      cases ha
      exact ⟨rfl, v, hv, q3.mono hev⟩
    · obtain ⟨g1, u, g2, g3⟩ := hall j a ha
      exact ⟨g1, u, g2, (g3.mono q2).mono hev⟩
  exact ⟨ρ, q4, h2.trans (q2.trans q5), h3.mono (q2.trans q5)⟩
/-- A nil row in a box, as an empty row of the run's own. -/
theorem Weak.ownC (q m kk : Nat) (cs : List AV) (hq : s.h[q]? = some (.box cs)) (hm : cs[m]? = some .nils) : Weak P c0 s ⟨s.t, (s.h ++ [ABlk.tok kk 0]).set q (.box (cs.set m (.sl kk [] (.own s.h.length))))⟩ := by
  refine ⟨fun ρ w vs h1 h2 h3 => ?_⟩
  obtain ⟨b, us, e, hb, hh, hsz, hall⟩ := h1.blk q _ hq
  have hml : m < cs.length := (List.getElem?_eq_some_iff.1 hm).1
  have hql : q < s.h.length := (List.getElem?_eq_some_iff.1 hq).1
  obtain ⟨hc1, v, hv, hr⟩ := hall m _ hm
  obtain ⟨g1, g2⟩ := Cx.grow h1
  obtain ⟨q1, q2⟩ := Cx.unborn g1 s.h.length kk (by simp)
  have e1 : (s.h ++ [ABlk.free]).set s.h.length (.tok kk 0) = s.h ++ [ABlk.tok kk 0] := by rw [List.set_append_right _ _ (Nat.le_refl _)]; simp
  simp only [e1] at q1 q2
  have hq' : (s.h ++ [ABlk.tok kk 0])[q]? = some (.box cs) := by rw [List.getElem?_append_left hql]; exact hq
  have hb' : setρ ρ s.h.length none q = some b := by rw [setρ_ne _ _ (by omega)]; exact hb
  have hq1 : q ≠ s.h.length := by omega
  have hlast : ((s.h ++ [ABlk.tok kk 0]).set q (.box (cs.set m (.sl kk [] (.own s.h.length)))))[s.h.length]? = some (.tok kk 0) := by
    rw [List.getElem?_set_ne hq1]; simp
  obtain ⟨q4, q5⟩ := Cx.retell q1 q b _ (.box (cs.set m (.sl kk [] (.own s.h.length)))) hq' hb' rfl rfl rfl rfl (fun o h => h.elim) fun hev => by
    refine ⟨b, us, e, hb', hh, by simpa using hsz, fun j a ha => ?_⟩
    rw [List.getElem?_set] at ha
    split at ha
    · rename_i hjm
      subst hjm
      cases ha
      cases hr
      refine ⟨rfl, _, hv, .sl kk [] _ none 0 0 0 0 (fun _ _ => undef) rfl (Nat.le_refl _) (Nat.zero_le _) (fun h => absurd rfl h) (fun j e h => by simp at h) (fun j e i a h => by simp at h) (fun j e i a h => by simp at h) ⟨⟨_, hlast, rfl⟩, fun k' n' e => ?_⟩⟩
      have e2 : ((s.h ++ [ABlk.tok kk 0]).set q (.box (cs.set m (.sl kk [] (.own s.h.length)))))[s.h.length]? = some (.tok k' n') := e
      rw [hlast] at e2
      cases e2
      exact ⟨rfl, Nat.le_refl _, fun _ => .inl rfl⟩
    · obtain ⟨g3, u, g4, g5⟩ := hall j a ha
      exact ⟨g3, u, g4, ((g5.mono g2).mono q2).mono hev⟩
  exact ⟨_, q4, h2.trans (g2.trans (q2.trans q5)), h3.mono (g2.trans (q2.trans q5))⟩
/-- An empty slice held against nil: it may be nil, or not. -/
theorem Ops.eqnil (hw : Wanted ops s.t o.guard true) {a0 a1 : Operand} {t u el : TypeId} (hop : o.op = .binOp .eql t a0 a1 u) (hd : P.underlying t = some (.slice el)) {kk : Nat} {l : List (List AV)} {tk : Tk} (h0 : aev s.t a0 = .sl kk l tk) (h1 : aev s.t a1 = .nils)
    (h : ∀ b, Ops P f c0 R ops (n + 1) rest k ⟨aput s.t o.dst (.bool b), s.h⟩) : Ops P f c0 R ops n (o :: rest) k s := by
  refine ⟨fun hdr ρ w a g1 g2 g3 g4 => ?_⟩
  obtain ⟨ho', hd'⟩ := range'_cons hdr
  rw [List.length_cons, List.range'_succ]
  obtain ⟨dst, op, ty, pos, after, guard⟩ := o
  simp only at hop
  subst hop
  have hv0 := g3.ev a0
  rw [h0] at hv0
  have hv1 := g3.ev a1
  rw [h1] at hv1
  generalize hev0 : a.eval a0 = v0 at hv0
  generalize hev1 : a.eval a1 = v1 at hv1
  cases hv1
  cases hv0 with
  | sl _ _ _ A q cap2 b2 o2 us hn hc2 hm2 hA hkk hcc hrr htt =>
    cases A with
    | none =>
      have he := run_nil_sl (P := P) 9999 t hd q cap2 w
      exact ((h true).h hd' ρ w (a.put dst (.bool true)) g1 g2 (g3.put dst (.bool true)) (by cases dst <;> exact g4)).step fun bb cs _ => step_value (P := P) ho' (hw.ok g3) (by simp [execOp, hev0, hev1, eqGuard, binOp, Op.equal, Op.maxDepth, Sem.run_bind, he]) (.inl rfl)
    | some a' =>
      have he := run_sl_nil (P := P) 9999 t hd a' q cap2 w
      exact ((h false).h hd' ρ w (a.put dst (.bool false)) g1 g2 (g3.put dst (.bool false)) (by cases dst <;> exact g4)).step fun bb cs _ => step_value (P := P) ho' (hw.ok g3) (by simp [execOp, hev0, hev1, eqGuard, binOp, Op.equal, Op.maxDepth, Sem.run_bind, he]) (.inl rfl)
end
end Go.Proofs.Ytkamcoechjdgpaa
