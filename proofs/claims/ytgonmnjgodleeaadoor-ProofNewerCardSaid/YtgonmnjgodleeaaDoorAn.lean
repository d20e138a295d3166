/-
  The shadow of a run: all simple operations together: what one is said to do, it does. Nothing here speaks of the program.
-/
import Derived.Test.YtgonmnjgodleeaaDoorAw
namespace Go.Proofs.YtgonmnjgodleeaaDoor
open Go.RowKit
section
variable {P : Program} {T : TabT} {c : Cx}
theorem zeros_flat {ei : TI} {z : Value} (hz : z.cells.size = ei.zero.length) (hzl : ei.zero.length = ei.size) (hzr : ∀ (j : Nat) v a, z.cells[j]? = some v → ei.zero[j]? = some a → a.plain = true ∧ ∀ c, RV c v a) (n : Nat) :
    FlatP AV.cell c ei.size (List.replicate n ei.zero) ((Array.range (n * ei.size)).map (z.cells[· % z.cells.size]!)).toList := by
  refine ⟨by simp, fun j e he => ?_, fun j e i a he ha => ?_⟩
  · rw [List.getElem?_replicate] at he
    split at he
    · cases he; exact hzl
    · cases he
  · rw [List.getElem?_replicate] at he
    split at he
    · rename_i hj
      cases he
      have hi : i < ei.size := by rw [← hzl]; exact (List.getElem?_eq_some_iff.1 ha).1
      have hiz : i < z.cells.size := by rw [hz, hzl]; exact hi
      have hlt : j * ei.size + i < n * ei.size := by
        have : (j + 1) * ei.size ≤ n * ei.size := Nat.mul_le_mul_right _ hj
        rw [Nat.add_mul] at this; omega
      obtain ⟨g1, g2⟩ := hzr i _ a (Array.getElem?_eq_getElem hiz) ha
      refine ⟨AV.plain_cell g1, _, ?_, g2 c⟩
      simp only [Array.toList_map, List.getElem?_map, Array.toList_range, List.getElem?_range hlt, Option.map_some]
      congr 1
      have : (j * ei.size + i) % z.cells.size = i := by rw [hz, hzl, Nat.mul_comm, Nat.mul_add_mod]; exact Nat.mod_eq_of_lt hi
      rw [this]
      exact getElem!_pos z.cells i hiz
    · cases he
theorem abuildSlice_ok (hT : TabOk P T) (hc : RelH c) {t : Nat} {ti ei : TI} (ht : TIok P t ti) (hs : ti.sort = .sl) (he : T ti.elem = some ei) {slot : Nat} (hsl : c.h[slot]? = some .free) {a : Act} {tm : List AV} (hr : TRel c a.tmps tm) (n : Nat) (ps : Array (Nat × Operand)) {q : Prop × List (List AV)}
    (hq : aelems ei.size (ps.toList.map fun q => (q.1, aev tm q.2)) (List.replicate n ei.zero) = some q) (hsm : n * ei.size ≤ 16777216) (hpos : 0 < ei.size) (hp : q.1) :
    ∃ v ρ' w', (Instr.buildSlice t n (ps.map fun (i, x) => (i, a.eval x))).run P c.w = .ok v w' ∧ RelH ⟨ρ', c.h.set slot (.tok ei.size n), w', c.X⟩ ∧ Ev c ⟨ρ', c.h.set slot (.tok ei.size n), w', c.X⟩ ∧ RV ⟨ρ', c.h.set slot (.tok ei.size n), w', c.X⟩ v (if plains q.2 then .sl ei.size q.2 (.own slot) else .psl ei.size q.2) := by
  obtain ⟨d, hd, hso⟩ := ht.desc
  unfold sortOk at hso
  rw [hs] at hso
  subst hso
  have hslt : slot < c.h.length := (List.getElem?_eq_some_iff.1 hsl).1
  obtain ⟨ie, z, hi1, hi2, hi3, hi4, hi5, hi6⟩ := (hT _ _ he).info
  have hzl := (hT _ _ he).zl
  obtain ⟨r, hf, hfl, hlen⟩ := aelems_fill (c := c) _ (ps.toList.map fun q => (q.1, a.eval q.2)) (List.replicate n ei.zero) _ q (by simp) (hr.parts ps.toList) (zeros_flat (c := c) hi5 hzl hi6 n) hq hp
  have hlen' : q.2.length = n := by simpa using hlen
  have hrun : (Instr.buildSlice t n (ps.map fun (i, x) => (i, a.eval x))).run P c.w = .ok (.slice (some ⟨c.w.heap.size, 0, none⟩) n n) (c.w.alloc (.cells r ti.elem)) := by
    have e : (ps.map fun (i, x) => (i, a.eval x)).toList = ps.toList.map fun q => (q.1, a.eval q.2) := by simp
    by_cases hn : n = 0
    · subst hn
      have hps : ps.toList.map (fun q => (q.1, aev tm q.2)) = [] := by
        cases hh : ps.toList.map (fun q => (q.1, aev tm q.2)) with
        | nil => rfl
        | cons x rest =>
          exfalso
          rw [hh] at hq
          obtain ⟨i, y⟩ := x
          simp only [aelems] at hq
          split at hq
          · simp only [Option.map_eq_some_iff] at hq
            obtain ⟨q', _, rfl⟩ := hq
            obtain ⟨⟨_, h2⟩, _⟩ := hp
            simp at h2
          · cases hq
      have hps0 : ps = #[] := by
        have : ps.toList = [] := by simpa using hps
        simpa using this
      subst hps0
      have hr0 : r = #[] := by
        simp only [Array.toList_empty, List.map_nil, Instr.fill, Option.some.injEq] at hf
        rw [← hf]; simp
      subst hr0
      simp [Instr.buildSlice, run_underlying hd, sizeOf, typeInfo, hi1, Instr.fill, newRow, Array.range_zero']
    · refine run_buildSlice c.w t ti.elem n _ r ie z hd hi1 hi4 (by rw [hi2]; omega) (by rw [hi2]; exact Nat.mul_ne_zero hn (by omega)) ?_
      rw [e, hi2]
      exact hf
  have hm : n ≤ 16777216 := Nat.le_trans (Nat.le_mul_of_pos_right n hpos) hsm
  have hblk : (c.w.alloc (.cells r ti.elem)).heap[c.w.heap.size]? = some (.cells r ti.elem) := by show (c.w.heap.push _)[c.w.heap.size]? = _; simp
  obtain ⟨h1, h2⟩ := Cx.alloc hc slot .free hsl (.tok ei.size n) (.inl rfl) rfl (c.w.alloc (.cells r ti.elem)) (.cells r ti.elem) rfl rfl rfl rfl (fun _ b hb => by
    rw [show (Cx.mk (setρ c.ρ slot (some c.w.heap.size)) (c.h.set slot (.tok ei.size n)) (c.w.alloc (.cells r ti.elem)) c.X).ρ slot = some c.w.heap.size from setρ_same _ _ _] at hb
    cases hb
    exact ⟨r, ti.elem, hblk⟩)
  have hcell : ∀ (j : Nat) u, r.toList[j]? = some u → (Cx.mk (setρ c.ρ slot (some c.w.heap.size)) (c.h.set slot (.tok ei.size n)) (c.w.alloc (.cells r ti.elem)) c.X).im c.w.heap.size (0 + j) ∧ (c.w.alloc (.cells r ti.elem)).cell? ⟨c.w.heap.size, 0 + j, none⟩ = some u := fun j u hj => by
    rw [Nat.zero_add]
    refine ⟨⟨by show c.w.heap.size < (c.w.heap.push _).size; simp, (fun h => by have := (hc.xs _ _ h).1; omega), fun i x hx hb => ?_⟩, ?_⟩
    · by_cases hi : i = slot
      · subst hi
        simp only [List.getElem?_set_self hslt] at hx
        cases hx
        show j < n * ei.size
        have := (List.getElem?_eq_some_iff.1 hj).1
        rw [hfl.len, hlen'] at this; exact this
      · simp only [List.getElem?_set_ne (Ne.symm hi)] at hx
        simp only [setρ_ne _ _ hi] at hb
        have := hc.here i x _ hx hb
        omega
    · rw [cell_of_row _ _ j r ti.elem (0, 0) hblk]
      simpa using hj
  refine ⟨_, _, _, hrun, h1, h2, ?_⟩
  split
  · rename_i hpl
    refine RV.sl_of ((flat_plain hfl hpl).mono' h2) (by omega) (by unfold maxLen; omega) c.w.heap.size 0 (fun _ => rfl) hcell ?_ hlen'
    refine ⟨⟨_, List.getElem?_set_self hslt, rfl⟩, fun k' n' e => ?_⟩
    simp only [List.getElem?_set_self hslt] at e
    cases e
    exact ⟨rfl, by omega, fun _ => .inl (by omega)⟩
  · exact RV.psl_of (hfl.mono' h2) (by omega) (by unfold maxLen; omega) c.w.heap.size 0 (fun _ => rfl) hcell hlen'
theorem Cx.push (hc : RelH c) (w' : World) (o : Obj) (hw : w'.heap = c.w.heap.push o) (h1 : w'.os = c.w.os) (h2 : w'.tape = c.w.tape) (h3 : w'.output = c.w.output) : RelH ⟨c.ρ, c.h, w', c.X⟩ ∧ Ev c ⟨c.ρ, c.h, w', c.X⟩ := by
  have hold : ∀ b, b < c.w.heap.size → w'.heap[b]? = c.w.heap[b]? := fun b hb => by rw [hw, Array.getElem?_push_lt hb, Array.getElem?_eq_getElem hb]
  have hev : Ev c ⟨c.ρ, c.h, w', c.X⟩ := ⟨h1, h2, h3, by rw [hw]; simp, rfl, fun b o h => ⟨⟨by rw [hw]; simp; have := h.1; omega, h.2⟩, cell_of_block (hold b h.1)⟩, fun b hb hm => ⟨hold b hb, hm⟩, Nat.le_refl _,
    fun i x hx hf => ⟨x, hx, hf, fun ht => ⟨ht, rfl⟩, fun k n e => ⟨n, e, .inr ⟨rfl, rfl, fun b hb => hold b (hc.here i x b hx hb)⟩⟩⟩, keep_old hold⟩
  exact ⟨⟨hc.inj, fun i x b hx hb => by rw [hw]; simp; have := hc.here i x b hx hb; omega, fun i x hx => (hc.blk i x hx).mono hev rfl fun b _ hb => hold b (hc.here i x b hx hb), fun b o h => ⟨by rw [hw]; simp; have := (hc.xs b o h).1; omega, (hc.xs b o h).2⟩⟩, hev⟩
theorem bytes_flat (l : List UInt8) : Flat c 1 (l.map byteC) (l.map fun b => Value.int .u8 b.toNat) := by
  refine ⟨by simp, fun j e he => ?_, fun j e i a he ha => ?_⟩
  · rw [List.getElem?_map] at he
    simp only [Option.map_eq_some_iff] at he
    obtain ⟨b, _, rfl⟩ := he
    rfl
  · rw [List.getElem?_map] at he
    simp only [Option.map_eq_some_iff] at he
    obtain ⟨b, hb, rfl⟩ := he
    match i, ha with
    | 0, ha =>
      simp only [byteC, List.getElem?_cons_zero, Option.some.injEq] at ha
      subst ha
      exact ⟨rfl, .int .u8 b.toNat, by rw [Nat.mul_one, Nat.add_zero, List.getElem?_map, hb]; rfl, .int _ _⟩
theorem run_str_bytes {s d e : TypeId} (hs : P.underlying s = some .string) (hd : P.underlying d = some (.slice e)) (he : P.underlying e = some (.int .u8)) (q : ByteArray) (hq : q.size ≤ 9223372036854775807) (w : World) :
    ∃ (C : Array Value) (cap : Nat) (fr : Nat × Nat), (convert s d (.string q)).run P w = .ok (.slice (some ⟨w.heap.size, 0, none⟩) q.size cap) { w with heap := w.heap.push (.cells C e fr), drawn := w.drawn + 1 } ∧ q.size ≤ cap ∧ cap ≤ maxLen ∧ ∀ (j : Nat) u, (q.data.toList.map fun b => Value.int .u8 b.toNat)[j]? = some u → C[j]? = some u := by
  obtain ⟨C, hC⟩ : ∃ C : Array Value, C = q.data.map (fun b => Value.int .u8 b.toNat) ++ Array.replicate (grownCap w q.size 0 e - q.size) (.int .u8 0) := ⟨_, rfl⟩
  have hsh : (w.drew.alloc (.cells C e)).shape? w.heap.size = some (e, C.size) := by
    have : (w.drew.alloc (.cells C e)).heap[w.heap.size]? = some (.cells C e) := by
      show (w.heap.push (.cells C e))[w.heap.size]? = _
      simp
    unfold World.shape?
    rw [this]
  have hfr : (w.drew.alloc (.cells C e)).freeze ⟨w.heap.size, C.size, none⟩ 1 = { w with heap := w.heap.push (.cells C e (C.size, C.size + 1)), drawn := w.drawn + 1 } := by
    have hm : ∀ (a : Array Obj) (x : Obj) (f : Obj → Obj), (a.push x).modify a.size f = a.push (f x) := by
      intro a x f
      apply Array.ext
      · simp
      · intro i h1 h2
        rw [Array.getElem_modify]
        by_cases hi : a.size = i
        · subst hi; simp
        · have : i < a.size := by simp at h1; omega
          rw [if_neg hi, Array.getElem_push_lt this, Array.getElem_push_lt this]
    unfold World.freeze
    rw [if_neg (by decide)]
    show ({ w.drew with heap := (w.heap.push (.cells C e)).modify w.heap.size _ } : World) = _
    rw [hm]
    rfl
  refine ⟨C, grownCap w q.size 0 e, (C.size, C.size + 1), ?_, grownCap_ge _ _ _ _, grownCap_le_maxLen _ _ _ _ (by unfold maxLen; omega), fun j u hj => ?_⟩
  · have hrun : (convert s d (.string q)).run P w = ((markStringish ⟨w.heap.size, 0, none⟩).run P (w.drew.alloc (.cells C e))).andThen fun _ w' => .ok (.slice (some ⟨w.heap.size, 0, none⟩) q.size (grownCap w q.size 0 e)) w' := by
      rw [hC]
      simp [convert, Sem.run_bind, run_underlying hs, run_underlying hd, run_underlying he, Conv.stringToBytes, Question.forced, newRow, grownCap]
    rw [hrun]
    simp [markStringish, Go.shape, Go.freeze, Sem.run, Sem.run_bind, hsh, hfr]
  · subst hC
    have hlt := (List.getElem?_eq_some_iff.1 hj).1
    rw [Array.getElem?_append_left (by simpa using hlt)]
    simpa using hj
theorem aconv_ok (hT : TabOk P T) (hc : RelH c) {s d : Nat} {si di : TI} (hs : TIok P s si) (hd : TIok P d di) {v : Value} {x : AV} (hv : RV c v x) {r : ARes} (hr : aconv T si di x = some r) (hp : r.p) :
    r.d = none ∧ ∃ u w', (convert s d v).run P c.w = .ok u w' ∧ RelH ⟨c.ρ, c.h, w', c.X⟩ ∧ Ev c ⟨c.ρ, c.h, w', c.X⟩ ∧ RV ⟨c.ρ, c.h, w', c.X⟩ u r.v := by
  obtain ⟨ds, hds, hss⟩ := hs.desc
  obtain ⟨dd, hdd, hsd⟩ := hd.desc
  unfold sortOk at hss hsd
  unfold aconv at hr
  split at hr
  · rename_i k n
    split at hr
    · rename_i k' hk
      rw [hk] at hsd; subst hsd
      cases hr
      cases hv
      exact ⟨rfl, _, c.w, by simp [convert, Sem.run_bind, run_underlying hds, run_underlying hdd, Conv.intToInt], hc, Ev.refl c, .int _ _⟩
    · cases hr
  · rename_i k l t
    split at hr
    · rename_i h1 h2 h3
      rw [h1] at hss; subst hss
      rw [h3] at hsd; subst hsd
      simp only [Option.map_eq_some_iff] at h2
      obtain ⟨ei, hei, hes⟩ := h2
      obtain ⟨de, hde, hse⟩ := (hT _ _ hei).desc
      unfold sortOk at hse
      rw [hes] at hse; subst hse
      cases hr
      have hb : l = (bytesOf l).map byteC := hp
      obtain ⟨A, cap, xs, rfl, hcap, hm, hf, _, hcell⟩ := hv.flat
      refine ⟨rfl, .string ⟨(bytesOf l).toArray⟩, c.w, ?_, hc, Ev.refl c, .str _ _ (by simp)⟩
      have hll : l.length = (bytesOf l).length := by conv => lhs; rw [hb]; simp
      by_cases hl : l = []
      · subst hl
        rw [List.length_nil, run_convert_bytes_string c.w s d _ _ 0 cap hds hde hdd]
        cases A <;> simp [Conv.bytesToString, loadCells, loadCellsFrom, bytesOf] <;> rfl
      · obtain ⟨b, o, rfl, hcc⟩ := hcell hl
        rw [hll]
        refine run_convert_bytes_back (P := P) c.w s d _ ⟨b, o, none⟩ cap _ hds hde hdd fun j hj => ?_
        rw [Addr.add_mid]
        have hlj : l[j]? = some (byteC (bytesOf l)[j]) := by conv => lhs; rw [hb]; simp [hj]
        have hk : k = 1 := by have := hf.el j _ hlj; simpa [byteC] using this.symm
        subst hk
        obtain ⟨_, u, g1, g2⟩ := hf.rv j _ 0 _ hlj rfl
        rw [Nat.mul_one, Nat.add_zero] at g1
        rw [(hcc j u g1).2]
        cases g2; rfl
    · cases hr
  · split at hr
    · rename_i h1 h2 h3
      rw [h1] at hss; subst hss
      rw [h3] at hsd; subst hsd
      simp only [Option.map_eq_some_iff] at h2
      obtain ⟨ei, hei, hes⟩ := h2
      obtain ⟨de, hde, hse⟩ := (hT _ _ hei).desc
      unfold sortOk at hse
      rw [hes] at hse; subst hse
      cases hr
      cases hv
      refine ⟨rfl, .string .empty, c.w, ?_, hc, Ev.refl c, .str _ _ rfl⟩
      rw [run_convert_bytes_string c.w s d _ _ 0 0 hds hde hdd]
      simp [Conv.bytesToString]
    · cases hr
  · rename_i l
    split at hr
    · rename_i h1 h3
      rw [h1] at hss; subst hss
      rw [h3] at hsd; subst hsd
      cases hr
      cases hv with
      | str q _ hq => exact ⟨rfl, .string q, c.w, by simp [convert, Sem.run_bind, run_underlying hds, run_underlying hdd], hc, Ev.refl c, .str _ _ hq⟩
    · rename_i h1 h3
      rw [h1] at hss; subst hss
      rw [h3] at hsd; subst hsd
      split at hr
      · rename_i h2
        simp only [Option.map_eq_some_iff] at h2
        obtain ⟨ei, hei, hes⟩ := h2
        obtain ⟨de, hde, hse⟩ := (hT _ _ hei).desc
        unfold sortOk at hse
        rw [hes] at hse; subst hse
        cases hr
        cases hv with
        | str q _ hq =>
          subst hq
          have hqs : q.size ≤ 9223372036854775807 := by have h := hp; simp at h; omega
          obtain ⟨C, cap, fr, h1, h2, h3, h4⟩ := run_str_bytes hds hdd hde q hqs c.w
          obtain ⟨g1, g2⟩ := Cx.push hc { c.w with heap := c.w.heap.push (.cells C di.elem fr), drawn := c.w.drawn + 1 } _ rfl rfl rfl rfl
          refine ⟨rfl, _, _, h1, g1, g2, RV.sl_of (t := .no) (bytes_flat _) (by simpa using h2) h3 c.w.heap.size 0 (fun _ => rfl) (fun j u hj => ?_) trivial (by simp)⟩
          rw [Nat.zero_add]
          refine ⟨⟨by simp, (fun h => by have := (hc.xs _ _ h).1; omega), fun i x hx hb => ?_⟩, ?_⟩
          · have := hc.here i x _ hx hb
            omega
          · rw [cell_of_row _ _ j C di.elem fr (by simp)]
            exact h4 j u hj
      · cases hr
    · cases hr
  · cases hr
end
end Go.Proofs.YtgonmnjgodleeaaDoor
