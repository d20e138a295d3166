/-
  Strings and bytes: string(b), append(b, s...). Nothing here speaks of the program.
-/
import Derived.Test.YtpigfpnpabnnbaaRep
import Derived.Lib.AppendStr
import Derived.Laws.IdiomStrings
namespace Go.Proofs.Ytpigfpnpabnnbaa
open Go.ChangeShapes Go.WideShapes Go.ChangeAt Go.RowKit Go.Deep

theorem strCells_bytes (s : ByteArray) : Lib.strCells s = s.data.toList.map byteV := rfl
section
variable {P : Program} {w : World}
/-- string(b). -/
theorem run_str (src dst e : TypeId) (hs : P.underlying src = some (.slice e)) (he : P.underlying e = some (.int .u8)) (hd : P.underlying dst = some .string) (A : Option Addr) (n c B : Nat) (l : List UInt8) (hl : l.length = n) (h : Sl byteR 1 B w A l) :
    (convert src dst (.slice A n c)).run P w = .ok (.string ⟨l.toArray⟩) w := by
  subst hl
  by_cases hn : l = []
  · subst hn
    rw [List.length_nil, run_convert_bytes_string w src dst e _ 0 c hs he hd]
    cases A <;> simp [Conv.bytesToString, loadCells, loadCellsFrom] <;> rfl
  · obtain ⟨xs, hr, hc⟩ := h.cells
    obtain ⟨b, o, rfl, hcell⟩ := hr.2 (List.length_pos_iff.2 hn)
    refine run_convert_bytes_back (P := P) w src dst e ⟨b, o, none⟩ c l hs he hd fun j hj => ?_
    rw [Addr.add_mid]
    refine hcell j _ ?_
    rw [cs_bytes.1 hc, List.getElem?_map, List.getElem?_eq_getElem hj]
    rfl
theorem wpl_str {ops : Array Oper} {rest : List Oper} {o : Oper} {a : Act} {Q : Exit → Act → World → Prop} (hgd : o.guard = none) (src dst e : TypeId) (x : Operand) (ho : o.op = .convert src dst x)
    (hs : P.underlying src = some (.slice e)) (he : P.underlying e = some (.int .u8)) (hd : P.underlying dst = some .string) (A : Option Addr) (n c B : Nat) (l : List UInt8) (hx : a.eval x = .slice A n c) (hl : l.length = n) (h : Sl byteR 1 B w A l)
    (hK : wpList P ops Q rest (a.put o.dst (.string ⟨l.toArray⟩)) w) : wpList P ops Q (o :: rest) a w := by
  refine wpList_plain hgd fun _ hK' => ?_
  unfold Oper.wp execOp
  simp only [ho, hx, Sem.run_bind, run_str src dst e hs he hd A n c B l hl h, Result.andThen]
  exact hK' _ _ hK
/-- append(b, s...), s a string. -/
theorem wpl_append_str {ops : Array Oper} {rest : List Oper} {o : Oper} {a : Act} {Q : Exit → Act → World → Prop} {base e : Nat} (hgd : o.guard = none) (s x : Operand) (t u : TypeId)
    (ho : o.op = .call { callee := .builtin .append, args := #[s, x], argTypes := #[t, u] }) (T : Tab P t e 1 1) (hz : (P.info? e).bind (·.zero) = some (.int .u8 0)) (hu : P.underlying u = some .string) (v : Value) (l : List UInt8) (hs : a.eval s = v) (hown : Own byteR 1 e base 0 w v l)
    (q : ByteArray) (hx : a.eval x = .string q) (hlen : l.length + q.size ≤ 140737488355328) (hbase : base ≤ w.heap.size)
    (h : ∀ v' w', Own byteR 1 e base 0 w' v' (l ++ q.data.toList) → Below base w w' → w.grownBy w' v.ownBlock → wpList P ops Q rest (a.put o.dst v') w') : wpList P ops Q (o :: rest) a w := by
  obtain ⟨i, z, hi, hzz, hsz, hb, _⟩ := T.hi
  have hz' : i.zero = some (.int .u8 0) := by rw [hi] at hz; simpa using hz
  obtain ⟨xs, ho', hxs⟩ := hown
  obtain ⟨v', w', hrun, h2, h3, _⟩ := Lib.run_append_own_string (P := P) w base t u o.type e i T.ht hu hi hz' hsz hb v l.length xs ho' q (by unfold maxLen; omega) hlen hbase
  have hbl : Below base w w' := (Below.refl _ _).grown h3 hbase (fun k hk => (ho'.lt k hk).1)
  have hql : q.data.toList.length = q.size := by simp
  refine wpList_plain hgd fun _ hK => ?_
  unfold Oper.wp execOp
  simp only [ho, resolve, invoke, builtin, Sem.run_bind, Sem.run_pure, Result.andThen_ok, List.map_toArray, List.map_cons, List.map_nil, hs, hx, hrun]
  refine hK _ _ (h v' w' ⟨xs ++ Lib.strCells q, by rw [List.length_append, hql]; exact h2, ?_⟩ hbl h3)
  rw [cs_bytes, cs_bytes.1 hxs, strCells_bytes, List.map_append]
end
end Go.Proofs.Ytpigfpnpabnnbaa
