/-
  The shadow of a run: one simple operation on values without addresses (aop): what it asks, what it yields, which block it writes; its evaluation alone. Nothing here speaks of the program.
-/
import Derived.Test.YtgonmnjgodleeaaDoorAr
namespace Go.Proofs.YtgonmnjgodleeaaDoor
open Go.RowKit
inductive TS where
  | bool | int (k : IntKind) | str | ptr | sl | arr (n : Nat) | st | map | fn | iface | other
/-- What the walk must know of a type: its sort, cells, bytes, its element's type, its fields' places and types, its zero. -/
structure TI where
  sort : TS
  size : Nat
  bytes : Nat
  elem : Nat
  offs : List (Nat × Nat)
  zero : List AV
  eqs : List TS
  mutb : Bool
def TI.agg (t : TI) : Bool := match t.sort with | .arr _ | .st => true | _ => false
abbrev TabT := Nat → Option TI
abbrev I64 (n : Int) : Prop := -9223372036854775808 ≤ n ∧ n ≤ 9223372036854775807
/-- The state of a run: its temporaries, its own blocks. -/
structure AState where
  t : List AV
  h : List ABlk
def aput (l : List AV) (d : Option Nat) (v : AV) : List AV := match d with | some i => l.set i v | none => l
def aupd (h : List ABlk) (d : Option (Nat × ABlk)) : List ABlk := match d with | some (i, x) => h.set i x | none => h
def aconst : Value → AV
  | .int k n => .int k n
  | .bool b => .bool b
  | .string s => .str s.data.toList
  | .pointer none => .nilp
  | .slice none 0 0 => .nils
  | .nilFunc => .nilf
  | .nilIface => .nilI
  | .map none => .nilm
  | _ => .junk
def aev (t : List AV) : Operand → AV
  | .tmp i => t.getD i .junk
  | .const v => aconst v
  | .func f => .fn (.func f) [] []
  | .global _ => .junk
/-- Cells laid over others from a place on. -/
def lay (cs : List AV) (o : Nat) (xs : List AV) : List AV := cs.take o ++ xs ++ cs.drop (o + xs.length)
structure ARes where
  p : Prop
  v : AV
  d : Option (Nat × ABlk)
def ok1 (v : AV) : Option ARes := some ⟨True, v, none⟩
def cellsAs (a : Bool) (cs : List AV) : Option AV := if a then some (.agg cs) else match cs with | [v] => some v | _ => none
def aload (h : List ABlk) (ti : TI) : AV → Option ARes
  | .ptr i o => match h[i]? with
    | some (.box cs) => (cellsAs ti.agg ((cs.drop o).take ti.size)).map fun v => ⟨o + ti.size ≤ cs.length, v, none⟩
    | _ => none
  | .rptr cs => (cellsAs ti.agg (cs.take ti.size)).map fun v => ⟨ti.size ≤ cs.length, v, none⟩
  | .eptr i k j o => match h[i]? with
    | some (.rows k' l) => if (((l.getD j []).drop o).take ti.size).all AV.cell then (cellsAs ti.agg (((l.getD j []).drop o).take ti.size)).map fun v => ⟨k' = k ∧ j < l.length ∧ o + ti.size ≤ k, v, none⟩ else none
    | _ => none
  | _ => none
/-- The cells of a value that is no part of nothing. -/
def AV.whole : AV → Bool
  | .tup _ | .cnd _ _ | .junk => false
  | _ => true
def astore (h : List ABlk) (ti : TI) (v : AV) : AV → Option ARes
  | .ptr i o => match h[i]?, v.whole with
    | some (.box cs), true => some ⟨o + ti.size ≤ cs.length ∧ v.cells.length = ti.size, .junk, some (i, .box (lay cs o v.cells))⟩
    | _, _ => none
  | .eptr i k j o => match h[i]?, v.whole with
    | some (.rows k' l), true => some ⟨k' = k ∧ j < l.length ∧ o + ti.size ≤ k ∧ v.cells.length = ti.size ∧ 0 < ti.size, .junk, some (i, .rows k' (l.set j (lay (l.getD j []) o v.cells)))⟩
    | _, _ => none
  | _ => none
def afieldAddr (ti : TI) (f : Nat) (p : AV) : Option ARes :=
  match ti.offs[f]?, p with
  | some (o', _), .ptr i o => ok1 (.ptr i (o + o'))
  | some (o', _), .rptr cs => ok1 (.rptr (cs.drop o'))
  | some (o', _), .eptr i k j o => ok1 (.eptr i k j (o + o'))
  | _, _ => none
def aindexAddr (T : TabT) (ti : TI) : AV → AV → Option ARes
  | .sl k l _, .int _ n => match ti.sort, T ti.elem with
    | .sl, some e => some ⟨k = e.size ∧ 0 < k ∧ 0 ≤ n ∧ n < l.length, .rptr (l.getD n.toNat []), none⟩
    | _, _ => none
  | .psl k l, .int _ n => match ti.sort, T ti.elem with
    | .sl, some e => some ⟨k = e.size ∧ 0 < k ∧ 0 ≤ n ∧ n < l.length, .rptr (l.getD n.toNat []), none⟩
    | _, _ => none
  | .msl i k o m _, .int _ n => match ti.sort, T ti.elem with
    | .sl, some e => some ⟨k = e.size ∧ 0 < k ∧ 0 ≤ n ∧ n < m, .eptr i k (o + n.toNat) 0, none⟩
    | _, _ => none
  | .ptr i o, .int _ n => match ti.sort, T ti.elem with
    | .arr m, some e => some ⟨0 < e.size ∧ 0 ≤ n ∧ n < m, .ptr i (o + n.toNat * e.size), none⟩
    | _, _ => none
  | .rptr cs, .int _ n => match ti.sort, T ti.elem with
    | .arr m, some e => some ⟨0 < e.size ∧ 0 ≤ n ∧ n < m, .rptr (cs.drop (n.toNat * e.size)), none⟩
    | _, _ => none
  | _, _ => none
def apart (ti : TI) (cs : List AV) (o : Nat) : Option ARes := (cellsAs ti.agg ((cs.drop o).take ti.size)).map fun v => ⟨o + ti.size ≤ cs.length, v, none⟩
def acmp (op : BinOp) (a b : Int) : Option Bool :=
  match op with
  | .lss => some (decide (a < b)) | .leq => some (decide (a ≤ b)) | .gtr => some (decide (b < a)) | .geq => some (decide (b ≤ a)) | .eql => some (decide (a = b)) | .neq => some (!decide (a = b))
  | _ => none
def aarith (op : BinOp) (k : IntKind) (a b : Int) : Option ARes :=
  match op with
  | .add => if k = .i64 then some ⟨I64 (a + b), .int k (a + b), none⟩ else ok1 (.int k (k.wrap (a + b)))
  | .sub => if k = .i64 then some ⟨I64 (a - b), .int k (a - b), none⟩ else ok1 (.int k (k.wrap (a - b)))
  | .mul => if k = .i64 then some ⟨I64 (a * b), .int k (a * b), none⟩ else ok1 (.int k (k.wrap (a * b)))
  | .quo => if k = .i64 then some ⟨b ≠ 0 ∧ I64 (a.tdiv b), .int k (a.tdiv b), none⟩ else some ⟨b ≠ 0, .int k (k.wrap (a.tdiv b)), none⟩
  | .rem => some ⟨b ≠ 0, .int k (a.tmod b), none⟩
  | .and => ok1 (.int k (bits .and k a b)) | .or => ok1 (.int k (bits .or k a b)) | .xor => ok1 (.int k (bits .xor k a b)) | .andNot => ok1 (.int k (bits .andNot k a b))
  | _ => none
/-- A shift. -/
def ashift (op : BinOp) (k : IntKind) (a b : Int) : Option ARes :=
  match op with
  | .shl => some ⟨0 ≤ b, .int k (k.wrap (a * 2 ^ min b.toNat k.bits)), none⟩
  | .shr => some ⟨0 ≤ b, .int k (a.fdiv (2 ^ min b.toNat k.bits)), none⟩
  | _ => none
/-- Are cells of scalars the same? -/
def aeqs : List TS → List AV → List AV → Option Bool
  | [], [], [] => some true
  | .int _ :: ss, .int k a :: xs, .int k' b :: ys => if k = k' then (aeqs ss xs ys).map fun r => decide (a = b) && r else none
  | .bool :: ss, .bool a :: xs, .bool b :: ys => (aeqs ss xs ys).map fun r => (a == b) && r
  | .str :: ss, .str a :: xs, .str b :: ys => (aeqs ss xs ys).map fun r => decide (a = b) && r
  | _, _, _ => none
def isc : Operand → Bool | .const _ => true | _ => false
def abin (op : BinOp) (ti : TI) (k : Bool) : AV → AV → Option ARes
  | .int k a, .int k' b => match ashift op k a b with
    | some r => some r
    | none => if k = k' then match acmp op a b with | some r => ok1 (.bool r) | none => aarith op k a b else none
  | .str a, .str b => match op with
    | .eql => ok1 (.bool (decide (a = b))) | .neq => ok1 (.bool (!decide (a = b)))
    | .add => some ⟨((a.length + b.length : Nat) : Int) ≤ 9223372036854775807, .str (a ++ b), none⟩
    | .lss => ok1 (.bool (Op.bytesLess a b))
    | _ => none
  | .bool a, .bool b => match op, ti.sort with | .eql, .bool => ok1 (.bool (a == b)) | .neq, .bool => ok1 (.bool (!(a == b))) | _, _ => none
  | .agg a, .agg b => match op, ti.eqs with
    | .eql, s :: ss => (aeqs (s :: ss) a b).map fun r => ⟨True, .bool r, none⟩
    | .neq, s :: ss => (aeqs (s :: ss) a b).map fun r => ⟨True, .bool (!r), none⟩
    | _, _ => none
  | .iface _ _, .nilI => match op, ti.sort with | .eql, .iface => ok1 (.bool false) | .neq, .iface => ok1 (.bool true) | _, _ => none
  | .msl _ _ _ _ _, .nils => match op, ti.sort with | .eql, .sl => ok1 (.bool false) | .neq, .sl => ok1 (.bool true) | _, _ => none
  | .sl _ l _, .nils => if l.length = 0 then none else match op, ti.sort with | .eql, .sl => ok1 (.bool false) | .neq, .sl => ok1 (.bool true) | _, _ => none
  | .nilI, .nilI => match op, ti.sort, k with | .eql, .iface, true => ok1 (.bool true) | .neq, .iface, true => ok1 (.bool false) | _, _, _ => none
  | _, _ => none
/-- The bytes that cells are, as a list. -/
def byteC (c : UInt8) : List AV := [.int .u8 c.toNat]
def bytesA (l : List UInt8) : AV := .sl 1 (l.map byteC) .no
def cellU : List AV → UInt8
  | [.int .u8 n] => UInt8.ofNat n.toNat
  | _ => 0
/-- The bytes that cells are. -/
def bytesOf (l : List (List AV)) : List UInt8 := l.map cellU
theorem bytesOf_map (l : List UInt8) : bytesOf (l.map byteC) = l := by
  unfold bytesOf
  rw [List.map_map]
  conv => rhs; rw [← List.map_id l]
  congr 1
  funext c
  simp [byteC, cellU]
def aconv (T : TabT) (s d : TI) : AV → Option ARes
  | .int _ n => match d.sort with | .int k => ok1 (.int k (k.wrap n)) | _ => none
  | .sl _ l _ => match s.sort, (T s.elem).map (fun (q : TI) => q.sort), d.sort with
    | .sl, some (.int .u8), .str => some ⟨l = (bytesOf l).map byteC, .str (bytesOf l), none⟩
    | _, _, _ => none
  | .nils => match s.sort, (T s.elem).map (fun (q : TI) => q.sort), d.sort with
    | .sl, some (.int .u8), .str => ok1 (.str [])
    | _, _, _ => none
  | .str l => match s.sort, d.sort with
    | .str, .str => ok1 (.str l)
    | .str, .sl => match (T d.elem).map (fun (q : TI) => q.sort) with
      | some (.int .u8) => some ⟨(l.length : Int) ≤ 9223372036854775807, .sl 1 (l.map byteC) .no, none⟩
      | _ => none
    | _, _ => none
  | _ => none
def alen (ti : TI) : AV → Option ARes
  | .sl _ l _ => match ti.sort with | .sl => ok1 (.int .i64 l.length) | _ => none
  | .psl _ l => match ti.sort with | .sl => ok1 (.int .i64 l.length) | _ => none
  | .msl _ _ _ n _ => match ti.sort with | .sl => ok1 (.int .i64 n) | _ => none
  | .nils => match ti.sort with | .sl => ok1 (.int .i64 0) | _ => none
  | .str l => match ti.sort with | .str => ok1 (.int .i64 l.length) | _ => none
  | _ => none
def aslice (T : TabT) (ti : TI) (lo hi : Option AV) (mx : Option AV) : AV → Option ARes
  | .sl k l _ => match ti.sort, T ti.elem with
    | .sl, some e => match lo, hi, mx with
      | none, none, none => some ⟨k = e.size, .sl k l .no, none⟩
      | some (.int _ a), none, none => some ⟨k = e.size ∧ 0 ≤ a ∧ a ≤ l.length, .sl k (l.drop a.toNat) .no, none⟩
      | none, some (.int _ b), none => some ⟨k = e.size ∧ 0 ≤ b ∧ b ≤ l.length, .sl k (l.take b.toNat) .no, none⟩
      | some (.int _ a), some (.int _ b), none => some ⟨k = e.size ∧ 0 ≤ a ∧ a ≤ b ∧ b ≤ l.length, .sl k ((l.take b.toNat).drop a.toNat) .no, none⟩
      | _, _, _ => none
    | _, _ => none
  | .msl i k o n cap => match ti.sort, T ti.elem with
    | .sl, some e => match lo, hi, mx with
      | none, none, none => some ⟨k = e.size, .msl i k o n cap, none⟩
      | some (.int _ a), none, none => some ⟨k = e.size ∧ 0 ≤ a ∧ a ≤ n, .msl i k (o + a.toNat) (n - a.toNat) (cap - a.toNat), none⟩
      | none, some (.int _ b), none => some ⟨k = e.size ∧ 0 ≤ b ∧ b ≤ cap, .msl i k o b.toNat cap, none⟩
      | some (.int _ a), some (.int _ b), none => some ⟨k = e.size ∧ 0 ≤ a ∧ a ≤ b ∧ b ≤ cap, .msl i k (o + a.toNat) (b.toNat - a.toNat) (cap - a.toNat), none⟩
      | _, _, _ => none
    | _, _ => none
  | .str l => match ti.sort with
    | .str => match lo, hi, mx with
      | some (.int _ a), none, none => some ⟨0 ≤ a ∧ a ≤ l.length, .str (l.drop a.toNat), none⟩
      | none, some (.int _ b), none => some ⟨0 ≤ b ∧ b ≤ l.length, .str (l.take b.toNat), none⟩
      | some (.int _ a), some (.int _ b), none => some ⟨0 ≤ a ∧ a ≤ b ∧ b ≤ l.length, .str ((l.take b.toNat).drop a.toNat), none⟩
      | _, _, _ => none
    | _ => none
  | _ => none
/-- s[:n:n]: full, so it may be appended to. -/
def aslice3 (T : TabT) (slot : Nat) (ti : TI) (lo : Option AV) (hi mx : AV) : AV → Option ARes
  | .sl k l _ => match ti.sort, T ti.elem, lo, hi, mx with
    | .sl, some e, none, .int _ b, .int _ m => some ⟨k = e.size ∧ b = m ∧ 0 ≤ b ∧ b ≤ l.length, .sl k (l.take b.toNat) (.own slot), some (slot, .tok k b.toNat)⟩
    | _, _, _, _, _ => none
  | .msl i k o _ cap => match ti.sort, T ti.elem, lo, hi, mx with
    | .sl, some e, some (.int _ a), .int _ b, .int _ m => some ⟨k = e.size ∧ 0 ≤ a ∧ a ≤ b ∧ b ≤ m ∧ m ≤ cap, .msl i k (o + a.toNat) (b.toNat - a.toNat) (m.toNat - a.toNat), none⟩
    | _, _, _, _, _ => none
  | .nils => match ti.sort, T ti.elem, lo, hi, mx with
    | .sl, some _, none, .int _ b, .int _ m => some ⟨b = 0 ∧ m = 0, .nils, none⟩
    | _, _, _, _, _ => none
  | _ => none
def afield (T : TabT) (ti : TI) (f : Nat) : AV → Option ARes
  | .agg cs => match ti.sort, ti.offs[f]? with
    | .st, some (o, ft) => (T ft).bind fun fi => apart fi cs o
    | _, _ => none
  | _ => none
def aindex (T : TabT) (ti : TI) : AV → AV → Option ARes
  | .agg cs, .int _ n => match ti.sort, T ti.elem with
    | .arr m, some e => (apart e cs (n.toNat * e.size)).map fun r => ⟨(0 ≤ n ∧ n < m) ∧ r.p, r.v, none⟩
    | _, _ => none
  | .str l, .int _ n => match ti.sort with
    | .str => some ⟨0 ≤ n ∧ n < l.length, .int .u8 ((l.getD n.toNat 0).toNat : Int), none⟩
    | _ => none
  | _, _ => none
/-- A row's parts laid into its zero. -/
def abuild (T : TabT) (ti : TI) : List (Nat × AV) → List AV → Option (Prop × List AV)
  | [], cs => some (True, cs)
  | (i, v) :: r, cs => match ti.offs[i]?, v.whole with
    | some (o, ft), true => (T ft).bind fun fi => (abuild T ti r (lay cs o v.cells)).map fun q => ((v.cells.length = fi.size ∧ o + fi.size ≤ cs.length) ∧ q.1, q.2)
    | _, _ => none
/-- A slice's elements, out of their zero. -/
def AV.bare : AV → AV
  | .sl k l _ => .sl k l .no
  | v => v
def aelems (k : Nat) : List (Nat × AV) → List (List AV) → Option (Prop × List (List AV))
  | [], l => some (True, l)
  | (i, v) :: r, l => if v.whole then (aelems k r (l.set i (v.cells.map AV.bare))).map fun q => ((v.cells.length = k ∧ i < l.length) ∧ q.1, q.2) else none
/-- Is nothing in it of the run's own? -/
def plains (l : List (List AV)) : Bool := l.all fun e => e.all AV.plain
/-- What is appended. -/
def asrc (k : Nat) (ui : TI) : AV → Option (List (List AV))
  | .sl k' l _ => match ui.sort with | .sl => if k' = k then some l else none | _ => none
  | .nils => match ui.sort with | .sl => some [] | _ => none
  | .str s => match ui.sort with | .str => if k = 1 then some (s.map byteC) else none | _ => none
  | _ => none
def aappend (T : TabT) (slot : Nat) (h : List ABlk) (ti ui : TI) (s x : AV) : Option ARes :=
  match ti.sort, T ti.elem with
  | .sl, some e => (asrc e.size ui x).bind fun y => match s with
    | .nils => some ⟨y.length * e.bytes ≤ 140737488355328 ∧ y.length ≤ 4611686018427387904, .sl e.size y (.own slot), some (slot, .tok e.size y.length)⟩
    | .sl k l (.own i) => match h[i]? with
      | some (.tok k' n) => some ⟨k = e.size ∧ k' = k ∧ n = l.length ∧ (l.length + y.length) * e.bytes ≤ 140737488355328 ∧ l.length + y.length ≤ 4611686018427387904, .sl k (l ++ y) (.own i), some (i, .tok k (l.length + y.length))⟩
      | _ => none
    | _ => none
  | _, _ => none
/-- What is appended, of rows that may be written too. -/
def asrcM (k : Nat) (h : List ABlk) (ui : TI) (x : AV) : Option (Prop × List (List AV)) :=
  match x with
  | .msl j k2 o2 n2 _ => match ui.sort, h[j]? with
    | .sl, some (.rows k3 M) => some (k2 = k ∧ k3 = k ∧ o2 + n2 ≤ M.length ∧ ∀ x ∈ (M.drop o2).take n2, ∀ a ∈ x, a.cell = true, (M.drop o2).take n2)
    | _, _ => none
  | x => (asrc k ui x).map fun y => (∀ x ∈ y, ∀ a ∈ x, a.cell = true, y)
/-- 'append', in place where there is room for it. Rows that may be written are made by rules of their own. -/
def aappendM (T : TabT) (slot : Nat) (h : List ABlk) (ti ui : TI) (s x : AV) : Option ARes :=
  match s with
  | .msl i k o n cap => match ti.sort, T ti.elem, h[i]? with
    | .sl, some e, some (.rows k' L) => (asrcM e.size h ui x).bind fun q => if n + q.2.length ≤ cap then some ⟨k = e.size ∧ k' = k ∧ 0 < k ∧ o + n + q.2.length ≤ L.length ∧ q.1, .msl i k o (n + q.2.length) cap, some (i, .rows k' (L.take (o + n) ++ q.2 ++ L.drop (o + n + q.2.length)))⟩ else none
    | _, _, _ => none
  | s => aappend T slot h ti ui s x
/-- 'clear' of rows. -/
def aclear (T : TabT) (h : List ABlk) (ti : TI) : AV → Option ARes
  | .msl i k o n _ => match ti.sort, T ti.elem, h[i]? with
    | .sl, some e, some (.rows k' L) => some ⟨k = e.size ∧ k' = k ∧ 0 < k ∧ o + n ≤ L.length, .junk, some (i, .rows k' (L.take o ++ List.replicate n e.zero ++ L.drop (o + n)))⟩
    | _, _, _ => none
  | _ => none
/-- Are the cells of two keys the same? -/
def akeqs : List AV → List AV → Option Bool
  | [], [] => some true
  | .int k a :: xs, .int k' b :: ys => if k = k' then (akeqs xs ys).map fun r => decide (a = b) && r else none
  | .str a :: xs, .str b :: ys => (akeqs xs ys).map fun r => decide (a = b) && r
  | _, _ => none
/-- Are two keys the same? -/
def akeq : AV → AV → Option Bool
  | .int k a, .int k' b => if k = k' then some (decide (a = b)) else none
  | .str a, .str b => some (decide (a = b))
  | .agg a, .agg b => akeqs a b
  | _, _ => none
/-- Where a key stands. -/
def afind (key : AV) : List (AV × AV) → Nat → Option (Option Nat)
  | [], _ => some none
  | p :: l, j => match akeq key p.1 with
    | some true => some (some j)
    | some false => afind key l (j + 1)
    | none => none
/-- Cells of a key that is a struct of numbers and texts. -/
def keyCs : List TS → List AV → Bool
  | [], [] => true
  | .int _ :: ss, .int _ _ :: cs => keyCs ss cs
  | .str :: ss, .str _ :: cs => keyCs ss cs
  | _, _ => false
/-- Keys that are compared at once. -/
def keyTy (ki : TI) : AV → Bool
  | .int _ _ => match ki.sort with | .int _ => true | _ => false
  | .str _ => match ki.sort with | .str => true | _ => false
  | .agg cs => match ki.sort, ki.eqs with | .st, s :: ss => keyCs (s :: ss) cs | _, _ => false
  | _ => false
def mapK (T : TabT) (ti : TI) : Option (TI × TI) := match ti.sort, ti.offs with
  | .map, [(_, k)] => (T k).bind fun ki => (T ti.elem).map fun ei => (ki, ei)
  | _, _ => none
def pset (l : List (AV × AV)) (j : Nat) (v : AV) : List (AV × AV) := l.modify j fun p => (p.1, v)
def amapEntry (T : TabT) (h : List ABlk) (ti : TI) : AV → AV → Option ARes
  | .mp i, key => match h[i]?, mapK T ti with
    | some (.map l), some (ki, ei) => match keyTy ki key, afind key l 0, cellsAs ei.agg ei.zero with
      | true, some (some j), some _ => some ⟨True, .tup [((l[j]?).map (·.2)).getD .junk, .int .i64 j], some (i, .map l)⟩
      | true, some none, some z => some ⟨True, .tup [z, .int .i64 l.length], some (i, .map (l ++ [(key, z)]))⟩
      | _, _, _ => none
    | _, _ => none
  | _, _ => none
def amapUpdate (T : TabT) (h : List ABlk) (ti : TI) : AV → AV → AV → Option ARes
  | .mp i, key, v => match h[i]?, mapK T ti with
    | some (.map l), some (ki, _) => match keyTy ki key, afind key l 0 with
      | true, some (some j) => some ⟨True, .junk, some (i, .map (pset l j v))⟩
      | true, some none => some ⟨True, .junk, some (i, .map (l ++ [(key, v)]))⟩
      | _, _ => none
    | _, _ => none
  | _, _, _ => none
def aentryStore (h : List ABlk) : AV → AV → AV → Option ARes
  | .mp i, .int _ n, v => match h[i]? with
    | some (.map l) => some ⟨0 ≤ n ∧ n < l.length, .junk, some (i, .map (pset l n.toNat v))⟩
    | _ => none
  | _, _, _ => none
def alookup (T : TabT) (h : List ABlk) (ti : TI) (ok : Bool) : AV → AV → Option ARes
  | .mp i, key => match h[i]?, mapK T ti with
    | some (.map l), some (ki, ei) => match keyTy ki key, afind key l 0, cellsAs ei.agg ei.zero with
      | true, some (some j), some _ => ok1 (if ok then .tup [((l[j]?).map (·.2)).getD .junk, .bool true] else ((l[j]?).map (·.2)).getD .junk)
      | true, some none, some z => ok1 (if ok then .tup [z, .bool false] else z)
      | _, _, _ => none
    | _, _ => none
  | _, _ => none
def arange (h : List ABlk) (slot : Nat) (ti : TI) : AV → Option ARes
  | .mp i => match ti.sort, h[i]? with
    | .map, some (.map l) => some ⟨True, .ptr slot 0, some (slot, .iter i l.length [])⟩
    | _, _ => none
  | _ => none
def acap (ti : TI) : AV → Option ARes
  | .msl _ _ _ _ c => match ti.sort with | .sl => ok1 (.int .i64 c) | _ => none
  | .nils => match ti.sort with | .sl => ok1 (.int .i64 0) | _ => none
  | _ => none
/-- 'copy'. -/
def acopy (T : TabT) (h : List ABlk) (ti : TI) : AV → AV → Option ARes
  | .msl i k o n _, s => match h[i]?, ti.sort, T ti.elem with
    | some (.rows k' L), .sl, some ei => match s with
      | .sl k2 l _ => some ⟨k = ei.size ∧ k' = k ∧ k2 = k ∧ 0 < k ∧ o + min l.length n ≤ L.length, .int .i64 ((min l.length n : Nat) : Int), some (i, .rows k' (L.take o ++ l.take (min l.length n) ++ L.drop (o + min l.length n)))⟩
      | .msl j k2 o2 n2 _ => match h[j]? with
        | some (.rows k3 M) => some ⟨k = ei.size ∧ k' = k ∧ k2 = k ∧ k3 = k ∧ 0 < k ∧ o + min n2 n ≤ L.length ∧ o2 + min n2 n ≤ M.length ∧ ∀ x ∈ (M.drop o2).take (min n2 n), ∀ a ∈ x, a.cell = true, .int .i64 ((min n2 n : Nat) : Int), some (i, .rows k' (L.take o ++ (M.drop o2).take (min n2 n) ++ L.drop (o + min n2 n)))⟩
        | _ => none
      | _ => none
    | _, _, _ => none
  | _, _ => none
/-- A simple operation; slot: where a new block may be put. -/
def aop (T : TabT) (slot : Nat) (t : List AV) (h : List ABlk) (op : Op) : Option ARes :=
  match op with
  | .move x | .assign x => ok1 (aev t x)
  | .pick c x y => match aev t c with | .bool true => ok1 (aev t x) | .bool false => ok1 (aev t y) | _ => none
  | .box _ x => if (aev t x).whole then some ⟨True, .ptr slot 0, some (slot, .box (aev t x).cells)⟩ else none
  | .alloc e => (T e).map fun ti => ⟨True, .ptr slot 0, some (slot, .box ti.zero)⟩
  | .load e x => (T e).bind fun ti => aload h ti (aev t x)
  | .store e x v => (T e).bind fun ti => astore h ti (aev t v) (aev t x)
  | .fieldAddr e x f => (T e).bind fun ti => match ti.sort with | .st => afieldAddr ti f (aev t x) | _ => none
  | .indexAddr e x i => (T e).bind fun ti => aindexAddr T ti (aev t x) (aev t i)
  | .field e x f => (T e).bind fun ti => afield T ti f (aev t x)
  | .index e x i => (T e).bind fun ti => aindex T ti (aev t x) (aev t i)
  | .binOp op e x y _ => (T e).bind fun ti => abin op ti (isc x || isc y) (aev t x) (aev t y)
  | .unOp .not _ x => match aev t x with | .bool b => ok1 (.bool !b) | _ => none
  | .unOp .neg _ x => match aev t x with | .int .i64 n => some ⟨I64 (-n), .int .i64 (-n), none⟩ | _ => none
  | .convert s d x => (T s).bind fun si => (T d).bind fun di => aconv T si di (aev t x)
  | .slice e x lo hi none => (T e).bind fun ti => aslice T ti (lo.map (aev t)) (hi.map (aev t)) none (aev t x)
  | .slice e x lo (some hi) (some mx) => (T e).bind fun ti => aslice3 T slot ti (lo.map (aev t)) (aev t hi) (aev t mx) (aev t x)
  | .makeMap e none => (T e).bind fun ti => match ti.sort with | .map => some ⟨True, .mp slot, some (slot, .map [])⟩ | _ => none
  | .mapEntry e m k => (T e).bind fun ti => amapEntry T h ti (aev t m) (aev t k)
  | .mapUpdate e m k v | .insert e m k v => (T e).bind fun ti => amapUpdate T h ti (aev t m) (aev t k) (aev t v)
  | .entryStore _ m s v => aentryStore h (aev t m) (aev t s) (aev t v)
  | .lookup e m k ok => (T e).bind fun ti => alookup T h ti ok (aev t m) (aev t k)
  | .range e m => (T e).bind fun ti => arange h slot ti (aev t m)
  | .extract x i => match aev t x with | .tup vs => (vs[i]?).map fun v => ⟨True, v, none⟩ | _ => none
  | .nilCheck x => match aev t x with | .ptr i o => ok1 (.ptr i o) | .eptr i k j o => ok1 (.eptr i k j o) | .rptr cs => ok1 (.rptr cs) | _ => none
  | .makeFunc (.func f) a b => ok1 (.fn (.func f) (a.toList.map (aev t)) (b.toList.map (aev t)))
  | .makeInterface e x => (T e).bind fun ti => match ti.sort with | .iface => none | .other => none | _ => ok1 (.iface e (aev t x))
  | .build e ps => (T e).bind fun ti => match ti.sort with | .st => (abuild T ti (ps.toList.map fun q => (q.1, aev t q.2)) ti.zero).map fun q => ⟨q.1, .agg q.2, none⟩ | _ => none
  | .call { callee := .builtin .len, args, argTypes } => match args.toList, argTypes.toList with | [x], [e] => (T e).bind fun ti => alen ti (aev t x) | _, _ => none
  | .buildSlice e n ps => (T e).bind fun ti => match ti.sort, T ti.elem with
    | .sl, some ei => if (ti.mutb && n == 0) = true then (aelems ei.size (ps.toList.map fun q => (q.1, aev t q.2)) (List.replicate n ei.zero)).map fun q => ⟨n * ei.size ≤ 16777216 ∧ 0 < ei.size ∧ q.1, .msl slot ei.size 0 n n, some (slot, .rows ei.size q.2)⟩
      else (aelems ei.size (ps.toList.map fun q => (q.1, aev t q.2)) (List.replicate n ei.zero)).map fun q => ⟨n * ei.size ≤ 16777216 ∧ 0 < ei.size ∧ q.1, if plains q.2 then .sl ei.size q.2 (.own slot) else .psl ei.size q.2, some (slot, .tok ei.size n)⟩
    | _, _ => none
  | .call { callee := .builtin .append, args, argTypes } => match args.toList, argTypes.toList with | [s, x], [e, f] => (T e).bind fun ti => (T f).bind fun ui => aappendM T slot h ti ui (aev t s) (aev t x) | _, _ => none
  | .call { callee := .builtin .min, args, .. } => match args.toList.map (aev t) with | [.int .i64 a, .int .i64 b] => ok1 (.int .i64 (min a b)) | _ => none
  | .call { callee := .builtin .max, args, .. } => match args.toList.map (aev t) with | [.int .i64 a, .int .i64 b] => ok1 (.int .i64 (max a b)) | _ => none
  | .makeSlice e l m => (T e).bind fun ti => match ti.sort, T ti.elem, aev t l, aev t m with
    | .sl, some ei, .int _ a, .int _ b => some ⟨0 ≤ a ∧ a ≤ b ∧ b.toNat * ei.size ≤ 16777216 ∧ b.toNat * ei.bytes ≤ 140737488355328 ∧ 0 < ei.size, .msl slot ei.size 0 a.toNat b.toNat, some (slot, .rows ei.size (List.replicate b.toNat ei.zero))⟩
    | _, _, _, _ => none
  | .call { callee := .builtin .cap, args, argTypes } => match args.toList, argTypes.toList with | [x], [e] => (T e).bind fun ti => acap ti (aev t x) | _, _ => none
  | .call { callee := .builtin .clear, args, argTypes } => match args.toList, argTypes.toList with | [x], [e] => (T e).bind fun ti => aclear T h ti (aev t x) | _, _ => none
  | .call { callee := .builtin .copy, args, argTypes } => match args.toList, argTypes.toList with | [d, s], [e, _] => (T e).bind fun ti => acopy T h ti (aev t d) (aev t s) | _, _ => none
  | _ => none
/-- Does it need a place for a new block? -/
def needs (t : List AV) : Op → Bool
  | .box .. | .alloc _ | .buildSlice .. | .makeMap .. | .makeSlice .. | .range .. => true
  | .slice _ _ _ _ mx => mx.isSome
  | .call { callee := .builtin .append, args, .. } => match (args[0]?).map (aev t) with | some (.sl _ _ (.own _)) => false | some (.msl _ _ _ _ _) => false | _ => true
  | _ => false
end Go.Proofs.YtgonmnjgodleeaaDoor
