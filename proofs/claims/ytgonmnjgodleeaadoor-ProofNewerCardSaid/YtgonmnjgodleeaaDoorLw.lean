/-
  A world that holds the listed variables; a law's row whose package-level variables are listed, out of its walk.
-/
import Derived.Test.YtgonmnjgodleeaaDoorOpen
import Derived.Deep.DeepHandedRow
import Derived.Test.YtgonmnjgodleeaaDoorCards
import Derived.Test.YtgonmnjgodleeaaDoorTie
import Derived.WalkKit
import Derived.ProofKit
import Derived.Lib.LaidTab
namespace Go.Proofs.YtgonmnjgodleeaaDoor
open Go.ChangeShapes Go.WideShapes Go.ChangeAt Go.RowKit Go.Deep
/-- A LAW's ROW, out of its walk: its variables are listed, the walk leans on none. -/
theorem law_lifted_laid {C : Checked} {os : Os} {k : FuncId} {f : Func} {s : ChangeSpec} {H : Type} {enc : TypeId × Value → H} {tb : TypeId} {F : Stop.Interp} {laid : List (String × DataW Unit)}
    (own : ownKnob C.prog.godebug = none) (started : os.Started) (noInit : C.prog.inits.idxOf? k = none) (hfn : C.prog.funcs[k]? = some f)
    (witness : ∃ (w : World) (tape : Tape) (i : Input), w.os = os ∧ (w.forCall tape i).Shaped C.prog ∧ i.vars = [] ∧ Input.okWide C.prog (w.forCall tape i) .any w.heap.size k i ∧
      (OpenSpec.ofChange s).preRow enc C.prog f [] false laid (w.forCall tape i).memory i.args ∧ Assume.holds {} C.prog (lone (Frame.enter C.prog k i.args .normal) [] (w.forCall tape i)))
    (hl : laidOutB C.prog = true) (hts : (f.params.toList.all fun t => C.prog.readableRec t && decide (t < C.prog.types.size)) = true)
    (hres : f.resultTypes = #[tb]) (hbool : C.prog.underlying tb = some .bool) (hvars : s.vars = [])
    (hspec : ∀ ds : List (DataW H), ds.length = f.params.toList.length → s.fn H ds = { results := [.lit (.bool true)], args := ds })
    (walk : ∀ (W : World) (base : Nat) (args : Array Value) (ds : List (DataW H)) (p : List MemPlace),
      (∀ (j : Nat) t v, f.params[j]? = some t → args[j]? = some v → Value.okWide C.prog W .any base t v) →
      (∀ (j : Nat) t d, f.params[j]? = some t → ds[j]? = some d → InReach C.prog t d) →
      DataW.TrodAll enc C.prog W 0 (fun _ => true) true f.params.toList args.toList ds p → (∀ x ∈ p, x.block < W.heap.size) →
      Calls C.prog k args W fun e W' => e = .returned (.bool true) ∧ Below W.heap.size W W') :
    ReturnsInHanded {} C os k .any ((OpenSpec.ofChange s).preRow enc C.prog f [] false laid) (((OpenSpec.ofChange s).at F).post enc C.prog f false true false false) := by
  refine returnsInHanded_of_row (C := C) (s := OpenSpec.ofChange s) own started noInit hfn witness ?_
  intro W base args ds gs before hval hW0 _ _ hsz _ _ _
  have hW : DataW.Whole enc C.prog f.params.toList s.vars false W args.toList ds gs before := hW0
  show Calls C.prog k args W fun e W' => ∃ v, e = .returned v ∧ s.post enc C.prog f false true false false W args v W'
  have hW' := hW
  have hlt : ∀ x ∈ before, x.block < W.heap.size := fun x hx => by simpa using hW.lt x hx
  obtain ⟨p, q, hA, hV, rfl, hfz, hnd⟩ := hW
  rw [hvars] at hV
  obtain ⟨rfl, rfl⟩ := trodVars_none hV
  rw [List.append_nil] at hlt
  have hlen := trodAll_length _ _ _ _ hA
  have hs := hspec ds hlen
  have hin : ∀ (j : Nat) t d, f.params[j]? = some t → ds[j]? = some d → InReach C.prog t d := fun j t d ht hd n hn => by
    have hj : j < f.params.toList.length := by
      have := (Array.getElem?_eq_some_iff.1 ht).1
      simpa using this
    have := List.all_eq_true.1 hsz n (DataW.weights_mem_each (j := j) (t := t) (d := d) (by rw [List.getElem?_append_left hj]; simpa using ht) (by rw [List.append_nil]; exact hd) n hn)
    simpa using this
  refine (walk W base args ds p hval hin hA hlt).mono fun e W' ⟨he, hb⟩ => ⟨_, he, ds, [], p ++ [], [], p, [], hW', ?_, ?_, ?_, hb.frame _, fun h => by cases h⟩
  · simp only [List.append_nil, hs, hres]
    exact trodAll_mk1 (shut_bool hbool true)
  · simp only [List.append_nil, hs]
    exact trodAll_below hl hb _ _ _ _ hts hA hlt
  · rw [hvars]
    simp only [List.append_nil, hs]
    exact (rfl : ([] : List MemPlace) = [])
theorem lw_own : ownKnob Tryd.prog.godebug = none := by kernel_rfl
def putCells (cs : Array Value) : Obj → Obj
  | .cells _ t frozen => .cells cs t frozen
  | o => o
def tabA : Array Value := #[.int .u64 1, .int .u64 10, .int .u64 100, .int .u64 1000, .int .u64 10000, .int .u64 100000, .int .u64 1000000, .int .u64 10000000, .int .u64 100000000, .int .u64 1000000000, .int .u64 10000000000, .int .u64 100000000000, .int .u64 1000000000000, .int .u64 10000000000000, .int .u64 100000000000000, .int .u64 1000000000000000, .int .u64 10000000000000000, .int .u64 100000000000000000, .int .u64 1000000000000000000, .int .u64 10000000000000000000]
def tabB : Array Value := #[.int .u8 0, .int .u8 1, .int .u8 28, .int .u8 2, .int .u8 29, .int .u8 14, .int .u8 24, .int .u8 3, .int .u8 30, .int .u8 22, .int .u8 20, .int .u8 15, .int .u8 25, .int .u8 17, .int .u8 4, .int .u8 8, .int .u8 31, .int .u8 27, .int .u8 13, .int .u8 23, .int .u8 21, .int .u8 19, .int .u8 16, .int .u8 7, .int .u8 26, .int .u8 12, .int .u8 18, .int .u8 6, .int .u8 11, .int .u8 5, .int .u8 10, .int .u8 9]
def tabC : Array Value := #[.int .u8 0, .int .u8 1, .int .u8 56, .int .u8 2, .int .u8 57, .int .u8 49, .int .u8 28, .int .u8 3, .int .u8 61, .int .u8 58, .int .u8 42, .int .u8 50, .int .u8 38, .int .u8 29, .int .u8 17, .int .u8 4, .int .u8 62, .int .u8 47, .int .u8 59, .int .u8 36, .int .u8 45, .int .u8 43, .int .u8 51, .int .u8 22, .int .u8 53, .int .u8 39, .int .u8 33, .int .u8 30, .int .u8 24, .int .u8 18, .int .u8 12, .int .u8 5, .int .u8 63, .int .u8 55, .int .u8 48, .int .u8 27, .int .u8 60, .int .u8 41, .int .u8 37, .int .u8 16, .int .u8 46, .int .u8 35, .int .u8 44, .int .u8 21, .int .u8 52, .int .u8 32, .int .u8 23, .int .u8 11, .int .u8 54, .int .u8 26, .int .u8 40, .int .u8 15, .int .u8 34, .int .u8 20, .int .u8 31, .int .u8 10, .int .u8 25, .int .u8 14, .int .u8 19, .int .u8 9, .int .u8 13, .int .u8 8, .int .u8 7, .int .u8 6]
/-- The settled one, the tables holding what their initialisers lay. -/
noncomputable def laidWorld (os : Os) : World :=
  { World.holding Tryd.prog os ⟨#[], #[], []⟩ with heap := (((World.holding Tryd.prog os ⟨#[], #[], []⟩).heap.modify 0 (putCells tabA)).modify 1 (putCells tabB)).modify 2 (putCells tabC) }
end Go.Proofs.YtgonmnjgodleeaaDoor
