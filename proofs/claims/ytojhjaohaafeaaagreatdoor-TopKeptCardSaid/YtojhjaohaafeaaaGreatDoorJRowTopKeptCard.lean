/-
 The tied card of TopKept holds: it answers true for every input, and its arguments read as they did; the listed tables start as the program lays them.
-/
import Derived.Test.YtojhjaohaafeaaaGreatDoorQh
import Derived.Test.YtojhjaohaafeaaaGreatDoorQs
import Derived.Test.YtojhjaohaafeaaaGreatDoorQt
import Derived.Test.YtojhjaohaafeaaaGreatDoorQy
import Derived.Test.YtojhjaohaafeaaaGreatDoorQz
import Derived.Lib.SmallJoins
namespace Go.Proofs.YtojhjaohaafeaaaGreatDoor
open Go.ChangeShapes Go.WideShapes Go.ChangeAt Go.RowKit Go.Joins
def topKept_args : Array Value := #[.agg #[.int .i64 0, .int .i64 0], .int .i64 0, .slice none 0 0]
theorem topKept_met (os : Os) : laidMet Tryz.prog Rows.topKeptRow.laid ((laidWorld os).forCall (fun _ _ => 0) ⟨#[], topKept_args, []⟩).memory :=
 laidMet_of_run' 8 (by kernel_rfl) (by kernel_rfl)
theorem topKept_reads (os : Os) {H : Type} (enc : TypeId × Value → H) : ∃ places, DataW.whole enc Tryz.prog ((laidWorld os).forCall (fun _ _ => 0) ⟨#[], topKept_args, []⟩).memory Tryz.f4.params.toList Rows.topKeptSpec.vars false topKept_args.toList 20 = some ([.agg [.lit (.int .i64 0), .lit (.int .i64 0)], .lit (.int .i64 0), .nil], [], places) :=
 ⟨[], by kernel_rfl⟩
set_option maxRecDepth 100000 in
theorem topKept_lifted (os : Os) (started : os.Started) (H : Type) (enc : TypeId × Value → H) (F : Stop.Interp) :
  ReturnsInHanded {} Tryz.checked os 4 .any ((OpenSpec.ofChange Rows.topKeptSpec).preRow enc Tryz.prog Tryz.f4 Rows.topKeptRow.domain false Rows.topKeptRow.laid) (((OpenSpec.ofChange Rows.topKeptSpec).at F).post enc Tryz.prog Tryz.f4 false true false false) := by
 obtain ⟨places, hx⟩ := topKept_reads os enc
 refine law_lifted_laid (C := Tryz.checked) lw_own started (by kernel_rfl) Tryz.func4
  (witness_row_at (enc := enc) (C := Tryz.checked) false (laidWorld os) topKept_args rfl (by kernel_rfl) (by kernel_rfl) (by kernel_rfl)
   (OpenSpec.preRow_of_cond 20 hx (by kernel_rfl) (fun k hk => by cases hk) (by kernel_rfl) (topKept_met os)))
  (by kernel_rfl) (by kernel_rfl) rfl Tryz.underlying4 rfl ?_ ?_
 ·intro ds h
  match ds, h with
  | [x0, x1, x2], _ => rfl
 ·intro W base args ds p hval hsz hA hlt
  have hA' : DataW.TrodAll enc Tryz.prog W 0 (fun _ => true) true Tryz.f4.params.toList args.toList ds p := hA
  have hval' : ∀ (j : Nat) t v, Tryz.f4.params[j]? = some t → args[j]? = some v → Value.okWide Tryz.prog W .any base t v := hval
  have hsz' : ∀ (j : Nat) t d, Tryz.f4.params[j]? = some t → ds[j]? = some d → InReach Tryz.prog t d := hsz
  rw [Tryz.params4] at hA' hval' hsz'
  obtain ⟨v0, v1, v2, d0, d1, d2, p0, p1, p2, rfl, rfl, rfl, h0, h1, h2⟩ := trodAll_three hA'
  obtain ⟨_, r0, s, rfl, k0⟩ := rd_struct Tryz.underlying23 reads_size (hval' 0 23 v0 rfl rfl) h0 (hsz' 0 23 d0 rfl rfl)
  obtain ⟨me, rfl, rfl, rfl, w1⟩ := open_int Tryz.underlying3 (hval' 1 3 v1 rfl rfl) h1
  obtain ⟨_, r2, l, e2, k2⟩ := rd_slice Tryz.underlying82 reads_tacts (hval' 2 82 v2 rfl rfl) h2 (hsz' 2 82 d2 rfl rfl)
  cases e2
  exact law_top (lawKept alive_spec s me l k2) W _ (TRel.cons r0 (TRel.cons (.int _ _) (TRel.cons r2 TRel.nil)))

set_option maxRecDepth 100000 in
theorem topKept_said : Rows.TopKeptSaid :=
 OpenClaim.holds_of_cond 4 Tryz.f4 rfl rfl rfl rfl rfl rfl rfl ⟨rfl, rfl, rfl, rfl, rfl⟩ rfl rfl rfl rfl rfl topKept_fn Tryz.func4 topKept_joined topKept_inst topKept_wrap
  (fun os started H enc _ F => by rw [OpenClaim.pre_eq_preRow]; exact topKept_lifted os started H enc F)
theorem topKept_plain (f : FuncId) (fn : Func) (hf : Tryz.pinned.checked.prog.funcNamed "consistory/consistorytop.TopKept" = some f) (hfn : Tryz.pinned.checked.prog.funcs[f]? = some fn) :
  false = Tryz.pinned.checked.prog.looks [] ∧ ∀ (j : Nat) t, fn.params[j]? = some t → Tryz.pinned.checked.prog.wantsStandIn t = false := by
 obtain rfl : f = 4 := Option.some.inj (topKept_fn.symm.trans hf) |>.symm
 obtain rfl : fn = Tryz.f4 := (Option.some.inj (Tryz.func4.symm.trans hfn)).symm
 refine ⟨by kernel_rfl, fun j t ht => ?_⟩
 rw [Tryz.params4] at ht
 have hm := Array.mem_of_getElem? ht
 simp only [List.mem_toArray, List.mem_cons, List.not_mem_nil, or_false] at hm
 rcases hm with rfl | rfl | rfl
 ·exact (show Tryz.prog.wantsStandIn 23 = false by kernel_rfl)
 ·exact (show Tryz.prog.wantsStandIn 3 = false by kernel_rfl)
 ·exact (show Tryz.prog.wantsStandIn 82 = false by kernel_rfl)
theorem topKeptCard_holds : Rows.TopKeptCardSaid :=
 Claim7.holds_tied_plain_at .later [] _ _ _ _ topKept_said (fun _ h => by cases h) topKept_text (fun _ h => by cases h) topKept_row_tie rfl ⟨rfl, rfl⟩ topKept_main rfl topKept_plain topKept_goes
#print axioms topKeptCard_holds
end Go.Proofs.YtojhjaohaafeaaaGreatDoor
