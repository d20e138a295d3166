/-
  The tied card of ProofMakes holds: it answers true for every input, and its arguments read as they did; the listed tables start as the program lays them.
-/
import Derived.Test.YtgonmnjgodleeaaDoorPs
import Derived.Test.YtgonmnjgodleeaaDoorPv
import Derived.Test.YtgonmnjgodleeaaDoorRdP
import Derived.Test.YtgonmnjgodleeaaDoorLw
import Derived.Lib.SmallJoins
namespace Go.Proofs.YtgonmnjgodleeaaDoor
open Go.ChangeShapes Go.WideShapes Go.ChangeAt Go.RowKit Go.Joins
def proofMakes_args : Array Value := #[.agg #[.int .i64 0, .int .i64 0], .agg #[.slice none 0 0]]
theorem proofMakes_met (os : Os) : laidMet Tryd.prog Rows.proofMakesRow.laid ((laidWorld os).forCall (fun _ _ => 0) ⟨#[], proofMakes_args, []⟩).memory :=
  laidMet_of_run' 8 (by kernel_rfl) (by kernel_rfl)
theorem proofMakes_reads (os : Os) {H : Type} (enc : TypeId × Value → H) : ∃ places, DataW.whole enc Tryd.prog ((laidWorld os).forCall (fun _ _ => 0) ⟨#[], proofMakes_args, []⟩).memory Tryd.f3.params.toList Rows.proofMakesSpec.vars false proofMakes_args.toList 20 = some ([.agg [.lit (.int .i64 0), .lit (.int .i64 0)], .agg [.nil]], [], places) :=
  ⟨[], by kernel_rfl⟩
set_option maxRecDepth 100000 in
theorem proofMakes_lifted (os : Os) (started : os.Started) (H : Type) (enc : TypeId × Value → H) (F : Stop.Interp) :
    ReturnsInHanded {} Tryd.checked os 3 .any ((OpenSpec.ofChange Rows.proofMakesSpec).preRow enc Tryd.prog Tryd.f3 Rows.proofMakesRow.domain false Rows.proofMakesRow.laid) (((OpenSpec.ofChange Rows.proofMakesSpec).at F).post enc Tryd.prog Tryd.f3 false true false false) := by
  obtain ⟨places, hx⟩ := proofMakes_reads os enc
  refine law_lifted_laid (C := Tryd.checked) lw_own started (by kernel_rfl) Tryd.func3
    (witness_row_at (enc := enc) (C := Tryd.checked) false (laidWorld os) proofMakes_args rfl (by kernel_rfl) (by kernel_rfl) (by kernel_rfl)
      (OpenSpec.preRow_of_cond 20 hx (by kernel_rfl) (fun k hk => by cases hk) (by kernel_rfl) (proofMakes_met os)))
    (by kernel_rfl) (by kernel_rfl) rfl Tryd.underlying4 rfl ?_ ?_
  · intro ds h
    match ds, h with
    | [x0, x1], _ => rfl
  · intro W base args ds p hval hsz hA hlt
    have hA' : DataW.TrodAll enc Tryd.prog W 0 (fun _ => true) true Tryd.f3.params.toList args.toList ds p := hA
    have hval' : ∀ (j : Nat) t v, Tryd.f3.params[j]? = some t → args[j]? = some v → Value.okWide Tryd.prog W .any base t v := hval
    have hsz' : ∀ (j : Nat) t d, Tryd.f3.params[j]? = some t → ds[j]? = some d → InReach Tryd.prog t d := hsz
    rw [Tryd.params3] at hA' hval' hsz'
    obtain ⟨v0, v1, d0, d1, p0, p1, rfl, rfl, rfl, h0, h1⟩ := trodAll_two hA'
    obtain ⟨_, r0, s, rfl, k0⟩ := rd_struct Tryd.underlying23 reads_size (hval' 0 23 v0 rfl rfl) h0 (hsz' 0 23 d0 rfl rfl)
    obtain ⟨_, r1, l, rfl, k1⟩ := rd_struct Tryd.underlying26 reads_tally (hval' 1 26 v1 rfl rfl) h1 (hsz' 1 26 d1 rfl rfl)
    exact law_top (lawMakes19 alive19_spec (fun l need h1 h2 => best_spec l need (by omega) h2) s l) W _ (TRel.cons r0 (TRel.cons r1 TRel.nil))

theorem proofMakes_said : Rows.ProofMakesSaid :=
  OpenClaim.holds_of_cond 3 Tryd.f3 rfl rfl rfl rfl rfl rfl rfl ⟨rfl, rfl, rfl, rfl, rfl⟩ rfl rfl rfl rfl rfl (by kernel_rfl) Tryd.func3 (by kernel_rfl)
    (of_decide_eq_true (by kernel_rfl)) (by unfold Func.isWrapper; first | (rw [if_pos (by decide +kernel)]; kernel_rfl) | (rw [if_neg (by decide +kernel)]; exact ⟨rfl, rfl⟩))
    (fun os started H enc _ F => by rw [OpenClaim.pre_eq_preRow]; exact proofMakes_lifted os started H enc F)
theorem proofMakes_plain (f : FuncId) (fn : Func) (hf : Tryd.pinned.checked.prog.funcNamed "consistory/consistorylaw19.ProofMakes" = some f) (hfn : Tryd.pinned.checked.prog.funcs[f]? = some fn) :
    false = Tryd.pinned.checked.prog.looks [] ∧ ∀ (j : Nat) t, fn.params[j]? = some t → Tryd.pinned.checked.prog.wantsStandIn t = false := by
  obtain rfl : f = 3 := Option.some.inj ((show Tryd.prog.funcNamed "consistory/consistorylaw19.ProofMakes" = some 3 by kernel_rfl).symm.trans hf) |>.symm
  obtain rfl : fn = Tryd.f3 := (Option.some.inj (Tryd.func3.symm.trans hfn)).symm
  refine ⟨by kernel_rfl, fun j t ht => ?_⟩
  rw [Tryd.params3] at ht
  have hm := Array.mem_of_getElem? ht
  simp only [List.mem_toArray, List.mem_cons, List.not_mem_nil, or_false] at hm
  rcases hm with rfl | rfl
  · exact (show Tryd.prog.wantsStandIn 23 = false by kernel_rfl)
  · exact (show Tryd.prog.wantsStandIn 26 = false by kernel_rfl)
theorem proofMakesCard_holds : Rows.ProofMakesCardSaid :=
  Claim7.holds_tied_plain_at .later [] _ _ _ _ proofMakes_said (fun _ h => by cases h) (by kernel_rfl) (fun _ h => by cases h) proofMakes_row_tie rfl ⟨rfl, rfl⟩ (by kernel_rfl) rfl proofMakes_plain (by kernel_rfl)
#print axioms proofMakesCard_holds
end Go.Proofs.YtgonmnjgodleeaaDoor
