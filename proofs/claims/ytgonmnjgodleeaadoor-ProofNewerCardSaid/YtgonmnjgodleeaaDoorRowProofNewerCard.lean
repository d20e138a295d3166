/-
  The tied card of ProofNewer holds: it answers true for every input, and its arguments read as they did; the listed tables start as the program lays them.
-/
import Derived.Test.YtgonmnjgodleeaaDoorPn
import Derived.Test.YtgonmnjgodleeaaDoorPv
import Derived.Test.YtgonmnjgodleeaaDoorRdP
import Derived.Test.YtgonmnjgodleeaaDoorLw
import Derived.Lib.SmallJoins
namespace Go.Proofs.YtgonmnjgodleeaaDoor
open Go.ChangeShapes Go.WideShapes Go.ChangeAt Go.RowKit Go.Joins
def proofNewer_args : Array Value := #[.agg #[.int .i64 0, .int .i64 0], .slice none 0 0, .slice none 0 0]
theorem proofNewer_met (os : Os) : laidMet Tryd.prog Rows.proofNewerRow.laid ((laidWorld os).forCall (fun _ _ => 0) ⟨#[], proofNewer_args, []⟩).memory :=
  laidMet_of_run' 8 (by kernel_rfl) (by kernel_rfl)
theorem proofNewer_reads (os : Os) {H : Type} (enc : TypeId × Value → H) : ∃ places, DataW.whole enc Tryd.prog ((laidWorld os).forCall (fun _ _ => 0) ⟨#[], proofNewer_args, []⟩).memory Tryd.f5.params.toList Rows.proofNewerSpec.vars false proofNewer_args.toList 20 = some ([.agg [.lit (.int .i64 0), .lit (.int .i64 0)], .nil, .nil], [], places) :=
  ⟨[], by kernel_rfl⟩
set_option maxRecDepth 100000 in
theorem proofNewer_lifted (os : Os) (started : os.Started) (H : Type) (enc : TypeId × Value → H) (F : Stop.Interp) :
    ReturnsInHanded {} Tryd.checked os 5 .any ((OpenSpec.ofChange Rows.proofNewerSpec).preRow enc Tryd.prog Tryd.f5 Rows.proofNewerRow.domain false Rows.proofNewerRow.laid) (((OpenSpec.ofChange Rows.proofNewerSpec).at F).post enc Tryd.prog Tryd.f5 false true false false) := by
  obtain ⟨places, hx⟩ := proofNewer_reads os enc
  refine law_lifted_laid (C := Tryd.checked) lw_own started (by kernel_rfl) Tryd.func5
    (witness_row_at (enc := enc) (C := Tryd.checked) false (laidWorld os) proofNewer_args rfl (by kernel_rfl) (by kernel_rfl) (by kernel_rfl)
      (OpenSpec.preRow_of_cond 20 hx (by kernel_rfl) (fun k hk => by cases hk) (by kernel_rfl) (proofNewer_met os)))
    (by kernel_rfl) (by kernel_rfl) rfl Tryd.underlying4 rfl ?_ ?_
  · intro ds h
    match ds, h with
    | [x0, x1, x2], _ => rfl
  · intro W base args ds p hval hsz hA hlt
    have hA' : DataW.TrodAll enc Tryd.prog W 0 (fun _ => true) true Tryd.f5.params.toList args.toList ds p := hA
    have hval' : ∀ (j : Nat) t v, Tryd.f5.params[j]? = some t → args[j]? = some v → Value.okWide Tryd.prog W .any base t v := hval
    have hsz' : ∀ (j : Nat) t d, Tryd.f5.params[j]? = some t → ds[j]? = some d → InReach Tryd.prog t d := hsz
    rw [Tryd.params5] at hA' hval' hsz'
    obtain ⟨v0, v1, v2, d0, d1, d2, p0, p1, p2, rfl, rfl, rfl, h0, h1, h2⟩ := trodAll_three hA'
    obtain ⟨_, r0, s, rfl, k0⟩ := rd_struct Tryd.underlying23 reads_size (hval' 0 23 v0 rfl rfl) h0 (hsz' 0 23 d0 rfl rfl)
    obtain ⟨_, r1, l, e1, k1⟩ := rd_slice Tryd.underlying24 reads_votes (hval' 1 24 v1 rfl rfl) h1 (hsz' 1 24 d1 rfl rfl)
    cases e1
    obtain ⟨_, r2, m, e2, k2⟩ := rd_slice Tryd.underlying24 reads_votes (hval' 2 24 v2 rfl rfl) h2 (hsz' 2 24 d2 rfl rfl)
    cases e2
    exact law_top (lawNewer19 alive19_spec s l m) W _ (TRel.cons r0 (TRel.cons r1 (TRel.cons r2 TRel.nil)))

theorem proofNewer_said : Rows.ProofNewerSaid :=
  OpenClaim.holds_of_cond 5 Tryd.f5 rfl rfl rfl rfl rfl rfl rfl ⟨rfl, rfl, rfl, rfl, rfl⟩ rfl rfl rfl rfl rfl (by kernel_rfl) Tryd.func5 (by kernel_rfl)
    (of_decide_eq_true (by kernel_rfl)) (by unfold Func.isWrapper; first | (rw [if_pos (by decide +kernel)]; kernel_rfl) | (rw [if_neg (by decide +kernel)]; exact ⟨rfl, rfl⟩))
    (fun os started H enc _ F => by rw [OpenClaim.pre_eq_preRow]; exact proofNewer_lifted os started H enc F)
theorem proofNewer_plain (f : FuncId) (fn : Func) (hf : Tryd.pinned.checked.prog.funcNamed "consistory/consistorylaw19.ProofNewer" = some f) (hfn : Tryd.pinned.checked.prog.funcs[f]? = some fn) :
    false = Tryd.pinned.checked.prog.looks [] ∧ ∀ (j : Nat) t, fn.params[j]? = some t → Tryd.pinned.checked.prog.wantsStandIn t = false := by
  obtain rfl : f = 5 := Option.some.inj ((show Tryd.prog.funcNamed "consistory/consistorylaw19.ProofNewer" = some 5 by kernel_rfl).symm.trans hf) |>.symm
  obtain rfl : fn = Tryd.f5 := (Option.some.inj (Tryd.func5.symm.trans hfn)).symm
  refine ⟨by kernel_rfl, fun j t ht => ?_⟩
  rw [Tryd.params5] at ht
  have hm := Array.mem_of_getElem? ht
  simp only [List.mem_toArray, List.mem_cons, List.not_mem_nil, or_false] at hm
  rcases hm with rfl | rfl | rfl
  · exact (show Tryd.prog.wantsStandIn 23 = false by kernel_rfl)
  · exact (show Tryd.prog.wantsStandIn 24 = false by kernel_rfl)
  · exact (show Tryd.prog.wantsStandIn 24 = false by kernel_rfl)
theorem proofNewerCard_holds : Rows.ProofNewerCardSaid :=
  Claim7.holds_tied_plain_at .later [] _ _ _ _ proofNewer_said (fun _ h => by cases h) (by kernel_rfl) (fun _ h => by cases h) proofNewer_row_tie rfl ⟨rfl, rfl⟩ (by kernel_rfl) rfl proofNewer_plain (by kernel_rfl)
#print axioms proofNewerCard_holds
end Go.Proofs.YtgonmnjgodleeaaDoor
