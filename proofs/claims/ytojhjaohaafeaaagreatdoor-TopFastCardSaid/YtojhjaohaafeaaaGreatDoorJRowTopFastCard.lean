/-
 The tied card of TopFast holds: it answers true for every input, and its arguments read as they did; the listed tables start as the program lays them.
-/
import Derived.Test.YtojhjaohaafeaaaGreatDoorQz
import Derived.Lib.SmallJoins
namespace Go.Proofs.YtojhjaohaafeaaaGreatDoor
open Go.ChangeShapes Go.WideShapes Go.ChangeAt Go.RowKit Go.Joins
def topFast_args:Array Value:=#[.agg #[.int .i64 0, .int .i64 0, .int .i64 0, .slice none 0 0, .int .i64 0], .agg #[.int .i64 0, .int .i64 0, .int .i64 0, .string ⟨#[]⟩, .string ⟨#[]⟩, .int .i64 0, .int .i64 0, .int .i64 0], .int .u8 0]
theorem topFast_met(os:Os):laidMet Tryz.prog Rows.topFastRow.laid ((laidWorld os).forCall (fun _ _=>0) ⟨#[], topFast_args, []⟩).memory:=
 laidMet_of_run' 8 (by kernel_rfl) (by kernel_rfl)
theorem topFast_reads(os:Os){H:Type}(enc:TypeId×Value→H):∃ places, DataW.whole enc Tryz.prog ((laidWorld os).forCall (fun _ _=>0) ⟨#[], topFast_args, []⟩).memory Tryz.f3.params.toList Rows.topFastSpec.vars false topFast_args.toList 20=some ([.agg [.agg [.lit (.int .i64 0), .lit (.int .i64 0)], .lit (.int .i64 0), .nil, .lit (.int .i64 0)], .agg [.lit (.int .i64 0), .lit (.int .i64 0), .lit (.int .i64 0), .lit (.string []), .lit (.string []), .lit (.int .i64 0), .lit (.int .i64 0), .lit (.int .i64 0)], .lit (.int .u8 0)], [], places):=
 ⟨[], by kernel_rfl⟩
set_option maxRecDepth 100000 in
theorem topFast_lifted(os:Os)(started:os.Started)(H:Type)(enc:TypeId×Value→H)(F:Stop.Interp) :
  ReturnsInHanded {} Tryz.checked os 3 .any ((OpenSpec.ofChange Rows.topFastSpec).preRow enc Tryz.prog Tryz.f3 Rows.topFastRow.domain false Rows.topFastRow.laid) (((OpenSpec.ofChange Rows.topFastSpec).at F).post enc Tryz.prog Tryz.f3 false true false false):=by
 obtain⟨places, hx⟩:=topFast_reads os enc
 refine law_lifted_laid (C:=Tryz.checked) lw_own started (by kernel_rfl) Tryz.func3
  (witness_row_at (enc:=enc) (C:=Tryz.checked) false (laidWorld os) topFast_args rfl (by kernel_rfl) (by kernel_rfl) (by kernel_rfl)
   (OpenSpec.preRow_of_cond 20 hx (by kernel_rfl) (fun k hk=>by cases hk) (by kernel_rfl) (topFast_met os)))
  (by kernel_rfl) (by kernel_rfl) rfl Tryz.underlying4 rfl ?_ ?_
 ·intro ds h
  match ds, h with
  |[x0, x1, x2], _=>rfl
 ·intro W base args ds p hval hsz hA hlt
  have hA':DataW.TrodAll enc Tryz.prog W 0 (fun _=>true) true Tryz.f3.params.toList args.toList ds p:=hA
  have hval':∀ (j:Nat) t v, Tryz.f3.params[j]? = some t→args[j]? = some v→Value.okWide Tryz.prog W .any base t v:=hval
  have hsz':∀ (j:Nat) t d, Tryz.f3.params[j]? = some t→ds[j]? = some d→InReach Tryz.prog t d:=hsz
  rw[Tryz.params3] at hA' hval' hsz'
  obtain⟨v0, v1, v2, d0, d1, d2, p0, p1, p2, rfl, rfl, rfl, h0, h1, h2⟩:=trodAll_three hA'
  obtain⟨_, r0, s, wide, bad, k, rfl⟩:=rd_struct Tryz.underlying26 reads_cast (hval' 0 26 v0 rfl rfl) h0 (hsz' 0 26 d0 rfl rfl)
  obtain⟨_, r1, o, rfl, k1, k2, k3, k4⟩:=rd_struct Tryz.underlying28 reads_ord (hval' 1 28 v1 rfl rfl) h1 (hsz' 1 28 d1 rfl rfl)
  obtain⟨dn, rfl, rfl, rfl, w2⟩:=open_int Tryz.underlying5 (hval' 2 5 v2 rfl rfl) h2
  exact law_top (fast_all s wide bad k o dn (wf8 w2).1 (wf8 w2).2 k1 k2 k3 k4) W _ (TRel.cons r0 (TRel.cons r1 (TRel.cons (.int _ _) TRel.nil)))

set_option maxRecDepth 100000 in
theorem topFast_said:Rows.TopFastSaid:=
 OpenClaim.holds_of_cond 3 Tryz.f3 rfl rfl rfl rfl rfl rfl rfl ⟨rfl, rfl, rfl, rfl, rfl⟩ rfl rfl rfl rfl rfl topFast_fn Tryz.func3 topFast_joined topFast_inst topFast_wrap
  (fun os started H enc _ F=>by rw[OpenClaim.pre_eq_preRow]; exact topFast_lifted os started H enc F)
theorem topFast_plain (f : FuncId) (fn : Func) (hf : Tryz.pinned.checked.prog.funcNamed "consistory/consistorytop.TopFast" = some f) (hfn : Tryz.pinned.checked.prog.funcs[f]? = some fn) :
  false=Tryz.pinned.checked.prog.looks []∧∀ (j:Nat) t, fn.params[j]? = some t→Tryz.pinned.checked.prog.wantsStandIn t=false:=by
 obtain rfl:f=3:=Option.some.inj (topFast_fn.symm.trans hf) |>.symm
 obtain rfl:fn=Tryz.f3:=(Option.some.inj (Tryz.func3.symm.trans hfn)).symm
 refine⟨by kernel_rfl, fun j t ht=>?_⟩
 rw[Tryz.params3] at ht
 have hm:=Array.mem_of_getElem? ht
 simp only[List.mem_toArray, List.mem_cons, List.not_mem_nil, or_false] at hm
 rcases hm with rfl | rfl | rfl
 ·exact(show Tryz.prog.wantsStandIn 26=false by kernel_rfl)
 ·exact(show Tryz.prog.wantsStandIn 28=false by kernel_rfl)
 ·exact(show Tryz.prog.wantsStandIn 5=false by kernel_rfl)
theorem topFastCard_holds:Rows.TopFastCardSaid:=
 Claim7.holds_tied_plain_at .later [] _ _ _ _ topFast_said (fun _ h=>by cases h) topFast_text (fun _ h=>by cases h) topFast_row_tie rfl ⟨rfl, rfl⟩ topFast_main rfl topFast_plain topFast_goes
#print axioms topFastCard_holds
end Go.Proofs.YtojhjaohaafeaaaGreatDoor
