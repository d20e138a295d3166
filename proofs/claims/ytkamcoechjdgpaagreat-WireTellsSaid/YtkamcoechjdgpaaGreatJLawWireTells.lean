/-
 WireTells,by its shadow.
-/
import Derived.Test.YtkamcoechjdgpaaGreatQh
import Derived.Test.YtkamcoechjdgpaaGreatQg
set_option maxRecDepth 20000
set_option maxHeartbeats 8000000
namespace Go.Proofs.YtkamcoechjdgpaaGreat
open Go.RowKit
theorem weak_nil {r : AV} {z : Int} (h : LeR r (.tup [.nils,.int .i64 z])) : LeR r (.tup [bytesA [],.int .i64 z]) := by
 have hn : ∀ a,Le a .nils → a = .nils := by
  intro a h
  cases h with
  | refl => rfl
  | one h => cases h;rfl
 cases h with
 | one h =>
  cases h with
  | refl => exact .tup (.cons (.one (.nil 1)) (.cons (.refl _) .nil))
  | one h => cases h;exact .tup (.cons (.one (.nil 1)) (.cons (.refl _) .nil))
 | tup h =>
  cases h with
  | cons h1 h2 =>
   have := hn _ h1
   subst this
   exact .tup (.cons (.one (.nil 1)) h2)
theorem ASpec.nil {P : Program} {f : FuncId} {args : List AV} {z : Int} (h : ASpec P f args (.tup [.nils,.int .i64 z])) : ASpec P f args (.tup [bytesA [],.int .i64 z]) :=
 ⟨h.fn,h.run.mono fun _ _ hr => weak_nil hr⟩
theorem encs27 (l : Ltr) (hl : WideL l) (h1 : fewL l = true) : ∃ w z,ASpec Tryz.prog 6 [.agg (letC l)] (.tup [bytesA w,.int .i64 z]) ∧ ASpec Tryz.prog 7 [.agg (letC l)] (.tup [bytesA w,.int .i64 z]) := by
 have al := AskL.of_few hl h1
 by_cases g : Good l
 ·refine ⟨wrL l,0,enc27_ok l al g,?_⟩
  by_cases h7 : l.kind = 7
  ·exact renc27_7 l hl.ty hl.sz g (al.good g) h7
  ·exact renc27_ok l hl.ty hl.sz g (al.good g) h7
 ·exact ⟨[],1,(enc27_no l al g).nil,(renc27_no l hl.ty hl.sz g).nil⟩
theorem decs27 (b : Bytes) (hb : b.length ≤ 12200) : ∃ v z,v.sum.length = 32 ∧ ASpec Tryz.prog 9 [bytesA b] (.tup [.agg (letC v),.int .i64 z]) ∧ ASpec Tryz.prog 10 [bytesA b] (.tup [.agg (letC v),.int .i64 z]) ∧ ASpec Tryz.prog 13 [.agg (letC v),.agg (letC v)] (.bool true) := by
 have hr := rdec_spec b (by omega)
 rw [rdec_eq] at hr
 cases ht : (tkL b).2 with
 | true =>
  rw [ht,if_pos rfl] at hr
  obtain ⟨g,w⟩ := tk_only b ht
  have ha : AskL (tkL b).1 := .of_good g (by rw [w];omega)
  have s := rsame27_spec (tkL b).1 (tkL b).1 (tk_sum b) (tk_sum b) g.sz.proofs (by have := g.sh.2.1;omega) g.sz.proof g.sz.names
  rw [decide_eq_true rfl] at s
  exact ⟨(tkL b).1,0,tk_sum b,dec27_ok b (by omega) ha ht,hr,s⟩
 | false =>
  rw [ht,if_neg Bool.false_ne_true] at hr
  have s := rsame27_spec zL zL rfl rfl (SQ.z 0).sz.proofs (Nat.zero_le _) (Nat.zero_le _) (Nat.zero_le _)
  rw [decide_eq_true rfl] at s
  exact ⟨zL,3,rfl,dec27_no b (by omega) ht,hr,s⟩
theorem tup2_bel (l : Ltr) (z : Int) : AV.bel 0 (.tup [.agg (letC l),.int .i64 z]) = true := by
 show (AV.bel 0 (.agg (letC l)) && (true && true)) = true
 rw [Bool.and_true,Bool.and_true]
 exact let_bel l 0
theorem tells_a (b : Bytes) (l m : Ltr) (hl : WideL l) (hm : WideL m) (h1 : fewL l = false) : ASpec Tryz.prog 3 [.agg (letC l),.agg (letC m),bytesA b] (.bool true) := by
 have f1 := few27_spec l hl
 rw [h1] at f1
 have lfull := let_full l hl.sum
 have llen := let_len l hl.sum
 have mfull := let_full m hm.sum
 have mlen := let_len m hm.sum
 have la := arg_bel l 0
 have ma := arg_bel m 0
 have lm := arg2_bel l m 0
 generalize letC l = cl at *
 generalize letC m = cm at *
 refine ⟨⟨_,Tryz.func3,by kernel_rfl,rfl⟩,Sg Tryz.func3 rfl fun c0 hc0 => ?_⟩;simp only [go_sem,bytesA,lfull,llen,Nat.reduceAdd,Nat.reduceSub]
 refine Ops.pure .free rfl rfl (f1) (by simp only [go_sem];(repeat' first|exact .refl _|apply LeR.tup|apply Le.agg|constructor)) la rfl ?_
 refine Og Tryz.func3 ?_;simp only [go_sem,↓alt_t,↓alts_t,↓gone_ft]
 (and_intros <;> try first|rfl|omega|(unfold I64;omega))
 refine Ops.pure .free rfl rfl (alive27_spec) (by simp only [Ye,Yd];(repeat' first|exact .refl _|apply LeR.tup|apply Le.agg|constructor)) rfl rfl ?_
 refine Og Tryz.func3 ?_;simp only [go_sem]
 (and_intros <;> try first|rfl|omega|(unfold I64;omega))
 all_goals (repeat' first|exact .refl _|apply LeR.tup|apply Le.agg|constructor)
theorem tells_b (b : Bytes) (l m : Ltr) (hl : WideL l) (hm : WideL m) (h1 : fewL l = true) (h2 : fewL m = false) : ASpec Tryz.prog 3 [.agg (letC l),.agg (letC m),bytesA b] (.bool true) := by
 have f1 := few27_spec l hl
 have f2 := few27_spec m hm
 rw [h1] at f1
 rw [h2] at f2
 have lfull := let_full l hl.sum
 have llen := let_len l hl.sum
 have mfull := let_full m hm.sum
 have mlen := let_len m hm.sum
 have la := arg_bel l 0
 have ma := arg_bel m 0
 have lm := arg2_bel l m 0
 generalize letC l = cl at *
 generalize letC m = cm at *
 refine ⟨⟨_,Tryz.func3,by kernel_rfl,rfl⟩,Sg Tryz.func3 rfl fun c0 hc0 => ?_⟩;simp only [go_sem,bytesA,lfull,llen,Nat.reduceAdd,Nat.reduceSub]
 refine Ops.pure .free rfl rfl (f1) (by simp only [go_sem];(repeat' first|exact .refl _|apply LeR.tup|apply Le.agg|constructor)) la rfl ?_
 refine Og Tryz.func3 ?_;simp only [go_sem,mfull,mlen,↓alts_f,↓gone_ff,Nat.reduceAdd]
 (and_intros <;> try first|rfl|omega|(unfold I64;omega))
 refine Ops.pure (Wanted.test 3 false false rfl) rfl rfl (f2) (by simp only [go_sem];(repeat' first|exact .refl _|apply LeR.tup|apply Le.agg|constructor)) ma rfl ?_
 refine Og Tryz.func3 ?_;simp only [go_sem,↓alt_t,↓alts_t,↓alts_f,↓gone_ft,↓gone_ff]
 (and_intros <;> try first|rfl|omega|(unfold I64;omega))
 refine Ops.pure .free rfl rfl (alive27_spec) (by simp only [Ye,Yd];(repeat' first|exact .refl _|apply LeR.tup|apply Le.agg|constructor)) rfl rfl ?_
 refine Og Tryz.func3 ?_;simp only [go_sem]
 (and_intros <;> try first|rfl|omega|(unfold I64;omega))
 all_goals (repeat' first|exact .refl _|apply LeR.tup|apply Le.agg|constructor)
theorem tells_c (b : Bytes) (l m : Ltr) (hl : WideL l) (hm : WideL m) (h1 : fewL l = true) (h2 : fewL m = true) (h3 : 12200 < (b.length : Int)) : ASpec Tryz.prog 3 [.agg (letC l),.agg (letC m),bytesA b] (.bool true) := by
 have f1 := few27_spec l hl
 have f2 := few27_spec m hm
 rw [h1] at f1
 rw [h2] at f2
 have lfull := let_full l hl.sum
 have llen := let_len l hl.sum
 have mfull := let_full m hm.sum
 have mlen := let_len m hm.sum
 have la := arg_bel l 0
 have ma := arg_bel m 0
 have lm := arg2_bel l m 0
 generalize letC l = cl at *
 generalize letC m = cm at *
 refine ⟨⟨_,Tryz.func3,by kernel_rfl,rfl⟩,Sg Tryz.func3 rfl fun c0 hc0 => ?_⟩;simp only [go_sem,bytesA,lfull,llen,Nat.reduceAdd,Nat.reduceSub]
 refine Ops.pure .free rfl rfl (f1) (by simp only [go_sem];(repeat' first|exact .refl _|apply LeR.tup|apply Le.agg|constructor)) la rfl ?_
 refine Og Tryz.func3 ?_;simp only [go_sem,mfull,mlen,↓alts_f,↓gone_ff,Nat.reduceAdd]
 (and_intros <;> try first|rfl|omega|(unfold I64;omega))
 refine Ops.pure (Wanted.test 3 false false rfl) rfl rfl (f2) (by simp only [go_sem];(repeat' first|exact .refl _|apply LeR.tup|apply Le.agg|constructor)) ma rfl ?_
 refine Og Tryz.func3 ?_;simp only [go_sem,h3,↓alt_t,↓alts_f,↓gone_ff]
 (and_intros <;> try first|rfl|omega|(unfold I64;omega))
 refine Ops.pure .free rfl rfl (alive27_spec) (by simp only [Ye,Yd];(repeat' first|exact .refl _|apply LeR.tup|apply Le.agg|constructor)) rfl rfl ?_
 refine Og Tryz.func3 ?_;simp only [go_sem]
 (and_intros <;> try first|rfl|omega|(unfold I64;omega))
 all_goals (repeat' first|exact .refl _|apply LeR.tup|apply Le.agg|constructor)
theorem tells_d (b : Bytes) (l m : Ltr) (hl : WideL l) (hm : WideL m) (h1 : fewL l = true) (h2 : fewL m = true) (h3 : ¬ 12200 < (b.length : Int)) : ASpec Tryz.prog 3 [.agg (letC l),.agg (letC m),bytesA b] (.bool true) := by
 have f1 := few27_spec l hl
 have f2 := few27_spec m hm
 rw [h1] at f1
 rw [h2] at f2
 obtain ⟨w,z,e1,e2⟩ := encs27 l hl h1
 obtain ⟨v,y,hv,d1,d2,sv⟩ := decs27 b (by omega)
 have mm := may27_spec l (AskL.of_few hl h1)
 have rm := rmay27_spec l hl.ty hl.sz
 have p1 := plain27_spec l hl.sum
 have p2 := plain27_spec m hm.sum
 have pv := plain27_spec v hv
 have s1 := same27_spec l m hl.sum hm.sum hl.proofs (by have := few_cert h1;omega) (by have := few_cert h2;omega) hl.proof.2 (by have := few_names h1;omega)
 have s2 := rsame27_spec l m hl.sum hm.sum hl.proofs (by have := few_cert h1;omega) hl.proof.2 (by have := few_names h1;omega)
 have vfull := let_full v hv
 have vlen := let_len v hv
 have va := arg_bel v 0
 have vv := arg2_bel v v 0
 have vb : AV.bel 0 (.agg (letC v)) = true := let_bel v 0
 have lb : AV.bel 0 (.agg (letC l)) = true := let_bel l 0
 have mb : AV.bel 0 (.agg (letC m)) = true := let_bel m 0
 have rv := tup2_bel v y
 have lfull := let_full l hl.sum
 have llen := let_len l hl.sum
 have mfull := let_full m hm.sum
 have mlen := let_len m hm.sum
 have la := arg_bel l 0
 have ma := arg_bel m 0
 have lm := arg2_bel l m 0
 generalize mayL l = d at *
 generalize decide (l = m) = s at *
 generalize letC l = cl at *
 generalize letC m = cm at *
 generalize letC v = cv at *
 refine ⟨⟨_,Tryz.func3,by kernel_rfl,rfl⟩,Sg Tryz.func3 rfl fun c0 hc0 => ?_⟩;simp only [go_sem,bytesA,lfull,llen,Nat.reduceAdd,Nat.reduceSub]
 refine Ops.pure .free rfl rfl (f1) (by simp only [go_sem];(repeat' first|exact .refl _|apply LeR.tup|apply Le.agg|constructor)) la rfl ?_
 refine Og Tryz.func3 ?_;simp only [go_sem,mfull,mlen,↓alts_f,↓gone_ff,Nat.reduceAdd]
 (and_intros <;> try first|rfl|omega|(unfold I64;omega))
 refine Ops.pure (Wanted.test 3 false false rfl) rfl rfl (f2) (by simp only [go_sem];(repeat' first|exact .refl _|apply LeR.tup|apply Le.agg|constructor)) ma rfl ?_
 refine Og Tryz.func3 ?_;simp only [go_sem,h3,lfull,llen,↓alt_f,↓alts_f,↓gone_ff,Nat.reduceAdd,Nat.reduceLeDiff,Nat.reduceMul,Nat.reduceLT]
 (and_intros <;> try first|rfl|omega|(unfold I64;omega))
 refine Ops.pure .free rfl rfl (e1) (by simp only [go_sem];(repeat' first|exact .refl _|apply LeR.tup|apply Le.agg|constructor)) la rfl ?_
 refine Og Tryz.func3 ?_;simp only [go_sem,bytesA,lfull,llen]
 (and_intros <;> try first|rfl|omega|(unfold I64;omega))
 refine Ops.pure .free rfl rfl (p1) (by simp only [go_sem];(repeat' first|exact .refl _|apply LeR.tup|apply Le.agg|constructor)) la lb ?_
 refine Og Tryz.func3 ?_;simp only [go_sem,Nat.reduceAdd]
 (and_intros <;> try first|rfl|omega|(unfold I64;omega))
 refine Ops.pure .free rfl rfl (e2) (by simp only [go_sem];(repeat' first|exact .refl _|apply LeR.tup|apply Le.agg|constructor)) la rfl ?_
 refine Og Tryz.func3 ?_;simp only [go_sem,bytesA]
 (and_intros <;> try first|rfl|omega|(unfold I64;omega))
 refine Ops.pure .free rfl rfl (d1) (by simp only [go_sem,bytesA];(repeat' first|exact .refl _|apply LeR.tup|apply Le.agg|constructor)) rfl rv ?_
 refine Og Tryz.func3 ?_;simp only [go_sem,vlen,Nat.reduceAdd]
 (and_intros <;> try first|rfl|omega|(unfold I64;omega))
 refine Ops.pure .free rfl rfl (d2) (by simp only [go_sem,bytesA];(repeat' first|exact .refl _|apply LeR.tup|apply Le.agg|constructor)) rfl rv ?_
 refine Og Tryz.func3 ?_;simp only [go_sem,vlen,lfull,llen,Nat.reduceAdd]
 (and_intros <;> try first|rfl|omega|(unfold I64;omega))
 refine DOps.pure rfl .free rfl rfl (mm) (by simp only [go_sem];(repeat' first|exact .refl _|apply LeR.tup|apply Le.agg|constructor)) la rfl ?_
 refine Dg Tryz.func3 rfl ?_;simp only [go_sem,lfull,llen,Nat.reduceAdd]
 (and_intros <;> try first|rfl|omega|(unfold I64;omega))
 refine DOps.pure rfl .free rfl rfl (p1) (by simp only [go_sem];(repeat' first|exact .refl _|apply LeR.tup|apply Le.agg|constructor)) la lb ?_
 refine Dg Tryz.func3 rfl ?_;simp only [go_sem,Nat.reduceAdd]
 (and_intros <;> try first|rfl|omega|(unfold I64;omega))
 refine DOps.pure rfl .free rfl rfl (rm) (by simp only [go_sem];(repeat' first|exact .refl _|apply LeR.tup|apply Le.agg|constructor)) la rfl ?_
 refine Dg Tryz.func3 rfl ?_;simp only [go_sem,vfull,vlen,↓alts_t,↓gdone_tt,Nat.reduceAdd]
 (and_intros <;> try first|rfl|omega|(unfold I64;omega))
 refine DOps.pure rfl (Wanted.test 18 true true rfl) rfl rfl (pv) (by simp only [go_sem];(repeat' first|exact .refl _|apply LeR.tup|apply Le.agg|constructor)) va vb ?_
 refine Dg Tryz.func3 rfl ?_;simp only [go_sem,vfull,vlen,↓alts_t,↓gdone_tt,Nat.reduceAdd]
 (and_intros <;> try first|rfl|omega|(unfold I64;omega))
 refine DOps.pure rfl (Wanted.test 18 true true rfl) rfl rfl (sv) (by simp only [go_sem];(repeat' first|exact .refl _|apply LeR.tup|apply Le.agg|constructor)) vv rfl ?_
 refine Dg Tryz.func3 rfl ?_;simp only [go_sem,↓alts_t,↓gdone_tt,Nat.reduceAdd]
 (and_intros <;> try first|rfl|omega|(unfold I64;omega))
 refine DOps.pure rfl .free rfl rfl (alive27_spec) (by simp only [Ye,Yd];(repeat' first|exact .refl _|apply LeR.tup|apply Le.agg|constructor)) rfl rfl ?_
 refine Dg Tryz.func3 rfl ?_;simp only [go_sem,lfull,llen,mfull,mlen,↓alts_t,↓gdone_tt,Nat.reduceAdd]
 (and_intros <;> try first|rfl|omega|(unfold I64;omega))
 refine DOps.pure rfl (Wanted.test 4 true true rfl) rfl rfl (s1) (by simp only [go_sem];(repeat' first|exact .refl _|apply LeR.tup|apply Le.agg|constructor)) lm rfl ?_
 refine Dg Tryz.func3 rfl ?_;simp only [go_sem,lfull,llen,↓alts_t,↓gdone_tt,Nat.reduceAdd]
 (and_intros <;> try first|rfl|omega|(unfold I64;omega))
 refine DOps.pure rfl (Wanted.test 4 true true rfl) rfl rfl (p1) (by simp only [go_sem];(repeat' first|exact .refl _|apply LeR.tup|apply Le.agg|constructor)) la lb ?_
 refine Dg Tryz.func3 rfl ?_;simp only [go_sem,mfull,mlen,↓alts_t,↓gdone_tt,Nat.reduceAdd]
 (and_intros <;> try first|rfl|omega|(unfold I64;omega))
 refine DOps.pure rfl (Wanted.test 4 true true rfl) rfl rfl (p2) (by simp only [go_sem];(repeat' first|exact .refl _|apply LeR.tup|apply Le.agg|constructor)) ma mb ?_
 refine Dg Tryz.func3 rfl ?_;simp only [go_sem,↓alts_t,↓gdone_tt,Nat.reduceAdd]
 (and_intros <;> try first|rfl|omega|(unfold I64;omega))
 refine DOps.pure rfl (Wanted.test 4 true true rfl) rfl rfl (s2) (by simp only [go_sem];(repeat' first|exact .refl _|apply LeR.tup|apply Le.agg|constructor)) lm rfl ?_
 refine Dg Tryz.func3 rfl ?_;simp only [go_sem,↓alts_t,↓gdone_tt,Nat.reduceAdd]
 (and_intros <;> try first|rfl|omega|(unfold I64;omega))
 all_goals (repeat' first|exact .refl _|apply LeR.tup|apply Le.agg|constructor)
theorem tells27_spec (b : Bytes) (l m : Ltr) (hl : WideL l) (hm : WideL m) : ASpec Tryz.prog 3 [.agg (letC l),.agg (letC m),bytesA b] (.bool true) := by
 cases h1 : fewL l with
 | false => exact tells_a b l m hl hm h1
 | true =>
  cases h2 : fewL m with
  | false => exact tells_b b l m hl hm h1 h2
  | true =>
   by_cases h3 : 12200 < (b.length : Int)
   ·exact tells_c b l m hl hm h1 h2 h3
   ·exact tells_d b l m hl hm h1 h2 h3
end Go.Proofs.YtkamcoechjdgpaaGreat
