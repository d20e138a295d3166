/-
  Several texts in one: Im, In, Io, Ip, Iq, Ir, Is, Ka, Kb, Kc, Kd.
-/
import Derived.Test.YtkamcoechjdgpaaGreatQe
import Derived.Test.YtkamcoechjdgpaaGreatQc
import Derived.Test.YtkamcoechjdgpaaGreatQd
set_option maxRecDepth 20000
set_option maxHeartbeats 8000000
namespace Go.Proofs.YtkamcoechjdgpaaGreat
open Go.RowKit
def r1 (b : Bytes) (e : Int) : Bytes × Int × Int := rdN b e 0
def r2 (b : Bytes) (e : Int) : Bytes × Int × Int := rdN (r1 b e).1 (r1 b e).2.1 0
def r3 (b : Bytes) (e : Int) : Bytes × Int × Bool := rdF (r2 b e).1 (r2 b e).2.1 false
def r4 (b : Bytes) (e : Int) : Bytes × Int × Int := rdN (r3 b e).1 (r3 b e).2.1 0
def r5 (b : Bytes) (e : Int) : Bytes × Int × Bytes := rdT (r4 b e).1 (r4 b e).2.1 []
def r6 (b : Bytes) (e : Int) : Bytes × Int × List Acc := rdV (r5 b e).1 (r5 b e).2.1
def rdR (b : Bytes) (e : Int) : Bytes × Int × Rp := ((r6 b e).1,(r6 b e).2.1,⟨(r1 b e).2.2,(r2 b e).2.2,(r3 b e).2.2,(r4 b e).2.2,(r5 b e).2.2,(r6 b e).2.2⟩)
def rpZ : List AV := [.int .i64 0,.int .i64 0,.bool false,.int .i64 0,.str [],.nils]
theorem r1_le (b : Bytes) (e : Int) : (r1 b e).1.length ≤ b.length := rdN_le _ _ _
theorem r2_le (b : Bytes) (e : Int) : (r2 b e).1.length ≤ b.length := Nat.le_trans (rdN_le _ _ _) (r1_le b e)
theorem r3_le (b : Bytes) (e : Int) : (r3 b e).1.length ≤ b.length := Nat.le_trans (rdF_le _ _ _) (r2_le b e)
theorem r4_le (b : Bytes) (e : Int) : (r4 b e).1.length ≤ b.length := Nat.le_trans (rdN_le _ _ _) (r3_le b e)
theorem r5_le (b : Bytes) (e : Int) : (r5 b e).1.length ≤ b.length := Nat.le_trans (rdT_le _ _ _) (r4_le b e)
theorem r6_le (b : Bytes) (e : Int) : (r6 b e).1.length ≤ b.length := Nat.le_trans (rdV_le _ _) (r5_le b e)
theorem rdR_le (b : Bytes) (e : Int) : (rdR b e).1.length ≤ b.length := r6_le b e
theorem votes_b (o : Nat) (X : ABlk) (hX : LentB X) : BSpec Tryz.prog 74 [.ptr 0 o] [X] [X] (.iface 168 (.agg [.ptr 0 o,.fn (.func 73) [] []])) := by
 refine ⟨⟨_,Tryz.func74,by kernel_rfl,rfl⟩,Sg Tryz.func74 rfl fun c0 hc0 => ?_⟩;simp only [go_sem,Nat.reduceAdd,Nat.reduceLeDiff,Nat.reduceSub]
 (and_intros <;> try first|rfl|omega|(unfold I64;omega))
 all_goals (first|exact WkH.cons (LeB.same _ (hX.bel 0)) (WkH.nil _)|(repeat' first|exact .refl _|apply LeR.tup|apply Le.agg|constructor))
def reportB_ (i : Nat) (o : Nat) : List (Nat × AV) := [(87,.agg [.ptr i o]),(87,.agg [.ptr i (o + 1)]),(166,.agg [.ptr i (o + 2)]),(87,.agg [.ptr i (o + 3)]),(119,.agg [.ptr i (o + 4)]),(168,.agg [.ptr i (o + 5),.fn (.func 73) [] []])]
theorem report_b (o : Nat) (X : ABlk) (hX : LentB X) : BSpec Tryz.prog 72 [.ptr 0 o] [X] [X] (.iface 125 (.psl 1 ((reportB_ 0 o).map partC))) := by
 refine ⟨⟨_,Tryz.func72,by kernel_rfl,rfl⟩,Sg Tryz.func72 rfl fun c0 hc0 => ?_⟩;simp only [go_sem,reportB_,partC,Nat.reduceAdd,Nat.reduceSub]
 refine ⟨rfl,?_⟩
 refine DOps.callP rfl .free rfl rfl (js := [0]) (by decide) (LentAll.cons rfl (hX) LentAll.nil) (lent1 (hX)) rfl rfl (by simp only [go_sem,cond_true,renL,AV.ren,List.idxOf,List.findIdx,List.findIdx.go];(repeat' first|exact .refl _|apply LeR.tup|apply Le.agg|constructor)) (votes_b (o + 5) _ hX) rfl ?_
 refine Dg Tryz.func72 rfl ?_;simp only [go_sem,AV.unr,unrL,Nat.reduceAdd,Nat.reduceLeDiff,Nat.reduceMul,Nat.reduceBEq,Nat.reduceLT]
 (and_intros <;> try first|rfl|omega|(unfold I64;omega))
 all_goals (first|exact WkH.cons (LeB.same _ (hX.bel 0)) (WkH.nil _)|(repeat' first|exact .refl _|apply LeR.tup|apply Le.agg|constructor))
theorem votes_d (k j : Nat) (o : Nat) (X : ABlk) (hX : LentB X) : BSpec Tryz.prog 74 [.eptr 0 k j o] [X] [X] (.iface 168 (.agg [.eptr 0 k j o,.fn (.func 73) [] []])) := by
 refine ⟨⟨_,Tryz.func74,by kernel_rfl,rfl⟩,Sg Tryz.func74 rfl fun c0 hc0 => ?_⟩;simp only [go_sem,Nat.reduceAdd,Nat.reduceLeDiff,Nat.reduceSub]
 (and_intros <;> try first|rfl|omega|(unfold I64;omega))
 all_goals (first|exact WkH.cons (LeB.same _ (hX.bel 0)) (WkH.nil _)|(repeat' first|exact .refl _|apply LeR.tup|apply Le.agg|constructor))
def reportD (i : Nat) (k j : Nat) (o : Nat) : List (Nat × AV) := [(87,.agg [.eptr i k j o]),(87,.agg [.eptr i k j (o + 1)]),(166,.agg [.eptr i k j (o + 2)]),(87,.agg [.eptr i k j (o + 3)]),(119,.agg [.eptr i k j (o + 4)]),(168,.agg [.eptr i k j (o + 5),.fn (.func 73) [] []])]
theorem report_d (k j : Nat) (o : Nat) (X : ABlk) (hX : LentB X) : BSpec Tryz.prog 72 [.eptr 0 k j o] [X] [X] (.iface 125 (.psl 1 ((reportD 0 k j o).map partC))) := by
 refine ⟨⟨_,Tryz.func72,by kernel_rfl,rfl⟩,Sg Tryz.func72 rfl fun c0 hc0 => ?_⟩;simp only [go_sem,reportD,partC,Nat.reduceAdd,reduceCtorEq,Nat.reduceSub]
 refine ⟨rfl,?_⟩
 refine DOps.callP rfl .free rfl rfl (js := [0]) (by decide) (LentAll.cons rfl (hX) LentAll.nil) (lent1 (hX)) rfl rfl (by simp only [go_sem,cond_true,renL,AV.ren,List.idxOf,List.findIdx,List.findIdx.go];(repeat' first|exact .refl _|apply LeR.tup|apply Le.agg|constructor)) (votes_d k j (o + 5) _ hX) rfl ?_
 refine Dg Tryz.func72 rfl ?_;simp only [go_sem,AV.unr,unrL,Nat.reduceAdd,Nat.reduceLeDiff,Nat.reduceMul,Nat.reduceBEq,Nat.reduceLT]
 (and_intros <;> try first|rfl|omega|(unfold I64;omega))
 all_goals (first|exact WkH.cons (LeB.same _ (hX.bel 0)) (WkH.nil _)|(repeat' first|exact .refl _|apply LeR.tup|apply Le.agg|constructor))
theorem report_rb (b : Bytes) (e : Int) (xs ys : List AV) (o : Nat) (ho : o = xs.length) (hx : belL 0 xs = true) (hy : belL 0 ys = true) (hb : b.length ≤ 1000000) : BSpec Tryz.prog 113 [.psl 1 ((reportB_ 1 o).map partC),.ptr 0 0] [pp b true e,.box (xs ++ (rpZ ++ ys))] [pp (rdR b e).1 true (rdR b e).2.1,.box (xs ++ (rpC (rdR b e).2.2 ++ ys))] (.tup []) := by
 have c0 : CellAt (fun x => xs ++ x :: .int .i64 0 :: .bool false :: .int .i64 0 :: .str [] :: .nils :: ys) o := .of (xs ++ []) (.int .i64 0 :: .bool false :: .int .i64 0 :: .str [] :: .nils :: ys) (fun _ => by simp) (by simp [ho]) (belL_app hx rfl) (by simp [belL,AV.bel,hy])
 have c1 : CellAt (fun x => xs ++ .int .i64 (r1 b e).2.2 :: x :: .bool false :: .int .i64 0 :: .str [] :: .nils :: ys) (o + 1) := .of (xs ++ [.int .i64 (r1 b e).2.2]) (.bool false :: .int .i64 0 :: .str [] :: .nils :: ys) (fun _ => by simp) (by simp [ho]) (belL_app hx rfl) (by simp [belL,AV.bel,hy])
 have c2 : CellAt (fun x => xs ++ .int .i64 (r1 b e).2.2 :: .int .i64 (r2 b e).2.2 :: x :: .int .i64 0 :: .str [] :: .nils :: ys) (o + 2) := .of (xs ++ [.int .i64 (r1 b e).2.2,.int .i64 (r2 b e).2.2]) (.int .i64 0 :: .str [] :: .nils :: ys) (fun _ => by simp) (by simp [ho]) (belL_app hx rfl) (by simp [belL,AV.bel,hy])
 have c3 : CellAt (fun x => xs ++ .int .i64 (r1 b e).2.2 :: .int .i64 (r2 b e).2.2 :: .bool (r3 b e).2.2 :: x :: .str [] :: .nils :: ys) (o + 3) := .of (xs ++ [.int .i64 (r1 b e).2.2,.int .i64 (r2 b e).2.2,.bool (r3 b e).2.2]) (.str [] :: .nils :: ys) (fun _ => by simp) (by simp [ho]) (belL_app hx rfl) (by simp [belL,AV.bel,hy])
 have c4 : CellAt (fun x => xs ++ .int .i64 (r1 b e).2.2 :: .int .i64 (r2 b e).2.2 :: .bool (r3 b e).2.2 :: .int .i64 (r4 b e).2.2 :: x :: .nils :: ys) (o + 4) := .of (xs ++ [.int .i64 (r1 b e).2.2,.int .i64 (r2 b e).2.2,.bool (r3 b e).2.2,.int .i64 (r4 b e).2.2]) (.nils :: ys) (fun _ => by simp) (by simp [ho]) (belL_app hx rfl) (by simp [belL,AV.bel,hy])
 have c5 : CellAt (fun x => xs ++ .int .i64 (r1 b e).2.2 :: .int .i64 (r2 b e).2.2 :: .bool (r3 b e).2.2 :: .int .i64 (r4 b e).2.2 :: .str (r5 b e).2.2 :: x :: ys) (o + 5) := .of (xs ++ [.int .i64 (r1 b e).2.2,.int .i64 (r2 b e).2.2,.bool (r3 b e).2.2,.int .i64 (r4 b e).2.2,.str (r5 b e).2.2]) (ys) (fun _ => by simp) (by simp [ho]) (belL_app hx rfl) (by simp [hy])
 refine parts_r (reportB_ 1 o) (fun|0 => pp b true e|1 => pp (r1 b e).1 true (r1 b e).2.1|2 => pp (r2 b e).1 true (r2 b e).2.1|3 => pp (r3 b e).1 true (r3 b e).2.1|4 => pp (r4 b e).1 true (r4 b e).2.1|5 => pp (r5 b e).1 true (r5 b e).2.1|_ => pp (r6 b e).1 true (r6 b e).2.1)
  (fun|0 => .box (xs ++ .int .i64 0 :: .int .i64 0 :: .bool false :: .int .i64 0 :: .str [] :: .nils :: ys)|1 => .box (xs ++ .int .i64 (r1 b e).2.2 :: .int .i64 0 :: .bool false :: .int .i64 0 :: .str [] :: .nils :: ys)|2 => .box (xs ++ .int .i64 (r1 b e).2.2 :: .int .i64 (r2 b e).2.2 :: .bool false :: .int .i64 0 :: .str [] :: .nils :: ys)|3 => .box (xs ++ .int .i64 (r1 b e).2.2 :: .int .i64 (r2 b e).2.2 :: .bool (r3 b e).2.2 :: .int .i64 0 :: .str [] :: .nils :: ys)|4 => .box (xs ++ .int .i64 (r1 b e).2.2 :: .int .i64 (r2 b e).2.2 :: .bool (r3 b e).2.2 :: .int .i64 (r4 b e).2.2 :: .str [] :: .nils :: ys)|5 => .box (xs ++ .int .i64 (r1 b e).2.2 :: .int .i64 (r2 b e).2.2 :: .bool (r3 b e).2.2 :: .int .i64 (r4 b e).2.2 :: .str (r5 b e).2.2 :: .nils :: ys)|_ => .box (xs ++ .int .i64 (r1 b e).2.2 :: .int .i64 (r2 b e).2.2 :: .bool (r3 b e).2.2 :: .int .i64 (r4 b e).2.2 :: .str (r5 b e).2.2 :: votesA (r6 b e).2.2 :: ys))
  (by simp [reportB_]) (fun k _ => by match k with|0 => exact pp_lent _ _ _|1 => exact pp_lent _ _ _|2 => exact pp_lent _ _ _|3 => exact pp_lent _ _ _|4 => exact pp_lent _ _ _|5 => exact pp_lent _ _ _|k + 6 => exact pp_lent _ _ _)
  (fun k _ => by match k with|0 => exact .box_ _ (c0.bel 0 (.int .i64 0) rfl)|1 => exact .box_ _ (c1.bel 0 (.int .i64 0) rfl)|2 => exact .box_ _ (c2.bel 0 (.bool false) rfl)|3 => exact .box_ _ (c3.bel 0 (.int .i64 0) rfl)|4 => exact .box_ _ (c4.bel 0 (.str []) rfl)|5 => exact .box_ _ (c5.bel 0 .nils rfl)|k + 6 => exact .box_ _ (c5.bel 0 (votesA (r6 b e).2.2) rfl)) ?_
 intro k t v h
 match k,h with
 | 0,h => cases h;exact ⟨rfl,rfl,rfl,_,meth_number,number_c b e 0 _ o c0 hb⟩
 | 1,h => cases h;exact ⟨rfl,rfl,rfl,_,meth_number,number_c (r1 b e).1 (r1 b e).2.1 0 _ (o + 1) c1 (Nat.le_trans (r1_le b e) hb)⟩
 | 2,h => cases h;exact ⟨rfl,rfl,rfl,_,meth_flag,flag_c (r2 b e).1 (r2 b e).2.1 false _ (o + 2) c2 (Nat.le_trans (r2_le b e) hb)⟩
 | 3,h => cases h;exact ⟨rfl,rfl,rfl,_,meth_number,number_c (r3 b e).1 (r3 b e).2.1 0 _ (o + 3) c3 (Nat.le_trans (r3_le b e) hb)⟩
 | 4,h => cases h;exact ⟨rfl,rfl,rfl,_,meth_text,text_c (r4 b e).1 (r4 b e).2.1 [] _ (o + 4) c4 (Nat.le_trans (r4_le b e) hb)⟩
 | 5,h => cases h;exact ⟨rfl,rfl,rfl,_,meth_rowA,rowA_rb (r5 b e).1 (r5 b e).2.1 _ (o + 5) c5 (Nat.le_trans (r5_le b e) hb)⟩
 | k + 6,h => simp [reportB_] at h
theorem report_rd (b : Bytes) (e : Int) (L : List (List AV)) (j : Nat) (hj : L[j]? = some rpZ) (hL : belLL 0 L = true) (hb : b.length ≤ 1000000) : BSpec Tryz.prog 113 [.psl 1 ((reportD 1 6 j 0).map partC),.ptr 0 0] [pp b true e,.rows 6 L] [pp (rdR b e).1 true (rdR b e).2.1,.rows 6 (L.set j (rpC (rdR b e).2.2))] (.tup []) := by
 have hlt : j < L.length := (List.getElem?_eq_some_iff.1 hj).1
 have e0 : L.set j rpZ = L := by
  obtain ⟨h1,h2⟩ := List.getElem?_eq_some_iff.1 hj
  rw [← h2,List.set_getElem_self]
 have c0 : CellIn (fun x => L.set j [x,.int .i64 0,.bool false,.int .i64 0,.str [],.nils]) 6 j 0 := .of (C := fun x => [x,.int .i64 0,.bool false,.int .i64 0,.str [],.nils]) L hlt (.of [] _ (fun _ => rfl) rfl rfl rfl) (by decide) (fun _ => rfl) hL
 have c1 : CellIn (fun x => L.set j [.int .i64 (r1 b e).2.2,x,.bool false,.int .i64 0,.str [],.nils]) 6 j 1 := .of (C := fun x => [.int .i64 (r1 b e).2.2,x,.bool false,.int .i64 0,.str [],.nils]) L hlt (.of [.int .i64 (r1 b e).2.2] _ (fun _ => rfl) rfl rfl rfl) (by decide) (fun _ => rfl) hL
 have c2 : CellIn (fun x => L.set j [.int .i64 (r1 b e).2.2,.int .i64 (r2 b e).2.2,x,.int .i64 0,.str [],.nils]) 6 j 2 := .of (C := fun x => [.int .i64 (r1 b e).2.2,.int .i64 (r2 b e).2.2,x,.int .i64 0,.str [],.nils]) L hlt (.of [.int .i64 (r1 b e).2.2,.int .i64 (r2 b e).2.2] _ (fun _ => rfl) rfl rfl rfl) (by decide) (fun _ => rfl) hL
 have c3 : CellIn (fun x => L.set j [.int .i64 (r1 b e).2.2,.int .i64 (r2 b e).2.2,.bool (r3 b e).2.2,x,.str [],.nils]) 6 j 3 := .of (C := fun x => [.int .i64 (r1 b e).2.2,.int .i64 (r2 b e).2.2,.bool (r3 b e).2.2,x,.str [],.nils]) L hlt (.of [.int .i64 (r1 b e).2.2,.int .i64 (r2 b e).2.2,.bool (r3 b e).2.2] _ (fun _ => rfl) rfl rfl rfl) (by decide) (fun _ => rfl) hL
 have c4 : CellIn (fun x => L.set j [.int .i64 (r1 b e).2.2,.int .i64 (r2 b e).2.2,.bool (r3 b e).2.2,.int .i64 (r4 b e).2.2,x,.nils]) 6 j 4 := .of (C := fun x => [.int .i64 (r1 b e).2.2,.int .i64 (r2 b e).2.2,.bool (r3 b e).2.2,.int .i64 (r4 b e).2.2,x,.nils]) L hlt (.of [.int .i64 (r1 b e).2.2,.int .i64 (r2 b e).2.2,.bool (r3 b e).2.2,.int .i64 (r4 b e).2.2] _ (fun _ => rfl) rfl rfl rfl) (by decide) (fun _ => rfl) hL
 have c5 : CellIn (fun x => L.set j [.int .i64 (r1 b e).2.2,.int .i64 (r2 b e).2.2,.bool (r3 b e).2.2,.int .i64 (r4 b e).2.2,.str (r5 b e).2.2,x]) 6 j 5 := .of (C := fun x => [.int .i64 (r1 b e).2.2,.int .i64 (r2 b e).2.2,.bool (r3 b e).2.2,.int .i64 (r4 b e).2.2,.str (r5 b e).2.2,x]) L hlt (.of [.int .i64 (r1 b e).2.2,.int .i64 (r2 b e).2.2,.bool (r3 b e).2.2,.int .i64 (r4 b e).2.2,.str (r5 b e).2.2] _ (fun _ => rfl) rfl rfl rfl) (by decide) (fun _ => rfl) hL
 have key := parts_r (reportD 1 6 j 0) (fun|0 => pp b true e|1 => pp (r1 b e).1 true (r1 b e).2.1|2 => pp (r2 b e).1 true (r2 b e).2.1|3 => pp (r3 b e).1 true (r3 b e).2.1|4 => pp (r4 b e).1 true (r4 b e).2.1|5 => pp (r5 b e).1 true (r5 b e).2.1|_ => pp (r6 b e).1 true (r6 b e).2.1)
  (fun|0 => .rows 6 (L.set j [.int .i64 0,.int .i64 0,.bool false,.int .i64 0,.str [],.nils])|1 => .rows 6 (L.set j [.int .i64 (r1 b e).2.2,.int .i64 0,.bool false,.int .i64 0,.str [],.nils])|2 => .rows 6 (L.set j [.int .i64 (r1 b e).2.2,.int .i64 (r2 b e).2.2,.bool false,.int .i64 0,.str [],.nils])|3 => .rows 6 (L.set j [.int .i64 (r1 b e).2.2,.int .i64 (r2 b e).2.2,.bool (r3 b e).2.2,.int .i64 0,.str [],.nils])|4 => .rows 6 (L.set j [.int .i64 (r1 b e).2.2,.int .i64 (r2 b e).2.2,.bool (r3 b e).2.2,.int .i64 (r4 b e).2.2,.str [],.nils])|5 => .rows 6 (L.set j [.int .i64 (r1 b e).2.2,.int .i64 (r2 b e).2.2,.bool (r3 b e).2.2,.int .i64 (r4 b e).2.2,.str (r5 b e).2.2,.nils])|_ => .rows 6 (L.set j [.int .i64 (r1 b e).2.2,.int .i64 (r2 b e).2.2,.bool (r3 b e).2.2,.int .i64 (r4 b e).2.2,.str (r5 b e).2.2,votesA (r6 b e).2.2]))
  (by simp [reportD]) (fun k _ => by match k with|0 => exact pp_lent _ _ _|1 => exact pp_lent _ _ _|2 => exact pp_lent _ _ _|3 => exact pp_lent _ _ _|4 => exact pp_lent _ _ _|5 => exact pp_lent _ _ _|k + 6 => exact pp_lent _ _ _)
  (fun k _ => by match k with|0 => exact rows_lent (belLL_set hL rfl)|1 => exact rows_lent (belLL_set hL rfl)|2 => exact rows_lent (belLL_set hL rfl)|3 => exact rows_lent (belLL_set hL rfl)|4 => exact rows_lent (belLL_set hL rfl)|5 => exact rows_lent (belLL_set hL rfl)|k + 6 => exact rows_lent (belLL_set hL rfl)) ?hh
 case hh =>
  intro k t v h
  match k,h with
  | 0,h => cases h;exact ⟨rfl,rfl,rfl,_,meth_number,number_d b e 0 _ 6 j 0 c0 hb⟩
  | 1,h => cases h;exact ⟨rfl,rfl,rfl,_,meth_number,number_d (r1 b e).1 (r1 b e).2.1 0 _ 6 j 1 c1 (Nat.le_trans (r1_le b e) hb)⟩
  | 2,h => cases h;exact ⟨rfl,rfl,rfl,_,meth_flag,flag_d (r2 b e).1 (r2 b e).2.1 false _ 6 j 2 c2 (Nat.le_trans (r2_le b e) hb)⟩
  | 3,h => cases h;exact ⟨rfl,rfl,rfl,_,meth_number,number_d (r3 b e).1 (r3 b e).2.1 0 _ 6 j 3 c3 (Nat.le_trans (r3_le b e) hb)⟩
  | 4,h => cases h;exact ⟨rfl,rfl,rfl,_,meth_text,text_d (r4 b e).1 (r4 b e).2.1 [] _ 6 j 4 c4 (Nat.le_trans (r4_le b e) hb)⟩
  | 5,h => cases h;exact ⟨rfl,rfl,rfl,_,meth_rowA,rowA_rd (r5 b e).1 (r5 b e).2.1 _ 6 j 5 c5 (Nat.le_trans (r5_le b e) hb)⟩
  | k + 6,h => simp [reportD] at h
 have e1 : BSpec Tryz.prog 113 [.psl 1 ((reportD 1 6 j 0).map partC),.ptr 0 0] [pp b true e,.rows 6 (L.set j rpZ)] [pp (rdR b e).1 true (rdR b e).2.1,.rows 6 (L.set j (rpC (rdR b e).2.2))] (.tup []) := key
 rwa [e0] at e1
def rdRs : Nat → Bytes → Int → Bytes × Int × List Rp
 | 0,b,e => (b,e,[])
 | n + 1,b,e => ((rdR (rdRs n b e).1 (rdRs n b e).2.1).1,(rdR (rdRs n b e).1 (rdRs n b e).2.1).2.1,(rdRs n b e).2.2 ++ [(rdR (rdRs n b e).1 (rdRs n b e).2.1).2.2])
def rdC (b : Bytes) (e : Int) : Bytes × Int × List Rp :=
 if (rdN b e 0).2.2 < 0 ∨ 30 < (rdN b e 0).2.2 then ((rdN b e 0).1,5,[]) else if (rdN b e 0).2.1 = 0 then rdRs (rdN b e 0).2.2.toNat (rdN b e 0).1 0 else ((rdN b e 0).1,(rdN b e 0).2.1,[])
theorem rdRs_len (b : Bytes) (e : Int) : ∀ n,(rdRs n b e).2.2.length = n
 | 0 => rfl
 | n + 1 => by simp [rdRs,rdRs_len b e n]
theorem rdRs_le : ∀ (n : Nat) (b : Bytes) (e : Int),(rdRs n b e).1.length ≤ b.length
 | 0,_,_ => Nat.le_refl _
 | n + 1,b,e => Nat.le_trans (rdR_le _ _) (rdRs_le n b e)
def rowsR (m : Nat) (l : List Rp) : List (List AV) := l.map rpC ++ List.replicate (m - l.length) rpZ
theorem rowsR_nil (m : Nat) : rowsR m [] = List.replicate m [.int .i64 0,.int .i64 0,.bool false,.int .i64 0,.str [],.nils] := rfl
theorem rowsR_bel (n m : Nat) (l : List Rp) : belLL n (rowsR m l) = true := by
 refine belLL_app ?_ (belLL_rep rfl _)
 induction l with
 | nil => rfl
 | cons a l ih => simp only [Yf,belLL,ih,Bool.and_true];rfl
theorem rowsR_bel0 (n m : Nat) : belLL n (List.replicate m [AV.int .i64 0,.int .i64 0,.bool false,.int .i64 0,.str [],.nils]) = true := rowsR_bel n m []
theorem rowsR_len (m : Nat) (l : List Rp) : (rowsR m l).length = l.length + (m - l.length) := by simp [rowsR]
theorem rowsR_get (m k : Nat) (l : List Rp) (hl : l.length = k) (hk : k < m) : (rowsR m l)[k]? = some rpZ := by
 unfold rowsR
 rw [List.getElem?_append_right (by simp [hl]),List.length_map,hl,Nat.sub_self,List.getElem?_replicate,if_pos (by omega)]
theorem rowsR_set (m k : Nat) (l : List Rp) (hl : l.length = k) (hk : k < m) (a : Rp) : (rowsR m l).set k (rpC a) = rowsR m (l ++ [a]) := by
 unfold rowsR
 obtain ⟨d,hd⟩ : ∃ d,m - k = d + 1 := ⟨m - k - 1,by omega⟩
 rw [List.set_append_right _ _ (by simp [hl]),List.length_map,hl,Nat.sub_self,hd,List.replicate_succ,List.set_cons_zero,List.map_append,List.append_assoc,List.length_append,hl,show m - (k + [a].length) = d by simp;omega]
 rfl
theorem rowsR_fin (m : Nat) (l : List Rp) (hl : l.length = m) : (rowsR m l).take m = l.map rpC := by
 unfold rowsR
 exact List.take_left' (by simp [hl])
theorem rowsR_plain (l : List Rp) : ∀ x ∈ l.map rpC,∀ a ∈ x,a.plain = true := by
 intro x hx a ha
 obtain ⟨c,_,rfl⟩ := List.mem_map.1 hx
 simp only [rpC,List.mem_cons,List.not_mem_nil,or_false] at ha
 rcases ha with rfl|rfl|rfl|rfl|rfl|rfl <;> rfl
theorem rowR_rb (b : Bytes) (e : Int) (C : AV → List AV) (o : Nat) (hC : CellAt C o) (hb : b.length ≤ 1000000) : BSpec Tryz.prog 112 [.agg [.ptr 1 o,.fn (.func 72) [] []],.ptr 0 0] [pp b true e,.box (C (.nils))] [pp (rdC b e).1 true (rdC b e).2.1,.box (C (rpsA (rdC b e).2.2))] (.tup []) := by
 have hn := number_r b e 0 [.int .i64 0] 0 hb rfl (by decide) rfl
 have hbl := rdN_le b e 0
 unfold rdC
 generalize rdN b e 0 = t at *
 obtain ⟨b',e',n⟩ := t
 have l0 : ∀ x : AV,lay [.int .i64 0] 0 [x] = [x] := fun _ => rfl
 simp only [l0] at hn hbl ⊢
 refine ⟨⟨_,Tryz.func112,by kernel_rfl,rfl⟩,Sg Tryz.func112 rfl fun c0 hc0 => ?_⟩;simp only [go_sem,pp,hC.rd,hC.le,Nat.reduceAdd,Nat.reduceLeDiff,Nat.reduceSub]
 refine Ops.callB .free rfl rfl (js := [0,3]) (by decide) (LentAll.cons rfl (pp_lent b true e) (LentAll.cons rfl (LentB.box_ [.int .i64 0] rfl) LentAll.nil)) (lent2 (pp_lent _ _ _) (LentB.box_ _ rfl)) rfl rfl (by simp only [go_sem,cond_true,cond_false,renL,AV.ren,List.idxOf,List.findIdx,List.findIdx.go,Nat.reduceAdd,Nat.reduceBEq];(repeat' first|exact .refl _|apply LeR.tup|apply Le.agg|constructor)) (hn) rfl ?_
 by_cases n1 : n < 0
 ·rw [if_pos (.inl n1)]
  refine Og Tryz.func112 ?_;simp only [go_sem,putBack,pp,n1,hC.rd,hC.le,↓alt_t,↓alt_f,↓alts_t,↓gone_tt,↓gone_ft,Int.reduceEq,Nat.reduceAdd,Nat.reduceLeDiff]
  (and_intros <;> try first|rfl|omega|(unfold I64;omega))
  all_goals first|omega|skip
  ·skip
   refine Run.unloop ?_
   refine Rg Tryz.func112 ?_;simp only [go_sem,↓alt_f,Int.reduceLT]
   exact ⟨by (repeat' first|exact .refl _|apply LeR.tup|apply Le.agg|constructor),WkH.cons (LeB.same _ rfl) (WkH.cons (LeB.box (hC.le1 (.nil 6)) (hC.bel 0 _ rfl)) (WkH.nil _))⟩
 ·by_cases n2 : 30 < n
  ·rw [if_pos (.inr n2)]
   refine Og Tryz.func112 ?_;simp only [go_sem,putBack,pp,n1,n2,hC.rd,hC.le,↓alt_t,↓alt_f,↓alts_t,↓alts_f,↓gone_tt,↓gone_ff,Int.reduceEq,Nat.reduceAdd,Nat.reduceLeDiff]
   (and_intros <;> try first|rfl|omega|(unfold I64;omega))
   all_goals first|omega|skip
   ·skip
    refine Run.unloop ?_
    refine Rg Tryz.func112 ?_;simp only [go_sem,↓alt_f,Int.reduceLT]
    exact ⟨by (repeat' first|exact .refl _|apply LeR.tup|apply Le.agg|constructor),WkH.cons (LeB.same _ rfl) (WkH.cons (LeB.box (hC.le1 (.nil 6)) (hC.bel 0 _ rfl)) (WkH.nil _))⟩
  ·rw [if_neg (by omega)]
   by_cases e0 : e' = 0
   ·subst e0
    rw [if_pos rfl]
    obtain ⟨m,rfl⟩ := Int.eq_ofNat_of_zero_le (by omega : 0 ≤ n)
    have hm : m ≤ 30 := by omega
    rw [Int.toNat_natCast]
    have hS := rdRs_len b' 0
    have hSl := fun k => Nat.le_trans (rdRs_le k b' 0) (Nat.le_trans hbl hb)
    have hfin : (rowsR m (rdRs m b' 0).2.2).take m = (rdRs m b' 0).2.2.map rpC := rowsR_fin m _ (hS m)
    refine Og Tryz.func112 ?_;simp only [go_sem,putBack,pp,n1,n2,hC.rd,hC.wr,hC.le,↓alt_t,↓alt_f,↓alts_t,↓alts_f,↓gone_tt,↓gone_ff,Nat.reduceAdd,Nat.reduceLeDiff,Nat.reduceLT]
    (and_intros <;> try first|rfl|omega|(unfold I64;omega))
    all_goals first|omega|skip
    refine Run.loopV (α := Nat) (fun k => k ≤ m) (fun k => [(44,.int .i64 k)]) 5 (fun k => [(0,pp (rdRs k b' 0).1 true (rdRs k b' 0).2.1),(4,.rows 6 (rowsR m (rdRs k b' 0).2.2))]) (fun k => m - k) 0 (Nat.zero_le _) ?_ ?_
    ·simp only [go_sem,writes,junks,puts,hputs,List.filterMap_cons,List.filterMap_nil,rdRs,rowsR_nil,pp,bytesA]
     (refine Weak.of (by simp [hc0]) ?_ ?_ <;> (repeat' first|exact .refl _|exact .junk _|exact .nil|exact .nil _|exact .tok _ _ _|rfl|apply WkT.cons|apply WkH.cons|apply LeB.same|apply LeB.box|apply Le1L.cons|apply Le.agg|apply Le.one))
     all_goals (first|exact rowsR_bel _ _ _|exact rowsR_bel0 _ _|exact hC.bel _ _ (by simp [AV.bel]))
    intro k hk ih
    simp only [writes,junks,puts,hputs,List.filterMap_cons,List.filterMap_nil,Y6,Y7,Yg,Yk,Y5,Y3,Yd] at hk ih ⊢
    by_cases hlt : k < m
    ·have hkk : (k : Int) < m := by omega
     have hrow := rowsR_get m k _ (hS k) hlt
     have hset := rowsR_set m k _ (hS k) hlt
     have hrb : belLL 0 (rowsR m (rdRs k b' 0).2.2) = true := rowsR_bel _ _ _
     refine Rg Tryz.func112 ?_;simp only [go_sem,hkk,hC.rd,hC.le,pp,↓alt_t,Nat.reduceAdd,Nat.reduceLeDiff,Nat.reduceLT]
     (and_intros <;> try first|rfl|omega|(unfold I64;omega))
     refine DOps.callP rfl .free rfl rfl (js := [4]) (by decide) (LentAll.cons rfl (rows_lent hrb) LentAll.nil) (lent1 (rows_lent hrb)) rfl rfl (by simp only [go_sem,cond_true,renL,AV.ren,List.idxOf,List.findIdx,List.findIdx.go];(repeat' first|exact .refl _|apply LeR.tup|apply Le.agg|constructor)) (report_d 6 k 0 _ (rows_lent hrb)) rfl ?_
     refine Dg Tryz.func112 rfl ?_;simp only [go_sem,reportD,partC,AV.unr,unrL,unrLL,Nat.reduceAdd]
     refine DOps.invokeB rfl .free rfl rfl meth_parts (js := [0,4]) (by decide) (LentAll.cons rfl (pp_lent _ _ _) (LentAll.cons rfl (rows_lent hrb) LentAll.nil)) (lent2 (pp_lent _ _ _) (rows_lent (belLL_set hrb rfl))) rfl (by simp only [go_sem];rfl) (by simp only [go_sem,Nat.reduceAdd,Nat.reduceBEq,cond_true,cond_false,renL,renLL,AV.ren,List.idxOf,List.findIdx,List.findIdx.go];exact LeL.cons (Le.refl _) (LeL.cons (Le.refl _) LeL.nil)) (report_rd _ _ _ k hrow hrb (hSl k)) rfl ?_
     refine Dg Tryz.func112 rfl ?_;simp only [go_sem,putBack,pp]
     (and_intros <;> try first|rfl|omega|(unfold I64;omega))
     refine ih (k + 1) _ (by omega) (by omega) ?_
     simp only [Int.natCast_add,Int.natCast_one,pp,bytesA,rdRs,hset]
     (refine Weak.of (by simp [hc0]) ?_ ?_ <;> (repeat' first|exact .refl _|exact .junk _|exact .nil|exact .nil _|exact .tok _ _ _|rfl|apply WkT.cons|apply WkH.cons|apply LeB.same|apply LeB.box|apply Le1L.cons|apply Le.agg|apply Le.one))
     all_goals (first|exact rowsR_bel _ _ _|exact hC.bel _ _ (by simp [AV.bel]))
    ·obtain rfl : m = k := by omega
     have hkk : ¬ (m : Int) < m := by omega
     refine Run.weak (Weak.freezeC 1 o 4 6 0 m m _ _ rfl (hC.get _) rfl (by decide) (by rw [rowsR_len];omega) (by rw [List.drop_zero,hfin];exact rowsR_plain _)) ?_
     simp only [Yi,hfin,hC.set,Y6,Y7]
     refine Rg Tryz.func112 ?_;simp only [go_sem,hkk,pp,↓alt_f]
     exact ⟨by (repeat' first|exact .refl _|apply LeR.tup|apply Le.agg|constructor),WkH.cons (LeB.same _ rfl) (WkH.cons (LeB.same _ (hC.bel 0 _ rfl)) (WkH.nil _))⟩
   ·rw [if_neg e0]
    refine Og Tryz.func112 ?_;simp only [go_sem,putBack,pp,n1,n2,e0,hC.rd,hC.le,↓alt_f,↓alts_t,↓alts_f,↓gone_tt,↓gone_ff,Nat.reduceAdd,Nat.reduceLeDiff]
    (and_intros <;> try first|rfl|omega|(unfold I64;omega))
    all_goals first|omega|skip
    ·skip
     refine Run.unloop ?_
     refine Rg Tryz.func112 ?_;simp only [go_sem,↓alt_f,Int.reduceLT]
     exact ⟨by (repeat' first|exact .refl _|apply LeR.tup|apply Le.agg|constructor),WkH.cons (LeB.same _ rfl) (WkH.cons (LeB.box (hC.le1 (.nil 6)) (hC.bel 0 _ rfl)) (WkH.nil _))⟩
def rdM (b : Bytes) (e : Int) (s : Bytes) : Bytes × Int × Bytes := if e = 0 then (if b.length < 32 then (b,2,s) else (b.drop 32,0,b.take 32)) else (b,e,s)
theorem sumC_bel (s : Bytes) : belL 0 (sumC s) = true := (Pln.sum s).1 0
theorem sumC_flat (l : Bytes) : (l.map byteC).flatten = sumC l := by
 induction l with
 | nil => rfl
 | cons a l ih => rw [List.map_cons,List.flatten_cons,ih];rfl
theorem sum_r (b : Bytes) (e : Int) (s : Bytes) (cs : List AV) (o : Nat) (hs : s.length = 32) (ho : (cs.drop o).take 32 = sumC s) (hl : o + 32 ≤ cs.length) (hcs : belL 0 cs = true) : BSpec Tryz.prog 114 [.agg [.ptr 1 o],.ptr 0 0] [pp b true e,.box cs] [pp (rdM b e s).1 true (rdM b e s).2.1,.box (lay cs o (sumC (rdM b e s).2.2))] (.tup []) := by
 have hself : lay cs o (sumC s) = cs := lay_self (by rw [show (sumC s).length = 32 by simp [sumC,hs]];exact ho) (by rw [show (sumC s).length = 32 by simp [sumC,hs]];exact hl)
 have hbl2 := hcs
 by_cases he : e = 0
 ·subst he
  by_cases hn : b.length < 32
  ·have e1 : rdM b 0 s = (b,2,s) := by unfold rdM;simp [hn]
   rw [e1,hself]
   have hn' : (b.length : Int) < 32 := by omega
   refine ⟨⟨_,Tryz.func114,by kernel_rfl,rfl⟩,Sg Tryz.func114 rfl fun c0 hc0 => ?_⟩;simp only [go_sem,pp,hn',bytesA,↓alt_t,↓alt_f,Nat.reduceAdd,Nat.reduceLeDiff,Nat.reduceSub]
   (and_intros <;> try first|rfl|omega|(unfold I64;omega))
   all_goals (first|omega|exact True.intro|(repeat' (first|exact WkH.nil _|exact LeR.one (Le.refl _)|exact LeL.nil|apply LeR.tup|exact Le.refl _|exact Le1.refl _|exact Le1L.nil|exact le1l_refl _|rfl|exact hcs|exact hbl2|apply WkH.cons|apply LeB.box|apply Le1L.cons|apply Le.one)))
  ·have e1 : rdM b 0 s = (b.drop 32,0,b.take 32) := by unfold rdM;simp [hn]
   rw [e1]
   have hn' : ¬ (b.length : Int) < 32 := by omega
   have hmin : min b.length 32 = 32 := by omega
   have hfl : ((b.map byteC).take 32).flatten = sumC (b.take 32) := by rw [← List.map_take,sumC_flat]
   have hsl : (sumC (b.take 32)).length = 32 := by simp [sumC];omega
   have hle : (32 : Int) ≤ b.length := by omega
   have hbl2 : belL 0 (cs.take o ++ sumC (b.take 32) ++ cs.drop (o + 32)) = true := belL_app (belL_app (belL_take _ hcs) (sumC_bel _)) (belL_drop _ hcs)
   simp only [go_sem,hsl]
   refine ⟨⟨_,Tryz.func114,by kernel_rfl,rfl⟩,Sg Tryz.func114 rfl fun c0 hc0 => ?_⟩;simp only [go_sem,pp,hn',hmin,hfl,hsl,hl,hle,bytesA,Int.cast_ofNat_Int,← List.map_drop,Int.reduceToNat,↓alt_f,Int.reduceLE,Nat.reduceAdd,Nat.reduceLeDiff,Nat.reduceLT,Nat.reduceSub]
   (and_intros <;> try first|rfl|omega|(unfold I64;omega))
   all_goals (first|omega|exact True.intro|(repeat' (first|exact WkH.nil _|exact LeR.one (Le.refl _)|exact LeL.nil|apply LeR.tup|exact Le.refl _|exact Le1.refl _|exact Le1L.nil|exact le1l_refl _|rfl|exact hcs|exact hbl2|apply WkH.cons|apply LeB.box|apply Le1L.cons|apply Le.one)))
 ·have e1 : rdM b e s = (b,e,s) := by unfold rdM;simp [he]
  rw [e1,hself]
  refine ⟨⟨_,Tryz.func114,by kernel_rfl,rfl⟩,Sg Tryz.func114 rfl fun c0 hc0 => ?_⟩;simp only [go_sem,pp,he,↓alt_t,Nat.reduceAdd,Nat.reduceSub]
  (and_intros <;> try first|rfl|omega|(unfold I64;omega))
  all_goals (first|omega|exact True.intro|(repeat' (first|exact WkH.nil _|exact LeR.one (Le.refl _)|exact LeL.nil|apply LeR.tup|exact Le.refl _|exact Le1.refl _|exact Le1L.nil|exact le1l_refl _|rfl|exact hcs|exact hbl2|apply WkH.cons|apply LeB.box|apply Le1L.cons|apply Le.one)))
section
variable {P : Program} {c0 : Cx} {s : AState}
theorem Weak.nilC (q m kk : Nat) (cs : List AV) (hq : s.h[q]? = some (.box cs)) (hm : cs[m]? = some .nils) : Weak P c0 s ⟨s.t,s.h.set q (.box (cs.set m (.sl kk [] .no)))⟩ := by
 refine ⟨fun ρ w vs h1 h2 h3 => ?_⟩
 obtain ⟨b,us,e,hb,hh,hsz,hall⟩ := h1.blk q _ hq
 obtain ⟨q4,q5⟩ := Cx.retell h1 q b _ (.box (cs.set m (.sl kk [] .no))) hq hb rfl rfl rfl rfl (fun o h => h.elim) fun hev => by
  refine ⟨b,us,e,hb,hh,by simpa using hsz,fun j a ha => ?_⟩
  rw [List.getElem?_set] at ha
  split at ha
  ·rename_i hjm
   subst hjm
   split at ha
   ·cases ha
    obtain ⟨g1,u,g2,g3⟩ := hall m _ hm
    cases g3
    exact ⟨rfl,_,g2,.nil_sl kk⟩
   ·cases ha
  ·obtain ⟨g1,u,g2,g3⟩ := hall j a ha
   exact ⟨g1,u,g2,g3.mono hev⟩
 exact ⟨ρ,q4,h2.trans q5,h3.mono q5⟩
end
theorem letplaces_1 (cs : List AV) (hcs : belL 0 cs = true) : BSpec Tryz.prog 42 [.ptr 0 0] [.box (.int .i64 1 :: cs)] [.box (.int .i64 1 :: cs)] (.iface 125 (.psl 1 [[.iface 87 (.agg [.ptr 0 1])],[.iface 87 (.agg [.ptr 0 2])],[.iface 87 (.agg [.ptr 0 3])],[.iface 119 (.agg [.ptr 0 4])],[.iface 123 (.agg [.ptr 0 5,.fn (.func 72) [] []])]])) := by
 have hX : LentB (.box (.int .i64 1 :: cs)) := .box_ _ (by simp [belL,AV.bel,hcs])
 refine ⟨⟨_,Tryz.func42,by kernel_rfl,rfl⟩,Sg Tryz.func42 rfl fun c0 hc0 => ?_⟩;simp only [go_sem,show 0 + 1 ≤ cs.length + 1 by omega,↓alt_t,Nat.reduceAdd,Nat.reduceLeDiff,Nat.reduceMul,Nat.reduceBEq,Nat.reduceLT,Nat.reduceSub]
 (and_intros <;> try first|rfl|omega|(unfold I64;omega))
 all_goals (first|exact WkH.cons (LeB.same _ (hX.bel 0)) (WkH.nil _)|(repeat' first|exact .refl _|apply LeR.tup|apply Le.agg|constructor))
theorem letplaces_2 (cs : List AV) (hcs : belL 0 cs = true) : BSpec Tryz.prog 42 [.ptr 0 0] [.box (.int .i64 2 :: cs)] [.box (.int .i64 2 :: cs)] (.iface 125 (.psl 1 [[.iface 87 (.agg [.ptr 0 2])],[.iface 125 (.psl 1 ((voteB_ 0 6).map partC))]])) := by
 have hX : LentB (.box (.int .i64 2 :: cs)) := .box_ _ (by simp [belL,AV.bel,hcs])
 refine ⟨⟨_,Tryz.func42,by kernel_rfl,rfl⟩,Sg Tryz.func42 rfl fun c0 hc0 => ?_⟩;simp only [go_sem,show 0 + 1 ≤ cs.length + 1 by omega,↓alt_t,↓alt_f,Int.reduceEq,Nat.reduceAdd,Nat.reduceSub]
 (and_intros <;> try first|rfl|omega|(unfold I64;omega))
 refine DOps.callP rfl .free rfl rfl (js := [0]) (by decide) (LentAll.cons rfl (hX) LentAll.nil) (lent1 (hX)) rfl rfl (by simp only [go_sem,cond_true,renL,AV.ren,List.idxOf,List.findIdx,List.findIdx.go];(repeat' first|exact .refl _|apply LeR.tup|apply Le.agg|constructor)) (vote_b 6 _ hX) rfl ?_
 refine Dg Tryz.func42 rfl ?_;simp only [go_sem,voteB_,partC,AV.unr,unrL,unrLL,Nat.reduceAdd,Nat.reduceLeDiff,Nat.reduceMul,Nat.reduceBEq,Nat.reduceLT]
 (and_intros <;> try first|rfl|omega|(unfold I64;omega))
 all_goals (first|exact WkH.cons (LeB.same _ (hX.bel 0)) (WkH.nil _)|(repeat' first|exact .refl _|apply LeR.tup|apply Le.agg|constructor))
theorem letplaces_3 (cs : List AV) (hcs : belL 0 cs = true) : BSpec Tryz.prog 42 [.ptr 0 0] [.box (.int .i64 3 :: cs)] [.box (.int .i64 3 :: cs)] (.iface 125 (.psl 1 [[.iface 87 (.agg [.ptr 0 1])],[.iface 87 (.agg [.ptr 0 2])],[.iface 168 (.agg [.ptr 0 9,.fn (.func 73) [] []])]])) := by
 have hX : LentB (.box (.int .i64 3 :: cs)) := .box_ _ (by simp [belL,AV.bel,hcs])
 refine ⟨⟨_,Tryz.func42,by kernel_rfl,rfl⟩,Sg Tryz.func42 rfl fun c0 hc0 => ?_⟩;simp only [go_sem,show 0 + 1 ≤ cs.length + 1 by omega,↓alt_t,↓alt_f,Int.reduceEq,Nat.reduceAdd,Nat.reduceSub]
 (and_intros <;> try first|rfl|omega|(unfold I64;omega))
 refine DOps.callP rfl .free rfl rfl (js := [0]) (by decide) (LentAll.cons rfl (hX) LentAll.nil) (lent1 (hX)) rfl rfl (by simp only [go_sem,cond_true,renL,AV.ren,List.idxOf,List.findIdx,List.findIdx.go];(repeat' first|exact .refl _|apply LeR.tup|apply Le.agg|constructor)) (votes_b 9 _ hX) rfl ?_
 refine Dg Tryz.func42 rfl ?_;simp only [go_sem,AV.unr,unrL,Nat.reduceAdd,Nat.reduceLeDiff,Nat.reduceMul,Nat.reduceBEq,Nat.reduceLT]
 (and_intros <;> try first|rfl|omega|(unfold I64;omega))
 all_goals (first|exact WkH.cons (LeB.same _ (hX.bel 0)) (WkH.nil _)|(repeat' first|exact .refl _|apply LeR.tup|apply Le.agg|constructor))
theorem letplaces_4 (cs : List AV) (hcs : belL 0 cs = true) : BSpec Tryz.prog 42 [.ptr 0 0] [.box (.int .i64 4 :: cs)] [.box (.int .i64 4 :: cs)] (.iface 125 (.psl 1 [[.iface 87 (.agg [.ptr 0 2])],[.iface 125 (.psl 1 ((reportB_ 0 10).map partC))]])) := by
 have hX : LentB (.box (.int .i64 4 :: cs)) := .box_ _ (by simp [belL,AV.bel,hcs])
 refine ⟨⟨_,Tryz.func42,by kernel_rfl,rfl⟩,Sg Tryz.func42 rfl fun c0 hc0 => ?_⟩;simp only [go_sem,show 0 + 1 ≤ cs.length + 1 by omega,↓alt_t,↓alt_f,Int.reduceEq,Nat.reduceAdd,Nat.reduceSub]
 (and_intros <;> try first|rfl|omega|(unfold I64;omega))
 refine DOps.callP rfl .free rfl rfl (js := [0]) (by decide) (LentAll.cons rfl (hX) LentAll.nil) (lent1 (hX)) rfl rfl (by simp only [go_sem,cond_true,renL,AV.ren,List.idxOf,List.findIdx,List.findIdx.go];(repeat' first|exact .refl _|apply LeR.tup|apply Le.agg|constructor)) (report_b 10 _ hX) rfl ?_
 refine Dg Tryz.func42 rfl ?_;simp only [go_sem,reportB_,partC,AV.unr,unrL,unrLL,Nat.reduceAdd,Nat.reduceLeDiff,Nat.reduceMul,Nat.reduceBEq,Nat.reduceLT]
 (and_intros <;> try first|rfl|omega|(unfold I64;omega))
 all_goals (first|exact WkH.cons (LeB.same _ (hX.bel 0)) (WkH.nil _)|(repeat' first|exact .refl _|apply LeR.tup|apply Le.agg|constructor))
theorem letplaces_5 (cs : List AV) (hcs : belL 0 cs = true) : BSpec Tryz.prog 42 [.ptr 0 0] [.box (.int .i64 5 :: cs)] [.box (.int .i64 5 :: cs)] (.iface 125 (.psl 1 [[.iface 87 (.agg [.ptr 0 1])],[.iface 87 (.agg [.ptr 0 2])],[.iface 119 (.agg [.ptr 0 4])]])) := by
 have hX : LentB (.box (.int .i64 5 :: cs)) := .box_ _ (by simp [belL,AV.bel,hcs])
 refine ⟨⟨_,Tryz.func42,by kernel_rfl,rfl⟩,Sg Tryz.func42 rfl fun c0 hc0 => ?_⟩;simp only [go_sem,show 0 + 1 ≤ cs.length + 1 by omega,↓alt_t,↓alt_f,Int.reduceEq,Nat.reduceAdd,Nat.reduceLeDiff,Nat.reduceMul,Nat.reduceBEq,Nat.reduceLT,Nat.reduceSub]
 (and_intros <;> try first|rfl|omega|(unfold I64;omega))
 all_goals (first|exact WkH.cons (LeB.same _ (hX.bel 0)) (WkH.nil _)|(repeat' first|exact .refl _|apply LeR.tup|apply Le.agg|constructor))
theorem letplaces_6 (cs : List AV) (hcs : belL 0 cs = true) : BSpec Tryz.prog 42 [.ptr 0 0] [.box (.int .i64 6 :: cs)] [.box (.int .i64 6 :: cs)] (.iface 125 (.psl 1 [[.iface 87 (.agg [.ptr 0 1])],[.iface 87 (.agg [.ptr 0 3])]])) := by
 have hX : LentB (.box (.int .i64 6 :: cs)) := .box_ _ (by simp [belL,AV.bel,hcs])
 refine ⟨⟨_,Tryz.func42,by kernel_rfl,rfl⟩,Sg Tryz.func42 rfl fun c0 hc0 => ?_⟩;simp only [go_sem,show 0 + 1 ≤ cs.length + 1 by omega,↓alt_t,↓alt_f,Int.reduceEq,Nat.reduceAdd,Nat.reduceLeDiff,Nat.reduceMul,Nat.reduceBEq,Nat.reduceLT,Nat.reduceSub]
 (and_intros <;> try first|rfl|omega|(unfold I64;omega))
 all_goals (first|exact WkH.cons (LeB.same _ (hX.bel 0)) (WkH.nil _)|(repeat' first|exact .refl _|apply LeR.tup|apply Le.agg|constructor))
theorem letplaces_7 (cs : List AV) (hcs : belL 0 cs = true) : BSpec Tryz.prog 42 [.ptr 0 0] [.box (.int .i64 7 :: cs)] [.box (.int .i64 7 :: cs)] (.iface 125 (.psl 1 [[.iface 87 (.agg [.ptr 0 1])],[.iface 87 (.agg [.ptr 0 2])],[.iface 133 (.agg [.ptr 0 16])]])) := by
 have hX : LentB (.box (.int .i64 7 :: cs)) := .box_ _ (by simp [belL,AV.bel,hcs])
 refine ⟨⟨_,Tryz.func42,by kernel_rfl,rfl⟩,Sg Tryz.func42 rfl fun c0 hc0 => ?_⟩;simp only [go_sem,show 0 + 1 ≤ cs.length + 1 by omega,↓alt_t,↓alt_f,Int.reduceEq,Nat.reduceAdd,Nat.reduceLeDiff,Nat.reduceMul,Nat.reduceBEq,Nat.reduceLT,Nat.reduceSub]
 (and_intros <;> try first|rfl|omega|(unfold I64;omega))
 all_goals (first|exact WkH.cons (LeB.same _ (hX.bel 0)) (WkH.nil _)|(repeat' first|exact .refl _|apply LeR.tup|apply Le.agg|constructor))
theorem letplaces_8 (cs : List AV) (hcs : belL 0 cs = true) : BSpec Tryz.prog 42 [.ptr 0 0] [.box (.int .i64 8 :: cs)] [.box (.int .i64 8 :: cs)] (.iface 136 (.agg [.ptr 0 48])) := by
 have hX : LentB (.box (.int .i64 8 :: cs)) := .box_ _ (by simp [belL,AV.bel,hcs])
 refine ⟨⟨_,Tryz.func42,by kernel_rfl,rfl⟩,Sg Tryz.func42 rfl fun c0 hc0 => ?_⟩;simp only [go_sem,show 0 + 1 ≤ cs.length + 1 by omega,↓alt_t,↓alt_f,Int.reduceEq,Nat.reduceAdd,Nat.reduceSub]
 (and_intros <;> try first|rfl|omega|(unfold I64;omega))
 all_goals (first|exact WkH.cons (LeB.same _ (hX.bel 0)) (WkH.nil _)|(repeat' first|exact .refl _|apply LeR.tup|apply Le.agg|constructor))
theorem letplaces_9 (cs : List AV) (hcs : belL 0 cs = true) : BSpec Tryz.prog 42 [.ptr 0 0] [.box (.int .i64 9 :: cs)] [.box (.int .i64 9 :: cs)] (.iface 125 (.psl 1 [[.iface 87 (.agg [.ptr 0 1])],[.iface 139 (.agg [.ptr 0 56])]])) := by
 have hX : LentB (.box (.int .i64 9 :: cs)) := .box_ _ (by simp [belL,AV.bel,hcs])
 refine ⟨⟨_,Tryz.func42,by kernel_rfl,rfl⟩,Sg Tryz.func42 rfl fun c0 hc0 => ?_⟩;simp only [go_sem,show 0 + 1 ≤ cs.length + 1 by omega,↓alt_t,↓alt_f,Int.reduceEq,Nat.reduceAdd,Nat.reduceLeDiff,Nat.reduceMul,Nat.reduceBEq,Nat.reduceLT,Nat.reduceSub]
 (and_intros <;> try first|rfl|omega|(unfold I64;omega))
 all_goals (first|exact WkH.cons (LeB.same _ (hX.bel 0)) (WkH.nil _)|(repeat' first|exact .refl _|apply LeR.tup|apply Le.agg|constructor))
theorem letplaces_10 (cs : List AV) (hcs : belL 0 cs = true) : BSpec Tryz.prog 42 [.ptr 0 0] [.box (.int .i64 10 :: cs)] [.box (.int .i64 10 :: cs)] (.iface 125 (.psl 1 [[.iface 87 (.agg [.ptr 0 1])],[.iface 87 (.agg [.ptr 0 2])]])) := by
 have hX : LentB (.box (.int .i64 10 :: cs)) := .box_ _ (by simp [belL,AV.bel,hcs])
 refine ⟨⟨_,Tryz.func42,by kernel_rfl,rfl⟩,Sg Tryz.func42 rfl fun c0 hc0 => ?_⟩;simp only [go_sem,show 0 + 1 ≤ cs.length + 1 by omega,↓alt_t,↓alt_f,Int.reduceEq,Nat.reduceAdd,Nat.reduceLeDiff,Nat.reduceMul,Nat.reduceBEq,Nat.reduceLT,Nat.reduceSub]
 (and_intros <;> try first|rfl|omega|(unfold I64;omega))
 all_goals (first|exact WkH.cons (LeB.same _ (hX.bel 0)) (WkH.nil _)|(repeat' first|exact .refl _|apply LeR.tup|apply Le.agg|constructor))
theorem letplaces_no (n : Int) (cs : List AV) (hn : n < 1 ∨ 10 < n) (hcs : belL 0 cs = true) : BSpec Tryz.prog 42 [.ptr 0 0] [.box (.int .i64 n :: cs)] [.box (.int .i64 n :: cs)] .nilI := by
 have hX : LentB (.box (.int .i64 n :: cs)) := .box_ _ (by simp [belL,AV.bel,hcs])
 have n1 : ¬ n = 1 := by omega
 have n2 : ¬ n = 2 := by omega
 have n3 : ¬ n = 3 := by omega
 have n4 : ¬ n = 4 := by omega
 have n5 : ¬ n = 5 := by omega
 have n6 : ¬ n = 6 := by omega
 have n7 : ¬ n = 7 := by omega
 have n8 : ¬ n = 8 := by omega
 have n9 : ¬ n = 9 := by omega
 have n10 : ¬ n = 10 := by omega
 refine ⟨⟨_,Tryz.func42,by kernel_rfl,rfl⟩,Sg Tryz.func42 rfl fun c0 hc0 => ?_⟩;simp only [go_sem,n1,n2,n3,n4,n5,n6,n7,n8,n9,n10,show 0 + 1 ≤ cs.length + 1 by omega,↓alt_f,Nat.reduceAdd,Nat.reduceSub]
 (and_intros <;> try first|rfl|omega|(unfold I64;omega))
 all_goals (first|exact WkH.cons (LeB.same _ (hX.bel 0)) (WkH.nil _)|(repeat' first|exact .refl _|apply LeR.tup|apply Le.agg|constructor))
def zM : Bytes := List.replicate 32 0
def zO : Ord := ⟨0,0,0,[],[],0,0,0⟩
def zX : Rpl := ⟨0,0,0,[],0,[]⟩
def zL : Ltr := ⟨0,0,0,0,[],[],zA,[],⟨0,0,false,0,[],[]⟩,zM,zO,zX⟩
theorem rdM_32 (b : Bytes) (e : Int) (s : Bytes) (h : s.length = 32) : (rdM b e s).2.2.length = 32 := by
 unfold rdM
 split
 ·split
  ·exact h
  ·simp;omega
 ·exact h
theorem sumC_len (s : Bytes) : (sumC s).length = s.length := by simp [sumC]
theorem lay_mid {xs ms ys ns : List AV} (h : ns.length = ms.length) : lay (xs ++ (ms ++ ys)) xs.length ns = xs ++ (ns ++ ys) := by
 unfold lay
 rw [List.take_left,List.append_assoc,h]
 congr 2
 rw [← List.append_assoc,show xs.length + ms.length = (xs ++ ms).length by simp,List.drop_left]
def q1_1 (b : Bytes) : Bytes × Int × Int := rdN b 0 0
def q1_2 (b : Bytes) : Bytes × Int × Int := rdN (q1_1 b).1 (q1_1 b).2.1 0
def q1_3 (b : Bytes) : Bytes × Int × Int := rdN (q1_2 b).1 (q1_2 b).2.1 0
def q1_4 (b : Bytes) : Bytes × Int × Bytes := rdT (q1_3 b).1 (q1_3 b).2.1 []
def q1_5 (b : Bytes) : Bytes × Int × List Rp := rdC (q1_4 b).1 (q1_4 b).2.1
def l1 (b : Bytes) : Ltr := { zL with kind := 1,frm := (q1_1 b).2.2,slot := (q1_2 b).2.2,view := (q1_3 b).2.2,value := (q1_4 b).2.2,cert := (q1_5 b).2.2 }
theorem told_1 (b : Bytes) (hb : b.length ≤ 1000000) : BSpec Tryz.prog 113 [.psl 1 [[.iface 87 (.agg [.ptr 1 1])],[.iface 87 (.agg [.ptr 1 2])],[.iface 87 (.agg [.ptr 1 3])],[.iface 119 (.agg [.ptr 1 4])],[.iface 123 (.agg [.ptr 1 5,.fn (.func 72) [] []])]],.ptr 0 0] [pp b true 0,.box (.int .i64 1 :: .int .i64 0 :: .int .i64 0 :: .int .i64 0 :: .str [] :: .nils :: (accC zA ++ (.nils :: (rpZ ++ (sumC zM ++ (ordC zO ++ rplC zX))))))] [pp (q1_5 b).1 true (q1_5 b).2.1,.box (.int .i64 1 :: .int .i64 (q1_1 b).2.2 :: .int .i64 (q1_2 b).2.2 :: .int .i64 (q1_3 b).2.2 :: .str (q1_4 b).2.2 :: rpsA (q1_5 b).2.2 :: (accC zA ++ (.nils :: (rpZ ++ (sumC zM ++ (ordC zO ++ rplC zX))))))] (.tup []) := by
 have l1 : (q1_1 b).1.length ≤ 1000000 := Nat.le_trans (rdN_le b 0 _) hb
 have l2 : (q1_2 b).1.length ≤ 1000000 := Nat.le_trans (rdN_le (q1_1 b).1 (q1_1 b).2.1 _) l1
 have l3 : (q1_3 b).1.length ≤ 1000000 := Nat.le_trans (rdN_le (q1_2 b).1 (q1_2 b).2.1 _) l2
 have l4 : (q1_4 b).1.length ≤ 1000000 := Nat.le_trans (rdT_le (q1_3 b).1 (q1_3 b).2.1 _) l3
 refine parts_r [(87,(.agg [.ptr 1 1])),(87,(.agg [.ptr 1 2])),(87,(.agg [.ptr 1 3])),(119,(.agg [.ptr 1 4])),(123,(.agg [.ptr 1 5,.fn (.func 72) [] []]))] (fun|0 => pp b true 0|1 => pp (q1_1 b).1 true (q1_1 b).2.1|2 => pp (q1_2 b).1 true (q1_2 b).2.1|3 => pp (q1_3 b).1 true (q1_3 b).2.1|4 => pp (q1_4 b).1 true (q1_4 b).2.1|_ => pp (q1_5 b).1 true (q1_5 b).2.1)
  (fun|0 => .box (.int .i64 1 :: .int .i64 0 :: .int .i64 0 :: .int .i64 0 :: .str [] :: .nils :: (accC zA ++ (.nils :: (rpZ ++ (sumC zM ++ (ordC zO ++ rplC zX))))))|1 => .box (.int .i64 1 :: .int .i64 (q1_1 b).2.2 :: .int .i64 0 :: .int .i64 0 :: .str [] :: .nils :: (accC zA ++ (.nils :: (rpZ ++ (sumC zM ++ (ordC zO ++ rplC zX))))))|2 => .box (.int .i64 1 :: .int .i64 (q1_1 b).2.2 :: .int .i64 (q1_2 b).2.2 :: .int .i64 0 :: .str [] :: .nils :: (accC zA ++ (.nils :: (rpZ ++ (sumC zM ++ (ordC zO ++ rplC zX))))))|3 => .box (.int .i64 1 :: .int .i64 (q1_1 b).2.2 :: .int .i64 (q1_2 b).2.2 :: .int .i64 (q1_3 b).2.2 :: .str [] :: .nils :: (accC zA ++ (.nils :: (rpZ ++ (sumC zM ++ (ordC zO ++ rplC zX))))))|4 => .box (.int .i64 1 :: .int .i64 (q1_1 b).2.2 :: .int .i64 (q1_2 b).2.2 :: .int .i64 (q1_3 b).2.2 :: .str (q1_4 b).2.2 :: .nils :: (accC zA ++ (.nils :: (rpZ ++ (sumC zM ++ (ordC zO ++ rplC zX))))))|_ => .box (.int .i64 1 :: .int .i64 (q1_1 b).2.2 :: .int .i64 (q1_2 b).2.2 :: .int .i64 (q1_3 b).2.2 :: .str (q1_4 b).2.2 :: rpsA (q1_5 b).2.2 :: (accC zA ++ (.nils :: (rpZ ++ (sumC zM ++ (ordC zO ++ rplC zX)))))))
  (by simp) (fun k _ => by match k with|0 => exact pp_lent _ _ _|1 => exact pp_lent _ _ _|2 => exact pp_lent _ _ _|3 => exact pp_lent _ _ _|4 => exact pp_lent _ _ _|k + 5 => exact pp_lent _ _ _)
  (fun k _ => by match k with|0 => exact .box_ _ rfl|1 => exact .box_ _ rfl|2 => exact .box_ _ rfl|3 => exact .box_ _ rfl|4 => exact .box_ _ rfl|k + 5 => exact .box_ _ rfl) ?_
 intro k t v h
 match k,h with
 | 0,h => cases h;exact ⟨rfl,rfl,rfl,_,meth_number,number_c b 0 0 _ 1 (.of (C := fun y => .int .i64 1 :: y :: .int .i64 0 :: .int .i64 0 :: .str [] :: .nils :: (accC zA ++ (.nils :: (rpZ ++ (sumC zM ++ (ordC zO ++ rplC zX)))))) [.int .i64 1] (.int .i64 0 :: .int .i64 0 :: .str [] :: .nils :: (accC zA ++ (.nils :: (rpZ ++ (sumC zM ++ (ordC zO ++ rplC zX)))))) (fun _ => rfl) rfl rfl rfl) hb⟩
 | 1,h => cases h;exact ⟨rfl,rfl,rfl,_,meth_number,number_c (q1_1 b).1 (q1_1 b).2.1 0 _ 2 (.of (C := fun y => .int .i64 1 :: .int .i64 (q1_1 b).2.2 :: y :: .int .i64 0 :: .str [] :: .nils :: (accC zA ++ (.nils :: (rpZ ++ (sumC zM ++ (ordC zO ++ rplC zX)))))) [.int .i64 1,.int .i64 (q1_1 b).2.2] (.int .i64 0 :: .str [] :: .nils :: (accC zA ++ (.nils :: (rpZ ++ (sumC zM ++ (ordC zO ++ rplC zX)))))) (fun _ => rfl) rfl rfl rfl) l1⟩
 | 2,h => cases h;exact ⟨rfl,rfl,rfl,_,meth_number,number_c (q1_2 b).1 (q1_2 b).2.1 0 _ 3 (.of (C := fun y => .int .i64 1 :: .int .i64 (q1_1 b).2.2 :: .int .i64 (q1_2 b).2.2 :: y :: .str [] :: .nils :: (accC zA ++ (.nils :: (rpZ ++ (sumC zM ++ (ordC zO ++ rplC zX)))))) [.int .i64 1,.int .i64 (q1_1 b).2.2,.int .i64 (q1_2 b).2.2] (.str [] :: .nils :: (accC zA ++ (.nils :: (rpZ ++ (sumC zM ++ (ordC zO ++ rplC zX)))))) (fun _ => rfl) rfl rfl rfl) l2⟩
 | 3,h => cases h;exact ⟨rfl,rfl,rfl,_,meth_text,text_c (q1_3 b).1 (q1_3 b).2.1 [] _ 4 (.of (C := fun y => .int .i64 1 :: .int .i64 (q1_1 b).2.2 :: .int .i64 (q1_2 b).2.2 :: .int .i64 (q1_3 b).2.2 :: y :: .nils :: (accC zA ++ (.nils :: (rpZ ++ (sumC zM ++ (ordC zO ++ rplC zX)))))) [.int .i64 1,.int .i64 (q1_1 b).2.2,.int .i64 (q1_2 b).2.2,.int .i64 (q1_3 b).2.2] (.nils :: (accC zA ++ (.nils :: (rpZ ++ (sumC zM ++ (ordC zO ++ rplC zX)))))) (fun _ => rfl) rfl rfl rfl) l3⟩
 | 4,h => cases h;exact ⟨rfl,rfl,rfl,_,meth_rowR,rowR_rb (q1_4 b).1 (q1_4 b).2.1 _ 5 (.of (C := fun y => .int .i64 1 :: .int .i64 (q1_1 b).2.2 :: .int .i64 (q1_2 b).2.2 :: .int .i64 (q1_3 b).2.2 :: .str (q1_4 b).2.2 :: y :: (accC zA ++ (.nils :: (rpZ ++ (sumC zM ++ (ordC zO ++ rplC zX)))))) [.int .i64 1,.int .i64 (q1_1 b).2.2,.int .i64 (q1_2 b).2.2,.int .i64 (q1_3 b).2.2,.str (q1_4 b).2.2] ((accC zA ++ (.nils :: (rpZ ++ (sumC zM ++ (ordC zO ++ rplC zX)))))) (fun _ => rfl) rfl rfl rfl) l4⟩
 | k + 5,h => simp at h
def q2_1 (b : Bytes) : Bytes × Int × Int := rdN b 0 0
def q2_2 (b : Bytes) : Bytes × Int × Acc := rdA (q2_1 b).1 (q2_1 b).2.1 zA
def l2 (b : Bytes) : Ltr := { zL with kind := 2,slot := (q2_1 b).2.2,vote := (q2_2 b).2.2 }
theorem told_2 (b : Bytes) (hb : b.length ≤ 1000000) : BSpec Tryz.prog 113 [.psl 1 [[.iface 87 (.agg [.ptr 1 2])],[.iface 125 (.psl 1 ((voteB_ 1 6).map partC))]],.ptr 0 0] [pp b true 0,.box (.int .i64 2 :: .int .i64 0 :: .int .i64 0 :: .int .i64 0 :: .str [] :: .nils :: (accC zA ++ (.nils :: (rpZ ++ (sumC zM ++ (ordC zO ++ rplC zX))))))] [pp (q2_2 b).1 true (q2_2 b).2.1,.box (.int .i64 2 :: .int .i64 0 :: .int .i64 (q2_1 b).2.2 :: .int .i64 0 :: .str [] :: .nils :: (accC (q2_2 b).2.2 ++ (.nils :: (rpZ ++ (sumC zM ++ (ordC zO ++ rplC zX))))))] (.tup []) := by
 have l1 : (q2_1 b).1.length ≤ 1000000 := Nat.le_trans (rdN_le b 0 _) hb
 refine parts_r [(87,(.agg [.ptr 1 2])),(125,(.psl 1 ((voteB_ 1 6).map partC)))] (fun|0 => pp b true 0|1 => pp (q2_1 b).1 true (q2_1 b).2.1|_ => pp (q2_2 b).1 true (q2_2 b).2.1)
  (fun|0 => .box (.int .i64 2 :: .int .i64 0 :: .int .i64 0 :: .int .i64 0 :: .str [] :: .nils :: (accC zA ++ (.nils :: (rpZ ++ (sumC zM ++ (ordC zO ++ rplC zX))))))|1 => .box (.int .i64 2 :: .int .i64 0 :: .int .i64 (q2_1 b).2.2 :: .int .i64 0 :: .str [] :: .nils :: (accC zA ++ (.nils :: (rpZ ++ (sumC zM ++ (ordC zO ++ rplC zX))))))|_ => .box (.int .i64 2 :: .int .i64 0 :: .int .i64 (q2_1 b).2.2 :: .int .i64 0 :: .str [] :: .nils :: (accC (q2_2 b).2.2 ++ (.nils :: (rpZ ++ (sumC zM ++ (ordC zO ++ rplC zX)))))))
  (by simp) (fun k _ => by match k with|0 => exact pp_lent _ _ _|1 => exact pp_lent _ _ _|k + 2 => exact pp_lent _ _ _)
  (fun k _ => by match k with|0 => exact .box_ _ rfl|1 => exact .box_ _ rfl|k + 2 => exact .box_ _ rfl) ?_
 intro k t v h
 match k,h with
 | 0,h => cases h;exact ⟨rfl,rfl,rfl,_,meth_number,number_c b 0 0 _ 2 (.of (C := fun y => .int .i64 2 :: .int .i64 0 :: y :: .int .i64 0 :: .str [] :: .nils :: (accC zA ++ (.nils :: (rpZ ++ (sumC zM ++ (ordC zO ++ rplC zX)))))) [.int .i64 2,.int .i64 0] (.int .i64 0 :: .str [] :: .nils :: (accC zA ++ (.nils :: (rpZ ++ (sumC zM ++ (ordC zO ++ rplC zX)))))) (fun _ => rfl) rfl rfl rfl) hb⟩
 | 1,h => cases h;exact ⟨rfl,rfl,rfl,_,meth_parts,vote_rb (q2_1 b).1 (q2_1 b).2.1 zA [.int .i64 2,.int .i64 0,.int .i64 (q2_1 b).2.2,.int .i64 0,.str [],.nils] (.nils :: (rpZ ++ (sumC zM ++ (ordC zO ++ rplC zX)))) 6 rfl rfl rfl l1⟩
 | k + 2,h => simp at h
def q3_1 (b : Bytes) : Bytes × Int × Int := rdN b 0 0
def q3_2 (b : Bytes) : Bytes × Int × Int := rdN (q3_1 b).1 (q3_1 b).2.1 0
def q3_3 (b : Bytes) : Bytes × Int × List Acc := rdV (q3_2 b).1 (q3_2 b).2.1
def l3 (b : Bytes) : Ltr := { zL with kind := 3,frm := (q3_1 b).2.2,slot := (q3_2 b).2.2,proof := (q3_3 b).2.2 }
theorem told_3 (b : Bytes) (hb : b.length ≤ 1000000) : BSpec Tryz.prog 113 [.psl 1 [[.iface 87 (.agg [.ptr 1 1])],[.iface 87 (.agg [.ptr 1 2])],[.iface 168 (.agg [.ptr 1 9,.fn (.func 73) [] []])]],.ptr 0 0] [pp b true 0,.box (.int .i64 3 :: .int .i64 0 :: .int .i64 0 :: .int .i64 0 :: .str [] :: .nils :: (accC zA ++ (.nils :: (rpZ ++ (sumC zM ++ (ordC zO ++ rplC zX))))))] [pp (q3_3 b).1 true (q3_3 b).2.1,.box (.int .i64 3 :: .int .i64 (q3_1 b).2.2 :: .int .i64 (q3_2 b).2.2 :: .int .i64 0 :: .str [] :: .nils :: (accC zA ++ (votesA (q3_3 b).2.2 :: (rpZ ++ (sumC zM ++ (ordC zO ++ rplC zX))))))] (.tup []) := by
 have l1 : (q3_1 b).1.length ≤ 1000000 := Nat.le_trans (rdN_le b 0 _) hb
 have l2 : (q3_2 b).1.length ≤ 1000000 := Nat.le_trans (rdN_le (q3_1 b).1 (q3_1 b).2.1 _) l1
 refine parts_r [(87,(.agg [.ptr 1 1])),(87,(.agg [.ptr 1 2])),(168,(.agg [.ptr 1 9,.fn (.func 73) [] []]))] (fun|0 => pp b true 0|1 => pp (q3_1 b).1 true (q3_1 b).2.1|2 => pp (q3_2 b).1 true (q3_2 b).2.1|_ => pp (q3_3 b).1 true (q3_3 b).2.1)
  (fun|0 => .box (.int .i64 3 :: .int .i64 0 :: .int .i64 0 :: .int .i64 0 :: .str [] :: .nils :: (accC zA ++ (.nils :: (rpZ ++ (sumC zM ++ (ordC zO ++ rplC zX))))))|1 => .box (.int .i64 3 :: .int .i64 (q3_1 b).2.2 :: .int .i64 0 :: .int .i64 0 :: .str [] :: .nils :: (accC zA ++ (.nils :: (rpZ ++ (sumC zM ++ (ordC zO ++ rplC zX))))))|2 => .box (.int .i64 3 :: .int .i64 (q3_1 b).2.2 :: .int .i64 (q3_2 b).2.2 :: .int .i64 0 :: .str [] :: .nils :: (accC zA ++ (.nils :: (rpZ ++ (sumC zM ++ (ordC zO ++ rplC zX))))))|_ => .box (.int .i64 3 :: .int .i64 (q3_1 b).2.2 :: .int .i64 (q3_2 b).2.2 :: .int .i64 0 :: .str [] :: .nils :: (accC zA ++ (votesA (q3_3 b).2.2 :: (rpZ ++ (sumC zM ++ (ordC zO ++ rplC zX)))))))
  (by simp) (fun k _ => by match k with|0 => exact pp_lent _ _ _|1 => exact pp_lent _ _ _|2 => exact pp_lent _ _ _|k + 3 => exact pp_lent _ _ _)
  (fun k _ => by match k with|0 => exact .box_ _ rfl|1 => exact .box_ _ rfl|2 => exact .box_ _ rfl|k + 3 => exact .box_ _ rfl) ?_
 intro k t v h
 match k,h with
 | 0,h => cases h;exact ⟨rfl,rfl,rfl,_,meth_number,number_c b 0 0 _ 1 (.of (C := fun y => .int .i64 3 :: y :: .int .i64 0 :: .int .i64 0 :: .str [] :: .nils :: (accC zA ++ (.nils :: (rpZ ++ (sumC zM ++ (ordC zO ++ rplC zX)))))) [.int .i64 3] (.int .i64 0 :: .int .i64 0 :: .str [] :: .nils :: (accC zA ++ (.nils :: (rpZ ++ (sumC zM ++ (ordC zO ++ rplC zX)))))) (fun _ => rfl) rfl rfl rfl) hb⟩
 | 1,h => cases h;exact ⟨rfl,rfl,rfl,_,meth_number,number_c (q3_1 b).1 (q3_1 b).2.1 0 _ 2 (.of (C := fun y => .int .i64 3 :: .int .i64 (q3_1 b).2.2 :: y :: .int .i64 0 :: .str [] :: .nils :: (accC zA ++ (.nils :: (rpZ ++ (sumC zM ++ (ordC zO ++ rplC zX)))))) [.int .i64 3,.int .i64 (q3_1 b).2.2] (.int .i64 0 :: .str [] :: .nils :: (accC zA ++ (.nils :: (rpZ ++ (sumC zM ++ (ordC zO ++ rplC zX)))))) (fun _ => rfl) rfl rfl rfl) l1⟩
 | 2,h => cases h;exact ⟨rfl,rfl,rfl,_,meth_rowA,rowA_rb (q3_2 b).1 (q3_2 b).2.1 _ 9 (.of (C := fun y => .int .i64 3 :: .int .i64 (q3_1 b).2.2 :: .int .i64 (q3_2 b).2.2 :: .int .i64 0 :: .str [] :: .nils :: (accC zA ++ (y :: (rpZ ++ (sumC zM ++ (ordC zO ++ rplC zX)))))) ([.int .i64 3,.int .i64 (q3_1 b).2.2,.int .i64 (q3_2 b).2.2,.int .i64 0,.str [],.nils] ++ accC zA) ((rpZ ++ (sumC zM ++ (ordC zO ++ rplC zX)))) (fun _ => rfl) rfl rfl rfl) l2⟩
 | k + 3,h => simp at h
def q4_1 (b : Bytes) : Bytes × Int × Int := rdN b 0 0
def q4_2 (b : Bytes) : Bytes × Int × Rp := rdR (q4_1 b).1 (q4_1 b).2.1
def l4 (b : Bytes) : Ltr := { zL with kind := 4,slot := (q4_1 b).2.2,r := (q4_2 b).2.2 }
theorem told_4 (b : Bytes) (hb : b.length ≤ 1000000) : BSpec Tryz.prog 113 [.psl 1 [[.iface 87 (.agg [.ptr 1 2])],[.iface 125 (.psl 1 ((reportB_ 1 10).map partC))]],.ptr 0 0] [pp b true 0,.box (.int .i64 4 :: .int .i64 0 :: .int .i64 0 :: .int .i64 0 :: .str [] :: .nils :: (accC zA ++ (.nils :: (rpZ ++ (sumC zM ++ (ordC zO ++ rplC zX))))))] [pp (q4_2 b).1 true (q4_2 b).2.1,.box (.int .i64 4 :: .int .i64 0 :: .int .i64 (q4_1 b).2.2 :: .int .i64 0 :: .str [] :: .nils :: (accC zA ++ (.nils :: (rpC (q4_2 b).2.2 ++ (sumC zM ++ (ordC zO ++ rplC zX))))))] (.tup []) := by
 have l1 : (q4_1 b).1.length ≤ 1000000 := Nat.le_trans (rdN_le b 0 _) hb
 refine parts_r [(87,(.agg [.ptr 1 2])),(125,(.psl 1 ((reportB_ 1 10).map partC)))] (fun|0 => pp b true 0|1 => pp (q4_1 b).1 true (q4_1 b).2.1|_ => pp (q4_2 b).1 true (q4_2 b).2.1)
  (fun|0 => .box (.int .i64 4 :: .int .i64 0 :: .int .i64 0 :: .int .i64 0 :: .str [] :: .nils :: (accC zA ++ (.nils :: (rpZ ++ (sumC zM ++ (ordC zO ++ rplC zX))))))|1 => .box (.int .i64 4 :: .int .i64 0 :: .int .i64 (q4_1 b).2.2 :: .int .i64 0 :: .str [] :: .nils :: (accC zA ++ (.nils :: (rpZ ++ (sumC zM ++ (ordC zO ++ rplC zX))))))|_ => .box (.int .i64 4 :: .int .i64 0 :: .int .i64 (q4_1 b).2.2 :: .int .i64 0 :: .str [] :: .nils :: (accC zA ++ (.nils :: (rpC (q4_2 b).2.2 ++ (sumC zM ++ (ordC zO ++ rplC zX)))))))
  (by simp) (fun k _ => by match k with|0 => exact pp_lent _ _ _|1 => exact pp_lent _ _ _|k + 2 => exact pp_lent _ _ _)
  (fun k _ => by match k with|0 => exact .box_ _ rfl|1 => exact .box_ _ rfl|k + 2 => exact .box_ _ rfl) ?_
 intro k t v h
 match k,h with
 | 0,h => cases h;exact ⟨rfl,rfl,rfl,_,meth_number,number_c b 0 0 _ 2 (.of (C := fun y => .int .i64 4 :: .int .i64 0 :: y :: .int .i64 0 :: .str [] :: .nils :: (accC zA ++ (.nils :: (rpZ ++ (sumC zM ++ (ordC zO ++ rplC zX)))))) [.int .i64 4,.int .i64 0] (.int .i64 0 :: .str [] :: .nils :: (accC zA ++ (.nils :: (rpZ ++ (sumC zM ++ (ordC zO ++ rplC zX)))))) (fun _ => rfl) rfl rfl rfl) hb⟩
 | 1,h => cases h;exact ⟨rfl,rfl,rfl,_,meth_parts,report_rb (q4_1 b).1 (q4_1 b).2.1 ([.int .i64 4,.int .i64 0,.int .i64 (q4_1 b).2.2,.int .i64 0,.str [],.nils] ++ (accC zA ++ [.nils])) (sumC zM ++ (ordC zO ++ rplC zX)) 10 rfl rfl rfl l1⟩
 | k + 2,h => simp at h
def q5_1 (b : Bytes) : Bytes × Int × Int := rdN b 0 0
def q5_2 (b : Bytes) : Bytes × Int × Int := rdN (q5_1 b).1 (q5_1 b).2.1 0
def q5_3 (b : Bytes) : Bytes × Int × Bytes := rdT (q5_2 b).1 (q5_2 b).2.1 []
def l5 (b : Bytes) : Ltr := { zL with kind := 5,frm := (q5_1 b).2.2,slot := (q5_2 b).2.2,value := (q5_3 b).2.2 }
theorem told_5 (b : Bytes) (hb : b.length ≤ 1000000) : BSpec Tryz.prog 113 [.psl 1 [[.iface 87 (.agg [.ptr 1 1])],[.iface 87 (.agg [.ptr 1 2])],[.iface 119 (.agg [.ptr 1 4])]],.ptr 0 0] [pp b true 0,.box (.int .i64 5 :: .int .i64 0 :: .int .i64 0 :: .int .i64 0 :: .str [] :: .nils :: (accC zA ++ (.nils :: (rpZ ++ (sumC zM ++ (ordC zO ++ rplC zX))))))] [pp (q5_3 b).1 true (q5_3 b).2.1,.box (.int .i64 5 :: .int .i64 (q5_1 b).2.2 :: .int .i64 (q5_2 b).2.2 :: .int .i64 0 :: .str (q5_3 b).2.2 :: .nils :: (accC zA ++ (.nils :: (rpZ ++ (sumC zM ++ (ordC zO ++ rplC zX))))))] (.tup []) := by
 have l1 : (q5_1 b).1.length ≤ 1000000 := Nat.le_trans (rdN_le b 0 _) hb
 have l2 : (q5_2 b).1.length ≤ 1000000 := Nat.le_trans (rdN_le (q5_1 b).1 (q5_1 b).2.1 _) l1
 refine parts_r [(87,(.agg [.ptr 1 1])),(87,(.agg [.ptr 1 2])),(119,(.agg [.ptr 1 4]))] (fun|0 => pp b true 0|1 => pp (q5_1 b).1 true (q5_1 b).2.1|2 => pp (q5_2 b).1 true (q5_2 b).2.1|_ => pp (q5_3 b).1 true (q5_3 b).2.1)
  (fun|0 => .box (.int .i64 5 :: .int .i64 0 :: .int .i64 0 :: .int .i64 0 :: .str [] :: .nils :: (accC zA ++ (.nils :: (rpZ ++ (sumC zM ++ (ordC zO ++ rplC zX))))))|1 => .box (.int .i64 5 :: .int .i64 (q5_1 b).2.2 :: .int .i64 0 :: .int .i64 0 :: .str [] :: .nils :: (accC zA ++ (.nils :: (rpZ ++ (sumC zM ++ (ordC zO ++ rplC zX))))))|2 => .box (.int .i64 5 :: .int .i64 (q5_1 b).2.2 :: .int .i64 (q5_2 b).2.2 :: .int .i64 0 :: .str [] :: .nils :: (accC zA ++ (.nils :: (rpZ ++ (sumC zM ++ (ordC zO ++ rplC zX))))))|_ => .box (.int .i64 5 :: .int .i64 (q5_1 b).2.2 :: .int .i64 (q5_2 b).2.2 :: .int .i64 0 :: .str (q5_3 b).2.2 :: .nils :: (accC zA ++ (.nils :: (rpZ ++ (sumC zM ++ (ordC zO ++ rplC zX)))))))
  (by simp) (fun k _ => by match k with|0 => exact pp_lent _ _ _|1 => exact pp_lent _ _ _|2 => exact pp_lent _ _ _|k + 3 => exact pp_lent _ _ _)
  (fun k _ => by match k with|0 => exact .box_ _ rfl|1 => exact .box_ _ rfl|2 => exact .box_ _ rfl|k + 3 => exact .box_ _ rfl) ?_
 intro k t v h
 match k,h with
 | 0,h => cases h;exact ⟨rfl,rfl,rfl,_,meth_number,number_c b 0 0 _ 1 (.of (C := fun y => .int .i64 5 :: y :: .int .i64 0 :: .int .i64 0 :: .str [] :: .nils :: (accC zA ++ (.nils :: (rpZ ++ (sumC zM ++ (ordC zO ++ rplC zX)))))) [.int .i64 5] (.int .i64 0 :: .int .i64 0 :: .str [] :: .nils :: (accC zA ++ (.nils :: (rpZ ++ (sumC zM ++ (ordC zO ++ rplC zX)))))) (fun _ => rfl) rfl rfl rfl) hb⟩
 | 1,h => cases h;exact ⟨rfl,rfl,rfl,_,meth_number,number_c (q5_1 b).1 (q5_1 b).2.1 0 _ 2 (.of (C := fun y => .int .i64 5 :: .int .i64 (q5_1 b).2.2 :: y :: .int .i64 0 :: .str [] :: .nils :: (accC zA ++ (.nils :: (rpZ ++ (sumC zM ++ (ordC zO ++ rplC zX)))))) [.int .i64 5,.int .i64 (q5_1 b).2.2] (.int .i64 0 :: .str [] :: .nils :: (accC zA ++ (.nils :: (rpZ ++ (sumC zM ++ (ordC zO ++ rplC zX)))))) (fun _ => rfl) rfl rfl rfl) l1⟩
 | 2,h => cases h;exact ⟨rfl,rfl,rfl,_,meth_text,text_c (q5_2 b).1 (q5_2 b).2.1 [] _ 4 (.of (C := fun y => .int .i64 5 :: .int .i64 (q5_1 b).2.2 :: .int .i64 (q5_2 b).2.2 :: .int .i64 0 :: y :: .nils :: (accC zA ++ (.nils :: (rpZ ++ (sumC zM ++ (ordC zO ++ rplC zX)))))) [.int .i64 5,.int .i64 (q5_1 b).2.2,.int .i64 (q5_2 b).2.2,.int .i64 0] (.nils :: (accC zA ++ (.nils :: (rpZ ++ (sumC zM ++ (ordC zO ++ rplC zX)))))) (fun _ => rfl) rfl rfl rfl) l2⟩
 | k + 3,h => simp at h
def q6_1 (b : Bytes) : Bytes × Int × Int := rdN b 0 0
def q6_2 (b : Bytes) : Bytes × Int × Int := rdN (q6_1 b).1 (q6_1 b).2.1 0
def l6 (b : Bytes) : Ltr := { zL with kind := 6,frm := (q6_1 b).2.2,view := (q6_2 b).2.2 }
theorem told_6 (b : Bytes) (hb : b.length ≤ 1000000) : BSpec Tryz.prog 113 [.psl 1 [[.iface 87 (.agg [.ptr 1 1])],[.iface 87 (.agg [.ptr 1 3])]],.ptr 0 0] [pp b true 0,.box (.int .i64 6 :: .int .i64 0 :: .int .i64 0 :: .int .i64 0 :: .str [] :: .nils :: (accC zA ++ (.nils :: (rpZ ++ (sumC zM ++ (ordC zO ++ rplC zX))))))] [pp (q6_2 b).1 true (q6_2 b).2.1,.box (.int .i64 6 :: .int .i64 (q6_1 b).2.2 :: .int .i64 0 :: .int .i64 (q6_2 b).2.2 :: .str [] :: .nils :: (accC zA ++ (.nils :: (rpZ ++ (sumC zM ++ (ordC zO ++ rplC zX))))))] (.tup []) := by
 have l1 : (q6_1 b).1.length ≤ 1000000 := Nat.le_trans (rdN_le b 0 _) hb
 refine parts_r [(87,(.agg [.ptr 1 1])),(87,(.agg [.ptr 1 3]))] (fun|0 => pp b true 0|1 => pp (q6_1 b).1 true (q6_1 b).2.1|_ => pp (q6_2 b).1 true (q6_2 b).2.1)
  (fun|0 => .box (.int .i64 6 :: .int .i64 0 :: .int .i64 0 :: .int .i64 0 :: .str [] :: .nils :: (accC zA ++ (.nils :: (rpZ ++ (sumC zM ++ (ordC zO ++ rplC zX))))))|1 => .box (.int .i64 6 :: .int .i64 (q6_1 b).2.2 :: .int .i64 0 :: .int .i64 0 :: .str [] :: .nils :: (accC zA ++ (.nils :: (rpZ ++ (sumC zM ++ (ordC zO ++ rplC zX))))))|_ => .box (.int .i64 6 :: .int .i64 (q6_1 b).2.2 :: .int .i64 0 :: .int .i64 (q6_2 b).2.2 :: .str [] :: .nils :: (accC zA ++ (.nils :: (rpZ ++ (sumC zM ++ (ordC zO ++ rplC zX)))))))
  (by simp) (fun k _ => by match k with|0 => exact pp_lent _ _ _|1 => exact pp_lent _ _ _|k + 2 => exact pp_lent _ _ _)
  (fun k _ => by match k with|0 => exact .box_ _ rfl|1 => exact .box_ _ rfl|k + 2 => exact .box_ _ rfl) ?_
 intro k t v h
 match k,h with
 | 0,h => cases h;exact ⟨rfl,rfl,rfl,_,meth_number,number_c b 0 0 _ 1 (.of (C := fun y => .int .i64 6 :: y :: .int .i64 0 :: .int .i64 0 :: .str [] :: .nils :: (accC zA ++ (.nils :: (rpZ ++ (sumC zM ++ (ordC zO ++ rplC zX)))))) [.int .i64 6] (.int .i64 0 :: .int .i64 0 :: .str [] :: .nils :: (accC zA ++ (.nils :: (rpZ ++ (sumC zM ++ (ordC zO ++ rplC zX)))))) (fun _ => rfl) rfl rfl rfl) hb⟩
 | 1,h => cases h;exact ⟨rfl,rfl,rfl,_,meth_number,number_c (q6_1 b).1 (q6_1 b).2.1 0 _ 3 (.of (C := fun y => .int .i64 6 :: .int .i64 (q6_1 b).2.2 :: .int .i64 0 :: y :: .str [] :: .nils :: (accC zA ++ (.nils :: (rpZ ++ (sumC zM ++ (ordC zO ++ rplC zX)))))) [.int .i64 6,.int .i64 (q6_1 b).2.2,.int .i64 0] (.str [] :: .nils :: (accC zA ++ (.nils :: (rpZ ++ (sumC zM ++ (ordC zO ++ rplC zX)))))) (fun _ => rfl) rfl rfl rfl) l1⟩
 | k + 2,h => simp at h
def q7_1 (b : Bytes) : Bytes × Int × Int := rdN b 0 0
def q7_2 (b : Bytes) : Bytes × Int × Int := rdN (q7_1 b).1 (q7_1 b).2.1 0
def q7_3 (b : Bytes) : Bytes × Int × Bytes := rdM (q7_2 b).1 (q7_2 b).2.1 zM
def l7 (b : Bytes) : Ltr := { zL with kind := 7,frm := (q7_1 b).2.2,slot := (q7_2 b).2.2,sum := (q7_3 b).2.2 }
theorem told_7 (b : Bytes) (hb : b.length ≤ 1000000) : BSpec Tryz.prog 113 [.psl 1 [[.iface 87 (.agg [.ptr 1 1])],[.iface 87 (.agg [.ptr 1 2])],[.iface 133 (.agg [.ptr 1 16])]],.ptr 0 0] [pp b true 0,.box (.int .i64 7 :: .int .i64 0 :: .int .i64 0 :: .int .i64 0 :: .str [] :: .nils :: (accC zA ++ (.nils :: (rpZ ++ (sumC zM ++ (ordC zO ++ rplC zX))))))] [pp (q7_3 b).1 true (q7_3 b).2.1,.box (.int .i64 7 :: .int .i64 (q7_1 b).2.2 :: .int .i64 (q7_2 b).2.2 :: .int .i64 0 :: .str [] :: .nils :: (accC zA ++ (.nils :: (rpZ ++ (sumC (q7_3 b).2.2 ++ (ordC zO ++ rplC zX))))))] (.tup []) := by
 have l1 : (q7_1 b).1.length ≤ 1000000 := Nat.le_trans (rdN_le b 0 _) hb
 have l2 : (q7_2 b).1.length ≤ 1000000 := Nat.le_trans (rdN_le (q7_1 b).1 (q7_1 b).2.1 _) l1
 refine parts_r [(87,(.agg [.ptr 1 1])),(87,(.agg [.ptr 1 2])),(133,(.agg [.ptr 1 16]))] (fun|0 => pp b true 0|1 => pp (q7_1 b).1 true (q7_1 b).2.1|2 => pp (q7_2 b).1 true (q7_2 b).2.1|_ => pp (q7_3 b).1 true (q7_3 b).2.1)
  (fun|0 => .box (.int .i64 7 :: .int .i64 0 :: .int .i64 0 :: .int .i64 0 :: .str [] :: .nils :: (accC zA ++ (.nils :: (rpZ ++ (sumC zM ++ (ordC zO ++ rplC zX))))))|1 => .box (.int .i64 7 :: .int .i64 (q7_1 b).2.2 :: .int .i64 0 :: .int .i64 0 :: .str [] :: .nils :: (accC zA ++ (.nils :: (rpZ ++ (sumC zM ++ (ordC zO ++ rplC zX))))))|2 => .box (.int .i64 7 :: .int .i64 (q7_1 b).2.2 :: .int .i64 (q7_2 b).2.2 :: .int .i64 0 :: .str [] :: .nils :: (accC zA ++ (.nils :: (rpZ ++ (sumC zM ++ (ordC zO ++ rplC zX))))))|_ => .box (.int .i64 7 :: .int .i64 (q7_1 b).2.2 :: .int .i64 (q7_2 b).2.2 :: .int .i64 0 :: .str [] :: .nils :: (accC zA ++ (.nils :: (rpZ ++ (sumC (q7_3 b).2.2 ++ (ordC zO ++ rplC zX)))))))
  (by simp) (fun k _ => by match k with|0 => exact pp_lent _ _ _|1 => exact pp_lent _ _ _|2 => exact pp_lent _ _ _|k + 3 => exact pp_lent _ _ _)
  (fun k _ => by match k with|0 => exact .box_ _ rfl|1 => exact .box_ _ rfl|2 => exact .box_ _ rfl|k + 3 => exact .box_ _ (belL_app (xs := ([.int .i64 7,.int .i64 (q7_1 b).2.2,.int .i64 (q7_2 b).2.2,.int .i64 0,.str [],.nils] ++ (accC zA ++ (.nils :: rpZ)))) rfl (belL_app (sumC_bel _) rfl))) ?_
 intro k t v h
 match k,h with
 | 0,h => cases h;exact ⟨rfl,rfl,rfl,_,meth_number,number_c b 0 0 _ 1 (.of (C := fun y => .int .i64 7 :: y :: .int .i64 0 :: .int .i64 0 :: .str [] :: .nils :: (accC zA ++ (.nils :: (rpZ ++ (sumC zM ++ (ordC zO ++ rplC zX)))))) [.int .i64 7] (.int .i64 0 :: .int .i64 0 :: .str [] :: .nils :: (accC zA ++ (.nils :: (rpZ ++ (sumC zM ++ (ordC zO ++ rplC zX)))))) (fun _ => rfl) rfl rfl rfl) hb⟩
 | 1,h => cases h;exact ⟨rfl,rfl,rfl,_,meth_number,number_c (q7_1 b).1 (q7_1 b).2.1 0 _ 2 (.of (C := fun y => .int .i64 7 :: .int .i64 (q7_1 b).2.2 :: y :: .int .i64 0 :: .str [] :: .nils :: (accC zA ++ (.nils :: (rpZ ++ (sumC zM ++ (ordC zO ++ rplC zX)))))) [.int .i64 7,.int .i64 (q7_1 b).2.2] (.int .i64 0 :: .str [] :: .nils :: (accC zA ++ (.nils :: (rpZ ++ (sumC zM ++ (ordC zO ++ rplC zX)))))) (fun _ => rfl) rfl rfl rfl) l1⟩
 | 2,h => cases h;exact ⟨rfl,rfl,rfl,_,meth_sum,by
  have key := sum_r (q7_2 b).1 (q7_2 b).2.1 zM (.int .i64 7 :: .int .i64 (q7_1 b).2.2 :: .int .i64 (q7_2 b).2.2 :: .int .i64 0 :: .str [] :: .nils :: (accC zA ++ (.nils :: (rpZ ++ (sumC zM ++ (ordC zO ++ rplC zX)))))) 16 rfl rfl (Nat.le_of_ble_eq_true rfl) rfl
  rw [show lay (.int .i64 7 :: .int .i64 (q7_1 b).2.2 :: .int .i64 (q7_2 b).2.2 :: .int .i64 0 :: .str [] :: .nils :: (accC zA ++ (.nils :: (rpZ ++ (sumC zM ++ (ordC zO ++ rplC zX)))))) 16 (sumC (rdM (q7_2 b).1 (q7_2 b).2.1 zM).2.2) = .int .i64 7 :: .int .i64 (q7_1 b).2.2 :: .int .i64 (q7_2 b).2.2 :: .int .i64 0 :: .str [] :: .nils :: (accC zA ++ (.nils :: (rpZ ++ (sumC (rdM (q7_2 b).1 (q7_2 b).2.1 zM).2.2 ++ (ordC zO ++ rplC zX))))) from lay_mid (xs := ([.int .i64 7,.int .i64 (q7_1 b).2.2,.int .i64 (q7_2 b).2.2,.int .i64 0,.str [],.nils] ++ (accC zA ++ (.nils :: rpZ)))) (ms := sumC zM) (ys := (ordC zO ++ rplC zX)) (by rw [sumC_len,sumC_len,rdM_32 (q7_2 b).1 (q7_2 b).2.1 zM rfl];rfl)] at key
  exact key⟩
 | k + 3,h => simp at h
def q8_1 (b : Bytes) : Bytes × Int × Ord := rdO b 0 zO
def l8 (b : Bytes) : Ltr := { zL with kind := 8,o := (q8_1 b).2.2 }
theorem told_8 (b : Bytes) (hb : b.length ≤ 1000000) : BSpec Tryz.prog 115 [.agg [.ptr 1 48],.ptr 0 0] [pp b true 0,.box (.int .i64 8 :: .int .i64 0 :: .int .i64 0 :: .int .i64 0 :: .str [] :: .nils :: (accC zA ++ (.nils :: (rpZ ++ (sumC zM ++ (ordC zO ++ rplC zX))))))] [pp (q8_1 b).1 true (q8_1 b).2.1,.box (.int .i64 8 :: .int .i64 0 :: .int .i64 0 :: .int .i64 0 :: .str [] :: .nils :: (accC zA ++ (.nils :: (rpZ ++ (sumC zM ++ (ordC (q8_1 b).2.2 ++ rplC zX))))))] (.tup []) := by
 exact by
  have key := asks_r b 0 zO (.int .i64 8 :: .int .i64 0 :: .int .i64 0 :: .int .i64 0 :: .str [] :: .nils :: (accC zA ++ (.nils :: (rpZ ++ (sumC zM ++ (ordC zO ++ rplC zX)))))) 48 hb rfl (Nat.le_of_ble_eq_true rfl) rfl
  exact key
def q9_1 (b : Bytes) : Bytes × Int × Int := rdN b 0 0
def q9_2 (b : Bytes) : Bytes × Int × Rpl := rdX (q9_1 b).1 (q9_1 b).2.1 zX
def l9 (b : Bytes) : Ltr := { zL with kind := 9,frm := (q9_1 b).2.2,x := (q9_2 b).2.2 }
theorem told_9 (b : Bytes) (hb : b.length ≤ 1000000) : BSpec Tryz.prog 113 [.psl 1 [[.iface 87 (.agg [.ptr 1 1])],[.iface 139 (.agg [.ptr 1 56])]],.ptr 0 0] [pp b true 0,.box (.int .i64 9 :: .int .i64 0 :: .int .i64 0 :: .int .i64 0 :: .str [] :: .nils :: (accC zA ++ (.nils :: (rpZ ++ (sumC zM ++ (ordC zO ++ rplC zX))))))] [pp (q9_2 b).1 true (q9_2 b).2.1,.box (.int .i64 9 :: .int .i64 (q9_1 b).2.2 :: .int .i64 0 :: .int .i64 0 :: .str [] :: .nils :: (accC zA ++ (.nils :: (rpZ ++ (sumC zM ++ (ordC zO ++ rplC (q9_2 b).2.2))))))] (.tup []) := by
 have l1 : (q9_1 b).1.length ≤ 1000000 := Nat.le_trans (rdN_le b 0 _) hb
 refine parts_r [(87,(.agg [.ptr 1 1])),(139,(.agg [.ptr 1 56]))] (fun|0 => pp b true 0|1 => pp (q9_1 b).1 true (q9_1 b).2.1|_ => pp (q9_2 b).1 true (q9_2 b).2.1)
  (fun|0 => .box (.int .i64 9 :: .int .i64 0 :: .int .i64 0 :: .int .i64 0 :: .str [] :: .nils :: (accC zA ++ (.nils :: (rpZ ++ (sumC zM ++ (ordC zO ++ rplC zX))))))|1 => .box (.int .i64 9 :: .int .i64 (q9_1 b).2.2 :: .int .i64 0 :: .int .i64 0 :: .str [] :: .nils :: (accC zA ++ (.nils :: (rpZ ++ (sumC zM ++ (ordC zO ++ rplC zX))))))|_ => .box (.int .i64 9 :: .int .i64 (q9_1 b).2.2 :: .int .i64 0 :: .int .i64 0 :: .str [] :: .nils :: (accC zA ++ (.nils :: (rpZ ++ (sumC zM ++ (ordC zO ++ rplC (q9_2 b).2.2)))))))
  (by simp) (fun k _ => by match k with|0 => exact pp_lent _ _ _|1 => exact pp_lent _ _ _|k + 2 => exact pp_lent _ _ _)
  (fun k _ => by match k with|0 => exact .box_ _ rfl|1 => exact .box_ _ rfl|k + 2 => exact .box_ _ rfl) ?_
 intro k t v h
 match k,h with
 | 0,h => cases h;exact ⟨rfl,rfl,rfl,_,meth_number,number_c b 0 0 _ 1 (.of (C := fun y => .int .i64 9 :: y :: .int .i64 0 :: .int .i64 0 :: .str [] :: .nils :: (accC zA ++ (.nils :: (rpZ ++ (sumC zM ++ (ordC zO ++ rplC zX)))))) [.int .i64 9] (.int .i64 0 :: .int .i64 0 :: .str [] :: .nils :: (accC zA ++ (.nils :: (rpZ ++ (sumC zM ++ (ordC zO ++ rplC zX)))))) (fun _ => rfl) rfl rfl rfl) hb⟩
 | 1,h => cases h;exact ⟨rfl,rfl,rfl,_,meth_replies,by
  have key := replies_r (q9_1 b).1 (q9_1 b).2.1 zX (.int .i64 9 :: .int .i64 (q9_1 b).2.2 :: .int .i64 0 :: .int .i64 0 :: .str [] :: .nils :: (accC zA ++ (.nils :: (rpZ ++ (sumC zM ++ (ordC zO ++ rplC zX)))))) 56 l1 rfl (Nat.le_of_ble_eq_true rfl) rfl
  exact key⟩
 | k + 2,h => simp at h
def q10_1 (b : Bytes) : Bytes × Int × Int := rdN b 0 0
def q10_2 (b : Bytes) : Bytes × Int × Int := rdN (q10_1 b).1 (q10_1 b).2.1 0
def l10 (b : Bytes) : Ltr := { zL with kind := 10,frm := (q10_1 b).2.2,slot := (q10_2 b).2.2 }
theorem told_10 (b : Bytes) (hb : b.length ≤ 1000000) : BSpec Tryz.prog 113 [.psl 1 [[.iface 87 (.agg [.ptr 1 1])],[.iface 87 (.agg [.ptr 1 2])]],.ptr 0 0] [pp b true 0,.box (.int .i64 10 :: .int .i64 0 :: .int .i64 0 :: .int .i64 0 :: .str [] :: .nils :: (accC zA ++ (.nils :: (rpZ ++ (sumC zM ++ (ordC zO ++ rplC zX))))))] [pp (q10_2 b).1 true (q10_2 b).2.1,.box (.int .i64 10 :: .int .i64 (q10_1 b).2.2 :: .int .i64 (q10_2 b).2.2 :: .int .i64 0 :: .str [] :: .nils :: (accC zA ++ (.nils :: (rpZ ++ (sumC zM ++ (ordC zO ++ rplC zX))))))] (.tup []) := by
 have l1 : (q10_1 b).1.length ≤ 1000000 := Nat.le_trans (rdN_le b 0 _) hb
 refine parts_r [(87,(.agg [.ptr 1 1])),(87,(.agg [.ptr 1 2]))] (fun|0 => pp b true 0|1 => pp (q10_1 b).1 true (q10_1 b).2.1|_ => pp (q10_2 b).1 true (q10_2 b).2.1)
  (fun|0 => .box (.int .i64 10 :: .int .i64 0 :: .int .i64 0 :: .int .i64 0 :: .str [] :: .nils :: (accC zA ++ (.nils :: (rpZ ++ (sumC zM ++ (ordC zO ++ rplC zX))))))|1 => .box (.int .i64 10 :: .int .i64 (q10_1 b).2.2 :: .int .i64 0 :: .int .i64 0 :: .str [] :: .nils :: (accC zA ++ (.nils :: (rpZ ++ (sumC zM ++ (ordC zO ++ rplC zX))))))|_ => .box (.int .i64 10 :: .int .i64 (q10_1 b).2.2 :: .int .i64 (q10_2 b).2.2 :: .int .i64 0 :: .str [] :: .nils :: (accC zA ++ (.nils :: (rpZ ++ (sumC zM ++ (ordC zO ++ rplC zX)))))))
  (by simp) (fun k _ => by match k with|0 => exact pp_lent _ _ _|1 => exact pp_lent _ _ _|k + 2 => exact pp_lent _ _ _)
  (fun k _ => by match k with|0 => exact .box_ _ rfl|1 => exact .box_ _ rfl|k + 2 => exact .box_ _ rfl) ?_
 intro k t v h
 match k,h with
 | 0,h => cases h;exact ⟨rfl,rfl,rfl,_,meth_number,number_c b 0 0 _ 1 (.of (C := fun y => .int .i64 10 :: y :: .int .i64 0 :: .int .i64 0 :: .str [] :: .nils :: (accC zA ++ (.nils :: (rpZ ++ (sumC zM ++ (ordC zO ++ rplC zX)))))) [.int .i64 10] (.int .i64 0 :: .int .i64 0 :: .str [] :: .nils :: (accC zA ++ (.nils :: (rpZ ++ (sumC zM ++ (ordC zO ++ rplC zX)))))) (fun _ => rfl) rfl rfl rfl) hb⟩
 | 1,h => cases h;exact ⟨rfl,rfl,rfl,_,meth_number,number_c (q10_1 b).1 (q10_1 b).2.1 0 _ 2 (.of (C := fun y => .int .i64 10 :: .int .i64 (q10_1 b).2.2 :: y :: .int .i64 0 :: .str [] :: .nils :: (accC zA ++ (.nils :: (rpZ ++ (sumC zM ++ (ordC zO ++ rplC zX)))))) [.int .i64 10,.int .i64 (q10_1 b).2.2] (.int .i64 0 :: .str [] :: .nils :: (accC zA ++ (.nils :: (rpZ ++ (sumC zM ++ (ordC zO ++ rplC zX)))))) (fun _ => rfl) rfl rfl rfl) l1⟩
 | k + 2,h => simp at h
def zT : List AV := .int .i64 0 :: .int .i64 0 :: .int .i64 0 :: .str [] :: .nils :: (accC zA ++ (.nils :: (rpZ ++ (sumC zM ++ (ordC zO ++ rplC zX)))))
theorem zT_bel : belL 0 zT = true := rfl
theorem taken_1 (b b' : Bytes) (hb : b.length ≤ 1000000) (hb' : b'.length ≤ 1000000) (hk : rdN b 0 0 = (b',0,1)) : ASpec Tryz.prog 20 [bytesA b] (.tup [.agg (letC (l1 b')),.bool (decide ((q1_5 b').2.1 = 0) && decide ((q1_5 b').1 = []))]) := by
 have hn := number_c b 0 0 (fun x => x :: zT) 0 (.of [] zT (fun _ => rfl) rfl rfl rfl) hb
 rw [hk] at hn
 simp only at hn
 have ht := told_1 b' hb'
 have zT_bel2 : belL 0 (.int .i64 1 :: zT) = true := rfl
 obtain ⟨cs,hcs⟩ : ∃ cs : List AV,.int .i64 1 :: .int .i64 (q1_1 b').2.2 :: .int .i64 (q1_2 b').2.2 :: .int .i64 (q1_3 b').2.2 :: .str (q1_4 b').2.2 :: rpsA (q1_5 b').2.2 :: (accC zA ++ (.nils :: (rpZ ++ (sumC zM ++ (ordC zO ++ rplC zX))))) = cs := ⟨_,rfl⟩
 have hY : LentB (.box cs) := .box_ _ (by rw [← hcs];first|rfl|exact belL_app (xs := [.int .i64 7,.int .i64 (q7_1 b').2.2,.int .i64 (q7_2 b').2.2,.int .i64 0,.str [],.nils,.int .i64 0,.int .i64 0,.str [],.nils,.int .i64 0,.int .i64 0,.bool false,.int .i64 0,.str [],.nils]) rfl (belL_app (sumC_bel _) rfl))
 have hlen : cs.length = 62 := by rw [← hcs];first|rfl|(simp [accC,rpZ,ordC,rplC,sumC_len,q7_3,rdM_32 _ _ zM rfl])
 have hle : Le1L cs (letC (l1 b')) := by
  rw [← hcs]
  (repeat' (first|exact Le1L.nil|exact Le1.refl _|exact Le1.nil _|apply Le1L.cons|exact le1l_refl _))
 rw [hcs] at ht
 have htk : cs.take 62 = cs := List.take_of_length_le (by omega)
 clear hcs
 generalize letC (l1 b') = lc at *
 generalize q1_5 b' = t at *
 obtain ⟨bb,ee,xx⟩ := t
 simp only at ht ⊢
 refine ⟨⟨_,Tryz.func20,by kernel_rfl,rfl⟩,ACall.of Tryz.func20 rfl fun c0 hc0 => ?_⟩;simp only [Nat.reduceSub,go_sem];refine Run.god tab_ok follows_ok Tryz.func20 4 ?_;simp only [go_sem,bytesA,Nat.reduceAdd,Nat.reduceLeDiff]
 refine Run.weak (Weak.nilC 2 61 1 _ rfl rfl) ?_
 simp only [Y7,Y6]
 refine Run.weak (Weak.junk [7,8,9,10]) ?_
 simp only [junkAt,Y6,Y7]
 refine Rg Tryz.func20 ?_;simp only [go_sem,Nat.reduceAdd]
 refine Ops.callB .free rfl rfl (js := [1,2]) (by decide) (LentAll.cons rfl (pp_lent b true 0) (LentAll.cons rfl (LentB.box_ (.int .i64 0 :: zT) rfl) LentAll.nil)) (lent2 (pp_lent _ _ _) (LentB.box_ _ rfl)) rfl rfl (by simp only [go_sem,cond_true,cond_false,renL,AV.ren,List.idxOf,List.findIdx,List.findIdx.go,Nat.reduceAdd,Nat.reduceBEq];(repeat' first|exact .refl _|apply LeR.tup|apply Le.agg|constructor)) (hn) rfl ?_
 refine Og Tryz.func20 ?_;simp only [go_sem,putBack]
 refine Ops.callP .free rfl rfl (js := [2]) (by decide) (LentAll.cons rfl (LentB.box_ _ zT_bel2) LentAll.nil) (lent1 (LentB.box_ _ zT_bel2)) rfl rfl (by simp only [go_sem,cond_true,renL,AV.ren,List.idxOf,List.findIdx,List.findIdx.go];(repeat' first|exact .refl _|apply LeR.tup|apply Le.agg|constructor)) (letplaces_1 zT zT_bel) rfl ?_
 refine Og Tryz.func20 ?_;simp only [go_sem,pp,AV.unr,unrL,unrLL,↓alt_f,↓alts_f,↓gone_ff,Nat.reduceAdd]
 refine Ops.invokeB .free rfl rfl meth_parts (js := [1,2]) (by decide) (LentAll.cons rfl (pp_lent b' true 0) (LentAll.cons rfl (LentB.box_ _ zT_bel2) LentAll.nil)) (lent2 (pp_lent _ _ _) hY) rfl (by simp only [go_sem];rfl) (by simp only [go_sem,Nat.reduceAdd,Nat.reduceBEq,cond_true,cond_false,renL,renLL,AV.ren,List.idxOf,List.findIdx,List.findIdx.go];exact LeL.cons (Le.refl _) (LeL.cons (Le.refl _) LeL.nil)) ht rfl ?_
 have hfin : decide ((bb.length : Int) = 0) = decide (bb = []) := by cases bb <;> simp;omega
 by_cases he : ee = 0
 ·subst he
  refine Og Tryz.func20 ?_;simp only [go_sem,putBack,pp,hfin,hlen,htk,bytesA,↓alts_t,↓gdone_tt,Nat.reduceAdd,Nat.reduceLeDiff]
  (and_intros <;> try first|rfl|omega|(unfold I64;omega))
  all_goals (first|exact Le1L.nil|exact LeR.tup (LeL.cons (Le.agg hle) (LeL.cons (Le.refl _) LeL.nil)))
 ·refine Og Tryz.func20 ?_;simp only [go_sem,putBack,pp,he,hlen,htk,bytesA,↓alts_f,↓gdone_tf,Nat.reduceAdd]
  (and_intros <;> try first|rfl|omega|(unfold I64;omega))
  all_goals (first|exact Le1L.nil|exact LeR.tup (LeL.cons (Le.agg hle) (LeL.cons (Le.refl _) LeL.nil)))
theorem taken_2 (b b' : Bytes) (hb : b.length ≤ 1000000) (hb' : b'.length ≤ 1000000) (hk : rdN b 0 0 = (b',0,2)) : ASpec Tryz.prog 20 [bytesA b] (.tup [.agg (letC (l2 b')),.bool (decide ((q2_2 b').2.1 = 0) && decide ((q2_2 b').1 = []))]) := by
 have hn := number_c b 0 0 (fun x => x :: zT) 0 (.of [] zT (fun _ => rfl) rfl rfl rfl) hb
 rw [hk] at hn
 simp only at hn
 have ht := told_2 b' hb'
 have zT_bel2 : belL 0 (.int .i64 2 :: zT) = true := rfl
 obtain ⟨cs,hcs⟩ : ∃ cs : List AV,.int .i64 2 :: .int .i64 0 :: .int .i64 (q2_1 b').2.2 :: .int .i64 0 :: .str [] :: .nils :: (accC (q2_2 b').2.2 ++ (.nils :: (rpZ ++ (sumC zM ++ (ordC zO ++ rplC zX))))) = cs := ⟨_,rfl⟩
 have hY : LentB (.box cs) := .box_ _ (by rw [← hcs];first|rfl|exact belL_app (xs := [.int .i64 7,.int .i64 (q7_1 b').2.2,.int .i64 (q7_2 b').2.2,.int .i64 0,.str [],.nils,.int .i64 0,.int .i64 0,.str [],.nils,.int .i64 0,.int .i64 0,.bool false,.int .i64 0,.str [],.nils]) rfl (belL_app (sumC_bel _) rfl))
 have hlen : cs.length = 62 := by rw [← hcs];first|rfl|(simp [accC,rpZ,ordC,rplC,sumC_len,q7_3,rdM_32 _ _ zM rfl])
 have hle : Le1L cs (letC (l2 b')) := by
  rw [← hcs]
  (repeat' (first|exact Le1L.nil|exact Le1.refl _|exact Le1.nil _|apply Le1L.cons|exact le1l_refl _))
 rw [hcs] at ht
 have htk : cs.take 62 = cs := List.take_of_length_le (by omega)
 clear hcs
 generalize letC (l2 b') = lc at *
 generalize q2_2 b' = t at *
 obtain ⟨bb,ee,xx⟩ := t
 simp only at ht ⊢
 refine ⟨⟨_,Tryz.func20,by kernel_rfl,rfl⟩,ACall.of Tryz.func20 rfl fun c0 hc0 => ?_⟩;simp only [Nat.reduceSub,go_sem];refine Run.god tab_ok follows_ok Tryz.func20 4 ?_;simp only [go_sem,bytesA,Nat.reduceAdd,Nat.reduceLeDiff]
 refine Run.weak (Weak.nilC 2 61 1 _ rfl rfl) ?_
 simp only [Y7,Y6]
 refine Run.weak (Weak.junk [7,8,9,10]) ?_
 simp only [junkAt,Y6,Y7]
 refine Rg Tryz.func20 ?_;simp only [go_sem,Nat.reduceAdd]
 refine Ops.callB .free rfl rfl (js := [1,2]) (by decide) (LentAll.cons rfl (pp_lent b true 0) (LentAll.cons rfl (LentB.box_ (.int .i64 0 :: zT) rfl) LentAll.nil)) (lent2 (pp_lent _ _ _) (LentB.box_ _ rfl)) rfl rfl (by simp only [go_sem,cond_true,cond_false,renL,AV.ren,List.idxOf,List.findIdx,List.findIdx.go,Nat.reduceAdd,Nat.reduceBEq];(repeat' first|exact .refl _|apply LeR.tup|apply Le.agg|constructor)) (hn) rfl ?_
 refine Og Tryz.func20 ?_;simp only [go_sem,putBack]
 refine Ops.callP .free rfl rfl (js := [2]) (by decide) (LentAll.cons rfl (LentB.box_ _ zT_bel2) LentAll.nil) (lent1 (LentB.box_ _ zT_bel2)) rfl rfl (by simp only [go_sem,cond_true,renL,AV.ren,List.idxOf,List.findIdx,List.findIdx.go];(repeat' first|exact .refl _|apply LeR.tup|apply Le.agg|constructor)) (letplaces_2 zT zT_bel) rfl ?_
 refine Og Tryz.func20 ?_;simp only [go_sem,pp,partC,voteB_,AV.unr,unrL,unrLL,↓alt_f,↓alts_f,↓gone_ff,Nat.reduceAdd]
 refine Ops.invokeB .free rfl rfl meth_parts (js := [1,2]) (by decide) (LentAll.cons rfl (pp_lent b' true 0) (LentAll.cons rfl (LentB.box_ _ zT_bel2) LentAll.nil)) (lent2 (pp_lent _ _ _) hY) rfl (by simp only [go_sem];rfl) (by simp only [go_sem,partC,voteB_,Nat.reduceAdd,Nat.reduceBEq,cond_true,cond_false,renL,renLL,AV.ren,List.idxOf,List.findIdx,List.findIdx.go];exact LeL.cons (Le.refl _) (LeL.cons (Le.refl _) LeL.nil)) ht rfl ?_
 have hfin : decide ((bb.length : Int) = 0) = decide (bb = []) := by cases bb <;> simp;omega
 by_cases he : ee = 0
 ·subst he
  refine Og Tryz.func20 ?_;simp only [go_sem,putBack,pp,hfin,hlen,htk,bytesA,↓alts_t,↓gdone_tt,Nat.reduceAdd,Nat.reduceLeDiff]
  (and_intros <;> try first|rfl|omega|(unfold I64;omega))
  all_goals (first|exact Le1L.nil|exact LeR.tup (LeL.cons (Le.agg hle) (LeL.cons (Le.refl _) LeL.nil)))
 ·refine Og Tryz.func20 ?_;simp only [go_sem,putBack,pp,he,hlen,htk,bytesA,↓alts_f,↓gdone_tf,Nat.reduceAdd]
  (and_intros <;> try first|rfl|omega|(unfold I64;omega))
  all_goals (first|exact Le1L.nil|exact LeR.tup (LeL.cons (Le.agg hle) (LeL.cons (Le.refl _) LeL.nil)))
theorem taken_3 (b b' : Bytes) (hb : b.length ≤ 1000000) (hb' : b'.length ≤ 1000000) (hk : rdN b 0 0 = (b',0,3)) : ASpec Tryz.prog 20 [bytesA b] (.tup [.agg (letC (l3 b')),.bool (decide ((q3_3 b').2.1 = 0) && decide ((q3_3 b').1 = []))]) := by
 have hn := number_c b 0 0 (fun x => x :: zT) 0 (.of [] zT (fun _ => rfl) rfl rfl rfl) hb
 rw [hk] at hn
 simp only at hn
 have ht := told_3 b' hb'
 have zT_bel2 : belL 0 (.int .i64 3 :: zT) = true := rfl
 obtain ⟨cs,hcs⟩ : ∃ cs : List AV,.int .i64 3 :: .int .i64 (q3_1 b').2.2 :: .int .i64 (q3_2 b').2.2 :: .int .i64 0 :: .str [] :: .nils :: (accC zA ++ (votesA (q3_3 b').2.2 :: (rpZ ++ (sumC zM ++ (ordC zO ++ rplC zX))))) = cs := ⟨_,rfl⟩
 have hY : LentB (.box cs) := .box_ _ (by rw [← hcs];first|rfl|exact belL_app (xs := [.int .i64 7,.int .i64 (q7_1 b').2.2,.int .i64 (q7_2 b').2.2,.int .i64 0,.str [],.nils,.int .i64 0,.int .i64 0,.str [],.nils,.int .i64 0,.int .i64 0,.bool false,.int .i64 0,.str [],.nils]) rfl (belL_app (sumC_bel _) rfl))
 have hlen : cs.length = 62 := by rw [← hcs];first|rfl|(simp [accC,rpZ,ordC,rplC,sumC_len,q7_3,rdM_32 _ _ zM rfl])
 have hle : Le1L cs (letC (l3 b')) := by
  rw [← hcs]
  (repeat' (first|exact Le1L.nil|exact Le1.refl _|exact Le1.nil _|apply Le1L.cons|exact le1l_refl _))
 rw [hcs] at ht
 have htk : cs.take 62 = cs := List.take_of_length_le (by omega)
 clear hcs
 generalize letC (l3 b') = lc at *
 generalize q3_3 b' = t at *
 obtain ⟨bb,ee,xx⟩ := t
 simp only at ht ⊢
 refine ⟨⟨_,Tryz.func20,by kernel_rfl,rfl⟩,ACall.of Tryz.func20 rfl fun c0 hc0 => ?_⟩;simp only [Nat.reduceSub,go_sem];refine Run.god tab_ok follows_ok Tryz.func20 4 ?_;simp only [go_sem,bytesA,Nat.reduceAdd,Nat.reduceLeDiff]
 refine Run.weak (Weak.nilC 2 61 1 _ rfl rfl) ?_
 simp only [Y7,Y6]
 refine Run.weak (Weak.junk [7,8,9,10]) ?_
 simp only [junkAt,Y6,Y7]
 refine Rg Tryz.func20 ?_;simp only [go_sem,Nat.reduceAdd]
 refine Ops.callB .free rfl rfl (js := [1,2]) (by decide) (LentAll.cons rfl (pp_lent b true 0) (LentAll.cons rfl (LentB.box_ (.int .i64 0 :: zT) rfl) LentAll.nil)) (lent2 (pp_lent _ _ _) (LentB.box_ _ rfl)) rfl rfl (by simp only [go_sem,cond_true,cond_false,renL,AV.ren,List.idxOf,List.findIdx,List.findIdx.go,Nat.reduceAdd,Nat.reduceBEq];(repeat' first|exact .refl _|apply LeR.tup|apply Le.agg|constructor)) (hn) rfl ?_
 refine Og Tryz.func20 ?_;simp only [go_sem,putBack]
 refine Ops.callP .free rfl rfl (js := [2]) (by decide) (LentAll.cons rfl (LentB.box_ _ zT_bel2) LentAll.nil) (lent1 (LentB.box_ _ zT_bel2)) rfl rfl (by simp only [go_sem,cond_true,renL,AV.ren,List.idxOf,List.findIdx,List.findIdx.go];(repeat' first|exact .refl _|apply LeR.tup|apply Le.agg|constructor)) (letplaces_3 zT zT_bel) rfl ?_
 refine Og Tryz.func20 ?_;simp only [go_sem,pp,AV.unr,unrL,unrLL,↓alt_f,↓alts_f,↓gone_ff,Nat.reduceAdd]
 refine Ops.invokeB .free rfl rfl meth_parts (js := [1,2]) (by decide) (LentAll.cons rfl (pp_lent b' true 0) (LentAll.cons rfl (LentB.box_ _ zT_bel2) LentAll.nil)) (lent2 (pp_lent _ _ _) hY) rfl (by simp only [go_sem];rfl) (by simp only [go_sem,Nat.reduceAdd,Nat.reduceBEq,cond_true,cond_false,renL,renLL,AV.ren,List.idxOf,List.findIdx,List.findIdx.go];exact LeL.cons (Le.refl _) (LeL.cons (Le.refl _) LeL.nil)) ht rfl ?_
 have hfin : decide ((bb.length : Int) = 0) = decide (bb = []) := by cases bb <;> simp;omega
 by_cases he : ee = 0
 ·subst he
  refine Og Tryz.func20 ?_;simp only [go_sem,putBack,pp,hfin,hlen,htk,bytesA,↓alts_t,↓gdone_tt,Nat.reduceAdd,Nat.reduceLeDiff]
  (and_intros <;> try first|rfl|omega|(unfold I64;omega))
  all_goals (first|exact Le1L.nil|exact LeR.tup (LeL.cons (Le.agg hle) (LeL.cons (Le.refl _) LeL.nil)))
 ·refine Og Tryz.func20 ?_;simp only [go_sem,putBack,pp,he,hlen,htk,bytesA,↓alts_f,↓gdone_tf,Nat.reduceAdd]
  (and_intros <;> try first|rfl|omega|(unfold I64;omega))
  all_goals (first|exact Le1L.nil|exact LeR.tup (LeL.cons (Le.agg hle) (LeL.cons (Le.refl _) LeL.nil)))
theorem taken_4 (b b' : Bytes) (hb : b.length ≤ 1000000) (hb' : b'.length ≤ 1000000) (hk : rdN b 0 0 = (b',0,4)) : ASpec Tryz.prog 20 [bytesA b] (.tup [.agg (letC (l4 b')),.bool (decide ((q4_2 b').2.1 = 0) && decide ((q4_2 b').1 = []))]) := by
 have hn := number_c b 0 0 (fun x => x :: zT) 0 (.of [] zT (fun _ => rfl) rfl rfl rfl) hb
 rw [hk] at hn
 simp only at hn
 have ht := told_4 b' hb'
 have zT_bel2 : belL 0 (.int .i64 4 :: zT) = true := rfl
 obtain ⟨cs,hcs⟩ : ∃ cs : List AV,.int .i64 4 :: .int .i64 0 :: .int .i64 (q4_1 b').2.2 :: .int .i64 0 :: .str [] :: .nils :: (accC zA ++ (.nils :: (rpC (q4_2 b').2.2 ++ (sumC zM ++ (ordC zO ++ rplC zX))))) = cs := ⟨_,rfl⟩
 have hY : LentB (.box cs) := .box_ _ (by rw [← hcs];first|rfl|exact belL_app (xs := [.int .i64 7,.int .i64 (q7_1 b').2.2,.int .i64 (q7_2 b').2.2,.int .i64 0,.str [],.nils,.int .i64 0,.int .i64 0,.str [],.nils,.int .i64 0,.int .i64 0,.bool false,.int .i64 0,.str [],.nils]) rfl (belL_app (sumC_bel _) rfl))
 have hlen : cs.length = 62 := by rw [← hcs];first|rfl|(simp [accC,rpZ,ordC,rplC,sumC_len,q7_3,rdM_32 _ _ zM rfl])
 have hle : Le1L cs (letC (l4 b')) := by
  rw [← hcs]
  (repeat' (first|exact Le1L.nil|exact Le1.refl _|exact Le1.nil _|apply Le1L.cons|exact le1l_refl _))
 rw [hcs] at ht
 have htk : cs.take 62 = cs := List.take_of_length_le (by omega)
 clear hcs
 generalize letC (l4 b') = lc at *
 generalize q4_2 b' = t at *
 obtain ⟨bb,ee,xx⟩ := t
 simp only at ht ⊢
 refine ⟨⟨_,Tryz.func20,by kernel_rfl,rfl⟩,ACall.of Tryz.func20 rfl fun c0 hc0 => ?_⟩;simp only [Nat.reduceSub,go_sem];refine Run.god tab_ok follows_ok Tryz.func20 4 ?_;simp only [go_sem,bytesA,Nat.reduceAdd,Nat.reduceLeDiff]
 refine Run.weak (Weak.nilC 2 61 1 _ rfl rfl) ?_
 simp only [Y7,Y6]
 refine Run.weak (Weak.junk [7,8,9,10]) ?_
 simp only [junkAt,Y6,Y7]
 refine Rg Tryz.func20 ?_;simp only [go_sem,Nat.reduceAdd]
 refine Ops.callB .free rfl rfl (js := [1,2]) (by decide) (LentAll.cons rfl (pp_lent b true 0) (LentAll.cons rfl (LentB.box_ (.int .i64 0 :: zT) rfl) LentAll.nil)) (lent2 (pp_lent _ _ _) (LentB.box_ _ rfl)) rfl rfl (by simp only [go_sem,cond_true,cond_false,renL,AV.ren,List.idxOf,List.findIdx,List.findIdx.go,Nat.reduceAdd,Nat.reduceBEq];(repeat' first|exact .refl _|apply LeR.tup|apply Le.agg|constructor)) (hn) rfl ?_
 refine Og Tryz.func20 ?_;simp only [go_sem,putBack]
 refine Ops.callP .free rfl rfl (js := [2]) (by decide) (LentAll.cons rfl (LentB.box_ _ zT_bel2) LentAll.nil) (lent1 (LentB.box_ _ zT_bel2)) rfl rfl (by simp only [go_sem,cond_true,renL,AV.ren,List.idxOf,List.findIdx,List.findIdx.go];(repeat' first|exact .refl _|apply LeR.tup|apply Le.agg|constructor)) (letplaces_4 zT zT_bel) rfl ?_
 refine Og Tryz.func20 ?_;simp only [go_sem,pp,partC,reportB_,AV.unr,unrL,unrLL,↓alt_f,↓alts_f,↓gone_ff,Nat.reduceAdd]
 refine Ops.invokeB .free rfl rfl meth_parts (js := [1,2]) (by decide) (LentAll.cons rfl (pp_lent b' true 0) (LentAll.cons rfl (LentB.box_ _ zT_bel2) LentAll.nil)) (lent2 (pp_lent _ _ _) hY) rfl (by simp only [go_sem];rfl) (by simp only [go_sem,partC,reportB_,Nat.reduceAdd,Nat.reduceBEq,cond_true,cond_false,renL,renLL,AV.ren,List.idxOf,List.findIdx,List.findIdx.go];exact LeL.cons (Le.refl _) (LeL.cons (Le.refl _) LeL.nil)) ht rfl ?_
 have hfin : decide ((bb.length : Int) = 0) = decide (bb = []) := by cases bb <;> simp;omega
 by_cases he : ee = 0
 ·subst he
  refine Og Tryz.func20 ?_;simp only [go_sem,putBack,pp,hfin,hlen,htk,bytesA,↓alts_t,↓gdone_tt,Nat.reduceAdd,Nat.reduceLeDiff]
  (and_intros <;> try first|rfl|omega|(unfold I64;omega))
  all_goals (first|exact Le1L.nil|exact LeR.tup (LeL.cons (Le.agg hle) (LeL.cons (Le.refl _) LeL.nil)))
 ·refine Og Tryz.func20 ?_;simp only [go_sem,putBack,pp,he,hlen,htk,bytesA,↓alts_f,↓gdone_tf,Nat.reduceAdd]
  (and_intros <;> try first|rfl|omega|(unfold I64;omega))
  all_goals (first|exact Le1L.nil|exact LeR.tup (LeL.cons (Le.agg hle) (LeL.cons (Le.refl _) LeL.nil)))
theorem taken_5 (b b' : Bytes) (hb : b.length ≤ 1000000) (hb' : b'.length ≤ 1000000) (hk : rdN b 0 0 = (b',0,5)) : ASpec Tryz.prog 20 [bytesA b] (.tup [.agg (letC (l5 b')),.bool (decide ((q5_3 b').2.1 = 0) && decide ((q5_3 b').1 = []))]) := by
 have hn := number_c b 0 0 (fun x => x :: zT) 0 (.of [] zT (fun _ => rfl) rfl rfl rfl) hb
 rw [hk] at hn
 simp only at hn
 have ht := told_5 b' hb'
 have zT_bel2 : belL 0 (.int .i64 5 :: zT) = true := rfl
 obtain ⟨cs,hcs⟩ : ∃ cs : List AV,.int .i64 5 :: .int .i64 (q5_1 b').2.2 :: .int .i64 (q5_2 b').2.2 :: .int .i64 0 :: .str (q5_3 b').2.2 :: .nils :: (accC zA ++ (.nils :: (rpZ ++ (sumC zM ++ (ordC zO ++ rplC zX))))) = cs := ⟨_,rfl⟩
 have hY : LentB (.box cs) := .box_ _ (by rw [← hcs];first|rfl|exact belL_app (xs := [.int .i64 7,.int .i64 (q7_1 b').2.2,.int .i64 (q7_2 b').2.2,.int .i64 0,.str [],.nils,.int .i64 0,.int .i64 0,.str [],.nils,.int .i64 0,.int .i64 0,.bool false,.int .i64 0,.str [],.nils]) rfl (belL_app (sumC_bel _) rfl))
 have hlen : cs.length = 62 := by rw [← hcs];first|rfl|(simp [accC,rpZ,ordC,rplC,sumC_len,q7_3,rdM_32 _ _ zM rfl])
 have hle : Le1L cs (letC (l5 b')) := by
  rw [← hcs]
  (repeat' (first|exact Le1L.nil|exact Le1.refl _|exact Le1.nil _|apply Le1L.cons|exact le1l_refl _))
 rw [hcs] at ht
 have htk : cs.take 62 = cs := List.take_of_length_le (by omega)
 clear hcs
 generalize letC (l5 b') = lc at *
 generalize q5_3 b' = t at *
 obtain ⟨bb,ee,xx⟩ := t
 simp only at ht ⊢
 refine ⟨⟨_,Tryz.func20,by kernel_rfl,rfl⟩,ACall.of Tryz.func20 rfl fun c0 hc0 => ?_⟩;simp only [Nat.reduceSub,go_sem];refine Run.god tab_ok follows_ok Tryz.func20 4 ?_;simp only [go_sem,bytesA,Nat.reduceAdd,Nat.reduceLeDiff]
 refine Run.weak (Weak.nilC 2 61 1 _ rfl rfl) ?_
 simp only [Y7,Y6]
 refine Run.weak (Weak.junk [7,8,9,10]) ?_
 simp only [junkAt,Y6,Y7]
 refine Rg Tryz.func20 ?_;simp only [go_sem,Nat.reduceAdd]
 refine Ops.callB .free rfl rfl (js := [1,2]) (by decide) (LentAll.cons rfl (pp_lent b true 0) (LentAll.cons rfl (LentB.box_ (.int .i64 0 :: zT) rfl) LentAll.nil)) (lent2 (pp_lent _ _ _) (LentB.box_ _ rfl)) rfl rfl (by simp only [go_sem,cond_true,cond_false,renL,AV.ren,List.idxOf,List.findIdx,List.findIdx.go,Nat.reduceAdd,Nat.reduceBEq];(repeat' first|exact .refl _|apply LeR.tup|apply Le.agg|constructor)) (hn) rfl ?_
 refine Og Tryz.func20 ?_;simp only [go_sem,putBack]
 refine Ops.callP .free rfl rfl (js := [2]) (by decide) (LentAll.cons rfl (LentB.box_ _ zT_bel2) LentAll.nil) (lent1 (LentB.box_ _ zT_bel2)) rfl rfl (by simp only [go_sem,cond_true,renL,AV.ren,List.idxOf,List.findIdx,List.findIdx.go];(repeat' first|exact .refl _|apply LeR.tup|apply Le.agg|constructor)) (letplaces_5 zT zT_bel) rfl ?_
 refine Og Tryz.func20 ?_;simp only [go_sem,pp,AV.unr,unrL,unrLL,↓alt_f,↓alts_f,↓gone_ff,Nat.reduceAdd]
 refine Ops.invokeB .free rfl rfl meth_parts (js := [1,2]) (by decide) (LentAll.cons rfl (pp_lent b' true 0) (LentAll.cons rfl (LentB.box_ _ zT_bel2) LentAll.nil)) (lent2 (pp_lent _ _ _) hY) rfl (by simp only [go_sem];rfl) (by simp only [go_sem,Nat.reduceAdd,Nat.reduceBEq,cond_true,cond_false,renL,renLL,AV.ren,List.idxOf,List.findIdx,List.findIdx.go];exact LeL.cons (Le.refl _) (LeL.cons (Le.refl _) LeL.nil)) ht rfl ?_
 have hfin : decide ((bb.length : Int) = 0) = decide (bb = []) := by cases bb <;> simp;omega
 by_cases he : ee = 0
 ·subst he
  refine Og Tryz.func20 ?_;simp only [go_sem,putBack,pp,hfin,hlen,htk,bytesA,↓alts_t,↓gdone_tt,Nat.reduceAdd,Nat.reduceLeDiff]
  (and_intros <;> try first|rfl|omega|(unfold I64;omega))
  all_goals (first|exact Le1L.nil|exact LeR.tup (LeL.cons (Le.agg hle) (LeL.cons (Le.refl _) LeL.nil)))
 ·refine Og Tryz.func20 ?_;simp only [go_sem,putBack,pp,he,hlen,htk,bytesA,↓alts_f,↓gdone_tf,Nat.reduceAdd]
  (and_intros <;> try first|rfl|omega|(unfold I64;omega))
  all_goals (first|exact Le1L.nil|exact LeR.tup (LeL.cons (Le.agg hle) (LeL.cons (Le.refl _) LeL.nil)))
theorem taken_6 (b b' : Bytes) (hb : b.length ≤ 1000000) (hb' : b'.length ≤ 1000000) (hk : rdN b 0 0 = (b',0,6)) : ASpec Tryz.prog 20 [bytesA b] (.tup [.agg (letC (l6 b')),.bool (decide ((q6_2 b').2.1 = 0) && decide ((q6_2 b').1 = []))]) := by
 have hn := number_c b 0 0 (fun x => x :: zT) 0 (.of [] zT (fun _ => rfl) rfl rfl rfl) hb
 rw [hk] at hn
 simp only at hn
 have ht := told_6 b' hb'
 have zT_bel2 : belL 0 (.int .i64 6 :: zT) = true := rfl
 obtain ⟨cs,hcs⟩ : ∃ cs : List AV,.int .i64 6 :: .int .i64 (q6_1 b').2.2 :: .int .i64 0 :: .int .i64 (q6_2 b').2.2 :: .str [] :: .nils :: (accC zA ++ (.nils :: (rpZ ++ (sumC zM ++ (ordC zO ++ rplC zX))))) = cs := ⟨_,rfl⟩
 have hY : LentB (.box cs) := .box_ _ (by rw [← hcs];first|rfl|exact belL_app (xs := [.int .i64 7,.int .i64 (q7_1 b').2.2,.int .i64 (q7_2 b').2.2,.int .i64 0,.str [],.nils,.int .i64 0,.int .i64 0,.str [],.nils,.int .i64 0,.int .i64 0,.bool false,.int .i64 0,.str [],.nils]) rfl (belL_app (sumC_bel _) rfl))
 have hlen : cs.length = 62 := by rw [← hcs];first|rfl|(simp [accC,rpZ,ordC,rplC,sumC_len,q7_3,rdM_32 _ _ zM rfl])
 have hle : Le1L cs (letC (l6 b')) := by
  rw [← hcs]
  (repeat' (first|exact Le1L.nil|exact Le1.refl _|exact Le1.nil _|apply Le1L.cons|exact le1l_refl _))
 rw [hcs] at ht
 have htk : cs.take 62 = cs := List.take_of_length_le (by omega)
 clear hcs
 generalize letC (l6 b') = lc at *
 generalize q6_2 b' = t at *
 obtain ⟨bb,ee,xx⟩ := t
 simp only at ht ⊢
 refine ⟨⟨_,Tryz.func20,by kernel_rfl,rfl⟩,ACall.of Tryz.func20 rfl fun c0 hc0 => ?_⟩;simp only [Nat.reduceSub,go_sem];refine Run.god tab_ok follows_ok Tryz.func20 4 ?_;simp only [go_sem,bytesA,Nat.reduceAdd,Nat.reduceLeDiff]
 refine Run.weak (Weak.nilC 2 61 1 _ rfl rfl) ?_
 simp only [Y7,Y6]
 refine Run.weak (Weak.junk [7,8,9,10]) ?_
 simp only [junkAt,Y6,Y7]
 refine Rg Tryz.func20 ?_;simp only [go_sem,Nat.reduceAdd]
 refine Ops.callB .free rfl rfl (js := [1,2]) (by decide) (LentAll.cons rfl (pp_lent b true 0) (LentAll.cons rfl (LentB.box_ (.int .i64 0 :: zT) rfl) LentAll.nil)) (lent2 (pp_lent _ _ _) (LentB.box_ _ rfl)) rfl rfl (by simp only [go_sem,cond_true,cond_false,renL,AV.ren,List.idxOf,List.findIdx,List.findIdx.go,Nat.reduceAdd,Nat.reduceBEq];(repeat' first|exact .refl _|apply LeR.tup|apply Le.agg|constructor)) (hn) rfl ?_
 refine Og Tryz.func20 ?_;simp only [go_sem,putBack]
 refine Ops.callP .free rfl rfl (js := [2]) (by decide) (LentAll.cons rfl (LentB.box_ _ zT_bel2) LentAll.nil) (lent1 (LentB.box_ _ zT_bel2)) rfl rfl (by simp only [go_sem,cond_true,renL,AV.ren,List.idxOf,List.findIdx,List.findIdx.go];(repeat' first|exact .refl _|apply LeR.tup|apply Le.agg|constructor)) (letplaces_6 zT zT_bel) rfl ?_
 refine Og Tryz.func20 ?_;simp only [go_sem,pp,AV.unr,unrL,unrLL,↓alt_f,↓alts_f,↓gone_ff,Nat.reduceAdd]
 refine Ops.invokeB .free rfl rfl meth_parts (js := [1,2]) (by decide) (LentAll.cons rfl (pp_lent b' true 0) (LentAll.cons rfl (LentB.box_ _ zT_bel2) LentAll.nil)) (lent2 (pp_lent _ _ _) hY) rfl (by simp only [go_sem];rfl) (by simp only [go_sem,Nat.reduceAdd,Nat.reduceBEq,cond_true,cond_false,renL,renLL,AV.ren,List.idxOf,List.findIdx,List.findIdx.go];exact LeL.cons (Le.refl _) (LeL.cons (Le.refl _) LeL.nil)) ht rfl ?_
 have hfin : decide ((bb.length : Int) = 0) = decide (bb = []) := by cases bb <;> simp;omega
 by_cases he : ee = 0
 ·subst he
  refine Og Tryz.func20 ?_;simp only [go_sem,putBack,pp,hfin,hlen,htk,bytesA,↓alts_t,↓gdone_tt,Nat.reduceAdd,Nat.reduceLeDiff]
  (and_intros <;> try first|rfl|omega|(unfold I64;omega))
  all_goals (first|exact Le1L.nil|exact LeR.tup (LeL.cons (Le.agg hle) (LeL.cons (Le.refl _) LeL.nil)))
 ·refine Og Tryz.func20 ?_;simp only [go_sem,putBack,pp,he,hlen,htk,bytesA,↓alts_f,↓gdone_tf,Nat.reduceAdd]
  (and_intros <;> try first|rfl|omega|(unfold I64;omega))
  all_goals (first|exact Le1L.nil|exact LeR.tup (LeL.cons (Le.agg hle) (LeL.cons (Le.refl _) LeL.nil)))
theorem taken_7 (b b' : Bytes) (hb : b.length ≤ 1000000) (hb' : b'.length ≤ 1000000) (hk : rdN b 0 0 = (b',0,7)) : ASpec Tryz.prog 20 [bytesA b] (.tup [.agg (letC (l7 b')),.bool (decide ((q7_3 b').2.1 = 0) && decide ((q7_3 b').1 = []))]) := by
 have hn := number_c b 0 0 (fun x => x :: zT) 0 (.of [] zT (fun _ => rfl) rfl rfl rfl) hb
 rw [hk] at hn
 simp only at hn
 have ht := told_7 b' hb'
 have zT_bel2 : belL 0 (.int .i64 7 :: zT) = true := rfl
 obtain ⟨cs,hcs⟩ : ∃ cs : List AV,.int .i64 7 :: .int .i64 (q7_1 b').2.2 :: .int .i64 (q7_2 b').2.2 :: .int .i64 0 :: .str [] :: .nils :: (accC zA ++ (.nils :: (rpZ ++ (sumC (q7_3 b').2.2 ++ (ordC zO ++ rplC zX))))) = cs := ⟨_,rfl⟩
 have hY : LentB (.box cs) := .box_ _ (by rw [← hcs];first|rfl|exact belL_app (xs := [.int .i64 7,.int .i64 (q7_1 b').2.2,.int .i64 (q7_2 b').2.2,.int .i64 0,.str [],.nils,.int .i64 0,.int .i64 0,.str [],.nils,.int .i64 0,.int .i64 0,.bool false,.int .i64 0,.str [],.nils]) rfl (belL_app (sumC_bel _) rfl))
 have hlen : cs.length = 62 := by rw [← hcs];first|rfl|(simp [accC,rpZ,ordC,rplC,sumC_len,q7_3,rdM_32 _ _ zM rfl])
 have hle : Le1L cs (letC (l7 b')) := by
  rw [← hcs]
  (repeat' (first|exact Le1L.nil|exact Le1.refl _|exact Le1.nil _|apply Le1L.cons|exact le1l_refl _))
 rw [hcs] at ht
 have htk : cs.take 62 = cs := List.take_of_length_le (by omega)
 clear hcs
 generalize letC (l7 b') = lc at *
 generalize q7_3 b' = t at *
 obtain ⟨bb,ee,xx⟩ := t
 simp only at ht ⊢
 refine ⟨⟨_,Tryz.func20,by kernel_rfl,rfl⟩,ACall.of Tryz.func20 rfl fun c0 hc0 => ?_⟩;simp only [Nat.reduceSub,go_sem];refine Run.god tab_ok follows_ok Tryz.func20 4 ?_;simp only [go_sem,bytesA,Nat.reduceAdd,Nat.reduceLeDiff]
 refine Run.weak (Weak.nilC 2 61 1 _ rfl rfl) ?_
 simp only [Y7,Y6]
 refine Run.weak (Weak.junk [7,8,9,10]) ?_
 simp only [junkAt,Y6,Y7]
 refine Rg Tryz.func20 ?_;simp only [go_sem,Nat.reduceAdd]
 refine Ops.callB .free rfl rfl (js := [1,2]) (by decide) (LentAll.cons rfl (pp_lent b true 0) (LentAll.cons rfl (LentB.box_ (.int .i64 0 :: zT) rfl) LentAll.nil)) (lent2 (pp_lent _ _ _) (LentB.box_ _ rfl)) rfl rfl (by simp only [go_sem,cond_true,cond_false,renL,AV.ren,List.idxOf,List.findIdx,List.findIdx.go,Nat.reduceAdd,Nat.reduceBEq];(repeat' first|exact .refl _|apply LeR.tup|apply Le.agg|constructor)) (hn) rfl ?_
 refine Og Tryz.func20 ?_;simp only [go_sem,putBack]
 refine Ops.callP .free rfl rfl (js := [2]) (by decide) (LentAll.cons rfl (LentB.box_ _ zT_bel2) LentAll.nil) (lent1 (LentB.box_ _ zT_bel2)) rfl rfl (by simp only [go_sem,cond_true,renL,AV.ren,List.idxOf,List.findIdx,List.findIdx.go];(repeat' first|exact .refl _|apply LeR.tup|apply Le.agg|constructor)) (letplaces_7 zT zT_bel) rfl ?_
 refine Og Tryz.func20 ?_;simp only [go_sem,pp,AV.unr,unrL,unrLL,↓alt_f,↓alts_f,↓gone_ff,Nat.reduceAdd]
 refine Ops.invokeB .free rfl rfl meth_parts (js := [1,2]) (by decide) (LentAll.cons rfl (pp_lent b' true 0) (LentAll.cons rfl (LentB.box_ _ zT_bel2) LentAll.nil)) (lent2 (pp_lent _ _ _) hY) rfl (by simp only [go_sem];rfl) (by simp only [go_sem,Nat.reduceAdd,Nat.reduceBEq,cond_true,cond_false,renL,renLL,AV.ren,List.idxOf,List.findIdx,List.findIdx.go];exact LeL.cons (Le.refl _) (LeL.cons (Le.refl _) LeL.nil)) ht rfl ?_
 have hfin : decide ((bb.length : Int) = 0) = decide (bb = []) := by cases bb <;> simp;omega
 by_cases he : ee = 0
 ·subst he
  refine Og Tryz.func20 ?_;simp only [go_sem,putBack,pp,hfin,hlen,htk,bytesA,↓alts_t,↓gdone_tt,Nat.reduceAdd,Nat.reduceLeDiff]
  (and_intros <;> try first|rfl|omega|(unfold I64;omega))
  all_goals (first|exact Le1L.nil|exact LeR.tup (LeL.cons (Le.agg hle) (LeL.cons (Le.refl _) LeL.nil)))
 ·refine Og Tryz.func20 ?_;simp only [go_sem,putBack,pp,he,hlen,htk,bytesA,↓alts_f,↓gdone_tf,Nat.reduceAdd]
  (and_intros <;> try first|rfl|omega|(unfold I64;omega))
  all_goals (first|exact Le1L.nil|exact LeR.tup (LeL.cons (Le.agg hle) (LeL.cons (Le.refl _) LeL.nil)))
theorem taken_8 (b b' : Bytes) (hb : b.length ≤ 1000000) (hb' : b'.length ≤ 1000000) (hk : rdN b 0 0 = (b',0,8)) : ASpec Tryz.prog 20 [bytesA b] (.tup [.agg (letC (l8 b')),.bool (decide ((q8_1 b').2.1 = 0) && decide ((q8_1 b').1 = []))]) := by
 have hn := number_c b 0 0 (fun x => x :: zT) 0 (.of [] zT (fun _ => rfl) rfl rfl rfl) hb
 rw [hk] at hn
 simp only at hn
 have ht := told_8 b' hb'
 have zT_bel2 : belL 0 (.int .i64 8 :: zT) = true := rfl
 obtain ⟨cs,hcs⟩ : ∃ cs : List AV,.int .i64 8 :: .int .i64 0 :: .int .i64 0 :: .int .i64 0 :: .str [] :: .nils :: (accC zA ++ (.nils :: (rpZ ++ (sumC zM ++ (ordC (q8_1 b').2.2 ++ rplC zX))))) = cs := ⟨_,rfl⟩
 have hY : LentB (.box cs) := .box_ _ (by rw [← hcs];first|rfl|exact belL_app (xs := [.int .i64 7,.int .i64 (q7_1 b').2.2,.int .i64 (q7_2 b').2.2,.int .i64 0,.str [],.nils,.int .i64 0,.int .i64 0,.str [],.nils,.int .i64 0,.int .i64 0,.bool false,.int .i64 0,.str [],.nils]) rfl (belL_app (sumC_bel _) rfl))
 have hlen : cs.length = 62 := by rw [← hcs];first|rfl|(simp [accC,rpZ,ordC,rplC,sumC_len,q7_3,rdM_32 _ _ zM rfl])
 have hle : Le1L cs (letC (l8 b')) := by
  rw [← hcs]
  (repeat' (first|exact Le1L.nil|exact Le1.refl _|exact Le1.nil _|apply Le1L.cons|exact le1l_refl _))
 rw [hcs] at ht
 have htk : cs.take 62 = cs := List.take_of_length_le (by omega)
 clear hcs
 generalize letC (l8 b') = lc at *
 generalize q8_1 b' = t at *
 obtain ⟨bb,ee,xx⟩ := t
 simp only at ht ⊢
 refine ⟨⟨_,Tryz.func20,by kernel_rfl,rfl⟩,ACall.of Tryz.func20 rfl fun c0 hc0 => ?_⟩;simp only [Nat.reduceSub,go_sem];refine Run.god tab_ok follows_ok Tryz.func20 4 ?_;simp only [go_sem,bytesA,Nat.reduceAdd,Nat.reduceLeDiff]
 refine Run.weak (Weak.nilC 2 61 1 _ rfl rfl) ?_
 simp only [Y7,Y6]
 refine Run.weak (Weak.junk [7,8,9,10]) ?_
 simp only [junkAt,Y6,Y7]
 refine Rg Tryz.func20 ?_;simp only [go_sem,Nat.reduceAdd]
 refine Ops.callB .free rfl rfl (js := [1,2]) (by decide) (LentAll.cons rfl (pp_lent b true 0) (LentAll.cons rfl (LentB.box_ (.int .i64 0 :: zT) rfl) LentAll.nil)) (lent2 (pp_lent _ _ _) (LentB.box_ _ rfl)) rfl rfl (by simp only [go_sem,cond_true,cond_false,renL,AV.ren,List.idxOf,List.findIdx,List.findIdx.go,Nat.reduceAdd,Nat.reduceBEq];(repeat' first|exact .refl _|apply LeR.tup|apply Le.agg|constructor)) (hn) rfl ?_
 refine Og Tryz.func20 ?_;simp only [go_sem,putBack]
 refine Ops.callP .free rfl rfl (js := [2]) (by decide) (LentAll.cons rfl (LentB.box_ _ zT_bel2) LentAll.nil) (lent1 (LentB.box_ _ zT_bel2)) rfl rfl (by simp only [go_sem,cond_true,renL,AV.ren,List.idxOf,List.findIdx,List.findIdx.go];(repeat' first|exact .refl _|apply LeR.tup|apply Le.agg|constructor)) (letplaces_8 zT zT_bel) rfl ?_
 refine Og Tryz.func20 ?_;simp only [go_sem,pp,AV.unr,unrL,↓alt_f,↓alts_f,↓gone_ff,Nat.reduceAdd]
 refine Ops.invokeB .free rfl rfl meth_asks (js := [1,2]) (by decide) (LentAll.cons rfl (pp_lent b' true 0) (LentAll.cons rfl (LentB.box_ _ zT_bel2) LentAll.nil)) (lent2 (pp_lent _ _ _) hY) rfl (by simp only [go_sem];rfl) (by simp only [go_sem,Nat.reduceAdd,Nat.reduceBEq,cond_true,cond_false,renL,AV.ren,List.idxOf,List.findIdx,List.findIdx.go];exact LeL.cons (Le.refl _) (LeL.cons (Le.refl _) LeL.nil)) ht rfl ?_
 have hfin : decide ((bb.length : Int) = 0) = decide (bb = []) := by cases bb <;> simp;omega
 by_cases he : ee = 0
 ·subst he
  refine Og Tryz.func20 ?_;simp only [go_sem,putBack,pp,hfin,hlen,htk,bytesA,↓alts_t,↓gdone_tt,Nat.reduceAdd,Nat.reduceLeDiff]
  (and_intros <;> try first|rfl|omega|(unfold I64;omega))
  all_goals (first|exact Le1L.nil|exact LeR.tup (LeL.cons (Le.agg hle) (LeL.cons (Le.refl _) LeL.nil)))
 ·refine Og Tryz.func20 ?_;simp only [go_sem,putBack,pp,he,hlen,htk,bytesA,↓alts_f,↓gdone_tf,Nat.reduceAdd]
  (and_intros <;> try first|rfl|omega|(unfold I64;omega))
  all_goals (first|exact Le1L.nil|exact LeR.tup (LeL.cons (Le.agg hle) (LeL.cons (Le.refl _) LeL.nil)))
theorem taken_9 (b b' : Bytes) (hb : b.length ≤ 1000000) (hb' : b'.length ≤ 1000000) (hk : rdN b 0 0 = (b',0,9)) : ASpec Tryz.prog 20 [bytesA b] (.tup [.agg (letC (l9 b')),.bool (decide ((q9_2 b').2.1 = 0) && decide ((q9_2 b').1 = []))]) := by
 have hn := number_c b 0 0 (fun x => x :: zT) 0 (.of [] zT (fun _ => rfl) rfl rfl rfl) hb
 rw [hk] at hn
 simp only at hn
 have ht := told_9 b' hb'
 have zT_bel2 : belL 0 (.int .i64 9 :: zT) = true := rfl
 obtain ⟨cs,hcs⟩ : ∃ cs : List AV,.int .i64 9 :: .int .i64 (q9_1 b').2.2 :: .int .i64 0 :: .int .i64 0 :: .str [] :: .nils :: (accC zA ++ (.nils :: (rpZ ++ (sumC zM ++ (ordC zO ++ rplC (q9_2 b').2.2))))) = cs := ⟨_,rfl⟩
 have hY : LentB (.box cs) := .box_ _ (by rw [← hcs];first|rfl|exact belL_app (xs := [.int .i64 7,.int .i64 (q7_1 b').2.2,.int .i64 (q7_2 b').2.2,.int .i64 0,.str [],.nils,.int .i64 0,.int .i64 0,.str [],.nils,.int .i64 0,.int .i64 0,.bool false,.int .i64 0,.str [],.nils]) rfl (belL_app (sumC_bel _) rfl))
 have hlen : cs.length = 62 := by rw [← hcs];first|rfl|(simp [accC,rpZ,ordC,rplC,sumC_len,q7_3,rdM_32 _ _ zM rfl])
 have hle : Le1L cs (letC (l9 b')) := by
  rw [← hcs]
  (repeat' (first|exact Le1L.nil|exact Le1.refl _|exact Le1.nil _|apply Le1L.cons|exact le1l_refl _))
 rw [hcs] at ht
 have htk : cs.take 62 = cs := List.take_of_length_le (by omega)
 clear hcs
 generalize letC (l9 b') = lc at *
 generalize q9_2 b' = t at *
 obtain ⟨bb,ee,xx⟩ := t
 simp only at ht ⊢
 refine ⟨⟨_,Tryz.func20,by kernel_rfl,rfl⟩,ACall.of Tryz.func20 rfl fun c0 hc0 => ?_⟩;simp only [Nat.reduceSub,go_sem];refine Run.god tab_ok follows_ok Tryz.func20 4 ?_;simp only [go_sem,bytesA,Nat.reduceAdd,Nat.reduceLeDiff]
 refine Run.weak (Weak.nilC 2 61 1 _ rfl rfl) ?_
 simp only [Y7,Y6]
 refine Run.weak (Weak.junk [7,8,9,10]) ?_
 simp only [junkAt,Y6,Y7]
 refine Rg Tryz.func20 ?_;simp only [go_sem,Nat.reduceAdd]
 refine Ops.callB .free rfl rfl (js := [1,2]) (by decide) (LentAll.cons rfl (pp_lent b true 0) (LentAll.cons rfl (LentB.box_ (.int .i64 0 :: zT) rfl) LentAll.nil)) (lent2 (pp_lent _ _ _) (LentB.box_ _ rfl)) rfl rfl (by simp only [go_sem,cond_true,cond_false,renL,AV.ren,List.idxOf,List.findIdx,List.findIdx.go,Nat.reduceAdd,Nat.reduceBEq];(repeat' first|exact .refl _|apply LeR.tup|apply Le.agg|constructor)) (hn) rfl ?_
 refine Og Tryz.func20 ?_;simp only [go_sem,putBack]
 refine Ops.callP .free rfl rfl (js := [2]) (by decide) (LentAll.cons rfl (LentB.box_ _ zT_bel2) LentAll.nil) (lent1 (LentB.box_ _ zT_bel2)) rfl rfl (by simp only [go_sem,cond_true,renL,AV.ren,List.idxOf,List.findIdx,List.findIdx.go];(repeat' first|exact .refl _|apply LeR.tup|apply Le.agg|constructor)) (letplaces_9 zT zT_bel) rfl ?_
 refine Og Tryz.func20 ?_;simp only [go_sem,pp,AV.unr,unrL,unrLL,↓alt_f,↓alts_f,↓gone_ff,Nat.reduceAdd]
 refine Ops.invokeB .free rfl rfl meth_parts (js := [1,2]) (by decide) (LentAll.cons rfl (pp_lent b' true 0) (LentAll.cons rfl (LentB.box_ _ zT_bel2) LentAll.nil)) (lent2 (pp_lent _ _ _) hY) rfl (by simp only [go_sem];rfl) (by simp only [go_sem,Nat.reduceAdd,Nat.reduceBEq,cond_true,cond_false,renL,renLL,AV.ren,List.idxOf,List.findIdx,List.findIdx.go];exact LeL.cons (Le.refl _) (LeL.cons (Le.refl _) LeL.nil)) ht rfl ?_
 have hfin : decide ((bb.length : Int) = 0) = decide (bb = []) := by cases bb <;> simp;omega
 by_cases he : ee = 0
 ·subst he
  refine Og Tryz.func20 ?_;simp only [go_sem,putBack,pp,hfin,hlen,htk,bytesA,↓alts_t,↓gdone_tt,Nat.reduceAdd,Nat.reduceLeDiff]
  (and_intros <;> try first|rfl|omega|(unfold I64;omega))
  all_goals (first|exact Le1L.nil|exact LeR.tup (LeL.cons (Le.agg hle) (LeL.cons (Le.refl _) LeL.nil)))
 ·refine Og Tryz.func20 ?_;simp only [go_sem,putBack,pp,he,hlen,htk,bytesA,↓alts_f,↓gdone_tf,Nat.reduceAdd]
  (and_intros <;> try first|rfl|omega|(unfold I64;omega))
  all_goals (first|exact Le1L.nil|exact LeR.tup (LeL.cons (Le.agg hle) (LeL.cons (Le.refl _) LeL.nil)))
theorem taken_10 (b b' : Bytes) (hb : b.length ≤ 1000000) (hb' : b'.length ≤ 1000000) (hk : rdN b 0 0 = (b',0,10)) : ASpec Tryz.prog 20 [bytesA b] (.tup [.agg (letC (l10 b')),.bool (decide ((q10_2 b').2.1 = 0) && decide ((q10_2 b').1 = []))]) := by
 have hn := number_c b 0 0 (fun x => x :: zT) 0 (.of [] zT (fun _ => rfl) rfl rfl rfl) hb
 rw [hk] at hn
 simp only at hn
 have ht := told_10 b' hb'
 have zT_bel2 : belL 0 (.int .i64 10 :: zT) = true := rfl
 obtain ⟨cs,hcs⟩ : ∃ cs : List AV,.int .i64 10 :: .int .i64 (q10_1 b').2.2 :: .int .i64 (q10_2 b').2.2 :: .int .i64 0 :: .str [] :: .nils :: (accC zA ++ (.nils :: (rpZ ++ (sumC zM ++ (ordC zO ++ rplC zX))))) = cs := ⟨_,rfl⟩
 have hY : LentB (.box cs) := .box_ _ (by rw [← hcs];first|rfl|exact belL_app (xs := [.int .i64 7,.int .i64 (q7_1 b').2.2,.int .i64 (q7_2 b').2.2,.int .i64 0,.str [],.nils,.int .i64 0,.int .i64 0,.str [],.nils,.int .i64 0,.int .i64 0,.bool false,.int .i64 0,.str [],.nils]) rfl (belL_app (sumC_bel _) rfl))
 have hlen : cs.length = 62 := by rw [← hcs];first|rfl|(simp [accC,rpZ,ordC,rplC,sumC_len,q7_3,rdM_32 _ _ zM rfl])
 have hle : Le1L cs (letC (l10 b')) := by
  rw [← hcs]
  (repeat' (first|exact Le1L.nil|exact Le1.refl _|exact Le1.nil _|apply Le1L.cons|exact le1l_refl _))
 rw [hcs] at ht
 have htk : cs.take 62 = cs := List.take_of_length_le (by omega)
 clear hcs
 generalize letC (l10 b') = lc at *
 generalize q10_2 b' = t at *
 obtain ⟨bb,ee,xx⟩ := t
 simp only at ht ⊢
 refine ⟨⟨_,Tryz.func20,by kernel_rfl,rfl⟩,ACall.of Tryz.func20 rfl fun c0 hc0 => ?_⟩;simp only [Nat.reduceSub,go_sem];refine Run.god tab_ok follows_ok Tryz.func20 4 ?_;simp only [go_sem,bytesA,Nat.reduceAdd,Nat.reduceLeDiff]
 refine Run.weak (Weak.nilC 2 61 1 _ rfl rfl) ?_
 simp only [Y7,Y6]
 refine Run.weak (Weak.junk [7,8,9,10]) ?_
 simp only [junkAt,Y6,Y7]
 refine Rg Tryz.func20 ?_;simp only [go_sem,Nat.reduceAdd]
 refine Ops.callB .free rfl rfl (js := [1,2]) (by decide) (LentAll.cons rfl (pp_lent b true 0) (LentAll.cons rfl (LentB.box_ (.int .i64 0 :: zT) rfl) LentAll.nil)) (lent2 (pp_lent _ _ _) (LentB.box_ _ rfl)) rfl rfl (by simp only [go_sem,cond_true,cond_false,renL,AV.ren,List.idxOf,List.findIdx,List.findIdx.go,Nat.reduceAdd,Nat.reduceBEq];(repeat' first|exact .refl _|apply LeR.tup|apply Le.agg|constructor)) (hn) rfl ?_
 refine Og Tryz.func20 ?_;simp only [go_sem,putBack]
 refine Ops.callP .free rfl rfl (js := [2]) (by decide) (LentAll.cons rfl (LentB.box_ _ zT_bel2) LentAll.nil) (lent1 (LentB.box_ _ zT_bel2)) rfl rfl (by simp only [go_sem,cond_true,renL,AV.ren,List.idxOf,List.findIdx,List.findIdx.go];(repeat' first|exact .refl _|apply LeR.tup|apply Le.agg|constructor)) (letplaces_10 zT zT_bel) rfl ?_
 refine Og Tryz.func20 ?_;simp only [go_sem,pp,AV.unr,unrL,unrLL,↓alt_f,↓alts_f,↓gone_ff,Nat.reduceAdd]
 refine Ops.invokeB .free rfl rfl meth_parts (js := [1,2]) (by decide) (LentAll.cons rfl (pp_lent b' true 0) (LentAll.cons rfl (LentB.box_ _ zT_bel2) LentAll.nil)) (lent2 (pp_lent _ _ _) hY) rfl (by simp only [go_sem];rfl) (by simp only [go_sem,Nat.reduceAdd,Nat.reduceBEq,cond_true,cond_false,renL,renLL,AV.ren,List.idxOf,List.findIdx,List.findIdx.go];exact LeL.cons (Le.refl _) (LeL.cons (Le.refl _) LeL.nil)) ht rfl ?_
 have hfin : decide ((bb.length : Int) = 0) = decide (bb = []) := by cases bb <;> simp;omega
 by_cases he : ee = 0
 ·subst he
  refine Og Tryz.func20 ?_;simp only [go_sem,putBack,pp,hfin,hlen,htk,bytesA,↓alts_t,↓gdone_tt,Nat.reduceAdd,Nat.reduceLeDiff]
  (and_intros <;> try first|rfl|omega|(unfold I64;omega))
  all_goals (first|exact Le1L.nil|exact LeR.tup (LeL.cons (Le.agg hle) (LeL.cons (Le.refl _) LeL.nil)))
 ·refine Og Tryz.func20 ?_;simp only [go_sem,putBack,pp,he,hlen,htk,bytesA,↓alts_f,↓gdone_tf,Nat.reduceAdd]
  (and_intros <;> try first|rfl|omega|(unfold I64;omega))
  all_goals (first|exact Le1L.nil|exact LeR.tup (LeL.cons (Le.agg hle) (LeL.cons (Le.refl _) LeL.nil)))
theorem zL_le : Le1L ([.int .i64 0,.int .i64 0,.int .i64 0,.int .i64 0,.str [],.nils] ++ (accC zA ++ (.nils :: (rpZ ++ (sumC zM ++ (ordC zO ++ [.int .i64 0,.int .i64 0,.int .i64 0,.str [],.int .i64 0,.nils])))))) (letC zL) := by
 (repeat' (first|exact Le1L.nil|exact Le1.refl _|exact Le1.nil _|apply Le1L.cons|exact le1l_refl _))
/-- No number,or no kind. -/
theorem taken_no (b b' : Bytes) (e n : Int) (hb : b.length ≤ 1000000) (hk : rdN b 0 0 = (b',e,n)) (hen : ¬ e = 0 ∧ n = 0 ∨ e = 0 ∧ (n < 1 ∨ 10 < n)) : ASpec Tryz.prog 20 [bytesA b] (.tup [.agg (letC zL),.bool false]) := by
 have hn := number_c b 0 0 (fun x => x :: zT) 0 (.of [] zT (fun _ => rfl) rfl rfl rfl) hb
 rw [hk] at hn
 simp only at hn
 have zT_bel2 : belL 0 (.int .i64 n :: zT) = true := rfl
 have hle := zL_le
 generalize letC zL = lc at *
 have hp := letplaces_no n zT (by omega) zT_bel
 refine ⟨⟨_,Tryz.func20,by kernel_rfl,rfl⟩,ACall.of Tryz.func20 rfl fun c0 hc0 => ?_⟩;simp only [Nat.reduceSub,go_sem];refine Run.god tab_ok follows_ok Tryz.func20 4 ?_;simp only [go_sem,bytesA,Nat.reduceAdd,Nat.reduceLeDiff]
 refine Run.weak (Weak.nilC 2 61 1 _ rfl rfl) ?_
 simp only [Y7,Y6]
 refine Run.weak (Weak.junk [7,8,9,10]) ?_
 simp only [junkAt,Y6,Y7]
 refine Rg Tryz.func20 ?_;simp only [go_sem,Nat.reduceAdd]
 refine Ops.callB .free rfl rfl (js := [1,2]) (by decide) (LentAll.cons rfl (pp_lent b true 0) (LentAll.cons rfl (LentB.box_ (.int .i64 0 :: zT) rfl) LentAll.nil)) (lent2 (pp_lent _ _ _) (LentB.box_ _ rfl)) rfl rfl (by simp only [go_sem,cond_true,cond_false,renL,AV.ren,List.idxOf,List.findIdx,List.findIdx.go,Nat.reduceAdd,Nat.reduceBEq];(repeat' first|exact .refl _|apply LeR.tup|apply Le.agg|constructor)) (hn) rfl ?_
 refine Og Tryz.func20 ?_;simp only [go_sem,putBack]
 refine Ops.callP .free rfl rfl (js := [2]) (by decide) (LentAll.cons rfl (LentB.box_ _ zT_bel2) LentAll.nil) (lent1 (LentB.box_ _ zT_bel2)) rfl rfl (by simp only [go_sem,cond_true,renL,AV.ren,List.idxOf,List.findIdx,List.findIdx.go];(repeat' first|exact .refl _|apply LeR.tup|apply Le.agg|constructor)) (hp) rfl ?_
 by_cases e0 : e = 0
 ·subst e0
  refine Og Tryz.func20 ?_;simp only [go_sem,pp,AV.unr,Bool.or_true,↓alt_t,↓alts_f,↓gone_ff,Nat.reduceAdd]
  (and_intros <;> try first|rfl|omega|(unfold I64;omega))
  all_goals (first|exact Le1L.nil|exact LeR.tup (LeL.cons (Le.agg hle) (LeL.cons (Le.refl _) LeL.nil)))
 ·refine Og Tryz.func20 ?_;simp only [go_sem,pp,AV.unr,e0,↓alt_t,↓alts_t,↓gone_ft,Nat.reduceAdd]
  (and_intros <;> try first|rfl|omega|(unfold I64;omega))
  all_goals (first|exact Le1L.nil|exact LeR.tup (LeL.cons (Le.agg hle) (LeL.cons (Le.refl _) LeL.nil)))
def okB (e : Int) (b : Bytes) : Bool := decide (e = 0) && decide (b = [])
def encRp (r : Rp) : AV := .agg (rpC r)
def tkL (b : Bytes) : Ltr × Bool :=
 if (rdN b 0 0).2.1 = 0 then
  if (rdN b 0 0).2.2 = 1 then (l1 (rdN b 0 0).1,okB (q1_5 (rdN b 0 0).1).2.1 (q1_5 (rdN b 0 0).1).1) else
  if (rdN b 0 0).2.2 = 2 then (l2 (rdN b 0 0).1,okB (q2_2 (rdN b 0 0).1).2.1 (q2_2 (rdN b 0 0).1).1) else
  if (rdN b 0 0).2.2 = 3 then (l3 (rdN b 0 0).1,okB (q3_3 (rdN b 0 0).1).2.1 (q3_3 (rdN b 0 0).1).1) else
  if (rdN b 0 0).2.2 = 4 then (l4 (rdN b 0 0).1,okB (q4_2 (rdN b 0 0).1).2.1 (q4_2 (rdN b 0 0).1).1) else
  if (rdN b 0 0).2.2 = 5 then (l5 (rdN b 0 0).1,okB (q5_3 (rdN b 0 0).1).2.1 (q5_3 (rdN b 0 0).1).1) else
  if (rdN b 0 0).2.2 = 6 then (l6 (rdN b 0 0).1,okB (q6_2 (rdN b 0 0).1).2.1 (q6_2 (rdN b 0 0).1).1) else
  if (rdN b 0 0).2.2 = 7 then (l7 (rdN b 0 0).1,okB (q7_3 (rdN b 0 0).1).2.1 (q7_3 (rdN b 0 0).1).1) else
  if (rdN b 0 0).2.2 = 8 then (l8 (rdN b 0 0).1,okB (q8_1 (rdN b 0 0).1).2.1 (q8_1 (rdN b 0 0).1).1) else
  if (rdN b 0 0).2.2 = 9 then (l9 (rdN b 0 0).1,okB (q9_2 (rdN b 0 0).1).2.1 (q9_2 (rdN b 0 0).1).1) else
  if (rdN b 0 0).2.2 = 10 then (l10 (rdN b 0 0).1,okB (q10_2 (rdN b 0 0).1).2.1 (q10_2 (rdN b 0 0).1).1) else
  (zL,false)
 else (zL,false)
theorem tk_spec (b : Bytes) (hb : b.length ≤ 1000000) : ASpec Tryz.prog 20 [bytesA b] (.tup [.agg (letC (tkL b).1),.bool (tkL b).2]) := by
 have hl := rdN_le b 0 0
 have herr : ¬ (rdN b 0 0).2.1 = 0 → (rdN b 0 0).2.2 = 0 := by
  unfold rdN
  rw [if_pos rfl]
  split
  ·exact fun h => absurd rfl h
  ·exact fun _ => rfl
 obtain ⟨⟨b',e,n⟩,ht⟩ : ∃ t,rdN b 0 0 = t := ⟨_,rfl⟩
 rw [ht] at hl herr
 have hb' : b'.length ≤ 1000000 := Nat.le_trans hl hb
 unfold tkL
 rw [ht]
 simp only at herr ⊢
 by_cases e0 : e = 0
 ·subst e0
  rw [if_pos rfl]
  by_cases n1 : n = 1
  ·subst n1
   rw [if_pos rfl]
   exact taken_1 b b' hb hb' ht
  rw [if_neg n1]
  by_cases n2 : n = 2
  ·subst n2
   rw [if_pos rfl]
   exact taken_2 b b' hb hb' ht
  rw [if_neg n2]
  by_cases n3 : n = 3
  ·subst n3
   rw [if_pos rfl]
   exact taken_3 b b' hb hb' ht
  rw [if_neg n3]
  by_cases n4 : n = 4
  ·subst n4
   rw [if_pos rfl]
   exact taken_4 b b' hb hb' ht
  rw [if_neg n4]
  by_cases n5 : n = 5
  ·subst n5
   rw [if_pos rfl]
   exact taken_5 b b' hb hb' ht
  rw [if_neg n5]
  by_cases n6 : n = 6
  ·subst n6
   rw [if_pos rfl]
   exact taken_6 b b' hb hb' ht
  rw [if_neg n6]
  by_cases n7 : n = 7
  ·subst n7
   rw [if_pos rfl]
   exact taken_7 b b' hb hb' ht
  rw [if_neg n7]
  by_cases n8 : n = 8
  ·subst n8
   rw [if_pos rfl]
   exact taken_8 b b' hb hb' ht
  rw [if_neg n8]
  by_cases n9 : n = 9
  ·subst n9
   rw [if_pos rfl]
   exact taken_9 b b' hb hb' ht
  rw [if_neg n9]
  by_cases n10 : n = 10
  ·subst n10
   rw [if_pos rfl]
   exact taken_10 b b' hb hb' ht
  rw [if_neg n10]
  exact taken_no b b' 0 n hb ht (.inr ⟨rfl,by omega⟩)
 ·rw [if_neg e0]
  exact taken_no b b' e n hb ht (.inl ⟨e0,herr e0⟩)
theorem wr_spec (l : Ltr) (hk : 1 ≤ l.kind ∧ l.kind ≤ 10) (h : smL l) : ASpec Tryz.prog 16 [.agg (letC l)] (bytesA (wrL l)) := by
 have hc : l.kind = 1 ∨ l.kind = 2 ∨ l.kind = 3 ∨ l.kind = 4 ∨ l.kind = 5 ∨ l.kind = 6 ∨ l.kind = 7 ∨ l.kind = 8 ∨ l.kind = 9 ∨ l.kind = 10 := by omega
 rcases hc with e|e|e|e|e|e|e|e|e|e
 ·exact written_1 l e h
 ·exact written_2 l e h
 ·exact written_3 l e h
 ·exact written_4 l e h
 ·exact written_5 l e h
 ·exact written_6 l e h
 ·exact written_7 l e h
 ·exact written_8 l e h
 ·exact written_9 l e h
 ·exact written_10 l e h
theorem fi_some {α : Type} {p : α → Bool} {l : List α} {k : Nat} {x : α} (hk : l[k]? = some x) (hp : p x = true) (hlt : ∀ j y,j < k → l[j]? = some y → p y = false) : l.findIdx? p = some k := by
 obtain ⟨h1,rfl⟩ := List.getElem?_eq_some_iff.1 hk
 rw [List.findIdx?_eq_some_iff_getElem]
 exact ⟨h1,hp,fun j hj => by have := hlt j _ hj (List.getElem?_eq_getElem (by omega));simp [this]⟩
theorem fi_none {α : Type} {p : α → Bool} {l : List α} (h : ∀ j y,j < l.length → l[j]? = some y → p y = false) : l.findIdx? p = none := by
 rw [List.findIdx?_eq_none_iff]
 intro x hx
 obtain ⟨j,hj⟩ := List.getElem?_of_mem hx
 exact h j x (List.getElem?_eq_some_iff.1 hj).1 hj
def fiI {α : Type} (p : α → Bool) (l : List α) : Int := ((l.findIdx? p).map fun n => (n : Int)).getD (-1)
theorem fi_any {α : Type} (p : α → Bool) (l : List α) : decide (0 ≤ fiI p l) = l.any p := by
 unfold fiI
 cases h : l.findIdx? p with
 | none =>
  rw [List.findIdx?_eq_none_iff] at h
  have e : l.any p = false := by
   rw [List.any_eq_false]
   intro x hx
   have := h x hx
   simpa using this
  rw [e];rfl
 | some k =>
  rw [List.findIdx?_eq_some_iff_getElem] at h
  obtain ⟨h1,h2,_⟩ := h
  have e : l.any p = true := by
   rw [List.any_eq_true]
   exact ⟨_,List.getElem_mem h1,h2⟩
  rw [e,decide_eq_true_eq]
  simp
def longTx (x : Bytes) : Bool := decide ((1000 : Int) < x.length)
theorem longTx_spec (x : Bytes) : ASpec Tryz.prog 60 [.str x] (.bool (longTx x)) := by
 unfold longTx
 refine ⟨⟨_,Tryz.func60,by kernel_rfl,rfl⟩,Sg Tryz.func60 rfl fun c0 hc0 => ?_⟩;simp only [go_sem,Nat.reduceSub]
 (repeat' first|exact .refl _|apply LeR.tup|apply Le.agg|constructor)
def longV (x : Acc) : Bool := decide ((6000 : Int) < x.value.length)
theorem longV_spec (x : Acc) : ASpec Tryz.prog 57 [encA x] (.bool (longV x)) := by
 unfold longV
 refine ⟨⟨_,Tryz.func57,by kernel_rfl,rfl⟩,Sg Tryz.func57 rfl fun c0 hc0 => ?_⟩;simp only [go_sem,encA,accC,Nat.reduceAdd,Nat.reduceSub]
 (and_intros <;> try first|rfl|omega|(unfold I64;omega))
 (repeat' first|exact .refl _|apply LeR.tup|apply Le.agg|constructor)
theorem index_names (l : List Bytes) (hl : l.length ≤ 100000000) : ASpec Tryz.prog 87 [textsA l,.fn (.func 60) [] []] (.int .i64 (fiI longTx l)) := by
 refine ⟨⟨_,Tryz.func87,by kernel_rfl,rfl⟩,Sg Tryz.func87 rfl fun c0 hc0 => ?_⟩;simp only [go_sem,textsA,Int.reduceNeg,Nat.reduceAdd,Nat.reduceSub]
 refine Run.loopV (α := Nat) (fun k => k ≤ l.length ∧ ∀ j y,j < k → l[j]? = some y → longTx y = false) (fun k => [(8,.int .i64 k)]) 0 (fun _ => []) (fun k => l.length - k) 0 ⟨Nat.zero_le _,fun j y h => absurd h (Nat.not_lt_zero j)⟩ ?_ ?_
 ·simp only [go_sem,writes,junks,puts,hputs,List.filterMap_cons,List.filterMap_nil]
  (refine Weak.of (by simp [hc0]) ?_ ?_ <;> (repeat' first|exact .refl _|exact .junk _|exact .nil|exact .nil _|exact .tok _ _ _|rfl|apply WkT.cons|apply WkH.cons|apply LeB.same|apply LeB.box|apply Le1L.cons|apply Le.agg|apply Le.one))
 rintro k ⟨hI,hq⟩ ih
 simp only [writes,junks,puts,hputs,List.filterMap_cons,List.filterMap_nil,Y6,Y7,Yk,Y5,Y3,Yd] at ih ⊢
 by_cases hk : k < l.length
 ·obtain ⟨x,hx⟩ : ∃ x,l[k]? = some x := ⟨_,List.getElem?_eq_getElem hk⟩
  have hkk : (k : Int) < l.length := by omega
  have hls := longTx_spec x 
  cases hp : longTx x with
  | true =>
   rw [hp] at hls
   refine Rg Tryz.func87 ?_;simp only [go_sem,hx,hkk,textC,List.getElem?_map,↓alt_t,Int.reduceNeg,Nat.reduceAdd,Nat.reduceLT]
   (and_intros <;> try first|rfl|omega|(unfold I64;omega))
   refine Ops.pure .free rfl rfl (hls) (by simp only [go_sem];(repeat' first|exact .refl _|apply LeR.tup|apply Le.agg|constructor)) rfl rfl ?_
   refine Og Tryz.func87 ?_;simp only [go_sem,↓alt_t]
   rw [show fiI longTx l = k by unfold fiI;rw [fi_some hx hp hq];rfl]
   (repeat' first|exact .refl _|apply LeR.tup|apply Le.agg|constructor)
  | false =>
   rw [hp] at hls
   refine Rg Tryz.func87 ?_;simp only [go_sem,hx,hkk,textC,List.getElem?_map,↓alt_t,Int.reduceNeg,Nat.reduceAdd,Nat.reduceLT]
   (and_intros <;> try first|rfl|omega|(unfold I64;omega))
   refine Ops.pure .free rfl rfl (hls) (by simp only [go_sem];(repeat' first|exact .refl _|apply LeR.tup|apply Le.agg|constructor)) rfl rfl ?_
   refine Og Tryz.func87 ?_;simp only [go_sem,↓alt_f,Int.reduceNeg]
   (and_intros <;> try first|rfl|omega|(unfold I64;omega))
   refine ih (k + 1) _ ⟨by omega,fun j y hj hy => ?_⟩ (by omega) ?_
   ·rcases Nat.lt_or_ge j k with h|h
    ·exact hq j y h hy
    ·obtain rfl : j = k := by omega
     rw [hx] at hy;cases hy;exact hp
   ·simp only [Int.natCast_add,Int.natCast_one]
    (refine Weak.of (by simp [hc0]) ?_ ?_ <;> (repeat' first|exact .refl _|exact .junk _|exact .nil|exact .nil _|exact .tok _ _ _|rfl|apply WkT.cons|apply WkH.cons|apply LeB.same|apply LeB.box|apply Le1L.cons|apply Le.agg|apply Le.one))
 ·have hkk : ¬ (k : Int) < l.length := by omega
  refine Rg Tryz.func87 ?_;simp only [go_sem,hkk,↓alt_f,Int.reduceNeg]
  rw [show fiI longTx l = -1 by unfold fiI;rw [fi_none fun j y hj hy => hq j y (by omega) hy];rfl]
  (repeat' first|exact .refl _|apply LeR.tup|apply Le.agg|constructor)
theorem contains_names (l : List Bytes) (hl : l.length ≤ 100000000) : ASpec Tryz.prog 59 [textsA l,.fn (.func 60) [] []] (.bool (l.any longTx)) := by
 rw [← fi_any]
 refine ⟨⟨_,Tryz.func59,by kernel_rfl,rfl⟩,Sg Tryz.func59 rfl fun c0 hc0 => ?_⟩;simp only [go_sem,textsA,Nat.reduceAdd,Nat.reduceSub]
 refine Ops.pure .free rfl rfl (index_names l hl ) (by simp only [go_sem,textsA];(repeat' first|exact .refl _|apply LeR.tup|apply Le.agg|constructor)) rfl rfl ?_
 refine Og Tryz.func59 ?_;simp only [go_sem]
 (repeat' first|exact .refl _|apply LeR.tup|apply Le.agg|constructor)
theorem index_votes (l : List Acc) (hl : l.length ≤ 100000000) : ASpec Tryz.prog 86 [votesA l,.fn (.func 57) [] []] (.int .i64 (fiI longV l)) := by
 refine ⟨⟨_,Tryz.func86,by kernel_rfl,rfl⟩,Sg Tryz.func86 rfl fun c0 hc0 => ?_⟩;simp only [go_sem,votesA,Int.reduceNeg,Nat.reduceAdd,Nat.reduceSub]
 refine Run.loopV (α := Nat) (fun k => k ≤ l.length ∧ ∀ j y,j < k → l[j]? = some y → longV y = false) (fun k => [(8,.int .i64 k)]) 0 (fun _ => []) (fun k => l.length - k) 0 ⟨Nat.zero_le _,fun j y h => absurd h (Nat.not_lt_zero j)⟩ ?_ ?_
 ·simp only [go_sem,writes,junks,puts,hputs,List.filterMap_cons,List.filterMap_nil]
  (refine Weak.of (by simp [hc0]) ?_ ?_ <;> (repeat' first|exact .refl _|exact .junk _|exact .nil|exact .nil _|exact .tok _ _ _|rfl|apply WkT.cons|apply WkH.cons|apply LeB.same|apply LeB.box|apply Le1L.cons|apply Le.agg|apply Le.one))
 rintro k ⟨hI,hq⟩ ih
 simp only [writes,junks,puts,hputs,List.filterMap_cons,List.filterMap_nil,Y6,Y7,Yk,Y5,Y3,Yd] at ih ⊢
 by_cases hk : k < l.length
 ·obtain ⟨x,hx⟩ : ∃ x,l[k]? = some x := ⟨_,List.getElem?_eq_getElem hk⟩
  have hkk : (k : Int) < l.length := by omega
  have hls := longV_spec x 
  cases hp : longV x with
  | true =>
   rw [hp] at hls
   refine Rg Tryz.func86 ?_;simp only [go_sem,hx,hkk,accC,List.getElem?_map,↓alt_t,Int.reduceNeg,Nat.reduceAdd,Nat.reduceLT]
   (and_intros <;> try first|rfl|omega|(unfold I64;omega))
   refine Ops.pure .free rfl rfl (hls) (by simp only [go_sem,encA,accC];(repeat' first|exact .refl _|apply LeR.tup|apply Le.agg|constructor)) rfl rfl ?_
   refine Og Tryz.func86 ?_;simp only [go_sem,↓alt_t]
   rw [show fiI longV l = k by unfold fiI;rw [fi_some hx hp hq];rfl]
   (repeat' first|exact .refl _|apply LeR.tup|apply Le.agg|constructor)
  | false =>
   rw [hp] at hls
   refine Rg Tryz.func86 ?_;simp only [go_sem,hx,hkk,accC,List.getElem?_map,↓alt_t,Int.reduceNeg,Nat.reduceAdd,Nat.reduceLT]
   (and_intros <;> try first|rfl|omega|(unfold I64;omega))
   refine Ops.pure .free rfl rfl (hls) (by simp only [go_sem,encA,accC];(repeat' first|exact .refl _|apply LeR.tup|apply Le.agg|constructor)) rfl rfl ?_
   refine Og Tryz.func86 ?_;simp only [go_sem,↓alt_f,Int.reduceNeg]
   (and_intros <;> try first|rfl|omega|(unfold I64;omega))
   refine ih (k + 1) _ ⟨by omega,fun j y hj hy => ?_⟩ (by omega) ?_
   ·rcases Nat.lt_or_ge j k with h|h
    ·exact hq j y h hy
    ·obtain rfl : j = k := by omega
     rw [hx] at hy;cases hy;exact hp
   ·simp only [Int.natCast_add,Int.natCast_one]
    (refine Weak.of (by simp [hc0]) ?_ ?_ <;> (repeat' first|exact .refl _|exact .junk _|exact .nil|exact .nil _|exact .tok _ _ _|rfl|apply WkT.cons|apply WkH.cons|apply LeB.same|apply LeB.box|apply Le1L.cons|apply Le.agg|apply Le.one))
 ·have hkk : ¬ (k : Int) < l.length := by omega
  refine Rg Tryz.func86 ?_;simp only [go_sem,hkk,↓alt_f,Int.reduceNeg]
  rw [show fiI longV l = -1 by unfold fiI;rw [fi_none fun j y hj hy => hq j y (by omega) hy];rfl]
  (repeat' first|exact .refl _|apply LeR.tup|apply Le.agg|constructor)
theorem contains_votes (l : List Acc) (hl : l.length ≤ 100000000) : ASpec Tryz.prog 56 [votesA l,.fn (.func 57) [] []] (.bool (l.any longV)) := by
 rw [← fi_any]
 refine ⟨⟨_,Tryz.func56,by kernel_rfl,rfl⟩,Sg Tryz.func56 rfl fun c0 hc0 => ?_⟩;simp only [go_sem,votesA,Nat.reduceAdd,Nat.reduceSub]
 refine Ops.pure .free rfl rfl (index_votes l hl ) (by simp only [go_sem,votesA];(repeat' first|exact .refl _|apply LeR.tup|apply Le.agg|constructor)) rfl rfl ?_
 refine Og Tryz.func56 ?_;simp only [go_sem]
 (repeat' first|exact .refl _|apply LeR.tup|apply Le.agg|constructor)
def shortV (l : List Acc) : Bool := decide (l.length ≤ 30) && !l.any longV
theorem shortV_spec (l : List Acc) : ASpec Tryz.prog 24 [votesA l] (.bool (shortV l)) := by
 unfold shortV
 by_cases h : l.length ≤ 30
 ·have hc := contains_votes l (by omega)
  have h' : (l.length : Int) ≤ 30 := by omega
  rw [decide_eq_true h]
  refine ⟨⟨_,Tryz.func24,by kernel_rfl,rfl⟩,Sg Tryz.func24 rfl fun c0 hc0 => ?_⟩;simp only [go_sem,votesA,h',↓alts_t,↓gone_tt,Nat.reduceAdd,Nat.reduceSub]
  (and_intros <;> try first|rfl|omega|(unfold I64;omega))
  refine Ops.pure (Wanted.test 3 true true rfl) rfl rfl (hc) (by simp only [go_sem,votesA];(repeat' first|exact .refl _|apply LeR.tup|apply Le.agg|constructor)) rfl rfl ?_
  refine Og Tryz.func24 ?_;simp only [go_sem,↓alts_t,↓gone_tt]
  (repeat' first|exact .refl _|apply LeR.tup|apply Le.agg|constructor)
 ·have h' : ¬ (l.length : Int) ≤ 30 := by omega
  rw [decide_eq_false h]
  refine ⟨⟨_,Tryz.func24,by kernel_rfl,rfl⟩,Sg Tryz.func24 rfl fun c0 hc0 => ?_⟩;simp only [go_sem,votesA,h',↓alts_f,↓gone_tf,Nat.reduceSub]
  (and_intros <;> try first|rfl|omega|(unfold I64;omega))
  (repeat' first|exact .refl _|apply LeR.tup|apply Le.agg|constructor)
def longR (r : Rp) : Bool := decide ((6000 : Int) < r.value.length) || !shortV r.proof
theorem longR_spec (r : Rp) : ASpec Tryz.prog 23 [encRp r] (.bool (longR r)) := by
 have hc := shortV_spec r.proof
 unfold longR
 by_cases h : (6000 : Int) < r.value.length
 ·rw [decide_eq_true h]
  refine ⟨⟨_,Tryz.func23,by kernel_rfl,rfl⟩,Sg Tryz.func23 rfl fun c0 hc0 => ?_⟩;simp only [go_sem,encRp,rpC,votesA,h,↓alts_t,↓gone_ft,Nat.reduceAdd,Nat.reduceLeDiff,Nat.reduceSub]
  (and_intros <;> try first|rfl|omega|(unfold I64;omega))
  (repeat' first|exact .refl _|apply LeR.tup|apply Le.agg|constructor)
 ·rw [decide_eq_false h]
  refine ⟨⟨_,Tryz.func23,by kernel_rfl,rfl⟩,Sg Tryz.func23 rfl fun c0 hc0 => ?_⟩;simp only [go_sem,encRp,rpC,votesA,h,↓alts_f,↓gone_ff,Nat.reduceAdd,Nat.reduceLeDiff,Nat.reduceSub]
  (and_intros <;> try first|rfl|omega|(unfold I64;omega))
  refine Ops.pure (Wanted.test 4 false false rfl) rfl rfl (hc) (by simp only [go_sem,votesA];(repeat' first|exact .refl _|apply LeR.tup|apply Le.agg|constructor)) rfl rfl ?_
  refine Og Tryz.func23 ?_;simp only [go_sem,↓alts_f,↓gone_ff]
  (repeat' first|exact .refl _|apply LeR.tup|apply Le.agg|constructor)
theorem index_reports (l : List Rp) (hl : l.length ≤ 100000000) : ASpec Tryz.prog 61 [rpsA l,.fn (.func 23) [] []] (.int .i64 (fiI longR l)) := by
 refine ⟨⟨_,Tryz.func61,by kernel_rfl,rfl⟩,Sg Tryz.func61 rfl fun c0 hc0 => ?_⟩;simp only [go_sem,rpsA,Int.reduceNeg,Nat.reduceAdd,Nat.reduceSub]
 refine Run.loopV (α := Nat) (fun k => k ≤ l.length ∧ ∀ j y,j < k → l[j]? = some y → longR y = false) (fun k => [(8,.int .i64 k)]) 0 (fun _ => []) (fun k => l.length - k) 0 ⟨Nat.zero_le _,fun j y h => absurd h (Nat.not_lt_zero j)⟩ ?_ ?_
 ·simp only [go_sem,writes,junks,puts,hputs,List.filterMap_cons,List.filterMap_nil]
  (refine Weak.of (by simp [hc0]) ?_ ?_ <;> (repeat' first|exact .refl _|exact .junk _|exact .nil|exact .nil _|exact .tok _ _ _|rfl|apply WkT.cons|apply WkH.cons|apply LeB.same|apply LeB.box|apply Le1L.cons|apply Le.agg|apply Le.one))
 rintro k ⟨hI,hq⟩ ih
 simp only [writes,junks,puts,hputs,List.filterMap_cons,List.filterMap_nil,Y6,Y7,Yk,Y5,Y3,Yd] at ih ⊢
 by_cases hk : k < l.length
 ·obtain ⟨x,hx⟩ : ∃ x,l[k]? = some x := ⟨_,List.getElem?_eq_getElem hk⟩
  have hkk : (k : Int) < l.length := by omega
  have hls := longR_spec x 
  cases hp : longR x with
  | true =>
   rw [hp] at hls
   refine Rg Tryz.func61 ?_;simp only [go_sem,hx,hkk,rpC,List.getElem?_map,↓alt_t,Int.reduceNeg,Nat.reduceAdd,Nat.reduceLT]
   (and_intros <;> try first|rfl|omega|(unfold I64;omega))
   refine Ops.pure .free rfl rfl (hls) (by simp only [go_sem,encRp,rpC];(repeat' first|exact .refl _|apply LeR.tup|apply Le.agg|constructor)) rfl rfl ?_
   refine Og Tryz.func61 ?_;simp only [go_sem,↓alt_t]
   rw [show fiI longR l = k by unfold fiI;rw [fi_some hx hp hq];rfl]
   (repeat' first|exact .refl _|apply LeR.tup|apply Le.agg|constructor)
  | false =>
   rw [hp] at hls
   refine Rg Tryz.func61 ?_;simp only [go_sem,hx,hkk,rpC,List.getElem?_map,↓alt_t,Int.reduceNeg,Nat.reduceAdd,Nat.reduceLT]
   (and_intros <;> try first|rfl|omega|(unfold I64;omega))
   refine Ops.pure .free rfl rfl (hls) (by simp only [go_sem,encRp,rpC];(repeat' first|exact .refl _|apply LeR.tup|apply Le.agg|constructor)) rfl rfl ?_
   refine Og Tryz.func61 ?_;simp only [go_sem,↓alt_f,Int.reduceNeg]
   (and_intros <;> try first|rfl|omega|(unfold I64;omega))
   refine ih (k + 1) _ ⟨by omega,fun j y hj hy => ?_⟩ (by omega) ?_
   ·rcases Nat.lt_or_ge j k with h|h
    ·exact hq j y h hy
    ·obtain rfl : j = k := by omega
     rw [hx] at hy;cases hy;exact hp
   ·simp only [Int.natCast_add,Int.natCast_one]
    (refine Weak.of (by simp [hc0]) ?_ ?_ <;> (repeat' first|exact .refl _|exact .junk _|exact .nil|exact .nil _|exact .tok _ _ _|rfl|apply WkT.cons|apply WkH.cons|apply LeB.same|apply LeB.box|apply Le1L.cons|apply Le.agg|apply Le.one))
 ·have hkk : ¬ (k : Int) < l.length := by omega
  refine Rg Tryz.func61 ?_;simp only [go_sem,hkk,↓alt_f,Int.reduceNeg]
  rw [show fiI longR l = -1 by unfold fiI;rw [fi_none fun j y hj hy => hq j y (by omega) hy];rfl]
  (repeat' first|exact .refl _|apply LeR.tup|apply Le.agg|constructor)
theorem contains_reports (l : List Rp) (hl : l.length ≤ 100000000) : ASpec Tryz.prog 27 [rpsA l,.fn (.func 23) [] []] (.bool (l.any longR)) := by
 rw [← fi_any]
 refine ⟨⟨_,Tryz.func27,by kernel_rfl,rfl⟩,Sg Tryz.func27 rfl fun c0 hc0 => ?_⟩;simp only [go_sem,rpsA,Nat.reduceAdd,Nat.reduceSub]
 refine Ops.pure .free rfl rfl (index_reports l hl ) (by simp only [go_sem,rpsA];(repeat' first|exact .refl _|apply LeR.tup|apply Le.agg|constructor)) rfl rfl ?_
 refine Og Tryz.func27 ?_;simp only [go_sem]
 (repeat' first|exact .refl _|apply LeR.tup|apply Le.agg|constructor)
def shortX (x : Rpl) : Bool := !x.l.any longTx && decide (x.s.length ≤ 1000) && decide (x.l.length ≤ 200) && decide (0 ≤ x.e) && decide (x.e ≤ 16)
theorem shortX_spec (x : Rpl) (hl : x.l.length ≤ 100000000) : ASpec Tryz.prog 26 [encR x] (.bool (shortX x)) := by
 have hc := contains_names x.l hl
 unfold shortX
 cases h0 : x.l.any longTx with
 | true =>
  rw [h0] at hc
  refine ⟨⟨_,Tryz.func26,by kernel_rfl,rfl⟩,Sg Tryz.func26 rfl fun c0 hc0 => ?_⟩;simp only [go_sem,encR,textsA,Nat.reduceAdd,Nat.reduceSub]
  (and_intros <;> try first|rfl|omega|(unfold I64;omega))
  refine Ops.pure .free rfl rfl (hc) (by simp only [go_sem,textsA];(repeat' first|exact .refl _|apply LeR.tup|apply Le.agg|constructor)) rfl rfl ?_
  refine Og Tryz.func26 ?_;simp only [go_sem,↓alts_f,↓gone_tf]
  (and_intros <;> try first|rfl|omega|(unfold I64;omega))
  (repeat' first|exact .refl _|apply LeR.tup|apply Le.agg|constructor)
 | false =>
  rw [h0] at hc
  by_cases h1 : x.s.length ≤ 1000
  ·have h1' : (x.s.length : Int) ≤ 1000 := by omega
   by_cases h2 : x.l.length ≤ 200
   ·have h2' : (x.l.length : Int) ≤ 200 := by omega
    by_cases h3 : 0 ≤ x.e
    ·refine ⟨⟨_,Tryz.func26,by kernel_rfl,rfl⟩,Sg Tryz.func26 rfl fun c0 hc0 => ?_⟩;simp only [go_sem,encR,textsA,Nat.reduceAdd,Nat.reduceSub]
     (and_intros <;> try first|rfl|omega|(unfold I64;omega))
     refine Ops.pure .free rfl rfl (hc) (by simp only [go_sem,textsA];(repeat' first|exact .refl _|apply LeR.tup|apply Le.agg|constructor)) rfl rfl ?_
     refine Og Tryz.func26 ?_;simp only [go_sem,h1,h1',h2,h2',h3,↓alts_t,↓gone_tt,Nat.reduceAdd,Nat.reduceLeDiff]
     (and_intros <;> try first|rfl|omega|(unfold I64;omega))
     (repeat' first|exact .refl _|apply LeR.tup|apply Le.agg|constructor)
    ·refine ⟨⟨_,Tryz.func26,by kernel_rfl,rfl⟩,Sg Tryz.func26 rfl fun c0 hc0 => ?_⟩;simp only [go_sem,encR,textsA,Nat.reduceAdd,Nat.reduceSub]
     (and_intros <;> try first|rfl|omega|(unfold I64;omega))
     refine Ops.pure .free rfl rfl (hc) (by simp only [go_sem,textsA];(repeat' first|exact .refl _|apply LeR.tup|apply Le.agg|constructor)) rfl rfl ?_
     refine Og Tryz.func26 ?_;simp only [go_sem,h1,h1',h2,h2',h3,↓alts_t,↓alts_f,↓gone_tt,↓gone_tf,Nat.reduceAdd,Nat.reduceLeDiff]
     (and_intros <;> try first|rfl|omega|(unfold I64;omega))
     (repeat' first|exact .refl _|apply LeR.tup|apply Le.agg|constructor)
   ·have h2' : ¬ (x.l.length : Int) ≤ 200 := by omega
    refine ⟨⟨_,Tryz.func26,by kernel_rfl,rfl⟩,Sg Tryz.func26 rfl fun c0 hc0 => ?_⟩;simp only [go_sem,encR,textsA,Nat.reduceAdd,Nat.reduceSub]
    (and_intros <;> try first|rfl|omega|(unfold I64;omega))
    refine Ops.pure .free rfl rfl (hc) (by simp only [go_sem,textsA];(repeat' first|exact .refl _|apply LeR.tup|apply Le.agg|constructor)) rfl rfl ?_
    refine Og Tryz.func26 ?_;simp only [go_sem,h1,h1',h2,h2',↓alts_t,↓alts_f,↓gone_tt,↓gone_tf,Nat.reduceAdd,Nat.reduceLeDiff]
    (and_intros <;> try first|rfl|omega|(unfold I64;omega))
    (repeat' first|exact .refl _|apply LeR.tup|apply Le.agg|constructor)
  ·have h1' : ¬ (x.s.length : Int) ≤ 1000 := by omega
   refine ⟨⟨_,Tryz.func26,by kernel_rfl,rfl⟩,Sg Tryz.func26 rfl fun c0 hc0 => ?_⟩;simp only [go_sem,encR,textsA,Nat.reduceAdd,Nat.reduceSub]
   (and_intros <;> try first|rfl|omega|(unfold I64;omega))
   refine Ops.pure .free rfl rfl (hc) (by simp only [go_sem,textsA];(repeat' first|exact .refl _|apply LeR.tup|apply Le.agg|constructor)) rfl rfl ?_
   refine Og Tryz.func26 ?_;simp only [go_sem,h1,h1',↓alts_t,↓alts_f,↓gone_tt,↓gone_tf,Nat.reduceAdd,Nat.reduceLeDiff]
   (and_intros <;> try first|rfl|omega|(unfold I64;omega))
   (repeat' first|exact .refl _|apply LeR.tup|apply Le.agg|constructor)
theorem drop_at' {α : Type} {l : List α} {k : Nat} {x : α} (hx : l[k]? = some x) : l.drop k = x :: l.drop (k + 1) := by
 obtain ⟨h1,rfl⟩ := List.getElem?_eq_some_iff.1 hx
 exact List.drop_eq_getElem_cons h1
theorem drop_eqW {α : Type} {l m : List α} {k : Nat} {x y : α} (hx : l[k]? = some x) (hy : m[k]? = some y) : l.drop k = m.drop k ↔ x = y ∧ l.drop (k + 1) = m.drop (k + 1) := by
 rw [drop_at' hx,drop_at' hy,List.cons.injEq]
theorem acc_eq (x y : Acc) : x = y ↔ (x.by_ = y.by_ ∧ x.view = y.view ∧ x.value = y.value) := by
 cases x;cases y;simp
theorem dec_eq {p q : Prop} [Decidable p] [Decidable q] (h : p ↔ q) : decide p = decide q := by
 by_cases hp : p
 ·simp [hp,h.1 hp]
 ·have hq : ¬ q := fun hq => hp (h.2 hq)
  simp [hp,hq]
theorem equalA_spec (l m : List Acc) (hl : l.length ≤ 281474976710656) : ASpec Tryz.prog 68 [votesA l,votesA m] (.bool (decide (l = m))) := by
 by_cases hlm : l.length = m.length
 ·have hlm' : (l.length : Int) = m.length := by omega
  refine ⟨⟨_,Tryz.func68,by kernel_rfl,rfl⟩,Sg Tryz.func68 rfl fun c0 hc0 => ?_⟩;simp only [go_sem,votesA,hlm',↓alt_f,Nat.reduceAdd,Nat.reduceSub]
  refine Run.loopV (α := Nat) (fun k => k ≤ m.length ∧ decide (l = m) = decide (l.drop k = m.drop k)) (fun k => [(13,.int .i64 k)]) 0 (fun _ => []) (fun k => m.length - k) 0 ⟨Nat.zero_le _,rfl⟩ ?_ ?_
  ·simp only [go_sem,writes,junks,puts,hputs,List.filterMap_cons,List.filterMap_nil]
   (refine Weak.of (by simp [hc0]) ?_ ?_ <;> (repeat' first|exact .refl _|exact .junk _|exact .nil|exact .nil _|exact .tok _ _ _|rfl|apply WkT.cons|apply WkH.cons|apply LeB.same|apply LeB.box|apply Le1L.cons|apply Le.agg|apply Le.one))
  ·rintro k ⟨hI,hrd⟩ ih
   simp only [writes,junks,puts,hputs,List.filterMap_cons,List.filterMap_nil,Y6,Y7,Yk,Y5,Y3,Yd] at ih ⊢
   by_cases hk : k < m.length
   ·obtain ⟨x,hx⟩ : ∃ x,l[k]? = some x := ⟨_,List.getElem?_eq_getElem (by omega)⟩
    obtain ⟨y,hy⟩ : ∃ y,m[k]? = some y := ⟨_,List.getElem?_eq_getElem hk⟩
    have hkk : (k : Int) < m.length := by omega
    rw [dec_eq (drop_eqW hx hy)] at hrd
    have hd := acc_eq x y
    by_cases h1 : x.by_ = y.by_
    ·by_cases h2 : x.view = y.view
     ·by_cases h3 : x.value = y.value
      ·have e : x = y := hd.2 ⟨h1,h2,h3⟩
       refine Rg Tryz.func68 ?_;simp only [go_sem,hx,hy,hkk,h1,h2,h3,accC,List.getElem?_map,↓alt_t,↓alt_f,Nat.reduceAdd,Nat.reduceLT]
       (and_intros <;> try first|rfl|omega|(unfold I64;omega))
       refine ih (k + 1) _ ⟨by omega,?_⟩ (by omega) ?_
       ·rw [hrd];simp [e]
       ·simp only [Int.natCast_add,Int.natCast_one]
        (refine Weak.of (by simp [hc0]) ?_ ?_ <;> (repeat' first|exact .refl _|exact .junk _|exact .nil|exact .nil _|exact .tok _ _ _|rfl|apply WkT.cons|apply WkH.cons|apply LeB.same|apply LeB.box|apply Le1L.cons|apply Le.agg|apply Le.one))
      ·have e : ¬ x = y := fun e => h3 (hd.1 e).2.2
       refine Rg Tryz.func68 ?_;simp only [go_sem,hx,hy,hkk,h1,h2,h3,accC,List.getElem?_map,↓alt_t,Nat.reduceAdd,Nat.reduceLT]
       (and_intros <;> try first|rfl|omega|(unfold I64;omega))
       rw [hrd,decide_eq_false (fun h => e h.1)]
       (repeat' first|exact .refl _|apply LeR.tup|apply Le.agg|constructor)
     ·have e : ¬ x = y := fun e => h2 (hd.1 e).2.1
      refine Rg Tryz.func68 ?_;simp only [go_sem,hx,hy,hkk,h1,h2,accC,List.getElem?_map,↓alt_t,Nat.reduceAdd,Nat.reduceLT]
      (and_intros <;> try first|rfl|omega|(unfold I64;omega))
      rw [hrd,decide_eq_false (fun h => e h.1)]
      (repeat' first|exact .refl _|apply LeR.tup|apply Le.agg|constructor)
    ·have e : ¬ x = y := fun e => h1 (hd.1 e).1
     refine Rg Tryz.func68 ?_;simp only [go_sem,hx,hy,hkk,h1,accC,List.getElem?_map,↓alt_t,Nat.reduceAdd,Nat.reduceLT]
     (and_intros <;> try first|rfl|omega|(unfold I64;omega))
     rw [hrd,decide_eq_false (fun h => e h.1)]
     (repeat' first|exact .refl _|apply LeR.tup|apply Le.agg|constructor)
   ·obtain rfl : k = m.length := by omega
    have hkk : ¬ (m.length : Int) < m.length := by omega
    refine Rg Tryz.func68 ?_;simp only [go_sem,hkk,↓alt_f]
    rw [hrd,decide_eq_true (by rw [List.drop_length,← hlm,List.drop_length])]
    (repeat' first|exact .refl _|apply LeR.tup|apply Le.agg|constructor)
 ·have hlm' : ¬ (l.length : Int) = m.length := by omega
  have e : ¬ l = m := fun h => hlm (by rw [h])
  refine ⟨⟨_,Tryz.func68,by kernel_rfl,rfl⟩,Sg Tryz.func68 rfl fun c0 hc0 => ?_⟩;simp only [go_sem,votesA,hlm',↓alt_t,Nat.reduceAdd,Nat.reduceSub]
  rw [decide_eq_false e]
  (repeat' first|exact .refl _|apply LeR.tup|apply Le.agg|constructor)
theorem same18_spec (l m : List Acc) (hl : l.length ≤ 281474976710656) : ASpec Tryz.prog 39 [votesA l,votesA m] (.bool (decide (l = m))) := by
 have hs := equalA_spec l m hl
 refine ⟨⟨_,Tryz.func39,by kernel_rfl,rfl⟩,Sg Tryz.func39 rfl fun c0 hc0 => ?_⟩;simp only [go_sem,votesA,Nat.reduceAdd,Nat.reduceSub]
 refine Ops.pure .free rfl rfl (hs) (by simp only [go_sem,votesA];(repeat' first|exact .refl _|apply LeR.tup|apply Le.agg|constructor)) rfl rfl ?_
 refine Og Tryz.func39 ?_;simp only [go_sem]
 (repeat' first|exact .refl _|apply LeR.tup|apply Le.agg|constructor)
theorem sameOne_spec (r q : Rp) (hl : r.proof.length ≤ 281474976710656) : ASpec Tryz.prog 67 [encRp r,encRp q] (.bool (decide (r = q))) := by
 obtain ⟨b,f,h,v,x,p⟩ := r
 obtain ⟨b',f',h',v',x',p'⟩ := q
 have hs := same18_spec p p' hl
 refine ⟨⟨_,Tryz.func67,by kernel_rfl,rfl⟩,ACall.of Tryz.func67 rfl fun c0 hc0 => ?_⟩;simp only [Nat.reduceAdd,Nat.reduceSub,go_sem];refine Rg Tryz.func67 ?_;simp (config := { maxSteps := 2000000 }) +contextual only [go_sem,encRp,rpC,votesA,Rp.mk.injEq,beq_iff_eq,beq_eq_false_iff_ne,ne_eq,↓alts_t,↓alts_f,↓gone_tt,↓gone_tf,Nat.reduceAdd,Nat.reduceLeDiff]
 (repeat' (first|(intro _)|(apply And.intro)))
 all_goals try (first|rfl|(repeat' first|exact .refl _|exact .nil|exact .nil _|exact .tok _ _ _|apply LeR.tup|apply LeL.cons|apply Le1L.cons|apply Le.agg|apply Le.one|apply LeR.one))
 refine Ops.pure (Wanted.test 33 true true rfl) rfl rfl (hs) (by simp only [go_sem,votesA];(repeat' first|exact .refl _|apply LeR.tup|apply Le.agg|constructor)) rfl rfl ?_
 refine Og Tryz.func67 ?_;simp only [go_sem]
 (repeat' first|exact .refl _|apply LeR.tup|apply Le.agg|constructor)
theorem equalF_spec (l m : List Rp) (hl : ∀ r ∈ l,r.proof.length ≤ 281474976710656) (hll : l.length ≤ 281474976710656) : ASpec Tryz.prog 66 [rpsA l,rpsA m,.fn (.func 67) [] []] (.bool (decide (l = m))) := by
 by_cases hlm : l.length = m.length
 ·have hlm' : (l.length : Int) = m.length := by omega
  refine ⟨⟨_,Tryz.func66,by kernel_rfl,rfl⟩,Sg Tryz.func66 rfl fun c0 hc0 => ?_⟩;simp only [go_sem,rpsA,hlm',↓alt_f,Nat.reduceAdd,Nat.reduceSub]
  refine Run.loopV (α := Nat) (fun k => k ≤ m.length ∧ decide (l = m) = decide (l.drop k = m.drop k)) (fun k => [(17,.int .i64 k)]) 0 (fun _ => []) (fun k => m.length - k) 0 ⟨Nat.zero_le _,rfl⟩ ?_ ?_
  ·simp only [go_sem,writes,junks,puts,hputs,List.filterMap_cons,List.filterMap_nil]
   (refine Weak.of (by simp [hc0]) ?_ ?_ <;> (repeat' first|exact .refl _|exact .junk _|exact .nil|exact .nil _|exact .tok _ _ _|rfl|apply WkT.cons|apply WkH.cons|apply LeB.same|apply LeB.box|apply Le1L.cons|apply Le.agg|apply Le.one))
  ·rintro k ⟨hI,hrd⟩ ih
   simp only [writes,junks,puts,hputs,List.filterMap_cons,List.filterMap_nil,Y6,Y7,Yk,Y5,Y3,Yd] at ih ⊢
   by_cases hk : k < m.length
   ·obtain ⟨x,hx⟩ : ∃ x,l[k]? = some x := ⟨_,List.getElem?_eq_getElem (by omega)⟩
    obtain ⟨y,hy⟩ : ∃ y,m[k]? = some y := ⟨_,List.getElem?_eq_getElem hk⟩
    have hkk : (k : Int) < m.length := by omega
    rw [dec_eq (drop_eqW hx hy)] at hrd
    have hs := sameOne_spec x y (hl x (List.mem_of_getElem? hx))
    by_cases h1 : x = y
    ·rw [decide_eq_true h1] at hs
     refine Rg Tryz.func66 ?_;simp only [go_sem,hx,hy,hkk,hlm',rpC,List.getElem?_map,↓alt_t,Nat.reduceAdd,Nat.reduceLT]
     (and_intros <;> try first|rfl|omega|(unfold I64;omega))
     refine Ops.pure .free rfl rfl (hs) (by simp only [go_sem,encRp,rpC];(repeat' first|exact .refl _|apply LeR.tup|apply Le.agg|constructor)) rfl rfl ?_
     refine Og Tryz.func66 ?_;simp only [go_sem,↓alt_f]
     (and_intros <;> try first|rfl|omega|(unfold I64;omega))
     refine ih (k + 1) _ ⟨by omega,?_⟩ (by omega) ?_
     ·rw [hrd];simp [h1]
     ·simp only [Int.natCast_add,Int.natCast_one]
      (refine Weak.of (by simp [hc0]) ?_ ?_ <;> (repeat' first|exact .refl _|exact .junk _|exact .nil|exact .nil _|exact .tok _ _ _|rfl|apply WkT.cons|apply WkH.cons|apply LeB.same|apply LeB.box|apply Le1L.cons|apply Le.agg|apply Le.one))
    ·rw [decide_eq_false h1] at hs
     refine Rg Tryz.func66 ?_;simp only [go_sem,hx,hy,hkk,hlm',rpC,List.getElem?_map,↓alt_t,Nat.reduceAdd,Nat.reduceLT]
     (and_intros <;> try first|rfl|omega|(unfold I64;omega))
     refine Ops.pure .free rfl rfl (hs) (by simp only [go_sem,encRp,rpC];(repeat' first|exact .refl _|apply LeR.tup|apply Le.agg|constructor)) rfl rfl ?_
     refine Og Tryz.func66 ?_;simp only [go_sem,↓alt_t]
     rw [hrd,decide_eq_false (fun h => h1 h.1)]
     (and_intros <;> try first|rfl|omega|(unfold I64;omega))
     (repeat' first|exact .refl _|apply LeR.tup|apply Le.agg|constructor)
   ·obtain rfl : k = m.length := by omega
    have hkk : ¬ (m.length : Int) < m.length := by omega
    refine Rg Tryz.func66 ?_;simp only [go_sem,hkk,↓alt_f]
    rw [hrd,decide_eq_true (by rw [List.drop_length,← hlm,List.drop_length])]
    (repeat' first|exact .refl _|apply LeR.tup|apply Le.agg|constructor)
 ·have hlm' : ¬ (l.length : Int) = m.length := by omega
  have e : ¬ l = m := fun h => hlm (by rw [h])
  refine ⟨⟨_,Tryz.func66,by kernel_rfl,rfl⟩,Sg Tryz.func66 rfl fun c0 hc0 => ?_⟩;simp only [go_sem,rpsA,hlm',↓alt_t,Nat.reduceAdd,Nat.reduceSub]
  rw [decide_eq_false e]
  (repeat' first|exact .refl _|apply LeR.tup|apply Le.agg|constructor)
theorem sameRps_spec (l m : List Rp) (hl : ∀ r ∈ l,r.proof.length ≤ 281474976710656) (hll : l.length ≤ 281474976710656) : ASpec Tryz.prog 37 [rpsA l,rpsA m] (.bool (decide (l = m))) := by
 have hs := equalF_spec l m hl hll
 refine ⟨⟨_,Tryz.func37,by kernel_rfl,rfl⟩,Sg Tryz.func37 rfl fun c0 hc0 => ?_⟩;simp only [go_sem,rpsA,Nat.reduceAdd,Nat.reduceSub]
 refine Ops.pure .free rfl rfl (hs) (by simp only [go_sem,rpsA];(repeat' first|exact .refl _|apply LeR.tup|apply Le.agg|constructor)) rfl rfl ?_
 refine Og Tryz.func37 ?_;simp only [go_sem]
 (repeat' first|exact .refl _|apply LeR.tup|apply Le.agg|constructor)
theorem clipR_spec (l : List Rp) : OSpec Tryz.prog 38 [rpsA l] 6 (l.map rpC) := by
 refine ⟨⟨_,Tryz.func38,by kernel_rfl,rfl⟩,?_⟩
 have hll : (l.map rpC).length = l.length := by simp
 have htk : (l.map rpC).take l.length = l.map rpC := by rw [← hll];exact List.take_length
 refine Sg Tryz.func38 rfl fun c1 hc1 => ?_;simp only [go_sem,rpsA,htk,Nat.reduceSub]
 (and_intros <;> try first|rfl|omega|(unfold I64;omega))
 exact ⟨_,rfl,rfl⟩
theorem let_len (l : Ltr) (h : l.sum.length = 32) : (letC l).length = 62 := by
 simp [letC,letT,accC,rpC,ordC,rplC,sumC,h]
theorem let_full (l : Ltr) (h : l.sum.length = 32) : (letC l).take 62 = letC l := List.take_of_length_le (by rw [let_len l h];exact Nat.le_refl _)
theorem let_0 (l : Ltr) : (letC l).take 1 = [.int .i64 l.kind] := rfl
theorem let_1 (l : Ltr) : ((letC l).drop 1).take 1 = [.int .i64 l.frm] := rfl
theorem let_2 (l : Ltr) : ((letC l).drop 2).take 1 = [.int .i64 l.slot] := rfl
theorem let_3 (l : Ltr) : ((letC l).drop 3).take 1 = [.int .i64 l.view] := rfl
theorem let_4 (l : Ltr) : ((letC l).drop 4).take 1 = [.str l.value] := rfl
theorem let_5 (l : Ltr) : ((letC l).drop 5).take 1 = [rpsA l.cert] := rfl
theorem let_6 (l : Ltr) : ((letC l).drop 6).take 3 = accC l.vote := rfl
theorem let_8 (l : Ltr) : ((letC l).drop 8).take 1 = [.str l.vote.value] := rfl
theorem let_9 (l : Ltr) : ((letC l).drop 9).take 1 = [votesA l.proof] := rfl
theorem let_10 (l : Ltr) : ((letC l).drop 10).take 6 = rpC l.r := rfl
theorem let_16 (l : Ltr) (h : l.sum.length = 32) : ((letC l).drop 16).take 32 = sumC l.sum := by
 show (sumC l.sum ++ (ordC l.o ++ rplC l.x)).take 32 = _
 exact List.take_left' (by simp [sumC,h])
theorem let_48 (l : Ltr) (h : l.sum.length = 32) : ((letC l).drop 48).take 8 = ordC l.o := by
 have := let_drop47 l h
 rw [show (letC l).drop 48 = (letT l).drop 47 from rfl,this]
 exact List.take_left' rfl
theorem let_56 (l : Ltr) (h : l.sum.length = 32) : ((letC l).drop 56).take 6 = rplC l.x := by
 have := let_drop55 l h
 rw [show (letC l).drop 56 = (letT l).drop 55 from rfl,this]
 rfl
theorem accV_eq (a b : Acc) : aeqs [.int .i64,.int .i64,.str] (accC a) (accC b) = some (decide (a = b)) := by
 obtain ⟨x,y,z⟩ := a
 obtain ⟨x',y',z'⟩ := b
 simp only [go_sem,accC,Acc.mk.injEq]
 simp
theorem ordV_eq (a b : Ord) : aeqs [.int .i64,.int .i64,.int .i64,.str,.str,.int .i64,.int .i64,.int .i64] (ordC a) (ordC b) = some (decide (a = b)) := by
 obtain ⟨i,j,k,s,t,x,y,z⟩ := a
 obtain ⟨i',j',k',s',t',x',y',z'⟩ := b
 simp only [go_sem,ordC,Ord.mk.injEq]
 simp
theorem sumV_eq' : ∀ (n : Nat) (a b : Bytes),a.length = n → b.length = n → aeqs (List.replicate n (.int .u8)) (sumC a) (sumC b) = some (decide (a = b))
 | 0,a,b,ha,hb => by
  obtain rfl := List.eq_nil_of_length_eq_zero ha
  obtain rfl := List.eq_nil_of_length_eq_zero hb
  rfl
 | n + 1,a,b,ha,hb => by
  match a,b,ha,hb with
  | x :: a,y :: b,ha,hb =>
   have ih := sumV_eq' n a b (by simpa using ha) (by simpa using hb)
   simp only [sumC] at ih
   simp only [go_sem,sumC,ih,List.cons.injEq,Int.ofNat_inj,UInt8.toNat_inj]
   simp
theorem sumV_eq (a b : Bytes) (ha : a.length = 32) (hb : b.length = 32) : aeqs [.int .u8,.int .u8,.int .u8,.int .u8,.int .u8,.int .u8,.int .u8,.int .u8,.int .u8,.int .u8,.int .u8,.int .u8,.int .u8,.int .u8,.int .u8,.int .u8,.int .u8,.int .u8,.int .u8,.int .u8,.int .u8,.int .u8,.int .u8,.int .u8,.int .u8,.int .u8,.int .u8,.int .u8,.int .u8,.int .u8,.int .u8,.int .u8] (sumC a) (sumC b) = some (decide (a = b)) := sumV_eq' 32 a b ha hb
instance : DecidableEq Ltr := fun a b => decidable_of_iff (a.kind = b.kind ∧ a.frm = b.frm ∧ a.slot = b.slot ∧ a.view = b.view ∧ a.value = b.value ∧ a.cert = b.cert ∧ a.vote = b.vote ∧ a.proof = b.proof ∧ a.r = b.r ∧ a.sum = b.sum ∧ a.o = b.o ∧ a.x = b.x) (by cases a;cases b;simp)
theorem Ltr.ne {l m : Ltr} (h : ¬ (l.kind = m.kind ∧ l.frm = m.frm ∧ l.slot = m.slot ∧ l.view = m.view ∧ l.value = m.value ∧ l.vote = m.vote ∧ l.sum = m.sum ∧ l.o = m.o ∧ l.cert ++ [l.r] = m.cert ++ [m.r] ∧ l.proof = m.proof ∧ l.x = m.x)) : decide (l = m) = false := by
 rw [decide_eq_false_iff_not]
 rintro rfl
 exact h ⟨rfl,rfl,rfl,rfl,rfl,rfl,rfl,rfl,rfl,rfl,rfl⟩
theorem Ltr.eq {l m : Ltr} (h1 : l.kind = m.kind) (h2 : l.frm = m.frm) (h3 : l.slot = m.slot) (h4 : l.view = m.view) (h5 : l.value = m.value) (h6 : l.vote = m.vote) (h7 : l.sum = m.sum) (h8 : l.o = m.o) (h9 : l.cert ++ [l.r] = m.cert ++ [m.r]) (h10 : l.proof = m.proof) : decide (l = m) = decide (l.x = m.x) := by
 obtain ⟨h9a,h9b⟩ := List.append_inj' h9 rfl
 simp only [List.cons.injEq,Yu] at h9b
 by_cases h : l.x = m.x
 ·rw [decide_eq_true h,decide_eq_true_eq]
  obtain ⟨⟩ := l
  obtain ⟨⟩ := m
  simp only at *
  subst h1 h2 h3 h4 h5 h6 h7 h8 h9a h9b h10 h
  rfl
 ·rw [decide_eq_false h,decide_eq_false_iff_not]
  rintro rfl
  exact h rfl
end Go.Proofs.YtkamcoechjdgpaaGreat
namespace Go.Proofs.YtkamcoechjdgpaaGreat
theorem fromBE_be (k n : Nat) : fromBE (be k n) = n % 256 ^ k := by
 have key : ∀ (k a n : Nat),(be k n).foldl (fun n c => n * 256 + c.toNat) a = a * 256 ^ k + n % 256 ^ k := by
  intro k
  induction k with
  | zero => intro a n;simp [be,Nat.mod_one]
  | succ k ih =>
   intro a n
   rw [be,List.foldl_cons,ih,Nat.mod_pow_succ]
   have : (UInt8.ofNat (n / 256 ^ k)).toNat = n / 256 ^ k % 256 := by simp
   rw [this,Nat.add_mul,Nat.pow_succ,Nat.mul_assoc,Nat.mul_comm 256 (256 ^ k),Nat.mul_comm (n / 256 ^ k % 256)]
   omega
 have := key k 0 n
 simpa [fromBE] using this
theorem head_be (n : Nat) (h0 : n ≠ 0) (h : n < 18446744073709551616) (r : Bytes) : (be (nb n) n ++ r).head? ≠ some 0 := by
 have h1 := nb_pos n h0
 have h2 := nb_ge n h0 h
 have h3 := nb_lt n h
 obtain ⟨k,hk⟩ : ∃ k,nb n = k + 1 := ⟨nb n - 1,by omega⟩
 rw [hk] at h2 h3 ⊢
 rw [Nat.add_sub_cancel] at h2
 rw [Nat.pow_succ] at h3
 simp only [be,Y5,List.head?_cons,ne_eq,Option.some.injEq]
 intro hc
 have hc' : (UInt8.ofNat (n / 256 ^ k)).toNat = 0 := by rw [hc];rfl
 have hp : 0 < 256 ^ k := Nat.pos_of_ne_zero (by simp)
 have h4 : n / 256 ^ k < 256 := Nat.div_lt_of_lt_mul h3
 have h5 : 1 ≤ n / 256 ^ k := (Nat.one_le_div_iff hp).2 h2
 simp at hc'
 omega
theorem takeN_enc (n : Nat) (h : n < 18446744073709551616) (r : Bytes) : takeN (encN n ++ r) = .ok (n,r) := by
 have h8 := nb_le n h
 have hk : (UInt8.ofNat (nb n)).toNat = nb n := by simp;omega
 rw [encN,List.cons_append,takeN,hk,if_neg,if_neg]
 ·rw [List.take_left' (be_length _ _),List.drop_left' (be_length _ _),fromBE_be,Nat.mod_eq_of_lt (nb_lt n h)]
 ·rw [List.length_append,be_length];omega
 ·rintro (h1|⟨h1,h2⟩)
  ·omega
  ·exact head_be n (by rintro rfl;rw [nb_zero] at h1;omega) h r h2
theorem unzig_zig (n : Int) (h : -9223372036854775808 ≤ n) (h' : n ≤ 9223372036854775807) : unzig (zig n) = n := by
 unfold zig unzig
 split <;> split <;> omega
theorem takeZ_enc (n : Int) (h : -9223372036854775808 ≤ n) (h' : n ≤ 9223372036854775807) (r : Bytes) : takeZ (encN (zig n) ++ r) = .ok (n,r) := by
 rw [takeZ,takeN_enc _ (zig_lt n h h')]
 simp only [unzig_zig n h h']
theorem takeT_enc (s : Bytes) (most : Int) (h : s.length < 18446744073709551616) (hm : s.length ≤ max most 0) (r : Bytes) : takeT (encT s ++ r) most = .ok (s,r) := by
 rw [takeT,encT,List.append_assoc,takeN_enc _ h]
 simp only
 rw [if_neg (by omega),if_neg (by simp),List.take_left,List.drop_left]
theorem encRow_cons (s : Bytes) (l : List Bytes) : encRow (s :: l) = encT s ++ encRow l := by simp [encRow]
theorem takeTs_enc (l : List Bytes) (most : Int) (h : tot l < 18446744073709551616) (hm : ∀ s ∈ l,(s.length : Int) ≤ max most 0) (r : Bytes) : takeTs most l.length (encRow l ++ r) = .ok (l,r) := by
 induction l with
 | nil => rfl
 | cons s l ih =>
  rw [tot_cons] at h
  rw [List.length_cons,takeTs,encRow_cons,List.append_assoc,takeT_enc s most (by omega) (hm s (by simp))]
  simp only
  rw [ih (by omega) fun x hx => hm x (by simp [hx])]
theorem takeL_enc (l : List Bytes) (many most : Int) (h : tot l < 18446744073709551616) (hl : l.length ≤ max many 0) (hm : ∀ s ∈ l,(s.length : Int) ≤ max most 0) (r : Bytes) : takeL (encL l ++ r) many most = .ok (l,r) := by
 have := tot_length l
 rw [takeL,encL_row,List.append_assoc,takeN_enc _ (by omega)]
 simp only
 rw [if_neg (by omega),takeTs_enc l most h hm]
/-! ### what is taken,written again -/
theorem be_add (k a n : Nat) (j : Nat) (h : j ≤ k) : be j (n + a * 256 ^ k) = be j n := by
 induction j with
 | zero => rfl
 | succ j ih =>
  rw [be,be,ih (by omega)]
  congr 1
  have hp : 0 < 256 ^ j := Nat.pos_of_ne_zero (by simp)
  obtain ⟨d,hd⟩ : ∃ d,k = j + (d + 1) := ⟨k - j - 1,by omega⟩
  have : a * 256 ^ k = (a * 256 ^ d * 256) * 256 ^ j := by rw [hd,Nat.pow_add,Nat.pow_succ];ac_rfl
  rw [this,Nat.add_mul_div_right _ _ hp]
  apply UInt8.toNat_inj.1
  simp
theorem fold_be (l : Bytes) (a : Nat) : l.foldl (fun n c => n * 256 + c.toNat) a = a * 256 ^ l.length + fromBE l := by
 induction l generalizing a with
 | nil => simp [fromBE]
 | cons c l ih =>
  have hf : fromBE (c :: l) = (0 * 256 + c.toNat) * 256 ^ l.length + fromBE l := by rw [← ih];rfl
  rw [List.foldl_cons,ih,hf,List.length_cons,Nat.pow_succ,Nat.add_mul,Nat.add_mul,Nat.mul_assoc,Nat.mul_comm 256]
  omega
theorem fromBE_cons (c : UInt8) (l : Bytes) : fromBE (c :: l) = c.toNat * 256 ^ l.length + fromBE l := by
 rw [fromBE,List.foldl_cons,fold_be];simp
theorem be_fromBE (l : Bytes) : be l.length (fromBE l) = l := by
 induction l with
 | nil => rfl
 | cons c l ih =>
  have hp : 0 < 256 ^ l.length := Nat.pos_of_ne_zero (by simp)
  rw [List.length_cons,be,fromBE_cons,Nat.add_comm,Nat.add_mul_div_right _ _ hp,Nat.div_eq_of_lt (fromBE_lt l),Nat.zero_add,be_add _ _ _ _ (Nat.le_refl _),ih]
  simp
theorem nb_fromBE (l : Bytes) (hl : l.length ≤ 8) (h : l = [] ∨ l.head? ≠ some 0) : nb (fromBE l) = l.length := by
 match l,hl,h with
 | [],_,_ => rfl
 | c :: l,hl,h =>
  have h : c ≠ 0 := by rcases h with h|h <;> simp at h;exact h
  have hc : 1 ≤ c.toNat := by
   have : c.toNat ≠ 0 := fun h0 => h (UInt8.toNat_inj.1 h0)
   omega
  have hlt := fromBE_lt (c :: l)
  have hge : 256 ^ l.length ≤ fromBE (c :: l) := by rw [fromBE_cons];have := Nat.mul_le_mul_right (256 ^ l.length) hc;omega
  have hp : 0 < 256 ^ l.length := Nat.pos_of_ne_zero (by simp)
  have h64 : fromBE (c :: l) < 18446744073709551616 := Nat.lt_of_lt_of_le hlt (Nat.le_trans (Nat.pow_le_pow_right (by omega) hl) (by decide))
  have h1 := nb_lt _ h64
  have h2 := nb_ge _ (by omega) h64
  rw [List.length_cons] at hlt ⊢
  generalize fromBE (c :: l) = n at *
  rcases Nat.lt_trichotomy (nb n) (l.length + 1) with h3|h3|h3
  ·have : 256 ^ nb n ≤ 256 ^ l.length := Nat.pow_le_pow_right (by omega) (by omega)
   omega
  ·exact h3
  ·have : 256 ^ (l.length + 1) ≤ 256 ^ (nb n - 1) := Nat.pow_le_pow_right (by omega) (by omega)
   omega
theorem takeN_only {b r : Bytes} {n : Nat} (h : takeN b = .ok (n,r)) : encN n ++ r = b := by
 match b,h with
 | k :: t,h =>
  rw [takeN] at h
  split at h
  ·cases h
  ·rename_i h1
   split at h
   ·cases h
   ·rename_i h2
    simp only [Except.ok.injEq,Prod.mk.injEq] at h
    obtain ⟨rfl,rfl⟩ := h
    have hlen : (t.take k.toNat).length = k.toNat := by rw [List.length_take];omega
    have hnb := nb_fromBE (t.take k.toNat) (by omega) (by
     by_cases h0 : k.toNat = 0
     ·left;rw [h0];rfl
     ·right
      intro hh
      apply h1
      right
      refine ⟨by omega,?_⟩
      cases t with
      | nil => simp at hh
      | cons c t' =>
       obtain ⟨q,hq⟩ : ∃ q,k.toNat = q + 1 := ⟨k.toNat - 1,by omega⟩
       rw [hq,List.take_succ_cons] at hh
       exact hh)
    rw [hlen] at hnb
    have hbe := be_fromBE (t.take k.toNat)
    rw [hlen] at hbe
    rw [encN,hnb,hbe,List.cons_append,List.take_append_drop,UInt8.ofNat_toNat]
theorem zig_unzig (n : Nat) (h : n < 18446744073709551616) : zig (unzig n) = n := by
 unfold zig unzig
 split <;> split <;> omega
theorem takeZ_only {b r : Bytes} {n : Int} (h : takeZ b = .ok (n,r)) : encN (zig n) ++ r = b := by
 unfold takeZ at h
 split at h
 ·cases h
 ·rename_i m q hm
  simp only [Except.ok.injEq,Prod.mk.injEq] at h
  obtain ⟨rfl,rfl⟩ := h
  rw [zig_unzig m (taken_small hm).1]
  exact takeN_only hm
theorem takeT_only {b s r : Bytes} {most : Int} (h : takeT b most = .ok (s,r)) : encT s ++ r = b := by
 unfold takeT at h
 split at h
 ·cases h
 ·rename_i n q hn
  split at h
  ·cases h
  ·split at h
   ·cases h
   ·simp only [Except.ok.injEq,Prod.mk.injEq] at h
    obtain ⟨rfl,rfl⟩ := h
    rw [encT,List.length_take,Nat.min_eq_left (by omega),List.append_assoc,List.take_append_drop]
    exact takeN_only hn
theorem takeTs_only {n : Nat} {b r : Bytes} {l : List Bytes} {most : Int} (h : takeTs most n b = .ok (l,r)) : l.length = n ∧ encRow l ++ r = b := by
 induction n generalizing b l r with
 | zero => simp only [takeTs,Except.ok.injEq,Prod.mk.injEq] at h;obtain ⟨rfl,rfl⟩ := h;exact ⟨rfl,rfl⟩
 | succ n ih =>
  rw [takeTs] at h
  split at h
  ·cases h
  ·rename_i s q hs
   split at h
   ·cases h
   ·rename_i l' r' hl
    simp only [Except.ok.injEq,Prod.mk.injEq] at h
    obtain ⟨rfl,rfl⟩ := h
    obtain ⟨h1,h2⟩ := ih hl
    exact ⟨by rw [List.length_cons,h1],by rw [encRow_cons,List.append_assoc,h2,takeT_only hs]⟩
theorem takeL_only {b r : Bytes} {l : List Bytes} {many most : Int} (h : takeL b many most = .ok (l,r)) : encL l ++ r = b := by
 unfold takeL at h
 split at h
 ·cases h
 ·rename_i n q hn
  split at h
  ·cases h
  ·obtain ⟨h1,h2⟩ := takeTs_only h
   rw [encL_row,h1,List.append_assoc,h2]
   exact takeN_only hn
theorem unzig_i64 (n : Nat) (h : n < 18446744073709551616) : I64 (unzig n) := by
 unfold unzig I64
 split <;> omega
theorem takeZ_i64 {b r : Bytes} {n : Int} (h : takeZ b = .ok (n,r)) : I64 n := by
 unfold takeZ at h
 split at h
 ·cases h
 ·rename_i h1
  cases h
  exact unzig_i64 _ (taken_small h1).1
theorem encZs_cons (n : Int) (l : List Int) : encZs (n :: l) = encN (zig n) ++ encZs l := by simp [encZs]
theorem seqZ_only : ∀ (k : Nat) (b : Bytes) (l : List Int) (r : Bytes),seqZ k b = .ok (l,r) → encZs l ++ r = b ∧ ∀ n ∈ l,I64 n
 | 0,b,l,r,h => by
  simp only [seqZ,Except.ok.injEq,Prod.mk.injEq] at h
  rw [← h.1,← h.2]
  simp [encZs]
 | k + 1,b,l,r,h => by
  simp only [seqZ] at h
  split at h
  ·cases h
  ·rename_i h1
   split at h
   ·cases h
   ·rename_i h2
    simp only [Except.ok.injEq,Prod.mk.injEq] at h
    obtain ⟨g1,g2⟩ := seqZ_only k _ _ _ h2
    rw [← h.1,← h.2,encZs_cons,List.append_assoc,g1,takeZ_only h1]
    refine ⟨rfl,?_⟩
    intro m hm
    rcases List.mem_cons.1 hm with rfl|hm
    ·exact takeZ_i64 h1
    ·exact g2 m hm
theorem takeO_only {b r : Bytes} {o : Ord} (h : takeO b = .ok (o,r)) : putO o ++ r = b ∧ mayO o = true ∧ smO o := by
 unfold takeO at h
 split at h
 ·cases h
 ·rename_i l r1 h1
  have hl := seqZ_len _ _ _ _ h1
  obtain ⟨n0,n1,n2,n3,n4,n5,rfl⟩ : ∃ n0 n1 n2 n3 n4 n5,l = [n0,n1,n2,n3,n4,n5] := by
   match l,hl with
   | [n0,n1,n2,n3,n4,n5],_ => exact ⟨n0,n1,n2,n3,n4,n5,rfl⟩
  obtain ⟨g1,g2⟩ := seqZ_only _ _ _ _ h1
  split at h
  ·cases h
  ·rename_i s r2 h2
   have k1 := takeT_only h2
   have q1 := (takeT_shorter h2).2
   split at h
   ·cases h
   ·rename_i t r3 h3
    have k2 := takeT_only h3
    have q2 := (takeT_shorter h3).2
    split at h
    ·rename_i hm
     cases h
     simp only [List.mem_cons,List.not_mem_nil,or_false,forall_eq_or_imp,forall_eq] at g2
     obtain ⟨i0,i1,i2,i3,i4,i5⟩ := g2
     refine ⟨?_,hm,i0,i1,i2,i3,i4,i5,by dsimp only;omega,by dsimp only;omega⟩
     rw [← g1,← k1,← k2]
     simp [putO]
    ·cases h
theorem takeT_size {b s r : Bytes} {most : Int} (h : takeT b most = .ok (s,r)) (hm : 0 ≤ most) : (s.length : Int) ≤ most := by
 have := (takeT_shorter h).2
 omega
theorem takeTs_size {most : Int} (hm : 0 ≤ most) : ∀ {n : Nat} {b r : Bytes} {l : List Bytes},takeTs most n b = .ok (l,r) → l.length = n ∧ ∀ s ∈ l,(s.length : Int) ≤ most
 | 0,b,r,l,h => by
  simp only [takeTs,Except.ok.injEq,Prod.mk.injEq] at h
  obtain ⟨rfl,rfl⟩ := h
  exact ⟨rfl,fun s hs => absurd hs (by simp)⟩
 | n + 1,b,r,l,h => by
  rw [takeTs] at h
  split at h
  ·cases h
  ·rename_i s q hs
   split at h
   ·cases h
   ·rename_i l' r' hl
    simp only [Except.ok.injEq,Prod.mk.injEq] at h
    obtain ⟨rfl,rfl⟩ := h
    obtain ⟨h1,h2⟩ := takeTs_size hm hl
    refine ⟨by rw [List.length_cons,h1],fun x hx => ?_⟩
    rcases List.mem_cons.1 hx with rfl|hx
    ·exact takeT_size hs hm
    ·exact h2 x hx
theorem takeL_size {b r : Bytes} {l : List Bytes} {many most : Int} (h : takeL b many most = .ok (l,r)) (h0 : 0 ≤ many) (hm : 0 ≤ most) : (l.length : Int) ≤ many ∧ ∀ s ∈ l,(s.length : Int) ≤ most := by
 unfold takeL at h
 split at h
 ·cases h
 ·rename_i n q hn
  split at h
  ·cases h
  ·obtain ⟨h1,h2⟩ := takeTs_size hm h
   exact ⟨by omega,h2⟩
theorem tot_le (k : Nat) : ∀ l : List Bytes,(∀ s ∈ l,s.length ≤ k) → tot l ≤ (k + 9) * l.length
 | [],_ => by simp [tot]
 | x :: l,h => by
  have := tot_le k l fun s hs => h s (List.mem_cons_of_mem _ hs)
  have h0 := h x List.mem_cons_self
  rw [tot_cons,List.length_cons,Nat.mul_succ]
  omega
def SX (o : Rpl) : Prop := I64 o.a ∧ I64 o.b ∧ I64 o.x ∧ (0 ≤ o.e ∧ o.e ≤ 16) ∧ o.s.length ≤ 1000 ∧ o.l.length ≤ 200 ∧ ∀ s ∈ o.l,s.length ≤ 1000
theorem SX.e {o : Rpl} (h : SX o) : I64 o.e := by have := h.2.2.2.1;unfold I64;omega
theorem takeRp_SX {b r : Bytes} {o : Rpl} (h : takeRp b = .ok (o,r)) : putR o ++ r = b ∧ SX o := by
 unfold takeRp at h
 split at h
 ·cases h
 ·rename_i l r1 h1
  have hl := seqZ_len _ _ _ _ h1
  obtain ⟨n0,n1,n2,n3,rfl⟩ : ∃ n0 n1 n2 n3,l = [n0,n1,n2,n3] := by
   match l,hl with
   | [n0,n1,n2,n3],_ => exact ⟨n0,n1,n2,n3,rfl⟩
  obtain ⟨g1,g2⟩ := seqZ_only _ _ _ _ h1
  split at h
  ·cases h
  ·rename_i s r2 h2
   have k1 := takeT_only h2
   have q1 := takeT_size h2 (by decide)
   split at h
   ·cases h
   ·rename_i t r3 h3
    have k2 := takeL_only h3
    obtain ⟨q2,q3⟩ := takeL_size h3 (by decide) (by decide)
    split at h
    ·cases h
    ·rename_i hn
     cases h
     simp only [List.mem_cons,List.not_mem_nil,or_false,forall_eq_or_imp,forall_eq] at g2
     obtain ⟨i0,i1,i2,i3⟩ := g2
     simp only [List.getD_cons_zero,List.getD_cons_succ] at hn
     refine ⟨?_,i0,i1,i3,by simp only [List.getD_cons_zero,List.getD_cons_succ];omega,by dsimp only;omega,by dsimp only;omega,fun s hs => by have := q3 s hs;omega⟩
     rw [← g1,← k1,← k2]
     simp [putR]
theorem seqZ_enc : ∀ (l : List Int) (r : Bytes),(∀ n ∈ l,I64 n) → seqZ l.length (encZs l ++ r) = .ok (l,r)
 | [],r,_ => rfl
 | n :: l,r,h => by
  have h0 := h n List.mem_cons_self
  unfold I64 at h0
  rw [encZs_cons,List.append_assoc,List.length_cons,seqZ,takeZ_enc n (by omega) (by omega)]
  simp only [seqZ_enc l r fun m hm => h m (List.mem_cons_of_mem _ hm)]
theorem may_small {o : Ord} (h : mayO o = true) : o.s.length ≤ 100 ∧ o.t.length ≤ 1000 := by
 simp only [mayO,Bool.and_eq_true,decide_eq_true_eq] at h
 omega
theorem takeO_enc (o : Ord) (h : mayO o = true) (hs : smO o) (more : Bytes) : takeO (putO o ++ more) = .ok (o,more) := by
 obtain ⟨h1,h2,h3,h4,h5,h6,_,_⟩ := hs
 obtain ⟨g1,g2⟩ := may_small h
 have e := seqZ_enc [o.a,o.b,o.kind,o.x,o.y,o.z] (encT o.s ++ (encT o.t ++ more)) (by simp;exact ⟨h1,h2,h3,h4,h5,h6⟩)
 simp only [Ya,Y9,Nat.reduceAdd] at e
 rw [takeO,putO,List.append_assoc,List.append_assoc,e]
 simp only [takeT_enc o.s 100 (by omega) (by omega),takeT_enc o.t 1000 (by omega) (by omega),List.getD_cons_zero,List.getD_cons_succ]
 rw [if_pos h]
theorem takeRp_encX (o : Rpl) (hs : SX o) (more : Bytes) : takeRp (putR o ++ more) = .ok (o,more) := by
 have h3 := hs.e
 obtain ⟨h1,h2,h4,h5,h6,h7,h8⟩ := hs
 have e := seqZ_enc [o.a,o.b,o.e,o.x] (encT o.s ++ (encL o.l ++ more)) (by simp;exact ⟨h1,h2,h3,h4⟩)
 simp only [Ya,Y9,Nat.reduceAdd] at e
 have hm : ∀ s ∈ o.l,(s.length : Int) ≤ max 1000 0 := fun s hs => by have := h8 s hs;omega
 have ht := tot_le 1000 o.l h8
 rw [takeRp,putR,List.append_assoc,List.append_assoc,e]
 simp only [takeT_enc o.s 1000 (by omega) (by omega),takeL_enc o.l 200 1000 (by omega) (by omega) hm,List.getD_cons_zero,List.getD_cons_succ]
 rw [if_neg (by omega)]
theorem takeO_err {b : Bytes} {z : Int} (h : takeO b = .error z) : ¬ z = 0 := by
 unfold takeO at h
 split at h
 ·rename_i h1;cases h;exact seqZ_err _ _ _ h1
 ·split at h
  ·rename_i h1;cases h;exact takeT_err' h1
  ·split at h
   ·rename_i h1;cases h;exact takeT_err' h1
   ·split at h
    ·cases h
    ·cases h;omega
theorem takeRp_err {b : Bytes} {z : Int} (h : takeRp b = .error z) : ¬ z = 0 := by
 unfold takeRp at h
 split at h
 ·rename_i h1;cases h;exact seqZ_err _ _ _ h1
 ·split at h
  ·rename_i h1;cases h;exact takeT_err' h1
  ·split at h
   ·rename_i h1;cases h;exact takeL_err' h1
   ·split at h
    ·cases h;omega
    ·cases h
theorem drop_atK {α : Type} {l : List α} {k : Nat} {x : α} (hx : l[k]? = some x) : l.drop k = x :: l.drop (k + 1) := by
 obtain ⟨h,rfl⟩ := List.getElem?_eq_some_iff.1 hx
 exact List.drop_eq_getElem_cons h
structure Rdr {α : Type} (R : Bytes → Int → Bytes × Int × α) (W : α → Bytes) (S : α → Prop) : Prop where
 stick : ∀ b e,¬ e = 0 → ¬ (R b e).2.1 = 0
 only0 : ∀ b,(R b 0).2.1 = 0 → S (R b 0).2.2 ∧ W (R b 0).2.2 ++ (R b 0).1 = b
 back : ∀ v r,S v → R (W v ++ r) 0 = (r,0,v)
theorem Rdr.only {α : Type} {R : Bytes → Int → Bytes × Int × α} {W : α → Bytes} {S : α → Prop} (h : Rdr R W S) {b : Bytes} {e : Int} (he : (R b e).2.1 = 0) : e = 0 ∧ S (R b e).2.2 ∧ W (R b e).2.2 ++ (R b e).1 = b := by
 by_cases h0 : e = 0
 ·subst h0;exact ⟨rfl,h.only0 b he⟩
 ·exact absurd he (h.stick b e h0)
theorem rdrN (c : Int) : Rdr (fun b e => rdN b e c) (fun n => encN (zig n)) I64 where
 stick b e h := by simp only [rdN,if_neg h];exact h
 only0 b h := by
  cases ht : takeZ b with
  | ok p => simp only [rdN,ht,reduceIte];exact ⟨takeZ_i64 ht,takeZ_only ht⟩
  | error z => simp only [rdN,ht,reduceIte] at h;exact absurd h (takeZ_err ht)
 back v r h := by
  unfold I64 at h
  simp only [rdN,takeZ_enc v (by omega) (by omega),reduceIte]
theorem rdrT (c : Bytes) : Rdr (fun b e => rdT b e c) encT (fun s => s.length ≤ 6000) where
 stick b e h := by simp only [rdT,if_neg h];exact h
 only0 b h := by
  cases ht : takeT b 6000 with
  | ok p => simp only [rdT,ht,reduceIte];exact ⟨by have := takeT_size ht (by decide);omega,takeT_only ht⟩
  | error z => simp only [rdT,ht,reduceIte] at h;exact absurd h (takeT_err' ht)
 back v r h := by
  simp only [rdT,takeT_enc v 6000 (by omega) (by omega),reduceIte]
theorem rdrO (c : Ord) : Rdr (fun b e => rdO b e c) putO (fun o => mayO o = true ∧ smO o) where
 stick b e h := by simp only [rdO,if_neg h];exact h
 only0 b h := by
  cases ht : takeO b with
  | ok p => simp only [rdO,ht,reduceIte];have := takeO_only ht;exact ⟨this.2,this.1⟩
  | error z => simp only [rdO,ht,reduceIte] at h;exact absurd h (takeO_err ht)
 back v r h := by simp only [rdO,takeO_enc v h.1 h.2 r,reduceIte]
theorem rdrX (c : Rpl) : Rdr (fun b e => rdX b e c) putR SX where
 stick b e h := by simp only [rdX,if_neg h];exact h
 only0 b h := by
  cases ht : takeRp b with
  | ok p => simp only [rdX,ht,reduceIte];have := takeRp_SX ht;exact ⟨this.2,this.1⟩
  | error z => simp only [rdX,ht,reduceIte] at h;exact absurd h (takeRp_err ht)
 back v r h := by simp only [rdX,takeRp_encX v h r,reduceIte]
theorem rdrM (c : Bytes) : Rdr (fun b e => rdM b e c) id (fun s => s.length = 32) where
 stick b e h := by simp only [rdM,if_neg h];exact h
 only0 b h := by
  simp only [rdM,reduceIte] at h ⊢
  split at h
  ·simp at h
  ·rename_i h1
   rw [if_neg h1]
   exact ⟨by simp;omega,List.take_append_drop 32 b⟩
 back v r h := by
  simp only [rdM,reduceIte,id]
  rw [if_neg (by rw [List.length_append];omega),List.drop_left' h,List.take_left' h]
theorem flagZ (x : Int) (h : x = 0 ∨ x = 1) : (if decide (x = 1) = true then (1 : Int) else 0) = x := by
 rcases h with rfl|rfl <;> rfl
theorem rdrF (c : Bool) : Rdr (fun b e => rdF b e c) (fun h => encN (zig (if h then 1 else 0))) (fun _ => True) where
 stick b e h := by
  have key : ¬ (rdN b e (if c then 1 else 0)).2.1 = 0 := (rdrN (if c then 1 else 0)).stick b e h
  simp only [rdF]
  generalize rdN b e (if c then 1 else 0) = t at *
  split
  ·omega
  ·exact key
 only0 b h := by
  have key : (rdN b 0 (if c then 1 else 0)).2.1 = 0 → I64 (rdN b 0 (if c then 1 else 0)).2.2 ∧ encN (zig (rdN b 0 (if c then 1 else 0)).2.2) ++ (rdN b 0 (if c then 1 else 0)).1 = b := (rdrN (if c then 1 else 0)).only0 b
  simp only [rdF] at h ⊢
  by_cases hn : (rdN b 0 (if c then 1 else 0)).2.2 ≠ 0 ∧ (rdN b 0 (if c then 1 else 0)).2.2 ≠ 1
  ·rw [if_pos hn] at h
   omega
  ·rw [if_neg hn] at h
   obtain ⟨_,w⟩ := key h
   refine ⟨trivial,?_⟩
   exact (congrArg (fun z => encN (zig z) ++ (rdN b 0 (if c then 1 else 0)).1) (flagZ (rdN b 0 (if c then 1 else 0)).2.2 (by omega))).trans w
 back v r _ := by
  have key : rdN (encN (zig (if v then 1 else 0)) ++ r) 0 (if c then 1 else 0) = (r,0,if v then 1 else 0) := (rdrN (if c then 1 else 0)).back (if v then 1 else 0) r (by unfold I64;split <;> omega)
  simp only [rdF,key]
  cases v <;> rfl
def SA (a : Acc) : Prop := I64 a.by_ ∧ I64 a.view ∧ a.value.length ≤ 6000
theorem rdrA (c : Acc) : Rdr (fun b e => rdA b e c) voteB SA where
 stick b e h := by
  simp only [rdA]
  exact (rdrT _).stick _ _ ((rdrN _).stick _ _ ((rdrN _).stick _ _ h))
 only0 b h := by
  simp only [rdA] at h ⊢
  obtain ⟨h2,s3,w3⟩ := (rdrT _).only h
  obtain ⟨h1,s2,w2⟩ := (rdrN _).only h2
  obtain ⟨_,s1,w1⟩ := (rdrN _).only h1
  refine ⟨⟨s1,s2,s3⟩,?_⟩
  rw [voteB,List.append_assoc,List.append_assoc]
  rw [w3,w2,w1]
 back v r h := by
  obtain ⟨h1,h2,h3⟩ := h
  have k1 := (rdrN c.by_).back v.by_ (encN (zig v.view) ++ (encT v.value ++ r)) h1
  have k2 := (rdrN c.view).back v.view (encT v.value ++ r) h2
  have k3 := (rdrT c.value).back v.value r h3
  simp only [rdA,voteB,List.append_assoc,k1,k2,k3]
def rds {α : Type} (R : Bytes → Int → Bytes × Int × α) : Nat → Bytes → Int → Bytes × Int × List α
 | 0,b,e => (b,e,[])
 | n + 1,b,e => ((R (rds R n b e).1 (rds R n b e).2.1).1,(R (rds R n b e).1 (rds R n b e).2.1).2.1,(rds R n b e).2.2 ++ [(R (rds R n b e).1 (rds R n b e).2.1).2.2])
section
variable {α : Type} {R : Bytes → Int → Bytes × Int × α} {W : α → Bytes} {S : α → Prop}
theorem rds_len (R : Bytes → Int → Bytes × Int × α) (b : Bytes) (e : Int) : ∀ n,(rds R n b e).2.2.length = n
 | 0 => rfl
 | n + 1 => by simp [rds,rds_len R b e n]
theorem rds_only (h : Rdr R W S) (b : Bytes) (e : Int) : ∀ n,(rds R n b e).2.1 = 0 → (∀ a ∈ (rds R n b e).2.2,S a) ∧ ((rds R n b e).2.2.map W).flatten ++ (rds R n b e).1 = b
 | 0,_ => ⟨fun a ha => absurd ha (by simp [rds]),rfl⟩
 | n + 1,he => by
  obtain ⟨h1,h2,h3⟩ := h.only he
  obtain ⟨g1,g2⟩ := rds_only h b e n h1
  refine ⟨fun a ha => ?_,?_⟩
  ·simp only [rds,List.mem_append,List.mem_singleton] at ha
   rcases ha with ha|rfl
   ·exact g1 a ha
   ·exact h2
  ·simp only [rds,List.map_append,Yf,Ye,List.flatten_append,List.flatten_cons,List.flatten_nil,Yd,List.append_assoc]
   rw [h3,g2]
theorem rds_back (h : Rdr R W S) (l : List α) (r : Bytes) (hl : ∀ a ∈ l,S a) : ∀ n,n ≤ l.length → rds R n ((l.map W).flatten ++ r) 0 = (((l.drop n).map W).flatten ++ r,0,l.take n)
 | 0,_ => rfl
 | n + 1,hn => by
  have ih := rds_back h l r hl n (by omega)
  obtain ⟨a,ha⟩ : ∃ a,l[n]? = some a := ⟨_,List.getElem?_eq_getElem (by omega)⟩
  have hb := h.back a (((l.drop (n + 1)).map W).flatten ++ r) (hl a (List.mem_of_getElem? ha))
  rw [drop_atK ha,List.map_cons,List.flatten_cons,List.append_assoc] at ih
  simp only [rds,ih,hb]
  rw [List.take_add_one,ha]
  rfl
end
def rdRow {α : Type} (R : Bytes → Int → Bytes × Int × α) (b : Bytes) (e : Int) : Bytes × Int × List α :=
 if (rdN b e 0).2.2 < 0 ∨ 30 < (rdN b e 0).2.2 then ((rdN b e 0).1,5,[]) else if (rdN b e 0).2.1 = 0 then rds R (rdN b e 0).2.2.toNat (rdN b e 0).1 0 else ((rdN b e 0).1,(rdN b e 0).2.1,[])
theorem rdrRow {α : Type} {R : Bytes → Int → Bytes × Int × α} {W : α → Bytes} {S : α → Prop} (h : Rdr R W S) : Rdr (rdRow R) (fun l => encN (zig l.length) ++ (l.map W).flatten) (fun l => l.length ≤ 30 ∧ ∀ a ∈ l,S a) where
 stick b e he := by
  have : ¬ (rdN b e 0).2.1 = 0 := (rdrN 0).stick b e he
  simp only [rdRow]
  split
  ·simp
  ·exact this
 only0 b he := by
  have key := (rdrN 0).only0 b
  simp only [rdRow] at he ⊢
  split at he
  ·simp at he
  ·rename_i h1
   rw [if_neg h1]
   split at he
   ·rename_i h2
    rw [if_pos h2]
    obtain ⟨s1,w1⟩ := key h2
    obtain ⟨g1,g2⟩ := rds_only h _ _ _ he
    have hl := rds_len R (rdN b 0 0).1 0 (rdN b 0 0).2.2.toNat
    refine ⟨⟨by omega,g1⟩,?_⟩
    rw [hl,List.append_assoc,g2,Int.toNat_of_nonneg (by omega),w1]
   ·rename_i h2;exact absurd he h2
 back v r hv := by
  obtain ⟨h1,h2⟩ := hv
  have k1 := (rdrN 0).back v.length ((v.map W).flatten ++ r) (by unfold I64;omega)
  have k2 := rds_back h v r h2 v.length (Nat.le_refl _)
  simp only [rdRow,List.append_assoc,k1,reduceIte,Int.toNat_natCast]
  rw [if_neg (by omega),k2,List.drop_length,List.take_length]
  rfl
theorem rdAs_eq (b : Bytes) (e : Int) : ∀ n,rdAs n b e = rds (fun b e => rdA b e zA) n b e
 | 0 => rfl
 | n + 1 => by rw [rdAs,rds,rdAs_eq b e n]
theorem rdV_eq (b : Bytes) (e : Int) : rdV b e = rdRow (fun b e => rdA b e zA) b e := by
 unfold rdV rdRow
 rw [rdAs_eq]
def SV (l : List Acc) : Prop := l.length ≤ 30 ∧ ∀ a ∈ l,SA a
theorem rdrV : Rdr rdV votesB SV := by
 rw [show rdV = rdRow (fun b e => rdA b e zA) from funext fun b => funext fun e => rdV_eq b e]
 exact rdrRow (rdrA zA)
def SR (r : Rp) : Prop := I64 r.by_ ∧ I64 r.for_ ∧ I64 r.view ∧ r.value.length ≤ 6000 ∧ SV r.proof
theorem rdrR : Rdr rdR reportB SR where
 stick b e h := by
  simp only [rdR]
  exact rdrV.stick _ _ ((rdrT _).stick _ _ ((rdrN _).stick _ _ ((rdrF _).stick _ _ ((rdrN _).stick _ _ ((rdrN _).stick _ _ h)))))
 only0 b h := by
  simp only [rdR] at h ⊢
  obtain ⟨h5,s6,w6⟩ := rdrV.only (b := (r5 b 0).1) (e := (r5 b 0).2.1) h
  obtain ⟨h4,s5,w5⟩ := (rdrT []).only (b := (r4 b 0).1) (e := (r4 b 0).2.1) h5
  obtain ⟨h3,s4,w4⟩ := (rdrN 0).only (b := (r3 b 0).1) (e := (r3 b 0).2.1) h4
  obtain ⟨h2,s3,w3⟩ := (rdrF false).only (b := (r2 b 0).1) (e := (r2 b 0).2.1) h3
  obtain ⟨h1,s2,w2⟩ := (rdrN 0).only (b := (r1 b 0).1) (e := (r1 b 0).2.1) h2
  obtain ⟨_,s1,w1⟩ := (rdrN 0).only (b := b) (e := 0) h1
  refine ⟨⟨s1,s2,s4,s5,s6⟩,?_⟩
  simp only [reportB,List.append_assoc]
  exact (congrArg _ ((congrArg _ ((congrArg _ ((congrArg _ ((congrArg _ w6).trans w5)).trans w4)).trans w3)).trans w2)).trans w1
 back v r h := by
  obtain ⟨h1,h2,h3,h4,h5⟩ := h
  have k1 := (rdrN 0).back v.by_ (encN (zig v.for_) ++ (encN (zig (if v.has then 1 else 0)) ++ (encN (zig v.view) ++ (encT v.value ++ (votesB v.proof ++ r))))) h1
  have k2 := (rdrN 0).back v.for_ (encN (zig (if v.has then 1 else 0)) ++ (encN (zig v.view) ++ (encT v.value ++ (votesB v.proof ++ r)))) h2
  have k3 := (rdrF false).back v.has (encN (zig v.view) ++ (encT v.value ++ (votesB v.proof ++ r))) trivial
  have k4 := (rdrN 0).back v.view (encT v.value ++ (votesB v.proof ++ r)) h3
  have k5 := (rdrT []).back v.value (votesB v.proof ++ r) h4
  have k6 := rdrV.back v.proof r h5
  simp only [rdR,r6,r5,r4,r3,r2,r1,reportB,List.append_assoc,k1,k2,k3,k4,k5,k6]
theorem rdRs_eq (b : Bytes) (e : Int) : ∀ n,rdRs n b e = rds rdR n b e
 | 0 => rfl
 | n + 1 => by rw [rdRs,rds,rdRs_eq b e n]
theorem rdC_eq (b : Bytes) (e : Int) : rdC b e = rdRow rdR b e := by
 unfold rdC rdRow
 rw [rdRs_eq]
def SC (l : List Rp) : Prop := l.length ≤ 30 ∧ ∀ a ∈ l,SR a
theorem rdrC : Rdr rdC rpsB SC := by
 rw [show rdC = rdRow rdR from funext fun b => funext fun e => rdC_eq b e]
 exact rdrRow rdrR
theorem zI : I64 0 := by unfold I64;omega
theorem zTx : ([] : Bytes).length ≤ 6000 := by decide
theorem zSA : SA zA := ⟨zI,zI,zTx⟩
theorem zSV : SV [] := ⟨by decide,fun a ha => absurd ha (by simp)⟩
theorem zSC : SC [] := ⟨by decide,fun a ha => absurd ha (by simp)⟩
theorem zSR : SR ⟨0,0,false,0,[],[]⟩ := ⟨zI,zI,zI,zTx,zSV⟩
theorem zSO : smO zO := ⟨zI,zI,zI,zI,zI,zI,by decide,by decide⟩
theorem zSX : SX zX := ⟨zI,zI,zI,by decide,by decide,by decide,fun a ha => absurd ha (by simp [zX])⟩
def useL (l : Ltr) : Ltr :=
 if l.kind = 1 then { zL with kind := 1,frm := l.frm,slot := l.slot,view := l.view,value := l.value,cert := l.cert } else
 if l.kind = 2 then { zL with kind := 2,slot := l.slot,vote := l.vote } else
 if l.kind = 3 then { zL with kind := 3,frm := l.frm,slot := l.slot,proof := l.proof } else
 if l.kind = 4 then { zL with kind := 4,slot := l.slot,r := l.r } else
 if l.kind = 5 then { zL with kind := 5,frm := l.frm,slot := l.slot,value := l.value } else
 if l.kind = 6 then { zL with kind := 6,frm := l.frm,view := l.view } else
 if l.kind = 7 then { zL with kind := 7,frm := l.frm,slot := l.slot,sum := l.sum } else
 if l.kind = 8 then { zL with kind := 8,o := l.o } else
 if l.kind = 9 then { zL with kind := 9,frm := l.frm,x := l.x } else
 if l.kind = 10 then { zL with kind := 10,frm := l.frm,slot := l.slot } else
 { zL with kind := l.kind }
theorem useL_1 (l : Ltr) (h : l.kind = 1) : useL l = { zL with kind := 1,frm := l.frm,slot := l.slot,view := l.view,value := l.value,cert := l.cert } := by
 unfold useL
 rw [if_pos h]
theorem useL_2 (l : Ltr) (h : l.kind = 2) : useL l = { zL with kind := 2,slot := l.slot,vote := l.vote } := by
 unfold useL
 rw [if_neg (by omega),if_pos h]
theorem useL_3 (l : Ltr) (h : l.kind = 3) : useL l = { zL with kind := 3,frm := l.frm,slot := l.slot,proof := l.proof } := by
 unfold useL
 rw [if_neg (by omega),if_neg (by omega),if_pos h]
theorem useL_4 (l : Ltr) (h : l.kind = 4) : useL l = { zL with kind := 4,slot := l.slot,r := l.r } := by
 unfold useL
 rw [if_neg (by omega),if_neg (by omega),if_neg (by omega),if_pos h]
theorem useL_5 (l : Ltr) (h : l.kind = 5) : useL l = { zL with kind := 5,frm := l.frm,slot := l.slot,value := l.value } := by
 unfold useL
 rw [if_neg (by omega),if_neg (by omega),if_neg (by omega),if_neg (by omega),if_pos h]
theorem useL_6 (l : Ltr) (h : l.kind = 6) : useL l = { zL with kind := 6,frm := l.frm,view := l.view } := by
 unfold useL
 rw [if_neg (by omega),if_neg (by omega),if_neg (by omega),if_neg (by omega),if_neg (by omega),if_pos h]
theorem useL_7 (l : Ltr) (h : l.kind = 7) : useL l = { zL with kind := 7,frm := l.frm,slot := l.slot,sum := l.sum } := by
 unfold useL
 rw [if_neg (by omega),if_neg (by omega),if_neg (by omega),if_neg (by omega),if_neg (by omega),if_neg (by omega),if_pos h]
theorem useL_8 (l : Ltr) (h : l.kind = 8) : useL l = { zL with kind := 8,o := l.o } := by
 unfold useL
 rw [if_neg (by omega),if_neg (by omega),if_neg (by omega),if_neg (by omega),if_neg (by omega),if_neg (by omega),if_neg (by omega),if_pos h]
theorem useL_9 (l : Ltr) (h : l.kind = 9) : useL l = { zL with kind := 9,frm := l.frm,x := l.x } := by
 unfold useL
 rw [if_neg (by omega),if_neg (by omega),if_neg (by omega),if_neg (by omega),if_neg (by omega),if_neg (by omega),if_neg (by omega),if_neg (by omega),if_pos h]
theorem useL_10 (l : Ltr) (h : l.kind = 10) : useL l = { zL with kind := 10,frm := l.frm,slot := l.slot } := by
 unfold useL
 rw [if_neg (by omega),if_neg (by omega),if_neg (by omega),if_neg (by omega),if_neg (by omega),if_neg (by omega),if_neg (by omega),if_neg (by omega),if_neg (by omega),if_pos h]
theorem wrB_1 (l : Ltr) (h : l.kind = 1) : wrB l = encN (zig l.frm) ++ encN (zig l.slot) ++ encN (zig l.view) ++ encT l.value ++ rpsB l.cert := by
 unfold wrB
 rw [if_pos h]
theorem wrB_2 (l : Ltr) (h : l.kind = 2) : wrB l = encN (zig l.slot) ++ voteB l.vote := by
 unfold wrB
 rw [if_neg (by omega),if_pos h]
theorem wrB_3 (l : Ltr) (h : l.kind = 3) : wrB l = encN (zig l.frm) ++ encN (zig l.slot) ++ votesB l.proof := by
 unfold wrB
 rw [if_neg (by omega),if_neg (by omega),if_pos h]
theorem wrB_4 (l : Ltr) (h : l.kind = 4) : wrB l = encN (zig l.slot) ++ reportB l.r := by
 unfold wrB
 rw [if_neg (by omega),if_neg (by omega),if_neg (by omega),if_pos h]
theorem wrB_5 (l : Ltr) (h : l.kind = 5) : wrB l = encN (zig l.frm) ++ encN (zig l.slot) ++ encT l.value := by
 unfold wrB
 rw [if_neg (by omega),if_neg (by omega),if_neg (by omega),if_neg (by omega),if_pos h]
theorem wrB_6 (l : Ltr) (h : l.kind = 6) : wrB l = encN (zig l.frm) ++ encN (zig l.view) := by
 unfold wrB
 rw [if_neg (by omega),if_neg (by omega),if_neg (by omega),if_neg (by omega),if_neg (by omega),if_pos h]
theorem wrB_7 (l : Ltr) (h : l.kind = 7) : wrB l = encN (zig l.frm) ++ encN (zig l.slot) ++ l.sum := by
 unfold wrB
 rw [if_neg (by omega),if_neg (by omega),if_neg (by omega),if_neg (by omega),if_neg (by omega),if_neg (by omega),if_pos h]
theorem wrB_8 (l : Ltr) (h : l.kind = 8) : wrB l = putO l.o := by
 unfold wrB
 rw [if_neg (by omega),if_neg (by omega),if_neg (by omega),if_neg (by omega),if_neg (by omega),if_neg (by omega),if_neg (by omega),if_pos h]
theorem wrB_9 (l : Ltr) (h : l.kind = 9) : wrB l = encN (zig l.frm) ++ putR l.x := by
 unfold wrB
 rw [if_neg (by omega),if_neg (by omega),if_neg (by omega),if_neg (by omega),if_neg (by omega),if_neg (by omega),if_neg (by omega),if_neg (by omega),if_pos h]
theorem wrB_10 (l : Ltr) (h : l.kind = 10) : wrB l = encN (zig l.frm) ++ encN (zig l.slot) := by
 unfold wrB
 rw [if_neg (by omega),if_neg (by omega),if_neg (by omega),if_neg (by omega),if_neg (by omega),if_neg (by omega),if_neg (by omega),if_neg (by omega),if_neg (by omega)]
def SL (l : Ltr) : Prop := I64 l.frm ∧ I64 l.slot ∧ I64 l.view ∧ l.value.length ≤ 6000 ∧ SC l.cert ∧ SA l.vote ∧ SV l.proof ∧ SR l.r ∧ l.sum.length = 32 ∧ (l.kind = 8 → mayO l.o = true) ∧ smO l.o ∧ SX l.x
def Good (l : Ltr) : Prop := (1 ≤ l.kind ∧ l.kind ≤ 10) ∧ useL l = l ∧ SL l
theorem only_1 (b : Bytes) (h : okB (q1_5 b).2.1 (q1_5 b).1 = true) : Good (l1 b) ∧ wrB (l1 b) = b := by
 simp only [okB,Bool.and_eq_true,decide_eq_true_eq] at h
 obtain ⟨h5,hr⟩ := h
 obtain ⟨h4,s5,w5⟩ := rdrC.only (b := (q1_4 b).1) (e := (q1_4 b).2.1) h5
 have w5 : rpsB (q1_5 b).2.2 ++ (q1_5 b).1 = (q1_4 b).1 := w5
 obtain ⟨h3,s4,w4⟩ := (rdrT []).only (b := (q1_3 b).1) (e := (q1_3 b).2.1) h4
 have w4 : encT (q1_4 b).2.2 ++ (q1_4 b).1 = (q1_3 b).1 := w4
 obtain ⟨h2,s3,w3⟩ := (rdrN 0).only (b := (q1_2 b).1) (e := (q1_2 b).2.1) h3
 have w3 : encN (zig (q1_3 b).2.2) ++ (q1_3 b).1 = (q1_2 b).1 := w3
 obtain ⟨h1,s2,w2⟩ := (rdrN 0).only (b := (q1_1 b).1) (e := (q1_1 b).2.1) h2
 have w2 : encN (zig (q1_2 b).2.2) ++ (q1_2 b).1 = (q1_1 b).1 := w2
 obtain ⟨_,s1,w1⟩ := (rdrN 0).only (b := b) (e := 0) h1
 have w1 : encN (zig (q1_1 b).2.2) ++ (q1_1 b).1 = b := w1
 rw [hr,List.append_nil] at w5
 refine ⟨⟨⟨by show (1 : Int) ≤ 1;decide,by show (1 : Int) ≤ 10;decide⟩,(useL_1 _ rfl).trans rfl,s1,s2,s3,s4,s5,zSA,zSV,zSR,rfl,fun h => absurd h (by show ¬ (1 : Int) = 8;decide),zSO,zSX⟩,?_⟩
 rw [wrB_1 _ rfl]
 show encN (zig (q1_1 b).2.2) ++ encN (zig (q1_2 b).2.2) ++ encN (zig (q1_3 b).2.2) ++ encT (q1_4 b).2.2 ++ rpsB (q1_5 b).2.2 = b
 simp only [List.append_assoc]
 exact (congrArg _ ((congrArg _ ((congrArg _ ((congrArg _ w5).trans w4)).trans w3)).trans w2)).trans w1
theorem back_1 (l : Ltr) (hk : l.kind = 1) (h : Good l) (r : Bytes) : l1 (wrB l ++ r) = l ∧ (q1_5 (wrB l ++ r)) = (r,0,l.cert) := by
 obtain ⟨_,hu,sf,ss,sv,sx,sc,sa,sp,sr,sm,smo,so,sy⟩ := h
 rw [wrB_1 l hk]
 simp only [List.append_assoc]
 have e1 : q1_1 (encN (zig l.frm) ++ (encN (zig l.slot) ++ (encN (zig l.view) ++ (encT l.value ++ (rpsB l.cert ++ r))))) = ((encN (zig l.slot) ++ (encN (zig l.view) ++ (encT l.value ++ (rpsB l.cert ++ r)))),0,l.frm) := (rdrN 0).back l.frm (encN (zig l.slot) ++ (encN (zig l.view) ++ (encT l.value ++ (rpsB l.cert ++ r)))) sf
 have e2 : q1_2 (encN (zig l.frm) ++ (encN (zig l.slot) ++ (encN (zig l.view) ++ (encT l.value ++ (rpsB l.cert ++ r))))) = ((encN (zig l.view) ++ (encT l.value ++ (rpsB l.cert ++ r))),0,l.slot) := by
  unfold q1_2
  rw [e1]
  exact (rdrN 0).back l.slot (encN (zig l.view) ++ (encT l.value ++ (rpsB l.cert ++ r))) ss
 have e3 : q1_3 (encN (zig l.frm) ++ (encN (zig l.slot) ++ (encN (zig l.view) ++ (encT l.value ++ (rpsB l.cert ++ r))))) = ((encT l.value ++ (rpsB l.cert ++ r)),0,l.view) := by
  unfold q1_3
  rw [e2]
  exact (rdrN 0).back l.view (encT l.value ++ (rpsB l.cert ++ r)) sv
 have e4 : q1_4 (encN (zig l.frm) ++ (encN (zig l.slot) ++ (encN (zig l.view) ++ (encT l.value ++ (rpsB l.cert ++ r))))) = ((rpsB l.cert ++ r),0,l.value) := by
  unfold q1_4
  rw [e3]
  exact (rdrT []).back l.value (rpsB l.cert ++ r) sx
 have e5 : q1_5 (encN (zig l.frm) ++ (encN (zig l.slot) ++ (encN (zig l.view) ++ (encT l.value ++ (rpsB l.cert ++ r))))) = (r,0,l.cert) := by
  unfold q1_5
  rw [e4]
  exact rdrC.back l.cert r sc
 refine ⟨?_,e5⟩
 rw [useL_1 l hk] at hu
 unfold l1
 rw [e1,e2,e3,e4,e5]
 exact hu
theorem only_2 (b : Bytes) (h : okB (q2_2 b).2.1 (q2_2 b).1 = true) : Good (l2 b) ∧ wrB (l2 b) = b := by
 simp only [okB,Bool.and_eq_true,decide_eq_true_eq] at h
 obtain ⟨h2,hr⟩ := h
 obtain ⟨h1,s2,w2⟩ := (rdrA zA).only (b := (q2_1 b).1) (e := (q2_1 b).2.1) h2
 have w2 : voteB (q2_2 b).2.2 ++ (q2_2 b).1 = (q2_1 b).1 := w2
 obtain ⟨_,s1,w1⟩ := (rdrN 0).only (b := b) (e := 0) h1
 have w1 : encN (zig (q2_1 b).2.2) ++ (q2_1 b).1 = b := w1
 rw [hr,List.append_nil] at w2
 refine ⟨⟨⟨by show (1 : Int) ≤ 2;decide,by show (2 : Int) ≤ 10;decide⟩,(useL_2 _ rfl).trans rfl,zI,s1,zI,zTx,zSC,s2,zSV,zSR,rfl,fun h => absurd h (by show ¬ (2 : Int) = 8;decide),zSO,zSX⟩,?_⟩
 rw [wrB_2 _ rfl]
 show encN (zig (q2_1 b).2.2) ++ voteB (q2_2 b).2.2 = b
 exact (congrArg _ w2).trans w1
theorem back_2 (l : Ltr) (hk : l.kind = 2) (h : Good l) (r : Bytes) : l2 (wrB l ++ r) = l ∧ (q2_2 (wrB l ++ r)) = (r,0,l.vote) := by
 obtain ⟨_,hu,sf,ss,sv,sx,sc,sa,sp,sr,sm,smo,so,sy⟩ := h
 rw [wrB_2 l hk]
 simp only [List.append_assoc]
 have e1 : q2_1 (encN (zig l.slot) ++ (voteB l.vote ++ r)) = ((voteB l.vote ++ r),0,l.slot) := (rdrN 0).back l.slot (voteB l.vote ++ r) ss
 have e2 : q2_2 (encN (zig l.slot) ++ (voteB l.vote ++ r)) = (r,0,l.vote) := by
  unfold q2_2
  rw [e1]
  exact (rdrA zA).back l.vote r sa
 refine ⟨?_,e2⟩
 rw [useL_2 l hk] at hu
 unfold l2
 rw [e1,e2]
 exact hu
theorem only_3 (b : Bytes) (h : okB (q3_3 b).2.1 (q3_3 b).1 = true) : Good (l3 b) ∧ wrB (l3 b) = b := by
 simp only [okB,Bool.and_eq_true,decide_eq_true_eq] at h
 obtain ⟨h3,hr⟩ := h
 obtain ⟨h2,s3,w3⟩ := rdrV.only (b := (q3_2 b).1) (e := (q3_2 b).2.1) h3
 have w3 : votesB (q3_3 b).2.2 ++ (q3_3 b).1 = (q3_2 b).1 := w3
 obtain ⟨h1,s2,w2⟩ := (rdrN 0).only (b := (q3_1 b).1) (e := (q3_1 b).2.1) h2
 have w2 : encN (zig (q3_2 b).2.2) ++ (q3_2 b).1 = (q3_1 b).1 := w2
 obtain ⟨_,s1,w1⟩ := (rdrN 0).only (b := b) (e := 0) h1
 have w1 : encN (zig (q3_1 b).2.2) ++ (q3_1 b).1 = b := w1
 rw [hr,List.append_nil] at w3
 refine ⟨⟨⟨by show (1 : Int) ≤ 3;decide,by show (3 : Int) ≤ 10;decide⟩,(useL_3 _ rfl).trans rfl,s1,s2,zI,zTx,zSC,zSA,s3,zSR,rfl,fun h => absurd h (by show ¬ (3 : Int) = 8;decide),zSO,zSX⟩,?_⟩
 rw [wrB_3 _ rfl]
 show encN (zig (q3_1 b).2.2) ++ encN (zig (q3_2 b).2.2) ++ votesB (q3_3 b).2.2 = b
 simp only [List.append_assoc]
 exact (congrArg _ ((congrArg _ w3).trans w2)).trans w1
theorem back_3 (l : Ltr) (hk : l.kind = 3) (h : Good l) (r : Bytes) : l3 (wrB l ++ r) = l ∧ (q3_3 (wrB l ++ r)) = (r,0,l.proof) := by
 obtain ⟨_,hu,sf,ss,sv,sx,sc,sa,sp,sr,sm,smo,so,sy⟩ := h
 rw [wrB_3 l hk]
 simp only [List.append_assoc]
 have e1 : q3_1 (encN (zig l.frm) ++ (encN (zig l.slot) ++ (votesB l.proof ++ r))) = ((encN (zig l.slot) ++ (votesB l.proof ++ r)),0,l.frm) := (rdrN 0).back l.frm (encN (zig l.slot) ++ (votesB l.proof ++ r)) sf
 have e2 : q3_2 (encN (zig l.frm) ++ (encN (zig l.slot) ++ (votesB l.proof ++ r))) = ((votesB l.proof ++ r),0,l.slot) := by
  unfold q3_2
  rw [e1]
  exact (rdrN 0).back l.slot (votesB l.proof ++ r) ss
 have e3 : q3_3 (encN (zig l.frm) ++ (encN (zig l.slot) ++ (votesB l.proof ++ r))) = (r,0,l.proof) := by
  unfold q3_3
  rw [e2]
  exact rdrV.back l.proof r sp
 refine ⟨?_,e3⟩
 rw [useL_3 l hk] at hu
 unfold l3
 rw [e1,e2,e3]
 exact hu
theorem only_4 (b : Bytes) (h : okB (q4_2 b).2.1 (q4_2 b).1 = true) : Good (l4 b) ∧ wrB (l4 b) = b := by
 simp only [okB,Bool.and_eq_true,decide_eq_true_eq] at h
 obtain ⟨h2,hr⟩ := h
 obtain ⟨h1,s2,w2⟩ := rdrR.only (b := (q4_1 b).1) (e := (q4_1 b).2.1) h2
 have w2 : reportB (q4_2 b).2.2 ++ (q4_2 b).1 = (q4_1 b).1 := w2
 obtain ⟨_,s1,w1⟩ := (rdrN 0).only (b := b) (e := 0) h1
 have w1 : encN (zig (q4_1 b).2.2) ++ (q4_1 b).1 = b := w1
 rw [hr,List.append_nil] at w2
 refine ⟨⟨⟨by show (1 : Int) ≤ 4;decide,by show (4 : Int) ≤ 10;decide⟩,(useL_4 _ rfl).trans rfl,zI,s1,zI,zTx,zSC,zSA,zSV,s2,rfl,fun h => absurd h (by show ¬ (4 : Int) = 8;decide),zSO,zSX⟩,?_⟩
 rw [wrB_4 _ rfl]
 show encN (zig (q4_1 b).2.2) ++ reportB (q4_2 b).2.2 = b
 exact (congrArg _ w2).trans w1
theorem back_4 (l : Ltr) (hk : l.kind = 4) (h : Good l) (r : Bytes) : l4 (wrB l ++ r) = l ∧ (q4_2 (wrB l ++ r)) = (r,0,l.r) := by
 obtain ⟨_,hu,sf,ss,sv,sx,sc,sa,sp,sr,sm,smo,so,sy⟩ := h
 rw [wrB_4 l hk]
 simp only [List.append_assoc]
 have e1 : q4_1 (encN (zig l.slot) ++ (reportB l.r ++ r)) = ((reportB l.r ++ r),0,l.slot) := (rdrN 0).back l.slot (reportB l.r ++ r) ss
 have e2 : q4_2 (encN (zig l.slot) ++ (reportB l.r ++ r)) = (r,0,l.r) := by
  unfold q4_2
  rw [e1]
  exact rdrR.back l.r r sr
 refine ⟨?_,e2⟩
 rw [useL_4 l hk] at hu
 unfold l4
 rw [e1,e2]
 exact hu
theorem only_5 (b : Bytes) (h : okB (q5_3 b).2.1 (q5_3 b).1 = true) : Good (l5 b) ∧ wrB (l5 b) = b := by
 simp only [okB,Bool.and_eq_true,decide_eq_true_eq] at h
 obtain ⟨h3,hr⟩ := h
 obtain ⟨h2,s3,w3⟩ := (rdrT []).only (b := (q5_2 b).1) (e := (q5_2 b).2.1) h3
 have w3 : encT (q5_3 b).2.2 ++ (q5_3 b).1 = (q5_2 b).1 := w3
 obtain ⟨h1,s2,w2⟩ := (rdrN 0).only (b := (q5_1 b).1) (e := (q5_1 b).2.1) h2
 have w2 : encN (zig (q5_2 b).2.2) ++ (q5_2 b).1 = (q5_1 b).1 := w2
 obtain ⟨_,s1,w1⟩ := (rdrN 0).only (b := b) (e := 0) h1
 have w1 : encN (zig (q5_1 b).2.2) ++ (q5_1 b).1 = b := w1
 rw [hr,List.append_nil] at w3
 refine ⟨⟨⟨by show (1 : Int) ≤ 5;decide,by show (5 : Int) ≤ 10;decide⟩,(useL_5 _ rfl).trans rfl,s1,s2,zI,s3,zSC,zSA,zSV,zSR,rfl,fun h => absurd h (by show ¬ (5 : Int) = 8;decide),zSO,zSX⟩,?_⟩
 rw [wrB_5 _ rfl]
 show encN (zig (q5_1 b).2.2) ++ encN (zig (q5_2 b).2.2) ++ encT (q5_3 b).2.2 = b
 simp only [List.append_assoc]
 exact (congrArg _ ((congrArg _ w3).trans w2)).trans w1
theorem back_5 (l : Ltr) (hk : l.kind = 5) (h : Good l) (r : Bytes) : l5 (wrB l ++ r) = l ∧ (q5_3 (wrB l ++ r)) = (r,0,l.value) := by
 obtain ⟨_,hu,sf,ss,sv,sx,sc,sa,sp,sr,sm,smo,so,sy⟩ := h
 rw [wrB_5 l hk]
 simp only [List.append_assoc]
 have e1 : q5_1 (encN (zig l.frm) ++ (encN (zig l.slot) ++ (encT l.value ++ r))) = ((encN (zig l.slot) ++ (encT l.value ++ r)),0,l.frm) := (rdrN 0).back l.frm (encN (zig l.slot) ++ (encT l.value ++ r)) sf
 have e2 : q5_2 (encN (zig l.frm) ++ (encN (zig l.slot) ++ (encT l.value ++ r))) = ((encT l.value ++ r),0,l.slot) := by
  unfold q5_2
  rw [e1]
  exact (rdrN 0).back l.slot (encT l.value ++ r) ss
 have e3 : q5_3 (encN (zig l.frm) ++ (encN (zig l.slot) ++ (encT l.value ++ r))) = (r,0,l.value) := by
  unfold q5_3
  rw [e2]
  exact (rdrT []).back l.value r sx
 refine ⟨?_,e3⟩
 rw [useL_5 l hk] at hu
 unfold l5
 rw [e1,e2,e3]
 exact hu
theorem only_6 (b : Bytes) (h : okB (q6_2 b).2.1 (q6_2 b).1 = true) : Good (l6 b) ∧ wrB (l6 b) = b := by
 simp only [okB,Bool.and_eq_true,decide_eq_true_eq] at h
 obtain ⟨h2,hr⟩ := h
 obtain ⟨h1,s2,w2⟩ := (rdrN 0).only (b := (q6_1 b).1) (e := (q6_1 b).2.1) h2
 have w2 : encN (zig (q6_2 b).2.2) ++ (q6_2 b).1 = (q6_1 b).1 := w2
 obtain ⟨_,s1,w1⟩ := (rdrN 0).only (b := b) (e := 0) h1
 have w1 : encN (zig (q6_1 b).2.2) ++ (q6_1 b).1 = b := w1
 rw [hr,List.append_nil] at w2
 refine ⟨⟨⟨by show (1 : Int) ≤ 6;decide,by show (6 : Int) ≤ 10;decide⟩,(useL_6 _ rfl).trans rfl,s1,zI,s2,zTx,zSC,zSA,zSV,zSR,rfl,fun h => absurd h (by show ¬ (6 : Int) = 8;decide),zSO,zSX⟩,?_⟩
 rw [wrB_6 _ rfl]
 show encN (zig (q6_1 b).2.2) ++ encN (zig (q6_2 b).2.2) = b
 exact (congrArg _ w2).trans w1
theorem back_6 (l : Ltr) (hk : l.kind = 6) (h : Good l) (r : Bytes) : l6 (wrB l ++ r) = l ∧ (q6_2 (wrB l ++ r)) = (r,0,l.view) := by
 obtain ⟨_,hu,sf,ss,sv,sx,sc,sa,sp,sr,sm,smo,so,sy⟩ := h
 rw [wrB_6 l hk]
 simp only [List.append_assoc]
 have e1 : q6_1 (encN (zig l.frm) ++ (encN (zig l.view) ++ r)) = ((encN (zig l.view) ++ r),0,l.frm) := (rdrN 0).back l.frm (encN (zig l.view) ++ r) sf
 have e2 : q6_2 (encN (zig l.frm) ++ (encN (zig l.view) ++ r)) = (r,0,l.view) := by
  unfold q6_2
  rw [e1]
  exact (rdrN 0).back l.view r sv
 refine ⟨?_,e2⟩
 rw [useL_6 l hk] at hu
 unfold l6
 rw [e1,e2]
 exact hu
theorem only_7 (b : Bytes) (h : okB (q7_3 b).2.1 (q7_3 b).1 = true) : Good (l7 b) ∧ wrB (l7 b) = b := by
 simp only [okB,Bool.and_eq_true,decide_eq_true_eq] at h
 obtain ⟨h3,hr⟩ := h
 obtain ⟨h2,s3,w3⟩ := (rdrM zM).only (b := (q7_2 b).1) (e := (q7_2 b).2.1) h3
 have w3 : (q7_3 b).2.2 ++ (q7_3 b).1 = (q7_2 b).1 := w3
 obtain ⟨h1,s2,w2⟩ := (rdrN 0).only (b := (q7_1 b).1) (e := (q7_1 b).2.1) h2
 have w2 : encN (zig (q7_2 b).2.2) ++ (q7_2 b).1 = (q7_1 b).1 := w2
 obtain ⟨_,s1,w1⟩ := (rdrN 0).only (b := b) (e := 0) h1
 have w1 : encN (zig (q7_1 b).2.2) ++ (q7_1 b).1 = b := w1
 rw [hr,List.append_nil] at w3
 refine ⟨⟨⟨by show (1 : Int) ≤ 7;decide,by show (7 : Int) ≤ 10;decide⟩,(useL_7 _ rfl).trans rfl,s1,s2,zI,zTx,zSC,zSA,zSV,zSR,s3,fun h => absurd h (by show ¬ (7 : Int) = 8;decide),zSO,zSX⟩,?_⟩
 rw [wrB_7 _ rfl]
 show encN (zig (q7_1 b).2.2) ++ encN (zig (q7_2 b).2.2) ++ (q7_3 b).2.2 = b
 simp only [List.append_assoc]
 exact (congrArg _ ((congrArg _ w3).trans w2)).trans w1
theorem back_7 (l : Ltr) (hk : l.kind = 7) (h : Good l) (r : Bytes) : l7 (wrB l ++ r) = l ∧ (q7_3 (wrB l ++ r)) = (r,0,l.sum) := by
 obtain ⟨_,hu,sf,ss,sv,sx,sc,sa,sp,sr,sm,smo,so,sy⟩ := h
 rw [wrB_7 l hk]
 simp only [List.append_assoc]
 have e1 : q7_1 (encN (zig l.frm) ++ (encN (zig l.slot) ++ (l.sum ++ r))) = ((encN (zig l.slot) ++ (l.sum ++ r)),0,l.frm) := (rdrN 0).back l.frm (encN (zig l.slot) ++ (l.sum ++ r)) sf
 have e2 : q7_2 (encN (zig l.frm) ++ (encN (zig l.slot) ++ (l.sum ++ r))) = ((l.sum ++ r),0,l.slot) := by
  unfold q7_2
  rw [e1]
  exact (rdrN 0).back l.slot (l.sum ++ r) ss
 have e3 : q7_3 (encN (zig l.frm) ++ (encN (zig l.slot) ++ (l.sum ++ r))) = (r,0,l.sum) := by
  unfold q7_3
  rw [e2]
  exact (rdrM zM).back l.sum r sm
 refine ⟨?_,e3⟩
 rw [useL_7 l hk] at hu
 unfold l7
 rw [e1,e2,e3]
 exact hu
theorem only_8 (b : Bytes) (h : okB (q8_1 b).2.1 (q8_1 b).1 = true) : Good (l8 b) ∧ wrB (l8 b) = b := by
 simp only [okB,Bool.and_eq_true,decide_eq_true_eq] at h
 obtain ⟨h1,hr⟩ := h
 obtain ⟨_,s1,w1⟩ := (rdrO zO).only (b := b) (e := 0) h1
 have w1 : putO (q8_1 b).2.2 ++ (q8_1 b).1 = b := w1
 rw [hr,List.append_nil] at w1
 refine ⟨⟨⟨by show (1 : Int) ≤ 8;decide,by show (8 : Int) ≤ 10;decide⟩,(useL_8 _ rfl).trans rfl,zI,zI,zI,zTx,zSC,zSA,zSV,zSR,rfl,fun _ => s1.1,s1.2,zSX⟩,?_⟩
 rw [wrB_8 _ rfl]
 show putO (q8_1 b).2.2 = b
 exact w1
theorem back_8 (l : Ltr) (hk : l.kind = 8) (h : Good l) (r : Bytes) : l8 (wrB l ++ r) = l ∧ (q8_1 (wrB l ++ r)) = (r,0,l.o) := by
 obtain ⟨_,hu,sf,ss,sv,sx,sc,sa,sp,sr,sm,smo,so,sy⟩ := h
 rw [wrB_8 l hk]
 have e1 : q8_1 (putO l.o ++ r) = (r,0,l.o) := (rdrO zO).back l.o r ⟨smo hk,so⟩
 refine ⟨?_,e1⟩
 rw [useL_8 l hk] at hu
 unfold l8
 rw [e1]
 exact hu
theorem only_9 (b : Bytes) (h : okB (q9_2 b).2.1 (q9_2 b).1 = true) : Good (l9 b) ∧ wrB (l9 b) = b := by
 simp only [okB,Bool.and_eq_true,decide_eq_true_eq] at h
 obtain ⟨h2,hr⟩ := h
 obtain ⟨h1,s2,w2⟩ := (rdrX zX).only (b := (q9_1 b).1) (e := (q9_1 b).2.1) h2
 have w2 : putR (q9_2 b).2.2 ++ (q9_2 b).1 = (q9_1 b).1 := w2
 obtain ⟨_,s1,w1⟩ := (rdrN 0).only (b := b) (e := 0) h1
 have w1 : encN (zig (q9_1 b).2.2) ++ (q9_1 b).1 = b := w1
 rw [hr,List.append_nil] at w2
 refine ⟨⟨⟨by show (1 : Int) ≤ 9;decide,by show (9 : Int) ≤ 10;decide⟩,(useL_9 _ rfl).trans rfl,s1,zI,zI,zTx,zSC,zSA,zSV,zSR,rfl,fun h => absurd h (by show ¬ (9 : Int) = 8;decide),zSO,s2⟩,?_⟩
 rw [wrB_9 _ rfl]
 show encN (zig (q9_1 b).2.2) ++ putR (q9_2 b).2.2 = b
 exact (congrArg _ w2).trans w1
theorem back_9 (l : Ltr) (hk : l.kind = 9) (h : Good l) (r : Bytes) : l9 (wrB l ++ r) = l ∧ (q9_2 (wrB l ++ r)) = (r,0,l.x) := by
 obtain ⟨_,hu,sf,ss,sv,sx,sc,sa,sp,sr,sm,smo,so,sy⟩ := h
 rw [wrB_9 l hk]
 simp only [List.append_assoc]
 have e1 : q9_1 (encN (zig l.frm) ++ (putR l.x ++ r)) = ((putR l.x ++ r),0,l.frm) := (rdrN 0).back l.frm (putR l.x ++ r) sf
 have e2 : q9_2 (encN (zig l.frm) ++ (putR l.x ++ r)) = (r,0,l.x) := by
  unfold q9_2
  rw [e1]
  exact (rdrX zX).back l.x r sy
 refine ⟨?_,e2⟩
 rw [useL_9 l hk] at hu
 unfold l9
 rw [e1,e2]
 exact hu
theorem only_10 (b : Bytes) (h : okB (q10_2 b).2.1 (q10_2 b).1 = true) : Good (l10 b) ∧ wrB (l10 b) = b := by
 simp only [okB,Bool.and_eq_true,decide_eq_true_eq] at h
 obtain ⟨h2,hr⟩ := h
 obtain ⟨h1,s2,w2⟩ := (rdrN 0).only (b := (q10_1 b).1) (e := (q10_1 b).2.1) h2
 have w2 : encN (zig (q10_2 b).2.2) ++ (q10_2 b).1 = (q10_1 b).1 := w2
 obtain ⟨_,s1,w1⟩ := (rdrN 0).only (b := b) (e := 0) h1
 have w1 : encN (zig (q10_1 b).2.2) ++ (q10_1 b).1 = b := w1
 rw [hr,List.append_nil] at w2
 refine ⟨⟨⟨by show (1 : Int) ≤ 10;decide,by show (10 : Int) ≤ 10;decide⟩,(useL_10 _ rfl).trans rfl,s1,s2,zI,zTx,zSC,zSA,zSV,zSR,rfl,fun h => absurd h (by show ¬ (10 : Int) = 8;decide),zSO,zSX⟩,?_⟩
 rw [wrB_10 _ rfl]
 show encN (zig (q10_1 b).2.2) ++ encN (zig (q10_2 b).2.2) = b
 exact (congrArg _ w2).trans w1
theorem back_10 (l : Ltr) (hk : l.kind = 10) (h : Good l) (r : Bytes) : l10 (wrB l ++ r) = l ∧ (q10_2 (wrB l ++ r)) = (r,0,l.slot) := by
 obtain ⟨_,hu,sf,ss,sv,sx,sc,sa,sp,sr,sm,smo,so,sy⟩ := h
 rw [wrB_10 l hk]
 simp only [List.append_assoc]
 have e1 : q10_1 (encN (zig l.frm) ++ (encN (zig l.slot) ++ r)) = ((encN (zig l.slot) ++ r),0,l.frm) := (rdrN 0).back l.frm (encN (zig l.slot) ++ r) sf
 have e2 : q10_2 (encN (zig l.frm) ++ (encN (zig l.slot) ++ r)) = (r,0,l.slot) := by
  unfold q10_2
  rw [e1]
  exact (rdrN 0).back l.slot r ss
 refine ⟨?_,e2⟩
 rw [useL_10 l hk] at hu
 unfold l10
 rw [e1,e2]
 exact hu
theorem tk_only (b : Bytes) (h : (tkL b).2 = true) : Good (tkL b).1 ∧ wrL (tkL b).1 = b := by
 have key := (rdrN 0).only (b := b) (e := 0)
 unfold tkL at h ⊢
 by_cases e0 : (rdN b 0 0).2.1 = 0
 ·obtain ⟨_,_,w⟩ := key e0
  rw [if_pos e0] at h ⊢
  by_cases n1 : (rdN b 0 0).2.2 = 1
  ·rw [if_pos n1] at h ⊢
   obtain ⟨g,w1⟩ := only_1 _ h
   refine ⟨g,?_⟩
   show encN (zig 1) ++ wrB (l1 (rdN b 0 0).1) = b
   rw [w1,← n1]
   exact w
  rw [if_neg n1] at h ⊢
  by_cases n2 : (rdN b 0 0).2.2 = 2
  ·rw [if_pos n2] at h ⊢
   obtain ⟨g,w1⟩ := only_2 _ h
   refine ⟨g,?_⟩
   show encN (zig 2) ++ wrB (l2 (rdN b 0 0).1) = b
   rw [w1,← n2]
   exact w
  rw [if_neg n2] at h ⊢
  by_cases n3 : (rdN b 0 0).2.2 = 3
  ·rw [if_pos n3] at h ⊢
   obtain ⟨g,w1⟩ := only_3 _ h
   refine ⟨g,?_⟩
   show encN (zig 3) ++ wrB (l3 (rdN b 0 0).1) = b
   rw [w1,← n3]
   exact w
  rw [if_neg n3] at h ⊢
  by_cases n4 : (rdN b 0 0).2.2 = 4
  ·rw [if_pos n4] at h ⊢
   obtain ⟨g,w1⟩ := only_4 _ h
   refine ⟨g,?_⟩
   show encN (zig 4) ++ wrB (l4 (rdN b 0 0).1) = b
   rw [w1,← n4]
   exact w
  rw [if_neg n4] at h ⊢
  by_cases n5 : (rdN b 0 0).2.2 = 5
  ·rw [if_pos n5] at h ⊢
   obtain ⟨g,w1⟩ := only_5 _ h
   refine ⟨g,?_⟩
   show encN (zig 5) ++ wrB (l5 (rdN b 0 0).1) = b
   rw [w1,← n5]
   exact w
  rw [if_neg n5] at h ⊢
  by_cases n6 : (rdN b 0 0).2.2 = 6
  ·rw [if_pos n6] at h ⊢
   obtain ⟨g,w1⟩ := only_6 _ h
   refine ⟨g,?_⟩
   show encN (zig 6) ++ wrB (l6 (rdN b 0 0).1) = b
   rw [w1,← n6]
   exact w
  rw [if_neg n6] at h ⊢
  by_cases n7 : (rdN b 0 0).2.2 = 7
  ·rw [if_pos n7] at h ⊢
   obtain ⟨g,w1⟩ := only_7 _ h
   refine ⟨g,?_⟩
   show encN (zig 7) ++ wrB (l7 (rdN b 0 0).1) = b
   rw [w1,← n7]
   exact w
  rw [if_neg n7] at h ⊢
  by_cases n8 : (rdN b 0 0).2.2 = 8
  ·rw [if_pos n8] at h ⊢
   obtain ⟨g,w1⟩ := only_8 _ h
   refine ⟨g,?_⟩
   show encN (zig 8) ++ wrB (l8 (rdN b 0 0).1) = b
   rw [w1,← n8]
   exact w
  rw [if_neg n8] at h ⊢
  by_cases n9 : (rdN b 0 0).2.2 = 9
  ·rw [if_pos n9] at h ⊢
   obtain ⟨g,w1⟩ := only_9 _ h
   refine ⟨g,?_⟩
   show encN (zig 9) ++ wrB (l9 (rdN b 0 0).1) = b
   rw [w1,← n9]
   exact w
  rw [if_neg n9] at h ⊢
  by_cases n10 : (rdN b 0 0).2.2 = 10
  ·rw [if_pos n10] at h ⊢
   obtain ⟨g,w1⟩ := only_10 _ h
   refine ⟨g,?_⟩
   show encN (zig 10) ++ wrB (l10 (rdN b 0 0).1) = b
   rw [w1,← n10]
   exact w
  rw [if_neg n10] at h ⊢
  exact absurd h (by decide)
 ·rw [if_neg e0] at h
  exact absurd h (by decide)
theorem tk_back (l : Ltr) (h : Good l) (r : Bytes) : tkL (wrL l ++ r) = (l,decide (r = [])) := by
 have k1 := (rdrN 0).back l.kind (wrB l ++ r) (by have := h.1;unfold I64;omega)
 unfold tkL wrL
 simp only [List.append_assoc,k1,reduceIte]
 have hc : l.kind = 1 ∨ l.kind = 2 ∨ l.kind = 3 ∨ l.kind = 4 ∨ l.kind = 5 ∨ l.kind = 6 ∨ l.kind = 7 ∨ l.kind = 8 ∨ l.kind = 9 ∨ l.kind = 10 := by have := h.1;omega
 rcases hc with e|e|e|e|e|e|e|e|e|e
 ·obtain ⟨b1,b2⟩ := back_1 l e h r
  rw [if_pos e,b1,b2]
  simp [okB]
 ·obtain ⟨b1,b2⟩ := back_2 l e h r
  rw [if_neg (by omega),if_pos e,b1,b2]
  simp [okB]
 ·obtain ⟨b1,b2⟩ := back_3 l e h r
  rw [if_neg (by omega),if_neg (by omega),if_pos e,b1,b2]
  simp [okB]
 ·obtain ⟨b1,b2⟩ := back_4 l e h r
  rw [if_neg (by omega),if_neg (by omega),if_neg (by omega),if_pos e,b1,b2]
  simp [okB]
 ·obtain ⟨b1,b2⟩ := back_5 l e h r
  rw [if_neg (by omega),if_neg (by omega),if_neg (by omega),if_neg (by omega),if_pos e,b1,b2]
  simp [okB]
 ·obtain ⟨b1,b2⟩ := back_6 l e h r
  rw [if_neg (by omega),if_neg (by omega),if_neg (by omega),if_neg (by omega),if_neg (by omega),if_pos e,b1,b2]
  simp [okB]
 ·obtain ⟨b1,b2⟩ := back_7 l e h r
  rw [if_neg (by omega),if_neg (by omega),if_neg (by omega),if_neg (by omega),if_neg (by omega),if_neg (by omega),if_pos e,b1,b2]
  simp [okB]
 ·obtain ⟨b1,b2⟩ := back_8 l e h r
  rw [if_neg (by omega),if_neg (by omega),if_neg (by omega),if_neg (by omega),if_neg (by omega),if_neg (by omega),if_neg (by omega),if_pos e,b1,b2]
  simp [okB]
 ·obtain ⟨b1,b2⟩ := back_9 l e h r
  rw [if_neg (by omega),if_neg (by omega),if_neg (by omega),if_neg (by omega),if_neg (by omega),if_neg (by omega),if_neg (by omega),if_neg (by omega),if_pos e,b1,b2]
  simp [okB]
 ·obtain ⟨b1,b2⟩ := back_10 l e h r
  rw [if_neg (by omega),if_neg (by omega),if_neg (by omega),if_neg (by omega),if_neg (by omega),if_neg (by omega),if_neg (by omega),if_neg (by omega),if_neg (by omega),if_pos e,b1,b2]
  simp [okB]
def mayL (l : Ltr) : Bool := decide (tkL (wrL l) = (l,true))
theorem mayL_good (l : Ltr) : mayL l = true ↔ Good l := by
 unfold mayL
 rw [decide_eq_true_eq]
 constructor
 ·intro h
  have := tk_only (wrL l) (by rw [h])
  rw [h] at this
  exact this.1
 ·intro h
  have := tk_back l h []
  simpa using this
theorem Good.may {l : Ltr} (h : Good l) : mayL l = true := (mayL_good l).2 h
theorem not_may {l : Ltr} (h : ¬ Good l) : mayL l = false := by
 cases e : mayL l with
 | true => exact absurd ((mayL_good l).1 e) h
 | false => rfl
end Go.Proofs.YtkamcoechjdgpaaGreat
