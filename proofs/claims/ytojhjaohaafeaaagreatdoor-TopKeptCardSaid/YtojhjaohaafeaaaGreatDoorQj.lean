/-
  Several texts in one: Nt, Nu, Fg, Nw, Fe, Fh, Fi, Hr.
-/
import Derived.RangeFuncNested
import Derived.RangeFuncBound
import Derived.RangeFuncCalls
import Derived.RangeFuncLeaves
import Derived.RangeFuncBox
import Derived.Shelf.Abstract
import Derived.Shelf.RegionOpen
import Derived.WalkKit
import Derived.OwnWalkIn
import Derived.TacticsInMore
import Derived.LoopNIn
import Derived.LoopIn
import Derived.Maps.AppendAt
import Derived.Lib.SlKeysI
import Derived.Shelf.Sort.Plain
import Derived.Test.YtojhjaohaafeaaaGreatDoorProg
import Derived.Test.YtojhjaohaafeaaaGreatDoorQi
import Derived.Lib.OthersKept
import Derived.Lib.TrimU
import Derived.Deep.LoopGhost
import Derived.Shelf.Strings.Count
import Derived.Shelf.Strings.Search3
import Derived.Shelf.Small.Strs
import Derived.Test.YtojhjaohaafeaaaGreatDoorQe
import Derived.Test.YtojhjaohaafeaaaGreatDoorQf
set_option maxRecDepth 20000
set_option maxHeartbeats 8000000
noncomputable section
namespace Go.Proofs.YtojhjaohaafeaaaGreatDoor
open Go.Proofs Go.RowKit Go.Shelf Go.Sort
attribute [local go_sem] Oper.semAt_some
set_option linter.unusedVariables false
def lays189_ren:Go.Shelf.Ren:=⟨fun|125=>307|128=>348|129=>213|189=>276|215=>169|216=>345|257=>306|294=>339|295=>340|296=>341|297=>342|298=>343|299=>344|300=>346|301=>347|328=>373|329=>374|330=>375|331=>376|332=>377|343=>393|n=>n,fun|0=>0|3=>3|4=>4|5=>5|9=>9|28=>38|46=>245|51=>241|53=>239|131=>223|182=>481|183=>482|218=>512|222=>338|228=>532|229=>533|n=>n,fun|n=>n⟩
theorem lays189:Go.Proofs.Lays.n189 Tryz.prog lays189_ren:={
 mixed:=by kernel_rfl
 f125:=Tryz.func307.trans (congrArg some (by kernel_rfl))
 f128:=Tryz.func348.trans (congrArg some (by kernel_rfl))
 f129:=Tryz.func213.trans (congrArg some (by kernel_rfl))
 f189:=Tryz.func276.trans (congrArg some (by kernel_rfl))
 f215:=Tryz.func169.trans (congrArg some (by kernel_rfl))
 f216:=Tryz.func345.trans (congrArg some (by kernel_rfl))
 f257:=Tryz.func306.trans (congrArg some (by kernel_rfl))
 f294:=Tryz.func339.trans (congrArg some (by kernel_rfl))
 f295:=Tryz.func340.trans (congrArg some (by kernel_rfl))
 f296:=Tryz.func341.trans (congrArg some (by kernel_rfl))
 f297:=Tryz.func342.trans (congrArg some (by kernel_rfl))
 f298:=Tryz.func343.trans (congrArg some (by kernel_rfl))
 f299:=Tryz.func344.trans (congrArg some (by kernel_rfl))
 f300:=Tryz.func346.trans (congrArg some (by kernel_rfl))
 f301:=Tryz.func347.trans (congrArg some (by kernel_rfl))
 f328:=Tryz.func373.trans (congrArg some (by kernel_rfl))
 f329:=Tryz.func374.trans (congrArg some (by kernel_rfl))
 f330:=Tryz.func375.trans (congrArg some (by kernel_rfl))
 f331:=Tryz.func376.trans (congrArg some (by kernel_rfl))
 f332:=Tryz.func377.trans (congrArg some (by kernel_rfl))
 f343:=Tryz.func393.trans (congrArg some (by kernel_rfl))
 t0:=Tryz.underlying0
 a0:=Tryz.isAgg0
 z0:=Tryz.sizeOf0
 v0:=Tryz.zeroValue0
 t3:=Tryz.underlying3
 a3:=Tryz.isAgg3
 z3:=Tryz.sizeOf3
 v3:=Tryz.zeroValue3
 t4:=Tryz.underlying4
 a4:=Tryz.isAgg4
 z4:=Tryz.sizeOf4
 v4:=Tryz.zeroValue4
 t5:=Tryz.underlying5
 a5:=Tryz.isAgg5
 z5:=Tryz.sizeOf5
 v5:=Tryz.zeroValue5
 t9:=Tryz.underlying9
 a9:=Tryz.isAgg9
 z9:=Tryz.sizeOf9
 v9:=Tryz.zeroValue9
 t28:=Tryz.underlying38
 a28:=Tryz.isAgg38
 z28:=Tryz.sizeOf38
 v28:=Tryz.zeroValue38
 t46:=Tryz.underlying245
 a46:=Tryz.isAgg245
 z46:=Tryz.sizeOf245
 v46:=Tryz.zeroValue245
 t51:=Tryz.underlying241
 a51:=Tryz.isAgg241
 z51:=Tryz.sizeOf241
 v51:=Tryz.zeroValue241
 t53:=Tryz.underlying239
 a53:=Tryz.isAgg239
 z53:=Tryz.sizeOf239
 v53:=Tryz.zeroValue239
 t131:=Tryz.underlying223
 a131:=Tryz.isAgg223
 z131:=Tryz.sizeOf223
 v131:=Tryz.zeroValue223
 t182:=Tryz.underlying481
 a182:=Tryz.isAgg481
 z182:=Tryz.sizeOf481
 v182:=Tryz.zeroValue481
 t183:=Tryz.underlying482
 a183:=Tryz.isAgg482
 z183:=Tryz.sizeOf482
 v183:=Tryz.zeroValue482
 t218:=Tryz.underlying512
 a218:=Tryz.isAgg512
 z218:=Tryz.sizeOf512
 v218:=Tryz.zeroValue512
 t222:=Tryz.underlying338
 a222:=Tryz.isAgg338
 z222:=Tryz.sizeOf338
 v222:=Tryz.zeroValue338
 t228:=Tryz.underlying532
 a228:=Tryz.isAgg532
 z228:=Tryz.sizeOf532
 v228:=Tryz.zeroValue532
 t229:=Tryz.underlying533
 a229:=Tryz.isAgg533
 z229:=Tryz.sizeOf533
 v229:=Tryz.zeroValue533 }
def upto(f:Nat→Int)(k:Nat):List Int:=(List.range k).map f
theorem upto_succ(f:Nat→Int)(k:Nat):upto f (k+1)=upto f k++[f k]:=by simp[upto,List.range_succ]
theorem upto_length(f:Nat→Int)(k:Nat):(upto f k).length=k:=by simp[upto]
theorem upto_all(zs:List Int):upto (fun j=>zs[j]?.getD 0) zs.length=zs:=by
 apply List.ext_getElem
 ·simp[upto]
 ·intro i h1 h2
  simp[upto,h2]
theorem upto_take(zs:List Int){k:Nat}(hk:k≤zs.length):upto (fun j=>zs[j]?.getD 0) k=zs.take k:=by
 apply List.ext_getElem
 ·simp[upto,hk]
 ·intro i h1 h2
  have:i<zs.length:=by simp[upto] at h1;omega
  simp[upto,this]
def SInts(n₀:Nat)(W:World)(sv:Value)(zs:List Int):Prop:=∃ b off cap,sv=.slice (some ⟨b,off,none⟩) zs.length cap∧b<n₀∧∀ j,j<zs.length→W.cell? ⟨b,off+j,none⟩=some (.int .i64 (zs[j]?.getD 0))
theorem SInts.below{n₀:Nat}{A B:World}(h:Below n₀ A B){sv:Value}{zs:List Int}:SInts n₀ A sv zs→SInts n₀ B sv zs:=
 fun⟨b,off,cap,e,hb,hc⟩=>⟨b,off,cap,e,hb,fun j hj=>(h.cell (p:=⟨b,off+j,none⟩) hb).trans (hc j hj)⟩
theorem SInts.more{n₀ n₁:Nat}{A:World}(hn:n₀≤n₁){sv:Value}{zs:List Int}:SInts n₀ A sv zs→SInts n₁ A sv zs:=
 fun⟨b,off,cap,e,hb,hc⟩=>⟨b,off,cap,e,by omega,hc⟩
theorem vals1_in(F:Fence)(n:Nat)(hf:F.fn 277)(hro:F.round=none)(hn:1≤n)(l Bs n₀ b off len cap:Nat)(zs:List Int)(hreach:len*8≤140737488351232)(hb:b<n₀)(J Jx:List Int→World→Prop)
  (hY:∀ pre x W,J pre W→pre.length<len→YieldAt F (n-1) Tryz.prog l #[.int .i64 x] W fun e W'=>
   (e=.returned (.bool true)∧J (pre++[x]) W'∧Below n₀ W W')∨(e=.returned (.bool false)∧Jx (pre++[x]) W'))
  (W:World) (hBs:W.cell? ⟨Bs,0,none⟩=some (.slice (some ⟨b,off,none⟩) len cap)) (hc:∀ j,j<len→W.cell? ⟨b,off+j,none⟩=some (.int .i64 (zs[j]?.getD 0))) (h0:J [] W) :
  CallsIn F n Tryz.prog 277 #[.func (.yield l) #[] #[],.pointer (some ⟨Bs,0,none⟩)] W fun e W'=>(∃ v,e=.returned v) ∧
   ((∃ ys,ys=upto (fun j=>zs[j]?.getD 0) len∧J ys W')∨(∃ pre,(∃ k,k≤len∧pre=upto (fun j=>zs[j]?.getD 0) k)∧Jx pre W')):=by
 refine callsIn_of_wp Tryz.func277 rfl hf ?_ hro
 simp only[Tryz.ntmps277,List.size_toArray,Ya,Y9,Nat.reduceAdd,Nat.reduceSub,Array.replicate_succ,Array.replicate_zero,List.push_toArray,List.append_toArray,Y3,Y5]
 gi_wp2
 gi_loopw [7] (fun i wr=>∃ k:Nat,k≤len∧i=.int .i64 k∧J (upto (fun j=>zs[j]?.getD 0) k) wr∧Below n₀ W wr)
  (fun i _=>len-(intOf i).toNat)
 case atStart=>exact⟨0,Nat.zero_le _,rfl,h0,Below.refl _ _⟩
 case round=>
  obtain⟨k,hk,rfl,hJs,hnx⟩:=hrel
  have hcx:k<len→wr.cell? ⟨b,off+k,none⟩=some (.int .i64 (zs[k]?.getD 0)):=fun h=>(hnx.cell (p:=⟨b,off+k,none⟩) hb).trans (hc k h)
  by_cases hlt:k<len
  ·obtain⟨fn,tmps,assign,body,hy,hR⟩:=hY _ (zs[k]?.getD 0) wr hJs (by rw[upto_length];exact hlt)
   have hcx':=hcx hlt
   gi_wp2
   refine hR.mono ?_
   rintro e W3 (⟨rfl,hJ3,hk3⟩|⟨rfl,hJx3⟩)
   ·gi_wp2
    go_roundw
    case rel=>exact⟨k+1,by omega,by simp,by rw[upto_succ];exact hJ3,hnx.trans hk3⟩
    case measure=>simp[intOf];omega
   ·gi_wp2
    refine bodyPost_ret (results_none rfl _ _ _) rfl ?_
    exact⟨⟨_,rfl⟩,.inr ⟨_,⟨k+1,by omega,(upto_succ _ _).symm⟩,hJx3⟩⟩
  ·obtain rfl:k=len:=by omega
   gi_wp2
   go_end0
   exact⟨⟨_,rfl⟩,.inl ⟨_,rfl,hJs⟩⟩
theorem vals_in(F:Fence)(n:Nat)(hf:F.fn 237)(hro:F.round=none)(a:Option Addr)(len cap:Nat)(w:World) :
  CallsIn F n Tryz.prog 237 #[.slice a len cap] w fun e w'=>e=.returned (.func (.func 277) #[] #[.pointer (some ⟨w.heap.size,0,none⟩)])∧w'=w.alloc (.cells #[.slice a len cap] 38):=by
 refine callsIn_of_wp Tryz.func237 rfl hf ?_ hro
 simp only[Tryz.ntmps237,List.size_toArray,Ya,Y9,Nat.reduceAdd,Nat.reduceSub,Array.replicate_succ,Array.replicate_zero,List.push_toArray,List.append_toArray,Y3,Y5]
 gi_wp2
 go_ret
 exact⟨rfl,rfl⟩
theorem vals_stops(F:Fence)(n:Nat)(hf:F.fn 277)(hro:F.round=none)(hn:1≤n)(Bs n₀:Nat)(sv:Value)(zs:List Int)(hreach:zs.length*8≤140737488351232)(w:World)(hBs:Bs<w.heap.size)(hn₀:n₀≤w.heap.size)
  (hc:w.cell? ⟨Bs,0,none⟩=some sv) (hI:SInts n₀ w sv zs) :
  SeqStopsK F n Tryz.prog 277 #[.pointer (some ⟨Bs,0,none⟩)] (fun x:Int=>#[Value.int .i64 x]) (Below n₀) (fun ys=>ys=zs) (fun pre=>pre <+: zs) zs.length w:=fun l J Jx W hW _ _ hY h0=>by
 have hc':=(hW.cell (p:=⟨Bs,0,none⟩) hBs).trans hc
 obtain⟨b,off,cap,rfl,hb,hcs⟩:=hI.below (hW.mono hn₀)
 refine(vals1_in F n hf hro hn l Bs n₀ b off zs.length cap zs hreach hb J Jx hY W hc' hcs h0).mono ?_
 rintro e W' ⟨he,⟨ys,rfl,hj⟩|⟨pre,⟨k,hk,rfl⟩,hj⟩⟩
 ·exact⟨he,.inl ⟨_,upto_all zs,hj⟩⟩
 ·exact⟨he,.inr ⟨_,by rw[upto_take zs hk];exact List.take_prefix _ _,hj⟩⟩
theorem int_info:(Tryz.prog.info? 3).map (fun i=>(i.zero,i.size,i.bytes))=some (some (.int .i64 0),1,8):=by kernel_rfl
theorem row_ne{W:World}{base:Nat}{e:TypeId}{size:Nat}{v:Value}{k:Nat}{xs:List Value}(h:W.ownsRow base e size v k xs){j:Nat}{o:Obj}(hj:W.heap[j]? = some o)(hno:∀ cur,o≠.cells cur e (0,0)):v.ownBlock=none∨v.ownBlock≠some j:=by
 rcases h.2 with⟨rfl,_⟩|⟨g,cap,cur,rfl,_,hgb,_⟩
 ·exact .inl rfl
 ·refine .inr fun e'=>?_
  obtain rfl:g=j:=by simpa [Value.ownBlock] using e'
  rw[hgb] at hj
  exact hno cur (Option.some.inj hj).symm
theorem apseq_in(F:Fence)(n:Nat)(hf:F.fn 305)(hf1:F.fn 277)(hro:F.round=none)(hn:3≤n)(Bs:Nat)(sv:Value)(zs:List Int)(hreach:zs.length≤1000000)(w:World)(hBs:Bs<w.heap.size)(hc:w.cell? ⟨Bs,0,none⟩=some sv)(hI:SInts w.heap.size w sv zs) :
  CallsIn F n Tryz.prog 305 #[.slice none 0 0,.func (.func 277) #[] #[.pointer (some ⟨Bs,0,none⟩)]] w fun e w'=>∃ v,e=.returned v∧w'.ownsRow w.heap.size 3 1 v zs.length (zs.map (Value.int .i64))∧Below w.heap.size w w':=by
 have h1:1≤n:=by omega
 obtain⟨i0,hi,hz0,hz1,hz2⟩:=info_parts int_info
 refine callsIn_of_wp_marks Tryz.func305 rfl hf ?_ hro
 simp only[Tryz.ntmps305,List.size_toArray,Ya,Y9,Nat.reduceAdd,Nat.reduceSub,Array.replicate_succ,Array.replicate_zero,List.push_toArray,List.append_toArray,Y3,Y5]
 gi_wp2
 have bS:=Boxed.new w 38 (.slice none 0 0)
 have hB0:Below w.heap.size w (w.alloc (.cells #[.slice none 0 0] 38)):=(Below.refl _ w).alloc (Nat.le_refl _) _
 refine wpIn_rangeFunc_ownG hro h1 (gf:=277) (lb:=#[.pointer (some ⟨Bs,0,none⟩)]) rfl hf1 (enters_of Tryz.func277 (by kernel_rfl) rfl)
  (vals_stops F (n-1) hf1 hro (by omega) Bs w.heap.size sv zs (by omega) _ (by simp;omega) (by simp) ((hB0.cell (p:=⟨Bs,0,none⟩) hBs).trans hc) (hI.below hB0)) belowK_t (belowK_b (by simp)) (Below.refl _ _) (fun _=>rfl)
  (fun pre W=>(∃ v,Boxed W w.heap.size 38 v∧W.ownsRow w.heap.size 3 1 v pre.length (pre.map (Value.int .i64))∧(v=.slice none 0 0↔pre=[]))∧Below w.heap.size w W)
  (fun _ _ _=>False)
  (OwnFrom.and (Own.from (holdsRow_own w.heap.size w.heap.size 38 3 1 (fun pre=>pre.length) (fun pre=>pre.map (Value.int .i64)) (fun pre v=>(v=.slice none 0 0↔pre=[]))) _) (ownFrom_below (Nat.le_refl _) (by simp)))
  (fun _ _ _ _ _ hs _ _=>hs)
  ⟨⟨_,bS,World.ownsRow_nil _ _ _ _,by simp⟩,hB0⟩
  (fun x=>{ tmps:=#[.slice none 0 0,.func (.func 277) #[] #[.pointer (some ⟨Bs,0,none⟩)],.pointer (some ⟨w.heap.size,0,none⟩),undef,.slice none 0 0,.int .i64 x,.func (.func 277) #[] #[.pointer (some ⟨Bs,0,none⟩)],.int .i64 x,undef,undef,undef,undef,undef],defers:=[] }) ?assign ?body ?done ?stop
 case assign=>
  intro l x W K hK
  gi_wp2
  exact hK
 case body=>
  rintro l pre x W ⟨⟨v,hv,hrow,hnil⟩,hB⟩ hlen
  have hvc:=hv.cell
  have hmax:pre.length+1≤maxLen:=by unfold maxLen;omega
  gi_wp2_with (gi_at_builtin;refine wpListIn_append_own _ rfl _ _ 38 rfl w.heap.size 3 i0 (.int .i64 0) 1 8 Tryz.underlying38 hi hz0 hz1 hz2 rfl (by decide) _ _ _ rfl (hrow.alloc _) ⟨W.heap.size,0,none⟩ 1 1 [.int .i64 x] rfl rfl (cell_one_new _ _ _) (by simp[Value.oneCell']) (by omega) (by omega) (by have:=hB.size;simp;omega) ?_;intro v' w1 hown' hgrow _;obtain⟨g',cap',rfl⟩:=ownsRow_succ hown';obtain⟨hv1,hv2,hr2,hk2,hb2⟩:=hv.appended (by decide) hrow hB.size (Nat.le_refl _) hown' hgrow;have hc1:=hv1.cell;have hf1:=hv1.frozen)
  exact⟨hk2.from _,hb2,⟨_,hv2,by simpa using hr2,by simp⟩,hB.trans hb2⟩
 case done=>
  rintro D ys W hD rfl ⟨⟨v,hv,hrow,hnil⟩,hB⟩ hK
  have hvc:=hv.cell
  gi_wp2
  refine⟨by simp,.inl ⟨_,_,rfl,run_takeDeferred hK,?_⟩⟩
  exact⟨_,results_tmp rfl _ _ _,v,rfl,hrow.kept (grownBy_putObj' _ D (.deferred none)) (row_ne hrow hK (fun cur e=>by cases e)),hB.trans (belowK_b (w:=w) (Nat.le_refl _) W D _ _ (by simp at hD;omega) hK rfl rfl)⟩
 case stop=>
  rintro D c pre W _ _ h _
  exact h.elim
theorem coll_in(F:Fence)(n:Nat)(hf:F.fn 275)(hf2:F.fn 305)(hf1:F.fn 277)(hro:F.round=none)(hn:4≤n)(Bs:Nat)(sv:Value)(zs:List Int)(hreach:zs.length≤1000000)(w:World)(hBs:Bs<w.heap.size)(hc:w.cell? ⟨Bs,0,none⟩=some sv)(hI:SInts w.heap.size w sv zs) :
  CallsIn F n Tryz.prog 275 #[.func (.func 277) #[] #[.pointer (some ⟨Bs,0,none⟩)]] w fun e w'=>∃ v,e=.returned v∧w'.ownsRow w.heap.size 3 1 v zs.length (zs.map (Value.int .i64))∧Below w.heap.size w w':=by
 have h1:1≤n:=by omega
 refine callsIn_of_wp Tryz.func275 rfl hf ?_ hro
 simp only[Tryz.ntmps275,List.size_toArray,Ya,Y9,Nat.reduceAdd,Nat.reduceSub,Array.replicate_succ,Array.replicate_zero,List.push_toArray,List.append_toArray,Y3,Y5]
 gi_wp2_with (gi_at_call 305;refine(apseq_in F (n-1) hf2 hf1 hro (by omega) Bs sv zs hreach _ hBs hc hI).mono ?_;rintro e w' ⟨v,rfl,hrow,hb⟩)
 go_ret
 exact⟨v,rfl,hrow,hb⟩
theorem sorted9_in(n:Nat)(hn:5≤n)(Bs:Nat)(sv:Value)(zs:List Int)(hreach:zs.length≤1000000)(hne:0<zs.length)(w:World)(hBs:Bs<w.heap.size)(hc:w.cell? ⟨Bs,0,none⟩=some sv)(hI:SInts w.heap.size w sv zs) :
  CallsIn Fence.wide n Tryz.prog 236 #[.func (.func 277) #[] #[.pointer (some ⟨Bs,0,none⟩)]] w fun e w'=>∃ g cap,e=.returned (.slice (some ⟨g,0,none⟩) zs.length cap)∧(∀ j,j<zs.length→w'.cell? ⟨g,j,none⟩=some (.int .i64 ((zs.mergeSort fun x y=>decide (x≤y))[j]?.getD 0)))∧Below w.heap.size w w':=by
 have hfC:Fence.wide.fn 275:=trivial
 have hfS:Fence.wide.fn 276:=trivial
 have h1:1≤n:=by omega
 refine callsIn_of_wp Tryz.func236 rfl trivial ?_ rfl
 simp only[Tryz.ntmps236,List.size_toArray,Ya,Y9,Nat.reduceAdd,Nat.reduceSub,Array.replicate_succ,Array.replicate_zero,List.push_toArray,List.append_toArray,Y3,Y5]
 gi_wp2_with (gi_at_call 275;refine(coll_in Fence.wide (n-1) trivial trivial trivial rfl (by omega) Bs sv zs hreach _ hBs hc hI).mono ?_;rintro e W ⟨v,rfl,hrow,hb⟩)
 rcases hrow.2 with⟨rfl,hz⟩|⟨gb,cap,cur,rfl,hbase,hgb,r1,r2,r3,r4⟩
 ·omega
 ·have hH:Holds (Value.int .i64) W gb 0 zs.toArray:=holds_of_block_i hgb (by simpa using r4)
  have hgl:gb<W.heap.size:=(Array.getElem?_eq_some_iff.1 hgb).1
  have cS:CallsIn Fence.wide (n-1) Tryz.prog 276 #[.slice (some ⟨gb,0,none⟩) zs.length cap] W fun e w'=>e=.returned (.tuple #[])∧∃ n os,w'=grow (putRow (Value.int .i64) (Sort.ahead W n) gb 0 (zs.mergeSort fun x y=>decide (x≤y)).toArray) os:=callsIn_wide.2 (Any.slices_Sort_int lays189 gb 0 cap zs W hH hgl (by omega))
  gi_wp2_with (gi_at_call 276;refine cS.mono ?_;rintro e w' ⟨rfl,nn,os,rfl⟩)
  go_ret
  refine⟨gb,cap,rfl,fun j hj=>?_,hb.grown (grownBy_sorted_i _) hb.size (fun j hj=>by cases hj;exact hbase)⟩
  have hs:=ownsRow_sorted_i (os:=os) (n:=nn) (ts:=zs.mergeSort fun x y=>decide (x≤y)) (by simp) hbase hgb r1 r2 r3
  rcases hs.2 with⟨h,_⟩|⟨g2,cap2,cur2,e2,_,hg2,_,_,s3,s4⟩
  ·cases h
  ·cases e2
   unfold World.cell?
   rw[hg2]
   have:cur2.toList[j]? = some (.int .i64 ((zs.mergeSort fun x y=>decide (x≤y))[j]?.getD 0)):=by
    have h1:(cur2.toList.take (zs.length*1))[j]? = ((zs.mergeSort fun x y=>decide (x≤y)).map encZ)[j]?:=by rw[s4]
    rw[List.getElem?_take_of_lt (by omega),Vg] at h1
    rw[h1]
    have hj':j<(zs.mergeSort fun x y=>decide (x≤y)).length:=by simpa using hj
    rw[Vb hj']
    rfl
   simpa using this
def nthV(zs:List Int)(k:Int):Int:=if k<1∨(zs.length:Int)<k then 0 else((zs.mergeSort fun x y=>decide (x≤y))[zs.length-k.toNat]?.getD 0)
theorem nth_calls(A:Option Addr)(cap:Nat)(zs:List Int)(k:Int)(w:World)(hk:-9223372036854775808≤k∧k≤9223372036854775807)(hreach:zs.length≤1000000)(hI:zs≠[]→SInts w.heap.size w (.slice A zs.length cap) zs) :
  Calls Tryz.prog 190 #[.slice A zs.length cap,.int .i64 k] w fun e w'=>e=.returned (.int .i64 (nthV zs k))∧Below w.heap.size w w':=by
 refine(callsIn_wide (n:=6)).1 ?_
 have hfV:Fence.wide.fn 237:=trivial
 have hfS:Fence.wide.fn 236:=trivial
 refine callsIn_of_wp Tryz.func190 rfl trivial ?_ rfl
 simp only[Tryz.ntmps190,List.size_toArray,Ya,Y9,Nat.reduceAdd,Nat.reduceSub,Array.replicate_succ,Array.replicate_zero,List.push_toArray,List.append_toArray,Y3,Y5]
 by_cases h1:k<1
 ·gi_wp2
  go_ret
  exact⟨by simp[nthV,h1],Below.refl _ _⟩
 ·by_cases h2:(zs.length:Int)<k
  ·gi_wp2
   go_ret
   exact⟨by simp[nthV,h2],Below.refl _ _⟩
  ·have hne:0<zs.length:=by omega
   have hI:=hI (List.ne_nil_of_length_pos hne)
   have hW:Below w.heap.size w (w.alloc (.cells #[.slice A zs.length cap] 38)):=(Below.refl _ w).alloc (Nat.le_refl _) _
   have cS:=sorted9_in 5 (by omega) w.heap.size (.slice A zs.length cap) zs hreach hne (w.alloc (.cells #[.slice A zs.length cap] 38)) (by simp) (Boxed.new w 38 _).cell ((hI.below hW).more (by simp))
   gi_wp2_with (first
    |(gi_at_call 237;refine(vals_in Fence.wide 5 trivial rfl _ _ _ _).mono ?_;rintro e w' ⟨rfl,rfl⟩)
    |(gi_at_call 236;refine cS.mono ?_;rintro e w' ⟨g,cap2,rfl,hcs,hb⟩;have hcell:=hcs ((zs.length:Int)-k).toNat (by omega)))
   go_ret
   refine⟨?_,hW.trans (hb.mono (by simp))⟩
   have e:((zs.length:Int)-k).toNat=zs.length-k.toNat:=by omega
   rw[nthV,if_neg (by omega),e]
   rfl
end Go.Proofs.YtojhjaohaafeaaaGreatDoor
namespace Go.Proofs.YtojhjaohaafeaaaGreatDoor
open Go.Proofs Go.RowKit
set_option linter.unusedVariables false
/-! ### a sort for the kernel -/
def ins9(x:Int)(l:List Int):List Int:=List.rec (motive:=fun _=>List Int) [x] (fun y l ih=>Bool.rec (motive:=fun _=>List Int) (x::y::l) (y::ih) (ilt9 y x)) l
def srt9(l:List Int):List Int:=List.rec (motive:=fun _=>List Int) [] (fun x _ ih=>ins9 x ih) l
theorem ins9_perm(x:Int):∀ l:List Int,(ins9 x l).Perm (x::l)
 |[]=>.refl _
 |y::l=>by
  show List.Perm (Bool.rec (motive:=fun _=>List Int) (x::y::l) (y::ins9 x l) (ilt9 y x)) _
  cases ilt9 y x with
  |false=>exact .refl _
  |true=>exact((ins9_perm x l).cons y).trans (.swap _ _ _)
theorem srt9_perm:∀ l:List Int,(srt9 l).Perm l
 |[]=>.refl _
 |x::l=>(ins9_perm x (srt9 l)).trans ((srt9_perm l).cons x)
theorem ins9_sorted(x:Int):∀ l:List Int,l.Pairwise (·≤·)→(ins9 x l).Pairwise (·≤·)
 |[],_=>by simp[ins9]
 |y::l,h=>by
  rw[List.pairwise_cons] at h
  show List.Pairwise _ (Bool.rec (motive:=fun _=>List Int) (x::y::l) (y::ins9 x l) (ilt9 y x))
  cases hb:ilt9 y x with
  |false=>
   rw[ilt9_eq,decide_eq_false_iff_not] at hb
   rw[List.pairwise_cons]
   refine⟨fun z hz=>?_,List.pairwise_cons.2 h⟩
   rcases List.mem_cons.1 hz with rfl|hz
   ·omega
   ·have:=h.1 z hz;omega
  |true=>
   rw[ilt9_eq,decide_eq_true_eq] at hb
   rw[List.pairwise_cons]
   refine⟨fun z hz=>?_,ins9_sorted x l h.2⟩
   rcases List.mem_cons.1 ((ins9_perm x l).mem_iff.1 hz) with rfl|hz
   ·omega
   ·exact h.1 z hz
theorem srt9_sorted:∀ l:List Int,(srt9 l).Pairwise (·≤·)
 |[]=>.nil
 |x::l=>ins9_sorted x _ (srt9_sorted l)
theorem srt9_eq(l:List Int):l.mergeSort (fun x y=>decide (x≤y))=srt9 l:=by
 have h1:(l.mergeSort fun x y=>decide (x≤y)).Pairwise (·≤·):=by
  have:=List.pairwise_mergeSort (le:=fun x y:Int=>decide (x≤y)) (fun a b c h1 h2=>by simp only[decide_eq_true_eq] at *;omega) (fun a b=>by simp only[Bool.or_eq_true,decide_eq_true_eq];omega) l
  exact this.imp fun h=>by simpa using h
 exact List.Perm.eq_of_pairwise (fun a b _ _ h1 h2=>by omega) h1 (srt9_sorted l) ((List.mergeSort_perm l _).trans (srt9_perm l).symm)
def nat9(k:Int):Nat:=Int.rec (motive:=fun _=>Nat) (fun n=>n) (fun _=>0) k
theorem nat9_eq(k:Int):nat9 k=k.toNat:=by cases k<;>rfl
def nth9V(zs:List Int)(k:Int):Int:=Bool.rec (motive:=fun _=>Int) (Bool.rec (motive:=fun _=>Int) (nth9 (0:Int) (srt9 zs) (Nat.sub (len9 zs) (nat9 k)) fun x=>x) 0 (ilt9 (Int.ofNat (len9 zs)) k)) 0 (ilt9 k (Int.ofNat 1))
theorem nth9V_eq(zs:List Int)(k:Int):nth9V zs k=nthV zs k:=by
 unfold nth9V nthV
 rw[ilt9_eq,ilt9_eq,len9_eq,nat9_eq,nth9_eq,srt9_eq]
 by_cases h1:k<1
 ·rw[if_pos (.inl h1),show decide (k<Int.ofNat 1)=true from decide_eq_true h1]
 ·rw[show decide (k<Int.ofNat 1)=false from decide_eq_false h1]
  by_cases h2:(zs.length:Int)<k
  ·rw[if_pos (.inr h2),show decide (Int.ofNat zs.length<k)=true from decide_eq_true h2]
  ·rw[if_neg (by omega),show decide (Int.ofNat zs.length<k)=false from decide_eq_false h2]
   rw[show Nat.sub zs.length k.toNat=zs.length-k.toNat from rfl]
   cases(srt9 zs)[zs.length-k.toNat]?<;>rfl
/-! ### rows of whole numbers -/
def intC(z:Int):List AV:=[.int .i64 z]
def int1:List AV→Option Int:=fun e=>match e with
 |[.int .i64 n]=>some n
 |_=>none
theorem int1_ok{c:List AV}{n:Int}(h:int1 c=some n):c=intC n:=by
 unfold int1 at h
 split at h
 ·cases h;rfl
 ·cases h
theorem ints_ok{l:List (List AV)}{m:List Int}(h:mapO int1 l=some m):l=m.map intC:=by
 obtain⟨h1,h2⟩:=mapO_ok h
 apply List.ext_getElem?
 intro i
 rw[Vg]
 cases hm:m[i]? with
 |none=>
  have:=List.getElem?_eq_none_iff.1 hm
  rw[List.getElem?_eq_none (by omega)];rfl
 |some a=>
  obtain⟨c,hc,ha⟩:=h2 i a hm
  rw[hc,int1_ok ha];rfl
theorem rv_ints{c:Cx}{v:Value}{zs:List Int}{t:Tk}(h:RV c v (.sl 1 (zs.map intC) t)):∃ A cap,v=.slice A zs.length cap∧(zs≠[]→SInts c.w.heap.size c.w (.slice A zs.length cap) zs):=by
 cases h with
 |sl _ _ _ A n cap b o vs hn hcap hm hA hk hc hr ht=>
  rw[List.length_map] at hn
  subst hn
  refine⟨A,cap,rfl,fun hne=>?_⟩
  have hA:=hA (by simpa using hne)
  subst hA
  have key:∀ j,j<zs.length→b<c.w.heap.size∧c.w.cell? ⟨b,o+j,none⟩=some (.int .i64 (zs[j]?.getD 0)):=fun j hj=>by
   have e1:(zs.map intC)[j]? = some (intC zs[j]):=by rw[Vg,Vb hj];rfl
   obtain⟨_,him,hcell⟩:=hc j _ 0 _ e1 rfl
   have hv:=hr j _ 0 _ e1 rfl
   rw[Nat.mul_one,Nat.add_zero] at him hcell
   generalize vs j 0=u at hv hcell
   cases hv
   exact⟨him.1,by rw[hcell,Vb hj];rfl⟩
  exact⟨b,o,cap,rfl,(key 0 (List.length_pos_iff.2 hne)).1,fun j hj=>(key j hj).2⟩
theorem rv_msints{c:Cx}(hc:RelH c){v:Value}{zs:List Int}{i:Nat}(hi:c.h[i]? = some (.rows 1 (zs.map intC)))(h:RV c v (.msu i 1 zs.length)):∃ A cap,v=.slice A zs.length cap∧(zs≠[]→SInts c.w.heap.size c.w (.slice A zs.length cap) zs):=by
 cases h with
 |msu _ _ _ cap b hk hb ht hcap hm hs=>
  refine⟨_,cap,rfl,fun hne=>?_⟩
  obtain⟨b',vs,e,hb',hcell,_,hr⟩:=hc.blk i _ hi
  rw[hb] at hb'
  cases hb'
  refine⟨b,0,cap,rfl,hc.here i _ b hi hb,fun j hj=>?_⟩
  have e1:(zs.map intC)[j]? = some (intC zs[j]):=by rw[Vg,Vb hj];rfl
  obtain⟨u,hu,hv⟩:=hr j _ 0 _ e1 rfl
  cases hv
  rw[Nat.mul_one,Nat.add_zero] at hu
  rw[Nat.zero_add,Vb hj]
  unfold World.cell?
  rw[hcell]
  simpa using hu
theorem Below.evh{c:Cx}(hc:RelH c){w':World}(hb:Below c.w.heap.size c.w w'):RelH ⟨c.ρ,c.h,w',c.X⟩∧Ev c ⟨c.ρ,c.h,w',c.X⟩:=by
 have hev:Ev c ⟨c.ρ,c.h,w',c.X⟩:=⟨hb.os,hb.tape,hb.output,hb.size,rfl,fun b o h=>⟨⟨Nat.lt_of_lt_of_le h.1 hb.size,h.2.1,h.2.2⟩,cB (hb.block b h.1)⟩,fun b hlt hm=>⟨hb.block b hlt,hm⟩,Nat.le_refl _,
  fun i x hx hf=>⟨x,hx,hf,fun ht=>⟨ht,rfl⟩,fun k n e=>⟨n,e,.inr ⟨rfl,rfl,fun b hbb=>hb.block b (hc.here i x b hx hbb)⟩⟩⟩,keep_old hb.block⟩
 exact⟨⟨hc.inj,fun i x b hx hbb=>Nat.lt_of_lt_of_le (hc.here i x b hx hbb) hb.size,fun i x hx=>(hc.blk i x hx).mono hev rfl fun b _ hbb=>hb.block b (hc.here i x b hx hbb),fun b o h=>⟨Nat.lt_of_lt_of_le (hc.xs b o h).1 hb.size,(hc.xs b o h).2⟩⟩,hev⟩
theorem trel2{c:Cx}{vs:Array Value}{a b:AV}(h:TRel c vs [a,b]):∃ u v,vs=#[u,v]∧RV c u a∧RV c v b:=by
 obtain⟨h1,h2⟩:=h
 obtain⟨vs⟩:=vs
 match vs,h1 with
 |[u,v],_=>exact⟨u,v,rfl,h2 0 u _ rfl rfl,h2 1 v _ rfl rfl⟩
/-! ### what is known of it -/
theorem nth_callable:Callable Tryz.prog 190:=⟨_,Tryz.func190,by kernel_rfl,rfl⟩
def i64b(k:Int):Bool:=Bool.rec (motive:=fun _=>Bool) false (not9 (ilt9 (Int.ofNat 1000000) k)) (not9 (ilt9 k (Int.negSucc 1000000)))
theorem i64b_ok{k:Int}(h:i64b k=true):-9223372036854775808≤k∧k≤9223372036854775807:=by
 unfold i64b at h
 rw[not9_eq,not9_eq,ilt9_eq,ilt9_eq] at h
 cases h1:decide (k<Int.negSucc 1000000) with
 |true=>rw[h1] at h;cases h
 |false=>
  rw[h1] at h
  cases h2:decide (Int.ofNat 1000000<k) with
  |true=>rw[h2] at h;cases h
  |false=>
   rw[decide_eq_false_iff_not] at h1 h2
   simp only[Int.ofNat_eq_natCast] at h1 h2
   omega
def nthR(zs:List Int)(k:Int):Option AV:=match i64b k&&Nat.ble (len9 zs) 1000 with
 |true=>some (.int .i64 (nth9V zs k))
 |false=>none
theorem nthR_ok{zs:List Int}{k:Int}{r:AV}(h:nthR zs k=some r):r=.int .i64 (nthV zs k)∧(-9223372036854775808≤k∧k≤9223372036854775807)∧zs.length≤1000000:=by
 unfold nthR at h
 split at h
 ·rename_i hb
  cases h
  rw[Vi] at hb
  have:=Nat.le_of_ble_eq_true hb.2
  rw[len9_eq] at this
  rw[nth9V_eq]
  exact⟨rfl,i64b_ok hb.1,by omega⟩
 ·cases h
def nthA(args:List AV):Option AV:=match args with
 |[.sl 1 l .no,.int .i64 k]=>match mapO int1 l with
  |some zs=>nthR zs k
  |none=>none
 |_=>none
theorem nthA_ok{args:List AV}{r:AV}(h:nthA args=some r):ASpec Tryz.prog 190 args r:=by
 unfold nthA at h
 split at h
 ·rename_i l k
  split at h
  ·rename_i zs hz
   obtain⟨rfl,hk,hl⟩:=nthR_ok h
   obtain rfl:=ints_ok hz
   refine⟨nth_callable,fun c vs hh hc ht=>?_⟩
   obtain⟨u,v,rfl,hu,hv⟩:=trel2 ht
   cases hv
   obtain⟨A,cap,rfl,hI⟩:=rv_ints hu
   refine(nth_calls A cap zs k c.w hk hl hI).mono ?_
   rintro e w' ⟨rfl,hb⟩
   obtain⟨g1,g2⟩:=Below.evh hc hb
   exact⟨_,_,_,_,rfl,g1,g2,.int _ _,.one (.refl _)⟩
  ·cases h
 ·cases h
def nthL9(zs:List Int)(i n:Nat)(k:Int):Option (Nat×AV×Bool):=match Nat.beq n (len9 zs) with
 |true=>match nthR zs k with
  |some r=>some (i,r,true)
  |none=>none
 |false=>none
def nthL8(i n:Nat)(k:Int):Option ABlk→Option (Nat×AV×Bool)
 |some (.rows 1 L)=>match mapO int1 L with
  |some zs=>nthL9 zs i n k
  |none=>none
 |_=>none
def nthL(args:List AV)(hg:Nat→Option ABlk):Option (Nat×AV×Bool):=match args with
 |[.msu i 1 n,.int .i64 k]=>nthL8 i n k (hg i)
 |_=>none
theorem nthL_ok{args:List AV}{hg:Nat→Option ABlk}{i:Nat}{res:AV}{b:Bool}(h:nthL args hg=some (i,res,b)):Callable Tryz.prog 190∧∀ hh:List ABlk,hh[i]? = hg i→ACall Tryz.prog 190 args hh fun r h'=>r=res∧h'=keepB b hh i:=by
 refine⟨nth_callable,?_⟩
 unfold nthL at h
 split at h
 ·rename_i i0 n k
  unfold nthL8 at h
  split at h
  ·rename_i L hL
   split at h
   ·rename_i zs hz
    unfold nthL9 at h
    split at h
    ·rename_i hn
     split at h
     ·rename_i r hr
      cases h
      obtain⟨rfl,hk,hl⟩:=nthR_ok hr
      obtain rfl:=ints_ok hz
      have hn:=beq_iff.1 hn
      rw[len9_eq] at hn
      subst hn
      intro hh hi c vs hch hc ht
      rw[hL] at hi
      obtain⟨u,v,rfl,hu,hv⟩:=trel2 ht
      cases hv
      obtain⟨A,cap,rfl,hI⟩:=rv_msints hc (by rw[hch];exact hi) hu
      refine(nth_calls A cap zs k c.w hk hl hI).mono ?_
      rintro e w' ⟨rfl,hb⟩
      obtain⟨g1,g2⟩:=Below.evh hc hb
      exact⟨_,_,_,_,rfl,g1,g2,.int _ _,rfl,hch⟩
     ·cases h
    ·cases h
   ·cases h
  ·cases h
 ·cases h
set_option linter.unusedVariables false
def beq8(a b:UInt8):Bool:=Nat.beq a.toNat b.toNat
theorem beq8_eq(a b:UInt8):beq8 a b=(a==b):=by
 unfold beq8
 rw[beq_dec]
 by_cases h:a=b
 ·subst h;simp
 ·rw[decide_eq_false (fun e=>h (UInt8.toNat_inj.1 e))]
  exact(beq_eq_false_iff_ne.2 h).symm
def bqs9(a:List UInt8):List UInt8→Bool:=List.rec (motive:=fun _=>List UInt8→Bool) (fun m=>List.rec (motive:=fun _=>Bool) true (fun _ _ _=>false) m) (fun x _ ih m=>List.rec (motive:=fun _=>Bool) false (fun y m' _=>Bool.rec (motive:=fun _=>Bool) false (ih m') (beq8 x y)) m) a
theorem bqs9_ok:∀ a b:List UInt8,bqs9 a b=true→a=b
 |[],[],_=>rfl
 |[],_::_,h=>by cases h
 |_::_,[],h=>by cases h
 |x::a,y::b,h=>by
  have h:Bool.rec (motive:=fun _=>Bool) false (bqs9 a b) (beq8 x y)=true:=h
  cases hx:beq8 x y with
  |false=>rw[hx] at h;cases h
  |true=>
   rw[hx] at h
   rw[beq8_eq] at hx
   rw[bqs9_ok a b h,eq_of_beq hx]
def bqb9(a b:Bool):Bool:=Bool.rec (motive:=fun _=>Bool) (not9 b) b a
theorem bqb9_ok{a b:Bool}(h:bqb9 a b=true):a=b:=by cases a<;>cases b<;>first|rfl|cases h
def bq9(a:AV):AV→Bool:=AV.rec (motive_1:=fun _=>AV→Bool) (motive_2:=fun _=>List AV→Bool) (motive_3:=fun _=>List (List AV)→Bool) (fun k n v=>AV.rec (motive_1:=fun _=>Bool) (motive_2:=fun _=>Unit) (motive_3:=fun _=>Unit) (fun k2 n2=>Bool.rec (motive:=fun _=>Bool) (false) (ieq9 n n2) (keq9 k k2)) (fun _=>false) (fun _=>false) (false) (fun _ _=>false) (fun _ _=>false) (fun _ _ _ _=>false) (fun _ _ _=>false) (false) (fun _ _=>false) (fun _ _=>false) (fun _ _ _ _ _=>false) (false) (fun _ _ _=>false) (false) (fun _=>false) (false) (fun _ _ _ _ _=>false) (fun _ _ _=>false) (fun _ _ _ _=>false) (fun _ _ _=>false) (false) () (fun _ _ _ _=>()) () (fun _ _ _ _=>()) (v)) (fun b v=>AV.rec (motive_1:=fun _=>Bool) (motive_2:=fun _=>Unit) (motive_3:=fun _=>Unit) (fun _ _=>false) (fun b2=>bqb9 b b2) (fun _=>false) (false) (fun _ _=>false) (fun _ _=>false) (fun _ _ _ _=>false) (fun _ _ _=>false) (false) (fun _ _=>false) (fun _ _=>false) (fun _ _ _ _ _=>false) (false) (fun _ _ _=>false) (false) (fun _=>false) (false) (fun _ _ _ _ _=>false) (fun _ _ _=>false) (fun _ _ _ _=>false) (fun _ _ _=>false) (false) () (fun _ _ _ _=>()) () (fun _ _ _ _=>()) (v)) (fun s v=>AV.rec (motive_1:=fun _=>Bool) (motive_2:=fun _=>Unit) (motive_3:=fun _=>Unit) (fun _ _=>false) (fun _=>false) (fun s2=>bqs9 s s2) (false) (fun _ _=>false) (fun _ _=>false) (fun _ _ _ _=>false) (fun _ _ _=>false) (false) (fun _ _=>false) (fun _ _=>false) (fun _ _ _ _ _=>false) (false) (fun _ _ _=>false) (false) (fun _=>false) (false) (fun _ _ _ _ _=>false) (fun _ _ _=>false) (fun _ _ _ _=>false) (fun _ _ _=>false) (false) () (fun _ _ _ _=>()) () (fun _ _ _ _=>()) (v)) (fun v=>AV.rec (motive_1:=fun _=>Bool) (motive_2:=fun _=>Unit) (motive_3:=fun _=>Unit) (fun _ _=>false) (fun _=>false) (fun _=>false) (true) (fun _ _=>false) (fun _ _=>false) (fun _ _ _ _=>false) (fun _ _ _=>false) (false) (fun _ _=>false) (fun _ _=>false) (fun _ _ _ _ _=>false) (false) (fun _ _ _=>false) (false) (fun _=>false) (false) (fun _ _ _ _ _=>false) (fun _ _ _=>false) (fun _ _ _ _=>false) (fun _ _ _=>false) (false) () (fun _ _ _ _=>()) () (fun _ _ _ _=>()) (v)) (fun _ _ _=>false) (fun _ _ _=>false) (fun k _ tk ih v=>AV.rec (motive_1:=fun _=>Bool) (motive_2:=fun _=>Unit) (motive_3:=fun _=>Unit) (fun _ _=>false) (fun _=>false) (fun _=>false) (false) (fun _ _=>false) (fun _ _=>false) (fun k2 l2 tk2 _=>Bool.rec (motive:=fun _=>Bool) (false) (Tk.rec (motive:=fun _=>Bool) (Tk.rec (motive:=fun _=>Bool) (ih l2) (fun _=>false) (tk2)) (fun _=>false) (tk)) (Nat.beq k k2)) (fun _ _ _=>false) (false) (fun _ _=>false) (fun _ _=>false) (fun _ _ _ _ _=>false) (false) (fun _ _ _=>false) (false) (fun _=>false) (false) (fun _ _ _ _ _=>false) (fun _ _ _=>false) (fun _ _ _ _=>false) (fun _ _ _=>false) (false) () (fun _ _ _ _=>()) () (fun _ _ _ _=>()) (v)) (fun _ _ _ _=>false) (fun v=>AV.rec (motive_1:=fun _=>Bool) (motive_2:=fun _=>Unit) (motive_3:=fun _=>Unit) (fun _ _=>false) (fun _=>false) (fun _=>false) (false) (fun _ _=>false) (fun _ _=>false) (fun _ _ _ _=>false) (fun _ _ _=>false) (true) (fun _ _=>false) (fun _ _=>false) (fun _ _ _ _ _=>false) (false) (fun _ _ _=>false) (false) (fun _=>false) (false) (fun _ _ _ _ _=>false) (fun _ _ _=>false) (fun _ _ _ _=>false) (fun _ _ _=>false) (false) () (fun _ _ _ _=>()) () (fun _ _ _ _=>()) (v)) (fun _ ih v=>AV.rec (motive_1:=fun _=>Bool) (motive_2:=fun _=>Unit) (motive_3:=fun _=>Unit) (fun _ _=>false) (fun _=>false) (fun _=>false) (false) (fun _ _=>false) (fun _ _=>false) (fun _ _ _ _=>false) (fun _ _ _=>false) (false) (fun cs _=>ih cs) (fun _ _=>false) (fun _ _ _ _ _=>false) (false) (fun _ _ _=>false) (false) (fun _=>false) (false) (fun _ _ _ _ _=>false) (fun _ _ _=>false) (fun _ _ _ _=>false) (fun _ _ _=>false) (false) () (fun _ _ _ _=>()) () (fun _ _ _ _=>()) (v)) (fun _ ih v=>AV.rec (motive_1:=fun _=>Bool) (motive_2:=fun _=>Unit) (motive_3:=fun _=>Unit) (fun _ _=>false) (fun _=>false) (fun _=>false) (false) (fun _ _=>false) (fun _ _=>false) (fun _ _ _ _=>false) (fun _ _ _=>false) (false) (fun _ _=>false) (fun cs _=>ih cs) (fun _ _ _ _ _=>false) (false) (fun _ _ _=>false) (false) (fun _=>false) (false) (fun _ _ _ _ _=>false) (fun _ _ _=>false) (fun _ _ _ _=>false) (fun _ _ _=>false) (false) () (fun _ _ _ _=>()) () (fun _ _ _ _=>()) (v)) (fun _ _ _ _ _ _=>false) (fun _=>false) (fun _ _ _ _=>false) (fun _=>false) (fun _ _=>false) (fun _=>false) (fun _ _ _ _ _ _=>false) (fun _ _ _ _=>false) (fun _ _ _ _ _=>false) (fun _ _ _ _=>false) (fun _=>false) (fun m=>List.rec (motive:=fun _=>Bool) true (fun _ _ _=>false) m) (fun _ _ i1 i2 m=>List.rec (motive:=fun _=>Bool) false (fun b m2 _=>Bool.rec (motive:=fun _=>Bool) false (i2 m2) (i1 b)) m) (fun m=>List.rec (motive:=fun _=>Bool) true (fun _ _ _=>false) m) (fun _ _ i1 i2 m=>List.rec (motive:=fun _=>Bool) false (fun b m2 _=>Bool.rec (motive:=fun _=>Bool) false (i2 m2) (i1 b)) m) a
def bqL9(a:List AV):List AV→Bool:=AV.rec_1 (motive_1:=fun _=>AV→Bool) (motive_2:=fun _=>List AV→Bool) (motive_3:=fun _=>List (List AV)→Bool) (fun k n v=>AV.rec (motive_1:=fun _=>Bool) (motive_2:=fun _=>Unit) (motive_3:=fun _=>Unit) (fun k2 n2=>Bool.rec (motive:=fun _=>Bool) (false) (ieq9 n n2) (keq9 k k2)) (fun _=>false) (fun _=>false) (false) (fun _ _=>false) (fun _ _=>false) (fun _ _ _ _=>false) (fun _ _ _=>false) (false) (fun _ _=>false) (fun _ _=>false) (fun _ _ _ _ _=>false) (false) (fun _ _ _=>false) (false) (fun _=>false) (false) (fun _ _ _ _ _=>false) (fun _ _ _=>false) (fun _ _ _ _=>false) (fun _ _ _=>false) (false) () (fun _ _ _ _=>()) () (fun _ _ _ _=>()) (v)) (fun b v=>AV.rec (motive_1:=fun _=>Bool) (motive_2:=fun _=>Unit) (motive_3:=fun _=>Unit) (fun _ _=>false) (fun b2=>bqb9 b b2) (fun _=>false) (false) (fun _ _=>false) (fun _ _=>false) (fun _ _ _ _=>false) (fun _ _ _=>false) (false) (fun _ _=>false) (fun _ _=>false) (fun _ _ _ _ _=>false) (false) (fun _ _ _=>false) (false) (fun _=>false) (false) (fun _ _ _ _ _=>false) (fun _ _ _=>false) (fun _ _ _ _=>false) (fun _ _ _=>false) (false) () (fun _ _ _ _=>()) () (fun _ _ _ _=>()) (v)) (fun s v=>AV.rec (motive_1:=fun _=>Bool) (motive_2:=fun _=>Unit) (motive_3:=fun _=>Unit) (fun _ _=>false) (fun _=>false) (fun s2=>bqs9 s s2) (false) (fun _ _=>false) (fun _ _=>false) (fun _ _ _ _=>false) (fun _ _ _=>false) (false) (fun _ _=>false) (fun _ _=>false) (fun _ _ _ _ _=>false) (false) (fun _ _ _=>false) (false) (fun _=>false) (false) (fun _ _ _ _ _=>false) (fun _ _ _=>false) (fun _ _ _ _=>false) (fun _ _ _=>false) (false) () (fun _ _ _ _=>()) () (fun _ _ _ _=>()) (v)) (fun v=>AV.rec (motive_1:=fun _=>Bool) (motive_2:=fun _=>Unit) (motive_3:=fun _=>Unit) (fun _ _=>false) (fun _=>false) (fun _=>false) (true) (fun _ _=>false) (fun _ _=>false) (fun _ _ _ _=>false) (fun _ _ _=>false) (false) (fun _ _=>false) (fun _ _=>false) (fun _ _ _ _ _=>false) (false) (fun _ _ _=>false) (false) (fun _=>false) (false) (fun _ _ _ _ _=>false) (fun _ _ _=>false) (fun _ _ _ _=>false) (fun _ _ _=>false) (false) () (fun _ _ _ _=>()) () (fun _ _ _ _=>()) (v)) (fun _ _ _=>false) (fun _ _ _=>false) (fun k _ tk ih v=>AV.rec (motive_1:=fun _=>Bool) (motive_2:=fun _=>Unit) (motive_3:=fun _=>Unit) (fun _ _=>false) (fun _=>false) (fun _=>false) (false) (fun _ _=>false) (fun _ _=>false) (fun k2 l2 tk2 _=>Bool.rec (motive:=fun _=>Bool) (false) (Tk.rec (motive:=fun _=>Bool) (Tk.rec (motive:=fun _=>Bool) (ih l2) (fun _=>false) (tk2)) (fun _=>false) (tk)) (Nat.beq k k2)) (fun _ _ _=>false) (false) (fun _ _=>false) (fun _ _=>false) (fun _ _ _ _ _=>false) (false) (fun _ _ _=>false) (false) (fun _=>false) (false) (fun _ _ _ _ _=>false) (fun _ _ _=>false) (fun _ _ _ _=>false) (fun _ _ _=>false) (false) () (fun _ _ _ _=>()) () (fun _ _ _ _=>()) (v)) (fun _ _ _ _=>false) (fun v=>AV.rec (motive_1:=fun _=>Bool) (motive_2:=fun _=>Unit) (motive_3:=fun _=>Unit) (fun _ _=>false) (fun _=>false) (fun _=>false) (false) (fun _ _=>false) (fun _ _=>false) (fun _ _ _ _=>false) (fun _ _ _=>false) (true) (fun _ _=>false) (fun _ _=>false) (fun _ _ _ _ _=>false) (false) (fun _ _ _=>false) (false) (fun _=>false) (false) (fun _ _ _ _ _=>false) (fun _ _ _=>false) (fun _ _ _ _=>false) (fun _ _ _=>false) (false) () (fun _ _ _ _=>()) () (fun _ _ _ _=>()) (v)) (fun _ ih v=>AV.rec (motive_1:=fun _=>Bool) (motive_2:=fun _=>Unit) (motive_3:=fun _=>Unit) (fun _ _=>false) (fun _=>false) (fun _=>false) (false) (fun _ _=>false) (fun _ _=>false) (fun _ _ _ _=>false) (fun _ _ _=>false) (false) (fun cs _=>ih cs) (fun _ _=>false) (fun _ _ _ _ _=>false) (false) (fun _ _ _=>false) (false) (fun _=>false) (false) (fun _ _ _ _ _=>false) (fun _ _ _=>false) (fun _ _ _ _=>false) (fun _ _ _=>false) (false) () (fun _ _ _ _=>()) () (fun _ _ _ _=>()) (v)) (fun _ ih v=>AV.rec (motive_1:=fun _=>Bool) (motive_2:=fun _=>Unit) (motive_3:=fun _=>Unit) (fun _ _=>false) (fun _=>false) (fun _=>false) (false) (fun _ _=>false) (fun _ _=>false) (fun _ _ _ _=>false) (fun _ _ _=>false) (false) (fun _ _=>false) (fun cs _=>ih cs) (fun _ _ _ _ _=>false) (false) (fun _ _ _=>false) (false) (fun _=>false) (false) (fun _ _ _ _ _=>false) (fun _ _ _=>false) (fun _ _ _ _=>false) (fun _ _ _=>false) (false) () (fun _ _ _ _=>()) () (fun _ _ _ _=>()) (v)) (fun _ _ _ _ _ _=>false) (fun _=>false) (fun _ _ _ _=>false) (fun _=>false) (fun _ _=>false) (fun _=>false) (fun _ _ _ _ _ _=>false) (fun _ _ _ _=>false) (fun _ _ _ _ _=>false) (fun _ _ _ _=>false) (fun _=>false) (fun m=>List.rec (motive:=fun _=>Bool) true (fun _ _ _=>false) m) (fun _ _ i1 i2 m=>List.rec (motive:=fun _=>Bool) false (fun b m2 _=>Bool.rec (motive:=fun _=>Bool) false (i2 m2) (i1 b)) m) (fun m=>List.rec (motive:=fun _=>Bool) true (fun _ _ _=>false) m) (fun _ _ i1 i2 m=>List.rec (motive:=fun _=>Bool) false (fun b m2 _=>Bool.rec (motive:=fun _=>Bool) false (i2 m2) (i1 b)) m) a
def bqLL9(a:List (List AV)):List (List AV)→Bool:=AV.rec_2 (motive_1:=fun _=>AV→Bool) (motive_2:=fun _=>List AV→Bool) (motive_3:=fun _=>List (List AV)→Bool) (fun k n v=>AV.rec (motive_1:=fun _=>Bool) (motive_2:=fun _=>Unit) (motive_3:=fun _=>Unit) (fun k2 n2=>Bool.rec (motive:=fun _=>Bool) (false) (ieq9 n n2) (keq9 k k2)) (fun _=>false) (fun _=>false) (false) (fun _ _=>false) (fun _ _=>false) (fun _ _ _ _=>false) (fun _ _ _=>false) (false) (fun _ _=>false) (fun _ _=>false) (fun _ _ _ _ _=>false) (false) (fun _ _ _=>false) (false) (fun _=>false) (false) (fun _ _ _ _ _=>false) (fun _ _ _=>false) (fun _ _ _ _=>false) (fun _ _ _=>false) (false) () (fun _ _ _ _=>()) () (fun _ _ _ _=>()) (v)) (fun b v=>AV.rec (motive_1:=fun _=>Bool) (motive_2:=fun _=>Unit) (motive_3:=fun _=>Unit) (fun _ _=>false) (fun b2=>bqb9 b b2) (fun _=>false) (false) (fun _ _=>false) (fun _ _=>false) (fun _ _ _ _=>false) (fun _ _ _=>false) (false) (fun _ _=>false) (fun _ _=>false) (fun _ _ _ _ _=>false) (false) (fun _ _ _=>false) (false) (fun _=>false) (false) (fun _ _ _ _ _=>false) (fun _ _ _=>false) (fun _ _ _ _=>false) (fun _ _ _=>false) (false) () (fun _ _ _ _=>()) () (fun _ _ _ _=>()) (v)) (fun s v=>AV.rec (motive_1:=fun _=>Bool) (motive_2:=fun _=>Unit) (motive_3:=fun _=>Unit) (fun _ _=>false) (fun _=>false) (fun s2=>bqs9 s s2) (false) (fun _ _=>false) (fun _ _=>false) (fun _ _ _ _=>false) (fun _ _ _=>false) (false) (fun _ _=>false) (fun _ _=>false) (fun _ _ _ _ _=>false) (false) (fun _ _ _=>false) (false) (fun _=>false) (false) (fun _ _ _ _ _=>false) (fun _ _ _=>false) (fun _ _ _ _=>false) (fun _ _ _=>false) (false) () (fun _ _ _ _=>()) () (fun _ _ _ _=>()) (v)) (fun v=>AV.rec (motive_1:=fun _=>Bool) (motive_2:=fun _=>Unit) (motive_3:=fun _=>Unit) (fun _ _=>false) (fun _=>false) (fun _=>false) (true) (fun _ _=>false) (fun _ _=>false) (fun _ _ _ _=>false) (fun _ _ _=>false) (false) (fun _ _=>false) (fun _ _=>false) (fun _ _ _ _ _=>false) (false) (fun _ _ _=>false) (false) (fun _=>false) (false) (fun _ _ _ _ _=>false) (fun _ _ _=>false) (fun _ _ _ _=>false) (fun _ _ _=>false) (false) () (fun _ _ _ _=>()) () (fun _ _ _ _=>()) (v)) (fun _ _ _=>false) (fun _ _ _=>false) (fun k _ tk ih v=>AV.rec (motive_1:=fun _=>Bool) (motive_2:=fun _=>Unit) (motive_3:=fun _=>Unit) (fun _ _=>false) (fun _=>false) (fun _=>false) (false) (fun _ _=>false) (fun _ _=>false) (fun k2 l2 tk2 _=>Bool.rec (motive:=fun _=>Bool) (false) (Tk.rec (motive:=fun _=>Bool) (Tk.rec (motive:=fun _=>Bool) (ih l2) (fun _=>false) (tk2)) (fun _=>false) (tk)) (Nat.beq k k2)) (fun _ _ _=>false) (false) (fun _ _=>false) (fun _ _=>false) (fun _ _ _ _ _=>false) (false) (fun _ _ _=>false) (false) (fun _=>false) (false) (fun _ _ _ _ _=>false) (fun _ _ _=>false) (fun _ _ _ _=>false) (fun _ _ _=>false) (false) () (fun _ _ _ _=>()) () (fun _ _ _ _=>()) (v)) (fun _ _ _ _=>false) (fun v=>AV.rec (motive_1:=fun _=>Bool) (motive_2:=fun _=>Unit) (motive_3:=fun _=>Unit) (fun _ _=>false) (fun _=>false) (fun _=>false) (false) (fun _ _=>false) (fun _ _=>false) (fun _ _ _ _=>false) (fun _ _ _=>false) (true) (fun _ _=>false) (fun _ _=>false) (fun _ _ _ _ _=>false) (false) (fun _ _ _=>false) (false) (fun _=>false) (false) (fun _ _ _ _ _=>false) (fun _ _ _=>false) (fun _ _ _ _=>false) (fun _ _ _=>false) (false) () (fun _ _ _ _=>()) () (fun _ _ _ _=>()) (v)) (fun _ ih v=>AV.rec (motive_1:=fun _=>Bool) (motive_2:=fun _=>Unit) (motive_3:=fun _=>Unit) (fun _ _=>false) (fun _=>false) (fun _=>false) (false) (fun _ _=>false) (fun _ _=>false) (fun _ _ _ _=>false) (fun _ _ _=>false) (false) (fun cs _=>ih cs) (fun _ _=>false) (fun _ _ _ _ _=>false) (false) (fun _ _ _=>false) (false) (fun _=>false) (false) (fun _ _ _ _ _=>false) (fun _ _ _=>false) (fun _ _ _ _=>false) (fun _ _ _=>false) (false) () (fun _ _ _ _=>()) () (fun _ _ _ _=>()) (v)) (fun _ ih v=>AV.rec (motive_1:=fun _=>Bool) (motive_2:=fun _=>Unit) (motive_3:=fun _=>Unit) (fun _ _=>false) (fun _=>false) (fun _=>false) (false) (fun _ _=>false) (fun _ _=>false) (fun _ _ _ _=>false) (fun _ _ _=>false) (false) (fun _ _=>false) (fun cs _=>ih cs) (fun _ _ _ _ _=>false) (false) (fun _ _ _=>false) (false) (fun _=>false) (false) (fun _ _ _ _ _=>false) (fun _ _ _=>false) (fun _ _ _ _=>false) (fun _ _ _=>false) (false) () (fun _ _ _ _=>()) () (fun _ _ _ _=>()) (v)) (fun _ _ _ _ _ _=>false) (fun _=>false) (fun _ _ _ _=>false) (fun _=>false) (fun _ _=>false) (fun _=>false) (fun _ _ _ _ _ _=>false) (fun _ _ _ _=>false) (fun _ _ _ _ _=>false) (fun _ _ _ _=>false) (fun _=>false) (fun m=>List.rec (motive:=fun _=>Bool) true (fun _ _ _=>false) m) (fun _ _ i1 i2 m=>List.rec (motive:=fun _=>Bool) false (fun b m2 _=>Bool.rec (motive:=fun _=>Bool) false (i2 m2) (i1 b)) m) (fun m=>List.rec (motive:=fun _=>Bool) true (fun _ _ _=>false) m) (fun _ _ i1 i2 m=>List.rec (motive:=fun _=>Bool) false (fun b m2 _=>Bool.rec (motive:=fun _=>Bool) false (i2 m2) (i1 b)) m) a
mutual
theorem bq9_ok:∀ (a b:AV),bq9 a b=true→a=b
 |.int k n,b,h=>by
  cases b with
  |int k2 n2=>
   have h:Bool.rec (motive:=fun _=>Bool) false (ieq9 n n2) (keq9 k k2)=true:=h
   cases hk:keq9 k k2 with
   |false=>rw[hk] at h;cases h
   |true=>
    rw[hk] at h
    have h:ieq9 n n2=true:=h
    rw[ieq9_eq,decide_eq_true_eq] at h
    rw[keq9_eq hk,h]
  |_=>cases h
 |.bool x,b,h=>by
  cases b with
  |bool y=>rw[bqb9_ok h]
  |_=>cases h
 |.str s,b,h=>by
  cases b with
  |str s2=>rw[bqs9_ok s s2 h]
  |_=>cases h
 |.nilp,b,h=>by
  cases b with
  |nilp=>rfl
  |_=>cases h
 |.nils,b,h=>by
  cases b with
  |nils=>rfl
  |_=>cases h
 |.agg cs,b,h=>by
  cases b with
  |agg ds=>rw[bqL9_ok cs ds h]
  |_=>cases h
 |.tup cs,b,h=>by
  cases b with
  |tup ds=>rw[bqL9_ok cs ds h]
  |_=>cases h
 |.sl k l tk,b,h=>by
  cases b with
  |sl k2 l2 tk2=>
   have h:Bool.rec (motive:=fun _=>Bool) false (Tk.rec (motive:=fun _=>Bool) (Tk.rec (motive:=fun _=>Bool) (bqLL9 l l2) (fun _=>false) tk2) (fun _=>false) tk) (Nat.beq k k2)=true:=h
   cases hk:Nat.beq k k2 with
   |false=>rw[hk] at h;cases h
   |true=>
    rw[hk] at h
    cases tk with
    |own i=>cases h
    |no=>cases tk2 with
     |own j=>cases h
     |no=>
      have h:bqLL9 l l2=true:=h
      rw[beq_iff.1 hk,bqLL9_ok l l2 h]
  |_=>cases h
 |.ptr _ _,_,h|.rptr _,_,h|.psl _ _,_,h|.fn _ _ _,_,h|.nilf,_,h|.iface _ _,_,h|.nilI,_,h|.mp _,_,h|.nilm,_,h|.msl _ _ _ _ _,_,h|.msu _ _ _,_,h|.eptr _ _ _ _,_,h|.cnd _ _,_,h|.junk,_,h=>by cases h
theorem bqL9_ok:∀ (a b:List AV),bqL9 a b=true→a=b
 |[],[],_=>rfl
 |[],_::_,h=>by cases h
 |_::_,[],h=>by cases h
 |x::a,y::b,h=>by
  have h:Bool.rec (motive:=fun _=>Bool) false (bqL9 a b) (bq9 x y)=true:=h
  cases hx:bq9 x y with
  |false=>rw[hx] at h;cases h
  |true=>rw[hx] at h;rw[bqL9_ok a b h,bq9_ok x y hx]
theorem bqLL9_ok:∀ (a b:List (List AV)),bqLL9 a b=true→a=b
 |[],[],_=>rfl
 |[],_::_,h=>by cases h
 |_::_,[],h=>by cases h
 |x::a,y::b,h=>by
  have h:Bool.rec (motive:=fun _=>Bool) false (bqLL9 a b) (bqL9 x y)=true:=h
  cases hx:bqL9 x y with
  |false=>rw[hx] at h;cases h
  |true=>rw[hx] at h;rw[bqLL9_ok a b h,bqL9_ok x y hx]
end
/-! ### a tree of choices -/
def key9(v:AV):Int:=AV.rec (motive_1:=fun _=>Int) (motive_2:=fun _=>Unit) (motive_3:=fun _=>Unit) (fun _ n=>n) (fun b=>Bool.rec (motive:=fun _=>Int) (Int.ofNat 0) (Int.ofNat 1) b) (fun s=>Int.ofNat (len9 s)) (Int.negSucc 1) (fun _ _=>Int.negSucc 1) (fun _ _=>Int.negSucc 1) (fun _ l _ _=>Int.ofNat (len9 l)) (fun _ _ _=>Int.negSucc 1) (Int.negSucc 0) (fun _ _=>Int.negSucc 1) (fun _ _=>Int.negSucc 1) (fun _ _ _ _ _=>Int.negSucc 1) (Int.negSucc 1) (fun _ _ _=>Int.negSucc 1) (Int.negSucc 1) (fun _=>Int.negSucc 1) (Int.negSucc 1) (fun _ _ _ _ _=>Int.negSucc 1) (fun _ _ _=>Int.negSucc 1) (fun _ _ _ _=>Int.negSucc 1) (fun _ _ _=>Int.negSucc 1) (Int.negSucc 1) () (fun _ _ _ _=>()) () (fun _ _ _ _=>()) (v)
def sub8(j m:Nat)(v:AV):AV:=AV.rec (motive_1:=fun _=>AV) (motive_2:=fun _=>Unit) (motive_3:=fun _=>Unit) (fun _ _=>.junk) (fun _=>.junk) (fun _=>.junk) (.junk) (fun _ _=>.junk) (fun _ _=>.junk) (fun _ l _ _=>nth9 .junk l j fun e=>nth9 .junk e m fun a=>a) (fun _ _ _=>.junk) (.junk) (fun cs _=>nth9 .junk cs m fun a=>a) (fun _ _=>.junk) (fun _ _ _ _ _=>.junk) (.junk) (fun _ _ _=>.junk) (.junk) (fun _=>.junk) (.junk) (fun _ _ _ _ _=>.junk) (fun _ _ _=>.junk) (fun _ _ _ _=>.junk) (fun _ _ _=>.junk) (.junk) () (fun _ _ _ _=>()) () (fun _ _ _ _=>()) (v)
def at9(p:List (Nat×Nat)):AV→Int:=List.rec (motive:=fun _=>AV→Int) key9 (fun q _ ih v=>Prod.rec (motive:=fun _=>Int) (fun j m=>ih (sub8 j m v)) q) p
inductive DT where
 |leaf (a b r:AV)
 |node (w:Bool) (p:List (Nat×Nat)) (c:Int) (l r:DT)
def DT.look(t:DT):AV→AV→Option AV:=DT.rec (motive:=fun _=>AV→AV→Option AV)
 (fun a b r x y=>Bool.rec (motive:=fun _=>Option AV) none (Bool.rec (motive:=fun _=>Option AV) none (some r) (bq9 a x)) (bq9 b y))
 (fun w p c _ _ l r x y=>Bool.rec (motive:=fun _=>Option AV) (r x y) (l x y) (ilt9 (at9 p (Bool.rec (motive:=fun _=>AV) y x w)) c)) t
def DT.Ok(P:Program)(g:FuncId):DT→Prop
 |.leaf a b r=>ASpec P g [a,b] r
 |.node _ _ _ l r=>l.Ok P g∧r.Ok P g
theorem DT.look_ok{P:Program}{g:FuncId}:∀ {t:DT},t.Ok P g→∀ {x y r:AV},t.look x y=some r→ASpec P g [x,y] r
 |.leaf a b q,h,x,y,r,e=>by
  have e:Bool.rec (motive:=fun _=>Option AV) none (Bool.rec (motive:=fun _=>Option AV) none (some q) (bq9 a x)) (bq9 b y)=some r:=e
  cases hb:bq9 b y with
  |false=>rw[hb] at e;cases e
  |true=>
   rw[hb] at e
   have e:Bool.rec (motive:=fun _=>Option AV) none (some q) (bq9 a x)=some r:=e
   cases ha:bq9 a x with
   |false=>rw[ha] at e;cases e
   |true=>
    rw[ha] at e
    cases e
    rw[← bq9_ok _ _ ha,← bq9_ok _ _ hb]
    exact h
 |.node w p c l q,h,x,y,r,e=>by
  have e:Bool.rec (motive:=fun _=>Option AV) (q.look x y) (l.look x y) (ilt9 (at9 p (Bool.rec (motive:=fun _=>AV) y x w)) c)=some r:=e
  cases hb:ilt9 (at9 p (Bool.rec (motive:=fun _=>AV) y x w)) c with
  |false=>rw[hb] at e;exact DT.look_ok h.2 e
  |true=>rw[hb] at e;exact DT.look_ok h.1 e
def look9(f:FuncId)(t:DT)(z:KAT):KAT:=fun g args=>match Nat.beq g f with
 |true=>match args with
  |[x,y]=>match t.look x y with
   |some r=>some r
   |none=>z g args
  |_=>z g args
 |false=>z g args
theorem look9_ok{P:Program}{f:FuncId}{t:DT}(ht:t.Ok P f){z:KAT}(hz:KAok P z):KAok P (look9 f t z):=by
 intro g args r h
 unfold look9 at h
 split at h
 ·rename_i e
  split at h
  ·split at h
   ·rename_i hl
    cases h
    rw[Nat.eq_of_beq_eq_true e]
    exact DT.look_ok ht hl
   ·exact hz _ _ _ h
  ·exact hz _ _ _ h
 ·exact hz _ _ _ h
def fst9(x:Option (AV×HT)):Option AV:=Option.rec (motive:=fun _=>Option AV) none (fun q=>Prod.rec (motive:=fun _=>Option AV) (fun r _=>some r) q) x
theorem fst9_ok{x:Option (AV×HT)}{r:AV}(h:fst9 x=some r):∃ h',x=some (r,h'):=by
 cases x with
 |none=>cases h
 |some q=>exact⟨q.2,by cases h;rfl⟩
end Go.Proofs.YtojhjaohaafeaaaGreatDoor
namespace Go.Proofs.YtojhjaohaafeaaaGreatDoor
open Go.Proofs Go.RowKit Go.Shelf
set_option linter.unusedVariables false
def lays137_ren:Go.Shelf.Ren:=⟨fun|137=>420|217=>425|266=>428|n=>n,fun|3=>3|5=>5|9=>9|n=>n,fun  | n=>n⟩
theorem lays137:Go.Proofs.Lays.n137 Tryz.prog lays137_ren:={
 mixed:=by kernel_rfl
 f137:=Tryz.func420.trans (congrArg some (by kernel_rfl))
 f217:=Tryz.func425.trans (congrArg some (by kernel_rfl))
 f266:=Tryz.func428.trans (congrArg some (by kernel_rfl))
 t3:=Tryz.underlying3
 a3:=Tryz.isAgg3
 z3:=Tryz.sizeOf3
 v3:=Tryz.zeroValue3
 t5:=Tryz.underlying5
 a5:=Tryz.isAgg5
 z5:=Tryz.sizeOf5
 v5:=Tryz.zeroValue5
 t9:=Tryz.underlying9
 a9:=Tryz.isAgg9
 z9:=Tryz.sizeOf9
 v9:=Tryz.zeroValue9 }
def lays138_ren:Go.Shelf.Ren:=⟨fun|138=>399|143=>400|195=>413|217=>425|218=>415|219=>416|224=>422|225=>423|266=>428|267=>426|314=>429|n=>n,fun|0=>0|3=>3|4=>4|5=>5|9=>9|46=>245|51=>241|146=>524|n=>n,fun|1=>0|n=>n⟩
theorem lays138:Go.Proofs.Lays.n138 Tryz.prog lays138_ren:={
 mixed:=by kernel_rfl
 f138:=Tryz.func399.trans (congrArg some (by kernel_rfl))
 f143:=Tryz.func400.trans (congrArg some (by kernel_rfl))
 f195:=Tryz.func413.trans (congrArg some (by kernel_rfl))
 f217:=Tryz.func425.trans (congrArg some (by kernel_rfl))
 f218:=Tryz.func415.trans (congrArg some (by kernel_rfl))
 f219:=Tryz.func416.trans (congrArg some (by kernel_rfl))
 f224:=Tryz.func422.trans (congrArg some (by kernel_rfl))
 f225:=Tryz.func423.trans (congrArg some (by kernel_rfl))
 f266:=Tryz.func428.trans (congrArg some (by kernel_rfl))
 f267:=Tryz.func426.trans (congrArg some (by kernel_rfl))
 f314:=Tryz.func429.trans (congrArg some (by kernel_rfl))
 t0:=Tryz.underlying0
 a0:=Tryz.isAgg0
 z0:=Tryz.sizeOf0
 v0:=Tryz.zeroValue0
 t3:=Tryz.underlying3
 a3:=Tryz.isAgg3
 z3:=Tryz.sizeOf3
 v3:=Tryz.zeroValue3
 t4:=Tryz.underlying4
 a4:=Tryz.isAgg4
 z4:=Tryz.sizeOf4
 v4:=Tryz.zeroValue4
 t5:=Tryz.underlying5
 a5:=Tryz.isAgg5
 z5:=Tryz.sizeOf5
 v5:=Tryz.zeroValue5
 t9:=Tryz.underlying9
 a9:=Tryz.isAgg9
 z9:=Tryz.sizeOf9
 v9:=Tryz.zeroValue9
 t46:=Tryz.underlying245
 a46:=Tryz.isAgg245
 z46:=Tryz.sizeOf245
 v46:=Tryz.zeroValue245
 t51:=Tryz.underlying241
 a51:=Tryz.isAgg241
 z51:=Tryz.sizeOf241
 v51:=Tryz.zeroValue241
 t146:=Tryz.underlying524
 a146:=Tryz.isAgg524
 z146:=Tryz.sizeOf524
 v146:=Tryz.zeroValue524
 g1:=by kernel_rfl }
def lays143_ren:Go.Shelf.Ren:=⟨fun|143=>400|217=>425|219=>416|224=>422|225=>423|266=>428|267=>426|314=>429|n=>n,fun|3=>3|4=>4|5=>5|9=>9|46=>245|51=>241|146=>524|n=>n,fun|1=>0|n=>n⟩
theorem lays143:Go.Proofs.Lays.n143 Tryz.prog lays143_ren:={
 mixed:=by kernel_rfl
 f143:=Tryz.func400.trans (congrArg some (by kernel_rfl))
 f217:=Tryz.func425.trans (congrArg some (by kernel_rfl))
 f219:=Tryz.func416.trans (congrArg some (by kernel_rfl))
 f224:=Tryz.func422.trans (congrArg some (by kernel_rfl))
 f225:=Tryz.func423.trans (congrArg some (by kernel_rfl))
 f266:=Tryz.func428.trans (congrArg some (by kernel_rfl))
 f267:=Tryz.func426.trans (congrArg some (by kernel_rfl))
 f314:=Tryz.func429.trans (congrArg some (by kernel_rfl))
 t3:=Tryz.underlying3
 a3:=Tryz.isAgg3
 z3:=Tryz.sizeOf3
 v3:=Tryz.zeroValue3
 t4:=Tryz.underlying4
 a4:=Tryz.isAgg4
 z4:=Tryz.sizeOf4
 v4:=Tryz.zeroValue4
 t5:=Tryz.underlying5
 a5:=Tryz.isAgg5
 z5:=Tryz.sizeOf5
 v5:=Tryz.zeroValue5
 t9:=Tryz.underlying9
 a9:=Tryz.isAgg9
 z9:=Tryz.sizeOf9
 v9:=Tryz.zeroValue9
 t46:=Tryz.underlying245
 a46:=Tryz.isAgg245
 z46:=Tryz.sizeOf245
 v46:=Tryz.zeroValue245
 t51:=Tryz.underlying241
 a51:=Tryz.isAgg241
 z51:=Tryz.sizeOf241
 v51:=Tryz.zeroValue241
 t146:=Tryz.underlying524
 a146:=Tryz.isAgg524
 z146:=Tryz.sizeOf524
 v146:=Tryz.zeroValue524
 g1:=by kernel_rfl }
theorem irune_calls(s:ByteArray)(r:Nat)(hr:r<128)(w:World) :
  Calls Tryz.prog 409 #[.string s,.int .i32 (r:Int)] w fun e w'=>e=.returned (.int .i64 (Lib.indexByte s.data.toList r.toUInt8))∧w'=w:=by
 have cI:=Any.strings_IndexByte lays137 s (r:Int) w
 rw[Int.toNat_natCast] at cI
 go_enter Tryz.func409,Tryz.ntmps409
 go_wp2_with (go_at_call 420;refine cI.mono ?_;rintro e w' ⟨rfl,rfl⟩)
 go_ret
 exact⟨rfl,rfl⟩
theorem crune_calls(s:ByteArray)(r:Nat)(hr:r<128)(w:World) :
  Calls Tryz.prog 387 #[.string s,.int .i32 (r:Int)] w fun e w'=>e=.returned (.bool (decide (0≤Lib.indexByte s.data.toList r.toUInt8)))∧w'=w:=by
 have cI:=irune_calls s r hr w
 generalize Lib.indexByte s.data.toList r.toUInt8=q at cI ⊢
 go_enter Tryz.func387,Tryz.ntmps387
 go_wp2_with (go_at_call 409;refine cI.mono ?_;rintro e w' ⟨rfl,rfl⟩)
 go_ret
 exact⟨rfl,rfl⟩
def lettersB : ByteArray := "abcdefghijklmnopqrstuvwxyz0123456789-_".toUTF8
def badL(c:UInt8):Bool:=!decide (0≤Lib.indexByte lettersB.data.toList c)
theorem name1_calls(c:UInt8)(hc:c.toNat<128)(w:World) :
  Calls Tryz.prog 386 #[.int .i32 (c.toNat:Int)] w fun e w'=>e=.returned (.bool (badL c))∧w'=w:=by
 have cI:=crune_calls lettersB c.toNat hc w
 rw[show c.toNat.toUInt8=c from by simp] at cI
 unfold badL
 generalize decide (0≤Lib.indexByte lettersB.data.toList c)=q at cI ⊢
 go_enter Tryz.func386,Tryz.ntmps386
 go_wp2_with (go_at_call 387;refine cI.mono ?_;rintro e w' ⟨rfl,rfl⟩)
 go_ret
 exact⟨rfl,rfl⟩
theorem xfunc_calls(s:ByteArray)(hs:∀ j (h:j<s.size),(s[j]'h).toNat<128)(w:World) :
  Calls Tryz.prog 419 #[.string s,.func (.func 386) #[] #[],.bool true] w fun e w'=>(∃ n:Int,e=.returned (.int .i64 n)∧decide (0≤n)=s.data.toList.any badL)∧Below w.heap.size w w':=by
 go_enter Tryz.func419,Tryz.ntmps419
 go_wp2
 go_loopg [] s.size (fun gf wx=>∃ pos:Nat,wx.heap[w.heap.size]? = some (.stringIter s pos)∧Below w.heap.size w wx∧s.size=pos+gf∧∀ j (h:j<s.size),j<pos→badL (s[j]'h)=false)
 case atStart=>exact⟨0,World.iter_heap w s 0,(Below.refl _ w).alloc (Nat.le_refl _) _,by omega,fun j h h0=>by omega⟩
 case round=>
  obtain⟨pos,hit,hbw,hfu,hall⟩:=hrel
  by_cases hps:pos<s.size
  ·obtain⟨g',rfl⟩:∃ g',gk=g'+1:=⟨gk-1,by omega⟩
   have hnx:∀ ty,(Instr.next (.pointer (some ⟨w.heap.size,0,none⟩)) true ty).run Tryz.prog wr=_:=fun ty=>Lib.run_next_ascii_at wr w.heap.size s pos ty hit hps (hs pos hps)
   have hit2:=Lib.iterAt_heap wr w.heap.size s pos (pos+1) hit
   have hbw2:=Lib.below_iterAt hbw (k:=w.heap.size) (Nat.le_refl _) s (pos+1)
   obtain⟨W,hWd⟩:∃ W,wr.iterAt w.heap.size s (pos+1)=W:=⟨_,rfl⟩
   rw[hWd] at hnx hit2 hbw2
   have cS:=name1_calls (s[pos]'hps) (hs pos hps) W
   cases hsp:badL (s[pos]'hps)<;>rw[hsp] at cS
   ·go_wp2_with (go_at_call 386;refine cS.mono ?_;rintro e W' ⟨rfl,rfl⟩)
    go_roundg g'
    case measure=>omega
    case rel=>exact⟨pos+1,hit2,hbw2,by omega,fun j h hj=>(by rcases Nat.lt_succ_iff_lt_or_eq.1 hj with hj|rfl;exact hall j h hj;exact hsp)⟩
   ·go_wp2_with (go_at_call 386;refine cS.mono ?_;rintro e W' ⟨rfl,rfl⟩)
    go_ret
    refine⟨⟨_,rfl,?_⟩,hbw2⟩
    rw[decide_eq_true (by omega)]
    exact(List.any_eq_true.2 ⟨s[pos]'hps,by exact Array.getElem_mem_toList (xs:=s.data) hps,hsp⟩).symm
  ·have hnx:∀ ty,(Instr.next (.pointer (some ⟨w.heap.size,0,none⟩)) true ty).run Tryz.prog wr=_:=fun ty=>Lib.run_next_end_at wr w.heap.size s pos ty hit hps
   go_wp2
   go_ret
   refine⟨⟨_,rfl,?_⟩,hbw⟩
   rw[decide_eq_false (by omega)]
   refine(List.any_eq_false.2 fun c hc=>?_).symm
   obtain⟨j,hj,rfl⟩:=List.mem_iff_getElem.1 hc
   have hj':j<s.size:=by simpa using hj
   have:=hall j hj' (by omega)
   exact fun h=>by
    have h2:badL (s[j]'hj')=true:=h
    rw[this] at h2;cases h2
theorem ifunc_calls(s:ByteArray)(hs:∀ j (h:j<s.size),(s[j]'h).toNat<128)(w:World) :
  Calls Tryz.prog 408 #[.string s,.func (.func 386) #[] #[]] w fun e w'=>(∃ n:Int,e=.returned (.int .i64 n)∧decide (0≤n)=s.data.toList.any badL)∧Below w.heap.size w w':=by
 have cI:=xfunc_calls s hs w
 go_enter Tryz.func408,Tryz.ntmps408
 go_wp2_with (go_at_call 419;refine cI.mono ?_;rintro e w' ⟨⟨n,rfl,hn⟩,hb⟩)
 go_ret
 exact⟨⟨_,rfl,hn⟩,hb⟩
theorem cfunc_calls(s:ByteArray)(hs:∀ j (h:j<s.size),(s[j]'h).toNat<128)(w:World) :
  Calls Tryz.prog 385 #[.string s,.func (.func 386) #[] #[]] w fun e w'=>e=.returned (.bool (s.data.toList.any badL))∧Below w.heap.size w w':=by
 have cI:=ifunc_calls s hs w
 generalize s.data.toList.any badL=q at cI ⊢
 go_enter Tryz.func385,Tryz.ntmps385
 go_wp2_with (go_at_call 408;refine cI.mono ?_;rintro e w' ⟨⟨n,rfl,hn⟩,hb⟩)
 go_ret
 exact⟨by rw[← hn];rfl,hb⟩
/-! ### az laws -/
def cnt9(l:List UInt8)(c:UInt8):Nat:=List.rec (motive:=fun _=>Nat) 0 (fun b _ ih=>Bool.rec (motive:=fun _=>Nat) ih (Nat.succ ih) (beq8 b c)) l
theorem cnt9_eq(c:UInt8):∀ l:List UInt8,cnt9 l c=Lib.countByte l c
 |[]=>rfl
 |b::l=>by
  show Bool.rec (motive:=fun _=>Nat) (cnt9 l c) (Nat.succ (cnt9 l c)) (beq8 b c)=List.count c (b::l)
  rw[cnt9_eq c l,beq8_eq,List.count_cons]
  cases b==c<;>rfl
def idx9(l:List UInt8)(c:UInt8):Option Nat:=List.rec (motive:=fun _=>Option Nat) none (fun b _ ih=>Bool.rec (motive:=fun _=>Option Nat) (Option.rec (motive:=fun _=>Option Nat) none (fun n=>some (Nat.succ n)) ih) (some 0) (beq8 b c)) l
def idxI(l:List UInt8)(c:UInt8):Int:=Option.rec (motive:=fun _=>Int) (Int.negSucc 0) (fun n=>Int.ofNat n) (idx9 l c)
theorem idxI_eq(c:UInt8):∀ l:List UInt8,idxI l c=Lib.indexByte l c
 |[]=>rfl
 |b::l=>by
  have ih:=idxI_eq c l
  unfold idxI at ih ⊢
  unfold Lib.indexByte
  rw[← ih,← beq8_eq]
  show Option.rec (motive:=fun _=>Int) _ _ (Bool.rec (motive:=fun _=>Option Nat) (Option.rec (motive:=fun _=>Option Nat) none (fun n=>some (Nat.succ n)) (idx9 l c)) (some 0) (beq8 b c):Option Nat)=_
  cases beq8 b c with
  |true=>rfl
  |false=>
   cases idx9 l c with
   |none=>rfl
   |some n=>
    show Int.ofNat (n+1)=if false=true then 0 else if(Int.ofNat n==-1)=true then -1 else Int.ofNat n+1
    rw[if_neg (by simp),if_neg (by simp)]
    rfl
theorem rv_str{c:Cx}{v:Value}{l:List UInt8}(h:RV c v (.str l)):∃ s:ByteArray,v=.string s∧s.data.toList=l:=by
 cases h with
 |str s _ h=>exact⟨s,rfl,h⟩
theorem str_one{s:ByteArray}{c:UInt8}(h:s.data.toList=[c]):s=⟨#[c]⟩:=by
 obtain⟨⟨l⟩⟩:=s
 cases h;rfl
theorem cnt_callable:Callable Tryz.prog 399:=⟨_,Tryz.func399,by kernel_rfl,rfl⟩
theorem idx_callable:Callable Tryz.prog 400:=⟨_,Tryz.func400,by kernel_rfl,rfl⟩
theorem ibt_callable:Callable Tryz.prog 420:=⟨_,Tryz.func420,by kernel_rfl,rfl⟩
theorem cfn_callable:Callable Tryz.prog 385:=⟨_,Tryz.func385,by kernel_rfl,rfl⟩
theorem count_law(l:List UInt8)(c:UInt8):ASpec Tryz.prog 399 [.str l,.str [c]] (.int .i64 (Int.ofNat (cnt9 l c))):=⟨cnt_callable,fun x vs hh hc ht=>by
 obtain⟨u,v,rfl,hu,hv⟩:=trel2 ht
 obtain⟨s,rfl,rfl⟩:=rv_str hu
 obtain⟨t,rfl,ht2⟩:=rv_str hv
 obtain rfl:=str_one ht2
 refine(Any.strings_Count_one lays138 s c x.w).mono ?_
 rintro e w' ⟨rfl,rfl⟩
 rw[cnt9_eq]
 exact⟨_,_,_,_,rfl,hc,.refl _,.int _ _,.one (.refl _)⟩⟩
theorem index_law(l:List UInt8)(c:UInt8):ASpec Tryz.prog 400 [.str l,.str [c]] (.int .i64 (idxI l c)):=⟨idx_callable,fun x vs hh hc ht=>by
 obtain⟨u,v,rfl,hu,hv⟩:=trel2 ht
 obtain⟨s,rfl,rfl⟩:=rv_str hu
 obtain⟨t,rfl,ht2⟩:=rv_str hv
 obtain rfl:=str_one ht2
 refine(Any.strings_Index_one lays143 s c x.w).mono ?_
 rintro e w' ⟨rfl,rfl⟩
 rw[idxI_eq]
 exact⟨_,_,_,_,rfl,hc,.refl _,.int _ _,.one (.refl _)⟩⟩
theorem ibyte_law(l:List UInt8)(c:Nat)(h:c<256):ASpec Tryz.prog 420 [.str l,.int .u8 (Int.ofNat c)] (.int .i64 (idxI l c.toUInt8)):=⟨ibt_callable,fun x vs hh hc ht=>by
 obtain⟨u,v,rfl,hu,hv⟩:=trel2 ht
 obtain⟨s,rfl,rfl⟩:=rv_str hu
 cases hv
 refine(Any.strings_IndexByte lays137 s (Int.ofNat c) x.w).mono ?_
 rintro e w' ⟨rfl,rfl⟩
 rw[idxI_eq]
 exact⟨_,_,_,_,rfl,hc,.refl _,.int _ _,.one (.refl _)⟩⟩
def bad9(L:List UInt8)(c:UInt8):Bool:=Option.rec (motive:=fun _=>Bool) true (fun _=>false) (idx9 L c)
theorem bad9_eq(c:UInt8):bad9 lettersB.data.toList c=badL c:=by
 unfold badL bad9
 rw[← idxI_eq]
 unfold idxI
 cases idx9 lettersB.data.toList c with
 |none=>rfl
 |some n=>
  show false=!decide ((0:Int)≤(n:Int))
  rw[decide_eq_true (Int.natCast_nonneg n)];rfl
def any9{α:Type}(f:α→Bool)(l:List α):Bool:=List.rec (motive:=fun _=>Bool) false (fun a _ ih=>Bool.rec (motive:=fun _=>Bool) ih true (f a)) l
theorem any9_eq{α:Type}(f:α→Bool):∀ l:List α,any9 f l=l.any f
 |[]=>rfl
 |a::l=>by
  show Bool.rec (motive:=fun _=>Bool) (any9 f l) true (f a)=_
  rw[any9_eq f l,List.any_cons]
  cases f a<;>rfl
theorem letters_eq:lettersB.data.toList=[97,98,99,100,101,102,103,104,105,106,107,108,109,110,111,112,113,114,115,116,117,118,119,120,121,122,48,49,50,51,52,53,54,55,56,57,45,95]:=by decide +kernel
def low9(c:UInt8):Bool:=Nat.ble (Nat.succ c.toNat) 128
theorem cfunc_law(l:List UInt8)(h:all9 low9 l=true):ASpec Tryz.prog 385 [.str l,.fn (.func 386) [] []] (.bool (any9 (bad9 [97,98,99,100,101,102,103,104,105,106,107,108,109,110,111,112,113,114,115,116,117,118,119,120,121,122,48,49,50,51,52,53,54,55,56,57,45,95]) l)):=⟨cfn_callable,fun x vs hh hc ht=>by
 obtain⟨u,v,rfl,hu,hv⟩:=trel2 ht
 obtain⟨s,rfl,rfl⟩:=rv_str hu
 cases hv with
 |fn f v1 v2 a1 a2 h1 h2 r1 r2=>
  obtain rfl:v1=#[]:=Array.eq_empty_of_size_eq_zero h1
  obtain rfl:v2=#[]:=Array.eq_empty_of_size_eq_zero h2
  rw[all9_eq,List.all_eq_true] at h
  refine(cfunc_calls s (fun j hj=>?_) x.w).mono ?_
  ·have:=h (s[j]'hj) (Array.getElem_mem_toList (xs:=s.data) hj)
   exact Nat.le_of_ble_eq_true this
  ·rintro e w' ⟨rfl,hb⟩
   obtain⟨g1,g2⟩:=Below.evh hc hb
   rw[← letters_eq,any9_eq,show bad9 lettersB.data.toList=badL from funext bad9_eq]
   exact⟨_,_,_,_,rfl,g1,g2,.bool _,.one (.refl _)⟩⟩
def str9(g:FuncId)(args:List AV):Option AV:=match args with
 |[.str l,.str [c]]=>match Nat.beq g 399 with
  |true=>some (.int .i64 (Int.ofNat (cnt9 l c)))
  |false=>match Nat.beq g 400 with
   |true=>some (.int .i64 (idxI l c))
   |false=>none
 |[.str l,.int .u8 (.ofNat c)]=>match Nat.beq g 420&&Nat.ble (Nat.succ c) 256 with
  |true=>some (.int .i64 (idxI l c.toUInt8))
  |false=>none
 |[.str l,.fn (.func q) [] []]=>match Nat.beq g 385&&(Nat.beq q 386&&all9 low9 l) with
  |true=>some (.bool (any9 (bad9 [97,98,99,100,101,102,103,104,105,106,107,108,109,110,111,112,113,114,115,116,117,118,119,120,121,122,48,49,50,51,52,53,54,55,56,57,45,95]) l))
  |false=>none
 |_=>none
theorem str9_ok:KAok Tryz.prog str9:=by
 intro g args r h
 unfold str9 at h
 split at h
 ·split at h
  ·rename_i e;cases h;rw[Nat.eq_of_beq_eq_true e];exact count_law _ _
  ·split at h
   ·rename_i e;cases h;rw[Nat.eq_of_beq_eq_true e];exact index_law _ _
   ·cases h
 ·split at h
  ·rename_i e;cases h
   rw[Vi] at e
   rw[Nat.eq_of_beq_eq_true e.1]
   exact ibyte_law _ _ (Nat.le_of_ble_eq_true e.2)
  ·cases h
 ·split at h
  ·rename_i e;cases h
   simp only[Vi] at e
   rw[Nat.eq_of_beq_eq_true e.1,Nat.eq_of_beq_eq_true e.2.1]
   exact cfunc_law _ e.2.2
  ·cases h
 ·cases h
set_option linter.unusedVariables false
/-! ### rows put in -/
def InsOk(P:Program)(g:FuncId)(k:Nat):Prop:=Callable P g∧∀ (l:List (List AV)) (x:List AV),(∀ x∈l,∀ a∈x,a.plain=true)→(∀ a∈x,a.plain=true)→∀ i:Nat,i≤l.length→l.length≤1000000→ACall P g [.msu 0 k l.length,.int .i64 i,.sl k [x] .no] [.rows k l] fun r _=>LeR r (.sl k (l.take i++x::l.drop i) .no)
def insR(k i kk n:Nat)(j:Int)(k2:Nat)(x:List AV):Option ABlk→Option (Nat×AV×Bool)
 |some (.rows k3 L)=>match Nat.beq kk k&&(Nat.beq k2 k&&(Nat.beq k3 k&&(Nat.beq n (len9 L)&&(Nat.ble n 1000&&(all9 (all9 pl1) L&&(all9 pl1 x&&(not9 (ilt9 j 0)&&not9 (ilt9 (Int.ofNat n) j)))))))) with
  |true=>some (i,.sl k (L.take j.toNat++x::L.drop j.toNat) .no,false)
  |false=>none
 |_=>none
def insL(k:Nat)(args:List AV)(hg:Nat→Option ABlk):Option (Nat×AV×Bool):=match args with
 |[.msu i kk n,.int .i64 j,.sl k2 [x] tk]=>insR k i kk n j k2 x (hg i)
 |_=>none
theorem insL_ok{P:Program}{g:FuncId}{k:Nat}(hI:InsOk P g k){args:List AV}{hg:Nat→Option ABlk}{i:Nat}{res:AV}{b:Bool}(e:insL k args hg=some (i,res,b)) :
  Callable P g∧∀ h:List ABlk,h[i]? = hg i→ACall P g args h fun r h'=>r=res∧h'=keepB b h i:=by
 unfold insL at e
 split at e
 ·rename_i i0 kk n j k2 x tk
  unfold insR at e
  split at e
  ·rename_i k3 L hi
   split at e
   ·rename_i hb
    simp only[Vi] at hb
    obtain⟨h1,h2,h3,h4,h5,h6,h7,h8,h9⟩:=hb
    cases e
    obtain rfl:=beq_iff.1 h1
    obtain rfl:=beq_iff.1 h2
    obtain rfl:=beq_iff.1 h3
    have h4:=beq_iff.1 h4
    rw[len9_eq] at h4
    subst h4
    have h5:=Nat.le_of_ble_eq_true h5
    rw[not9_eq,ilt9_eq] at h8 h9
    simp only[Bool.not_eq_true',decide_eq_false_iff_not,Int.ofNat_eq_natCast] at h8 h9
    have hpl:=all_pl1 h6
    have hpx:∀ a∈x,a.plain=true:=fun a ha=>by
     rw[all9_eq,List.all_eq_true] at h7
     exact pl1_plain (h7 a ha)
    refine⟨hI.1,fun h hh=>?_⟩
    rw[hi] at hh
    obtain⟨m,rfl⟩:∃ m:Nat,j=m:=⟨j.toNat,by omega⟩
    rw[Int.toNat_natCast]
    have hspec:=hI.2 L x hpl hpx m (by omega) (by omega)
    refine ACall.one hh (.inl ⟨_,_,rfl,plain_belLL hpl⟩) hspec rfl ?_ ⟨rfl,rfl⟩
    refine .cons (.msu _ _) (.cons (.le (.refl _) rfl) (.cons (.le ?_ rfl) .nil))
    exact .one (.tok _ _ _)
   ·cases e
  ·cases e
 ·cases e
theorem ins_acc:InsOk Tryz.prog 103 3:=⟨⟨_,Tryz.func103,by kernel_rfl,rfl⟩,fun l x h1 h2 i h3 h4=>insert_acc l x h1 h2 i h3 h4⟩
theorem ins_rep:InsOk Tryz.prog 264 6:=⟨⟨_,Tryz.func264,by kernel_rfl,rfl⟩,fun l x h1 h2 i h3 h4=>insert_rep l x h1 h2 i h3 h4⟩
theorem ins_nod:InsOk Tryz.prog 311 4:=⟨⟨_,Tryz.func311,by kernel_rfl,rfl⟩,fun l x h1 h2 i h3 h4=>insert_nod l x h1 h2 i h3 h4⟩
theorem ins_giv:InsOk Tryz.prog 144 7:=⟨⟨_,Tryz.func144,by kernel_rfl,rfl⟩,fun l x h1 h2 i h3 h4=>insert_giv l x h1 h2 i h3 h4⟩
def lent9(o:Oper)(g:FuncId)(args:List AV)(hg:Nat→Option ABlk):Option (Nat×AV×Bool):=match Nat.beq g 103 with
  |true=>insL 3 args hg
  |false=>match Nat.beq g 264 with
  |true=>insL 6 args hg
  |false=>match Nat.beq g 311 with
  |true=>insL 4 args hg
  |false=>match Nat.beq g 144 with
  |true=>insL 7 args hg
  |false=>match Nat.beq g 190 with
  |true=>nthL args hg
  |false=>none
theorem lent9_ok(o:Oper)(g:FuncId)(args:List AV)(hg:Nat→Option ABlk)(i:Nat)(res:AV)(b:Bool)(e:lent9 o g args hg=some (i,res,b)):Callable Tryz.prog g∧∀ h:List ABlk,h[i]? = hg i→ACall Tryz.prog g args h fun r h'=>r=res∧h'=keepB b h i:=by
 unfold lent9 at e
 split at e
 ·rename_i q;rw[Nat.eq_of_beq_eq_true q];exact insL_ok ins_acc e
 split at e
 ·rename_i q;rw[Nat.eq_of_beq_eq_true q];exact insL_ok ins_rep e
 split at e
 ·rename_i q;rw[Nat.eq_of_beq_eq_true q];exact insL_ok ins_nod e
 split at e
 ·rename_i q;rw[Nat.eq_of_beq_eq_true q];exact insL_ok ins_giv e
 split at e
 ·rename_i q;rw[Nat.eq_of_beq_eq_true q];exact nthL_ok e
 cases e
def M9:KMT:=⟨cloneM,lent9⟩
theorem M9_ok:KMok Tryz.prog M9:=⟨cloneM_ok,lent9_ok⟩
/-! ### a tally's best -/
def acc9:List AV→Option Acc
 |[.int .i64 b,.int .i64 v,.str x]=>match not9 (ilt9 v 0) with
  |true=>some ⟨b,v,x⟩
  |false=>none
 |_=>none
theorem acc9_ok{c:List AV}{a:Acc}(h:acc9 c=some a):c=aC a∧0≤a.view:=by
 unfold acc9 at h
 split at h
 ·split at h
  ·rename_i hb
   cases h
   rw[not9_eq,ilt9_eq] at hb
   simp only[Bool.not_eq_true',decide_eq_false_iff_not] at hb
   exact⟨rfl,by simp only;omega⟩
  ·cases h
 ·cases h
def bestA9(args:List AV):Option AV:=match args with
 |[.agg [.sl 3 l .no],.int .i64 need]=>match mapO acc9 l with
  |some m=>match Nat.ble (len9 m) 1000 with
   |true=>some (bestVA (bestV m need))
   |false=>none
  |none=>none
 |_=>none
theorem accs_ok{l:List (List AV)}{m:List Acc}(h:mapO acc9 l=some m):l=m.map aC∧∀ a∈m,0≤a.view:=by
 obtain⟨h1,h2⟩:=mapO_ok h
 constructor
 ·apply List.ext_getElem?
  intro i
  rw[Vg]
  cases hm:m[i]? with
  |none=>
   have:=List.getElem?_eq_none_iff.1 hm
   rw[List.getElem?_eq_none (by omega)];rfl
  |some a=>
   obtain⟨c,hc,ha⟩:=h2 i a hm
   rw[hc,(acc9_ok ha).1];rfl
 ·intro a ha
  obtain⟨i,hi⟩:=List.getElem?_of_mem ha
  obtain⟨c,hc,ha⟩:=h2 i a hi
  exact(acc9_ok ha).2
theorem bestA9_ok{args:List AV}{r:AV}(h:bestA9 args=some r):ASpec Tryz.prog 104 args r:=by
 unfold bestA9 at h
 split at h
 ·split at h
  ·rename_i m hm
   split at h
   ·rename_i hb
    cases h
    obtain⟨rfl,h2⟩:=accs_ok hm
    have:=Nat.le_of_ble_eq_true hb
    rw[len9_eq] at this
    exact best_spec m _ (by omega) h2
   ·cases h
  ·cases h
 ·cases h
def known9:KAT:=fun g args=>match sizeA g args with
 |some r=>some r
 |none=>match Nat.beq g 104 with
  |true=>bestA9 args
  |false=>match Nat.beq g 190 with
   |true=>nthA args
   |false=>str9 g args
theorem known9_ok:KAok Tryz.prog known9:=by
 intro g args r h
 unfold known9 at h
 split at h
 ·rename_i q hq;cases h;exact sizeA_ok _ _ _ hq
 ·split at h
  ·rename_i e;rw[Nat.eq_of_beq_eq_true e];exact bestA9_ok h
  ·split at h
   ·rename_i e;rw[Nat.eq_of_beq_eq_true e];exact nthA_ok h
   ·exact str9_ok _ _ _ h
/-! ### empty clones -/
theorem clone_entry0:OSpec Tryz.prog 266 [.sl 2 [] .no] 2 []:=by
 refine OSpec.nil ⟨_,Tryz.func266,by kernel_rfl,rfl⟩ ?_
 refine Sg Tryz.func266 rfl fun c1 hc1=>?_;simp only[go_sem,Nat.reduceSub]
 refine Ops.eqnil .free rfl Tryz.underlying57 rfl rfl fun b=>?_
 cases b with
 |true=>
  refine Og Tryz.func266 ?_;simp only[go_sem,↓aT,reduceCtorEq]
  first|exact .inl rfl|exact .inl trivial|simp
 |false=>
  refine Og Tryz.func266 ?_;simp only[go_sem,↓aF,Nat.reduceLeDiff,Nat.reduceMul,Nat.reduceLT,reduceCtorEq]
  (and_intros<;>try first|rfl|omega)
  all_goals first|(simp;done)|exact .inr ⟨_,_,_,rfl⟩
def entry0(args:List AV)(h:HT):Option (AV×HT):=match args with
 |[.sl 2 [] .no]=>match Nat.ble (Nat.succ h.n) 4096 with
  |true=>some (.sl 2 [] (.own h.n),h.push (.tok 2 0))
  |false=>none
 |_=>none
def kE0:KC:=fun _ g args h=>match Nat.beq g 266 with
 |true=>entry0 args h
 |false=>none
theorem kE0_ok:KCok Tryz.prog kE0:=by
 intro o g args ht h r ht' q e
 unfold kE0 at e
 split at e
 ·rename_i hg
  rw[Nat.eq_of_beq_eq_true hg]
  unfold entry0 at e
  split at e
  ·split at e
   ·rename_i hb
    cases e
    have hb:ht.n<4096:=Nat.le_of_ble_eq_true hb
    refine⟨clone_entry0.fn,_,q.push _ hb,?_⟩
    rw[q.1]
    exact kOwn0 clone_entry0 rfl h
   ·cases e
  ·cases e
 ·cases e
theorem kE0_pres:KPres kE0:=by
 intro o g args h r h' e
 unfold kE0 at e
 split at e
 ·unfold entry0 at e
  split at e
  ·split at e
   ·rename_i hb;cases e;exact .push' _ _ hb
   ·cases e
  ·cases e
 ·cases e
def K9:KC:=kOr (kA known9) (kOr (kL M9) (kOr (kMF M9) (kOr (kM M9) kE0)))
theorem K9_pres:KPres K9:=kOr_pres kA_pres (kOr_pres kL_pres (kOr_pres kMF_pres (kOr_pres kM_pres kE0_pres)))
theorem K9_ok:KCok Tryz.prog K9:=kOr_ok (kA_ok known9_ok) (kOr_ok (kL_ok M9_ok) (kOr_ok (kMF_ok M9_ok) (kOr_ok (kM_ok M9_ok) kE0_ok)))
theorem KCok.le{P:Program}{C D:KC}(h:CLe C D)(hD:KCok P D):KCok P C:=fun o g args ht l r ht' q e=>hD o g args ht l r ht' q (h o g args ht _ e)
def kMGr(C:KC)(o:Oper)(g:FuncId)(i k n:Nat)(h:HT):Option ABlk→Option (AV×HT)
 |some (.rows k' L)=>match Nat.beq k' k&&(Nat.ble 1 k&&(Nat.ble n (len9 L)&&(all9 (all9 pl1) (L.take n)&&Nat.ble (h.n+1) 4096))) with
  |true=>match C o g [.sl k (L.take n) .no] HT.nil with
   |some (r,h1)=>match isOwnRow r h1.get with
    |some (k2,l)=>some (.sl k2 l (.own h.n),(h.set i .dead).push (.tok k2 l.length))
    |none=>none
   |none=>none
  |false=>none
 |_=>none
def kMG(C:KC):KC:=fun o g args h=>match args with
 |[.msu i k n]=>kMGr C o g i k n h (h.get i)
 |_=>none
theorem kMG_ok{P:Program}{C:KC}(hC:KCok P C):KCok P (kMG C):=by
 intro o g args ht h r ht' q e
 unfold kMG at e
 split at e
 ·rename_i i k n
  unfold kMGr at e
  split at e
  ·rename_i k' L hi
   split at e
   ·rename_i hb
    simp only[Vi] at hb
    obtain⟨h1,h2,h3,h4,h5⟩:=hb
    split at e
    ·rename_i r1 ht1 hr
     split at e
     ·rename_i k2 l hown
      cases e
      obtain⟨c1,l',w1,w2⟩:=hC _ _ _ _ _ _ _ HL.nil hr
      have hO:OSpec P g [.sl k (L.take n) .no] k2 l:=by
       unfold isOwnRow at hown
       split at hown
       ·rename_i k1 l2 j
        split at hown
        ·rename_i k3 n3 hj
         split at hown
         ·rename_i hq
          obtain⟨rfl,rfl⟩:=hq
          cases hown
          exact⟨c1,w2.mono fun _ _ ⟨e1,e2⟩=>⟨j,e1,by rw[e2,← w1.2.2 j];exact hj⟩⟩
         ·cases hown
        ·cases hown
       ·cases hown
      obtain rfl:=beq_iff.1 h1
      have hk:=Nat.le_of_ble_eq_true h2
      have hn:n≤L.length:=by have:=Nat.le_of_ble_eq_true h3;rwa [len9_eq] at this
      have hp:=all_pl1 h4
      have h5:ht.n<4096:=Nat.le_of_ble_eq_true h5
      rw[q.2.2 i] at hi
      refine⟨c1,_,(q.set i .dead).push _ (by rw[HT.set_n];exact h5),ACall.melt hi hk hn hp ?_⟩
      refine ACall.grown (ACall.ownAt (sl:=(h.set i .dead).length) (by simp) hO (leL_refl _) rfl ⟨by rw[List.length_set,q.1],?_⟩)
      rw[List.set_append_right _ _ (Nat.le_refl _),Nat.sub_self];rfl
     ·cases e
    ·cases e
   ·cases e
  ·cases e
 ·cases e
theorem kMG_pres{C:KC}:KPres (kMG C):=by
 intro o g args h r h' e
 unfold kMG at e
 split at e
 ·unfold kMGr at e
  split at e
  ·split at e
   ·rename_i hb
    simp only[Vi] at hb
    split at e
    ·split at e
     ·cases e
      exact(PresB.set h _ _).trans (.push' _ _ (by rw[HT.set_n];exact hb.2.2.2.2))
     ·cases e
    ·cases e
   ·cases e
  ·cases e
 ·cases e
theorem ncalled9_ok{P:Program}{U:FunT}(hU:FunOk P U){M:KMT}(hMM:KMok P M){K:KC}(hK:KCok P K)(hKP:KPres K){T:TabT}(hT:TabOk P T)(hM:P.follows .mixedOrders=true)(n:Nat):KCok P (ncalled9 U (nrun9 U M K T n)):=by
 refine KCok.le (ncalled9_le U (nrun9_le U M K T n)) ?_
 rw[ncalled_eq,nrun_eq]
 exact kcall_ok hU (krun_ok hU hMM hK hKP hT hM n)
def K8:KC:=kOr K9 (kMG (ncalled9 xfun (nrun9 xfun M9 K9 xtab 1000)))
theorem K8_pres:KPres K8:=kOr_pres K9_pres kMG_pres
theorem K8_ok:KCok Tryz.prog K8:=kOr_ok K9_ok (kMG_ok (ncalled9_ok xfun_ok M9_ok K9_ok K9_pres xtab_ok xfollows_ok 1000))
def o0 : Oper := ⟨none,.move (.tmp 0),0,"",#[],none⟩
def rn(a b:AV):Option AV:=fst9 (ncalled9 xfun (nrun9 xfun M9 K8 xtab 100000) o0 73 [a,b] HT.nil)
theorem rS{a b r:AV}(h:rn a b=some r):ASpec Tryz.prog 73 [a,b] r:=by
 obtain⟨h',e⟩:=fst9_ok h
 exact ASpec.of9 xfun_ok M9_ok K8_ok K8_pres xtab_ok xfollows_ok 100000 e
end Go.Proofs.YtojhjaohaafeaaaGreatDoor

end
