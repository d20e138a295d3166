/-
  Several texts in one: Nt.
-/
import Derived.Test.YtojhjaohaafeaaaGreatDoorQa
import Derived.RangeFuncNested
import Derived.RangeFuncBound
import Derived.RangeFuncCalls
import Derived.RangeFuncLeaves
import Derived.RangeFuncBox
import Derived.Shelf.Abstract
import Derived.Shelf.RegionOpen
import Derived.WalkKit
import Derived.OwnWalkIn
import Derived.TacticsInMore
import Derived.LoopNIn
import Derived.LoopIn
import Derived.Maps.AppendAt
import Derived.Lib.SlKeysI
import Derived.Shelf.Sort.Plain
import Derived.Test.YtojhjaohaafeaaaGreatDoorProg
set_option maxRecDepth 20000
set_option maxHeartbeats 8000000
open Go.Proofs.Tryz
namespace Go.Proofs.YtojhjaohaafeaaaGreatDoor
theorem Sa{α:Type}{x:Option α}{a b:α}(h:x=some a)(k:a=b):x=some b:=h.trans (congrArg some k)
open Go.Proofs Go.RowKit Go.Shelf Go.Sort
attribute [local go_sem] Oper.semAt_some
set_option linter.unusedVariables false
def lays189_ren:Go.Shelf.Ren:=⟨fun|125=>307|128=>348|129=>213|189=>276|215=>169|216=>345|257=>306|294=>339|295=>340|296=>341|297=>342|298=>343|299=>344|300=>346|301=>347|328=>373|329=>374|330=>375|331=>376|332=>377|343=>393|n=>n,fun|0=>0|3=>3|4=>4|5=>5|9=>9|28=>38|46=>245|51=>241|53=>239|131=>223|182=>481|183=>482|218=>512|222=>338|228=>532|229=>533|n=>n,fun|n=>n⟩
theorem lays189:Go.Proofs.Lays.n189 prog lays189_ren:={
 mixed:=by kernel_rfl
 f125:=Sa func307 (by kernel_rfl)
 f128:=Sa func348 (by kernel_rfl)
 f129:=Sa func213 (by kernel_rfl)
 f189:=Sa func276 (by kernel_rfl)
 f215:=Sa func169 (by kernel_rfl)
 f216:=Sa func345 (by kernel_rfl)
 f257:=Sa func306 (by kernel_rfl)
 f294:=Sa func339 (by kernel_rfl)
 f295:=Sa func340 (by kernel_rfl)
 f296:=Sa func341 (by kernel_rfl)
 f297:=Sa func342 (by kernel_rfl)
 f298:=Sa func343 (by kernel_rfl)
 f299:=Sa func344 (by kernel_rfl)
 f300:=Sa func346 (by kernel_rfl)
 f301:=Sa func347 (by kernel_rfl)
 f328:=Sa func373 (by kernel_rfl)
 f329:=Sa func374 (by kernel_rfl)
 f330:=Sa func375 (by kernel_rfl)
 f331:=Sa func376 (by kernel_rfl)
 f332:=Sa func377 (by kernel_rfl)
 f343:=Sa func393 (by kernel_rfl)
 t0:=underlying0
 a0:=Tryz.isAgg0
 z0:=Tryz.sizeOf0
 v0:=Tryz.zeroValue0
 t3:=underlying3
 a3:=Tryz.isAgg3
 z3:=Tryz.sizeOf3
 v3:=Tryz.zeroValue3
 t4:=underlying4
 a4:=Tryz.isAgg4
 z4:=Tryz.sizeOf4
 v4:=Tryz.zeroValue4
 t5:=underlying5
 a5:=Tryz.isAgg5
 z5:=Tryz.sizeOf5
 v5:=Tryz.zeroValue5
 t9:=underlying9
 a9:=Tryz.isAgg9
 z9:=Tryz.sizeOf9
 v9:=Tryz.zeroValue9
 t28:=underlying38
 a28:=Tryz.isAgg38
 z28:=Tryz.sizeOf38
 v28:=Tryz.zeroValue38
 t46:=underlying245
 a46:=Tryz.isAgg245
 z46:=Tryz.sizeOf245
 v46:=Tryz.zeroValue245
 t51:=underlying241
 a51:=Tryz.isAgg241
 z51:=Tryz.sizeOf241
 v51:=Tryz.zeroValue241
 t53:=underlying239
 a53:=Tryz.isAgg239
 z53:=Tryz.sizeOf239
 v53:=Tryz.zeroValue239
 t131:=underlying223
 a131:=Tryz.isAgg223
 z131:=Tryz.sizeOf223
 v131:=Tryz.zeroValue223
 t182:=underlying481
 a182:=Tryz.isAgg481
 z182:=Tryz.sizeOf481
 v182:=Tryz.zeroValue481
 t183:=underlying482
 a183:=Tryz.isAgg482
 z183:=Tryz.sizeOf482
 v183:=Tryz.zeroValue482
 t218:=underlying512
 a218:=Tryz.isAgg512
 z218:=Tryz.sizeOf512
 v218:=Tryz.zeroValue512
 t222:=underlying338
 a222:=Tryz.isAgg338
 z222:=Tryz.sizeOf338
 v222:=Tryz.zeroValue338
 t228:=underlying532
 a228:=Tryz.isAgg532
 z228:=Tryz.sizeOf532
 v228:=Tryz.zeroValue532
 t229:=underlying533
 a229:=Tryz.isAgg533
 z229:=Tryz.sizeOf533
 v229:=Tryz.zeroValue533 }
def upto(f:Nat->Int)(k:Nat):List Int:=(List.range k).map f
theorem upto_succ(f:Nat->Int)(k:Nat):upto f (k+1)=upto f k++[f k]:=by simp[upto,List.range_succ]
theorem upto_length(f:Nat->Int)(k:Nat):(upto f k).length=k:=by simp[upto]
theorem upto_all(zs:List Int):upto (fun j=>zs[j]?.getD 0) zs.length=zs:=by
 apply List.ext_getElem
 ·simp[upto]
 ·intro i h1 h2;simp[upto,h2]
theorem upto_take(zs:List Int){k:Nat}(hk:k<=zs.length):upto (fun j=>zs[j]?.getD 0) k=zs.take k:=by
 apply List.ext_getElem
 ·simp[upto,hk]
 ·intro i h1 h2
  have:i<zs.length:=by simp[upto] at h1;omega
  simp[upto,this]
def SInts(n₀:Nat)(W:World)(sv:Value)(zs:List Int):Prop:=∃ b off cap,sv=.slice (some ⟨b,off,none⟩) zs.length cap/\b<n₀/\∀ j,j<zs.length->W.cell? ⟨b,off+j,none⟩=some (.int .i64 (zs[j]?.getD 0))
theorem SInts.below{n₀:Nat}{A B:World}(h:Below n₀ A B){sv:Value}{zs:List Int}:SInts n₀ A sv zs->SInts n₀ B sv zs:=
 fun⟨b,off,cap,e,hb,hc⟩=>⟨b,off,cap,e,hb,fun j hj=>(h.cell (p:=⟨b,off+j,none⟩) hb).trans (hc j hj)⟩
theorem SInts.more{n₀ n₁:Nat}{A:World}(hn:n₀<=n₁){sv:Value}{zs:List Int}:SInts n₀ A sv zs->SInts n₁ A sv zs:=
 fun⟨b,off,cap,e,hb,hc⟩=>⟨b,off,cap,e,by omega,hc⟩
theorem vals1_in(F:Fence)(n:Nat)(hf:F.fn 277)(hro:F.round=none)(hn:1<=n)(l Bs n₀ b off len cap:Nat)(zs:List Int)(hreach:len*8<=140737488351232)(hb:b<n₀)(J Jx:List Int->World->Prop)
  (hY:∀ pre x W,J pre W->pre.length<len->YieldAt F (n-1) prog l #[.int .i64 x] W fun e W'=>
   (e=.returned (.bool true)/\J (pre++[x]) W'/\Below n₀ W W')\/(e=.returned (.bool false)/\Jx (pre++[x]) W'))
  (W:World) (hBs:W.cell? ⟨Bs,0,none⟩=some (.slice (some ⟨b,off,none⟩) len cap)) (hc:∀ j,j<len->W.cell? ⟨b,off+j,none⟩=some (.int .i64 (zs[j]?.getD 0))) (h0:J [] W) :
  CallsIn F n prog 277 #[.func (.yield l) #[] #[],.pointer (some ⟨Bs,0,none⟩)] W fun e W'=>(∃ v,e=.returned v) /\
   ((∃ ys,ys=upto (fun j=>zs[j]?.getD 0) len/\J ys W')\/(∃ pre,(∃ k,k<=len/\pre=upto (fun j=>zs[j]?.getD 0) k)/\Jx pre W')):=by
 refine callsIn_of_wp func277 rfl hf ?_ hro;simp only[ntmps277,List.size_toArray,Ya,Y9,Nat.reduceAdd,Nat.reduceSub,Array.replicate_succ,Array.replicate_zero,List.push_toArray,List.append_toArray,Y3,Y5]
 gi_wp2
 gi_loopw [7] (fun i wr=>∃ k:Nat,k<=len/\i=.int .i64 k/\J (upto (fun j=>zs[j]?.getD 0) k) wr/\Below n₀ W wr)
  (fun i _=>len-(intOf i).toNat)
 case atStart=>exact⟨0,Nat.zero_le _,rfl,h0,Below.refl _ _⟩
 case round=>
  obtain⟨k,hk,rfl,hJs,hnx⟩:=hrel;have hcx:k<len->wr.cell? ⟨b,off+k,none⟩=some (.int .i64 (zs[k]?.getD 0)):=fun h=>(hnx.cell (p:=⟨b,off+k,none⟩) hb).trans (hc k h)
  by_cases hlt:k<len
  ·obtain⟨fn,tmps,assign,body,hy,hR⟩:=hY _ (zs[k]?.getD 0) wr hJs (by rw[upto_length];exact hlt);have hcx':=hcx hlt
   gi_wp2
   refine hR.mono ?_;rintro e W3 (⟨rfl,hJ3,hk3⟩|⟨rfl,hJx3⟩)
   ·gi_wp2
    go_roundw
    case rel=>exact⟨k+1,by omega,by simp,by rw[upto_succ];exact hJ3,hnx.trans hk3⟩
    case measure=>simp[intOf];omega
   ·gi_wp2
    refine bodyPost_ret (results_none rfl _ _ _) rfl ?_;exact⟨⟨_,rfl⟩,.inr ⟨_,⟨k+1,by omega,(upto_succ _ _).symm⟩,hJx3⟩⟩
  ·obtain rfl:k=len:=by omega
   gi_wp2
   go_end0
   exact⟨⟨_,rfl⟩,.inl ⟨_,rfl,hJs⟩⟩
theorem vals_in(F:Fence)(n:Nat)(hf:F.fn 237)(hro:F.round=none)(a:Option Addr)(len cap:Nat)(w:World) :
  CallsIn F n prog 237 #[.slice a len cap] w fun e w'=>e=.returned (.func (.func 277) #[] #[.pointer (some ⟨w.heap.size,0,none⟩)])/\w'=w.alloc (.cells #[.slice a len cap] 38):=by
 refine callsIn_of_wp func237 rfl hf ?_ hro;simp only[ntmps237,List.size_toArray,Ya,Y9,Nat.reduceAdd,Nat.reduceSub,Array.replicate_succ,Array.replicate_zero,List.push_toArray,List.append_toArray,Y3,Y5]
 gi_wp2
 go_ret
 exact⟨rfl,rfl⟩
theorem vals_stops(F:Fence)(n:Nat)(hf:F.fn 277)(hro:F.round=none)(hn:1<=n)(Bs n₀:Nat)(sv:Value)(zs:List Int)(hreach:zs.length*8<=140737488351232)(w:World)(hBs:Bs<w.heap.size)(hn₀:n₀<=w.heap.size)
  (hc:w.cell? ⟨Bs,0,none⟩=some sv) (hI:SInts n₀ w sv zs) :
  SeqStopsK F n prog 277 #[.pointer (some ⟨Bs,0,none⟩)] (fun x:Int=>#[Value.int .i64 x]) (Below n₀) (fun ys=>ys=zs) (fun pre=>pre <+: zs) zs.length w:=fun l J Jx W hW _ _ hY h0=>by
 have hc':=(hW.cell (p:=⟨Bs,0,none⟩) hBs).trans hc;obtain⟨b,off,cap,rfl,hb,hcs⟩:=hI.below (hW.mono hn₀);refine(vals1_in F n hf hro hn l Bs n₀ b off zs.length cap zs hreach hb J Jx hY W hc' hcs h0).mono ?_;rintro e W' ⟨he,⟨ys,rfl,hj⟩|⟨pre,⟨k,hk,rfl⟩,hj⟩⟩
 ·exact⟨he,.inl ⟨_,upto_all zs,hj⟩⟩
 ·exact⟨he,.inr ⟨_,by rw[upto_take zs hk];exact List.take_prefix _ _,hj⟩⟩
theorem int_info:(prog.info? 3).map (fun i=>(i.zero,i.size,i.bytes))=some (some (.int .i64 0),1,8):=by kernel_rfl
theorem row_ne{W:World}{base:Nat}{e:TypeId}{size:Nat}{v:Value}{k:Nat}{xs:List Value}(h:W.ownsRow base e size v k xs){j:Nat}{o:Obj}(hj:W.heap[j]? = some o)(hno:∀ cur,o≠.cells cur e (0,0)):v.ownBlock=none\/v.ownBlock≠some j:=by
 rcases h.2 with⟨rfl,_⟩|⟨g,cap,cur,rfl,_,hgb,_⟩
 ·exact .inl rfl
 ·refine .inr fun e'=>?_
  obtain rfl:g=j:=by simpa [Value.ownBlock] using e'
  rw[hgb] at hj;exact hno cur (Option.some.inj hj).symm
theorem apseq_in(F:Fence)(n:Nat)(hf:F.fn 305)(hf1:F.fn 277)(hro:F.round=none)(hn:3<=n)(Bs:Nat)(sv:Value)(zs:List Int)(hreach:zs.length<=1000000)(w:World)(hBs:Bs<w.heap.size)(hc:w.cell? ⟨Bs,0,none⟩=some sv)(hI:SInts w.heap.size w sv zs) :
  CallsIn F n prog 305 #[.slice none 0 0,.func (.func 277) #[] #[.pointer (some ⟨Bs,0,none⟩)]] w fun e w'=>∃ v,e=.returned v/\w'.ownsRow w.heap.size 3 1 v zs.length (zs.map (Value.int .i64))/\Below w.heap.size w w':=by
 have h1:1<=n:=by omega
 obtain⟨i0,hi,hz0,hz1,hz2⟩:=info_parts int_info;refine callsIn_of_wp_marks func305 rfl hf ?_ hro;simp only[ntmps305,List.size_toArray,Ya,Y9,Nat.reduceAdd,Nat.reduceSub,Array.replicate_succ,Array.replicate_zero,List.push_toArray,List.append_toArray,Y3,Y5]
 gi_wp2
 have bS:=Boxed.new w 38 (.slice none 0 0);have hB0:Below w.heap.size w (w.alloc (.cells #[.slice none 0 0] 38)):=(Below.refl _ w).alloc (Nat.le_refl _) _;refine wpIn_rangeFunc_ownG hro h1 (gf:=277) (lb:=#[.pointer (some ⟨Bs,0,none⟩)]) rfl hf1 (enters_of func277 (by kernel_rfl) rfl)
  (vals_stops F (n-1) hf1 hro (by omega) Bs w.heap.size sv zs (by omega) _ (by simp;omega) (by simp) ((hB0.cell (p:=⟨Bs,0,none⟩) hBs).trans hc) (hI.below hB0)) belowK_t (belowK_b (by simp)) (Below.refl _ _) (fun _=>rfl)
  (fun pre W=>(∃ v,Boxed W w.heap.size 38 v/\W.ownsRow w.heap.size 3 1 v pre.length (pre.map (Value.int .i64))/\(v=.slice none 0 0↔pre=[]))/\Below w.heap.size w W)
  (fun _ _ _=>False)
  (OwnFrom.and (Own.from (holdsRow_own w.heap.size w.heap.size 38 3 1 (fun pre=>pre.length) (fun pre=>pre.map (Value.int .i64)) (fun pre v=>(v=.slice none 0 0↔pre=[]))) _) (ownFrom_below (Nat.le_refl _) (by simp)))
  (fun _ _ _ _ _ hs _ _=>hs)
  ⟨⟨_,bS,World.ownsRow_nil _ _ _ _,by simp⟩,hB0⟩
  (fun x=>{ tmps:=#[.slice none 0 0,.func (.func 277) #[] #[.pointer (some ⟨Bs,0,none⟩)],.pointer (some ⟨w.heap.size,0,none⟩),undef,.slice none 0 0,.int .i64 x,.func (.func 277) #[] #[.pointer (some ⟨Bs,0,none⟩)],.int .i64 x,undef,undef,undef,undef,undef],defers:=[] }) ?assign ?body ?done ?stop
 case assign=>
  intro l x W K hK
  gi_wp2
  exact hK
 case body=>
  rintro l pre x W ⟨⟨v,hv,hrow,hnil⟩,hB⟩ hlen;have hvc:=hv.cell
  have hmax:pre.length+1<=maxLen:=by unfold maxLen;omega
  gi_wp2_with (gi_at_builtin;refine wpListIn_append_own _ rfl _ _ 38 rfl w.heap.size 3 i0 (.int .i64 0) 1 8 underlying38 hi hz0 hz1 hz2 rfl (by decide) _ _ _ rfl (hrow.alloc _) ⟨W.heap.size,0,none⟩ 1 1 [.int .i64 x] rfl rfl (cell_one_new _ _ _) (by simp[Value.oneCell']) (by omega) (by omega) (by have:=hB.size;simp;omega) ?_;intro v' w1 hown' hgrow _;obtain⟨g',cap',rfl⟩:=ownsRow_succ hown';obtain⟨hv1,hv2,hr2,hk2,hb2⟩:=hv.appended (by decide) hrow hB.size (Nat.le_refl _) hown' hgrow;have hc1:=hv1.cell;have hf1:=hv1.frozen)
  exact⟨hk2.from _,hb2,⟨_,hv2,by simpa using hr2,by simp⟩,hB.trans hb2⟩
 case done=>
  rintro D ys W hD rfl ⟨⟨v,hv,hrow,hnil⟩,hB⟩ hK;have hvc:=hv.cell
  gi_wp2
  refine⟨by simp,.inl ⟨_,_,rfl,run_takeDeferred hK,?_⟩⟩;exact⟨_,results_tmp rfl _ _ _,v,rfl,hrow.kept (grownBy_putObj' _ D (.deferred none)) (row_ne hrow hK (fun cur e=>by cases e)),hB.trans (belowK_b (w:=w) (Nat.le_refl _) W D _ _ (by simp at hD;omega) hK rfl rfl)⟩
 case stop=>
  rintro D c pre W _ _ h _;exact h.elim
theorem coll_in(F:Fence)(n:Nat)(hf:F.fn 275)(hf2:F.fn 305)(hf1:F.fn 277)(hro:F.round=none)(hn:4<=n)(Bs:Nat)(sv:Value)(zs:List Int)(hreach:zs.length<=1000000)(w:World)(hBs:Bs<w.heap.size)(hc:w.cell? ⟨Bs,0,none⟩=some sv)(hI:SInts w.heap.size w sv zs) :
  CallsIn F n prog 275 #[.func (.func 277) #[] #[.pointer (some ⟨Bs,0,none⟩)]] w fun e w'=>∃ v,e=.returned v/\w'.ownsRow w.heap.size 3 1 v zs.length (zs.map (Value.int .i64))/\Below w.heap.size w w':=by
 have h1:1<=n:=by omega
 refine callsIn_of_wp func275 rfl hf ?_ hro;simp only[ntmps275,List.size_toArray,Ya,Y9,Nat.reduceAdd,Nat.reduceSub,Array.replicate_succ,Array.replicate_zero,List.push_toArray,List.append_toArray,Y3,Y5]
 gi_wp2_with (gi_at_call 305;refine(apseq_in F (n-1) hf2 hf1 hro (by omega) Bs sv zs hreach _ hBs hc hI).mono ?_;rintro e w' ⟨v,rfl,hrow,hb⟩)
 go_ret
 exact⟨v,rfl,hrow,hb⟩
theorem sorted9_in(n:Nat)(hn:5<=n)(Bs:Nat)(sv:Value)(zs:List Int)(hreach:zs.length<=1000000)(hne:0<zs.length)(w:World)(hBs:Bs<w.heap.size)(hc:w.cell? ⟨Bs,0,none⟩=some sv)(hI:SInts w.heap.size w sv zs) :
  CallsIn Fence.wide n prog 236 #[.func (.func 277) #[] #[.pointer (some ⟨Bs,0,none⟩)]] w fun e w'=>∃ g cap,e=.returned (.slice (some ⟨g,0,none⟩) zs.length cap)/\(∀ j,j<zs.length->w'.cell? ⟨g,j,none⟩=some (.int .i64 ((zs.mergeSort fun x y=>decide (x<=y))[j]?.getD 0)))/\Below w.heap.size w w':=by
 have hfC:Fence.wide.fn 275:=trivial;have hfS:Fence.wide.fn 276:=trivial
 have h1:1<=n:=by omega
 refine callsIn_of_wp func236 rfl trivial ?_ rfl;simp only[ntmps236,List.size_toArray,Ya,Y9,Nat.reduceAdd,Nat.reduceSub,Array.replicate_succ,Array.replicate_zero,List.push_toArray,List.append_toArray,Y3,Y5]
 gi_wp2_with (gi_at_call 275;refine(coll_in Fence.wide (n-1) trivial trivial trivial rfl (by omega) Bs sv zs hreach _ hBs hc hI).mono ?_;rintro e W ⟨v,rfl,hrow,hb⟩)
 rcases hrow.2 with⟨rfl,hz⟩|⟨gb,cap,cur,rfl,hbase,hgb,r1,r2,r3,r4⟩
 ·omega
 ·have hH:Holds (Value.int .i64) W gb 0 zs.toArray:=holds_of_block_i hgb (by simpa using r4);have hgl:gb<W.heap.size:=(Array.getElem?_eq_some_iff.1 hgb).1;have cS:CallsIn Fence.wide (n-1) prog 276 #[.slice (some ⟨gb,0,none⟩) zs.length cap] W fun e w'=>e=.returned (.tuple #[])/\∃ n os,w'=grow (putRow (Value.int .i64) (Sort.ahead W n) gb 0 (zs.mergeSort fun x y=>decide (x<=y)).toArray) os:=callsIn_wide.2 (Any.slices_Sort_int lays189 gb 0 cap zs W hH hgl (by omega))
  gi_wp2_with (gi_at_call 276;refine cS.mono ?_;rintro e w' ⟨rfl,nn,os,rfl⟩)
  go_ret
  refine⟨gb,cap,rfl,fun j hj=>?_,hb.grown (grownBy_sorted_i _) hb.size (fun j hj=>by cases hj;exact hbase)⟩;have hs:=ownsRow_sorted_i (os:=os) (n:=nn) (ts:=zs.mergeSort fun x y=>decide (x<=y)) (by simp) hbase hgb r1 r2 r3
  rcases hs.2 with⟨h,_⟩|⟨g2,cap2,cur2,e2,_,hg2,_,_,s3,s4⟩
  ·cases h
  ·cases e2;unfold World.cell?;rw[hg2]
   have:cur2.toList[j]? = some (.int .i64 ((zs.mergeSort fun x y=>decide (x<=y))[j]?.getD 0)):=by
    have h1:(cur2.toList.take (zs.length*1))[j]? = ((zs.mergeSort fun x y=>decide (x<=y)).map encZ)[j]?:=by rw[s4]
    rw[List.getElem?_take_of_lt (by omega),Vg] at h1;rw[h1]
    have hj':j<(zs.mergeSort fun x y=>decide (x<=y)).length:=by simpa using hj
    rw[Vb hj'];rfl
   simpa using this
def nthV(zs:List Int)(k:Int):Int:=if k<1\/(zs.length:Int)<k then 0 else((zs.mergeSort fun x y=>decide (x<=y))[zs.length-k.toNat]?.getD 0)
theorem nth_calls(A:Option Addr)(cap:Nat)(zs:List Int)(k:Int)(w:World)(hk:-9223372036854775808<=k/\k<=9223372036854775807)(hreach:zs.length<=1000000)(hI:zs≠[]->SInts w.heap.size w (.slice A zs.length cap) zs) :
  Calls prog 190 #[.slice A zs.length cap,.int .i64 k] w fun e w'=>e=.returned (.int .i64 (nthV zs k))/\Below w.heap.size w w':=by
 refine(callsIn_wide (n:=6)).1 ?_;have hfV:Fence.wide.fn 237:=trivial;have hfS:Fence.wide.fn 236:=trivial;refine callsIn_of_wp func190 rfl trivial ?_ rfl;simp only[ntmps190,List.size_toArray,Ya,Y9,Nat.reduceAdd,Nat.reduceSub,Array.replicate_succ,Array.replicate_zero,List.push_toArray,List.append_toArray,Y3,Y5]
 by_cases h1:k<1
 ·gi_wp2
  go_ret
  exact⟨by simp[nthV,h1],Below.refl _ _⟩
 ·by_cases h2:(zs.length:Int)<k
  ·gi_wp2
   go_ret
   exact⟨by simp[nthV,h2],Below.refl _ _⟩
  ·have hne:0<zs.length:=by omega
   have hI:=hI (List.ne_nil_of_length_pos hne);have hW:Below w.heap.size w (w.alloc (.cells #[.slice A zs.length cap] 38)):=(Below.refl _ w).alloc (Nat.le_refl _) _;have cS:=sorted9_in 5 (by omega) w.heap.size (.slice A zs.length cap) zs hreach hne (w.alloc (.cells #[.slice A zs.length cap] 38)) (by simp) (Boxed.new w 38 _).cell ((hI.below hW).more (by simp))
   gi_wp2_with (first
    |(gi_at_call 237;refine(vals_in Fence.wide 5 trivial rfl _ _ _ _).mono ?_;rintro e w' ⟨rfl,rfl⟩)
    |(gi_at_call 236;refine cS.mono ?_;rintro e w' ⟨g,cap2,rfl,hcs,hb⟩;have hcell:=hcs ((zs.length:Int)-k).toNat (by omega)))
   go_ret
   refine⟨?_,hW.trans (hb.mono (by simp))⟩
   have e:((zs.length:Int)-k).toNat=zs.length-k.toNat:=by omega
   rw[nthV,if_neg (by omega),e];rfl
end Go.Proofs.YtojhjaohaafeaaaGreatDoor
