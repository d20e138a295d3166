/-
  Several texts in one: Hz, Lv, Sc, Sd, Se, Sf, Sg, Sh, Si, Sj, Sk, Sl, Sm, Sn, So, Sp, Sq, Sr, Sy, Sz, Ta, Tb, Nk, No, Tc, Ub, Td, Te.
-/
import Derived.Test.YtojhjaohaafeaaaGreatDoorQr
import Derived.Test.YtojhjaohaafeaaaGreatDoorQs
import Derived.Test.YtojhjaohaafeaaaGreatDoorQt
import Derived.Test.YtojhjaohaafeaaaGreatDoorQu
import Derived.KernelRfl
import Derived.Test.YtojhjaohaafeaaaGreatDoorQg
set_option maxRecDepth 20000
set_option maxHeartbeats 8000000
open Go.Proofs.Tryz
namespace Go.Proofs.YtojhjaohaafeaaaGreatDoor
open Go.RowKit
noncomputable def hearT:DT:=.node true [(0,2)] 2 (.node true [(0,2)] 1 (.node true [(0,7)] 2 (.node false [(0,0)] 5 (dt0) (dt1)) (dt4)) (.node true [(0,7)] 2 (.node true [(0,12)] 1 (dt5) (dt6)) (dt9))) (.node true [(0,2)] 3 (.node true [(0,56),(0,17)] 2 (.node false [(0,0)] 5 (dt10) (dt11)) (.node true [(0,8),(3,0)] 3 (dt12) (dt13))) (dt18))
theorem hearT_ok:hearT.Ok prog 73:=⟨⟨⟨⟨dt0_ok,dt1_ok⟩,dt4_ok⟩,⟨⟨dt5_ok,dt6_ok⟩,dt9_ok⟩⟩,⟨⟨⟨dt10_ok,dt11_ok⟩,⟨dt12_ok,dt13_ok⟩⟩,dt18_ok⟩⟩
noncomputable def KH:KC:=kOr (kA (look9 73 hearT fun _ _=>none)) K8
theorem KH_pres:KPres KH:=kOr_pres kA_pres K8_pres
theorem KH_ok:KCok prog KH:=kOr_ok (kA_ok (look9_ok hearT_ok fun _ _ _ h=>by cases h)) K8_ok
set_option maxRecDepth 1000000
noncomputable def KW:KC:=kOr KH (kMS (ncalled9 xfun (nrun9 xfun M9 KH xtab 1000)))
theorem KW_pres:KPres KW:=kOr_pres KH_pres (kMS_pres (ncalled9_pres _ _ KH_pres _ _))
theorem KW_ok:KCok prog KW:=kOr_ok KH_ok (kMS_ok (ncalled9_ok xfun_ok M9_ok KH_ok KH_pres xtab_ok xfollows_ok 1000))
theorem alive_run:fst9 (ncalled9 xfun (nrun9 xfun M9 KW xtab 100000) o0 5 [] HT.nil)=some (.bool true):=by kernel_rfl
theorem alive_spec:ASpec prog 5 [] (.bool true):=by
 obtain⟨h',e⟩:=fst9_ok alive_run;exact ASpec.of9 xfun_ok M9_ok KW_ok KW_pres xtab_ok xfollows_ok 100000 e
def strC(s:List UInt8):List AV:=[.str s]
def strsA(l:List (List UInt8)):AV:=.sl 1 (l.map strC) .no
def spl:Nat->List UInt8->List (List UInt8)
 |0,s=>[s]
 |k+1,s=>if Lib.indexByte s 47<0 then [s] else s.take (Lib.indexByte s 47).toNat::spl k (s.drop ((Lib.indexByte s 47).toNat+1))
def pieces(s:List UInt8):List (List UInt8):=spl (Lib.countByte s 47) s
theorem index_lt(s:List UInt8)(c:UInt8)(h:¬Lib.indexByte s c<0):(Lib.indexByte s c).toNat<s.length/\Lib.indexByte s c=((Lib.indexByte s c).toNat:Int):=by
 have key:∀ s:List UInt8,Lib.indexByte s c<s.length:=by
  intro s
  induction s with
  |nil=>simp[Lib.indexByte]
  |cons b l ih=>
   unfold Lib.indexByte
   have hl:((b::l).length:Int)=l.length+1:=by simp
   split
   ·omega
   ·split
    ·omega
    ·omega
 have:=key s;omega
theorem count_len(s:List UInt8)(c:UInt8):Lib.countByte s c<=s.length:=List.count_le_length
def rowsS(N:Nat)(d:List (List UInt8)):List (List AV):=d.map strC++List.replicate (N-d.length) [.str []]
theorem rowsS_at{N:Nat}{d:List (List UInt8)}(h:d.length<N)(x:List UInt8):(rowsS N d)[d.length]? = some [.str []]/\(rowsS N d).set d.length [.str x]=rowsS N (d++[x]):=by
 have e:rowsS N d=d.map strC++[.str []]::List.replicate (N-(d.length+1)) [.str []]:=by
  unfold rowsS;rw[show N-d.length=(N-(d.length+1))+1 by omega,List.replicate_succ]
 have e2:d.length=(d.map strC).length:=by simp
 rw[e]
 constructor
 ·rw[e2];simp
 ·unfold rowsS;rw[e2];simp[strC]
theorem rowsS_len{N:Nat}{d:List (List UInt8)}(h:d.length<=N):(rowsS N d).length=N:=by simp[rowsS];omega
theorem rowsS_bel{n:Nat}(N:Nat)(d:List (List UInt8)):belLL n (rowsS N d)=true:=by
 have key:∀ l:List (List AV),(∀ x∈l,belL n x=true)->belLL n l=true:=by
  intro l
  induction l with
  |nil=>intro _;rfl
  |cons x l ih=>intro h;rw[belLL,Vi];exact⟨h x List.mem_cons_self,ih fun y hy=>h y (List.mem_cons_of_mem _ hy)⟩
 refine key _ fun x hx=>?_
 rcases List.mem_append.1 hx with hx|hx
 ·obtain⟨y,_,rfl⟩:=List.mem_map.1 hx;rfl
 ·rw[(List.mem_replicate.1 hx).2];rfl
theorem strC_plain{l:List (List UInt8)}:∀ x∈l.map strC,∀ a∈x,a.plain=true:=by
 intro x hx a ha;obtain⟨y,_,rfl⟩:=List.mem_map.1 hx;simp only[strC,List.mem_cons,List.not_mem_nil,or_false] at ha;subst ha;rfl
theorem gensplit_spec(r:List UInt8)(hr:r.length<=1000000):ASpec prog 382 [.str r,.str [47],.int .i64 0,.int .i64 (-1)] (strsA (pieces r)):=by
 refine⟨⟨_,func382,by kernel_rfl,rfl⟩,ACall.frz (by omega) strC_plain ?_⟩
 have hc:ASpec prog 399 [.str r,.str [47]] (.int .i64 ((Lib.countByte r 47:Nat):Int)):=by
  have:=count_law r 47;rw[cnt9_eq] at this;exact this
 have hcl:=count_len r 47;unfold pieces
 obtain⟨N,hN⟩:∃ N,N=Lib.countByte r 47:=⟨_,rfl⟩
 rw[<- hN] at hc hcl ⊢
 have z1:min ((N:Int)+1) ((r.length:Int)+1)=(N:Int)+1:=by omega
 have z2:((N:Int)+1)-1=(N:Int):=by omega
 have z3:((N:Int)+1).toNat=N+1:=by omega
 have hR0:[AV.str []]::List.replicate N [AV.str []]=rowsS (N+1) []:=by simp[rowsS,List.replicate_succ]
 refine Sg func382 rfl fun c1 hc1=>?_;simp only[go_sem,Int.reduceNeg,reduceCtorEq];have hc0:=hc1;(and_intros<;>try omega);refine Ops.pure .free rfl rfl (hc) Vl rfl rfl ?_;refine Og func382 ?_;simp only[go_sem,z1,z2,z3,Int.reduceNeg];(and_intros<;>try omega);rw[hR0];refine Run.loopV (α:=List (List UInt8)×List UInt8) (fun q=>q.1.length<=N/\q.2.length<=r.length/\spl N r=q.1++spl (N-q.1.length) q.2) (fun q=>[(0,.str q.2),(10,.int .i64 q.1.length)]) 1 (fun q=>[(0,.rows 1 (rowsS (N+1) q.1))]) (fun q=>N-q.1.length) ([],r) ⟨Nat.zero_le _,Nat.le_refl _,rfl⟩ ?_ ?_
 ·simp only[go_sem,writes,junks,puts,hputs,List.filterMap_cons,List.filterMap_nil];(refine Weak.of (by simp[hc0]) ?_ ?_<;>repeat' first|exact .refl _|exact .junk _|rfl|apply Le.agg|constructor)
  all_goals exact rowsS_bel _ _
 rintro⟨d,s⟩ ⟨h1,h2,h3⟩ ih;simp only[writes,junks,puts,hputs,List.filterMap_cons,List.filterMap_nil,Y6,Y7,Yg,Yk,Y5,Y3,Yd] at h1 h2 h3 ih ⊢
 have hx:ASpec prog 400 [.str s,.str [47]] (.int .i64 (Lib.indexByte s 47)):=by
  have:=index_law s 47;rw[idxI_eq] at this;exact this
 obtain⟨f1,f2⟩:=rowsS_at (N:=N+1) (d:=d) (by omega) s;have f3:=rowsS_len (N:=N+1) (d:=d) (by omega)
 have fin:∀ s:List UInt8,spl N r=d++[s]->FrzR 1 ((spl N r).map strC) (.msl 0 1 0 ((d.length:Int)+1).toNat (N+1)) [.rows 1 ((rowsS (N+1) d).set d.length [.str s])]:=by
  intro s e;have f2:=(rowsS_at (N:=N+1) (d:=d) (by omega) s).2;refine⟨0,0,d.length+1,N+1,_,by rw[show((d.length:Int)+1).toNat=d.length+1 by omega],rfl,by rw[List.length_set,f3];omega,?_⟩;rw[f2,e,List.drop_zero];unfold rowsS;rw[List.take_append_of_le_length (by simp)];exact List.take_of_length_le (by simp)
 by_cases hk:d.length<N
 case neg=>
  have hkk:¬(d.length:Int)<N:=by omega
  have hlt:(d.length:Int)<(N:Int)+1:=by omega
  have e:spl N r=d++[s]:=by rw[h3,show N-d.length=0 by omega];rfl
  have g1:d.length<N+1:=by omega
  refine Rg func382 ?_;simp only[go_sem,hkk,g1,f1,f3,Int.reduceNeg];(and_intros<;>try omega);exact fin s e
 case pos=>
  have hkk:(d.length:Int)<N:=by omega
  have hlt:(d.length:Int)<(N:Int)+1:=by omega
  have g1:d.length<N+1:=by omega
  obtain⟨k,hkN⟩:∃ k,N-d.length=k+1:=⟨N-d.length-1,by omega⟩
  rw[hkN,spl] at h3
  by_cases hi:Lib.indexByte s 47<0
  ·rw[if_pos hi] at h3;refine Rg func382 ?_;simp only[go_sem,hkk,Int.reduceNeg];(and_intros<;>try omega);refine Ops.pure .free rfl rfl (hx) Vl rfl rfl ?_;refine Og func382 ?_;simp only[go_sem,hi,g1,f1,f3,Int.reduceNeg];(and_intros<;>try omega);exact fin s h3
  ·rw[if_neg hi] at h3;obtain⟨l1,l2⟩:=index_lt s 47 hi
   obtain⟨m,hm⟩:∃ m,m=(Lib.indexByte s 47).toNat:=⟨_,rfl⟩
   rw[<- hm] at h3 l1 l2;rw[l2] at hx hi;obtain⟨f4,f5⟩:=rowsS_at (N:=N+1) (d:=d) (by omega) (s.take m)
   have hm2:((m:Int)+1).toNat=m+1:=by omega
   refine Rg func382 ?_;simp only[go_sem,hkk,Int.reduceNeg];(and_intros<;>try omega);refine Ops.pure .free rfl rfl (hx) Vl rfl rfl ?_;refine Og func382 ?_;simp only[go_sem,hi,g1,f1,f3,hm2,Int.add_zero,Int.natCast_one,Int.reduceNeg];(and_intros<;>try omega);refine ih (d++[s.take m],s.drop (m+1)) _ ⟨?_,?_,?_⟩ ?_ ?_
   ·simp;omega
   ·simp;omega
   ·rw[h3];simp only[List.length_append,Ya,Y9,List.append_assoc,Y5,Y3];rw[show N-(d.length+(0+1))=k by omega]
   ·simp;omega
   ·rw[<- f5];simp only[Int.natCast_add,Int.natCast_one,Ya,Y9,Yp,List.length_append];(refine Weak.of (by simp[hc0]) ?_ ?_<;>repeat' first|exact .refl _|exact .junk _|rfl|apply Le.agg|constructor)
    all_goals (show belLL _ ((rowsS (N+1) d).set d.length [.str (s.take m)])=true;rw[f5];exact rowsS_bel _ _)
theorem split_spec(r:List UInt8)(hr:r.length<=1000000):ASpec prog 360 [.str r,.str [47]] (strsA (pieces r)):=by
 have h:=gensplit_spec r hr;refine Sh func360 (by kernel_rfl) rfl fun c0 hc0=>?_;simp only[go_sem,Int.reduceNeg];refine Ops.pure .free rfl rfl (h) Vl rfl rfl ?_;refine Og func360 ?_;simp only[go_sem,strsA];(and_intros<;>try omega);exact Vr
theorem noname_spec(s:List UInt8):ASpec prog 362 [.str s] (.bool (!isNm s)):=by
 have h:=isname_spec s
 cases hb:isNm s with
 |true=>
  rw[hb] at h;refine Sh func362 (by kernel_rfl) rfl fun c0 hc0=>?_;simp only[go_sem];refine Ops.pure .free rfl rfl (h) Vl rfl rfl ?_;refine Og func362 ?_;simp only[go_sem];exact Vr
 |false=>
  rw[hb] at h;refine Sh func362 (by kernel_rfl) rfl fun c0 hc0=>?_;simp only[go_sem];refine Ops.pure .free rfl rfl (h) Vl rfl rfl ?_;refine Og func362 ?_;simp only[go_sem];exact Vr
def fiS(p:List UInt8->Bool)(l:List (List UInt8)):Int:=match l.findIdx? p with
 |some i=>i
 |none=>-1
theorem indexS_spec(l:List (List UInt8))(hl:l.length<=100000000):ASpec prog 383 [strsA l,.fn (.func 362) [] []] (.int .i64 (fiS (fun s=>!isNm s) l)):=by
 refine Sh func383 (by kernel_rfl) rfl fun c0 hc0=>?_;simp only[go_sem,strsA,Int.reduceNeg];refine Run.loopV (α:=Nat) (fun k=>k<=l.length/\∀ j x,j<k->l[j]? = some x->isNm x=true) (fun k=>[(8,.int .i64 k)]) 0 (fun _=>[]) (fun k=>l.length-k) 0 ⟨Nat.zero_le _,fun j x hj=>absurd hj (Nat.not_lt_zero _)⟩ ?_ ?_
 ·simp only[go_sem,writes,junks,puts,hputs,List.filterMap_cons,List.filterMap_nil];(refine Weak.of (by simp[hc0]) ?_ ?_<;>repeat' first|exact .refl _|exact .junk _|rfl|apply Le.agg|constructor)
 rintro k ⟨hk0,hall⟩ ih;simp only[writes,junks,puts,hputs,List.filterMap_cons,List.filterMap_nil,Y6,Y7,Yk,Y5,Y3,Yd] at ih ⊢
 by_cases hk:k<l.length
 case pos=>
  obtain⟨x,hx⟩:∃ x,l[k]? = some x:=⟨_,Vb hk⟩
  have hkk:(k:Int)<l.length:=by omega
  have hn:=noname_spec x
  cases hb:isNm x with
  |true=>
   rw[hb] at hn;refine Rg func383 ?_;simp only[go_sem,hx,hkk,strC,Vg,Int.reduceNeg];(and_intros<;>try omega);refine Ops.pure .free rfl rfl (hn) Vl rfl rfl ?_;refine Og func383 ?_;simp only[go_sem,Int.reduceNeg];(and_intros<;>try omega);refine ih (k+1) _ ⟨by omega,fun j y hj hy=>?_⟩ (by omega) ?_
   ·rcases Nat.lt_or_ge j k with h|h
    ·exact hall j y h hy
    ·obtain rfl:j=k:=by omega
     rw[hx] at hy;cases hy;exact hb
   ·simp only[Int.natCast_add,Int.natCast_one];(refine Weak.of (by simp[hc0]) ?_ ?_<;>repeat' first|exact .refl _|exact .junk _|rfl|apply Le.agg|constructor)
  |false=>
   rw[hb] at hn
   have e:fiS (fun s=>!isNm s) l=(k:Int):=by
    unfold fiS;rw[fi_some (p:=fun s=>!isNm s) hx (by simp[hb]) fun j y hj hy=>by simp[hall j y hj hy]]
   rw[e];refine Rg func383 ?_;simp only[go_sem,hx,hkk,strC,Vg,Int.reduceNeg];(and_intros<;>try omega);refine Ops.pure .free rfl rfl (hn) Vl rfl rfl ?_;refine Og func383 ?_;simp only[go_sem];(and_intros<;>try omega);exact Vr
 case neg=>
  obtain rfl:k=l.length:=by omega
  have hkk:¬(l.length:Int)<l.length:=by omega
  have e:fiS (fun s=>!isNm s) l=-1:=by
   unfold fiS;rw[fi_none (p:=fun s=>!isNm s) fun j y hj hy=>by simp[hall j y hj hy]]
  rw[e];refine Rg func383 ?_;simp only[go_sem,hkk,Int.reduceNeg];(and_intros<;>try omega);exact Vr
theorem fiS_any(p:List UInt8->Bool)(l:List (List UInt8)):decide (0<=fiS p l)=l.any p:=by
 unfold fiS
 cases h:l.findIdx? p with
 |none=>
  rw[List.findIdx?_eq_none_iff] at h
  have e:l.any p=false:=List.any_eq_false.2 fun x hx=>by simp[h x hx]
  rw[e];rfl
 |some i=>
  have h2:=List.findIdx?_eq_some_iff_getElem.1 h;obtain⟨h3,h4,_⟩:=h2;have e:l.any p=true:=List.any_eq_true.2 ⟨_,List.getElem_mem h3,h4⟩;rw[e];simp
theorem containsS_spec(l:List (List UInt8))(hl:l.length<=100000000):ASpec prog 361 [strsA l,.fn (.func 362) [] []] (.bool (l.any fun s=>!isNm s)):=by
 have h:=indexS_spec l hl;rw[<- fiS_any];generalize fiS (fun s=>!isNm s) l=q at h ⊢;refine Sh func361 (by kernel_rfl) rfl fun c0 hc0=>?_;simp only[go_sem,strsA];refine Ops.pure .free rfl rfl (h) Vl rfl rfl ?_;refine Og func361 ?_;simp only[go_sem];exact Vr
def namesF(p:List UInt8):List (List UInt8)×Bool:=
 if(cutF p).2=false\/100<p.length then([],false)
 else if(cutF p).1=[] then([],true)
 else(pieces (cutF p).1,decide ((pieces (cutF p).1).length<=8)&&!(pieces (cutF p).1).any fun s=>!isNm s)
theorem spl_len:∀ (k:Nat) (s:List UInt8),(spl k s).length<=k+1
 |0,s=>by simp[spl]
 |k+1,s=>by
  unfold spl
  split
  ·simp
  ·have:=spl_len k (s.drop ((Lib.indexByte s 47).toNat+1));simp only[Ya];omega
theorem pieces_len(s:List UInt8):(pieces s).length<=s.length+1:=by
 have h1:=spl_len (Lib.countByte s 47) s;have h2:=count_len s 47;unfold pieces;omega
theorem cutF_len(p:List UInt8):(cutF p).1.length<=p.length:=by
 unfold cutF
 cases p with
 |nil=>simp
 |cons c r=>
  dsimp only
  split
  ·simp
  ·simp
theorem names_spec(p:List UInt8)(hp:p.length<=1000000):ASpec prog 323 [.str p] (.tup [strsA (namesF p).1,.bool (namesF p).2]):=by
 have hc:=cut_spec p;have hcl:=cutF_len p;unfold namesF
 obtain⟨r,ok,hr⟩:∃ r ok,cutF p=(r,ok):=⟨_,_,rfl⟩
 rw[hr] at hc hcl ⊢;dsimp only at hc hcl ⊢
 cases ok with
 |false=>
  rw[if_pos (.inl rfl)];refine Sh func323 (by kernel_rfl) rfl fun c0 hc0=>?_;simp only[go_sem];refine Ops.pure .free rfl rfl (hc) Vl rfl rfl ?_;refine Og func323 ?_;simp only[go_sem];(and_intros<;>try first|rfl|omega);simp only[strsA,Ye];(repeat' first|exact .refl _|apply LeR.tup|constructor)
 |true=>
  by_cases h1:(100:Int)<p.length
  ·rw[if_pos (.inr (by omega))];refine Sh func323 (by kernel_rfl) rfl fun c0 hc0=>?_;simp only[go_sem];refine Ops.pure .free rfl rfl (hc) Vl rfl rfl ?_;refine Og func323 ?_;simp only[go_sem,h1];(and_intros<;>try first|rfl|omega);simp only[strsA,Ye];(repeat' first|exact .refl _|apply LeR.tup|constructor)
  rw[if_neg (by rintro(e|e);cases e;omega)]
  by_cases h2:r=[]
  ·subst h2;rw[if_pos rfl];refine Sh func323 (by kernel_rfl) rfl fun c0 hc0=>?_;simp only[go_sem];refine Ops.pure .free rfl rfl (hc) Vl rfl rfl ?_;refine Og func323 ?_;simp only[go_sem,h1];(and_intros<;>try first|rfl|omega);simp only[strsA,Ye];(repeat' first|exact .refl _|apply LeR.tup|constructor)
  rw[if_neg h2];have hs:=split_spec r (by omega);have hpl:=pieces_len r
  obtain⟨l,hl⟩:∃ l,l=pieces r:=⟨_,rfl⟩
  rw[<- hl] at hs hpl ⊢;have hf:=containsS_spec l (by omega)
  by_cases h3:(l.length:Int)<=8
  case neg=>
   rw[decide_eq_false (show ¬l.length<=8 by omega),Bool.false_and];refine Sh func323 (by kernel_rfl) rfl fun c0 hc0=>?_;simp only[go_sem];refine Ops.pure .free rfl rfl (hc) Vl rfl rfl ?_;refine Og func323 ?_;simp only[go_sem,h1,h2];(and_intros<;>try omega);refine Ops.pure .free rfl rfl (hs) Vl rfl rfl ?_;refine Og func323 ?_;simp only[go_sem,strsA,h3];(and_intros<;>try omega);exact Vr
  case pos=>
   rw[decide_eq_true (show l.length<=8 by omega),Bool.true_and]
   cases hb:(l.any fun s=>!isNm s) with
   |true=>
    rw[hb] at hf;refine Sh func323 (by kernel_rfl) rfl fun c0 hc0=>?_;simp only[go_sem];refine Ops.pure .free rfl rfl (hc) Vl rfl rfl ?_;refine Og func323 ?_;simp only[go_sem,h1,h2];(and_intros<;>try omega);refine Ops.pure .free rfl rfl (hs) Vl rfl rfl ?_;refine Og func323 ?_;simp only[go_sem,strsA,h3];(and_intros<;>try omega);refine Ops.pure (Wanted.test 4 true true rfl) rfl rfl (hf) Vl rfl rfl ?_;refine Og func323 ?_;simp only[go_sem];(and_intros<;>try omega);exact Vr
   |false=>
    rw[hb] at hf;refine Sh func323 (by kernel_rfl) rfl fun c0 hc0=>?_;simp only[go_sem];refine Ops.pure .free rfl rfl (hc) Vl rfl rfl ?_;refine Og func323 ?_;simp only[go_sem,h1,h2];(and_intros<;>try omega);refine Ops.pure .free rfl rfl (hs) Vl rfl rfl ?_;refine Og func323 ?_;simp only[go_sem,strsA,h3];(and_intros<;>try omega);refine Ops.pure (Wanted.test 4 true true rfl) rfl rfl (hf) Vl rfl rfl ?_;refine Og func323 ?_;simp only[go_sem];(and_intros<;>try omega);exact Vr
def rightS(p:List UInt8):Bool:=(namesF p).2
theorem rightp_spec(p:List UInt8)(hp:p.length<=1000000):ASpec prog 293 [.str p] (.bool (rightS p)):=by
 have h:=names_spec p hp;unfold rightS;generalize namesF p=q at h ⊢;refine Sh func293 (by kernel_rfl) rfl fun c0 hc0=>?_;simp only[go_sem];refine Ops.pure .free rfl rfl (h) Vl rfl rfl ?_;refine Og func293 ?_;simp only[go_sem];exact Vr
def namesE(p:List UInt8):List (List UInt8)×Int:=if(namesF p).2 then((namesF p).1,0) else([],13)
theorem namesp_spec(p:List UInt8)(hp:p.length<=1000000):ASpec prog 317 [.str p] (.tup [strsA (namesE p).1,.int .i64 (namesE p).2]):=by
 have h:=names_spec p hp;unfold namesE
 obtain⟨l,ok,hq⟩:∃ l ok,namesF p=(l,ok):=⟨_,_,rfl⟩
 rw[hq] at h ⊢
 cases ok with
 |true=>
  refine Sh func317 (by kernel_rfl) rfl fun c0 hc0=>?_;simp only[go_sem];refine Ops.pure .free rfl rfl (h) Vl rfl rfl ?_;refine Og func317 ?_;simp only[go_sem,strsA];(and_intros<;>try omega)
  try simp only[strsA]
  exact Vr
 |false=>
  refine Sh func317 (by kernel_rfl) rfl fun c0 hc0=>?_;simp only[go_sem];refine Ops.pure .free rfl rfl (h) Vl rfl rfl ?_;refine Og func317 ?_;simp only[go_sem,strsA];(and_intros<;>try first|rfl|omega)
  try simp only[strsA,Ye]
  (repeat' first|exact .refl _|apply LeR.tup|constructor)
theorem compare0_spec(l:List (List UInt8)):ASpec prog 378 [.sl 1 [] .no,strsA l] (.int .i64 (if l=[] then 0 else -1)):=by
 cases l with
 |nil=>
  refine Sh func378 (by kernel_rfl) rfl fun c0 hc0=>?_;simp only[go_sem,strsA,Int.reduceNeg];refine Run.unloop ?_;refine Rg func378 ?_;simp only[go_sem,Int.reduceNeg];(and_intros<;>try omega);exact Vr
 |cons x l=>
  have h:(0:Int)<((l.length+1:Nat):Int):=by omega
  rw[if_neg (by simp)];refine Sh func378 (by kernel_rfl) rfl fun c0 hc0=>?_;simp only[go_sem,strsA,Int.reduceNeg];refine Run.unloop ?_;refine Rg func378 ?_;simp only[go_sem,h,Int.reduceNeg];(and_intros<;>try omega);exact Vr
theorem names_ne{p:List UInt8}(hp:p≠[47])(h:rightS p=true):(namesF p).1≠[]:=by
 unfold rightS namesF at h;unfold namesF
 by_cases h1:(cutF p).2=false\/100<p.length
 ·rw[if_pos h1] at h;cases h
 rw[if_neg h1] at h ⊢
 by_cases h2:(cutF p).1=[]
 ·exfalso
  apply hp
  have h3:(cutF p).2=true:=by
   cases hc:(cutF p).2 with
   |true=>rfl
   |false=>exact absurd (.inl hc) h1
  unfold cutF at h2 h3
  cases p with
  |nil=>cases h3
  |cons c r=>
   dsimp only at h2 h3
   split at h2
   ·rename_i e;dsimp only at h2;rw[e,h2]
   ·cases h2
 ·rw[if_neg h2];dsimp only;unfold pieces;generalize Lib.countByte (cutF p).1 47=k
  cases k with
  |zero=>simp[spl]
  |succ k=>unfold spl;split<;>simp
theorem root_names:namesF [47]=([],true):=by decide
theorem ahead_spec(p:List UInt8)(hp:p.length<=1000000)(hne:p≠[47]):ASpec prog 353 [.str [47],.str p] (.bool (rightS p)):=by
 have h0:=names_spec [47] (by decide);rw[root_names] at h0;have h1:=names_spec p hp;have hnn:=names_ne hne;unfold rightS at hnn ⊢
 obtain⟨l,ok,hq⟩:∃ l ok,namesF p=(l,ok):=⟨_,_,rfl⟩
 rw[hq] at h1 hnn ⊢;dsimp only at h1 hnn ⊢
 cases ok with
 |false=>
  refine Sh func353 (by kernel_rfl) rfl fun c0 hc0=>?_;simp only[go_sem];refine Ops.pure .free rfl rfl (h0) Vl rfl rfl ?_;refine Og func353 ?_;simp only[go_sem,strsA];(and_intros<;>try omega);refine Ops.pure .free rfl rfl (h1) Vl rfl rfl ?_;refine Og func353 ?_;simp only[go_sem,strsA];(and_intros<;>try omega);exact Vr
 |true=>
  have hc:=compare0_spec l;rw[if_neg (hnn rfl)] at hc;refine Sh func353 (by kernel_rfl) rfl fun c0 hc0=>?_;simp only[go_sem];refine Ops.pure .free rfl rfl (h0) Vl rfl rfl ?_;refine Og func353 ?_;simp only[go_sem,strsA];(and_intros<;>try omega);refine Ops.pure .free rfl rfl (h1) Vl rfl rfl ?_;refine Og func353 ?_;simp only[go_sem,strsA];(and_intros<;>try omega);refine Ops.pure (Wanted.test 4 true true rfl) rfl rfl (hc) Vl rfl rfl ?_;refine Og func353 ?_;simp only[go_sem,Int.reduceNeg];(and_intros<;>try omega);exact Vr
def rootC:List AV:=[.str [47],.str [],.int .i64 0,.int .i64 0]
def rootA:AV:=.sl 4 [rootC] .no
def plc(p:List UInt8):Int:=if p=[47] then 0 else if rightS p then -1 else 1
theorem place1_spec(p:List UInt8)(hp:p.length<=1000000):ASpec prog 352 [.agg rootC,.str p] (.int .i64 (plc p)):=by
 unfold plc
 by_cases h:p=[47]
 ·subst h;rw[if_pos rfl];refine Sh func352 (by kernel_rfl) rfl fun c0 hc0=>?_;simp only[go_sem,rootC];(and_intros<;>try omega);exact Vr
 ·have h':¬[47]=p:=fun e=>h e.symm;have ha:=ahead_spec p hp h;rw[if_neg h]
  cases hr:rightS p with
  |true=>
   rw[hr] at ha;refine Sh func352 (by kernel_rfl) rfl fun c0 hc0=>?_;simp only[go_sem,rootC,h',Int.reduceNeg];(and_intros<;>try omega);refine Ops.pure .free rfl rfl (ha) Vl rfl rfl ?_;refine Og func352 ?_;simp only[go_sem,Int.reduceNeg];(and_intros<;>try omega)
   try simp only[Ys]
   exact Vr
  |false=>
   rw[hr] at ha;refine Sh func352 (by kernel_rfl) rfl fun c0 hc0=>?_;simp only[go_sem,rootC,h',Int.reduceNeg];(and_intros<;>try omega);refine Ops.pure .free rfl rfl (ha) Vl rfl rfl ?_;refine Og func352 ?_;simp only[go_sem];(and_intros<;>try omega)
   try simp only[Yr,Y8]
   exact Vr
theorem search1_spec(p:List UInt8)(hp:p.length<=1000000):ASpec prog 351 [rootA,.str p,.fn (.func 352) [] []] (.tup [.int .i64 (if plc p<0 then 1 else 0),.bool (decide (plc p=0))]):=by
 have hc:=place1_spec p hp
 have h1:(0:Int)<1:=by omega
 have h2:¬(1:Int)<1:=by omega
 have h3:¬(0:Int)<0:=by omega
 have z01:(0:Int)+1=1:=rfl
 have hmid:IntKind.i64.wrap ((IntKind.u64.wrap ((0:Int)+1)).fdiv (2^min 1 64))=0:=by decide
 by_cases hn:plc p<0
 ·have hz:¬plc p=0:=by omega
  rw[if_pos hn,decide_eq_false hz];refine Sh func351 (by kernel_rfl) rfl fun c0 hc0=>?_;simp only[go_sem,rootA,Int.natCast_one];(and_intros<;>try omega);refine Run.unloop ?_;refine Rg func351 ?_;simp only[go_sem,h1,hmid,rootC];(and_intros<;>try omega);refine Ops.pure .free rfl rfl (hc) Vl rfl rfl ?_;refine Og func351 ?_;simp only[go_sem,hn,z01,↓aT];(and_intros<;>try omega);refine Run.again ?_;refine Rg func351 ?_;simp only[go_sem,h2];(and_intros<;>try omega);exact Vr
 ·rw[if_neg hn];refine Sh func351 (by kernel_rfl) rfl fun c0 hc0=>?_;simp only[go_sem,rootA,Int.natCast_one];(and_intros<;>try omega);refine Run.unloop ?_;refine Rg func351 ?_;simp only[go_sem,h1,hmid,rootC];(and_intros<;>try omega);refine Ops.pure .free rfl rfl (hc) Vl rfl rfl ?_;refine Og func351 ?_;simp only[go_sem,hn,↓aF];(and_intros<;>try omega);refine Run.again ?_;refine Rg func351 ?_;simp only[go_sem,h1,h3];(and_intros<;>try omega);refine Ops.pure (Wanted.test 4 true true rfl) rfl rfl (hc) Vl rfl rfl ?_;refine Og func351 ?_;simp only[go_sem];(and_intros<;>try omega);exact Vr
def plcI(p:List UInt8):Int:=if plc p<0 then 1 else 0
theorem place_spec(p:List UInt8)(hp:p.length<=1000000):ASpec prog 309 [.agg [rootA],.str p] (.tup [.int .i64 (plcI p),.bool (decide (plc p=0))]):=by
 have h:=search1_spec p hp;unfold plcI;refine Sh func309 (by kernel_rfl) rfl fun c0 hc0=>?_;simp only[go_sem,rootA,rootC];(and_intros<;>try omega);refine Ops.pure .free rfl rfl (h) Vl rfl rfl ?_;refine Og func309 ?_;simp only[go_sem];(and_intros<;>try omega);exact Vr
theorem plc_zero{p:List UInt8}:plc p=0↔p=[47]:=by
 unfold plc
 split
 ·simp[*]
 ·split<;>simp[*]
theorem right_root:rightS [47]=true:=by decide
def findF(p:List UInt8):Int:=if rightS p=false then 13 else if p=[47] then 0 else 6
theorem find_spec(p:List UInt8)(hp:p.length<=1000000):ASpec prog 313 [.agg [rootA],.str p] (.tup [.int .i64 0,.int .i64 (findF p)]):=by
 have hr:=rightp_spec p hp;have hl:=place_spec p hp;unfold findF
 cases hb:rightS p with
 |false=>
  rw[hb] at hr;rw[if_pos rfl];refine Sh func313 (by kernel_rfl) rfl fun c0 hc0=>?_;simp only[go_sem,rootA,rootC];refine Ops.pure .free rfl rfl (hr) Vl rfl rfl ?_;refine Og func313 ?_;simp only[go_sem];(and_intros<;>try omega);exact Vr
 |true=>
  rw[hb] at hr;rw[if_neg (by simp)]
  by_cases h:p=[47]
  ·rw[if_pos h];have hz:=plc_zero.2 h;rw[show plcI p=0 by unfold plcI;rw[hz];rfl,decide_eq_true hz] at hl;refine Sh func313 (by kernel_rfl) rfl fun c0 hc0=>?_;simp only[go_sem,rootA,rootC];refine Ops.pure .free rfl rfl (hr) Vl rfl rfl ?_;refine Og func313 ?_;simp only[go_sem];(and_intros<;>try omega);refine Ops.pure .free rfl rfl (hl) Vl rfl rfl ?_;refine Og func313 ?_;simp only[go_sem];(and_intros<;>try omega);exact Vr
  ·rw[if_neg h];rw[decide_eq_false (fun e=>h (plc_zero.1 e))] at hl;refine Sh func313 (by kernel_rfl) rfl fun c0 hc0=>?_;simp only[go_sem,rootA,rootC];refine Ops.pure .free rfl rfl (hr) Vl rfl rfl ?_;refine Og func313 ?_;simp only[go_sem];(and_intros<;>try omega);refine Ops.pure .free rfl rfl (hl) Vl rfl rfl ?_;refine Og func313 ?_;simp only[go_sem];(and_intros<;>try omega);exact Vr
def getF(p:List UInt8):List AV:=if findF p=0 then rootC else [.str [],.str [],.int .i64 0,.int .i64 0]
theorem get_spec(p:List UInt8)(hp:p.length<=1000000):ASpec prog 282 [.agg [rootA],.str p] (.tup [.agg (getF p),.int .i64 (findF p)]):=by
 have hf:=find_spec p hp;unfold getF
 by_cases h:findF p=0
 ·rw[if_pos h];rw[h] at hf ⊢;refine Sh func282 (by kernel_rfl) rfl fun c0 hc0=>?_;simp only[go_sem,rootA,rootC];refine Ops.pure .free rfl rfl (hf) Vl rfl rfl ?_;refine Og func282 ?_;simp only[go_sem,Int.natCast_one];(and_intros<;>try omega)
  try simp only[rootC]
  exact Vr
 ·rw[if_neg h];refine Sh func282 (by kernel_rfl) rfl fun c0 hc0=>?_;simp only[go_sem,rootA,rootC];refine Ops.pure .free rfl rfl (hf) Vl rfl rfl ?_;refine Og func282 ?_;simp only[go_sem,h];(and_intros<;>try omega);exact Vr
theorem OSpec.nil2{P:Program}{f:FuncId}{args:List AV}{k:Nat}(hfn:Callable P f)(H:ACall P f args [] fun r h'=>r=.nils\/∃ i,r=.sl k [] (.own i)/\h'[i]? = some (.tok k 0)):OSpec P f args k []:=by
 refine⟨hfn,fun c vs hch hc ht=>(H c vs hch hc ht).mono ?_⟩;rintro e w' ⟨v,ρ',r,h',rfl,g1,g2,g3,hr⟩
 rcases hr with rfl|⟨i,rfl,hi⟩
 ·have hv:∃ A,v=.slice A 0 0:=by cases g3;exact⟨_,rfl⟩
  obtain⟨A,rfl⟩:=hv;obtain⟨q1,q2⟩:=Cx.grow g1
  have hfr:(h'++[ABlk.free])[h'.length]? = some .free:=by simp
  obtain⟨q3,q4⟩:=Cx.unborn q1 h'.length k hfr;have hlast:((h'++[ABlk.free]).set h'.length (.tok k 0))[h'.length]? = some (.tok k 0):=List.getElem?_set_self (by simp);refine⟨_,_,.sl k [] (.own h'.length),_,rfl,q3,g2.trans (q2.trans q4),?_,h'.length,rfl,hlast⟩;refine .sl k [] _ A 0 0 0 0 (fun _ _=>undef) rfl (Nat.le_refl _) (Nat.zero_le _) (fun h=>absurd rfl h) (fun j e h=>by simp at h) (fun j e i a h=>by simp at h) (fun j e i a h=>by simp at h) ⟨⟨_,hlast,rfl⟩,fun k' n' e=>?_⟩;have e2:((h'++[ABlk.free]).set h'.length (.tok k 0))[h'.length]? = some (.tok k' n'):=e;rw[hlast] at e2;cases e2;exact⟨rfl,Nat.le_refl _,fun _=>.inl rfl⟩
 ·exact⟨v,ρ',_,h',rfl,g1,g2,g3,i,rfl,hi⟩
theorem searchL0(c:Int):ASpec prog 349 [.sl 3 [] .no,.int .i64 c,.fn (.func 350) [] []] (.tup [.int .i64 0,.bool false]):=by
 have h3:¬(0:Int)<0:=by omega
 refine Sh func349 (by kernel_rfl) rfl fun c0 hc0=>?_;simp only[go_sem];(and_intros<;>try omega);refine Run.unloop ?_;refine Rg func349 ?_;simp only[go_sem,h3];(and_intros<;>try omega);exact Vr
theorem cloneL0:OSpec prog 319 [.sl 3 [] .no] 3 []:=by
 refine OSpec.nil2 ⟨_,func319,by kernel_rfl,rfl⟩ ?_;refine Sg func319 rfl fun c1 hc1=>?_;simp only[go_sem];refine Ops.eqnil .free rfl underlying66 rfl rfl fun b=>?_
 cases b with
 |true=>
  refine Og func319 ?_;simp only[go_sem,reduceCtorEq]
  first|exact .inl rfl|exact .inl trivial|simp
 |false=>
  refine Og func319 ?_;simp only[go_sem,AV.sl.injEq,Tk.own.injEq,reduceCtorEq];(and_intros<;>try first|rfl|omega);exact .inr ⟨_,rfl,rfl⟩
theorem insertL0(a b c:Int):ACall prog 318 [.sl 3 [] (.own 0),.int .i64 0,.sl 3 [[.int .i64 a,.int .i64 b,.int .i64 c]] .no] [.tok 3 0] fun r _=>LeR r (.sl 3 [[.int .i64 a,.int .i64 b,.int .i64 c]] .no):=by
 have h1:¬(1:Int)=0:=by omega
 refine Sg func318 rfl fun c1 hc1=>?_;simp only[go_sem,h1,Int.natCast_one];(and_intros<;>try first|rfl|omega);(repeat' first|exact .refl _|apply LeR.tup|constructor)
theorem searchR0(c:Int):ASpec prog 256 [.sl 6 [] .no,.int .i64 c,.fn (.func 257) [] []] (.tup [.int .i64 0,.bool false]):=by
 have h3:¬(0:Int)<0:=by omega
 refine Sh func256 (by kernel_rfl) rfl fun c0 hc0=>?_;simp only[go_sem];(and_intros<;>try omega);refine Run.unloop ?_;refine Rg func256 ?_;simp only[go_sem,h3];(and_intros<;>try omega);exact Vr
theorem cloneR0:OSpec prog 207 [.sl 6 [] .no] 6 []:=by
 refine OSpec.nil2 ⟨_,func207,by kernel_rfl,rfl⟩ ?_;refine Sg func207 rfl fun c1 hc1=>?_;simp only[go_sem];refine Ops.eqnil .free rfl underlying72 rfl rfl fun b=>?_
 cases b with
 |true=>
  refine Og func207 ?_;simp only[go_sem,reduceCtorEq]
  first|exact .inl rfl|exact .inl trivial|simp
 |false=>
  refine Og func207 ?_;simp only[go_sem,AV.sl.injEq,Tk.own.injEq,reduceCtorEq];(and_intros<;>try omega);exact .inr ⟨_,rfl,rfl⟩
def bkA(now:Int)(l:List (List AV)):AV:=.agg [.int .i64 now,.sl 3 l .no]
theorem bplace_spec(now id:Int):ASpec prog 308 [bkA now [],.int .i64 id] (.tup [.int .i64 0,.bool false]):=by
 have h:=searchL0 id;refine Sh func308 (by kernel_rfl) rfl fun c0 hc0=>?_;simp only[go_sem,bkA];refine Ops.pure .free rfl rfl (h) Vl rfl rfl ?_;refine Og func308 ?_;simp only[go_sem];exact Vr
theorem has0_spec(now id:Int):ASpec prog 279 [bkA now [],.int .i64 id] (.bool false):=by
 have h:=bplace_spec now id;refine Sh func279 (by kernel_rfl) rfl fun c0 hc0=>?_;simp only[go_sem,bkA];refine Ops.pure .free rfl rfl (h) Vl rfl rfl ?_;refine Og func279 ?_;simp only[go_sem];exact Vr
theorem touch0_spec(now id:Int):ASpec prog 287 [bkA now [],.int .i64 id] (.tup [bkA now [],.int .i64 14]):=by
 have h:=bplace_spec now id;refine Sh func287 (by kernel_rfl) rfl fun c0 hc0=>?_;simp only[go_sem,bkA];refine Ops.pure .free rfl rfl (h) Vl rfl rfl ?_;refine Og func287 ?_;simp only[go_sem];(and_intros<;>try omega)
 try simp only[bkA]
 exact Vr
theorem close0_spec(now id:Int):ASpec prog 288 [bkA now [],.int .i64 id] (.tup [bkA now [],.int .i64 14]):=by
 have h:=bplace_spec now id;refine Sh func288 (by kernel_rfl) rfl fun c0 hc0=>?_;simp only[go_sem,bkA];refine Ops.pure .free rfl rfl (h) Vl rfl rfl ?_;refine Og func288 ?_;simp only[go_sem];(and_intros<;>try omega)
 try simp only[bkA]
 exact Vr
def openF(id span:Int):List (List AV)×Int:=if id<1\/span<1\/1000<span then([],1) else([[.int .i64 id,.int .i64 span,.int .i64 span]],0)
theorem open0_spec(id span:Int):ASpec prog 286 [bkA 0 [],.int .i64 id,.int .i64 span] (.tup [bkA 0 (openF id span).1,.int .i64 (openF id span).2]):=by
 have h:=bplace_spec 0 id;unfold openF
 by_cases h1:id<1
 ·rw[if_pos (.inl h1)];refine Sh func286 (by kernel_rfl) rfl fun c0 hc0=>?_;simp only[go_sem,bkA];refine Ops.pure .free rfl rfl (h) Vl rfl rfl ?_;refine Og func286 ?_;simp only[go_sem,h1];(and_intros<;>try omega)
  try simp only[bkA]
  exact Vr
 by_cases h2:span<1
 ·rw[if_pos (.inr (.inl h2))];refine Sh func286 (by kernel_rfl) rfl fun c0 hc0=>?_;simp only[go_sem,bkA];refine Ops.pure .free rfl rfl (h) Vl rfl rfl ?_;refine Og func286 ?_;simp only[go_sem,h1,h2];(and_intros<;>try omega)
  try simp only[bkA]
  exact Vr
 by_cases h3:1000<span
 ·rw[if_pos (.inr (.inr h3))];refine Sh func286 (by kernel_rfl) rfl fun c0 hc0=>?_;simp only[go_sem,bkA];refine Ops.pure .free rfl rfl (h) Vl rfl rfl ?_;refine Og func286 ?_;simp only[go_sem,h1,h2,h3];(and_intros<;>try first|rfl|omega)
  try simp only[bkA]
  exact Vr
 rw[if_neg (by rintro(e|e|e);exact h1 e;exact h2 e;exact h3 e)];refine Sh func286 (by kernel_rfl) rfl fun c0 hc0=>?_;simp only[go_sem,bkA];refine Ops.pure .free rfl rfl (h) Vl rfl rfl ?_;refine Og func286 ?_;simp only[go_sem,h1,h2,h3];(and_intros<;>try first|rfl|omega);refine DOps.own rfl .free rfl rfl cloneL0 (by exact Vl) rfl rfl ?_;refine Dg func286 rfl ?_;simp only[go_sem,Int.zero_add];(and_intros<;>try first|rfl|omega);refine DOps.lent rfl .free rfl rfl ⟨_,func318,by kernel_rfl,rfl⟩ (i:=2) rfl (.inr ⟨3,rfl⟩) (insertL0 id span span) rfl ?_ ?_
 ·(repeat'(first|exact OneL.nil|apply OneL.cons|exact OneA.msu _ _|exact OneA.own _ _|exact OneA.le (.refl _) rfl|exact OneA.le (.one (.tok _ _ _)) rfl))
 ·refine Dg func286 rfl ?_;simp only[go_sem];(and_intros<;>try first|rfl|omega)
  try simp only[bkA]
  (repeat' first|exact .refl _|apply LeR.tup|apply Le.agg|constructor)
def tickF(now:Int):Int×Int:=if now<0 then(0,15) else if 1000000000<now then(0,5) else(now,0)
theorem tick0_spec(now:Int):ASpec prog 290 [bkA 0 [],.int .i64 now] (.tup [bkA (tickF now).1 [],.nils,.int .i64 (tickF now).2]):=by
 unfold tickF
 by_cases h1:now<0
 ·rw[if_pos h1];refine Sh func290 (by kernel_rfl) rfl fun c0 hc0=>?_;simp only[go_sem,bkA,h1];(and_intros<;>try omega)
  try simp only[bkA]
  exact Vr
 rw[if_neg h1]
 by_cases h2:1000000000<now
 ·rw[if_pos h2];refine Sh func290 (by kernel_rfl) rfl fun c0 hc0=>?_;simp only[go_sem,bkA,h1,h2];(and_intros<;>try omega)
  try simp only[bkA]
  exact Vr
 rw[if_neg h2]
 have h3:¬(0:Int)<0:=by omega
 refine Sh func290 (by kernel_rfl) rfl fun c0 hc0=>?_;simp only[go_sem,bkA,h1,h2];(and_intros<;>try first|rfl|omega);refine Run.unloop ?_;refine Rg func290 ?_;simp only[go_sem,h3];(and_intros<;>try first|rfl|omega)
 try simp only[bkA]
 (repeat' first|exact .refl _|apply LeR.tup|apply Le.agg|constructor)
def lastB(p:List UInt8):Nat->Int
 |0=>-1
 |k+1=>if p[k]? = some 47 then k else lastB p k
theorem lastB_le(p:List UInt8):∀ k,-1<=lastB p k/\lastB p k<k
 |0=>by simp[lastB]
 |k+1=>by
  have:=lastB_le p k;unfold lastB
  split<;>omega
theorem lastbyte_spec(p:List UInt8)(hp:p.length<=1000000):ASpec prog 364 [.str p,.int .u8 47] (.int .i64 (lastB p p.length)):=by
 refine Sh func364 (by kernel_rfl) rfl fun c0 hc0=>?_;simp only[go_sem,Int.reduceNeg];(and_intros<;>try omega);refine Run.loopV (α:=Nat) (fun k=>k<=p.length/\lastB p p.length=lastB p k) (fun k=>[(5,.int .i64 ((k:Int)-1))]) 0 (fun _=>[]) (fun k=>k) p.length ⟨Nat.le_refl _,rfl⟩ ?_ ?_
 ·simp only[writes,junks,puts,hputs,List.filterMap_cons,List.filterMap_nil,Y6,Y7,Yk,Y5,Y3,Yd];(refine Weak.of (by simp[hc0]) ?_ ?_<;>repeat' first|exact .refl _|exact .junk _|rfl|apply Le.agg|constructor)
 rintro k ⟨hk,hl⟩ ih;simp only[writes,junks,puts,hputs,List.filterMap_cons,List.filterMap_nil,Y6,Y7,Yk,Y5,Y3,Yd] at ih ⊢
 cases k with
 |zero=>
  have h0:¬(0:Int)<=((0:Nat):Int)-1:=by omega
  have h1:¬(0:Int)<=0-1:=by omega
  rw[hl];refine Rg func364 ?_;simp only[go_sem,h1,lastB,Int.reduceNeg];(and_intros<;>try omega);exact Vr
 |succ k=>
  have e0:(((k+1:Nat):Int))-1=(k:Int):=by omega
  have h0:(0:Int)<=(k:Int):=by omega
  have hlt:k<p.length:=hk
  obtain⟨b,hb⟩:∃ b,p[k]? = some b:=⟨_,Vb hlt⟩
  rw[e0]
  by_cases h:b=47
  ·subst h;rw[hl,lastB,if_pos hb];have h7:((UInt8.toNat 47:Nat):Int)=47:=rfl;refine Rg func364 ?_;simp only[go_sem,h0,hb,h7];(and_intros<;>try omega);exact Vr
  ·have h7:¬((b.toNat:Nat):Int)=47:=fun e=>h (UInt8.toNat_inj.1 (show b.toNat=47 by omega));refine Rg func364 ?_;simp only[go_sem,h0,hb,h7,Int.reduceNeg];(and_intros<;>try omega);refine ih k _ ⟨by omega,?_⟩ (by omega) ?_
   ·rw[hl,lastB,if_neg];rw[hb];intro e;exact h (Option.some.inj e)
   ·try simp only[go_sem,writes,junks,puts,hputs,List.filterMap_cons,List.filterMap_nil,Int.natCast_add,Int.natCast_one,reduceIte,Nat.reduceEqDiff,reduceCtorEq]
    (refine Weak.of (by simp[hc0]) ?_ ?_<;>repeat' first|exact .refl _|exact .junk _|rfl|apply Le.agg|constructor)
theorem lastindex_spec(p:List UInt8)(hp:p.length<=1000000):ASpec prog 324 [.str p,.str [47]] (.int .i64 (lastB p p.length)):=by
 have h:=lastbyte_spec p hp;have h7:((UInt8.toNat 47:Nat):Int)=47:=rfl;refine Sh func324 (by kernel_rfl) rfl fun c0 hc0=>?_;simp only[go_sem,Int.natCast_one,h7];(and_intros<;>try omega);refine Ops.pure .free rfl rfl (h) Vl rfl rfl ?_;refine Og func324 ?_;simp only[go_sem];(and_intros<;>try omega);exact Vr
theorem parent_spec(p:List UInt8)(hp:p.length<=1000000):∃ q e,q.length<=1000000/\ASpec prog 294 [.str p] (.tup [.str q,.int .i64 e]):=by
 have hr:=rightp_spec p hp;have hi:=lastindex_spec p hp;have hb:=lastB_le p p.length
 cases hq:rightS p with
 |false=>
  rw[hq] at hr;refine⟨[],13,by simp,?_⟩;refine Sh func294 (by kernel_rfl) rfl fun c0 hc0=>?_;simp only[go_sem];refine Ops.pure .free rfl rfl (hr) Vl rfl rfl ?_;refine Og func294 ?_;simp only[go_sem];(and_intros<;>try omega);exact Vr
 |true=>
  rw[hq] at hr
  by_cases h:p=[47]
  ·refine⟨[],6,by simp,?_⟩;refine Sh func294 (by kernel_rfl) rfl fun c0 hc0=>?_;simp only[go_sem];refine Ops.pure .free rfl rfl (hr) Vl rfl rfl ?_;refine Og func294 ?_;simp only[go_sem,h];(and_intros<;>try omega);exact Vr
  ·obtain⟨m,hm⟩:∃ m:Nat,max (1:Int) (lastB p p.length)=(m:Int):=⟨(max 1 (lastB p p.length)).toNat,by omega⟩
   have hne:p≠[]:=by rintro rfl;exact absurd hq (by decide)
   have hlp:0<p.length:=List.length_pos_iff.2 hne
   have hmp:m<=p.length:=by omega
   have hmi:(m:Int)<=p.length:=by omega
   have hm0:(0:Int)<=(m:Int):=by omega
   refine⟨p.take m,0,by simp;omega,?_⟩;refine Sh func294 (by kernel_rfl) rfl fun c0 hc0=>?_;simp only[go_sem];refine Ops.pure .free rfl rfl (hr) Vl rfl rfl ?_;refine Og func294 ?_;simp only[go_sem,h];(and_intros<;>try omega);refine Ops.pure .free rfl rfl (hi) Vl rfl rfl ?_;refine Og func294 ?_;simp only[go_sem,hm,hmi,hm0];(and_intros<;>try omega);exact Vr
theorem Weak.freezeU{P:Program}{c0:Cx}{s:AState}(q m i kk nn:Nat)(L:List (List AV))(cs:List AV)(hq:s.h[q]? = some (.box cs))(hm:cs[m]? = some (.msu i kk nn))(hi:s.h[i]? = some (.rows kk L))(hk:0<kk)(hn:nn<=L.length)(hp:∀ x∈L.take nn,∀ a∈x,a.plain=true) :
  Weak P c0 s ⟨s.t,(s.h.set i .dead).set q (.box (cs.set m (.sl kk (L.take nn) .no)))⟩:=by
 refine⟨fun ρ w vs h1 h2 h3=>?_⟩
 have hiq:i≠q:=fun e=>by subst e;rw[hi] at hq;cases hq
 obtain⟨b,us,e,hb,hh,hsz,hall⟩:=h1.blk q _ hq;have hml:m<cs.length:=(Va hm).1;obtain⟨hc1,v,hv,hr⟩:=hall m _ hm
 have hr':∃ cap,RV ⟨ρ,s.h,w,c0.X⟩ v (.msl i kk 0 nn cap):=by
  cases hr with
  |msu _ _ _ cap b hk hb ht hcap hm hs=>exact⟨cap,.msl i kk 0 nn cap b 0 hk hb ht hcap hm (fun _=>by simp)⟩
 obtain⟨cap,hr⟩:=hr';obtain⟨q1,q2,q3⟩:=hr.frozen h1 hi hk (by omega) (by simpa using hp);rw[List.drop_zero] at q3
 have hq':(s.h.set i .dead)[q]? = some (.box cs):=by rw[List.getElem?_set_ne hiq];exact hq
 obtain⟨q4,q5⟩:=Cx.retell q1 q b _ (.box (cs.set m (.sl kk (L.take nn) .no))) hq' hb rfl rfl rfl rfl (fun o h=>h.elim) fun hev=>by
  refine⟨b,us,e,hb,hh,by simpa using hsz,fun j a ha=>?_⟩;rw[List.getElem?_set] at ha
  split at ha
  ·rename_i hjm;subst hjm;cases ha;exact⟨rfl,v,hv,q3.mono hev⟩
  ·obtain⟨g1,u,g2,g3⟩:=hall j a ha;exact⟨g1,u,g2,(g3.mono q2).mono hev⟩
 exact⟨ρ,q4,h2.trans (q2.trans q5),h3.mono (q2.trans q5)⟩
def verF(p:List UInt8)(v:Int):Int:=if findF p=0 then if v=-1 then 0 else if v=0 then 0 else 8 else findF p
theorem versioned_spec(p:List UInt8)(v:Int)(hp:p.length<=1000000):ASpec prog 314 [.agg [rootA],.str p,.int .i64 v] (.tup [.int .i64 0,.int .i64 (verF p v)]):=by
 have hf:=find_spec p hp;unfold verF
 by_cases h:findF p=0
 ·rw[h] at hf;rw[if_pos h]
  by_cases h1:v=-1
  ·subst h1;rw[if_pos rfl];refine Sh func314 (by kernel_rfl) rfl fun c0 hc0=>?_;simp only[go_sem,rootA,rootC,Int.reduceNeg];refine Ops.pure .free rfl rfl (hf) Vl rfl rfl ?_;refine Og func314 ?_;simp only[go_sem,Int.reduceNeg];(and_intros<;>try omega);exact Vr
  ·rw[if_neg h1]
   by_cases h2:v=0
   ·subst h2;rw[if_pos rfl];refine Sh func314 (by kernel_rfl) rfl fun c0 hc0=>?_;simp only[go_sem,rootA,rootC,Int.reduceNeg];refine Ops.pure .free rfl rfl (hf) Vl rfl rfl ?_;refine Og func314 ?_;simp only[go_sem,h1,Int.natCast_one,Int.reduceNeg,reduceCtorEq];(and_intros<;>try omega);exact Vr
   ·rw[if_neg h2];refine Sh func314 (by kernel_rfl) rfl fun c0 hc0=>?_;simp only[go_sem,rootA,rootC,Int.reduceNeg];refine Ops.pure .free rfl rfl (hf) Vl rfl rfl ?_;refine Og func314 ?_;simp only[go_sem,h1,h2,Int.natCast_one,Int.reduceNeg,reduceCtorEq];(and_intros<;>try omega);exact Vr
 ·rw[if_neg h];refine Sh func314 (by kernel_rfl) rfl fun c0 hc0=>?_;simp only[go_sem,rootA,rootC,Int.reduceNeg];refine Ops.pure .free rfl rfl (hf) Vl rfl rfl ?_;refine Og func314 ?_;simp only[go_sem,h,Int.reduceNeg];(and_intros<;>try omega);exact Vr
def root1(c:List UInt8)(ver:Int):AV:=.sl 4 [[.str [47],.str c,.int .i64 ver,.int .i64 0]] .no
theorem find_err{p:List UInt8}(h:p≠[47]):findF p≠0:=by
 unfold findF
 split
 ·decide
 ·decide
theorem ver_root{p:List UInt8}{v:Int}(h:verF p v=0):p=[47]:=by
 refine Vf fun e=>?_;unfold verF at h;rw[if_neg (find_err e)] at h;exact find_err e h
theorem set_spec(p s:List UInt8)(v:Int)(hp:p.length<=1000000):∃ c ver e,(e=0->p=[47])/\ASpec prog 283 [.agg [rootA],.str p,.str s,.int .i64 v] (.tup [.agg [root1 c ver],.int .i64 e]):=by
 have hv:=versioned_spec p v hp
 by_cases h:verF p v=0
 case neg=>
  refine⟨[],0,verF p v,fun e=>absurd e h,?_⟩;refine Sh func283 (by kernel_rfl) rfl fun c0 hc0=>?_;simp only[go_sem,rootA,rootC];refine Ops.pure .free rfl rfl (hv) Vl rfl rfl ?_;refine Og func283 ?_;simp only[go_sem,h];(and_intros<;>try omega)
  try simp only[root1]
  exact Vr
 rw[h] at hv
 by_cases h1:(1000:Int)<s.length
 case pos=>
  refine⟨[],0,5,fun e=>absurd e (by decide),?_⟩;refine Sh func283 (by kernel_rfl) rfl fun c0 hc0=>?_;simp only[go_sem,rootA,rootC];refine Ops.pure .free rfl rfl (hv) Vl rfl rfl ?_;refine Og func283 ?_;simp only[go_sem,h1];(and_intros<;>try omega)
  try simp only[root1]
  exact Vr
 refine⟨s,1,0,fun _=>ver_root h,?_⟩;have hcl:=clone_shelf_Node [rootC] (by simp) (by simp) (by simp[rootC,AV.cell]);refine Sh func283 (by kernel_rfl) rfl fun c0 hc0=>?_;simp only[go_sem,rootA,rootC];refine Ops.pure .free rfl rfl (hv) Vl rfl rfl ?_;refine Og func283 ?_;simp only[go_sem,h1,Int.natCast_one,reduceCtorEq];(and_intros<;>try omega);refine Ops.made .free rfl rfl hcl Vl rfl rfl ?_;refine Ops.god tab_ok follows_ok func283 5 ?_;simp only[go_sem,rootC,Int.natCast_one,reduceCtorEq];(and_intros<;>try omega);refine Run.weak (Weak.freezeU 3 0 2 4 1 _ _ rfl rfl rfl (by decide) (by simp) (by simp[AV.plain])) ?_;simp only[Y6,Y7,Yg,Yk];refine Rg func283 ?_;simp only[go_sem]
 try simp only[root1]
 exact Vr
theorem delete_spec(p:List UInt8)(v:Int)(hp:p.length<=1000000):∃ e,ASpec prog 284 [.agg [rootA],.str p,.int .i64 v] (.tup [.agg [rootA],.int .i64 e]):=by
 have hv:=versioned_spec p v hp
 by_cases h:p=[47]
 ·refine⟨13,?_⟩;refine Sh func284 (by kernel_rfl) rfl fun c0 hc0=>?_;simp only[go_sem,rootA,rootC];refine Ops.pure .free rfl rfl (hv) Vl rfl rfl ?_;refine Og func284 ?_;simp only[go_sem,h];(and_intros<;>try omega);exact Vr
 ·have he:verF p v≠0:=by
   unfold verF;rw[if_neg (find_err h)];exact find_err h
  refine⟨verF p v,?_⟩;refine Sh func284 (by kernel_rfl) rfl fun c0 hc0=>?_;simp only[go_sem,rootA,rootC];refine Ops.pure .free rfl rfl (hv) Vl rfl rfl ?_;refine Og func284 ?_;simp only[go_sem,h,he];(and_intros<;>try omega);exact Vr
theorem list_spec(p:List UInt8)(hp:p.length<=1000000):∃ e,ASpec prog 285 [.agg [rootA],.str p] (.tup [.nils,.int .i64 e]):=by
 have hf:=find_spec p hp
 by_cases h:findF p=0
 case neg=>
  refine⟨findF p,?_⟩;refine Sh func285 (by kernel_rfl) rfl fun c0 hc0=>?_;simp only[go_sem,rootA,rootC];refine Ops.pure .free rfl rfl (hf) Vl rfl rfl ?_;refine Og func285 ?_;simp only[go_sem,h];(and_intros<;>try omega);exact Vr
 obtain rfl:p=[47]:=Vf fun e=>find_err e h;rw[h] at hf;have hn:=namesp_spec [47] (by decide);rw[show namesE [47]=([],0) by unfold namesE;rw[root_names];rfl] at hn
 have h3:¬(0:Int)<0:=by omega
 have hz:((0:Int)+1).toNat=1:=rfl;refine⟨0,?_⟩;refine Sh func285 (by kernel_rfl) rfl fun c0 hc0=>?_;simp only[go_sem,rootA,rootC];refine Ops.pure .free rfl rfl (hf) Vl rfl rfl ?_;refine Og func285 ?_;simp only[go_sem];(and_intros<;>try omega);refine Ops.pure .free rfl rfl (hn) Vl rfl rfl ?_;refine Og func285 ?_;simp only[go_sem,strsA,hz,Int.natCast_one];(and_intros<;>try omega);refine Run.unloop ?_;refine Rg func285 ?_;simp only[go_sem,h3];(and_intros<;>try omega);exact Vr
def cr1B(p s:List UInt8)(b:Bool)(o:Int):List ABlk:=[.box [.str p],.box [.bool b],.box [rootA],.box [.str s],.box [.int .i64 o]]
theorem create1_spec(p s:List UInt8)(b:Bool)(o:Int)(hp:p.length<=1000000):∃ e,BSpec prog 310 [.ptr 0 0,.ptr 1 0,.ptr 2 0,.ptr 3 0,.ptr 4 0] (cr1B p s b o) (cr1B p s b o) (.int .i64 e):=by
 have hr:=rightp_spec p hp;obtain⟨q,pe,hql,hpar⟩:=parent_spec p hp;have hg:=get_spec q hql;have fin:∀ P:Prop,P->P:=fun _ h=>h
 cases hb:rightS p with
 |false=>
  rw[hb] at hr;refine⟨13,?_⟩;refine⟨⟨_,func310,by kernel_rfl,rfl⟩,Sg func310 rfl fun c0 hc0=>?_⟩;simp only[go_sem,cr1B,rootA,rootC,Nat.reduceAdd,Nat.reduceSub];refine Ops.pure .free rfl rfl (hr) Vl rfl rfl ?_;refine Og func310 ?_;simp only[go_sem];(and_intros<;>try first|rfl|omega);(repeat' first|exact .refl _|rfl|apply LeR.tup|apply Le.agg|constructor)
 |true=>
 rw[hb] at hr
 cases b with
 |true=>
  refine⟨7,?_⟩;refine⟨⟨_,func310,by kernel_rfl,rfl⟩,Sg func310 rfl fun c0 hc0=>?_⟩;simp only[go_sem,cr1B,rootA,rootC,Nat.reduceAdd,Nat.reduceSub];refine Ops.pure .free rfl rfl (hr) Vl rfl rfl ?_;refine Og func310 ?_;simp only[go_sem];(and_intros<;>try first|rfl|omega);(repeat' first|exact .refl _|rfl|apply LeR.tup|apply Le.agg|constructor)
 |false=>
 by_cases h:findF q=0
 case neg=>
  rw[getF,if_neg h] at hg;refine⟨6,?_⟩;refine⟨⟨_,func310,by kernel_rfl,rfl⟩,Sg func310 rfl fun c0 hc0=>?_⟩;simp only[go_sem,cr1B,rootA,rootC,Nat.reduceAdd,Nat.reduceSub];refine Ops.pure .free rfl rfl (hr) Vl rfl rfl ?_;refine Og func310 ?_;simp only[go_sem];(and_intros<;>try omega);refine Ops.pure .free rfl rfl (hpar) Vl rfl rfl ?_;refine Og func310 ?_;simp only[go_sem];(and_intros<;>try omega);refine Ops.pure .free rfl rfl (hg) Vl rfl rfl ?_;refine Og func310 ?_;simp only[go_sem,h];(and_intros<;>try first|rfl|omega);(repeat' first|exact .refl _|rfl|apply LeR.tup|apply Le.agg|constructor)
 rw[getF,if_pos h,h] at hg
 by_cases h1:(1000:Int)<s.length
 case pos=>
  refine⟨5,?_⟩;refine⟨⟨_,func310,by kernel_rfl,rfl⟩,Sg func310 rfl fun c0 hc0=>?_⟩;simp only[go_sem,cr1B,rootA,rootC,Nat.reduceAdd,Nat.reduceSub];refine Ops.pure .free rfl rfl (hr) Vl rfl rfl ?_;refine Og func310 ?_;simp only[go_sem];(and_intros<;>try omega);refine Ops.pure .free rfl rfl (hpar) Vl rfl rfl ?_;refine Og func310 ?_;simp only[go_sem];(and_intros<;>try first|rfl|omega);refine Ops.pure .free rfl rfl (hg) Vl rfl rfl ?_;refine Og func310 ?_;simp only[go_sem,h1,rootC];(and_intros<;>try first|rfl|omega);(repeat' first|exact .refl _|rfl|apply LeR.tup|apply Le.agg|constructor)
 by_cases h2:o<0
 case pos=>
  refine⟨1,?_⟩;refine⟨⟨_,func310,by kernel_rfl,rfl⟩,Sg func310 rfl fun c0 hc0=>?_⟩;simp only[go_sem,cr1B,rootA,rootC,Nat.reduceAdd,Nat.reduceSub];refine Ops.pure .free rfl rfl (hr) Vl rfl rfl ?_;refine Og func310 ?_;simp only[go_sem];(and_intros<;>try omega);refine Ops.pure .free rfl rfl (hpar) Vl rfl rfl ?_;refine Og func310 ?_;simp only[go_sem];(and_intros<;>try omega);refine Ops.pure .free rfl rfl (hg) Vl rfl rfl ?_;refine Og func310 ?_;simp only[go_sem,h1,h2,rootC];(and_intros<;>try omega);(repeat' first|exact .refl _|rfl|apply LeR.tup|apply Le.agg|constructor)
 refine⟨0,?_⟩;refine⟨⟨_,func310,by kernel_rfl,rfl⟩,Sg func310 rfl fun c0 hc0=>?_⟩;simp only[go_sem,cr1B,rootA,rootC,Nat.reduceAdd,Nat.reduceSub];refine Ops.pure .free rfl rfl (hr) Vl rfl rfl ?_;refine Og func310 ?_;simp only[go_sem];(and_intros<;>try omega);refine Ops.pure .free rfl rfl (hpar) Vl rfl rfl ?_;refine Og func310 ?_;simp only[go_sem];(and_intros<;>try omega);refine Ops.pure .free rfl rfl (hg) Vl rfl rfl ?_;refine Og func310 ?_;simp only[go_sem,h1,h2,rootC,Int.natCast_one];(and_intros<;>try omega);(repeat' first|exact .refl _|rfl|apply LeR.tup|apply Le.agg|constructor)
theorem plcI_le(p:List UInt8):plcI p=0\/plcI p=1:=by unfold plcI;split<;>simp
theorem create_spec(p s:List UInt8)(o:Int)(hp:p.length<=1000000):∃ l e,(∀ x∈l,∀ a∈x,a.plain=true)/\ASpec prog 280 [.agg [rootA],.str p,.str s,.int .i64 o] (.tup [.agg [.sl 4 l .no],.int .i64 e]):=by
 have hl:=place_spec p hp;obtain⟨e,hc⟩:=create1_spec p s (decide (plc p=0)) o hp
 obtain⟨b,hb⟩:∃ b,b=decide (plc p=0):=⟨_,rfl⟩
 rw[<- hb] at hl hc
 by_cases h:e=0
 case neg=>
  refine⟨[rootC],e,by simp[rootC,AV.plain],?_⟩;refine Sh func280 (by kernel_rfl) rfl fun c0 hc0=>?_;simp only[go_sem,rootA,rootC];refine Ops.pure .free rfl rfl (hl) Vl rfl rfl ?_;refine Og func280 ?_;simp only[go_sem];(and_intros<;>try omega);refine Ops.callB .free rfl rfl (js:=[1,5,0,2,3]) (by decide) (LentAll.cons rfl (.inl ⟨_,rfl,rfl⟩) (LentAll.cons rfl (.inl ⟨_,rfl,rfl⟩) (LentAll.cons rfl (.inl ⟨_,rfl,rfl⟩) (LentAll.cons rfl (.inl ⟨_,rfl,rfl⟩) (LentAll.cons rfl (.inl ⟨_,rfl,rfl⟩) LentAll.nil))))) (by intro y hy;simp only[cr1B,List.mem_cons,List.not_mem_nil,or_false] at hy;rcases hy with rfl|rfl|rfl|rfl|rfl<;>exact .inl ⟨_,rfl,rfl⟩) rfl rfl Vl (hc) rfl ?_;refine Og func280 ?_;simp only[go_sem,h,pB,cr1B,rootA,rootC];(and_intros<;>try omega);exact Vr
 subst h;have hcl:=clone_shelf_Node [rootC] (by simp) (by simp) (by simp[rootC,AV.cell])
 obtain⟨i,hi,hi1⟩:∃ i:Nat,plcI p=i/\i<=1:=by
  rcases plcI_le p with h|h
  ·exact⟨0,h,by omega⟩
  ·exact⟨1,h,by omega⟩
 rw[hi] at hl;have hin:=insert_nod [rootC] [.str p,.str s,.int .i64 0,.int .i64 o] (by simp[rootC,AV.plain]) (by simp[AV.plain]) i (by simpa using hi1) (by simp);refine⟨[rootC].take i++[.str p,.str s,.int .i64 0,.int .i64 o]::[rootC].drop i,0,?_,?_⟩
 ·intro x hx a ha
  rcases List.mem_append.1 hx with hx|hx
  ·have:=List.mem_of_mem_take hx;simp[rootC] at this;subst this;simp at ha
   rcases ha with rfl|rfl|rfl|rfl<;>rfl
  ·rcases List.mem_cons.1 hx with rfl|hx
   ·simp at ha
    rcases ha with rfl|rfl|rfl|rfl<;>rfl
   ·have:=List.mem_of_mem_drop hx;simp[rootC] at this;subst this;simp at ha
    rcases ha with rfl|rfl|rfl|rfl<;>rfl
 refine Sh func280 (by kernel_rfl) rfl fun c0 hc0=>?_;simp only[go_sem,rootA,rootC];refine Ops.pure .free rfl rfl (hl) Vl rfl rfl ?_;refine Og func280 ?_;simp only[go_sem];(and_intros<;>try first|rfl|omega);refine Ops.callB .free rfl rfl (js:=[1,5,0,2,3]) (by decide) (LentAll.cons rfl (.inl ⟨_,rfl,rfl⟩) (LentAll.cons rfl (.inl ⟨_,rfl,rfl⟩) (LentAll.cons rfl (.inl ⟨_,rfl,rfl⟩) (LentAll.cons rfl (.inl ⟨_,rfl,rfl⟩) (LentAll.cons rfl (.inl ⟨_,rfl,rfl⟩) LentAll.nil))))) (by intro y hy;simp only[cr1B,List.mem_cons,List.not_mem_nil,or_false] at hy;rcases hy with rfl|rfl|rfl|rfl|rfl<;>exact .inl ⟨_,rfl,rfl⟩) rfl rfl Vl (hc) rfl ?_;refine Og func280 ?_;simp only[go_sem,pB,cr1B,rootA,rootC];(and_intros<;>try first|rfl|omega);refine DOps.made rfl .free rfl rfl hcl (by exact Vl) rfl rfl rfl ?_;refine Dg func280 rfl ?_;simp only[go_sem,rootC];(and_intros<;>try first|rfl|omega);refine DOps.lent rfl .free rfl rfl ⟨_,func311,by kernel_rfl,rfl⟩ (i:=6) rfl (.inl ⟨4,_,rfl,rfl⟩) hin rfl ?_ ?_
 ·(repeat'(first|exact OneL.nil|apply OneL.cons|exact OneA.msu _ _|exact OneA.own _ _|exact OneA.le (.refl _) rfl|exact OneA.le (.one (.tok _ _ _)) rfl))
 ·refine Dg func280 rfl ?_;simp only[go_sem];(and_intros<;>try first|rfl|omega);(repeat' first|exact .refl _|apply LeR.tup|constructor)
theorem indexW0:ASpec prog 292 [.sl 3 [] .no,.junk] (.int .i64 (-1)):=by
 have h3:¬(0:Int)<0:=by omega
 refine Sh func292 (by kernel_rfl) rfl fun c0 hc0=>?_;simp only[go_sem,Int.reduceNeg];(and_intros<;>try omega);refine Run.unloop ?_;refine Rg func292 ?_;simp only[go_sem,h3,Int.reduceNeg];(and_intros<;>try omega);exact Vr
theorem deleteW0:ASpec prog 253 [.sl 3 [] .no,.junk] (.sl 3 [] .no):=by
 have h:=indexW0;refine Sh func253 (by kernel_rfl) rfl fun c0 hc0=>?_;simp only[go_sem,Int.reduceNeg];refine Ops.pure .free rfl rfl (h) Vl rfl rfl ?_;refine Og func253 ?_;simp only[go_sem,Int.reduceNeg];(and_intros<;>try omega);exact Vr
theorem cloneW0:OSpec prog 252 [.sl 3 [] .no] 3 []:=by
 refine OSpec.nil2 ⟨_,func252,by kernel_rfl,rfl⟩ ?_;refine Sg func252 rfl fun c1 hc1=>?_;simp only[go_sem];refine Ops.eqnil .free rfl underlying69 rfl rfl fun b=>?_
 cases b with
 |true=>
  refine Og func252 ?_;simp only[go_sem,reduceCtorEq]
  first|exact .inl rfl|exact .inl trivial|simp
 |false=>
  refine Og func252 ?_;simp only[go_sem,AV.sl.injEq,Tk.own.injEq,reduceCtorEq];(and_intros<;>try omega);exact .inr ⟨_,rfl,rfl⟩
def tbl(l:List (List AV)):AV:=.agg [.sl 3 l .no]
theorem fire00:ASpec prog 206 [tbl [],.sl 2 [] .no] (.tup [tbl [],.nils]):=by
 have h3:¬(0:Int)<0:=by omega
 refine Sh func206 (by kernel_rfl) rfl fun c0 hc0=>?_;simp only[go_sem,tbl];(and_intros<;>try omega);refine Ops.own .free rfl rfl cloneW0 Vl rfl ?_;refine Og func206 ?_;simp only[go_sem,xtab_210,xtab_343];(and_intros<;>try first|rfl|omega);refine Run.unloop ?_;refine Rg func206 ?_;simp only[go_sem,h3,xtab_210];(and_intros<;>try first|rfl|omega);(repeat' first|exact .refl _|apply LeR.tup|apply Le.agg|constructor)
theorem fire01(k:Int)(p:List UInt8):ASpec prog 206 [tbl [],.sl 2 [[.int .i64 k,.str p]] .no] (.tup [tbl [],.nils]):=by
 have h1:(0:Int)<1:=by omega
 have h2:¬(1:Int)<1:=by omega
 have z01:(0:Int)+1=1:=rfl;have h:=deleteW0;refine Sh func206 (by kernel_rfl) rfl fun c0 hc0=>?_;simp only[go_sem,tbl];(and_intros<;>try omega);refine Ops.own .free rfl rfl cloneW0 Vl rfl ?_;refine Og func206 ?_;simp only[go_sem,Int.natCast_one,xtab_210,xtab_343];(and_intros<;>try omega);refine Run.unloop ?_;refine Rg func206 ?_;simp only[go_sem,h1,xtab_343,xtab_387];(and_intros<;>try omega);refine Ops.pure .free rfl rfl h (by simp only[go_sem];exact .cons (by first|exact .refl _|exact .one (.tok _ _ _)) (.cons (.junk _) .nil)) rfl rfl ?_;refine Og func206 ?_;simp only[go_sem,z01];(and_intros<;>try first|rfl|omega);refine Run.again ?_;refine Rg func206 ?_;simp only[go_sem,h2,xtab_210];(and_intros<;>try first|rfl|omega);(repeat' first|exact .refl _|apply LeR.tup|constructor)
theorem findW0(p:List UInt8)(c:Int)(k:Bool):ASpec prog 358 [.sl 3 [] .no,.agg [.str p,.int .i64 c,.bool k]] (.int .i64 (-1)):=by
 have h3:¬(0:Int)<0:=by omega
 refine Sh func358 (by kernel_rfl) rfl fun c0 hc0=>?_;simp only[go_sem,Int.reduceNeg];(and_intros<;>try omega);refine Run.unloop ?_;refine Rg func358 ?_;simp only[go_sem,h3,Int.reduceNeg];(and_intros<;>try omega);exact Vr
theorem containsW0(p:List UInt8)(c:Int)(k:Bool):ASpec prog 322 [.sl 3 [] .no,.agg [.str p,.int .i64 c,.bool k]] (.bool false):=by
 have h:=findW0 p c k;refine Sh func322 (by kernel_rfl) rfl fun c0 hc0=>?_;simp only[go_sem];refine Ops.pure .free rfl rfl (h) Vl rfl rfl ?_;refine Og func322 ?_;simp only[go_sem,Int.reduceNeg];(and_intros<;>try omega);exact Vr
theorem wadd_spec(p:List UInt8)(c:Int)(k:Bool)(hp:p.length<=1000000):∃ l e,(l=[]\/l=[[.str p,.int .i64 c,.bool k]])/\ASpec prog 291 [tbl [],.agg [.str p,.int .i64 c,.bool k]] (.tup [tbl l,.int .i64 e]):=by
 have hr:=rightp_spec p hp;have hc:=containsW0 p c k
 cases hb:rightS p with
 |false=>
  rw[hb] at hr;refine⟨[],13,.inl rfl,?_⟩;refine Sh func291 (by kernel_rfl) rfl fun c0 hc0=>?_;simp only[go_sem,tbl];refine Ops.pure .free rfl rfl (hr) Vl rfl rfl ?_;refine Og func291 ?_;simp only[go_sem];(and_intros<;>try omega);exact Vr
 |true=>
 rw[hb] at hr
 by_cases h:c<0
 case pos=>
  refine⟨[],1,.inl rfl,?_⟩;refine Sh func291 (by kernel_rfl) rfl fun c0 hc0=>?_;simp only[go_sem,tbl];refine Ops.pure .free rfl rfl (hr) Vl rfl rfl ?_;refine Og func291 ?_;simp only[go_sem,h];(and_intros<;>try omega);exact Vr
 refine⟨_,0,.inr rfl,?_⟩;refine Sh func291 (by kernel_rfl) rfl fun c0 hc0=>?_;simp only[go_sem,tbl];refine Ops.pure .free rfl rfl (hr) Vl rfl rfl ?_;refine Og func291 ?_;simp only[go_sem,h];(and_intros<;>try first|rfl|omega);refine Ops.pure .free rfl rfl (hc) Vl rfl rfl ?_;refine Og func291 ?_;simp only[go_sem];(and_intros<;>try first|rfl|omega);refine DOps.own rfl .free rfl rfl cloneW0 (by simp only[go_sem];(repeat' first|exact .refl _|apply LeR.tup|apply Le.agg|constructor)) rfl rfl ?_;refine Dg func291 rfl ?_;simp only[go_sem];(and_intros<;>try first|rfl|omega);(repeat' first|exact .refl _|apply LeR.tup|apply Le.agg|constructor)
theorem cloneW1(p:List UInt8)(c:Int)(k:Bool):ASpec prog 252 [.sl 3 [[.str p,.int .i64 c,.bool k]] .no] (.sl 3 [[.str p,.int .i64 c,.bool k]] .no):=by
 refine Sh func252 (by kernel_rfl) rfl fun c0 hc0=>?_;simp only[go_sem,reduceCtorEq];(and_intros<;>try first|rfl|omega);(repeat' first|exact .refl _|apply LeR.tup|constructor)
theorem fire10(p:List UInt8)(c:Int)(k:Bool):ASpec prog 206 [tbl [[.str p,.int .i64 c,.bool k]],.sl 2 [] .no] (.tup [tbl [[.str p,.int .i64 c,.bool k]],.nils]):=by
 have h3:¬(0:Int)<0:=by omega
 have h:=cloneW1 p c k;refine Sh func206 (by kernel_rfl) rfl fun c0 hc0=>?_;simp only[go_sem,tbl];(and_intros<;>try omega);refine Ops.pure .free rfl rfl (h) Vl rfl rfl ?_;refine Og func206 ?_;simp only[go_sem,xtab_210,xtab_343];(and_intros<;>try first|rfl|omega);refine Run.unloop ?_;refine Rg func206 ?_;simp only[go_sem,h3,xtab_210];(and_intros<;>try first|rfl|omega);(repeat' first|exact .refl _|apply LeR.tup|constructor)
def realmA(sh:List (List AV))(now:Int)(bk tb sn:List (List AV)):AV:=.agg [.sl 4 sh .no,.int .i64 now,.sl 3 bk .no,.sl 3 tb .no,.sl 6 sn .no]
theorem rplace0(sh:List (List AV))(now:Int)(bk tb:List (List AV))(c:Int):ASpec prog 208 [realmA sh now bk tb [],.int .i64 c] (.tup [.int .i64 0,.bool false]):=by
 have h:=searchR0 c;refine Sh func208 (by kernel_rfl) rfl fun c0 hc0=>?_;simp only[go_sem,realmA];refine Ops.pure .free rfl rfl (h) Vl rfl rfl ?_;refine Og func208 ?_;simp only[go_sem];exact Vr
def rep0:AV:=.agg [.int .i64 0,.int .i64 0,.int .i64 0,.str [],.int .i64 0,.nils]
theorem last0(sh:List (List AV))(now:Int)(bk tb:List (List AV))(c:Int):ASpec prog 183 [realmA sh now bk tb [],.int .i64 c] (.tup [rep0,.bool false]):=by
 have h:=rplace0 sh now bk tb c;refine Sh func183 (by kernel_rfl) rfl fun c0 hc0=>?_;simp only[go_sem,realmA];refine Ops.pure .free rfl rfl (h) Vl rfl rfl ?_;refine Og func183 ?_;simp only[go_sem];(and_intros<;>try omega)
 try simp only[rep0]
 exact Vr
def repA(o:Ord):AV:=.agg [.int .i64 o.a,.int .i64 o.b,.int .i64 0,.str [],.int .i64 0,.nils]
theorem known_spec(sh:List (List AV))(now:Int)(bk tb:List (List AV))(o:Ord)(hm:mayO o=true):ASpec prog 204 [realmA sh now bk tb [],encO o] (.tup [repA o,.bool false]):=by
 have hl:=last0 sh now bk tb o.a;have hy:=may_spec o;rw[hm] at hy
 have h50:¬(50:Int)<=0:=by omega
 refine Sh func204 (by kernel_rfl) rfl fun c0 hc0=>?_;simp only[go_sem,realmA,encO];(and_intros<;>try omega);refine Ops.pure .free rfl rfl (hl) Vl rfl rfl ?_;refine Og func204 ?_;simp only[go_sem,rep0];(and_intros<;>try omega);refine Ops.pure .free rfl rfl (hy) Vl rfl rfl ?_;refine Og func204 ?_;simp only[go_sem,h50];(and_intros<;>try omega)
 try simp only[repA]
 exact Vr
def wkB(sh:List (List AV))(now:Int)(bk tb:List (List AV))(o:Ord)(e:Int)(s:List UInt8)(v:Int)(ns ch:AV):ABlk:=
 .box [.sl 4 sh .no,.int .i64 now,.sl 3 bk .no,.sl 3 tb .no,.sl 6 [] .no,.int .i64 o.a,.int .i64 o.b,.int .i64 o.kind,.str o.s,.str o.t,.int .i64 o.x,.int .i64 o.y,.int .i64 o.z,.int .i64 o.a,.int .i64 o.b,.int .i64 e,.str s,.int .i64 v,ns,ch]
def chA(k:Int)(o:Ord):AV:=.sl 2 [[.int .i64 k,.str o.s]] .no
theorem nothing_spec(sh:List (List AV))(now:Int)(bk tb:List (List AV))(o:Ord):BSpec prog 241 [.ptr 0 0] [wkB sh now bk tb o 0 [] 0 .nils .nils] [wkB sh now bk tb o 0 [] 0 .nils .nils] (.tup []):=by
 refine⟨⟨_,func241,by kernel_rfl,rfl⟩,Sg func241 rfl fun c0 hc0=>?_⟩;simp only[go_sem,wkB,Nat.reduceSub];(and_intros<;>try omega);(repeat' first|exact .refl _|rfl|apply LeR.tup|apply Le.agg|constructor)
theorem changed_no(sh:List (List AV))(now:Int)(bk tb:List (List AV))(o:Ord)(e:Int)(s:List UInt8)(v:Int)(k:Int)(he:e≠0):BSpec prog 281 [.ptr 0 0,.int .i64 k] [wkB sh now bk tb o e s v .nils .nils] [wkB sh now bk tb o e s v .nils .nils] (.tup []):=by
 refine⟨⟨_,func281,by kernel_rfl,rfl⟩,Sg func281 rfl fun c0 hc0=>?_⟩;simp only[go_sem,wkB,he,↓aF,xtab_345,Nat.reduceAdd,Nat.reduceLeDiff,Nat.reduceSub];(and_intros<;>try omega);(repeat' first|exact .refl _|rfl|apply LeR.tup|apply Le.agg|constructor)
theorem changed_yes(sh:List (List AV))(now:Int)(bk tb:List (List AV))(o:Ord)(s:List UInt8)(v:Int)(k:Int):BSpec prog 281 [.ptr 0 0,.int .i64 k] [wkB sh now bk tb o 0 s v .nils .nils] [wkB sh now bk tb o 0 s v .nils (chA k o)] (.tup []):=by
 refine⟨⟨_,func281,by kernel_rfl,rfl⟩,Sg func281 rfl fun c0 hc0=>?_⟩;simp only[go_sem,wkB,chA,↓aT,xtab_343,xtab_345,xtab_387,Nat.reduceAdd,Nat.reduceLeDiff,Nat.reduceMul,Nat.reduceBEq,Nat.reduceLT,Nat.reduceSub];(and_intros<;>try omega);(repeat' first|exact .refl _|rfl|apply LeR.tup|apply Le.agg|constructor)
theorem get_bspec(now:Int)(bk tb:List (List AV))(o:Ord)(hs:o.s.length<=1000000):∃ e s v,BSpec prog 243 [.ptr 0 0] [wkB [rootC] now bk tb o 0 [] 0 .nils .nils] [wkB [rootC] now bk tb o e s v .nils .nils] (.tup []):=by
 have hg:=get_spec o.s hs
 obtain⟨q,s,v,w,hq⟩:∃ q s v w,getF o.s=[.str q,.str s,.int .i64 v,.int .i64 w]:=by
  unfold getF
  split
  ·exact⟨_,_,_,_,rfl⟩
  ·exact⟨_,_,_,_,rfl⟩
 rw[hq] at hg;refine⟨findF o.s,s,v,?_⟩;refine⟨⟨_,func243,by kernel_rfl,rfl⟩,Sg func243 rfl fun c0 hc0=>?_⟩;simp only[go_sem,wkB,xtab_345,Nat.reduceAdd,Nat.reduceLeDiff,Nat.reduceSub];(and_intros<;>try first|rfl|omega);refine DOps.pure rfl .free rfl rfl (hg) (by exact Vl) rfl rfl ?_;refine Dg func243 rfl ?_;simp only[go_sem,xtab_345];(and_intros<;>try first|rfl|omega);(repeat' first|exact .refl _|rfl|apply LeR.tup|apply Le.agg|constructor)
theorem list_bspec(o:Ord)(hs:o.s.length<=1000000):∃ e,BSpec prog 246 [.ptr 0 0] [wkB [rootC] 0 [] [] o 0 [] 0 .nils .nils] [wkB [rootC] 0 [] [] o e [] 0 .nils .nils] (.tup []):=by
 obtain⟨e,h⟩:=list_spec o.s hs;refine⟨e,?_⟩;refine⟨⟨_,func246,by kernel_rfl,rfl⟩,Sg func246 rfl fun c0 hc0=>?_⟩;simp only[go_sem,wkB,xtab_345,Nat.reduceAdd,Nat.reduceLeDiff,Nat.reduceSub];(and_intros<;>try first|rfl|omega);refine DOps.pure rfl .free rfl rfl (h) (by exact Vl) rfl rfl ?_;refine Dg func246 rfl ?_;simp only[go_sem,xtab_345];(and_intros<;>try omega);(repeat' first|exact .refl _|rfl|apply LeR.tup|apply Le.agg|constructor)
theorem open_bspec(o:Ord):∃ bk e,(∀ x∈bk,∀ a∈x,a.plain=true)/\BSpec prog 247 [.ptr 0 0] [wkB [rootC] 0 [] [] o 0 [] 0 .nils .nils] [wkB [rootC] 0 bk [] o e [] 0 .nils .nils] (.tup []):=by
 have h:=open0_spec o.y o.z;refine⟨(openF o.y o.z).1,(openF o.y o.z).2,?_,?_⟩
 ·unfold openF
  split
  ·simp
  ·simp[AV.plain]
 generalize openF o.y o.z=q at h ⊢;obtain⟨q1,q2⟩:=q;dsimp only at h ⊢;refine⟨⟨_,func247,by kernel_rfl,rfl⟩,Sg func247 rfl fun c0 hc0=>?_⟩;simp only[go_sem,wkB,xtab_345,Nat.reduceAdd,Nat.reduceLeDiff,Nat.reduceSub];(and_intros<;>try first|rfl|omega);refine DOps.pure rfl .free rfl rfl (h) (by exact Vl) rfl rfl ?_;refine Dg func247 rfl ?_;simp only[go_sem,bkA,xtab_345];(and_intros<;>try first|rfl|omega);(repeat' first|exact .refl _|rfl|apply LeR.tup|apply Le.agg|constructor)
theorem touch_bspec(o:Ord):BSpec prog 248 [.ptr 0 0] [wkB [rootC] 0 [] [] o 0 [] 0 .nils .nils] [wkB [rootC] 0 [] [] o 14 [] 0 .nils .nils] (.tup []):=by
 have h:=touch0_spec 0 o.y;refine⟨⟨_,func248,by kernel_rfl,rfl⟩,Sg func248 rfl fun c0 hc0=>?_⟩;simp only[go_sem,wkB,xtab_345,Nat.reduceAdd,Nat.reduceLeDiff,Nat.reduceSub];(and_intros<;>try first|rfl|omega);refine DOps.pure rfl .free rfl rfl (h) (by exact Vl) rfl rfl ?_;refine Dg func248 rfl ?_;simp only[go_sem,bkA,xtab_345];(and_intros<;>try first|rfl|omega);(repeat' first|exact .refl _|rfl|apply LeR.tup|apply Le.agg|constructor)
theorem close_bspec(o:Ord):BSpec prog 249 [.ptr 0 0] [wkB [rootC] 0 [] [] o 0 [] 0 .nils .nils] [wkB [rootC] 0 [] [] o 14 [] 0 .nils .nils] (.tup []):=by
 have h:=close0_spec 0 o.y;refine⟨⟨_,func249,by kernel_rfl,rfl⟩,Sg func249 rfl fun c0 hc0=>?_⟩;simp only[go_sem,wkB,xtab_345,Nat.reduceAdd,Nat.reduceLeDiff,Nat.reduceSub];(and_intros<;>try first|rfl|omega);refine DOps.pure rfl .free rfl rfl (h) (by exact Vl) rfl rfl ?_;refine Dg func249 rfl ?_;simp only[go_sem,bkA,xtab_345];(and_intros<;>try omega);(repeat' first|exact .refl _|rfl|apply LeR.tup|apply Le.agg|constructor)
theorem tick_bspec(o:Ord):∃ now e v,BSpec prog 250 [.ptr 0 0] [wkB [rootC] 0 [] [] o 0 [] 0 .nils .nils] [wkB [rootC] now [] [] o e [] v .nils .nils] (.tup []):=by
 have h:=tick0_spec o.z;generalize tickF o.z=q at h;obtain⟨n,e⟩:=q;dsimp only at h
 have h3:¬(0:Int)<0:=by omega
 by_cases he:e=0
 ·refine⟨n,0,n,?_⟩;subst he;refine⟨⟨_,func250,by kernel_rfl,rfl⟩,Sg func250 rfl fun c0 hc0=>?_⟩;simp only[go_sem,wkB,xtab_345,Nat.reduceAdd,Nat.reduceLeDiff,Nat.reduceSub];(and_intros<;>try first|rfl|omega);refine DOps.pure rfl .free rfl rfl (h) (by exact Vl) rfl rfl ?_;refine Dg func250 rfl ?_;simp only[go_sem,bkA,xtab_345];(and_intros<;>try first|rfl|omega);refine Run.unloop ?_;refine Rg func250 ?_;simp only[go_sem,h3];(and_intros<;>try first|rfl|omega);(repeat' first|exact .refl _|rfl|apply LeR.tup|apply Le.agg|constructor)
 ·refine⟨0,e,0,?_⟩;refine⟨⟨_,func250,by kernel_rfl,rfl⟩,Sg func250 rfl fun c0 hc0=>?_⟩;simp only[go_sem,wkB,xtab_345,Nat.reduceAdd,Nat.reduceLeDiff,Nat.reduceSub];(and_intros<;>try first|rfl|omega);refine DOps.pure rfl .free rfl rfl (h) (by exact Vl) rfl rfl ?_;refine Dg func250 rfl ?_;simp only[go_sem,he,bkA,xtab_345];(and_intros<;>try omega);(repeat' first|exact .refl _|rfl|apply LeR.tup|apply Le.agg|constructor)
theorem watch_bspec(o:Ord)(hs:o.s.length<=1000000):∃ tb e,(tb=[]\/∃ p c k,tb=[[.str p,.int .i64 c,.bool k]])/\BSpec prog 251 [.ptr 0 0] [wkB [rootC] 0 [] [] o 0 [] 0 .nils .nils] [wkB [rootC] 0 [] tb o e [] 0 .nils .nils] (.tup []):=by
 obtain⟨l,e,hl,h⟩:=wadd_spec o.s o.a (decide (o.kind=11)) hs;refine⟨l,e,?_,?_⟩
 ·rcases hl with rfl|rfl
  ·exact .inl rfl
  ·exact .inr ⟨_,_,_,rfl⟩
 refine⟨⟨_,func251,by kernel_rfl,rfl⟩,Sg func251 rfl fun c0 hc0=>?_⟩;simp only[go_sem,wkB,xtab_345,Nat.reduceAdd,Nat.reduceLeDiff,Nat.reduceSub];(and_intros<;>try first|rfl|omega);refine DOps.pure rfl .free rfl rfl (h) (by exact Vl) rfl rfl ?_;refine Dg func251 rfl ?_;simp only[go_sem,tbl,xtab_345];(and_intros<;>try omega);(repeat' first|exact .refl _|rfl|apply LeR.tup|apply Le.agg|constructor)
theorem lent1'{x:ABlk}(h:LentB x):∀ y∈[x],LentB y:=by intro y hy;cases List.mem_singleton.1 hy;exact h
theorem remove_bspec(o:Ord)(hs:o.s.length<=1000000):∃ e ch,(ch=.nils\/ch=chA 3 o)/\BSpec prog 245 [.ptr 0 0] [wkB [rootC] 0 [] [] o 0 [] 0 .nils .nils] [wkB [rootC] 0 [] [] o e [] 0 .nils ch] (.tup []):=by
 obtain⟨e,h⟩:=delete_spec o.s o.x hs
 by_cases he:e=0
 case neg=>
  have hc:=changed_no [rootC] 0 [] [] o e [] 0 3 he;refine⟨e,_,.inl rfl,?_⟩;refine⟨⟨_,func245,by kernel_rfl,rfl⟩,Sg func245 rfl fun c0 hc0=>?_⟩;simp only[go_sem,wkB,xtab_345,Nat.reduceAdd,Nat.reduceLeDiff,Nat.reduceSub];(and_intros<;>try first|rfl|omega);refine DOps.pure rfl .free rfl rfl (h) (by exact Vl) rfl rfl ?_;refine Dg func245 rfl ?_;simp only[go_sem,rootA,xtab_345];(and_intros<;>try first|rfl|omega);refine Ops.callB .free rfl rfl (js:=[0]) (by decide) (LentAll.cons rfl (.inl ⟨_,rfl,rfl⟩) LentAll.nil) (lent1' (.inl ⟨_,rfl,rfl⟩)) rfl rfl (by exact Vl) (hc) rfl ?_;refine Og func245 ?_;simp only[go_sem,pB];(and_intros<;>try first|rfl|omega);(repeat' first|exact .refl _|rfl|apply LeR.tup|apply Le.agg|constructor)
 subst he;have hc:=changed_yes [rootC] 0 [] [] o [] 0 3;refine⟨0,_,.inr rfl,?_⟩;refine⟨⟨_,func245,by kernel_rfl,rfl⟩,Sg func245 rfl fun c0 hc0=>?_⟩;simp only[go_sem,wkB,xtab_345,Nat.reduceAdd,Nat.reduceLeDiff,Nat.reduceSub];(and_intros<;>try first|rfl|omega);refine DOps.pure rfl .free rfl rfl (h) (by exact Vl) rfl rfl ?_;refine Dg func245 rfl ?_;simp only[go_sem,rootA,xtab_345];(and_intros<;>try first|rfl|omega);refine Ops.callB .free rfl rfl (js:=[0]) (by decide) (LentAll.cons rfl (.inl ⟨_,rfl,rfl⟩) LentAll.nil) (lent1' (.inl ⟨_,rfl,rfl⟩)) rfl rfl (by exact Vl) (hc) rfl ?_;refine Og func245 ?_;simp only[go_sem,pB,chA];(and_intros<;>try omega);(repeat' first|exact .refl _|rfl|apply LeR.tup|apply Le.agg|constructor)
def rtC(c:List UInt8)(v:Int):List AV:=[.str [47],.str c,.int .i64 v,.int .i64 0]
theorem placeV(c:List UInt8)(v:Int):ASpec prog 352 [.agg (rtC c v),.str [47]] (.int .i64 0):=by
 refine Sh func352 (by kernel_rfl) rfl fun c0 hc0=>?_;simp only[go_sem,rtC];(and_intros<;>try omega);exact Vr
theorem searchV(c:List UInt8)(v:Int):ASpec prog 351 [.sl 4 [rtC c v] .no,.str [47],.fn (.func 352) [] []] (.tup [.int .i64 0,.bool true]):=by
 have hc:=placeV c v
 have h1:(0:Int)<1:=by omega
 have h3:¬(0:Int)<0:=by omega
 have hmid:IntKind.i64.wrap ((IntKind.u64.wrap ((0:Int)+1)).fdiv (2^min 1 64))=0:=by decide
 refine Sh func351 (by kernel_rfl) rfl fun c0 hc0=>?_;simp only[go_sem,Int.natCast_one];(and_intros<;>try omega);refine Run.unloop ?_;refine Rg func351 ?_;simp only[go_sem,h1,hmid,rtC,Int.reduceToNat,↓aT,Int.reduceLE,Nat.reduceAdd,Nat.reduceLT];(and_intros<;>try omega);refine Ops.pure .free rfl rfl (hc) (by exact Vl) rfl rfl ?_;refine Og func351 ?_;simp only[go_sem,h3,↓aF];(and_intros<;>try omega);refine Run.again ?_;refine Rg func351 ?_;simp only[go_sem,h1,h3];(and_intros<;>try omega);refine Ops.pure (Wanted.test 4 true true rfl) rfl rfl (hc) Vl rfl rfl ?_;refine Og func351 ?_;simp only[go_sem];(and_intros<;>try omega);exact Vr
theorem placeW(c:List UInt8)(v:Int):ASpec prog 309 [.agg [.sl 4 [rtC c v] .no],.str [47]] (.tup [.int .i64 0,.bool true]):=by
 have h:=searchV c v;refine Sh func309 (by kernel_rfl) rfl fun c0 hc0=>?_;simp only[go_sem,rtC];(and_intros<;>try omega);refine Ops.pure .free rfl rfl (h) Vl rfl rfl ?_;refine Og func309 ?_;simp only[go_sem];(and_intros<;>try omega);exact Vr
theorem findV(c:List UInt8)(v:Int):ASpec prog 313 [.agg [.sl 4 [rtC c v] .no],.str [47]] (.tup [.int .i64 0,.int .i64 0]):=by
 have hr:=rightp_spec [47] (by decide);rw[right_root] at hr;have hl:=placeW c v;refine Sh func313 (by kernel_rfl) rfl fun c0 hc0=>?_;simp only[go_sem,rtC];refine Ops.pure .free rfl rfl (hr) Vl rfl rfl ?_;refine Og func313 ?_;simp only[go_sem];(and_intros<;>try omega);refine Ops.pure .free rfl rfl (hl) Vl rfl rfl ?_;refine Og func313 ?_;simp only[go_sem];(and_intros<;>try omega);exact Vr
theorem getV(c:List UInt8)(v:Int):ASpec prog 282 [.agg [.sl 4 [rtC c v] .no],.str [47]] (.tup [.agg (rtC c v),.int .i64 0]):=by
 have hf:=findV c v;refine Sh func282 (by kernel_rfl) rfl fun c0 hc0=>?_;simp only[go_sem,rtC];refine Ops.pure .free rfl rfl (hf) Vl rfl rfl ?_;refine Og func282 ?_;simp only[go_sem,Int.natCast_one];(and_intros<;>try omega)
 try simp only[rtC]
 exact Vr
theorem set_bspec(o:Ord)(hs:o.s.length<=1000000):∃ sh e v ch,(∀ x∈sh,∀ a∈x,a.plain=true)/\(ch=.nils\/ch=chA 2 o)/\BSpec prog 244 [.ptr 0 0] [wkB [rootC] 0 [] [] o 0 [] 0 .nils .nils] [wkB sh 0 [] [] o e [] v .nils ch] (.tup []):=by
 obtain⟨c,ver,e,hroot,h⟩:=set_spec o.s o.t o.x hs
 by_cases he:e=0
 case neg=>
  have hc:=changed_no [rtC c ver] 0 [] [] o e [] 0 2 he;refine⟨[rtC c ver],e,0,_,by simp[rtC,AV.plain],.inl rfl,?_⟩;refine⟨⟨_,func244,by kernel_rfl,rfl⟩,Sg func244 rfl fun c0 hc0=>?_⟩;simp only[go_sem,wkB,xtab_345,Nat.reduceAdd,Nat.reduceLeDiff,Nat.reduceSub];(and_intros<;>try first|rfl|omega);refine DOps.pure rfl .free rfl rfl (h) (by exact Vl) rfl rfl ?_;refine Dg func244 rfl ?_;simp only[go_sem,root1,xtab_345];(and_intros<;>try first|rfl|omega);refine Ops.callB .free rfl rfl (js:=[0]) (by decide) (LentAll.cons rfl (.inl ⟨_,rfl,rfl⟩) LentAll.nil) (lent1' (.inl ⟨_,rfl,rfl⟩)) rfl rfl (by exact Vl) (hc) rfl ?_;refine Og func244 ?_;simp only[go_sem,he,pB,xtab_345];(and_intros<;>try omega);(repeat' first|exact .refl _|rfl|apply LeR.tup|apply Le.agg|constructor)
 subst he;have hr:o.s=[47]:=hroot rfl;have hc:=changed_yes [rtC c ver] 0 [] [] o [] 0 2;have hg:=getV c ver;refine⟨[rtC c ver],0,ver,_,by simp[rtC,AV.plain],.inr rfl,?_⟩;refine⟨⟨_,func244,by kernel_rfl,rfl⟩,Sg func244 rfl fun c0 hc0=>?_⟩;simp only[go_sem,wkB,xtab_345,Nat.reduceAdd,Nat.reduceLeDiff,Nat.reduceSub];(and_intros<;>try first|rfl|omega);refine DOps.pure rfl .free rfl rfl (h) (by exact Vl) rfl rfl ?_;refine Dg func244 rfl ?_;simp only[go_sem,root1,xtab_345];(and_intros<;>try first|rfl|omega);refine Ops.callB .free rfl rfl (js:=[0]) (by decide) (LentAll.cons rfl (.inl ⟨_,rfl,rfl⟩) LentAll.nil) (lent1' (.inl ⟨_,rfl,rfl⟩)) rfl rfl (by exact Vl) (hc) rfl ?_;refine Og func244 ?_;simp only[go_sem,pB,chA,hr,xtab_345];(and_intros<;>try first|rfl|omega);refine DOps.pure rfl .free rfl rfl (hg) (by exact Vl) rfl rfl ?_;refine Dg func244 rfl ?_;simp only[go_sem,rtC,xtab_345];(and_intros<;>try omega)
 try rw[hr]
 (repeat' first|exact .refl _|rfl|apply LeR.tup|apply Le.agg|constructor)
theorem create_bspec(o:Ord)(hs:o.s.length<=1000000):∃ sh e ch,(∀ x∈sh,∀ a∈x,a.plain=true)/\(ch=.nils\/ch=chA 1 o)/\BSpec prog 242 [.ptr 0 0] [wkB [rootC] 0 [] [] o 0 [] 0 .nils .nils] [wkB sh 0 [] [] o e [] 0 .nils ch] (.tup []):=by
 have hh:=has0_spec 0 o.y
 by_cases hy:o.y=0
 case neg=>
  refine⟨[rootC],14,_,by simp[rootC,AV.plain],.inl rfl,?_⟩;refine⟨⟨_,func242,by kernel_rfl,rfl⟩,Sg func242 rfl fun c0 hc0=>?_⟩;simp only[go_sem,wkB,hy,↓bT,↓gdone_tt,xtab_345,Nat.reduceAdd,Nat.reduceLeDiff,Nat.reduceSub];(and_intros<;>try first|rfl|omega);refine DOps.pure rfl (Wanted.test 6 true true rfl) rfl rfl (hh) (by exact Vl) rfl rfl ?_;refine Dg func242 rfl ?_;simp only[go_sem,xtab_345];(and_intros<;>try omega);(repeat' first|exact .refl _|rfl|apply LeR.tup|apply Le.agg|constructor)
 obtain⟨l,e,hl,h⟩:=create_spec o.s o.t o.y hs;have hyT:(o.y=0)=True:=eq_true hy
 by_cases he:e=0
 case neg=>
  have hc:=changed_no l 0 [] [] o e [] 0 1 he;refine⟨l,e,_,hl,.inl rfl,?_⟩;refine⟨⟨_,func242,by kernel_rfl,rfl⟩,Sg func242 rfl fun c0 hc0=>?_⟩;simp only[go_sem,wkB,hyT,↓aF,↓bF,↓gdone_tf,xtab_345,Nat.reduceAdd,Nat.reduceLeDiff,Nat.reduceSub];(and_intros<;>try first|rfl|omega);refine DOps.pure rfl .free rfl rfl (h) (by exact Vl) rfl rfl ?_;refine Dg func242 rfl ?_;simp only[go_sem,xtab_345];(and_intros<;>try first|rfl|omega);refine Ops.callB .free rfl rfl (js:=[0]) (by decide) (LentAll.cons rfl (.inl ⟨_,rfl,rfl⟩) LentAll.nil) (lent1' (.inl ⟨_,rfl,rfl⟩)) rfl rfl (by exact Vl) (hc) rfl ?_;refine Og func242 ?_;simp only[go_sem,pB];(and_intros<;>try first|rfl|omega);(repeat' first|exact .refl _|rfl|apply LeR.tup|apply Le.agg|constructor)
 subst he;have hc:=changed_yes l 0 [] [] o [] 0 1;refine⟨l,0,_,hl,.inr rfl,?_⟩;refine⟨⟨_,func242,by kernel_rfl,rfl⟩,Sg func242 rfl fun c0 hc0=>?_⟩;simp only[go_sem,wkB,hyT,↓aF,↓bF,↓gdone_tf,xtab_345,Nat.reduceAdd,Nat.reduceLeDiff,Nat.reduceSub];(and_intros<;>try first|rfl|omega);refine DOps.pure rfl .free rfl rfl (h) (by exact Vl) rfl rfl ?_;refine Dg func242 rfl ?_;simp only[go_sem,xtab_345];(and_intros<;>try first|rfl|omega);refine Ops.callB .free rfl rfl (js:=[0]) (by decide) (LentAll.cons rfl (.inl ⟨_,rfl,rfl⟩) LentAll.nil) (lent1' (.inl ⟨_,rfl,rfl⟩)) rfl rfl (by exact Vl) (hc) rfl ?_;refine Og func242 ?_;simp only[go_sem,pB,chA];(and_intros<;>try omega);(repeat' first|exact .refl _|rfl|apply LeR.tup|apply Le.agg|constructor)
def doesG(k:Nat):FuncId:=match k with
 |0=>241
 |1=>242
 |2=>243
 |3=>244
 |4=>245
 |5=>246
 |6=>247
 |7=>248
 |8=>249
 |9=>250
 |_=>251
def doesR(k:Nat):List AV:=[.fn (.func (doesG k)) [] []]
def doesL:List (List AV):=[doesR 0,doesR 1,doesR 2,doesR 3,doesR 4,doesR 5,doesR 6,doesR 7,doesR 8,doesR 9,doesR 10,doesR 11]
theorem does_spec:ASpec prog 205 [] (.psl 1 doesL):=by
 refine⟨⟨_,func205,by kernel_rfl,rfl⟩,ACall.of func205 rfl fun c0 hc0=>?_⟩;simp only[ntmps205,Y9,Nat.reduceSub,Ym,Yn,Y3];refine Rg func205 ?_;simp only[go_sem,doesL,doesR,doesG,xtab_346,xtab_347];(and_intros<;>try omega);exact Vr
theorem doesL_at{k:Nat}(h:k<=11):doesL[k]? = some (doesR k):=by
 have:k=0\/k=1\/k=2\/k=3\/k=4\/k=5\/k=6\/k=7\/k=8\/k=9\/k=10\/k=11:=by omega
 rcases this with rfl|rfl|rfl|rfl|rfl|rfl|rfl|rfl|rfl|rfl|rfl|rfl<;>rfl
def Left(sh bk tb:List (List AV))(ch:AV):Prop:=(∀ x∈sh,∀ a∈x,a.plain=true)/\(∀ x∈bk,∀ a∈x,a.plain=true)/\((tb=[]/\(ch=.nils\/∃ p:Int×List UInt8,ch=.sl 2 [[.int .i64 p.1,.str p.2]] .no))\/((∃ p c k,tb=[[.str p,.int .i64 c,.bool k]])/\ch=.nils))
theorem work_spec(o:Ord)(hs:o.s.length<=1000000)(k:Nat)(hk:k<=11):∃ sh now bk tb e s v ch,Left sh bk tb ch/\AV.nils=AV.nils/\BSpec prog (doesG k) [.ptr 0 0] [wkB [rootC] 0 [] [] o 0 [] 0 .nils .nils] [wkB sh now bk tb o e s v .nils ch] (.tup []):=by
 have:k=0\/k=1\/k=2\/k=3\/k=4\/k=5\/k=6\/k=7\/k=8\/k=9\/k=10\/k=11:=by omega
 rcases this with rfl|rfl|rfl|rfl|rfl|rfl|rfl|rfl|rfl|rfl|rfl|rfl
 ·have h:=nothing_spec [rootC] 0 [] [] o;exact⟨_,_,_,_,_,_,_,_,⟨by simp[rootC,AV.plain],by simp,.inl ⟨rfl,.inl rfl⟩⟩,rfl,h⟩
 ·obtain⟨sh,e,ch,p1,p2,h⟩:=create_bspec o hs;exact⟨_,_,_,_,_,_,_,_,⟨p1,by simp,.inl ⟨rfl,p2.imp_right fun e=>⟨(1,o.s),e⟩⟩⟩,rfl,h⟩
 ·obtain⟨e,s,v,h⟩:=get_bspec 0 [] [] o hs;exact⟨_,_,_,_,_,_,_,_,⟨by simp[rootC,AV.plain],by simp,.inl ⟨rfl,.inl rfl⟩⟩,rfl,h⟩
 ·obtain⟨sh,e,v,ch,p1,p2,h⟩:=set_bspec o hs;exact⟨_,_,_,_,_,_,_,_,⟨p1,by simp,.inl ⟨rfl,p2.imp_right fun e=>⟨(2,o.s),e⟩⟩⟩,rfl,h⟩
 ·obtain⟨e,ch,p2,h⟩:=remove_bspec o hs;exact⟨_,_,_,_,_,_,_,_,⟨by simp[rootC,AV.plain],by simp,.inl ⟨rfl,p2.imp_right fun e=>⟨(3,o.s),e⟩⟩⟩,rfl,h⟩
 ·obtain⟨e,h⟩:=list_bspec o hs;exact⟨_,_,_,_,_,_,_,_,⟨by simp[rootC,AV.plain],by simp,.inl ⟨rfl,.inl rfl⟩⟩,rfl,h⟩
 ·obtain⟨bk,e,p1,h⟩:=open_bspec o;exact⟨_,_,_,_,_,_,_,_,⟨by simp[rootC,AV.plain],p1,.inl ⟨rfl,.inl rfl⟩⟩,rfl,h⟩
 ·have h:=touch_bspec o;exact⟨_,_,_,_,_,_,_,_,⟨by simp[rootC,AV.plain],by simp,.inl ⟨rfl,.inl rfl⟩⟩,rfl,h⟩
 ·have h:=close_bspec o;exact⟨_,_,_,_,_,_,_,_,⟨by simp[rootC,AV.plain],by simp,.inl ⟨rfl,.inl rfl⟩⟩,rfl,h⟩
 ·obtain⟨now,e,v,h⟩:=tick_bspec o;exact⟨_,_,_,_,_,_,_,_,⟨by simp[rootC,AV.plain],by simp,.inl ⟨rfl,.inl rfl⟩⟩,rfl,h⟩
 ·obtain⟨tb,e,p1,h⟩:=watch_bspec o hs;exact⟨_,_,_,_,_,_,_,_,⟨by simp[rootC,AV.plain],by simp,p1.imp (fun e=>⟨e,.inl rfl⟩) fun e=>⟨e,rfl⟩⟩,rfl,h⟩
 ·obtain⟨tb,e,p1,h⟩:=watch_bspec o hs;exact⟨_,_,_,_,_,_,_,_,⟨by simp[rootC,AV.plain],by simp,p1.imp (fun e=>⟨e,.inl rfl⟩) fun e=>⟨e,rfl⟩⟩,rfl,h⟩
theorem fire_spec{sh bk tb:List (List AV)}{ch:AV}(h:Left sh bk tb ch):∃ c,c.bel 0=true/\(LeL [tbl tb,ch] [tbl tb,c])/\ASpec prog 206 [tbl tb,c] (.tup [tbl tb,.nils]):=by
 obtain⟨_,_,h⟩:=h
 rcases h with⟨rfl,rfl|⟨⟨k,p⟩,rfl⟩⟩|⟨⟨p,c,k,rfl⟩,rfl⟩
 ·exact⟨_,rfl,.cons (.refl _) (.cons (.one (.nil _)) .nil),fire00⟩
 ·exact⟨_,rfl,.cons (.refl _) (.cons (.refl _) .nil),fire01 k p⟩
 ·exact⟨_,rfl,.cons (.refl _) (.cons (.one (.nil _)) .nil),fire10 p c k⟩
theorem insertR1(a b e v:Int)(s:List UInt8):ACall prog 209 [.sl 6 [] (.own 0),.int .i64 0,.sl 6 [[.int .i64 a,.int .i64 b,.int .i64 e,.str s,.int .i64 v,.nils]] .no] [.tok 6 0] fun r _=>LeR r (.sl 6 [[.int .i64 a,.int .i64 b,.int .i64 e,.str s,.int .i64 v,.nils]] .no):=by
 have h1:¬(1:Int)=0:=by omega
 refine Sg func209 rfl fun c1 hc1=>?_;simp only[go_sem,h1,Int.natCast_one];(and_intros<;>try first|rfl|omega);(repeat' first|exact .refl _|apply LeR.tup|constructor)
def realm0:AV:=realmA [rootC] 0 [] [] []
theorem apply_spec(o:Ord)(hm:mayO o=true):∃ sh now bk tb e s v,(∀ x∈sh,∀ a∈x,a.plain=true)/\(∀ x∈bk,∀ a∈x,a.plain=true)/\(tb=[]\/∃ p c k,tb=[[.str p,.int .i64 c,.bool k]])/\ASpec prog 162 [realm0,encO o] (.tup [realmA sh now bk tb [[.int .i64 o.a,.int .i64 o.b,.int .i64 e,.str s,.int .i64 v,.nils]],.agg [.int .i64 o.a,.int .i64 o.b,.int .i64 e,.str s,.int .i64 v,.nils],.nils]):=by
 have hk:=known_spec [rootC] 0 [] [] o hm;have hd:=does_spec
 obtain⟨k,hkk,hk11,hsl⟩:∃ k:Nat,o.kind=k/\k<=11/\o.s.length<=1000000:=by
  unfold mayO at hm;simp only[Vi,decide_eq_true_eq] at hm;exact⟨o.kind.toNat,by omega,by omega,by omega⟩
 obtain⟨sh,now,bk,tb,e,s,v,ch,hL,_,hw⟩:=work_spec o hsl k hk11;obtain⟨c,hcb0,hle,hf⟩:=fire_spec hL
 have hcb:belL 0 [tbl tb,c]=true:=by simp[belL,AV.bel,tbl,hcb0]
 have hat:=doesL_at hk11
 have hkl:(k:Int)<12:=by omega
 have hkl':k<12:=by omega
 have hdl:doesL.length=12:=rfl;have hcl:=cloneR0;have hp:=rplace0 [rootC] 0 [] [] o.a;refine⟨sh,now,bk,tb,e,s,v,hL.1,hL.2.1,?_,?_⟩
 ·rcases hL.2.2 with⟨h,_⟩|⟨h,_⟩
  ·exact .inl h
  ·exact .inr h
 have hchb:ch.bel 0=true:=by
  rcases hL.2.2 with⟨_,rfl|⟨p,rfl⟩⟩|⟨_,rfl⟩<;>rfl
 have hyb:LentB (wkB sh now bk tb o e s v .nils ch):=.inl ⟨_,rfl,by simp[belL,AV.bel,hchb]⟩;obtain⟨oa,ob,okind,os,ot,ox,oy,oz⟩:=o;dsimp only at hkk hsl hp ⊢;subst hkk;refine Sh func162 (by kernel_rfl) rfl fun c0 hc0=>?_;simp only[go_sem,realm0,realmA,encO];(and_intros<;>try first|rfl|omega);refine Ops.pure .free rfl rfl (hk) Vl rfl rfl ?_;refine Og func162 ?_;simp only[go_sem,repA,xtab_345];(and_intros<;>try first|rfl|omega);refine DOps.pure rfl .free rfl rfl (hd) (by exact Vl) rfl rfl ?_;refine Dg func162 rfl ?_;simp only[go_sem,hat,hdl,doesR,xtab_346,xtab_347];(and_intros<;>try first|rfl|omega);refine DOps.callB rfl .free rfl rfl (js:=[5]) (by decide) (LentAll.cons rfl (.inl ⟨_,rfl,rfl⟩) LentAll.nil) (lent1' hyb) rfl rfl Vl (hw) rfl ?_;refine Dg func162 rfl ?_;simp only[go_sem,wkB,pB,xtab_343,xtab_345];(and_intros<;>try first|rfl|omega);refine DOps.pure rfl .free rfl rfl hf (by simp only[go_sem];exact hle) hcb rfl ?_;refine Dg func162 rfl ?_;simp only[go_sem,tbl];(and_intros<;>try first|rfl|omega);refine DOps.own rfl .free rfl rfl cloneR0 (by exact Vl) rfl rfl ?_;refine Dg func162 rfl ?_;simp only[go_sem,xtab_345];(and_intros<;>try first|rfl|omega);refine Ops.pure .free rfl rfl (hp) (by exact Vl) rfl rfl ?_;refine Og func162 ?_;simp only[go_sem,xtab_345];(and_intros<;>try first|rfl|omega);refine Dg func162 rfl ?_;simp only[go_sem];(and_intros<;>try first|rfl|omega);refine DOps.lent rfl .free rfl rfl ⟨_,func209,by kernel_rfl,rfl⟩ (i:=10) rfl (.inr ⟨6,rfl⟩) (insertR1 oa ob e v s) rfl ?_ ?_
 ·(repeat'(first|exact OneL.nil|apply OneL.cons|exact OneA.msu _ _|exact OneA.own _ _|exact OneA.le (.refl _) rfl|exact OneA.le (.one (.tok _ _ _)) rfl))
 ·refine Dg func162 rfl ?_;simp only[go_sem,xtab_345];(and_intros<;>try first|rfl|omega)
  try simp only[realmA]
  (repeat' first|exact .refl _|apply LeR.tup|constructor)
def repC(o:Ord)(e:Int)(s:List UInt8)(v:Int):List AV:=[.int .i64 o.a,.int .i64 o.b,.int .i64 e,.str s,.int .i64 v,.nils]
def batA(o:Ord):AV:=.sl 8 [[.int .i64 o.a,.int .i64 o.b,.int .i64 o.kind,.str o.s,.str o.t,.int .i64 o.x,.int .i64 o.y,.int .i64 o.z]] .no
theorem fold_spec(o:Ord)(hm:mayO o=true):∃ sh now bk tb e s v,(∀ x∈sh,∀ a∈x,a.plain=true)/\(∀ x∈bk,∀ a∈x,a.plain=true)/\(tb=[]\/∃ p c k,tb=[[.str p,.int .i64 c,.bool k]])/\ASpec prog 91 [realm0,batA o] (.tup [realmA sh now bk tb [repC o e s v],.sl 6 [repC o e s v] .no,.sl 5 [] .no]):=by
 obtain⟨sh,now,bk,tb,e,s,v,h1,h2,h3,h⟩:=apply_spec o hm;refine⟨sh,now,bk,tb,e,s,v,h1,h2,h3,?_⟩
 have hlt:(0:Int)<1:=by omega
 have hlt2:¬(1:Int)<1:=by omega
 have z01:(0:Int)+1=1:=rfl;refine Sh func91 (by kernel_rfl) rfl fun c0 hc0=>?_;simp only[go_sem,realm0,realmA,batA,Int.natCast_one];(and_intros<;>try omega);refine Run.unloop ?_;refine Rg func91 ?_;simp only[go_sem,hlt];(and_intros<;>try omega);refine Ops.pure .free rfl rfl (h) Vl rfl rfl ?_;refine Og func91 ?_;simp only[go_sem,realmA,z01,xtab_210,xtab_391];(and_intros<;>try first|rfl|omega);refine Run.again ?_;refine Rg func91 ?_;simp only[go_sem,hlt2];(and_intros<;>try first|rfl|omega)
 try simp only[repC]
 (repeat' first|exact .refl _|apply LeR.tup|constructor)
def bt1(o:Ord):Bytes:=encN 1++putO o
theorem encode_spec(o:Ord)(hm:mayO o=true)(hs:smO o):ASpec prog 233 [batA o] (.tup [.str (bt1 o),.int .i64 0]):=by
 have hp:=(oput_spec [] 1 (by simp) (by omega)).asp;rw[List.nil_append] at hp
 have hl1:(encN 1).length<=100000:=by decide
 have hq:=put12_spec (encN 1) o hl1 hs;have hy:=may_spec o;rw[hm] at hy;unfold bt1;generalize encN 1=e1 at hp hq ⊢;generalize putO o=po at hq ⊢
 have hlt:(0:Int)<1:=by omega
 have hlt2:¬(1:Int)<1:=by omega
 have z01:(0:Int)+1=1:=rfl
 have hw1:IntKind.u64.wrap 1=1:=by decide
 refine Sh func233 (by kernel_rfl) rfl fun c0 hc0=>?_;simp only[go_sem,batA,Int.natCast_one,hw1];(and_intros<;>try omega);refine Ops.pure .free rfl rfl (hp) (by simp only[go_sem,bA];(repeat' first|exact .refl _|apply LeR.tup|constructor)) rfl rfl ?_;refine Og func233 ?_;simp only[go_sem,Int.natCast_one];(and_intros<;>try omega);refine Run.unloop ?_;refine Rg func233 ?_;simp only[go_sem,hlt];(and_intros<;>try omega);refine Ops.pure .free rfl rfl (hy) Vl rfl rfl ?_;refine Og func233 ?_;simp only[go_sem];(and_intros<;>try omega);refine Ops.pure .free rfl rfl (hq) Vl rfl rfl ?_;refine Og func233 ?_;simp only[go_sem,z01];(and_intros<;>try omega);refine Run.again ?_;refine Rg func233 ?_;simp only[go_sem,hlt2,bA];(and_intros<;>try omega);exact Vr
theorem decode_spec(o:Ord)(hm:mayO o=true)(hs:smO o):ASpec prog 90 [.str (bt1 o)] (.tup [batA o,.int .i64 0]):=by
 have hl1:(encN 1).length<=9:=by decide
 have ht:=take_spec (bt1 o);rw[bt1,takeN_enc 1 (by omega) (putO o)] at ht;rw[show takeA (.ok (1,putO o))=.tup [.int .u64 1,bA (putO o),.int .i64 0] from rfl] at ht
 have hpl:(putO o).length<=1000000:=by
  obtain⟨h1,h2,h3,h4,h5,h6,h7,h8⟩:=hs;have hl:=encZs_le [o.a,o.b,o.kind,o.x,o.y,o.z] (by simp;exact⟨h1,h2,h3,h4,h5,h6⟩);simp only[Ya,Y9,Nat.reduceAdd,Nat.reduceMul] at hl;have e1:=encT_le o.s (by omega);have e2:=encT_le o.t (by omega);rw[putO,List.length_append,List.length_append];omega
 have hk:=take12_spec (putO o) hpl;have he:=takeO_enc o hm hs [];rw[List.append_nil] at he;rw[he] at hk;rw[show takeOA (.ok (o,[]))=.tup [encO o,bA [],.int .i64 0] from rfl] at hk;unfold bt1
 have hbl:(encN 1++putO o).length<=2000000:=by rw[List.length_append];omega
 generalize encN 1++putO o=B at ht hbl ⊢;generalize putO o=po at ht hk
 have hlt:(0:Int)<1:=by omega
 have hlt2:¬(1:Int)<1:=by omega
 have z01:(0:Int)+1=1:=rfl
 have h10:¬(10:Int)<1:=by omega
 have h00:¬(0:Int)<0:=by omega
 refine Sh func90 (by kernel_rfl) rfl fun c0 hc0=>?_;simp only[go_sem,reduceCtorEq];(and_intros<;>try omega);refine Ops.pure .free rfl rfl (ht) Vl rfl rfl ?_;refine Og func90 ?_;simp only[go_sem,Int.natCast_one,h10];(and_intros<;>try omega);refine Run.unloop ?_;refine Rg func90 ?_;simp only[go_sem,hlt];(and_intros<;>try omega);refine Ops.pure .free rfl rfl (hk) Vl rfl rfl ?_;refine Og func90 ?_;simp only[go_sem,encO,z01];(and_intros<;>try omega);refine Run.weak (Weak.freezeM 7 0 8 0 1 1 _ rfl rfl (by decide) (by simp) (by simp[AV.plain])) ?_;simp only[Y6,Y7,Yi,Yg,Yk];refine Run.again ?_;refine Rg func90 ?_;simp only[go_sem,hlt2,h00,bA];(and_intros<;>try omega)
 try simp only[batA]
 exact Vr
theorem bapply_spec(o:Ord)(hm:mayO o=true)(hs:smO o):∃ sh now bk tb e s v,(∀ x∈sh,∀ a∈x,a.plain=true)/\(∀ x∈bk,∀ a∈x,a.plain=true)/\(tb=[]\/∃ p c k,tb=[[.str p,.int .i64 c,.bool k]])/\ASpec prog 42 [realm0,.str (bt1 o)] (.tup [realmA sh now bk tb [repC o e s v],.sl 6 [repC o e s v] .no,.int .i64 0]):=by
 obtain⟨sh,now,bk,tb,e,s,v,h1,h2,h3,h⟩:=fold_spec o hm;have hd:=decode_spec o hm hs;refine⟨sh,now,bk,tb,e,s,v,h1,h2,h3,?_⟩;refine Sh func42 (by kernel_rfl) rfl fun c0 hc0=>?_;simp only[go_sem,realm0,realmA];(and_intros<;>try omega);refine Ops.pure .free rfl rfl (hd) Vl rfl rfl ?_;refine Og func42 ?_;simp only[go_sem,batA];(and_intros<;>try omega);refine Ops.pure .free rfl rfl (h) Vl rfl rfl ?_;refine Og func42 ?_;simp only[go_sem,realmA,repC];(and_intros<;>try omega)
 try simp only[realmA,repC]
 exact Vr
theorem indexO0:ASpec prog 200 [.sl 8 [] .no,.junk] (.int .i64 (-1)):=by
 have h3:¬(0:Int)<0:=by omega
 refine Sh func200 (by kernel_rfl) rfl fun c0 hc0=>?_;simp only[go_sem,Int.reduceNeg];(and_intros<;>try omega);refine Run.unloop ?_;refine Rg func200 ?_;simp only[go_sem,h3,Int.reduceNeg];(and_intros<;>try omega);exact Vr
theorem containsO0:ASpec prog 152 [.sl 8 [] .no,.junk] (.bool false):=by
 have h:=indexO0;refine Sh func152 (by kernel_rfl) rfl fun c0 hc0=>?_;simp only[go_sem];refine Ops.pure .free rfl rfl h (by simp only[go_sem];exact .cons (.refl _) (.cons (.junk _) .nil)) rfl rfl ?_;refine Og func152 ?_;simp only[go_sem,Int.reduceNeg];(and_intros<;>try omega);exact Vr
theorem waiting_spec(o:Ord)(hm:mayO o=true):ASpec prog 232 [realm0,batA o] (batA o):=by
 have hl:=last0 [rootC] 0 [] [] o.a;have hc:=containsO0;have hy:=may_spec o;rw[hm] at hy
 have hlt:(0:Int)<1:=by omega
 have hlt2:¬(1:Int)<1:=by omega
 have z01:(0:Int)+1=1:=rfl
 have h10:(0:Int)<10:=by omega
 refine Sh func232 (by kernel_rfl) rfl fun c0 hc0=>?_;simp only[go_sem,realm0,realmA,batA,Int.natCast_one];(and_intros<;>try omega);refine Run.unloop ?_;refine Rg func232 ?_;simp only[go_sem,hlt];(and_intros<;>try omega);refine Ops.pure .free rfl rfl (hl) Vl rfl rfl ?_;refine Og func232 ?_;simp only[go_sem,rep0];(and_intros<;>try omega);refine Ops.pure .free rfl rfl hc (by simp only[go_sem];exact .cons (.one (.nil _)) (.cons (.junk _) .nil)) rfl rfl ?_;refine Og func232 ?_;simp only[go_sem];(and_intros<;>try omega);refine Ops.pure (Wanted.test 2 true true rfl) rfl rfl (hy) Vl rfl rfl ?_;refine Og func232 ?_;simp only[go_sem,h10,z01];(and_intros<;>try first|rfl|omega);refine Run.again ?_;refine Rg func232 ?_;simp only[go_sem,hlt2];(and_intros<;>try first|rfl|omega);(repeat' first|exact .refl _|apply LeR.tup|constructor)
def sortedA(l:List Acc):Prop:=l.Pairwise fun x y=>x.by_<y.by_
theorem placeA_of{l:List Acc}{id:Int}{i:Nat}(hi:i<=l.length)(h1:∀ (j:Nat) x,j<i->l[j]? = some x->x.by_<id)(h2:∀ (j:Nat) x,i<=j->l[j]? = some x->¬x.by_<id):i=placeA l id:=by
 induction l generalizing i with
 |nil=>simp[placeA] at hi ⊢;omega
 |cons y l ih=>
  unfold placeA;rw[List.takeWhile_cons]
  by_cases hy:y.by_<id
  ·rw[decide_eq_true hy]
   cases i with
   |zero=>exact absurd hy (h2 0 y (Nat.le_refl _) rfl)
   |succ i=>
    have:=ih (i:=i) (by simpa using hi) (fun j x hj hx=>h1 (j+1) x (by omega) (by simpa using hx)) (fun j x hj hx=>h2 (j+1) x (by omega) (by simpa using hx));simp only[Ys,Ya];rw[this];rfl
  ·rw[decide_eq_false hy]
   cases i with
   |zero=>simp
   |succ i=>exact absurd (h1 0 y (by omega) rfl) hy
theorem placeA_le(l:List Acc)(id:Int):placeA l id<=l.length:=(List.takeWhile_sublist _).length_le
theorem placeA_lt{l:List Acc}{id:Int}{j:Nat}{x:Acc}(hj:j<placeA l id)(hx:l[j]? = some x):x.by_<id:=by
 induction l generalizing j with
 |nil=>simp at hx
 |cons y l ih=>
  unfold placeA at hj;rw[List.takeWhile_cons] at hj
  by_cases hy:y.by_<id
  ·rw[decide_eq_true hy] at hj;simp only[Ys,Ya] at hj
   cases j with
   |zero=>simp at hx;subst hx;exact hy
   |succ j=>exact ih (j:=j) (by unfold placeA;omega) (by simpa using hx)
  ·rw[decide_eq_false hy] at hj;simp at hj
theorem placeA_ge{l:List Acc}(hs:sortedA l){id:Int}{j:Nat}{x:Acc}(hj:placeA l id<=j)(hx:l[j]? = some x):¬x.by_<id:=by
 induction l generalizing j with
 |nil=>simp at hx
 |cons y l ih=>
  have hs':=List.pairwise_cons.1 hs;unfold placeA at hj;rw[List.takeWhile_cons] at hj
  by_cases hy:y.by_<id
  ·rw[decide_eq_true hy] at hj;simp only[Ys,Ya] at hj
   cases j with
   |zero=>omega
   |succ j=>exact ih hs'.2 (j:=j) (by unfold placeA;omega) (by simpa using hx)
  ·cases j with
   |zero=>simp at hx;subst hx;exact hy
   |succ j=>
    have:=hs'.1 x (Vd (by simpa using hx));omega
theorem has_at{l:List Acc}(hs:sortedA l){id:Int}:hasBy l id=true↔∃ x,l[placeA l id]? = some x/\x.by_=id:=by
 constructor
 ·intro h;simp only[hasBy,List.any_eq_true,decide_eq_true_eq] at h;obtain⟨x,hx,rfl⟩:=h;obtain⟨j,hj⟩:=List.getElem?_of_mem hx
  have h1:¬j<placeA l x.by_:=fun h=>by have:=placeA_lt h hj;omega
  have h2:¬placeA l x.by_<j:=fun h=>by
   obtain⟨y,hy⟩:∃ y,l[placeA l x.by_]? = some y:=⟨_,Vb (by have:=(Va hj).1;omega)⟩
   have g1:=placeA_ge hs (Nat.le_refl _) hy;unfold sortedA at hs;rw[List.pairwise_iff_getElem] at hs;obtain⟨q1,rfl⟩:=Va hj;obtain⟨q2,rfl⟩:=Va hy;have:=hs _ _ q2 q1 h;omega
  have:j=placeA l x.by_:=by omega
  exact⟨x,this▸hj,rfl⟩
 ·rintro⟨x,hx,rfl⟩;simp only[hasBy,List.any_eq_true,decide_eq_true_eq];exact⟨x,Vd hx,rfl⟩
theorem nan_spec(n:Int):ASpec prog 169 [.int .i64 n] (.bool false):=by
 refine Sh func169 (by kernel_rfl) rfl fun c0 hc0=>?_;simp only[go_sem];exact Vr
def cmpI(a b:Int):Int:=if a<b then -1 else if b<a then 1 else 0
theorem cmp_spec(a b:Int):ASpec prog 101 [.int .i64 a,.int .i64 b] (.int .i64 (cmpI a b)):=by
 have h1:=nan_spec a;have h2:=nan_spec b;unfold cmpI
 by_cases g1:a<b
 ·rw[if_pos g1];refine Sh func101 (by kernel_rfl) rfl fun c0 hc0=>?_;simp only[go_sem,Int.reduceNeg];refine Ops.pure .free rfl rfl (h1) Vl rfl rfl ?_
  refine Og func101 ?_;try simp only[go_sem,Int.reduceNeg]
  refine Ops.pure .free rfl rfl (h2) Vl rfl rfl ?_;refine Og func101 ?_;simp only[go_sem,g1,Int.reduceNeg];exact Vr
 ·rw[if_neg g1]
  by_cases g2:b<a
  ·rw[if_pos g2];refine Sh func101 (by kernel_rfl) rfl fun c0 hc0=>?_;simp only[go_sem,Int.reduceNeg];refine Ops.pure .free rfl rfl (h1) Vl rfl rfl ?_
   refine Og func101 ?_;try simp only[go_sem,Int.reduceNeg]
   refine Ops.pure .free rfl rfl (h2) Vl rfl rfl ?_;refine Og func101 ?_;simp only[go_sem,g1,g2];exact Vr
  ·rw[if_neg g2];refine Sh func101 (by kernel_rfl) rfl fun c0 hc0=>?_;simp only[go_sem,Int.reduceNeg];refine Ops.pure .free rfl rfl (h1) Vl rfl rfl ?_
   refine Og func101 ?_;try simp only[go_sem,Int.reduceNeg]
   refine Ops.pure .free rfl rfl (h2) Vl rfl rfl ?_;refine Og func101 ?_;simp only[go_sem,g1,g2];exact Vr
theorem placeB_spec(x:Acc)(id:Int):ASpec prog 100 [eA x,.int .i64 id] (.int .i64 (cmpI x.by_ id)):=by
 have h:=cmp_spec x.by_ id;refine Sh func100 (by kernel_rfl) rfl fun c0 hc0=>?_;simp only[go_sem,eA,aC];refine Ops.pure .free rfl rfl (h) Vl rfl rfl ?_;refine Og func100 ?_;simp only[go_sem];exact Vr
theorem wrapU(n:Nat)(h:n<18446744073709551616):IntKind.u64.wrap (n:Int)=n:=by
 have e:(2:Int)^IntKind.u64.bits=18446744073709551616:=by decide
 simp only[IntKind.wrap,e,show IntKind.u64.signed=false from rfl,Bool.false_and,Y8,Yr];omega
theorem sorted_le{l:List Acc}(hs:sortedA l){i j:Nat}{x y:Acc}(hi:l[i]? = some x)(hj:l[j]? = some y)(h:i<=j):x.by_<=y.by_:=by
 rcases Nat.lt_or_ge i j with hlt|hge
 ·unfold sortedA at hs;rw[List.pairwise_iff_getElem] at hs;obtain⟨q1,rfl⟩:=Va hi;obtain⟨q2,rfl⟩:=Va hj;exact Int.le_of_lt (hs _ _ q1 q2 hlt)
 ·obtain rfl:i=j:=by omega
  rw[hi] at hj;cases hj;exact Int.le_refl _
theorem cmpI_lt{a b:Int}:cmpI a b<0↔a<b:=by unfold cmpI;split;omega;split<;>omega
theorem cmpI_eq{a b:Int}:cmpI a b=0↔a=b:=by unfold cmpI;split;omega;split<;>omega
theorem searchA_spec(l:List Acc)(id:Int)(hs:sortedA l)(hl:l.length<=1000000):ASpec prog 99 [vA l,.int .i64 id,.fn (.func 100) [] []] (.tup [.int .i64 (placeA l id),.bool (hasBy l id)]):=by
 refine Sh func99 (by kernel_rfl) rfl fun c0 hc0=>?_;simp only[go_sem,vA];refine Run.loopV (α:=Nat×Nat) (fun q=>q.1<=q.2/\q.2<=l.length/\(∀ (j:Nat) x,j<q.1->l[j]? = some x->x.by_<id)/\∀ (j:Nat) x,q.2<=j->l[j]? = some x->¬x.by_<id) (fun q=>[(9,.int .i64 q.1),(10,.int .i64 q.2)]) 0 (fun _=>[]) (fun q=>q.2-q.1) (0,l.length) ⟨Nat.zero_le _,Nat.le_refl _,fun j x h=>absurd h (Nat.not_lt_zero j),fun j x h hx=>absurd (Va hx).1 (Nat.not_lt.2 h)⟩ ?_ ?_
 ·simp only[go_sem,writes,junks,puts,hputs,List.filterMap_cons,List.filterMap_nil];(refine Weak.of (by simp[hc0]) ?_ ?_<;>repeat' first|exact .refl _|exact .junk _|rfl|apply Le.agg|constructor)
 ·rintro⟨i,m⟩ ⟨h1,h2,h3,h4⟩ ih;simp only[writes,junks,puts,hputs,List.filterMap_cons,List.filterMap_nil,Y6,Y7,Yk,Y5,Y3,Yd] at h1 h2 h3 h4 ih ⊢
  by_cases hk:i<m
  case neg=>
   have hkk:¬(i:Int)<m:=by omega
   obtain rfl:i=m:=by omega
   obtain rfl:=placeA_of h2 h3 h4
   by_cases hil:placeA l id<l.length
   ·obtain⟨x,hx⟩:∃ x,l[placeA l id]? = some x:=⟨_,Vb hil⟩
    have hil2:(placeA l id:Int)<l.length:=by omega
    have hc:=placeB_spec x id
    have hh:hasBy l id=decide (cmpI x.by_ id=0):=by
     rw[Bool.eq_iff_iff,has_at hs,decide_eq_true_eq,cmpI_eq]
     constructor
     ·rintro⟨y,hy,e⟩;rw[hx] at hy;cases hy;exact e
     ·exact fun e=>⟨x,hx,e⟩
    rw[hh];refine Rg func99 ?_;simp only[go_sem,hkk,hil2,hx,Vg,aC];(and_intros<;>try omega);refine Ops.pure (Wanted.test 4 true true rfl) rfl rfl (hc) Vl rfl rfl ?_;refine Og func99 ?_;simp only[go_sem];exact Vr
   ·have hil2:¬(placeA l id:Int)<l.length:=by omega
    have hh:hasBy l id=false:=by
     rw[<- Bool.not_eq_true,has_at hs];rintro⟨y,hy,_⟩;exact hil (Va hy).1
    rw[hh];refine Rg func99 ?_;simp only[go_sem,hkk,hil2];exact Vr
  case pos=>
   have hkk:(i:Int)<m:=by omega
   obtain⟨h,hh⟩:∃ h,h=(i+m) / 2:=⟨_,rfl⟩
   obtain⟨x,hx⟩:∃ x,l[h]? = some x:=⟨_,Vb (by omega)⟩
   have hc:=placeB_spec x id
   have hlt:(h:Int)<l.length:=by omega
   have hmid:IntKind.i64.wrap ((IntKind.u64.wrap ((i:Int)+m)).fdiv (2^min 1 64))=(h:Int):=by
    have e1:IntKind.u64.wrap ((i:Int)+m)=((i+m:Nat):Int):=by rw[<- Int.natCast_add];exact wrapU (i+m) (by omega)
    have e2:(2:Int)^min 1 64=2:=by decide
    have e3:((i+m:Nat):Int).fdiv 2=h:=by rw[Int.fdiv_eq_ediv_of_nonneg _ (by omega)];omega
    rw[e1,e2,e3];exact IntWalk.i64_in _ ⟨by omega,by omega⟩
   refine Rg func99 ?_;simp only[go_sem,hkk,hmid,hlt,hx,Vg,aC,Int.reduceToNat,↓aT,Int.reduceLE,Nat.reduceAdd,Nat.reduceLT];(and_intros<;>try omega);refine Ops.pure .free rfl rfl (hc) (by exact Vl) rfl rfl ?_
   by_cases hcm:x.by_<id
   ·refine Og func99 ?_;simp only[go_sem,cmpI_lt,hcm];(and_intros<;>try omega);refine ih (h+1,m) _ ⟨by dsimp only;omega,h2,fun j y hj hy=>?_,h4⟩ (by dsimp only;omega) ?_
    ·have:=sorted_le hs hy hx (by dsimp only at hj;omega);omega
    ·simp only[Int.natCast_add,Int.natCast_one];(refine Weak.of (by simp[hc0]) ?_ ?_<;>repeat' first|exact .refl _|exact .junk _|rfl|apply Le.agg|constructor)
   ·refine Og func99 ?_;simp only[go_sem,cmpI_lt,hcm];(and_intros<;>try omega);refine ih (i,h) _ ⟨by dsimp only;omega,by dsimp only;omega,h3,fun j y hj hy=>?_⟩ (by dsimp only;omega) ?_
    ·have:=sorted_le hs hx hy (by dsimp only at hj;omega);omega
    ·simp only[];(refine Weak.of (by simp[hc0]) ?_ ?_<;>repeat' first|exact .refl _|exact .junk _|rfl|apply Le.agg|constructor)
theorem accC_cell{l:List Acc}:∀ x∈l.map aC,∀ a∈x,a.cell=true:=by
 intro x hx a ha;obtain⟨y,_,rfl⟩:=List.mem_map.1 hx;simp only[aC,List.mem_cons,List.not_mem_nil,or_false] at ha
 rcases ha with rfl|rfl|rfl<;>rfl
theorem accC_plain{l:List Acc}:∀ x∈l.map aC,∀ a∈x,a.plain=true:=by
 intro x hx a ha;obtain⟨y,_,rfl⟩:=List.mem_map.1 hx;simp only[aC,List.mem_cons,List.not_mem_nil,or_false] at ha
 rcases ha with rfl|rfl|rfl<;>rfl
theorem bel_acc:∀ l:List Acc,belLL 0 (l.map aC)=true
 |[]=>rfl
 |x::l=>by simp only[Yf,belLL,belL,aC,AV.bel,bel_acc l,Bool.and_self]
theorem cloneA_spec(l:List Acc)(hne:l≠[])(hl:l.length<=1000):MSpec prog 102 [vA l] 3 (l.map aC):=
 clone_api_Accept (l.map aC) (by simpa using hne) (by simpa using hl) accC_cell
theorem cloneA_nil:OSpec prog 102 [vA []] 3 []:=by
 refine OSpec.nil ⟨_,func102,by kernel_rfl,rfl⟩ ?_;refine Sg func102 rfl fun c1 hc1=>?_;simp only[go_sem,vA];refine Ops.eqnil .free rfl underlying44 rfl rfl fun b=>?_
 cases b with
 |true=>
  refine Og func102 ?_;simp only[go_sem,reduceCtorEq]
  first|exact .inl rfl|exact .inl trivial|simp
 |false=>
  refine Og func102 ?_;simp only[go_sem,reduceCtorEq];(and_intros<;>try omega)
  all_goals first|(simp;done)|exact .inr ⟨_,_,_,rfl⟩
theorem insertA_spec(l:List Acc)(x:Acc)(i:Nat)(hi:i<=l.length)(hl:l.length<=1000000):ACall prog 103 [.msu 0 3 l.length,.int .i64 i,.sl 3 [aC x] .no] [.rows 3 (l.map aC)] fun r _=>LeR r (.sl 3 ((l.take i++x::l.drop i).map aC) .no):=by
 have:=insert_acc (l.map aC) (aC x) accC_plain (fun a ha=>accC_plain (l:=[x]) (aC x) (by simp) a ha) i (by simpa using hi) (by simpa using hl)
 simpa using this
theorem insertA_nil(x:Acc):ACall prog 103 [.sl 3 [] (.own 0),.int .i64 0,.sl 3 [aC x] .no] [.tok 3 0] fun r _=>LeR r (.sl 3 [aC x] .no):=by
 have h1:¬(1:Int)=0:=by omega
 refine Sg func103 rfl fun c1 hc1=>?_;simp only[go_sem,h1,aC,Int.natCast_one];(and_intros<;>try first|rfl|omega);(repeat' first|exact .refl _|apply LeR.tup|constructor)
def addB(l:List Acc)(w:Acc):Bool:=mayA w&&!hasBy l w.by_
theorem rightT_sorted{l:List Acc}(h:rightT l=true):sortedA l:=((rightT_iff l).1 h).2
theorem add_spec(l:List Acc)(w:Acc)(hl:l.length<=1000)(ht:rightT l=true)(hv:∀ x∈l,x.view=w.view):ASpec prog 49 [.agg [vA l],eA w] (.tup [.agg [vA (addF l w)],.bool (addB l w)]):=by
 have hs:=rightT_sorted ht;have hm:=may18_spec w;have hp:=searchA_spec l w.by_ hs (by omega);unfold addF addB
 cases hmw:mayA w with
 |false=>
  rw[hmw] at hm;simp only[Bool.false_and,Y8,Yr];refine Sh func49 (by kernel_rfl) rfl fun c0 hc0=>?_;simp only[go_sem,vA,eA,aC];refine Ops.pure .free rfl rfl (hm) Vl rfl rfl ?_;refine Og func49 ?_;simp only[go_sem];(and_intros<;>try omega);exact Vr
 |true=>
  rw[hmw] at hm
  cases hL:hasBy l w.by_ with
  |true=>
   rw[hL] at hp;obtain⟨x,hx,hxi⟩:=(has_at hs).1 hL;have hi:placeA l w.by_<l.length:=(Va hx).1
   have hi2:(placeA l w.by_:Int)<l.length:=by omega
   have hxv:w.view<=x.view:=by rw[hv x (Vd hx)];exact Int.le_refl _
   simp only[Bool.true_and,Bool.not_true,Y8,Yr];refine Sh func49 (by kernel_rfl) rfl fun c0 hc0=>?_;simp only[go_sem,vA,eA,aC];refine Ops.pure .free rfl rfl (hm) Vl rfl rfl ?_;refine Og func49 ?_;simp only[go_sem];refine Ops.pure .free rfl rfl (hp) Vl rfl rfl ?_;refine Og func49 ?_;simp only[go_sem,hx,hi2,hxv,aC,Vg,reduceCtorEq];(and_intros<;>try first|rfl|omega);(repeat' first|exact .refl _|apply LeR.tup|constructor)
  |false=>
   rw[hL] at hp;simp only[Bool.true_and,Bool.not_false,Ys]
   by_cases hne:l=[]
   ·subst hne
    have hone:([]:List Acc).take (placeA [] w.by_)++w::([]:List Acc).drop (placeA [] w.by_)=[w]:=by simp
    rw[hone];refine Sh func49 (by kernel_rfl) rfl fun c0 hc0=>?_;simp only[go_sem,vA,eA,aC];refine Ops.pure .free rfl rfl (hm) Vl rfl rfl ?_;refine Og func49 ?_;simp only[go_sem];refine Ops.pure .free rfl rfl (hp) Vl rfl rfl ?_;refine Og func49 ?_;simp only[go_sem];(and_intros<;>try first|rfl|omega);refine Ops.own .free rfl rfl cloneA_nil (by exact Vl) rfl ?_;refine Og func49 ?_;simp only[go_sem];(and_intros<;>try omega);refine Ops.lent .free rfl rfl ⟨_,func103,by kernel_rfl,rfl⟩ (i:=3) rfl (.inr ⟨3,rfl⟩) (insertA_nil w) rfl ?_ ?_
    ·(repeat'(first|exact OneL.nil|apply OneL.cons|exact OneA.msu _ _|exact OneA.own _ _|exact OneA.le (.refl _) rfl|exact OneA.le (.one (.tok _ _ _)) rfl))
    ·refine Og func49 ?_;simp only[go_sem];(and_intros<;>try omega);simp only[aC];exact Vr
   ·have hcl:=cloneA_spec l hne hl;have hat:=placeA_le l w.by_;refine Sh func49 (by kernel_rfl) rfl fun c0 hc0=>?_;simp only[go_sem,vA,eA,aC];refine Ops.pure .free rfl rfl (hm) Vl rfl rfl ?_;refine Og func49 ?_;simp only[go_sem];refine Ops.pure .free rfl rfl (hp) Vl rfl rfl ?_;refine Og func49 ?_;simp only[go_sem];(and_intros<;>try first|rfl|omega);refine Ops.made .free rfl rfl hcl (by exact Vl) rfl (bel_acc l) ?_;rw[List.length_map];refine Og func49 ?_;simp only[go_sem];(and_intros<;>try omega);refine Ops.lent .free rfl rfl ⟨_,func103,by kernel_rfl,rfl⟩ (i:=3) rfl (.inl ⟨3,_,rfl,bel_acc l⟩) (insertA_spec l w (placeA l w.by_) hat (by omega)) rfl ?_ ?_
    ·(repeat'(first|exact OneL.nil|apply OneL.cons|exact OneA.msu _ _|exact OneA.own _ _|exact OneA.le (.refl _) rfl|exact OneA.le (.one (.tok _ _ _)) rfl))
    ·refine Og func49 ?_;simp only[go_sem];(and_intros<;>try omega)
     try simp only[vA]
     exact Vr
theorem rises_len:∀ (l:List Int) (b n:Int),rises b l=true->(∀ x∈l,x<n)->b<n->b+l.length<n
 |[],b,n,_,_,h=>by simpa using h
 |x::l,b,n,h,h2,_=>by
  rw[rises,Vi,decide_eq_true_eq] at h;have:=rises_len l x n h.2 (fun y hy=>h2 y (List.mem_cons_of_mem _ hy)) (h2 x List.mem_cons_self);rw[List.length_cons];omega
theorem votes_few{l:List Acc}{n:Int}(h:rightT l=true)(hb:∀ a∈l,a.by_<n)(hn:0<n):(l.length:Int)<=n:=by
 unfold rightT at h;rw[Vi] at h;have:=rises_len (l.map (·.by_)) (-1) n h.2 (fun x hx=>by obtain⟨a,ha,rfl⟩:=List.mem_map.1 hx;exact hb a ha) (by omega);rw[List.length_map] at this;omega
theorem AcOk.few{a:Acp}(h:AcOk a):a.votes.length<=1000:=by
 obtain⟨z1,z2,z3,z4⟩:=sz_small h.sz
 have hn:0<a.s.n/\a.s.n<=100:=by unfold Sz.n;omega
 have:=votes_few h.vt (fun x hx=>(h.vb x hx).1) hn.1;omega
def pvv:List Acc->Bts
 |[]=>[]
 |a::_=>a.value
theorem of2_spec(p:List Acc):ASpec prog 51 [vA p] (.tup [.int .i64 (pvw p),.str (pvv p),.bool (!p.isEmpty)]):=by
 have:=of_spec p;cases p<;>exact this
def hearA(r:Acp×Option (List Acc)):AV:=match r.2 with
 |none=>.tup [eC r.1,vA [],.bool false]
 |some p=>.tup [eC r.1,vA p,.bool true]
theorem hear_spec(a:Acp)(h:AcOk a)(w:Acc):ASpec prog 18 [eC a,eA w] (hearA (hearF a w)):=by
 have hN:=zN_spec h.sz;have hP:=of2_spec a.proof;have hm:=may18_spec w
 by_cases q1:a.s.n<=w.by_
 case pos=>
  rw[show hearF a w=(a,none) by unfold hearF;rw[if_pos (.inl q1)]];unfold hearA vA;refine Sh func18 (by kernel_rfl) rfl fun c0 hc0=>?_;simp only[go_sem,eC,pC,vA,eA,aC];(and_intros<;>try first|rfl|omega);refine DOps.pure rfl .free rfl rfl (hN) (by exact Vl) rfl rfl ?_;refine Dg func18 rfl ?_;simp only[go_sem,q1];(and_intros<;>try first|rfl|omega);(repeat' first|exact .refl _|apply LeR.tup|constructor)
 case neg=>
 by_cases q2:w.view=a.view
 case neg=>
  rw[show hearF a w=(a,none) by unfold hearF;rw[if_pos (.inr q2)]];unfold hearA vA;refine Sh func18 (by kernel_rfl) rfl fun c0 hc0=>?_;simp only[go_sem,eC,pC,vA,eA,aC];(and_intros<;>try first|rfl|omega);refine DOps.pure rfl .free rfl rfl (hN) (by exact Vl) rfl rfl ?_;refine Dg func18 rfl ?_;simp only[go_sem,q1,q2];(and_intros<;>try first|rfl|omega);(repeat' first|exact .refl _|apply LeR.tup|constructor)
 case pos=>
 have hadd:=add_spec a.votes w h.few h.vt (fun x hx=>by rw[(h.vb x hx).2,q2]);have hvt:=add_right h.vt w
 have hal:(addF a.votes w).length<=1001:=by
  have:=h.few;unfold addF
  split
  ·simp;omega
  ·omega
 have hv0:∀ x∈addF a.votes w,0<=x.view:=fun x hx=>(mayA_parts (((rightT_iff _).1 hvt).1 x hx)).2.1;have hmk:=make19_spec a.s (addF a.votes w) h.sz (by omega) (best_spec (addF a.votes w) a.s.proof (by omega) hv0)
 have hF:hearF a w=match makeF a.s (addF a.votes w) with
  |none=>({ a with votes:=addF a.votes w },none)
  |some p=>if mayA w=true/\pvw a.proof<a.view then({ a with votes:=addF a.votes w,proof:=p },some p) else({ a with votes:=addF a.votes w },none):=by
  unfold hearF;rw[if_neg (by rintro(e|e);exact q1 e;exact e q2)];rfl
 rw[hF];clear hF
 obtain⟨vs,hvs⟩:∃ vs,vs=addF a.votes w:=⟨_,rfl⟩
 rw[<- hvs] at hadd hmk ⊢
 obtain⟨nw,hnw⟩:∃ n,n=pvw a.proof:=⟨_,rfl⟩
 rw[<- hnw] at hP ⊢;obtain⟨s,me,view,has,at_,value,proof,votes⟩:=a;obtain⟨wb,wv,wx⟩:=w;dsimp only at *;subst q2
 cases hmf:makeF s vs with
 |none=>
  rw[hmf] at hmk;simp only[makeA] at hmk
  cases hmw:mayA ⟨wb,wv,wx⟩ with
  |false=>
   rw[hmw] at hm;simp only[hearA];refine Sh func18 (by kernel_rfl) rfl fun c0 hc0=>?_;simp only[go_sem,eC,pC,vA,eA,aC];(and_intros<;>try first|rfl|omega);refine DOps.pure rfl .free rfl rfl (hN) (by exact Vl) rfl rfl ?_;refine Dg func18 rfl ?_;simp only[go_sem,q1];(and_intros<;>try first|rfl|omega);refine Ops.pure .free rfl rfl (hadd) (by exact Vl) rfl rfl ?_;refine Og func18 ?_;simp only[go_sem,vA];(and_intros<;>try omega);refine Ops.pure .free rfl rfl (hmk) Vl rfl rfl ?_;refine Og func18 ?_;simp only[go_sem,vA];(and_intros<;>try first|rfl|omega);refine Ops.pure .free rfl rfl (hP) Vl rfl rfl ?_;refine Og func18 ?_;simp only[go_sem];(and_intros<;>try first|rfl|omega);refine Ops.pure .free rfl rfl (hm) Vl rfl rfl ?_;refine Og func18 ?_;simp only[go_sem];(and_intros<;>try first|rfl|omega);(repeat' first|exact .refl _|apply LeR.tup|constructor)
  |true=>
   rw[hmw] at hm;simp only[hearA];refine Sh func18 (by kernel_rfl) rfl fun c0 hc0=>?_;simp only[go_sem,eC,pC,vA,eA,aC];(and_intros<;>try first|rfl|omega);refine DOps.pure rfl .free rfl rfl (hN) (by exact Vl) rfl rfl ?_;refine Dg func18 rfl ?_;simp only[go_sem,q1];(and_intros<;>try first|rfl|omega);refine Ops.pure .free rfl rfl (hadd) (by exact Vl) rfl rfl ?_;refine Og func18 ?_;simp only[go_sem,vA];(and_intros<;>try omega);refine Ops.pure .free rfl rfl (hmk) Vl rfl rfl ?_;refine Og func18 ?_;simp only[go_sem,vA];(and_intros<;>try omega);refine Ops.pure .free rfl rfl (hP) Vl rfl rfl ?_;refine Og func18 ?_;simp only[go_sem];(and_intros<;>try first|rfl|omega);refine Ops.pure .free rfl rfl (hm) Vl rfl rfl ?_;refine Og func18 ?_;simp only[go_sem];(and_intros<;>try first|rfl|omega);(repeat' first|exact .refl _|apply LeR.tup|constructor)
 |some p=>
  rw[hmf] at hmk;simp only[makeA] at hmk
  cases hmw:mayA ⟨wb,wv,wx⟩ with
  |false=>
   rw[hmw] at hm;simp only[Y8,false_and,Yr,hearA];refine Sh func18 (by kernel_rfl) rfl fun c0 hc0=>?_;simp only[go_sem,eC,pC,vA,eA,aC];(and_intros<;>try first|rfl|omega);refine DOps.pure rfl .free rfl rfl (hN) (by exact Vl) rfl rfl ?_;refine Dg func18 rfl ?_;simp only[go_sem,q1];(and_intros<;>try first|rfl|omega);refine Ops.pure .free rfl rfl (hadd) (by exact Vl) rfl rfl ?_;refine Og func18 ?_;simp only[go_sem,vA];(and_intros<;>try omega);refine Ops.pure .free rfl rfl (hmk) Vl rfl rfl ?_;refine Og func18 ?_;simp only[go_sem,vA];(and_intros<;>try omega);refine Ops.pure .free rfl rfl (hP) Vl rfl rfl ?_;refine Og func18 ?_;simp only[go_sem];(and_intros<;>try first|rfl|omega);refine Ops.pure .free rfl rfl (hm) Vl rfl rfl ?_;refine Og func18 ?_;simp only[go_sem];(and_intros<;>try first|rfl|omega);(repeat' first|exact .refl _|apply LeR.tup|constructor)
  |true=>
   rw[hmw] at hm
   by_cases q3:nw<wv
   case pos=>
    have q4:¬wv<=nw:=by omega
    simp only[Yt,q3,Ys,hearA];refine Sh func18 (by kernel_rfl) rfl fun c0 hc0=>?_;simp only[go_sem,eC,pC,vA,eA,aC];(and_intros<;>try first|rfl|omega);refine DOps.pure rfl .free rfl rfl (hN) (by exact Vl) rfl rfl ?_;refine Dg func18 rfl ?_;simp only[go_sem,q1];(and_intros<;>try first|rfl|omega);refine Ops.pure .free rfl rfl (hadd) (by exact Vl) rfl rfl ?_;refine Og func18 ?_;simp only[go_sem,vA];(and_intros<;>try omega);refine Ops.pure .free rfl rfl (hmk) Vl rfl rfl ?_;refine Og func18 ?_;simp only[go_sem,vA];(and_intros<;>try omega);refine Ops.pure .free rfl rfl (hP) Vl rfl rfl ?_;refine Og func18 ?_;simp only[go_sem];(and_intros<;>try omega);refine Ops.pure .free rfl rfl (hm) Vl rfl rfl ?_;refine Og func18 ?_;simp only[go_sem,q4];(and_intros<;>try first|rfl|omega);exact Vr
   case neg=>
    have q4:wv<=nw:=by omega
    simp only[Yt,q3,Yr,hearA];refine Sh func18 (by kernel_rfl) rfl fun c0 hc0=>?_;simp only[go_sem,eC,pC,vA,eA,aC];(and_intros<;>try first|rfl|omega);refine DOps.pure rfl .free rfl rfl (hN) (by exact Vl) rfl rfl ?_;refine Dg func18 rfl ?_;simp only[go_sem,q1];(and_intros<;>try first|rfl|omega);refine Ops.pure .free rfl rfl (hadd) (by exact Vl) rfl rfl ?_;refine Og func18 ?_;simp only[go_sem,vA];(and_intros<;>try omega);refine Ops.pure .free rfl rfl (hmk) Vl rfl rfl ?_;refine Og func18 ?_;simp only[go_sem,vA];(and_intros<;>try omega);refine Ops.pure .free rfl rfl (hP) Vl rfl rfl ?_;refine Og func18 ?_;simp only[go_sem];(and_intros<;>try first|rfl|omega);refine Ops.pure .free rfl rfl (hm) Vl rfl rfl ?_;refine Og func18 ?_;simp only[go_sem,q4];(and_intros<;>try first|rfl|omega);(repeat' first|exact .refl _|apply LeR.tup|constructor)
def lrnC(s:Sz)(l c q:List Acc)(d:Bool)(v:Bts):List AV:=[.int .i64 s.f,.int .i64 s.t,vA l,vA c,vA q,.bool d,.str v]
def lrnA(s:Sz)(l c q:List Acc)(d:Bool)(v:Bts):AV:=.agg (lrnC s l c q d v)
def bstV(l:List Acc)(n:Int):Bool×Bts:=match bestV l n with
 |none=>(false,[])
 |some c=>(true,c.2)
theorem bst_tup(l:List Acc)(n:Int):∃ z,bestVA (bestV l n)=.tup [.int .i64 z,.str (bstV l n).2,.bool (bstV l n).1]:=by
 unfold bstV
 cases bestV l n with
 |none=>exact⟨_,rfl⟩
 |some c=>exact⟨_,rfl⟩
theorem lhears_spec(s:Sz)(hs:s.right=true)(l c q:List Acc)(v:Bts)(w:Acc)(n:Int)(hl:l.length<=900)(ht:rightT l=true)(hv:∀ x∈l,x.view=w.view)(h0:0<=w.by_)(h1:w.by_<s.n)(hm:mayA w=true)(hbest:∀ a∈addF l w,0<=a.view)(hal:(addF l w).length<=1000000) :
  BSpec prog 261 [lrnA s l c q false v,.ptr 0 2,eA w,.int .i64 n] [.box (lrnC s l c q false v)] [.box (lrnC s (addF l w) c q false v)] (.tup [.bool (bstV (addF l w) n).1,.str (bstV (addF l w) n).2]):=by
 have hN:=zN_spec hs;have hy:=may18_spec w;rw[hm] at hy;have ha:=add_spec l w (by omega) ht hv;have hb:=best_spec (addF l w) n hal hbest;obtain⟨z,hz⟩:=bst_tup (addF l w) n;rw[hz] at hb;generalize bstV (addF l w) n=bb at hb ⊢;generalize addF l w=L at ha hb ⊢
 have h0':¬w.by_<0:=by omega
 have h1':¬s.n<=w.by_:=by omega
 refine⟨⟨_,func261,by kernel_rfl,rfl⟩,Sg func261 rfl fun c0 hc0=>?_⟩;simp only[go_sem,lrnA,lrnC,eA,aC,h0',↓bF,↓gU,Nat.reduceAdd,Nat.reduceLeDiff,Nat.reduceSub];(and_intros<;>try first|rfl|omega);refine DOps.pure rfl (Wanted.test 7 false false rfl) rfl rfl (hN) (by exact Vl) rfl rfl ?_;refine Dg func261 rfl ?_;simp only[go_sem,h1'];(and_intros<;>try first|rfl|omega);refine DOps.pure rfl (Wanted.test 15 false false rfl) rfl rfl (hy) Vl rfl rfl ?_;refine Dg func261 rfl ?_;simp only[go_sem];(and_intros<;>try first|rfl|omega);refine DOps.pure rfl .free rfl rfl (ha) (by exact Vl) rfl rfl ?_;refine Dg func261 rfl ?_;simp only[go_sem];(and_intros<;>try first|rfl|omega);refine Ops.pure .free rfl rfl (hb) (by exact Vl) rfl rfl ?_;refine Og func261 ?_;simp only[go_sem];(and_intros<;>try omega);(repeat' first|exact .refl _|rfl|apply LeR.tup|apply Le.agg|constructor)
end Go.Proofs.YtojhjaohaafeaaaGreatDoor
namespace Go.Proofs.YtojhjaohaafeaaaGreatDoor
def vts(us:List Int)(x:Bts):List Acc:=us.map fun u=>⟨u,0,x⟩
theorem vts_mem{us:List Int}{x:Bts}{a:Acc}(h:a∈vts us x):a.by_∈us/\a.view=0/\a.value=x:=by
 obtain⟨u,hu,rfl⟩:=List.mem_map.1 h;exact⟨hu,rfl,rfl⟩
theorem vts_may{u:Int}{x:Bts}(h0:0<=u)(hx:x.length<=6000):mayA ⟨u,0,x⟩=true:=by
 simp only[mayA,Vi,decide_eq_true_eq];omega
theorem vts_right{us:List Int}{x:Bts}(h0:∀ u∈us,0<=u)(hx:x.length<=6000)(hp:us.Pairwise (·<·)):rightT (vts us x)=true:=by
 rw[rightT_iff];refine⟨fun a ha=>?_,?_⟩
 ·obtain⟨u,hu,rfl⟩:=List.mem_map.1 ha;exact vts_may (h0 u hu) hx
 ·unfold vts;rw[List.pairwise_map];exact hp
theorem tw_all{α:Type}{p:α->Bool}:∀ {l:List α},(∀ x∈l,p x=true)->l.takeWhile p=l
 |[],_=>rfl
 |a::l,h=>by rw[List.takeWhile_cons,if_pos (h a List.mem_cons_self),tw_all fun x hx=>h x (List.mem_cons_of_mem _ hx)]
theorem vts_add{us:List Int}{u:Int}{x:Bts}(hs:∀ y∈us,y<u)(h0:0<=u)(hx:x.length<=6000):addF (vts us x) ⟨u,0,x⟩=vts (us++[u]) x:=by
 have hno:hasBy (vts us x) u=false:=by
  unfold hasBy;rw[List.any_eq_false];intro a ha;have:=hs _ (vts_mem ha).1;simp only[decide_eq_true_eq];omega
 have hpl:placeA (vts us x) u=(vts us x).length:=by
  unfold placeA;rw[tw_all];intro a ha;have:=hs _ (vts_mem ha).1
  simpa using this
 unfold addF;rw[vts_may h0 hx];simp only[hno,hpl,Bool.not_false,Bool.and_self,Ys,List.take_length,List.drop_length];simp[vts]
theorem vts_count(us:List Int)(x:Bts):(vts us x).countP (isV 0 x)=us.length:=by
 rw[List.countP_eq_length.2]
 ·simp[vts]
 ·intro a ha;obtain⟨_,h1,h2⟩:=vts_mem ha;simp[isV,h1,h2]
theorem vts_no{us:List Int}{x:Bts}{n:Int}(h:(us.length:Int)<n):bstV (vts us x) n=(false,[]):=by
 have:∀ m:List Acc,(∀ a∈m,a.view=0/\a.value=x)->m.foldl (betterV (vts us x) n) none=none:=by
  intro m
  induction m with
  |nil=>intro _;rfl
  |cons a m ih=>
   intro hm;obtain⟨e1,e2⟩:=hm a List.mem_cons_self
   rw[List.foldl_cons,show betterV (vts us x) n none a=none by
    unfold betterV;rw[e1,e2,vts_count,if_neg];simp only[Vi,decide_eq_true_eq]
    omega]
   exact ih fun b hb=>hm b (List.mem_cons_of_mem _ hb)
 unfold bstV bestV;rw[this _ fun a ha=>(vts_mem ha).2]
theorem vts_yes{us:List Int}{x:Bts}{n:Int}(h1:1<=n)(h:n<=(us.length:Int)):bstV (vts us x) n=(true,x):=by
 have h2:∀ m:List Acc,(∀ a∈m,a.view=0/\a.value=x)->m.foldl (betterV (vts us x) n) (some (0,x))=some (0,x):=by
  intro m
  induction m with
  |nil=>intro _;rfl
  |cons a m ih=>
   intro hm;obtain⟨e1,e2⟩:=hm a List.mem_cons_self
   rw[List.foldl_cons,show betterV (vts us x) n (some (0,x)) a=some (0,x) by
    unfold betterV overV;rw[e1,if_neg]
    simp]
   exact ih fun b hb=>hm b (List.mem_cons_of_mem _ hb)
 cases hv:vts us x with
 |nil=>
  have:=congrArg List.length hv;simp[vts] at this;subst this;simp at h;omega
 |cons a m=>
  have hm:∀ b∈a::m,b.view=0/\b.value=x:=fun b hb=>(vts_mem (hv▸hb)).2;obtain⟨e1,e2⟩:=hm a List.mem_cons_self;unfold bstV bestV
  rw[<- hv,show(vts us x).foldl (betterV (vts us x) n) none=some (0,x) by
   conv=>lhs;arg 3;rw[hv]
   rw[List.foldl_cons,show betterV (vts us x) n none a=some (0,x) by
    unfold betterV overV;rw[e1,e2,vts_count,if_pos]
    ·simp[cvA,e1,e2]
    ·simp only[Vi,decide_eq_true_eq]
     exact⟨⟨h1,h⟩,trivial⟩]
   exact h2 m fun b hb=>hm b (List.mem_cons_of_mem _ hb)]
open Go.RowKit
def lrnS(s:Sz)(l c q:List Acc)(v:Bts)(b:Bool×Bts):AV:=if b.1 then lrnA s l c q true b.2 else lrnA s l c q false v
theorem accepted_spec(s:Sz)(hs:s.right=true)(hk:sizeOk s.f s.t=true)(l c q:List Acc)(v:Bts)(w:Acc)(hl:l.length<=900)(ht:rightT l=true)(hv:∀ x∈l,x.view=w.view)(h0:0<=w.by_)(h1:w.by_<s.n)(hm:mayA w=true)(hbest:∀ a∈addF l w,0<=a.view)(hal:(addF l w).length<=1000000) :
  ASpec prog 215 [lrnA s l c q false v,eA w] (lrnS s (addF l w) c q v (bstV (addF l w) (3*s.f+s.t+1))):=by
 have hF:=ks_Fast hk;have hh:=lhears_spec s hs l c q v w (3*s.f+s.t+1) hl ht hv h0 h1 hm hbest hal;generalize 3*s.f+s.t+1=n at hF hh ⊢;generalize bstV (addF l w) n=bb at hh ⊢;generalize addF l w=L at hh ⊢;obtain⟨b,x⟩:=bb;unfold lrnS
 cases b with
 |true=>
  rw[if_pos rfl];refine Sh func215 (by kernel_rfl) rfl fun c0 hc0=>?_;simp only[go_sem,lrnA,lrnC,eA,aC];(and_intros<;>try first|rfl|omega);refine DOps.pure rfl .free rfl rfl (hF) (by exact Vl) rfl rfl ?_;refine Dg func215 rfl ?_;simp only[go_sem];(and_intros<;>try omega);refine DOps.callB rfl .free rfl rfl (js:=[0]) (by decide) (LentAll.cons rfl (.inl ⟨_,rfl,rfl⟩) LentAll.nil) (lent1' (.inl ⟨_,rfl,rfl⟩)) rfl rfl Vl (hh) rfl ?_;refine Dg func215 rfl ?_;simp only[go_sem,pB,lrnC];(and_intros<;>try first|rfl|omega)
  try simp only[lrnA,lrnC]
  exact Vr
 |false=>
  rw[if_neg (by simp)];refine Sh func215 (by kernel_rfl) rfl fun c0 hc0=>?_;simp only[go_sem,lrnA,lrnC,eA,aC];(and_intros<;>try first|rfl|omega);refine DOps.pure rfl .free rfl rfl (hF) (by exact Vl) rfl rfl ?_;refine Dg func215 rfl ?_;simp only[go_sem];(and_intros<;>try first|rfl|omega);refine DOps.callB rfl .free rfl rfl (js:=[0]) (by decide) (LentAll.cons rfl (.inl ⟨_,rfl,rfl⟩) LentAll.nil) (lent1' (.inl ⟨_,rfl,rfl⟩)) rfl rfl Vl (hh) rfl ?_;refine Dg func215 rfl ?_;simp only[go_sem,pB,lrnC];(and_intros<;>try first|rfl|omega)
  try simp only[lrnA,lrnC]
  (repeat' first|exact .refl _|apply LeR.tup|apply Le.agg|constructor)
theorem lnew_spec(s:Sz)(hs:s.right=true):ASpec prog 159 [eS s] (.tup [lrnA s [] [] [] false [],.int .i64 0]):=by
 have hr:=right_spec s;rw[hs] at hr;refine Sh func159 (by kernel_rfl) rfl fun c0 hc0=>?_;simp only[go_sem,eS];(and_intros<;>try first|rfl|omega);refine Ops.pure .free rfl rfl (hr) Vl rfl rfl ?_;refine Og func159 ?_;simp only[go_sem];(and_intros<;>try first|rfl|omega)
 try simp only[lrnA,lrnC]
 (repeat' first|exact .refl _|apply LeR.tup|apply Le.agg|constructor)
def nodC(a:Acp)(s:Sz)(l c q:List Acc)(d:Bool)(v:Bts)(p:Int):List AV:=pC a++lrnC s l c q d v++[.nils,.int .i64 p]
def nodA(a:Acp)(s:Sz)(l c q:List Acc)(d:Bool)(v:Bts)(p:Int):AV:=.agg (nodC a s l c q d v p)
theorem begin_spec(s:Sz)(hs:s.right=true)(me:Int)(a:Acp)(ha:newF s me=some a):ASpec prog 128 [eS s,.int .i64 me] (.tup [nodA a s [] [] [] false [] (-1),.int .i64 0]):=by
 have hn:=anew_spec s me;rw[newA,ha] at hn;have hl:=lnew_spec s hs;dsimp only at hn;refine Sh func128 (by kernel_rfl) rfl fun c0 hc0=>?_;simp only[go_sem,eS,Int.reduceNeg];(and_intros<;>try omega);refine Ops.pure .free rfl rfl (hn) Vl rfl rfl ?_;refine Og func128 ?_;simp only[go_sem,eC,pC,Int.reduceNeg];(and_intros<;>try omega);refine Ops.pure .free rfl rfl (hl) Vl rfl rfl ?_;refine Og func128 ?_;simp only[go_sem,lrnA,lrnC,Int.reduceNeg];(and_intros<;>try omega)
 try simp only[nodA,nodC,pC,lrnC,Y5,Y3]
 exact Vr
end Go.Proofs.YtojhjaohaafeaaaGreatDoor
