/-
  Several texts in one: Lk.
-/
import Derived.Test.YtojhjaohaafeaaaGreatDoorQf
import Derived.Test.YtojhjaohaafeaaaGreatDoorQg
set_option maxRecDepth 20000
set_option maxHeartbeats 8000000
namespace Go.Proofs.YtojhjaohaafeaaaGreatDoor
open Go.RowKit
def wC(g:WL):List AV:=[.int .i64 g.d.cap,bA g.d.safe,bA g.d.loose,.bool g.d.down,.int .i64 g.d.fuse,rA g.l]
theorem Kpt.sm{s:Sz}{me:Int}{a:Acp}{g:WL}{d:Sd}{L M:List Acp}(h:Kpt s me a g d L M):WSm g:=by
 obtain⟨r1,r2,r3⟩:=(right_iff _).1 h.log.right
 refine⟨⟨by omega,by omega,(i64_iff _).1 h.log.fuse⟩,h.log.right,?_⟩
 have h1:=frs_len_ge (L.map tF)
 rw[h.log.sl]
 have h2:=h.log.safe
 rw[← h2] at h1
 omega
theorem crash_sm{d:DD}(h:rightB d=true)(n:Int):smD (crashS d n)∧(allD (crashS d n)).length≤1000000:=by
 obtain⟨r1,r2,r3⟩:=(right_iff _).1 h
 have hk:(d.loose.take (keepN n d.loose.length)).length≤d.loose.length:=List.length_take_le' ..
 unfold crashS allD
 refine⟨⟨?_,by simp,by unfold I64;simp⟩,?_⟩
 ·simp only[List.length_append];omega
 ·simp only[List.length_append,Y9];omega
theorem text_frs{b:Acp}(h:AcOk b):(frs [tF b]).length≤900000:=by
 have h1:=textF_le h.parts
 have h2:=nb_le (tF b).length (by omega)
 rw[frs_cons,List.length_append,fr_length,show frs []=[] from rfl,List.length_nil]
 unfold frLong
 omega
theorem hear_bare{a n:Acp}{w:Acc}(h:hearF a w=(n,none)):bare n=bare a:=by
 unfold hearF at h
 split at h
 ·cases h;rfl
 ·split at h
  ·cases h;rfl
  ·split at h
   ·cases h
   ·cases h;rfl
theorem hear_same{a n:Acp}{w:Acc}{o:Option (List Acc)}(h:hearF a w=(n,o)):n.s=a.s∧n.me=a.me:=by
 unfold hearF at h
 split at h
 ·cases h;exact⟨rfl,rfl⟩
 ·split at h
  ·cases h;exact⟨rfl,rfl⟩
  ·split at h
   ·cases h;exact⟨rfl,rfl⟩
   ·cases h;exact⟨rfl,rfl⟩
def toldA(a:Acp):Acp:=⟨⟨0,0⟩,0,a.view,a.has,a.at_,a.value,a.proof,[]⟩
theorem has_told(a:Acp)(d:Sd):hasS (toldA a) d=hasS a d:=rfl
theorem cert_sm{x:TAct}(h:smallX x=true):smL x.cert:=by
 unfold smallX at h
 simp only[Vi,decide_eq_true_eq] at h
 refine⟨by omega,fun r hr=>?_⟩
 have:=List.all_eq_true.1 h.2 r hr
 unfold smallR votesB at this
 simp only[Vi,decide_eq_true_eq] at this
 omega
theorem lawKept(hal:ASpec Tryz.prog 5 [] (.bool true))(s:Sz)(me:Int)(script:List TAct)(hn64:∀ x∈script,I64 x.n):ASpec Tryz.prog 4 [eS s,.int .i64 me,tactsA script] (.bool true):=by
 have hnew:=anew_spec s me
 have hdn:=dnew_spec 100000
 rw[show newD 100000=(⟨100000,[],[],false,-1⟩,0) from rfl] at hdn
 simp only[encDE,eD] at hdn
 have hwo:=wopen_spec ⟨100000,[],[],false,-1⟩ ⟨by simp,by simp,by unfold I64;simp⟩ (by simp[allD])
 rw[open_new 100000 (by omega)] at hwo
 simp only[encWE,eW,eD] at hwo
 have hsm:=small_spec script
 cases hnf:newF s me with
 |none=>
  rw[show newA s me=.tup [eC zAcp,.int .i64 1] by simp[newA,hnf]] at hnew
  refine⟨⟨_,Tryz.func4,by kernel_rfl,rfl⟩,Sg Tryz.func4 rfl fun c0 hc0=>?_⟩;simp only[go_sem,eS,tactsA,Int.reduceNeg,Nat.reduceAdd,Nat.reduceSub]
  refine Ops.pure .free rfl rfl (hnew) Vl rfl rfl ?_
  refine Og Tryz.func4 ?_;simp only[go_sem,eC,pC,zAcp,vA,Int.reduceNeg,Nat.reduceAdd]
  (and_intros<;>try first|rfl|omega)
  refine Ops.pure .free rfl rfl (hdn) Vl rfl rfl ?_
  refine Og Tryz.func4 ?_;simp only[go_sem,bA,Int.reduceNeg,Nat.reduceAdd]
  (and_intros<;>try first|rfl|omega)
  refine Ops.pure .free rfl rfl (hwo) Vl rfl rfl ?_
  refine Og Tryz.func4 ?_;simp only[go_sem,bA,rA,↓aT,↓aF,↓bT,↓gV,Int.reduceEq,Int.reduceNeg,Nat.reduceAdd]
  (and_intros<;>try first|rfl|omega)
  refine Ops.pure .free rfl rfl (hal) Vl rfl rfl ?_
  refine Og Tryz.func4 ?_;simp only[go_sem,Int.reduceNeg]
  (and_intros<;>try first|rfl|omega)
  exact Vr
 |some a1=>
 obtain⟨ha1,_,_,_⟩:=newF_ok hnf
 have e1:a1=a0 s me:=by
  have h:=hnf
  unfold newF at h
  split at h
  ·cases h;rfl
  ·cases h
 subst e1
 rw[show newA s me=.tup [eC (a0 s me),.int .i64 0] by simp[newA,hnf]] at hnew
 by_cases q1:2<s.f
 case pos=>
  refine⟨⟨_,Tryz.func4,by kernel_rfl,rfl⟩,Sg Tryz.func4 rfl fun c0 hc0=>?_⟩;simp only[go_sem,eS,tactsA,Int.reduceNeg,Nat.reduceAdd,Nat.reduceSub]
  refine Ops.pure .free rfl rfl (hnew) Vl rfl rfl ?_
  refine Og Tryz.func4 ?_;simp only[go_sem,eC,pC,a0,vA,Int.reduceNeg,Nat.reduceAdd]
  (and_intros<;>try first|rfl|omega)
  refine Ops.pure .free rfl rfl (hdn) Vl rfl rfl ?_
  refine Og Tryz.func4 ?_;simp only[go_sem,bA,Int.reduceNeg,Nat.reduceAdd]
  (and_intros<;>try first|rfl|omega)
  refine Ops.pure .free rfl rfl (hwo) Vl rfl rfl ?_
  refine Og Tryz.func4 ?_;simp only[go_sem,bA,rA,q1,↓aT,↓aF,↓bT,↓bF,↓gV,↓gF,Int.reduceNeg,Nat.reduceAdd,Nat.reduceLeDiff]
  (and_intros<;>try first|rfl|omega)
  refine Ops.pure .free rfl rfl (hal) Vl rfl rfl ?_
  refine Og Tryz.func4 ?_;simp only[go_sem,Int.reduceNeg]
  (and_intros<;>try first|rfl|omega)
  exact Vr
 case neg=>
 cases hsb:smallB script with
 |false=>
  rw[hsb] at hsm
  refine⟨⟨_,Tryz.func4,by kernel_rfl,rfl⟩,Sg Tryz.func4 rfl fun c0 hc0=>?_⟩;simp only[go_sem,eS,tactsA,Int.reduceNeg,Nat.reduceAdd,Nat.reduceSub]
  refine Ops.pure .free rfl rfl (hnew) Vl rfl rfl ?_
  refine Og Tryz.func4 ?_;simp only[go_sem,eC,pC,a0,vA,Int.reduceNeg,Nat.reduceAdd]
  (and_intros<;>try first|rfl|omega)
  refine Ops.pure .free rfl rfl (hdn) Vl rfl rfl ?_
  refine Og Tryz.func4 ?_;simp only[go_sem,bA,Int.reduceNeg,Nat.reduceAdd]
  (and_intros<;>try first|rfl|omega)
  refine Ops.pure .free rfl rfl (hwo) Vl rfl rfl ?_
  refine Og Tryz.func4 ?_;simp only[go_sem,bA,rA,q1,↓aF,↓bF,↓gF,Int.reduceNeg,Nat.reduceAdd,Nat.reduceLeDiff]
  (and_intros<;>try first|rfl|omega)
  refine Ops.pure (Wanted.test 7 false false rfl) rfl rfl (hsm) Vl rfl rfl ?_
  refine Og Tryz.func4 ?_;simp only[go_sem,↓aT,↓bF,↓gF,Int.reduceNeg]
  (and_intros<;>try first|rfl|omega)
  refine Ops.pure .free rfl rfl (hal) Vl rfl rfl ?_
  refine Og Tryz.func4 ?_;simp only[go_sem,Int.reduceNeg]
  (and_intros<;>try first|rfl|omega)
  exact Vr
 |true=>
 rw[hsb] at hsm
 have hX:∀ x∈script,smallX x=true:=by
  unfold smallB at hsb
  rw[Vi,List.all_eq_true] at hsb
  exact hsb.2
 have hl40:script.length≤40:=by
  unfold smallB at hsb
  rw[Vi,decide_eq_true_eq] at hsb
  exact hsb.1
 refine⟨⟨_,Tryz.func4,by kernel_rfl,rfl⟩,Sg Tryz.func4 rfl fun c0 hc0=>?_⟩;simp only[go_sem,eS,tactsA,Int.reduceNeg,Nat.reduceAdd,Nat.reduceSub]
 refine Ops.pure .free rfl rfl (hnew) Vl rfl rfl ?_
 refine Og Tryz.func4 ?_;simp only[go_sem,eC,pC,a0,vA,Int.reduceNeg,Nat.reduceAdd]
 (and_intros<;>try first|rfl|omega)
 refine Ops.pure .free rfl rfl (hdn) Vl rfl rfl ?_
 refine Og Tryz.func4 ?_;simp only[go_sem,bA,Int.reduceNeg,Nat.reduceAdd]
 (and_intros<;>try first|rfl|omega)
 refine Ops.pure .free rfl rfl (hwo) Vl rfl rfl ?_
 refine Og Tryz.func4 ?_;simp only[go_sem,bA,rA,q1,↓aF,↓bF,↓gF,Int.reduceNeg,Nat.reduceAdd,Nat.reduceLeDiff]
 (and_intros<;>try first|rfl|omega)
 refine Ops.pure (Wanted.test 7 false false rfl) rfl rfl (hsm) Vl rfl rfl ?_
 refine Og Tryz.func4 ?_;simp only[go_sem,↓aF,↓bF,↓gF,Int.reduceNeg,Nat.reduceAdd,Nat.reduceLeDiff]
 (and_intros<;>try first|rfl|omega)
 refine Run.loopV (α:=Nat×Acp×WL×Sd) (fun q=>q.1≤script.length∧∃ L M,Kpt s me q.2.1 q.2.2.1 q.2.2.2 L M) (fun q=>[(14,.int .i64 q.1)]) 5 (fun q=>[(1,.box (pC q.2.1)),(3,.box (wC q.2.2.1)),(4,.box (sdC q.2.2.2))]) (fun q=>script.length-q.1) (0,a0 s me,⟨⟨100000,[],[],false,-1⟩,[]⟩,⟨⟨me,-1,[]⟩,0,-1⟩) ⟨Nat.zero_le _,[],[],Kpt.begin hnf⟩ ?_ ?_
 ·simp only[go_sem,writes,junks,puts,hputs,List.filterMap_cons,List.filterMap_nil,pC,a0,wC,sdC,vA,bA,rA]
  (refine Weak.of (by simp[hc0]) ?_ ?_<;>(repeat' first|exact .refl _|exact .junk _|exact .nil _|exact .tok _ _ _|rfl|apply LeB.same|apply LeB.box|apply Le.agg|apply Le.one|constructor))
 rintro⟨k,a,g,d⟩ ⟨hk0,L,M,hK⟩ ih
 simp only[writes,junks,puts,hputs,List.filterMap_cons,List.filterMap_nil,Y6,Y7,Yg,Yk,Y5,Y3,Yd] at hk0 hK ih ⊢
 by_cases hk:k<script.length
 case neg=>
  obtain rfl:k=script.length:=by omega
  have hkk:¬(script.length:Int)<script.length:=by omega
  refine Rg Tryz.func4 ?_;simp only[go_sem,hkk,↓aF,Int.reduceNeg]
  (and_intros<;>try first|rfl|omega)
  refine Ops.pure .free rfl rfl (hal) Vl rfl rfl ?_
  refine Og Tryz.func4 ?_;simp only[go_sem,Int.reduceNeg]
  (and_intros<;>try first|rfl|omega)
  exact Vr
 case pos=>
 obtain⟨x,hx⟩:∃ x,script[k]? = some x:=⟨_,Vb hk⟩
 have hkk:(k:Int)<script.length:=by omega
 have hxs:=hX x (Vd hx)
 have hcs:=cert_sm hxs
 have hxn:=hn64 x (Vd hx)
 have hsmg:=hK.sm
 have hme:=eq_true hK.em
 obtain⟨kind,n,view,value,cert,vote⟩:=x
 dsimp only at hcs hxn
 by_cases k0:kind=0
 case pos=>
  subst k0
  have hE:=enter_spec a view
  unfold enterA at hE
  cases he:enterB a view with
  |false=>
   rw[he] at hE
   simp only[Y8,Yr] at hE
   refine Rg Tryz.func4 ?_;simp only[go_sem,hx,hkk,tC,rpsA,pC,sdC,wC,vA,bA,rA,Vg,↓aT,Int.reduceNeg,Nat.reduceAdd,Nat.reduceLeDiff,Nat.reduceLT]
   (and_intros<;>try first|rfl|omega)
   refine Ops.pure .free rfl rfl (hE) Vl rfl rfl ?_
   refine Og Tryz.func4 ?_;simp only[go_sem,eC,pC,encRp,rpC,zRp,vA,↓aT,↓aF,↓bF,↓gW,Int.reduceNeg,Nat.reduceAdd,Nat.reduceLeDiff,Nat.reduceBEq]
   (and_intros<;>try first|rfl|omega)
   refine ih (k+1,a,g,d) _ ⟨by dsimp only;omega,L,M,hK⟩ (by dsimp only;omega) ?_
   simp only[Int.natCast_add,Int.natCast_one,pC,sdC,wC,vA,bA,rA]
   (refine Weak.of (by simp[hc0]) ?_ ?_<;>(repeat' first|exact .refl _|exact .junk _|exact .nil _|exact .tok _ _ _|rfl|apply LeB.same|apply LeB.box|apply Le.agg|apply Le.one|constructor))
  |true=>
   rw[he] at hE
   simp only[Ys] at hE
   obtain⟨hb1,hb2⟩:=has_enter hK.has he
   have hok:=hK.ok.enter he
   have hes:(enterF a view).s=s:=hK.es
   have hem:(enterF a view).me=me:=hK.em
   have hb2:hasS (enterF a view) { d with view:=(enterF a view).view }=true:=hb2
   obtain⟨b,hb⟩:∃ b,b=enterF a view:=⟨_,rfl⟩
   rw[← hb] at hE hb1 hb2 hok hes hem
   have hH:=has_spec (toldA b) d ((has_told _ _).trans hb1)
   have hT:=acptext_spec b hok.parts
   have hA:=wappend_spec g hsmg [tF b] (by simp) (text_frs hok)
   have hKa:=hK.append (b:=b) (e:={ d with view:=b.view }) hok hes hem hb1 hb2
   obtain⟨g2,z,hR⟩:∃ g2 z,appendS g [tF b]=(g2,z):=⟨_,_,rfl⟩
   rw[hR] at hA hKa
   simp only[encWE] at hA
   rcases hKa with⟨hz,L2,M2,hK2⟩|⟨hz,L2,M2,hK2⟩
   ·dsimp only at hz hK2
    subst hz
    refine Rg Tryz.func4 ?_;simp only[go_sem,hx,hkk,tC,rpsA,pC,sdC,wC,vA,bA,rA,Vg,↓aT,Int.reduceNeg,Nat.reduceAdd,Nat.reduceLeDiff,Nat.reduceLT]
    (and_intros<;>try first|rfl|omega)
    refine Ops.pure .free rfl rfl (hE) Vl rfl rfl ?_
    refine Og Tryz.func4 ?_;simp only[go_sem,eC,pC,encRp,rpC,tellF,vA,↓bT,↓gT,Int.reduceNeg,Nat.reduceAdd,Nat.reduceLeDiff]
    (and_intros<;>try first|rfl|omega)
    refine Ops.pure (Wanted.test 1 true true rfl) rfl rfl (hH) (by simp only[go_sem,eC,pC,toldA,encSd,sdC,vA,Int.reduceNeg];(repeat' first|exact .refl _|apply LeR.tup|apply Le.agg|constructor)) rfl rfl ?_
    refine Og Tryz.func4 ?_;simp only[go_sem,↓aF,↓bT,↓gT,Int.reduceNeg,Nat.reduceAdd,Nat.reduceLeDiff]
    (and_intros<;>try first|rfl|omega)
    refine DOps.pure rfl .free rfl rfl (hT) Vl rfl rfl ?_
    refine Dg Tryz.func4 rfl ?_;simp only[go_sem,bA,Int.reduceNeg,Nat.reduceAdd,Nat.reduceLeDiff,Nat.reduceMul,Nat.reduceBEq,Nat.reduceLT]
    (and_intros<;>try first|rfl|omega)
    refine DOps.pure rfl .free rfl rfl (hA) (by simp only[go_sem,eW,rA,rowC,bA,Int.reduceNeg];(repeat' first|exact .refl _|apply LeR.tup|apply Le.agg|constructor)) rfl rfl ?_
    refine Dg Tryz.func4 rfl ?_;simp only[go_sem,eW,rA,bA,↓aT,Int.reduceNeg,Nat.reduceAdd]
    (and_intros<;>try first|rfl|omega)
    refine ih (k+1,b,g2,{ d with view:=b.view }) _ ⟨by dsimp only;omega,L2,M2,hK2⟩ (by dsimp only;omega) ?_
    simp only[Int.natCast_add,Int.natCast_one,pC,sdC,wC,vA,bA,rA]
    (refine Weak.of (by simp[hc0]) ?_ ?_<;>(repeat' first|exact .refl _|exact .junk _|exact .nil _|exact .tok _ _ _|rfl|apply LeB.same|apply LeB.box|apply Le.agg|apply Le.one|constructor))
   ·dsimp only at hz hK2
    refine Rg Tryz.func4 ?_;simp only[go_sem,hx,hkk,tC,rpsA,pC,sdC,wC,vA,bA,rA,Vg,↓aT,Int.reduceNeg,Nat.reduceAdd,Nat.reduceLeDiff,Nat.reduceLT]
    (and_intros<;>try first|rfl|omega)
    refine Ops.pure .free rfl rfl (hE) Vl rfl rfl ?_
    refine Og Tryz.func4 ?_;simp only[go_sem,eC,pC,encRp,rpC,tellF,vA,↓bT,↓gT,Int.reduceNeg,Nat.reduceAdd,Nat.reduceLeDiff]
    (and_intros<;>try first|rfl|omega)
    refine Ops.pure (Wanted.test 1 true true rfl) rfl rfl (hH) (by simp only[go_sem,eC,pC,toldA,encSd,sdC,vA,Int.reduceNeg];(repeat' first|exact .refl _|apply LeR.tup|apply Le.agg|constructor)) rfl rfl ?_
    refine Og Tryz.func4 ?_;simp only[go_sem,↓aF,↓bT,↓gT,Int.reduceNeg,Nat.reduceAdd,Nat.reduceLeDiff]
    (and_intros<;>try first|rfl|omega)
    refine DOps.pure rfl .free rfl rfl (hT) Vl rfl rfl ?_
    refine Dg Tryz.func4 rfl ?_;simp only[go_sem,bA,Int.reduceNeg,Nat.reduceAdd,Nat.reduceLeDiff,Nat.reduceMul,Nat.reduceBEq,Nat.reduceLT]
    (and_intros<;>try first|rfl|omega)
    refine DOps.pure rfl .free rfl rfl (hA) (by simp only[go_sem,eW,rA,rowC,bA,Int.reduceNeg];(repeat' first|exact .refl _|apply LeR.tup|apply Le.agg|constructor)) rfl rfl ?_
    refine Dg Tryz.func4 rfl ?_;simp only[go_sem,eW,rA,bA,hz,↓aF,Int.reduceNeg,Nat.reduceAdd]
    (and_intros<;>try first|rfl|omega)
    refine ih (k+1,a,g2,d) _ ⟨by dsimp only;omega,L2,M2,hK2⟩ (by dsimp only;omega) ?_
    simp only[Int.natCast_add,Int.natCast_one,pC,sdC,wC,vA,bA,rA]
    (refine Weak.of (by simp[hc0]) ?_ ?_<;>(repeat' first|exact .refl _|exact .junk _|exact .nil _|exact .tok _ _ _|rfl|apply LeB.same|apply LeB.box|apply Le.agg|apply Le.one|constructor))
 by_cases k1:kind=1
 case pos=>
  subst k1
  have hE:=propose_spec a view value cert hcs
  unfold propA at hE
  cases he:propB a view value cert with
  |false=>
   rw[he] at hE
   simp only[Y8,Yr] at hE
   refine Rg Tryz.func4 ?_;simp only[go_sem,hx,hkk,tC,rpsA,pC,sdC,wC,vA,bA,rA,Vg,↓aT,↓aF,Int.reduceEq,Int.reduceNeg,Nat.reduceAdd,Nat.reduceLeDiff,Nat.reduceLT]
   (and_intros<;>try first|rfl|omega)
   refine Ops.pure .free rfl rfl (hE) Vl rfl rfl ?_
   refine Og Tryz.func4 ?_;simp only[go_sem,eC,pC,eA,aC,vA,↓aT,↓aF,↓bF,↓gW,Int.reduceNeg,Nat.reduceAdd,Nat.reduceLeDiff,Nat.reduceBEq]
   (and_intros<;>try first|rfl|omega)
   refine ih (k+1,a,g,d) _ ⟨by dsimp only;omega,L,M,hK⟩ (by dsimp only;omega) ?_
   simp only[Int.natCast_add,Int.natCast_one,pC,sdC,wC,vA,bA,rA]
   (refine Weak.of (by simp[hc0]) ?_ ?_<;>(repeat' first|exact .refl _|exact .junk _|exact .nil _|exact .tok _ _ _|rfl|apply LeB.same|apply LeB.box|apply Le.agg|apply Le.one|constructor))
  |true=>
   rw[he] at hE
   simp only[Ys] at hE
   obtain⟨n1,n2,hb1,hb2⟩:=has_prop hK.ok hK.has he
   have hok:=hK.ok.prop he
   have hes:(propF a view value).s=s:=hK.es
   have hem:(propF a view value).me=me:=hK.em
   obtain⟨b,hb⟩:∃ b,b=propF a view value:=⟨_,rfl⟩
   rw[← hb] at hE hb1 hb2 hok hes hem
   have hT:=acptext_spec b hok.parts
   have hA:=wappend_spec g hsmg [tF b] (by simp) (text_frs hok)
   have hKa:=hK.append (b:=b) (e:={ d with vote:=⟨a.me,view,value⟩ }) hok hes hem hb1 hb2
   obtain⟨g2,z,hR⟩:∃ g2 z,appendS g [tF b]=(g2,z):=⟨_,_,rfl⟩
   rw[hR] at hA hKa
   simp only[encWE] at hA
   rcases hKa with⟨hz,L2,M2,hK2⟩|⟨hz,L2,M2,hK2⟩
   ·dsimp only at hz hK2
    subst hz
    refine Rg Tryz.func4 ?_;simp only[go_sem,hx,hkk,tC,rpsA,pC,sdC,wC,vA,bA,rA,Vg,↓aT,↓aF,Int.reduceEq,Int.reduceNeg,Nat.reduceAdd,Nat.reduceLeDiff,Nat.reduceLT]
    (and_intros<;>try first|rfl|omega)
    refine Ops.pure .free rfl rfl (hE) Vl rfl rfl ?_
    refine Og Tryz.func4 ?_;simp only[go_sem,eC,pC,eA,aC,vA,n1,n2,hme,↓aF,↓bT,↓bF,↓gT,↓gF,Int.reduceNeg,Nat.reduceAdd,Nat.reduceLeDiff]
    (and_intros<;>try first|rfl|omega)
    refine DOps.pure rfl .free rfl rfl (hT) Vl rfl rfl ?_
    refine Dg Tryz.func4 rfl ?_;simp only[go_sem,bA,Int.reduceNeg,Nat.reduceAdd,Nat.reduceLeDiff,Nat.reduceMul,Nat.reduceBEq,Nat.reduceLT]
    (and_intros<;>try first|rfl|omega)
    refine DOps.pure rfl .free rfl rfl (hA) (by simp only[go_sem,eW,rA,rowC,bA,Int.reduceNeg];(repeat' first|exact .refl _|apply LeR.tup|apply Le.agg|constructor)) rfl rfl ?_
    refine Dg Tryz.func4 rfl ?_;simp only[go_sem,eW,rA,bA,↓aT,Int.reduceNeg,Nat.reduceAdd]
    (and_intros<;>try first|rfl|omega)
    refine ih (k+1,b,g2,{ d with vote:=⟨a.me,view,value⟩ }) _ ⟨by dsimp only;omega,L2,M2,hK2⟩ (by dsimp only;omega) ?_
    simp only[Int.natCast_add,Int.natCast_one,pC,sdC,wC,vA,bA,rA]
    (refine Weak.of (by simp[hc0]) ?_ ?_<;>(repeat' first|exact .refl _|exact .junk _|exact .nil _|exact .tok _ _ _|rfl|apply LeB.same|apply LeB.box|apply Le.agg|apply Le.one|constructor))
   ·dsimp only at hz hK2
    refine Rg Tryz.func4 ?_;simp only[go_sem,hx,hkk,tC,rpsA,pC,sdC,wC,vA,bA,rA,Vg,↓aT,↓aF,Int.reduceEq,Int.reduceNeg,Nat.reduceAdd,Nat.reduceLeDiff,Nat.reduceLT]
    (and_intros<;>try first|rfl|omega)
    refine Ops.pure .free rfl rfl (hE) Vl rfl rfl ?_
    refine Og Tryz.func4 ?_;simp only[go_sem,eC,pC,eA,aC,vA,n1,n2,hme,↓aF,↓bT,↓bF,↓gT,↓gF,Int.reduceNeg,Nat.reduceAdd,Nat.reduceLeDiff]
    (and_intros<;>try first|rfl|omega)
    refine DOps.pure rfl .free rfl rfl (hT) Vl rfl rfl ?_
    refine Dg Tryz.func4 rfl ?_;simp only[go_sem,bA,Int.reduceNeg,Nat.reduceAdd,Nat.reduceLeDiff,Nat.reduceMul,Nat.reduceBEq,Nat.reduceLT]
    (and_intros<;>try first|rfl|omega)
    refine DOps.pure rfl .free rfl rfl (hA) (by simp only[go_sem,eW,rA,rowC,bA,Int.reduceNeg];(repeat' first|exact .refl _|apply LeR.tup|apply Le.agg|constructor)) rfl rfl ?_
    refine Dg Tryz.func4 rfl ?_;simp only[go_sem,eW,rA,bA,hz,↓aF,Int.reduceNeg,Nat.reduceAdd]
    (and_intros<;>try first|rfl|omega)
    refine ih (k+1,a,g2,d) _ ⟨by dsimp only;omega,L2,M2,hK2⟩ (by dsimp only;omega) ?_
    simp only[Int.natCast_add,Int.natCast_one,pC,sdC,wC,vA,bA,rA]
    (refine Weak.of (by simp[hc0]) ?_ ?_<;>(repeat' first|exact .refl _|exact .junk _|exact .nil _|exact .tok _ _ _|rfl|apply LeB.same|apply LeB.box|apply Le.agg|apply Le.one|constructor))
 by_cases k2:kind=2
 case pos=>
  subst k2
  have hE:=hear_spec a hK.ok vote
  have hh:=hK.ok.hear vote
  have hhs:=has_hear (w:=vote) hK.ok hK.has
  obtain⟨b,o,hr⟩:∃ b o,hearF a vote=(b,o):=⟨_,_,rfl⟩
  have hsame:=hear_same hr
  rw[hr] at hE hh hhs
  cases o with
  |none=>
   simp only[hearA] at hE
   dsimp only at hh
   have hK2:=hK.soft hh.1 (hear_bare hr)
   refine Rg Tryz.func4 ?_;simp only[go_sem,hx,hkk,tC,rpsA,pC,sdC,wC,vA,bA,rA,Vg,↓aT,↓aF,Int.reduceEq,Int.reduceNeg,Nat.reduceAdd,Nat.reduceLeDiff,Nat.reduceLT]
   (and_intros<;>try first|rfl|omega)
   refine Ops.pure .free rfl rfl (hE) Vl rfl rfl ?_
   refine Og Tryz.func4 ?_;simp only[go_sem,eC,pC,vA,↓aT,↓aF,Int.reduceNeg,Nat.reduceAdd,Nat.reduceBEq]
   (and_intros<;>try first|rfl|omega)
   refine ih (k+1,b,g,d) _ ⟨by dsimp only;omega,L,M,hK2⟩ (by dsimp only;omega) ?_
   simp only[Int.natCast_add,Int.natCast_one,pC,sdC,wC,vA,bA,rA]
   (refine Weak.of (by simp[hc0]) ?_ ?_<;>(repeat' first|exact .refl _|exact .junk _|exact .nil _|exact .tok _ _ _|rfl|apply LeB.same|apply LeB.box|apply Le.agg|apply Le.one|constructor))
  |some p=>
   simp only[hearA] at hE
   dsimp only at hh hhs
   obtain⟨hok,hh2⟩:=hh
   obtain⟨_,_,_,hpne⟩:=hh2 p rfl
   obtain⟨hb1,hb2⟩:=hhs
   have hb2:=hb2 p rfl
   have hes:b.s=s:=hsame.1.trans hK.es
   have hem:b.me=me:=hsame.2.trans hK.em
   obtain⟨y,l,rfl⟩:=List.exists_cons_of_ne_nil hpne
   rw[pvw_cons] at hb2
   have hl:(0:Int)<((l.length+1:Nat):Int):=by omega
   have hT:=acptext_spec b hok.parts
   have hA:=wappend_spec g hsmg [tF b] (by simp) (text_frs hok)
   have hKa:=hK.append (b:=b) (e:={ d with proved:=y.view }) hok hes hem hb1 hb2
   obtain⟨g2,z,hR⟩:∃ g2 z,appendS g [tF b]=(g2,z):=⟨_,_,rfl⟩
   rw[hR] at hA hKa
   simp only[encWE] at hA
   rcases hKa with⟨hz,L2,M2,hK2⟩|⟨hz,L2,M2,hK2⟩
   ·dsimp only at hz hK2
    subst hz
    refine Rg Tryz.func4 ?_;simp only[go_sem,hx,hkk,tC,rpsA,pC,sdC,wC,vA,bA,rA,Vg,↓aT,↓aF,Int.reduceEq,Int.reduceNeg,Nat.reduceAdd,Nat.reduceLeDiff,Nat.reduceLT]
    (and_intros<;>try first|rfl|omega)
    refine Ops.pure .free rfl rfl (hE) Vl rfl rfl ?_
    refine Og Tryz.func4 ?_;simp only[go_sem,eC,pC,vA,aC,hl,↓aT,↓aF,Int.reduceLE,Int.reduceNeg,Nat.reduceAdd,Nat.reduceLeDiff,Nat.reduceLT,reduceCtorEq]
    (and_intros<;>try first|rfl|omega)
    refine DOps.pure rfl .free rfl rfl (hT) Vl rfl rfl ?_
    refine Dg Tryz.func4 rfl ?_;simp only[go_sem,bA,Int.reduceNeg,Nat.reduceAdd,Nat.reduceLeDiff,Nat.reduceMul,Nat.reduceBEq,Nat.reduceLT]
    (and_intros<;>try first|rfl|omega)
    refine DOps.pure rfl .free rfl rfl (hA) (by simp only[go_sem,eW,rA,rowC,bA,Int.reduceNeg];(repeat' first|exact .refl _|apply LeR.tup|apply Le.agg|constructor)) rfl rfl ?_
    refine Dg Tryz.func4 rfl ?_;simp only[go_sem,eW,rA,bA,↓aT,Int.reduceNeg,Nat.reduceAdd]
    (and_intros<;>try first|rfl|omega)
    refine ih (k+1,b,g2,{ d with proved:=y.view }) _ ⟨by dsimp only;omega,L2,M2,hK2⟩ (by dsimp only;omega) ?_
    simp only[Int.natCast_add,Int.natCast_one,pC,sdC,wC,vA,bA,rA]
    (refine Weak.of (by simp[hc0]) ?_ ?_<;>(repeat' first|exact .refl _|exact .junk _|exact .nil _|exact .tok _ _ _|rfl|apply LeB.same|apply LeB.box|apply Le.agg|apply Le.one|constructor))
   ·dsimp only at hz hK2
    refine Rg Tryz.func4 ?_;simp only[go_sem,hx,hkk,tC,rpsA,pC,sdC,wC,vA,bA,rA,Vg,↓aT,↓aF,Int.reduceEq,Int.reduceNeg,Nat.reduceAdd,Nat.reduceLeDiff,Nat.reduceLT]
    (and_intros<;>try first|rfl|omega)
    refine Ops.pure .free rfl rfl (hE) Vl rfl rfl ?_
    refine Og Tryz.func4 ?_;simp only[go_sem,eC,pC,vA,aC,hl,↓aT,↓aF,Int.reduceLE,Int.reduceNeg,Nat.reduceAdd,Nat.reduceLeDiff,Nat.reduceLT,reduceCtorEq]
    (and_intros<;>try first|rfl|omega)
    refine DOps.pure rfl .free rfl rfl (hT) Vl rfl rfl ?_
    refine Dg Tryz.func4 rfl ?_;simp only[go_sem,bA,Int.reduceNeg,Nat.reduceAdd,Nat.reduceLeDiff,Nat.reduceMul,Nat.reduceBEq,Nat.reduceLT]
    (and_intros<;>try first|rfl|omega)
    refine DOps.pure rfl .free rfl rfl (hA) (by simp only[go_sem,eW,rA,rowC,bA,Int.reduceNeg];(repeat' first|exact .refl _|apply LeR.tup|apply Le.agg|constructor)) rfl rfl ?_
    refine Dg Tryz.func4 rfl ?_;simp only[go_sem,eW,rA,bA,hz,↓aF,Int.reduceNeg,Nat.reduceAdd]
    (and_intros<;>try first|rfl|omega)
    refine ih (k+1,a,g2,d) _ ⟨by dsimp only;omega,L2,M2,hK2⟩ (by dsimp only;omega) ?_
    simp only[Int.natCast_add,Int.natCast_one,pC,sdC,wC,vA,bA,rA]
    (refine Weak.of (by simp[hc0]) ?_ ?_<;>(repeat' first|exact .refl _|exact .junk _|exact .nil _|exact .tok _ _ _|rfl|apply LeB.same|apply LeB.box|apply Le.agg|apply Le.one|constructor))
 by_cases k3:kind=3
 case pos=>
  subst k3
  have hB:=wblow_spec g n
  refine Rg Tryz.func4 ?_;simp only[go_sem,hx,hkk,tC,rpsA,pC,sdC,wC,vA,bA,rA,Vg,↓aT,↓aF,Int.reduceEq,Int.reduceNeg,Nat.reduceAdd,Nat.reduceLeDiff,Nat.reduceLT]
  (and_intros<;>try first|rfl|omega)
  refine Ops.pure .free rfl rfl (hB) Vl rfl rfl ?_
  refine Og Tryz.func4 ?_;simp only[go_sem,eW,bA,rA,↓aT,Int.reduceNeg,Nat.reduceAdd,Nat.reduceBEq]
  (and_intros<;>try first|rfl|omega)
  refine ih (k+1,a,blowW g n,d) _ ⟨by dsimp only;omega,L,M,hK.blow n hxn⟩ (by dsimp only;omega) ?_
  simp only[Int.natCast_add,Int.natCast_one,pC,sdC,wC,vA,bA,rA]
  (refine Weak.of (by simp[hc0]) ?_ ?_<;>(repeat' first|exact .refl _|exact .junk _|exact .nil _|exact .tok _ _ _|rfl|apply LeB.same|apply LeB.box|apply Le.agg|apply Le.one|constructor))
 by_cases k4:kind=4
 case pos=>
  subst k4
  have hC:=wcrash_spec g hsmg.sm n
  obtain⟨c1,c2⟩:=crash_sm hsmg.right n
  have hO:=wopen_spec (crashS g.d n) c1 c2
  obtain⟨hz,L2,hl2,hL2,hK2⟩:=hK.crash hnf n
  obtain⟨D,hD⟩:∃ D,D=crashS g.d n:=⟨_,rfl⟩
  rw[show crashW g n=⟨D,[]⟩ by rw[hD];rfl] at hC
  rw[← hD] at hO hz hl2 hK2
  obtain⟨g2,z,hR⟩:∃ g2 z,openS D=(g2,z):=⟨_,_,rfl⟩
  rw[hR] at hO hz hl2 hK2
  dsimp only at hz hl2 hK2
  subst hz
  simp only[encWE] at hO
  have hlen:L2.length≤1000000:=by
   have:=hK2.sm.rows
   rw[hl2,List.length_map] at this
   exact this
  have hP:=opened_spec s me g2 L2 hnf hl2 hL2 hlen
  have hH:=has_spec (lastA s me L2) d hK2.has
  obtain⟨b,hb⟩:∃ b,b=lastA s me L2:=⟨_,rfl⟩
  rw[← hb] at hP hH hK2
  refine Rg Tryz.func4 ?_;simp only[go_sem,hx,hkk,tC,rpsA,pC,sdC,wC,vA,bA,rA,Vg,↓aT,↓aF,Int.reduceEq,Int.reduceNeg,Nat.reduceAdd,Nat.reduceLeDiff,Nat.reduceLT]
  (and_intros<;>try first|rfl|omega)
  refine Ops.pure .free rfl rfl (hC) Vl rfl rfl ?_
  refine Og Tryz.func4 ?_;simp only[go_sem,eW,bA,rA,Int.reduceNeg,Nat.reduceAdd,Nat.reduceLeDiff]
  (and_intros<;>try first|rfl|omega)
  refine Ops.pure .free rfl rfl (hO) Vl rfl rfl ?_
  refine Og Tryz.func4 ?_;simp only[go_sem,eW,bA,rA,Int.reduceNeg,Nat.reduceAdd]
  (and_intros<;>try first|rfl|omega)
  refine Ops.pure .free rfl rfl (hP) Vl rfl rfl ?_
  refine Og Tryz.func4 ?_;simp only[go_sem,eC,pC,vA,↓bF,↓gF,Int.reduceNeg,Nat.reduceAdd]
  (and_intros<;>try first|rfl|omega)
  refine Ops.pure (Wanted.test 6 false false rfl) rfl rfl (hH) Vl rfl rfl ?_
  refine Og Tryz.func4 ?_;simp only[go_sem,↓aF,↓bF,↓gF,Int.reduceNeg,Nat.reduceAdd,Nat.reduceBEq]
  (and_intros<;>try first|rfl|omega)
  refine ih (k+1,b,g2,d) _ ⟨by dsimp only;omega,L2,[],hK2⟩ (by dsimp only;omega) ?_
  simp only[Int.natCast_add,Int.natCast_one,pC,sdC,wC,vA,bA,rA]
  (refine Weak.of (by simp[hc0]) ?_ ?_<;>(repeat' first|exact .refl _|exact .junk _|exact .nil _|exact .tok _ _ _|rfl|apply LeB.same|apply LeB.box|apply Le.agg|apply Le.one|constructor))
 case neg=>
  refine Rg Tryz.func4 ?_;simp only[go_sem,hx,hkk,k0,k1,k2,k3,k4,tC,rpsA,pC,sdC,wC,vA,bA,rA,Vg,↓aT,↓aF,Int.reduceNeg,Nat.reduceAdd,Nat.reduceLeDiff,Nat.reduceBEq,Nat.reduceLT]
  (and_intros<;>try first|rfl|omega)
  refine ih (k+1,a,g,d) _ ⟨by dsimp only;omega,L,M,hK⟩ (by dsimp only;omega) ?_
  simp only[Int.natCast_add,Int.natCast_one,pC,sdC,wC,vA,bA,rA]
  (refine Weak.of (by simp[hc0]) ?_ ?_<;>(repeat' first|exact .refl _|exact .junk _|exact .nil _|exact .tok _ _ _|rfl|apply LeB.same|apply LeB.box|apply Le.agg|apply Le.one|constructor))
end Go.Proofs.YtojhjaohaafeaaaGreatDoor
