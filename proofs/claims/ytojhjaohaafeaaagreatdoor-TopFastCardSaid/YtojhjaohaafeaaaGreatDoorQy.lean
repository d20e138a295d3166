/-
  Several texts in one: Tg, Th, Ti, Tj, Tk, Tl, To, Tq, Vc, Ua, Uc, Ud, Ue, Uf, Ug, Ul, Uj, Uo, Uq, Ur, Us, Uh, Uk, Um, Un, Up, Ut, Uu, Ui, Vi, Vj, Va, Vd, Ve, Vf, Vg, Vh, Vk.
-/
import Derived.Test.YtojhjaohaafeaaaGreatDoorQx
import Derived.KernelRfl
set_option maxRecDepth 20000
set_option maxHeartbeats 8000000
open Go.Proofs.Tryz
namespace Go.Proofs.YtojhjaohaafeaaaGreatDoor
open Go.RowKit
theorem leader0_spec(s:Sz)(hs:s.right=true)(hn:1<=s.n):ASpec prog 123 [eS s,.int .i64 0] (.int .i64 0):=by
 have hN:=zN_spec hs
 have h0:¬s.n=0:=by omega
 have hm:IntKind.i64.wrap (Int.tmod 0 s.n)=0:=by rw[Int.zero_tmod];decide
 refine Sh func123 (by kernel_rfl) rfl fun c0 hc0=>?_;simp only[go_sem,eS];(and_intros<;>try omega);refine Ops.pure .free rfl rfl (hN) Vl rfl rfl ?_;refine Og func123 ?_;simp only[go_sem,h0,Int.max_self,ne_eq];(and_intros<;>try omega)
 all_goals try(rw[Int.zero_tmod])
 exact Vr
def msgC(k b v:Int)(x:Bts)(cert:List Rp)(w:Acc)(p:List Acc):List AV:=[.int .i64 k,.int .i64 b,.int .i64 v,.str x,rpsA cert,.int .i64 w.by_,.int .i64 w.view,.str w.value,vA p,.int .i64 0,.int .i64 0,.bool false,.int .i64 0,.str [],.nils]
def msgA(k b v:Int)(x:Bts)(cert:List Rp)(w:Acc)(p:List Acc):AV:=.agg (msgC k b v x cert w p)
def accM(me:Int)(x:Bts):List AV:=[.int .i64 2,.int .i64 0,.int .i64 0,.str [],.nils,.int .i64 me,.int .i64 0,.str x,.nils,.int .i64 0,.int .i64 0,.bool false,.int .i64 0,.str [],.nils]
theorem hprop_spec(a:Acp)(s:Sz)(hs:s.right=true)(hn:1<=s.n)(me:Int)(l c q:List Acc)(v:Bts)(p:Int)(x:Bts)(w:Acc)(hav:a.view=0)(hah:a.has=false)(hx:x.length<=6000) :
  ASpec prog 179 [eS s,.int .i64 me,nodA a s l c q false v p,msgA 1 0 0 x [] w []] (.tup [nodA (propF a 0 x) s l c q false v p,.sl 15 [accM a.me x] .no]):=by
 have hL:=leader0_spec s hs hn;have hp:=propose0_spec a hav hah x hx;generalize propF a 0 x=a2 at hp ⊢;refine Sh func179 (by kernel_rfl) rfl fun c0 hc0=>?_;simp only[go_sem,nodA,nodC,msgA,msgC,eS,pC,lrnC,xtab_309];(and_intros<;>try first|rfl|omega);refine DOps.pure rfl .free rfl rfl (hL) (by exact Vl) rfl rfl ?_;refine Dg func179 rfl ?_;simp only[go_sem,xtab_309];(and_intros<;>try first|rfl|omega);refine Ops.pure .free rfl rfl (hp) (by exact Vl) rfl rfl ?_;refine Og func179 ?_;simp only[go_sem,eC,pC,eA,aC,xtab_252,xtab_309];(and_intros<;>try first|rfl|omega)
 try simp only[accM]
 (repeat' first|exact .refl _|apply LeR.tup|constructor)
def repM(me:Int)(p:List Acc):List AV:=[.int .i64 3,.int .i64 me,.int .i64 0,.str [],.nils,.int .i64 0,.int .i64 0,.str [],vA p,.int .i64 0,.int .i64 0,.bool false,.int .i64 0,.str [],.nils]
def tldM(me:Int)(x:Bts):List AV:=[.int .i64 5,.int .i64 me,.int .i64 0,.str x,.nils,.int .i64 0,.int .i64 0,.str [],.nils,.int .i64 0,.int .i64 0,.bool false,.int .i64 0,.str [],.nils]
def saysH(me:Int)(r:Option (List Acc))(b:Bool×Bts):AV:=match r,b.1 with
 |none,false=>.nils
 |none,true=>.sl 15 [tldM me b.2] .no
 |some p,false=>.sl 15 [repM me p] .no
 |some p,true=>.sl 15 [repM me p,tldM me b.2] .no
theorem hacc_spec(a:Acp)(hok:AcOk a)(s:Sz)(hs:s.right=true)(hk:sizeOk s.f s.t=true)(me:Int)(l c q:List Acc)(v:Bts)(p:Int)(x:Bts)(w:Acc)(hl:l.length<=900)(ht:rightT l=true)(hv:∀ y∈l,y.view=w.view)(h0:0<=w.by_)(h1:w.by_<s.n)(hm:mayA w=true)(hbest:∀ y∈addF l w,0<=y.view)(hal:(addF l w).length<=1000000)(bb:Bool×Bts)(hbb:bb=bstV (addF l w) (3*s.f+s.t+1)) :
  ASpec prog 179 [eS s,.int .i64 me,nodA a s l c q false v p,msgA 2 0 0 x [] w []] (.tup [nodA (hearF a w).1 s (addF l w) c q bb.1 (if bb.1 then bb.2 else v) p,saysH me (hearF a w).2 bb]):=by
 have hh:=hear_spec a hok w;have hac:=accepted_spec s hs hk l c q v w hl ht hv h0 h1 hm hbest hal;rw[<- hbb] at hac;generalize addF l w=L at hac ⊢;unfold hearA at hh;generalize hearF a w=r at hh ⊢;obtain⟨r1,r2⟩:=r;obtain⟨b,y⟩:=bb;unfold lrnS at hac;dsimp only at hh hac ⊢
 cases r2 with
 |none=>
  try dsimp only at hh
  cases b with
  |false=>
   rw[if_neg (by simp)] at hac;refine Sh func179 (by kernel_rfl) rfl fun c0 hc0=>?_;simp only[go_sem,nodA,nodC,msgA,msgC,eS,pC,lrnC,xtab_309];(and_intros<;>try omega);refine Ops.pure .free rfl rfl (hh) Vl rfl rfl ?_;refine Og func179 ?_;simp only[go_sem,eC,pC,xtab_309];(and_intros<;>try omega);refine Ops.pure .free rfl rfl (hac) Vl rfl rfl ?_;refine Og func179 ?_;simp only[go_sem,lrnA,lrnC];(and_intros<;>try omega)
   try simp only[saysH]
   exact Vr
  |true=>
   rw[if_pos rfl] at hac;refine Sh func179 (by kernel_rfl) rfl fun c0 hc0=>?_;simp only[go_sem,nodA,nodC,msgA,msgC,eS,pC,lrnC,xtab_309];(and_intros<;>try omega);refine Ops.pure .free rfl rfl (hh) Vl rfl rfl ?_;refine Og func179 ?_;simp only[go_sem,eC,pC,xtab_309];(and_intros<;>try first|rfl|omega);refine Ops.pure .free rfl rfl (hac) Vl rfl rfl ?_;refine Og func179 ?_;simp only[go_sem,lrnA,lrnC,xtab_252,xtab_309];(and_intros<;>try first|rfl|omega)
   try simp only[saysH,tldM]
   (repeat' first|exact .refl _|apply LeR.tup|constructor)
 |some pr=>
  try dsimp only at hh
  cases b with
  |false=>
   rw[if_neg (by simp)] at hac;refine Sh func179 (by kernel_rfl) rfl fun c0 hc0=>?_;simp only[go_sem,nodA,nodC,msgA,msgC,eS,pC,lrnC,xtab_309];(and_intros<;>try omega);refine Ops.pure .free rfl rfl (hh) Vl rfl rfl ?_;refine Og func179 ?_;simp only[go_sem,eC,pC,vA,xtab_252,xtab_309];(and_intros<;>try first|rfl|omega);refine Ops.pure .free rfl rfl (hac) Vl rfl rfl ?_;refine Og func179 ?_;simp only[go_sem,lrnA,lrnC,vA];(and_intros<;>try first|rfl|omega)
   try simp only[vA,saysH,repM]
   (repeat' first|exact .refl _|apply LeR.tup|constructor)
  |true=>
   rw[if_pos rfl] at hac;refine Sh func179 (by kernel_rfl) rfl fun c0 hc0=>?_;simp only[go_sem,nodA,nodC,msgA,msgC,eS,pC,lrnC,xtab_309];(and_intros<;>try omega);refine Ops.pure .free rfl rfl (hh) Vl rfl rfl ?_;refine Og func179 ?_;simp only[go_sem,eC,pC,vA,xtab_252,xtab_309];(and_intros<;>try first|rfl|omega);refine Ops.pure .free rfl rfl (hac) Vl rfl rfl ?_;refine Og func179 ?_;simp only[go_sem,lrnA,lrnC,vA,xtab_252,xtab_309];(and_intros<;>try first|rfl|omega)
   try simp only[vA,saysH,repM,tldM]
   (repeat' first|exact .refl _|apply LeR.tup|constructor)
theorem searchE0(c:Int):ASpec prog 327 [.sl 2 [] .no,.int .i64 c,.fn (.func 328) [] []] (.tup [.int .i64 0,.bool false]):=by
 have h3:¬(0:Int)<0:=by omega
 refine Sh func327 (by kernel_rfl) rfl fun c0 hc0=>?_;simp only[go_sem];(and_intros<;>try omega);refine Run.unloop ?_;refine Rg func327 ?_;simp only[go_sem,h3];(and_intros<;>try omega);exact Vr
def winA(wide low:Int)(l:List (List AV)):AV:=.agg [.int .i64 wide,.int .i64 low,.sl 2 l .no]
theorem wplaceE(wide low c:Int):ASpec prog 298 [winA wide low [],.int .i64 c] (.tup [.int .i64 0,.bool false]):=by
 have h:=searchE0 c;refine Sh func298 (by kernel_rfl) rfl fun c0 hc0=>?_;simp only[go_sem,winA];refine Ops.pure .free rfl rfl (h) Vl rfl rfl ?_;refine Og func298 ?_;simp only[go_sem];exact Vr
theorem wend_spec(wide:Int)(h1:1<=wide)(h2:wide<=16)(l:List (List AV)):ASpec prog 299 [winA wide 0 l] (.int .i64 wide):=by
 have hm:min (0+wide) 100000=wide:=by omega
 refine Sh func299 (by kernel_rfl) rfl fun c0 hc0=>?_;simp only[go_sem,winA,hm];(and_intros<;>try first|rfl|omega);exact Vr
theorem insertE0(a:Int)(x:List UInt8):ACall prog 300 [.sl 2 [] (.own 0),.int .i64 0,.sl 2 [[.int .i64 a,.str x]] .no] [.tok 2 0] fun r _=>LeR r (.sl 2 [[.int .i64 a,.str x]] .no):=by
 have h1:¬(1:Int)=0:=by omega
 refine Sg func300 rfl fun c1 hc1=>?_;simp only[go_sem,h1,Int.natCast_one];(and_intros<;>try first|rfl|omega);(repeat' first|exact .refl _|apply LeR.tup|constructor)
theorem wlearn_spec(wide:Int)(h1:1<=wide)(h2:wide<=16)(x:List UInt8)(hx:x.length<=6000):ASpec prog 265 [winA wide 0 [],.int .i64 0,.str x] (.tup [winA wide 0 [[.int .i64 0,.str x]],.int .i64 0]):=by
 have hp:=wplaceE wide 0 0;have he:=wend_spec wide h1 h2 []
 have h3:¬wide<=0:=by omega
 have h4:¬(6000:Int)<x.length:=by omega
 have h5:¬(0:Int)<0:=by omega
 refine Sh func265 (by kernel_rfl) rfl fun c0 hc0=>?_;simp only[go_sem,winA];(and_intros<;>try omega);refine Ops.pure .free rfl rfl (hp) Vl rfl rfl ?_;refine Og func265 ?_;simp only[go_sem,h5];(and_intros<;>try omega);refine Ops.pure .free rfl rfl (he) Vl rfl rfl ?_;refine Og func265 ?_;simp only[go_sem,h3,h4];(and_intros<;>try omega);refine Ops.own .free rfl rfl clone_entry0 Vl rfl ?_;refine Og func265 ?_;simp only[go_sem];(and_intros<;>try omega);refine Ops.lent .free rfl rfl ⟨_,func300,by kernel_rfl,rfl⟩ (i:=2) rfl (.inr ⟨2,rfl⟩) (insertE0 0 x) rfl ?_ ?_
 ·(repeat'(first|exact OneL.nil|apply OneL.cons|exact OneA.msu _ _|exact OneA.own _ _|exact OneA.le (.refl _) rfl|exact OneA.le (.one (.tok _ _ _)) rfl))
 ·refine Og func265 ?_;simp only[go_sem];(and_intros<;>try omega)
  try simp only[winA]
  exact Vr
theorem wtake_spec(wide:Int)(x:List UInt8):ASpec prog 220 [winA wide 0 [[.int .i64 0,.str x]]] (.tup [winA wide 1 [],.sl 1 [[.str x]] .no]):=by
 have hlt:(0:Int)<1:=by omega
 have hlt2:¬(1:Int)<1:=by omega
 have z01:(0:Int)+1=1:=rfl;refine Sh func220 (by kernel_rfl) rfl fun c0 hc0=>?_;simp only[go_sem,winA,Int.natCast_one];(and_intros<;>try omega);refine Run.unloop ?_;refine Rg func220 ?_;simp only[go_sem,hlt,z01];(and_intros<;>try omega);refine Run.again ?_;refine Rg func220 ?_;simp only[go_sem,hlt2,Int.natCast_one];(and_intros<;>try first|rfl|omega);refine Ops.own .free rfl rfl clone_entry0 Vl rfl ?_;refine Og func220 ?_;simp only[go_sem];(and_intros<;>try first|rfl|omega)
 try simp only[winA]
 (repeat' first|exact .refl _|apply LeR.tup|apply Le.agg|constructor)
def rplC(s:Sz)(me wide:Int)(hd:AV)(e5 e6 low:Int)(ent sh:List (List AV))(now:Int)(bk tb sn:List (List AV))(log cells asked:AV):List AV:=
 [.int .i64 s.f,.int .i64 s.t,.int .i64 me,.int .i64 wide,.int .i64 s.f,.int .i64 s.t,.int .i64 me,.int .i64 0,hd,.int .i64 e5,.int .i64 e6,.int .i64 wide,.int .i64 low,.sl 2 ent .no,.int .i64 s.f,.int .i64 s.t,.nils,.int .i64 0,.int .u8 0,.int .u8 0,.int .u8 0,.int .u8 0,.int .u8 0,.int .u8 0,.int .u8 0,.int .u8 0,.int .u8 0,.int .u8 0,.int .u8 0,.int .u8 0,.int .u8 0,.int .u8 0,.int .u8 0,.int .u8 0,.int .u8 0,.int .u8 0,.int .u8 0,.int .u8 0,.int .u8 0,.int .u8 0,.int .u8 0,.int .u8 0,.int .u8 0,.int .u8 0,.int .u8 0,.int .u8 0,.int .u8 0,.int .u8 0,.int .u8 0,.int .u8 0,.sl 4 sh .no,.int .i64 now,.sl 3 bk .no,.sl 3 tb .no,.sl 6 sn .no,log,cells,asked]
theorem low_spec(s:Sz)(me wide:Int)(hd:AV)(e5 e6 low:Int)(ent sh:List (List AV))(now:Int)(bk tb sn:List (List AV))(log cells asked:AV)(_:hd.bel 0=true)(_:log.bel 0=true)(_:cells.bel 0=true)(_:asked.bel 0=true)(w1:1<=wide)(w4:wide<=4)(l0:0<=low)(l1:low<=1) :
  ASpec prog 126 [.agg (rplC s me wide hd e5 e6 low ent sh now bk tb sn log cells asked)] (.int .i64 0):=by
 have hm:max 0 (low-wide)=0:=by omega
 refine Sh func126 (by kernel_rfl) rfl fun c0 hc0=>?_;simp only[go_sem,rplC,hm];(and_intros<;>try omega)
 all_goals try(unfold I64;omega)
 all_goals (repeat' first|exact .refl _|apply LeR.tup|constructor)
theorem end_spec(s:Sz)(me wide:Int)(hd:AV)(e5 e6 low:Int)(ent sh:List (List AV))(now:Int)(bk tb sn:List (List AV))(log cells asked:AV)(_:hd.bel 0=true)(_:log.bel 0=true)(_:cells.bel 0=true)(_:asked.bel 0=true)(w1:1<=wide)(w4:wide<=4)(l0:0<=low)(l1:low<=1) :
  ASpec prog 127 [.agg (rplC s me wide hd e5 e6 low ent sh now bk tb sn log cells asked)] (.int .i64 (low+wide)):=by
 have hm:min (low+wide) 100000=low+wide:=by omega
 refine Sh func127 (by kernel_rfl) rfl fun c0 hc0=>?_;simp only[go_sem,rplC,hm];(and_intros<;>try omega)
 all_goals try(unfold I64;omega)
 all_goals (repeat' first|exact .refl _|apply LeR.tup|constructor)
def prpM(me:Int)(x:Bts):List AV:=[.int .i64 1,.int .i64 me,.int .i64 0,.str x,.nils,.int .i64 0,.int .i64 0,.str [],.nils,.int .i64 0,.int .i64 0,.bool false,.int .i64 0,.str [],.nils]
theorem leads_spec(a:Acp)(hav:a.view=0)(s:Sz)(hs:s.right=true)(hn:1<=s.n)(l c q:List Acc)(d:Bool)(v:Bts)(x:Bts) :
  ASpec prog 188 [eS s,.int .i64 0,nodA a s l c q d v (-1),.str x] (.tup [nodA a s l c q d v 0,.sl 15 [prpM 0 x] .no]):=by
 have hL:=leader0_spec s hs hn;have hM:=zMost_spec hs;obtain⟨a1,a2,a3,a4,a5,a6,a7,a8⟩:=a;dsimp only at hav;subst hav
 have h1:¬(0:Int)<=-1:=by omega
 have h2:¬(0:Int)<0:=by omega
 refine Sh func188 (by kernel_rfl) rfl fun c0 hc0=>?_;simp only[go_sem,nodA,nodC,eS,pC,lrnC,Int.reduceNeg];(and_intros<;>try omega);refine Ops.pure .free rfl rfl (hM) Vl rfl rfl ?_;refine Og func188 ?_;simp only[go_sem,Int.reduceNeg,xtab_309];(and_intros<;>try first|rfl|omega);refine Ops.pure .free rfl rfl (hL) Vl rfl rfl ?_;refine Og func188 ?_;simp only[go_sem,h1,h2,Int.reduceNeg,xtab_252,xtab_309];(and_intros<;>try first|rfl|omega)
 try simp only[prpM]
 (repeat' first|exact .refl _|apply LeR.tup|constructor)
theorem leadsno_spec(a:Acp)(hav:a.view=0)(s:Sz)(hs:s.right=true)(hn:1<=s.n)(me:Int)(l c q:List Acc)(d:Bool)(v:Bts)(p:Int)(x:Bts)(h:me≠0\/0<=p) :
  ASpec prog 188 [eS s,.int .i64 me,nodA a s l c q d v p,.str x] (.tup [nodA a s l c q d v p,.nils]):=by
 have hL:=leader0_spec s hs hn;have hM:=zMost_spec hs;obtain⟨a1,a2,a3,a4,a5,a6,a7,a8⟩:=a;dsimp only at hav;subst hav
 by_cases hme:me=0
 ·have hp:0<=p:=h.resolve_left fun e=>e hme;subst hme;refine Sh func188 (by kernel_rfl) rfl fun c0 hc0=>?_;simp only[go_sem,nodA,nodC,eS,pC,lrnC];(and_intros<;>try omega);refine Ops.pure .free rfl rfl (hM) Vl rfl rfl ?_;refine Og func188 ?_;simp only[go_sem,xtab_309];(and_intros<;>try omega);refine Ops.pure .free rfl rfl (hL) Vl rfl rfl ?_;refine Og func188 ?_;simp only[go_sem,hp,xtab_309];(and_intros<;>try omega)
  try simp only[nodA,nodC,pC,lrnC,Y5,Y3]
  exact Vr
 ·have hme':¬(0:Int)=me:=fun e=>hme e.symm;refine Sh func188 (by kernel_rfl) rfl fun c0 hc0=>?_;simp only[go_sem,nodA,nodC,eS,pC,lrnC];(and_intros<;>try omega);refine Ops.pure .free rfl rfl (hM) Vl rfl rfl ?_;refine Og func188 ?_;simp only[go_sem,xtab_309];(and_intros<;>try omega);refine Ops.pure .free rfl rfl (hL) Vl rfl rfl ?_;refine Og func188 ?_;simp only[go_sem,hme'];(and_intros<;>try omega)
  try simp only[nodA,nodC,pC,lrnC,Y5,Y3]
  exact Vr
theorem enters0_spec(a:Acp)(hav:a.view=0)(s:Sz)(me:Int)(l c q:List Acc)(d:Bool)(v:Bts)(p:Int) :
  ASpec prog 129 [eS s,.int .i64 me,nodA a s l c q d v p,.int .i64 0] (.tup [nodA a s l c q d v p,.nils]):=by
 have he:=enter_spec a 0
 have hb:enterB a 0=false:=by unfold enterB;simp[hav]
 rw[enterA,hb,if_neg (by simp)] at he;refine Sh func129 (by kernel_rfl) rfl fun c0 hc0=>?_;simp only[go_sem,nodA,nodC,eS,pC,lrnC];(and_intros<;>try omega);refine Ops.pure .free rfl rfl (he) Vl rfl rfl ?_;refine Og func129 ?_;simp only[go_sem,eC,pC,encRp,rpC,zRp];(and_intros<;>try omega)
 try simp only[nodA,nodC,pC,lrnC,Y5,Y3]
 exact Vr
def cliA(id seq:Int)(b:Bool)(o:Ord):AV:=.agg [.int .i64 id,.int .i64 seq,.bool b,.int .i64 o.a,.int .i64 o.b,.int .i64 o.kind,.str o.s,.str o.t,.int .i64 o.x,.int .i64 o.y,.int .i64 o.z,.nils,.nils]
def zOrd:Ord:=⟨0,0,0,[],[],0,0,0⟩
def askO(id:Int)(o:Ord):Ord:=⟨id,1,o.kind,o.s,o.t,o.x,o.y,o.z⟩
theorem ask_spec(id:Int)(o:Ord):ASpec prog 78 [cliA id 0 false zOrd,encO o] (if mayO (askO id o) then .tup [cliA id 1 true (askO id o),encO (askO id o),.int .i64 0] else .tup [cliA id 0 false zOrd,encO zOrd,.int .i64 1]):=by
 have hy:=may_spec (askO id o);have z01:(0:Int)+1=1:=rfl
 have hb:¬(1000000000:Int)<=0:=by omega
 cases hm:mayO (askO id o) with
 |true=>
  rw[hm] at hy;rw[if_pos rfl];refine Sh func78 (by kernel_rfl) rfl fun c0 hc0=>?_;simp only[go_sem,cliA,zOrd,encO,z01,hb];(and_intros<;>try first|rfl|omega);refine Ops.pure .free rfl rfl (hy) (by exact Vl) rfl rfl ?_;refine Og func78 ?_;simp only[go_sem];(and_intros<;>try first|rfl|omega)
  try simp only[askO]
  exact Vr
 |false=>
  rw[hm] at hy;rw[if_neg (by simp)];refine Sh func78 (by kernel_rfl) rfl fun c0 hc0=>?_;simp only[go_sem,cliA,zOrd,encO,z01,hb];(and_intros<;>try first|rfl|omega);refine Ops.pure .free rfl rfl (hy) (by exact Vl) rfl rfl ?_;refine Og func78 ?_;simp only[go_sem];(and_intros<;>try omega)
  try simp only[cliA,encO,askO,zOrd]
  exact Vr
end Go.Proofs.YtojhjaohaafeaaaGreatDoor
namespace Go.Proofs.YtojhjaohaafeaaaGreatDoor
theorem hear_same(a:Acp)(w:Acc):(hearF a w).1.view=a.view/\(hearF a w).1.me=a.me/\(hearF a w).1.s=a.s:=by
 unfold hearF
 split
 ·exact⟨rfl,rfl,rfl⟩
 ·split
  ·exact⟨rfl,rfl,rfl⟩
  ·split
   ·exact⟨rfl,rfl,rfl⟩
   ·exact⟨rfl,rfl,rfl⟩
def acp0(s:Sz)(me:Int):Acp:=⟨s,me,0,false,0,[],[],[]⟩
theorem acp0_new{s:Sz}{me:Int}(hs:s.right=true)(h0:0<=me)(h1:me<s.n):newF s me=some (acp0 s me):=by
 unfold newF;rw[if_pos ⟨hs,h0,h1⟩];rfl
def acpV(s:Sz)(me:Int)(x:Bts)(us:List Int):Acp:=us.foldl (fun a u=>(hearF a ⟨u,0,x⟩).1) (propF (acp0 s me) 0 x)
theorem acpV_snoc(s:Sz)(me:Int)(x:Bts)(us:List Int)(u:Int):acpV s me x (us++[u])=(hearF (acpV s me x us) ⟨u,0,x⟩).1:=by
 unfold acpV;rw[List.foldl_append];rfl
theorem acp0_prop{s:Sz}{me:Int}{x:Bts}(hx:x.length<=6000):propB (acp0 s me) 0 x []=true:=by
 unfold propB acp0;simp;omega
theorem acpV_ok{s:Sz}{me:Int}{x:Bts}(hs:s.right=true)(h0:0<=me)(h1:me<s.n)(hx:x.length<=6000)(us:List Int):AcOk (acpV s me x us)/\(acpV s me x us).view=0/\(acpV s me x us).me=me/\(acpV s me x us).s=s:=by
 have key:∀ (us:List Int) (a:Acp),(AcOk a/\a.view=0/\a.me=me/\a.s=s)->(AcOk (us.foldl (fun a u=>(hearF a ⟨u,0,x⟩).1) a)/\(us.foldl (fun a u=>(hearF a ⟨u,0,x⟩).1) a).view=0/\(us.foldl (fun a u=>(hearF a ⟨u,0,x⟩).1) a).me=me/\(us.foldl (fun a u=>(hearF a ⟨u,0,x⟩).1) a).s=s):=by
  intro us
  induction us with
  |nil=>intro a h;exact h
  |cons u us ih=>
   intro a h;obtain⟨e1,e2,e3⟩:=hear_same a ⟨u,0,x⟩;exact ih _ ⟨(h.1.hear _).1,e1.trans h.2.1,e2.trans h.2.2.1,e3.trans h.2.2.2⟩
 refine key us _ ⟨(newF_ok (acp0_new hs h0 h1)).1.prop (acp0_prop hx),rfl,rfl,rfl⟩
open Go.RowKit
theorem ACall.le{P:Program}{f:FuncId}{args args':List AV}{h:List ABlk}{R:AV->List ABlk->Prop}(H:ACall P f args h R)(hle:LeL args' args):ACall P f args' h R:=
 fun c vs hch hc ht=>H c vs hch hc (hle.rel ht)
structure FSpec(P:Program)(f:FuncId)(args:List AV)(XS YS:List ABlk)(res:AV):Prop where
 fn:Callable P f
 run:ACall P f args XS fun r h'=>r=res/\h'.take XS.length=YS
def belF(n:Nat):List ABlk->Bool
 |[]=>true
 |x::l=>x.bel n&&belF n l
theorem belF_get{n:Nat}:∀ {l:List ABlk},belF n l=true->∀ (i:Nat) x,l[i]? = some x->x.bel n=true
 |[],_,i,x,h=>by simp at h
 |y::l,h,i,x,hx=>by
  simp only[belF,Vi] at h
  cases i with
  |zero=>simp at hx;subst hx;exact h.1
  |succ i=>exact belF_get h.2 i x (by simpa using hx)
theorem FSpec.call{P:Program}{g:FuncId}{args args':List AV}{XS YS:List ABlk}{res:AV}(H:FSpec P g args XS YS res){h:List ABlk}{R:AV->List ABlk->Prop}(hX:h.take XS.length=XS)(hlen:YS.length=XS.length)
  (bx:belF XS.length XS=true) (by_:belF XS.length YS=true) (ba:belL XS.length args=true) (br:res.bel XS.length=true) (hle:LeL args' args) (hR:R res (YS++h.drop XS.length)):ACall P g args' h R:=by
 have hn:XS.length<=h.length:=by
  have e:=congrArg List.length hX;rw[List.length_take] at e;omega
 refine ACall.le (ACall.front (n:=XS.length) hn (fun i x hi hx=>?_) ba (H':=YS) (r:=res) ?_ hlen (fun i x hx=>belF_get by_ i x hx) br hR) hle
 ·refine belF_get bx i x ?_;rw[<- hX,List.getElem?_take,if_pos hi];exact hx
 ·rw[hX];exact H.run
section
variable {P:Program} {f:FuncId} {c0:Cx} {R:AV->List ABlk->Prop} {T:TabT} {ops:Array Oper} {n sl sl':Nat} {o:Oper} {rest:List Oper} {fp:List (List Nat×List Nat)} {k:List Item} {s:AState}
theorem Ops.callF(hw:Wanted ops s.t o.guard true){x:Operand}{az:Array Operand}{ts:Array TypeId}(hop:o.op=.call { callee:=.value x,args:=az,argTypes:=ts }){g:FuncId}{fi ca:List AV}(hx:aev s.t x=.fn (.func g) fi ca)
  {args:List AV} {XS YS:List ABlk} {res:AV} (H:FSpec P g args XS YS res) (hX:s.h.take XS.length=XS) (hlen:YS.length=XS.length) (bx:belF XS.length XS=true) (by_:belF XS.length YS=true) (ba:belL XS.length args=true) (br:res.bel XS.length=true)
  (hle:LeL (fi++az.toList.map (aev s.t)++ca) args) (h:Ops P f c0 R ops (n+1) rest k ⟨aput s.t o.dst res,YS++s.h.drop XS.length⟩):Ops P f c0 R ops n (o::rest) k s:=
 Ops.call hw hop hx H.fn (H.call hX hlen bx by_ ba br hle h)
theorem take_same{α:Type}{h h':List α}{n:Nat}(_:n<=h.length)(e:∀ y∈List.range n,h'[y]? = h[y]?):h'.take n=h.take n:=by
 apply List.ext_getElem?;intro i;rw[List.getElem?_take,List.getElem?_take]
 split
 ·rename_i hi;exact e i (List.mem_range.2 hi)
 ·rfl
theorem DOps.callF(ho:ops[n]? = some o)(hw:Wanted ops s.t o.guard true){x:Operand}{az:Array Operand}{ts:Array TypeId}(hop:o.op=.call { callee:=.value x,args:=az,argTypes:=ts }){g:FuncId}{fi ca:List AV}(hx:aev s.t x=.fn (.func g) fi ca)
  {args:List AV} {XS:List ABlk} {res:AV} (H:FSpec P g args XS XS res) (hX:s.h.take XS.length=XS) (bx:belF XS.length XS=true) (ba:belL XS.length args=true) (br:res.bel XS.length=true)
  (hle:LeL (fi++az.toList.map (aev s.t)++ca) args) (h:DOps P f c0 R ops (n+1) (sl+1) rest (fp++[(List.range XS.length,[])]) k ⟨aput s.t o.dst res,s.h⟩):DOps P f c0 R ops n sl (o::rest) fp k s:=by
 have hn:XS.length<=s.h.length:=by
  have e:=congrArg List.length hX;rw[List.length_take] at e;omega
 refine DOps.cons (e:=⟨res,[],List.range XS.length⟩) (sl':=sl+1) (StepOk.call ho hw hop hx H.fn _ fun h' hh=>?_) ?_
 ·have e:=take_same hn hh;refine H.call (e.trans hX) rfl bx bx ba br hle ⟨rfl,?_⟩;show XS++h'.drop XS.length=h'
  conv=>rhs;rw[<- List.take_append_drop XS.length h',e,hX]
 ·exact h
theorem aupds_zip{h YS:List ABlk}:∀ (k:Nat),k+YS.length<=h.length->aupds h ((List.range' k YS.length).zip YS)=h.take k++YS++h.drop (k+YS.length):=by
 induction YS generalizing h with
 |nil=>intro k hk;simp[aupds]
 |cons y YS ih=>
  intro k hk;simp only[Ya] at hk;rw[List.length_cons,List.range'_succ,List.zip_cons_cons,aupds,ih (k+1) (by rw[List.length_set];omega)];rw[show k+1+YS.length=k+(YS.length+1) by omega,List.drop_set_of_lt (by omega),List.take_add_one,List.take_set_of_le (Nat.le_refl _),List.getElem?_set_self (by omega)];simp
theorem DOps.callW(ho:ops[n]? = some o)(hw:Wanted ops s.t o.guard true){x:Operand}{az:Array Operand}{ts:Array TypeId}(hop:o.op=.call { callee:=.value x,args:=az,argTypes:=ts }){g:FuncId}{fi ca:List AV}(hx:aev s.t x=.fn (.func g) fi ca)
  {args:List AV} {XS YS:List ABlk} {res:AV} (H:FSpec P g args XS YS res) (hX:s.h.take XS.length=XS) (hlen:YS.length=XS.length) (bx:belF XS.length XS=true) (by_:belF XS.length YS=true) (ba:belL XS.length args=true) (br:res.bel XS.length=true)
  (hle:LeL (fi++az.toList.map (aev s.t)++ca) args) (h:DOps P f c0 R ops (n+1) (sl+1) rest (fp++[(List.range XS.length,List.range XS.length)]) k ⟨aput s.t o.dst res,YS++s.h.drop XS.length⟩):DOps P f c0 R ops n sl (o::rest) fp k s:=by
 have hn:XS.length<=s.h.length:=by
  have e:=congrArg List.length hX;rw[List.length_take] at e;omega
 have hz:∀ h':List ABlk,XS.length<=h'.length->YS++h'.drop XS.length=aupds h' ((List.range XS.length).zip YS):=fun h' hh=>by
  have:=aupds_zip (h:=h') (YS:=YS) 0 (by omega);rw[<- hlen,List.range_eq_range',this];simp
 have hfst:((List.range XS.length).zip YS).map (·.1)=List.range XS.length:=by
  have:((List.range XS.length).zip YS).map Prod.fst=List.range XS.length:=List.map_fst_zip (by simp;omega);exact this
 refine DOps.cons (e:=⟨res,(List.range XS.length).zip YS,List.range XS.length⟩) (sl':=sl+1) (StepOk.call ho hw hop hx H.fn _ fun h' hh=>?_) ?_
 ·have e:=take_same hn hh;have e2:h'.take XS.length=XS:=e.trans hX
  have hl:XS.length<=h'.length:=by
   have e3:=congrArg List.length e2;rw[List.length_take] at e3;omega
  exact H.call e2 hlen bx by_ ba br hle ⟨rfl,hz h' hl⟩
 ·simp only[Ent.fp,Ent.wr,Ent.app,hfst,<- hz s.h hn];exact h
end
theorem bel_row{n:Nat}:∀ {x:List AV},(∀ a∈x,a.plain=true)->belL n x=true
 |[],_=>rfl
 |a::x,h=>by
  rw[belL,AV.plain_bel (h a List.mem_cons_self),bel_row fun b hb=>h b (List.mem_cons_of_mem _ hb)];rfl
theorem bel_rows{n:Nat}:∀ {l:List (List AV)},(∀ x∈l,∀ a∈x,a.plain=true)->belLL n l=true
 |[],_=>rfl
 |x::l,h=>by
  rw[belLL,bel_row (h x List.mem_cons_self),bel_rows fun y hy=>h y (List.mem_cons_of_mem _ hy)];rfl
theorem nodC_plain(a:Acp)(s:Sz)(l c q:List Acc)(d:Bool)(v:Bts)(p:Int):∀ y∈nodC a s l c q d v p,y.plain=true:=by
 simp[nodC,pC,lrnC,vA,AV.plain]
structure Wrk where
 s:Sz
 me:Int
 wide:Int
 low:Int
 ent:List (List AV)
 sh:List (List AV)
 now:Int
 bk:List (List AV)
 tb:List (List AV)
 sn:List (List AV)
 log:List (List AV)
 cells:List (List AV)
 asked:List (List AV)
def zsA(s:Sz):AV:=.sl 1 (List.replicate s.n.toNat [.int .i64 0]) .no
def Wrk.cs(w:Wrk):List AV:=rplC w.s w.me w.wide (zsA w.s) 0 4 w.low w.ent w.sh w.now w.bk w.tb w.sn (.sl 1 w.log .no) (.sl 18 w.cells .no) (.sl 8 w.asked .no)
structure X3 where
 x0:ABlk
 x1:ABlk
 x2:ABlk
 h0:∀ n,5<=n->x0.bel n=true
 h1:∀ n,5<=n->x1.bel n=true
 h2:∀ n,5<=n->x2.bel n=true
def Wrk.bx(w:Wrk)(X:X3)(out:List (List AV)):List ABlk:=[X.x0,X.x1,X.x2,.box (w.cs++[.sl 62 out (.own 4)]),.tok 62 out.length]
theorem Wrk.bel(w:Wrk)(X:X3)(out:List (List AV)):belF 5 (w.bx X out)=true:=by
 unfold Wrk.bx;simp only[belF,X.h0 5 (Nat.le_refl 5),X.h1 5 (Nat.le_refl 5),X.h2 5 (Nat.le_refl 5),Bool.true_and];rfl
structure Wrk.Ok(w:Wrk):Prop where
 w1:1<=w.wide
 w4:w.wide<=4
 l0:0<=w.low
 l1:w.low<=1
theorem low_w(w:Wrk)(h:w.Ok):ASpec prog 126 [.agg w.cs] (.int .i64 0):=low_spec _ _ _ _ _ _ _ _ _ _ _ _ _ _ _ _ rfl rfl rfl rfl h.w1 h.w4 h.l0 h.l1
theorem end_w(w:Wrk)(h:w.Ok):ASpec prog 127 [.agg w.cs] (.int .i64 (w.low+w.wide)):=end_spec _ _ _ _ _ _ _ _ _ _ _ _ _ _ _ _ rfl rfl rfl rfl h.w1 h.w4 h.l0 h.l1
theorem cell_w(w:Wrk)(h:w.Ok)(X:X3)(out:List (List AV))(i:Nat)(a:Acp)(sz:Sz)(l c q:List Acc)(d:Bool)(v:Bts)(p:Int)(hr:w.cells[i]? = some (nodC a sz l c q d v p))(hi9:i<=100000) :
  FSpec prog 136 [.ptr 3 0,.int .i64 i] (w.bx X out) (w.bx X out) (nodA a sz l c q d v p):=by
 have hlow:=low_w w h;obtain⟨s,me,wide,low,ent,sh,now,bk,tb,sn,log,cells,asked⟩:=w;have hi:i<cells.length:=(Va hr).1
 have hii:(i:Int)<cells.length:=by omega
 dsimp only at hr;refine⟨⟨_,func136,by kernel_rfl,rfl⟩,Sg func136 rfl fun c0 hc0=>?_⟩;simp only[go_sem,Wrk.bx,Wrk.cs,rplC,xtab_174,Nat.reduceAdd,Nat.reduceLeDiff,Nat.reduceSub];(and_intros<;>try first|rfl|omega);refine DOps.pure rfl .free rfl rfl (hlow) Vl rfl rfl ?_;refine Dg func136 rfl ?_;simp only[go_sem,hr,hii,Int.sub_zero,nodC,pC,lrnC];(and_intros<;>try first|rfl|omega)
 all_goals try(simp only[nodA,nodC,pC,lrnC,Y4,Option.getD_none,Yb,Option.bind_none,Yc,Option.map_none,Y6,Y7,Ya,Y9,Y1,Y2,Yw,List.getD_cons_zero,List.getD_cons_succ,Yi,Yh,Yg,Yj,Yk,Yl,Yf,Ye,Yo,Y5,Y3,Yd,List.all_cons,List.all_nil,Ym,Yn,Yt,Yu,Ys,Yr,reduceIte,Nat.reduceAdd,Nat.reduceLeDiff,Nat.reduceEqDiff,Nat.reduceMul,Nat.reduceBEq,Nat.reduceSub,Yp,Yq,beq_self_eq_true,Bool.and_self,Bool.and_true,Bool.true_and,Bool.and_false,Bool.false_and,Bool.not_true,Bool.not_false,Bool.not_eq_true',Bool.not_eq_false',decide_eq_true_eq,decide_eq_false_iff_not,decide_true,decide_false,not_false_eq_true,not_true_eq_false,Nat.reduceLT,Nat.lt_irrefl,forall_const,reduceCtorEq,false_implies,implies_true,Yv,Option.some.injEq,Int.toNat_natCast,Y0,Option.isSome_none,Option.isSome_some,Y8])
theorem say_w(w:Wrk)(X:X3)(out m:List (List AV))(ho:out.length<=100000)(hm:m.length<=100000) :
  FSpec prog 76 [.ptr 3 0,.sl 62 m .no] (w.bx X out) (w.bx X (out++m)) (.tup []):=by
 obtain⟨s,me,wide,low,ent,sh,now,bk,tb,sn,log,cells,asked⟩:=w;refine⟨⟨_,func76,by kernel_rfl,rfl⟩,Sg func76 rfl fun c0 hc0=>?_⟩;simp only[go_sem,Wrk.bx,Wrk.cs,rplC,List.length_append,xtab_32,xtab_52,xtab_174,Nat.reduceAdd,Nat.reduceSub];(and_intros<;>try omega)
def ltrZ:List AV:=[.int .u8 0,.int .u8 0,.int .u8 0,.int .u8 0,.int .u8 0,.int .u8 0,.int .u8 0,.int .u8 0,.int .u8 0,.int .u8 0,.int .u8 0,.int .u8 0,.int .u8 0,.int .u8 0,.int .u8 0,.int .u8 0,.int .u8 0,.int .u8 0,.int .u8 0,.int .u8 0,.int .u8 0,.int .u8 0,.int .u8 0,.int .u8 0,.int .u8 0,.int .u8 0,.int .u8 0,.int .u8 0,.int .u8 0,.int .u8 0,.int .u8 0,.int .u8 0,.int .i64 0,.int .i64 0,.int .i64 0,.str [],.str [],.int .i64 0,.int .i64 0,.int .i64 0,.int .i64 0,.int .i64 0,.int .i64 0,.str [],.int .i64 0,.nils]
def msgP(a b v:Int)(x:Bts)(c1 c2:Int)(c3:Bts)(P:AV):List AV:=[.int .i64 a,.int .i64 b,.int .i64 v,.str x,.nils,.int .i64 c1,.int .i64 c2,.str c3,P,.int .i64 0,.int .i64 0,.bool false,.int .i64 0,.str [],.nils]
def ltrP(k:Int)(a b v:Int)(x:Bts)(c1 c2:Int)(c3:Bts)(P:AV):List AV:=[.int .i64 a,.int .i64 b,.int .i64 k,.int .i64 v,.str x,.nils,.int .i64 c1,.int .i64 c2,.str c3,P,.int .i64 0,.int .i64 0,.bool false,.int .i64 0,.str [],.nils]++ltrZ
inductive Said(k:Int):List (List AV)->List (List AV)->Prop where
 |nil:Said k [] []
 |cons (a b v:Int) (x:Bts) (c1 c2:Int) (c3:Bts) (P:AV) (hP:P=.nils\/∃ pr,P=.sl 3 pr .no) {l m:List (List AV)} (h:Said k l m):Said k (msgP a b v x c1 c2 c3 P::l) (ltrP k a b v x c1 c2 c3 P::m)
theorem Said.len{k:Int}{l m:List (List AV)}(h:Said k l m):l.length=m.length:=by
 induction h with
 |nil=>rfl
 |cons a b v x c1 c2 c3 P hP h ih=>simp[ih]
theorem Said.get{k:Int}{l m:List (List AV)}(h:Said k l m):∀ (i:Nat),i<l.length->∃ a b v x c1 c2 c3 P,(P=.nils\/∃ pr,P=.sl 3 pr .no)/\l[i]? = some (msgP a b v x c1 c2 c3 P)/\m[i]? = some (ltrP k a b v x c1 c2 c3 P):=by
 induction h with
 |nil=>intro i hi;simp at hi
 |cons a b v x c1 c2 c3 P hP h ih=>
  intro i hi
  cases i with
  |zero=>exact⟨a,b,v,x,c1,c2,c3,P,hP,rfl,rfl⟩
  |succ i=>simpa using ih i (by simpa using hi)
theorem said_w(w:Wrk)(X:X3)(out l m:List (List AV))(k:Int)(ho:out.length<=10000)(hl:l.length<=10000)(h:Said k l m) :
  FSpec prog 130 [.ptr 3 0,.int .i64 k,.sl 15 l .no] (w.bx X out) (w.bx X (out++m)) (.tup []):=by
 have hsay:=fun o m=>say_w w X o m;have hlen:=h.len;have hget:=h.get;obtain⟨s,me,wide,low,ent,sh,now,bk,tb,sn,log,cells,asked⟩:=w;refine⟨⟨_,func130,by kernel_rfl,rfl⟩,Sg func130 rfl fun c0 hc0=>?_⟩;simp only[go_sem,Wrk.bx,xtab_252,Nat.reduceAdd,Nat.reduceSub];(and_intros<;>try omega);refine Run.loopV (α:=Nat) (fun j=>j<=l.length) (fun j=>[(10,.int .i64 j)]) 5 (fun j=>[(3,.box (Wrk.cs ⟨s,me,wide,low,ent,sh,now,bk,tb,sn,log,cells,asked⟩++[.sl 62 (out++m.take j) (.own 4)])),(4,.tok 62 (out++m.take j).length)]) (fun j=>l.length-j) 0 (Nat.zero_le _) ?_ ?_
 ·simp only[go_sem,writes,junks,puts,hputs,List.filterMap_cons,List.filterMap_nil];(refine Weak.of (by simp[hc0,Wrk.bx]) ?_ ?_<;>repeat' first|exact .refl _|exact .junk _|exact X.h0 _ (by simp)|exact X.h1 _ (by simp)|exact X.h2 _ (by simp)|rfl|apply Le.agg|constructor)
 intro j hj0 ih;simp only[writes,junks,puts,hputs,List.filterMap_cons,List.filterMap_nil,Y6,Y7,Yg,Yk,Y5,Y3,Yd] at ih ⊢
 by_cases hj:j<l.length
 case pos=>
  obtain⟨a,b,v,x,c1,c2,c3,P,hP,e1,e2⟩:=hget j hj
  have hjj:(j:Int)<l.length:=by omega
  have hs2:=hsay (out++m.take j) [ltrP k a b v x c1 c2 c3 P] (by simp;omega) (by simp)
  have et:m.take (j+1)=m.take j++[ltrP k a b v x c1 c2 c3 P]:=by rw[List.take_add_one,e2];rfl
  rw[List.append_assoc,<- et] at hs2
  rcases hP with rfl|⟨pr,rfl⟩
  ·refine Rg func130 ?_;simp only[go_sem,e1,hjj,msgP,xtab_32,xtab_52,xtab_252,xtab_309];(and_intros<;>try first|rfl|omega);refine Ops.callF .free rfl rfl (hs2) (by rfl) rfl (Wrk.bel _ _ _) (Wrk.bel _ _ _) rfl rfl (by simp only[go_sem,ltrP,ltrZ];(repeat' first|exact .refl _|apply LeR.tup|constructor)) ?_;refine Og func130 ?_;simp only[go_sem,Wrk.bx];(and_intros<;>try first|rfl|omega);refine ih (j+1) _ (by omega) (by omega) ?_;simp only[Int.natCast_add,Int.natCast_one];(refine Weak.of (by simp[hc0,Wrk.bx]) ?_ ?_<;>repeat' first|exact .refl _|exact .junk _|exact X.h0 _ (by simp)|exact X.h1 _ (by simp)|exact X.h2 _ (by simp)|rfl|apply Le.agg|constructor)
  ·refine Rg func130 ?_;simp only[go_sem,e1,hjj,msgP,xtab_32,xtab_52,xtab_252,xtab_309];(and_intros<;>try first|rfl|omega);refine Ops.callF .free rfl rfl (hs2) (by rfl) rfl (Wrk.bel _ _ _) (Wrk.bel _ _ _) rfl rfl (by simp only[go_sem,ltrP,ltrZ];(repeat' first|exact .refl _|apply LeR.tup|constructor)) ?_;refine Og func130 ?_;simp only[go_sem,Wrk.bx];(and_intros<;>try omega);refine ih (j+1) _ (by omega) (by omega) ?_;simp only[Int.natCast_add,Int.natCast_one];(refine Weak.of (by simp[hc0,Wrk.bx]) ?_ ?_<;>repeat' first|exact .refl _|exact .junk _|exact X.h0 _ (by simp)|exact X.h1 _ (by simp)|exact X.h2 _ (by simp)|rfl|apply Le.agg|constructor)
 case neg=>
  obtain rfl:j=l.length:=by omega
  have hjj:¬(l.length:Int)<l.length:=by omega
  rw[hlen,List.take_length];refine Rg func130 ?_;simp only[go_sem,xtab_32,xtab_52,xtab_252,xtab_309];(and_intros<;>try first|rfl|omega)
/-- The lowest place,of a replica whose places are just being written. -/
theorem low_F(w:Wrk)(h:w.Ok)(n:Nat)(x0 x1 x2 x3 x4 x5 x6:ABlk):FSpec prog 126 [.agg (rplC w.s w.me w.wide (zsA w.s) 0 4 w.low w.ent w.sh w.now w.bk w.tb w.sn (.sl 1 w.log .no) (.msu 6 18 n) (.sl 8 w.asked .no))] [x0,x1,x2,x3,x4,x5,x6] [x0,x1,x2,x3,x4,x5,x6] (.int .i64 0):=by
 obtain⟨w1,w4,l0,l1⟩:=h;obtain⟨s,me,wide,low,ent,sh,now,bk,tb,sn,log,cells,asked⟩:=w;dsimp only at w1 w4 l0 l1
 have hm:max 0 (low-wide)=0:=by omega
 refine⟨⟨_,func126,by kernel_rfl,rfl⟩,Sg func126 rfl fun c0 hc0=>?_⟩;simp only[go_sem,rplC,hm,Nat.reduceAdd,Nat.reduceLeDiff,Nat.reduceSub];(and_intros<;>try omega)
 all_goals try(unfold I64;omega)
theorem set_w(w:Wrk)(h:w.Ok)(X:X3)(out l m:List (List AV))(ho:out.length<=10000)(hl:l.length<=10000)(hs:Said 0 l m)(a a0:Acp)(sz s0:Sz)(t1 t2 t3 u1 u2 u3:List Acc)(d d0:Bool)(v v0:Bts)(p p0:Int)(rest:List (List AV))
  (hc:w.cells=nodC a0 s0 u1 u2 u3 d0 v0 p0::rest) (hr:rest.length<=900) (hp:∀ x∈rest,∀ y∈x,y.plain=true) :
  FSpec prog 137 [.ptr 3 0,.int .i64 0,nodA a sz t1 t2 t3 d v p,.sl 15 l .no] (w.bx X out) (Wrk.bx { w with cells:=nodC a sz t1 t2 t3 d v p::rest } X (out++m)) (.tup []):=by
 have hlow:=low_F w h (rest.length+1);have hsaid:=said_w { w with cells:=nodC a sz t1 t2 t3 d v p::rest } X out l m 0 ho hl hs;obtain⟨s,me,wide,low,ent,sh,now,bk,tb,sn,log,cells,asked⟩:=w;dsimp only at hc hlow hsaid ⊢;subst hc
 have hpa:∀ x∈nodC a0 s0 u1 u2 u3 d0 v0 p0::rest,∀ y∈x,y.plain=true:=fun x hx=>by
  rcases List.mem_cons.1 hx with rfl|hx
  ·exact nodC_plain _ _ _ _ _ _ _ _
  ·exact hp x hx
 have hcl:=clone_slot_Node (nodC a0 s0 u1 u2 u3 d0 v0 p0::rest) (by simp) (by simp;omega) fun x hx y hy=>AV.plain_cell (hpa x hx y hy);have hb7:ABlk.bel 7 (.rows 18 (nodC a0 s0 u1 u2 u3 d0 v0 p0::rest))=true:=bel_rows hpa;simp only[nodC,pC,lrnC,Y5,Y3] at hb7
 have hpn:∀ x∈nodC a sz t1 t2 t3 d v p::rest,∀ y∈x,y.plain=true:=fun x hx=>by
  rcases List.mem_cons.1 hx with rfl|hx
  ·exact nodC_plain _ _ _ _ _ _ _ _
  ·exact hp x hx
 have hpos:(0:Int)<(rest.length:Int)+1:=by omega
 refine⟨⟨_,func137,by kernel_rfl,rfl⟩,Sg func137 rfl fun c0 hc0=>?_⟩;simp only[go_sem,Wrk.bx,Wrk.cs,rplC,nodA,nodC,pC,lrnC,xtab_174,Nat.reduceAdd,Nat.reduceLeDiff,Nat.reduceSub];refine Ops.made .free rfl rfl hcl Vl rfl (bel_rows hpa) ?_;refine Og func137 ?_;simp only[go_sem,nodC,pC,lrnC,xtab_174];(and_intros<;>try first|rfl|omega);refine DOps.callF rfl .free rfl rfl (hlow _ _ _ _ _ _ _) (by rfl) (by simp only[Ya,Y9,Nat.reduceAdd,belF,X.h0 7 (by decide),X.h1 7 (by decide),X.h2 7 (by decide),hb7,Bool.true_and];rfl) rfl rfl (by exact Vl) ?_;refine DOps.god tab_ok follows_ok func137 0 rfl ?_;simp only[go_sem,Int.sub_zero];(and_intros<;>try first|rfl|omega);refine Run.weak (Weak.freezeU 3 56 6 18 (rest.length+1) _ _ rfl rfl rfl (by decide) (by simp) (fun x hx=>hpn x (List.mem_of_mem_take hx))) ?_;simp only[List.take_length,Y6,Y7,Yg];refine Rg func137 ?_;simp only[go_sem];refine Ops.callF .free rfl rfl (hsaid) (by rfl) rfl (Wrk.bel _ _ _) (Wrk.bel _ _ _) rfl rfl Vl ?_;refine Og func137 ?_;simp only[go_sem,Wrk.bx,Wrk.cs,rplC,nodC,pC,lrnC]
theorem encode0:ASpec prog 233 [.nils] (.tup [.str (encN 0),.int .i64 0]):=by
 have hp:=(oput_spec [] 0 (by simp) (by omega)).asp;rw[List.nil_append] at hp;generalize encN 0=e1 at hp ⊢
 have hlt:¬(0:Int)<0:=by omega
 have hw1:IntKind.u64.wrap 0=0:=by decide
 refine Sh func233 (by kernel_rfl) rfl fun c0 hc0=>?_;simp only[go_sem,hw1];(and_intros<;>try first|rfl|omega);refine Ops.pure .free rfl rfl (hp) (by simp only[go_sem,bA];(repeat' first|exact .refl _|apply LeR.tup|constructor)) rfl rfl ?_;refine Og func233 ?_;simp only[go_sem];(and_intros<;>try omega);refine Run.unloop ?_;refine Rg func233 ?_;simp only[go_sem,hlt];(and_intros<;>try omega);exact Vr
theorem waiting0(sh:List (List AV))(now:Int)(bk tb sn:List (List AV)):ASpec prog 232 [realmA sh now bk tb sn,.sl 8 [] .no] (.sl 8 [] .no):=by
 have hlt:¬(0:Int)<0:=by omega
 refine Sh func232 (by kernel_rfl) rfl fun c0 hc0=>?_;simp only[go_sem,realmA];(and_intros<;>try first|rfl|omega);refine Run.unloop ?_;refine Rg func232 ?_;simp only[go_sem,hlt];(and_intros<;>try first|rfl|omega);(repeat' first|exact .refl _|apply LeR.tup|apply Le.agg|constructor)
theorem wtake0(wide low:Int):ASpec prog 220 [winA wide low []] (.tup [winA wide low [],.sl 1 [] .no]):=by
 have hlt:¬(0:Int)<0:=by omega
 refine Sh func220 (by kernel_rfl) rfl fun c0 hc0=>?_;simp only[go_sem,winA];(and_intros<;>try omega);refine Run.unloop ?_;refine Rg func220 ?_;simp only[go_sem,hlt];(and_intros<;>try first|rfl|omega);refine Ops.own .free rfl rfl clone_entry0 Vl rfl ?_;refine Og func220 ?_;simp only[go_sem];(and_intros<;>try first|rfl|omega)
 try simp only[winA]
 (repeat' first|exact .refl _|apply LeR.tup|apply Le.agg|constructor)
def Wrk.Rd(w:Wrk)(i:Nat):Prop:=∃ a sz l c q d v p,w.cells[i]? = some (nodC a sz l c q d v p)
theorem binds_w(w:Wrk)(h:w.Ok)(hs:w.s.right=true)(X:X3)(out:List (List AV))(i:Nat)(hi:i<=100000)(hr:w.Rd i) :
  FSpec prog 234 [.ptr 3 0,.int .i64 i] (w.bx X out) (w.bx X out) (.bool false):=by
 obtain⟨a,sz,l,c,q,d,v,p,hr⟩:=hr;have hcell:=cell_w w h X out i a sz l c q d v p hr hi;have hM:=zMost_spec hs;obtain⟨s,me,wide,low,ent,sh,now,bk,tb,sn,log,cells,asked⟩:=w;refine⟨⟨_,func234,by kernel_rfl,rfl⟩,Sg func234 rfl fun c0 hc0=>?_⟩;simp only[go_sem,Wrk.bx,Wrk.cs,rplC,Nat.reduceAdd,Nat.reduceSub];(and_intros<;>try first|rfl|omega);refine DOps.callF rfl .free rfl rfl (hcell) (by rfl) (Wrk.bel _ _ _) rfl rfl (by exact Vl) ?_;refine Dg func234 rfl ?_;simp only[go_sem,nodA,nodC,pC,lrnC,Wrk.bx,Wrk.cs,rplC,xtab_174];(and_intros<;>try first|rfl|omega);refine DOps.pure rfl .free rfl rfl (hM) Vl rfl rfl ?_;refine Dg func234 rfl ?_;simp only[go_sem,xtab_174];(and_intros<;>try first|rfl|omega)
theorem wants_no(w:Wrk)(h:w.Ok)(hs:w.s.right=true)(X:X3)(out:List (List AV))(i:Nat)(hi:i<=100)(hr:∀ j:Nat,i<=j->(j:Int)<w.low+w.wide->w.Rd j)(hii:(i:Int)<w.low+w.wide)
  (hW:(i:Int)=w.low->ASpec prog 232 [realmA w.sh w.now w.bk w.tb w.sn,.sl 8 w.asked .no] (.sl 8 [] .no)) :
  FSpec prog 187 [.ptr 3 0,.int .i64 i] (w.bx X out) (w.bx X out) (.tup [.str [],.bool false]):=by
 have hb:=fun(j:Nat) (h1:i<=j) (h2:(j:Int)<w.low+w.wide)=>binds_w w h hs X out j (by have:=h.w4;have:=h.l1;omega) (hr j h1 h2);have hend:=end_w w h;have he:=encode0;obtain⟨w1,w4,l0,l1⟩:=h;obtain⟨s,me,wide,low,ent,sh,now,bk,tb,sn,log,cells,asked⟩:=w;dsimp only at hW hb w1 w4 l0 l1 hii
 by_cases hil:(i:Int)=low
 case pos=>
  have hw:=hW hil;subst hil;refine⟨⟨_,func187,by kernel_rfl,rfl⟩,Sg func187 rfl fun c0 hc0=>?_⟩;simp only[go_sem,Wrk.bx,Wrk.cs,rplC,↓aT,xtab_174,Nat.reduceAdd,Nat.reduceLeDiff,Nat.reduceSub];(and_intros<;>try first|rfl|omega);refine DOps.pure rfl .free rfl rfl (hw) (by exact Vl) rfl rfl ?_;refine Dg func187 rfl ?_;simp only[go_sem,Int.lt_irrefl,xtab_174];(and_intros<;>try first|rfl|omega);refine Ops.pure .free rfl rfl (hend) (by exact Vl) rfl rfl ?_;refine Og func187 ?_;simp only[go_sem];(and_intros<;>try omega);refine Ops.pure .free rfl rfl (he) Vl rfl rfl ?_;refine Og func187 ?_;simp only[go_sem];(and_intros<;>try omega);refine Run.loopV (α:=Nat) (fun j=>i<=j/\(j:Int)<=((i:Int)+wide)) (fun j=>[(1,.int .i64 j)]) 5 (fun _=>[]) (fun j=>((i:Int)+wide).toNat-j) i ⟨Nat.le_refl i,by omega⟩ ?_ ?_
  ·simp only[writes,junks,puts,hputs,List.filterMap_cons,List.filterMap_nil,Y6,Y7,Yg,Yj,Y5,Y3,Yd];(refine Weak.of (by simp[hc0,Wrk.bx]) ?_ ?_<;>repeat' first|exact .refl _|exact .junk _|exact X.h0 _ (by simp)|exact X.h1 _ (by simp)|exact X.h2 _ (by simp)|rfl|apply Le.agg|constructor)
  rintro j ⟨hj0,hj1⟩ ih;simp only[writes,junks,puts,hputs,List.filterMap_cons,List.filterMap_nil,Y6,Y7,Yg,Yj,Y5,Y3,Yd] at ih ⊢
  by_cases hj:(j:Int)<((i:Int)+wide)
  case pos=>
   have hbj:=hb j hj0 (by omega);refine Rg func187 ?_;simp only[go_sem,hj];(and_intros<;>try omega);refine Ops.callF .free rfl rfl (hbj) (by rfl) rfl (Wrk.bel _ _ _) (Wrk.bel _ _ _) rfl rfl Vl ?_;refine Og func187 ?_;simp only[go_sem,Wrk.bx,Wrk.cs,rplC];(and_intros<;>try first|rfl|omega);refine ih (j+1) _ ⟨by omega,by omega⟩ (by omega) ?_;simp only[Int.natCast_add,Int.natCast_one];(refine Weak.of (by simp[hc0,Wrk.bx]) ?_ ?_<;>repeat' first|exact .refl _|exact .junk _|exact X.h0 _ (by simp)|exact X.h1 _ (by simp)|exact X.h2 _ (by simp)|rfl|apply Le.agg|constructor)
  case neg=>
   refine Rg func187 ?_;simp only[go_sem,hj]
 case neg=>
  refine⟨⟨_,func187,by kernel_rfl,rfl⟩,Sg func187 rfl fun c0 hc0=>?_⟩;simp only[go_sem,hil,Wrk.bx,Wrk.cs,rplC,↓aF,xtab_174,Nat.reduceAdd,Nat.reduceLeDiff,Nat.reduceSub];(and_intros<;>try omega);refine Ops.pure .free rfl rfl (he) Vl rfl rfl ?_;refine Og func187 ?_;simp only[go_sem];(and_intros<;>try omega);refine Run.loopV (α:=Nat) (fun j=>i<=j/\(j:Int)<=((i:Int)+1)) (fun j=>[(1,.int .i64 j)]) 5 (fun _=>[]) (fun j=>((i:Int)+1).toNat-j) i ⟨Nat.le_refl i,by omega⟩ ?_ ?_
  ·simp only[writes,junks,puts,hputs,List.filterMap_cons,List.filterMap_nil,Y6,Y7,Yg,Yk,Y5,Y3,Yd];(refine Weak.of (by simp[hc0,Wrk.bx]) ?_ ?_<;>repeat' first|exact .refl _|exact .junk _|exact X.h0 _ (by simp)|exact X.h1 _ (by simp)|exact X.h2 _ (by simp)|rfl|apply Le.agg|constructor)
  rintro j ⟨hj0,hj1⟩ ih;simp only[writes,junks,puts,hputs,List.filterMap_cons,List.filterMap_nil,Y6,Y7,Yg,Yk,Y5,Y3,Yd] at ih ⊢
  by_cases hj:(j:Int)<((i:Int)+1)
  case pos=>
   have hbj:=hb j hj0 (by omega);refine Rg func187 ?_;simp only[go_sem,hj];(and_intros<;>try omega);refine Ops.callF .free rfl rfl (hbj) (by rfl) rfl (Wrk.bel _ _ _) (Wrk.bel _ _ _) rfl rfl Vl ?_;refine Og func187 ?_;simp only[go_sem,Wrk.bx,Wrk.cs,rplC];(and_intros<;>try omega);refine ih (j+1) _ ⟨by omega,by omega⟩ (by omega) ?_;simp only[Int.natCast_add,Int.natCast_one];(refine Weak.of (by simp[hc0,Wrk.bx]) ?_ ?_<;>repeat' first|exact .refl _|exact .junk _|exact X.h0 _ (by simp)|exact X.h1 _ (by simp)|exact X.h2 _ (by simp)|rfl|apply Le.agg|constructor)
  case neg=>
   refine Rg func187 ?_;simp only[go_sem,hj]
theorem lead_no(w:Wrk)(h:w.Ok)(hs:w.s.right=true)(X:X3)(out:List (List AV))(hr:∀ j:Nat,(j:Int)<w.low+w.wide->w.Rd j)
  (hW:ASpec prog 232 [realmA w.sh w.now w.bk w.tb w.sn,.sl 8 w.asked .no] (.sl 8 [] .no)) :
  FSpec prog 138 [.ptr 3 0] (w.bx X out) (w.bx X out) (.tup []):=by
 have hwa:=fun(j:Nat) (h1:(j:Int)<w.low+w.wide)=>wants_no w h hs X out j (by have:=h.w4;have:=h.l1;omega) (fun i _ hi=>hr i hi) h1 (fun _=>hW);have hend:=end_w w h;have hlow:=low_w w h;obtain⟨w1,w4,l0,l1⟩:=h;obtain⟨s,me,wide,low,ent,sh,now,bk,tb,sn,log,cells,asked⟩:=w;dsimp only at hwa w1 w4 l0 l1;refine⟨⟨_,func138,by kernel_rfl,rfl⟩,Sg func138 rfl fun c0 hc0=>?_⟩;simp only[go_sem,Wrk.bx,Wrk.cs,rplC,xtab_174,Nat.reduceAdd,Nat.reduceLeDiff,Nat.reduceSub];(and_intros<;>try omega);refine Ops.pure .free rfl rfl (hlow) Vl rfl rfl ?_;refine Og func138 ?_;simp only[go_sem];(and_intros<;>try omega);refine Run.loopV (α:=Nat) (fun j=>(j:Int)<=low+wide) (fun j=>[(2,.int .i64 j)]) 5 (fun _=>[]) (fun j=>(low+wide).toNat-j) 0 (by show((0:Nat):Int)<=_;omega) ?_ ?_
 ·simp only[go_sem,writes,junks,puts,hputs,List.filterMap_cons,List.filterMap_nil];(refine Weak.of (by simp[hc0,Wrk.bx]) ?_ ?_<;>repeat' first|exact .refl _|exact .junk _|exact X.h0 _ (by simp)|exact X.h1 _ (by simp)|exact X.h2 _ (by simp)|rfl|apply Le.agg|constructor)
 intro j hj0 ih;simp only[writes,junks,puts,hputs,List.filterMap_cons,List.filterMap_nil,Y6,Y7,Yg,Yk,Y5,Y3,Yd] at ih ⊢
 by_cases hj:(j:Int)<low+wide
 case pos=>
  have hw:=hwa j hj;refine Rg func138 ?_;simp only[go_sem,xtab_174];(and_intros<;>try omega);refine Ops.pure .free rfl rfl (hend) Vl rfl rfl ?_;refine Og func138 ?_;simp only[go_sem,hj];(and_intros<;>try omega);refine Ops.callF .free rfl rfl (hw) (by rfl) rfl (Wrk.bel _ _ _) (Wrk.bel _ _ _) rfl rfl Vl ?_;refine Og func138 ?_;simp only[go_sem,Wrk.bx,Wrk.cs,rplC];(and_intros<;>try omega);refine ih (j+1) _ (by omega) (by omega) ?_;simp only[Int.natCast_add,Int.natCast_one];(refine Weak.of (by simp[hc0,Wrk.bx]) ?_ ?_<;>repeat' first|exact .refl _|exact .junk _|exact X.h0 _ (by simp)|exact X.h1 _ (by simp)|exact X.h2 _ (by simp)|rfl|apply Le.agg|constructor)
 case neg=>
  refine Rg func138 ?_;simp only[go_sem,xtab_174];(and_intros<;>try omega);refine Ops.pure .free rfl rfl (hend) Vl rfl rfl ?_;refine Og func138 ?_;simp only[go_sem,hj]
theorem placeR_spec(o:Ord)(e:Int)(s:List UInt8)(v c:Int):ASpec prog 257 [.agg (repC o e s v),.int .i64 c] (.int .i64 (cmpI o.a c)):=by
 have h:=cmp_spec o.a c;refine Sh func257 (by kernel_rfl) rfl fun c0 hc0=>?_;simp only[go_sem,repC];(and_intros<;>try omega);refine Ops.pure .free rfl rfl (h) Vl rfl rfl ?_;refine Og func257 ?_;simp only[go_sem];exact Vr
theorem searchR1(o:Ord)(e:Int)(s:List UInt8)(v:Int):ASpec prog 256 [.sl 6 [repC o e s v] .no,.int .i64 o.a,.fn (.func 257) [] []] (.tup [.int .i64 0,.bool true]):=by
 have hc:=placeR_spec o e s v o.a;rw[cmpI_eq.2 rfl] at hc
 have h1:(0:Int)<1:=by omega
 have h3:¬(0:Int)<0:=by omega
 have hmid:IntKind.i64.wrap ((IntKind.u64.wrap (0+1)).fdiv (2^min 1 64))=0:=by decide
 have hmid2:IntKind.i64.wrap ((IntKind.u64.wrap 1).fdiv (2^min 1 64))=0:=by decide
 refine Sh func256 (by kernel_rfl) rfl fun c0 hc0=>?_;simp only[go_sem,repC,Int.natCast_one];(and_intros<;>try omega);refine Run.unloop ?_;refine Rg func256 ?_;simp only[go_sem,h1,hmid];(and_intros<;>try omega);refine Ops.pure .free rfl rfl (hc) Vl rfl rfl ?_;refine Og func256 ?_;simp only[go_sem,h3];(and_intros<;>try omega);refine Run.again ?_;refine Rg func256 ?_;simp only[go_sem,h3,h1];(and_intros<;>try omega);refine Ops.pure (Wanted.test 4 true true rfl) rfl rfl (hc) Vl rfl rfl ?_;refine Og func256 ?_;simp only[go_sem];(and_intros<;>try omega);exact Vr
theorem rplace1(sh:List (List AV))(now:Int)(bk tb:List (List AV))(o:Ord)(e:Int)(s:List UInt8)(v:Int):ASpec prog 208 [realmA sh now bk tb [repC o e s v],.int .i64 o.a] (.tup [.int .i64 0,.bool true]):=by
 have h:=searchR1 o e s v;refine Sh func208 (by kernel_rfl) rfl fun c0 hc0=>?_;simp only[go_sem,realmA];refine Ops.pure .free rfl rfl (h) Vl rfl rfl ?_;refine Og func208 ?_;simp only[go_sem];exact Vr
theorem last1(sh:List (List AV))(now:Int)(bk tb:List (List AV))(o:Ord)(e:Int)(s:List UInt8)(v:Int):ASpec prog 183 [realmA sh now bk tb [repC o e s v],.int .i64 o.a] (.tup [.agg (repC o e s v),.bool true]):=by
 have h:=rplace1 sh now bk tb o e s v
 have h01:(0:Int)<1:=by omega
 refine Sh func183 (by kernel_rfl) rfl fun c0 hc0=>?_;simp only[go_sem,realmA];refine Ops.pure .free rfl rfl (h) Vl rfl rfl ?_;refine Og func183 ?_;simp only[go_sem,repC,h01,Int.natCast_one];(and_intros<;>try omega)
 try simp only[repC]
 exact Vr
/-- An order is new where no one has a reply. -/
theorem isnew0(w:Wrk)(h:w.sn=[])(o:Ord):ASpec prog 184 [.agg w.cs,encO o] (.bool true):=by
 have hl:=last0 w.sh w.now w.bk w.tb o.a;obtain⟨s,me,wide,low,ent,sh,now,bk,tb,sn,log,cells,asked⟩:=w;dsimp only at h hl;subst h;refine Sh func184 (by kernel_rfl) rfl fun c0 hc0=>?_;simp only[go_sem,Wrk.cs,rplC,encO];(and_intros<;>try omega);refine Ops.pure .free rfl rfl (hl) Vl rfl rfl ?_;refine Og func184 ?_;simp only[go_sem,rep0];(and_intros<;>try omega);exact Vr
/-- An order is not new that has its reply. -/
theorem isnew1(w:Wrk)(o:Ord)(e:Int)(r:List UInt8)(v:Int)(h:w.sn=[repC o e r v]):ASpec prog 184 [.agg w.cs,encO o] (.bool false):=by
 have hl:=last1 w.sh w.now w.bk w.tb o e r v;obtain⟨s,me,wide,low,ent,sh,now,bk,tb,sn,log,cells,asked⟩:=w;dsimp only at h hl;subst h;have hlt:¬o.b<o.b:=Int.lt_irrefl _;refine Sh func184 (by kernel_rfl) rfl fun c0 hc0=>?_;simp only[go_sem,Wrk.cs,rplC,encO];(and_intros<;>try omega);refine Ops.pure .free rfl rfl (hl) Vl rfl rfl ?_;refine Og func184 ?_;simp only[go_sem,repC,hlt];(and_intros<;>try omega);exact Vr
theorem Weak.untok{P:Program}{c0:Cx}{s:AState}(q m k:Nat)(l:List (List AV))(t:Tk)(cs:List AV)(hq:s.h[q]? = some (.box cs))(hm:cs[m]? = some (.sl k l t)) :
  Weak P c0 s ⟨s.t,s.h.set q (.box (cs.set m (.sl k l .no)))⟩:=by
 refine⟨fun ρ w vs h1 h2 h3=>?_⟩;obtain⟨b,us,e,hb,hh,hsz,hall⟩:=h1.blk q _ hq;have hml:m<cs.length:=(Va hm).1;obtain⟨hc1,v,hv,hr⟩:=hall m _ hm
 obtain⟨q4,q5⟩:=Cx.retell h1 q b _ (.box (cs.set m (.sl k l .no))) hq hb rfl rfl rfl rfl (fun o h=>h.elim) fun hev=>by
  refine⟨b,us,e,hb,hh,by simpa using hsz,fun j a ha=>?_⟩;rw[List.getElem?_set] at ha
  split at ha
  ·rename_i hjm;subst hjm;cases ha;exact⟨rfl,v,hv,(Le1.tok k l t).rv (hr.mono hev)⟩
  ·obtain⟨g1,u,g2,g3⟩:=hall j a ha;exact⟨g1,u,g2,g3.mono hev⟩
 exact⟨ρ,q4,h2.trans q5,h3.mono q5⟩
theorem done_w(w:Wrk)(X:X3)(out:List (List AV)) :
  FSpec prog 77 [.ptr 3 0] (w.bx X out) (w.bx X out) (.tup [.agg w.cs,.sl 62 out (.own 4)]):=by
 obtain⟨s,me,wide,low,ent,sh,now,bk,tb,sn,log,cells,asked⟩:=w;refine⟨⟨_,func77,by kernel_rfl,rfl⟩,Sg func77 rfl fun c0 hc0=>?_⟩;simp only[go_sem,Wrk.bx,Wrk.cs,rplC,xtab_32,xtab_174,Nat.reduceAdd,Nat.reduceLeDiff,Nat.reduceSub];(and_intros<;>try first|rfl|omega)
theorem Run.cutB{P:Program}{f:FuncId}{c0:Cx}{R:AV->List ABlk->Prop}{k:List Item}{s:AState}(n:Nat)(js:List Nat)(hw:Weak P c0 s ⟨junks s.t js,s.h.take n⟩)(h:Run P f c0 R k ⟨junks s.t js,s.h.take n⟩):Run P f c0 R k s:=Run.weak hw h
theorem cloneO0:OSpec prog 223 [.sl 8 [] .no] 8 []:=by
 refine OSpec.nil ⟨_,func223,by kernel_rfl,rfl⟩ ?_;refine Sg func223 rfl fun c1 hc1=>?_;simp only[go_sem];refine Ops.eqnil .free rfl underlying76 rfl rfl fun b=>?_
 cases b with
 |true=>
  refine Og func223 ?_;simp only[go_sem,reduceCtorEq]
  first|exact .inl rfl|exact .inl trivial|simp
 |false=>
  refine Og func223 ?_;simp only[go_sem,reduceCtorEq];(and_intros<;>try omega)
  all_goals first|(simp;done)|exact .inr ⟨_,_,_,rfl⟩
theorem del0:ASpec prog 222 [.sl 8 [] .no,.junk] (.sl 8 [] .no):=by
 have h:=indexO0;refine Sh func222 (by kernel_rfl) rfl fun c0 hc0=>?_;simp only[go_sem,Int.reduceNeg];refine Ops.pure .free rfl rfl h (by simp only[go_sem];exact .cons (.refl _) (.cons (.junk _) .nil)) rfl rfl ?_;refine Og func222 ?_;simp only[go_sem,Int.reduceNeg];(and_intros<;>try first|rfl|omega);exact Vr
def ordC(o:Ord):List AV:=[.int .i64 o.a,.int .i64 o.b,.int .i64 o.kind,.str o.s,.str o.t,.int .i64 o.x,.int .i64 o.y,.int .i64 o.z]
theorem drop1(w:Wrk)(X:X3)(out:List (List AV))(o:Ord)(e:Int)(r:List UInt8)(v:Int)(h:w.sn=[repC o e r v])(y5:ABlk)(y6:ABlk) :
  FSpec prog 224 [.agg (ordC o),.rptr [.ptr 3 0]] (w.bx X out++[y5,y6]) (w.bx X out++[y5,y6]) (.bool true):=by
 have hn:=isnew1 w o e r v h;obtain⟨s,me,wide,low,ent,sh,now,bk,tb,sn,log,cells,asked⟩:=w;refine⟨⟨_,func224,by kernel_rfl,rfl⟩,Sg func224 rfl fun c0 hc0=>?_⟩;simp only[go_sem,Wrk.bx,Wrk.cs,rplC,ordC,xtab_172,xtab_174,Nat.reduceAdd,Nat.reduceLeDiff,Nat.reduceSub];(and_intros<;>try first|rfl|omega);refine DOps.pure rfl .free rfl rfl (hn) (by exact Vl) rfl rfl ?_;refine Dg func224 rfl ?_;simp only[go_sem];(and_intros<;>try first|rfl|omega)
def Wrk.bo(w:Wrk)(X:X3)(out:List (List AV))(y:ABlk):List ABlk:=w.bx X out++[.dead,y]
theorem Wrk.belo(w:Wrk)(X:X3)(out:List (List AV))(y:ABlk)(hy:y.bel 7=true):belF 7 (w.bo X out y)=true:=by
 unfold Wrk.bo Wrk.bx;simp only[Y5,Y3,belF,X.h0 7 (by decide),X.h1 7 (by decide),X.h2 7 (by decide),hy,Bool.true_and];rfl
theorem index1(w:Wrk)(X:X3)(out:List (List AV))(o:Ord)(e:Int)(r:List UInt8)(v:Int)(h:w.sn=[repC o e r v]) :
  FSpec prog 200 [.msu 6 8 1,.fn (.func 224) [] [.rptr [.ptr 3 0]]] (w.bo X out (.rows 8 [ordC o])) (w.bo X out (.rows 8 [ordC o])) (.int .i64 0):=by
 have hd:=drop1 w X out o e r v h .dead (.rows 8 [ordC o])
 have hlt:(0:Int)<1:=by omega
 have hb:ABlk.bel 7 (.rows 8 [ordC o])=true:=rfl;refine⟨⟨_,func200,by kernel_rfl,rfl⟩,Sg func200 rfl fun c0 hc0=>?_⟩;simp only[go_sem,Wrk.bo,Wrk.bx,Int.natCast_one,Int.reduceNeg,Nat.reduceAdd,Nat.reduceSub];(and_intros<;>try omega);refine Run.unloop ?_;refine Rg func200 ?_;simp only[go_sem,hlt,ordC,Int.reduceNeg];(and_intros<;>try omega);refine Ops.callF .free rfl rfl hd (by rfl) rfl (Wrk.belo w X out _ hb) (Wrk.belo w X out _ hb) rfl rfl Vl ?_;refine Og func200 ?_;simp only[go_sem,Wrk.bx];(and_intros<;>try first|rfl|omega)
theorem delete1(w:Wrk)(X:X3)(out:List (List AV))(o:Ord)(e:Int)(r:List UInt8)(v:Int)(h:w.sn=[repC o e r v]) :
  FSpec prog 222 [.msu 6 8 1,.fn (.func 224) [] [.rptr [.ptr 3 0]]] (w.bo X out (.rows 8 [ordC o])) (w.bo X out .dead) (.sl 8 [] .no):=by
 have hd:=index1 w X out o e r v h
 have hlt:¬(1:Int)<1:=by omega
 have hne:¬(0:Int)=-1:=by omega
 have z01:(0:Int)+1=1:=rfl;have hb:ABlk.bel 7 (.rows 8 [ordC o])=true:=rfl;refine⟨⟨_,func222,by kernel_rfl,rfl⟩,Sg func222 rfl fun c0 hc0=>?_⟩;simp only[go_sem,Wrk.bo,Wrk.bx,Int.reduceNeg,Nat.reduceAdd,Nat.reduceSub];(and_intros<;>try omega);refine Ops.callF .free rfl rfl hd (by rfl) rfl (Wrk.belo w X out _ hb) (Wrk.belo w X out _ hb) rfl rfl Vl ?_;refine Og func222 ?_;simp only[go_sem,Wrk.bo,Wrk.bx,hne,z01,Int.reduceNeg];(and_intros<;>try omega);refine Run.unloop ?_;refine Run.god tab_ok follows_ok func222 3 ?_;simp only[go_sem,hlt,Int.natCast_one];refine Run.resolve (j:=0) (i:=6) rfl rfl fun cap hcap hcm=>?_;simp only[Y6,Y7,Ya,Y9,Yp] at hcap ⊢;have hpl2:=pad_len 8 (l:=[ordC o]) (cap:=cap) hcap;generalize padJ 8 [ordC o] cap=L at hpl2
 have hc1:1<=L.length:=by omega
 refine Run.god tab_ok follows_ok func222 6 ?_;simp only[go_sem,Int.natCast_one];(and_intros<;>try omega);refine Run.weak (Weak.freezeM 4 6 8 0 0 cap _ rfl rfl (by decide) (by simp) (by simp)) ?_;simp only[Y6,Y7,Yi,Yj];refine Rg func222 ?_;simp only[go_sem]
def ltrO(o:Ord):List AV:=[.int .i64 8,.int .i64 0,.int .i64 0,.int .i64 0,.str [],.nils,.int .i64 0,.int .i64 0,.str [],.nils,.int .i64 0,.int .i64 0,.bool false,.int .i64 0,.str [],.nils,.int .u8 0,.int .u8 0,.int .u8 0,.int .u8 0,.int .u8 0,.int .u8 0,.int .u8 0,.int .u8 0,.int .u8 0,.int .u8 0,.int .u8 0,.int .u8 0,.int .u8 0,.int .u8 0,.int .u8 0,.int .u8 0,.int .u8 0,.int .u8 0,.int .u8 0,.int .u8 0,.int .u8 0,.int .u8 0,.int .u8 0,.int .u8 0,.int .u8 0,.int .u8 0,.int .u8 0,.int .u8 0,.int .u8 0,.int .u8 0,.int .u8 0,.int .u8 0]++ordC o++[.int .i64 0,.int .i64 0,.int .i64 0,.str [],.int .i64 0,.nils]
theorem clipO0:OSpec prog 186 [.sl 8 [] .no] 8 []:=by
 refine⟨⟨_,func186,by kernel_rfl,rfl⟩,?_⟩;refine Sg func186 rfl fun c1 hc1=>?_;simp only[go_sem];(and_intros<;>try omega);exact⟨_,rfl,rfl⟩
theorem indexE0(o:Ord):ASpec prog 231 [.sl 8 [] .no,encO o] (.int .i64 (-1)):=by
 have h3:¬(0:Int)<0:=by omega
 refine Sh func231 (by kernel_rfl) rfl fun c0 hc0=>?_;simp only[go_sem,encO,Int.reduceNeg];(and_intros<;>try omega);refine Run.unloop ?_;refine Rg func231 ?_;simp only[go_sem,h3,Int.reduceNeg];(and_intros<;>try omega);exact Vr
theorem containsE0(o:Ord):ASpec prog 185 [.sl 8 [] .no,encO o] (.bool false):=by
 have h:=indexE0 o;refine Sh func185 (by kernel_rfl) rfl fun c0 hc0=>?_;simp only[go_sem,encO];refine Ops.pure .free rfl rfl (h) Vl rfl rfl ?_;refine Og func185 ?_;simp only[go_sem,Int.reduceNeg];(and_intros<;>try omega);exact Vr
theorem ordered_w(w:Wrk)(h:w.sn=[])(ha:w.asked=[])(X:X3)(out out2:List (List AV))(w2:Wrk)(o:Ord)(hm:mayO o=true)
  (hL:FSpec prog 138 [.ptr 3 0] (Wrk.bx { w with asked:=[ordC o] } X out) (w2.bx X out2) (.tup [])) :
  FSpec prog 134 [.ptr 3 0,.agg (ltrO o)] (w.bx X out) (w2.bx X out2) (.tup []):=by
 have hl:=last0 w.sh w.now w.bk w.tb o.a;have hy:=may_spec o;rw[hm] at hy;have hn:=isnew0 w h o;have hc:=containsE0 o;have hk:=clipO0;obtain⟨s,me,wide,low,ent,sh,now,bk,tb,sn,log,cells,asked⟩:=w;dsimp only at h ha hl hL;subst h ha
 have h20:(0:Int)<20:=by omega
 refine⟨⟨_,func134,by kernel_rfl,rfl⟩,Sg func134 rfl fun c0 hc0=>?_⟩;simp only[go_sem,Wrk.bx,Wrk.cs,rplC,ltrO,ordC,xtab_52,xtab_174,Nat.reduceAdd,Nat.reduceLeDiff,Nat.reduceSub];(and_intros<;>try first|rfl|omega);refine DOps.pure rfl .free rfl rfl (hl) (by exact Vl) rfl rfl ?_;refine Dg func134 rfl ?_;simp only[go_sem,rep0,xtab_52];(and_intros<;>try first|rfl|omega);refine Ops.pure .free rfl rfl (hy) (by exact Vl) rfl rfl ?_;refine Og func134 ?_;simp only[go_sem,xtab_52,xtab_174];(and_intros<;>try first|rfl|omega);refine DOps.pure rfl .free rfl rfl (hn) (by exact Vl) rfl rfl ?_;refine Dg func134 rfl ?_;simp only[go_sem,h20,xtab_52,xtab_174];(and_intros<;>try first|rfl|omega);refine DOps.pure rfl (Wanted.test 16 true true rfl) rfl rfl (hc) Vl rfl rfl ?_;refine Dg func134 rfl ?_;simp only[go_sem,xtab_174];(and_intros<;>try first|rfl|omega);refine DOps.own rfl .free rfl rfl (hk) (by exact Vl) rfl rfl ?_;refine DOps.god tab_ok follows_ok func134 0 rfl ?_;simp only[go_sem,xtab_52,xtab_174];(and_intros<;>try first|rfl|omega);refine Run.weak (Weak.untok 3 57 8 _ _ _ rfl rfl) ?_;simp only[Y6,Y7];refine Rg func134 ?_;simp only[go_sem];(and_intros<;>try omega);refine Ops.callF .free rfl rfl (hL) (by rfl) rfl (Wrk.bel _ _ _) (Wrk.bel _ _ _) rfl rfl Vl ?_;refine Og func134 ?_;simp only[go_sem,Wrk.bx,Wrk.cs,rplC]
theorem xtab_256:xtabM 256=some ⟨.fn,1,8,0,[],[.nilf],[],false⟩:=by rfl
def zRpl:List AV:=[.int .i64 0,.int .i64 0,.int .i64 0,.int .i64 0,.int .i64 0,.int .i64 0,.int .i64 0,.int .i64 0,.nils,.int .i64 0,.int .i64 0,.int .i64 0,.int .i64 0,.nils,.int .i64 0,.int .i64 0,.nils,.int .i64 0,.int .u8 0,.int .u8 0,.int .u8 0,.int .u8 0,.int .u8 0,.int .u8 0,.int .u8 0,.int .u8 0,.int .u8 0,.int .u8 0,.int .u8 0,.int .u8 0,.int .u8 0,.int .u8 0,.int .u8 0,.int .u8 0,.int .u8 0,.int .u8 0,.int .u8 0,.int .u8 0,.int .u8 0,.int .u8 0,.int .u8 0,.int .u8 0,.int .u8 0,.int .u8 0,.int .u8 0,.int .u8 0,.int .u8 0,.int .u8 0,.int .u8 0,.int .u8 0,.nils,.int .i64 0,.nils,.nils,.nils,.nils,.nils,.nils]
def hearX(w:Wrk)(lt:List AV)(h:∀ n,5<=n->belL n lt=true):X3:=⟨.box w.cs,.box lt,.box zRpl,fun _ _=>rfl,h,fun _ _=>rfl⟩
theorem hear1_spec(w w2:Wrk)(b v:Int)(x:Bts)(c1 c2:Int)(c3:Bts)(out:List (List AV))
  (H:∀ X,FSpec prog 131 [.ptr 3 0,.agg (ltrP 0 1 b v x c1 c2 c3 .nils)] (w.bx X []) (w2.bx X out) (.tup [])) :
  ASpec prog 73 [.agg w.cs,.agg (ltrP 0 1 b v x c1 c2 c3 .nils)] (.tup [.agg w2.cs,.sl 62 out .no]):=by
 have H2:=H (hearX w (ltrP 0 1 b v x c1 c2 c3 .nils) fun _ _=>rfl);have hd:=done_w w2 (hearX w (ltrP 0 1 b v x c1 c2 c3 .nils) fun _ _=>rfl) out;clear H;obtain⟨s,me,wide,low,ent,sh,now,bk,tb,sn,log,cells,asked⟩:=w;refine⟨⟨_,func73,by kernel_rfl,rfl⟩,ACall.of func73 rfl fun c0 hc0=>?_⟩;simp only[Nat.reduceAdd,Nat.reduceSub,go_sem];refine Run.god tab_ok follows_ok func73 4 ?_;simp only[go_sem,Wrk.cs,rplC,ltrP,ltrZ,xtab_174];refine Run.weak (Weak.ownC 3 58 62 _ rfl rfl) ?_;simp only[Y6,Y7,Ya,Y9,Y5,Y3,Nat.reduceAdd,Yp];refine Rg func73 ?_;simp only[go_sem,xtab_256,afind,akeq,xtab_52,xtab_257];(and_intros<;>try omega)
 all_goals try exact trivial
 refine Ops.callF .free rfl rfl (H2) (by rfl) rfl (Wrk.bel _ _ _) (Wrk.bel _ _ _) rfl rfl Vl ?_;refine Og func73 ?_;simp only[go_sem,Wrk.bx,hearX,zRpl];(and_intros<;>try first|rfl|omega);refine Ops.callF .free rfl rfl (hd) (by rfl) rfl (Wrk.bel _ _ _) (Wrk.bel _ _ _) rfl rfl Vl ?_;refine Og func73 ?_;simp only[go_sem,Wrk.bx,hearX,zRpl,Wrk.cs,rplC];(and_intros<;>try first|rfl|omega);(repeat' first|exact .refl _|apply LeR.tup|constructor)
theorem hear2_spec(w w2:Wrk)(b v:Int)(x:Bts)(c1 c2:Int)(c3:Bts)(out:List (List AV))
  (H:∀ X,FSpec prog 131 [.ptr 3 0,.agg (ltrP 0 2 b v x c1 c2 c3 .nils)] (w.bx X []) (w2.bx X out) (.tup [])) :
  ASpec prog 73 [.agg w.cs,.agg (ltrP 0 2 b v x c1 c2 c3 .nils)] (.tup [.agg w2.cs,.sl 62 out .no]):=by
 have H2:=H (hearX w (ltrP 0 2 b v x c1 c2 c3 .nils) fun _ _=>rfl);have hd:=done_w w2 (hearX w (ltrP 0 2 b v x c1 c2 c3 .nils) fun _ _=>rfl) out;clear H;obtain⟨s,me,wide,low,ent,sh,now,bk,tb,sn,log,cells,asked⟩:=w;refine⟨⟨_,func73,by kernel_rfl,rfl⟩,ACall.of func73 rfl fun c0 hc0=>?_⟩;simp only[Nat.reduceAdd,Nat.reduceSub,go_sem];refine Run.god tab_ok follows_ok func73 4 ?_;simp only[go_sem,Wrk.cs,rplC,ltrP,ltrZ,xtab_174];refine Run.weak (Weak.ownC 3 58 62 _ rfl rfl) ?_;simp only[Y6,Y7,Ya,Y9,Y5,Y3,Nat.reduceAdd,Yp];refine Rg func73 ?_;simp only[go_sem,xtab_256,afind,akeq,xtab_52,xtab_257];(and_intros<;>try omega)
 all_goals try exact trivial
 refine Ops.callF .free rfl rfl (H2) (by rfl) rfl (Wrk.bel _ _ _) (Wrk.bel _ _ _) rfl rfl Vl ?_;refine Og func73 ?_;simp only[go_sem,Wrk.bx,hearX,zRpl];(and_intros<;>try first|rfl|omega);refine Ops.callF .free rfl rfl (hd) (by rfl) rfl (Wrk.bel _ _ _) (Wrk.bel _ _ _) rfl rfl Vl ?_;refine Og func73 ?_;simp only[go_sem,Wrk.bx,hearX,zRpl,Wrk.cs,rplC];(and_intros<;>try first|rfl|omega);(repeat' first|exact .refl _|apply LeR.tup|constructor)
theorem hear8_spec(w w2:Wrk)(o:Ord)(out:List (List AV))
  (H:∀ X,FSpec prog 134 [.ptr 3 0,.agg (ltrO o)] (w.bx X []) (w2.bx X out) (.tup [])) :
  ASpec prog 73 [.agg w.cs,.agg (ltrO o)] (.tup [.agg w2.cs,.sl 62 out .no]):=by
 have H2:=H (hearX w (ltrO o) fun _ _=>rfl);have hd:=done_w w2 (hearX w (ltrO o) fun _ _=>rfl) out;clear H;obtain⟨s,me,wide,low,ent,sh,now,bk,tb,sn,log,cells,asked⟩:=w;refine⟨⟨_,func73,by kernel_rfl,rfl⟩,ACall.of func73 rfl fun c0 hc0=>?_⟩;simp only[Nat.reduceAdd,Nat.reduceSub,go_sem];refine Run.god tab_ok follows_ok func73 4 ?_;simp only[go_sem,Wrk.cs,rplC,ltrO,ordC,xtab_174];refine Run.weak (Weak.ownC 3 58 62 _ rfl rfl) ?_;simp only[Y6,Y7,Ya,Y9,Y5,Y3,Nat.reduceAdd,Yp];refine Rg func73 ?_;simp only[go_sem,xtab_256,afind,akeq,xtab_52,xtab_257];(and_intros<;>try omega)
 all_goals try exact trivial
 refine Ops.callF .free rfl rfl (H2) (by rfl) rfl (Wrk.bel _ _ _) (Wrk.bel _ _ _) rfl rfl Vl ?_;refine Og func73 ?_;simp only[go_sem,Wrk.bx,hearX,zRpl];(and_intros<;>try first|rfl|omega);refine Ops.callF .free rfl rfl (hd) (by rfl) rfl (Wrk.bel _ _ _) (Wrk.bel _ _ _) rfl rfl Vl ?_;refine Og func73 ?_;simp only[go_sem,Wrk.bx,hearX,zRpl,Wrk.cs,rplC];(and_intros<;>try first|rfl|omega);(repeat' first|exact .refl _|apply LeR.tup|constructor)
inductive LQ:AV->AV->Prop where
 |refl (a:AV):LQ a a
 |nil (k:Nat):LQ .nils (.sl k [] .no)
 |nest (k:Nat) {l m:List (List AV)} (h:LNN l m):LQ (.sl k l .no) (.sl k m .no)
theorem LQ.rv{a b:AV}(h:LQ a b){c:Cx}{v:Value}(hv:RV c v a):RV c v b:=by
 cases h with
 |refl=>exact hv
 |nil k=>cases hv;exact .nil_sl k
 |nest k h=>exact h.rv hv
theorem LQ.cell{a b:AV}(h:LQ a b)(ha:a.cell=true):b.cell=true:=by
 cases h with
 |refl=>exact ha
 |nil k=>rfl
 |nest k h=>rfl
inductive LQL:List AV->List AV->Prop where
 |nil:LQL [] []
 |cons {a b:AV} {xs ys:List AV} (h:LQ a b) (hs:LQL xs ys):LQL (a::xs) (b::ys)
theorem LQL.get{xs ys:List AV}(h:LQL xs ys):xs.length=ys.length/\∀ (i:Nat) b,ys[i]? = some b->∃ a,xs[i]? = some a/\LQ a b:=by
 induction h with
 |nil=>exact⟨rfl,fun i b h=>by simp at h⟩
 |cons h _ ih=>
  refine⟨by simp[ih.1],fun i b hb=>?_⟩
  cases i with
  |zero=>simp at hb;subst hb;exact⟨_,rfl,h⟩
  |succ i=>exact ih.2 i b (by simpa using hb)
theorem ASpec.nest{P:Program}{f:FuncId}{args:List AV}{xs ys:List AV}{x:AV}(H:ASpec P f args (.tup [.agg xs,x]))(h:LQL xs ys):ASpec P f args (.tup [.agg ys,x]):=by
 refine⟨H.fn,fun c vs hch hc ht=>(H.run c vs hch hc ht).mono ?_⟩;rintro e w' ⟨v,ρ',r,h',rfl,g1,g2,g3,hle⟩;refine⟨v,ρ',.tup [.agg ys,x],h',rfl,g1,g2,?_,.one (.refl _)⟩;have hv:=hle.rv g3
 cases hv with
 |tup us _ hs hr=>
  refine .tup us _ (by simpa using hs) fun i u b hu hb=>?_
  match i,hb with
  |0,hb=>
   simp at hb;subst hb;have hq:=hr 0 u (.agg xs) hu rfl
   cases hq with
   |agg ws _ hs2 hc2 hr2=>
    obtain⟨e1,e2⟩:=h.get;refine .agg ws _ (hs2.trans e1) (fun j a ha=>?_) fun j w a hw ha=>?_
    ·obtain⟨a',q1,q2⟩:=e2 j a ha;exact q2.cell (hc2 j a' q1)
    ·obtain⟨a',q1,q2⟩:=e2 j a ha;exact q2.rv (hr2 j w a' hw q1)
  |1,hb=>exact hr 1 u b hu hb
  |i+2,hb=>simp at hb
def nod9(s:Sz)(me:Int):List AV:=[.int .i64 s.f,.int .i64 s.t,.int .i64 me,.int .i64 0,.bool false,.int .i64 0,.str [],.nils,.nils,.int .i64 s.f,.int .i64 s.t,.nils,.nils,.nils,.bool false,.str [],.nils,.int .i64 (-1)]
def nod0(s:Sz)(me:Int):List AV:=nodC (acp0 s me) s [] [] [] false [] (-1)
theorem nod_le(s:Sz)(me:Int):LNL (nod9 s me) (nod0 s me):=by
 unfold nod9 nod0 nodC pC lrnC vA acp0;(repeat'(first|exact LNL.nil|exact LN.refl _|exact LN.nil _|apply LNL.cons))
theorem nods_le(s:Sz)(me:Int):∀ n:Nat,LNN (List.replicate n (nod9 s me)) (List.replicate n (nod0 s me))
 |0=>.nil
 |n+1=>by rw[List.replicate_succ,List.replicate_succ];exact .cons (nod_le s me) (nods_le s me n)
def newC(s:Sz)(me wide:Int):List AV:=[.int .i64 s.f,.int .i64 s.t,.int .i64 me,.int .i64 wide,.int .i64 s.f,.int .i64 s.t,.int .i64 me,.int .i64 0,zsA s,.int .i64 0,.int .i64 4,.int .i64 wide,.int .i64 0,.nils,.int .i64 s.f,.int .i64 s.t,.nils,.int .i64 0,.int .u8 0,.int .u8 0,.int .u8 0,.int .u8 0,.int .u8 0,.int .u8 0,.int .u8 0,.int .u8 0,.int .u8 0,.int .u8 0,.int .u8 0,.int .u8 0,.int .u8 0,.int .u8 0,.int .u8 0,.int .u8 0,.int .u8 0,.int .u8 0,.int .u8 0,.int .u8 0,.int .u8 0,.int .u8 0,.int .u8 0,.int .u8 0,.int .u8 0,.int .u8 0,.int .u8 0,.int .u8 0,.int .u8 0,.int .u8 0,.int .u8 0,.int .u8 0,.sl 4 [rootC] .no,.int .i64 0,.nils,.nils,.nils,.nils,.sl 18 (List.replicate wide.toNat (nod9 s me)) .no,.nils]
def newW(s:Sz)(me wide:Int):Wrk:=⟨s,me,wide,0,[],[rootC],0,[],[],[],[],List.replicate wide.toNat (nod0 s me),[]⟩
theorem newC_le(s:Sz)(me wide:Int):LQL (newC s me wide) (newW s me wide).cs:=by
 unfold newC newW Wrk.cs rplC;(repeat'(first|exact LQL.nil|exact LQ.refl _|exact LQ.nil _|exact LQ.nest _ (nods_le _ _ _)|apply LQL.cons))
set_option maxRecDepth 1000000
noncomputable def nn(f t me wide:Int):Option AV:=fst9 (ncalled9 xfun (nrun9 xfun M9 K8 xtab 100000) o0 28 [.agg [.int .i64 f,.int .i64 t],.int .i64 me,.int .i64 wide] HT.nil)
theorem nn_spec{f t me wide:Int}(h:nn f t me wide=some (.tup [.agg (newC ⟨f,t⟩ me wide),.int .i64 0])):ASpec prog 28 [eS ⟨f,t⟩,.int .i64 me,.int .i64 wide] (.tup [.agg (newW ⟨f,t⟩ me wide).cs,.int .i64 0]):=by
 obtain⟨h',e⟩:=fst9_ok h;exact ASpec.nest (ASpec.of9 xfun_ok M9_ok K8_ok K8_pres xtab_ok xfollows_ok 100000 e) (newC_le _ _ _)
theorem nn_0_0_1:nn 1 0 0 1=some (.tup [.agg (newC ⟨1,0⟩ 0 1),.int .i64 0]):=by kernel_rfl
theorem nn_0_0_2:nn 1 0 0 2=some (.tup [.agg (newC ⟨1,0⟩ 0 2),.int .i64 0]):=by kernel_rfl
theorem nn_0_0_3:nn 1 0 0 3=some (.tup [.agg (newC ⟨1,0⟩ 0 3),.int .i64 0]):=by kernel_rfl
theorem nn_0_0_4:nn 1 0 0 4=some (.tup [.agg (newC ⟨1,0⟩ 0 4),.int .i64 0]):=by kernel_rfl
theorem nn_0_1_1:nn 1 0 1 1=some (.tup [.agg (newC ⟨1,0⟩ 1 1),.int .i64 0]):=by kernel_rfl
theorem nn_0_1_2:nn 1 0 1 2=some (.tup [.agg (newC ⟨1,0⟩ 1 2),.int .i64 0]):=by kernel_rfl
theorem nn_0_1_3:nn 1 0 1 3=some (.tup [.agg (newC ⟨1,0⟩ 1 3),.int .i64 0]):=by kernel_rfl
theorem nn_0_1_4:nn 1 0 1 4=some (.tup [.agg (newC ⟨1,0⟩ 1 4),.int .i64 0]):=by kernel_rfl
theorem nn_0_2_1:nn 1 0 2 1=some (.tup [.agg (newC ⟨1,0⟩ 2 1),.int .i64 0]):=by kernel_rfl
theorem nn_0_2_2:nn 1 0 2 2=some (.tup [.agg (newC ⟨1,0⟩ 2 2),.int .i64 0]):=by kernel_rfl
theorem nn_0_2_3:nn 1 0 2 3=some (.tup [.agg (newC ⟨1,0⟩ 2 3),.int .i64 0]):=by kernel_rfl
theorem nn_0_2_4:nn 1 0 2 4=some (.tup [.agg (newC ⟨1,0⟩ 2 4),.int .i64 0]):=by kernel_rfl
theorem nn_0_3_1:nn 1 0 3 1=some (.tup [.agg (newC ⟨1,0⟩ 3 1),.int .i64 0]):=by kernel_rfl
theorem nn_0_3_2:nn 1 0 3 2=some (.tup [.agg (newC ⟨1,0⟩ 3 2),.int .i64 0]):=by kernel_rfl
theorem nn_0_3_3:nn 1 0 3 3=some (.tup [.agg (newC ⟨1,0⟩ 3 3),.int .i64 0]):=by kernel_rfl
theorem nn_0_3_4:nn 1 0 3 4=some (.tup [.agg (newC ⟨1,0⟩ 3 4),.int .i64 0]):=by kernel_rfl
theorem nn_1_0_1:nn 1 1 0 1=some (.tup [.agg (newC ⟨1,1⟩ 0 1),.int .i64 0]):=by kernel_rfl
theorem nn_1_0_2:nn 1 1 0 2=some (.tup [.agg (newC ⟨1,1⟩ 0 2),.int .i64 0]):=by kernel_rfl
theorem nn_1_0_3:nn 1 1 0 3=some (.tup [.agg (newC ⟨1,1⟩ 0 3),.int .i64 0]):=by kernel_rfl
theorem nn_1_0_4:nn 1 1 0 4=some (.tup [.agg (newC ⟨1,1⟩ 0 4),.int .i64 0]):=by kernel_rfl
theorem nn_1_1_1:nn 1 1 1 1=some (.tup [.agg (newC ⟨1,1⟩ 1 1),.int .i64 0]):=by kernel_rfl
theorem nn_1_1_2:nn 1 1 1 2=some (.tup [.agg (newC ⟨1,1⟩ 1 2),.int .i64 0]):=by kernel_rfl
theorem nn_1_1_3:nn 1 1 1 3=some (.tup [.agg (newC ⟨1,1⟩ 1 3),.int .i64 0]):=by kernel_rfl
theorem nn_1_1_4:nn 1 1 1 4=some (.tup [.agg (newC ⟨1,1⟩ 1 4),.int .i64 0]):=by kernel_rfl
theorem nn_1_2_1:nn 1 1 2 1=some (.tup [.agg (newC ⟨1,1⟩ 2 1),.int .i64 0]):=by kernel_rfl
theorem nn_1_2_2:nn 1 1 2 2=some (.tup [.agg (newC ⟨1,1⟩ 2 2),.int .i64 0]):=by kernel_rfl
theorem nn_1_2_3:nn 1 1 2 3=some (.tup [.agg (newC ⟨1,1⟩ 2 3),.int .i64 0]):=by kernel_rfl
theorem nn_1_2_4:nn 1 1 2 4=some (.tup [.agg (newC ⟨1,1⟩ 2 4),.int .i64 0]):=by kernel_rfl
theorem nn_1_3_1:nn 1 1 3 1=some (.tup [.agg (newC ⟨1,1⟩ 3 1),.int .i64 0]):=by kernel_rfl
theorem nn_1_3_2:nn 1 1 3 2=some (.tup [.agg (newC ⟨1,1⟩ 3 2),.int .i64 0]):=by kernel_rfl
theorem nn_1_3_3:nn 1 1 3 3=some (.tup [.agg (newC ⟨1,1⟩ 3 3),.int .i64 0]):=by kernel_rfl
theorem nn_1_3_4:nn 1 1 3 4=some (.tup [.agg (newC ⟨1,1⟩ 3 4),.int .i64 0]):=by kernel_rfl
theorem nn_1_4_1:nn 1 1 4 1=some (.tup [.agg (newC ⟨1,1⟩ 4 1),.int .i64 0]):=by kernel_rfl
theorem nn_1_4_2:nn 1 1 4 2=some (.tup [.agg (newC ⟨1,1⟩ 4 2),.int .i64 0]):=by kernel_rfl
theorem nn_1_4_3:nn 1 1 4 3=some (.tup [.agg (newC ⟨1,1⟩ 4 3),.int .i64 0]):=by kernel_rfl
theorem nn_1_4_4:nn 1 1 4 4=some (.tup [.agg (newC ⟨1,1⟩ 4 4),.int .i64 0]):=by kernel_rfl
theorem nn_1_5_1:nn 1 1 5 1=some (.tup [.agg (newC ⟨1,1⟩ 5 1),.int .i64 0]):=by kernel_rfl
theorem nn_1_5_2:nn 1 1 5 2=some (.tup [.agg (newC ⟨1,1⟩ 5 2),.int .i64 0]):=by kernel_rfl
theorem nn_1_5_3:nn 1 1 5 3=some (.tup [.agg (newC ⟨1,1⟩ 5 3),.int .i64 0]):=by kernel_rfl
theorem nn_1_5_4:nn 1 1 5 4=some (.tup [.agg (newC ⟨1,1⟩ 5 4),.int .i64 0]):=by kernel_rfl
theorem new_spec{t me wide:Int}(ht:t=0\/t=1)(h0:0<=me)(h1:me<4+2*t)(w1:1<=wide)(w4:wide<=4):ASpec prog 28 [eS ⟨1,t⟩,.int .i64 me,.int .i64 wide] (.tup [.agg (newW ⟨1,t⟩ me wide).cs,.int .i64 0]):=by
 have hw:wide=1\/wide=2\/wide=3\/wide=4:=by omega
 rcases ht with rfl|rfl
 ·have hm:me=0\/me=1\/me=2\/me=3:=by omega
  rcases hm with rfl|rfl|rfl|rfl
  ·rcases hw with rfl|rfl|rfl|rfl
   ·exact nn_spec nn_0_0_1
   ·exact nn_spec nn_0_0_2
   ·exact nn_spec nn_0_0_3
   ·exact nn_spec nn_0_0_4
  ·rcases hw with rfl|rfl|rfl|rfl
   ·exact nn_spec nn_0_1_1
   ·exact nn_spec nn_0_1_2
   ·exact nn_spec nn_0_1_3
   ·exact nn_spec nn_0_1_4
  ·rcases hw with rfl|rfl|rfl|rfl
   ·exact nn_spec nn_0_2_1
   ·exact nn_spec nn_0_2_2
   ·exact nn_spec nn_0_2_3
   ·exact nn_spec nn_0_2_4
  ·rcases hw with rfl|rfl|rfl|rfl
   ·exact nn_spec nn_0_3_1
   ·exact nn_spec nn_0_3_2
   ·exact nn_spec nn_0_3_3
   ·exact nn_spec nn_0_3_4
 ·have hm:me=0\/me=1\/me=2\/me=3\/me=4\/me=5:=by omega
  rcases hm with rfl|rfl|rfl|rfl|rfl|rfl
  ·rcases hw with rfl|rfl|rfl|rfl
   ·exact nn_spec nn_1_0_1
   ·exact nn_spec nn_1_0_2
   ·exact nn_spec nn_1_0_3
   ·exact nn_spec nn_1_0_4
  ·rcases hw with rfl|rfl|rfl|rfl
   ·exact nn_spec nn_1_1_1
   ·exact nn_spec nn_1_1_2
   ·exact nn_spec nn_1_1_3
   ·exact nn_spec nn_1_1_4
  ·rcases hw with rfl|rfl|rfl|rfl
   ·exact nn_spec nn_1_2_1
   ·exact nn_spec nn_1_2_2
   ·exact nn_spec nn_1_2_3
   ·exact nn_spec nn_1_2_4
  ·rcases hw with rfl|rfl|rfl|rfl
   ·exact nn_spec nn_1_3_1
   ·exact nn_spec nn_1_3_2
   ·exact nn_spec nn_1_3_3
   ·exact nn_spec nn_1_3_4
  ·rcases hw with rfl|rfl|rfl|rfl
   ·exact nn_spec nn_1_4_1
   ·exact nn_spec nn_1_4_2
   ·exact nn_spec nn_1_4_3
   ·exact nn_spec nn_1_4_4
  ·rcases hw with rfl|rfl|rfl|rfl
   ·exact nn_spec nn_1_5_1
   ·exact nn_spec nn_1_5_2
   ·exact nn_spec nn_1_5_3
   ·exact nn_spec nn_1_5_4
def Wrk.Un(w:Wrk)(i:Nat):Prop:=∃ a sz l c q v p,w.cells[i]? = some (nodC a sz l c q false v p)
theorem learn_no(w:Wrk)(h:w.Ok)(X:X3)(out:List (List AV))(hr:∀ j:Nat,w.low<=(j:Int)->(j:Int)<w.low+w.wide->w.Un j) :
  FSpec prog 219 [.ptr 3 0] (w.bx X out) (w.bx X out) (.tup []):=by
 have hend:=end_w w h;have hcell:=fun(j:Nat) a sz l c q v p (hj:(j:Int)<w.low+w.wide) (e:w.cells[j]? = some (nodC a sz l c q false v p))=>cell_w w h X out j a sz l c q false v p e (by have:=h.w4;have:=h.l1;omega);obtain⟨w1,w4,l0,l1⟩:=h;obtain⟨s,me,wide,low,ent,sh,now,bk,tb,sn,log,cells,asked⟩:=w;dsimp only[Wrk.Un] at hr hcell w1 w4 l0 l1
 obtain⟨n,rfl⟩:∃ n:Nat,low=n:=⟨low.toNat,by omega⟩
 refine⟨⟨_,func219,by kernel_rfl,rfl⟩,Sg func219 rfl fun c0 hc0=>?_⟩;simp only[go_sem,Wrk.bx,Wrk.cs,rplC,xtab_174,Nat.reduceAdd,Nat.reduceLeDiff,Nat.reduceSub];(and_intros<;>try omega);refine Run.loopV (α:=Nat) (fun j=>n<=j/\(j:Int)<=n+wide) (fun j=>[(2,.int .i64 j)]) 5 (fun _=>[]) (fun j=>(n+wide).toNat-j) n ⟨Nat.le_refl n,by omega⟩ ?_ ?_
 ·simp only[writes,junks,puts,hputs,List.filterMap_cons,List.filterMap_nil,Y6,Y7,Yg,Yk,Y5,Y3,Yd];(refine Weak.of (by simp[hc0,Wrk.bx]) ?_ ?_<;>repeat' first|exact .refl _|exact .junk _|exact X.h0 _ (by simp)|exact X.h1 _ (by simp)|exact X.h2 _ (by simp)|rfl|apply Le.agg|constructor)
 rintro j ⟨hj0,hj1⟩ ih;simp only[writes,junks,puts,hputs,List.filterMap_cons,List.filterMap_nil,Y6,Y7,Yg,Yk,Y5,Y3,Yd] at ih ⊢
 by_cases hj:(j:Int)<n+wide
 case pos=>
  obtain⟨a,sz,l,c,q,v,p,e⟩:=hr j (by omega) hj;have hc:=hcell j a sz l c q v p hj e;refine Rg func219 ?_;simp only[go_sem,xtab_174];(and_intros<;>try omega);refine Ops.pure .free rfl rfl (hend) Vl rfl rfl ?_;refine Og func219 ?_;simp only[go_sem,hj];(and_intros<;>try omega);refine Ops.callF .free rfl rfl (hc) (by rfl) rfl (Wrk.bel _ _ _) (Wrk.bel _ _ _) rfl rfl Vl ?_;refine Og func219 ?_;simp only[go_sem,nodA,nodC,pC,lrnC,Wrk.bx,Wrk.cs,rplC];(and_intros<;>try omega);refine ih (j+1) _ ⟨by omega,by omega⟩ (by omega) ?_;simp only[Int.natCast_add,Int.natCast_one];(refine Weak.of (by simp[hc0,Wrk.bx]) ?_ ?_<;>repeat' first|exact .refl _|exact .junk _|exact X.h0 _ (by simp)|exact X.h1 _ (by simp)|exact X.h2 _ (by simp)|rfl|apply Le.agg|constructor)
 case neg=>
  refine Rg func219 ?_;simp only[go_sem,xtab_174];(and_intros<;>try omega);refine Ops.pure .free rfl rfl (hend) Vl rfl rfl ?_;refine Og func219 ?_;simp only[go_sem,hj]
theorem settle_no(w:Wrk)(h:w.Ok)(he:w.ent=[])(X:X3)(out:List (List AV))(hr:∀ j:Nat,w.low<=(j:Int)->(j:Int)<w.low+w.wide->w.Un j) :
  FSpec prog 180 [.ptr 3 0] (w.bx X out) (w.bx X out) (.tup []):=by
 have hlearn:=learn_no w h X out hr;have hlow:=low_w w h;have htake:=wtake0 w.wide w.low;obtain⟨s,me,wide,low,ent,sh,now,bk,tb,sn,log,cells,asked⟩:=w;dsimp only at he htake;subst he;refine⟨⟨_,func180,by kernel_rfl,rfl⟩,Sg func180 rfl fun c0 hc0=>?_⟩;simp only[go_sem,Wrk.bx,Wrk.cs,rplC,Nat.reduceAdd,Nat.reduceSub];(and_intros<;>try omega);refine Run.unloop ?_;refine Rg func180 ?_;simp only[go_sem,xtab_172];(and_intros<;>try omega);refine Ops.callF .free rfl rfl (hlearn) (by rfl) rfl (Wrk.bel _ _ _) (Wrk.bel _ _ _) rfl rfl Vl ?_;refine Og func180 ?_;simp only[go_sem,Wrk.bx,Wrk.cs,rplC,xtab_172,xtab_174];(and_intros<;>try omega);refine Ops.pure .free rfl rfl (hlow) Vl rfl rfl ?_;refine Og func180 ?_;simp only[go_sem,xtab_172,xtab_174];(and_intros<;>try omega);refine Ops.pure .free rfl rfl (htake) Vl rfl rfl ?_;refine Og func180 ?_;simp only[go_sem,winA]
def entJ(x:Bts):Nat->List (List AV)
 |0=>[]
 |_+1=>[[.int .i64 0,.str x]]
theorem learn_yes(w:Wrk)(h:w.Ok)(he:w.ent=[])(hl0:w.low=0)(X:X3)(out:List (List AV))(x:Bts)(hx:x.length<=6000)(a:Acp)(sz:Sz)(l c q:List Acc)(p:Int)(h0:w.cells[0]? = some (nodC a sz l c q true x p))
  (hr:∀ j:Nat,1<=j->(j:Int)<w.wide->w.Un j) :
  FSpec prog 219 [.ptr 3 0] (w.bx X out) (Wrk.bx { w with ent:=[[.int .i64 0,.str x]] } X out) (.tup []):=by
 have hwl:=wlearn_spec w.wide h.w1 (by have:=h.w4;omega) x hx;obtain⟨s,me,wide,low,ent,sh,now,bk,tb,sn,log,cells,asked⟩:=w;dsimp only at he hl0 hwl h0;subst he hl0
 have hok:∀ e,Wrk.Ok ⟨s,me,wide,0,e,sh,now,bk,tb,sn,log,cells,asked⟩:=fun e=>⟨h.w1,h.w4,h.l0,h.l1⟩
 have hend:=fun e=>end_w ⟨s,me,wide,0,e,sh,now,bk,tb,sn,log,cells,asked⟩ (hok e);obtain⟨w1,w4,l0,l1⟩:=h;dsimp only[Wrk.Un] at hr w1 w4 l0 l1;have hcell:=fun e (j:Nat) a sz l c q d v p (hj:(j:Int)<wide) (e2:cells[j]? = some (nodC a sz l c q d v p))=>cell_w ⟨s,me,wide,0,e,sh,now,bk,tb,sn,log,cells,asked⟩ (hok e) X out j a sz l c q d v p e2 (by omega);dsimp only at hend;simp only[Int.zero_add] at hend;refine⟨⟨_,func219,by kernel_rfl,rfl⟩,Sg func219 rfl fun c0 hc0=>?_⟩;simp only[go_sem,Wrk.bx,Wrk.cs,rplC,xtab_174,Nat.reduceAdd,Nat.reduceLeDiff,Nat.reduceSub];(and_intros<;>try omega);refine Run.loopV (α:=Nat) (fun j=>(j:Int)<=wide) (fun j=>[(2,.int .i64 j)]) 5 (fun j=>[(3,.box (Wrk.cs ⟨s,me,wide,0,entJ x j,sh,now,bk,tb,sn,log,cells,asked⟩++[.sl 62 out (.own 4)]))]) (fun j=>wide.toNat-j) 0 (by show((0:Nat):Int)<=_;omega) ?_ ?_
 ·simp only[go_sem,writes,junks,puts,hputs,List.filterMap_cons,List.filterMap_nil,Wrk.cs,rplC,entJ];(refine Weak.of (by simp[hc0,Wrk.bx]) ?_ ?_<;>repeat' first|exact .refl _|exact .junk _|exact X.h0 _ (by simp)|exact X.h1 _ (by simp)|exact X.h2 _ (by simp)|rfl|apply Le.agg|constructor)
 rintro j hj1 ih;simp only[writes,junks,puts,hputs,List.filterMap_cons,List.filterMap_nil,Y6,Y7,Yg,Yk,Y5,Y3,Yd,Wrk.cs,rplC] at ih ⊢
 by_cases hj:(j:Int)<wide
 case pos=>
  by_cases hj0:j=0
  case pos=>
   subst hj0
   have hjz:(0:Int)<wide:=by omega
   have hc:=hcell [] 0 a sz l c q true x p hj h0;have he0:=hend [];simp only[entJ];refine Rg func219 ?_;simp only[go_sem,xtab_174];(and_intros<;>try omega);refine Ops.pure .free rfl rfl (he0) Vl rfl rfl ?_;refine Og func219 ?_;simp only[go_sem,hjz];(and_intros<;>try first|rfl|omega);refine Ops.callF .free rfl rfl (hc) (by rfl) rfl (Wrk.bel _ _ _) (Wrk.bel _ _ _) rfl rfl Vl ?_;refine Og func219 ?_;simp only[go_sem,nodA,nodC,pC,lrnC,Wrk.bx,Wrk.cs,rplC,xtab_174];(and_intros<;>try first|rfl|omega);refine DOps.pure rfl .free rfl rfl (hwl) (by exact Vl) rfl rfl ?_;refine Dg func219 rfl ?_;simp only[go_sem,winA,xtab_174];(and_intros<;>try first|rfl|omega);refine ih 1 _ (by omega) (by omega) ?_;simp only[Int.natCast_one,entJ];(refine Weak.of (by simp[hc0,Wrk.bx]) ?_ ?_<;>repeat' first|exact .refl _|exact .junk _|exact X.h0 _ (by simp)|exact X.h1 _ (by simp)|exact X.h2 _ (by simp)|rfl|apply Le.agg|constructor)
  case neg=>
   obtain⟨a,sz,l,c,q,v,p,e⟩:=hr j (by omega) hj;have hc:=hcell [[.int .i64 0,.str x]] j a sz l c q false v p hj e;have he0:=hend [[.int .i64 0,.str x]]
   have ej:entJ x j=[[.int .i64 0,.str x]]:=by
    cases j with
    |zero=>exact absurd rfl hj0
    |succ i=>rfl
   rw[ej];refine Rg func219 ?_;simp only[go_sem,xtab_174];(and_intros<;>try omega);refine Ops.pure .free rfl rfl (he0) Vl rfl rfl ?_;refine Og func219 ?_;simp only[go_sem,hj];(and_intros<;>try omega);refine Ops.callF .free rfl rfl (hc) (by rfl) rfl (Wrk.bel _ _ _) (Wrk.bel _ _ _) rfl rfl Vl ?_;refine Og func219 ?_;simp only[go_sem,nodA,nodC,pC,lrnC,Wrk.bx,Wrk.cs,rplC];(and_intros<;>try omega);refine ih (j+1) _ (by omega) (by omega) ?_;simp only[Int.natCast_add,Int.natCast_one,entJ];(refine Weak.of (by simp[hc0,Wrk.bx]) ?_ ?_<;>repeat' first|exact .refl _|exact .junk _|exact X.h0 _ (by simp)|exact X.h1 _ (by simp)|exact X.h2 _ (by simp)|rfl|apply Le.agg|constructor)
 case neg=>
  by_cases hj0:j=0
  case pos=>exact absurd (by omega) hj
  case neg=>
   have he0:=hend [[.int .i64 0,.str x]]
   have ej:entJ x j=[[.int .i64 0,.str x]]:=by
    cases j with
    |zero=>exact absurd rfl hj0
    |succ i=>rfl
   rw[ej];refine Rg func219 ?_;simp only[go_sem,xtab_174];(and_intros<;>try omega);refine Ops.pure .free rfl rfl (he0) Vl rfl rfl ?_;refine Og func219 ?_;simp only[go_sem,hj]
theorem good_spec(a b c d:Int)(z:AV)(_:z.cell=true)(_:z.bel 0=true):ASpec prog 87 [.agg [.int .i64 a,.int .i64 b,.int .i64 c,.int .i64 d,z,.int .i64 0,.int .i64 4]] (.agg [.int .i64 a,.int .i64 b,.int .i64 c,.int .i64 d,z,.int .i64 0,.int .i64 4]):=by
 refine Sh func87 (by kernel_rfl) rfl fun c0 hc0=>?_;simp only[go_sem];(and_intros<;>try omega);exact Vr
theorem clipS_spec:OSpec prog 267 [.sl 1 [] .no] 1 []:=by
 refine⟨⟨_,func267,by kernel_rfl,rfl⟩,?_⟩;refine Sg func267 rfl fun c1 hc1=>?_;simp only[go_sem];(and_intros<;>try omega);exact⟨_,rfl,rfl⟩
def ltrR(me:Int)(o:Ord)(e:Int)(r:List UInt8)(v:Int):List AV:=[.int .i64 9,.int .i64 me,.int .i64 0,.int .i64 0,.str [],.nils,.int .i64 0,.int .i64 0,.str [],.nils,.int .i64 0,.int .i64 0,.bool false,.int .i64 0,.str [],.nils,.int .u8 0,.int .u8 0,.int .u8 0,.int .u8 0,.int .u8 0,.int .u8 0,.int .u8 0,.int .u8 0,.int .u8 0,.int .u8 0,.int .u8 0,.int .u8 0,.int .u8 0,.int .u8 0,.int .u8 0,.int .u8 0,.int .u8 0,.int .u8 0,.int .u8 0,.int .u8 0,.int .u8 0,.int .u8 0,.int .u8 0,.int .u8 0,.int .u8 0,.int .u8 0,.int .u8 0,.int .u8 0,.int .u8 0,.int .u8 0,.int .u8 0,.int .u8 0,.int .i64 0,.int .i64 0,.int .i64 0,.str [],.str [],.int .i64 0,.int .i64 0,.int .i64 0]++repC o e r v
theorem execute_w(w:Wrk)(X:X3)(out:List (List AV))(ho:out.length<=10000)(o:Ord)(sh:List (List AV))(now:Int)(bk tb:List (List AV))(e:Int)(r:List UInt8)(v:Int)
  (h1:w.sh=[rootC]) (h2:w.now=0) (h3:w.bk=[]) (h4:w.tb=[]) (h5:w.sn=[]) (h6:w.log=[])
  (hA:ASpec prog 42 [realm0,.str (bt1 o)] (.tup [realmA sh now bk tb [repC o e r v],.sl 6 [repC o e r v] .no,.int .i64 0])) :
  FSpec prog 221 [.ptr 3 0,.str (bt1 o)] (w.bx X out) (Wrk.bx { w with sh:=sh,now:=now,bk:=bk,tb:=tb,sn:=[repC o e r v],log:=[[.str (bt1 o)]] } X (out++[ltrR w.me o e r v])) (.tup []):=by
 have hsay:=say_w w X out [ltrR w.me o e r v] (by omega) (by simp);have hclip:=clipS_spec;have hgood:=good_spec w.s.f w.s.t w.me 0 (zsA w.s) rfl rfl;obtain⟨s,me,wide,low,ent,sh0,now0,bk0,tb0,sn0,log,cells,asked⟩:=w;dsimp only at h1 h2 h3 h4 h5 h6 hsay hgood;subst h1 h2 h3 h4 h5 h6
 have hlt:(0:Int)<1:=by omega
 have hlt2:¬(1:Int)<1:=by omega
 have z01:(0:Int)+1=1:=rfl
 have hrem:¬Int.tmod 1 2=0:=by decide
 refine⟨⟨_,func221,by kernel_rfl,rfl⟩,Sg func221 rfl fun c0 hc0=>?_⟩;simp only[go_sem,Wrk.bx,Wrk.cs,rplC,xtab_174,Nat.reduceAdd,Nat.reduceLeDiff,Nat.reduceSub];(and_intros<;>try omega);refine Ops.pure .free rfl rfl (hA) Vl rfl rfl ?_;refine Og func221 ?_;simp only[go_sem,realmA,repC,Int.natCast_one];(and_intros<;>try first|rfl|omega);refine Run.unloop ?_;refine Rg func221 ?_;simp only[go_sem,hlt,xtab_32,xtab_52,xtab_174];(and_intros<;>try first|rfl|omega);refine DOps.callW rfl .free rfl rfl (hsay) (by rfl) rfl (Wrk.bel _ _ _) (Wrk.bel _ _ _) rfl rfl (by simp only[go_sem,ltrR,repC];(repeat' first|exact .refl _|apply LeR.tup|constructor)) ?_;refine Dg func221 rfl ?_;simp only[go_sem,z01,Wrk.bx,Wrk.cs,rplC];(and_intros<;>try first|rfl|omega);refine Run.again ?_;refine Rg func221 ?_;simp only[go_sem,hlt2,xtab_174];(and_intros<;>try first|rfl|omega);refine DOps.own rfl .free rfl rfl (hclip) (by exact Vl) rfl rfl ?_;refine Dg func221 rfl ?_;simp only[go_sem,xtab_174];(and_intros<;>try first|rfl|omega);refine DOps.pure rfl .free rfl rfl (hgood) Vl rfl rfl ?_;refine DOps.god tab_ok follows_ok func221 0 rfl ?_;simp only[go_sem,xtab_174];(and_intros<;>try first|rfl|omega);refine Run.weak (Weak.untok 3 55 1 _ _ _ rfl rfl) ?_;simp only[Y6,Y7];refine Rg func221 ?_;simp only[go_sem,hrem,Int.natCast_one,xtab_174];(and_intros<;>try omega)
theorem ytab_75:xtab 75=some ⟨.sl,1,24,203,[],[.nils],[],false⟩:=by rfl
theorem ytab_203:xtab 203=some ⟨.st,18,256,0,[(0,86),(9,201),(16,41),(17,3)],[.int .i64 0,.int .i64 0,.int .i64 0,.int .i64 0,.bool false,.int .i64 0,.str [],.nils,.nils,.int .i64 0,.int .i64 0,.nils,.nils,.nils,.bool false,.str [],.nils,.int .i64 0],[],false⟩:=by rfl
theorem cloneN_own(l:List (List AV))(hne:l≠[])(hl:l.length<=1000)(_:∀ x∈l,∀ a∈x,a.plain=true):OSpec prog 125 [.sl 18 l .no] 18 l:=by
 have h0:¬l.length=0:=fun e=>hne (List.length_eq_zero_iff.1 e)
 have h1:¬l.length<=0:=by omega
 refine⟨⟨_,func125,by kernel_rfl,rfl⟩,?_⟩;refine ACall.of func125 rfl fun c1 hc1=>?_;simp only[ntmps125,Ya,Y9,Nat.reduceAdd,Nat.reduceSub,Ym,Yn,Y5,Y3];refine Run.god xtab_ok follows_ok func125 60 ?_;simp only[go_sem,h0,ytab_75,ytab_203];(and_intros<;>try omega)
 all_goals first|exact⟨_,rfl,rfl⟩|omega
theorem said0_spec(k:Int):ASpec prog 130 [.junk,.int .i64 k,.nils] (.tup []):=by
 have h3:¬(0:Int)<0:=by omega
 refine Sh func130 (by kernel_rfl) rfl fun c0 hc0=>?_;simp only[go_sem,xtab_252];(and_intros<;>try omega);refine Run.unloop ?_;refine Rg func130 ?_;simp only[go_sem,h3];(and_intros<;>try omega);exact Vr
theorem grow_w(w:Wrk)(h:w.Ok)(hs:w.s.right=true)(hl1:w.low=1)(X:X3)(out:List (List AV))(a:Acp)(ha:newF w.s w.me=some a)(hav:a.view=0)(hc:(w.cells.length:Int)=w.wide)(hp:∀ x∈w.cells,∀ y∈x,y.plain=true) :
  FSpec prog 69 [.ptr 3 0] (w.bx X out) (Wrk.bx { w with cells:=w.cells++[nodC a w.s [] [] [] false [] (-1)] } X out) (.tup []):=by
 have w1:=h.w1;have w4:=h.w4;have hlow:=low_w w h;have hend:=end_w w h
 have hok2:Wrk.Ok { w with cells:=w.cells++[nodC a w.s [] [] [] false [] (-1)] }:=⟨h.w1,h.w4,h.l0,h.l1⟩
 have hend2:=end_w _ hok2;have hcl:=cloneN_own w.cells (by intro e;rw[e] at hc;simp at hc;omega) (by omega) hp;have hbe:=begin_spec w.s hs w.me a ha;have hen:=enters0_spec a hav w.s w.me [] [] [] false [] (-1);have hsd:=said0_spec w.wide
 have hlt:(w.cells.length:Int)<w.low+w.wide:=by omega
 have hlt2:¬(w.cells.length:Int)+1<w.low+w.wide:=by omega
 obtain⟨s,me,wide,low,ent,sh,now,bk,tb,sn,log,cells,asked⟩:=w;dsimp only at hl1 hc hbe hen hsd hlt hlt2 hcl hend hend2 w1 w4;subst hc;refine⟨⟨_,func69,by kernel_rfl,rfl⟩,Sg func69 rfl fun c0 hc0=>?_⟩;simp only[go_sem,Wrk.bx,Wrk.cs,rplC,Int.reduceNeg,xtab_174,Nat.reduceAdd,Nat.reduceLeDiff,Nat.reduceSub];(and_intros<;>try first|rfl|omega);refine Ops.own .free rfl rfl (hcl) Vl rfl ?_;refine Og func69 ?_;simp only[go_sem,Int.reduceNeg,xtab_174];(and_intros<;>try first|rfl|omega);refine DOps.pure rfl .free rfl rfl (hlow) (by simp only[go_sem,Wrk.cs,rplC];(repeat' first|exact .refl _|apply LeR.tup|apply Le.agg|constructor)) rfl rfl ?_;refine Dg func69 rfl ?_;simp only[go_sem,Int.zero_add,Int.reduceNeg,xtab_174];(and_intros<;>try first|rfl|omega);refine Run.unloop ?_;refine Rg func69 ?_;simp only[go_sem,Int.reduceNeg,xtab_174];(and_intros<;>try first|rfl|omega);refine Ops.pure .free rfl rfl (hend) (by simp only[go_sem,Wrk.cs,rplC];(repeat' first|exact .refl _|apply LeR.tup|apply Le.agg|constructor)) rfl rfl ?_;refine Og func69 ?_;simp only[go_sem,hlt,Int.reduceNeg,xtab_174];(and_intros<;>try first|rfl|omega);refine DOps.pure rfl .free rfl rfl (hbe) (by exact Vl) rfl rfl ?_;refine Dg func69 rfl ?_;simp only[go_sem,nodA,nodC,pC,lrnC,Int.reduceNeg,xtab_174];(and_intros<;>try first|rfl|omega);refine DOps.pure rfl .free rfl rfl (hen) (by exact Vl) rfl rfl ?_;refine Dg func69 rfl ?_;simp only[go_sem,nodA,nodC,pC,lrnC,vA,Int.reduceNeg,xtab_174];(and_intros<;>try first|rfl|omega);refine Ops.pure .free rfl rfl hsd (by simp only[go_sem,Int.reduceNeg];exact .cons (.junk _) (.cons (.refl _) (.cons (.refl _) .nil))) rfl rfl ?_
 refine Og func69 ?_;try simp only[go_sem,Int.reduceNeg]
 (and_intros<;>try omega);refine Run.weak (Weak.untok 3 56 18 _ _ _ rfl rfl) ?_;simp only[Y6,Y7];refine Run.again ?_;refine Rg func69 ?_;simp only[go_sem,Int.reduceNeg,xtab_174];(and_intros<;>try omega);refine Ops.pure .free rfl rfl (hend2) Vl rfl rfl ?_;refine Og func69 ?_;simp only[go_sem,hlt2,Int.reduceNeg]
theorem settle_yes(w:Wrk)(h:w.Ok)(hs:w.s.right=true)(he:w.ent=[])(hl0:w.low=0)(X:X3)(out:List (List AV))(ho:out.length<=10000)(o:Ord)(hx:(bt1 o).length<=6000)(a a0:Acp)(sz:Sz)(l c q:List Acc)(p:Int)(rest:List (List AV))(hc:w.cells=nodC a sz l c q true (bt1 o) p::rest)
  (ha0:newF w.s w.me=some a0) (hav:a0.view=0) (hcl:(w.cells.length:Int)=w.wide) (hp:∀ x∈w.cells,∀ y∈x,y.plain=true) (hr:∀ j:Nat,1<=j->(j:Int)<w.wide->w.Un j)
  (sh:List (List AV)) (now:Int) (bk tb:List (List AV)) (e:Int) (r:List UInt8) (v:Int) (h1:w.sh=[rootC]) (h2:w.now=0) (h3:w.bk=[]) (h4:w.tb=[]) (h5:w.sn=[]) (h6:w.log=[]) (h7:w.asked=[])
  (hA:ASpec prog 42 [realm0,.str (bt1 o)] (.tup [realmA sh now bk tb [repC o e r v],.sl 6 [repC o e r v] .no,.int .i64 0])) :
  FSpec prog 180 [.ptr 3 0] (w.bx X out) (Wrk.bx { w with low:=1,sh:=sh,now:=now,bk:=bk,tb:=tb,sn:=[repC o e r v],log:=[[.str (bt1 o)]],cells:=w.cells++[nodC a0 w.s [] [] [] false [] (-1)],asked:=[] } X (out++[ltrR w.me o e r v])) (.tup []):=by
 have w1:=h.w1;have w4:=h.w4;have hlearn:=learn_yes w h he hl0 X out (bt1 o) hx a sz l c q p (by rw[hc];rfl) hr;have hlow1:=low_w { w with ent:=[[.int .i64 0,.str (bt1 o)]] } ⟨w1,w4,h.l0,h.l1⟩;have htake:=wtake_spec w.wide (bt1 o);have hexec:=execute_w { w with low:=1 } X out ho o sh now bk tb e r v h1 h2 h3 h4 h5 h6 hA
 have hok2:Wrk.Ok { w with low:=1,sh:=sh,now:=now,bk:=bk,tb:=tb,sn:=[repC o e r v],log:=[[.str (bt1 o)]] }:=⟨w1,w4,(by show(0:Int)<=1;omega),(by show(1:Int)<=1;omega)⟩
 have hlow2:=low_w _ hok2;have hgrow:=grow_w { w with low:=1,sh:=sh,now:=now,bk:=bk,tb:=tb,sn:=[repC o e r v],log:=[[.str (bt1 o)]] } hok2 hs rfl X (out++[ltrR w.me o e r v]) a0 ha0 hav hcl hp
 have hok3:Wrk.Ok { w with low:=1,sh:=sh,now:=now,bk:=bk,tb:=tb,sn:=[repC o e r v],log:=[[.str (bt1 o)]],cells:=w.cells++[nodC a0 w.s [] [] [] false [] (-1)],asked:=[] }:=⟨w1,w4,(by show(0:Int)<=1;omega),(by show(1:Int)<=1;omega)⟩
 have hun:∀ j:Nat,(1:Int)<=j->(j:Int)<1+w.wide->Wrk.Un { w with low:=1,sh:=sh,now:=now,bk:=bk,tb:=tb,sn:=[repC o e r v],log:=[[.str (bt1 o)]],cells:=w.cells++[nodC a0 w.s [] [] [] false [] (-1)],asked:=[] } j:=fun j hj1 hj2=>by
  by_cases hj:(j:Int)<w.wide
  ·obtain⟨a,sz,l,c,q,v,p,e⟩:=hr j (by omega) hj;exact⟨a,sz,l,c,q,v,p,by show(w.cells++_)[j]? = _;rw[List.getElem?_append_left (by omega)];exact e⟩
  ·refine⟨a0,w.s,[],[],[],[],-1,?_⟩
   show(w.cells++_)[j]? = _
   rw[List.getElem?_append_right (by omega),show j-w.cells.length=0 by omega];rfl
 have hlearn2:=learn_no _ hok3 X (out++[ltrR w.me o e r v]) hun;have hlow3:=low_w _ hok3;have htake2:=wtake0 w.wide 1;have hco:=cloneO0;have hd0:=del0;obtain⟨s,me,wide,low,ent,sh0,now0,bk0,tb0,sn0,log,cells,asked⟩:=w;dsimp only at *;subst he hl0 h1 h2 h3 h4 h5 h6 h7
 have hlt:(0:Int)<1:=by omega
 have hlt2:¬(1:Int)<1:=by omega
 have hne:¬(1:Int)=0:=by omega
 have z01:(0:Int)+1=1:=rfl;refine⟨⟨_,func180,by kernel_rfl,rfl⟩,Sg func180 rfl fun c0 hc0=>?_⟩;simp only[go_sem,Wrk.bx,Wrk.cs,rplC,Int.reduceNeg,Nat.reduceAdd,Nat.reduceSub];(and_intros<;>try omega);refine Run.weak (Weak.freeze 1 5 _ rfl rfl) ?_;simp only[Y6,Y7];refine Run.unloop ?_;refine Rg func180 ?_;simp only[go_sem,Int.reduceNeg,xtab_172];(and_intros<;>try omega);refine Ops.callF .free rfl rfl (hlearn) (by rfl) rfl (Wrk.bel _ _ _) (Wrk.bel _ _ _) rfl rfl Vl ?_;refine Og func180 ?_;simp only[go_sem,Wrk.bx,Wrk.cs,rplC,Int.reduceNeg,xtab_172,xtab_174];(and_intros<;>try omega);refine Ops.pure .free rfl rfl (hlow1) Vl rfl rfl ?_;refine Og func180 ?_;simp only[go_sem,Int.reduceNeg,xtab_172,xtab_174];(and_intros<;>try omega);refine Ops.pure .free rfl rfl (htake) Vl rfl rfl ?_;refine Og func180 ?_;simp only[go_sem,winA,hne,Int.natCast_one,Int.reduceNeg,xtab_172,xtab_174];(and_intros<;>try omega);refine Run.unloop ?_;refine Rg func180 ?_;simp only[go_sem,hlt,Int.reduceNeg,xtab_172];(and_intros<;>try omega);refine Ops.callF .free rfl rfl (hexec) (by rfl) rfl (Wrk.bel _ _ _) (Wrk.bel _ _ _) rfl rfl Vl ?_;refine Og func180 ?_;simp only[go_sem,z01,Wrk.bx,Wrk.cs,rplC,Int.reduceNeg];(and_intros<;>try first|rfl|omega);refine Run.again ?_;refine Rg func180 ?_;simp only[go_sem,hlt2,Int.reduceNeg,xtab_172,xtab_174];(and_intros<;>try first|rfl|omega);refine DOps.pure rfl .free rfl rfl (hlow2) (by exact Vl) rfl rfl ?_;refine Dg func180 rfl ?_;simp only[go_sem,Int.sub_self,Int.reduceNeg,xtab_172,xtab_174];(and_intros<;>try first|rfl|omega);refine Ops.callF .free rfl rfl (hgrow) (by rfl) rfl (Wrk.bel _ _ _) (Wrk.bel _ _ _) rfl rfl (by exact Vl) ?_;refine Og func180 ?_;simp only[go_sem,Wrk.bx,Wrk.cs,rplC,Int.reduceNeg,xtab_172,xtab_174];(and_intros<;>try first|rfl|omega);refine DOps.own rfl .free rfl rfl (hco) (by exact Vl) rfl rfl ?_;refine Dg func180 rfl ?_;simp only[go_sem,Int.reduceNeg];(and_intros<;>try first|rfl|omega);refine DOps.pure rfl .free rfl rfl hd0 (by simp only[go_sem];exact .cons (.one (.tok _ _ _)) (.cons (.junk _) .nil)) rfl rfl ?_;refine Dg func180 rfl ?_;simp only[go_sem,Int.reduceNeg,xtab_174];(and_intros<;>try first|rfl|omega);refine Run.again ?_;refine Rg func180 ?_;simp only[go_sem,Int.reduceNeg,xtab_172];(and_intros<;>try omega);refine Ops.callF .free rfl rfl (hlearn2) (by rfl) rfl (Wrk.bel _ _ _) (Wrk.bel _ _ _) rfl rfl Vl ?_;refine Og func180 ?_;simp only[go_sem,Wrk.bx,Wrk.cs,rplC,Int.reduceNeg,xtab_172,xtab_174];(and_intros<;>try omega);refine Ops.pure .free rfl rfl (hlow3) Vl rfl rfl ?_;refine Og func180 ?_;simp only[go_sem,Int.reduceNeg,xtab_172,xtab_174];(and_intros<;>try omega);refine Ops.pure .free rfl rfl (htake2) Vl rfl rfl ?_;refine Og func180 ?_;simp only[go_sem,winA,Int.reduceNeg]
theorem settle_yes1(w:Wrk)(h:w.Ok)(hs:w.s.right=true)(he:w.ent=[])(hl0:w.low=0)(X:X3)(out:List (List AV))(ho:out.length<=10000)(o:Ord)(hx:(bt1 o).length<=6000)(a a0:Acp)(sz:Sz)(l c q:List Acc)(p:Int)(rest:List (List AV))(hc:w.cells=nodC a sz l c q true (bt1 o) p::rest)
  (ha0:newF w.s w.me=some a0) (hav:a0.view=0) (hcl:(w.cells.length:Int)=w.wide) (hp:∀ x∈w.cells,∀ y∈x,y.plain=true) (hr:∀ j:Nat,1<=j->(j:Int)<w.wide->w.Un j)
  (sh:List (List AV)) (now:Int) (bk tb:List (List AV)) (e:Int) (r:List UInt8) (v:Int) (h1:w.sh=[rootC]) (h2:w.now=0) (h3:w.bk=[]) (h4:w.tb=[]) (h5:w.sn=[]) (h6:w.log=[]) (h7:w.asked=[ordC o])
  (hA:ASpec prog 42 [realm0,.str (bt1 o)] (.tup [realmA sh now bk tb [repC o e r v],.sl 6 [repC o e r v] .no,.int .i64 0])) :
  FSpec prog 180 [.ptr 3 0] (w.bx X out) (Wrk.bx { w with low:=1,sh:=sh,now:=now,bk:=bk,tb:=tb,sn:=[repC o e r v],log:=[[.str (bt1 o)]],cells:=w.cells++[nodC a0 w.s [] [] [] false [] (-1)],asked:=[] } X (out++[ltrR w.me o e r v])) (.tup []):=by
 have w1:=h.w1;have w4:=h.w4;have hlearn:=learn_yes w h he hl0 X out (bt1 o) hx a sz l c q p (by rw[hc];rfl) hr;have hlow1:=low_w { w with ent:=[[.int .i64 0,.str (bt1 o)]] } ⟨w1,w4,h.l0,h.l1⟩;have htake:=wtake_spec w.wide (bt1 o);have hexec:=execute_w { w with low:=1 } X out ho o sh now bk tb e r v h1 h2 h3 h4 h5 h6 hA
 have hok2:Wrk.Ok { w with low:=1,sh:=sh,now:=now,bk:=bk,tb:=tb,sn:=[repC o e r v],log:=[[.str (bt1 o)]] }:=⟨w1,w4,(by show(0:Int)<=1;omega),(by show(1:Int)<=1;omega)⟩
 have hlow2:=low_w _ hok2;have hgrow:=grow_w { w with low:=1,sh:=sh,now:=now,bk:=bk,tb:=tb,sn:=[repC o e r v],log:=[[.str (bt1 o)]] } hok2 hs rfl X (out++[ltrR w.me o e r v]) a0 ha0 hav hcl hp
 have hok3:Wrk.Ok { w with low:=1,sh:=sh,now:=now,bk:=bk,tb:=tb,sn:=[repC o e r v],log:=[[.str (bt1 o)]],cells:=w.cells++[nodC a0 w.s [] [] [] false [] (-1)],asked:=[] }:=⟨w1,w4,(by show(0:Int)<=1;omega),(by show(1:Int)<=1;omega)⟩
 have hun:∀ j:Nat,(1:Int)<=j->(j:Int)<1+w.wide->Wrk.Un { w with low:=1,sh:=sh,now:=now,bk:=bk,tb:=tb,sn:=[repC o e r v],log:=[[.str (bt1 o)]],cells:=w.cells++[nodC a0 w.s [] [] [] false [] (-1)],asked:=[] } j:=fun j hj1 hj2=>by
  by_cases hj:(j:Int)<w.wide
  ·obtain⟨a,sz,l,c,q,v,p,e⟩:=hr j (by omega) hj;exact⟨a,sz,l,c,q,v,p,by show(w.cells++_)[j]? = _;rw[List.getElem?_append_left (by omega)];exact e⟩
  ·refine⟨a0,w.s,[],[],[],[],-1,?_⟩
   show(w.cells++_)[j]? = _
   rw[List.getElem?_append_right (by omega),show j-w.cells.length=0 by omega];rfl
 have hlearn2:=learn_no _ hok3 X (out++[ltrR w.me o e r v]) hun;have hlow3:=low_w _ hok3;have htake2:=wtake0 w.wide 1;have hcl1:=clone_order_Order [ordC o] (by simp) (by simp) (by simp[ordC,AV.cell]);have hdel:=delete1 { w with low:=1,sh:=sh,now:=now,bk:=bk,tb:=tb,sn:=[repC o e r v],log:=[[.str (bt1 o)]],cells:=w.cells++[nodC a0 w.s [] [] [] false [] (-1)] } X (out++[ltrR w.me o e r v]) o e r v rfl;obtain⟨s,me,wide,low,ent,sh0,now0,bk0,tb0,sn0,log,cells,asked⟩:=w;dsimp only at *;subst he hl0 h1 h2 h3 h4 h5 h6 h7
 have hlt:(0:Int)<1:=by omega
 have hlt2:¬(1:Int)<1:=by omega
 have hne:¬(1:Int)=0:=by omega
 have z01:(0:Int)+1=1:=rfl;refine⟨⟨_,func180,by kernel_rfl,rfl⟩,Sg func180 rfl fun c0 hc0=>?_⟩;simp only[go_sem,Wrk.bx,Wrk.cs,rplC,Int.reduceNeg,Nat.reduceAdd,Nat.reduceSub];(and_intros<;>try omega);refine Run.weak (Weak.freeze 1 5 _ rfl rfl) ?_;simp only[Y6,Y7];refine Run.unloop ?_;refine Rg func180 ?_;simp only[go_sem,Int.reduceNeg,xtab_172];(and_intros<;>try omega);refine Ops.callF .free rfl rfl (hlearn) (by rfl) rfl (Wrk.bel _ _ _) (Wrk.bel _ _ _) rfl rfl Vl ?_;refine Og func180 ?_;simp only[go_sem,Wrk.bx,Wrk.cs,rplC,Int.reduceNeg,xtab_172,xtab_174];(and_intros<;>try omega);refine Ops.pure .free rfl rfl (hlow1) Vl rfl rfl ?_;refine Og func180 ?_;simp only[go_sem,Int.reduceNeg,xtab_172,xtab_174];(and_intros<;>try omega);refine Ops.pure .free rfl rfl (htake) Vl rfl rfl ?_;refine Og func180 ?_;simp only[go_sem,winA,hne,Int.natCast_one,Int.reduceNeg,xtab_172,xtab_174];(and_intros<;>try omega);refine Run.unloop ?_;refine Rg func180 ?_;simp only[go_sem,hlt,Int.reduceNeg,xtab_172];(and_intros<;>try omega);refine Ops.callF .free rfl rfl (hexec) (by rfl) rfl (Wrk.bel _ _ _) (Wrk.bel _ _ _) rfl rfl Vl ?_;refine Og func180 ?_;simp only[go_sem,z01,Wrk.bx,Wrk.cs,rplC,Int.reduceNeg];(and_intros<;>try first|rfl|omega);refine Run.again ?_;refine Rg func180 ?_;simp only[go_sem,hlt2,Int.reduceNeg,xtab_172,xtab_174];(and_intros<;>try first|rfl|omega);refine DOps.pure rfl .free rfl rfl (hlow2) (by exact Vl) rfl rfl ?_;refine Dg func180 rfl ?_;simp only[go_sem,Int.sub_self,Int.reduceNeg,xtab_172,xtab_174];(and_intros<;>try first|rfl|omega);refine Ops.callF .free rfl rfl (hgrow) (by rfl) rfl (Wrk.bel _ _ _) (Wrk.bel _ _ _) rfl rfl (by exact Vl) ?_;refine Ops.god tab_ok follows_ok func180 0 ?_;simp only[go_sem,Wrk.bx,Wrk.cs,rplC,Int.reduceNeg];refine Run.cutB 6 [3] ?_ ?_
 ·simp only[junks,Y6,Y7,Yg,Yj];(refine Weak.of (by simp[hc0,Wrk.bx]) ?_ ?_<;>repeat' first|exact .refl _|exact .junk _|exact X.h0 _ (by simp)|exact X.h1 _ (by simp)|exact X.h2 _ (by simp)|rfl|apply Le.agg|constructor)
 simp only[junks,Y6,Y7,Yg,Yj];refine Rg func180 ?_;simp only[go_sem,Int.reduceNeg,xtab_172,xtab_174];(and_intros<;>try first|rfl|omega);refine DOps.made rfl .free rfl rfl hcl1 (by exact Vl) rfl rfl rfl ?_;refine Dg func180 rfl ?_;simp only[go_sem,Int.reduceNeg];(and_intros<;>try first|rfl|omega);refine DOps.callW rfl .free rfl rfl hdel (by rfl) rfl (Wrk.belo _ X _ _ rfl) (Wrk.belo _ X _ _ rfl) rfl rfl Vl ?_;refine Dg func180 rfl ?_;simp only[go_sem,Wrk.bo,Wrk.bx,Wrk.cs,rplC,Int.reduceNeg,xtab_174];(and_intros<;>try first|rfl|omega);refine Run.again ?_;refine Rg func180 ?_;simp only[go_sem,Int.reduceNeg,xtab_172];(and_intros<;>try omega);refine Ops.callF .free rfl rfl (hlearn2) (by rfl) rfl (Wrk.bel _ _ _) (Wrk.bel _ _ _) rfl rfl Vl ?_;refine Og func180 ?_;simp only[go_sem,Wrk.bx,Wrk.cs,rplC,Int.reduceNeg,xtab_172,xtab_174];(and_intros<;>try omega);refine Ops.pure .free rfl rfl (hlow3) Vl rfl rfl ?_;refine Og func180 ?_;simp only[go_sem,Int.reduceNeg,xtab_172,xtab_174];(and_intros<;>try omega);refine Ops.pure .free rfl rfl (htake2) Vl rfl rfl ?_;refine Og func180 ?_;simp only[go_sem,winA,Int.reduceNeg]
def selJ{α:Type}(a b:α):Nat->α
 |0=>a
 |_+1=>b
theorem selJ_pos{α:Type}{a b:α}{j:Nat}(h:¬j=0):selJ a b j=b:=by
 cases j with
 |zero=>exact absurd rfl h
 |succ j=>rfl
theorem wants_yes(w:Wrk)(X:X3)(out:List (List AV))(o:Ord)(hm:mayO o=true)(hs:smO o)(h0:w.low=0)(h1:w.sh=[rootC])(h2:w.now=0)(h3:w.bk=[])(h4:w.tb=[])(h5:w.sn=[])(h6:w.asked=[ordC o]) :
  FSpec prog 187 [.ptr 3 0,.int .i64 0] (w.bx X out) (w.bx X out) (.tup [.str (bt1 o),.bool true]):=by
 have hw:=waiting_spec o hm;have he:=encode_spec o hm hs;obtain⟨s,me,wide,low,ent,sh,now,bk,tb,sn,log,cells,asked⟩:=w;dsimp only at h0 h1 h2 h3 h4 h5 h6;subst h0 h1 h2 h3 h4 h5 h6
 have hlt:(0:Int)<1:=by omega
 refine⟨⟨_,func187,by kernel_rfl,rfl⟩,Sg func187 rfl fun c0 hc0=>?_⟩;simp only[go_sem,Wrk.bx,Wrk.cs,rplC,↓aT,xtab_174,Nat.reduceAdd,Nat.reduceLeDiff,Nat.reduceSub];(and_intros<;>try first|rfl|omega);refine DOps.pure rfl .free rfl rfl (hw) (by exact Vl) rfl rfl ?_;refine Dg func187 rfl ?_;simp only[go_sem,batA,hlt,Int.natCast_one];(and_intros<;>try first|rfl|omega);refine Ops.pure .free rfl rfl (he) (by exact Vl) rfl rfl ?_;refine Og func187 ?_;simp only[go_sem]
theorem lead_yes(w:Wrk)(h:w.Ok)(hsr:w.s.right=true)(X:X3)(out l m:List (List AV))(ho:out.length<=10000)(hl:l.length<=10000)(hs:Said 0 l m)(x:Bts)(a a0:Acp)(t1 t2 t3 u1 u2 u3:List Acc)(d d0:Bool)(y y0:Bts)(p p0:Int)(rest:List (List AV))
  (hl0:w.low=0) (hc:w.cells=nodC a0 w.s u1 u2 u3 d0 y0 p0::rest) (hr:rest.length<=900) (hp:∀ x∈rest,∀ y∈x,y.plain=true) (hrd:∀ j:Nat,(j:Int)<w.wide->w.Rd j)
  (hW:∀ out,FSpec prog 187 [.ptr 3 0,.int .i64 0] (w.bx X out) (w.bx X out) (.tup [.str x,.bool true]))
  (hL:ASpec prog 188 [eS w.s,.int .i64 w.me,nodA a0 w.s u1 u2 u3 d0 y0 p0,.str x] (.tup [nodA a w.s t1 t2 t3 d y p,.sl 15 l .no])) :
  FSpec prog 138 [.ptr 3 0] (w.bx X out) (Wrk.bx { w with cells:=nodC a w.s t1 t2 t3 d y p::rest } X (out++m)) (.tup []):=by
 have hW0:=hW out;have hlow:=low_w w h;have hend:=end_w w h
 have hok2:Wrk.Ok { w with cells:=nodC a w.s t1 t2 t3 d y p::rest }:=⟨h.w1,h.w4,h.l0,h.l1⟩
 have hend2:=end_w _ hok2;have hcell:=cell_w w h X out 0 a0 w.s u1 u2 u3 d0 y0 p0 (by rw[hc];rfl) (by omega);have hset:=set_w w h X out l m ho hl hs a a0 w.s w.s t1 t2 t3 u1 u2 u3 d d0 y y0 p p0 rest hc hr hp
 have hwn:=fun(j:Nat) (h1:1<=j) (h2:(j:Int)<w.wide)=>wants_no { w with cells:=nodC a w.s t1 t2 t3 d y p::rest } hok2 hsr X (out++m) j (by have:=h.w4;omega) (fun i hi hi2=>by
  obtain⟨a,sz,l,c,q,d,v,p,e⟩:=hrd i (by have:(i:Int)<w.low+w.wide:=hi2;omega);refine⟨a,sz,l,c,q,d,v,p,?_⟩;rw[hc] at e
  obtain⟨k,rfl⟩:∃ k,i=k+1:=⟨i-1,by omega⟩
  exact e) (by show(j:Int)<w.low+w.wide;omega) (fun e=>by have e2:(j:Int)=w.low:=e;omega)
 obtain⟨w1,w4,l0,l1⟩:=h;obtain⟨s,me,wide,low,ent,sh,now,bk,tb,sn,log,cells,asked⟩:=w;dsimp only at hW0 hlow hend hend2 hcell hset hwn hL w1 w4 l0 l1 hl0 hc;subst hl0 hc;simp only[Int.zero_add] at hend hend2;refine⟨⟨_,func138,by kernel_rfl,rfl⟩,Sg func138 rfl fun c0 hc0=>?_⟩;simp only[go_sem,Wrk.bx,Wrk.cs,rplC,xtab_174,Nat.reduceAdd,Nat.reduceLeDiff,Nat.reduceSub];(and_intros<;>try omega);refine Ops.pure .free rfl rfl (hlow) Vl rfl rfl ?_;refine Og func138 ?_;simp only[go_sem];(and_intros<;>try omega);refine Run.loopV (α:=Nat) (fun j=>(j:Int)<=wide) (fun j=>[(2,.int .i64 j)]) 5 (fun j=>[(3,.box (Wrk.cs ⟨s,me,wide,0,ent,sh,now,bk,tb,sn,log,selJ (nodC a0 s u1 u2 u3 d0 y0 p0::rest) (nodC a s t1 t2 t3 d y p::rest) j,asked⟩++[.sl 62 (selJ out (out++m) j) (.own 4)])),(4,.tok 62 (selJ out (out++m) j).length)]) (fun j=>wide.toNat-j) 0 (by show((0:Nat):Int)<=_;omega) ?_ ?_
 ·simp only[go_sem,writes,junks,puts,hputs,List.filterMap_cons,List.filterMap_nil,Wrk.cs,rplC,selJ];(refine Weak.of (by simp[hc0,Wrk.bx]) ?_ ?_<;>repeat' first|exact .refl _|exact .junk _|exact X.h0 _ (by simp)|exact X.h1 _ (by simp)|exact X.h2 _ (by simp)|rfl|apply Le.agg|constructor)
 intro j hj1 ih;simp only[writes,junks,puts,hputs,List.filterMap_cons,List.filterMap_nil,Y6,Y7,Yg,Yk,Y5,Y3,Yd,Wrk.cs,rplC] at ih ⊢
 by_cases hj:(j:Int)<wide
 case pos=>
  by_cases hj0:j=0
  case pos=>
   subst hj0
   have hjz:(0:Int)<wide:=by omega
   simp only[selJ];refine Rg func138 ?_;simp only[go_sem,xtab_174];(and_intros<;>try omega);refine Ops.pure .free rfl rfl (hend) Vl rfl rfl ?_;refine Og func138 ?_;simp only[go_sem,hjz];(and_intros<;>try first|rfl|omega);refine Ops.callF .free rfl rfl (hW0) (by rfl) rfl (Wrk.bel _ _ _) (Wrk.bel _ _ _) rfl rfl Vl ?_;refine Og func138 ?_;simp only[go_sem,Wrk.bx,Wrk.cs,rplC,xtab_174];(and_intros<;>try first|rfl|omega);refine DOps.callF rfl .free rfl rfl (hcell) (by rfl) (Wrk.bel _ _ _) rfl rfl (by exact Vl) ?_;refine Dg func138 rfl ?_;simp only[go_sem,Wrk.bx,Wrk.cs,rplC];(and_intros<;>try first|rfl|omega);refine DOps.pure rfl .free rfl rfl (hL) Vl rfl rfl ?_;refine Dg func138 rfl ?_;simp only[go_sem,nodA,nodC,pC,lrnC];(and_intros<;>try first|rfl|omega);refine Ops.callF .free rfl rfl (hset) (by rfl) rfl (Wrk.bel _ _ _) (Wrk.bel _ _ _) rfl rfl (by exact Vl) ?_;refine Og func138 ?_;simp only[go_sem,Wrk.bx,Wrk.cs,rplC];(and_intros<;>try omega);refine ih 1 _ (by omega) (by omega) ?_;simp only[Int.natCast_one,selJ];(refine Weak.of (by simp[hc0,Wrk.bx]) ?_ ?_<;>repeat' first|exact .refl _|exact .junk _|exact X.h0 _ (by simp)|exact X.h1 _ (by simp)|exact X.h2 _ (by simp)|rfl|apply Le.agg|constructor)
  case neg=>
   have hw:=hwn j (by omega) hj;rw[selJ_pos hj0,selJ_pos hj0];refine Rg func138 ?_;simp only[go_sem,xtab_174];(and_intros<;>try omega);refine Ops.pure .free rfl rfl (hend2) Vl rfl rfl ?_;refine Og func138 ?_;simp only[go_sem,hj];(and_intros<;>try omega);refine Ops.callF .free rfl rfl (hw) (by rfl) rfl (Wrk.bel _ _ _) (Wrk.bel _ _ _) rfl rfl Vl ?_;refine Og func138 ?_;simp only[go_sem,Wrk.bx,Wrk.cs,rplC];(and_intros<;>try omega);refine ih (j+1) _ (by omega) (by omega) ?_;simp only[Int.natCast_add,Int.natCast_one,selJ];(refine Weak.of (by simp[hc0,Wrk.bx]) ?_ ?_<;>repeat' first|exact .refl _|exact .junk _|exact X.h0 _ (by simp)|exact X.h1 _ (by simp)|exact X.h2 _ (by simp)|rfl|apply Le.agg|constructor)
 case neg=>
  have hj0:¬j=0:=by omega
  rw[selJ_pos hj0,selJ_pos hj0];refine Rg func138 ?_;simp only[go_sem,xtab_174];(and_intros<;>try omega);refine Ops.pure .free rfl rfl (hend2) Vl rfl rfl ?_;refine Og func138 ?_;simp only[go_sem,hj]
theorem hears_w(w:Wrk)(h:w.Ok)(X:X3)(out l m out2 out3:List (List AV))(w2 w3:Wrk)(k b v:Int)(x:Bts)(u:Acc)(ho:out.length<=10000)(hl:l.length<=10000)(hs:Said 0 l m)(a a0:Acp)(t1 t2 t3 u1 u2 u3:List Acc)(d d0:Bool)(y y0:Bts)(p p0:Int)(rest:List (List AV))
  (hc:w.cells=nodC a0 w.s u1 u2 u3 d0 y0 p0::rest) (hr:rest.length<=900) (hp:∀ x∈rest,∀ y∈x,y.plain=true)
  (hH:ASpec prog 179 [eS w.s,.int .i64 w.me,nodA a0 w.s u1 u2 u3 d0 y0 p0,msgA k b v x [] u []] (.tup [nodA a w.s t1 t2 t3 d y p,.sl 15 l .no]))
  (hS:FSpec prog 180 [.ptr 3 0] (Wrk.bx { w with cells:=nodC a w.s t1 t2 t3 d y p::rest } X (out++m)) (w2.bx X out2) (.tup []))
  (hL:FSpec prog 138 [.ptr 3 0] (w2.bx X out2) (w3.bx X out3) (.tup [])) :
  FSpec prog 131 [.ptr 3 0,.agg (ltrP 0 k b v x u.by_ u.view u.value .nils)] (w.bx X out) (w3.bx X out3) (.tup []):=by
 have hlow:=low_w w h;have hend:=end_w w h;have hcell:=cell_w w h X out 0 a0 w.s u1 u2 u3 d0 y0 p0 (by rw[hc];rfl) (by omega);have hset:=set_w w h X out l m ho hl hs a a0 w.s w.s t1 t2 t3 u1 u2 u3 d d0 y y0 p p0 rest hc hr hp
 have hlt:¬(0:Int)<0:=by omega
 have hge:¬w.low+w.wide<=0:=by have:=h.w1;have:=h.l0;omega
 obtain⟨s,me,wide,low,ent,sh,now,bk,tb,sn,log,cells,asked⟩:=w;dsimp only at hge hcell hset hH hS hc;refine⟨⟨_,func131,by kernel_rfl,rfl⟩,Sg func131 rfl fun c0 hc0=>?_⟩;simp only[go_sem,Wrk.bx,Wrk.cs,rplC,ltrP,ltrZ,xtab_52,xtab_174,Nat.reduceAdd,Nat.reduceLeDiff,Nat.reduceSub];(and_intros<;>try first|rfl|omega);refine DOps.pure rfl .free rfl rfl (hlow) (by exact Vl) rfl rfl ?_;refine Dg func131 rfl ?_;simp only[go_sem,hlt,xtab_52,xtab_174];(and_intros<;>try first|rfl|omega);refine DOps.pure rfl (Wanted.test 8 false false rfl) rfl rfl (hend) Vl rfl rfl ?_;refine Dg func131 rfl ?_;simp only[go_sem,hge,xtab_52,xtab_174,xtab_309];(and_intros<;>try first|rfl|omega);refine DOps.callF rfl .free rfl rfl (hcell) (by rfl) (Wrk.bel _ _ _) rfl rfl (by exact Vl) ?_;refine Dg func131 rfl ?_;simp only[go_sem,nodA,nodC,pC,lrnC,Wrk.bx,Wrk.cs,rplC,xtab_309];(and_intros<;>try first|rfl|omega);refine DOps.pure rfl .free rfl rfl (hH) (by simp only[go_sem,eS,nodA,nodC,pC,lrnC,msgA,msgC,rpsA,vA];(repeat' first|exact .refl _|apply LeR.tup|apply Le.agg|constructor)) rfl rfl ?_;refine Dg func131 rfl ?_;simp only[go_sem,nodA,nodC,pC,lrnC,xtab_52];(and_intros<;>try first|rfl|omega);refine Ops.callF .free rfl rfl (hset) (by rfl) rfl (Wrk.bel _ _ _) (Wrk.bel _ _ _) rfl rfl (by exact Vl) ?_;refine Og func131 ?_;simp only[go_sem,Wrk.bx,Wrk.cs,rplC];(and_intros<;>try omega);refine Ops.callF .free rfl rfl (hS) (by rfl) rfl (Wrk.bel _ _ _) (Wrk.bel _ _ _) rfl rfl Vl ?_;refine Og func131 ?_;simp only[go_sem,Wrk.bx,Wrk.cs,rplC];(and_intros<;>try omega);refine Ops.callF .free rfl rfl (hL) (by rfl) rfl (Wrk.bel _ _ _) (Wrk.bel _ _ _) rfl rfl Vl ?_;refine Og func131 ?_;simp only[go_sem,Wrk.bx,Wrk.cs,rplC]
theorem ASpec.said0{P:Program}{f:FuncId}{args:List AV}{a:AV}{k:Nat}(H:ASpec P f args (.tup [a,.nils])):ASpec P f args (.tup [a,.sl k [] .no]):=by
 refine⟨H.fn,fun c vs hch hc ht=>(H.run c vs hch hc ht).mono ?_⟩;rintro e w' ⟨v,ρ',r,h',rfl,g1,g2,g3,hle⟩;refine⟨v,ρ',.tup [a,.sl k [] .no],h',rfl,g1,g2,?_,.one (.refl _)⟩;have hv:=hle.rv g3
 cases hv with
 |tup us _ hs hr=>
  refine .tup us _ (by simpa using hs) fun i u b hu hb=>?_
  match i,hb with
  |0,hb=>exact hr 0 u b hu hb
  |1,hb=>
   simp at hb;subst hb;have hq:=hr 1 u .nils hu rfl;cases hq;exact .nil_sl k
  |i+2,hb=>simp at hb
structure Fst where
 t:Int
 wide:Int
 o:Ord
 ht:t=0\/t=1
 w1:1<=wide
 w4:wide<=4
 hm:mayO o=true
 hs:smO o
 hx:(bt1 o).length<=6000
def Fst.s(F:Fst):Sz:=⟨1,F.t⟩
theorem Fst.right(F:Fst):F.s.right=true:=by
 have:=F.ht;unfold Fst.s Sz.right;simp only[Vi,decide_eq_true_eq];omega
theorem Fst.n(F:Fst):F.s.n=4+2*F.t:=by unfold Fst.s Sz.n;simp only;omega
def Fst.x(F:Fst):Bts:=bt1 F.o
def Fst.rest(F:Fst)(i:Int):List (List AV):=List.replicate (F.wide.toNat-1) (nod0 F.s i)
theorem Fst.cells(F:Fst)(i:Int):List.replicate F.wide.toNat (nod0 F.s i)=nod0 F.s i::F.rest i:=by
 have:=F.w1;unfold Fst.rest;rw[<- List.replicate_succ]
 congr 1
 omega
theorem Fst.rest_len(F:Fst)(i:Int):(F.rest i).length+1=F.wide.toNat:=by
 have:=F.w1;unfold Fst.rest;rw[List.length_replicate];omega
theorem Fst.rest_plain(F:Fst)(i:Int):∀ x∈F.rest i,∀ y∈x,y.plain=true:=fun x hx=>by
 obtain rfl:=(List.mem_replicate.1 hx).2;exact nodC_plain _ _ _ _ _ _ _ _
def ledF(i:Int):Int:=if i=0 then 0 else -1
def Fst.askd(F:Fst)(i:Int):List (List AV):=if i=0 then [ordC F.o] else []
def Fst.W(F:Fst)(i:Int)(nd:List AV):Wrk:=⟨F.s,i,F.wide,0,[],[rootC],0,[],[],[],[],nd::F.rest i,F.askd i⟩
theorem Fst.W_ok(F:Fst)(i:Int)(nd:List AV):(F.W i nd).Ok:=⟨F.w1,F.w4,by show(0:Int)<=0;omega,by show(0:Int)<=1;omega⟩
theorem Fst.W_rd(F:Fst)(i:Int)(a:Acp)(sz:Sz)(l c q:List Acc)(d:Bool)(v:Bts)(p:Int):∀ j:Nat,(j:Int)<F.wide->(F.W i (nodC a sz l c q d v p)).Rd j:=fun j hj=>by
 cases j with
 |zero=>exact⟨a,sz,l,c,q,d,v,p,rfl⟩
 |succ j=>
  refine⟨acp0 F.s i,F.s,[],[],[],false,[],-1,?_⟩
  show(F.rest i)[j]? = _
  have:=F.rest_len i;unfold Fst.rest;rw[List.getElem?_replicate,if_pos (by omega)];rfl
theorem Fst.W_un(F:Fst)(i:Int)(nd:List AV):∀ j:Nat,1<=j->(j:Int)<F.wide->(F.W i nd).Un j:=fun j h1 hj=>by
 obtain⟨j,rfl⟩:∃ k,j=k+1:=⟨j-1,by omega⟩
 refine⟨acp0 F.s i,F.s,[],[],[],[],-1,?_⟩
 show(F.rest i)[j]? = _
 have:=F.rest_len i;unfold Fst.rest;rw[List.getElem?_replicate,if_pos (by omega)];rfl
theorem Fst.x_len(F:Fst):F.x.length<=6000:=F.hx
theorem Fst.plain2(F:Fst)(i:Int)(nd:List AV)(hn:∀ y∈nd,y.plain=true):∀ x∈(F.W i nd).cells,∀ y∈x,y.plain=true:=fun x hx=>by
 rcases List.mem_cons.1 hx with rfl|hx
 ·exact hn
 ·exact F.rest_plain i x hx
theorem Fst.rest_le(F:Fst)(i:Int):(F.rest i).length<=900:=by
 have:=F.rest_len i;have:=F.w4;omega
theorem Fst.wants(F:Fst)(nd:List AV)(X:X3)(out:List (List AV)):FSpec prog 187 [.ptr 3 0,.int .i64 0] ((F.W 0 nd).bx X out) ((F.W 0 nd).bx X out) (.tup [.str F.x,.bool true]):=
 wants_yes (F.W 0 nd) X out F.o F.hm F.hs rfl rfl rfl rfl rfl rfl rfl
theorem Fst.lead(F:Fst)(i:Int)(a:Acp)(hav:a.view=0)(l:List Acc)(d:Bool)(v:Bts)(X:X3)(out:List (List AV))(ho:out.length<=10000) :
  FSpec prog 138 [.ptr 3 0] ((F.W i (nodC a F.s l [] [] d v (ledF i))).bx X out) ((F.W i (nodC a F.s l [] [] d v (ledF i))).bx X out) (.tup []):=by
 by_cases hi:i=0
 ·subst hi;have hL:=(leadsno_spec a hav F.s F.right (by have:=F.n;have:=F.ht;omega) 0 l [] [] d v 0 F.x (.inr (Int.le_refl 0))).said0 (k:=15);have:=lead_yes (F.W 0 (nodC a F.s l [] [] d v 0)) (F.W_ok _ _) F.right X out [] [] ho (by simp) .nil F.x a a l [] [] l [] [] d d v v 0 0 (F.rest 0) rfl rfl (F.rest_le 0) (F.rest_plain 0) (F.W_rd 0 a F.s l [] [] d v 0) (fun out=>F.wants _ X out) hL;rw[List.append_nil] at this;exact this
 ·have hw:=waiting0 [rootC] 0 [] [] [];have he:F.askd i=[]:=if_neg hi;refine lead_no (F.W i (nodC a F.s l [] [] d v (ledF i))) (F.W_ok _ _) F.right X out (fun j hj=>F.W_rd i a F.s l [] [] d v (ledF i) j (by have e:(j:Int)<0+F.wide:=hj;omega)) ?_;show ASpec prog 232 [realmA [rootC] 0 [] [] [],.sl 8 (F.askd i) .no] (.sl 8 [] .no);rw[he];exact hw
theorem Fst.new_W(F:Fst)(i:Int)(hi:i≠0):newW F.s i F.wide=F.W i (nod0 F.s i):=by
 unfold newW Fst.W;rw[F.cells,show F.askd i=[] from if_neg hi]
theorem Fst.hear_o(F:Fst):ASpec prog 73 [.agg (newW F.s 0 F.wide).cs,.agg (ltrO F.o)] (.tup [.agg (F.W 0 (nodC (acp0 F.s 0) F.s [] [] [] false [] (ledF 0))).cs,.sl 62 [ltrP 0 1 0 0 F.x 0 0 [] .nils] .no]):=by
 refine hear8_spec _ _ _ _ fun X=>?_;refine ordered_w (newW F.s 0 F.wide) rfl rfl X [] _ _ F.o F.hm ?_
 have e:({ newW F.s 0 F.wide with asked:=[ordC F.o] }:Wrk)=F.W 0 (nod0 F.s 0):=by
  unfold newW Fst.W;rw[F.cells,show F.askd 0=[ordC F.o] from rfl]
 rw[e];have hL:=leads_spec (acp0 F.s 0) rfl F.s F.right (by have:=F.n;have:=F.ht;omega) [] [] [] false [] F.x;have hsd:Said 0 [prpM 0 F.x] [ltrP 0 1 0 0 F.x 0 0 [] .nils]:=.cons 1 0 0 F.x 0 0 [] .nils (.inl rfl) .nil;exact lead_yes (F.W 0 (nod0 F.s 0)) (F.W_ok _ _) F.right X [] [prpM 0 F.x] _ (by simp) (by simp) hsd F.x (acp0 F.s 0) (acp0 F.s 0) [] [] [] [] [] [] false false [] [] 0 (-1) (F.rest 0) rfl rfl (F.rest_le 0) (F.rest_plain 0) (F.W_rd 0 (acp0 F.s 0) F.s [] [] [] false [] (-1)) (fun out=>F.wants _ X out) hL
theorem Fst.hear_p(F:Fst)(i:Int)(h0:0<=i)(h1:i<F.s.n):ASpec prog 73 [.agg (F.W i (nodC (acp0 F.s i) F.s [] [] [] false [] (ledF i))).cs,.agg (ltrP 0 1 0 0 F.x 0 0 [] .nils)] (.tup [.agg (F.W i (nodC (acpV F.s i F.x []) F.s [] [] [] false [] (ledF i))).cs,.sl 62 [ltrP 0 2 0 0 [] i 0 F.x .nils] .no]):=by
 refine hear1_spec _ _ 0 0 F.x 0 0 [] _ fun X=>?_;have hH:=hprop_spec (acp0 F.s i) F.s F.right (by have:=F.n;have:=F.ht;omega) i [] [] [] [] (ledF i) F.x ⟨0,0,[]⟩ rfl rfl F.x_len;have hsd:Said 0 [accM i F.x] [ltrP 0 2 0 0 [] i 0 F.x .nils]:=.cons 2 0 0 [] i 0 F.x .nils (.inl rfl) .nil
 have hun:∀ j:Nat,(0:Int)<=j->(j:Int)<0+F.wide->(F.W i (nodC (acpV F.s i F.x []) F.s [] [] [] false [] (ledF i))).Un j:=fun j _ hj=>by
  cases j with
  |zero=>exact⟨_,_,[],[],[],[],_,rfl⟩
  |succ j=>exact F.W_un i _ _ (by omega) (by omega)
 have hS:=settle_no (F.W i (nodC (acpV F.s i F.x []) F.s [] [] [] false [] (ledF i))) (F.W_ok _ _) rfl X [ltrP 0 2 0 0 [] i 0 F.x .nils] hun;have hL:=F.lead i (acpV F.s i F.x []) rfl [] false [] X [ltrP 0 2 0 0 [] i 0 F.x .nils] (by simp);exact hears_w (F.W i (nodC (acp0 F.s i) F.s [] [] [] false [] (ledF i))) (F.W_ok _ _) X [] [accM i F.x] _ _ _ _ _ 1 0 0 F.x ⟨0,0,[]⟩ (by simp) (by simp) hsd (acpV F.s i F.x []) (acp0 F.s i) [] [] [] [] [] [] false false [] [] (ledF i) (ledF i) (F.rest i) rfl (F.rest_le i) (F.rest_plain i) hH hS hL
def Fst.vote(F:Fst)(u:Int):List AV:=ltrP 0 2 0 0 [] u 0 F.x .nils
def Fst.V(F:Fst)(i:Int)(us:List Int):Wrk:=F.W i (nodC (acpV F.s i F.x us) F.s (vts us F.x) [] [] false [] (ledF i))
def Fst.E(F:Fst)(i:Int)(us:List Int)(sh:List (List AV))(now:Int)(bk tb:List (List AV))(e:Int)(r:List UInt8)(v:Int):Wrk:=
 ⟨F.s,i,F.wide,1,[],sh,now,bk,tb,[repC F.o e r v],[[.str F.x]],(nodC (acpV F.s i F.x us) F.s (vts us F.x) [] [] true F.x (ledF i)::F.rest i)++[nodC (acp0 F.s i) F.s [] [] [] false [] (-1)],[]⟩
structure Vt(F:Fst)(us:List Int)(u:Int):Prop where
 lt:∀ y∈us,0<=y/\y<u
 ps:us.Pairwise (·<·)
 u0:0<=u
 u1:u<F.s.n
 len:us.length<=10
theorem ltrP_plain(k a b v:Int)(x:Bts)(c1 c2:Int)(c3:Bts)(P:AV)(hP:P.plain=true):∀ y∈ltrP k a b v x c1 c2 c3 P,y.plain=true:=by
 simp[ltrP,ltrZ,AV.plain];cases P<;>simp_all [AV.plain]
def LtrOk(m:List (List AV)):Prop:=∀ y∈m,y.length=62/\∀ a∈y,a.plain=true
theorem votesA_plain(l:List Acc):(vA l).plain=true:=rfl
theorem Fst.hH(F:Fst)(i:Int)(h0:0<=i)(h1:i<F.s.n)(us:List Int)(u:Int)(hv:Vt F us u)(bb:Bool×Bts)(hbb:bb=bstV (vts (us++[u]) F.x) (3*F.s.f+F.s.t+1)) :
  ∃ l m,l.length<=2/\m.length<=2/\LtrOk m/\Said 0 l m/\ASpec prog 179 [eS F.s,.int .i64 i,nodA (acpV F.s i F.x us) F.s (vts us F.x) [] [] false [] (ledF i),msgA 2 0 0 [] [] ⟨u,0,F.x⟩ []] (.tup [nodA (acpV F.s i F.x (us++[u])) F.s (vts (us++[u]) F.x) [] [] bb.1 (if bb.1 then bb.2 else []) (ledF i),.sl 15 l .no]):=by
 obtain⟨q1,q2,q3,q4⟩:=acpV_ok F.right h0 h1 F.x_len us;have hadd:=vts_add (fun y hy=>(hv.lt y hy).2) hv.u0 F.x_len
 have hl10:(vts us F.x).length=us.length:=by simp[vts]
 have hh:=hacc_spec (acpV F.s i F.x us) q1 F.s F.right (by rw[sizeOk_right];exact F.right) i (vts us F.x) [] [] [] (ledF i) [] ⟨u,0,F.x⟩ (by have:=hv.len;omega) (vts_right (fun y hy=>(hv.lt y hy).1) F.x_len hv.ps) (fun y hy=>(vts_mem hy).2.1) hv.u0 hv.u1 (vts_may hv.u0 F.x_len) (by
  rw[hadd];intro y hy;rw[(vts_mem hy).2.1]
  exact Int.le_refl 0) (by rw[hadd];have:=hv.len;simp[vts];omega) bb (by rw[hadd];exact hbb)
 rw[hadd,<- acpV_snoc] at hh;obtain⟨b1,b2⟩:=bb;generalize (hearF (acpV F.s i F.x us) ⟨u,0,F.x⟩).2=rr at hh;have hok1:∀ pr,∀ y∈ltrP 0 3 i 0 [] 0 0 [] (vA pr),y.plain=true:=fun pr=>ltrP_plain _ _ _ _ _ _ _ _ _ (votesA_plain pr);have hok2:∀ y∈ltrP 0 5 i 0 b2 0 0 [] .nils,y.plain=true:=ltrP_plain _ _ _ _ _ _ _ _ _ rfl
 cases rr with
 |none=>cases b1 with
  |false=>exact⟨[],[],by simp,by simp,fun y hy=>by simp at hy,.nil,hh.said0⟩
  |true=>exact⟨[tldM i b2],[ltrP 0 5 i 0 b2 0 0 [] .nils],by simp,by simp,fun y hy=>by rw[List.mem_singleton.1 hy];exact⟨rfl,hok2⟩,.cons 5 i 0 b2 0 0 [] .nils (.inl rfl) .nil,hh⟩
 |some pr=>cases b1 with
  |false=>exact⟨[repM i pr],[ltrP 0 3 i 0 [] 0 0 [] (vA pr)],by simp,by simp,fun y hy=>by rw[List.mem_singleton.1 hy];exact⟨rfl,hok1 pr⟩,.cons 3 i 0 [] 0 0 [] (vA pr) (.inr ⟨_,rfl⟩) .nil,hh⟩
  |true=>exact⟨[repM i pr,tldM i b2],[ltrP 0 3 i 0 [] 0 0 [] (vA pr),ltrP 0 5 i 0 b2 0 0 [] .nils],by simp,by simp,fun y hy=>by
    rcases List.mem_cons.1 hy with rfl|hy
    ·exact⟨rfl,hok1 pr⟩
    ·rw[List.mem_singleton.1 hy];exact⟨rfl,hok2⟩,.cons 3 i 0 [] 0 0 [] (vA pr) (.inr ⟨_,rfl⟩) (.cons 5 i 0 b2 0 0 [] .nils (.inl rfl) .nil),hh⟩
theorem Fst.hear_v(F:Fst)(i:Int)(h0:0<=i)(h1:i<F.s.n)(us:List Int)(u:Int)(hv:Vt F us u)(hn:(us.length:Int)+1<4+F.t) :
  ∃ m,m.length<=3/\LtrOk m/\ASpec prog 73 [.agg (F.V i us).cs,.agg (F.vote u)] (.tup [.agg (F.V i (us++[u])).cs,.sl 62 m .no]):=by
 have hno:=vts_no (us:=us++[u]) (x:=F.x) (n:=3*F.s.f+F.s.t+1) (by
  have e1:F.s.f=1:=rfl;have e2:F.s.t=F.t:=rfl
  rw[e1,e2];simp;omega)
 obtain⟨l,m,hl,hm,hok,hsd,hH⟩:=F.hH i h0 h1 us u hv (false,[]) hno.symm;refine⟨m,by omega,hok,?_⟩;refine hear2_spec _ _ 0 0 [] u 0 F.x _ fun X=>?_
 have hun:∀ j:Nat,(0:Int)<=j->(j:Int)<0+F.wide->(F.V i (us++[u])).Un j:=fun j _ hj=>by
  cases j with
  |zero=>exact⟨_,_,_,[],[],[],_,rfl⟩
  |succ j=>exact F.W_un i _ _ (by omega) (by omega)
 have hS:=settle_no (F.V i (us++[u])) (F.W_ok _ _) rfl X m hun;have hL:=F.lead i (acpV F.s i F.x (us++[u])) (acpV_ok F.right h0 h1 F.x_len _).2.1 (vts (us++[u]) F.x) false [] X m (by omega);exact hears_w (F.V i us) (F.W_ok _ _) X [] l m _ _ _ _ 2 0 0 [] ⟨u,0,F.x⟩ (by simp) (by omega) hsd (acpV F.s i F.x (us++[u])) (acpV F.s i F.x us) (vts (us++[u]) F.x) [] [] (vts us F.x) [] [] false false [] [] (ledF i) (ledF i) (F.rest i) rfl (F.rest_le i) (F.rest_plain i) hH hS hL
theorem Fst.hear_l(F:Fst)(i:Int)(h0:0<=i)(h1:i<F.s.n)(us:List Int)(u:Int)(hv:Vt F us u)(hn:(us.length:Int)+1=4+F.t)
  (sh:List (List AV)) (now:Int) (bk tb:List (List AV)) (e:Int) (r:List UInt8) (v:Int) (hA:ASpec prog 42 [realm0,.str (bt1 F.o)] (.tup [realmA sh now bk tb [repC F.o e r v],.sl 6 [repC F.o e r v] .no,.int .i64 0])) :
  ∃ m,m.length<=3/\LtrOk m/\ASpec prog 73 [.agg (F.V i us).cs,.agg (F.vote u)] (.tup [.agg (F.E i (us++[u]) sh now bk tb e r v).cs,.sl 62 m .no]):=by
 have hyes:=vts_yes (us:=us++[u]) (x:=F.x) (n:=3*F.s.f+F.s.t+1) (by
  have e1:F.s.f=1:=rfl;have e2:F.s.t=F.t:=rfl;have:=F.ht
  rw[e1,e2];omega) (by
  have e1:F.s.f=1:=rfl;have e2:F.s.t=F.t:=rfl
  rw[e1,e2];simp;omega)
 obtain⟨l,m,hl,hm,hok,hsd,hH⟩:=F.hH i h0 h1 us u hv (true,F.x) hyes.symm;refine⟨m++[ltrR i F.o e r v],by simp;omega,fun y hy=>?_,?_⟩
 ·rcases List.mem_append.1 hy with hy|hy
  ·exact hok y hy
  ·rw[List.mem_singleton.1 hy];exact⟨rfl,by simp[ltrR,repC,AV.plain]⟩
 refine hear2_spec _ _ 0 0 [] u 0 F.x _ fun X=>?_;have ha0:=acp0_new F.right h0 h1
 have hcl:∀ nd,((F.W i nd).cells.length:Int)=F.wide:=fun nd=>by
  have:=F.rest_len i;have:=F.w1
  show(((nd::F.rest i).length:Nat):Int)=_
  rw[List.length_cons];omega
 have hpl:=F.plain2 i (nodC (acpV F.s i F.x (us++[u])) F.s (vts (us++[u]) F.x) [] [] true F.x (ledF i)) (nodC_plain _ _ _ _ _ _ _ _)
 have hS:FSpec prog 180 [.ptr 3 0] ((F.W i (nodC (acpV F.s i F.x (us++[u])) F.s (vts (us++[u]) F.x) [] [] true F.x (ledF i))).bx X m) ((F.E i (us++[u]) sh now bk tb e r v).bx X (m++[ltrR i F.o e r v])) (.tup []):=by
  by_cases hi:i=0
  ·exact settle_yes1 (F.W i _) (F.W_ok _ _) F.right rfl rfl X m (by omega) F.o F.hx (acpV F.s i F.x (us++[u])) (acp0 F.s i) F.s (vts (us++[u]) F.x) [] [] (ledF i) (F.rest i) rfl ha0 rfl (hcl _) hpl (F.W_un i _) sh now bk tb e r v rfl rfl rfl rfl rfl rfl (if_pos hi) hA
  ·exact settle_yes (F.W i _) (F.W_ok _ _) F.right rfl rfl X m (by omega) F.o F.hx (acpV F.s i F.x (us++[u])) (acp0 F.s i) F.s (vts (us++[u]) F.x) [] [] (ledF i) (F.rest i) rfl ha0 rfl (hcl _) hpl (F.W_un i _) sh now bk tb e r v rfl rfl rfl rfl rfl rfl (if_neg hi) hA
 have hL:FSpec prog 138 [.ptr 3 0] ((F.E i (us++[u]) sh now bk tb e r v).bx X (m++[ltrR i F.o e r v])) ((F.E i (us++[u]) sh now bk tb e r v).bx X (m++[ltrR i F.o e r v])) (.tup []):=by
  refine lead_no (F.E i (us++[u]) sh now bk tb e r v) ⟨F.w1,F.w4,by show(0:Int)<=1;omega,by show(1:Int)<=1;omega⟩ F.right X _ (fun j hj=>?_) (waiting0 sh now bk tb [repC F.o e r v]);have hj2:(j:Int)<1+F.wide:=hj;have hc:=hcl (nodC (acpV F.s i F.x (us++[u])) F.s (vts (us++[u]) F.x) [] [] true F.x (ledF i))
  by_cases hj3:(j:Int)<F.wide
  ·obtain⟨a,sz,l,c,q,d,v,p,e⟩:=F.W_rd i (acpV F.s i F.x (us++[u])) F.s (vts (us++[u]) F.x) [] [] true F.x (ledF i) j hj3;refine⟨a,sz,l,c,q,d,v,p,?_⟩
   show(_++_)[j]? = _
   rw[List.getElem?_append_left (by
    have e2:(((nodC (acpV F.s i F.x (us++[u])) F.s (vts (us++[u]) F.x) [] [] true F.x (ledF i))::F.rest i).length:Int)=F.wide:=hc
    omega)]
   exact e
  ·refine⟨acp0 F.s i,F.s,[],[],[],false,[],-1,?_⟩;have e2:(((nodC (acpV F.s i F.x (us++[u])) F.s (vts (us++[u]) F.x) [] [] true F.x (ledF i))::F.rest i).length:Int)=F.wide:=hc
   show(_++_)[j]? = _
   rw[List.getElem?_append_right (by omega),show j-((nodC (acpV F.s i F.x (us++[u])) F.s (vts (us++[u]) F.x) [] [] true F.x (ledF i))::F.rest i).length=0 by omega];rfl
 exact hears_w (F.V i us) (F.W_ok _ _) X [] l m _ _ _ _ 2 0 0 [] ⟨u,0,F.x⟩ (by simp) (by omega) hsd (acpV F.s i F.x (us++[u])) (acpV F.s i F.x us) (vts (us++[u]) F.x) [] [] (vts us F.x) [] [] true false F.x [] (ledF i) (ledF i) (F.rest i) rfl (F.rest_le i) (F.rest_plain i) hH hS hL
def wldC(s:Sz)(wide:Int)(bad:List Bool)(N C pool:List (List AV)):List AV:=[.int .i64 s.f,.int .i64 s.t,.int .i64 wide,.sl 1 (bad.map fun b=>[.bool b]) .no,.sl 58 N .no,.sl 13 C .no,.sl 62 pool .no]
def wldA(s:Sz)(wide:Int)(bad:List Bool)(N C pool:List (List AV)):AV:=.agg (wldC s wide bad N C pool)
theorem is_spec(s:Sz)(wide:Int)(bad:List Bool)(N C pool:List (List AV))(i:Nat)(hi:i<1000)(v:Bool)(hv:bad[i]? = some v):ASpec prog 32 [wldA s wide bad N C pool,.int .i64 i,.bool false] (.bool (v==false)):=by
 have h0:(0:Int)<=i:=by omega
 have hl:(i:Int)<bad.length:=by have:=(Va hv).1;omega
 refine Sh func32 (by kernel_rfl) rfl fun c0 hc0=>?_;simp only[go_sem,wldA,wldC,h0,hl,hv,Vg,xtab_34];(and_intros<;>try omega)
 all_goals try simp only[Yo,Y4,Option.getD_none,Yb,Option.bind_none,Yc,Option.map_none,Y6,Y7,Ya,Y9,Y1,Y2,Yw,List.getD_cons_zero,List.getD_cons_succ,Yi,Yh,Yg,Yj,Yk,Yl,Yf,Ye,Y5,Y3,Yd,List.all_cons,List.all_nil,Ym,Yn,Yt,Yu,Ys,Yr,reduceIte,Nat.reduceAdd,Nat.reduceLeDiff,Nat.reduceEqDiff,Nat.reduceMul,Nat.reduceBEq,Nat.reduceSub,Yp,Yq,beq_self_eq_true,Bool.and_self,Bool.and_true,Bool.true_and,Bool.and_false,Bool.false_and,Bool.not_true,Bool.not_false,Bool.not_eq_true',Bool.not_eq_false',decide_eq_true_eq,decide_eq_false_iff_not,decide_true,decide_false,not_false_eq_true,not_true_eq_false,Nat.reduceLT,Nat.lt_irrefl,forall_const,reduceCtorEq,false_implies,implies_true,Yv,Option.some.injEq,Int.toNat_natCast,Y0,Option.isSome_none,Option.isSome_some,Y8]
 exact Vr
theorem clipL_spec(l:List (List AV)):OSpec prog 85 [.sl 62 l .no] 62 l:=by
 refine⟨⟨_,func85,by kernel_rfl,rfl⟩,?_⟩;have htk:l.take l.length=l:=List.take_length;refine Sg func85 rfl fun c1 hc1=>?_;simp only[go_sem,htk,xtab_32,xtab_52];(and_intros<;>try omega);exact⟨_,rfl,rfl⟩
structure Wld where
 s:Sz
 wide:Int
 bad:List Bool
 N:List (List AV)
 C:List (List AV)
 pool:List (List AV)
def Wld.bx(W:Wld)(X:X3)(n k:Nat):List ABlk:=[X.x0,X.x1,X.x2,.box [.int .i64 W.s.f,.int .i64 W.s.t,.int .i64 W.wide,.sl 1 (W.bad.map fun b=>[.bool b]) .no,.msu 4 58 n,.msu 5 13 k,.sl 62 W.pool .no],.rows 58 W.N,.rows 13 W.C]
theorem Wld.bel(W:Wld)(X:X3)(n k:Nat)(hN:belLL 6 W.N=true)(hC:belLL 6 W.C=true):belF 6 (W.bx X n k)=true:=by
 unfold Wld.bx;have h4:ABlk.bel 6 (.rows 58 W.N)=true:=hN;have h5:ABlk.bel 6 (.rows 13 W.C)=true:=hC;simp only[belF,X.h0 6 (by decide),X.h1 6 (by decide),X.h2 6 (by decide),h4,h5,Bool.true_and,Bool.and_true];rfl
theorem say_W(W:Wld)(X:X3)(n k:Nat)(hN:belLL 6 W.N=true)(hC:belLL 6 W.C=true)(m:List (List AV))(hm:W.pool.length+m.length<=3000) :
  FSpec prog 39 [.ptr 3 0,.sl 62 m .no] (W.bx X n k) (Wld.bx { W with pool:=W.pool++m } X n k) (.tup []):=by
 obtain⟨s,wide,bad,N,C,pool⟩:=W;dsimp only at hN hC hm;have hcl:=clipL_spec pool
 have e1:max (3000-(pool.length:Int)) 0=3000-pool.length:=by omega
 have e2:min (m.length:Int) (3000-pool.length)=m.length:=by omega
 have e3:m.take m.length=m:=List.take_length;refine⟨⟨_,func39,by kernel_rfl,rfl⟩,Sg func39 rfl fun c0 hc0=>?_⟩;simp only[go_sem,Wld.bx,e1,xtab_32,xtab_34,Nat.reduceAdd,Nat.reduceSub];(and_intros<;>try first|rfl|omega);refine DOps.own rfl .free rfl rfl (hcl) (by exact Vl) rfl rfl ?_;refine DOps.god tab_ok follows_ok func39 0 rfl ?_;simp only[go_sem,e2,e3,xtab_32,xtab_34,xtab_52];(and_intros<;>try first|rfl|omega);refine Run.weak (Weak.untok 3 6 62 _ _ _ rfl rfl) ?_;simp only[Y6,Y7];refine Rg func39 ?_;simp only[go_sem]
theorem put_W(W:Wld)(X:X3)(n k:Nat)(hN:belLL 6 W.N=true)(hC:belLL 6 W.C=true)(m:List (List AV))(hm:W.pool.length+m.length<=3000)(i:Nat)(hn:W.N.length=n)(w0 w:Wrk)(h0:W.N[i]? = some w0.cs)(hN2:belLL 6 (W.N.set i w.cs)=true) :
  FSpec prog 35 [.ptr 3 0,.int .i64 i,.agg w.cs,.sl 62 m .no] (W.bx X n k) (Wld.bx { W with N:=W.N.set i w.cs,pool:=W.pool++m } X n k) (.tup []):=by
 have hsay:=say_W { W with N:=W.N.set i w.cs } X n k hN2 hC m hm;obtain⟨s,wide,bad,N,C,pool⟩:=W;dsimp only at hN hC hm h0 hsay hN2 hn
 have hin:i<n:=by have:=(Va h0).1;omega
 have hi:(i:Int)<n:=by omega
 obtain⟨a1,a2,a3,a4,a5,a6,a7,a8,a9,b1,b2,b3,b4⟩:=w0;obtain⟨s',me,wide',low,ent,sh,now,bk,tb,sn,log,cells,asked⟩:=w;refine⟨⟨_,func35,by kernel_rfl,rfl⟩,Sg func35 rfl fun c0 hc0=>?_⟩;simp only[go_sem,h0,Wld.bx,Wrk.cs,rplC,xtab_34,Nat.reduceAdd,Nat.reduceLeDiff,Nat.reduceLT,Nat.reduceSub];(and_intros<;>try first|rfl|omega);refine Ops.callF .free rfl rfl hsay (by rfl) rfl (Wld.bel _ _ _ _ hN2 hC) (Wld.bel _ _ _ _ hN2 hC) rfl rfl (by exact Vl) ?_;refine Og func35 ?_;simp only[go_sem,Wld.bx,Wrk.cs,rplC]
theorem come_W(W:Wld)(X:X3)(n k:Nat)(hN:belLL 6 W.N=true)(hC:belLL 6 W.C=true)(m:List (List AV))(hm:W.pool.length+m.length<=3000)(i:Nat)(hn:W.N.length=n)(w0 w:Wrk)(h0:W.N[i]? = some w0.cs)(hN2:belLL 6 (W.N.set i w.cs)=true)
  (lt:List AV) (hlt:lt.length=62) (_:lt.all AV.cell=true) (hlb:belL 0 lt=true) (hH:ASpec prog 73 [.agg w0.cs,.agg lt] (.tup [.agg w.cs,.sl 62 m .no])) :
  FSpec prog 33 [.ptr 3 0,.int .i64 i,.agg lt] (W.bx X n k) (Wld.bx { W with N:=W.N.set i w.cs,pool:=W.pool++m } X n k) (.tup []):=by
 have hput:=put_W W X n k hN hC m hm i hn w0 w h0 hN2
 have e62:lt.take 62=lt:=by rw[<- hlt];exact List.take_length
 obtain⟨s,wide,bad,N,C,pool⟩:=W;dsimp only at hN hC hm h0 hput hN2 hn
 have hin:i<n:=by have:=(Va h0).1;omega
 have hi:(i:Int)<n:=by omega
 obtain⟨a1,a2,a3,a4,a5,a6,a7,a8,a9,b1,b2,b3,b4⟩:=w0;refine⟨⟨_,func33,by kernel_rfl,rfl⟩,Sg func33 rfl fun c0 hc0=>?_⟩;simp only[go_sem,h0,Wld.bx,Wrk.cs,rplC,xtab_34,xtab_52,Nat.reduceAdd,Nat.reduceLeDiff,Nat.reduceLT,Nat.reduceSub];(and_intros<;>try first|rfl|omega);refine DOps.pure rfl .free rfl rfl hH (by simp only[go_sem,e62,Wrk.cs,rplC];(repeat' first|exact .refl _|apply LeR.tup|constructor)) (by show(belL 0 _&&(belL 0 lt&&true))=true;rw[hlb];rfl) rfl ?_;refine Dg func33 rfl ?_;simp only[go_sem,Wrk.cs,rplC];(and_intros<;>try first|rfl|omega);refine Ops.callF .free rfl rfl hput (by rfl) rfl (Wld.bel _ _ _ _ hN hC) (Wld.bel _ _ _ _ hN2 hC) rfl rfl (by exact Vl) ?_;refine Og func33 ?_;simp only[go_sem,Wld.bx,Wrk.cs,rplC]
def ltr9:List AV:=ltrP 0 0 0 0 [] 0 0 [] .nils
def ord9:List AV:=[.int .i64 0,.int .i64 0,.int .i64 0,.str [],.str [],.int .i64 0,.int .i64 0,.int .i64 0]
def actA(k i j:Int)(o:List AV):AV:=.agg ([.int .i64 k,.int .i64 i,.int .i64 j]++ltr9++o)
def stepX(s:Sz)(wide:Int)(bad:List Bool)(N C pool:List (List AV))(k i j:Int):X3:=⟨.box (wldC s wide bad N C pool),.box ([.int .i64 k,.int .i64 i,.int .i64 j]++ltr9++ord9),.box [.int .i64 0,.int .i64 0,.int .i64 0,.nils,.nils,.nils,.nils],fun _ _=>rfl,fun _ _=>rfl,fun _ _=>rfl⟩
theorem step_come(s:Sz)(wide:Int)(bad:List Bool)(N C pool:List (List AV))(i j:Nat)(hi9:i<1000)(hj9:j<100000)(hN:∀ x∈N,∀ a∈x,a.plain=true)(hC:∀ x∈C,∀ a∈x,a.plain=true)(hnN:N.length<=100)(hnC:C.length<=100)(hneC:C≠[])
  (hb:bad[i]? = some false) (w0 w:Wrk) (h0:N[i]? = some w0.cs) (hN2:∀ x∈N.set i w.cs,∀ a∈x,a.plain=true) (lt:List AV) (hj:pool[j]? = some lt) (hlt:lt.length=62) (hlc:∀ a∈lt,a.plain=true) (m:List (List AV)) (hm:pool.length+m.length<=3000)
  (hH:ASpec prog 73 [.agg w0.cs,.agg lt] (.tup [.agg w.cs,.sl 62 m .no])) :
  ASpec prog 8 [wldA s wide bad N C pool,actA 0 i j ord9] (wldA s wide bad (N.set i w.cs) C (pool++m)):=by
 have hlc2:lt.all AV.cell=true:=List.all_eq_true.2 fun a ha=>AV.plain_cell (hlc a ha)
 have e62:lt.take 62=lt:=by rw[<- hlt];exact List.take_length
 have hcome:=come_W ⟨s,wide,bad,N,C,pool⟩ (stepX s wide bad N C pool 0 i j) N.length C.length (bel_rows hN) (bel_rows hC) m hm i rfl w0 w h0 (bel_rows hN2) lt hlt hlc2 (bel_row hlc) hH;have his:=is_spec s wide bad N C pool i hi9 false hb
 have hneN:N≠[]:=by intro e;rw[e] at h0;simp at h0
 have hclN:=clone_replica_Replica N hneN (by omega) (fun x hx a ha=>AV.plain_cell (hN x hx a ha));have hclC:=clone_client_Client C hneC (by omega) (fun x hx a ha=>AV.plain_cell (hC x hx a ha));have hjl:j<pool.length:=(Va hj).1
 have hjj:(j:Int)<pool.length:=by omega
 have hj0:(0:Int)<=j:=by omega
 have eN:(N.set i w.cs).take N.length=N.set i w.cs:=by
  have e:(N.set i w.cs).length=N.length:=List.length_set ..;rw[<- e];exact List.take_length
 have eC:C.take C.length=C:=List.take_length;refine Sh func8 (by kernel_rfl) rfl fun c0 hc0=>?_;simp only[go_sem,wldA,wldC,actA,ltr9,ltrP,ltrZ,ord9,xtab_34];(and_intros<;>try first|rfl|omega);refine Ops.call .free rfl rfl ⟨_,func31,by kernel_rfl,rfl⟩ ?_;refine ACall.of func31 rfl fun c1 hc1=>?_;simp only[ntmps31,Nat.reduceAdd,Y3];refine Rg func31 ?_;simp only[go_sem,xtab_34];(and_intros<;>try first|rfl|omega);refine DOps.made rfl .free rfl rfl hclN (by exact Vl) rfl (bel_rows hN) rfl ?_;refine Dg func31 rfl ?_;simp only[go_sem,xtab_34];(and_intros<;>try first|rfl|omega);refine DOps.made rfl .free rfl rfl hclC Vl rfl (bel_rows hC) rfl ?_;refine Dg func31 rfl ?_;simp only[go_sem,xtab_34];(and_intros<;>try first|rfl|omega);refine Og func8 ?_;simp only[go_sem,xtab_34,xtab_54,Nat.reduceAdd,Nat.reduceLeDiff];(and_intros<;>try first|rfl|omega);refine DOps.pure rfl .free rfl rfl (his) (by exact Vl) rfl rfl ?_;refine Dg func8 rfl ?_;simp only[go_sem,hjj,hj0,hj,hlt,e62,xtab_32,xtab_34,xtab_52,xtab_54];(and_intros<;>try first|rfl|omega);refine DOps.callW rfl .free rfl rfl hcome (by rfl) rfl (Wld.bel _ _ _ _ (bel_rows hN) (bel_rows hC)) (Wld.bel _ _ _ _ (bel_rows hN2) (bel_rows hC)) (by show(true&&(true&&(belL 6 lt&&true)))=true;rw[bel_row hlc];rfl) rfl (by exact Vl) ?_;refine DOps.god tab_ok follows_ok func8 0 rfl ?_;simp only[go_sem,Wld.bx,stepX];(and_intros<;>try first|rfl|omega);refine Run.weak (Weak.freezeU 3 4 4 58 N.length _ _ rfl rfl rfl (by decide) (by simp) (fun x hx=>hN2 x (List.mem_of_mem_take hx))) ?_;simp only[eN,Y6,Y7];refine Run.weak (Weak.freezeU 3 5 5 13 C.length _ _ rfl rfl rfl (by decide) (by simp) (fun x hx=>hC x (List.mem_of_mem_take hx))) ?_;simp only[eC,Y6,Y7];refine Rg func8 ?_;simp only[go_sem,xtab_34];(and_intros<;>try omega);exact Vr
def cliC(id seq:Int)(b:Bool)(o:Ord):List AV:=[.int .i64 id,.int .i64 seq,.bool b,.int .i64 o.a,.int .i64 o.b,.int .i64 o.kind,.str o.s,.str o.t,.int .i64 o.x,.int .i64 o.y,.int .i64 o.z,.nils,.nils]
theorem ltrO_plain(o:Ord):∀ a∈ltrO o,a.plain=true:=by
 simp[ltrO,ordC,AV.plain]
def stepY(s:Sz)(wide:Int)(bad:List Bool)(N C:List (List AV))(o:Ord):X3:=⟨.box (wldC s wide bad N C []),.box ([.int .i64 2,.int .i64 0,.int .i64 0]++ltr9++ordC o),.box [.int .i64 0,.int .i64 0,.int .i64 0,.nils,.nils,.nils,.nils],fun _ _=>rfl,fun _ _=>rfl,fun _ _=>rfl⟩
theorem step_ask(s:Sz)(wide:Int)(bad:List Bool)(N C:List (List AV))(hN:∀ x∈N,∀ a∈x,a.plain=true)(hC:∀ x∈C,∀ a∈x,a.plain=true)(hnN:N.length<=100)(hnC:C.length<=100)(hneN:N≠[])
  (hb:bad[0]? = some false) (o:Ord) :
  ASpec prog 8 [wldA s wide bad N (cliC 0 0 false zOrd::C) [],actA 2 0 0 (ordC o)] (if mayO (askO 0 o) then wldA s wide bad N (cliC 0 1 true (askO 0 o)::C) [ltrO (askO 0 o)] else wldA s wide bad N (cliC 0 0 false zOrd::C) []):=by
 have hC2:∀ x∈cliC 0 0 false zOrd::C,∀ a∈x,a.plain=true:=fun x hx=>by
  rcases List.mem_cons.1 hx with rfl|hx
  ·simp[cliC,AV.plain]
  ·exact hC x hx
 have hC3:∀ x∈cliC 0 1 true (askO 0 o)::C,∀ a∈x,a.plain=true:=fun x hx=>by
  rcases List.mem_cons.1 hx with rfl|hx
  ·simp[cliC,AV.plain]
  ·exact hC x hx
 have his:=is_spec s wide bad N (cliC 0 0 false zOrd::C) [] 0 (by omega) false hb;have hclN:=clone_replica_Replica N hneN (by omega) (fun x hx a ha=>AV.plain_cell (hN x hx a ha));have hclC:=clone_client_Client (cliC 0 0 false zOrd::C) (by simp) (by simp;omega) (fun x hx a ha=>AV.plain_cell (hC2 x hx a ha));have ha:=ask_spec 0 o
 have hlt:¬(0:Int)<0:=by omega
 have hle0:¬(C.length:Int)+1<=0:=by omega
 have eN:N.take N.length=N:=List.take_length;have eC:C.take C.length=C:=List.take_length
 by_cases hm:mayO (askO 0 o)=true
 case pos=>
  rw[if_pos hm];rw[if_pos hm] at ha;have hsay:=say_W ⟨s,wide,bad,N,cliC 0 1 true (askO 0 o)::C,[]⟩ (stepY s wide bad N (cliC 0 0 false zOrd::C) o) N.length (C.length+1) (bel_rows hN) (bel_rows hC3) [ltrO (askO 0 o)] (by simp);refine Sh func8 (by kernel_rfl) rfl fun c0 hc0=>?_;simp only[go_sem,wldA,wldC,actA,ltr9,ltrP,ltrZ,ordC,xtab_34];(and_intros<;>try first|rfl|omega);refine Ops.call .free rfl rfl ⟨_,func31,by kernel_rfl,rfl⟩ ?_;refine ACall.of func31 rfl fun c1 hc1=>?_;simp only[ntmps31,Nat.reduceAdd,Y3];refine Rg func31 ?_;simp only[go_sem,xtab_34];(and_intros<;>try first|rfl|omega);refine DOps.made rfl .free rfl rfl hclN (by exact Vl) rfl (bel_rows hN) rfl ?_;refine Dg func31 rfl ?_;simp only[go_sem,xtab_34];(and_intros<;>try first|rfl|omega);refine DOps.made rfl .free rfl rfl hclC Vl rfl (bel_rows hC2) rfl ?_;refine Dg func31 rfl ?_;simp only[go_sem,xtab_34];(and_intros<;>try first|rfl|omega);refine Og func8 ?_;simp only[go_sem,xtab_34,xtab_54,Nat.reduceAdd,Nat.reduceLeDiff];(and_intros<;>try first|rfl|omega);refine DOps.pure rfl .free rfl rfl (his) (by exact Vl) rfl rfl ?_;refine Dg func8 rfl ?_;simp only[go_sem,hlt,xtab_32,xtab_34,xtab_54];(and_intros<;>try first|rfl|omega);refine Ops.call .free rfl rfl ⟨_,func36,by kernel_rfl,rfl⟩ ?_;refine ACall.of func36 rfl fun c1 hc1=>?_;simp only[ntmps36,Nat.reduceAdd,Y3];refine Rg func36 ?_;simp only[go_sem,hlt,hle0,cliC,Int.natCast_add,Int.natCast_one,xtab_34];(and_intros<;>try first|rfl|omega);refine DOps.pure rfl .free rfl rfl (ha) (by exact Vl) rfl rfl ?_;refine Dg func36 rfl ?_;simp only[go_sem,encO,cliA,xtab_32,xtab_34,xtab_52];(and_intros<;>try first|rfl|omega);refine Ops.callF .free rfl rfl hsay (by rfl) rfl (Wld.bel _ _ _ _ (bel_rows hN) (bel_rows hC3)) (Wld.bel _ _ _ _ (bel_rows hN) (bel_rows hC3)) rfl rfl (by simp only[go_sem,ltrO,ordC];(repeat' first|exact .refl _|apply LeR.tup|constructor)) ?_;refine Og func36 ?_;simp only[go_sem,Wld.bx,stepY];(and_intros<;>try omega);refine Ops.god tab_ok follows_ok func8 0 ?_;simp only[go_sem]
  trace_state
  refine Run.weak (Weak.freezeU 3 4 4 58 N.length _ _ rfl rfl rfl (by decide) (by simp) (fun x hx=>hN x (List.mem_of_mem_take hx))) ?_;simp only[eN,Y6,Y7];refine Run.weak (Weak.freezeU 3 5 5 13 (C.length+1) _ _ rfl rfl rfl (by decide) (by simp) (fun x hx=>hC3 x (List.mem_of_mem_take hx))) ?_;simp only[eC,Y6,Y7,Yg];refine Rg func8 ?_;simp only[go_sem,xtab_34];(and_intros<;>try omega);exact Vr
 case neg=>
  rw[if_neg hm];rw[if_neg hm] at ha
  have h10:¬(1:Int)=0:=by omega
  refine Sh func8 (by kernel_rfl) rfl fun c0 hc0=>?_;simp only[go_sem,wldA,wldC,actA,ltr9,ltrP,ltrZ,ordC,xtab_34];(and_intros<;>try first|rfl|omega);refine Ops.call .free rfl rfl ⟨_,func31,by kernel_rfl,rfl⟩ ?_;refine ACall.of func31 rfl fun c1 hc1=>?_;simp only[ntmps31,Nat.reduceAdd,Y3];refine Rg func31 ?_;simp only[go_sem,xtab_34];(and_intros<;>try first|rfl|omega);refine DOps.made rfl .free rfl rfl hclN (by exact Vl) rfl (bel_rows hN) rfl ?_;refine Dg func31 rfl ?_;simp only[go_sem,xtab_34];(and_intros<;>try first|rfl|omega);refine DOps.made rfl .free rfl rfl hclC Vl rfl (bel_rows hC2) rfl ?_;refine Dg func31 rfl ?_;simp only[go_sem,xtab_34];(and_intros<;>try first|rfl|omega);refine Og func8 ?_;simp only[go_sem,xtab_34,xtab_54,Nat.reduceAdd,Nat.reduceLeDiff];(and_intros<;>try first|rfl|omega);refine DOps.pure rfl .free rfl rfl (his) (by exact Vl) rfl rfl ?_;refine Dg func8 rfl ?_;simp only[go_sem,hlt,xtab_32,xtab_34,xtab_54];(and_intros<;>try first|rfl|omega);refine Ops.call .free rfl rfl ⟨_,func36,by kernel_rfl,rfl⟩ ?_;refine ACall.of func36 rfl fun c1 hc1=>?_;simp only[ntmps36,Nat.reduceAdd,Y3];refine Rg func36 ?_;simp only[go_sem,hlt,hle0,cliC,Int.natCast_add,Int.natCast_one,xtab_34];(and_intros<;>try first|rfl|omega);refine DOps.pure rfl .free rfl rfl (ha) (by exact Vl) rfl rfl ?_;refine Dg func36 rfl ?_;simp only[go_sem,encO,cliA,h10];(and_intros<;>try first|rfl|omega);refine Ops.god tab_ok follows_ok func8 0 ?_;simp only[go_sem];refine Run.weak (Weak.freezeU 3 4 4 58 N.length _ _ rfl rfl rfl (by decide) (by simp) (fun x hx=>hN x (List.mem_of_mem_take hx))) ?_;simp only[eN,Y6,Y7];refine Run.weak (Weak.freezeU 3 5 5 13 (C.length+1) _ _ rfl rfl rfl (by decide) (by simp) (fun x hx=>hC2 x (List.mem_of_mem_take hx))) ?_;simp only[eC,Y6,Y7,Yg];refine Rg func8 ?_;simp only[go_sem,xtab_34];(and_intros<;>try first|rfl|omega);exact Vr
theorem cloneB(l:List (List AV))(hne:l≠[])(hl:l.length<=1000)(_:∀ x∈l,∀ a∈x,a.plain=true):ASpec prog 27 [.sl 1 l .no] (.sl 1 l .no):=by
 have h0:¬l.length=0:=fun e=>hne (List.length_eq_zero_iff.1 e)
 have h1:¬l.length<=0:=by omega
 refine Sh func27 (by kernel_rfl) rfl fun c0 hc0=>?_;simp only[go_sem,h0];(and_intros<;>try first|rfl|omega);(repeat' first|exact .refl _|apply LeR.tup|constructor)
theorem cnew_spec(id:Int)(h0:0<=id)(h1:id<=1000):ASpec prog 29 [.int .i64 id] (.tup [.agg (cliC id 0 false zOrd),.int .i64 0]):=by
 have g0:¬id<0:=by omega
 have g1:¬(1000:Int)<id:=by omega
 refine Sh func29 (by kernel_rfl) rfl fun c0 hc0=>?_;simp only[go_sem,g0,g1];(and_intros<;>try omega)
 try simp only[cliC,zOrd]
 exact Vr
noncomputable def en(t:Int):Option AV:=fst9 (ncalled9 xfun (nrun9 xfun M9 K8 xtab 100000) o0 66 [.agg [.int .i64 1,.int .i64 t],.int .i64 0] HT.nil)
def elE(t:Int)(n:Nat):AV:=.tup [.agg [.int .i64 1,.int .i64 t,.int .i64 0,.int .i64 0,.sl 1 (List.replicate n [.int .i64 0]) .no,.int .i64 0,.int .i64 4],.int .i64 0]
theorem en_0:en 0=some (elE 0 4):=by kernel_rfl
theorem en_1:en 1=some (elE 1 6):=by kernel_rfl
theorem en_spec{t:Int}{n:Nat}(h:en t=some (elE t n)):ASpec prog 66 [eS ⟨1,t⟩,.int .i64 0] (elE t n):=by
 obtain⟨h',e⟩:=fst9_ok h;exact ASpec.of9 xfun_ok M9_ok K8_ok K8_pres xtab_ok xfollows_ok 100000 e
theorem rnew_bad{t wide:Int}{n:Nat}(he:ASpec prog 66 [eS ⟨1,t⟩,.int .i64 0] (elE t n))(hw:wide<1\/4<wide):ASpec prog 28 [eS ⟨1,t⟩,.int .i64 0,.int .i64 wide] (.tup [.agg zRpl,.int .i64 1]):=by
 unfold elE at he
 rcases hw with hw|hw
 ·refine Sh func28 (by kernel_rfl) rfl fun c0 hc0=>?_;simp only[go_sem,eS];(and_intros<;>try omega);refine Ops.pure .free rfl rfl (he) Vl rfl rfl ?_;refine Og func28 ?_;simp only[go_sem,hw];(and_intros<;>try omega)
  try simp only[zRpl]
  exact Vr
 ·have h1:¬wide<1:=by omega
  refine Sh func28 (by kernel_rfl) rfl fun c0 hc0=>?_;simp only[go_sem,eS];(and_intros<;>try omega);refine Ops.pure .free rfl rfl (he) Vl rfl rfl ?_;refine Og func28 ?_;simp only[go_sem,hw,h1];(and_intros<;>try omega)
  try simp only[zRpl]
  exact Vr
def okW(s:Sz)(wide:Int)(bad:List Bool)(cl:Int):Prop:=s.right=true/\(bad.length:Int)=s.n/\((bad.countP id:Nat):Int)<=s.f/\1<=cl/\cl<=4/\1<=wide/\wide<=4
def reps0(s:Sz)(wide:Int)(n:Nat):List (List AV):=(List.range n).map fun i:Nat=>(newW s (i:Int) wide).cs
def clis0(n:Nat):List (List AV):=(List.range n).map fun i:Nat=>cliC (i:Int) 0 false zOrd
def badA(bad:List Bool):AV:=.sl 1 (bad.map fun b=>[.bool b]) .no
def zWld:List AV:=[.int .i64 0,.int .i64 0,.int .i64 0,.nils,.nils,.nils,.nils]
theorem reps0_snoc(s:Sz)(wide:Int)(n:Nat):reps0 s wide (n+1)=reps0 s wide n++[(newW s n wide).cs]:=by unfold reps0;rw[List.range_succ,List.map_append];rfl
theorem clis0_snoc(n:Nat):clis0 (n+1)=clis0 n++[cliC n 0 false zOrd]:=by unfold clis0;rw[List.range_succ,List.map_append];rfl
theorem size1{s:Sz}(hf:s.f<=1)(hs:s.right=true):s.f=1/\(s.t=0\/s.t=1)/\s.n=4+2*s.t:=by
 unfold Sz.right at hs;unfold Sz.n;simp only[Vi,decide_eq_true_eq] at hs;omega
open Classical in
theorem wnew_spec(s:Sz)(hf:s.f<=1)(wide:Int)(bad:List Bool)(hb1:bad≠[])(hb10:bad.length<=10)(cl:Int) :
  ASpec prog 6 [eS s,.int .i64 wide,badA bad,.int .i64 cl] (if okW s wide bad cl then .tup [wldA s wide bad (reps0 s wide bad.length) (clis0 cl.toNat) [],.int .i64 0] else .tup [.agg zWld,.int .i64 1]):=by
 have hr:=right_spec s
 have hcb:=cloneB (bad.map fun b=>[.bool b]) (by simpa using hb1) (by simp;omega) (fun x hx=>by
  obtain⟨b,_,rfl⟩:=List.mem_map.1 hx
  simp[AV.plain])
 have hbl:0<bad.length:=List.length_pos_iff.2 hb1;refine Sh func6 (by kernel_rfl) rfl fun c0 hc0=>?_;simp only[go_sem,eS,badA,xtab_34];(and_intros<;>try omega);refine Run.loopV (α:=Nat) (fun k=>k<=bad.length) (fun k=>[(10,.int .i64 ((bad.take k).countP id:Nat)),(22,.int .i64 k)]) 2 (fun _=>[]) (fun k=>bad.length-k) 0 (Nat.zero_le _) ?_ ?_
 ·simp only[go_sem,writes,junks,puts,hputs,List.filterMap_cons,List.filterMap_nil,List.countP_nil];(refine Weak.of (by simp[hc0]) ?_ ?_<;>repeat' first|exact .refl _|exact .junk _|rfl|apply Le.agg|constructor)
 intro k hk0 ih;simp only[writes,junks,puts,hputs,List.filterMap_cons,List.filterMap_nil,Y6,Y7,Yg,Yk,Y5,Y3,Yd] at ih ⊢
 by_cases hk:k<bad.length
 case pos=>
  obtain⟨b,hb⟩:∃ b,bad[k]? = some b:=⟨_,Vb hk⟩
  have hkk:(k:Int)<bad.length:=by omega
  have et:(bad.take (k+1)).countP id=(bad.take k).countP id+(if b=true then 1 else 0):=by
   rw[List.take_add_one,hb,List.countP_append];cases b<;>rfl
  have hct:(bad.take k).countP id<=10:=Nat.le_trans List.countP_le_length (by rw[List.length_take];omega)
  cases b with
  |true=>
   rw[if_pos rfl] at et;refine Rg func6 ?_;simp only[go_sem,hb,hkk,Vg];(and_intros<;>try omega);refine ih (k+1) _ (by omega) (by omega) ?_;simp only[Int.natCast_add,Int.natCast_one,et];(refine Weak.of (by simp[hc0]) ?_ ?_<;>repeat' first|exact .refl _|exact .junk _|rfl|apply Le.agg|constructor)
  |false=>
   rw[if_neg (by simp)] at et;refine Rg func6 ?_;simp only[go_sem,hb,hkk,Vg];(and_intros<;>try omega);refine ih (k+1) _ (by omega) (by omega) ?_;simp only[Int.natCast_add,Int.natCast_one,Yq,et];(refine Weak.of (by simp[hc0]) ?_ ?_<;>repeat' first|exact .refl _|exact .junk _|rfl|apply Le.agg|constructor)
 case neg=>
  obtain rfl:k=bad.length:=by omega
  have hkk:¬(bad.length:Int)<bad.length:=by omega
  rw[List.take_length]
  obtain⟨c,hc⟩:∃ c:Nat,c=bad.countP id:=⟨_,rfl⟩
  rw[<- hc];refine Rg func6 ?_;simp only[go_sem,hkk];(and_intros<;>try omega)
  by_cases hsr:s.right=true
  case neg=>
   have hsf:s.right=false:=by simpa using hsr
   rw[if_neg fun h:okW s wide bad cl=>hsr h.1];rw[hsf] at hr;refine Ops.pure .free rfl rfl (hr) Vl rfl rfl ?_;refine Og func6 ?_;simp only[go_sem,xtab_34];(and_intros<;>try omega)
   try simp only[zWld]
   exact Vr
  rw[hsr] at hr;have hN:=zN_spec hsr
  by_cases hl:(bad.length:Int)=s.n
  case neg=>
   rw[if_neg fun h:okW s wide bad cl=>hl h.2.1];refine Ops.pure .free rfl rfl (hr) Vl rfl rfl ?_;refine Og func6 ?_;simp only[go_sem];(and_intros<;>try omega);refine Ops.pure (Wanted.test 3 false false rfl) rfl rfl (hN) Vl rfl rfl ?_;refine Og func6 ?_;simp only[go_sem,hl,xtab_34];(and_intros<;>try omega)
   try simp only[zWld]
   exact Vr
  by_cases hm:s.f<(c:Int)
  case pos=>
   rw[if_neg fun h:okW s wide bad cl=>by have:=h.2.2.1;rw[<- hc] at this;omega];refine Ops.pure .free rfl rfl (hr) Vl rfl rfl ?_;refine Og func6 ?_;simp only[go_sem];(and_intros<;>try omega);refine Ops.pure (Wanted.test 3 false false rfl) rfl rfl (hN) Vl rfl rfl ?_;refine Og func6 ?_;simp only[go_sem,hl,hm,xtab_34];(and_intros<;>try omega)
   try simp only[zWld]
   exact Vr
  by_cases hc1:cl<1
  case pos=>
   rw[if_neg fun h:okW s wide bad cl=>by have:=h.2.2.2.1;omega];refine Ops.pure .free rfl rfl (hr) Vl rfl rfl ?_;refine Og func6 ?_;simp only[go_sem];(and_intros<;>try omega);refine Ops.pure (Wanted.test 3 false false rfl) rfl rfl (hN) Vl rfl rfl ?_;refine Og func6 ?_;simp only[go_sem,hl,hm,hc1,xtab_34];(and_intros<;>try omega)
   try simp only[zWld]
   exact Vr
  by_cases hc4:4<cl
  case pos=>
   rw[if_neg fun h:okW s wide bad cl=>by have:=h.2.2.2.2.1;omega];refine Ops.pure .free rfl rfl (hr) Vl rfl rfl ?_;refine Og func6 ?_;simp only[go_sem];(and_intros<;>try omega);refine Ops.pure (Wanted.test 3 false false rfl) rfl rfl (hN) Vl rfl rfl ?_;refine Og func6 ?_;simp only[go_sem,hl,hm,hc1,hc4,xtab_34];(and_intros<;>try omega)
   try simp only[zWld]
   exact Vr
  refine Ops.pure .free rfl rfl (hr) Vl rfl rfl ?_;refine Og func6 ?_;simp only[go_sem];(and_intros<;>try first|rfl|omega);refine Ops.pure (Wanted.test 3 false false rfl) rfl rfl (hN) Vl rfl rfl ?_;refine Og func6 ?_;simp only[go_sem,hl,hm,hc1,hc4];(and_intros<;>try first|rfl|omega);refine DOps.pure rfl .free rfl rfl (hcb) (by exact Vl) rfl rfl ?_;refine Dg func6 rfl ?_;simp only[go_sem,xtab_34];(and_intros<;>try first|rfl|omega);obtain⟨hf1,ht,hn⟩:=size1 hf hsr
  have hs1:s=⟨1,s.t⟩:=by
   cases s;simp only at hf1;rw[hf1]
  by_cases hw:1<=wide/\wide<=4
  case neg=>
   rw[if_neg fun h:okW s wide bad cl=>hw h.2.2.2.2.2]
   have hbw:ASpec prog 28 [eS s,.int .i64 0,.int .i64 wide] (.tup [.agg zRpl,.int .i64 1]):=by
    rw[hs1]
    rcases ht with e|e
    ·rw[e];exact rnew_bad (en_spec en_0) (by omega)
    ·rw[e];exact rnew_bad (en_spec en_1) (by omega)
   have h0l:(0:Int)<bad.length:=by omega
   refine Run.unloop ?_;refine Rg func6 ?_;simp only[go_sem,h0l];(and_intros<;>try first|rfl|omega);refine Ops.pure .free rfl rfl (hbw) Vl rfl rfl ?_;refine Og func6 ?_;simp only[go_sem,zRpl,xtab_34];(and_intros<;>try first|rfl|omega)
   try simp only[zWld]
   (repeat' first|exact .refl _|apply LeR.tup|constructor)
  rw[if_pos (show okW s wide bad cl from⟨hsr,hl,by rw[<- hc];omega,by omega,by omega,hw.1,hw.2⟩)]
  have hnew:∀ k:Nat,k<bad.length->ASpec prog 28 [eS s,.int .i64 k,.int .i64 wide] (.tup [.agg (newW s k wide).cs,.int .i64 0]):=fun k hk=>by
   rw[hs1];exact new_spec ht (by omega) (by omega) hw.1 hw.2
  refine Run.weak (Weak.ownC 3 4 58 _ rfl rfl) ?_;simp only[Y6,Y7,Ya,Y9,Y5,Y3,Nat.reduceAdd,Yp];refine Run.loopV (α:=Nat) (fun k=>k<=bad.length) (fun k=>[(62,.int .i64 k)]) 5 (fun k=>[(3,.box [.int .i64 s.f,.int .i64 s.t,.int .i64 wide,.sl 1 (bad.map fun b=>[.bool b]) .no,.sl 58 (reps0 s wide k) (.own 4),.nils,.nils]),(4,.tok 58 (reps0 s wide k).length)]) (fun k=>bad.length-k) 0 (Nat.zero_le _) ?_ ?_
  ·simp only[go_sem,writes,junks,puts,hputs,List.filterMap_cons,List.filterMap_nil,reps0,List.range_zero];(refine Weak.of (by simp[hc0]) ?_ ?_<;>repeat' first|exact .refl _|exact .junk _|rfl|apply Le.agg|constructor)
  intro k hk0 ih;simp only[writes,junks,puts,hputs,List.filterMap_cons,List.filterMap_nil,Y6,Y7,Yg,Yk,Y5,Y3,Yd] at ih ⊢
  have hrl:(reps0 s wide k).length=k:=by unfold reps0;simp
  by_cases hk:k<bad.length
  case pos=>
   have hkk:(k:Int)<bad.length:=by omega
   have hnk:=hnew k hk;refine Rg func6 ?_;simp only[go_sem,hkk];(and_intros<;>try omega);refine Ops.pure .free rfl rfl (hnk) Vl rfl rfl ?_;refine Og func6 ?_;simp only[go_sem,newW,Wrk.cs,rplC,zsA,xtab_34];(and_intros<;>try omega)
   all_goals first|(simp only[hrl];omega)|skip
   refine ih (k+1) _ (by omega) (by omega) ?_;simp only[Int.natCast_add,Int.natCast_one,Ya,Y9,Yp,List.length_append,reps0_snoc,newW,Wrk.cs,rplC,zsA];(refine Weak.of (by simp[hc0]) ?_ ?_<;>repeat' first|exact .refl _|exact .junk _|rfl|apply Le.agg|constructor)
  case neg=>
   obtain rfl:k=bad.length:=by omega
   have hkk:¬(bad.length:Int)<bad.length:=by omega
   refine Rg func6 ?_;simp only[go_sem,hkk];(and_intros<;>try omega);refine Run.weak (Weak.ownC 3 5 13 _ rfl rfl) ?_;simp only[Y6,Y7,Ya,Y9,Y5,Y3,Nat.reduceAdd,Yp]
   obtain⟨q,rfl⟩:∃ q:Nat,cl=q:=⟨cl.toNat,by omega⟩
   refine Run.loopV (α:=Nat) (fun k=>k<=q) (fun k=>[(84,.int .i64 k)]) 6 (fun k=>[(3,.box [.int .i64 s.f,.int .i64 s.t,.int .i64 wide,.sl 1 (bad.map fun b=>[.bool b]) .no,.sl 58 (reps0 s wide bad.length) (.own 4),.sl 13 (clis0 k) (.own 5),.nils]),(5,.tok 13 (clis0 k).length)]) (fun k=>q-k) 0 (Nat.zero_le _) ?_ ?_
   ·simp only[go_sem,writes,junks,puts,hputs,List.filterMap_cons,List.filterMap_nil,clis0,List.range_zero];(refine Weak.of (by simp[hc0]) ?_ ?_<;>repeat' first|exact .refl _|exact .junk _|rfl|apply Le.agg|constructor)
   intro k hk0 ih;simp only[writes,junks,puts,hputs,List.filterMap_cons,List.filterMap_nil,Y6,Y7,Yg,Yk,Y5,Y3,Yd,Int.toNat_natCast] at ih ⊢
   have hcrl:(clis0 k).length=k:=by unfold clis0;simp
   by_cases hk:k<q
   case pos=>
    have hkk:(k:Int)<q:=by omega
    have hcn:=cnew_spec k (by omega) (by omega);refine Rg func6 ?_;simp only[go_sem,hkk];(and_intros<;>try omega);refine Ops.pure .free rfl rfl (hcn) Vl rfl rfl ?_;refine Og func6 ?_;simp only[go_sem,cliC,zOrd,xtab_34];(and_intros<;>try omega)
    all_goals first|(simp only[hcrl];omega)|skip
    refine ih (k+1) _ (by omega) (by omega) ?_;simp only[Int.natCast_add,Int.natCast_one,Ya,Y9,Yp,List.length_append,clis0_snoc,cliC,zOrd];(refine Weak.of (by simp[hc0]) ?_ ?_<;>repeat' first|exact .refl _|exact .junk _|rfl|apply Le.agg|constructor)
   case neg=>
    obtain rfl:k=q:=by omega
    have hkk:¬(k:Int)<k:=by omega
    refine Rg func6 ?_;simp only[go_sem,hkk,xtab_34];(and_intros<;>try first|rfl|omega)
    try simp only[wldA,wldC]
    (repeat' first|exact .refl _|apply LeR.tup|apply Le.agg|constructor)
theorem ASpec.weak{P:Program}{f:FuncId}{args:List AV}{a b:AV}(H:ASpec P f args a)(h:Le a b):ASpec P f args b:=by
 refine⟨H.fn,fun c vs hch hc ht=>(H.run c vs hch hc ht).mono ?_⟩;rintro e w' ⟨v,ρ',r,h',rfl,g1,g2,g3,hle⟩;exact⟨v,ρ',b,h',rfl,g1,g2,h.rv (hle.rv g3),.one (.refl _)⟩
noncomputable def rmn:Option AV:=fst9 (ncalled9 xfun (nrun9 xfun M9 K8 xtab 100000) o0 41 [] HT.nil)
theorem rmn_ok:rmn=some (.agg [.sl 4 [rootC] .no,.int .i64 0,.nils,.nils,.nils]):=by kernel_rfl
theorem rmnew_spec:ASpec prog 41 [] realm0:=by
 obtain⟨h',e⟩:=fst9_ok rmn_ok;refine(ASpec.of9 xfun_ok M9_ok K8_ok K8_pres xtab_ok xfollows_ok 100000 e).weak ?_;unfold realm0 realmA;exact .agg (.cons (.refl _) (.cons (.refl _) (.cons (.nil _) (.cons (.nil _) (.cons (.nil _) .nil)))))
theorem rfold_spec(o:Ord)(sh:List (List AV))(now:Int)(bk tb:List (List AV))(e:Int)(r:List UInt8)(v:Int)(hA:ASpec prog 42 [realm0,.str (bt1 o)] (.tup [realmA sh now bk tb [repC o e r v],.sl 6 [repC o e r v] .no,.int .i64 0])) :
  ASpec prog 10 [.sl 1 [[.str (bt1 o)]] .no] (realmA sh now bk tb [repC o e r v]):=by
 have hn:=rmnew_spec
 have hlt:(0:Int)<1:=by omega
 have hlt2:¬(1:Int)<1:=by omega
 have z01:(0:Int)+1=1:=rfl;refine Sh func10 (by kernel_rfl) rfl fun c0 hc0=>?_;simp only[go_sem];(and_intros<;>try omega);refine Ops.pure .free rfl rfl (hn) Vl rfl rfl ?_;refine Og func10 ?_;simp only[go_sem,realm0,realmA,Int.natCast_one];(and_intros<;>try omega);refine Run.unloop ?_;refine Rg func10 ?_;simp only[go_sem,hlt];(and_intros<;>try omega);refine Ops.pure .free rfl rfl (hA) Vl rfl rfl ?_;refine Og func10 ?_;simp only[go_sem,realmA,z01];(and_intros<;>try omega);refine Run.again ?_;refine Rg func10 ?_;simp only[go_sem,hlt2];(and_intros<;>try omega);exact Vr
def pickL(L:List (List AV)):Bool->List (List AV)
 |true=>L
 |false=>[]
theorem log_spec(s:Sz)(wide:Int)(bad:List Bool)(N C pool:List (List AV))(L:List (List AV))(hL:L.length=1)(hlen:bad.length=N.length)(hn:N.length<=1000)
  (hw:∀ i,i<N.length->∃ w:Wrk,N[i]? = some w.cs/\(w.log=[]\/w.log=L)) (hex:∃ (i:Nat) (w:Wrk),bad[i]? = some false/\N[i]? = some w.cs/\w.log=L) :
  ASpec prog 9 [wldA s wide bad N C pool] (.sl 1 L .no):=by
 refine Sh func9 (by kernel_rfl) rfl fun c0 hc0=>?_;simp only[go_sem,wldA,wldC,xtab_34];(and_intros<;>try omega);refine Run.loopV (α:=Nat×Bool) (fun q=>q.1<=N.length/\(q.2=false->∀ (j:Nat) (w:Wrk),j<q.1->bad[j]? = some false->N[j]? = some w.cs->w.log≠L)) (fun q=>[(3,.sl 1 (pickL L q.2) .no),(9,.int .i64 q.1)]) 1 (fun _=>[]) (fun q=>N.length-q.1) (0,false) ⟨Nat.zero_le _,fun _ j w hj=>absurd hj (Nat.not_lt_zero _)⟩ ?_ ?_
 ·simp only[go_sem,writes,junks,puts,hputs,List.filterMap_cons,List.filterMap_nil,pickL];(refine Weak.of (by simp[hc0]) ?_ ?_<;>repeat' first|exact .refl _|exact .junk _|rfl|apply Le.agg|constructor)
 rintro⟨k,b⟩ ⟨hk0,hkb⟩ ih;simp only[writes,junks,puts,hputs,List.filterMap_cons,List.filterMap_nil,Y6,Y7,Yg,Yk,Y5,Y3,Yd] at hk0 hkb ih ⊢
 by_cases hk:k<N.length
 case pos=>
  have hkk:(k:Int)<N.length:=by omega
  have hkb2:(k:Int)<bad.length:=by omega
  obtain⟨w,hwN,hwl⟩:=hw k hk
  obtain⟨d,hd⟩:∃ d,bad[k]? = some d:=⟨_,Vb (by omega)⟩
  obtain⟨a1,a2,a3,a4,a5,a6,a7,a8,a9,b1,log,b3,b4⟩:=w
  have hmono:∀ b2,(b2=b)->(d=true\/log≠L\/b=true)->(b2=false->∀ (j:Nat) (w:Wrk),j<k+1->bad[j]? = some false->N[j]? = some w.cs->w.log≠L):=fun b2 e hq hb2 j w hj hbj hNj=>by
   rcases Nat.lt_or_ge j k with h|h
   ·exact hkb (by rw[<- e];exact hb2) j w h hbj hNj
   ·obtain rfl:j=k:=by omega
    rcases hq with rfl|hq|rfl
    ·rw[hd] at hbj;cases hbj
    ·rw[hwN] at hNj;intro e2;apply hq;have e3:=Option.some.inj hNj;have e4:=congrArg (fun l:List AV=>l[55]?) e3;simp[Wrk.cs,rplC] at e4;rw[e4];exact e2
    ·rw[e] at hb2;cases hb2
  cases d with
  |true=>
   refine Rg func9 ?_;simp only[go_sem,hwN,hd,hkk,hkb2,Wrk.cs,rplC,pickL,Vg,xtab_34];(and_intros<;>try omega);refine ih (k+1,b) _ ⟨by show k+1<=N.length;omega,hmono b rfl (.inl rfl)⟩ (by show N.length-(k+1)<N.length-k;omega) ?_;simp only[Int.natCast_add,Int.natCast_one,pickL];(refine Weak.of (by simp[hc0]) ?_ ?_<;>repeat' first|exact .refl _|exact .junk _|rfl|apply Le.agg|constructor)
  |false=>
   cases b with
   |true=>
    have hlg:¬((L.length:Nat):Int)<log.length:=by
     rcases hwl with e|e
     ·have e2:log=[]:=e;rw[e2];simp
     ·have e2:log=L:=e;rw[e2];omega
    refine Rg func9 ?_;simp only[go_sem,hwN,hd,hkk,hkb2,hlg,Wrk.cs,rplC,pickL,Vg,xtab_34];(and_intros<;>try omega);refine ih (k+1,true) _ ⟨by show k+1<=N.length;omega,fun h=>by cases h⟩ (by show N.length-(k+1)<N.length-k;omega) ?_;simp only[Int.natCast_add,Int.natCast_one,pickL];(refine Weak.of (by simp[hc0]) ?_ ?_<;>repeat' first|exact .refl _|exact .junk _|rfl|apply Le.agg|constructor)
   |false=>
    rcases hwl with e|e
    ·have e2:log=[]:=e;subst e2
     have hlg:¬(0:Int)<0:=by omega
     refine Rg func9 ?_;simp only[go_sem,hwN,hd,hkk,hkb2,hlg,Wrk.cs,rplC,pickL,Vg,xtab_34];(and_intros<;>try omega);refine ih (k+1,false) _ ⟨by show k+1<=N.length;omega,hmono false rfl (.inr (.inl (by intro e;rw[<- e] at hL;simp at hL)))⟩ (by show N.length-(k+1)<N.length-k;omega) ?_;simp only[Int.natCast_add,Int.natCast_one,pickL];(refine Weak.of (by simp[hc0]) ?_ ?_<;>repeat' first|exact .refl _|exact .junk _|rfl|apply Le.agg|constructor)
    ·have e2:log=L:=e;subst e2
     have hlg:(0:Int)<log.length:=by omega
     refine Rg func9 ?_;simp only[go_sem,hwN,hd,hkk,hkb2,hlg,Wrk.cs,rplC,pickL,Vg,xtab_34];(and_intros<;>try omega);refine ih (k+1,true) _ ⟨by show k+1<=N.length;omega,fun h=>by cases h⟩ (by show N.length-(k+1)<N.length-k;omega) ?_;simp only[Int.natCast_add,Int.natCast_one,pickL];(refine Weak.of (by simp[hc0]) ?_ ?_<;>repeat' first|exact .refl _|exact .junk _|rfl|apply Le.agg|constructor)
 case neg=>
  obtain rfl:k=N.length:=by omega
  have hkk:¬(N.length:Int)<N.length:=by omega
  have hb:b=true:=by
   cases b with
   |true=>rfl
   |false=>
    obtain⟨i,w,h1,h2,h3⟩:=hex;exact absurd h3 (hkb rfl i w (by have:=(Va h2).1;omega) h1 h2)
  subst hb;refine Rg func9 ?_;simp only[go_sem,hkk,pickL];(and_intros<;>try omega);exact Vr
end Go.Proofs.YtojhjaohaafeaaaGreatDoor
