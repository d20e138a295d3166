/-
  Several texts in one: Vl, Vn, Vo, Vm, RdF.
-/
import Derived.Test.YtojhjaohaafeaaaGreatDoorQy
import Derived.Test.YtojhjaohaafeaaaGreatDoorQh
import Derived.OpenShut
set_option maxRecDepth 20000
set_option maxHeartbeats 8000000
open Go.Proofs.Tryz
namespace Go.Proofs.YtojhjaohaafeaaaGreatDoor
open Go.RowKit
theorem ytab_38:xtab 38=some ⟨.sl,1,24,3,[],[.nils],[],false⟩:=by rfl
theorem ytab_26:xtab 26=some ⟨TS.st,5,56,0,[(0,23),(2,3),(3,24),(4,3)],[AV.int Go.IntKind.i64 0,AV.int Go.IntKind.i64 0,AV.int Go.IntKind.i64 0,AV.nils,AV.int Go.IntKind.i64 0],[],false⟩:=by rfl
theorem ytab_3:xtab 3=some ⟨.int .i64,1,8,0,[],[.int .i64 0],[],false⟩:=by rfl
theorem ytab_23:xtab 23=some ⟨.st,2,16,0,[(0,3),(1,3)],[.int .i64 0,.int .i64 0],[.int .i64,.int .i64],false⟩:=by rfl
def castC(s:Sz)(wide:Int)(bad:List Bool)(cl:Int):List AV:=[.int .i64 s.f,.int .i64 s.t,.int .i64 wide,badA bad,.int .i64 cl]
def askd(s:Sz)(bad:List Bool)(o:Ord):Prop:=s.f<=1/\1<=bad.length/\bad.length<=10/\bad[0]? = some false/\o.s.length<=300/\o.t.length<=300
theorem fast_no(s:Sz)(wide:Int)(bad:List Bool)(cl:Int)(o:Ord)(dn:Int)(h:¬askd s bad o):ASpec prog 3 [.agg (castC s wide bad cl),.agg (ordC o),.int .u8 dn] (.bool true):=by
 have hal:=alive_spec
 by_cases g1:1<s.f
 case pos=>
  refine Sh func3 (by kernel_rfl) rfl fun c0 hc0=>?_;simp only[go_sem,castC,badA,ordC,g1,xtab_26];(and_intros<;>try omega);refine Ops.pure .free rfl rfl (hal) Vl rfl rfl ?_;refine Og func3 ?_;simp only[go_sem];(and_intros<;>try omega);exact Vr
 by_cases g2:(bad.length:Int)<1
 case pos=>
  refine Sh func3 (by kernel_rfl) rfl fun c0 hc0=>?_;simp only[go_sem,castC,badA,ordC,g1,g2,xtab_26];(and_intros<;>try omega);refine Ops.pure .free rfl rfl (hal) Vl rfl rfl ?_;refine Og func3 ?_;simp only[go_sem];(and_intros<;>try omega);exact Vr
 by_cases g3:10<(bad.length:Int)
 case pos=>
  refine Sh func3 (by kernel_rfl) rfl fun c0 hc0=>?_;simp only[go_sem,castC,badA,ordC,g1,g2,g3,xtab_26];(and_intros<;>try omega);refine Ops.pure .free rfl rfl (hal) Vl rfl rfl ?_;refine Og func3 ?_;simp only[go_sem];(and_intros<;>try omega);exact Vr
 have hbl:(0:Int)<bad.length:=by omega
 obtain⟨b0,hb0⟩:∃ b,bad[0]? = some b:=⟨_,Vb (by omega)⟩
 cases b0 with
 |true=>
  refine Sh func3 (by kernel_rfl) rfl fun c0 hc0=>?_;simp only[go_sem,castC,badA,ordC,g1,g2,g3,hbl,hb0,Vg,xtab_26];(and_intros<;>try omega);refine Ops.pure .free rfl rfl (hal) Vl rfl rfl ?_;refine Og func3 ?_;simp only[go_sem];(and_intros<;>try omega);exact Vr
 |false=>
  by_cases g5:300<(o.s.length:Int)
  case pos=>
   refine Sh func3 (by kernel_rfl) rfl fun c0 hc0=>?_;simp only[go_sem,castC,badA,ordC,g1,g2,g3,hbl,hb0,g5,Vg,xtab_26];(and_intros<;>try omega);refine Ops.pure .free rfl rfl (hal) Vl rfl rfl ?_;refine Og func3 ?_;simp only[go_sem];(and_intros<;>try omega);exact Vr
  by_cases g6:300<(o.t.length:Int)
  case pos=>
   refine Sh func3 (by kernel_rfl) rfl fun c0 hc0=>?_;simp only[go_sem,castC,badA,ordC,g1,g2,g3,hbl,hb0,g5,g6,Vg,xtab_26];(and_intros<;>try omega);refine Ops.pure .free rfl rfl (hal) Vl rfl rfl ?_;refine Og func3 ?_;simp only[go_sem];(and_intros<;>try omega);exact Vr
  exact absurd ⟨by omega,by omega,by omega,hb0,by omega,by omega⟩ h
theorem bt1_len{o:Ord}(hm:mayO o=true)(hs:smO o):(bt1 o).length<=6000:=by
 obtain⟨g1,g2⟩:=may_small hm;obtain⟨h1,h2,h3,h4,h5,h6,h7,h8⟩:=hs;have e1:=encN_le 1 (by decide);have e2:=encZs_le [o.a,o.b,o.kind,o.x,o.y,o.z];have e3:=encT_le o.s (by omega);have e4:=encT_le o.t (by omega);unfold bt1 putO;simp only[List.length_append];have e5:=e2 (by simp;exact⟨h1,h2,h3,h4,h5,h6⟩);simp at e5;omega
theorem Wrk.cs_plain(w:Wrk):∀ y∈w.cs,y.plain=true:=by
 simp[Wrk.cs,rplC,zsA,AV.plain]
def NL(g:Nat->Wrk)(n:Nat):List (List AV):=(List.range n).map fun j=>(g j).cs
def upd(g:Nat->Wrk)(i:Nat)(w:Wrk):Nat->Wrk:=fun j=>if j=i then w else g j
theorem NL_len(g:Nat->Wrk)(n:Nat):(NL g n).length=n:=by simp[NL]
theorem NL_get{g:Nat->Wrk}{n j:Nat}(h:j<n):(NL g n)[j]? = some (g j).cs:=by
 unfold NL;rw[Vg,List.getElem?_range h];rfl
theorem NL_set{g:Nat->Wrk}{n j:Nat}(w:Wrk):(NL g n).set j w.cs=NL (upd g j w) n:=by
 apply List.ext_getElem?;intro k;rw[List.getElem?_set]
 by_cases hk:k<n
 ·rw[NL_get hk,NL_get hk,NL_len];unfold upd
  by_cases e:j=k
  ·subst e;rw[if_pos rfl,if_pos hk,if_pos rfl]
  ·rw[if_neg e,if_neg (fun h=>e h.symm)]
 ·have h1:(NL g n)[k]? = none:=List.getElem?_eq_none (by rw[NL_len];omega);have h2:(NL (upd g j w) n)[k]? = none:=List.getElem?_eq_none (by rw[NL_len];omega);rw[h1,h2,NL_len]
  by_cases e:j=k
  ·subst e;rw[if_pos rfl,if_neg hk]
  ·rw[if_neg e]
theorem NL_plain(g:Nat->Wrk)(n:Nat):∀ x∈NL g n,∀ a∈x,a.plain=true:=fun x hx=>by
 obtain⟨j,_,rfl⟩:=List.mem_map.1 hx;exact Wrk.cs_plain _
theorem upd_same(g:Nat->Wrk)(i:Nat)(w:Wrk):upd g i w i=w:=if_pos rfl
theorem upd_ne{g:Nat->Wrk}{i j:Nat}(w:Wrk)(h:j≠i):upd g i w j=g j:=if_neg h
theorem clis_plain(n:Nat):∀ x∈clis0 n,∀ a∈x,a.plain=true:=fun x hx=>by
 obtain⟨j,_,rfl⟩:=List.mem_map.1 hx;simp[cliC,AV.plain]
theorem clis_head{n:Nat}(h:0<n):∃ C,clis0 n=cliC 0 0 false zOrd::C/\C.length+1=n:=by
 obtain⟨k,rfl⟩:∃ k,n=k+1:=⟨n-1,by omega⟩
 unfold clis0;rw[List.range_succ_eq_map];exact⟨_,rfl,by simp⟩
def Fst.B(F:Fst)(j:Nat):Wrk:=F.W j (nodC (acp0 F.s j) F.s [] [] [] false [] (ledF j))
def Fst.pool0(F:Fst):List (List AV):=[ltrO F.o,ltrP 0 1 0 0 F.x 0 0 [] .nils]
theorem sorted_get{us:List Nat}(hs:us.Pairwise (·<·)){p q i j:Nat}(hp:us[p]? = some i)(hq:us[q]? = some j)(h:p<q):i<j:=by
 obtain⟨h1,rfl⟩:=Va hp;obtain⟨h2,rfl⟩:=Va hq;exact List.pairwise_iff_getElem.1 hs _ _ h1 h2 h
theorem sorted_ne{us:List Nat}(hs:us.Pairwise (·<·)){p q i j:Nat}(hp:us[p]? = some i)(hq:us[q]? = some j)(h:p≠q):i≠j:=by
 rcases Nat.lt_or_gt_of_ne h with h|h
 ·have:=sorted_get hs hp hq h;omega
 ·have:=sorted_get hs hq hp h;omega
def ints(us:List Nat):List Int:=us.map fun u:Nat=>(u:Int)
theorem vt_of{F:Fst}{us:List Nat}(hs:us.Pairwise (·<·))(hb:∀ u∈us,(u:Int)<F.s.n)(hl:us.length<=10){b u:Nat}(hu:us[b]? = some u):Vt F (ints (us.take b)) u:=by
 have hm:∀ y∈ints (us.take b),∃ p v,p<b/\us[p]? = some v/\y=(v:Int):=fun y hy=>by
  obtain⟨v,hv,rfl⟩:=List.mem_map.1 hy;obtain⟨p,hp⟩:=List.getElem?_of_mem hv;rw[List.getElem?_take] at hp
  split at hp
  ·rename_i h;exact⟨p,v,h,hp,rfl⟩
  ·cases hp
 refine⟨fun y hy=>?_,?_,Int.natCast_nonneg _,hb u (Vd hu),by simp[ints];omega⟩
 ·obtain⟨p,v,h1,h2,rfl⟩:=hm y hy;have:=sorted_get hs h2 hu h1;omega
 ·unfold ints;rw[List.pairwise_map]
  exact(hs.sublist (List.take_sublist _ _)).imp fun h=>by omega
theorem ints_snoc{us:List Nat}{b u:Nat}(hu:us[b]? = some u):ints (us.take b)++[(u:Int)]=ints (us.take (b+1)):=by
 unfold ints;rw[List.take_add_one,hu,List.map_append];rfl
theorem stepG(s:Sz)(wide:Int)(bad:List Bool)(C pool:List (List AV))(g:Nat->Wrk)(n u k:Nat)(hu:u<n)(hn:n<=10)(hk:k<100000)(hC:∀ x∈C,∀ a∈x,a.plain=true)(hnC:C.length<=100)(hneC:C≠[])(hb:bad[u]? = some false)
  (lt:List AV) (hp:pool[k]? = some lt) (hl:lt.length=62) (hlp:∀ a∈lt,a.plain=true) (w:Wrk) (m:List (List AV)) (hm:pool.length+m.length<=3000)
  (hH:ASpec prog 73 [.agg (g u).cs,.agg lt] (.tup [.agg w.cs,.sl 62 m .no])) :
  ASpec prog 8 [wldA s wide bad (NL g n) C pool,actA 0 u k ord9] (wldA s wide bad (NL (upd g u w) n) C (pool++m)):=by
 have h:=step_come s wide bad (NL g n) C pool u k (by omega) hk (NL_plain g n) hC (by rw[NL_len];omega) hnC hneC hb (g u) w (NL_get hu) (by rw[NL_set];exact NL_plain _ n) lt hp hl hlp m hm hH;rw[NL_set] at h;exact h
theorem NL_congr{g g':Nat->Wrk}{n:Nat}(h:∀ j,j<n->g j=g' j):NL g n=NL g' n:=by
 unfold NL
 exact List.map_congr_left fun j hj=>by rw[h j (List.mem_range.1 hj)]
theorem Fst.B_new(F:Fst)(j:Nat)(hj:j≠0):newW F.s j F.wide=F.B j:=by
 have hi:(j:Int)≠0:=by omega
 rw[F.new_W j hi];unfold Fst.B;rw[show ledF j=-1 from if_neg hi];rfl
theorem Fst.step_o(F:Fst)(bad:List Bool)(C:List (List AV))(n:Nat)(hn0:0<n)(hn:n<=10)(hC:∀ x∈C,∀ a∈x,a.plain=true)(hnC:C.length<=100)(hneC:C≠[])(hb:bad[0]? = some false) :
  ASpec prog 8 [wldA F.s F.wide bad (NL (fun j:Nat=>newW F.s (j:Int) F.wide) n) C [ltrO F.o],actA 0 0 0 ord9] (wldA F.s F.wide bad (NL F.B n) C F.pool0):=by
 have h:=stepG F.s F.wide bad C [ltrO F.o] (fun j:Nat=>newW F.s (j:Int) F.wide) n 0 0 hn0 hn (by omega) hC hnC hneC hb (ltrO F.o) rfl rfl (ltrO_plain F.o) (F.B 0) [ltrP 0 1 0 0 F.x 0 0 [] .nils] (by simp) F.hear_o
 rw[NL_congr (g:=upd (fun j:Nat=>newW F.s (j:Int) F.wide) 0 (F.B 0)) (g':=F.B) fun j _=>by
  by_cases hj:j=0
  ·subst hj;exact upd_same _ _ _
  ·rw[upd_ne _ hj];exact F.B_new j hj] at h
 exact h
theorem Fst.vote_plain(F:Fst)(u:Int):∀ a∈F.vote u,a.plain=true:=ltrP_plain _ _ _ _ _ _ _ _ _ rfl
theorem Fst.step_p(F:Fst)(bad:List Bool)(C pool:List (List AV))(g:Nat->Wrk)(n u:Nat)(hu:u<n)(hnn:(n:Int)=F.s.n)(hC:∀ x∈C,∀ a∈x,a.plain=true)(hnC:C.length<=100)(hneC:C≠[])(hb:bad[u]? = some false)(hg:g u=F.B u)
  (hp:pool[1]? = some (ltrP 0 1 0 0 F.x 0 0 [] .nils)) (hm:pool.length+1<=3000) :
  ASpec prog 8 [wldA F.s F.wide bad (NL g n) C pool,actA 0 u 1 ord9] (wldA F.s F.wide bad (NL (upd g u (F.V u [])) n) C (pool++[F.vote u])):=by
 have hn4:=F.n;have ht:=F.ht;exact stepG F.s F.wide bad C pool g n u 1 hu (by omega) (by omega) hC hnC hneC hb _ hp rfl (ltrP_plain _ _ _ _ _ _ _ _ _ rfl) (F.V u []) [F.vote u] hm (by rw[hg];exact F.hear_p u (by omega) (by omega))
theorem Fst.step_v(F:Fst)(bad:List Bool)(C pool:List (List AV))(g:Nat->Wrk)(n u k:Nat)(hu:u<n)(hnn:(n:Int)=F.s.n)(hk:k<100000)(hC:∀ x∈C,∀ a∈x,a.plain=true)(hnC:C.length<=100)(hneC:C≠[])(hb:bad[u]? = some false)
  (us:List Nat) (hs:us.Pairwise (·<·)) (hbn:∀ u∈us,(u:Int)<F.s.n) (hl:us.length<=10) (b ub:Nat) (hub:us[b]? = some ub) (hg:g u=F.V u (ints (us.take b))) (hp:pool[k]? = some (F.vote ub)) (hm:pool.length+3<=3000) (hlen:(us.length:Int)=4+F.t)
  (sh:List (List AV)) (now:Int) (bk tb:List (List AV)) (e:Int) (r:List UInt8) (v:Int) (hA:ASpec prog 42 [realm0,.str (bt1 F.o)] (.tup [realmA sh now bk tb [repC F.o e r v],.sl 6 [repC F.o e r v] .no,.int .i64 0])) :
  ∃ m,m.length<=3/\LtrOk m/\ASpec prog 8 [wldA F.s F.wide bad (NL g n) C pool,actA 0 u k ord9] (wldA F.s F.wide bad (NL (upd g u (if b+1=us.length then F.E u (ints us) sh now bk tb e r v else F.V u (ints (us.take (b+1))))) n) C (pool++m)):=by
 have hn4:=F.n;have ht:=F.ht;have hbl:=(Va hub).1;have hv:=vt_of (F:=F) hs hbn hl hub
 have hil:(ints (us.take b)).length=b:=by simp[ints];omega
 by_cases hlast:b+1=us.length
 ·rw[if_pos hlast];obtain⟨m,h1,h2,h3⟩:=F.hear_l u (by omega) (by omega) _ ub hv (by rw[hil];omega) sh now bk tb e r v hA;rw[ints_snoc hub,hlast,List.take_length] at h3;exact⟨m,h1,h2,stepG F.s F.wide bad C pool g n u k hu (by omega) hk hC hnC hneC hb _ hp rfl (F.vote_plain ub) _ m (by omega) (by rw[hg];exact h3)⟩
 ·rw[if_neg hlast];obtain⟨m,h1,h2,h3⟩:=F.hear_v u (by omega) (by omega) _ ub hv (by rw[hil];omega);rw[ints_snoc hub] at h3;exact⟨m,h1,h2,stepG F.s F.wide bad C pool g n u k hu (by omega) hk hC hnC hneC hb _ hp rfl (F.vote_plain ub) _ m (by omega) (by rw[hg];exact h3)⟩
theorem zFast_spec{s:Sz}(hs:s.right=true):ASpec prog 7 [eS s] (.int .i64 (3*s.f+s.t+1)):=ks_Fast (by rw[sizeOk_right];exact hs)
def upR(us:List Nat):List (List AV):=us.map fun u:Nat=>[.int .i64 (u:Int)]
theorem fast_law(s:Sz)(wide:Int)(bad:List Bool)(cl:Int)(o:Ord)(dn:Int)(d0:0<=dn)(d1:dn<=255)(hi:smO (askO 0 o))(h:askd s bad o):ASpec prog 3 [.agg (castC s wide bad cl),.agg (ordC o),.int .u8 dn] (.bool true):=by
 have hal:=alive_spec;obtain⟨h1,h2,h3,h4,h5,h6⟩:=h
 have g1:¬1<s.f:=by omega
 have g2:¬(bad.length:Int)<1:=by omega
 have g3:¬10<(bad.length:Int):=by omega
 have hbl:(0:Int)<bad.length:=by omega
 have g5:¬300<(o.s.length:Int):=by omega
 have g6:¬300<(o.t.length:Int):=by omega
 have hnew:=wnew_spec s h1 wide bad (by intro e;subst e;simp at h2) h3 cl
 by_cases hok:okW s wide bad cl
 case neg=>
  rw[if_neg hok] at hnew;refine Sh func3 (by kernel_rfl) rfl fun c0 hc0=>?_;simp only[go_sem,castC,badA,ordC,g1,g2,g3,hbl,h4,g5,g6,Vg,xtab_26];(and_intros<;>try omega);refine Ops.pure .free rfl rfl (hnew) Vl rfl rfl ?_;refine Og func3 ?_;simp only[go_sem,zWld,xtab_34];(and_intros<;>try omega);refine Ops.pure .free rfl rfl (hal) Vl rfl rfl ?_;refine Og func3 ?_;simp only[go_sem];(and_intros<;>try omega);exact Vr
 case pos=>
  rw[if_pos hok] at hnew;obtain⟨hf1,ht,hn⟩:=size1 h1 hok.1;obtain⟨f,t⟩:=s;dsimp only at hf1 ht hn g1;subst hf1;refine Sh func3 (by kernel_rfl) rfl fun c0 hc0=>?_;simp only[go_sem,castC,badA,ordC,g1,g2,g3,hbl,h4,g5,g6,Vg,xtab_26];(and_intros<;>try omega);refine Ops.pure .free rfl rfl (hnew) Vl rfl rfl ?_;refine Ops.god tab_ok follows_ok func3 5 ?_;simp only[go_sem,wldA,wldC,xtab_34];(and_intros<;>try first|rfl|omega);refine Run.god xtab_ok follows_ok func3 2 ?_;simp only[go_sem,ytab_38,ytab_26,ytab_23,ytab_3];(and_intros<;>try first|rfl|omega);refine Rg func3 ?_;simp only[go_sem]
  obtain⟨m,hmm⟩:∃ m,Int.tmod dn bad.length=m:=⟨_,rfl⟩
  have hm0:m<bad.length:=by rw[<- hmm];exact Int.tmod_lt_of_pos _ hbl
  have hwr:IntKind.i64.wrap dn=dn:=IntWalk.i64_in _ ⟨by omega,by omega⟩
  have hbz:¬(bad.length:Int)=0:=by omega
  refine Run.loopV (α:=Nat×Int×List Nat) (fun q=>q.1<=bad.length/\t-(q.1:Int)<=q.2.1/\q.2.1<=t/\q.2.2.length<=q.1/\q.2.2++ups m q.1 q.2.1 (bad.drop q.1)=ups m 0 t bad) (fun q=>[(9,.sl 1 (upR q.2.2) (.own 3)),(10,.int .i64 q.2.1),(11,.int .i64 q.1)]) 4 (fun q=>[(3,.tok 1 q.2.2.length)]) (fun q=>bad.length-q.1) (0,t,[]) ⟨Nat.zero_le _,by show t-((0:Nat):Int)<=t;omega,Int.le_refl _,Nat.le_refl 0,rfl⟩ ?_ ?_
  ·simp only[go_sem,writes,junks,puts,hputs,List.filterMap_cons,List.filterMap_nil,upR];(refine Weak.of (by simp[hc0]) ?_ ?_<;>repeat' first|exact .refl _|exact .junk _|rfl|apply Le.agg|constructor)
  rintro⟨k,left,us⟩ ⟨q1,q2,q3,q4,q5⟩ ih;simp only[writes,junks,puts,hputs,List.filterMap_cons,List.filterMap_nil,Y6,Y7,Yg,Yk,Y5,Y3,Yd] at q1 q2 q3 q4 q5 ih ⊢
  have hul:(upR us).length=us.length:=by simp[upR]
  by_cases hk:k<bad.length
  case pos=>
   have hkk:(k:Int)<bad.length:=by omega
   obtain⟨b,hb⟩:∃ b,bad[k]? = some b:=⟨_,Vb hk⟩
   have hdr:bad.drop k=b::bad.drop (k+1):=by
    rw[List.drop_eq_getElem_cons hk]
    congr 1
    exact(Va hb).2
   rw[hdr,ups] at q5
   have key:∀ c:Bool,(b||(decide (0<(k:Int))&&decide (0<left)&&decide (m<=(k:Int))))=c->(if c=true then us++ups m (k+1) (left-1) (bad.drop (k+1))=ups m 0 t bad else(us++[k])++ups m (k+1) left (bad.drop (k+1))=ups m 0 t bad):=fun c hc=>by
    rw[hc] at q5
    cases c with
    |true=>simpa using q5
    |false=>simpa using q5
   cases b with
   |true=>
    refine Rg func3 ?_;simp only[go_sem,hb,hkk,Vg,xtab_26];(and_intros<;>try omega)
    all_goals try(unfold I64;omega)
    all_goals try(simp only[hul,Ya,Y9];omega)
    refine ih (k+1,left-1,us) _ ⟨by show k+1<=_;omega,by show t-((k+1:Nat):Int)<=left-1;omega,by show left-1<=t;omega,by show us.length<=k+1;omega,key true rfl⟩ (by show bad.length-(k+1)<bad.length-k;omega) ?_;simp only[Int.natCast_add,Int.natCast_one,upR];(refine Weak.of (by simp[hc0]) ?_ ?_<;>repeat' first|exact .refl _|exact .junk _|rfl|apply Le.agg|constructor)
   |false=>
    by_cases k0:0<(k:Int)
    case neg=>
     refine Rg func3 ?_;simp only[go_sem,hb,hkk,hul,k0,Vg,xtab_26];(and_intros<;>try omega)
     all_goals try(unfold I64;omega)
     all_goals try(simp only[hul,Ya,Y9];omega)
     refine ih (k+1,left,us++[k]) _ ⟨by show k+1<=_;omega,by show t-((k+1:Nat):Int)<=left;omega,by show left<=t;omega,by show(us++[k]).length<=k+1;simp;omega,key false (by rw[decide_eq_false k0];rfl)⟩ (by show bad.length-(k+1)<bad.length-k;omega) ?_;simp only[Int.natCast_add,Int.natCast_one,Ya,Y9,Yf,Ye,Yp,upR,List.map_append,List.length_append];(refine Weak.of (by simp[hc0]) ?_ ?_<;>repeat' first|exact .refl _|exact .junk _|rfl|apply Le.agg|constructor)
    case pos=>
     by_cases l0:0<left
     case neg=>
      refine Rg func3 ?_;simp only[go_sem,hb,hkk,hul,k0,l0,Vg,xtab_26];(and_intros<;>try omega)
      all_goals try(unfold I64;omega)
      all_goals try(simp only[hul,Ya,Y9];omega)
      refine ih (k+1,left,us++[k]) _ ⟨by show k+1<=_;omega,by show t-((k+1:Nat):Int)<=left;omega,by show left<=t;omega,by show(us++[k]).length<=k+1;simp;omega,key false (by rw[decide_eq_false l0];simp)⟩ (by show bad.length-(k+1)<bad.length-k;omega) ?_;simp only[Int.natCast_add,Int.natCast_one,Ya,Y9,Yf,Ye,Yp,upR,List.map_append,List.length_append];(refine Weak.of (by simp[hc0]) ?_ ?_<;>repeat' first|exact .refl _|exact .junk _|rfl|apply Le.agg|constructor)
     case pos=>
      by_cases m0:m<=(k:Int)
      case pos=>
       refine Rg func3 ?_;simp only[go_sem,hb,hkk,hwr,hmm,hbz,k0,l0,m0,Vg,ne_eq,xtab_26];(and_intros<;>try omega)
       all_goals try(unfold I64;omega)
       all_goals try(simp only[hul,Ya,Y9];omega)
       refine ih (k+1,left-1,us) _ ⟨by show k+1<=_;omega,by show t-((k+1:Nat):Int)<=left-1;omega,by show left-1<=t;omega,by show us.length<=k+1;omega,key true (by rw[decide_eq_true k0,decide_eq_true l0,decide_eq_true m0];rfl)⟩ (by show bad.length-(k+1)<bad.length-k;omega) ?_;simp only[Int.natCast_add,Int.natCast_one,upR];(refine Weak.of (by simp[hc0]) ?_ ?_<;>repeat' first|exact .refl _|exact .junk _|rfl|apply Le.agg|constructor)
      case neg=>
       refine Rg func3 ?_;simp only[go_sem,hb,hkk,hwr,hmm,hbz,hul,k0,l0,m0,Vg,ne_eq,xtab_26];(and_intros<;>try omega)
       all_goals try(unfold I64;omega)
       all_goals try(simp only[hul,Ya,Y9];omega)
       refine ih (k+1,left,us++[k]) _ ⟨by show k+1<=_;omega,by show t-((k+1:Nat):Int)<=left;omega,by show left<=t;omega,by show(us++[k]).length<=k+1;simp;omega,key false (by rw[decide_eq_false m0];simp)⟩ (by show bad.length-(k+1)<bad.length-k;omega) ?_;simp only[Int.natCast_add,Int.natCast_one,Ya,Y9,Yf,Ye,Yp,upR,List.map_append,List.length_append];(refine Weak.of (by simp[hc0]) ?_ ?_<;>repeat' first|exact .refl _|exact .junk _|rfl|apply Le.agg|constructor)
  case neg=>
   obtain rfl:k=bad.length:=by omega
   have hkk:¬(bad.length:Int)<bad.length:=by omega
   have q6:us=ups m 0 t bad:=by
    rw[<- q5,List.drop_length,ups,List.append_nil]
   have hF:=zFast_spec hok.1
   by_cases hlt:(us.length:Int)<3*1+t+1
   case pos=>
    refine Rg func3 ?_;simp only[go_sem,hkk,xtab_26];(and_intros<;>try omega);refine Ops.pure .free rfl rfl (hF) Vl rfl rfl ?_;refine Og func3 ?_;simp only[go_sem,hul,hlt];(and_intros<;>try omega);refine Ops.pure .free rfl rfl (hal) Vl rfl rfl ?_;refine Og func3 ?_;simp only[go_sem];(and_intros<;>try omega);exact Vr
   case neg=>
    obtain⟨u1,u2⟩:=ups_fast (m:=m) (T:=t) (bad:=bad) ht (by have:=hok.2.1;omega) h4 hm0 (by rw[<- q6];omega);rw[<- q6] at u1 u2
    have hsor:us.Pairwise (·<·):=by rw[q6];exact ups_sorted _ _ _ _
    have hub:∀ u∈us,u<bad.length/\bad[u]? = some false:=fun u hu=>by
     rw[q6] at hu;obtain⟨z1,z2,z3⟩:=ups_mem _ _ _ _ _ hu;exact⟨by omega,by simpa using z3⟩
    obtain⟨C,hC,hCl⟩:=clis_head (n:=cl.toNat) (by have:=hok.2.2.2.1;omega);have hCp:∀ x∈C,∀ a∈x,a.plain=true:=fun x hx=>clis_plain cl.toNat x (by rw[hC];exact List.mem_cons_of_mem _ hx)
    have hbn:(bad.length:Int)=4+2*t:=by have:=hok.2.1;omega
    have hsa:=step_ask ⟨1,t⟩ wide bad (reps0 ⟨1,t⟩ wide bad.length) C (NL_plain _ _) hCp (by unfold reps0;simp;omega) (by have:=hok.2.2.2.2.1;omega) (by intro e;have e2:=congrArg List.length e;unfold reps0 at e2;simp at e2;rw[e2] at h2;simp at h2) h4 o;rw[hC]
    by_cases hm:mayO (askO 0 o)=true
    case neg=>
     rw[if_neg hm] at hsa
     have h01:¬(0:Int)=1:=by omega
     refine Rg func3 ?_;simp only[go_sem,hkk,xtab_26];(and_intros<;>try omega);refine Ops.pure .free rfl rfl (hF) Vl rfl rfl ?_;refine Og func3 ?_;simp only[go_sem,hul,hlt,xtab_34,xtab_54];(and_intros<;>try omega);refine Ops.pure .free rfl rfl (hsa) Vl rfl rfl ?_;refine Og func3 ?_;simp only[go_sem,wldA,wldC,h01,xtab_32,xtab_34];(and_intros<;>try omega);refine Ops.pure .free rfl rfl (hal) Vl rfl rfl ?_;refine Og func3 ?_;simp only[go_sem,xtab_32,xtab_34];(and_intros<;>try omega);exact Vr
    case pos=>
     rw[if_pos hm] at hsa;refine Rg func3 ?_;simp only[go_sem,hkk,xtab_26];(and_intros<;>try omega);refine Ops.pure .free rfl rfl (hF) Vl rfl rfl ?_;refine Og func3 ?_;simp only[go_sem,hul,hlt,xtab_34,xtab_54];(and_intros<;>try omega);refine Ops.pure .free rfl rfl (hsa) Vl rfl rfl ?_;refine Og func3 ?_;simp only[go_sem,wldA,wldC,Int.natCast_one,xtab_32,xtab_34,xtab_54];(and_intros<;>try omega)
     obtain⟨F,hFt,hFw,hFo⟩:∃ F:Fst,F.t=t/\F.wide=wide/\F.o=askO 0 o:=⟨⟨t,wide,askO 0 o,ht,hok.2.2.2.2.2.1,hok.2.2.2.2.2.2,hm,hi,bt1_len hm hi⟩,rfl,rfl,rfl⟩
     subst hFt hFw
     obtain⟨C1,hC1⟩:∃ C1,C1=cliC 0 1 true (askO 0 o)::C:=⟨_,rfl⟩
     have hC1p:∀ x∈C1,∀ a∈x,a.plain=true:=fun x hx=>by
      rw[hC1] at hx
      rcases List.mem_cons.1 hx with rfl|hx
      ·simp[cliC,AV.plain]
      ·exact hCp x hx
     have hC1l:C1.length<=100:=by rw[hC1,List.length_cons];have:=hok.2.2.2.2.1;omega
     have hC1n:C1≠[]:=by rw[hC1];simp
     rw[<- hC1]
     have hnn:(bad.length:Int)=F.s.n:=by rw[F.n];exact hbn
     have h_o:ASpec prog 8 [wldA ⟨1,F.t⟩ F.wide bad (reps0 ⟨1,F.t⟩ F.wide bad.length) C1 [ltrO (askO 0 o)],actA 0 0 0 ord9] (wldA ⟨1,F.t⟩ F.wide bad (NL F.B bad.length) C1 F.pool0):=by
      have:=F.step_o bad C1 bad.length (by omega) h3 hC1p hC1l hC1n h4;rw[hFo] at this;exact this
     have hp1:F.pool0[1]? = some (ltrP 0 1 0 0 F.x 0 0 [] .nils):=rfl;have hpl:F.pool0.length=2:=rfl;have hk1:(ltrP 0 1 0 0 F.x 0 0 [] .nils).take 1=[.int .i64 1]:=rfl;have hk2:(ltrP 0 1 0 0 F.x 0 0 [] .nils).length=62:=rfl
     have h12:(1:Int)<2:=by omega
     have hc2:((2:Nat):Int)=2:=rfl;obtain⟨sh,now,bk,tb,e9,r9,v9,_,_,_,hA⟩:=bapply_spec F.o F.hm F.hs
     have hul0:0<us.length:=by omega
     have hus10:us.length<=5:=by omega
     have hnb:∀ u∈us,(u:Int)<F.s.n:=fun u hu=>by have:=(hub u hu).1;omega
     have hnl:∀ g:Nat->Wrk,(NL g bad.length).length=bad.length:=fun g=>NL_len g _;refine Ops.pure .free rfl rfl (h_o) Vl rfl rfl ?_;refine Og func3 ?_;simp only[go_sem,wldA,wldC,hp1,hpl,hk1,hk2,h12,hc2,xtab_32,xtab_34,xtab_52,reduceCtorEq];(and_intros<;>try omega);refine Run.loopV (α:=Nat×(Nat->Wrk)) (fun q=>q.1<=us.length/\(∀ p j:Nat,us[p]? = some j->q.2 j=if p<q.1 then F.V j [] else F.B j)/\∀ j,(q.2 j).log=[]) (fun q=>[(13,.int .i64 q.1)]) 4 (fun q=>[(2,.box (wldC ⟨1,F.t⟩ F.wide bad (NL q.2 bad.length) C1 (F.pool0++(us.take q.1).map fun u:Nat=>F.vote u)))]) (fun q=>us.length-q.1) (0,F.B) ⟨Nat.zero_le _,fun p j _=>by simp,fun j=>rfl⟩ ?_ ?_
     ·simp only[go_sem,writes,junks,puts,hputs,List.filterMap_cons,List.filterMap_nil,wldC];(refine Weak.of (by simp[hc0]) ?_ ?_<;>repeat' first|exact .refl _|exact .junk _|rfl|apply Le.agg|constructor)
     rintro⟨a,g⟩ ⟨r1,r2,r3⟩ ihA;simp only[writes,junks,puts,hputs,List.filterMap_cons,List.filterMap_nil,Y6,Y7,Yg,Yk,Y5,Y3,Yd,wldC] at r1 r2 r3 ihA ⊢
     by_cases ha:a<us.length
     case pos=>
      obtain⟨u,hu⟩:∃ u,us[a]? = some u:=⟨_,Vb ha⟩
      have haa:(a:Int)<us.length:=by omega
      obtain⟨hun,hub0⟩:=hub u (Vd hu)
      have hua:(upR us)[a]? = some [.int .i64 (u:Int)]:=by unfold upR;rw[Vg,hu];rfl
      have hst:ASpec prog 8 [wldA ⟨1,F.t⟩ F.wide bad (NL g bad.length) C1 (F.pool0++(us.take a).map fun u:Nat=>F.vote u),actA 0 u 1 ord9] (wldA ⟨1,F.t⟩ F.wide bad (NL (upd g u (F.V u [])) bad.length) C1 (F.pool0++(us.take (a+1)).map fun u:Nat=>F.vote u)):=by
       have h:=F.step_p bad C1 (F.pool0++(us.take a).map fun u:Nat=>F.vote u) g bad.length u hun hnn hC1p hC1l hC1n hub0 (by rw[r2 a u hu,if_neg (Nat.lt_irrefl a)]) rfl (by rw[List.length_append,List.length_map,List.length_take,hpl];omega);rw[List.append_assoc,show(us.take a).map (fun u:Nat=>F.vote u)++[F.vote u]=(us.take (a+1)).map fun u:Nat=>F.vote u by rw[List.take_add_one,hu,List.map_append];rfl] at h;exact h
      refine Rg func3 ?_;simp only[go_sem,haa,hul,hua,xtab_34,xtab_54];(and_intros<;>try first|rfl|omega);refine DOps.pure rfl .free rfl rfl (hst) (by simp only[go_sem,wldA,wldC,actA,ltr9,ltrP,ltrZ,ord9];(repeat' first|exact .refl _|apply LeR.tup|apply Le.agg|constructor)) rfl rfl ?_;refine Dg func3 rfl ?_;simp only[go_sem,wldA,wldC,xtab_34];(and_intros<;>try first|rfl|omega);refine ihA (a+1,upd g u (F.V u [])) _ ⟨by show a+1<=us.length;omega,fun p j hj=>?_,fun j=>?_⟩ (by show us.length-(a+1)<us.length-a;omega) ?_
      ·show upd g u (F.V u []) j=if p<a+1 then F.V j [] else F.B j
       by_cases hpa:p=a
       ·subst hpa;rw[hu] at hj;cases hj;rw[upd_same,if_pos (by omega)]
       ·rw[upd_ne _ (sorted_ne hsor hj hu hpa),r2 p j hj]
        by_cases hpl2:p<a
        ·rw[if_pos hpl2,if_pos (by omega)]
        ·rw[if_neg hpl2,if_neg (by omega)]
      ·show(upd g u (F.V u []) j).log=[]
       unfold upd
       split
       ·rfl
       ·exact r3 j
      ·simp only[Int.natCast_add,Int.natCast_one];(refine Weak.of (by simp[hc0]) ?_ ?_<;>repeat' first|exact .refl _|exact .junk _|rfl|apply Le.agg|constructor)
     case neg=>
      obtain rfl:a=us.length:=by omega
      have haa:¬(us.length:Int)<us.length:=by omega
      have r4:∀ p j:Nat,us[p]? = some j->g j=F.V j []:=fun p j hj=>by
       rw[r2 p j hj,if_pos (Va hj).1]
      rw[List.take_length]
      obtain⟨PB,hPB⟩:∃ PB,PB=F.pool0++us.map fun u:Nat=>F.vote u:=⟨_,rfl⟩
      rw[<- hPB]
      have hPBl:PB.length=2+us.length:=by rw[hPB,List.length_append,List.length_map,hpl]
      refine Rg func3 ?_;simp only[go_sem,haa,hul];(and_intros<;>try omega);refine Run.loopV (α:=Nat×(Nat->Wrk)×List (List AV)) (fun q=>q.1<=us.length/\q.2.2.length<=15*q.1/\(∀ p j:Nat,us[p]? = some j->q.2.1 j=if p<q.1 then(F.E j (ints us) sh now bk tb e9 r9 v9) else F.V j [])/\∀ j,(q.2.1 j).log=[]\/(q.2.1 j).log=[[.str F.x]]) (fun q=>[(14,.int .i64 q.1)]) 4 (fun q=>[(2,.box (wldC ⟨1,F.t⟩ F.wide bad (NL q.2.1 bad.length) C1 (PB++q.2.2)))]) (fun q=>us.length-q.1) (0,g,[]) ⟨Nat.zero_le _,by simp,fun p j hj=>by rw[if_neg (Nat.not_lt_zero p)];exact r4 p j hj,fun j=>.inl (r3 j)⟩ ?_ ?_
      ·simp only[go_sem,writes,junks,puts,hputs,List.filterMap_cons,List.filterMap_nil,wldC];(refine Weak.of (by simp[hc0]) ?_ ?_<;>repeat' first|exact .refl _|exact .junk _|rfl|apply Le.agg|constructor)
      clear r1 r2 r3 r4 ihA;rintro⟨a,g,ex⟩ ⟨r1,r2,r3,r4⟩ ihB;simp only[writes,junks,puts,hputs,List.filterMap_cons,List.filterMap_nil,Y6,Y7,Yg,Yk,Y5,Y3,Yd,wldC] at r1 r2 r3 r4 ihB ⊢
      by_cases ha:a<us.length
      case pos=>
       obtain⟨u,hu⟩:∃ u,us[a]? = some u:=⟨_,Vb ha⟩
       have haa:(a:Int)<us.length:=by omega
       obtain⟨hun,hub0⟩:=hub u (Vd hu)
       have hua:(upR us)[a]? = some [.int .i64 (u:Int)]:=by unfold upR;rw[Vg,hu];rfl
       refine Rg func3 ?_;simp only[go_sem,haa,hul];(and_intros<;>try omega)
       refine Run.loopV (α:=Nat×(Nat->Wrk)×List (List AV)) (fun q=>2<=q.1/\q.1<=2+us.length/\q.2.2.length<=15*a+3*(q.1-2)/\(∀ p j:Nat,us[p]? = some j->q.2.1 j=if p<a then(F.E j (ints us) sh now bk tb e9 r9 v9) else if p=a then(if q.1=2+us.length then(F.E j (ints us) sh now bk tb e9 r9 v9) else F.V j (ints (us.take (q.1-2)))) else F.V j [])/\∀ j,(q.2.1 j).log=[]\/(q.2.1 j).log=[[.str F.x]]) (fun q=>[(15,.int .i64 q.1)]) 4 (fun q=>[(2,.box (wldC ⟨1,F.t⟩ F.wide bad (NL q.2.1 bad.length) C1 (PB++q.2.2)))]) (fun q=>2+us.length-q.1) (2,g,ex) ⟨Nat.le_refl 2,by show 2<=2+us.length;omega,by show ex.length<=15*a+3*(2-2);omega,fun p j hj=>by
        show g j=_;rw[r3 p j hj]
        by_cases h1:p<a
        ·rw[if_pos h1,if_pos h1]
        ·rw[if_neg h1,if_neg h1,if_neg (show ¬2=2+us.length by omega)]
         split
         ·rfl
         ·rfl,r4⟩ ?_ ?_
       ·simp only[writes,junks,puts,hputs,List.filterMap_cons,List.filterMap_nil,Y6,Y7,Yg,Yk,Y5,Y3,Yd,wldC,hc2];(refine Weak.of (by simp[hc0]) ?_ ?_<;>repeat' first|exact .refl _|exact .junk _|rfl|apply Le.agg|constructor)
       clear r1 r2 r3 r4;rintro⟨k,g,ex⟩ ⟨r0,r1,r2,r3,r4⟩ ihC;simp only[writes,junks,puts,hputs,List.filterMap_cons,List.filterMap_nil,Y6,Y7,Yg,Yk,Y5,Y3,Yd,wldC] at r0 r1 r2 r3 r4 ihC ⊢
       by_cases hk:k<2+us.length
       case pos=>
        have hkk:(k:Int)<2+us.length:=by omega
        obtain⟨ub,hub2⟩:∃ ub,us[k-2]? = some ub:=⟨_,Vb (by omega)⟩
        obtain⟨Q,hQ⟩:∃ Q,Q=PB++ex:=⟨_,rfl⟩
        have hQl:Q.length=2+us.length+ex.length:=by rw[hQ,List.length_append,hPBl]
        have hQk:Q[k]? = some (F.vote ub):=by
         rw[hQ,List.getElem?_append_left (by omega),hPB,List.getElem?_append_right (by rw[hpl];omega),hpl,Vg,hub2];rfl
        have hQn:¬((Q.length:Nat):Int)<=k:=by omega
        have hQm:(k:Int)<Q.length:=by omega
        have hv1:(F.vote ub).take 1=[.int .i64 2]:=rfl;have hv2:(F.vote ub).length=62:=rfl;obtain⟨m,hm3,_,hst⟩:=F.step_v bad C1 Q g bad.length u k hun hnn (by omega) hC1p hC1l hC1n hub0 us hsor hnb (by omega) (k-2) ub hub2 (by rw[r3 a u hu,if_neg (Nat.lt_irrefl a),if_pos rfl,if_neg (by omega)]) hQk (by omega) (by omega) sh now bk tb e9 r9 v9 hA
        obtain⟨w9,hw9⟩:∃ w9,w9=(if k-2+1=us.length then(F.E u (ints us) sh now bk tb e9 r9 v9) else F.V u (ints (us.take (k-2+1)))):=⟨_,rfl⟩
        rw[<- hw9] at hst;have hst2:ASpec prog 8 [wldA ⟨1,F.t⟩ F.wide bad (NL g bad.length) C1 Q,actA 0 u k ord9] (wldA ⟨1,F.t⟩ F.wide bad (NL (upd g u w9) bad.length) C1 (Q++m)):=hst;rw[<- hQ];refine Rg func3 ?_;simp only[go_sem,hkk,hul,hua,haa,hQn,hQm,hQk,hv1,hv2,xtab_32,xtab_34,xtab_52,xtab_54,reduceCtorEq];(and_intros<;>try first|rfl|omega);refine DOps.pure rfl .free rfl rfl (hst2) (by simp only[go_sem,wldA,wldC,actA,ltr9,ltrP,ltrZ,ord9];(repeat' first|exact .refl _|apply LeR.tup|apply Le.agg|constructor)) rfl rfl ?_;refine Dg func3 rfl ?_;simp only[go_sem,wldA,wldC,xtab_34];(and_intros<;>try first|rfl|omega);refine ihC (k+1,upd g u w9,ex++m) _ ⟨by show 2<=k+1;omega,by show k+1<=2+us.length;omega,by show(ex++m).length<=15*a+3*(k+1-2);rw[List.length_append];omega,fun p j hj=>?_,fun j=>?_⟩ (by show 2+us.length-(k+1)<2+us.length-k;omega) ?_
        ·show upd g u w9 j=if p<a then(F.E j (ints us) sh now bk tb e9 r9 v9) else if p=a then(if k+1=2+us.length then(F.E j (ints us) sh now bk tb e9 r9 v9) else F.V j (ints (us.take (k+1-2)))) else F.V j []
         by_cases hpa:p=a
         ·subst hpa;rw[hu] at hj;cases hj;rw[upd_same,if_neg (Nat.lt_irrefl p),if_pos rfl,hw9]
          by_cases hl9:k-2+1=us.length
          ·rw[if_pos hl9,if_pos (by omega)]
          ·rw[if_neg hl9,if_neg (by omega),show k-2+1=k+1-2 by omega]
         ·rw[upd_ne _ (sorted_ne hsor hj hu hpa),r3 p j hj]
          by_cases h1:p<a
          ·rw[if_pos h1,if_pos h1]
          ·rw[if_neg h1,if_neg h1,if_neg hpa,if_neg hpa]
        ·show(upd g u w9 j).log=[]\/(upd g u w9 j).log=[[.str F.x]]
         unfold upd
         split
         ·rw[hw9]
          split
          ·exact .inr rfl
          ·exact .inl rfl
         ·exact r4 j
        ·simp only[Int.natCast_add,Int.natCast_one,hQ,List.append_assoc];(refine Weak.of (by simp[hc0]) ?_ ?_<;>repeat' first|exact .refl _|exact .junk _|rfl|apply Le.agg|constructor)
       case neg=>
        obtain rfl:k=2+us.length:=by omega
        have hkk:¬((2+us.length:Nat):Int)<2+us.length:=by omega
        have hk2:((2+us.length:Nat):Int)=2+us.length:=by omega
        refine Rg func3 ?_;simp only[go_sem,hul,hk2,Int.lt_irrefl];(and_intros<;>try omega);refine ihB (a+1,g,ex) _ ⟨by show a+1<=us.length;omega,by show ex.length<=15*(a+1);omega,fun p j hj=>?_,r4⟩ (by show us.length-(a+1)<us.length-a;omega) ?_
        ·show g j=if p<a+1 then(F.E j (ints us) sh now bk tb e9 r9 v9) else F.V j []
         rw[r3 p j hj]
         by_cases h1:p<a
         ·rw[if_pos h1,if_pos (by omega)]
         ·by_cases h2:p=a
          ·rw[if_neg h1,if_pos h2,if_pos rfl,if_pos (by omega)]
          ·rw[if_neg h1,if_neg h2,if_neg (by omega)]
        ·simp only[Int.natCast_add,Int.natCast_one];(refine Weak.of (by simp[hc0]) ?_ ?_<;>repeat' first|exact .refl _|exact .junk _|rfl|apply Le.agg|constructor)
      case neg=>
       obtain rfl:a=us.length:=by omega
       have haa:¬(us.length:Int)<us.length:=by omega
       have r5:∀ p j:Nat,us[p]? = some j->g j=(F.E j (ints us) sh now bk tb e9 r9 v9):=fun p j hj=>by
        rw[r3 p j hj,if_pos (Va hj).1]
       obtain⟨Q,hQ⟩:∃ Q,Q=PB++ex:=⟨_,rfl⟩
       rw[<- hQ];have hlog:ASpec prog 9 [wldA ⟨1,F.t⟩ F.wide bad (NL g bad.length) C1 Q] (.sl 1 [[.str F.x]] .no):=log_spec ⟨1,F.t⟩ F.wide bad (NL g bad.length) C1 Q [[.str F.x]] rfl (hnl g).symm (by rw[hnl g];omega) (fun i hi=>⟨g i,NL_get (by rw[hnl g] at hi;exact hi),r4 i⟩) ⟨0,(F.E ((0:Nat):Int) (ints us) sh now bk tb e9 r9 v9),h4,by rw[NL_get (by omega),r5 0 0 u2],rfl⟩;have hfold:ASpec prog 10 [.sl 1 [[.str F.x]] .no] (realmA sh now bk tb [repC F.o e9 r9 v9]):=rfold_spec F.o sh now bk tb e9 r9 v9 hA
       have h01:(0:Int)<1:=by omega
       refine Rg func3 ?_;simp only[go_sem,haa,hul];(and_intros<;>try omega);refine Run.loopV (α:=Nat) (fun q=>q<=us.length) (fun q=>[(16,.int .i64 q)]) 4 (fun _=>[]) (fun q=>us.length-q) 0 (Nat.zero_le _) ?_ ?_
       ·simp only[go_sem,writes,junks,puts,hputs,List.filterMap_cons,List.filterMap_nil];(refine Weak.of (by simp[hc0]) ?_ ?_<;>repeat' first|exact .refl _|exact .junk _|rfl|apply Le.agg|constructor)
       clear r1 r2 r3 ihB;rintro a r1 ihD;simp only[writes,junks,puts,hputs,List.filterMap_cons,List.filterMap_nil,Y6,Y7,Yg,Yk,Y5,Y3,Yd] at r1 ihD ⊢
       by_cases ha:a<us.length
       case pos=>
        obtain⟨u,hu⟩:∃ u,us[a]? = some u:=⟨_,Vb ha⟩
        have haa:(a:Int)<us.length:=by omega
        obtain⟨hun,hub0⟩:=hub u (Vd hu)
        have hua:(upR us)[a]? = some [.int .i64 (u:Int)]:=by unfold upR;rw[Vg,hu];rfl
        have hNu:(NL g bad.length)[u]? = some ((F.E u (ints us) sh now bk tb e9 r9 v9)).cs:=by rw[NL_get hun,r5 a u hu]
        have hun2:(u:Int)<bad.length:=by omega
        refine Rg func3 ?_;simp only[go_sem,haa,hul,hua,hun2,hnl,hNu,Fst.E,Wrk.cs,rplC,h01,Int.natCast_one,Int.reduceNeg,xtab_34,reduceCtorEq];(and_intros<;>try first|rfl|omega);refine DOps.pure rfl (Wanted.test 11 false false rfl) rfl rfl (hlog) (by simp only[go_sem,wldA,wldC,Int.reduceNeg];(repeat' first|exact .refl _|apply LeR.tup|apply Le.agg|constructor)) rfl rfl ?_;refine Dg func3 rfl ?_;simp only[go_sem,h01,Int.natCast_one,Int.reduceNeg];(and_intros<;>try first|rfl|omega);refine ihD (a+1) _ (by omega) (by omega) ?_;simp only[Int.natCast_add,Int.natCast_one];(refine Weak.of (by simp[hc0]) ?_ ?_<;>repeat' first|exact .refl _|exact .junk _|rfl|apply Le.agg|constructor)
       case neg=>
        obtain rfl:a=us.length:=by omega
        refine Rg func3 ?_;simp only[go_sem,haa,hul];(and_intros<;>try omega);refine Ops.pure .free rfl rfl (hal) Vl rfl rfl ?_;refine Og func3 ?_;simp only[go_sem,xtab_34];(and_intros<;>try omega);refine Ops.pure (Wanted.test 1 true true rfl) rfl rfl (hlog) Vl rfl rfl ?_;refine Og func3 ?_;simp only[go_sem];(and_intros<;>try omega);refine Ops.pure (Wanted.test 1 true true rfl) rfl rfl (hfold) Vl rfl rfl ?_;refine Og func3 ?_;simp only[go_sem,realmA,repC,Int.natCast_one];(and_intros<;>try omega);exact Vr
end Go.Proofs.YtojhjaohaafeaaaGreatDoor
namespace Go.Proofs.YtojhjaohaafeaaaGreatDoor
open Go.ChangeShapes Go.WideShapes Go.ChangeAt Go.RowKit Go.Deep
def intE(cl:List AV):Prop:=∃ n,cl=[.int .i64 n]/\(Lit.int .i64 n).wf=true
def strE(cl:List AV):Prop:=∃ s:Bytes,cl=[.str s]/\s.length<=reachBytes
def szC(s:Sz):List AV:=[.int .i64 s.f,.int .i64 s.t]
theorem reads_size:Reads prog 23 fun cl=>∃ s:Sz,cl=szC s/\I64 s.f/\I64 s.t:=
 Reads.mono (reads_struct (Es:=[(1,intE),(1,intE)]) underlying23
  ⟨rfl,by kernel_rfl,reads_int underlying3,rfl,by kernel_rfl,reads_int underlying3,trivial⟩ (by kernel_rfl)) fun cl=>by
  rintro⟨_,_,rfl,⟨a,rfl,ha⟩,_,_,rfl,⟨b,rfl,hb⟩,rfl⟩;exact⟨⟨a,b⟩,rfl,wf64 ha,wf64 hb⟩
theorem wf8{n:Int}(h:(Lit.int .u8 n).wf=true):0<=n/\n<=255:=by
 simp[Lit.wf,IntKind.min,IntKind.max,IntKind.signed,IntKind.bits] at h;omega
theorem reads_bads:Reads prog 24 fun cl=>∃ l:List Bool,cl=[badA l]:=
 Reads.mono (reads_slice underlying24 (k:=1) (bytes:=1) (by kernel_rfl) (by kernel_rfl) (by omega) (reads_bool underlying4)) fun cl=>by
  rintro⟨l,rfl,hl,hn⟩
  obtain⟨b,rfl,_⟩:=list_of (f:=fun b:Bool=>[AV.bool b]) (Q:=fun _=>True) fun x hx=>by obtain⟨c,rfl⟩:=hl x hx;exact⟨c,rfl,trivial⟩
  exact⟨b,rfl⟩
theorem reads_cast:Reads prog 26 fun cl=>∃ (s:Sz) (wide:Int) (bad:List Bool) (k:Int),cl=castC s wide bad k:=
 Reads.mono (reads_struct (Es:=[(2,fun cl=>∃ s:Sz,cl=szC s/\I64 s.f/\I64 s.t),(1,intE),(1,fun cl=>∃ l:List Bool,cl=[badA l]),(1,intE)]) underlying26
  ⟨rfl,by kernel_rfl,reads_size,rfl,by kernel_rfl,reads_int underlying3,rfl,by kernel_rfl,reads_bads,rfl,by kernel_rfl,reads_int underlying3,trivial⟩ (by kernel_rfl)) fun cl=>by
  rintro⟨_,_,rfl,⟨s,rfl,hs⟩,_,_,rfl,⟨a,rfl,ha⟩,_,_,rfl,⟨l,rfl⟩,_,_,rfl,⟨b,rfl,hb⟩,rfl⟩;exact⟨s,a,l,b,rfl⟩
theorem reads_ord:Reads prog 28 fun cl=>∃ o:Ord,cl=ordC o/\I64 o.kind/\I64 o.x/\I64 o.y/\I64 o.z:=
 Reads.mono (reads_struct (Es:=[(1,intE),(1,intE),(1,intE),(1,strE),(1,strE),(1,intE),(1,intE),(1,intE)]) underlying28
  ⟨rfl,by kernel_rfl,reads_int underlying3,rfl,by kernel_rfl,reads_int underlying3,rfl,by kernel_rfl,reads_int underlying3,rfl,by kernel_rfl,reads_str underlying9,rfl,by kernel_rfl,reads_str underlying9,rfl,by kernel_rfl,reads_int underlying3,rfl,by kernel_rfl,reads_int underlying3,rfl,by kernel_rfl,reads_int underlying3,trivial⟩ (by kernel_rfl)) fun cl=>by
  rintro⟨_,_,rfl,⟨a,rfl,ha⟩,_,_,rfl,⟨b,rfl,hb⟩,_,_,rfl,⟨c,rfl,hc⟩,_,_,rfl,⟨s,rfl,hs⟩,_,_,rfl,⟨t,rfl,ht⟩,_,_,rfl,⟨x,rfl,hx⟩,_,_,rfl,⟨y,rfl,hy⟩,_,_,rfl,⟨z,rfl,hz⟩,rfl⟩;exact⟨⟨a,b,c,s,t,x,y,z⟩,rfl,wf64 hc,wf64 hx,wf64 hy,wf64 hz⟩
theorem fast_all(s:Sz)(wide:Int)(bad:List Bool)(cl:Int)(o:Ord)(dn:Int)(d0:0<=dn)(d1:dn<=255)(hk:I64 o.kind)(hx:I64 o.x)(hy:I64 o.y)(hz:I64 o.z):ASpec prog 3 [.agg (castC s wide bad cl),.agg (ordC o),.int .u8 dn] (.bool true):=by
 by_cases h:askd s bad o
 ·exact fast_law s wide bad cl o dn d0 d1 ⟨⟨by show(-9223372036854775808:Int)<=0;omega,by show(0:Int)<=9223372036854775807;omega⟩,⟨by show(-9223372036854775808:Int)<=1;omega,by show(1:Int)<=9223372036854775807;omega⟩,hk,hx,hy,hz,by have:=h.2.2.2.2.1;show o.s.length<=100000;omega,by have:=h.2.2.2.2.2;show o.t.length<=100000;omega⟩ h
 ·exact fast_no s wide bad cl o dn h
end Go.Proofs.YtojhjaohaafeaaaGreatDoor
