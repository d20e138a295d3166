/-
  Several texts in one: Aa, Ba, Ak, Am, Ac, Ae, Af, Ad, Ag, Ah, Ai, Ab.
-/
import Derived.Test.YtojhjaohaafeaaaGreatDoorQa
import Derived.Maps.RangeRun
import Derived.MapKept
import Derived.Laws.MakeOwn
import Derived.Scope
import Derived.Orders
namespace Go.Proofs.YtojhjaohaafeaaaGreatDoor
open Go.RowKit Go.ChangeMaps
section
variable {P:Program} {T:TabT} {c:Cx}
def Comes(c:Cx)(r:ARes)(q:Value)(w':World):Prop:=∃ ρ',RelH ⟨ρ',aupd c.h r.d,w',c.X⟩/\Ev c ⟨ρ',aupd c.h r.d,w',c.X⟩/\RV ⟨ρ',aupd c.h r.d,w',c.X⟩ q r.v
theorem aslice3_ok(hT:TabOk P T)(hc:RelH c){slot:Nat}(hs:c.h[slot]? = some .free){t:Nat}{ti:TI}(ht:TIok P t ti){v:Value}{x:AV}(hv:RV c v x){lo:Option Value}{vh vm:Value}{alo:Option AV}{ahi amx:AV}
  (h1:∀ a,alo=some a->∃ u,lo=some u/\RV c u a) (h1n:alo=none->lo=none) (h2:RV c vh ahi) (h3:RV c vm amx) {r:ARes} (hr:aslice3 T slot ti alo ahi amx x=some r) (hp:r.p) :
  ∃ q w',(Instr.sliceAt t v lo (some vh) (some vm)).run P c.w=.ok q w'/\Comes c r q w':=by
 obtain⟨d,hd,hso⟩:=ht.desc;unfold sortOk at hso;unfold aslice3 at hr
 split at hr
 ·rename_i k l tk
  split at hr<;>first|(cases hr;done)|skip
  rename_i e kb b km m hst he;cases hr;rw[hst] at hso;subst hso;obtain⟨rfl,rfl,h0,hle⟩:=hp;obtain rfl:=h1n rfl;obtain rfl:=h2.ints;obtain rfl:=h3.ints;have hsz:=(hT _ _ he).sizeOf c.w
  cases hv with
  |sl _ _ _ A n cap bb o vs hn hcap hm hA hk hcc hrr htt=>
   have hle2:b<=(cap:Int):=by omega
   obtain⟨q1,q2⟩:=Cx.unbornN hc slot e.size b.toNat hs;refine⟨.slice A b.toNat b.toNat,c.w,?_,c.ρ,q1,q2,?_⟩
   ·have hA:A.map (fun x=>x.add 0)=A:=by
     cases A with
     |none=>rfl
     |some a=>simp[Addr.add]
    simp[Instr.sliceAt,Instr.slice,Instr.sliceBounds,Instr.sliceBound,asIntOf,Sem.run_bind,run_underlying hd,hsz,h0,hle2,hA]
    try omega
   ·have hlast:(c.h.set slot (ABlk.tok e.size b.toNat))[slot]? = some (.tok e.size b.toNat):=List.getElem?_set_self (Va hs).1
    have hg:∀ (j:Nat) x,(l.take b.toNat)[j]? = some x->l[j]? = some x:=fun j x hx=>by
     rw[List.getElem?_take] at hx
     split at hx
     ·exact hx
     ·cases hx
    refine .sl _ _ _ A _ _ bb o vs (by rw[List.length_take];omega) (Nat.le_refl _) (by omega) (fun h=>hA fun e=>h (by rw[e];simp)) (fun j x hx=>hk j x (hg j x hx)) (fun j x i a hx ha=>?_) (fun j x i a hx ha=>(hrr j x i a (hg j x hx) ha).mono q2) ?_
    ·obtain⟨g1,g2,g3⟩:=hcc j x i a (hg j x hx) ha;obtain⟨w1,w2⟩:=q2.im _ _ g2;exact⟨g1,w1,w2.trans g3⟩
    ·refine⟨⟨_,hlast,rfl⟩,fun k' n' e'=>?_⟩;have e2:(c.h.set slot (ABlk.tok e.size b.toNat))[slot]? = some (.tok k' n'):=e';rw[hlast] at e2;cases e2;exact⟨rfl,Nat.le_refl _,fun _=>.inl rfl⟩
 ·split at hr<;>first|(cases hr;done)|skip
  rename_i e ka a kb b km m hst he;cases hr;rw[hst] at hso;subst hso;obtain⟨rfl,h0,hab,hbm,hmc⟩:=hp;obtain⟨u,rfl,hu⟩:=h1 _ rfl;obtain rfl:=hu.ints;obtain rfl:=h2.ints;obtain rfl:=h3.ints
  cases hv with
  |msl _ _ _ _ _ bb o' hk hb hn hcap hm ho=>
   have hsz:=(hT _ _ he).sizeOf c.w
   have g1:0<=b:=by omega
   have g2:0<=m:=by omega
   have g3:b<=(m.toNat:Int):=by omega
   have g4:a<=(b.toNat:Int):=by omega
   have g6:b<=max m 0:=by omega
   have g7:a<=max b 0:=by omega
   have g5:∀ n,(Addr.mk bb o' none).add n=⟨bb,o'+n,none⟩:=fun n=>by
    unfold Addr.add;split
    ·rename_i h;rw[h];rfl
    ·rfl
   refine⟨.slice (some ⟨bb,if m.toNat=a.toNat then o' else o'+a.toNat*e.size,none⟩) (b.toNat-a.toNat) (m.toNat-a.toNat),c.w,?_,c.ρ,hc,Ev.refl c,.msl _ _ _ _ _ bb _ hk hb hn (by omega) (by omega) fun h=>?_⟩
   ·simp[Instr.sliceAt,Instr.slice,Instr.sliceBounds,Instr.sliceBound,asIntOf,Sem.run_bind,run_underlying hd,hsz,h0,hmc,g1,g2,g5,g6,g7]
    try(split<;>first|rfl|omega)
   ·rw[if_neg (by omega),ho (by omega),Nat.add_mul]
 ·split at hr<;>first|(cases hr;done)|skip
  rename_i e kb b km m hst he;cases hr;rw[hst] at hso;subst hso;obtain⟨rfl,rfl⟩:=hp;obtain rfl:=h1n rfl;obtain rfl:=h2.ints;obtain rfl:=h3.ints;cases hv;have hsz:=(hT _ _ he).sizeOf c.w;exact⟨.slice none 0 0,c.w,by simp[Instr.sliceAt,Instr.slice,Instr.sliceBounds,Instr.sliceBound,asIntOf,Sem.run_bind,run_underlying hd,hsz],c.ρ,hc,Ev.refl c,.nils⟩
 ·cases hr
/-! ### maps -/
theorem bytes_ext{s s':ByteArray}(h:s.data.toList=s'.data.toList):s=s':=by
 cases s;cases s';simp only[ByteArray.mk.injEq];exact Array.toList_inj.1 h
theorem bytes_beq{s s':ByteArray}:(s==s')=decide (s.data.toList=s'.data.toList):=by
 show(s.data==s'.data)=_
 rw[Bool.eq_iff_iff,decide_eq_true_eq,beq_iff_eq];exact⟨fun h=>by rw[h],fun h=>Array.toList_inj.1 h⟩
def KeyD(P:Program)(kt:Nat)(d:TypeDesc):AV->Prop
 |.int _ _=>∃ k,d=.int k
 |.str _=>d=.string
 |.agg cs=>∃ fs ss,d=.struct fs/\flatEq P kt ss=true/\keyCs ss cs=true
 |_=>False
theorem keyTy_ok{kt:Nat}{ki:TI}(ht:TIok P kt ki){key:AV}(h:keyTy ki key=true):∃ d,P.underlying kt=some d/\KeyD P kt d key:=by
 obtain⟨d,hd,hso⟩:=ht.desc;refine⟨d,hd,?_⟩;unfold keyTy at h;unfold sortOk at hso
 split at h
 ·split at h
  ·rename_i hs;rw[hs] at hso;exact⟨_,hso⟩
  ·cases h
 ·split at h
  ·rename_i hs;rw[hs] at hso;exact hso
  ·cases h
 ·split at h
  ·rename_i s ss hs he;rw[hs] at hso;obtain⟨fs,rfl,_⟩:=hso;have:=ht.eq (by rw[he];simp);rw[he] at this;exact⟨fs,_,rfl,this,h⟩
  ·cases h
 ·cases h
theorem akeqs_aeqs:∀ {ss:List TS} {xs ys:List AV} {r:Bool},keyCs ss xs=true->akeqs xs ys=some r->aeqs ss xs ys=some r
 |[],[],ys,r,_,h=>by
  cases ys with
  |nil=>exact h
  |cons y ys=>simp[akeqs] at h
 |[],x::xs,ys,r,hk,h=>by simp[keyCs] at hk
 |s::ss,[],ys,r,hk,h=>by cases s<;>simp[keyCs] at hk
 |s::ss,x::xs,ys,r,hk,h=>by
  unfold keyCs at hk
  split at hk
  ·rename_i e _;cases e
  ·rename_i e1 e2;cases e1;cases e2
   cases ys with
   |nil=>simp[akeqs] at h
   |cons y ys=>
    cases y with
    |int k' b=>
     unfold akeqs at h;unfold aeqs
     split at h
     ·rename_i hkk;rw[if_pos hkk];simp only[Ve] at h ⊢;obtain⟨r',h1,h2⟩:=h;exact⟨r',akeqs_aeqs hk h1,h2⟩
     ·cases h
    |_=>simp[akeqs] at h
  ·rename_i e1 e2;cases e1;cases e2
   cases ys with
   |nil=>simp[akeqs] at h
   |cons y ys=>
    cases y with
    |str b=>
     unfold akeqs at h;unfold aeqs;simp only[Ve] at h ⊢;obtain⟨r',h1,h2⟩:=h;exact⟨r',akeqs_aeqs hk h1,h2⟩
    |_=>simp[akeqs] at h
  ·cases hk
theorem akeqs_same:∀ {ss:List TS} {xs ys:List AV},keyCs ss xs=true->akeqs xs ys=some true->xs=ys
 |[],[],ys,_,h=>by
  cases ys with
  |nil=>rfl
  |cons y ys=>simp[akeqs] at h
 |[],x::xs,ys,hk,h=>by simp[keyCs] at hk
 |s::ss,[],ys,hk,h=>by cases s<;>simp[keyCs] at hk
 |s::ss,x::xs,ys,hk,h=>by
  unfold keyCs at hk
  split at hk
  ·rename_i e _;cases e
  ·rename_i e1 e2;cases e1;cases e2
   cases ys with
   |nil=>simp[akeqs] at h
   |cons y ys=>
    cases y with
    |int k' b=>
     unfold akeqs at h
     split at h
     ·rename_i hkk;simp only[Ve,Vi,decide_eq_true_eq] at h;obtain⟨r',h1,h2,rfl⟩:=h;subst hkk h2;rw[akeqs_same hk h1]
     ·cases h
    |_=>simp[akeqs] at h
  ·rename_i e1 e2;cases e1;cases e2
   cases ys with
   |nil=>simp[akeqs] at h
   |cons y ys=>
    cases y with
    |str b=>
     unfold akeqs at h;simp only[Ve,Vi,decide_eq_true_eq] at h;obtain⟨r',h1,h2,rfl⟩:=h;subst h2;rw[akeqs_same hk h1]
    |_=>simp[akeqs] at h
  ·cases hk
theorem keyCs_one:∀ {ss:List TS} {cs:List AV},keyCs ss cs=true->∀ (i:Nat) a,cs[i]? = some a->(∃ k n,a=.int k n)\/∃ l,a=.str l
 |[],[],_,i,a,h=>by simp at h
 |[],x::xs,hk,i,a,h=>by simp[keyCs] at hk
 |s::ss,[],hk,i,a,h=>by simp at h
 |s::ss,x::xs,hk,i,a,h=>by
  unfold keyCs at hk
  split at hk
  ·rename_i e _;cases e
  ·rename_i e1 e2;cases e1;cases e2
   cases i with
   |zero=>simp at h;exact .inl ⟨_,_,h.symm⟩
   |succ i=>exact keyCs_one hk i a (by simpa using h)
  ·rename_i e1 e2;cases e1;cases e2
   cases i with
   |zero=>simp at h;exact .inr ⟨_,h.symm⟩
   |succ i=>exact keyCs_one hk i a (by simpa using h)
  ·cases hk
theorem RV.onev{u v:Value}{a:AV}(h:(∃ k n,a=.int k n)\/∃ l,a=.str l)(hu:RV c u a)(hv:RV c v a):u=v:=by
 rcases h with⟨k,n,rfl⟩|⟨l,rfl⟩
 ·cases hu;cases hv;rfl
 ·cases hu with
  |str s _ hs=>
   cases hv with
   |str s' _ hs'=>subst hs;rw[bytes_ext hs']
theorem agg_onev{ss:List TS}{cs:List AV}(hk:keyCs ss cs=true){u v:Value}(hu:RV c u (.agg cs))(hv:RV c v (.agg cs)):u=v:=by
 cases hu with
 |agg us _ h1 _ hr1=>
  cases hv with
  |agg vs _ h2 _ hr2=>
   congr 1
   refine Array.ext (by rw[h1,h2]) fun i hi1 hi2=>?_
   have hi:i<cs.length:=by rw[<- h1];exact hi1
   exact RV.onev (keyCs_one hk i _ (Vb hi)) (hr1 i _ _ (Vc hi1) (Vb hi)) (hr2 i _ _ (Vc hi2) (Vb hi))
theorem sameNow_ok{kt:Nat}{d:TypeDesc}{key p:AV}(hna:∀ cs,key≠.agg cs)(hk:KeyD P kt d key){u v:Value}(hu:RV c u key)(hv:RV c v p){b:Bool}(h:akeq key p=some b):Instr.sameNow d u v=some b/\(b=true->Instr.sameBits 10000 v u=true/\u=v):=by
 unfold akeq at h
 split at h
 ·rename_i k a k' a'
  split at h
  ·rename_i hkk;subst hkk;cases h;obtain⟨k0,rfl⟩:=hk;cases hu;cases hv;refine⟨by simp only[Instr.sameNow,Ys];congr 1,fun hb=>?_⟩;simp only[decide_eq_true_eq] at hb;subst hb;exact⟨by simp[Instr.sameBits],rfl⟩
  ·cases h
 ·rename_i a a';cases h;obtain rfl:=hk
  cases hu with
  |str s _ hs=>
   cases hv with
   |str s' _ hs'=>
    subst hs hs';refine⟨by simp[Instr.sameNow,bytes_beq],fun hb=>?_⟩;simp only[decide_eq_true_eq] at hb;obtain rfl:=bytes_ext hb;exact⟨by simp[Instr.sameBits,bytes_beq],rfl⟩
 ·exact absurd rfl (hna _)
 ·cases h
theorem findNow_ok{kt:Nat}{d:TypeDesc}{key:AV}(hna:∀ cs,key≠.agg cs)(hk:KeyD P kt d key){u:Value}(hu:RV c u key):∀ (es:List MapEntry) (l:List (AV×AV)) (i:Nat) (res:Option Nat),es.length=l.length->(∀ (j:Nat) e p,es[j]? = some e->l[j]? = some p->RV c e.key p.1)->afind key l i=some res ->
  match res with
  |none=>Instr.findNow d u es i=some none
  |some j=>i<=j/\j<i+l.length/\∃ e,es[j-i]? = some e/\e.key=u/\Instr.findNow d u es i=some (some (j,e.val))
 |[],[],i,res,_,_,h=>by
  simp only[afind,Option.some.injEq] at h;subst h;rfl
 |e::es,p::l,i,res,hl,hr,h=>by
  have h0:=hr 0 e p rfl rfl;simp only[afind] at h
  split at h
  ·rename_i hq;cases h;obtain⟨g1,g2⟩:=sameNow_ok hna hk hu h0 hq;refine⟨Nat.le_refl _,by simp,e,by simp,(g2 rfl).2.symm,?_⟩;simp[Instr.findNow,g1]
  ·rename_i hq;obtain⟨g1,_⟩:=sameNow_ok hna hk hu h0 hq;have ih:=findNow_ok hna hk hu es l (i+1) res (by simpa using hl) (fun j e p he hp=>hr (j+1) e p (by simpa using he) (by simpa using hp)) h
   cases res with
   |none=>simp only at ih ⊢;simp[Instr.findNow,g1,ih]
   |some j=>
    simp only at ih ⊢;obtain⟨k1,k2,e',k3,k4,k5⟩:=ih;refine⟨by omega,by simp;omega,e',?_,k4,by simp[Instr.findNow,g1,k5]⟩;rw[show j-i=(j-(i+1))+1 by omega]
    simpa using k3
  ·cases h
 |[],_::_,_,_,h,_,_=>by simp at h
 |_::_,[],_,_,h,_,_=>by simp at h
theorem findAsking_ok{kt:Nat}{ss:List TS}{cs:List AV}(hf:flatEq P kt ss=true)(hkc:keyCs ss cs=true){u:Value}(hu:RV c u (.agg cs))(w:World):∀ (es:List MapEntry) (l:List (AV×AV)) (i:Nat) (res:Option Nat),es.length=l.length->(∀ (j:Nat) e p,es[j]? = some e->l[j]? = some p->RV c e.key p.1)->afind (.agg cs) l i=some res ->
  match res with
  |none=>(Instr.findAsking kt u es i).run P w=.ok none w
  |some j=>i<=j/\j<i+l.length/\∃ e,es[j-i]? = some e/\e.key=u/\(Instr.findAsking kt u es i).run P w=.ok (some (j,e.val)) w
 |[],[],i,res,_,_,h=>by
  simp only[afind,Option.some.injEq] at h;subst h;simp[Instr.findAsking]
 |e::es,p::l,i,res,hl,hr,h=>by
  have h0:=hr 0 e p rfl rfl
  have heq:∀ b,akeq (.agg cs) p.1=some b->(Op.equal kt u e.key).run P w=.ok b w/\(b=true->e.key=u):=fun b hb=>by
   cases hp:p.1 with
   |agg ds=>
    rw[hp] at hb h0;have hb':akeqs cs ds=some b:=hb;have hu':=hu
    cases hu' with
    |agg us _ hs1 hc1 hr1=>
     generalize hek:e.key=ek at h0;have h0':=h0
     cases h0' with
     |agg vs _ hs2 hc2 hr2=>
      refine⟨?_,fun ht=>?_⟩
      ·have:=(agg_eq (w:=w) hf hs1 hs2 hr1 hr2 (akeqs_aeqs hkc hb')).2
       simpa [Op.equal,Op.maxDepth] using this
      ·subst ht;obtain rfl:=akeqs_same hkc hb';exact agg_onev hkc h0 hu
   |_=>rw[hp] at hb;simp[akeq] at hb
  simp only[afind] at h
  split at h
  ·rename_i hq;cases h;obtain⟨g1,g2⟩:=heq _ hq;refine⟨Nat.le_refl _,by simp,e,by simp,g2 rfl,?_⟩;simp[Instr.findAsking,Sem.run_bind,g1]
  ·rename_i hq;obtain⟨g1,_⟩:=heq _ hq;have ih:=findAsking_ok hf hkc hu w es l (i+1) res (by simpa using hl) (fun j e p he hp=>hr (j+1) e p (by simpa using he) (by simpa using hp)) h
   cases res with
   |none=>simp only at ih ⊢;simp[Instr.findAsking,Sem.run_bind,g1,ih]
   |some j=>
    simp only at ih ⊢;obtain⟨k1,k2,e',k3,k4,k5⟩:=ih;refine⟨by omega,by simp;omega,e',?_,k4,by simp[Instr.findAsking,Sem.run_bind,g1,k5]⟩;rw[show j-i=(j-(i+1))+1 by omega]
    simpa using k3
  ·cases h
 |[],_::_,_,_,h,_,_=>by simp at h
 |_::_,[],_,_,h,_,_=>by simp at h
theorem run_findKey{kt:Nat}{d:TypeDesc}(hd:P.underlying kt=some d){key:AV}(hk:KeyD P kt d key){u:Value}(hu:RV c u key){es:Array MapEntry}{l:List (AV×AV)}(hl:es.size=l.length)(hr:∀ (j:Nat) e p,es[j]? = some e->l[j]? = some p->RV c e.key p.1){res:Option Nat}(h:afind key l 0=some res)(w:World) :
  match res with
  |none=>(Instr.findKey kt u es.toList).run P w=.ok none w
  |some j=>j<l.length/\∃ e,es[j]? = some e/\e.key=u/\(Instr.findKey kt u es.toList).run P w=.ok (some (j,e.val)) w:=by
 by_cases hag:∃ cs,key=.agg cs
 ·obtain⟨cs,rfl⟩:=hag;obtain⟨fs,ss,rfl,hf,hkc⟩:=hk;have:=findAsking_ok (c:=c) hf hkc hu w es.toList l 0 res (by simpa using hl) (fun j e p he hp=>hr j e p (by simpa using he) hp) h
  have hfk:(Instr.findKey kt u es.toList).run P w=(Instr.findAsking kt u es.toList 0).run P w:=by
   cases hes:es.toList with
   |nil=>simp[Instr.findKey,run_underlying hd,Instr.findNow,Instr.findAsking]
   |cons e es'=>simp[Instr.findKey,Sem.run_bind,run_underlying hd,Instr.findNow,Instr.sameNow]
  cases res with
  |none=>simp only at this ⊢;rw[hfk];exact this
  |some j=>
   simp only at this ⊢;obtain⟨_,k2,e,k3,k4,k5⟩:=this;exact⟨by omega,e,by simpa using k3,k4,by rw[hfk];exact k5⟩
 have hna:∀ cs,key≠.agg cs:=fun cs e=>hag ⟨cs,e⟩;have:=findNow_ok (c:=c) hna hk hu es.toList l 0 res (by simpa using hl) (fun j e p he hp=>hr j e p (by simpa using he) hp) h
 cases res with
 |none=>simp only at this ⊢;simp[Instr.findKey,Sem.run_bind,run_underlying hd,this]
 |some j=>
  simp only at this ⊢;obtain⟨_,k2,e,k3,k4,k5⟩:=this;refine⟨by omega,e,by simpa using k3,k4,by simp[Instr.findKey,Sem.run_bind,run_underlying hd,k5]⟩
theorem forIn_ok{B:Field->PUnit->Sem (ForInStep PUnit)}{w:World}:∀ (fs:List Field),(∀ f∈fs,(B f PUnit.unit).run P w=.ok (ForInStep.yield PUnit.unit) w)->(forIn fs PUnit.unit B).run P w=.ok PUnit.unit w
 |[],_=>by simp
 |f::fs,h=>by
  rw[List.forIn_cons];simp only[Sem.run_bind,h f (List.mem_cons_self ..),Result.andThen_ok];exact forIn_ok fs fun g hg=>h g (List.mem_cons_of_mem _ hg)
theorem check_fields{vs:Array Value}{xs:List AV}(hv:vs.size=xs.length)(rv:∀ (i:Nat) v a,vs[i]? = some v->xs[i]? = some a->RV c v a)(e:Bool)(w:World) :
  ∀ (fs:List Field) (o:Nat) (ss:List TS),flatL P fs o ss=true->keyCs ss (xs.drop o)=true ->
   ∀ f ∈ fs,f.name ≠ "_" /\ ∃ v,(Go.part f.type vs f.offset).run P w = .ok v w /\ (Instr.checkKey e 9999 f.type v).run P w = .ok () w
 |[],o,ss,h,ha=>by simp
 |f::fs,o,[],h,ha=>by cases h
 |f::fs,o,s::ss,h,ha=>by
  simp only[flatL,Vi,beq_iff_eq,bne_iff_ne] at h;obtain⟨⟨⟨h1,h2⟩,h3⟩,h4⟩:=h
  cases hx:xs.drop o with
  |nil=>rw[hx] at ha;cases s<;>simp[keyCs] at ha
  |cons x xs'=>
   rw[hx] at ha
   have hxo:xs[o]? = some x:=by have:=congrArg (·[0]?) hx;simpa [List.getElem?_drop] using this
   have hvo:o<vs.size:=by rw[hv];exact(Va hxo).1
   have hx':xs.drop (o+1)=xs':=by rw[<- List.drop_drop,hx];rfl
   have hone:=keyCs_one ha 0 x rfl
   have hss:keyCs ss xs'=true:=by
    unfold keyCs at ha
    split at ha
    ·rename_i q _;cases q
    ·rename_i q1 q2;cases q1;cases q2;exact ha
    ·rename_i q1 q2;cases q1;cases q2;exact ha
    ·cases ha
   have ih:=check_fields hv rv e w fs (o+1) ss h4 (by rw[hx'];exact hss)
   have hag:∀ W:World,(isAgg f.type).run P W=.ok false W:=by
    intro W;unfold scalB at h3;unfold Go.isAgg;rw[Sem.run_bind]
    split at h3<;>first|cases h3;done|(rename_i hd _;rw[run_underlying hd];simp)|(rename_i hd;rw[run_underlying hd];simp)
   have p1:(Go.part f.type vs f.offset).run P w=.ok vs[o] w:=by simp[Go.part,Sem.run_bind,hag,h1,hvo]
   have hck:(Instr.checkKey e 9999 f.type vs[o]).run P w=.ok () w:=by
    have hr:=rv o vs[o] x (Vc hvo) hxo
    show(Instr.checkKey e (9998+1) f.type vs[o]).run P w=.ok () w
    unfold Instr.checkKey;generalize vs[o]=y at hr
    rcases hone with⟨k,n,rfl⟩|⟨l,rfl⟩
    ·cases hr;unfold scalB at h3
     split at h3<;>first|cases h3;done|(rename_i hd _;simp[Sem.run_bind,run_underlying hd])|(rename_i hd;simp[Sem.run_bind,run_underlying hd])
    ·cases hr;unfold scalB at h3
     split at h3<;>first|cases h3;done|(rename_i hd _;simp[Sem.run_bind,run_underlying hd])|(rename_i hd;simp[Sem.run_bind,run_underlying hd])
   intro g hg
   rcases List.mem_cons.1 hg with rfl|hg
   ·exact⟨h2,_,p1,hck⟩
   ·exact ih g hg
theorem run_check{kt:Nat}{d:TypeDesc}(hd:P.underlying kt=some d){key:AV}(hk:KeyD P kt d key){u:Value}(hu:RV c u key)(e:Bool)(w:World):(Instr.checkKey e 10000 kt u).run P w=.ok () w:=by
 show(Instr.checkKey e (9999+1) kt u).run P w=.ok () w
 unfold Instr.checkKey;simp only[Sem.run_bind,run_underlying hd,Result.andThen];unfold KeyD at hk
 split at hk
 ·obtain⟨k,rfl⟩:=hk;cases hu;simp
 ·subst hk;cases hu;simp
 ·obtain⟨fs,ss,rfl,hf,hkc⟩:=hk
  cases hu with
  |agg vs cs hs _ hr=>
   unfold flatEq at hf;rw[hd] at hf;simp only[Vi,Bool.not_eq_true'] at hf;have:=check_fields (P:=P) (c:=c) hs hr e w fs.toList 0 ss hf.1.2 (by simpa using hkc);simp only[<- Array.forIn_toList];rw[Sem.run_bind,forIn_ok (P:=P) fs.toList]
   ·simp
   ·intro f hf;obtain⟨g1,v,g2,g3⟩:=this f hf;simp[g1,Sem.run_bind,g2,g3]
 ·exact hk.elim
theorem run_stays{u v:Value}(h:Instr.sameBits 10000 v u=true)(w:World):(Instr.keyThatStays v u).run P w=.ok u w:=by
 simp[Instr.keyThatStays,h]
theorem sameBits_self{kt:Nat}{key:AV}{d:TypeDesc}(hk:KeyD P kt d key){u:Value}(hu:RV c u key):Instr.sameBits 10000 u u=true:=by
 unfold KeyD at hk
 split at hk
 ·cases hu;simp[Instr.sameBits]
 ·cases hu;simp[Instr.sameBits,bytes_beq]
 ·rename_i cs;obtain⟨fs,ss,rfl,hf,hkc⟩:=hk
  cases hu with
  |agg vs _ hs _ hr=>
   show Instr.sameBits (9999+1) (.agg vs) (.agg vs)=true;simp only[Instr.sameBits,beq_self_eq_true,Bool.true_and,List.all_eq_true];rintro⟨x,y⟩ hxy;obtain⟨i,hi⟩:=List.getElem?_of_mem hxy;rw[List.getElem?_zip_eq_some] at hi;obtain⟨hi1,hi2⟩:=hi;simp only at hi1 hi2;rw[hi1] at hi2;cases hi2;rw[Array.getElem?_toList] at hi1
   have hil:i<cs.length:=by rw[<- hs];exact(Array.getElem?_eq_some_iff.1 hi1).1
   have hv:=hr i x _ hi1 (Vb hil);have hone:=keyCs_one hkc i _ (Vb hil);generalize cs[i]=a at hv hone;show Instr.sameBits (9998+1) x x=true
   rcases hone with⟨k,n,rfl⟩|⟨l,rfl⟩
   ·cases hv;simp[Instr.sameBits]
   ·cases hv;simp[Instr.sameBits,bytes_beq]
 ·exact hk.elim
theorem Cx.setMap(hc:RelH c){i b:Nat}{l l':List (AV×AV)}{es es':Array MapEntry}(hi:c.h[i]? = some (.map l))(hb:c.ρ i=some b)(hes:c.w.heap[b]? = some (.map es l.length))(hl:es'.size=l'.length)
  (hr:∀ (j:Nat) e p,es'[j]? = some e->l'[j]? = some p->e.born=j/\RV c e.key p.1/\RV c e.val p.2) :
  RelH ⟨c.ρ,c.h.set i (.map l'),setBlock c.w b (.map es' l'.length),c.X⟩/\Ev c ⟨c.ρ,c.h.set i (.map l'),setBlock c.w b (.map es' l'.length),c.X⟩:=
 Cx.write hc i (.map l) (.map l') b hi hb rfl rfl _ (by simp[setBlock]) rfl rfl rfl (fun b' hb'=>heap_setBlock_other hes _ hb') (fun o h=>h.elim) (.inl ⟨rfl,rfl⟩) (fun vs e f h0=>by rw[hes] at h0;cases h0) fun hev=>
  ⟨b,es',hb,heap_setBlock_same hes _,hl,fun j e p he hp=>by obtain⟨h1,h2,h3⟩:=hr j e p he hp;exact⟨h1,h2.mono hev,h3.mono hev⟩⟩
theorem amakeMap_ok(hc:RelH c){slot:Nat}(hs:c.h[slot]? = some .free)(t:Nat):∃ q w',(Instr.makeMap t none).run P c.w=.ok q w'/\Comes c ⟨True,.mp slot,some (slot,.map [])⟩ q w':=by
 have hsl:slot<c.h.length:=(Va hs).1
 obtain⟨h1,h2⟩:=Cx.alloc hc slot .free hs (.map []) (.inl rfl) rfl (c.w.alloc (.map #[] 0)) (.map #[] 0) rfl rfl rfl rfl (fun hev=>
  ⟨c.w.heap.size,#[],setρ_same _ _ _,(by show(c.w.heap.push _)[c.w.heap.size]? = _;simp),rfl,fun j e p he=>by simp at he⟩)
 refine⟨.map (some c.w.heap.size),c.w.alloc (.map #[] 0),by simp[Instr.makeMap],_,h1,h2,.mp _ _ ⟨_,List.getElem?_set_self hsl,rfl⟩ (setρ_same _ _ _) fun x hx=>?_⟩;simp only[aupd] at hx;rw[List.getElem?_set_self hsl] at hx;cases hx;rfl
theorem mapK_ok(hT:TabOk P T){t:Nat}{ti:TI}(ht:TIok P t ti){ki ei:TI}(h:mapK T ti=some (ki,ei)):∃ kt et,P.underlying t=some (.map kt et)/\TIok P kt ki/\TIok P et ei:=by
 obtain⟨d,hd,hso⟩:=ht.desc;unfold sortOk at hso;unfold mapK at h
 split at h
 ·rename_i o k hs ho;rw[hs] at hso;obtain⟨k',rfl,hk⟩:=hso;rw[ho] at hk;cases hk;simp only[Option.bind_eq_some_iff,Ve,Prod.mk.injEq] at h;obtain⟨ki',h1,ei',h2,rfl,rfl⟩:=h;exact⟨_,_,hd,hT _ _ h1,hT _ _ h2⟩
 ·cases h
theorem zero_ok{et:Nat}{ei:TI}(ht:TIok P et ei){z:AV}(h:cellsAs ei.agg ei.zero=some z)(w:World):∃ q,(zeroValue et).run P w=.ok q w/\∀ c:Cx,RV c q z:=by
 obtain⟨i,q,g1,g2,g3,g4,g5,g6⟩:=ht.info;have hz:=ht.za i q g1 g4;refine⟨q,by simp[zeroValue,typeInfo,Sem.run_bind,g1,g4],fun c=>?_⟩;unfold cellsAs at h
 split at h
 ·rename_i hag;rw[hag] at hz;cases h;unfold aggB at hz
  split at hz
  ·rename_i cs;refine .agg _ _ g5 (fun j a ha=>?_) (fun j v a hv ha=>(g6 j v a hv ha).2 c)
   have hj:j<cs.size:=by rw[show cs.size=ei.zero.length from g5];exact(Va ha).1
   exact AV.plain_cell (g6 j cs[j] a (Vc hj) ha).1
  ·cases hz
 ·rename_i hag
  have hag':ei.agg=false:=by simpa using hag
  rw[hag'] at hz
  split at h
  ·rename_i x hx;cases h;rw[hx] at g6
   have hq:q.cells=#[q]:=by
    unfold aggB at hz
    split at hz
    ·cases hz
    ·rename_i hne;unfold Value.cells
     split
     ·rename_i cs;exact absurd rfl (hne cs)
     ·rfl
   exact(g6 0 q z (by rw[hq];rfl) rfl).2 c
  ·cases h
theorem getElem?_pset(l:List (AV×AV))(j:Nat)(v:AV)(i:Nat):(pset l j v)[i]? = if j=i then(l[i]?).map (fun p=>(p.1,v)) else l[i]?:=by
 unfold pset;rw[List.getElem?_modify]
 split<;>simp
theorem length_pset(l:List (AV×AV))(j:Nat)(v:AV):(pset l j v).length=l.length:=by simp[pset]
theorem amapEntry_ok(hT:TabOk P T)(hc:RelH c){t:Nat}{ti:TI}(ht:TIok P t ti){vm vk:Value}{m key:AV}(hm:RV c vm m)(hk:RV c vk key){r:ARes}(hr:amapEntry T c.h ti m key=some r) :
  ∃ q w',(Instr.mapEntry t vm vk).run P c.w=.ok q w'/\Comes c r q w':=by
 unfold amapEntry at hr
 split at hr
 ·rename_i i
  split at hr<;>first|(cases hr;done)|skip
  rename_i l ki ei hi hmk;obtain⟨kt,et,hd,hkt,het⟩:=mapK_ok hT ht hmk
  cases hm with
  |mp _ b hkn hb hn=>
   obtain⟨b',es,g1,g2,g3,g4⟩:=hc.blk i _ hi;rw[hb] at g1;obtain rfl:=Option.some.inj g1
   split at hr<;>first|(cases hr;done)|skip
   ·rename_i j z hty hf hz;cases hr;obtain⟨d,hkd,hKD⟩:=keyTy_ok hkt hty;obtain⟨hj,e,he,hek,hfind⟩:=run_findKey hkd hKD hk g3 (fun j e p he hp=>(g4 j e p he hp).2.1) hf c.w
    obtain⟨q1,q2⟩:=Cx.setMap hc hi hb g2 (l':=l) (es':=es.modify j fun e=>{ e with key:=vk }) (by simpa using g3) (fun j' e' p he' hp=>by
     rw[Array.getElem?_modify] at he'
     split at he'
     ·rename_i hjj;subst hjj;rw[he] at he';cases he';obtain⟨w0,w1,w2⟩:=g4 j e p he hp;exact⟨w0,by rw[<- hek];exact w1,w2⟩
     ·exact g4 j' e' p he' hp)
    obtain⟨p,hp⟩:∃ p,l[j]? = some p:=⟨_,Vb hj⟩
    obtain⟨w0,w1,w2⟩:=g4 j e p he hp;refine⟨.tuple #[e.val,goInt e.born],_,?_,c.ρ,q1,q2,.tup _ _ rfl fun n v a hv ha=>?_⟩
    ·simp[Instr.mapEntry,Sem.run_bind,run_underlying hd,MapKept.run_getObj_map g2,run_check hkd hKD hk,hfind,he,hek,run_stays (sameBits_self hKD hk),MapKept.run_setObj_map _ g2,setBlock]
    ·rw[hp] at ha
     match n,hv,ha with
     |0,hv,ha=>simp at hv ha;subst hv ha;exact w2.mono q2
     |1,hv,ha=>simp[goInt] at hv ha;subst hv ha;rw[w0];exact .int _ _
     |n+2,hv,ha=>simp at hv
   ·rename_i z hty hf hz;cases hr;obtain⟨d,hkd,hKD⟩:=keyTy_ok hkt hty;have hfind:=run_findKey hkd hKD hk g3 (fun j e p he hp=>(g4 j e p he hp).2.1) hf c.w;obtain⟨zv,hz1,hz2⟩:=zero_ok het hz c.w
    obtain⟨q1,q2⟩:=Cx.setMap hc hi hb g2 (l':=l++[(key,z)]) (es':=es.push { key:=vk,val:=zv,born:=l.length }) (by simpa using g3) (fun j' e' p he' hp=>by
     rw[Array.getElem?_push] at he';rw[List.getElem?_append] at hp
     split at he'
     ·rename_i hjj;cases he';rw[g3] at hjj;subst hjj;simp at hp;subst hp;exact⟨rfl,hk,hz2 c⟩
     ·rename_i hjj;rw[g3] at hjj
      have hjl:j'<l.length:=by
       have:=(Array.getElem?_eq_some_iff.1 he').1;omega
      rw[if_pos hjl] at hp
      exact g4 j' e' p he' hp)
    rw[List.length_append] at q1 q2;refine⟨.tuple #[zv,goInt l.length],_,?_,c.ρ,q1,q2,.tup _ _ rfl fun n v a hv ha=>?_⟩
    ·simp[Instr.mapEntry,Sem.run_bind,run_underlying hd,MapKept.run_getObj_map g2,run_check hkd hKD hk,hfind,hz1,MapKept.run_setObj_map _ g2,setBlock]
    ·match n,hv,ha with
     |0,hv,ha=>simp at hv ha;subst hv ha;exact(hz2 _)
     |1,hv,ha=>simp[goInt] at hv ha;subst hv ha;exact .int _ _
     |n+2,hv,ha=>simp at hv
 ·cases hr
theorem findIdx_born{es:Array MapEntry}(h:∀ (j:Nat) e,es[j]? = some e->e.born=j){n:Int}(h0:0<=n)(hn:n<es.size):es.findIdx? (fun e=>(e.born:Int)==n)=some n.toNat:=by
 have hnl:n.toNat<es.size:=by omega
 rw[Array.findIdx?_eq_some_iff_getElem];refine⟨hnl,?_,fun j hj=>?_⟩
 ·have:=h n.toNat _ (Vc hnl);simp[this];omega
 ·have:=h j _ (Vc (by omega));simp[this];omega
theorem aentryStore_ok(hc:RelH c){t:Nat}{vm vs vv:Value}{m s v:AV}(hm:RV c vm m)(hs:RV c vs s)(hv:RV c vv v){r:ARes}(hr:aentryStore c.h m s v=some r)(hp:r.p) :
  ∃ w',(Instr.entryStore t vm vs vv).run P c.w=.ok () w'/\Comes c r undef w':=by
 unfold aentryStore at hr
 split at hr
 ·rename_i i k n
  split at hr
  ·rename_i l hi;cases hr;obtain⟨h0,hn⟩:=hp;obtain rfl:=hs.ints
   cases hm with
   |mp _ b hkn hb hnt=>
    obtain⟨b',es,g1,g2,g3,g4⟩:=hc.blk i _ hi;rw[hb] at g1;obtain rfl:=Option.some.inj g1
    have hfi:=findIdx_born (es:=es) (fun j e he=>by
     have hjl:j<l.length:=by rw[<- g3];exact(Array.getElem?_eq_some_iff.1 he).1
     exact(g4 j e _ he (Vb hjl)).1) h0 (by rw[g3];exact hn)
    obtain⟨q1,q2⟩:=Cx.setMap hc hi hb g2 (l':=pset l n.toNat v) (es':=es.modify n.toNat fun e=>{ e with val:=vv }) (by rw[length_pset];simpa using g3) (fun j' e' p he' hp=>by
     rw[Array.getElem?_modify] at he';rw[getElem?_pset] at hp
     split at he'
     ·rename_i hjj;rw[if_pos hjj] at hp;simp only[Ve] at he' hp;obtain⟨e,he,rfl⟩:=he';obtain⟨p',hp',rfl⟩:=hp;obtain⟨w0,w1,w2⟩:=g4 j' e p' he hp';exact⟨w0,w1,hv⟩
     ·rename_i hjj;rw[if_neg hjj] at hp
      exact g4 j' e' p he' hp)
    rw[length_pset] at q1 q2;exact⟨_,by simp[Instr.entryStore,Sem.run_bind,MapKept.run_getObj_map g2,asInt,asIntOf,hfi,MapKept.run_setObj_map _ g2,setBlock],c.ρ,q1,q2,.junk _⟩
  ·cases hr
 ·cases hr
theorem amapUpdate_ok(hT:TabOk P T)(hc:RelH c){t:Nat}{ti:TI}(ht:TIok P t ti){vm vk vv:Value}{m key v:AV}(hm:RV c vm m)(hk:RV c vk key)(hv:RV c vv v){r:ARes}(hr:amapUpdate T c.h ti m key v=some r) :
  ∃ w',(Instr.mapUpdate t vm vk vv).run P c.w=.ok () w'/\Comes c r undef w':=by
 unfold amapUpdate at hr
 split at hr
 ·rename_i i
  split at hr<;>first|(cases hr;done)|skip
  rename_i l ki ei hi hmk;obtain⟨kt,et,hd,hkt,het⟩:=mapK_ok hT ht hmk
  cases hm with
  |mp _ b hkn hb hn=>
   obtain⟨b',es,g1,g2,g3,g4⟩:=hc.blk i _ hi;rw[hb] at g1;obtain rfl:=Option.some.inj g1
   split at hr<;>first|(cases hr;done)|skip
   ·rename_i j hty hf;cases hr;obtain⟨d,hkd,hKD⟩:=keyTy_ok hkt hty;obtain⟨hj,e,he,hek,hfind⟩:=run_findKey hkd hKD hk g3 (fun j e p he hp=>(g4 j e p he hp).2.1) hf c.w
    obtain⟨q1,q2⟩:=Cx.setMap hc hi hb g2 (l':=pset l j v) (es':=es.modify j fun e=>{ e with key:=vk,val:=vv }) (by rw[length_pset];simpa using g3) (fun j' e' p he' hp=>by
     rw[Array.getElem?_modify] at he';rw[getElem?_pset] at hp
     split at he'
     ·rename_i hjj;subst hjj;rw[if_pos rfl] at hp;rw[he] at he';cases he';simp only[Ve] at hp;obtain⟨p',hp',rfl⟩:=hp;obtain⟨w0,w1,w2⟩:=g4 j e p' he hp';exact⟨w0,by rw[<- hek];exact w1,hv⟩
     ·rename_i hjj;rw[if_neg hjj] at hp
      exact g4 j' e' p he' hp)
    rw[length_pset] at q1 q2;exact⟨_,by simp[Instr.mapUpdate,Sem.run_bind,run_underlying hd,MapKept.run_getObj_map g2,run_check hkd hKD hk,hfind,he,hek,run_stays (sameBits_self hKD hk),MapKept.run_setObj_map _ g2,setBlock],c.ρ,q1,q2,.junk _⟩
   ·rename_i hty hf;cases hr;obtain⟨d,hkd,hKD⟩:=keyTy_ok hkt hty;have hfind:=run_findKey hkd hKD hk g3 (fun j e p he hp=>(g4 j e p he hp).2.1) hf c.w
    obtain⟨q1,q2⟩:=Cx.setMap hc hi hb g2 (l':=l++[(key,v)]) (es':=es.push { key:=vk,val:=vv,born:=l.length }) (by simpa using g3) (fun j' e' p he' hp=>by
     rw[Array.getElem?_push] at he';rw[List.getElem?_append] at hp
     split at he'
     ·rename_i hjj;cases he';rw[g3] at hjj;subst hjj;simp at hp;subst hp;exact⟨rfl,hk,hv⟩
     ·rename_i hjj;rw[g3] at hjj
      have hjl:j'<l.length:=by
       have:=(Array.getElem?_eq_some_iff.1 he').1;omega
      rw[if_pos hjl] at hp
      exact g4 j' e' p he' hp)
    rw[List.length_append] at q1 q2;exact⟨_,by simp[Instr.mapUpdate,Sem.run_bind,run_underlying hd,MapKept.run_getObj_map g2,run_check hkd hKD hk,hfind,MapKept.run_setObj_map _ g2,setBlock],c.ρ,q1,q2,.junk _⟩
 ·cases hr
theorem alookup_ok(hT:TabOk P T)(hc:RelH c){t:Nat}{ti:TI}(ht:TIok P t ti){vm vk:Value}{m key:AV}(hm:RV c vm m)(hk:RV c vk key){ok:Bool}{r:ARes}(hr:alookup T c.h ti ok m key=some r) :
  r.d=none/\∃ q,(Instr.lookup t vm vk ok).run P c.w=.ok q c.w/\RV c q r.v:=by
 unfold alookup at hr
 split at hr
 ·rename_i i
  split at hr<;>first|(cases hr;done)|skip
  rename_i l ki ei hi hmk;obtain⟨kt,et,hd,hkt,het⟩:=mapK_ok hT ht hmk
  cases hm with
  |mp _ b hkn hb hn=>
   obtain⟨b',es,g1,g2,g3,g4⟩:=hc.blk i _ hi;rw[hb] at g1;obtain rfl:=Option.some.inj g1
   split at hr<;>first|(cases hr;done)|skip
   ·rename_i j z hty hf hz;cases hr;obtain⟨d,hkd,hKD⟩:=keyTy_ok hkt hty;obtain⟨hj,e,he,hek,hfind⟩:=run_findKey hkd hKD hk g3 (fun j e p he hp=>(g4 j e p he hp).2.1) hf c.w
    obtain⟨p,hp⟩:∃ p,l[j]? = some p:=⟨_,Vb hj⟩
    obtain⟨w0,w1,w2⟩:=g4 j e p he hp;refine⟨rfl,if ok then .tuple #[e.val,.bool true] else e.val,?_,?_⟩
    ·simp only[Instr.lookup,Sem.run_bind,run_underlying hd,MapKept.run_getObj_map g2,run_check hkd hKD hk,hfind,Result.andThen_ok,Sem.run_pure]
    ·rw[hp]
     cases ok with
     |false=>exact w2
     |true=>
      refine .tup _ _ rfl fun n v a hv ha=>?_
      match n,hv,ha with
      |0,hv,ha=>simp at hv ha;subst hv ha;exact w2
      |1,hv,ha=>simp at hv ha;subst hv ha;exact .bool _
      |n+2,hv,ha=>simp at hv
   ·rename_i z hty hf hz;cases hr;obtain⟨d,hkd,hKD⟩:=keyTy_ok hkt hty;have hfind:=run_findKey hkd hKD hk g3 (fun j e p he hp=>(g4 j e p he hp).2.1) hf c.w;obtain⟨zv,hz1,hz2⟩:=zero_ok het hz c.w;refine⟨rfl,if ok then .tuple #[zv,.bool false] else zv,?_,?_⟩
    ·simp only[Instr.lookup,Sem.run_bind,run_underlying hd,MapKept.run_getObj_map g2,run_check hkd hKD hk,hfind,hz1,Result.andThen_ok,Sem.run_pure]
    ·cases ok with
     |false=>exact hz2 c
     |true=>
      refine .tup _ _ rfl fun n v a hv ha=>?_
      match n,hv,ha with
      |0,hv,ha=>simp at hv ha;subst hv ha;exact hz2 c
      |1,hv,ha=>simp at hv ha;subst hv ha;exact .bool _
      |n+2,hv,ha=>simp at hv
 ·cases hr
theorem arange_ok(hc:RelH c){slot:Nat}(hs:c.h[slot]? = some .free){t:Nat}{ti:TI}(ht:TIok P t ti){vm:Value}{m:AV}(hm:RV c vm m){r:ARes}(hr:arange c.h slot ti m=some r) :
  ∃ q w',(Instr.range t vm).run P c.w=.ok q w'/\Comes c r q w':=by
 obtain⟨d,hd,hso⟩:=ht.desc;unfold sortOk at hso;unfold arange at hr
 split at hr
 ·rename_i i
  split at hr
  ·rename_i l hst hi;cases hr;rw[hst] at hso;obtain⟨kt,rfl,_⟩:=hso;have hm':=hm
   cases hm with
   |mp _ b hkn hb hn=>
    obtain⟨b',es,g1,g2,g3,g4⟩:=hc.blk i _ hi;rw[hb] at g1;obtain rfl:=Option.some.inj g1;have hsl:slot<c.h.length:=(Va hs).1
    obtain⟨h1,h2⟩:=Cx.alloc hc slot .free hs (.iter i l.length []) (.inl rfl) rfl (c.w.alloc (.mapIter (some b) l.length #[] l.length)) (.mapIter (some b) l.length #[] l.length) rfl rfl rfl rfl (fun hev=>
     ⟨c.w.heap.size,b,#[],setρ_same _ _ _,(by show(c.w.heap.push _)[c.w.heap.size]? = _;simp),rfl,hm'.mono hev⟩)
    refine⟨.pointer (some ⟨c.w.heap.size,0,none⟩),c.w.alloc (.mapIter (some b) l.length #[] l.length),by simp[Instr.range,Sem.run_bind,run_underlying hd,MapKept.run_getObj_map g2],_,h1,h2,.ptr _ _ _ ⟨_,List.getElem?_set_self hsl,rfl⟩ (setρ_same _ _ _) fun x hx=>?_⟩;simp only[aupd] at hx;rw[List.getElem?_set_self hsl] at hx;cases hx;rfl
  ·cases hr
 ·cases hr
end
def any(_:AV):Bool:=true
section
variable {P:Program} {T:TabT} {c:Cx}
theorem FlatP.app{p:AV->Bool}{k:Nat}{l m:List (List AV)}{xs ys:List Value}(h:FlatP p c k l xs)(g:FlatP p c k m ys):FlatP p c k (l++m) (xs++ys):=by
 refine⟨by simp[h.len,g.len,Nat.add_mul],fun j e he=>?_,fun j e i a he ha=>?_⟩
 ·rw[List.getElem?_append] at he
  split at he
  ·exact h.el j e he
  ·exact g.el _ e he
 ·rw[List.getElem?_append] at he
  split at he
  ·rename_i hj;obtain⟨q1,u,q2,q3⟩:=h.rv j e i a he ha;refine⟨q1,u,?_,q3⟩;rw[List.getElem?_append_left (Va q2).1];exact q2
  ·rename_i hj;obtain⟨q1,u,q2,q3⟩:=g.rv _ e i a he ha;refine⟨q1,u,?_,q3⟩
   have e1:(j-l.length)*k+l.length*k=j*k:=by rw[<- Nat.add_mul];congr 1;omega
   rw[List.getElem?_append_right (by rw[h.len];omega),h.len,show j*k+i-l.length*k=(j-l.length)*k+i by omega];exact q2
theorem FlatP.take{p:AV->Bool}{k:Nat}{l:List (List AV)}{xs:List Value}(h:FlatP p c k l xs)(m:Nat)(hm:m<=l.length):FlatP p c k (l.take m) (xs.take (m*k)):=by
 have hmk:m*k<=l.length*k:=Nat.mul_le_mul_right _ hm;refine⟨by rw[List.length_take,List.length_take,h.len];simp[Nat.min_eq_left hm,Nat.min_eq_left hmk],fun j e he=>?_,fun j e i a he ha=>?_⟩
 ·rw[List.getElem?_take] at he
  split at he
  ·exact h.el j e he
  ·cases he
 ·rw[List.getElem?_take] at he
  split at he
  ·rename_i hj;obtain⟨q1,u,q2,q3⟩:=h.rv j e i a he ha;refine⟨q1,u,?_,q3⟩
   have hi:i<k:=by rw[<- h.el j e he];exact(Va ha).1
   have:(j+1)*k<=m*k:=Nat.mul_le_mul_right _ hj;rw[Nat.add_mul] at this;rw[List.getElem?_take_of_lt (by omega)];exact q2
  ·cases he
structure RowsAt(c:Cx)(i k:Nat)(L:List (List AV))(b:Nat)(vs:Array Value)(e:TypeId):Prop where
 hi:c.h[i]? = some (.rows k L)
 hb:c.ρ i=some b
 hh:c.w.heap[b]? = some (.cells vs e (0,0))
 el:∀ (j:Nat) x,L[j]? = some x->x.length=k
 rv:∀ (j:Nat) x (m:Nat) a,L[j]? = some x->x[m]? = some a->∃ v,vs[j*k+m]? = some v/\RV c v a
theorem RowsAt.of(hc:RelH c){i k:Nat}{L:List (List AV)}{b:Nat}(hi:c.h[i]? = some (.rows k L))(hb:c.ρ i=some b):∃ vs e,RowsAt c i k L b vs e:=by
 obtain⟨b',vs,e,h1,h2,h3,h4⟩:=hc.blk i _ hi;rw[hb] at h1;obtain rfl:=Option.some.inj h1;exact⟨vs,e,hi,hb,h2,h3,h4⟩
theorem RowsAt.size{i k:Nat}{L:List (List AV)}{b:Nat}{vs:Array Value}{e:TypeId}(h:RowsAt c i k L b vs e)(hk:0<k):L.length*k<=vs.size:=by
 cases hL:L.length with
 |zero=>simp
 |succ n=>
  have hlt:n<L.length:=by omega
  have hx:=Vb hlt;have hl:=h.el n _ hx;obtain⟨v,h1,_⟩:=h.rv n _ (k-1) _ hx (Vb (by omega));have:=(Array.getElem?_eq_some_iff.1 h1).1;rw[Nat.add_mul];omega
theorem RowsAt.part{i k:Nat}{L:List (List AV)}{b:Nat}{vs:Array Value}{e:TypeId}(h:RowsAt c i k L b vs e)(hk:0<k)(o m:Nat)(hm:o+m<=L.length){p:AV->Bool}(hp:∀ x∈(L.drop o).take m,∀ a∈x,p a=true) :
  FlatP p c k ((L.drop o).take m) ((vs.toList.drop (o*k)).take (m*k))/\∀ (j:Nat) v,((vs.toList.drop (o*k)).take (m*k))[j]? = some v->c.w.cell? ⟨b,o*k+j,none⟩=some v:=by
 have hs:=h.size hk;have h1:(o+m)*k<=L.length*k:=Nat.mul_le_mul_right _ hm;rw[Nat.add_mul] at h1
 have hg:∀ (j:Nat) x,((L.drop o).take m)[j]? = some x->L[o+j]? = some x/\j<m:=fun j x hx=>by
  rw[List.getElem?_take] at hx
  split at hx
  ·rw[List.getElem?_drop] at hx;exact⟨hx,by assumption⟩
  ·cases hx
 refine⟨⟨?_,fun j x hx=>h.el _ x (hg j x hx).1,fun j x q a hx ha=>?_⟩,fun j v hv=>?_⟩
 ·simp only[List.length_take,List.length_drop,Array.length_toList];rw[Nat.min_eq_left (by omega),Nat.min_eq_left (by omega)]
 ·obtain⟨hx',hjm⟩:=hg j x hx;obtain⟨v,h2,h3⟩:=h.rv _ x q a hx' ha;refine⟨hp x (Vd hx) a (Vd ha),v,?_,h3⟩
  have hq:q<k:=by rw[<- h.el _ x hx'];exact(Va ha).1
  have h4:(j+1)*k<=m*k:=Nat.mul_le_mul_right _ hjm;rw[Nat.add_mul] at h4;rw[List.getElem?_take_of_lt (by omega),List.getElem?_drop,Array.getElem?_toList,<- Nat.add_assoc,<- Nat.add_mul];exact h2
 ·rw[cell_of_row c.w b _ vs e (0,0) h.hh];rw[List.getElem?_take] at hv
  split at hv
  ·rw[List.getElem?_drop,Array.getElem?_toList] at hv;exact hv
  ·cases hv
theorem FlatP.oneC{k:Nat}{l:List (List AV)}{xs:List Value}(hk:0<k)(h:FlatP AV.cell c k l xs):∀ u∈xs,u.oneCell'=true:=by
 intro u hu;obtain⟨q,hq⟩:=List.getElem?_of_mem hu;have hql:=(Va hq).1;rw[h.len] at hql;have hj:q / k<l.length:=(Nat.div_lt_iff_lt_mul hk).2 hql;have hx:=Vb hj
 have hi:q % k<(l[q / k]).length:=by rw[h.el _ _ hx];exact Nat.mod_lt _ hk
 obtain⟨h1,v,h2,h3⟩:=h.rv _ _ (q % k) _ hx (Vb hi);rw[show q / k*k+q % k=q by rw[Nat.mul_comm];exact Nat.div_add_mod q k,hq] at h2;cases h2;exact h3.one h1
theorem RowsAt.write(hc:RelH c){i k:Nat}{L:List (List AV)}{b:Nat}{vs:Array Value}{e:TypeId}(h:RowsAt c i k L b vs e)(hk:0<k){Y:List (List AV)}{news:List Value}{p:AV->Bool}(hf:FlatP p c k Y news)(o:Nat)(ho:o+Y.length<=L.length){w':World}
  (hw:w'=c.w.setRow b (vs.toList.take (o*k)++news++vs.toList.drop (o*k+news.length)).toArray) :
  RelH ⟨c.ρ,c.h.set i (.rows k (L.take o++Y++L.drop (o+Y.length))),w',c.X⟩/\Ev c ⟨c.ρ,c.h.set i (.rows k (L.take o++Y++L.drop (o+Y.length))),w',c.X⟩:=by
 subst hw;have hs:=h.size hk;have h1:(o+Y.length)*k<=L.length*k:=Nat.mul_le_mul_right _ ho;rw[Nat.add_mul] at h1;have hnl:=hf.len;refine Cx.write hc i (.rows k L) (.rows k (L.take o++Y++L.drop (o+Y.length))) b h.hi h.hb rfl rfl _ (by simp) rfl rfl rfl (fun b' hb'=>setRow_other _ _ _ _ hb') (fun o h=>h.elim) (.inl ⟨rfl,rfl⟩) (fun vs' e' f h0=>by rw[h.hh] at h0;cases h0;exact⟨_,setRow_heap _ _ _ _ _ _ h.hh,by simp;omega⟩) fun hev=>?_
 have hget:∀ (j:Nat) x,(L.take o++Y++L.drop (o+Y.length))[j]? = some x->(j<o/\L[j]? = some x)\/(o<=j/\j<o+Y.length/\Y[j-o]? = some x)\/(o+Y.length<=j/\L[j]? = some x):=fun j x hx=>by
  have hol:(L.take o).length=o:=by rw[List.length_take];omega
  rw[List.append_assoc,List.getElem?_append,hol] at hx
  split at hx
  ·rename_i hj;rw[List.getElem?_take_of_lt hj] at hx;exact .inl ⟨hj,hx⟩
  ·rename_i hj;rw[List.getElem?_append] at hx
   split at hx
   ·exact .inr (.inl ⟨by omega,by omega,hx⟩)
   ·rw[List.getElem?_drop] at hx;exact .inr (.inr ⟨by omega,by rw[<- hx];congr 1;omega⟩)
 refine⟨b,_,e,h.hb,setRow_heap _ _ _ _ _ _ h.hh,fun j x hx=>?_,fun j x m a hx ha=>?_⟩
 ·rcases hget j x hx with⟨_,g⟩|⟨_,_,g⟩|⟨_,g⟩
  ·exact h.el j x g
  ·exact hf.el _ x g
  ·exact h.el j x g
 ·have hlay:=getElem?_layV (cs:=vs.toList) (xs:=news) (o:=o*k) (by simp;omega) (j*k+m);simp only[Yw,hlay]
  rcases hget j x hx with⟨hj,g⟩|⟨hj1,hj2,g⟩|⟨hj,g⟩
  ·obtain⟨v,g2,g3⟩:=h.rv j x m a g ha
   have hm:m<k:=by rw[<- h.el j x g];exact(Va ha).1
   have:(j+1)*k<=o*k:=Nat.mul_le_mul_right _ hj;rw[Nat.add_mul] at this;exact⟨v,by rw[if_pos (by omega)];simpa using g2,g3.mono hev⟩
  ·obtain⟨_,v,g2,g3⟩:=hf.rv _ x m a g ha
   have hm:m<k:=by rw[<- hf.el _ x g];exact(Va ha).1
   have e1:(j-o)*k+o*k=j*k:=by rw[<- Nat.add_mul];congr 1;omega
   have e2:(j-o+1)*k<=Y.length*k:=Nat.mul_le_mul_right _ (by omega);rw[Nat.add_mul] at e2;refine⟨v,?_,g3.mono hev⟩;rw[if_neg (by omega),if_pos (by omega),show j*k+m-o*k=(j-o)*k+m by omega];exact g2
  ·obtain⟨v,g2,g3⟩:=h.rv j x m a g ha;have e1:(o+Y.length)*k<=j*k:=Nat.mul_le_mul_right _ hj;rw[Nat.add_mul] at e1;exact⟨v,by rw[if_neg (by omega),if_neg (by omega)];simpa using g2,g3.mono hev⟩
theorem Cx.newRows(hc:RelH c){slot:Nat}(hsl:c.h[slot]? = some .free){k:Nat}{L:List (List AV)}{cells:Array Value}{p:AV->Bool}(hf:FlatP p c k L cells.toList)(e:TypeId)(w':World)(hw:w'.heap=c.w.heap.push (.cells cells e))(h1:w'.os=c.w.os)(h2:w'.tape=c.w.tape)(h3:w'.output=c.w.output)(n cap:Nat)(hn:n<=cap)(hm:cap<=maxLen) :
  RelH ⟨setρ c.ρ slot (some c.w.heap.size),c.h.set slot (.rows k L),w',c.X⟩/\Ev c ⟨setρ c.ρ slot (some c.w.heap.size),c.h.set slot (.rows k L),w',c.X⟩ /\
   RV ⟨setρ c.ρ slot (some c.w.heap.size),c.h.set slot (.rows k L),w',c.X⟩ (.slice (some ⟨c.w.heap.size,0,none⟩) n cap) (.msl slot k 0 n cap):=by
 have hslt:slot<c.h.length:=(Va hsl).1
 obtain⟨q1,q2⟩:=Cx.alloc hc slot .free hsl (.rows k L) (.inl rfl) rfl w' (.cells cells e) hw h1 h2 h3 (fun hev=>
  ⟨c.w.heap.size,cells,e,setρ_same _ _ _,(by show w'.heap[c.w.heap.size]? = _;rw[hw];simp),hf.el,fun j x m a hx ha=>by
   obtain⟨_,u,g2,g3⟩:=hf.rv j x m a hx ha
   exact⟨u,by simpa using g2,g3.mono hev⟩⟩)
 refine⟨q1,q2,.msl _ _ _ _ _ c.w.heap.size 0 ⟨_,List.getElem?_set_self hslt,rfl⟩ (setρ_same _ _ _) (fun x hx=>?_) hn hm (fun _=>by simp)⟩;simp only[List.getElem?_set_self hslt] at hx;cases hx;rfl
theorem abuildM_ok(hT:TabOk P T)(hc:RelH c){t:Nat}{ti ei:TI}(ht:TIok P t ti)(hs:ti.sort=.sl)(he:T ti.elem=some ei){slot:Nat}(hsl:c.h[slot]? = some .free){a:Act}{tm:List AV}(hr:TRel c a.tmps tm)(n:Nat)(ps:Array (Nat×Operand)){q:PD (List (List AV))}
  (hq:aelems ei.size (ps.toList.map fun q=>(q.1,aev tm q.2)) (List.replicate n ei.zero)=some q) (hsm:n*ei.size<=16777216) (hpos:0<ei.size) (hp:q.1) :
  ∃ v ρ' w',(Instr.buildSlice t n (ps.map fun(i,x)=>(i,a.eval x))).run P c.w=.ok v w'/\RelH ⟨ρ',c.h.set slot (.rows ei.size q.2),w',c.X⟩/\Ev c ⟨ρ',c.h.set slot (.rows ei.size q.2),w',c.X⟩/\RV ⟨ρ',c.h.set slot (.rows ei.size q.2),w',c.X⟩ v (.msl slot ei.size 0 n n):=by
 obtain⟨d,hd,hso⟩:=ht.desc;unfold sortOk at hso;rw[hs] at hso;subst hso;obtain⟨ie,z,hi1,hi2,hi3,hi4,hi5,hi6⟩:=(hT _ _ he).info;have hzl:=(hT _ _ he).zl;obtain⟨r,hf,hfl,hlen⟩:=aelems_fill (c:=c) _ (ps.toList.map fun q=>(q.1,a.eval q.2)) (List.replicate n ei.zero) _ q (by simp) (hr.parts ps.toList) (zeros_flat (c:=c) hi5 hzl hi6 n) hq hp
 have hrun:(Instr.buildSlice t n (ps.map fun(i,x)=>(i,a.eval x))).run P c.w=.ok (.slice (some ⟨c.w.heap.size,0,none⟩) n n) (c.w.alloc (.cells r ti.elem)):=by
  have e:(ps.map fun(i,x)=>(i,a.eval x)).toList=ps.toList.map fun q=>(q.1,a.eval q.2):=by simp
  by_cases hn:n=0
  ·subst hn
   have hps:ps.toList.map (fun q=>(q.1,aev tm q.2))=[]:=by
    cases hh:ps.toList.map (fun q=>(q.1,aev tm q.2)) with
    |nil=>rfl
    |cons x rest=>
     exfalso
     rw[hh] at hq;obtain⟨i,y⟩:=x;simp only[aelems] at hq
     split at hq
     ·simp only[Ve] at hq;obtain⟨q',_,rfl⟩:=hq;obtain⟨⟨_,h2⟩,_⟩:=hp;simp at h2
     ·cases hq
   have hps0:ps=#[]:=by
    have:ps.toList=[]:=by simpa using hps
    simpa using this
   subst hps0
   have hr0:r=#[]:=by
    simp only[Ye,Instr.fill,Option.some.injEq] at hf;rw[<- hf];simp
   subst hr0;simp[Instr.buildSlice,run_underlying hd,sizeOf,typeInfo,hi1,Instr.fill,newRow,Array.range_zero']
  ·refine run_buildSlice c.w t ti.elem n _ r ie z hd hi1 hi4 (by rw[hi2];omega) (by rw[hi2];exact Nat.mul_ne_zero hn (by omega)) ?_;rw[e,hi2];exact hf
 have hm:n<=16777216:=Nat.le_trans (Nat.le_mul_of_pos_right n hpos) hsm;obtain⟨h1,h2,h3⟩:=Cx.newRows hc hsl (L:=q.2) (cells:=r) hfl ti.elem (c.w.alloc (.cells r ti.elem)) rfl rfl rfl rfl n n (Nat.le_refl _) (by unfold maxLen;omega);exact⟨_,_,_,hrun,h1,h2,h3⟩
theorem amakeSlice_ok(hT:TabOk P T)(hc:RelH c){t:Nat}{ti ei:TI}(ht:TIok P t ti)(hs:ti.sort=.sl)(he:T ti.elem=some ei){slot:Nat}(hsl:c.h[slot]? = some .free){kl kc:IntKind}{l m:Int}(h0:0<=l)(hlm:l<=m)(hsm:m.toNat*ei.size<=16777216)(hby:m.toNat*ei.bytes<=140737488355328)(hpos:0<ei.size) :
  ∃ v ρ' w',(Instr.makeSlice t (.int kl l) (.int kc m)).run P c.w=.ok v w'/\RelH ⟨ρ',c.h.set slot (.rows ei.size (List.replicate m.toNat ei.zero)),w',c.X⟩/\Ev c ⟨ρ',c.h.set slot (.rows ei.size (List.replicate m.toNat ei.zero)),w',c.X⟩ /\
   RV ⟨ρ',c.h.set slot (.rows ei.size (List.replicate m.toNat ei.zero)),w',c.X⟩ v (.msl slot ei.size 0 l.toNat m.toNat):=by
 obtain⟨d,hd,hso⟩:=ht.desc;unfold sortOk at hso;rw[hs] at hso;subst hso;obtain⟨ie,z,hi1,hi2,hi3,hi4,hi5,hi6⟩:=(hT _ _ he).info;have hzl:=(hT _ _ he).zl;have hm:m.toNat<=16777216:=Nat.le_trans (Nat.le_mul_of_pos_right _ hpos) hsm
 have hrun:=run_makeSlice (P:=P) c.w t ti.elem ie z hd hi1 hi4 kl kc l m h0 hlm (by rw[hi2];exact hsm) (by
  rw[hi3]
  have:(ei.bytes:Int)*m=((m.toNat*ei.bytes:Nat):Int):=by
   rw[Int.natCast_mul,Int.mul_comm];congr 1;omega
  rw[this];omega) (by omega)
 have hfl:=zeros_flat (c:=c) hi5 hzl hi6 m.toNat;rw[hi2] at hrun;obtain⟨h1,h2,h3⟩:=Cx.newRows hc hsl (L:=List.replicate m.toNat ei.zero) (cells:=madeCells z.cells (m.toNat*ei.size)) hfl ti.elem (c.w.alloc (.cells (madeCells z.cells (m.toNat*ei.size)) ti.elem)) rfl rfl rfl rfl l.toNat m.toNat (by omega) (by unfold maxLen;omega);exact⟨_,_,_,hrun,h1,h2,h3⟩
theorem run_copy_at{t u el:Nat}{ie:TypeInfo}(hd:P.underlying t=some (.slice el))(hi:P.info? el=some ie)(ty:TypeId){W w':World}{B:Option Addr}{n cap m:Nat}{vx:Value}{news:List Value}{sl:Nat}(hsl:(Builtin.lenOf vx).run P W=.ok sl W)(hm:Nat.min sl n=m)
  (hn:(Builtin.firstCells ie.size m vx).run P W=.ok news.toArray W) (hst:match B with|none=>w'=W|some a=>(storeCells a news).run P W=.ok () w') :
  (Builtin.copy_ #[t,u] ty #[.slice B n cap,vx]).run P W=.ok (goInt m) w':=by
 subst hm
 cases B with
 |none=>subst hst;simp[Builtin.copy_,run_underlying hd,sizeOf,typeInfo,hi,hsl,hn]
 |some a=>simp[Builtin.copy_,run_underlying hd,sizeOf,typeInfo,hi,hsl,hn,hst]
theorem Addr.add_none(b o n:Nat):(Addr.mk b o none).add n=⟨b,o+n,none⟩:=by
 unfold Addr.add;split
 ·rename_i h;rw[h];rfl
 ·rfl
theorem acopy_core(hT:TabOk P T)(hc:RelH c){t u:Nat}{ti ei:TI}(ht:TIok P t ti)(hs:ti.sort=.sl)(he:T ti.elem=some ei)(hpos:0<ei.size){i o n cap b o':Nat}{L:List (List AV)}{vs:Array Value}{e:TypeId}(hR:RowsAt c i ei.size L b vs e)(hncap:n<=cap)(ho':0<cap->o'=o*ei.size)
  {Y:List (List AV)} {news:List Value} (hf:FlatP AV.cell c ei.size Y news) {vx:Value} {sl:Nat} (hsl:(Builtin.lenOf vx).run P c.w=.ok sl c.w) (hm:Nat.min sl n=Y.length) (hnews:(Builtin.firstCells ei.size Y.length vx).run P c.w=.ok news.toArray c.w) (hoL:o+Y.length<=L.length) (ty:TypeId) :
  ∃ w',(Builtin.copy_ #[t,u] ty #[.slice (some ⟨b,o',none⟩) n cap,vx]).run P c.w=.ok (.int .i64 Y.length) w'/\RelH ⟨c.ρ,c.h.set i (.rows ei.size (L.take o++Y++L.drop (o+Y.length))),w',c.X⟩/\Ev c ⟨c.ρ,c.h.set i (.rows ei.size (L.take o++Y++L.drop (o+Y.length))),w',c.X⟩:=by
 obtain⟨d,hd,hso⟩:=ht.desc;unfold sortOk at hso;rw[hs] at hso;subst hso;obtain⟨ie,z,hi1,hi2,hi3,hi4,hi5,hi6⟩:=(hT _ _ he).info;have hsz:=hR.size hpos;have h1:(o+Y.length)*ei.size<=L.length*ei.size:=Nat.mul_le_mul_right _ hoL;rw[Nat.add_mul] at h1
 by_cases hY:Y=[]
 ·subst hY
  have hn0:news=[]:=by have:=hf.len;simpa using this
  subst hn0;refine⟨c.w,run_copy_at hd hi1 ty hsl hm (news:=[]) (by rw[hi2];exact hnews) (by simp[storeCells]),?_⟩
  have e1:L.take o++[]++L.drop (o+([]:List (List AV)).length)=L:=by simp
  rw[e1]
  have e2:c.h.set i (.rows ei.size L)=c.h:=by
   obtain⟨g1,g2⟩:=Va hR.hi;rw[<- g2,List.set_getElem_self]
  rw[e2];exact⟨hc,Ev.refl c⟩
 ·have hYl:0<Y.length:=List.length_pos_iff.2 hY
  have hcap:0<cap:=by
   have:Nat.min sl n<=n:=Nat.min_le_right _ _;omega
  obtain rfl:=ho' hcap;have hst:=run_storeCells_at P b (o*ei.size) e news 0 vs c.w hR.hh (by rw[hf.len];omega) (hf.oneC hpos);simp only[Yq] at hst;refine⟨_,run_copy_at hd hi1 ty hsl hm (news:=news) (by rw[hi2];exact hnews) hst,?_⟩;exact hR.write hc hpos hf o hoL rfl
theorem acopy_ok(hT:TabOk P T)(hc:RelH c){t u:Nat}{ti:TI}(ht:TIok P t ti){vd vx:Value}{d x:AV}(hd:RV c vd d)(hx:RV c vx x){r:ARes}(hr:acopy T c.h ti d x=some r)(hp:r.p)(ty:TypeId) :
  ∃ q w',(Builtin.copy_ #[t,u] ty #[vd,vx]).run P c.w=.ok q w'/\Comes c r q w':=by
 unfold acopy at hr
 split at hr
 ·rename_i i k o n cp
  split at hr
  ·rename_i k' L ei hi hs he
   cases hd with
   |msl _ _ _ _ _ b o' hkn hb hnt hcap hm ho=>
    obtain⟨vs,e,hR⟩:=RowsAt.of hc hi hb
    split at hr
    ·rename_i k2 l tk;cases hr;obtain⟨rfl,rfl,rfl,hpos,hoL⟩:=hp;obtain⟨A,cap2,xs,rfl,hcap2,hm2,hf,_,hcell⟩:=hx.flat;have hft:=hf.take (min l.length n) (Nat.min_le_left _ _)
     have hlm:(l.take (min l.length n)).length=min l.length n:=by rw[List.length_take];omega
     obtain⟨w',h1,h2,h3⟩:=acopy_core (u:=u) hT hc ht hs he hpos hR hcap ho (Y:=l.take (min l.length n)) (news:=xs.take (min l.length n*ei.size)) ⟨hft.len,hft.el,fun j y i a hy ha=>by obtain⟨g1,g2⟩:=hft.rv j y i a hy ha;exact⟨AV.plain_cell g1,g2⟩⟩
      (vx:=.slice A l.length cap2) (sl:=l.length) (by simp[Builtin.lenOf]) (by rw[hlm]) (by
       rw[hlm]
       by_cases hl:l=[]
       ·subst hl
        have:xs=[]:=by have:=hf.len;simpa using this
        subst this
        cases A with
        |none=>simp[Builtin.firstCells]
        |some a=>simpa using run_firstCells_some c.w ei.size 0 a _ cap2 [] (by simp) (fun j v h=>by simp at h)
       ·obtain⟨bb,oo,rfl,hcc⟩:=hcell hl;refine run_firstCells_some c.w ei.size _ _ _ cap2 _ (by rw[hft.len,hlm]) fun j v hj=>?_;rw[Addr.add_none];rw[List.getElem?_take] at hj
        split at hj
        ·exact(hcc j v hj).2
        ·cases hj) (by rw[hlm];exact hoL) ty
     rw[hlm] at h1 h2 h3;exact⟨_,w',h1,c.ρ,h2,h3,.int _ _⟩
    ·rename_i j k2 o2 n2 cp2
     split at hr
     ·rename_i k3 M hj;cases hr;obtain⟨rfl,rfl,rfl,rfl,hpos,hoL,hoM,hcl⟩:=hp
      cases hx with
      |msl _ _ _ _ _ b2 o2' hkn2 hb2 hnt2 hcap2 hm2 ho2=>
       obtain⟨vs2,e2,hR2⟩:=RowsAt.of hc hj hb2;obtain⟨hf,hcell⟩:=hR2.part hpos o2 (min n2 n) hoM hcl
       have hlm:((M.drop o2).take (min n2 n)).length=min n2 n:=by simp;omega
       obtain⟨w',h1,h2,h3⟩:=acopy_core (u:=u) hT hc ht hs he hpos hR hcap ho hf (vx:=.slice (some ⟨b2,o2',none⟩) n2 cp2) (sl:=n2) (by simp[Builtin.lenOf]) (by rw[hlm]) (by
        rw[hlm]
        by_cases hz:min n2 n=0
        ·rw[hz]
         simpa using run_firstCells_some c.w ei.size 0 ⟨b2,o2',none⟩ n2 cp2 [] (by simp) (fun j v h=>by simp at h)
        ·obtain rfl:=ho2 (by omega);refine run_firstCells_some c.w ei.size _ _ _ cp2 _ (by rw[hf.len,hlm]) fun j v hj=>?_;rw[Addr.add_none]
         exact hcell j v hj) (by rw[hlm];exact hoL) ty
       rw[hlm] at h1 h2 h3;exact⟨_,w',h1,c.ρ,h2,h3,.int _ _⟩
     ·cases hr
    ·cases hr
  ·cases hr
 ·cases hr
theorem zeroCells_flat{ei:TI}{z:Value}(hz:z.cells.size=ei.zero.length)(hzl:ei.zero.length=ei.size)(hzr:∀ (j:Nat) v a,z.cells[j]? = some v->ei.zero[j]? = some a->a.plain=true/\∀ c,RV c v a)(n:Nat) :
  FlatP AV.cell c ei.size (List.replicate n ei.zero) (Builtin.zeroCells z.cells n).toList:=by
 have h:=zeros_flat (c:=c) hz hzl hzr n;have hs:z.cells.size=ei.size:=hz.trans hzl;simp only[Builtin.zeroCells,hs] at h ⊢;exact h
theorem aclear_msl(hT:TabOk P T)(hc:RelH c){t:Nat}{ti:TI}(ht:TIok P t ti){v:Value}{i k o n cp:Nat}(hv:RV c v (.msl i k o n cp)){r:ARes}(hr:aclear T c.h ti (.msl i k o n cp)=some r)(hp:r.p)(ty:TypeId) :
  ∃ q w',(Builtin.clear_ #[t] ty #[v]).run P c.w=.ok q w'/\Comes c r q w':=by
 simp only[aclear] at hr
 ·split at hr
  ·rename_i e k' L hs he hi;cases hr;obtain⟨rfl,rfl,hpos,hoL⟩:=hp;obtain⟨d,hd,hso⟩:=ht.desc;unfold sortOk at hso;rw[hs] at hso;subst hso;obtain⟨ie,z,hi1,hi2,hi3,hi4,hi5,hi6⟩:=(hT _ _ he).info;have hzl:=(hT _ _ he).zl;have hfl:=zeroCells_flat (c:=c) hi5 hzl hi6 n
   cases hv with
   |msl _ _ _ _ _ b o' hkn hb hnt hcap hm ho=>
    obtain⟨vs,te,hR⟩:=RowsAt.of hc hi hb;have hsz:=hR.size hpos;have h1:(o+n)*e.size<=L.length*e.size:=Nat.mul_le_mul_right _ hoL;rw[Nat.add_mul] at h1
    by_cases hn:n=0
    ·subst hn
     have e1:L.take o++List.replicate 0 e.zero++L.drop (o+0)=L:=by simp
     have e2:c.h.set i (.rows e.size L)=c.h:=by
      obtain⟨g1,g2⟩:=Va hR.hi;rw[<- g2,List.set_getElem_self]
     refine⟨.tuple #[],c.w,by simp[Builtin.clear_,run_underlying hd],c.ρ,?_,?_,.junk _⟩
     ·simp only[e1,aupd,e2];exact hc
     ·simp only[e1,aupd,e2];exact Ev.refl c
    ·obtain rfl:=ho (by omega)
     have hlr:(List.replicate n e.zero).length=n:=by simp
     have hst:=run_storeCells_at P b (o*e.size) te (Builtin.zeroCells z.cells n).toList 0 vs c.w hR.hh (by rw[hfl.len,hlr];omega) (hfl.oneC hpos);simp only[Yq] at hst;obtain⟨g1,g2⟩:=hR.write hc hpos hfl o (by rw[hlr];exact hoL) rfl;rw[hlr] at g1 g2;refine⟨.tuple #[],_,?_,c.ρ,g1,g2,.junk _⟩
     ·have hzv:(zeroValue ti.elem).run P c.w=.ok z c.w:=by simp[zeroValue,typeInfo,hi1,hi4]
      simp[Builtin.clear_,Sem.run_bind,run_underlying hd,hzv,hn,hst]
  ·cases hr
theorem aclear_ok(hT:TabOk P T)(hc:RelH c){t:Nat}{ti:TI}(ht:TIok P t ti){v:Value}{x:AV}(hv:RV c v x){r:ARes}(hr:aclear T c.h ti x=some r)(hp:r.p)(ty:TypeId) :
  ∃ q w',(Builtin.clear_ #[t] ty #[v]).run P c.w=.ok q w'/\Comes c r q w':=by
 cases x with
 |msl i k o n cp=>exact aclear_msl hT hc ht hv hr hp ty
 |msu i k n=>
  cases hv with
  |msu _ _ _ cap b hk hb hn hcap hm ho=>exact aclear_msl (o:=0) (cp:=cap) hT hc ht (.msl _ _ _ _ _ b 0 hk hb hn hcap hm fun _=>(Nat.zero_mul _).symm) hr hp ty
 |_=>cases hr
theorem asrcM_ok(hc:RelH c){k:Nat}(hk:0<k){u:Nat}{ui:TI}(hu:TIok P u ui){v:Value}{x:AV}(hv:RV c v x){q:PD (List (List AV))}(hy:asrcM k c.h ui x=some q)(hq:q.1) :
  (∃ d,P.underlying u=some d/\((∃ e,d=.slice e)\/d=.string))/\∃ news,FlatP AV.cell c k q.2 news/\(∀ w,(Builtin.lenOf v).run P w=.ok q.2.length w)/\∀ w:World,w.heap=c.w.heap->(Builtin.firstCells k q.2.length v).run P w=.ok news.toArray w:=by
 unfold asrcM at hy
 split at hy
 ·rename_i j k2 o2 n2 cp2
  split at hy
  ·rename_i k3 M hs hj;cases hy;obtain⟨rfl,rfl,hoM,hcl⟩:=hq;obtain⟨d,hd,hso⟩:=hu.desc;unfold sortOk at hso;rw[hs] at hso;subst hso
   cases hv with
   |msl _ _ _ _ _ b2 o2' hkn2 hb2 hnt2 hcap2 hm2 ho2=>
    obtain⟨vs2,e2,hR2⟩:=RowsAt.of hc hj hb2;obtain⟨hf,hcell⟩:=hR2.part hk o2 n2 hoM hcl
    have hlm:((M.drop o2).take n2).length=n2:=by simp;omega
    refine⟨⟨_,hd,.inl ⟨_,rfl⟩⟩,_,hf,fun w=>by rw[hlm];simp[Builtin.lenOf],fun w hw=>?_⟩;rw[hlm]
    by_cases hz:n2=0
    ·subst hz
     simpa using run_firstCells_some w k3 0 ⟨b2,o2',none⟩ 0 cp2 [] (by simp) (fun j v h=>by simp at h)
    ·obtain rfl:=ho2 (by omega);refine run_firstCells_some w k3 _ _ _ cp2 _ (by rw[hf.len,hlm]) fun j v hj=>?_;rw[Addr.add_none,cB (show w.heap[b2]? = c.w.heap[b2]? by rw[hw])];exact hcell j v hj
  ·cases hy
 ·rw[Ve] at hy;obtain⟨y,hy,rfl⟩:=hy;obtain⟨h1,news,h2,h3,h4⟩:=asrc_ok hu hv hy;exact⟨h1,news,⟨h2.len,h2.el,fun j y i a hy ha=>by obtain⟨g1,g2⟩:=h2.rv j y i a hy ha;exact⟨AV.plain_cell g1,g2⟩⟩,h3,h4⟩
theorem aappendS_ok(hT:TabOk P T)(hc:RelH c){t u:Nat}{ti ui:TI}(ht:TIok P t ti)(hu:TIok P u ui){slot:Nat}{v vx:Value}{s x:AV}(hv:RV c v s)(hx:RV c vx x)
  (hslot:s=.nils->c.h[slot]? = some .free) {r:ARes} (hr:aappendS T slot c.h ti ui s x=some r) (hp:r.p) (ty:TypeId) :
  ∃ q ρ' w',(Builtin.append_ #[t,u] ty #[v,vx]).run P c.w=.ok q w'/\RelH ⟨ρ',aupd c.h r.d,w',c.X⟩/\Ev c ⟨ρ',aupd c.h r.d,w',c.X⟩/\RV ⟨ρ',aupd c.h r.d,w',c.X⟩ q r.v:=by
 obtain⟨d,hd,hso⟩:=ht.desc;unfold sortOk at hso;unfold aappendS at hr
 split at hr
 ·rename_i e hs he;rw[hs] at hso;subst hso;simp only[Option.bind_eq_some_iff] at hr;obtain⟨y,hy,hr⟩:=hr;obtain⟨ie,z,hi1,hi2,hi3,hi4,hi5,_⟩:=(hT _ _ he).info
  have hzs:z.cells.size=ie.size:=by rw[hi5,(hT _ _ he).zl,hi2]
  split at hr
  ·rename_i hpl
   split at hr
   ·cases hr;cases hv;obtain⟨⟨hk,hq⟩,p1,p2⟩:=hp;obtain⟨⟨du,hdu,hn⟩,news,hf0,hlen,hnews⟩:=asrcM_ok hc hk hu hx hy hq;have hf:=flat_plain hf0 hpl;rw[<- hi2] at hf hnews;rw[<- hi3] at p1;have:=append_core (P:=P) hc hd hdu hn hi1 hi4 hzs hf hlen hnews ty none 0 slot [] [] .free (Nat.le_refl _) (by unfold maxLen;omega) Flat.nil (hslot rfl) (fun h=>absurd rfl h) (.inl ⟨rfl,rfl,rfl⟩) (by simpa using p1) (by simpa using p2);simp only[Y9,Yp,Y3,hi2] at this;exact this
   ·rename_i k l i
    split at hr
    ·rename_i k' n hi;cases hr;obtain⟨⟨hk,hq⟩,rfl,rfl,rfl,p1,p2⟩:=hp;obtain⟨⟨du,hdu,hn⟩,news,hf0,hlen,hnews⟩:=asrcM_ok hc hk hu hx hy hq;have hf:=flat_plain hf0 hpl;obtain⟨A,cap,xs,rfl,hcap,hm,hfl,htk,hcell⟩:=hv.flat;obtain⟨_,htk⟩:=htk;obtain⟨_,_,g3⟩:=htk _ _ hi;rw[<- hi3] at p1;rw[<- hi2] at hfl hi g3 hf hnews;have:=append_core (P:=P) hc hd hdu hn hi1 hi4 hzs hf hlen hnews ty A cap i l xs _ hcap hm hfl hi hcell (.inr ⟨rfl,g3 rfl⟩) p1 p2;rw[hi2] at this;exact this
    ·cases hr
   ·cases hr
  ·cases hr
 ·cases hr
theorem aappendM_ok(hT:TabOk P T)(hc:RelH c){t u:Nat}{ti ui:TI}(ht:TIok P t ti)(hu:TIok P u ui){slot:Nat}{v vx:Value}{s x:AV}(hv:RV c v s)(hx:RV c vx x)
  (hslot:s=.nils->c.h[slot]? = some .free) {r:ARes} (hr:aappendM T slot c.h ti ui s x=some r) (hp:r.p) (ty:TypeId) :
  ∃ q ρ' w',(Builtin.append_ #[t,u] ty #[v,vx]).run P c.w=.ok q w'/\RelH ⟨ρ',aupd c.h r.d,w',c.X⟩/\Ev c ⟨ρ',aupd c.h r.d,w',c.X⟩/\RV ⟨ρ',aupd c.h r.d,w',c.X⟩ q r.v:=by
 unfold aappendM at hr
 split at hr
 ·rename_i i k o n cap
  split at hr
  ·rename_i e k' L hs he hi;obtain⟨d,hd,hso⟩:=ht.desc;unfold sortOk at hso;rw[hs] at hso;subst hso;simp only[Option.bind_eq_some_iff] at hr;obtain⟨q,hy,hr⟩:=hr
   split at hr
   ·rename_i hfit;cases hr;obtain⟨rfl,rfl,hpos,hoL,hq⟩:=hp;obtain⟨⟨du,hdu,hn⟩,news,hf,hlen,hnews⟩:=asrcM_ok hc hpos hu hx hy hq;obtain⟨ie,z,hi1,hi2,hi3,hi4,hi5,hi6⟩:=(hT _ _ he).info
    cases hv with
    |msl _ _ _ _ _ b o' hkn hb hnt hcap hm ho=>
     obtain⟨vs,te,hR⟩:=RowsAt.of hc hi hb;have hsz:=hR.size hpos;have h1:(o+n+q.2.length)*e.size<=L.length*e.size:=Nat.mul_le_mul_right _ hoL;rw[Nat.add_mul] at h1
     by_cases hY:q.2=[]
     ·have hn0:news=[]:=by have:=hf.len;rw[hY] at this;simpa using this
      subst hn0;have hrun:=run_append_in (P:=P) (W:=c.w) hd hdu hn hi1 hlen (by rw[hi2];exact hnews) ty (A:=some ⟨b,o',none⟩) (n:=n) (cap:=cap) hfit (w':=c.w) (by simp[storeCells])
      have e1:L.take (o+n)++q.2++L.drop (o+n+q.2.length)=L:=by rw[hY];simp
      have e2:c.h.set i (.rows e.size L)=c.h:=by
       obtain⟨g1,g2⟩:=Va hR.hi;rw[<- g2,List.set_getElem_self]
      simp only[e1,aupd,e2];exact⟨_,c.ρ,c.w,hrun,hc,Ev.refl c,.msl _ _ _ _ _ b o' hkn hb hnt hfit hm ho⟩
     ·have hYl:0<q.2.length:=List.length_pos_iff.2 hY;obtain rfl:=ho (by omega);have hst:=run_storeCells_at P b ((o+n)*e.size) te news 0 vs c.w hR.hh (by rw[hf.len];omega) (hf.oneC hpos);simp only[Yq] at hst
      have ea:(Addr.mk b (o*e.size) none).add (n*ie.size)=⟨b,(o+n)*e.size,none⟩:=by rw[Addr.add_none,hi2,Nat.add_mul]
      have hrun:=run_append_in (P:=P) (W:=c.w) hd hdu hn hi1 hlen (by rw[hi2];exact hnews) ty (A:=some ⟨b,o*e.size,none⟩) (n:=n) (cap:=cap) hfit (w':=_) (by simp only[ea];exact hst);obtain⟨g1,g2⟩:=hR.write hc hpos hf (o+n) hoL rfl
      exact⟨_,c.ρ,_,hrun,g1,g2,.msl _ _ _ _ _ b _ (g2.known hkn) hb (fun y hy=>by
       have hil:i<c.h.length:=(Va hi).1;have hy2:(c.h.set i (.rows e.size (L.take (o+n)++q.2++L.drop (o+n+q.2.length))))[i]? = some y:=hy;rw[List.getElem?_set_self hil] at hy2
       cases hy2;rfl) hfit hm (fun _=>rfl)⟩
   ·cases hr
  ·cases hr
 ·split at hr
  ·exact aappendS_ok hT hc ht hu hv hx hslot hr hp ty
  ·exact aappend_ok hT hc ht hu hv hx hslot hr hp ty
theorem acap_ok{t:Nat}{ti:TI}(ht:TIok P t ti){v:Value}{x:AV}(hv:RV c v x){r:ARes}(hr:acap ti x=some r)(ty:TypeId):r.d=none/\∃ q,(Builtin.cap_ #[t] ty #[v]).run P c.w=.ok q c.w/\RV c q r.v:=by
 obtain⟨d,hd,hso⟩:=ht.desc;unfold sortOk at hso;unfold acap at hr
 split at hr<;>first|cases hr;done|skip
 all_goals (split at hr<;>first|cases hr;done|skip)
 all_goals (rename_i hs;rw[hs] at hso;subst hso;cases hr)
 ·cases hv;exact⟨rfl,_,by simp[Builtin.cap_,Sem.run_bind,run_underlying hd,goInt],.int _ _⟩
 ·cases hv;exact⟨rfl,_,by simp[Builtin.cap_,Sem.run_bind,run_underlying hd,goInt],.int _ _⟩
end
section
variable {P:Program} {T:TabT} {c:Cx}
theorem OpOk.of{s:Sem Next}{r:ARes}{q:Value}{ρ':Nat->Option Nat}{w':World}(hs:s.run P c.w=.ok (.value q) w')(h1:RelH ⟨ρ',aupd c.h r.d,w',c.X⟩)(h2:Ev c ⟨ρ',aupd c.h r.d,w',c.X⟩)(h3:RV ⟨ρ',aupd c.h r.d,w',c.X⟩ q r.v):OpOk P c s r:=
 ⟨_,q,ρ',w',hs,.inl rfl,h1,h2,h3⟩
theorem aop_ok(hT:TabOk P T)(hc:RelH c){a:Act}{t:List AV}(ht:TRel c a.tmps t)(o:Oper){slot:Nat}(hs:needs t o.op=true->c.h[slot]? = some .free){r:ARes}(hr:aop T slot t c.h o.op=some r)(hp:r.p) :
  OpOk P c (execOp a.eval o) r:=by
 obtain⟨dst,op,ty,pos,after,guard⟩:=o;simp only at hs hr
 have hopt:∀ (q:Option Operand) b,q.map (aev t)=some b->∃ u,q.map a.eval=some u/\RV c u b:=by
  intro q b hq;simp only[Ve] at hq;obtain⟨z,rfl,rfl⟩:=hq;exact⟨_,rfl,ht.ev z⟩
 have hnon:∀ (q:Option Operand),q.map (aev t)=none->q.map a.eval=none:=by
  intro q hq;simp only[Option.map_eq_none_iff] at hq;subst hq;rfl
 unfold aop at hr
 split at hr
 ·cases hr;exact .pure hc (by simp[execOp]) (ht.ev _) rfl
 ·cases hr;exact .pure hc (by simp[execOp]) (ht.ev _) rfl
 ·rename_i cc x y;have hcv:=ht.ev cc
  split at hr
  ·rename_i hb;rw[hb] at hcv;cases hr
   have hb':a.eval cc=.bool true:=by revert hcv;generalize a.eval cc=v;intro h;cases h;rfl
   exact .pure hc (by simp[execOp,hb',asBool]) (ht.ev x) rfl
  ·rename_i hb;rw[hb] at hcv;cases hr
   have hb':a.eval cc=.bool false:=by revert hcv;generalize a.eval cc=v;intro h;cases h;rfl
   exact .pure hc (by simp[execOp,hb',asBool]) (ht.ev y) rfl
  ·cases hr
 ·rename_i e x
  split at hr
  ·rename_i hw;cases hr;obtain⟨q1,q2⟩:=(ht.ev x).cells hw;obtain⟨h1,h2,h3⟩:=new_ok hc (hs rfl) (aev t x).cells (a.eval x).cells e q1 q2;exact .of (by simp[execOp,Instr.box,newVar,newRow]) h1 h2 h3
  ·cases hr
 ·rename_i e;simp only[Ve] at hr;obtain⟨ti,hti,rfl⟩:=hr;obtain⟨i,z,g1,g2,g3,g4,g5,g6⟩:=(hT _ _ hti).info;obtain⟨h1,h2,h3⟩:=new_ok hc (hs rfl) ti.zero z.cells e g5 (fun j v x hv hx=>⟨AV.plain_cell (g6 j v x hv hx).1,(g6 j v x hv hx).2 c⟩);exact .of (by simp[execOp,Instr.alloc,zeroValue,typeInfo,g1,g4,newVar,newRow]) h1 h2 h3
 ·simp only[Option.bind_eq_some_iff] at hr;obtain⟨ti,hti,hr⟩:=hr;obtain⟨h1,u,h2,h3⟩:=aload_ok hc (hT _ _ hti) (ht.ev _) hr hp;exact .pure hc (by simp[execOp,h2]) h3 h1
 ·simp only[Option.bind_eq_some_iff] at hr;obtain⟨ti,hti,hr⟩:=hr;obtain⟨ρ',w',h1,h2,h3⟩:=astore_ok hc (hT _ _ hti) (ht.ev _) (ht.ev _) hr hp;refine⟨.skip,undef,ρ',w',by simp[execOp,h1],.inr ⟨rfl,rfl⟩,h2,h3,?_⟩
  have:r.v=.junk:=by
   unfold astore at hr
   split at hr<;>first|(cases hr;done)|skip
   all_goals (split at hr<;>first|(cases hr;done)|(cases hr;rfl))
  rw[this];exact .junk _
 ·simp only[Option.bind_eq_some_iff] at hr;obtain⟨ti,hti,hr⟩:=hr
  split at hr
  ·rename_i hst;obtain⟨h1,u,h2,h3⟩:=afieldAddr_ok (hT _ _ hti) (ht.ev _) hr hst;exact .pure hc (by simp[execOp,h2]) h3 h1
  ·cases hr
 ·simp only[Option.bind_eq_some_iff] at hr;obtain⟨ti,hti,hr⟩:=hr;obtain⟨h1,u,h2,h3⟩:=aindexAddr_ok hT (hT _ _ hti) (ht.ev _) (ht.ev _) hr hp;exact .pure hc (by simp[execOp,h2]) h3 h1
 ·simp only[Option.bind_eq_some_iff] at hr;obtain⟨ti,hti,hr⟩:=hr;obtain⟨h1,u,h2,h3⟩:=afield_ok hT (hT _ _ hti) (ht.ev _) hr hp;exact .pure hc (by simp[execOp,h2]) h3 h1
 ·simp only[Option.bind_eq_some_iff] at hr;obtain⟨ti,hti,hr⟩:=hr;obtain⟨h1,u,h2,h3⟩:=aindex_ok hT (hT _ _ hti) (ht.ev _) (ht.ev _) hr hp;exact .pure hc (by simp[execOp,h2]) h3 h1
 ·rename_i op e x y u;simp only[Option.bind_eq_some_iff] at hr;obtain⟨ti,hti,hr⟩:=hr;obtain⟨h1,u,h2,h3⟩:=abin_ok (hT _ _ hti) (ht.ev x) (ht.ev y) hr hp;refine .pure hc ?_ h3 h1;simp only[Sem.run_bind] at h2;simp only[execOp,Sem.run_bind]
  cases hg:(eqGuard op e x y (a.eval x) (a.eval y)).run P c.w with
  |ok u1 w1=>rw[hg] at h2;simp only[Result.andThen_ok] at h2 ⊢;rw[h2];rfl
  |halt q w1=>rw[hg] at h2;cases h2
 ·rename_i e x;have hcv:=ht.ev x
  split at hr
  ·rename_i b hb;rw[hb] at hcv;cases hr
   have hb':a.eval x=.bool b:=by revert hcv;generalize a.eval x=v;intro h;cases h;rfl
   exact .pure hc (by simp[execOp,Op.unary,hb']) (.bool _) rfl
  ·cases hr
 ·rename_i e x;have hcv:=ht.ev x
  split at hr
  ·rename_i n hb;rw[hb] at hcv;cases hr;have hb':a.eval x=.int .i64 n:=hcv.ints;have hi:IntKind.i64.wrap (-n)=-n:=IntWalk.i64_in _ hp;exact .pure hc (v:=.int .i64 (-n)) (by simp[execOp,Op.unary,hb',Op.intArith,hi]) (.int _ _) rfl
  ·cases hr
 ·rename_i s d x;simp only[Option.bind_eq_some_iff] at hr;obtain⟨si,hsi,di,hdi,hr⟩:=hr;obtain⟨h1,u,w',h2,h3,h4,h5⟩:=aconv_ok hT hc (hT _ _ hsi) (hT _ _ hdi) (ht.ev x) hr hp;exact .of (q:=u) (w':=w') (by simp[execOp,h2]) (by rw[h1];exact h3) (by rw[h1];exact h4) (by rw[h1];exact h5)
 ·rename_i e x lo hi;simp only[Option.bind_eq_some_iff] at hr;obtain⟨ti,hti,hr⟩:=hr;obtain⟨h1,u,h2,h3⟩:=aslice_ok (mx:=none) hT (hT _ _ hti) (ht.ev x) (hopt lo) (hnon lo) (hopt hi) (hnon hi) (fun _=>rfl) hr hp;exact .pure hc (by simp[execOp,h2]) h3 h1
 ·rename_i e x lo hi mx;simp only[Option.bind_eq_some_iff] at hr;obtain⟨ti,hti,hr⟩:=hr;obtain⟨q,w',h1,ρ',h2,h3,h4⟩:=aslice3_ok hT hc (hs rfl) (hT _ _ hti) (ht.ev x) (hopt lo) (hnon lo) (ht.ev hi) (ht.ev mx) hr hp;exact .of (q:=q) (w':=w') (by simp[execOp,h1]) h2 h3 h4
 ·rename_i e;simp only[Option.bind_eq_some_iff] at hr;obtain⟨ti,hti,hr⟩:=hr
  split at hr
  ·cases hr;obtain⟨q,w',h1,ρ',h2,h3,h4⟩:=amakeMap_ok (P:=P) hc (hs rfl) e;exact .of (q:=q) (w':=w') (by simp[execOp,h1]) h2 h3 h4
  ·cases hr
 ·rename_i e m k;simp only[Option.bind_eq_some_iff] at hr;obtain⟨ti,hti,hr⟩:=hr;obtain⟨q,w',h1,ρ',h2,h3,h4⟩:=amapEntry_ok hT hc (hT _ _ hti) (ht.ev m) (ht.ev k) hr;exact .of (q:=q) (w':=w') (by simp[execOp,h1]) h2 h3 h4
 ·rename_i e m k v;simp only[Option.bind_eq_some_iff] at hr;obtain⟨ti,hti,hr⟩:=hr;obtain⟨w',h1,ρ',h2,h3,h4⟩:=amapUpdate_ok hT hc (hT _ _ hti) (ht.ev m) (ht.ev k) (ht.ev v) hr;exact⟨.skip,undef,ρ',w',by simp[execOp,h1],.inr ⟨rfl,rfl⟩,h2,h3,h4⟩
 ·rename_i e m k v;simp only[Option.bind_eq_some_iff] at hr;obtain⟨ti,hti,hr⟩:=hr;obtain⟨w',h1,ρ',h2,h3,h4⟩:=amapUpdate_ok hT hc (hT _ _ hti) (ht.ev m) (ht.ev k) (ht.ev v) hr;exact⟨.skip,undef,ρ',w',by simp[execOp,h1],.inr ⟨rfl,rfl⟩,h2,h3,h4⟩
 ·rename_i e m s v;obtain⟨w',h1,ρ',h2,h3,h4⟩:=aentryStore_ok (P:=P) (t:=e) hc (ht.ev m) (ht.ev s) (ht.ev v) hr hp;exact⟨.skip,undef,ρ',w',by simp[execOp,h1],.inr ⟨rfl,rfl⟩,h2,h3,h4⟩
 ·rename_i e m k ok;simp only[Option.bind_eq_some_iff] at hr;obtain⟨ti,hti,hr⟩:=hr;obtain⟨h1,q,h2,h3⟩:=alookup_ok hT hc (hT _ _ hti) (ht.ev m) (ht.ev k) hr;exact .pure hc (by simp[execOp,h2]) h3 h1
 ·rename_i e m;simp only[Option.bind_eq_some_iff] at hr;obtain⟨ti,hti,hr⟩:=hr;obtain⟨q,w',h1,ρ',h2,h3,h4⟩:=arange_ok (P:=P) hc (hs rfl) (hT _ _ hti) (ht.ev m) hr;exact .of (q:=q) (w':=w') (by simp[execOp,h1]) h2 h3 h4
 ·rename_i x i;have hcv:=ht.ev x
  split at hr
  ·rename_i vs hb;rw[hb] at hcv;simp only[Ve] at hr;obtain⟨y,hy,rfl⟩:=hr;generalize hev:a.eval x=v at hcv
   cases hcv with
   |tup us _ hsz hrv=>
    have hi:i<us.size:=by rw[hsz];exact(Va hy).1
    exact .pure hc (v:=us[i]) (by simp[execOp,Instr.extract,hev,hi]) (hrv i _ y (Vc hi) hy) rfl
  ·cases hr
 ·rename_i x;have hcv:=ht.ev x
  split at hr
  ·rename_i i o hb;rw[hb] at hcv;cases hr;generalize hev:a.eval x=v at hcv;have hk:=hcv;cases hcv;exact .pure hc (by simp[execOp,hev]) hk rfl
  ·rename_i i k j o hb;rw[hb] at hcv;cases hr;generalize hev:a.eval x=v at hcv;have hk:=hcv;cases hcv;exact .pure hc (by simp[execOp,hev]) hk rfl
  ·rename_i cs hb;rw[hb] at hcv;cases hr;generalize hev:a.eval x=v at hcv;have hk:=hcv;cases hcv;exact .pure hc (by simp[execOp,hev]) hk rfl
  ·cases hr
 ·rename_i f xs ys;cases hr
  have hmap:∀ (q:Array Operand) (i:Nat) v x,(q.map a.eval)[i]? = some v->(q.toList.map (aev t))[i]? = some x->RV c v x:=by
   intro q i v x hv hx;rw[Array.getElem?_map] at hv;rw[Vg] at hx;simp only[Ve] at hv hx;obtain⟨z,hz,rfl⟩:=hv;obtain⟨z',hz',rfl⟩:=hx;rw[Array.getElem?_toList,hz] at hz';cases hz';exact ht.ev z
  exact .pure hc (v:=.func (.func f) (xs.map a.eval) (ys.map a.eval)) (by simp[execOp,Instr.makeFunc]) (.fn _ _ _ _ _ (by simp) (by simp) (hmap xs) (hmap ys)) rfl
 ·rename_i e x;simp only[Option.bind_eq_some_iff] at hr;obtain⟨ti,hti,hr⟩:=hr;obtain⟨d,hd,hso⟩:=(hT _ _ hti).desc;unfold sortOk at hso
  have key:(∀ ms,d≠.interface ms)->OpOk P c (execOp a.eval { dst:=dst,op:=.makeInterface e x,type:=ty,pos:=pos,after:=after,guard:=guard }) ⟨True,.iface e (aev t x),none⟩:=fun hni=>by
   refine .pure hc (v:=.iface e (a.eval x)) ?_ (.iface _ _ _ (ht.ev x)) rfl
   cases d<;>first|(exact absurd rfl (hni _))|simp[execOp,Instr.makeInterface,Sem.run_bind,run_underlying hd]
  split at hr
  ·cases hr
  ·cases hr
  ·rename_i h1 h2;cases hr;refine key fun ms hms=>?_;subst hms
   split at hso<;>first|(cases hso;done)|(obtain⟨_,h,_⟩:=hso;cases h;done)|(obtain⟨_,_,h⟩:=hso;cases h;done)|(obtain⟨_,_,_,h⟩:=hso;cases h;done)|skip
   ·rename_i hq;exact h1 hq
 ·rename_i e ps;simp only[Option.bind_eq_some_iff] at hr;obtain⟨ti,hti,hr⟩:=hr
  split at hr
  ·rename_i hst;simp only[Ve] at hr;obtain⟨q,hq,rfl⟩:=hr;obtain⟨v,h1,h2⟩:=abuild_ok hT (hT _ _ hti) hst ht ps hq hp;exact .pure hc (by simp[execOp,h1]) h2 rfl
  ·cases hr
 ·rename_i args argTypes
  split at hr
  ·rename_i x e hx he;obtain⟨args⟩:=args;obtain⟨argTypes⟩:=argTypes;simp only at hx he;subst hx he;simp only[Option.bind_eq_some_iff] at hr;obtain⟨ti,hti,hr⟩:=hr;obtain⟨h1,q,h2,h3⟩:=alen_ok (hT _ _ hti) (ht.ev x) hr ty;exact .pure hc (by simp[execOp,resolve,invoke,builtin,h2]) h3 h1
  ·cases hr
 ·rename_i e n ps;simp only[Option.bind_eq_some_iff] at hr;obtain⟨ti,hti,hr⟩:=hr
  split at hr
  ·rename_i ei hst hei
   split at hr
   ·rename_i hmut;simp only[Ve] at hr;obtain⟨q,hq,rfl⟩:=hr;obtain⟨p1,p2,p3⟩:=hp;obtain⟨v,ρ',w',h1,h2,h3,h4⟩:=abuildM_ok hT hc (hT _ _ hti) hst hei (hs rfl) ht n ps hq p1 p2 p3;exact .of (q:=v) (w':=w') (by simp[execOp,h1]) h2 h3 h4
   ·simp only[Ve] at hr;obtain⟨q,hq,rfl⟩:=hr;obtain⟨p1,p2,p3⟩:=hp;obtain⟨v,ρ',w',h1,h2,h3,h4⟩:=abuildSlice_ok hT hc (hT _ _ hti) hst hei (hs rfl) ht n ps hq p1 p2 p3;exact .of (q:=v) (w':=w') (by simp[execOp,h1]) h2 h3 h4
  ·cases hr
 ·rename_i args argTypes
  split at hr
  ·rename_i sx x e f hx he;obtain⟨args⟩:=args;obtain⟨argTypes⟩:=argTypes;simp only at hx he;subst hx he;simp only[Option.bind_eq_some_iff] at hr;obtain⟨ti,hti,ui,hui,hr⟩:=hr;obtain⟨q,ρ',w',h1,h2,h3,h4⟩:=aappendM_ok hT hc (hT _ _ hti) (hT _ _ hui) (ht.ev sx) (ht.ev x) (fun e=>hs (by simp[needs,e])) hr hp ty;exact .of (q:=q) (w':=w') (by simp[execOp,resolve,invoke,builtin,h1]) h2 h3 h4
  ·cases hr
 ·rename_i args argTypes
  split at hr
  ·rename_i m n hx;cases hr;obtain⟨args⟩:=args
   match args,hx with
   |[],hx=>simp at hx
   |[_],hx=>simp at hx
   |_::_::_::_,hx=>simp at hx
   |[x,y],hx=>
    simp only[Yf,Ye,List.cons.injEq,Yu] at hx;have h1:=ht.ev x;have h2:=ht.ev y;rw[hx.1] at h1;rw[hx.2] at h2;refine .pure hc (v:=.int .i64 (min m n)) ?_ (.int _ _) rfl
    have e1:(if n<m then n else m)=min m n:=by rw[Int.min_def];split<;>split<;>omega
    simp[execOp,resolve,invoke,builtin,h1.ints,h2.ints,Builtin.min_,Builtin.min2,e1]
  ·cases hr
 ·rename_i args argTypes
  split at hr
  ·rename_i m n hx;cases hr;obtain⟨args⟩:=args
   match args,hx with
   |[],hx=>simp at hx
   |[_],hx=>simp at hx
   |_::_::_::_,hx=>simp at hx
   |[x,y],hx=>
    simp only[Yf,Ye,List.cons.injEq,Yu] at hx;have h1:=ht.ev x;have h2:=ht.ev y;rw[hx.1] at h1;rw[hx.2] at h2;refine .pure hc (v:=.int .i64 (max m n)) ?_ (.int _ _) rfl
    have e1:(if n > m then n else m)=max m n:=by rw[Int.max_def];split<;>split<;>omega
    simp[execOp,resolve,invoke,builtin,h1.ints,h2.ints,Builtin.max_,Builtin.max2,e1]
  ·rename_i m n p hx;cases hr;obtain⟨args⟩:=args
   match args,hx with
   |[],hx=>simp at hx
   |[_],hx=>simp at hx
   |[_,_],hx=>simp at hx
   |_::_::_::_::_,hx=>simp at hx
   |[x,y,z],hx=>
    simp only[Yf,Ye,List.cons.injEq,Yu] at hx;have h1:=ht.ev x;have h2:=ht.ev y;have h3:=ht.ev z;rw[hx.1] at h1;rw[hx.2.1] at h2;rw[hx.2.2] at h3;refine .pure hc (v:=.int .i64 (max (max m n) p)) ?_ (.int _ _) rfl
    have e1:(if n > m then n else m)=max m n:=by rw[Int.max_def];split<;>split<;>omega
    have e2:(if p > max m n then p else max m n)=max (max m n) p:=by rw[Int.max_def (max m n)];split<;>split<;>omega
    simp[execOp,resolve,invoke,builtin,h1.ints,h2.ints,h3.ints,Builtin.max_,Builtin.max2,e1,e2]
  ·cases hr
 ·rename_i e l m;simp only[Option.bind_eq_some_iff] at hr;obtain⟨ti,hti,hr⟩:=hr
  split at hr
  ·rename_i ei ka x kb y hst hei hl hm;cases hr;obtain⟨p1,p2,p3,p4,p5⟩:=hp;have e1:=ht.ev l;have e2:=ht.ev m;rw[hl] at e1;rw[hm] at e2;obtain⟨v,ρ',w',h1,h2,h3,h4⟩:=amakeSlice_ok (kl:=ka) (kc:=kb) hT hc (hT _ _ hti) hst hei (hs rfl) p1 p2 p3 p4 p5;exact .of (q:=v) (w':=w') (by simp[execOp,e1.ints,e2.ints,h1]) h2 h3 h4
  ·cases hr
 ·rename_i args argTypes
  split at hr
  ·rename_i x e hx he;obtain⟨args⟩:=args;obtain⟨argTypes⟩:=argTypes;simp only at hx he;subst hx he;simp only[Option.bind_eq_some_iff] at hr;obtain⟨ti,hti,hr⟩:=hr;obtain⟨h1,q,h2,h3⟩:=acap_ok (hT _ _ hti) (ht.ev x) hr ty;exact .pure hc (by simp[execOp,resolve,invoke,builtin,h2]) h3 h1
  ·cases hr
 ·rename_i args argTypes
  split at hr
  ·rename_i x e hx he;obtain⟨args⟩:=args;obtain⟨argTypes⟩:=argTypes;simp only at hx he;subst hx he;simp only[Option.bind_eq_some_iff] at hr;obtain⟨ti,hti,hr⟩:=hr;obtain⟨q,w',h1,ρ',h2,h3,h4⟩:=aclear_ok hT hc (hT _ _ hti) (ht.ev x) hr hp ty;exact .of (q:=q) (w':=w') (by simp[execOp,resolve,invoke,builtin,h1]) h2 h3 h4
  ·cases hr
 ·rename_i args argTypes
  split at hr
  ·rename_i d x e f hx he;obtain⟨args⟩:=args;obtain⟨argTypes⟩:=argTypes;simp only at hx he;subst hx he;simp only[Option.bind_eq_some_iff] at hr;obtain⟨ti,hti,hr⟩:=hr;obtain⟨q,w',h1,ρ',h2,h3,h4⟩:=acopy_ok (u:=f) hT hc (hT _ _ hti) (ht.ev d) (ht.ev x) hr hp ty;exact .of (q:=q) (w':=w') (by simp[execOp,resolve,invoke,builtin,h1]) h2 h3 h4
  ·cases hr
 ·cases hr
end
def Goes(P:Program)(f:FuncId)(R:Value->World->Prop)(k:List Item)(a:Act)(w:World):Prop:=
 ∀ (b:Frame) (cs:List Frame),b.fn=f->b.kind=.normal->∃ v w' fr,R v w'/\Steps P (lone (b.at a k) cs w) (lone fr cs w')/\fr.fn=f/\fr.leaving P w' (.returned v)
section
variable {P:Program} {f:FuncId} {R:Value->World->Prop} {k k':List Item} {a a':Act} {w w':World}
theorem Goes.step(h:Goes P f R k' a' w')(hs:∀ (b:Frame) (cs:List Frame),b.fn=f->step P (lone (b.at a k) cs w)=.next (lone (b.at a' k') cs w')):Goes P f R k a w:=fun b cs hb hk=>by
 obtain⟨v,w1,fr,h1,h2,h3⟩:=h b cs hb hk;exact⟨v,w1,fr,h1,.head (hs b cs hb) h2,h3⟩
theorem Goes.of_wp{c:Code}(h:c.wp P (fun e a' w'=>e=.normal/\Goes P f R k a' w') a w):Goes P f R (.code c::k) a w:=fun b cs hb hk=>by
 obtain⟨e,a',w',⟨rfl,hg⟩,harr⟩:=h b k cs;obtain⟨v,w1,fr,h1,h2,h3⟩:=hg b cs hb hk;exact⟨v,w1,fr,h1,Steps.trans harr h2,h3⟩
end
def ARun(P:Program)(f:FuncId)(c0:Cx)(R:AV->List ABlk->Prop)(k:List Item)(s:AState):Prop:=
 ∀ ρ w a,RelH ⟨ρ,s.h,w,c0.X⟩->Ev c0 ⟨ρ,s.h,w,c0.X⟩->TRel ⟨ρ,s.h,w,c0.X⟩ a.tmps s.t->a.defers=[] ->
  Goes P f (fun v w'=>∃ ρ' r h',RelH ⟨ρ',h',w',c0.X⟩/\Ev c0 ⟨ρ',h',w',c0.X⟩/\RV ⟨ρ',h',w',c0.X⟩ v r/\R r h') k a w
def ACall(P:Program)(f:FuncId)(args:List AV)(h:List ABlk)(R:AV->List ABlk->Prop):Prop:=
 ∀ (c:Cx) (vs:Array Value),c.h=h->RelH c->TRel c vs args ->
  Calls P f vs c.w fun e w'=>∃ v ρ' r h',e=.returned v/\RelH ⟨ρ',h',w',c.X⟩/\Ev c ⟨ρ',h',w',c.X⟩/\RV ⟨ρ',h',w',c.X⟩ v r/\R r h'
theorem ACall.mono{P:Program}{f:FuncId}{args:List AV}{h:List ABlk}{R R':AV->List ABlk->Prop}(H:ACall P f args h R)(hR:∀ r h',R r h'->R' r h'):ACall P f args h R':=fun c vs hc hr ht=>
 (H c vs hc hr ht).mono fun _ _ ⟨v,ρ',r,h',h1,h2,h3,h4,h5⟩=>⟨v,ρ',r,h',h1,h2,h3,h4,hR _ _ h5⟩
section
variable {P:Program} {T:TabT} {f:FuncId} {c0:Cx} {R:AV->List ABlk->Prop} {k k':List Item} {s:AState}
theorem ARun.seq{x y:Code}(h:ARun P f c0 R (.code x::.code y::k) s):ARun P f c0 R (.code (.seq x y)::k) s:=fun ρ w a h1 h2 h3 h4=>(h ρ w a h1 h2 h3 h4).step fun _ _ _=>step_seq
theorem ARun.skip(h:ARun P f c0 R k s):ARun P f c0 R (.code .skip::k) s:=fun ρ w a h1 h2 h3 h4=>(h ρ w a h1 h2 h3 h4).step fun _ _ _=>step_skip
theorem ARun.label{l:Nat}(h:ARun P f c0 R k s):ARun P f c0 R (.code (.label l)::k) s:=fun ρ w a h1 h2 h3 h4=>(h ρ w a h1 h2 h3 h4).step fun _ _ _=>step_label
theorem ARun.inBlock{id:Nat}(h:ARun P f c0 R k s):ARun P f c0 R (.inBlock id::k) s:=fun ρ w a h1 h2 h3 h4=>(h ρ w a h1 h2 h3 h4).step fun _ _ _=>step_inBlock
theorem ARun.block{id:Nat}{c:Code}(h:ARun P f c0 R (.code c::.inBlock id::k) s):ARun P f c0 R (.code (.block id c)::k) s:=fun ρ w a h1 h2 h3 h4=>(h ρ w a h1 h2 h3 h4).step fun _ _ _=>step_block
theorem ARun.scope{c:Code}(h:ARun P f c0 R (.code c::.inScope c::k) s):ARun P f c0 R (.code (.scope c)::k) s:=fun ρ w a h1 h2 h3 h4=>(h ρ w a h1 h2 h3 h4).step fun _ _ _=>step_scope
theorem ARun.inScope{c:Code}(h:ARun P f c0 R k s):ARun P f c0 R (.inScope c::k) s:=fun ρ w a h1 h2 h3 h4=>(h ρ w a h1 h2 h3 h4).step fun _ _ _=>step_inScope
theorem ARun.exit{id:Nat}(he:exitTo id k=some k')(h:ARun P f c0 R k' s):ARun P f c0 R (.code (.exit id)::k) s:=fun ρ w a h1 h2 h3 h4=>(h ρ w a h1 h2 h3 h4).step fun _ _ _=>step_exit he
theorem ARun.goto{l:Nat}(he:gotoIn l k=some k')(h:ARun P f c0 R k' s):ARun P f c0 R (.code (.goto l)::k) s:=fun ρ w a h1 h2 h3 h4=>(h ρ w a h1 h2 h3 h4).step fun _ _ _=>step_goto he
theorem ARun.loop1{c:Code}(h:ARun P f c0 R (.code c::.inLoop c::k) s):ARun P f c0 R (.code (.loop c)::k) s:=fun ρ w a h1 h2 h3 h4=>(h ρ w a h1 h2 h3 h4).step fun _ _ _=>step_loop
theorem ARun.inLoop{c:Code}(h:ARun P f c0 R (.code c::.inLoop c::k) s):ARun P f c0 R (.inLoop c::k) s:=fun ρ w a h1 h2 h3 h4=>(h ρ w a h1 h2 h3 h4).step fun _ _ _=>step_inLoop
theorem ARun.cond{x y:Code}{c:Operand}{b:Bool}(hc:aev s.t c=.bool b)(ht:b=true->ARun P f c0 R (.code x::k) s)(hf:b=false->ARun P f c0 R (.code y::k) s):ARun P f c0 R (.code (.cond c x y)::k) s:=fun ρ w a h1 h2 h3 h4=>by
 have hv:=h3.ev c;rw[hc] at hv
 have hev:a.eval c=.bool b:=by revert hv;generalize a.eval c=v;intro h;cases h;rfl
 cases b with
 |true=>exact(ht rfl ρ w a h1 h2 h3 h4).step fun _ _ _=>step_cond hev
 |false=>exact(hf rfl ρ w a h1 h2 h3 h4).step fun _ _ _=>step_cond hev
def resF(tmps:Array Value):ResultVar->Sem Value
 |.tmp t=>pure (tmps.getD t undef)
 |.cell b t=>do loadVar t (<- asAddr (tmps.getD b undef))
theorem results_resF(fn:Func)(tmps:Array Value):results fn tmps=(do let vs <- fn.results.mapM (resF tmps);pure (if h:vs.size=1 then vs[0] else .tuple vs)):=by
 unfold results
 congr 2
def ares1(T:TabT)(s:AState):ResultVar->Option AV
 |.tmp t=>some (s.t.getD t .junk)
 |.cell a t=>(T t).bind fun ti=>match aload s.h ti (s.t.getD a .junk) with
  |some r=>some r.v
  |none=>none
def aresL(T:TabT)(s:AState):List ResultVar->Option (List AV)
 |[]=>some []
 |x::xs=>(ares1 T s x).bind fun v=>(aresL T s xs).map fun vs=>v::vs
def aresOk1(T:TabT)(s:AState):ResultVar->Prop
 |.tmp _=>True
 |.cell a t=>match T t with
  |some ti=>match aload s.h ti (s.t.getD a .junk) with
   |some r=>r.p
   |none=>True
  |none=>True
def aresOk(T:TabT)(s:AState):List ResultVar->Prop
 |[]=>True
 |x::xs=>aresOk1 T s x/\aresOk T s xs
def ares(T:TabT)(s:AState)(rs:List ResultVar):Option AV:=(aresL T s rs).map fun vs=>match vs with|[v]=>v|vs=>.tup vs
theorem ares1_ok(hT:TabOk P T){ρ:Nat->Option Nat}{w:World}{a:Act}(h1:RelH ⟨ρ,s.h,w,c0.X⟩)(h3:TRel ⟨ρ,s.h,w,c0.X⟩ a.tmps s.t){x:ResultVar}{r:AV}(hr:ares1 T s x=some r)(hp:aresOk1 T s x) :
  ∃ v,(resF a.tmps x).run P w=.ok v w/\RV ⟨ρ,s.h,w,c0.X⟩ v r:=by
 cases x with
 |tmp t=>
  simp only[ares1,Option.some.injEq] at hr;subst hr;exact⟨_,rfl,h3.ev (.tmp t)⟩
 |cell b t=>
  simp only[ares1,Option.bind_eq_some_iff] at hr;obtain⟨ti,hti,hr⟩:=hr
  split at hr
  ·rename_i q hq;cases hr
   have hpq:q.p:=by
    simp only[aresOk1,hti,hq] at hp;exact hp
   obtain⟨_,u,g1,g2⟩:=aload_ok (P:=P) h1 (hT _ _ hti) (h3.ev (.tmp b)) hq hpq;refine⟨u,?_,g2⟩;simp only[Act.eval] at g1
   obtain⟨v,hv⟩:∃ v,v=a.tmps.getD b undef:=⟨_,rfl⟩
   simp only[resF,<- hv] at g1 ⊢
   cases v with
   |pointer p=>
    cases p with
    |none=>simp[Instr.loadAt,Instr.sureAddr,stuck,Sem.run] at g1
    |some ad=>simpa [Instr.loadAt,Instr.sureAddr,asAddr] using g1
   |_=>simp[Instr.loadAt,Instr.sureAddr,stuck,Sem.run] at g1
  ·cases hr
theorem aresL_ok(hT:TabOk P T){ρ:Nat->Option Nat}{w:World}{a:Act}(h1:RelH ⟨ρ,s.h,w,c0.X⟩)(h3:TRel ⟨ρ,s.h,w,c0.X⟩ a.tmps s.t):∀ {xs:List ResultVar} {r:List AV},aresL T s xs=some r->aresOk T s xs ->
  ∃ vs:List Value,(xs.mapM (resF a.tmps)).run P w=.ok vs w/\vs.length=r.length/\∀ (i:Nat) v x,vs[i]? = some v->r[i]? = some x->RV ⟨ρ,s.h,w,c0.X⟩ v x
 |[],r,hr,_=>by
  simp only[aresL,Option.some.injEq] at hr;subst hr;exact⟨[],by simp,rfl,fun i v x h=>by simp at h⟩
 |x::xs,r,hr,hp=>by
  simp only[aresL,Option.bind_eq_some_iff,Ve] at hr;obtain⟨v,hv,vs,hvs,rfl⟩:=hr;obtain⟨u,g1,g2⟩:=ares1_ok hT h1 h3 hv hp.1;obtain⟨us,q1,q2,q3⟩:=aresL_ok hT h1 h3 hvs hp.2;refine⟨u::us,?_,by simp[q2],fun i v' x' hv' hx'=>?_⟩
  ·simp only[List.mapM_cons,Sem.run_bind,g1,Result.andThen_ok,q1,Sem.run_pure]
  ·cases i with
   |zero=>simp at hv' hx';subst hv' hx';exact g2
   |succ i=>exact q3 i v' x' (by simpa using hv') (by simpa using hx')
theorem ares_ok(hT:TabOk P T){ρ:Nat->Option Nat}{w:World}{a:Act}(h1:RelH ⟨ρ,s.h,w,c0.X⟩)(h3:TRel ⟨ρ,s.h,w,c0.X⟩ a.tmps s.t){fn:Func}{r:AV}(hr:ares T s fn.results.toList=some r)(hp:aresOk T s fn.results.toList) :
  ∃ v,(results fn a.tmps).run P w=.ok v w/\RV ⟨ρ,s.h,w,c0.X⟩ v r:=by
 simp only[ares,Ve] at hr;obtain⟨rs,hrs,rfl⟩:=hr;obtain⟨vs,g1,g2,g3⟩:=aresL_ok hT h1 h3 hrs hp
 have hm:(results fn a.tmps).run P w=.ok (if h:vs.toArray.size=1 then vs.toArray[0] else .tuple vs.toArray) w:=by
  rw[results_resF,Array.mapM_eq_mapM_toList];simp only[Sem.run_bind,Sem.run_map,g1,Result.andThen_ok,Sem.run_pure]
 refine⟨_,hm,?_⟩;clear hm g1 hrs
 match vs,rs,g2,g3 with
 |[v],[x],_,g3=>exact g3 0 v x rfl rfl
 |[],[],_,_=>exact .tup _ _ rfl (fun i v x h=>by simp at h)
 |u::u2::us,x::x2::xs,g2,g3=>
  rw[dif_neg (by simp)];exact .tup _ _ (by simpa using g2) (fun i v x hv hx=>g3 i v x (by simpa using hv) hx)
theorem ARun.ret(hT:TabOk P T){fn:Func}(hf:P.funcs[f]? = some fn){r:AV}(hr:ares T s fn.results.toList=some r)(hp:aresOk T s fn.results.toList)(h:R r s.h):ARun P f c0 R (.code .ret::k) s:=fun ρ w a h1 h2 h3 h4 b cs hb hk=>by
 obtain⟨v,g1,g2⟩:=ares_ok hT h1 h3 hr hp;exact⟨v,w,_,⟨ρ,r,s.h,h1,h2,g2,h⟩,.one step_ret,hb,rfl,h4,hk,fn,by rw[<- hb] at hf;exact hf,g1⟩
theorem ARun.fin(hT:TabOk P T){fn:Func}(hf:P.funcs[f]? = some fn){r:AV}(hr:ares T s fn.results.toList=some r)(hp:aresOk T s fn.results.toList)(h:R r s.h):ARun P f c0 R [] s:=fun ρ w a h1 h2 h3 h4 b cs hb hk=>by
 obtain⟨v,g1,g2⟩:=ares_ok hT h1 h3 hr hp;exact⟨v,w,_,⟨ρ,r,s.h,h1,h2,g2,h⟩,.one step_end,hb,rfl,h4,hk,fn,by rw[<- hb] at hf;exact hf,g1⟩
theorem ACall.body{fn:Func}{c:Code}{args:List AV}{h:List ABlk}(hf:P.funcs[f]? = some fn)(hb:fn.body=some c)
  (H:∀ c0:Cx,c0.h=h->ARun P f c0 R [.code c] ⟨args++List.replicate (fn.ntmps-args.length) .junk,h⟩):ACall P f args h R:=by
 intro c0 vs hc hr ht cs;subst hc
 let b:Frame:={ (default:Frame) with fn:=f,kind:=.normal }
 have henter:Frame.enter P f vs .normal=b.at { tmps:=vs++Array.replicate (fn.ntmps-vs.size) undef,defers:=[] } [.code c]:=by
  simp[Frame.enter,Frame.at,hf,hb,b]
 have htr:TRel c0 (vs++Array.replicate (fn.ntmps-vs.size) undef) (args++List.replicate (fn.ntmps-args.length) .junk):=by
  refine⟨by simp[ht.1],fun i v x hv hx=>?_⟩
  by_cases hi:i<args.length
  ·rw[List.getElem?_append_left hi] at hx;rw[Array.getElem?_append_left (by rw[ht.1];exact hi)] at hv;exact ht.2 i v x hv hx
  ·rw[List.getElem?_append_right (by omega),List.getElem?_replicate] at hx
   split at hx
   ·cases hx;exact .junk _
   ·cases hx
 obtain⟨v,w',fr,⟨ρ',r,h',g1,g2,g3,g4⟩,hs,hfn,hl⟩:=H c0 rfl c0.ρ c0.w ⟨vs++Array.replicate (fn.ntmps-vs.size) undef,[]⟩ hr (Ev.refl c0) htr rfl b cs rfl rfl;rw[<- henter] at hs;exact⟨.returned v,w',fr,⟨v,ρ',r,h',rfl,g1,g2,g3,g4⟩,hs,hfn,hl⟩
end
section
variable {P:Program} {T:TabT} {f:FuncId} {c0:Cx} {R:AV->List ABlk->Prop} {k k':List Item} {s:AState}
def AOps(P:Program)(f:FuncId)(c0:Cx)(R:AV->List ABlk->Prop)(ops:Array Oper)(n:Nat)(rest:List Oper)(k:List Item)(s:AState):Prop:=
 ops.toList.drop n=rest->ARun P f c0 R (.inRegion ops (List.range' n rest.length)::k) s
theorem ARun.region{id:Nat}{ops:Array Oper}(h:AOps P f c0 R ops 0 ops.toList k s):ARun P f c0 R (.code (.region id ops false)::k) s:=fun ρ w a h1 h2 h3 h4=>by
 have:=h rfl ρ w a h1 h2 h3 h4;rw[<- List.range_eq_range',Array.length_toList] at this;exact this.step fun _ _ _=>step_region
theorem AOps.nil{ops:Array Oper}{n:Nat}(h:ARun P f c0 R k s):AOps P f c0 R ops n [] k s:=fun _ ρ w a h1 h2 h3 h4=>(h ρ w a h1 h2 h3 h4).step fun _ _ _=>step_region_end
def gval(ops:Array Oper)(t:List AV)(j:Nat):Option AV:=((ops[j]?).bind (·.dst)).bind fun d=>t[d]?
inductive Wanted(ops:Array Oper)(t:List AV):Option (Nat×Bool)->Bool->Prop where
 |free:Wanted ops t none true
 |test (j:Nat) (want g:Bool) (h:gval ops t j=some (.bool g)):Wanted ops t (some (j,want)) (g==want)
 |undef (j:Nat) (want:Bool) (h:gval ops t j=some (.tup [])):Wanted ops t (some (j,want)) false
theorem Wanted.ok{ops:Array Oper}{t:List AV}{o:Oper}{b:Bool}(hw:Wanted ops t o.guard b){c:Cx}{vs:Array Value}(ht:TRel c vs t):Region.wanted o (yielded ops vs)=b:=by
 have key:∀ (j:Nat) (x:AV),gval ops t j=some x->∃ v,((ops[j]?).bind (·.dst)).bind (vs[·]?)=some v/\RV c v x:=by
  intro j x h;unfold gval at h;simp only[Option.bind_eq_some_iff] at h;obtain⟨d,⟨o',ho,hd⟩,hx⟩:=h
  have hdl:d<vs.size:=by rw[ht.1];exact(Va hx).1
  exact⟨vs[d],by simp[ho,hd,hdl],ht.2 d _ x (Vc hdl) hx⟩
 unfold Region.wanted;generalize o.guard=g at hw
 cases hw with
 |free=>rfl
 |test j want g h=>
  obtain⟨v,hv,hr⟩:=key j _ h;cases hr;simp only[yielded,hv];cases g<;>cases want<;>rfl
 |undef j want h=>
  obtain⟨v,hv,hr⟩:=key j _ h;cases hr;simp only[yielded,hv];rfl
theorem range'_cons{ops:Array Oper}{n:Nat}{o:Oper}{rest:List Oper}(h:ops.toList.drop n=o::rest):ops[n]? = some o/\ops.toList.drop (n+1)=rest:=by
 constructor
 ·have:=congrArg (·[0]?) h
  simpa [List.getElem?_drop] using this
 ·rw[<- List.drop_drop,h];rfl
theorem step_value{b:Frame}{cs:List Frame}{ops:Array Oper}{i:Nat}{o:Oper}{rest:List Nat}{a:Act}{w w':World}{v:Value}{nx:Next}(ho:ops[i]? = some o)(hw:Region.wanted o (yielded ops a.tmps)=true)
  (hr:(execOp a.eval o).run P w=.ok nx w') (hv:nx=.value v\/(nx=.skip/\v=undef)):step P (lone (b.at a (.inRegion ops (i::rest)::k)) cs w)=.next (lone (b.at (a.put o.dst v) (.inRegion ops rest::k)) cs w'):=by
 have hg:=stepG_op (P:=P) (b:=b) (k:=k) (cs:=cs) (w:=w) (rest:=rest) ho hw
 have hfin:∀ v,(b.at a (.inRegion ops (i::rest)::k)).finish v=b.at (a.put o.dst v) (.inRegion ops rest::k):=by
  intro v;rw[Frame.finish_at,ho];rfl
 rcases hv with rfl|⟨rfl,rfl⟩
 ·exact step_lone_go (by rw[hg,<- hfin];simp[stepG.apply,hr])
 ·exact step_lone_go (by rw[hg,<- hfin];simp[stepG.apply,hr])
theorem AOps.skip{ops:Array Oper}{n:Nat}{o:Oper}{rest:List Oper}(hw:Wanted ops s.t o.guard false)(h:AOps P f c0 R ops (n+1) rest k ⟨aput s.t o.dst (.tup []),s.h⟩):AOps P f c0 R ops n (o::rest) k s:=fun hd ρ w a h1 h2 h3 h4=>by
 obtain⟨ho,hd'⟩:=range'_cons hd;have hu:RV ⟨ρ,s.h,w,c0.X⟩ undef (.tup []):=.tup _ _ rfl (fun i v x h=>by simp at h);have:=h hd' ρ w (a.put o.dst undef) h1 h2 (h3.put o.dst hu) (by cases o.dst<;>exact h4);rw[List.length_cons,List.range'_succ];refine this.step fun b cs _=>?_;have hs:=step_op_skip (P:=P) (b:=b) (a:=a) (k:=k) (cs:=cs) (w:=w) (ops:=ops) (i:=n) (rest:=List.range' (n+1) rest.length) (by simp[ho,hw.ok h3])
 simpa [ho] using hs
def ext(t:List AV)(h:List ABlk)(op:Op):List ABlk:=if needs t op then h++[.free] else h
theorem AOps.op(hT:TabOk P T){ops:Array Oper}{n:Nat}{o:Oper}{rest:List Oper}(hw:Wanted ops s.t o.guard true){r:ARes}(hr:aop T s.h.length s.t (ext s.t s.h o.op) o.op=some r)(hp:r.p)
  (h:AOps P f c0 R ops (n+1) rest k ⟨aput s.t o.dst r.v,aupd (ext s.t s.h o.op) r.d⟩):AOps P f c0 R ops n (o::rest) k s:=fun hd ρ w a h1 h2 h3 h4=>by
 obtain⟨ho,hd'⟩:=range'_cons hd;rw[List.length_cons,List.range'_succ];have key:∀ ρ1,RelH ⟨ρ1,ext s.t s.h o.op,w,c0.X⟩->Ev ⟨ρ,s.h,w,c0.X⟩ ⟨ρ1,ext s.t s.h o.op,w,c0.X⟩->(needs s.t o.op=true->(ext s.t s.h o.op)[s.h.length]? = some .free) ->
   Goes P f (fun v w'=>∃ ρ' r h',RelH ⟨ρ',h',w',c0.X⟩/\Ev c0 ⟨ρ',h',w',c0.X⟩/\RV ⟨ρ',h',w',c0.X⟩ v r/\R r h') (.inRegion ops (n::List.range' (n+1) rest.length)::k) a w:=by
  intro ρ1 g1 g2 g3;obtain⟨nx,v,ρ',w',q1,q2,q3,q4,q5⟩:=aop_ok (P:=P) hT g1 (h3.mono g2) o g3 hr hp;have hev:=g2.trans q4;exact(h hd' ρ' w' (a.put o.dst v) q3 (h2.trans hev) ((h3.mono hev).put o.dst q5) (by cases o.dst<;>exact h4)).step fun b cs _=>step_value ho (hw.ok h3) q1 q2
 unfold ext at key
 by_cases hn:needs s.t o.op=true
 ·rw[if_pos hn] at key;obtain⟨g1,g2⟩:=Cx.grow h1
  exact key _ g1 g2 fun _=>by simp
 ·rw[if_neg hn] at key;exact key ρ h1 (Ev.refl _) fun h=>absurd h hn
def Callable (P : Program) (g : FuncId) : Prop := ∃ fn,P.funcs[g]? = some fn /\ (fn.name == "runtime.NumGoroutine") = false /\ fn.body.isNone = false
theorem run_callFunc{g:FuncId}(hc:Callable P g)(args:Array Value)(w:World):(callFunc g args).run P w=.ok (.enter g args) w:=by
 obtain⟨fn,h1,h2,h3⟩:=hc
 have h2' : ¬ fn.name = "runtime.NumGoroutine" := by simpa using h2
 have h3':¬fn.body=none:=by intro e;rw[e] at h3;cases h3
 simp[callFunc,h1,h2',h3']
theorem AOps.call{ops:Array Oper}{n:Nat}{o:Oper}{rest:List Oper}(hw:Wanted ops s.t o.guard true){x:Operand}{as:Array Operand}{ts:Array TypeId}(ho:o.op=.call { callee:=.value x,args:=as,argTypes:=ts })
  {g:FuncId} {fi ca:List AV} (hx:aev s.t x=.fn (.func g) fi ca) (hg:Callable P g) (h:ACall P g (fi++as.toList.map (aev s.t)++ca) s.h fun r h'=>AOps P f c0 R ops (n+1) rest k ⟨aput s.t o.dst r,h'⟩):AOps P f c0 R ops n (o::rest) k s:=fun hd ρ w a h1 h2 h3 h4=>by
 obtain⟨hon,hd'⟩:=range'_cons hd;rw[List.length_cons,List.range'_succ];have hv:=h3.ev x;rw[hx] at hv;generalize hev:a.eval x=v at hv
 cases hv with
 |fn _ v1 v2 _ _ l1 l2 r1 r2=>
  have hargs:TRel ⟨ρ,s.h,w,c0.X⟩ (v1++as.map a.eval++v2) (fi++as.toList.map (aev s.t)++ca):=by
   refine⟨by simp[l1,l2],fun i v y hv hy=>?_⟩;rw[List.getElem?_append] at hy;rw[Array.getElem?_append] at hv;simp only[Array.size_append,Array.size_map,List.length_append,Yo,Array.length_toList,l1] at hv hy
   split at hy
   ·rename_i hi;rw[if_pos hi] at hv;rw[List.getElem?_append] at hy;rw[Array.getElem?_append] at hv;rw[l1] at hv
    split at hy
    ·rename_i hj;rw[if_pos hj] at hv;exact r1 i v y hv hy
    ·rename_i hj;rw[if_neg hj] at hv;rw[Array.getElem?_map] at hv;rw[Vg] at hy;simp only[Ve] at hv hy;obtain⟨z,hz,rfl⟩:=hv;obtain⟨z',hz',rfl⟩:=hy;rw[Array.getElem?_toList,hz] at hz';cases hz';exact h3.ev z
   ·rename_i hi;rw[if_neg hi] at hv;exact r2 _ v y hv hy
  have hex:(execOp a.eval o).run P w=.ok (.enter g (v1++as.map a.eval++v2)) w:=by
   obtain⟨dst,op,ty,pos,after,guard⟩:=o;simp only at ho;subst ho;simp[execOp,resolve,Deferred.ofValue,invoke,hev,run_callFunc hg]
  intro b cs hb hk;obtain⟨e,w',fr,⟨v,ρ',r,h',rfl,g1,g2,g3,g4⟩,hs,hfn,hl⟩:=h ⟨ρ,s.h,w,c0.X⟩ _ rfl h1 hargs (b.at a (.inRegion ops (n::List.range' (n+1) rest.length)::k)::cs);have hgo:=stepG_op (P:=P) (b:=b) (k:=k) (cs:=cs) (w:=w) (rest:=List.range' (n+1) rest.length) hon (hw.ok h3);have henter:step P (lone (b.at a (.inRegion ops (n::List.range' (n+1) rest.length)::k)) cs w) =
    .next (lone (Frame.enter P g (v1++as.map a.eval++v2) .normal) (b.at a (.inRegion ops (n::List.range' (n+1) rest.length)::k)::cs) w):=
   step_lone_go (by rw[hgo];simp[stepG.apply,hex,Frame.at])
  have hfin:(b.at a (.inRegion ops (n::List.range' (n+1) rest.length)::k)).finish v=b.at (a.put o.dst v) (.inRegion ops (List.range' (n+1) rest.length)::k):=by
   rw[Frame.finish_at,hon];rfl
  obtain⟨v',w'',fr',q1,q2,q3⟩:=g4 hd' ρ' w' (a.put o.dst v) g1 (h2.trans g2) ((h3.mono g2).put o.dst g3) (by cases o.dst<;>exact h4) b cs hb hk;refine⟨v',w'',fr',q1,Steps.head henter (Steps.trans hs (Steps.head ?_ q2)),q3⟩;rw[<- hfin];exact step_leave_returned hl
/-! ### loops -/
def Wk(_:Program)(c0:Cx)(s s':AState):Prop:=
 ∀ ρ w (vs:Array Value),RelH ⟨ρ,s.h,w,c0.X⟩->Ev c0 ⟨ρ,s.h,w,c0.X⟩->TRel ⟨ρ,s.h,w,c0.X⟩ vs s.t->∃ ρ',RelH ⟨ρ',s'.h,w,c0.X⟩/\Ev c0 ⟨ρ',s'.h,w,c0.X⟩/\TRel ⟨ρ',s'.h,w,c0.X⟩ vs s'.t
theorem Wk.refl(s:AState):Wk P c0 s s:=fun ρ _ _ h1 h2 h3=>⟨ρ,h1,h2,h3⟩
theorem Wk.trans{s1 s2 s3:AState}(h:Wk P c0 s1 s2)(g:Wk P c0 s2 s3):Wk P c0 s1 s3:=fun ρ w vs h1 h2 h3=>by
 obtain⟨ρ',g1,g2,g3⟩:=h ρ w vs h1 h2 h3;exact g ρ' w vs g1 g2 g3
theorem ARun.weak{s':AState}(hw:Wk P c0 s s')(h:ARun P f c0 R k s'):ARun P f c0 R k s:=fun ρ w a h1 h2 h3 h4=>by
 obtain⟨ρ',g1,g2,g3⟩:=hw ρ w a.tmps h1 h2 h3;exact h ρ' w a g1 g2 g3 h4
theorem ARun.loop{α:Type}(L:α->AState)(μ:α->Nat){c:Code}(x0:α)(hw:Wk P c0 s (L x0))
  (round:∀ x,(∀ x' s',μ x'<μ x->Wk P c0 s' (L x')->ARun P f c0 R (.inLoop c::k) s')->ARun P f c0 R (.code c::.inLoop c::k) (L x)):ARun P f c0 R (.code (.loop c)::k) s:=by
 have key:∀ n x,μ x=n->ARun P f c0 R (.code c::.inLoop c::k) (L x):=by
  intro n
  induction n using Nat.strongRecOn with
  |_ n ih=>exact fun x hx=>round x fun x' s' hlt hw'=>ARun.inLoop (ARun.weak hw' (ih _ (hx▸hlt) x' rfl))
 exact ARun.loop1 (ARun.weak hw (key _ x0 rfl))
end
structure Run(P:Program)(f:FuncId)(c0:Cx)(R:AV->List ABlk->Prop)(k:List Item)(s:AState):Prop where
 h:ARun P f c0 R k s
structure Ops(P:Program)(f:FuncId)(c0:Cx)(R:AV->List ABlk->Prop)(ops:Array Oper)(n:Nat)(rest:List Oper)(k:List Item)(s:AState):Prop where
 h:AOps P f c0 R ops n rest k s
structure Weak(P:Program)(c0:Cx)(s s':AState):Prop where
 h:Wk P c0 s s'
def alt(g:Bool)(A B:Prop):Prop:=(g=true->A)/\(g=false->B)
theorem aT{g:Bool}(h:g=true)(A B:Prop):alt g A B=A:=by subst h;simp[alt]
theorem aF{g:Bool}(h:g=false)(A B:Prop):alt g A B=B:=by subst h;simp[alt]
def alts(t:List AV)(d:Nat)(g:Bool)(F:Bool->List AV->Prop):Prop:=(g=true->F true (t.set d (.bool true)))/\(g=false->F false (t.set d (.bool false)))
theorem set_same{t:List AV}{d:Nat}{v:AV}(h:t[d]? = some v):t.set d v=t:=by
 obtain⟨h1,rfl⟩:=Va h;exact List.set_getElem_self h1
theorem bT{t:List AV}{d:Nat}{g:Bool}{F:Bool->List AV->Prop}(h:g=true):alts t d g F=F true (t.set d (.bool true)):=by
 subst h;simp[alts]
theorem bF{t:List AV}{d:Nat}{g:Bool}{F:Bool->List AV->Prop}(h:g=false):alts t d g F=F false (t.set d (.bool false)):=by
 subst h;simp[alts]
theorem alts_at{t:List AV}{d:Nat}{g:Bool}{F:Bool->List AV->Prop}(h:alts t d g F)(ht:t[d]? = some (.bool g)):F g t:=by
 cases g with
 |true=>have:=h.1 rfl;rwa [set_same ht] at this
 |false=>have:=h.2 rfl;rwa [set_same ht] at this
def gslot(ops:Array Oper)(j:Nat):Option Nat:=(ops[j]?).bind (·.dst)
theorem gval_of{ops:Array Oper}{t:List AV}{j d:Nat}{v:AV}(h:gslot ops j=some d)(ht:t[d]? = some v):gval ops t j=some v:=by
 unfold gslot at h;unfold gval;rw[h];exact ht
def aone(T:TabT)(o:Oper)(s:AState)(K:AState->Prop)(stop:Prop):Prop:=
 match aop T s.h.length s.t (ext s.t s.h o.op) o.op with
 |some r=>r.p/\K ⟨aput s.t o.dst r.v,aupd (ext s.t s.h o.op) r.d⟩
 |none=>stop
section
variable (P:Program) (f:FuncId) (c0:Cx) (R:AV->List ABlk->Prop) (T:TabT) (rs:List ResultVar)
def gone(ops:Array Oper)(n:Nat)(o:Oper)(rest:List Oper)(k:List Item)(want:Bool)(h:List ABlk)(K:AState->Prop)(b:Bool)(t:List AV):Prop:=
 if b=want then aone T o ⟨t,h⟩ K (Ops P f c0 R ops n (o::rest) k ⟨t,h⟩) else K ⟨aput t o.dst (.tup []),h⟩
def aops(ops:Array Oper)(k:List Item)(K:AState->Prop):Nat->List Oper->AState->Prop
 |_,[],s=>K s
 |n,o::rest,s=>
  match o.guard with
  |none=>aone T o s (aops ops k K (n+1) rest) (Ops P f c0 R ops n (o::rest) k s)
  |some (j,want)=>match gslot ops j with
   |none=>False
   |some d=>match s.t[d]? with
    |some (.bool g)=>alts s.t d g (gone P f c0 R T ops n o rest k want s.h (aops ops k K (n+1) rest))
    |some (.tup [])=>aops ops k K (n+1) rest ⟨aput s.t o.dst (.tup []),s.h⟩
    |_=>False
def afin(s:AState):Prop:=match ares T s rs with|some r=>aresOk T s rs/\R r s.h|none=>False
end
section
variable {P:Program} {f:FuncId} {c0:Cx} {R:AV->List ABlk->Prop} {T:TabT} {ops:Array Oper} {n:Nat} {o:Oper} {rest:List Oper} {k:List Item} {h:List ABlk} {K:AState->Prop} {t:List AV}
theorem gT:gone P f c0 R T ops n o rest k true h K true t=aone T o ⟨t,h⟩ K (Ops P f c0 R ops n (o::rest) k ⟨t,h⟩):=rfl
theorem gF:gone P f c0 R T ops n o rest k false h K false t=aone T o ⟨t,h⟩ K (Ops P f c0 R ops n (o::rest) k ⟨t,h⟩):=rfl
theorem gW:gone P f c0 R T ops n o rest k true h K false t=K ⟨aput t o.dst (.tup []),h⟩:=by unfold gone;exact if_neg (by decide)
theorem gV:gone P f c0 R T ops n o rest k false h K true t=K ⟨aput t o.dst (.tup []),h⟩:=by unfold gone;exact if_neg (by decide)
end
section
variable {P:Program} {f:FuncId} {c0:Cx} {R:AV->List ABlk->Prop} {T:TabT}
theorem aone_ok(hT:TabOk P T){ops:Array Oper}{n:Nat}{o:Oper}{rest:List Oper}{k:List Item}{s:AState}{K:AState->Prop}(hw:Wanted ops s.t o.guard true)
  (hK:∀ s,K s->AOps P f c0 R ops (n+1) rest k s) (h:aone T o s K (Ops P f c0 R ops n (o::rest) k s)):AOps P f c0 R ops n (o::rest) k s:=by
 unfold aone at h
 split at h
 ·rename_i r hr;exact AOps.op hT hw hr h.1 (hK _ h.2)
 ·exact h.h
theorem aops_ok(hT:TabOk P T){ops:Array Oper}{k:List Item}{K:AState->Prop}(hK:∀ s,K s->ARun P f c0 R k s):∀ (rest:List Oper) (n:Nat) (s:AState),aops P f c0 R T ops k K n rest s->AOps P f c0 R ops n rest k s
 |[],n,s,h=>AOps.nil (hK s h)
 |o::rest,n,s,h=>by
  have ih:=fun s=>aops_ok (ops:=ops) hT hK rest (n+1) s;unfold aops at h
  split at h
  ·rename_i hg;exact aone_ok hT (by rw[hg];exact .free) ih h
  ·rename_i j want hg
   split at h
   ·exact h.elim
   ·rename_i d hd
    split at h
    ·rename_i g hgd;have hgv:=gval_of hd hgd;have h:=alts_at h hgd;unfold gone at h
     split at h
     ·rename_i hb;exact aone_ok hT (by rw[hg,show true=(g==want) by rw[hb];simp];exact .test j want g hgv) ih h
     ·rename_i hb;exact AOps.skip (by rw[hg,show false=(g==want) by simpa using hb];exact .test j want g hgv) (ih _ h)
    ·rename_i hgd;exact AOps.skip (by rw[hg];exact .undef j want (gval_of hd hgd)) (ih _ h)
    ·exact h.elim
end
/-! ### a value told as another -/
inductive Le1:AV->AV->Prop where
 |refl (a:AV):Le1 a a
 |nil (k:Nat):Le1 .nils (.sl k [] .no)
 |tok (k:Nat) (l:List (List AV)) (t:Tk):Le1 (.sl k l t) (.sl k l .no)
inductive Le1L:List AV->List AV->Prop where
 |nil:Le1L [] []
 |cons {a b:AV} {as bs:List AV} (h:Le1 a b) (hs:Le1L as bs):Le1L (a::as) (b::bs)
inductive Le:AV->AV->Prop where
 |refl (a:AV):Le a a
 |one {a b:AV} (h:Le1 a b):Le a b
 |agg {as bs:List AV} (h:Le1L as bs):Le (.agg as) (.agg bs)
 |junk (a:AV):Le a .junk
inductive LeL:List AV->List AV->Prop where
 |nil:LeL [] []
 |cons {a b:AV} {as bs:List AV} (h:Le a b) (hs:LeL as bs):LeL (a::as) (b::bs)
inductive LeR:AV->AV->Prop where
 |one {a b:AV} (h:Le a b):LeR a b
 |tup {as bs:List AV} (h:LeL as bs):LeR (.tup as) (.tup bs)
theorem RV.nil_sl{c:Cx}(k:Nat):RV c (.slice none 0 0) (.sl k [] .no):=
 .sl k [] .no none 0 0 0 0 (fun _ _=>undef) rfl (Nat.le_refl _) (Nat.zero_le _) (fun h=>absurd rfl h) (fun j e h=>by simp at h) (fun j e i a h=>by simp at h) (fun j e i a h=>by simp at h) trivial
theorem Le1.rv{a b:AV}(h:Le1 a b){c:Cx}{v:Value}(hv:RV c v a):RV c v b:=by
 cases h with
 |refl=>exact hv
 |nil k=>cases hv;exact .nil_sl k
 |tok k l t=>exact hv.bare
theorem Le1.cell{a b:AV}(h:Le1 a b)(ha:a.cell=true):b.cell=true:=by
 cases h<;>first|exact ha|rfl
theorem Le1L.len{as bs:List AV}(h:Le1L as bs):as.length=bs.length:=by
 induction h with
 |nil=>rfl
 |cons _ _ ih=>simp[ih]
theorem Le1L.get{as bs:List AV}(h:Le1L as bs):∀ (i:Nat) b,bs[i]? = some b->∃ a,as[i]? = some a/\Le1 a b:=by
 induction h with
 |nil=>intro i b h;simp at h
 |cons h _ ih=>
  intro i b hb
  cases i with
  |zero=>simp at hb;subst hb;exact⟨_,rfl,h⟩
  |succ i=>obtain⟨a,h1,h2⟩:=ih i b (by simpa using hb);exact⟨a,by simpa using h1,h2⟩
theorem Le.rv{a b:AV}(h:Le a b){c:Cx}{v:Value}(hv:RV c v a):RV c v b:=by
 cases h with
 |refl=>exact hv
 |one h=>exact h.rv hv
 |junk=>exact .junk _
 |agg h=>
  cases hv with
  |agg vs _ hs hc hr=>
   refine .agg vs _ (by rw[hs,h.len]) (fun i b hb=>?_) (fun i v b hv hb=>?_)
   ·obtain⟨a,h1,h2⟩:=h.get i b hb;exact h2.cell (hc i a h1)
   ·obtain⟨a,h1,h2⟩:=h.get i b hb;exact h2.rv (hr i v a hv h1)
theorem LeL.len{as bs:List AV}(h:LeL as bs):as.length=bs.length:=by
 induction h with
 |nil=>rfl
 |cons _ _ ih=>simp[ih]
theorem LeL.get{as bs:List AV}(h:LeL as bs):∀ (i:Nat) b,bs[i]? = some b->∃ a,as[i]? = some a/\Le a b:=by
 induction h with
 |nil=>intro i b h;simp at h
 |cons h _ ih=>
  intro i b hb
  cases i with
  |zero=>simp at hb;subst hb;exact⟨_,rfl,h⟩
  |succ i=>obtain⟨a,h1,h2⟩:=ih i b (by simpa using hb);exact⟨a,by simpa using h1,h2⟩
theorem LeL.rel{as bs:List AV}(h:LeL as bs){c:Cx}{vs:Array Value}(hv:TRel c vs as):TRel c vs bs:=
 ⟨by rw[hv.1,h.len],fun i v b hv' hb=>by obtain⟨a,h1,h2⟩:=h.get i b hb;exact h2.rv (hv.2 i v a hv' h1)⟩
theorem LeR.rv{a b:AV}(h:LeR a b){c:Cx}{v:Value}(hv:RV c v a):RV c v b:=by
 cases h with
 |one h=>exact h.rv hv
 |tup h=>
  cases hv with
  |tup vs _ hs hr=>exact .tup vs _ (by rw[hs,h.len]) fun i v b hv hb=>by obtain⟨a,h1,h2⟩:=h.get i b hb;exact h2.rv (hr i v a hv h1)
/-! ### what hangs on the first n blocks alone -/
mutual
def AV.bel(n:Nat):AV->Bool
 |.ptr i _=>decide (i<n)
 |.eptr i _ _ _=>decide (i<n)
 |.msl i _ _ _ _=>decide (i<n)
 |.msu i _ _=>decide (i<n)
 |.mp i=>decide (i<n)
 |.sl _ _ (.own i)=>decide (i<n)
 |.agg cs=>belL n cs
 |.tup vs=>belL n vs
 |.psl _ l=>belLL n l
 |.rptr cs=>belL n cs
 |.fn _ a b=>belL n a&&belL n b
 |.iface _ v=>v.bel n
 |.cnd _ v=>v.bel n
 |_=>true
def belL(n:Nat):List AV->Bool
 |[]=>true
 |a::l=>a.bel n&&belL n l
def belLL(n:Nat):List (List AV)->Bool
 |[]=>true
 |a::l=>belL n a&&belLL n l
end
def ABlk.bel(n:Nat):ABlk->Bool
 |.box cs=>belL n cs
 |.rows _ l=>belLL n l
 |.map l=>l.all fun p=>p.1.bel n&&p.2.bel n
 |.iter m _ _=>decide (m<n)
 |_=>true
theorem belL_get{n:Nat}:∀ {l:List AV},belL n l=true->∀ (i:Nat) a,l[i]? = some a->a.bel n=true
 |[],_,i,a,h=>by simp at h
 |b::l,h,i,a,ha=>by
  simp only[belL,Vi] at h
  cases i with
  |zero=>simp at ha;subst ha;exact h.1
  |succ i=>exact belL_get h.2 i a (by simpa using ha)
theorem belLL_get{n:Nat}:∀ {l:List (List AV)},belLL n l=true->∀ (i:Nat) a,l[i]? = some a->belL n a=true
 |[],_,i,a,h=>by simp at h
 |b::l,h,i,a,ha=>by
  simp only[belLL,Vi] at h
  cases i with
  |zero=>simp at ha;subst ha;exact h.1
  |succ i=>exact belLL_get h.2 i a (by simpa using ha)
theorem AV.plain_bel{a:AV}(h:a.plain=true)(n:Nat):a.bel n=true:=by
 cases a with
 |sl k l t=>cases t<;>first|rfl|cases h
 |_=>first|rfl|cases h
theorem RV.xfer{c c2:Cx}{n:Nat}(him:∀ b o,c.im b o->c2.im b o/\c2.w.cell? ⟨b,o,none⟩=c.w.cell? ⟨b,o,none⟩)(hid:∀ i,i<n->(∀ x,c.h[i]? = some x->x.isfree=false->∃ y,c2.h[i]? = some y/\y.isfree=false)/\(∀ y,c2.h[i]? = some y->∃ x,c.h[i]? = some x/\x.istok=y.istok/\∀ k m,y=.tok k m->x=.tok k m)/\c2.ρ i=c.ρ i)(hblk:∀ i b,i<n->c.ρ i=some b->c2.w.heap[b]? = c.w.heap[b]?)
  {v:Value} {a:AV} (h:RV c v a) (ha:a.bel n=true):RV c2 v a:=by
 have hkn:∀ i,i<n->c.known i->c2.known i:=fun i hi ⟨x,hx,hf⟩=>(hid i hi).1 x hx hf
 have hnt:∀ i,i<n->(∀ x,c.h[i]? = some x->x.istok=false)->∀ x,c2.h[i]? = some x->x.istok=false:=fun i hi h x hx=>by obtain⟨y,hy,e,_⟩:=(hid i hi).2.1 x hx;rw[<- e];exact h y hy
 induction h with
 |int k n=>exact .int k n
 |bool b=>exact .bool b
 |str s l h=>exact .str s l h
 |nilp=>exact .nilp
 |ptr i o b hk hb ht=>
  have hi:i<n:=by simpa [AV.bel] using ha
  exact .ptr i o b (hkn i hi hk) ((hid i hi).2.2.trans hb) (hnt i hi ht)
 |rptr cs b o vs hc _ ih=>
  simp only[AV.bel] at ha;refine .rptr cs b o vs (fun i a hi=>?_) (fun i a hi=>ih i a hi (belL_get ha i a hi));obtain⟨h1,h2,h3⟩:=hc i a hi;obtain⟨g1,g2⟩:=him _ _ h2;exact⟨h1,g1,g2.trans h3⟩
 |sl k l t A m cap b o vs hn hcap hm hA hk hc _ ht ih=>
  refine .sl k l t A m cap b o vs hn hcap hm hA hk (fun j e i a he hi=>?_) (fun j e i a he hi=>ih j e i a he hi (AV.plain_bel (hc j e i a he hi).1 n)) ?_
  ·obtain⟨h1,h2,h3⟩:=hc j e i a he hi;obtain⟨g1,g2⟩:=him _ _ h2;exact⟨h1,g1,g2.trans h3⟩
  ·cases t with
   |no=>trivial
   |own i=>
    have hi:i<n:=by simpa [AV.bel] using ha
    obtain⟨g1,g2⟩:=ht;refine⟨hkn i hi g1,fun k' n' e=>?_⟩;obtain⟨y,hy,_,e2⟩:=(hid i hi).2.1 _ e;rw[e2 k' n' rfl] at hy;obtain⟨q1,q2,q3⟩:=g2 k' n' hy;refine⟨q1,q2,fun e=>?_⟩
    rcases q3 e with q3|⟨b,us,e',w1,w2,w3,w4⟩
    ·exact .inl q3
    ·exact .inr ⟨b,us,e',(hid i hi).2.2.trans w1,w2,(hblk i b hi w1).trans w3,w4⟩
 |psl k l A m cap b o vs hn hcap hm hA hk hc _ ih=>
  simp only[AV.bel] at ha;refine .psl k l A m cap b o vs hn hcap hm hA hk (fun j e i a he hi=>?_) (fun j e i a he hi=>ih j e i a he hi (belL_get (belLL_get ha j e he) i a hi));obtain⟨h1,h2,h3⟩:=hc j e i a he hi;obtain⟨g1,g2⟩:=him _ _ h2;exact⟨h1,g1,g2.trans h3⟩
 |nils=>exact .nils
 |agg vs cs hs hc _ ih=>
  simp only[AV.bel] at ha;exact .agg vs cs hs hc fun i v a hv hi=>ih i v a hv hi (belL_get ha i a hi)
 |tup vs cs hs _ ih=>
  simp only[AV.bel] at ha;exact .tup vs cs hs fun i v a hv hi=>ih i v a hv hi (belL_get ha i a hi)
 |fn f v1 v2 a1 a2 h1 h2 _ _ r1 r2=>
  simp only[AV.bel,Vi] at ha;exact .fn f v1 v2 a1 a2 h1 h2 (fun i v a hv hi=>r1 i v a hv hi (belL_get ha.1 i a hi)) (fun i v a hv hi=>r2 i v a hv hi (belL_get ha.2 i a hi))
 |nilf=>exact .nilf
 |iface t v a _ ih=>simp only[AV.bel] at ha;exact .iface t v a (ih ha)
 |nilI=>exact .nilI
 |mp i b hk hb ht=>
  have hi:i<n:=by simpa [AV.bel] using ha
  exact .mp i b (hkn i hi hk) ((hid i hi).2.2.trans hb) (hnt i hi ht)
 |nilm=>exact .nilm
 |msl i k o m cap b o' hk hb ht h1 h2 h3=>
  have hi:i<n:=by simpa [AV.bel] using ha
  exact .msl i k o m cap b o' (hkn i hi hk) ((hid i hi).2.2.trans hb) (hnt i hi ht) h1 h2 h3
 |msu i k m cap b hk hb ht h1 h2 h3=>
  have hi:i<n:=by simpa [AV.bel] using ha
  obtain⟨vs,e,f,q1,q2⟩:=h3;exact .msu i k m cap b (hkn i hi hk) ((hid i hi).2.2.trans hb) (hnt i hi ht) h1 h2 ⟨vs,e,f,(hblk i b hi hb).trans q1,q2⟩
 |eptr i k j o b hk hb ht=>
  have hi:i<n:=by simpa [AV.bel] using ha
  exact .eptr i k j o b (hkn i hi hk) ((hid i hi).2.2.trans hb) (hnt i hi ht)
 |cnd g v a _ ih=>simp only[AV.bel] at ha;exact .cnd g v a fun hg=>ih hg ha
 |junk v=>exact .junk v
/-! ### calls that write nothing of the caller's -/
structure ASpec(P:Program)(f:FuncId)(args:List AV)(res:AV):Prop where
 fn:Callable P f
 run:ACall P f args [] fun r _=>LeR r res
structure OSpec(P:Program)(f:FuncId)(args:List AV)(k:Nat)(l:List (List AV)):Prop where
 fn:Callable P f
 run:ACall P f args [] fun r h'=>∃ i,r=.sl k l (.own i)/\h'[i]? = some (.tok k l.length)
def Cx.shut(c:Cx):Cx:=⟨c.ρ,[],c.w,fun b o=>b<c.w.heap.size/\¬c.im b o⟩
section
variable {P:Program} {f:FuncId} {c:Cx}
theorem Cx.shut_im{b o:Nat}:c.shut.im b o↔c.im b o:=by
 constructor
 ·rintro⟨h1,h2,_⟩;exact Vf fun h=>h2 ⟨h1,h⟩
 ·intro h;exact⟨h.1,fun h2=>h2.2 h,fun i x hx=>by simp[Cx.shut] at hx⟩
theorem Cx.shut_rel:RelH c.shut:=
 ⟨fun i j x y b hx=>by simp[Cx.shut] at hx,fun i x b hx=>by simp[Cx.shut] at hx,fun i x hx=>by simp[Cx.shut] at hx,fun b o h=>⟨h.1,fun i x hx=>by simp[Cx.shut] at hx⟩⟩
theorem Cx.open_(hc:RelH c){c':Cx}(hev:Ev c.shut c'):RelH ⟨c.ρ,c.h,c'.w,c.X⟩/\Ev c ⟨c.ρ,c.h,c'.w,c.X⟩/\∀ b o,c'.im b o->Cx.im ⟨c.ρ,c.h,c'.w,c.X⟩ b o:=by
 have hold:∀ b,b<c.w.heap.size->c'.w.heap[b]? = c.w.heap[b]?:=fun b hb=>(hev.fr b hb (by rintro⟨i,x,hx,_⟩;simp[Cx.shut] at hx)).1;have hsz:c.w.heap.size<=c'.w.heap.size:=hev.size
 have hE:Ev c ⟨c.ρ,c.h,c'.w,c.X⟩:=⟨hev.os,hev.tape,hev.output,hsz,rfl,fun b o h=>⟨⟨Nat.lt_of_lt_of_le h.1 hsz,h.2⟩,cB (hold b h.1)⟩,fun b hb hm=>⟨hold b hb,hm⟩,Nat.le_refl _,
  fun i x hx hf=>⟨x,hx,hf,fun ht=>⟨ht,rfl⟩,fun k n e=>⟨n,e,.inr ⟨rfl,rfl,fun b hb=>hold b (hc.here i x b hx hb)⟩⟩⟩,keep_old hold⟩
 refine⟨⟨hc.inj,fun i x b hx hb=>Nat.lt_of_lt_of_le (hc.here i x b hx hb) hsz,fun i x hx=>(hc.blk i x hx).mono hE rfl fun b _ hb=>hold b (hc.here i x b hx hb),fun b o h=>⟨Nat.lt_of_lt_of_le (hc.xs b o h).1 hsz,(hc.xs b o h).2⟩⟩,hE,fun b o h=>?_⟩
 have hx:¬(b<c.w.heap.size/\¬c.im b o):=by have:=h.2.1;rw[hev.x] at this;exact this
 by_cases hb:b<c.w.heap.size
 ·have him:c.im b o:=Vf fun hn=>hx ⟨hb,hn⟩;exact(hE.im b o him).1
 ·exact⟨h.1,fun hX=>hb (hc.xs b o hX).1,fun i x hix hρ=>absurd (hc.here i x b hix hρ) hb⟩
theorem TRel.shut{vs:Array Value}{args:List AV}(h:TRel c vs args)(hb:belL 0 args=true):TRel c.shut vs args:=
 ⟨h.1,fun i v x hv hx=>(h.2 i v x hv hx).xfer (fun _ _ h=>⟨Cx.shut_im.2 h,rfl⟩) (fun i hi=>absurd hi (Nat.not_lt_zero i)) (fun i _ hi=>absurd hi (Nat.not_lt_zero i)) (belL_get hb i x hx)⟩
theorem ACall.pure{args args':List AV}{res:AV}{h:List ABlk}{R:AV->List ABlk->Prop}(hs:ASpec P f args res)(hle:LeL args' args)(ha:belL 0 args=true)(hr:res.bel 0=true)(hR:R res h):ACall P f args' h R:=by
 intro c vs hch hc ht;subst hch;refine(hs.run c.shut vs rfl Cx.shut_rel ((hle.rel ht).shut ha)).mono ?_;rintro e w' ⟨v,ρ',r,h',rfl,g1,g2,g3,g4⟩;obtain⟨q1,q2,q3⟩:=Cx.open_ hc g2;exact⟨v,c.ρ,res,c.h,rfl,q1,q2,(g4.rv g3).xfer (fun b o h=>⟨q3 b o h,rfl⟩) (fun i hi=>absurd hi (Nat.not_lt_zero i)) (fun i b hi=>absurd hi (Nat.not_lt_zero i)) hr,hR⟩
theorem ACall.own{args args':List AV}{k:Nat}{l:List (List AV)}{h:List ABlk}{R:AV->List ABlk->Prop}(hs:OSpec P f args k l)(hle:LeL args' args)(ha:belL 0 args=true)(hR:R (.sl k l (.own h.length)) (h++[.tok k l.length])):ACall P f args' h R:=by
 intro c vs hch hc ht;subst hch;refine(hs.run c.shut vs rfl Cx.shut_rel ((hle.rel ht).shut ha)).mono ?_;rintro e w' ⟨v,ρ',r,h',rfl,g1,g2,g3,i,rfl,hi⟩
 have hbig:∀ b,ρ' i=some b->c.w.heap.size<=b:=fun b hb=>by
  rcases Nat.lt_or_ge b c.w.heap.size with hlt|hge
  ·exact absurd ⟨i,_,hi,rfl,hb⟩ (g2.fr b hlt (by rintro⟨i,x,hx,_⟩;simp[Cx.shut] at hx)).2
  ·exact hge
 have hold:∀ b,b<c.w.heap.size->w'.heap[b]? = c.w.heap[b]?:=fun b hb=>(g2.fr b hb (by rintro⟨i,x,hx,_⟩;simp[Cx.shut] at hx)).1;have hsz:c.w.heap.size<=w'.heap.size:=g2.size
 have hcase:∀ (j:Nat) y b,(c.h++[ABlk.tok k l.length])[j]? = some y->setρ c.ρ c.h.length (ρ' i) j=some b->(j=c.h.length/\y=.tok k l.length/\ρ' i=some b/\c.w.heap.size<=b)\/(j≠c.h.length/\c.h[j]? = some y/\c.ρ j=some b/\b<c.w.heap.size):=fun j y b hy hb=>by
  by_cases hj:j=c.h.length
  ·subst hj;rw[setρ_same] at hb;rw[List.getElem?_append_right (Nat.le_refl _)] at hy;simp at hy;exact .inl ⟨rfl,hy.symm,hb,hbig b hb⟩
  ·rw[setρ_ne _ _ hj] at hb
   have hjl:j<c.h.length:=by
    have:=(Va hy).1;simp at this;omega
   rw[List.getElem?_append_left hjl] at hy;exact .inr ⟨hj,hy,hb,hc.here j y b hy hb⟩
 have hρ:∀ (j:Nat) x,c.h[j]? = some x->setρ c.ρ c.h.length (ρ' i) j=c.ρ j:=fun j x hx=>by
  have:j<c.h.length:=(Va hx).1;exact setρ_ne _ _ (by omega)
 have hev:Ev c ⟨setρ c.ρ c.h.length (ρ' i),c.h++[.tok k l.length],w',c.X⟩:=by
  refine⟨g2.os,g2.tape,g2.output,hsz,rfl,fun b o h=>⟨⟨Nat.lt_of_lt_of_le h.1 hsz,h.2.1,fun j y hy hb=>?_⟩,cB (hold b h.1)⟩,fun b hb hm=>⟨hold b hb,?_⟩,by simp,fun j x hx hf=>?_,keep_old hold⟩
  ·rcases hcase j y b hy hb with⟨_,_,_,hge⟩|⟨_,q1,q2,_⟩
   ·have:=h.1;omega
   ·exact h.2.2 j y q1 q2
  ·rintro⟨j,y,hy,hl,hj⟩
   rcases hcase j y b hy hj with⟨_,_,_,hge⟩|⟨_,q1,q2,_⟩
   ·omega
   ·exact hm ⟨j,y,q1,hl,q2⟩
  ·have hj:j<c.h.length:=(Va hx).1;exact⟨x,by rw[List.getElem?_append_left hj];exact hx,hf,fun ht=>⟨ht,hρ j x hx⟩,fun k n e=>⟨n,e,.inr ⟨rfl,hρ j x hx,fun b hb=>hold b (hc.here j x b hx hb)⟩⟩⟩
 have hrel:RelH ⟨setρ c.ρ c.h.length (ρ' i),c.h++[.tok k l.length],w',c.X⟩:=by
  refine⟨fun j j' y y' b hy hy' ly ly' hb hb'=>?_,fun j y b hy hb=>?_,fun j y hy=>?_,fun b o h=>⟨Nat.lt_of_lt_of_le (hc.xs b o h).1 hsz,fun j y hy hl hb=>?_⟩⟩
  ·rcases hcase j y b hy hb with⟨rfl,_,_,q⟩|⟨_,q1,q2,q3⟩<;>rcases hcase j' y' b hy' hb' with⟨rfl,_,_,w⟩|⟨_,w1,w2,w3⟩
   ·rfl
   ·omega
   ·omega
   ·exact hc.inj j j' y y' b q1 w1 ly ly' q2 w2
  ·rcases hcase j y b hy hb with⟨_,_,q,_⟩|⟨_,q1,q2,q3⟩
   ·exact g1.here i _ b hi q
   ·exact Nat.lt_of_lt_of_le q3 hsz
  ·by_cases hj:j=c.h.length
   ·subst hj;rw[List.getElem?_append_right (Nat.le_refl _)] at hy;simp at hy;subst hy;intro b hb;simp only[setρ_same] at hb;exact g1.blk i _ hi b hb
   ·have hjl:j<c.h.length:=by
     have:=(Va hy).1;simp at this;omega
    rw[List.getElem?_append_left hjl] at hy;exact(hc.blk j y hy).mono hev (hρ j y hy) fun b _ hb=>hold b (hc.here j y b hy hb)
  ·rcases hcase j y b hy hb with⟨_,_,_,q⟩|⟨_,q1,q2,q3⟩
   ·have:=(hc.xs b o h).1;omega
   ·exact(hc.xs b o h).2 j y q1 hl q2
 have him:∀ b o,(Cx.mk ρ' h' w' c.shut.X).im b o->(Cx.mk (setρ c.ρ c.h.length (ρ' i)) (c.h++[.tok k l.length]) w' c.X).im b o:=fun b o h=>by
  have hx:¬(b<c.w.heap.size/\¬c.im b o):=h.2.1
  by_cases hb:b<c.w.heap.size
  ·have him:c.im b o:=Vf fun hn=>hx ⟨hb,hn⟩;exact(hev.im b o him).1
  ·refine⟨h.1,fun hX=>hb (hc.xs b o hX).1,fun j y hy hρj=>?_⟩
   rcases hcase j y b hy hρj with⟨_,rfl,q,_⟩|⟨_,q1,q2,q3⟩
   ·exact h.2.2 i _ hi q
   ·omega
 obtain⟨A,cap,xs,rfl,hcap,hm,hf,⟨_,htk⟩,hcell⟩:=g3.flat;refine⟨_,_,_,_,rfl,hrel,hev,?_,hR⟩
 have hf':Flat ⟨setρ c.ρ c.h.length (ρ' i),c.h++[.tok k l.length],w',c.X⟩ k l xs:=⟨hf.len,hf.el,fun j e m a he ha=>by
  obtain⟨w1,u,w2,w3⟩:=hf.rv j e m a he ha
  exact⟨w1,u,w2,w3.xfer (n:=0) (fun b o h=>⟨him b o h,rfl⟩) (fun i hi=>absurd hi (Nat.not_lt_zero i)) (fun i b hi=>absurd hi (Nat.not_lt_zero i)) (AV.plain_bel w1 0)⟩⟩
 have ht':TkOk ⟨setρ c.ρ c.h.length (ρ' i),c.h++[.tok k l.length],w',c.X⟩ A l.length cap k (.own c.h.length):=by
  have hlast:(c.h++[ABlk.tok k l.length])[c.h.length]? = some (.tok k l.length):=by simp
  refine⟨⟨_,hlast,rfl⟩,fun k' n' e=>?_⟩;simp only[hlast] at e;cases e;refine⟨rfl,Nat.le_refl _,fun _=>?_⟩;obtain⟨_,_,q⟩:=htk k l.length hi
  rcases q rfl with q|⟨b,vs,e,w1,w2,w3,w4⟩
  ·exact .inl q
  ·exact .inr ⟨b,vs,e,by simp only[setρ_same];exact w1,w2,w3,w4⟩
 by_cases hl:l=[]
 ·have hxs:xs=[]:=by have:=hf.len;rw[hl] at this;simpa using this
  exact RV.sl_of hf' hcap hm 0 0 (fun h=>absurd hl h) (fun q u hq=>by rw[hxs] at hq;simp at hq) ht' rfl
 ·obtain⟨b,o,hA,hcc⟩:=hcell hl;exact RV.sl_of hf' hcap hm b o (fun _=>hA) (fun q u hq=>⟨him _ _ (hcc q u hq).1,(hcc q u hq).2⟩) ht' rfl
/-! ### the state told more weakly -/
end
inductive WkT(n:Nat):List AV->List AV->Prop where
 |nil:WkT n [] []
 |cons {a b:AV} {as bs:List AV} (h:Le a b) (hb:b.bel n=true) (hs:WkT n as bs):WkT n (a::as) (b::bs)
inductive LeB(n:Nat):ABlk->ABlk->Prop where
 |same (x:ABlk) (h:x.bel n=true):LeB n x x
 |box {as bs:List AV} (h:Le1L as bs) (hb:belL n bs=true):LeB n (.box as) (.box bs)
inductive WkH(n:Nat):List ABlk->List ABlk->Prop where
 |nil (l:List ABlk):WkH n l []
 |cons {a b:ABlk} {as bs:List ABlk} (h:LeB n a b) (hs:WkH n as bs):WkH n (a::as) (b::bs)
theorem WkT.len{n:Nat}{as bs:List AV}(h:WkT n as bs):as.length=bs.length:=by
 induction h with
 |nil=>rfl
 |cons _ _ _ ih=>simp[ih]
theorem WkT.get{n:Nat}{as bs:List AV}(h:WkT n as bs):∀ (i:Nat) b,bs[i]? = some b->∃ a,as[i]? = some a/\Le a b/\b.bel n=true:=by
 induction h with
 |nil=>intro i b h;simp at h
 |cons h hb _ ih=>
  intro i b hb'
  cases i with
  |zero=>simp at hb';subst hb';exact⟨_,rfl,h,hb⟩
  |succ i=>obtain⟨a,h1,h2⟩:=ih i b (by simpa using hb');exact⟨a,by simpa using h1,h2⟩
theorem WkH.get{n:Nat}{as bs:List ABlk}(h:WkH n as bs):∀ (i:Nat) b,bs[i]? = some b->∃ a,as[i]? = some a/\LeB n a b:=by
 induction h with
 |nil=>intro i b h;simp at h
 |cons h _ ih=>
  intro i b hb'
  cases i with
  |zero=>simp at hb';subst hb';exact⟨_,rfl,h⟩
  |succ i=>obtain⟨a,h1,h2⟩:=ih i b (by simpa using hb');exact⟨a,by simpa using h1,h2⟩
theorem LeB.same_kind{n:Nat}{a b:ABlk}(h:LeB n a b):a.live=b.live/\a.isfree=b.isfree/\a.istok=b.istok/\(∀ o,b.fix o↔a.fix o)/\(∀ k m,b=.tok k m↔a=.tok k m):=by
 cases h with
 |same=>exact⟨rfl,rfl,rfl,fun _=>Iff.rfl,fun _ _=>Iff.rfl⟩
 |box=>exact⟨rfl,rfl,rfl,fun _=>Iff.rfl,fun k m=>⟨(fun h=>by cases h),(fun h=>by cases h)⟩⟩
theorem Weak.of{P:Program}{c0:Cx}{s s':AState}(hn:c0.h.length<=s'.h.length)(ht:WkT s'.h.length s.t s'.t)(hh:WkH s'.h.length s.h s'.h):Weak P c0 s s':=by
 refine⟨fun ρ w vs h1 h2 h3=>⟨ρ,?_⟩⟩
 have him:∀ b o,(Cx.mk ρ s.h w c0.X).im b o->(Cx.mk ρ s'.h w c0.X).im b o:=fun b o h=>⟨h.1,h.2.1,fun i y hy hb=>by
  obtain⟨x,hx,hle⟩:=hh.get i y hy
  exact(hle.same_kind.2.2.2.1 o).2 (h.2.2 i x hx hb)⟩
 have hxf:∀ v b,RV ⟨ρ,s.h,w,c0.X⟩ v b->b.bel s'.h.length=true->RV ⟨ρ,s'.h,w,c0.X⟩ v b:=by
  intro v b hv hb;refine hv.xfer (fun b o h=>⟨him b o h,rfl⟩) (fun i hi=>⟨fun x hx hf=>?_,fun y hy=>?_,rfl⟩) (fun _ _ _ _=>rfl) hb
  ·have hy:=Vb hi;obtain⟨x',hx',l1⟩:=hh.get i _ hy;rw[hx] at hx';cases hx';exact⟨_,hy,l1.same_kind.2.1.symm.trans hf⟩
  ·obtain⟨x,hx,l1⟩:=hh.get i y hy;exact⟨x,hx,l1.same_kind.2.2.1,fun k m e=>(l1.same_kind.2.2.2.2 k m).1 e⟩
 have hev:Ev c0 ⟨ρ,s'.h,w,c0.X⟩:=by
  refine⟨h2.os,h2.tape,h2.output,h2.size,rfl,fun b o h=>⟨him b o (h2.im b o h).1,(h2.im b o h).2⟩,fun b hb hm=>⟨(h2.fr b hb hm).1,?_⟩,hn,fun i x hx hf=>?_,h2.keep⟩
  ·rintro⟨i,y,hy,hl,hρ⟩;obtain⟨x,hx,l1⟩:=hh.get i y hy;exact(h2.fr b hb hm).2 ⟨i,x,hx,l1.same_kind.1.trans hl,hρ⟩
  ·obtain⟨y,hy,hyf,g1,g2⟩:=h2.id i x hx hf;have hi:i<s'.h.length:=Nat.lt_of_lt_of_le (Va hx).1 hn;have hy':=Vb hi;obtain⟨y2,hy2,l1⟩:=hh.get i _ hy';simp only at hy;rw[hy] at hy2;cases hy2;exact⟨_,hy',l1.same_kind.2.1.symm.trans hyf,fun ht=>⟨l1.same_kind.2.2.1.symm.trans (g1 ht).1,(g1 ht).2⟩,fun k m e=>g2 k m ((l1.same_kind.2.2.2.2 k m).1 e)⟩
 refine⟨⟨fun i j x y b hx hy lx ly hb hb'=>?_,fun i x b hx hb=>?_,fun i x hx=>?_,fun b o h=>⟨(h1.xs b o h).1,fun i x hx hl hb=>?_⟩⟩,hev,h3.1.trans ht.len,fun i v b hv hb=>?_⟩
 ·obtain⟨x',hx',l1⟩:=hh.get i x hx;obtain⟨y',hy',l2⟩:=hh.get j y hy;exact h1.inj i j x' y' b hx' hy' (l1.same_kind.1.trans lx) (l2.same_kind.1.trans ly) hb hb'
 ·obtain⟨x',hx',l1⟩:=hh.get i x hx;exact h1.here i x' b hx' hb
 ·obtain⟨x',hx',l1⟩:=hh.get i x hx;have hk:=h1.blk i x' hx'
  cases l1 with
  |same _ hb=>
   cases x with
   |free=>exact hk
   |dead=>trivial
   |tok k n=>exact hk
   |box cs=>
    obtain⟨b,us,e,q1,q2,q3,q4⟩:=hk;exact⟨b,us,e,q1,q2,q3,fun j a ha=>by obtain⟨w1,v,w2,w3⟩:=q4 j a ha;exact⟨w1,v,w2,hxf v a w3 (belL_get hb j a ha)⟩⟩
   |rows k l=>
    obtain⟨b,us,e,q1,q2,q3,q4⟩:=hk;exact⟨b,us,e,q1,q2,q3,fun j y m a hy ha=>by obtain⟨v,w2,w3⟩:=q4 j y m a hy ha;exact⟨v,w2,hxf v a w3 (belL_get (belLL_get hb j y hy) m a ha)⟩⟩
   |map l=>
    obtain⟨b,es,q1,q2,q3,q4⟩:=hk
    exact⟨b,es,q1,q2,q3,fun j e p he hp=>by
     have:=List.all_eq_true.1 hb p (Vd hp);simp only[Vi] at this;obtain⟨w0,w1,w2⟩:=q4 j e p he hp
     exact⟨w0,hxf _ _ w1 this.1,hxf _ _ w2 this.2⟩⟩
   |iter m n seen=>
    obtain⟨b,mb,sa,q1,q2,q3,q4⟩:=hk;exact⟨b,mb,sa,q1,q2,q3,hxf _ _ q4 (by simpa [AV.bel,ABlk.bel] using hb)⟩
  |box hle hb=>
   obtain⟨b,us,e,q1,q2,q3,q4⟩:=hk
   exact⟨b,us,e,q1,q2,q3.trans hle.len,fun j a ha=>by
    obtain⟨a',ha',l2⟩:=hle.get j a ha;obtain⟨w1,v,w2,w3⟩:=q4 j a' ha'
    exact⟨l2.cell w1,v,w2,hxf v a (l2.rv w3) (belL_get hb j a ha)⟩⟩
 ·obtain⟨x',hx',l1⟩:=hh.get i x hx;exact(h1.xs b o h).2 i x' hx' (l1.same_kind.1.trans hl) hb
 ·obtain⟨a,g1,g2,g3⟩:=ht.get i b hb;exact hxf v b (g2.rv (h3.2 i v a hv g1)) g3
theorem Weak.own{P:Program}{c0:Cx}{s:AState}(j k:Nat)(hj:s.t[j]? = some .nils):Weak P c0 s ⟨s.t.set j (.sl k [] (.own s.h.length)),s.h++[.tok k 0]⟩:=by
 refine⟨fun ρ w vs h1 h2 h3=>?_⟩;obtain⟨g1,g2⟩:=Cx.grow h1;obtain⟨q1,q2⟩:=Cx.unborn g1 s.h.length k (by simp)
 have e:(s.h++[ABlk.free]).set s.h.length (.tok k 0)=s.h++[.tok k 0]:=by simp
 simp only[e] at q1 q2;have hev:=g2.trans q2;refine⟨_,q1,h2.trans hev,by simp[h3.1],fun i v x hv hx=>?_⟩;rw[List.getElem?_set] at hx
 split at hx
 ·rename_i hij;subst hij
  split at hx
  ·cases hx;have hr:=h3.2 j v _ hv hj;cases hr
   have hlast:(s.h++[ABlk.tok k 0])[s.h.length]? = some (.tok k 0):=by simp
   refine .sl k [] _ none 0 0 0 0 (fun _ _=>undef) rfl (Nat.le_refl _) (Nat.zero_le _) (fun h=>absurd rfl h) (fun j e h=>by simp at h) (fun j e i a h=>by simp at h) (fun j e i a h=>by simp at h) ⟨⟨_,hlast,rfl⟩,fun k' n' e=>?_⟩;simp only[hlast] at e;cases e;exact⟨rfl,Nat.le_refl _,fun _=>.inl rfl⟩
  ·cases hx
 ·exact(h3.2 i v x hv hx).mono hev
theorem Run.weak{P:Program}{f:FuncId}{c0:Cx}{R:AV->List ABlk->Prop}{k:List Item}{s s':AState}(hw:Weak P c0 s s')(h:Run P f c0 R k s'):Run P f c0 R k s:=⟨ARun.weak hw.h h.h⟩
theorem Run.loop{P:Program}{f:FuncId}{c0:Cx}{R:AV->List ABlk->Prop}{k:List Item}{s:AState}{α:Type}(L:α->AState)(μ:α->Nat){c:Code}(x0:α)(hw:Weak P c0 s (L x0))
  (round:∀ x,(∀ x' s',μ x'<μ x->Weak P c0 s' (L x')->Run P f c0 R (.inLoop c::k) s')->Run P f c0 R (.code c::.inLoop c::k) (L x)):Run P f c0 R (.code (.loop c)::k) s:=
 ⟨ARun.loop L μ x0 hw.h fun x ih=>(round x fun x' s' h1 h2=>⟨ih x' s' h1 h2.h⟩).h⟩
section
variable {P:Program} {f:FuncId} {c0:Cx} {R:AV->List ABlk->Prop} {T:TabT} {k:List Item} {s:AState} {ops:Array Oper} {n:Nat} {o:Oper} {rest:List Oper}
theorem Ops.call(hw:Wanted ops s.t o.guard true){x:Operand}{as:Array Operand}{ts:Array TypeId}(ho:o.op=.call { callee:=.value x,args:=as,argTypes:=ts })
  {g:FuncId} {fi ca:List AV} (hx:aev s.t x=.fn (.func g) fi ca) (hg:Callable P g) (h:ACall P g (fi++as.toList.map (aev s.t)++ca) s.h fun r h'=>Ops P f c0 R ops (n+1) rest k ⟨aput s.t o.dst r,h'⟩):Ops P f c0 R ops n (o::rest) k s:=
 ⟨AOps.call hw ho hx hg (h.mono fun _ _ h=>h.h)⟩
theorem ACall.of{fn:Func}{c:Code}{args:List AV}{h:List ABlk}(hf:P.funcs[f]? = some fn)(hb:fn.body=some c)
  (H:∀ c0:Cx,c0.h=h->Run P f c0 R [.code c] ⟨args++List.replicate (fn.ntmps-args.length) .junk,h⟩):ACall P f args h R:=ACall.body hf hb fun c0 hc=>(H c0 hc).h
end
def writes:Code->List Nat
 |.region _ ops _=>ops.toList.filterMap (·.dst)
 |.seq a b=>writes a++writes b
 |.cond _ a b=>writes a++writes b
 |.block _ c=>writes c
 |.loop c=>writes c
 |.scope c=>writes c
 |_=>[]
def junks(t:List AV):List Nat->List AV
 |[]=>t
 |j::js=>junks (t.set j .junk) js
def puts(t:List AV):List (Nat×AV)->List AV
 |[]=>t
 |(j,v)::js=>puts (t.set j v) js
def hputs(h:List ABlk):List (Nat×ABlk)->List ABlk
 |[]=>h
 |(j,v)::js=>hputs (h.set j v) js
theorem Run.loopV{P:Program}{f:FuncId}{c0:Cx}{R:AV->List ABlk->Prop}{k:List Item}{s:AState}{α:Type}(I:α->Prop)(V:α->List (Nat×AV))(n:Nat)(B:α->List (Nat×ABlk))(μ:α->Nat){c:Code}(x0:α)(h0:I x0)
  (hw:Weak P c0 s ⟨puts (junks s.t (writes c)) (V x0),hputs (s.h.take n) (B x0)⟩)
  (round:∀ x,I x->(∀ x' s',I x'->μ x'<μ x->Weak P c0 s' ⟨puts (junks s.t (writes c)) (V x'),hputs (s.h.take n) (B x')⟩->Run P f c0 R (.inLoop c::k) s')->Run P f c0 R (.code c::.inLoop c::k) ⟨puts (junks s.t (writes c)) (V x),hputs (s.h.take n) (B x)⟩):Run P f c0 R (.code (.loop c)::k) s:=
 Run.loop (α:={ x:α // I x }) (fun x=>⟨puts (junks s.t (writes c)) (V x.1),hputs (s.h.take n) (B x.1)⟩) (fun x=>μ x.1) ⟨x0,h0⟩ hw fun x ih=>round x.1 x.2 fun x' s' hx' h1 h2=>ih ⟨x',hx'⟩ s' h1 h2
structure Ent where
 v:AV
 d:List (Nat×ABlk)
 rd:List Nat
def aupds(h:List ABlk):List (Nat×ABlk)->List ABlk
 |[]=>h
 |(i,x)::d=>aupds (h.set i x) d
theorem aupds_one(h:List ABlk)(d:Option (Nat×ABlk)):aupds h d.toList=aupd h d:=by cases d<;>rfl
theorem aupds_len:∀ (d:List (Nat×ABlk)) (h:List ABlk),(aupds h d).length=h.length
 |[],_=>rfl
 |(i,x)::d,h=>by rw[aupds,aupds_len d];simp
theorem aupds_get:∀ (d:List (Nat×ABlk)) (h:List ABlk) {y:Nat},y∉d.map (·.1)->(aupds h d)[y]? = h[y]?
 |[],_,_,_=>rfl
 |(i,x)::d,h,y,hy=>by
  simp only[Yf,List.mem_cons,not_or] at hy;rw[aupds,aupds_get d _ hy.2,List.getElem?_set_ne (Ne.symm hy.1)]
theorem aupds_in:∀ (d:List (Nat×ABlk)) (h h':List ABlk) {y:Nat},y∈d.map (·.1)->h.length=h'.length->(aupds h d)[y]? = (aupds h' d)[y]?
 |[],_,_,_,hy,_=>by simp at hy
 |(i,x)::d,h,h',y,hy,hl=>by
  rw[aupds,aupds]
  by_cases hd:y∈d.map (·.1)
  ·exact aupds_in d _ _ hd (by simpa using hl)
  ·simp only[Yf,List.mem_cons] at hy
   rcases hy with rfl|hy
   ·rw[aupds_get d _ hd,aupds_get d _ hd,List.getElem?_set,List.getElem?_set,hl,if_pos rfl,if_pos rfl]
   ·exact absurd hy hd
theorem aupds_comm(d d':List (Nat×ABlk))(h:List ABlk)(hd:∀ y∈d.map (·.1),y∉d'.map (·.1)):aupds (aupds h d') d=aupds (aupds h d) d':=by
 apply List.ext_getElem?;intro y
 by_cases hy:y∈d.map (·.1)
 ·rw[aupds_get d' _ (hd y hy)];exact aupds_in d _ _ hy (aupds_len d' h)
 ·rw[aupds_get d _ hy]
  by_cases hy':y∈d'.map (·.1)
  ·exact aupds_in d' _ _ hy' (aupds_len d h).symm
  ·rw[aupds_get d' _ hy',aupds_get d' _ hy',aupds_get d _ hy]
def Ent.app(e:Ent)(o:Oper)(s:AState):AState:=⟨aput s.t o.dst e.v,aupds s.h e.d⟩
def Ent.wr(e:Ent):List Nat:=e.d.map (·.1)
def maskOf(o:Oper)(acc:List Nat):Nat:=o.after.toList.foldl (fun m e=>if Region.binds .any e then m ||| 2^e.on ||| acc.getD e.on 0 else m) 0
def masks:List Oper->List Nat->List Nat
 |[],acc=>acc
 |o::r,acc=>masks r (acc++[maskOf o acc])
def statOk(ops:Array Oper):Bool:=
 let ms:=masks ops.toList []
 (List.range ops.size).all fun j=>match ops[j]? with
  |some oj=>oj.after.toList.all (fun e=>!Region.binds .any e||decide (e.on<j))&&(List.range j).all fun i=>(ms.getD j 0).testBit i||(match ops[i]? with|some oi=>Oper.apart ops oi oj|none=>true)
  |none=>true
def disj(xs ys:List Nat):Bool:=xs.all fun x=>!ys.contains x
def dynOk(ms:List Nat)(es:List Ent):Bool:=
 (List.range es.length).all fun j=>match es[j]? with
  |some ej=>(List.range j).all fun i=>(ms.getD j 0).testBit i||(match es[i]? with|some ei=>disj ei.wr ej.rd&&disj ei.wr ej.wr&&disj ei.rd ej.wr|none=>true)
  |none=>true
inductive Bef(ops:Array Oper):Nat->Nat->Prop where
 |one {i j:Nat} {o:Oper} {e:Edge} (hj:ops[j]? = some o) (he:e∈o.after.toList) (hb:Region.binds .any e=true) (hi:e.on=i):Bef ops i j
 |more {i j:Nat} {o:Oper} {e:Edge} (hj:ops[j]? = some o) (he:e∈o.after.toList) (hb:Region.binds .any e=true) (h:Bef ops i e.on):Bef ops i j
theorem maskOf_ok{ops:Array Oper}{acc:List Nat}{j:Nat}{o:Oper}(hj:ops[j]? = some o)(ha:∀ k i,(acc.getD k 0).testBit i=true->Bef ops i k)(i:Nat)(h:(maskOf o acc).testBit i=true):Bef ops i j:=by
 unfold maskOf at h
 have key:∀ (l:List Edge) (m:Nat),(∀ e∈l,e∈o.after.toList)->(l.foldl (fun m e=>if Region.binds .any e then m ||| 2^e.on ||| acc.getD e.on 0 else m) m).testBit i=true->m.testBit i=true\/Bef ops i j:=by
  intro l
  induction l with
  |nil=>intro m _ h;exact .inl h
  |cons e l ih=>
   intro m hm h;rw[List.foldl_cons] at h
   rcases ih _ (fun e he=>hm e (by simp[he])) h with h|h
   ·split at h
    ·rename_i hb;rw[Nat.testBit_or,Nat.testBit_or,Nat.testBit_two_pow] at h;simp only[Bool.or_eq_true,decide_eq_true_eq] at h
     rcases h with(h|h)|h
     ·exact .inl h
     ·exact .inr (.one hj (hm e (by simp)) hb h)
     ·exact .inr (.more hj (hm e (by simp)) hb (ha _ _ h))
    ·exact .inl h
   ·exact .inr h
 rcases key _ 0 (fun e h=>h) h with h|h
 ·simp at h
 ·exact h
theorem masks_ok{ops:Array Oper}:∀ (l:List Oper) (acc:List Nat),ops.toList.drop acc.length=l->(∀ k i,(acc.getD k 0).testBit i=true->Bef ops i k)->∀ k i,((masks l acc).getD k 0).testBit i=true->Bef ops i k
 |[],acc,_,h=>h
 |o::r,acc,hl,h=>by
  obtain⟨ho,hr⟩:=range'_cons hl;refine masks_ok r (acc++[maskOf o acc]) (by simpa using hr) fun k i hk=>?_;rw[List.getD_eq_getElem?_getD,List.getElem?_append] at hk
  split at hk
  ·rw[<- List.getD_eq_getElem?_getD] at hk;exact h k i hk
  ·rename_i hlt
   by_cases he:k=acc.length
   ·subst he;rw[Nat.sub_self] at hk;exact maskOf_ok ho h i hk
   ·rw[List.getElem?_eq_none (by simp;omega)] at hk;simp at hk
def Closed(ops:Array Oper)(D:Nat->Bool):Prop:=∀ j o e,ops[j]? = some o->D j=true->e∈o.after.toList->Region.binds .any e=true->D e.on=true
theorem Closed.bef{ops:Array Oper}{D:Nat->Bool}(h:Closed ops D){i j:Nat}(hb:Bef ops i j)(hj:D j=true):D i=true:=by
 induction hb with
 |one hj' he hb hi=>exact hi▸h _ _ _ hj' hj he hb
 |more hj' he hb _ ih=>exact ih (h _ _ _ hj' hj he hb)
theorem Bef.pre{ops:Array Oper}{D:Nat->Bool}(h:Closed ops D){i j:Nat}(hb:Bef ops i j)(hp:∀ o e,ops[j]? = some o->e∈o.after.toList->Region.binds .any e=true->D e.on=true):D i=true:=by
 cases hb with
 |one hj he hb hi=>exact hi▸hp _ _ hj he hb
 |more hj he hb h'=>exact h.bef h' (hp _ _ hj he hb)
def sub(D:Nat->Bool):Nat->List Oper->List Ent->AState->AState
 |n,o::os,e::es,s=>sub D (n+1) os es (if D n then e.app o s else s)
 |_,_,_,s=>s
theorem aput_get{t:List AV}{d:Option Nat}{v:AV}{x:Nat}(h:d≠some x):(aput t d v)[x]? = t[x]?:=by
 cases d with
 |none=>rfl
 |some i=>
  have:i≠x:=fun e=>h (by rw[e]);simp[aput,List.getElem?_set_ne this]
theorem sub_tmp{D D':Nat->Bool}{x:Nat}:∀ (os:List Oper) (es:List Ent) (n:Nat) (s s':AState),s.t.length=s'.t.length->s.t[x]? = s'.t[x]?->(∀ j o,os[j]? = some o->o.dst=some x->D (n+j)=D' (n+j))->(sub D n os es s).t[x]? = (sub D' n os es s').t[x]?
 |[],es,n,s,s',_,h,_=>by simpa [sub] using h
 |o::os,[],n,s,s',_,h,_=>by simpa [sub] using h
 |o::os,e::es,n,s,s',hl,h,hD=>by
  simp only[sub]
  have hlen:∀ (s:AState) (b:Bool),(if b then e.app o s else s).t.length=s.t.length:=by intro s b;cases b<;>simp[Ent.app,aput];cases o.dst<;>simp
  refine sub_tmp os es (n+1) _ _ (by rw[hlen,hlen,hl]) ?_ fun j o' ho hd=>by have:=hD (j+1) o' (by simpa using ho) hd;rwa [<- Nat.add_assoc,Nat.add_right_comm] at this
  by_cases hx:o.dst=some x
  ·have:=hD 0 o rfl hx;rw[Nat.add_zero] at this;rw[this]
   cases D' n with
   |false=>exact h
   |true=>
    simp only[Ys,Ent.app,aput,hx,List.getElem?_set];rw[hl]
  ·have key:∀ (s:AState) (b:Bool),(if b then e.app o s else s).t[x]? = s.t[x]?:=by
    intro s b
    cases b with
    |false=>rfl
    |true=>exact aput_get hx
   rw[key,key,h]
theorem sub_blk{D D':Nat->Bool}{y:Nat}:∀ (os:List Oper) (es:List Ent) (n:Nat) (s s':AState),s.h.length=s'.h.length->s.h[y]? = s'.h[y]?->(∀ j e,es[j]? = some e->y∈e.wr->D (n+j)=D' (n+j))->(sub D n os es s).h[y]? = (sub D' n os es s').h[y]?
 |[],es,n,s,s',_,h,_=>by simpa [sub] using h
 |o::os,[],n,s,s',_,h,_=>by simpa [sub] using h
 |o::os,e::es,n,s,s',hl,h,hD=>by
  simp only[sub]
  have hlen:∀ (s:AState) (b:Bool),(if b then e.app o s else s).h.length=s.h.length:=by
   intro s b
   cases b with
   |false=>rfl
   |true=>simp only[Ys,Ent.app];exact aupds_len _ _
  refine sub_blk os es (n+1) _ _ (by rw[hlen,hlen,hl]) ?_ fun j o' ho hd=>by have:=hD (j+1) o' (by simpa using ho) hd;rwa [<- Nat.add_assoc,Nat.add_right_comm] at this
  by_cases hx:y∈e.wr
  ·have:=hD 0 e rfl hx;rw[Nat.add_zero] at this;rw[this]
   cases D' n with
   |false=>exact h
   |true=>
    exact aupds_in _ _ _ hx hl
  ·have key:∀ (s:AState) (b:Bool),(if b then e.app o s else s).h[y]? = s.h[y]?:=by
    intro s b
    cases b with
    |false=>rfl
    |true=>
     exact aupds_get _ _ hx
   rw[key,key,h]
theorem sub_tlen{D:Nat->Bool}:∀ (os:List Oper) (es:List Ent) (n:Nat) (s:AState),(sub D n os es s).t.length=s.t.length
 |[],_,_,_=>by simp[sub]
 |_::_,[],_,_=>by simp[sub]
 |o::os,e::es,n,s=>by
  simp only[sub];rw[sub_tlen os es]
  split
  ·simp only[Ent.app,aput];cases o.dst<;>simp
  ·rfl
theorem app_comm{e e':Ent}{o o':Oper}(h1:∀ d,o.dst=some d->o'.dst≠some d)(h2:disj e.wr e'.wr=true)(s:AState):e.app o (e'.app o' s)=e'.app o' (e.app o s):=by
 obtain⟨v,d,rd⟩:=e;obtain⟨v',d',rd'⟩:=e'
 have ht:aput (aput s.t o'.dst v') o.dst v=aput (aput s.t o.dst v) o'.dst v':=by
  cases hd:o.dst with
  |none=>rfl
  |some i=>
   cases hd':o'.dst with
   |none=>rfl
   |some j=>
    have:j≠i:=fun e=>h1 i hd (by rw[hd',e]);exact List.set_comm _ _ this
 have hh:aupds (aupds s.h d') d=aupds (aupds s.h d) d':=aupds_comm d d' s.h fun y hy hy'=>by
  have:=List.all_eq_true.1 h2 y hy;simp only[Bool.not_eq_true',List.contains_eq_mem,decide_eq_false_iff_not] at this;exact this hy'
 simp only[Ent.app,ht,hh]
theorem sub_add{D:Nat->Bool}{e:Ent}{o:Oper}:∀ (os:List Oper) (es:List Ent) (n:Nat) (s:AState),(∀ j o' e',os[j]? = some o'->es[j]? = some e'->D (n+j)=true->(∀ d,o.dst=some d->o'.dst≠some d)/\disj e.wr e'.wr=true) ->
  sub D n os es (e.app o s)=e.app o (sub D n os es s)
 |[],es,n,s,_=>by simp[sub]
 |o'::os,[],n,s,_=>by simp[sub]
 |o'::os,e'::es,n,s,h=>by
  simp only[sub];have hrest:=fun s=>sub_add (D:=D) (e:=e) (o:=o) os es (n+1) s fun j o2 e2 ho he hD=>h (j+1) o2 e2 (by simpa using ho) (by simpa using he) (by rwa [<- Nat.add_assoc,Nat.add_right_comm])
  cases hDn:D n with
  |false=>simpa using hrest s
  |true=>
   simp only[Ys];obtain⟨h1,h2⟩:=h 0 o' e' rfl rfl (by simpa using hDn);rw[<- app_comm h1 h2,hrest]
theorem sub_set{D:Nat->Bool}{i:Nat}(hD:D i=false):∀ (os:List Oper) (es:List Ent) (n:Nat) (s:AState) (o:Oper) (e:Ent),os[i-n]? = some o->es[i-n]? = some e->n<=i ->
  (∀ j o' e',i<n+j->os[j]? = some o'->es[j]? = some e'->D (n+j)=true->(∀ d,o.dst=some d->o'.dst≠some d)/\disj e.wr e'.wr=true) ->
  sub (fun j=>D j||j==i) n os es s=e.app o (sub D n os es s)
 |[],es,n,s,o,e,ho,_,_,_=>by simp at ho
 |o'::os,[],n,s,o,e,_,he,_,_=>by simp at he
 |o'::os,e'::es,n,s,o,e,ho,he,hn,h=>by
  simp only[sub]
  by_cases hin:n=i
  ·subst hin;simp only[Nat.sub_self,Y1,Option.some.injEq] at ho he;subst ho he;simp only[hD,beq_self_eq_true,Bool.or_true,Ys,Y8,Yr]
   have e1:∀ s,sub (fun j=>D j||j==n) (n+1) os es s=sub D (n+1) os es s:=by
    intro s
    have:∀ (os:List Oper) (es:List Ent) (m:Nat) (s:AState),n<m->sub (fun j=>D j||j==n) m os es s=sub D m os es s:=by
     intro os
     induction os with
     |nil=>intro es m s _;simp[sub]
     |cons o os ih=>
      intro es m s hm
      cases es with
      |nil=>simp[sub]
      |cons e es=>
       have:(m==n)=false:=by simp;omega
       simp only[sub,this,Bool.or_false];exact ih es (m+1) _ (by omega)
    exact this os es (n+1) s (by omega)
   rw[e1];exact sub_add os es (n+1) s fun j o2 e2 ho he hD=>h (j+1) o2 e2 (by omega) (by simpa using ho) (by simpa using he) (by rwa [<- Nat.add_assoc,Nat.add_right_comm])
  ·have hne:(n==i)=false:=by simpa using hin
   have hidx:i-n=(i-(n+1))+1:=by omega
   rw[hidx,List.getElem?_cons_succ] at ho he;simp only[hne,Bool.or_false];exact sub_set hD os es (n+1) _ o e ho he (by omega) fun j o2 e2 hj ho he hD=>h (j+1) o2 e2 (by omega) (by simpa using ho) (by simpa using he) (by rwa [<- Nat.add_assoc,Nat.add_right_comm])
def Rel(c0:Cx)(s:AState)(a:Act)(w:World):Prop:=∃ ρ,RelH ⟨ρ,s.h,w,c0.X⟩/\Ev c0 ⟨ρ,s.h,w,c0.X⟩/\TRel ⟨ρ,s.h,w,c0.X⟩ a.tmps s.t/\a.defers=[]
def StepOk(P:Program)(c0:Cx)(ops:Array Oper)(i:Nat)(o:Oper)(s:AState)(e:Ent):Prop:=
 ∀ s':AState,s'.t.length=s.t.length->(∀ x∈o.looksAt ops,s'.t[x]? = s.t[x]?)->(∀ y∈e.rd,s'.h[y]? = s.h[y]?) ->
  ∀ (a:Act) (w:World) (K:Act->World->Prop) (Q:Exit->Act->World->Prop),Rel c0 s' a w->(∀ a' w',Rel c0 (e.app o s') a' w'->K a' w')->wpOp P ops Q i K a w
def TraceOk(P:Program)(c0:Cx)(ops:Array Oper):Nat->List Oper->List Ent->AState->Prop
 |n,o::os,e::es,s=>StepOk P c0 ops n o s e/\TraceOk P c0 ops (n+1) os es (e.app o s)
 |_,_,_,_=>True
section
variable {P:Program} {c0:Cx} {ops:Array Oper}
theorem sub_congr{D D':Nat->Bool}:∀ (os:List Oper) (es:List Ent) (n:Nat) (s:AState),(∀ j,j<os.length->D (n+j)=D' (n+j))->sub D n os es s=sub D' n os es s
 |[],_,_,_,_=>by simp[sub]
 |_::_,[],_,_,_=>by simp[sub]
 |o::os,e::es,n,s,h=>by
  have h0:=h 0 (by simp);rw[Nat.add_zero] at h0;simp only[sub,h0]
  exact sub_congr os es (n+1) _ fun j hj=>by have:=h (j+1) (by simpa using hj);rwa [<- Nat.add_assoc,Nat.add_right_comm] at this
theorem TraceOk.at_:∀ (os:List Oper) (es:List Ent) (n:Nat) (s:AState),TraceOk P c0 ops n os es s->∀ j o e,os[j]? = some o->es[j]? = some e->StepOk P c0 ops (n+j) o (sub (fun q=>decide (q<n+j)) n os es s) e
 |[],_,_,_,_,j,o,e,ho,_=>by simp at ho
 |_::_,[],_,_,_,j,o,e,_,he=>by simp at he
 |o'::os,e'::es,n,s,h,j,o,e,ho,he=>by
  obtain⟨h1,h2⟩:=h
  cases j with
  |zero=>
   simp only[Y1,Option.some.injEq] at ho he;subst ho he
   have:sub (fun q=>decide (q<n+0)) n (o'::os) (e'::es) s=s:=by
    have:∀ (os:List Oper) (es:List Ent) (m:Nat) (s:AState),n<=m->sub (fun q=>decide (q<n+0)) m os es s=s:=by
     intro os
     induction os with
     |nil=>intro es m s _;simp[sub]
     |cons o os ih=>
      intro es m s hm
      cases es with
      |nil=>simp[sub]
      |cons e es=>
       have:¬m<n+0:=by omega
       simp only[sub,this,decide_false,Y8,Yr];exact ih es (m+1) s (by omega)
    exact this _ _ n s (Nat.le_refl _)
   rw[this];exact h1
  |succ j=>
   have:=TraceOk.at_ os es (n+1) _ h2 j o e (by simpa using ho) (by simpa using he)
   have e1:n+1+j=n+(j+1):=by omega
   rw[e1] at this
   have e2:n<n+(j+1):=by omega
   simp only[sub,e2,decide_true,Ys];exact this
theorem countP_lt{p p':Nat->Bool}{i:Nat}:∀ {l:List Nat},(∀ x,p' x=true->p x=true)->i∈l->p i=true->p' i=false->l.countP p'<l.countP p
 |[],_,hi,_,_=>by simp at hi
 |x::l,h,hi,h1,h2=>by
  have hle:l.countP p'<=l.countP p:=List.countP_mono_left fun x _=>h x
  by_cases hx:x=i
  ·subst hx;rw[List.countP_cons_of_pos h1,List.countP_cons_of_neg (by simp[h2])];omega
  ·have hi':i∈l:=by
    rcases List.mem_cons.1 hi with e|e
    ·exact absurd e.symm hx
    ·exact e
   have ih:=countP_lt h hi' h1 h2;simp only[List.countP_cons]
   have:(if p' x=true then 1 else 0)<=(if p x=true then 1 else 0):=by
    cases hpx:p' x with
    |false=>simp
    |true=>simp[h x hpx]
   omega
theorem all_range{n:Nat}{p:Nat->Bool}(h:(List.range n).all p=true){i:Nat}(hi:i<n):p i=true:=List.all_eq_true.1 h i (List.mem_range.2 hi)
theorem ARun.draw{f:FuncId}{R:AV->List ABlk->Prop}{k:List Item}{s:AState}{id:Nat}(hm:P.follows .mixedOrders=true)(hst:statOk ops=true)(es:List Ent)(hlen:es.length=ops.size)
  (htr:TraceOk P c0 ops 0 ops.toList es s) (hdyn:dynOk (masks ops.toList []) es=true) (hk:ARun P f c0 R k (sub (fun _=>true) 0 ops.toList es s)):ARun P f c0 R (.code (.region id ops true)::k) s:=fun ρ w a h1 h2 h3 h4=>by
 refine Goes.of_wp (wp_region_any hm ?_);have hbef:∀ i j,((masks ops.toList []).getD j 0).testBit i=true->Bef ops i j:=fun i j h=>masks_ok ops.toList [] rfl (fun k i h=>by simp at h) j i h
 -- what the checks say of two operations
 have stat:∀ i j oi oj,i<j->ops[i]? = some oi->ops[j]? = some oj->Bef ops i j\/((∀ d,oi.dst=some d->d∉oj.looksAt ops)/\(∀ d,oi.dst=some d->oj.dst≠some d)/\(∀ d,oj.dst=some d->d∉oi.looksAt ops)):=by
  intro i j oi oj hij hi hj;have hjn:j<ops.size:=(Array.getElem?_eq_some_iff.1 hj).1;have:=all_range hst hjn;simp only[hj,Vi] at this;have:=all_range this.2 hij;simp only[Bool.or_eq_true,hi] at this
  rcases this with h|h
  ·exact .inl (hbef i j h)
  ·exact .inr (Oper.apart_spec h)
 have back:∀ j oj e,ops[j]? = some oj->e∈oj.after.toList->Region.binds .any e=true->e.on<j:=by
  intro j oj e hj he hb;have hjn:j<ops.size:=(Array.getElem?_eq_some_iff.1 hj).1;have:=all_range hst hjn;simp only[hj,Vi] at this;have:=List.all_eq_true.1 this.1 e he
  simpa [hb] using this
 have dyn:∀ i j ei ej,i<j->es[i]? = some ei->es[j]? = some ej->Bef ops i j\/(disj ei.wr ej.rd=true/\disj ei.wr ej.wr=true/\disj ei.rd ej.wr=true):=by
  intro i j ei ej hij hi hj;have hjn:j<es.length:=(Va hj).1;have:=all_range hdyn hjn;simp only[hj] at this;have:=all_range this hij;simp only[Bool.or_eq_true,hi,Vi] at this
  rcases this with h|⟨⟨h,h'⟩,h''⟩
  ·exact .inl (hbef i j h)
  ·exact .inr ⟨h,h',h''⟩
 have hdisj:∀ {xs ys:List Nat} {y:Nat},disj xs ys=true->y∈xs->y∉ys:=by
  intro xs ys y h hy hy';have:=List.all_eq_true.1 h y hy;simp[hy'] at this
 have hstep:=fun(j:Nat) o e (ho:ops.toList[j]? = some o) he=>by have:=TraceOk.at_ ops.toList es 0 s htr j o e ho he;rwa [Nat.zero_add] at this
 have key:∀ (fuel:Nat) (listed:Array Bool) (a:Act) (w:World),listed.size=ops.size->Closed ops (fun j=>listed.getD j false)->(List.range ops.size).countP (fun j=>!listed.getD j true)<=fuel ->
   Rel c0 (sub (fun j=>listed.getD j false) 0 ops.toList es s) a w->wpAny P .any ops (fun e a' w'=>e=.normal/\Goes P f (fun v w'=>∃ ρ' r h',RelH ⟨ρ',h',w',c0.X⟩/\Ev c0 ⟨ρ',h',w',c0.X⟩/\RV ⟨ρ',h',w',c0.X⟩ v r/\R r h') k a' w') fuel listed a w:=by
  intro fuel;have hdone:∀ (listed:Array Bool) (a:Act) (w:World),listed.size=ops.size->(∀ j,j<ops.size->listed.getD j true=true)->Rel c0 (sub (fun j=>listed.getD j false) 0 ops.toList es s) a w ->
    Goes P f (fun v w'=>∃ ρ' r h',RelH ⟨ρ',h',w',c0.X⟩/\Ev c0 ⟨ρ',h',w',c0.X⟩/\RV ⟨ρ',h',w',c0.X⟩ v r/\R r h') k a w:=by
   intro listed a w hsz hall ⟨ρ,q1,q2,q3,q4⟩
   have:sub (fun j=>listed.getD j false) 0 ops.toList es s=sub (fun _=>true) 0 ops.toList es s:=sub_congr _ _ _ _ fun j hj=>by
    have hj':j<ops.size:=by simpa using hj
    have:=hall j hj';rw[Nat.zero_add]
    have hjl:j<listed.size:=by omega
    rw[Array.getD_eq_getD_getElem?,Vc hjl] at this ⊢;exact this
   rw[this] at q1 q2 q3;exact hk ρ w a q1 q2 q3 q4
  have hready:∀ (listed:Array Bool),listed.size=ops.size->Region.ready .any ops listed=[]->∀ j,j<ops.size->listed.getD j true=true:=by
   intro listed hsz hnil j
   induction j using Nat.strongRecOn with
   |_ j ih=>
    intro hj;apply Vf;intro hnot
    have hmem:j∈Region.ready .any ops listed:=by
     refine List.mem_filter.2 ⟨List.mem_range.2 hj,?_⟩;simp only[Vi,Bool.not_eq_true'];refine⟨by simpa using hnot,?_⟩;have hoj:ops[j]? = some ops[j]:=Vc hj;rw[hoj];simp only[Yc,Y4];rw[Array.all_eq_true_iff_forall_mem];intro e he
     cases hb:Region.binds .any e with
     |false=>rfl
     |true=>
      have hlt:=back j _ e hoj (by simpa using he) hb;have:=ih e.on hlt (by omega)
      have hjl:e.on<listed.size:=by omega
      rw[Array.getD_eq_getD_getElem?,Vc hjl] at this ⊢
      simpa using this
    rw[hnil] at hmem;simp at hmem
  induction fuel with
  |zero=>
   intro listed a w hsz hcl hcnt hrel
   have h0:∀ j,j<ops.size->listed.getD j true=true:=by
    intro j hj;have:=List.countP_eq_zero.1 (Nat.le_zero.1 hcnt) j (List.mem_range.2 hj)
    simpa using this
   refine⟨?_,rfl,hdone listed a w hsz h0 hrel⟩;refine List.filter_eq_nil_iff.2 fun j hj=>?_;rw[h0 j (List.mem_range.1 hj)];simp
  |succ fuel ih=>
   intro listed a w hsz hcl hcnt hrel;refine⟨fun hnil=>⟨rfl,hdone listed a w hsz (hready listed hsz hnil) hrel⟩,fun i hi=>?_⟩;obtain⟨hir,hcond⟩:=List.mem_filter.1 hi;have hin:i<ops.size:=List.mem_range.1 hir;simp only[Vi,Bool.not_eq_true'] at hcond;obtain⟨hnl,hpre⟩:=hcond;have hoi:ops[i]? = some ops[i]:=Vc hin;rw[hoi] at hpre;simp only[Yc,Y4] at hpre;rw[Array.all_eq_true_iff_forall_mem] at hpre
   have hil:i<listed.size:=by omega
   have hDi:listed.getD i false=false:=by
    rw[Array.getD_eq_getD_getElem?,Vc hil] at hnl ⊢;exact hnl
   have hpre':∀ o e,ops[i]? = some o->e∈o.after.toList->Region.binds .any e=true->listed.getD e.on false=true:=by
    intro o e ho he hb;rw[hoi] at ho;cases ho;have:=hpre e (by simpa using he)
    simpa [hb] using this
   have hie:i<es.length:=by omega
   have hei:es[i]? = some es[i]:=Vb hie;generalize ops[i]=oi at *;generalize es[i]=ei at *
   have hoi':ops.toList[i]? = some oi:=by simpa using hoi
   have hD:∀ j,j<i->Bef ops j i->listed.getD j false=true:=fun j _ hb=>Bef.pre hcl hb hpre'
   have hD':∀ j,Bef ops i j->listed.getD j false=false:=fun j hb=>by
    cases hj:listed.getD j false with
    |false=>rfl
    |true=>have h:listed.getD i false=true:=hcl.bef hb hj;rw[hDi] at h;cases h
   refine hstep i oi ei hoi' hei _ (by rw[sub_tlen,sub_tlen]) (fun x hx=>?_) (fun y hy=>?_) a w _ _ hrel fun a' w' hr=>?_
   ·refine sub_tmp _ _ _ _ _ rfl rfl fun j oj hoj hdj=>?_;rw[Nat.zero_add]
    have hoj':ops[j]? = some oj:=by simpa using hoj
    rcases Nat.lt_trichotomy j i with hlt|rfl|hgt
    ·rw[decide_eq_true hlt]
     rcases stat j i oj oi hlt hoj' hoi with hb|⟨h1,_,_⟩
     ·exact hD j hlt hb
     ·exact absurd hx (h1 x hdj)
    ·simp[hDi]
    ·rw[decide_eq_false (by omega)]
     rcases stat i j oi oj hgt hoi hoj' with hb|⟨_,_,h1⟩
     ·exact hD' j hb
     ·exact absurd hx (h1 x hdj)
   ·refine sub_blk _ _ _ _ _ rfl rfl fun j ej hej hwj=>?_;rw[Nat.zero_add]
    rcases Nat.lt_trichotomy j i with hlt|rfl|hgt
    ·rw[decide_eq_true hlt]
     rcases dyn j i ej ei hlt hej hei with hb|⟨h1,_,_⟩
     ·exact hD j hlt hb
     ·exact absurd hy (hdisj h1 hwj)
    ·simp[hDi]
    ·rw[decide_eq_false (by omega)]
     rcases dyn i j ei ej hgt hei hej with hb|⟨_,_,h1⟩
     ·exact hD' j hb
     ·exact absurd hwj (hdisj h1 hy)
   ·have hset:∀ j,(listed.setIfInBounds i true).getD j false=(listed.getD j false||j==i):=fun j=>by
     rw[Array.getD_eq_getD_getElem?,Array.getD_eq_getD_getElem?,Array.getElem?_setIfInBounds]
     by_cases hji:i=j
     ·subst hji;simp[hil]
     ·have:(j==i)=false:=by simp;omega
      simp[hji,this]
    have e1:sub (fun j=>(listed.setIfInBounds i true).getD j false) 0 ops.toList es s=ei.app oi (sub (fun j=>listed.getD j false) 0 ops.toList es s):=by
     have:(fun j=>(listed.setIfInBounds i true).getD j false)=(fun j=>listed.getD j false||j==i):=funext hset;rw[this];refine sub_set (D:=fun j=>listed.getD j false) hDi ops.toList es 0 s oi ei hoi' hei (Nat.zero_le _) fun j oj ej hj hoj hej hDj=>?_;rw[Nat.zero_add] at hj hDj
     have hoj':ops[j]? = some oj:=by simpa using hoj
     have hno:¬Bef ops i j:=fun hb=>by rw[hD' j hb] at hDj;cases hDj
     refine⟨?_,?_⟩
     ·rcases stat i j oi oj hj hoi hoj' with hb|⟨_,h1,_⟩
      ·exact absurd hb hno
      ·exact h1
     ·rcases dyn i j ei ej hj hei hej with hb|⟨_,h1,_⟩
      ·exact absurd hb hno
      ·exact h1
    refine ih _ a' w' (by simpa using hsz) (fun j o e ho hj he hb=>?_) ?_ (by rw[e1];exact hr)
    ·simp only[hset] at hj ⊢;simp only[Bool.or_eq_true,beq_iff_eq] at hj ⊢
     rcases hj with hj|rfl
     ·exact .inl (hcl j o e ho hj he hb)
     ·exact .inl (hpre' o e ho he hb)
    ·have hlt:(List.range ops.size).countP (fun j=>!(listed.setIfInBounds i true).getD j true)<(List.range ops.size).countP (fun j=>!listed.getD j true):=by
      refine countP_lt (i:=i) (fun x hx=>?_) hir (by simp[hnl]) ?_
      ·simp only[Bool.not_eq_true'] at hx ⊢;rw[Array.getD_eq_getD_getElem?,Array.getElem?_setIfInBounds] at hx;rw[Array.getD_eq_getD_getElem?]
       by_cases hix:i=x
       ·subst hix;rw[if_pos rfl,if_pos hil] at hx;simp at hx
       ·rw[if_neg hix] at hx;exact hx
      ·rw[Array.getD_eq_getD_getElem?,Array.getElem?_setIfInBounds];simp[hil]
     omega
 refine key ops.size (Array.replicate ops.size false) a _ (by simp) (fun j o e ho hj he hb=>?_) ?_ ?_
 ·exfalso
  simp only at hj;rw[Array.getD_eq_getD_getElem?,Array.getElem?_replicate] at hj
  split at hj<;>simp at hj
 ·exact Nat.le_trans List.countP_le_length (by simp)
 ·have e0:sub (fun j=>(Array.replicate ops.size false).getD j false) 0 ops.toList es s=s:=by
   have hf:∀ j,(Array.replicate ops.size false).getD j false=false:=fun j=>by
    rw[Array.getD_eq_getD_getElem?,Array.getElem?_replicate]
    split<;>rfl
   have:∀ (os:List Oper) (es:List Ent) (m:Nat) (s:AState),sub (fun j=>(Array.replicate ops.size false).getD j false) m os es s=s:=by
    intro os
    induction os with
    |nil=>intro es m s;simp[sub]
    |cons o os ih=>
     intro es m s
     cases es with
     |nil=>simp[sub]
     |cons e es=>
      have:=ih es (m+1) s;simp only[hf] at this;simp only[sub,hf,Y8,Yr];exact this
   exact this _ _ _ _
  rw[e0]
  have hev:Ev ⟨ρ,s.h,w,c0.X⟩ ⟨ρ,s.h,{ w with drawn:=w.drawn+1 },c0.X⟩:=⟨rfl,rfl,rfl,Nat.le_refl _,rfl,fun _ _ h=>⟨h,rfl⟩,fun _ _ h=>⟨rfl,h⟩,Nat.le_refl _,fun _ x h hf=>⟨x,h,hf,fun ht=>⟨ht,rfl⟩,fun _ n e=>⟨n,e,.inr ⟨rfl,rfl,fun _ _=>rfl⟩⟩⟩,fun _ vs _ _ h=>⟨vs,h,rfl⟩⟩
  exact⟨ρ,⟨h1.inj,h1.here,fun i x hx=>(h1.blk i x hx).mono hev rfl fun _ _ _=>rfl,h1.xs⟩,h2.trans hev,h3.mono hev,h4⟩
end
def AV.id:AV->List Nat
 |.ptr i _=>[i]
 |.eptr i _ _ _=>[i]
 |.sl _ _ (.own i)=>[i]
 |.mp i=>[i]
 |.msl i _ _ _ _=>[i]
 |.msu i _ _=>[i]
 |_=>[]
def AV.mid:AV->List Nat
 |.msl i _ _ _ _=>[i]
 |_=>[]
def rdOf(t:List AV):Op->List Nat
 |.load _ x=>(aev t x).id
 |.store _ x _=>(aev t x).id
 |.mapEntry _ m _=>(aev t m).id
 |.mapUpdate _ m _ _|.insert _ m _ _=>(aev t m).id
 |.entryStore _ m _ _=>(aev t m).id
 |.lookup _ m _ _=>(aev t m).id
 |.range _ m=>(aev t m).id
 |.call { callee:=.builtin .append,args,.. }=>match args.toList with|x::y::_=>(aev t x).id++(aev t y).mid|x::_=>(aev t x).id|[]=>[]
 |.call { callee:=.builtin .clear,args,.. }=>match args.toList with|x::_=>(aev t x).id|[]=>[]
 |.call { callee:=.builtin .copy,args,.. }=>match args.toList with|x::y::_=>(aev t x).id++(aev t y).id|_=>[]
 |_=>[]
section
variable {P:Program} {T:TabT} {c0:Cx} {ops:Array Oper}
theorem aop_local{slot:Nat}{t t':List AV}{h h':List ABlk}{op:Op}(ht:∀ x∈op.operands,aev t' x=aev t x)(hh:∀ y∈rdOf t op,h'[y]? = h[y]?):aop T slot t' h' op=aop T slot t h op:=by
 have hload:∀ (ti:TI) (p:AV),(∀ y∈p.id,h'[y]? = h[y]?)->aload h' ti p=aload h ti p:=by
  intro ti p hp;cases p<;>simp only[aload]
  ·rw[hp _ (by simp[AV.id])]
  ·rw[hp _ (by simp[AV.id])]
 have hstore:∀ (ti:TI) (v p:AV),(∀ y∈p.id,h'[y]? = h[y]?)->astore h' ti v p=astore h ti v p:=by
  intro ti v p hp;cases p<;>simp only[astore]
  ·rw[hp _ (by simp[AV.id])]
  ·rw[hp _ (by simp[AV.id])]
 have happ:∀ (ti ui:TI) (s x:AV),(∀ y∈s.id,h'[y]? = h[y]?)->aappend T slot h' ti ui s x=aappend T slot h ti ui s x:=by
  intro ti ui s x hp;unfold aappend
  split
  ·congr 1
   funext y
   cases s with
   |sl k l tk=>
    cases tk with
    |no=>rfl
    |own i=>simp only;rw[hp _ (by simp[AV.id])]
   |_=>rfl
  ·rfl
 have hsrc:∀ (k:Nat) (ui:TI) (x:AV),(∀ y∈x.mid,h'[y]? = h[y]?)->asrcM k h' ui x=asrcM k h ui x:=by
  intro k ui x hp
  cases x with
  |msl j k2 o2 n2 c2=>simp only[asrcM,hp j (by simp[AV.mid])]
  |_=>rfl
 have happM:∀ (ti ui:TI) (s x:AV),(∀ y∈s.id++x.mid,h'[y]? = h[y]?)->aappendM T slot h' ti ui s x=aappendM T slot h ti ui s x:=by
  intro ti ui s x hp;have hq:=happ ti ui s x (fun y hy=>hp y (List.mem_append_left _ hy))
  cases s with
  |msl i k o n c => 
   have e1:=hp i (by simp[AV.id]);have e2:∀ k ui,asrcM k h' ui x=asrcM k h ui x:=fun k ui=>hsrc k ui x fun y hy=>hp y (List.mem_append_right _ hy);simp only[aappendM,e1,e2]
  |sl k l tk=>
   cases x with
   |msl j k2 o2 n2 c2=>
    have e2:∀ k ui,asrcM k h' ui (.msl j k2 o2 n2 c2)=asrcM k h ui (.msl j k2 o2 n2 c2):=fun k ui=>hsrc k ui _ fun y hy=>hp y (List.mem_append_right _ hy)
    cases tk with
    |no=>simp only[aappendM,aappendS,e2]
    |own i=>simp only[aappendM,aappendS,e2,hp i (by simp[AV.id])]
   |_=>simp only[aappendM,hq]
  |nils=>
   cases x with
   |msl j k2 o2 n2 c2=>
    have e2:∀ k ui,asrcM k h' ui (.msl j k2 o2 n2 c2)=asrcM k h ui (.msl j k2 o2 n2 c2):=fun k ui=>hsrc k ui _ fun y hy=>hp y (List.mem_append_right _ hy);simp only[aappendM,aappendS,e2]
   |_=>simp only[aappendM,hq]
  |_=>
   cases x with
   |msl j k2 o2 n2 c2=>
    have e2:∀ k ui,asrcM k h' ui (.msl j k2 o2 n2 c2)=asrcM k h ui (.msl j k2 o2 n2 c2):=fun k ui=>hsrc k ui _ fun y hy=>hp y (List.mem_append_right _ hy);simp only[aappendM,aappendS,e2]
   |_=>simp only[aappendM,hq]
 have hclear:∀ (ti:TI) (x:AV),(∀ y∈x.id,h'[y]? = h[y]?)->aclear T h' ti x=aclear T h ti x:=by
  intro ti x hp
  cases x with
  |msl i k o n c=>simp only[aclear,hp i (by simp[AV.id])]
  |msu i k n=>simp only[aclear,hp i (by simp[AV.id])]
  |_=>rfl
 have hparts:∀ (ps:Array (Nat×Operand)),(∀ x∈(ps.toList.map (·.2)),aev t' x=aev t x)->(ps.toList.map fun q=>(q.1,aev t' q.2))=(ps.toList.map fun q=>(q.1,aev t q.2)):=by
  intro ps hp;refine List.map_congr_left fun q hq=>?_;rw[hp q.2 (List.mem_map.2 ⟨q,hq,rfl⟩)]
 have hmap:∀ (ps:Array Operand),(∀ x∈ps,aev t' x=aev t x)->ps.toList.map (aev t')=ps.toList.map (aev t):=fun ps hp=>List.map_congr_left fun q hq=>hp q (by simpa using hq)
 cases op with
 |move x=>simp only[aop,ht x (by simp[Op.operands])]
 |assign x=>simp only[aop,ht x (by simp[Op.operands])]
 |pick a b c=>simp only[aop,ht a (by simp[Op.operands]),ht b (by simp[Op.operands]),ht c (by simp[Op.operands])]
 |alloc e=>rfl
 |box e x=>simp only[aop,ht x (by simp[Op.operands])]
 |build e ps=>simp only[aop,hparts ps (fun x hx=>ht x (by simpa [Op.operands] using hx))]
 |buildSlice e n ps=>simp only[aop,hparts ps (fun x hx=>ht x (by simpa [Op.operands] using hx))]
 |load e x=>
  simp only[aop,ht x (by simp[Op.operands])]
  congr 1;funext ti;exact hload ti _ hh
 |store e x v=>
  simp only[aop,ht x (by simp[Op.operands]),ht v (by simp[Op.operands])]
  congr 1;funext ti;exact hstore ti _ _ hh
 |nilCheck x=>simp only[aop,ht x (by simp[Op.operands])]
 |binOp o e x y u=>simp only[aop,ht x (by simp[Op.operands]),ht y (by simp[Op.operands])]
 |unOp o e x=>cases o<;>simp only[aop,ht x (by simp[Op.operands])]
 |convert s d x=>simp only[aop,ht x (by simp[Op.operands])]
 |makeInterface e x=>simp only[aop,ht x (by simp[Op.operands])]
 |makeFunc fn a b=>
  cases fn<;>simp only[aop];rw[hmap a (fun x hx=>ht x (by simp[Op.operands,hx])),hmap b (fun x hx=>ht x (by simp[Op.operands,hx]))]
 |slice e x lo hi mx=>
  have hopt:∀ (q:Option Operand),(∀ x∈q,aev t' x=aev t x)->q.map (aev t')=q.map (aev t):=by
   intro q hq
   cases q with
   |none=>rfl
   |some x=>simp[hq x rfl]
  cases mx with
  |none=>
   simp only[aop];rw[ht x (by simp[Op.operands]),hopt lo (fun z hz=>ht z (by simp at hz;simp[Op.operands,hz])),hopt hi (fun z hz=>ht z (by simp at hz;simp[Op.operands,hz]))]
  |some m=>
   cases hi with
   |none=>rfl
   |some hi=>
    simp only[aop];rw[ht x (by simp[Op.operands]),hopt lo (fun z hz=>ht z (by simp at hz;simp[Op.operands,hz])),ht hi (by simp[Op.operands]),ht m (by simp[Op.operands])]
 |makeMap e r=>cases r<;>rfl
 |mapEntry e m k=>
  simp only[aop,ht m (by simp[Op.operands]),ht k (by simp[Op.operands])]
  congr 1;funext ti
  have:=hh;simp only[rdOf] at this;cases hm:aev t m<;>simp only[amapEntry];rw[this _ (by rw[hm];simp[AV.id])]
 |mapUpdate e m k v=>
  simp only[aop,ht m (by simp[Op.operands]),ht k (by simp[Op.operands]),ht v (by simp[Op.operands])]
  congr 1;funext ti
  have:=hh;simp only[rdOf] at this;cases hm:aev t m<;>simp only[amapUpdate];rw[this _ (by rw[hm];simp[AV.id])]
 |insert e m k v=>
  simp only[aop,ht m (by simp[Op.operands]),ht k (by simp[Op.operands]),ht v (by simp[Op.operands])]
  congr 1;funext ti
  have:=hh;simp only[rdOf] at this;cases hm:aev t m<;>simp only[amapUpdate];rw[this _ (by rw[hm];simp[AV.id])]
 |entryStore e m s v=>
  simp only[aop,ht m (by simp[Op.operands]),ht s (by simp[Op.operands]),ht v (by simp[Op.operands])];have:=hh;simp only[rdOf] at this
  cases hm:aev t m with
  |mp i=>
   have e1:=this i (by rw[hm];simp[AV.id]);cases aev t s<;>simp only[aentryStore,e1]
  |_=>rfl
 |lookup e m k ok=>
  simp only[aop,ht m (by simp[Op.operands]),ht k (by simp[Op.operands])]
  congr 1;funext ti
  have:=hh;simp only[rdOf] at this;cases hm:aev t m<;>simp only[alookup];rw[this _ (by rw[hm];simp[AV.id])]
 |range e m=>
  simp only[aop,ht m (by simp[Op.operands])]
  congr 1;funext ti
  have:=hh;simp only[rdOf] at this;cases hm:aev t m<;>simp only[arange];rw[this _ (by rw[hm];simp[AV.id])]
 |makeSlice e l m=>simp only[aop,ht l (by simp[Op.operands]),ht m (by simp[Op.operands])]
 |fieldAddr e x f=>simp only[aop,ht x (by simp[Op.operands])]
 |field e x f=>simp only[aop,ht x (by simp[Op.operands])]
 |indexAddr e x i=>simp only[aop,ht x (by simp[Op.operands]),ht i (by simp[Op.operands])]
 |index e x i=>simp only[aop,ht x (by simp[Op.operands]),ht i (by simp[Op.operands])]
 |extract x i=>simp only[aop,ht x (by simp[Op.operands])]
 |call c=>
  obtain⟨callee,args,argTypes⟩:=c;obtain⟨args⟩:=args
  cases callee with
  |value f=>rfl
  |invoke r m=>rfl
  |builtin b=>
   have hx:∀ x∈args,aev t' x=aev t x:=fun x hx=>ht x (by simp[Op.operands,Call.operands,hx])
   have hcopy:∀ (ti:TI) (p x:AV),(∀ y∈p.id++x.id,h'[y]? = h[y]?)->acopy T h' ti p x=acopy T h ti p x:=by
    intro ti p x hp
    cases p with
    |msl i k o n cp=>
     have e1:=hp i (by simp[AV.id])
     cases x with
     |msl j k2 o2 n2 c2=>
      have e2:=hp j (by simp[AV.id]);simp only[acopy,e1,e2]
     |_=>simp only[acopy,e1]
    |_=>rfl
   cases b with
   |append=>
    simp only[aop]
    match args,argTypes.toList,hx,hh with
    |[s,x],[e,f],hx,hh=>
     simp only[hx s (by simp),hx x (by simp)]
     congr 1;funext ti;congr 1;funext ui
     exact happM ti ui _ _ (by simpa [rdOf] using hh)
    |[],_,_,_=>rfl
    |[_],_,_,_=>rfl
    |_::_::_::_,_,_,_=>rfl
    |[_,_],[],_,_=>rfl
    |[_,_],[_],_,_=>rfl
    |[_,_],_::_::_::_,_,_=>rfl
   |copy=>
    simp only[aop]
    match args,argTypes.toList,hx,hh with
    |[s,x],[e,f],hx,hh=>
     simp only[hx s (by simp),hx x (by simp)]
     congr 1;funext ti
     exact hcopy ti _ _ (by simpa [rdOf] using hh)
    |[],_,_,_=>rfl
    |[_],_,_,_=>rfl
    |_::_::_::_,_,_,_=>rfl
    |[_,_],[],_,_=>rfl
    |[_,_],[_],_,_=>rfl
    |[_,_],_::_::_::_,_,_=>rfl
   |len=>
    simp only[aop]
    match args,argTypes.toList,hx with
    |[x],[e],hx=>simp only[hx x (by simp)]
    |[],_,_=>rfl
    |_::_::_,_,_=>rfl
    |[_],[],_=>rfl
    |[_],_::_::_,_=>rfl
   |cap=>
    simp only[aop]
    match args,argTypes.toList,hx with
    |[x],[e],hx=>simp only[hx x (by simp)]
    |[],_,_=>rfl
    |_::_::_,_,_=>rfl
    |[_],[],_=>rfl
    |[_],_::_::_,_=>rfl
   |clear=>
    simp only[aop]
    match args,argTypes.toList,hx,hh with
    |[x],[e],hx,hh=>
     simp only[hx x (by simp)]
     congr 1;funext ti
     exact hclear ti _ (by simpa [rdOf] using hh)
    |[],_,_,_=>rfl
    |_::_::_,_,_,_=>rfl
    |[_],[],_,_=>rfl
    |[_],_::_::_,_,_=>rfl
   |min=>simp only[aop];rw[List.map_congr_left hx]
   |max=>simp only[aop];rw[List.map_congr_left hx]
   |_=>rfl
 |_=>rfl
theorem needs_local{t t':List AV}{op:Op}(ht:∀ x∈op.operands,aev t' x=aev t x):needs t' op=needs t op:=by
 cases op with
 |call c=>
  obtain⟨callee,args,argTypes⟩:=c;obtain⟨args⟩:=args
  cases callee with
  |builtin b=>
   cases b<;>simp only[needs]
   cases args with
   |nil=>rfl
   |cons x r=>
    have:=ht x (by simp[Op.operands,Call.operands]);simp[this]
  |_=>rfl
 |_=>rfl
theorem looks_op{o:Oper}{t t':List AV}(h:∀ x∈o.looksAt ops,t'[x]? = t[x]?):∀ x∈o.op.operands,aev t' x=aev t x:=by
 intro x hx
 cases x with
 |tmp i=>
  have:=h i (List.mem_append_left _ (List.mem_filterMap.2 ⟨.tmp i,by simpa using hx,rfl⟩));simp only[aev,Y0,this]
 |_=>rfl
theorem looks_guard{o:Oper}{t t':List AV}(h:∀ x∈o.looksAt ops,t'[x]? = t[x]?){b:Bool}(hw:Wanted ops t o.guard b):Wanted ops t' o.guard b:=by
 have key:∀ j want,o.guard=some (j,want)->gval ops t' j=gval ops t j:=by
  intro j want hg;unfold gval
  cases hd:(ops[j]?).bind (·.dst) with
  |none=>rfl
  |some d=>
   simp only[Yb];exact h d (List.mem_append_right _ (by rw[hg];simp[hd]))
 generalize hg:o.guard=g at *
 cases hw with
 |free=>exact .free
 |test j want g hv=>exact .test j want g ((key j want rfl).trans hv)
 |undef j want hv=>exact .undef j want ((key j want rfl).trans hv)
theorem StepOk.skip{i:Nat}{o:Oper}{s:AState}(ho:ops[i]? = some o)(hw:Wanted ops s.t o.guard false):StepOk P c0 ops i o s ⟨.tup [],[],[]⟩:=by
 intro s' hl ht hh a w K Q ⟨ρ,h1,h2,h3,h4⟩ hK;unfold wpOp;simp only[ho];rw[(looks_guard ht hw).ok h3,if_neg (by simp)];have hu:RV ⟨ρ,s'.h,w,c0.X⟩ undef (.tup []):=.tup _ _ rfl (fun i v x h=>by simp at h);exact hK _ _ ⟨ρ,h1,h2,h3.put o.dst hu,by cases o.dst<;>exact h4⟩
theorem StepOk.op(hT:TabOk P T){i:Nat}{o:Oper}{s:AState}(ho:ops[i]? = some o)(hw:Wanted ops s.t o.guard true){slot:Nat}{r:ARes}(hr:aop T slot s.t s.h o.op=some r)(hp:r.p)(hf:needs s.t o.op=true->s.h[slot]? = some .free) :
  StepOk P c0 ops i o s ⟨r.v,r.d.toList,if needs s.t o.op then slot::rdOf s.t o.op else rdOf s.t o.op⟩:=by
 intro s' hl ht hh a w K Q ⟨ρ,h1,h2,h3,h4⟩ hK;have hx:=looks_op ht;have hrd:∀ y∈rdOf s.t o.op,s'.h[y]? = s.h[y]?:=fun y hy=>hh y (by simp only;split<;>simp[hy]);have hr':aop T slot s'.t s'.h o.op=some r:=(aop_local hx hrd).trans hr
 have hf':needs s'.t o.op=true->s'.h[slot]? = some .free:=fun hn=>by
  rw[needs_local hx] at hn;rw[hh slot (by simp[hn]),hf hn]
 obtain⟨nx,v,ρ',w',q1,q2,q3,q4,q5⟩:=aop_ok (P:=P) hT h1 h3 o hf' hr' hp
 have hrel:Rel c0 (Ent.app ⟨r.v,r.d.toList,if needs s.t o.op then slot::rdOf s.t o.op else rdOf s.t o.op⟩ o s') (a.put o.dst v) w':=by
  unfold Ent.app;simp only[aupds_one];exact⟨ρ',q3,h2.trans q4,(h3.mono q4).put o.dst q5,by cases o.dst<;>exact h4⟩
 unfold wpOp;simp only[ho];rw[(looks_guard ht hw).ok h3,if_pos rfl];refine .inl ?_;unfold Oper.wp;rw[q1]
 rcases q2 with rfl|⟨rfl,rfl⟩
 ·exact hK _ _ hrel
 ·exact hK _ _ hrel
theorem StepOk.call{i:Nat}{o:Oper}{s:AState}(ho:ops[i]? = some o)(hw:Wanted ops s.t o.guard true){x:Operand}{as:Array Operand}{ts:Array TypeId}(hop:o.op=.call { callee:=.value x,args:=as,argTypes:=ts })
  {g:FuncId} {fi ca:List AV} (hx:aev s.t x=.fn (.func g) fi ca) (hg:Callable P g) (e:Ent)
  (h:∀ h':List ABlk,(∀ y∈e.rd,h'[y]? = s.h[y]?)->ACall P g (fi++as.toList.map (aev s.t)++ca) h' fun r h''=>r=e.v/\h''=aupds h' e.d):StepOk P c0 ops i o s e:=by
 intro s' hl ht hh a w K Q ⟨ρ,h1,h2,h3,h4⟩ hK;have hxo:=looks_op ht;rw[hop] at hxo;have hx':aev s'.t x=.fn (.func g) fi ca:=(hxo x (by simp[Op.operands,Call.operands])).trans hx;have has:as.toList.map (aev s'.t)=as.toList.map (aev s.t):=List.map_congr_left fun z hz=>hxo z (by simp at hz;simp[Op.operands,Call.operands,hz]);have hv:=h3.ev x;rw[hx'] at hv;generalize hev:a.eval x=v at hv
 cases hv with
 |fn _ v1 v2 _ _ l1 l2 r1 r2=>
  have hargs:TRel ⟨ρ,s'.h,w,c0.X⟩ (v1++as.map a.eval++v2) (fi++as.toList.map (aev s.t)++ca):=by
   rw[<- has];refine⟨by simp[l1,l2],fun i v y hv hy=>?_⟩;rw[List.getElem?_append] at hy;rw[Array.getElem?_append] at hv;simp only[Array.size_append,Array.size_map,List.length_append,Yo,Array.length_toList,l1] at hv hy
   split at hy
   ·rename_i hi;rw[if_pos hi] at hv;rw[List.getElem?_append] at hy;rw[Array.getElem?_append] at hv;rw[l1] at hv
    split at hy
    ·rename_i hj;rw[if_pos hj] at hv;exact r1 i v y hv hy
    ·rename_i hj;rw[if_neg hj] at hv;rw[Array.getElem?_map] at hv;rw[Vg] at hy;simp only[Ve] at hv hy;obtain⟨z,hz,rfl⟩:=hv;obtain⟨z',hz',rfl⟩:=hy;rw[Array.getElem?_toList,hz] at hz';cases hz';exact h3.ev z
   ·rename_i hi;rw[if_neg hi] at hv;exact r2 _ v y hv hy
  have hex:(execOp a.eval o).run P w=.ok (.enter g (v1++as.map a.eval++v2)) w:=by
   obtain⟨dst,op,ty,pos,after,guard⟩:=o;simp only at hop;subst hop;simp[execOp,resolve,Deferred.ofValue,invoke,hev,run_callFunc hg]
  unfold wpOp;simp only[ho];rw[(looks_guard ht hw).ok h3,if_pos rfl];refine .inl ?_;unfold Oper.wp;rw[hex,Oper.upon_enter];refine(h s'.h hh ⟨ρ,s'.h,w,c0.X⟩ _ rfl h1 hargs).mono ?_;rintro e' w' ⟨v,ρ',r,h',rfl,g1,g2,g3,rfl,rfl⟩;exact hK _ _ ⟨ρ',g1,h2.trans g2,(h3.mono g2).put o.dst g3,by cases o.dst<;>exact h4⟩
end
def dynP(ms:List Nat)(fp:List (List Nat×List Nat)):Bool:=
 (List.range fp.length).all fun j=>match fp[j]? with
  |some ej=>(List.range j).all fun i=>(ms.getD j 0).testBit i||(match fp[i]? with|some ei=>disj ei.2 ej.1&&disj ei.2 ej.2&&disj ei.1 ej.2|none=>true)
  |none=>true
def Ent.fp(e:Ent):List Nat×List Nat:=(e.rd,e.wr)
theorem dynP_ok(ms:List Nat)(es:List Ent):dynP ms (es.map Ent.fp)=dynOk ms es:=by
 unfold dynP dynOk;rw[List.length_map]
 congr 1
 funext j
 rw[Vg]
 cases es[j]? with
 |none=>rfl
 |some ej=>
  simp only[Yc]
  congr 1
  funext i
  rw[Vg];cases es[i]?<;>rfl
def mN:Op->Bool
 |.box ..|.alloc _|.buildSlice ..|.makeMap ..|.makeSlice ..|.range ..=>true
 |.slice _ _ _ _ mx=>mx.isSome
 |.call { callee:=.builtin .append,.. }=>true
 |.call { callee:=.value _,.. }=>true
 |.call { callee:=.invoke ..,.. }=>true
 |_=>false
def wrOf(d:Option (Nat×ABlk)):List Nat:=match d with|some (i,_)=>[i]|none=>[]
theorem wrOf_list(d:Option (Nat×ABlk)):d.toList.map (·.1)=wrOf d:=by cases d<;>rfl
structure DOps(P:Program)(f:FuncId)(c0:Cx)(R:AV->List ABlk->Prop)(ops:Array Oper)(n sl:Nat)(rest:List Oper)(fp:List (List Nat×List Nat))(k:List Item)(s:AState):Prop where
 h:∃ es:List Ent,es.length=rest.length/\TraceOk P c0 ops n rest es s/\dynP (masks ops.toList []) (fp++es.map Ent.fp)=true/\ARun P f c0 R k (sub (fun _=>true) n rest es s)
section
variable {P:Program} {f:FuncId} {c0:Cx} {R:AV->List ABlk->Prop} {T:TabT} {ops:Array Oper} {n sl sl':Nat} {o:Oper} {rest:List Oper} {fp:List (List Nat×List Nat)} {k:List Item} {s:AState}
theorem DOps.nil(hd:dynP (masks ops.toList []) fp=true)(h:ARun P f c0 R k s):DOps P f c0 R ops n sl [] fp k s:=⟨[],rfl,trivial,by simpa using hd,by simpa [sub] using h⟩
theorem DOps.cons{e:Ent}(hs:StepOk P c0 ops n o s e)(h:DOps P f c0 R ops (n+1) sl' rest (fp++[e.fp]) k (e.app o s)):DOps P f c0 R ops n sl (o::rest) fp k s:=by
 obtain⟨es,h1,h2,h3,h4⟩:=h.h;exact⟨e::es,by simp[h1],⟨hs,h2⟩,by simpa using h3,by simpa [sub] using h4⟩
theorem DOps.draw{id:Nat}(hm:P.follows .mixedOrders=true)(hst:statOk ops=true)(m:Nat)(h:DOps P f c0 R ops 0 sl ops.toList [] k ⟨s.t,s.h++List.replicate m .free⟩):ARun P f c0 R (.code (.region id ops true)::k) s:=by
 have hgrow:Wk P c0 s ⟨s.t,s.h++List.replicate m .free⟩:=by
  clear h
  induction m with
  |zero=>simpa using Wk.refl s
  |succ m ih=>
   refine ih.trans fun ρ w vs h1 h2 h3=>?_;obtain⟨g1,g2⟩:=Cx.grow h1
   have e:s.h++List.replicate m ABlk.free++[.free]=s.h++List.replicate (m+1) .free:=by rw[List.replicate_succ',List.append_assoc]
   simp only[e] at g1 g2;exact⟨_,g1,h2.trans g2,h3.mono g2⟩
 refine ARun.weak hgrow ?_;obtain⟨es,h1,h2,h3,h4⟩:=h.h;exact ARun.draw hm hst es (by simpa using h1) h2 (by rw[<- dynP_ok];simpa using h3) h4
end
section
variable (P:Program) (f:FuncId) (c0:Cx) (R:AV->List ABlk->Prop) (T:TabT) (rs:List ResultVar)
def freeOk(t:List AV)(h:List ABlk)(sl:Nat)(op:Op):Prop:=if needs t op then(match h[sl]? with|some .free=>True|_=>False) else True
def adone(o:Oper)(sl:Nat)(fp:List (List Nat×List Nat))(s:AState)(K:Nat->List (List Nat×List Nat)->AState->Prop)(stop:Prop):Prop:=
 match aop T sl s.t s.h o.op with
 |some r=>(r.p/\freeOk s.t s.h sl o.op)/\K (if mN o.op then sl+1 else sl) (fp++[(if needs s.t o.op then sl::rdOf s.t o.op else rdOf s.t o.op,wrOf r.d)]) ⟨aput s.t o.dst r.v,aupd s.h r.d⟩
 |none=>stop
def gdone(ops:Array Oper)(n sl:Nat)(o:Oper)(rest:List Oper)(fp:List (List Nat×List Nat))(k:List Item)(want:Bool)(h:List ABlk)(K:Nat->List (List Nat×List Nat)->AState->Prop)(b:Bool)(t:List AV):Prop:=
 if b=want then adone T o sl fp ⟨t,h⟩ K (DOps P f c0 R ops n sl (o::rest) fp k ⟨t,h⟩) else K (if mN o.op then sl+1 else sl) (fp++[([],[])]) ⟨aput t o.dst (.tup []),h⟩
def adops(ops:Array Oper)(k:List Item)(K:AState->Prop):Nat->List Oper->Nat->List (List Nat×List Nat)->AState->Prop
 |_,[],_,fp,s=>dynP (masks ops.toList []) fp=true/\K s
 |n,o::rest,sl,fp,s=>
  match o.guard with
  |none=>adone T o sl fp s (adops ops k K (n+1) rest) (DOps P f c0 R ops n sl (o::rest) fp k s)
  |some (j,want)=>match gslot ops j with
   |none=>False
   |some d=>match s.t[d]? with
    |some (.bool g)=>alts s.t d g (gdone P f c0 R T ops n sl o rest fp k want s.h (adops ops k K (n+1) rest))
    |some (.tup [])=>adops ops k K (n+1) rest (if mN o.op then sl+1 else sl) (fp++[([],[])]) ⟨aput s.t o.dst (.tup []),s.h⟩
    |_=>False
def places:List Oper->List ABlk
 |[]=>[]
 |o::r=>if mN o.op then .free::places r else places r
def drun:Nat->List Item->AState->Prop
 |0,k,s=>Run P f c0 R k s
 |_+1,[],s=>afin R T rs s
 |n+1,.code (.seq a b)::k,s=>drun n (.code a::.code b::k) s
 |n+1,.code .skip::k,s=>drun n k s
 |n+1,.code (.label _)::k,s=>drun n k s
 |n+1,.code (.block id c)::k,s=>drun n (.code c::.inBlock id::k) s
 |n+1,.code (.scope c)::k,s=>drun n (.code c::.inScope c::k) s
 |n+1,.inBlock _::k,s=>drun n k s
 |n+1,.inScope _::k,s=>drun n k s
 |n+1,.code (.exit id)::k,s=>match exitTo id k with|some k'=>drun n k' s|none=>False
 |n+1,.code (.goto l)::k,s=>match gotoIn l k with|some k'=>drun n k' s|none=>False
 |n+1,.code (.cond c x y)::k,s=>match aev s.t c with
  |.bool b=>alt b (drun n (.code x::k) s) (drun n (.code y::k) s)
  |_=>False
 |n+1,.code (.region _ ops false)::k,s=>aops P f c0 R T ops k (drun n k) 0 ops.toList s
 |n+1,.code (.region _ ops true)::k,s=>statOk ops=true/\adops P f c0 R T ops k (drun n k) 0 ops.toList s.h.length [] ⟨s.t,s.h++places ops.toList⟩
 |_+1,.code .ret::_,s=>afin R T rs s
 |_+1,k,s=>Run P f c0 R k s
end
section
variable {P:Program} {f:FuncId} {c0:Cx} {R:AV->List ABlk->Prop} {T:TabT} {ops:Array Oper} {n sl:Nat} {o:Oper} {rest:List Oper} {fp:List (List Nat×List Nat)} {k:List Item} {h:List ABlk} {K:Nat->List (List Nat×List Nat)->AState->Prop} {t:List AV}
theorem gdone_tt:gdone P f c0 R T ops n sl o rest fp k true h K true t=adone T o sl fp ⟨t,h⟩ K (DOps P f c0 R ops n sl (o::rest) fp k ⟨t,h⟩):=rfl
theorem gU:gdone P f c0 R T ops n sl o rest fp k false h K false t=adone T o sl fp ⟨t,h⟩ K (DOps P f c0 R ops n sl (o::rest) fp k ⟨t,h⟩):=rfl
theorem gdone_tf:gdone P f c0 R T ops n sl o rest fp k true h K false t=K (if mN o.op then sl+1 else sl) (fp++[([],[])]) ⟨aput t o.dst (.tup []),h⟩:=by unfold gdone;exact if_neg (by decide)
theorem gdone_ft:gdone P f c0 R T ops n sl o rest fp k false h K true t=K (if mN o.op then sl+1 else sl) (fp++[([],[])]) ⟨aput t o.dst (.tup []),h⟩:=by unfold gdone;exact if_neg (by decide)
end
section
variable {P:Program} {f:FuncId} {c0:Cx} {R:AV->List ABlk->Prop} {T:TabT}
theorem adone_ok(hT:TabOk P T){ops:Array Oper}{n sl:Nat}{o:Oper}{rest:List Oper}{fp:List (List Nat×List Nat)}{k:List Item}{s:AState}{K:Nat->List (List Nat×List Nat)->AState->Prop}(ho:ops[n]? = some o)(hw:Wanted ops s.t o.guard true)
  (hK:∀ sl' fp s,K sl' fp s->DOps P f c0 R ops (n+1) sl' rest fp k s) (h:adone T o sl fp s K (DOps P f c0 R ops n sl (o::rest) fp k s)):DOps P f c0 R ops n sl (o::rest) fp k s:=by
 unfold adone at h
 split at h
 ·rename_i r hr;obtain⟨⟨h1,h2⟩,h3⟩:=h;have h4:=hK _ _ _ h3;rw[<- wrOf_list,<- aupds_one] at h4;refine DOps.cons (StepOk.op hT ho hw hr h1 fun hn=>?_) h4;unfold freeOk at h2;rw[if_pos hn] at h2
  split at h2
  ·assumption
  ·exact h2.elim
 ·exact h
theorem adops_ok(hT:TabOk P T){ops:Array Oper}{k:List Item}{K:AState->Prop}(hK:∀ s,K s->ARun P f c0 R k s):∀ (rest:List Oper) (n sl:Nat) (fp:List (List Nat×List Nat)) (s:AState),ops.toList.drop n=rest->adops P f c0 R T ops k K n rest sl fp s->DOps P f c0 R ops n sl rest fp k s
 |[],n,sl,fp,s,_,h=>DOps.nil h.1 (hK s h.2)
 |o::rest,n,sl,fp,s,hd,h=>by
  obtain⟨ho,hd'⟩:=range'_cons hd;have ih:=fun sl' fp s=>adops_ok (ops:=ops) hT hK rest (n+1) sl' fp s hd';unfold adops at h
  split at h
  ·rename_i hg;exact adone_ok hT ho (by rw[hg];exact .free) ih h
  ·rename_i j want hg
   split at h
   ·exact h.elim
   ·rename_i d hd
    split at h
    ·rename_i g hgd;have hgv:=gval_of hd hgd;have h:=alts_at h hgd;unfold gdone at h
     split at h
     ·rename_i hb;exact adone_ok hT ho (by rw[hg,show true=(g==want) by rw[hb];simp];exact .test j want g hgv) ih h
     ·rename_i hb;exact DOps.cons (StepOk.skip ho (by rw[hg,show false=(g==want) by simpa using hb];exact .test j want g hgv)) (ih _ _ _ h)
    ·rename_i hgd;exact DOps.cons (StepOk.skip ho (by rw[hg];exact .undef j want (gval_of hd hgd))) (ih _ _ _ h)
    ·exact h.elim
theorem places_eq:∀ (l:List Oper),∃ m,places l=List.replicate m .free
 |[]=>⟨0,rfl⟩
 |o::r=>by
  obtain⟨m,h⟩:=places_eq r;unfold places
  split
  ·exact⟨m+1,by rw[h];rfl⟩
  ·exact⟨m,h⟩
theorem DOps.drawP{ops:Array Oper}{k:List Item}{s:AState}{sl id:Nat}(hm:P.follows .mixedOrders=true)(hst:statOk ops=true)(h:DOps P f c0 R ops 0 sl ops.toList [] k ⟨s.t,s.h++places ops.toList⟩):ARun P f c0 R (.code (.region id ops true)::k) s:=by
 obtain⟨m,hm'⟩:=places_eq ops.toList;rw[hm'] at h;exact DOps.draw hm hst m h
theorem drun_ok(hT:TabOk P T)(hM:P.follows .mixedOrders=true){fn:Func}(hf:P.funcs[f]? = some fn):∀ (n:Nat) (k:List Item) (s:AState),drun P f c0 R T fn.results.toList n k s->ARun P f c0 R k s:=by
 have hfin:∀ s,afin R T fn.results.toList s->∃ r,ares T s fn.results.toList=some r/\aresOk T s fn.results.toList/\R r s.h:=by
  intro s h;unfold afin at h
  split at h
  ·rename_i r hr;exact⟨r,hr,h.1,h.2⟩
  ·exact h.elim
 intro n
 induction n with
 |zero=>intro k s h;unfold drun at h;exact h.h
 |succ n ih=>
  intro k s h;unfold drun at h
  split at h
  ·omega
  ·obtain⟨r,h1,h2,h3⟩:=hfin _ h;exact ARun.fin hT hf h1 h2 h3
  ·rename_i e;cases e;exact ARun.seq (ih _ _ h)
  ·rename_i e;cases e;exact ARun.skip (ih _ _ h)
  ·rename_i e;cases e;exact ARun.label (ih _ _ h)
  ·rename_i e;cases e;exact ARun.block (ih _ _ h)
  ·rename_i e;cases e;exact ARun.scope (ih _ _ h)
  ·rename_i e;cases e;exact ARun.inBlock (ih _ _ h)
  ·rename_i e;cases e;exact ARun.inScope (ih _ _ h)
  ·rename_i e;cases e
   split at h
   ·rename_i k' he;exact ARun.exit he (ih _ _ h)
   ·exact h.elim
  ·rename_i e;cases e
   split at h
   ·rename_i k' he;exact ARun.goto he (ih _ _ h)
   ·exact h.elim
  ·rename_i e;cases e
   split at h
   ·rename_i b hb;exact ARun.cond hb (fun hb=>ih _ _ (h.1 hb)) (fun hb=>ih _ _ (h.2 hb))
   ·exact h.elim
  ·rename_i e;cases e;exact ARun.region (aops_ok hT (fun s h=>ih _ _ h) _ 0 _ h)
  ·rename_i e;cases e;exact DOps.drawP hM h.1 (adops_ok hT (fun s h=>ih _ _ h) _ 0 _ [] _ rfl h.2)
  ·obtain⟨r,h1,h2,h3⟩:=hfin _ h;exact ARun.ret hT hf h1 h2 h3
  ·exact h.h
theorem Run.god(hT:TabOk P T)(hM:P.follows .mixedOrders=true){fn:Func}(hf:P.funcs[f]? = some fn)(n:Nat){k:List Item}{s:AState}(h:drun P f c0 R T fn.results.toList n k s):Run P f c0 R k s:=⟨drun_ok hT hM hf n k s h⟩
theorem Ops.god(hT:TabOk P T)(hM:P.follows .mixedOrders=true){fn:Func}(hf:P.funcs[f]? = some fn)(m:Nat){ops:Array Oper}{n:Nat}{rest:List Oper}{k:List Item}{s:AState}(h:aops P f c0 R T ops k (drun P f c0 R T fn.results.toList m k) n rest s):Ops P f c0 R ops n rest k s:=
 ⟨aops_ok hT (fun s h=>drun_ok hT hM hf m k s h) rest n s h⟩
theorem DOps.god(hT:TabOk P T)(hM:P.follows .mixedOrders=true){fn:Func}(hf:P.funcs[f]? = some fn)(m:Nat){ops:Array Oper}{n sl:Nat}{rest:List Oper}{fp:List (List Nat×List Nat)}{k:List Item}{s:AState}(hd:ops.toList.drop n=rest)
  (h:adops P f c0 R T ops k (drun P f c0 R T fn.results.toList m k) n rest sl fp s):DOps P f c0 R ops n sl rest fp k s:=adops_ok hT (fun s h=>drun_ok hT hM hf m k s h) rest n sl fp s hd h
end
section
variable {P:Program} {f:FuncId} {c0:Cx} {R:AV->List ABlk->Prop} {ops:Array Oper} {n sl:Nat} {o:Oper} {rest:List Oper} {fp:List (List Nat×List Nat)} {k:List Item} {s:AState}
theorem DOps.pure(ho:ops[n]? = some o)(hw:Wanted ops s.t o.guard true){x:Operand}{as:Array Operand}{ts:Array TypeId}(hop:o.op=.call { callee:=.value x,args:=as,argTypes:=ts })
  {g:FuncId} {fi ca:List AV} (hx:aev s.t x=.fn (.func g) fi ca) {args:List AV} {res:AV} (hs:ASpec P g args res) (hle:LeL (fi++as.toList.map (aev s.t)++ca) args) (ha:belL 0 args=true) (hr:res.bel 0=true)
  (h:DOps P f c0 R ops (n+1) (sl+1) rest (fp++[([],[])]) k ⟨aput s.t o.dst res,s.h⟩):DOps P f c0 R ops n sl (o::rest) fp k s:=
 DOps.cons (e:=⟨res,[],[]⟩) (StepOk.call ho hw hop hx hs.fn _ fun _ _=>ACall.pure hs hle ha hr ⟨rfl,rfl⟩) h
theorem Ops.pure(hw:Wanted ops s.t o.guard true){x:Operand}{as:Array Operand}{ts:Array TypeId}(hop:o.op=.call { callee:=.value x,args:=as,argTypes:=ts })
  {g:FuncId} {fi ca:List AV} (hx:aev s.t x=.fn (.func g) fi ca) {args:List AV} {res:AV} (hs:ASpec P g args res) (hle:LeL (fi++as.toList.map (aev s.t)++ca) args) (ha:belL 0 args=true) (hr:res.bel 0=true)
  (h:Ops P f c0 R ops (n+1) rest k ⟨aput s.t o.dst res,s.h⟩):Ops P f c0 R ops n (o::rest) k s:=
 Ops.call hw hop hx hs.fn (ACall.pure hs hle ha hr h)
theorem Ops.own(hw:Wanted ops s.t o.guard true){x:Operand}{as:Array Operand}{ts:Array TypeId}(hop:o.op=.call { callee:=.value x,args:=as,argTypes:=ts })
  {g:FuncId} {fi ca:List AV} (hx:aev s.t x=.fn (.func g) fi ca) {args:List AV} {kk:Nat} {l:List (List AV)} (hs:OSpec P g args kk l) (hle:LeL (fi++as.toList.map (aev s.t)++ca) args) (ha:belL 0 args=true)
  (h:Ops P f c0 R ops (n+1) rest k ⟨aput s.t o.dst (.sl kk l (.own s.h.length)),s.h++[.tok kk l.length]⟩):Ops P f c0 R ops n (o::rest) k s:=
 Ops.call hw hop hx hs.fn (ACall.own hs hle ha h)
theorem OSpec.spec{g:FuncId}{args:List AV}{kk:Nat}{l:List (List AV)}(hs:OSpec P g args kk l):ASpec P g args (.sl kk l .no):=⟨hs.fn,hs.run.mono fun _ _ ⟨_,h,_⟩=>by rw[h];exact .one (.one (.tok _ _ _))⟩
end
theorem Weak.freeze{P:Program}{c0:Cx}{s:AState}(j i:Nat)(cs:List AV)(hj:s.t[j]? = some (.ptr i 0))(hi:s.h[i]? = some (.box cs)):Weak P c0 s ⟨s.t.set j (.rptr cs),s.h.set i .dead⟩:=by
 refine⟨fun ρ w vs h1 h2 h3=>?_⟩;obtain⟨q1,q2⟩:=Cx.freeze h1 i _ hi rfl;have hil:i<s.h.length:=(Va hi).1;refine⟨ρ,q1,h2.trans q2,by simp[h3.1],fun m v x hv hx=>?_⟩;rw[List.getElem?_set] at hx
 split at hx
 ·rename_i hij;subst hij
  split at hx
  ·cases hx;have hr:=h3.2 j v _ hv hj;obtain⟨b,us,e,hb,hcell,hsz,hall⟩:=h1.blk i _ hi
   cases hr with
   |ptr _ _ b' hk hb' ht=>
    have hbb:b'=b:=by
     have:some b'=some b:=hb'.symm.trans hb;exact Option.some.inj this
    subst hbb;refine .rptr cs b' 0 (fun q=>us.getD q undef) (fun q a ha=>?_) (fun q a ha=>?_)
    ·obtain⟨hc1,u,hu,hr⟩:=hall q a ha;refine⟨hc1,⟨(Array.getElem?_eq_some_iff.1 hcell).1,fun hX=>?_,fun i' x hx hbi=>?_⟩,?_⟩
     ·exact(h1.xs _ _ hX).2 i _ hi rfl hb
     ·by_cases hii:i'=i
      ·subst hii;simp only[List.getElem?_set_self hil] at hx;cases hx
       trivial
      ·simp only[List.getElem?_set_ne (Ne.symm hii)] at hx
       cases hl:x.live with
       |true=>exact absurd (h1.inj i' i x _ b' hx hi hl rfl hbi hb) hii
       |false=>cases x<;>first|trivial|cases hl
     ·rw[cell_of_row w b' (0+q) us e (0,0) hcell,Nat.zero_add,hu];simp[Array.getD_eq_getD_getElem?,hu]
    ·obtain⟨hc1,u,hu,hr⟩:=hall q a ha
     have:us.getD q undef=u:=by simp[Array.getD_eq_getD_getElem?,hu]
     show RV _ (us.getD q undef) a;rw[this];exact hr.mono q2
  ·cases hx
 ·exact(h3.2 m v x hv hx).mono q2
theorem Run.unloop{P:Program}{f:FuncId}{c0:Cx}{R:AV->List ABlk->Prop}{k:List Item}{s:AState}{c:Code}(h:Run P f c0 R (.code c::.inLoop c::k) s):Run P f c0 R (.code (.loop c)::k) s:=⟨ARun.loop1 h.h⟩
theorem Run.again{P:Program}{f:FuncId}{c0:Cx}{R:AV->List ABlk->Prop}{k:List Item}{s:AState}{c:Code}(h:Run P f c0 R (.code c::.inLoop c::k) s):Run P f c0 R (.inLoop c::k) s:=⟨ARun.inLoop h.h⟩
theorem left_born{c:Cx}{es:Array MapEntry}{l:List (AV×AV)}(h:∀ (j:Nat) e p,es[j]? = some e->l[j]? = some p->e.born=j/\RV c e.key p.1/\RV c e.val p.2)(hl:es.size=l.length){e:MapEntry}(he:e∈es.toList):∃ p,e.born<l.length/\l[e.born]? = some p/\RV c e.key p.1/\RV c e.val p.2:=by
 obtain⟨j,hj⟩:=List.getElem?_of_mem he
 have hj':es[j]? = some e:=by simpa using hj
 have hjl:j<l.length:=by rw[<- hl];exact(Array.getElem?_eq_some_iff.1 hj').1
 obtain⟨h0,h1,h2⟩:=h j e _ hj' (Vb hjl);exact⟨l[j],by omega,by rw[h0];exact Vb hjl,h1,h2⟩
theorem Ops.next{P:Program}{f:FuncId}{c0:Cx}{R:AV->List ABlk->Prop}{k:List Item}{s:AState}{ops:Array Oper}{n:Nat}{o:Oper}{rest:List Oper}(hw:Wanted ops s.t o.guard true){x:Operand}(ho:o.op=.next x false)
  {i m nn:Nat} {seen:List Nat} {l:List (AV×AV)} (hx:aev s.t x=.ptr i 0) (hi:s.h[i]? = some (.iter m nn seen)) (hm:s.h[m]? = some (.map l)) (hn:nn=l.length)
  (h0:(∀ j,j<l.length->j∈seen)->Ops P f c0 R ops (n+1) rest k ⟨aput s.t o.dst (.tup [.bool false]),s.h⟩)
  (h1:∀ j p,l[j]? = some p->j∉seen->Ops P f c0 R ops (n+1) rest k ⟨aput s.t o.dst (.tup [.bool true,p.1,p.2]),s.h.set i (.iter m nn (seen++[j]))⟩):Ops P f c0 R ops n (o::rest) k s:=by
 refine⟨fun hd ρ w a g1 g2 g3 g4=>?_⟩;obtain⟨ho',hd'⟩:=range'_cons hd;rw[List.length_cons,List.range'_succ];have hv:=g3.ev x;rw[hx] at hv;obtain⟨dst,op,ty,pos,after,guard⟩:=o;simp only at ho;subst ho;obtain⟨b,mb,sa,q1,q2,q3,q4⟩:=g1.blk i _ hi;simp only at q1 q2 q3 q4
 cases q4 with
 |mp _ _ hkm hρm hnm=>
 obtain⟨mb',es,e1,e2,e3,e4⟩:=g1.blk m _ hm;simp only at e1 e2 e3 e4 hρm;rw[hρm] at e1;obtain rfl:=Option.some.inj e1;generalize hev:a.eval x=v at hv
 cases hv with
 |ptr _ _ b' hkb hρb hnb=>
 simp only at hρb;rw[q1] at hρb;obtain rfl:=Option.some.inj hρb;subst hn
 have hold:∀ y∈es.toList,y.born<l.length:=fun y hy=>by
  obtain⟨p,hp,_⟩:=left_born e4 e3 hy;exact hp
 rcases run_next_at (P:=P) w ty b mb l.length l.length sa es l.length q2 e2 hold (Nat.le_refl _) with⟨z1,z2⟩|⟨e,z1,w1,z2,z3⟩
 ·have hall:∀ j,j<l.length->j∈seen:=fun j hj=>by
   have hjs:j<es.size:=by rw[e3];exact hj
   have hb:=(e4 j es[j] l[j] (Vc hjs) (Vb hj)).1
   have hmem:es[j]∉(leftOf es sa):=by
    rw[Array.eq_empty_of_size_eq_zero z1];simp
   unfold leftOf at hmem;simp only[Array.mem_filter,Array.getElem_mem,Yt,Bool.not_eq_true',Bool.not_eq_false] at hmem;rw[<- q3,<- hb]
   simpa using hmem
  have hR:RV ⟨ρ,s.h,w,c0.X⟩ (.tuple #[.bool false]) (.tup [.bool false]):=.tup _ _ rfl fun i v x hv hx=>by
   match i,hv,hx with
   |0,hv,hx=>simp at hv hx;subst hv hx;exact .bool _
   |i+1,hv,hx=>simp at hv
  exact((h0 hall).h hd' ρ w (a.put dst (.tuple #[.bool false])) g1 g2 (g3.put dst hR) (by cases dst<;>exact g4)).step fun bb cs _=>step_value (P:=P) ho' (hw.ok g3) (by simp[execOp,hev,z2]) (.inl rfl)
 ·have hmem:e∈es.toList/\e.born∉seen:=by
   unfold leftOf at z1;simp only[Array.toList_filter,List.mem_filter,Bool.not_eq_true'] at z1;refine⟨z1.1,?_⟩;rw[<- q3];have:=z1.2
   simpa using this
  obtain⟨p,hp1,hp2,hp3,hp4⟩:=left_born e4 e3 hmem.1
  have hw1:w1.heap=w.heap/\w1.os=w.os/\w1.tape=w.tape/\w1.output=w.output:=by rcases z2 with rfl|rfl<;>exact⟨rfl,rfl,rfl,rfl⟩
  obtain⟨y1,y2,y3,y4⟩:=hw1
  have hbm:b≠mb:=fun e=>by rw[e,e2] at q2;cases q2
  have hbs:b<w.heap.size:=(Array.getElem?_eq_some_iff.1 q2).1;obtain⟨r1,r2⟩:=Cx.write (c:=⟨ρ,s.h,w,c0.X⟩) g1 i (.iter m l.length seen) (.iter m l.length (seen++[e.born])) b hi q1 rfl rfl (Go.ChangeMaps.setBlock w1 b (.mapIter (some mb) l.length (sa.push e.born) l.length)) (by simp[Go.ChangeMaps.setBlock,y1]) y2 y3 y4
   (fun b' hb'=>by simp only[Go.ChangeMaps.setBlock,y1];exact Array.getElem?_setIfInBounds_ne (Ne.symm hb')) (fun o h=>h.elim) (.inl ⟨rfl,rfl⟩) (fun vs e f h0=>by rw[q2] at h0;cases h0) fun hev'=>by
    refine⟨b,mb,sa.push e.born,q1,?_,by simp[q3],(RV.mp m mb hkm hρm hnm:RV ⟨ρ,s.h,w,c0.X⟩ _ _).mono hev'⟩;simp only[Go.ChangeMaps.setBlock,y1];rw[Array.getElem?_setIfInBounds_self_of_lt hbs]
  have hR:RV ⟨ρ,s.h.set i (.iter m l.length (seen++[e.born])),_,c0.X⟩ (.tuple #[.bool true,e.key,e.val]) (.tup [.bool true,p.1,p.2]):=.tup _ _ rfl fun i v x hv hx=>by
   match i,hv,hx with
   |0,hv,hx=>simp at hv hx;subst hv hx;exact .bool _
   |1,hv,hx=>simp at hv hx;subst hv hx;exact hp3.mono r2
   |2,hv,hx=>simp at hv hx;subst hv hx;exact hp4.mono r2
   |i+3,hv,hx=>simp at hv
  exact((h1 e.born p hp2 hmem.2).h hd' ρ _ (a.put dst (.tuple #[.bool true,e.key,e.val])) r1 (g2.trans r2) ((g3.mono r2).put dst hR) (by cases dst<;>exact g4)).step fun bb cs _=>step_value (P:=P) ho' (hw.ok g3) (by simp[execOp,hev,z3]) (.inl rfl)
theorem Ops.entry{P:Program}{f:FuncId}{c0:Cx}{R:AV->List ABlk->Prop}{k:List Item}{s:AState}{ops:Array Oper}{n:Nat}{o:Oper}{rest:List Oper}(hw:Wanted ops s.t o.guard true){x:Operand}(ho:o.op=.entry x)
  {i m nn j:Nat} {seen:List Nat} {l:List (AV×AV)} {p:AV×AV} (hx:aev s.t x=.ptr i 0) (hi:s.h[i]? = some (.iter m nn (seen++[j]))) (hm:s.h[m]? = some (.map l)) (hn:nn=l.length) (hp:l[j]? = some p)
  (h:Ops P f c0 R ops (n+1) rest k ⟨aput s.t o.dst (.tup [p.1,p.2]),s.h⟩):Ops P f c0 R ops n (o::rest) k s:=by
 refine⟨fun hd ρ w a g1 g2 g3 g4=>?_⟩;obtain⟨ho',hd'⟩:=range'_cons hd;rw[List.length_cons,List.range'_succ];have hv:=g3.ev x;rw[hx] at hv;obtain⟨dst,op,ty,pos,after,guard⟩:=o;simp only at ho;subst ho;obtain⟨b,mb,sa,q1,q2,q3,q4⟩:=g1.blk i _ hi;simp only at q1 q2 q3 q4
 cases q4 with
 |mp _ _ hkm hρm hnm=>
 obtain⟨mb',es,e1,e2,e3,e4⟩:=g1.blk m _ hm;simp only at e1 e2 e3 e4 hρm;rw[hρm] at e1;obtain rfl:=Option.some.inj e1;generalize hev:a.eval x=v at hv
 cases hv with
 |ptr _ _ b' hkb hρb hnb=>
 simp only at hρb;rw[q1] at hρb;obtain rfl:=Option.some.inj hρb;subst hn;have hjl:j<l.length:=(Va hp).1
 have hjs:j<es.size:=by rw[e3];exact hjl
 obtain⟨b0,b1,b2⟩:=e4 j es[j] p (Vc hjs) hp
 have hsa:sa=(seen.toArray).push es[j].born:=by
  apply Array.toList_inj.1;simp[q3,b0]
 have hnd:(es.toList.map (·.born)).Nodup:=by
  have:es.toList.map (·.born)=List.range es.size:=by
   apply List.ext_getElem?;intro q;rw[Vg]
   by_cases hq:q<es.size
   ·have hql:q<l.length:=by rw[<- e3];exact hq
    have:=(e4 q es[q] l[q] (Vc hq) (Vb hql)).1;simp[hq,this]
   ·simp[hq]
  rw[this];exact List.nodup_range
 rw[hsa] at q2;have hrun:=run_entry_at (P:=P) w b mb l.length seen.toArray es l.length es[j] q2 e2 (by simp) hnd
 have hR:RV ⟨ρ,s.h,w,c0.X⟩ (.tuple #[es[j].key,es[j].val]) (.tup [p.1,p.2]):=.tup _ _ rfl fun i v x hv hx=>by
  match i,hv,hx with
  |0,hv,hx=>simp at hv hx;subst hv hx;exact b1
  |1,hv,hx=>simp at hv hx;subst hv hx;exact b2
  |i+2,hv,hx=>simp at hv
 exact(h.h hd' ρ w (a.put dst (.tuple #[es[j].key,es[j].val])) g1 g2 (g3.put dst hR) (by cases dst<;>exact g4)).step fun bb cs _=>step_value (P:=P) ho' (hw.ok g3) (by simp[execOp,hev,hrun]) (.inl rfl)
end Go.Proofs.YtojhjaohaafeaaaGreatDoor
