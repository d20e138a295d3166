/-
  Several texts in one: Aj, Bc, Bb, Bd, Be, Bf, Bg, Bx, By, Bl, Bk, Bh.
-/
import Derived.Test.YtojhjaohaafeaaaGreatDoorQb
import Derived.Laws.Externs
import Derived.Lib.AppendZerosOnto
import Derived.ChangeKeysEq
namespace Go.Proofs.YtojhjaohaafeaaaGreatDoor
open Go.RowKit
section
variable {P:Program} {f:FuncId}
theorem ACall.ownAt{args args':List AV}{k:Nat}{l:List (List AV)}{h:List ABlk}{R:AV->List ABlk->Prop}{sl:Nat}(hfr:h[sl]? = some .free)(hs:OSpec P f args k l)(hle:LeL args' args)(ha:belL 0 args=true)(hR:R (.sl k l (.own sl)) (h.set sl (.tok k l.length))):ACall P f args' h R:=by
 intro c vs hch hc ht;subst hch;have hsl:sl<c.h.length:=(Va hfr).1;refine(hs.run c.shut vs rfl Cx.shut_rel ((hle.rel ht).shut ha)).mono ?_;rintro e w' ⟨v,ρ',r,h',rfl,g1,g2,g3,i,rfl,hi⟩
 have hbig:∀ b,ρ' i=some b->c.w.heap.size<=b:=fun b hb=>by
  rcases Nat.lt_or_ge b c.w.heap.size with hlt|hge
  ·exact absurd ⟨i,_,hi,rfl,hb⟩ (g2.fr b hlt (by rintro⟨i,x,hx,_⟩;simp[Cx.shut] at hx)).2
  ·exact hge
 have hold:∀ b,b<c.w.heap.size->w'.heap[b]? = c.w.heap[b]?:=fun b hb=>(g2.fr b hb (by rintro⟨i,x,hx,_⟩;simp[Cx.shut] at hx)).1;have hsz:c.w.heap.size<=w'.heap.size:=g2.size
 have hcase:∀ (j:Nat) y b,(c.h.set sl (ABlk.tok k l.length))[j]? = some y->setρ c.ρ sl (ρ' i) j=some b->(j=sl/\y=.tok k l.length/\ρ' i=some b/\c.w.heap.size<=b)\/(j≠sl/\c.h[j]? = some y/\c.ρ j=some b/\b<c.w.heap.size):=fun j y b hy hb=>by
  by_cases hj:j=sl
  ·subst hj;rw[setρ_same] at hb;rw[List.getElem?_set_self hsl] at hy;simp at hy;exact .inl ⟨rfl,hy.symm,hb,hbig b hb⟩
  ·rw[setρ_ne _ _ hj] at hb;rw[List.getElem?_set_ne (Ne.symm hj)] at hy;exact .inr ⟨hj,hy,hb,hc.here j y b hy hb⟩
 have hρ:∀ (j:Nat),j≠sl->setρ c.ρ sl (ρ' i) j=c.ρ j:=fun j hx=>setρ_ne _ _ hx
 have hev:Ev c ⟨setρ c.ρ sl (ρ' i),c.h.set sl (.tok k l.length),w',c.X⟩:=by
  refine⟨g2.os,g2.tape,g2.output,hsz,rfl,fun b o h=>⟨⟨Nat.lt_of_lt_of_le h.1 hsz,h.2.1,fun j y hy hb=>?_⟩,cB (hold b h.1)⟩,fun b hb hm=>⟨hold b hb,?_⟩,by simp,fun j x hx hf=>?_,keep_old hold⟩
  ·rcases hcase j y b hy hb with⟨_,_,_,hge⟩|⟨_,q1,q2,_⟩
   ·have:=h.1;omega
   ·exact h.2.2 j y q1 q2
  ·rintro⟨j,y,hy,hl,hj⟩
   rcases hcase j y b hy hj with⟨_,_,_,hge⟩|⟨_,q1,q2,_⟩
   ·omega
   ·exact hm ⟨j,y,q1,hl,q2⟩
  ·have hj:j≠sl:=by rintro rfl;rw[hfr] at hx;cases hx;cases hf
   exact⟨x,by rw[List.getElem?_set_ne (Ne.symm hj)];exact hx,hf,fun ht=>⟨ht,hρ j hj⟩,fun k n e=>⟨n,e,.inr ⟨rfl,hρ j hj,fun b hb=>hold b (hc.here j x b hx hb)⟩⟩⟩
 have hrel:RelH ⟨setρ c.ρ sl (ρ' i),c.h.set sl (.tok k l.length),w',c.X⟩:=by
  refine⟨fun j j' y y' b hy hy' ly ly' hb hb'=>?_,fun j y b hy hb=>?_,fun j y hy=>?_,fun b o h=>⟨Nat.lt_of_lt_of_le (hc.xs b o h).1 hsz,fun j y hy hl hb=>?_⟩⟩
  ·rcases hcase j y b hy hb with⟨rfl,_,_,q⟩|⟨_,q1,q2,q3⟩<;>rcases hcase j' y' b hy' hb' with⟨rfl,_,_,w⟩|⟨_,w1,w2,w3⟩
   ·rfl
   ·omega
   ·omega
   ·exact hc.inj j j' y y' b q1 w1 ly ly' q2 w2
  ·rcases hcase j y b hy hb with⟨_,_,q,_⟩|⟨_,q1,q2,q3⟩
   ·exact g1.here i _ b hi q
   ·exact Nat.lt_of_lt_of_le q3 hsz
  ·by_cases hj:j=sl
   ·subst hj;rw[List.getElem?_set_self hsl] at hy;simp at hy;subst hy;intro b hb;simp only[setρ_same] at hb;exact g1.blk i _ hi b hb
   ·rw[List.getElem?_set_ne (Ne.symm hj)] at hy;exact(hc.blk j y hy).mono hev (hρ j hj) fun b _ hb=>hold b (hc.here j y b hy hb)
  ·rcases hcase j y b hy hb with⟨_,_,_,q⟩|⟨_,q1,q2,q3⟩
   ·have:=(hc.xs b o h).1;omega
   ·exact(hc.xs b o h).2 j y q1 hl q2
 have him:∀ b o,(Cx.mk ρ' h' w' c.shut.X).im b o->(Cx.mk (setρ c.ρ sl (ρ' i)) (c.h.set sl (.tok k l.length)) w' c.X).im b o:=fun b o h=>by
  have hx:¬(b<c.w.heap.size/\¬c.im b o):=h.2.1
  by_cases hb:b<c.w.heap.size
  ·have him:c.im b o:=Vf fun hn=>hx ⟨hb,hn⟩;exact(hev.im b o him).1
  ·refine⟨h.1,fun hX=>hb (hc.xs b o hX).1,fun j y hy hρj=>?_⟩
   rcases hcase j y b hy hρj with⟨_,rfl,q,_⟩|⟨_,q1,q2,q3⟩
   ·exact h.2.2 i _ hi q
   ·omega
 obtain⟨A,cap,xs,rfl,hcap,hm,hf,⟨_,htk⟩,hcell⟩:=g3.flat;refine⟨_,_,_,_,rfl,hrel,hev,?_,hR⟩
 have hf':Flat ⟨setρ c.ρ sl (ρ' i),c.h.set sl (.tok k l.length),w',c.X⟩ k l xs:=⟨hf.len,hf.el,fun j e m a he ha=>by
  obtain⟨w1,u,w2,w3⟩:=hf.rv j e m a he ha
  exact⟨w1,u,w2,w3.xfer (n:=0) (fun b o h=>⟨him b o h,rfl⟩) (fun i hi=>absurd hi (Nat.not_lt_zero i)) (fun i b hi=>absurd hi (Nat.not_lt_zero i)) (AV.plain_bel w1 0)⟩⟩
 have ht':TkOk ⟨setρ c.ρ sl (ρ' i),c.h.set sl (.tok k l.length),w',c.X⟩ A l.length cap k (.own sl):=by
  have hlast:(c.h.set sl (ABlk.tok k l.length))[sl]? = some (.tok k l.length):=List.getElem?_set_self hsl;refine⟨⟨_,hlast,rfl⟩,fun k' n' e=>?_⟩;simp only[hlast] at e;cases e;refine⟨rfl,Nat.le_refl _,fun _=>?_⟩;obtain⟨_,_,q⟩:=htk k l.length hi
  rcases q rfl with q|⟨b,vs,e,w1,w2,w3,w4⟩
  ·exact .inl q
  ·exact .inr ⟨b,vs,e,by simp only[setρ_same];exact w1,w2,w3,w4⟩
 by_cases hl:l=[]
 ·have hxs:xs=[]:=by have:=hf.len;rw[hl] at this;simpa using this
  exact RV.sl_of hf' hcap hm 0 0 (fun h=>absurd hl h) (fun q u hq=>by rw[hxs] at hq;simp at hq) ht' rfl
 ·obtain⟨b,o,hA,hcc⟩:=hcell hl;exact RV.sl_of hf' hcap hm b o (fun _=>hA) (fun q u hq=>⟨him _ _ (hcc q u hq).1,(hcc q u hq).2⟩) ht' rfl
end
section
variable {P:Program} {f:FuncId} {c0:Cx} {R:AV->List ABlk->Prop} {ops:Array Oper} {n sl:Nat} {o:Oper} {rest:List Oper} {fp:List (List Nat×List Nat)} {k:List Item} {s:AState}
theorem DOps.own(ho:ops[n]? = some o)(hw:Wanted ops s.t o.guard true){x:Operand}{as:Array Operand}{ts:Array TypeId}(hop:o.op=.call { callee:=.value x,args:=as,argTypes:=ts })
  {g:FuncId} {fi ca:List AV} (hx:aev s.t x=.fn (.func g) fi ca) {args:List AV} {kk:Nat} {l:List (List AV)} (hs:OSpec P g args kk l) (hle:LeL (fi++as.toList.map (aev s.t)++ca) args) (ha:belL 0 args=true)
  (hfr:s.h[sl]? = some .free) (h:DOps P f c0 R ops (n+1) (sl+1) rest (fp++[([sl],[sl])]) k ⟨aput s.t o.dst (.sl kk l (.own sl)),s.h.set sl (.tok kk l.length)⟩):DOps P f c0 R ops n sl (o::rest) fp k s:=
 DOps.cons (e:=⟨.sl kk l (.own sl),[(sl,.tok kk l.length)],[sl]⟩) (StepOk.call ho hw hop hx hs.fn _ fun h' hh=>ACall.ownAt (by rw[hh sl (by simp)];exact hfr) hs hle ha ⟨rfl,rfl⟩) h
end
section
variable {P:Program} {T:TabT} {c:Cx}
theorem Cx.retell(hc:RelH c)(i b:Nat)(x0 x:ABlk)(hi:c.h[i]? = some x0)(hb:c.ρ i=some b)(h0:x0.istok=false)(h1:x.istok=false)(hl:x0.live=true)(hxl:x.live=true)(hf:∀ o,x0.fix o->x.fix o)
  (hx:Ev c ⟨c.ρ,c.h.set i x,c.w,c.X⟩->BlkOk ⟨c.ρ,c.h.set i x,c.w,c.X⟩ i x):RelH ⟨c.ρ,c.h.set i x,c.w,c.X⟩/\Ev c ⟨c.ρ,c.h.set i x,c.w,c.X⟩:=
 Cx.write hc i x0 x b hi hb hl hxl c.w rfl rfl rfl rfl (fun _ _=>rfl) (fun o h=>⟨hf o h,rfl⟩) (.inl ⟨h0,h1⟩) (fun vs _ _ h=>⟨vs,h,rfl⟩) hx
def padJ(k:Nat)(l:List (List AV))(cap:Nat):List (List AV):=l++List.replicate (cap-l.length) (List.replicate k .junk)
theorem resolve_core(hc:RelH c){vs:Array Value}{t:List AV}(ht:TRel c vs t){j i k:Nat}{l:List (List AV)}(hj:t[j]? = some (.msu i k l.length))(hi:c.h[i]? = some (.rows k l)) :
  ∃ cap,l.length<=cap/\cap<=maxLen/\RelH ⟨c.ρ,c.h.set i (.rows k (padJ k l cap)),c.w,c.X⟩/\Ev c ⟨c.ρ,c.h.set i (.rows k (padJ k l cap)),c.w,c.X⟩/\TRel ⟨c.ρ,c.h.set i (.rows k (padJ k l cap)),c.w,c.X⟩ vs (t.set j (.msl i k 0 l.length cap)):=by
 have hjl:j<t.length:=(Va hj).1
 have hjv:j<vs.size:=by rw[ht.1];exact hjl
 have hv:=ht.2 j vs[j] _ (Vc hjv) hj;generalize hvv:vs[j]=v at hv
 cases hv with
 |msu _ _ _ cap b hkn hb hnt hcap hm hs=>
  obtain⟨us,e,f,hh,hsz⟩:=hs;obtain⟨b',us',e',hb',hh',hel,hrv⟩:=hc.blk i _ hi;rw[hb] at hb';obtain rfl:=Option.some.inj hb';rw[hh] at hh';cases hh'
  obtain⟨q1,q2⟩:=Cx.retell hc i b _ (.rows k (padJ k l cap)) hi hb rfl rfl rfl rfl (fun o h=>h.elim) fun hev=>by
   refine⟨b,us,e,hb,hh,fun q x hx=>?_,fun q x m a hx ha=>?_⟩
   ·unfold padJ at hx;rw[List.getElem?_append] at hx
    split at hx
    ·exact hel q x hx
    ·rw[List.getElem?_replicate] at hx
     split at hx
     ·cases hx;simp
     ·cases hx
   ·unfold padJ at hx;rw[List.getElem?_append] at hx
    split at hx
    ·obtain⟨v,g1,g2⟩:=hrv q x m a hx ha;exact⟨v,g1,g2.mono hev⟩
    ·rw[List.getElem?_replicate] at hx
     split at hx
     ·cases hx;rw[List.getElem?_replicate] at ha
      split at ha
      ·cases ha;rename_i hq1 hq2 hm2;have:(q+1)*k<=cap*k:=Nat.mul_le_mul_right _ (by omega);rw[Nat.add_mul] at this
       have hlt:q*k+m<us.size:=by omega
       exact⟨us[q*k+m],Vc hlt,.junk _⟩
      ·cases ha
     ·cases hx
  refine⟨cap,hcap,hm,q1,q2,by simp[ht.1],fun m v x hv hx=>?_⟩;rw[List.getElem?_set] at hx
  split at hx
  ·rename_i hjm;subst hjm;cases hx;rw[Vc hjv,hvv] at hv;cases hv
   exact .msl _ _ _ _ _ b 0 (q2.known hkn) hb (fun y hy=>by
    have hy2:(c.h.set i (.rows k (padJ k l cap)))[i]? = some y:=hy;rw[List.getElem?_set_self (Va hi).1] at hy2
    cases hy2;rfl) hcap hm (fun _=>by simp)
  ·exact(ht.2 m v x hv hx).mono q2
/-! ### appends that make rows -/
structure Grows(P:Program)(c:Cx)(k:Nat)(l:List (List AV))(m:Nat)(v:Value):Prop where
 ex:∃ A cap olds,v=.slice A l.length cap/\cap<l.length+m/\FlatP AV.cell c k l olds/\∀ w:World,w.heap=c.w.heap->(Builtin.firstCells k l.length (.slice A l.length cap)).run P w=.ok olds.toArray w
theorem FlatP.nil{p:AV->Bool}{c:Cx}{k:Nat}:FlatP p c k [] []:=⟨by simp,fun j e h=>by simp at h,fun j e i a h=>by simp at h⟩
theorem Grows.nils{k m:Nat}(hm:0<m){v:Value}(hv:RV c v .nils):Grows P c k [] m v:=by
 cases hv;exact⟨none,0,[],rfl,by simpa using hm,.nil,fun w _=>by simp[Builtin.firstCells]⟩
theorem Grows.own{k m i:Nat}(hm:0<m){v:Value}(hv:RV c v (.sl k [] (.own i)))(hi:c.h[i]? = some (.tok k 0)):Grows P c k [] m v:=by
 obtain⟨A,cap,xs,rfl,hcap,hcm,hf,⟨_,htk⟩,_⟩:=hv.flat;obtain⟨_,_,q⟩:=htk _ _ hi
 have hx:xs=[]:=by have:=hf.len;simpa using this
 have hc0:cap=0:=by
  rcases q rfl with q|⟨b,vs,e,w1,w2,w3,w4,w5⟩
  ·simpa using q
  ·simp at w5
 subst hc0;refine⟨A,0,[],rfl,by simpa using hm,.nil,fun w _=>?_⟩
 cases A with
 |none=>simp[Builtin.firstCells]
 |some a=>simpa using run_firstCells_some w k 0 a 0 0 [] (by simp) (fun j v h=>by simp at h)
theorem Grows.rows(hc:RelH c){i k o n cap m:Nat}{L:List (List AV)}{v:Value}(hv:RV c v (.msl i k o n cap))(hi:c.h[i]? = some (.rows k L))(hk:0<k)(hon:o+n<=L.length)(hcl:∀ x∈(L.drop o).take n,∀ a∈x,a.cell=true)(hg:cap<n+m):Grows P c k ((L.drop o).take n) m v:=by
 cases hv with
 |msl _ _ _ _ _ b o' hkn hb hnt hcap hm ho=>
  obtain⟨vs,e,hR⟩:=RowsAt.of hc hi hb;obtain⟨hf,hcell⟩:=hR.part hk o n hon hcl
  have hlm:((L.drop o).take n).length=n:=by simp;omega
  refine⟨some ⟨b,o',none⟩,cap,_,by rw[hlm],by rw[hlm];exact hg,hf,fun w hw=>?_⟩;rw[hlm]
  by_cases hz:n=0
  ·subst hz
   simpa using run_firstCells_some w k 0 ⟨b,o',none⟩ 0 cap [] (by simp) (fun j v h=>by simp at h)
  ·obtain rfl:=ho (by omega);refine run_firstCells_some w k _ _ _ cap _ (by rw[hf.len,hlm]) fun j v hj=>?_;rw[Addr.add_none,cB (show w.heap[b]? = c.w.heap[b]? by rw[hw])];exact hcell j v hj
theorem grown_rows(hT:TabOk P T)(hc:RelH c){ti e:TI}(he:T ti.elem=some e){slot:Nat}(hsl:c.h[slot]? = some .free){l y:List (List AV)}{olds news:List Value}(ho:FlatP AV.cell c e.size l olds)(hf:FlatP AV.cell c e.size y news){z:Value}
  (hi5:z.cells.size=e.zero.length) (hi6:∀ (j:Nat) (v:Value) (a:AV),z.cells[j]? = some v->e.zero[j]? = some a->a.plain=true/\∀ (c:Cx),RV c v a) (cap':Nat) (h1:l.length+y.length<=cap') (h2:cap'<=maxLen) :
  RelH ⟨setρ c.ρ slot (some c.w.heap.size),c.h.set slot (.rows e.size (l++y++List.replicate (cap'-(l.length+y.length)) e.zero)),c.w.drew.alloc (.cells ((olds++news).toArray++Builtin.zeroCells z.cells (cap'-(l.length+y.length))) ti.elem),c.X⟩ /\
  Ev c ⟨setρ c.ρ slot (some c.w.heap.size),c.h.set slot (.rows e.size (l++y++List.replicate (cap'-(l.length+y.length)) e.zero)),c.w.drew.alloc (.cells ((olds++news).toArray++Builtin.zeroCells z.cells (cap'-(l.length+y.length))) ti.elem),c.X⟩ /\
  RV ⟨setρ c.ρ slot (some c.w.heap.size),c.h.set slot (.rows e.size (l++y++List.replicate (cap'-(l.length+y.length)) e.zero)),c.w.drew.alloc (.cells ((olds++news).toArray++Builtin.zeroCells z.cells (cap'-(l.length+y.length))) ti.elem),c.X⟩ (.slice (some ⟨c.w.heap.size,0,none⟩) (l.length+y.length) cap') (.msl slot e.size 0 (l.length+y.length) cap'):=by
 have hfl:=(ho.app hf).app (zeroCells_flat (c:=c) hi5 (hT _ _ he).zl hi6 (cap'-(l.length+y.length)));exact Cx.newRows hc hsl (p:=AV.cell) (cells:=(olds++news).toArray++Builtin.zeroCells z.cells (cap'-(l.length+y.length))) (by simpa using hfl) ti.elem (c.w.drew.alloc (.cells ((olds++news).toArray++Builtin.zeroCells z.cells (cap'-(l.length+y.length))) ti.elem)) rfl rfl rfl rfl _ _ h1 h2
theorem grow_ok(hT:TabOk P T)(hc:RelH c){t u:Nat}{ti ui e:TI}(ht:TIok P t ti)(hu:TIok P u ui)(hs:ti.sort=.sl)(he:T ti.elem=some e)(hpos:0<e.size){slot:Nat}(hsl:c.h[slot]? = some .free){v vx:Value}{x:AV}{l:List (List AV)}{q:PD (List (List AV))}
  (hx:RV c vx x) (hy:asrcM e.size c.h ui x=some q) (hq:q.1) (hg:Grows P c e.size l q.2.length v) (hb1:(l.length+q.2.length)*e.bytes<=140737488355328) (hb2:l.length+q.2.length<=4611686018427387904) (ty:TypeId) :
  ∃ w' cap' r,l.length+q.2.length<=cap'/\cap'<=maxLen/\(Builtin.append_ #[t,u] ty #[v,vx]).run P c.w=.ok r w'/\RelH ⟨setρ c.ρ slot (some c.w.heap.size),c.h.set slot (.rows e.size (l++q.2++List.replicate (cap'-(l.length+q.2.length)) e.zero)),w',c.X⟩ /\
   Ev c ⟨setρ c.ρ slot (some c.w.heap.size),c.h.set slot (.rows e.size (l++q.2++List.replicate (cap'-(l.length+q.2.length)) e.zero)),w',c.X⟩ /\
   RV ⟨setρ c.ρ slot (some c.w.heap.size),c.h.set slot (.rows e.size (l++q.2++List.replicate (cap'-(l.length+q.2.length)) e.zero)),w',c.X⟩ r (.msl slot e.size 0 (l.length+q.2.length) cap'):=by
 obtain⟨d,hd,hso⟩:=ht.desc;unfold sortOk at hso;rw[hs] at hso;subst hso;obtain⟨ie,z,hi1,hi2,hi3,hi4,hi5,hi6⟩:=(hT _ _ he).info;obtain⟨⟨du,hdu,hn⟩,news,hf,hlen,hnews⟩:=asrcM_ok hc hpos hu hx hy hq;obtain⟨A,cap,olds,rfl,hlt,hfo,hold⟩:=hg.ex;rw[<- hi2] at hnews hold;rw[<- hi3] at hb1;have hrun:=run_append_out (P:=P) (W:=c.w) hd hdu hn hi1 hi4 hlen hnews ty (A:=A) (n:=l.length) (cap:=cap) hlt hold hb2 hb1;have hge:=grownCap_ge c.w (l.length+q.2.length) cap ti.elem;have hle:=grownCap_le_maxLen c.w (l.length+q.2.length) cap ti.elem (by unfold maxLen;omega);obtain⟨g1,g2,g3⟩:=grown_rows hT hc he hsl hfo hf hi5 hi6 _ hge hle;exact⟨_,_,_,hge,hle,hrun,g1,g2,g3⟩
theorem growZ_ok(hT:TabOk P T)(hc:RelH c){t u:Nat}{ti ui e:TI}(ht:TIok P t ti)(hu:TIok P u ui)(hs:ti.sort=.sl)(he:T ti.elem=some e)(hpos:0<e.size){slot:Nat}(hsl:c.h[slot]? = some .free){v vx:Value}{l:List (List AV)}{kd kd':IntKind}{m:Int}
  (hus:ui.sort=.int kd) (hx:RV c vx (.int kd' m)) (hm:0<m) (hg:Grows P c e.size l m.toNat v) (hb1:(l.length+m.toNat)*e.bytes<=140737488355328) (hb2:l.length+m.toNat<=4611686018427387904) (ty:TypeId) :
  ∃ w' cap' r,l.length+m.toNat<=cap'/\cap'<=maxLen/\(Builtin.append_ #[t,u] ty #[v,vx]).run P c.w=.ok r w'/\RelH ⟨setρ c.ρ slot (some c.w.heap.size),c.h.set slot (.rows e.size (l++List.replicate m.toNat e.zero++List.replicate (cap'-(l.length+m.toNat)) e.zero)),w',c.X⟩ /\
   Ev c ⟨setρ c.ρ slot (some c.w.heap.size),c.h.set slot (.rows e.size (l++List.replicate m.toNat e.zero++List.replicate (cap'-(l.length+m.toNat)) e.zero)),w',c.X⟩ /\
   RV ⟨setρ c.ρ slot (some c.w.heap.size),c.h.set slot (.rows e.size (l++List.replicate m.toNat e.zero++List.replicate (cap'-(l.length+m.toNat)) e.zero)),w',c.X⟩ r (.msl slot e.size 0 (l.length+m.toNat) cap'):=by
 obtain⟨d,hd,hso⟩:=ht.desc;unfold sortOk at hso;rw[hs] at hso;subst hso;obtain⟨du,hdu,hsu⟩:=hu.desc;unfold sortOk at hsu;rw[hus] at hsu;subst hsu;obtain rfl:=hx.ints;obtain⟨ie,z,hi1,hi2,hi3,hi4,hi5,hi6⟩:=(hT _ _ he).info;obtain⟨A,cap,olds,rfl,hlt,hfo,hold⟩:=hg.ex;rw[<- hi2] at hold;obtain⟨mm,rfl⟩:=Int.eq_ofNat_of_zero_le (Int.le_of_lt hm);simp only[Int.toNat_natCast] at *
 have hb1':(l.length+mm)*ie.bytes<=140737488355328:=by rw[hi3];exact hb1
 have hrun:=Lib.run_append_grow_zeros (P:=P) c.w t u ty ti.elem ie z kd' kd hd hdu hi1 hi4 A l.length cap olds (hold c.w.drew rfl) mm (by omega) (by omega) hlt (by omega) (by rw[hi3];have:mm*e.bytes<=(l.length+mm)*e.bytes:=Nat.mul_le_mul_right _ (by omega);omega)
  (by have:=growslice_fits hlt hb1';omega)
 have hge:=grownCap_ge c.w (l.length+mm) cap ti.elem;have hle:=grownCap_le_maxLen c.w (l.length+mm) cap ti.elem (by unfold maxLen;omega);have hz:=zeroCells_flat (c:=c) hi5 (hT _ _ he).zl hi6 mm;obtain⟨g1,g2,g3⟩:=grown_rows hT hc he hsl hfo hz hi5 hi6 _ (by simpa using hge) hle;simp only[List.length_replicate] at g1 g2 g3
 have e1:(olds++(Builtin.zeroCells z.cells mm).toList).toArray=olds.toArray++Builtin.zeroCells z.cells mm:=by apply Array.ext';simp
 rw[e1] at g1 g2 g3;exact⟨_,_,_,hge,hle,hrun,g1,g2,g3⟩
end
section
variable {P:Program} {T:TabT} {f:FuncId} {c0:Cx} {R:AV->List ABlk->Prop} {k:List Item} {s:AState} {ops:Array Oper} {n:Nat} {o:Oper} {rest:List Oper}
theorem Run.resolve{j i kk:Nat}{l:List (List AV)}(hj:s.t[j]? = some (.msu i kk l.length))(hi:s.h[i]? = some (.rows kk l))(h:∀ cap,l.length<=cap->cap<=maxLen->Run P f c0 R k ⟨s.t.set j (.msl i kk 0 l.length cap),s.h.set i (.rows kk (padJ kk l cap))⟩):Run P f c0 R k s:=
 ⟨fun ρ w a g1 g2 g3 g4=>by
  obtain⟨cap,h1,h2,q1,q2,q3⟩:=resolve_core g1 g3 hj hi
  exact(h cap h1 h2).h ρ w a q1 (g2.trans q2) q3 g4⟩
inductive From(s:AState)(kk m:Nat):AV->List (List AV)->Prop where
 |nils (hm:0<m):From s kk m .nils []
 |own (i:Nat) (hm:0<m) (hi:s.h[i]? = some (.tok kk 0)):From s kk m (.sl kk [] (.own i)) []
 |rows (i o n cap:Nat) (L:List (List AV)) (hi:s.h[i]? = some (.rows kk L)) (hon:o+n<=L.length) (hcl:∀ x∈(L.drop o).take n,∀ a∈x,a.cell=true) (hg:cap<n+m):From s kk m (.msl i kk o n cap) ((L.drop o).take n)
theorem From.grows{ρ:Nat->Option Nat}{w:World}(hc:RelH ⟨ρ,s.h,w,c0.X⟩){kk m:Nat}(hk:0<kk){x:AV}{l:List (List AV)}(h:From s kk m x l){v:Value}(hv:RV ⟨ρ,s.h,w,c0.X⟩ v x):Grows P ⟨ρ,s.h,w,c0.X⟩ kk l m v:=by
 cases h with
 |nils hm=>exact Grows.nils hm hv
 |own i hm hi=>exact Grows.own hm hv hi
 |rows i o n cap L hi hon hcl hg=>exact Grows.rows hc hv hi hk hon hcl hg
theorem From.ext{kk m:Nat}{x:AV}{l:List (List AV)}(h:From s kk m x l):From ⟨s.t,s.h++[.free]⟩ kk m x l:=by
 have key:∀ (i:Nat) y,s.h[i]? = some y->(s.h++[ABlk.free])[i]? = some y:=fun i y hy=>by rw[List.getElem?_append_left (Va hy).1];exact hy
 cases h with
 |nils hm=>exact .nils hm
 |own i hm hi=>exact .own i hm (key i _ hi)
 |rows i o n cap L hi hon hcl hg=>exact .rows i o n cap L (key i _ hi) hon hcl hg
theorem asrcM_ext{kk:Nat}{h:List ABlk}{ui:TI}{x:AV}{q:PD (List (List AV))}(hy:asrcM kk h ui x=some q):asrcM kk (h++[.free]) ui x=some q:=by
 unfold asrcM at hy ⊢
 split at hy
 ·rename_i j k2 o2 n2 cp
  split at hy
  ·rename_i k3 M hs hj
   have:(h++[ABlk.free])[j]? = some (.rows k3 M):=by rw[List.getElem?_append_left (Va hj).1];exact hj
   simp only[hs,this];exact hy
  ·cases hy
 ·exact hy
theorem Ops.appendF(hT:TabOk P T)(hw:Wanted ops s.t o.guard true){a0 a1:Operand}{t u:TypeId}(hop:o.op=.call { callee:=.builtin .append,args:=#[a0,a1],argTypes:=#[t,u] }){ti ui e:TI}(hti:T t=some ti)(hui:T u=some ui)(hs:ti.sort=.sl)(he:T ti.elem=some e)(hpos:0<e.size)
  {q:PD (List (List AV))} (hy:asrcM e.size s.h ui (aev s.t a1)=some q) (hq:q.1) {l:List (List AV)} (hx:From s e.size q.2.length (aev s.t a0) l) (hb1:(l.length+q.2.length)*e.bytes<=140737488355328) (hb2:l.length+q.2.length<=4611686018427387904)
  (h:∀ cap,l.length+q.2.length<=cap->cap<=maxLen->Ops P f c0 R ops (n+1) rest k ⟨aput s.t o.dst (.msl s.h.length e.size 0 (l.length+q.2.length) cap),s.h++[.rows e.size (l++q.2++List.replicate (cap-(l.length+q.2.length)) e.zero)]⟩):Ops P f c0 R ops n (o::rest) k s:=by
 refine⟨fun hd ρ w a g1 g2 g3 g4=>?_⟩;obtain⟨ho',hd'⟩:=range'_cons hd;rw[List.length_cons,List.range'_succ];obtain⟨dst,op,ty,pos,after,guard⟩:=o;simp only at hop;subst hop;obtain⟨r1,r2⟩:=Cx.grow g1
 have hfr:(s.h++[ABlk.free])[s.h.length]? = some .free:=by simp
 have g3':=g3.mono r2;obtain⟨w',cap,r,h1,h2,hrun,q1,q2,q3⟩:=grow_ok (P:=P) hT r1 (hT _ _ hti) (hT _ _ hui) hs he hpos hfr (g3'.ev a1) (asrcM_ext hy) hq (From.grows (s:=⟨s.t,s.h++[.free]⟩) r1 hpos hx.ext (g3'.ev a0)) hb1 hb2 ty
 have e1:(s.h++[ABlk.free]).set s.h.length (.rows e.size (l++q.2++List.replicate (cap-(l.length+q.2.length)) e.zero))=s.h++[.rows e.size (l++q.2++List.replicate (cap-(l.length+q.2.length)) e.zero)]:=by
  rw[List.set_append_right _ _ (Nat.le_refl _)];simp
 simp only[e1] at q1 q2 q3;exact((h cap h1 h2).h hd' _ w' (a.put dst r) q1 (g2.trans (r2.trans q2)) ((g3'.mono q2).put dst q3) (by cases dst<;>exact g4)).step fun bb cs _=>step_value (P:=P) ho' (hw.ok g3) (by simp[execOp,Go.resolve,Go.invoke,Go.builtin,hrun]) (.inl rfl)
theorem Ops.appendZ(hT:TabOk P T)(hw:Wanted ops s.t o.guard true){a0 a1:Operand}{t u:TypeId}(hop:o.op=.call { callee:=.builtin .append,args:=#[a0,a1],argTypes:=#[t,u] }){ti ui e:TI}(hti:T t=some ti)(hui:T u=some ui)(hs:ti.sort=.sl)(he:T ti.elem=some e)(hpos:0<e.size)
  {kd kd':IntKind} {m:Int} (hus:ui.sort=.int kd) (hy:aev s.t a1=.int kd' m) (hm:0<m) {l:List (List AV)} (hx:From s e.size m.toNat (aev s.t a0) l) (hb1:(l.length+m.toNat)*e.bytes<=140737488355328) (hb2:l.length+m.toNat<=4611686018427387904)
  (h:∀ cap,l.length+m.toNat<=cap->cap<=maxLen->Ops P f c0 R ops (n+1) rest k ⟨aput s.t o.dst (.msl s.h.length e.size 0 (l.length+m.toNat) cap),s.h++[.rows e.size (l++List.replicate m.toNat e.zero++List.replicate (cap-(l.length+m.toNat)) e.zero)]⟩):Ops P f c0 R ops n (o::rest) k s:=by
 refine⟨fun hd ρ w a g1 g2 g3 g4=>?_⟩;obtain⟨ho',hd'⟩:=range'_cons hd;rw[List.length_cons,List.range'_succ];obtain⟨dst,op,ty,pos,after,guard⟩:=o;simp only at hop;subst hop;obtain⟨r1,r2⟩:=Cx.grow g1
 have hfr:(s.h++[ABlk.free])[s.h.length]? = some .free:=by simp
 have g3':=g3.mono r2;have hvm:=g3'.ev a1;rw[hy] at hvm;obtain⟨w',cap,r,h1,h2,hrun,q1,q2,q3⟩:=growZ_ok (P:=P) hT r1 (hT _ _ hti) (hT _ _ hui) hs he hpos hfr hus hvm hm (From.grows (s:=⟨s.t,s.h++[.free]⟩) r1 hpos hx.ext (g3'.ev a0)) hb1 hb2 ty
 have e1:(s.h++[ABlk.free]).set s.h.length (.rows e.size (l++List.replicate m.toNat e.zero++List.replicate (cap-(l.length+m.toNat)) e.zero))=s.h++[.rows e.size (l++List.replicate m.toNat e.zero++List.replicate (cap-(l.length+m.toNat)) e.zero)]:=by
  rw[List.set_append_right _ _ (Nat.le_refl _)];simp
 simp only[e1] at q1 q2 q3;exact((h cap h1 h2).h hd' _ w' (a.put dst r) q1 (g2.trans (r2.trans q2)) ((g3'.mono q2).put dst q3) (by cases dst<;>exact g4)).step fun bb cs _=>step_value (P:=P) ho' (hw.ok g3) (by simp[execOp,Go.resolve,Go.invoke,Go.builtin,hrun]) (.inl rfl)
end
section
variable {P:Program}
theorem RV.frozen{c:Cx}(hc:RelH c){v:Value}{i k o n cap:Nat}{L:List (List AV)}(hv:RV c v (.msl i k o n cap))(hi:c.h[i]? = some (.rows k L))(hk:0<k)(hon:o+n<=L.length)(hp:∀ x∈(L.drop o).take n,∀ a∈x,a.plain=true) :
  RelH ⟨c.ρ,c.h.set i .dead,c.w,c.X⟩/\Ev c ⟨c.ρ,c.h.set i .dead,c.w,c.X⟩/\RV ⟨c.ρ,c.h.set i .dead,c.w,c.X⟩ v (.sl k ((L.drop o).take n) .no):=by
 obtain⟨q1,q2⟩:=Cx.freeze hc i _ hi rfl;refine⟨q1,q2,?_⟩
 cases hv with
 |msl _ _ _ _ _ b o' hkn hb hnt hcap hm ho=>
  obtain⟨vs,e,hR⟩:=RowsAt.of hc hi hb;obtain⟨hf,hcell⟩:=hR.part hk o n hon hp
  have hln:((L.drop o).take n).length=n:=by simp;omega
  have hbs:b<c.w.heap.size:=hc.here i _ b hi hb;refine RV.sl_of (t:=.no) (FlatP.mono' q2 hf) (by omega) hm b o' (fun _=>rfl) (fun q u hq=>?_) trivial hln;have hq':=(Va hq).1;rw[hf.len,hln] at hq'
  have hn0:0<n:=Nat.pos_of_ne_zero fun h=>by rw[h] at hq';simp at hq'
  obtain rfl:=ho (by omega);refine⟨⟨hbs,fun hX=>(hc.xs b _ hX).2 i _ hi rfl hb,fun j x hj hjb=>?_⟩,hcell q u hq⟩
  by_cases hji:j=i
  ·subst hji;rw[show(Cx.mk c.ρ (c.h.set j .dead) c.w c.X).h=c.h.set j .dead from rfl,List.getElem?_set_self (Va hi).1] at hj;cases hj
   trivial
  ·rw[show(Cx.mk c.ρ (c.h.set i .dead) c.w c.X).h=c.h.set i .dead from rfl,List.getElem?_set_ne (Ne.symm hji)] at hj
   by_cases hl:x.live=true
   ·exact absurd (hc.inj j i x _ b hj hi hl rfl hjb hb) hji
   ·cases x<;>first|exact absurd rfl hl|trivial
theorem ACall.freeze{f:FuncId}{args:List AV}{h:List ABlk}{R:AV->List ABlk->Prop}
  (H:ACall P f args h fun r h'=>∃ i k o n cap L,r=.msl i k o n cap/\h'[i]? = some (.rows k L)/\0<k/\o+n<=L.length/\(∀ x∈(L.drop o).take n,∀ a∈x,a.plain=true)/\R (.sl k ((L.drop o).take n) .no) (h'.set i .dead)):ACall P f args h R:=by
 intro c vs hch hc ht;refine(H c vs hch hc ht).mono ?_;rintro e w' ⟨v,ρ',r,h',rfl,g1,g2,g3,i,k,o,n,cap,L,rfl,hi,hk,hon,hp,hR⟩;obtain⟨q1,q2,q3⟩:=g3.frozen g1 hi hk hon hp;exact⟨v,ρ',_,_,rfl,q1,g2.trans q2,q3,hR⟩
theorem Weak.freezeM{c0:Cx}{s:AState}(j i k o n cap:Nat)(L:List (List AV))(hj:s.t[j]? = some (.msl i k o n cap))(hi:s.h[i]? = some (.rows k L))(hk:0<k)(hon:o+n<=L.length)(hp:∀ x∈(L.drop o).take n,∀ a∈x,a.plain=true) :
  Weak P c0 s ⟨s.t.set j (.sl k ((L.drop o).take n) .no),s.h.set i .dead⟩:=by
 refine⟨fun ρ w vs h1 h2 h3=>?_⟩;have hjl:j<s.t.length:=(Va hj).1
 have hjv:j<vs.size:=by rw[h3.1];exact hjl
 obtain⟨q1,q2,q3⟩:=(h3.2 j vs[j] _ (Vc hjv) hj).frozen h1 hi hk hon hp;refine⟨ρ,q1,h2.trans q2,by simp[h3.1],fun m v x hv hx=>?_⟩;rw[List.getElem?_set] at hx
 split at hx
 ·rename_i hjm;subst hjm;rw[Vc hjv] at hv;cases hv
  first
   |(cases hx;exact q3)
   |(split at hx
     ·cases hx;exact q3
     ·cases hx)
 ·exact(h3.2 m v x hv hx).mono q2
end
structure MSpec(P:Program)(f:FuncId)(args:List AV)(k:Nat)(l:List (List AV)):Prop where
 fn:Callable P f
 ne:l≠[]
 pos:0<k
 run:ACall P f args [] fun r h'=>∃ i cap L,r=.msl i k 0 l.length cap/\h'[i]? = some (.rows k L)/\cap<=L.length/\L.take l.length=l
section
variable {P:Program} {f:FuncId}
theorem ACall.newAt{args args':List AV}{k:Nat}{l:List (List AV)}{h:List ABlk}{R:AV->List ABlk->Prop}{sl:Nat}(hfr:h[sl]? = some .free)(hs:MSpec P f args k l)(hle:LeL args' args)(ha:belL 0 args=true)(hbl:belLL 0 l=true)(hR:R (.msu sl k l.length) (h.set sl (.rows k l))):ACall P f args' h R:=by
 intro c vs hch hc ht;subst hch;have hsl:sl<c.h.length:=(Va hfr).1;refine(hs.run c.shut vs rfl Cx.shut_rel ((hle.rel ht).shut ha)).mono ?_;rintro e w' ⟨v,ρ',r,h',rfl,g1,g2,g3,i,cap,L,rfl,hi,hcL,hLl⟩
 have hbig:∀ b,ρ' i=some b->c.w.heap.size<=b:=fun b hb=>by
  rcases Nat.lt_or_ge b c.w.heap.size with hlt|hge
  ·exact absurd ⟨i,_,hi,rfl,hb⟩ (g2.fr b hlt (by rintro⟨i,x,hx,_⟩;simp[Cx.shut] at hx)).2
  ·exact hge
 have hold:∀ b,b<c.w.heap.size->w'.heap[b]? = c.w.heap[b]?:=fun b hb=>(g2.fr b hb (by rintro⟨i,x,hx,_⟩;simp[Cx.shut] at hx)).1;have hsz:c.w.heap.size<=w'.heap.size:=g2.size
 have hcase:∀ (j:Nat) y b,(c.h.set sl (ABlk.rows k l))[j]? = some y->setρ c.ρ sl (ρ' i) j=some b->(j=sl/\y=.rows k l/\ρ' i=some b/\c.w.heap.size<=b)\/(j≠sl/\c.h[j]? = some y/\c.ρ j=some b/\b<c.w.heap.size):=fun j y b hy hb=>by
  by_cases hj:j=sl
  ·subst hj;rw[setρ_same] at hb;rw[List.getElem?_set_self hsl] at hy;simp at hy;exact .inl ⟨rfl,hy.symm,hb,hbig b hb⟩
  ·rw[setρ_ne _ _ hj] at hb;rw[List.getElem?_set_ne (Ne.symm hj)] at hy;exact .inr ⟨hj,hy,hb,hc.here j y b hy hb⟩
 have hρ:∀ (j:Nat),j≠sl->setρ c.ρ sl (ρ' i) j=c.ρ j:=fun j hx=>setρ_ne _ _ hx
 have hev:Ev c ⟨setρ c.ρ sl (ρ' i),c.h.set sl (.rows k l),w',c.X⟩:=by
  refine⟨g2.os,g2.tape,g2.output,hsz,rfl,fun b o h=>⟨⟨Nat.lt_of_lt_of_le h.1 hsz,h.2.1,fun j y hy hb=>?_⟩,cB (hold b h.1)⟩,fun b hb hm=>⟨hold b hb,?_⟩,by simp,fun j x hx hf=>?_,keep_old hold⟩
  ·rcases hcase j y b hy hb with⟨_,_,_,hge⟩|⟨_,q1,q2,_⟩
   ·have:=h.1;omega
   ·exact h.2.2 j y q1 q2
  ·rintro⟨j,y,hy,hl,hj⟩
   rcases hcase j y b hy hj with⟨_,_,_,hge⟩|⟨_,q1,q2,_⟩
   ·omega
   ·exact hm ⟨j,y,q1,hl,q2⟩
  ·have hj:j≠sl:=by rintro rfl;rw[hfr] at hx;cases hx;cases hf
   exact⟨x,by rw[List.getElem?_set_ne (Ne.symm hj)];exact hx,hf,fun ht=>⟨ht,hρ j hj⟩,fun k n e=>⟨n,e,.inr ⟨rfl,hρ j hj,fun b hb=>hold b (hc.here j x b hx hb)⟩⟩⟩
 have him:∀ b o,(Cx.mk ρ' h' w' c.shut.X).im b o->(Cx.mk (setρ c.ρ sl (ρ' i)) (c.h.set sl (.rows k l)) w' c.X).im b o:=fun b o h=>by
  have hx:¬(b<c.w.heap.size/\¬c.im b o):=h.2.1
  by_cases hb:b<c.w.heap.size
  ·have him:c.im b o:=Vf fun hn=>hx ⟨hb,hn⟩;exact(hev.im b o him).1
  ·refine⟨h.1,fun hX=>hb (hc.xs b o hX).1,fun j y hy hρj=>?_⟩
   rcases hcase j y b hy hρj with⟨_,rfl,q,_⟩|⟨_,q1,q2,q3⟩
   ·exact(h.2.2 i (.rows k L) hi q:False)
   ·omega
 have hxf:∀ v a,RV ⟨ρ',h',w',c.shut.X⟩ v a->a.bel 0=true->RV ⟨setρ c.ρ sl (ρ' i),c.h.set sl (.rows k l),w',c.X⟩ v a:=fun v a hv hb=>
  RV.xfer (c:=⟨ρ',h',w',c.shut.X⟩) (c2:=⟨setρ c.ρ sl (ρ' i),c.h.set sl (.rows k l),w',c.X⟩) (n:=0) (fun b o h=>⟨him b o h,rfl⟩) (fun i hi=>absurd hi (Nat.not_lt_zero i)) (fun i b hi=>absurd hi (Nat.not_lt_zero i)) hv hb
 cases g3 with
 |msl _ _ _ _ _ b o' hkn hb hnt hcap hm ho=>
  obtain⟨us,te,hR2⟩:=RowsAt.of g1 hi hb;have hszr:=hR2.size hs.pos;have hl0:0<l.length:=List.length_pos_iff.2 hs.ne
  obtain rfl:o'=0:=by rw[ho (by omega)];simp
  have hget:∀ (j:Nat) x,l[j]? = some x->L[j]? = some x:=fun j x hx=>by
   rw[<- hLl,List.getElem?_take] at hx
   split at hx
   ·exact hx
   ·cases hx
  have hrel:RelH ⟨setρ c.ρ sl (ρ' i),c.h.set sl (.rows k l),w',c.X⟩:=by
   refine⟨fun j j' y y' b hy hy' ly ly' hb hb'=>?_,fun j y b hy hb=>?_,fun j y hy=>?_,fun b o h=>⟨Nat.lt_of_lt_of_le (hc.xs b o h).1 hsz,fun j y hy hl hb=>?_⟩⟩
   ·rcases hcase j y b hy hb with⟨rfl,_,_,q⟩|⟨_,q1,q2,q3⟩<;>rcases hcase j' y' b hy' hb' with⟨rfl,_,_,w⟩|⟨_,w1,w2,w3⟩
    ·rfl
    ·omega
    ·omega
    ·exact hc.inj j j' y y' b q1 w1 ly ly' q2 w2
   ·rcases hcase j y b hy hb with⟨_,_,q,_⟩|⟨_,q1,q2,q3⟩
    ·exact g1.here i _ b hi q
    ·exact Nat.lt_of_lt_of_le q3 hsz
   ·by_cases hj:j=sl
    ·subst hj;rw[List.getElem?_set_self hsl] at hy;simp at hy;subst hy;refine⟨b,us,te,by simp only[setρ_same];exact hb,hR2.hh,fun q x hx=>hR2.el q x (hget q x hx),fun q x m a hx ha=>?_⟩;obtain⟨v,q1,q2⟩:=hR2.rv q x m a (hget q x hx) ha;exact⟨v,q1,hxf v a q2 (belL_get (belLL_get hbl q x hx) m a ha)⟩
    ·rw[List.getElem?_set_ne (Ne.symm hj)] at hy;exact(hc.blk j y hy).mono hev (hρ j hj) fun b _ hb=>hold b (hc.here j y b hy hb)
   ·rcases hcase j y b hy hb with⟨_,_,_,q⟩|⟨_,q1,q2,q3⟩
    ·have:=(hc.xs b o h).1;omega
    ·exact(hc.xs b o h).2 j y q1 hl q2
  have hlast:(c.h.set sl (ABlk.rows k l))[sl]? = some (.rows k l):=List.getElem?_set_self hsl;refine⟨_,_,_,_,rfl,hrel,hev,.msu sl k l.length cap b ⟨_,hlast,rfl⟩ (by simp only[setρ_same];exact hb) (fun x hx=>?_) hcap hm ⟨us,te,(0,0),hR2.hh,Nat.le_trans (Nat.mul_le_mul_right _ hcL) hszr⟩,hR⟩;have hx2:(c.h.set sl (ABlk.rows k l))[sl]? = some x:=hx;rw[hlast] at hx2;cases hx2;rfl
theorem ACall.grown{args:List AV}{h:List ABlk}{R:AV->List ABlk->Prop}(H:ACall P f args (h++[.free]) R):ACall P f args h R:=by
 intro c vs hch hc ht;subst hch;obtain⟨q1,q2⟩:=Cx.grow hc;refine(H _ vs rfl q1 (ht.mono q2)).mono ?_;rintro e w' ⟨v,ρ',r,h',rfl,g1,g2,g3,hR⟩;exact⟨v,ρ',r,h',rfl,g1,q2.trans g2,g3,hR⟩
theorem OSpec.nil{args:List AV}{k:Nat}(hfn:Callable P f)(H:ACall P f args [] fun r _=>r=.nils\/∃ i k' o,r=.msl i k' o 0 0):OSpec P f args k []:=by
 refine⟨hfn,fun c vs hch hc ht=>(H c vs hch hc ht).mono ?_⟩;rintro e w' ⟨v,ρ',r,h',rfl,g1,g2,g3,hr⟩
 have hv:∃ A,v=.slice A 0 0:=by
  rcases hr with rfl|⟨i,k',o,rfl⟩
  ·cases g3;exact⟨_,rfl⟩
  ·cases g3;exact⟨_,rfl⟩
 obtain⟨A,rfl⟩:=hv;obtain⟨q1,q2⟩:=Cx.grow g1
 have hfr:(h'++[ABlk.free])[h'.length]? = some .free:=by simp
 obtain⟨q3,q4⟩:=Cx.unborn q1 h'.length k hfr;have hlast:((h'++[ABlk.free]).set h'.length (.tok k 0))[h'.length]? = some (.tok k 0):=List.getElem?_set_self (by simp);refine⟨_,_,.sl k [] (.own h'.length),_,rfl,q3,g2.trans (q2.trans q4),?_,h'.length,rfl,hlast⟩;refine .sl k [] _ A 0 0 0 0 (fun _ _=>undef) rfl (Nat.le_refl _) (Nat.zero_le _) (fun h=>absurd rfl h) (fun j e h=>by simp at h) (fun j e i a h=>by simp at h) (fun j e i a h=>by simp at h) ⟨⟨_,hlast,rfl⟩,fun k' n' e=>?_⟩;have e2:((h'++[ABlk.free]).set h'.length (.tok k 0))[h'.length]? = some (.tok k' n'):=e;rw[hlast] at e2;cases e2;exact⟨rfl,Nat.le_refl _,fun _=>.inl rfl⟩
/-! ### a callee that takes one block of its caller's -/
def Cx.one(c:Cx)(i:Nat):Cx:=⟨fun q=>if q=0 then c.ρ i else none,[(c.h[i]?).getD .dead],c.w,fun b o=>b<c.w.heap.size/\¬c.im b o/\c.ρ i≠some b⟩
def Lent(x:ABlk):Prop:=(∃ k L,x=.rows k L/\belLL 0 L=true)\/∃ k,x=.tok k 0
theorem Lent.fix{x:ABlk}(h:Lent x)(o:Nat):¬x.fix o:=by
 rcases h with⟨k,L,rfl,_⟩|⟨k,rfl⟩
 ·exact fun h=>h
 ·intro h;have:o<0*k:=h;omega
theorem Lent.live{x:ABlk}(h:Lent x):x.live=true:=by rcases h with⟨k,L,rfl,_⟩|⟨k,rfl⟩<;>rfl
theorem Lent.free{x:ABlk}(h:Lent x):x.isfree=false:=by rcases h with⟨k,L,rfl,_⟩|⟨k,rfl⟩<;>rfl
section
variable {c:Cx} {i:Nat} {X0:ABlk}
theorem Cx.one_get(hi:c.h[i]? = some X0)(q:Nat)(x:ABlk)(hx:(c.one i).h[q]? = some x):q=0/\x=X0:=by
 simp only[Cx.one,hi,Y4] at hx
 match q,hx with
 |0,hx=>simp at hx;exact⟨rfl,hx.symm⟩
 |q+1,hx=>simp at hx
theorem Cx.one_im(hi:c.h[i]? = some X0){b o:Nat}(h:c.im b o):(c.one i).im b o:=by
 refine⟨h.1,fun hx=>hx.2.1 h,fun q x hx hb=>?_⟩;obtain⟨rfl,rfl⟩:=Cx.one_get hi q x hx;exact h.2.2 i _ hi (by simpa [Cx.one] using hb)
theorem Cx.one_xfer(hi:c.h[i]? = some X0){v:Value}{a:AV}(h:RV c v a)(ha:a.bel 0=true):RV (c.one i) v a:=
 h.xfer (fun _ _ h=>⟨Cx.one_im hi h,rfl⟩) (fun i hi=>absurd hi (Nat.not_lt_zero i)) (fun i _ hi=>absurd hi (Nat.not_lt_zero i)) ha
theorem Cx.one_rel(hc:RelH c)(hi:c.h[i]? = some X0)(hX:Lent X0):RelH (c.one i):=by
 refine⟨fun q r x y b hx hy _ _ hb hb'=>?_,fun q x b hx hb=>?_,fun q x hx=>?_,fun b o h=>⟨h.1,fun q x hx _ hb=>?_⟩⟩
 ·obtain⟨rfl,_⟩:=Cx.one_get hi q x hx;obtain⟨rfl,_⟩:=Cx.one_get hi r y hy;rfl
 ·obtain⟨rfl,rfl⟩:=Cx.one_get hi q x hx;exact hc.here i _ b hi (by simpa [Cx.one] using hb)
 ·obtain⟨rfl,rfl⟩:=Cx.one_get hi q x hx;have hb:=hc.blk i _ hi
  rcases hX with⟨k,L,rfl,hL⟩|⟨k,rfl⟩
  ·obtain⟨b,vs,e,h1,h2,h3,h4⟩:=hb
   exact⟨b,vs,e,by simpa [Cx.one] using h1,h2,h3,fun q x m a hx ha=>by
    obtain⟨v,g1,g2⟩:=h4 q x m a hx ha
    exact⟨v,g1,Cx.one_xfer hi g2 (belL_get (belLL_get hL q x hx) m a ha)⟩⟩
  ·intro b h;exact hb b (by simpa [Cx.one] using h)
 ·obtain⟨rfl,rfl⟩:=Cx.one_get hi q x hx;exact h.2.2 (by simpa [Cx.one] using hb)
inductive OneA(i:Nat):AV->AV->Prop where
 |le {a b:AV} (h:Le a b) (hb:b.bel 0=true):OneA i a b
 |msu (k n:Nat):OneA i (.msu i k n) (.msu 0 k n)
 |own (k:Nat) (l:List (List AV)):OneA i (.sl k l (.own i)) (.sl k l (.own 0))
inductive OneL(i:Nat):List AV->List AV->Prop where
 |nil:OneL i [] []
 |cons {a b:AV} {as bs:List AV} (h:OneA i a b) (hs:OneL i as bs):OneL i (a::as) (b::bs)
theorem OneA.rv(hi:c.h[i]? = some X0)(hX:Lent X0){a b:AV}(h:OneA i a b){v:Value}(hv:RV c v a):RV (c.one i) v b:=by
 have h0:(c.one i).h[0]? = some X0:=by simp[Cx.one,hi]
 have hkn:(c.one i).known 0:=⟨X0,h0,hX.free⟩
 cases h with
 |le h hb=>exact Cx.one_xfer hi (h.rv hv) hb
 |msu k n=>
  cases hv with
  |msu _ _ _ cap b hk hb ht h1 h2 h3=>
   refine .msu 0 k n cap b hkn (by simpa [Cx.one] using hb) (fun x hx=>?_) h1 h2 h3;rw[h0] at hx;cases hx;exact ht _ hi
 |own k l=>
  cases hv with
  |sl _ _ _ A n cap b o vs hn hcap hm hA hk hc hr ht=>
   refine .sl k l _ A n cap b o vs hn hcap hm hA hk (fun j e m a he ha=>?_) (fun j e m a he ha=>Cx.one_xfer hi (hr j e m a he ha) (AV.plain_bel (hc j e m a he ha).1 0)) ⟨hkn,fun k' n' e=>?_⟩
   ·obtain⟨g1,g2,g3⟩:=hc j e m a he ha;exact⟨g1,Cx.one_im hi g2,g3⟩
   ·rw[h0] at e;cases e;obtain⟨_,g⟩:=ht;obtain⟨q1,q2,q3⟩:=g _ _ hi;refine⟨q1,q2,fun e=>?_⟩
    rcases q3 e with q|⟨b,vs,e',w1,w2,w3,w4⟩
    ·exact .inl q
    ·exact .inr ⟨b,vs,e',by simpa [Cx.one] using w1,w2,w3,w4⟩
theorem OneL.rel(hi:c.h[i]? = some X0)(hX:Lent X0){as bs:List AV}(h:OneL i as bs):∀ {vs:Array Value},TRel c vs as->TRel (c.one i) vs bs:=by
 have len:∀ {as bs},OneL i as bs->as.length=bs.length:=by
  intro as bs h
  induction h with
  |nil=>rfl
  |cons _ _ ih=>simp[ih]
 have get:∀ {as bs},OneL i as bs->∀ (j:Nat) b,bs[j]? = some b->∃ a,as[j]? = some a/\OneA i a b:=by
  intro as bs h
  induction h with
  |nil=>intro j b h;simp at h
  |cons h _ ih=>
   intro j b hb
   cases j with
   |zero=>simp at hb;subst hb;exact⟨_,rfl,h⟩
   |succ j=>obtain⟨a,h1,h2⟩:=ih j b (by simpa using hb);exact⟨a,by simpa using h1,h2⟩
 intro vs hv;refine⟨by rw[hv.1,len h],fun j v b hv' hb=>?_⟩;obtain⟨a,h1,h2⟩:=get h j b hb;exact h2.rv hi hX (hv.2 j v a hv' h1)
end
theorem ACall.one{args args':List AV}{h:List ABlk}{R:AV->List ABlk->Prop}{i:Nat}{X0:ABlk}{res:AV}(hi:h[i]? = some X0)(hX:Lent X0)
  (H:ACall P f args [X0] fun r _=>LeR r res) (hres:res.bel 0=true) (harg:OneL i args' args) (hR:R res (h.set i .dead)):ACall P f args' h R:=by
 intro c vs hch hc ht;subst hch;have hrel:=Cx.one_rel hc hi hX;refine(H (c.one i) vs (by simp[Cx.one,hi]) hrel (harg.rel hi hX ht)).mono ?_;rintro e w' ⟨v,ρ',r,h',rfl,g1,g2,g3,hle⟩;have hil:i<c.h.length:=(Va hi).1
 have hmut:∀ b,(c.one i).mutb b->c.ρ i=some b:=by
  rintro b ⟨q,x,hx,_,hb⟩;obtain⟨rfl,rfl⟩:=Cx.one_get hi q x hx
  simpa [Cx.one] using hb
 have hsz:c.w.heap.size<=w'.heap.size:=g2.size;have hold:∀ b,b<c.w.heap.size->c.ρ i≠some b->w'.heap[b]? = c.w.heap[b]?:=fun b hb h1=>(g2.fr b hb fun hm=>h1 (hmut b hm)).1
 have hget:∀ (q:Nat) x,(c.h.set i .dead)[q]? = some x->(q=i/\x=.dead)\/(q≠i/\c.h[q]? = some x):=fun q x hx=>by
  by_cases hq:q=i
  ·subst hq;rw[List.getElem?_set_self hil] at hx;exact .inl ⟨rfl,(Option.some.inj hx).symm⟩
  ·rw[List.getElem?_set_ne (Ne.symm hq)] at hx;exact .inr ⟨hq,hx⟩
 have hoth:∀ (q:Nat) x b,q≠i->c.h[q]? = some x->x.live=true->c.ρ q=some b->c.ρ i≠some b:=fun q x b h1 hx hl hb e=>h1 (hc.inj q i x _ b hx hi hl hX.live hb e);have hnx:∀ b o,c.X b o->c.ρ i≠some b:=fun b o hX' e=>(hc.xs b o hX').2 i _ hi hX.live e;have him0:∀ b o,c.im b o->c.ρ i≠some b:=fun b o h e=>hX.fix o (h.2.2 i _ hi e)
 have hdead:∀ (q:Nat) x b o,(c.h.set i .dead)[q]? = some x->c.ρ q=some b->(c.ρ i=some b\/c.im b o)->x.fix o:=fun q x b o hx hb hcase=>by
  rcases hget q x hx with⟨_,rfl⟩|⟨h1,hx'⟩
  ·trivial
  ·by_cases hl:x.live=true
   ·rcases hcase with h|h
    ·exact absurd h (hoth q x b h1 hx' hl hb)
    ·exact h.2.2 q x hx' hb
   ·cases x<;>first|exact absurd rfl hl|trivial
 have hev:Ev c ⟨c.ρ,c.h.set i .dead,w',c.X⟩:=by
  refine⟨g2.os,g2.tape,g2.output,hsz,rfl,fun b o h=>⟨⟨Nat.lt_of_lt_of_le h.1 hsz,h.2.1,fun q x hx hb=>hdead q x b o hx hb (.inr h)⟩,cB (hold b h.1 (him0 b o h))⟩,fun b hb hm=>⟨hold b hb (fun e=>hm ⟨i,_,hi,hX.live,e⟩),?_⟩,by simp,fun q x hx hf=>?_,g2.keep⟩
  ·rintro⟨q,x,hx,hl,hb⟩
   rcases hget q x hx with⟨_,rfl⟩|⟨_,hx'⟩
   ·cases hl
   ·exact hm ⟨q,x,hx',hl,hb⟩
  ·by_cases hq:q=i
   ·subst hq;rw[hi] at hx;cases hx;exact⟨.dead,List.getElem?_set_self hil,rfl,fun ht=>⟨rfl,rfl⟩,fun k n e=>by cases e⟩
   ·refine⟨x,by rw[List.getElem?_set_ne (Ne.symm hq)];exact hx,hf,fun ht=>⟨ht,rfl⟩,fun k n e=>⟨n,e,.inr ⟨rfl,rfl,fun b hb=>?_⟩⟩⟩;exact hold b (hc.here q x b hx hb) (hoth q x b hq hx (by rw[e];rfl) hb)
 refine⟨v,c.ρ,res,c.h.set i .dead,rfl,?_,hev,?_,hR⟩
 ·refine⟨fun q r x y b hx hy lx ly hb hb'=>?_,fun q x b hx hb=>?_,fun q x hx=>?_,fun b o hX'=>⟨Nat.lt_of_lt_of_le (hc.xs b o hX').1 hsz,fun q x hx hl hb=>?_⟩⟩
  ·rcases hget q x hx with⟨_,rfl⟩|⟨_,hx'⟩
   ·cases lx
   ·rcases hget r y hy with⟨_,rfl⟩|⟨_,hy'⟩
    ·cases ly
    ·exact hc.inj q r x y b hx' hy' lx ly hb hb'
  ·have hql:q<c.h.length:=by have:=(Va hx).1;simpa using this
   exact Nat.lt_of_lt_of_le (hc.here q _ b (Vb hql) hb) hsz
  ·rcases hget q x hx with⟨_,rfl⟩|⟨h1,hx'⟩
   ·trivial
   ·exact(hc.blk q x hx').mono hev rfl fun b hl hb=>hold b (hc.here q x b hx' hb) (hoth q x b h1 hx' hl hb)
  ·rcases hget q x hx with⟨_,rfl⟩|⟨_,hx'⟩
   ·cases hl
   ·exact(hc.xs b o hX').2 q x hx' hl hb
 ·refine RV.xfer (c:=⟨ρ',h',w',(c.one i).X⟩) (c2:=⟨c.ρ,c.h.set i .dead,w',c.X⟩) (n:=0) (fun b o h=>⟨⟨h.1,?_,fun q x hx hb=>?_⟩,rfl⟩) (fun i hi=>absurd hi (Nat.not_lt_zero i)) (fun i b hi=>absurd hi (Nat.not_lt_zero i)) (hle.rv g3) hres
  ·intro hX';have h2:=(hc.xs b o hX').1
   have hx2:¬(b<c.w.heap.size/\¬c.im b o/\c.ρ i≠some b):=by have:=h.2.1;rw[g2.x] at this;exact this
   exact hx2 ⟨h2,fun hm=>hm.2.1 hX',hnx b o hX'⟩
  ·have hx2:¬(b<c.w.heap.size/\¬c.im b o/\c.ρ i≠some b):=by have:=h.2.1;rw[g2.x] at this;exact this
   refine hdead q x b o hx hb ?_
   have hql:q<c.h.length:=by have:=(Va hx).1;simpa using this
   have hlt:=hc.here q _ b (Vb hql) hb
   by_cases e1:c.ρ i=some b
   ·exact .inl e1
   ·exact .inr (Vf fun hn=>hx2 ⟨hlt,hn,e1⟩)
end
section
variable {P:Program} {f:FuncId} {c0:Cx} {R:AV->List ABlk->Prop} {ops:Array Oper} {n sl:Nat} {o:Oper} {rest:List Oper} {fp:List (List Nat×List Nat)} {k:List Item} {s:AState}
theorem DOps.made(ho:ops[n]? = some o)(hw:Wanted ops s.t o.guard true){x:Operand}{as:Array Operand}{ts:Array TypeId}(hop:o.op=.call { callee:=.value x,args:=as,argTypes:=ts })
  {g:FuncId} {fi ca:List AV} (hx:aev s.t x=.fn (.func g) fi ca) {args:List AV} {kk:Nat} {l:List (List AV)} (hs:MSpec P g args kk l) (hle:LeL (fi++as.toList.map (aev s.t)++ca) args) (ha:belL 0 args=true) (hbl:belLL 0 l=true)
  (hfr:s.h[sl]? = some .free) (h:DOps P f c0 R ops (n+1) (sl+1) rest (fp++[([sl],[sl])]) k ⟨aput s.t o.dst (.msu sl kk l.length),s.h.set sl (.rows kk l)⟩):DOps P f c0 R ops n sl (o::rest) fp k s:=
 DOps.cons (e:=⟨.msu sl kk l.length,[(sl,.rows kk l)],[sl]⟩) (StepOk.call ho hw hop hx hs.fn _ fun h' hh=>ACall.newAt (by rw[hh sl (by simp)];exact hfr) hs hle ha hbl ⟨rfl,rfl⟩) h
theorem Ops.made(hw:Wanted ops s.t o.guard true){x:Operand}{as:Array Operand}{ts:Array TypeId}(hop:o.op=.call { callee:=.value x,args:=as,argTypes:=ts })
  {g:FuncId} {fi ca:List AV} (hx:aev s.t x=.fn (.func g) fi ca) {args:List AV} {kk:Nat} {l:List (List AV)} (hs:MSpec P g args kk l) (hle:LeL (fi++as.toList.map (aev s.t)++ca) args) (ha:belL 0 args=true) (hbl:belLL 0 l=true)
  (h:Ops P f c0 R ops (n+1) rest k ⟨aput s.t o.dst (.msu s.h.length kk l.length),s.h++[.rows kk l]⟩):Ops P f c0 R ops n (o::rest) k s:=
 Ops.call hw hop hx hs.fn (ACall.grown (ACall.newAt (sl:=s.h.length) (by simp) hs hle ha hbl (by
  have e1:(s.h++[ABlk.free]).set s.h.length (.rows kk l)=s.h++[.rows kk l]:=by rw[List.set_append_right _ _ (Nat.le_refl _)];simp
  rw[e1];exact h)))
theorem DOps.lent(ho:ops[n]? = some o)(hw:Wanted ops s.t o.guard true){x:Operand}{as:Array Operand}{ts:Array TypeId}(hop:o.op=.call { callee:=.value x,args:=as,argTypes:=ts })
  {g:FuncId} {fi ca:List AV} (hx:aev s.t x=.fn (.func g) fi ca) (hg:Callable P g) {args:List AV} {i:Nat} {X0:ABlk} {res:AV} (hi:s.h[i]? = some X0) (hX:Lent X0) (H:ACall P g args [X0] fun r _=>LeR r res) (hres:res.bel 0=true)
  (harg:OneL i (fi++as.toList.map (aev s.t)++ca) args) (h:DOps P f c0 R ops (n+1) (sl+1) rest (fp++[([i],[i])]) k ⟨aput s.t o.dst res,s.h.set i .dead⟩):DOps P f c0 R ops n sl (o::rest) fp k s:=
 DOps.cons (e:=⟨res,[(i,.dead)],[i]⟩) (StepOk.call ho hw hop hx hg _ fun h' hh=>ACall.one (by rw[hh i (by simp)];exact hi) hX H hres harg ⟨rfl,rfl⟩) h
theorem Ops.lent(hw:Wanted ops s.t o.guard true){x:Operand}{as:Array Operand}{ts:Array TypeId}(hop:o.op=.call { callee:=.value x,args:=as,argTypes:=ts })
  {g:FuncId} {fi ca:List AV} (hx:aev s.t x=.fn (.func g) fi ca) (hg:Callable P g) {args:List AV} {i:Nat} {X0:ABlk} {res:AV} (hi:s.h[i]? = some X0) (hX:Lent X0) (H:ACall P g args [X0] fun r _=>LeR r res) (hres:res.bel 0=true)
  (harg:OneL i (fi++as.toList.map (aev s.t)++ca) args) (h:Ops P f c0 R ops (n+1) rest k ⟨aput s.t o.dst res,s.h.set i .dead⟩):Ops P f c0 R ops n (o::rest) k s:=
 Ops.call hw hop hx hg (ACall.one hi hX H hres harg h)
end
section
variable {P:Program} {T:TabT} {f:FuncId} {c0:Cx} {R:AV->List ABlk->Prop} {k:List Item} {s:AState} {ops:Array Oper} {n:Nat} {o:Oper} {rest:List Oper}
theorem run_nil_sl(d:Nat)(t:TypeId){el:Nat}(hd:P.underlying t=some (.slice el))(n cap:Nat)(w:World):(Op.equalIn (d+1) t (.slice none n cap) (.slice none 0 0)).run P w=.ok true w:=by
 simp[Op.equalIn,run_underlying hd]
theorem run_overlaps_own(w:World)(tS tR e:TypeId)(ht:P.underlying tS=some (.slice e))(size:Nat)(hz:∀ w,(Go.sizeOf e).run P w=.ok size w)
  (a b:Addr) (la ca lb cb:Nat) (hne:a.block≠b.block) (tA tB:TypeId) (kA kB:Nat) (hsa:w.shape? a.block=some (tA,kA)) (hkA:kA≠0) (hsb:w.shape? b.block=some (tB,kB)) (hkB:kB≠0)
  (hfb:w.frozen? b=false) (hfe:w.frozen? { block:=b.block,off:=kB }=false) :
  (Extern.SlicesOverlaps.overlaps #[tS,tS] #[tR] #[.slice (some a) la ca,.slice (some b) lb cb]).run P w=.ok (.bool false) w:=by
 have hnb:(a.block != b.block)=true:=by simpa using hne
 have hnb':(a.block==b.block)=false:=by simpa using hne
 change Sem.run P (α:=Value) (do
  let some t := (#[tS,tS] : Array TypeId)[0]?|stuck "slices.overlaps: no parameter types"
  let .slice elem <- underlying t|stuck "slices.overlaps: slice type expected"
  let size <- sizeOf elem
  match(some a:Option Addr),(some b:Option Addr) with
  |some a,some b=>
   if la=0\/lb=0\/size=0 then pure (Value.bool false)
   else if a.block != b.block&&(<- frozen a)&&(<- frozen b) then unsupported .addressObserved
   else do
    if a.block != b.block then do
     noView a;noView b
     if <- mayBeOne a b then return Value.bool ((<- choose (.extern "sameAddr.stringBytes" 2)) == 1)
    pure (Value.bool (a.block==b.block&&a.off<b.off+lb*size&&b.off<a.off+la*size))
  |_,_=>pure (Value.bool false)) w=_
 by_cases h0:la=0\/lb=0\/size=0
 ·simp[run_underlying ht,hz,h0]
 ·cases kA with
  |zero=>exact absurd rfl hkA
  |succ kA=>
   cases kB with
   |zero=>exact absurd rfl hkB
   |succ kB=>
    by_cases h1:w.frozen? a=true
    ·simp[run_underlying ht,hz,h0,hnb,hnb',frozen,noView,viewAt,mayBeOne,stringish,shape,Sem.run,hsa,hsb,hfb,hfe,h1]
    ·have h1':w.frozen? a=false:=by simpa using h1
     by_cases h2:w.frozen? { block:=a.block,off:=kA+1 }=true
     ·simp[run_underlying ht,hz,h0,hnb,hnb',frozen,noView,viewAt,mayBeOne,stringish,shape,Sem.run,hsa,hsb,hfb,hfe,h1',h2]
     ·have h2':w.frozen? { block:=a.block,off:=kA+1 }=false:=by simpa using h2
      simp[run_underlying ht,hz,h0,hnb,hnb',frozen,noView,viewAt,mayBeOne,stringish,shape,Sem.run,hsa,hsb,hfb,hfe,h1',h2']
theorem Ops.overlaps(hw:Wanted ops s.t o.guard true){x a0 a1:Operand}{ts:Array TypeId}(hop:o.op=.call { callee:=.value x,args:=#[a0,a1],argTypes:=ts }){g:FuncId}(hx:aev s.t x=.fn (.func g) [] [])
  {tS tR e:TypeId} {size:Nat} (hund:P.underlying tS=some (.slice e)) (hz:∀ w,(Go.sizeOf e).run P w=.ok size w) (hext:∀ args w v,(Extern.SlicesOverlaps.overlaps #[tS,tS] #[tR] args).run P w=.ok v w->(callFunc g args).run P w=.ok (.value v) w)
  {kk:Nat} (hk:0<kk) {y:List AV} {ys:List (List AV)} {tk:Tk} (h0:aev s.t a0=.sl kk (y::ys) tk) {i oo m cap:Nat} {L:List (List AV)} (h1:aev s.t a1=.msl i kk oo m cap) (hi:s.h[i]? = some (.rows kk L)) (hL:L≠[])
  (h:Ops P f c0 R ops (n+1) rest k ⟨aput s.t o.dst (.bool false),s.h⟩):Ops P f c0 R ops n (o::rest) k s:=by
 refine⟨fun hd ρ w a g1 g2 g3 g4=>?_⟩;obtain⟨ho',hd'⟩:=range'_cons hd;rw[List.length_cons,List.range'_succ];obtain⟨dst,op,ty,pos,after,guard⟩:=o;simp only at hop;subst hop;have hvx:=g3.ev x;rw[hx] at hvx;have hv0:=g3.ev a0;rw[h0] at hv0;have hv1:=g3.ev a1;rw[h1] at hv1;generalize hevx:a.eval x=vx at hvx;generalize hev0:a.eval a0=v0 at hv0;generalize hev1:a.eval a1=v1 at hv1
 cases hvx with
 |fn _ u1 u2 _ _ l1 l2 r1 r2=>
  obtain rfl:u1=#[]:=Array.eq_empty_of_size_eq_zero (by simpa using l1);obtain rfl:u2=#[]:=Array.eq_empty_of_size_eq_zero (by simpa using l2)
  cases hv1 with
  |msl _ _ _ _ _ b o' hkn hb hnt hcap hm ho=>
   obtain⟨vs,te,hR⟩:=RowsAt.of g1 hi hb;have hsz:=hR.size hk;have hLl:0<L.length:=List.length_pos_iff.2 hL;have hpos:0<L.length*kk:=Nat.mul_pos hLl hk
   cases hv0 with
   |sl _ _ _ A q cap2 b2 o2 us hn hc2 hm2 hA hkk hcc hrr htt=>
    obtain rfl:=hA (by simp)
    obtain⟨y0,hy0⟩:∃ y0,y[0]? = some y0:=⟨_,Vb (by rw[hkk 0 y rfl];exact hk)⟩
    obtain⟨_,him,hcell⟩:=hcc 0 y 0 y0 rfl hy0
    have hbb:b2≠b:=fun e=>by
     subst e;exact him.2.2 i _ hi hb
    have hsh:∃ tA kA,w.shape? b2=some (tA,kA)/\kA≠0:=by
     simp only[World.cell?] at hcell
     split at hcell
     ·rename_i cs te2 fr hh;refine⟨te2,cs.size,by simp only[World.shape?];rw[hh],fun e=>?_⟩;simp at hcell;have:=(Array.getElem?_eq_some_iff.1 hcell).1;omega
     ·cases hcell
    obtain⟨tA,kA,hsa,hkA⟩:=hsh;have hh:w.heap[b]? = some (.cells vs te (0,0)):=hR.hh;have hov:=run_overlaps_own (P:=P) w tS tR e hund size hz ⟨b2,o2,none⟩ ⟨b,o',none⟩ q cap2 m cap hbb tA te kA vs.size hsa hkA (by simp only[World.shape?];rw[hh]) (by omega) (by simp only[World.frozen?];rw[hh];simp) (by simp only[World.frozen?];rw[hh];simp);have hcall:=hext _ _ _ hov;exact(h.h hd' ρ w (a.put dst (.bool false)) g1 g2 (g3.put dst (.bool false)) (by cases dst<;>exact g4)).step fun bb cs _=>step_value (P:=P) ho' (hw.ok g3) (by simp[execOp,Go.resolve,Deferred.ofValue,Go.invoke,hevx,hev0,hev1,hcall]) (.inl rfl)
theorem Weak.ownC(q m kk:Nat)(cs:List AV)(hq:s.h[q]? = some (.box cs))(hm:cs[m]? = some .nils):Weak P c0 s ⟨s.t,(s.h++[ABlk.tok kk 0]).set q (.box (cs.set m (.sl kk [] (.own s.h.length))))⟩:=by
 refine⟨fun ρ w vs h1 h2 h3=>?_⟩;obtain⟨b,us,e,hb,hh,hsz,hall⟩:=h1.blk q _ hq;have hml:m<cs.length:=(Va hm).1;have hql:q<s.h.length:=(Va hq).1;obtain⟨hc1,v,hv,hr⟩:=hall m _ hm;obtain⟨g1,g2⟩:=Cx.grow h1;obtain⟨q1,q2⟩:=Cx.unborn g1 s.h.length kk (by simp)
 have e1:(s.h++[ABlk.free]).set s.h.length (.tok kk 0)=s.h++[ABlk.tok kk 0]:=by rw[List.set_append_right _ _ (Nat.le_refl _)];simp
 simp only[e1] at q1 q2
 have hq':(s.h++[ABlk.tok kk 0])[q]? = some (.box cs):=by rw[List.getElem?_append_left hql];exact hq
 have hb':setρ ρ s.h.length none q=some b:=by rw[setρ_ne _ _ (by omega)];exact hb
 have hq1:q≠s.h.length:=by omega
 have hlast:((s.h++[ABlk.tok kk 0]).set q (.box (cs.set m (.sl kk [] (.own s.h.length)))))[s.h.length]? = some (.tok kk 0):=by
  rw[List.getElem?_set_ne hq1];simp
 obtain⟨q4,q5⟩:=Cx.retell q1 q b _ (.box (cs.set m (.sl kk [] (.own s.h.length)))) hq' hb' rfl rfl rfl rfl (fun o h=>h.elim) fun hev=>by
  refine⟨b,us,e,hb',hh,by simpa using hsz,fun j a ha=>?_⟩;rw[List.getElem?_set] at ha
  split at ha
  ·rename_i hjm;subst hjm;cases ha;cases hr;refine⟨rfl,_,hv,.sl kk [] _ none 0 0 0 0 (fun _ _=>undef) rfl (Nat.le_refl _) (Nat.zero_le _) (fun h=>absurd rfl h) (fun j e h=>by simp at h) (fun j e i a h=>by simp at h) (fun j e i a h=>by simp at h) ⟨⟨_,hlast,rfl⟩,fun k' n' e=>?_⟩⟩;have e2:((s.h++[ABlk.tok kk 0]).set q (.box (cs.set m (.sl kk [] (.own s.h.length)))))[s.h.length]? = some (.tok k' n'):=e;rw[hlast] at e2;cases e2;exact⟨rfl,Nat.le_refl _,fun _=>.inl rfl⟩
  ·obtain⟨g3,u,g4,g5⟩:=hall j a ha;exact⟨g3,u,g4,((g5.mono g2).mono q2).mono hev⟩
 exact⟨_,q4,h2.trans (g2.trans (q2.trans q5)),h3.mono (g2.trans (q2.trans q5))⟩
theorem Ops.eqnil(hw:Wanted ops s.t o.guard true){a0 a1:Operand}{t u el:TypeId}(hop:o.op=.binOp .eql t a0 a1 u)(hd:P.underlying t=some (.slice el)){kk:Nat}{l:List (List AV)}{tk:Tk}(h0:aev s.t a0=.sl kk l tk)(h1:aev s.t a1=.nils)
  (h:∀ b,Ops P f c0 R ops (n+1) rest k ⟨aput s.t o.dst (.bool b),s.h⟩):Ops P f c0 R ops n (o::rest) k s:=by
 refine⟨fun hdr ρ w a g1 g2 g3 g4=>?_⟩;obtain⟨ho',hd'⟩:=range'_cons hdr;rw[List.length_cons,List.range'_succ];obtain⟨dst,op,ty,pos,after,guard⟩:=o;simp only at hop;subst hop;have hv0:=g3.ev a0;rw[h0] at hv0;have hv1:=g3.ev a1;rw[h1] at hv1;generalize hev0:a.eval a0=v0 at hv0;generalize hev1:a.eval a1=v1 at hv1;cases hv1
 cases hv0 with
 |sl _ _ _ A q cap2 b2 o2 us hn hc2 hm2 hA hkk hcc hrr htt=>
  cases A with
  |none=>
   have he:=run_nil_sl (P:=P) 9999 t hd q cap2 w;exact((h true).h hd' ρ w (a.put dst (.bool true)) g1 g2 (g3.put dst (.bool true)) (by cases dst<;>exact g4)).step fun bb cs _=>step_value (P:=P) ho' (hw.ok g3) (by simp[execOp,hev0,hev1,eqGuard,binOp,Op.equal,Op.maxDepth,he]) (.inl rfl)
  |some a'=>
   have he:=run_sl_nil (P:=P) 9999 t hd a' q cap2 w;exact((h false).h hd' ρ w (a.put dst (.bool false)) g1 g2 (g3.put dst (.bool false)) (by cases dst<;>exact g4)).step fun bb cs _=>step_value (P:=P) ho' (hw.ok g3) (by simp[execOp,hev0,hev1,eqGuard,binOp,Op.equal,Op.maxDepth,he]) (.inl rfl)
end
mutual
def AV.ren(js:List Nat):AV->AV
 |.ptr i o=>.ptr (js.idxOf i) o
 |.eptr i k j o=>.eptr (js.idxOf i) k j o
 |.msl i k o n cap=>.msl (js.idxOf i) k o n cap
 |.sl k l _=>.sl k l .no
 |.agg cs=>.agg (renL js cs)
 |.tup vs=>.tup (renL js vs)
 |.psl k l=>.psl k (renLL js l)
 |.rptr cs=>.rptr (renL js cs)
 |.fn f a b=>.fn f (renL js a) (renL js b)
 |.iface t v=>.iface t (v.ren js)
 |v=>v
def renL(js:List Nat):List AV->List AV
 |[]=>[]
 |a::l=>a.ren js::renL js l
def renLL(js:List Nat):List (List AV)->List (List AV)
 |[]=>[]
 |a::l=>renL js a::renLL js l
end
mutual
def AV.among(js:List Nat):AV->Bool
 |.ptr i _=>js.contains i
 |.eptr i _ _ _=>js.contains i
 |.msl i _ _ _ _=>js.contains i
 |.msu _ _ _=>false
 |.mp _=>false
 |.agg cs=>amongL js cs
 |.tup vs=>amongL js vs
 |.psl _ l=>amongLL js l
 |.rptr cs=>amongL js cs
 |.fn _ a b=>amongL js a&&amongL js b
 |.iface _ v=>v.among js
 |.cnd _ _=>false
 |_=>true
def amongL(js:List Nat):List AV->Bool
 |[]=>true
 |a::l=>a.among js&&amongL js l
def amongLL(js:List Nat):List (List AV)->Bool
 |[]=>true
 |a::l=>amongL js a&&amongLL js l
end
theorem renL_get(js:List Nat):∀ (l:List AV) (i:Nat),(renL js l)[i]? = (l[i]?).map (AV.ren js)
 |[],i=>by simp[renL]
 |a::l,i=>by
  cases i with
  |zero=>simp[renL]
  |succ i=>simpa [renL] using renL_get js l i
theorem renLL_get(js:List Nat):∀ (l:List (List AV)) (i:Nat),(renLL js l)[i]? = (l[i]?).map (renL js)
 |[],i=>by simp[renLL]
 |a::l,i=>by
  cases i with
  |zero=>simp[renLL]
  |succ i=>simpa [renLL] using renLL_get js l i
theorem renL_len(js:List Nat):∀ l:List AV,(renL js l).length=l.length
 |[]=>rfl
 |a::l=>by simp[renL,renL_len js l]
theorem renLL_len(js:List Nat):∀ l:List (List AV),(renLL js l).length=l.length
 |[]=>rfl
 |a::l=>by simp[renLL,renLL_len js l]
theorem amongL_get{js:List Nat}:∀ {l:List AV},amongL js l=true->∀ (i:Nat) a,l[i]? = some a->a.among js=true
 |[],_,i,a,h=>by simp at h
 |b::l,h,i,a,ha=>by
  simp only[amongL,Vi] at h
  cases i with
  |zero=>simp at ha;subst ha;exact h.1
  |succ i=>exact amongL_get h.2 i a (by simpa using ha)
theorem amongLL_get{js:List Nat}:∀ {l:List (List AV)},amongLL js l=true->∀ (i:Nat) a,l[i]? = some a->amongL js a=true
 |[],_,i,a,h=>by simp at h
 |b::l,h,i,a,ha=>by
  simp only[amongLL,Vi] at h
  cases i with
  |zero=>simp at ha;subst ha;exact h.1
  |succ i=>exact amongLL_get h.2 i a (by simpa using ha)
theorem AV.ren_cell(js:List Nat)(a:AV):(a.ren js).cell=a.cell:=by cases a<;>rfl
theorem AV.ren_plain{a:AV}(h:a.plain=true)(js:List Nat):a.ren js=a:=by
 cases a with
 |sl k l t=>cases t with|no=>rfl|own i=>cases h
 |_=>first|rfl|cases h
theorem AV.plain_among{a:AV}(h:a.plain=true)(js:List Nat):a.among js=true:=by
 cases a with
 |sl k l t=>rfl
 |_=>first|rfl|cases h
def LentB(x:ABlk):Prop:=(∃ cs,x=.box cs/\belL 0 cs=true)\/∃ k L,x=.rows k L/\belLL 0 L=true
theorem LentB.fix{x:ABlk}(h:LentB x)(o:Nat):¬x.fix o:=by
 rcases h with⟨cs,rfl,_⟩|⟨k,L,rfl,_⟩<;>exact fun h=>h
theorem LentB.live{x:ABlk}(h:LentB x):x.live=true:=by rcases h with⟨cs,rfl,_⟩|⟨k,L,rfl,_⟩<;>rfl
theorem LentB.free{x:ABlk}(h:LentB x):x.isfree=false:=by rcases h with⟨cs,rfl,_⟩|⟨k,L,rfl,_⟩<;>rfl
theorem LentB.tok{x:ABlk}(h:LentB x):x.istok=false:=by rcases h with⟨cs,rfl,_⟩|⟨k,L,rfl,_⟩<;>rfl
theorem LentB.notok{x:ABlk}(h:LentB x)(k n:Nat):x≠.tok k n:=by rcases h with⟨cs,rfl,_⟩|⟨k,L,rfl,_⟩<;>simp
def Cx.lend(c:Cx)(js:List Nat):Cx:=⟨fun q=>(js[q]?).bind c.ρ,js.map fun i=>(c.h[i]?).getD .dead,c.w,fun b o=>b<c.w.heap.size/\¬c.im b o/\∀ i∈js,c.ρ i≠some b⟩
section
variable {c:Cx} {js:List Nat}
theorem Cx.lend_get(hX:∀ i∈js,∃ x,c.h[i]? = some x/\LentB x){q:Nat}{x:ABlk}(hx:(c.lend js).h[q]? = some x):∃ i,js[q]? = some i/\c.h[i]? = some x/\LentB x/\(c.lend js).ρ q=c.ρ i:=by
 simp only[Cx.lend,Vg,Ve] at hx;obtain⟨i,hi,rfl⟩:=hx;obtain⟨y,hy,hl⟩:=hX i (Vd hi);rw[hy];exact⟨i,hi,hy,hl,by simp[Cx.lend,hi]⟩
theorem Cx.lend_im(hX:∀ i∈js,∃ x,c.h[i]? = some x/\LentB x){b o:Nat}(h:c.im b o):(c.lend js).im b o:=by
 refine⟨h.1,fun hx=>hx.2.1 h,fun q x hx hb=>?_⟩;obtain⟨i,_,h2,_,h4⟩:=Cx.lend_get hX hx;exact h.2.2 i _ h2 (h4.symm.trans hb)
theorem Cx.lend_xfer(hX:∀ i∈js,∃ x,c.h[i]? = some x/\LentB x){v:Value}{a:AV}(h:RV c v a)(ha:a.bel 0=true):RV (c.lend js) v a:=
 h.xfer (fun _ _ h=>⟨Cx.lend_im hX h,rfl⟩) (fun i hi=>absurd hi (Nat.not_lt_zero i)) (fun i _ hi=>absurd hi (Nat.not_lt_zero i)) ha
theorem idx_get{i:Nat}(h:js.contains i=true):js[js.idxOf i]? = some i/\i∈js:=by
 have hm:i∈js:=by simpa using h
 have hl:js.idxOf i<js.length:=List.idxOf_lt_length_of_mem hm;exact⟨by rw[Vb hl,List.getElem_idxOf],hm⟩
theorem RV.ren(hX:∀ i∈js,∃ x,c.h[i]? = some x/\LentB x){v:Value}{a:AV}(h:RV c v a)(ha:a.among js=true):RV (c.lend js) v (a.ren js):=by
 have hkn:∀ i,js.contains i=true->(c.lend js).known (js.idxOf i)/\(c.lend js).ρ (js.idxOf i)=c.ρ i/\∀ x,(c.lend js).h[js.idxOf i]? = some x->x.istok=false:=fun i hi=>by
  obtain⟨h1,h2⟩:=idx_get hi;obtain⟨x,hx,hl⟩:=hX i h2
  have h0:(c.lend js).h[js.idxOf i]? = some x:=by simp[Cx.lend,h1,hx]
  refine⟨⟨x,h0,hl.free⟩,by simp[Cx.lend,h1],fun y hy=>?_⟩;rw[h0] at hy;cases hy;exact hl.tok
 induction h with
 |int k n=>exact .int k n
 |bool b=>exact .bool b
 |str s l h=>exact .str s l h
 |nilp=>exact .nilp
 |ptr i o b hk hb ht=>
  obtain⟨g1,g2,g3⟩:=hkn i ha;exact .ptr _ o b g1 (g2.trans hb) g3
 |rptr cs b o vs hc _ ih=>
  simp only[AV.among] at ha;refine .rptr _ b o vs (fun i a hi=>?_) (fun i a hi=>?_)
  ·rw[renL_get,Ve] at hi;obtain⟨a0,ha0,rfl⟩:=hi;obtain⟨h1,h2,h3⟩:=hc i a0 ha0;exact⟨by rw[AV.ren_cell];exact h1,Cx.lend_im hX h2,h3⟩
  ·rw[renL_get,Ve] at hi;obtain⟨a0,ha0,rfl⟩:=hi;exact ih i a0 ha0 (amongL_get ha i a0 ha0)
 |sl k l t A m cap b o vs hn hcap hm hA hk hc _ ht ih=>
  refine .sl k l .no A m cap b o vs hn hcap hm hA hk (fun j e i a he hi=>?_) (fun j e i a he hi=>?_) trivial
  ·obtain⟨h1,h2,h3⟩:=hc j e i a he hi;exact⟨h1,Cx.lend_im hX h2,h3⟩
  ·have hp:=(hc j e i a he hi).1;have:=ih j e i a he hi (AV.plain_among hp js)
   rwa [AV.ren_plain hp] at this
 |psl k l A m cap b o vs hn hcap hm hA hk hc _ ih=>
  simp only[AV.among] at ha;refine .psl k _ A m cap b o vs (by rw[renLL_len];exact hn) hcap hm (fun h=>hA (by rintro rfl;exact h rfl)) (fun j e he=>?_) (fun j e i a he hi=>?_) (fun j e i a he hi=>?_)
  ·rw[renLL_get,Ve] at he;obtain⟨e0,he0,rfl⟩:=he;rw[renL_len];exact hk j e0 he0
  ·rw[renLL_get,Ve] at he;obtain⟨e0,he0,rfl⟩:=he;rw[renL_get,Ve] at hi;obtain⟨a0,ha0,rfl⟩:=hi;obtain⟨h1,h2,h3⟩:=hc j e0 i a0 he0 ha0;exact⟨by rw[AV.ren_cell];exact h1,Cx.lend_im hX h2,h3⟩
  ·rw[renLL_get,Ve] at he;obtain⟨e0,he0,rfl⟩:=he;rw[renL_get,Ve] at hi;obtain⟨a0,ha0,rfl⟩:=hi;exact ih j e0 i a0 he0 ha0 (amongL_get (amongLL_get ha j e0 he0) i a0 ha0)
 |nils=>exact .nils
 |agg vs cs hs hc _ ih=>
  simp only[AV.among] at ha;refine .agg vs _ (by rw[renL_len];exact hs) (fun i a hi=>?_) fun i v a hv hi=>?_
  ·rw[renL_get,Ve] at hi;obtain⟨a0,ha0,rfl⟩:=hi;rw[AV.ren_cell];exact hc i a0 ha0
  ·rw[renL_get,Ve] at hi;obtain⟨a0,ha0,rfl⟩:=hi;exact ih i v a0 hv ha0 (amongL_get ha i a0 ha0)
 |tup vs cs hs _ ih=>
  simp only[AV.among] at ha;refine .tup vs _ (by rw[renL_len];exact hs) fun i v a hv hi=>?_;rw[renL_get,Ve] at hi;obtain⟨a0,ha0,rfl⟩:=hi;exact ih i v a0 hv ha0 (amongL_get ha i a0 ha0)
 |fn f v1 v2 a1 a2 h1 h2 _ _ r1 r2=>
  simp only[AV.among,Vi] at ha;refine .fn f v1 v2 _ _ (by rw[renL_len];exact h1) (by rw[renL_len];exact h2) (fun i v a hv hi=>?_) (fun i v a hv hi=>?_)
  ·rw[renL_get,Ve] at hi;obtain⟨a0,ha0,rfl⟩:=hi;exact r1 i v a0 hv ha0 (amongL_get ha.1 i a0 ha0)
  ·rw[renL_get,Ve] at hi;obtain⟨a0,ha0,rfl⟩:=hi;exact r2 i v a0 hv ha0 (amongL_get ha.2 i a0 ha0)
 |nilf=>exact .nilf
 |iface t v a _ ih=>simp only[AV.among] at ha;exact .iface t v _ (ih ha)
 |nilI=>exact .nilI
 |mp i b hk hb ht=>cases ha
 |nilm=>exact .nilm
 |msl i k o m cap b o' hk hb ht h1 h2 h3=>
  obtain⟨g1,g2,g3⟩:=hkn i ha;exact .msl _ k o m cap b o' g1 (g2.trans hb) g3 h1 h2 h3
 |msu i k m cap b hk hb ht h1 h2 h3=>cases ha
 |eptr i k j o b hk hb ht=>
  obtain⟨g1,g2,g3⟩:=hkn i ha;exact .eptr _ k j o b g1 (g2.trans hb) g3
 |cnd g v a _ ih=>cases ha
 |junk v=>exact .junk v
theorem renL_rel(hX:∀ i∈js,∃ x,c.h[i]? = some x/\LentB x){vs:Array Value}{as:List AV}(h:TRel c vs as)(ha:amongL js as=true):TRel (c.lend js) vs (renL js as):=by
 refine⟨by rw[renL_len];exact h.1,fun i v x hv hx=>?_⟩;rw[renL_get,Ve] at hx;obtain⟨a0,ha0,rfl⟩:=hx;exact(h.2 i v a0 hv ha0).ren hX (amongL_get ha i a0 ha0)
theorem Cx.lend_rel(hc:RelH c)(hj:js.Nodup)(hX:∀ i∈js,∃ x,c.h[i]? = some x/\LentB x):RelH (c.lend js):=by
 refine⟨fun q r x y b hx hy _ _ hb hb'=>?_,fun q x b hx hb=>?_,fun q x hx=>?_,fun b o h=>⟨h.1,fun q x hx _ hb=>?_⟩⟩
 ·obtain⟨i,h1,h2,h3,h4⟩:=Cx.lend_get hX hx;obtain⟨i',g1,g2,g3,g4⟩:=Cx.lend_get hX hy;have e:=hc.inj i i' _ _ b h2 g2 h3.live g3.live (h4.symm.trans hb) (g4.symm.trans hb');subst e;obtain⟨z1,z2⟩:=Va h1;obtain⟨w1,w2⟩:=Va g1;exact(List.getElem_inj hj).1 (z2.trans w2.symm)
 ·obtain⟨i,h1,h2,h3,h4⟩:=Cx.lend_get hX hx;exact hc.here i _ b h2 (h4.symm.trans hb)
 ·obtain⟨i,h1,h2,h3,h4⟩:=Cx.lend_get hX hx;have hb:=hc.blk i _ h2
  rcases h3 with⟨cs,rfl,hcs⟩|⟨k,L,rfl,hL⟩
  ·obtain⟨b,vs,e,q1,q2,q3,q4⟩:=hb
   exact⟨b,vs,e,h4.trans q1,q2,q3,fun m a ha=>by
    obtain⟨z1,v,z2,z3⟩:=q4 m a ha
    exact⟨z1,v,z2,Cx.lend_xfer hX z3 (belL_get hcs m a ha)⟩⟩
  ·obtain⟨b,vs,e,q1,q2,q3,q4⟩:=hb
   exact⟨b,vs,e,h4.trans q1,q2,q3,fun q x m a hx ha=>by
    obtain⟨v,g1,g2⟩:=q4 q x m a hx ha
    exact⟨v,g1,Cx.lend_xfer hX g2 (belL_get (belLL_get hL q x hx) m a ha)⟩⟩
 ·obtain⟨i,h1,h2,h3,h4⟩:=Cx.lend_get hX hx;exact h.2.2 i (Vd h1) (h4.symm.trans hb)
end
def pB(h:List ABlk):List Nat->List ABlk->List ABlk
 |i::js,y::ys=>pB (h.set i y) js ys
 |_,_=>h
theorem putBack_len:∀ (js:List Nat) (YS:List ABlk) (h:List ABlk),(pB h js YS).length=h.length
 |[],_,h=>by simp[pB]
 |i::js,[],h=>by simp[pB]
 |i::js,y::ys,h=>by rw[pB,putBack_len js ys];simp
theorem putBack_out:∀ (js:List Nat) (YS:List ABlk) (h:List ABlk) {q:Nat},q∉js->(pB h js YS)[q]? = h[q]?
 |[],_,h,q,_=>by simp[pB]
 |i::js,[],h,q,_=>by simp[pB]
 |i::js,y::ys,h,q,hq=>by
  rw[pB,putBack_out js ys _ (fun e=>hq (List.mem_cons_of_mem _ e)),List.getElem?_set_ne (fun e=>hq (by rw[e];exact List.mem_cons_self))]
theorem putBack_in:∀ (js:List Nat) (YS:List ABlk) (h:List ABlk) {p q:Nat} {y:ABlk},js.Nodup->js[p]? = some q->YS[p]? = some y->q<h.length->(pB h js YS)[q]? = some y
 |[],_,h,p,q,y,_,h1,_,_=>by simp at h1
 |i::js,[],h,p,q,y,_,_,h2,_=>by simp at h2
 |i::js,z::ys,h,p,q,y,hj,h1,h2,h3=>by
  obtain⟨hn,hj⟩:=List.nodup_cons.1 hj;rw[pB]
  cases p with
  |zero=>
   simp at h1 h2;subst h1 h2;rw[putBack_out js ys _ hn,List.getElem?_set_self h3]
  |succ p=>exact putBack_in js ys _ hj (by simpa using h1) (by simpa using h2) (by simpa using h3)
structure BSpec(P:Program)(f:FuncId)(args:List AV)(XS YS:List ABlk)(res:AV):Prop where
 fn:Callable P f
 run:ACall P f args XS fun r h'=>LeR r res/\WkH 0 h' YS
theorem LeB.blk{c:Cx}{i:Nat}{x y:ABlk}(h:LeB 0 x y)(hb:BlkOk c i x):BlkOk c i y:=by
 cases h with
 |same _ _=>exact hb
 |box h _=>
  obtain⟨b,vs,e,q1,q2,q3,q4⟩:=hb;refine⟨b,vs,e,q1,q2,q3.trans h.len,fun j a ha=>?_⟩;obtain⟨a0,h0,hl⟩:=h.get j a ha;obtain⟨z1,v,z2,z3⟩:=q4 j a0 h0;exact⟨hl.cell z1,v,z2,hl.rv z3⟩
theorem ACall.lend{P:Program}{f:FuncId}{args args':List AV}{h:List ABlk}{R:AV->List ABlk->Prop}{js:List Nat}{XS YS:List ABlk}{res:AV}(hj:js.Nodup)(hXS:js.map (fun i=>(h[i]?).getD .dead)=XS)(hX:∀ i∈js,∃ x,h[i]? = some x/\LentB x)(hY:∀ y∈YS,LentB y)(hlen:YS.length=js.length)
  (hin:amongL js args'=true) (hle:LeL (renL js args') args) (H:BSpec P f args XS YS res) (hres:res.bel 0=true) (hR:R res (pB h js YS)):ACall P f args' h R:=by
 intro c vs hch hc ht;subst hch;have hrel:=Cx.lend_rel hc hj hX;refine(H.run (c.lend js) vs hXS hrel (hle.rel (renL_rel hX ht hin))).mono ?_;rintro e w' ⟨v,ρ',r,h',rfl,g1,g2,g3,hle,hwk⟩
 have hil:∀ i∈js,i<c.h.length:=fun i hi=>by obtain⟨x,hx,_⟩:=hX i hi;exact(Va hx).1
 have hmut:∀ b,(c.lend js).mutb b->∃ i∈js,c.ρ i=some b:=by
  rintro b ⟨q,x,hx,_,hb⟩;obtain⟨i,h1,h2,h3,h4⟩:=Cx.lend_get hX hx;exact⟨i,Vd h1,h4.symm.trans hb⟩
 have hsz:c.w.heap.size<=w'.heap.size:=g2.size;have hold:∀ b,b<c.w.heap.size->(∀ i∈js,c.ρ i≠some b)->w'.heap[b]? = c.w.heap[b]?:=fun b hb h1=>(g2.fr b hb fun hm=>by obtain⟨i,hi,e⟩:=hmut b hm;exact h1 i hi e).1
 have hget:∀ (q:Nat) x,(pB c.h js YS)[q]? = some x->(∃ p,js[p]? = some q/\YS[p]? = some x)\/(q∉js/\c.h[q]? = some x):=fun q x hx=>by
  by_cases hq:q∈js
  ·obtain⟨p,hp⟩:=List.getElem?_of_mem hq
   have hpl:p<YS.length:=by rw[hlen];exact(Va hp).1
   have e:=putBack_in js YS c.h hj hp (Vb hpl) (hil q hq);rw[hx] at e;exact .inl ⟨p,hp,by rw[Vb hpl];exact e.symm⟩
  ·rw[putBack_out js YS c.h hq] at hx;exact .inr ⟨hq,hx⟩
 have hoth:∀ (q:Nat) x b,q∉js->c.h[q]? = some x->x.live=true->c.ρ q=some b->∀ i∈js,c.ρ i≠some b:=fun q x b h1 hx hl hb i hi e=>by
  obtain⟨y,hy,hyl⟩:=hX i hi;have:=hc.inj q i x y b hx hy hl hyl.live hb e;subst this;exact h1 hi
 have hnx:∀ b o,c.X b o->∀ i∈js,c.ρ i≠some b:=fun b o hX' i hi e=>by
  obtain⟨y,hy,hyl⟩:=hX i hi;exact(hc.xs b o hX').2 i _ hy hyl.live e
 have him0:∀ b o,c.im b o->∀ i∈js,c.ρ i≠some b:=fun b o h i hi e=>by
  obtain⟨y,hy,hyl⟩:=hX i hi;exact hyl.fix o (h.2.2 i _ hy e)
 -- the callee's blocks lie where the caller's lie
 have hsame:∀ (p q:Nat) y,js[p]? = some q->YS[p]? = some y->ρ' p=c.ρ q/\∃ z,h'[p]? = some z/\LeB 0 z y:=fun p q y hp hy=>by
  obtain⟨x,hx,hxl⟩:=hX q (Vd hp)
  have h0:(c.lend js).h[p]? = some x:=by simp[Cx.lend,hp,hx]
  obtain⟨z,hz,hzl⟩:=hwk.get p y hy;obtain⟨y',k1,k2,k3,k4⟩:=g2.id p x h0 hxl.free;exact⟨(k3 hxl.tok).2.trans (by simp[Cx.lend,hp]),z,hz,hzl⟩
 have hdead:∀ (q:Nat) x b o,(pB c.h js YS)[q]? = some x->c.ρ q=some b->((∃ i∈js,c.ρ i=some b)\/c.im b o)->q∉js->x.fix o:=fun q x b o hx hb hcase hq=>by
  rcases hget q x hx with⟨p,hp,_⟩|⟨h1,hx'⟩
  ·exact absurd (Vd hp) hq
  ·by_cases hl:x.live=true
   ·rcases hcase with⟨i,hi,h⟩|h
    ·exact absurd h (hoth q x b h1 hx' hl hb i hi)
    ·exact h.2.2 q x hx' hb
   ·cases x<;>first|exact absurd rfl hl|trivial
 have hev:Ev c ⟨c.ρ,pB c.h js YS,w',c.X⟩:=by
  refine⟨g2.os,g2.tape,g2.output,hsz,rfl,fun b o h=>⟨⟨Nat.lt_of_lt_of_le h.1 hsz,h.2.1,fun q x hx hb=>?_⟩,cB (hold b h.1 (him0 b o h))⟩,fun b hb hm=>⟨hold b hb (fun i hi e=>?_),?_⟩,by rw[putBack_len];exact Nat.le_refl _,fun q x hx hf=>?_,g2.keep⟩
  ·by_cases hq:q∈js
   ·exact absurd hb (him0 b o h q hq)
   ·exact hdead q x b o hx hb (.inr h) hq
  ·obtain⟨y,hy,hyl⟩:=hX i hi;exact hm ⟨i,_,hy,hyl.live,e⟩
  ·rintro⟨q,x,hx,hl,hb⟩
   rcases hget q x hx with⟨p,hp,_⟩|⟨_,hx'⟩
   ·obtain⟨y,hy,hyl⟩:=hX q (Vd hp);exact hm ⟨q,y,hy,hyl.live,hb⟩
   ·exact hm ⟨q,x,hx',hl,hb⟩
  ·by_cases hq:q∈js
   ·obtain⟨p,hp⟩:=List.getElem?_of_mem hq
    have hpl:p<YS.length:=by rw[hlen];exact(Va hp).1
    have hyb:=hY _ (List.getElem_mem hpl);exact⟨YS[p],putBack_in js YS c.h hj hp (Vb hpl) (hil q hq),hyb.free,fun _=>⟨hyb.tok,rfl⟩,fun k n' e=>absurd e (hyb.notok k n')⟩
   ·refine⟨x,by show(pB c.h js YS)[q]? = _;rw[putBack_out js YS c.h hq];exact hx,hf,fun ht=>⟨ht,rfl⟩,fun k n e=>⟨n,e,.inr ⟨rfl,rfl,fun b hb=>?_⟩⟩⟩;exact hold b (hc.here q x b hx hb) (hoth q x b hq hx (by rw[e];rfl) hb)
 have him':∀ b o,(Cx.mk ρ' h' w' (c.lend js).X).im b o->(Cx.mk c.ρ (pB c.h js YS) w' c.X).im b o:=fun b o h=>by
  have hx2:¬(b<c.w.heap.size/\¬c.im b o/\∀ i∈js,c.ρ i≠some b):=h.2.1;refine⟨h.1,fun hX'=>hx2 ⟨(hc.xs b o hX').1,fun hm=>hm.2.1 hX',hnx b o hX'⟩,fun q x hx hb=>?_⟩
  rcases hget q x hx with⟨p,hp,hy⟩|⟨hq,hx'⟩
  ·obtain⟨k1,z,k2,k3⟩:=hsame p q x hp hy;have:=h.2.2 p z k2 (k1.trans hb);exact(k3.same_kind.2.2.2.1 o).2 this
  ·refine hdead q x b o hx hb ?_ hq;have hql:q<c.h.length:=(Va hx').1;have hlt:=hc.here q _ b hx' hb
   by_cases e1:∃ i∈js,c.ρ i=some b
   ·exact .inl e1
   ·exact .inr (Vf fun hn=>hx2 ⟨hlt,hn,fun i hi e=>e1 ⟨i,hi,e⟩⟩)
 have hxf:∀ {v:Value} {a:AV},RV ⟨ρ',h',w',(c.lend js).X⟩ v a->a.bel 0=true->RV ⟨c.ρ,pB c.h js YS,w',c.X⟩ v a:=fun h ha=>
  h.xfer (n:=0) (fun b o h=>⟨him' b o h,rfl⟩) (fun i hi=>absurd hi (Nat.not_lt_zero i)) (fun i b hi=>absurd hi (Nat.not_lt_zero i)) ha
 refine⟨v,c.ρ,res,pB c.h js YS,rfl,?_,hev,hxf (hle.rv g3) hres,hR⟩;refine⟨fun q r x y b hx hy lx ly hb hb'=>?_,fun q x b hx hb=>?_,fun q x hx=>?_,fun b o hX'=>⟨Nat.lt_of_lt_of_le (hc.xs b o hX').1 hsz,fun q x hx hl hb=>?_⟩⟩
 ·have key:∀ (q:Nat) x,(pB c.h js YS)[q]? = some x->x.live=true->∃ y,c.h[q]? = some y/\y.live=true:=fun q x hx hl=>by
   rcases hget q x hx with⟨p,hp,_⟩|⟨_,hx'⟩
   ·obtain⟨y,hy,hyl⟩:=hX q (Vd hp);exact⟨y,hy,hyl.live⟩
   ·exact⟨x,hx',hl⟩
  obtain⟨x',hx',lx'⟩:=key q x hx lx;obtain⟨y',hy',ly'⟩:=key r y hy ly;exact hc.inj q r x' y' b hx' hy' lx' ly' hb hb'
 ·have hql:q<c.h.length:=by have:=(Va hx).1;simpa [putBack_len] using this
  exact Nat.lt_of_lt_of_le (hc.here q _ b (Vb hql) hb) hsz
 ·rcases hget q x hx with⟨p,hp,hy⟩|⟨h1,hx'⟩
  ·obtain⟨k1,z,k2,k3⟩:=hsame p q x hp hy;have hb:=k3.blk (g1.blk p z k2)
   rcases hY x (Vd hy) with⟨cs,rfl,hcs⟩|⟨k,L,rfl,hL⟩
   ·obtain⟨b,us,e,q1,q2,q3,q4⟩:=hb
    exact⟨b,us,e,k1.symm.trans q1,q2,q3,fun m a ha=>by
     obtain⟨z1,u,z2,z3⟩:=q4 m a ha
     exact⟨z1,u,z2,hxf z3 (belL_get hcs m a ha)⟩⟩
   ·obtain⟨b,us,e,q1,q2,q3,q4⟩:=hb
    exact⟨b,us,e,k1.symm.trans q1,q2,q3,fun j x m a hx ha=>by
     obtain⟨u,z2,z3⟩:=q4 j x m a hx ha
     exact⟨u,z2,hxf z3 (belL_get (belLL_get hL j x hx) m a ha)⟩⟩
  ·exact(hc.blk q x hx').mono hev rfl fun b hl hb=>hold b (hc.here q x b hx' hb) (hoth q x b h1 hx' hl hb)
 ·rcases hget q x hx with⟨p,hp,_⟩|⟨_,hx'⟩
  ·obtain⟨y,hy,hyl⟩:=hX q (Vd hp);exact(hc.xs b o hX').2 q y hy hyl.live hb
  ·exact(hc.xs b o hX').2 q x hx' hl hb
theorem putBack_eq:∀ (js:List Nat) (YS:List ABlk) (h:List ABlk),aupds h (js.zip YS)=pB h js YS
 |[],_,h=>by simp[pB,aupds]
 |i::js,[],h=>by simp[pB,aupds]
 |i::js,y::ys,h=>by rw[List.zip_cons_cons,aupds,pB,putBack_eq js ys]
structure MethodAt(P:Program)(t:TypeId)(name:String)(g:FuncId):Prop where
 fn:Callable P g
 finds:∀ u w,(method (P.types.size+Made.depth) t u name).run P w=.ok (g,u) w
section
variable {P:Program} {f:FuncId} {c0:Cx} {R:AV->List ABlk->Prop} {ops:Array Oper} {n sl:Nat} {o:Oper} {rest:List Oper} {fp:List (List Nat×List Nat)} {k:List Item} {s:AState}
def LentAll(h:List ABlk)(js:List Nat)(XS:List ABlk):Prop:=js.map (fun i=>(h[i]?).getD .dead)=XS/\∀ i∈js,∃ x,h[i]? = some x/\LentB x
theorem LentAll.nil{h:List ABlk}:LentAll h [] []:=⟨rfl,fun i hi=>by simp at hi⟩
theorem LentAll.cons{h:List ABlk}{i:Nat}{x:ABlk}{js:List Nat}{XS:List ABlk}(hi:h[i]? = some x)(hx:LentB x)(hs:LentAll h js XS):LentAll h (i::js) (x::XS):=
 ⟨by rw[List.map_cons,hi,hs.1];rfl,fun j hj=>by
  rcases List.mem_cons.1 hj with rfl|hj
  ·exact⟨x,hi,hx⟩
  ·exact hs.2 j hj⟩
theorem LentAll.congr{h h':List ABlk}{js:List Nat}{XS:List ABlk}(hs:LentAll h js XS)(e:∀ y∈js,h'[y]? = h[y]?):LentAll h' js XS:=
 ⟨by rw[<- hs.1];exact List.map_congr_left fun i hi=>by rw[e i hi],fun i hi=>by rw[e i hi];exact hs.2 i hi⟩
theorem Ops.callB(hw:Wanted ops s.t o.guard true){x:Operand}{as:Array Operand}{ts:Array TypeId}(hop:o.op=.call { callee:=.value x,args:=as,argTypes:=ts }){g:FuncId}{fi ca:List AV}(hx:aev s.t x=.fn (.func g) fi ca)
  {js:List Nat} {args:List AV} {XS YS:List ABlk} {res:AV} (hj:js.Nodup) (hX:LentAll s.h js XS) (hY:∀ y∈YS,LentB y) (hlen:YS.length=js.length) (hin:amongL js (fi++as.toList.map (aev s.t)++ca)=true) (hle:LeL (renL js (fi++as.toList.map (aev s.t)++ca)) args) (H:BSpec P g args XS YS res) (hres:res.bel 0=true)
  (h:Ops P f c0 R ops (n+1) rest k ⟨aput s.t o.dst res,pB s.h js YS⟩):Ops P f c0 R ops n (o::rest) k s:=
 Ops.call hw hop hx H.fn (ACall.lend hj hX.1 hX.2 hY hlen hin hle H hres h)
theorem zip_fst{js:List Nat}{YS:List ABlk}(hlen:YS.length=js.length):(js.zip YS).map (·.1)=js:=by
 have:(js.zip YS).map Prod.fst=js:=List.map_fst_zip (by omega);exact this
theorem DOps.callB(ho:ops[n]? = some o)(hw:Wanted ops s.t o.guard true){x:Operand}{as:Array Operand}{ts:Array TypeId}(hop:o.op=.call { callee:=.value x,args:=as,argTypes:=ts }){g:FuncId}{fi ca:List AV}(hx:aev s.t x=.fn (.func g) fi ca)
  {js:List Nat} {args:List AV} {XS YS:List ABlk} {res:AV} (hj:js.Nodup) (hX:LentAll s.h js XS) (hY:∀ y∈YS,LentB y) (hlen:YS.length=js.length) (hin:amongL js (fi++as.toList.map (aev s.t)++ca)=true) (hle:LeL (renL js (fi++as.toList.map (aev s.t)++ca)) args) (H:BSpec P g args XS YS res) (hres:res.bel 0=true)
  (h:DOps P f c0 R ops (n+1) (sl+1) rest (fp++[(js,js)]) k ⟨aput s.t o.dst res,pB s.h js YS⟩):DOps P f c0 R ops n sl (o::rest) fp k s:=by
 refine DOps.cons (e:=⟨res,js.zip YS,js⟩) (sl':=sl+1) (StepOk.call ho hw hop hx H.fn _ fun h' hh=>ACall.lend hj (hX.congr hh).1 (hX.congr hh).2 hY hlen hin hle H hres ⟨rfl,(putBack_eq js YS h').symm⟩) ?_;simp only[Ent.fp,Ent.wr,Ent.app,zip_fst hlen,putBack_eq];exact h
end
def xwant(ops:Array Oper)(t:List AV):Option (Nat×Bool)->Option Bool
 |none=>some true
 |some (j,want)=>match gval ops t j with
  |some (.bool g)=>some (g==want)
  |some (.tup [])=>some false
  |_=>none
abbrev XC:=FuncId->List AV->List ABlk->Option (AV×List ABlk)
def xcallee(t:List AV):Op->Option (FuncId×List AV)
 |.call { callee:=.value x,args:=as,argTypes:=_ }=>match aev t x with
  |.fn (.func g) fi ca=>some (g,fi++as.toList.map (aev t)++ca)
  |_=>none
 |_=>none
theorem xcallee_ok{t:List AV}{op:Op}{g:FuncId}{args:List AV}(h:xcallee t op=some (g,args)):∃ x as ts fi ca,op=.call { callee:=.value x,args:=as,argTypes:=ts }/\aev t x=.fn (.func g) fi ca/\args=fi++as.toList.map (aev t)++ca:=by
 unfold xcallee at h
 split at h
 ·rename_i x as ts
  split at h
  ·rename_i g' fi ca hx;cases h;exact⟨x,as,ts,fi,ca,rfl,hx,rfl⟩
  ·cases h
 ·cases h
section
variable {P:Program} {f:FuncId} {c0:Cx} {R:AV->List ABlk->Prop} {T:TabT} {C:XC} {k:List Item}
end
/-! ### drawn regions -/
structure DState where
 sl:Nat
 fp:List (List Nat×List Nat)
 s:AState
def isFree:Option ABlk->Bool
 |some .free=>true
 |_=>false
section
variable {P:Program} {f:FuncId} {c0:Cx} {R:AV->List ABlk->Prop} {T:TabT} {C:XC} {k:List Item}
theorem isFree_ok{x:Option ABlk}(h:isFree x=true):x=some .free:=by
 unfold isFree at h
 split at h
 ·rfl
 ·cases h
end
def dead(x:ABlk):ABlk:=if x.isfree then x else .dead
def allDead(h:List ABlk):List ABlk:=h.map dead
theorem Cx.freezeAll{c:Cx}(hc:RelH c):RelH ⟨c.ρ,allDead c.h,c.w,c.X⟩/\Ev c ⟨c.ρ,allDead c.h,c.w,c.X⟩:=by
 have key:∀ m,RelH ⟨c.ρ,(c.h.take m).map dead++c.h.drop m,c.w,c.X⟩/\Ev c ⟨c.ρ,(c.h.take m).map dead++c.h.drop m,c.w,c.X⟩:=by
  intro m
  induction m with
  |zero=>simpa using And.intro hc (Ev.refl c)
  |succ m ih=>
   by_cases hm:m<c.h.length
   ·have hd:c.h.drop m=c.h[m]::c.h.drop (m+1):=List.drop_eq_getElem_cons hm;have ht:c.h.take (m+1)=c.h.take m++[c.h[m]]:=(List.take_append_getElem hm).symm
    have hlen:((c.h.take m).map dead).length=m:=by simp;omega
    have hi:((c.h.take m).map dead++c.h.drop m)[m]? = some c.h[m]:=by
     rw[hd,List.getElem?_append_right (by omega),hlen,Nat.sub_self];rfl
    have hset:((c.h.take m).map dead++c.h.drop m).set m .dead=(c.h.take m).map dead++.dead::c.h.drop (m+1):=by
     rw[hd,List.set_append_right _ _ (by omega),hlen,Nat.sub_self];rfl
    by_cases hf:c.h[m].isfree=true
    ·rw[ht,List.map_append,List.map_cons,List.map_nil,List.append_assoc]
     have:dead c.h[m]=c.h[m]:=by unfold dead;rw[if_pos hf]
     rw[this,List.singleton_append,<- hd];exact ih
    ·have hf':c.h[m].isfree=false:=by simpa using hf
     obtain⟨q1,q2⟩:=Cx.freeze (c:=⟨c.ρ,(c.h.take m).map dead++c.h.drop m,c.w,c.X⟩) ih.1 m _ hi hf';simp only[hset] at q1 q2;rw[ht,List.map_append,List.map_cons,List.map_nil,List.append_assoc]
     have:dead c.h[m]=.dead:=by unfold dead;rw[if_neg hf]
     rw[this,List.singleton_append];exact⟨q1,ih.2.trans q2⟩
   ·rw[List.take_of_length_le (by omega),List.drop_of_length_le (by omega)] at ih ⊢;exact ih
 have:=key c.h.length;rw[List.take_length,List.drop_length,List.append_nil] at this;exact this
def mapO{α β:Type}(F:α->Option β):List α->Option (List β)
 |[]=>some []
 |a::l=>match F a with
  |some b=>match mapO F l with
   |some r=>some (b::r)
   |none=>none
  |none=>none
theorem mapO_ok{α β:Type}{F:α->Option β}:∀ {l:List α} {m:List β},mapO F l=some m->m.length=l.length/\∀ (i:Nat) b,m[i]? = some b->∃ a,l[i]? = some a/\F a=some b
 |[],m,h=>by
  cases h;exact⟨rfl,fun i b h=>by simp at h⟩
 |a::l,m,h=>by
  unfold mapO at h
  split at h
  ·rename_i b hb
   split at h
   ·rename_i r hr;cases h;obtain⟨h1,h2⟩:=mapO_ok hr;refine⟨by simp[h1],fun i c hi=>?_⟩
    cases i with
    |zero=>
     simp only[Y1,Option.some.injEq] at hi;subst hi;exact⟨a,rfl,hb⟩
    |succ i=>exact h2 i c (by simpa using hi)
   ·cases h
  ·cases h
def Cx.cold(c:Cx):Cx:=⟨c.ρ,allDead c.h,c.w,c.X⟩
theorem allDead_get{h:List ABlk}{i:Nat}{x:ABlk}(hx:(allDead h)[i]? = some x)(o:Nat):x.fix o:=by
 unfold allDead at hx;rw[Vg] at hx;simp only[Ve] at hx;obtain⟨y,_,rfl⟩:=hx;unfold dead
 split
 ·cases y<;>first|trivial|(rename_i h;cases h)
 ·trivial
/-! ### whole runs -/
def StepS(P:Program)(c0:Cx)(ops:Array Oper)(i0 y:Nat)(b:ABlk)(i:Nat)(o:Oper)(s:AState)(e:Ent):Prop:=
 ∀ s':AState,s'.t.length=s.t.length->(∀ x∈o.looksAt ops,s'.t[x]? = s.t[x]?)->(∀ y∈e.rd,s'.h[y]? = s.h[y]?)->(i=i0->s'.h[y]? = s.h[y]?\/s'.h[y]? = some b) ->
  ∀ (a:Act) (w:World) (K:Act->World->Prop) (Q:Exit->Act->World->Prop),Rel c0 s' a w->(∀ a' w',Rel c0 (e.app o s') a' w'->K a' w')->wpOp P ops Q i K a w
theorem StepS.of{P:Program}{c0:Cx}{ops:Array Oper}{i0 y i:Nat}{b:ABlk}{o:Oper}{s:AState}{e:Ent}(h:StepOk P c0 ops i o s e):StepS P c0 ops i0 y b i o s e:=fun s' h1 h2 h3 _=>h s' h1 h2 h3
def TraceS(P:Program)(c0:Cx)(ops:Array Oper)(i0 y:Nat)(b:ABlk):Nat->List Oper->List Ent->AState->Prop
 |n,o::os,e::es,s=>StepS P c0 ops i0 y b n o s e/\TraceS P c0 ops i0 y b (n+1) os es (e.app o s)
 |_,_,_,_=>True
def softP(ms:List Nat)(fp:List (List Nat×List Nat))(i0 j0 y:Nat):Bool:=
 decide (i0<j0)&&(List.range fp.length).all fun j=>match fp[j]? with
  |some e=>!e.2.contains y||(if j<i0 then(ms.getD i0 0).testBit j else decide (j=i0)||decide (j=j0)||(ms.getD j 0).testBit i0)
  |none=>true
section
variable {P:Program} {c0:Cx} {ops:Array Oper}
theorem TraceS.at_{i0 y:Nat}{b:ABlk}:∀ (os:List Oper) (es:List Ent) (n:Nat) (s:AState),TraceS P c0 ops i0 y b n os es s->∀ j o e,os[j]? = some o->es[j]? = some e->StepS P c0 ops i0 y b (n+j) o (sub (fun q=>decide (q<n+j)) n os es s) e
 |[],_,_,_,_,j,o,e,ho,_=>by simp at ho
 |_::_,[],_,_,_,j,o,e,_,he=>by simp at he
 |o'::os,e'::es,n,s,h,j,o,e,ho,he=>by
  obtain⟨h1,h2⟩:=h
  cases j with
  |zero=>
   simp only[Y1,Option.some.injEq] at ho he;subst ho he
   have:sub (fun q=>decide (q<n+0)) n (o'::os) (e'::es) s=s:=by
    have:∀ (os:List Oper) (es:List Ent) (m:Nat) (s:AState),n<=m->sub (fun q=>decide (q<n+0)) m os es s=s:=by
     intro os
     induction os with
     |nil=>intro es m s _;simp[sub]
     |cons o os ih=>
      intro es m s hm
      cases es with
      |nil=>simp[sub]
      |cons e es=>
       have:¬m<n+0:=by omega
       simp only[sub,this,decide_false,Y8,Yr];exact ih es (m+1) s (by omega)
    exact this _ _ n s (Nat.le_refl _)
   rw[this];exact h1
  |succ j=>
   have:=TraceS.at_ os es (n+1) _ h2 j o e (by simpa using ho) (by simpa using he)
   have e1:n+1+j=n+(j+1):=by omega
   rw[e1] at this
   have e2:n<n+(j+1):=by omega
   simp only[sub,e2,decide_true,Ys];exact this
theorem sub_hlen{D:Nat->Bool}:∀ (os:List Oper) (es:List Ent) (n:Nat) (s:AState),(sub D n os es s).h.length=s.h.length
 |[],_,_,_=>by simp[sub]
 |_::_,[],_,_=>by simp[sub]
 |o::os,e::es,n,s=>by
  simp only[sub];rw[sub_hlen os es]
  split
  ·simp only[Ent.app];exact aupds_len _ _
  ·rfl
theorem sub_no:∀ (os:List Oper) (es:List Ent) (n:Nat) (s:AState),sub (fun _=>false) n os es s=s
 |[],_,_,_=>by simp[sub]
 |_::_,[],_,_=>by simp[sub]
 |o::os,e::es,n,s=>by
  simp only[sub,Y8,Yr];exact sub_no os es _ s
theorem sub_last{D:Nat->Bool}{y:Nat}{b:ABlk}{e0:Ent}(hd:e0.d=[(y,b)]):∀ (os:List Oper) (es:List Ent) (n:Nat) (s:AState) (j0:Nat),j0<os.length->es[j0]? = some e0->y<s.h.length->D (n+j0)=true->(∀ j e,j0<j->es[j]? = some e->y∈e.wr->D (n+j)=false)->(sub D n os es s).h[y]? = some b
 |[],_,_,_,_,h,_,_,_,_=>by simp at h
 |_::_,[],_,_,_,_,h,_,_,_=>by simp at h
 |o::os,e::es,n,s,j0,hj,he,hy,hD,hall=>by
  simp only[sub]
  cases j0 with
  |zero=>
   simp only[Y1,Option.some.injEq] at he;subst he;rw[Nat.add_zero] at hD;rw[hD,if_pos rfl];rw[sub_blk (D:=D) (D':=fun _=>false) os es (n+1) _ _ rfl rfl fun j e he hw=>by have:=hall (j+1) e (by omega) (by simpa using he) hw;rwa [<- Nat.add_assoc,Nat.add_right_comm] at this,sub_no];simp only[Ent.app,hd,aupds];rw[List.getElem?_set_self hy]
  |succ j0=>
   refine sub_last hd os es (n+1) _ j0 (by simpa using hj) (by simpa using he) ?_ (by rwa [Nat.add_right_comm,Nat.add_assoc]) fun j e hj he hw=>?_
   ·split
    ·simp only[Ent.app];rw[aupds_len];exact hy
    ·exact hy
   ·have:=hall (j+1) e (by omega) (by simpa using he) hw
    rwa [<- Nat.add_assoc,Nat.add_right_comm] at this
theorem ARun.drawS{f:FuncId}{R:AV->List ABlk->Prop}{k:List Item}{s:AState}{id:Nat}(hm:P.follows .mixedOrders=true)(hst:statOk ops=true)(es:List Ent)(hlen:es.length=ops.size)
  {i0 j0 y0:Nat} {b0:ABlk} (htr:TraceS P c0 ops i0 y0 b0 0 ops.toList es s) (hsoft:softP (masks ops.toList []) (es.map Ent.fp) i0 j0 y0=true) (hj0:∃ e0,es[j0]? = some e0/\e0.d=[(y0,b0)]) (hdyn:dynOk (masks ops.toList []) es=true) (hk:ARun P f c0 R k (sub (fun _=>true) 0 ops.toList es s)):ARun P f c0 R (.code (.region id ops true)::k) s:=fun ρ w a h1 h2 h3 h4=>by
 refine Goes.of_wp (wp_region_any hm ?_);have hbef:∀ i j,((masks ops.toList []).getD j 0).testBit i=true->Bef ops i j:=fun i j h=>masks_ok ops.toList [] rfl (fun k i h=>by simp at h) j i h
 -- what the checks say of two operations
 have stat:∀ i j oi oj,i<j->ops[i]? = some oi->ops[j]? = some oj->Bef ops i j\/((∀ d,oi.dst=some d->d∉oj.looksAt ops)/\(∀ d,oi.dst=some d->oj.dst≠some d)/\(∀ d,oj.dst=some d->d∉oi.looksAt ops)):=by
  intro i j oi oj hij hi hj;have hjn:j<ops.size:=(Array.getElem?_eq_some_iff.1 hj).1;have:=all_range hst hjn;simp only[hj,Vi] at this;have:=all_range this.2 hij;simp only[Bool.or_eq_true,hi] at this
  rcases this with h|h
  ·exact .inl (hbef i j h)
  ·exact .inr (Oper.apart_spec h)
 have back:∀ j oj e,ops[j]? = some oj->e∈oj.after.toList->Region.binds .any e=true->e.on<j:=by
  intro j oj e hj he hb;have hjn:j<ops.size:=(Array.getElem?_eq_some_iff.1 hj).1;have:=all_range hst hjn;simp only[hj,Vi] at this;have:=List.all_eq_true.1 this.1 e he
  simpa [hb] using this
 have dyn:∀ i j ei ej,i<j->es[i]? = some ei->es[j]? = some ej->Bef ops i j\/(disj ei.wr ej.rd=true/\disj ei.wr ej.wr=true/\disj ei.rd ej.wr=true):=by
  intro i j ei ej hij hi hj;have hjn:j<es.length:=(Va hj).1;have:=all_range hdyn hjn;simp only[hj] at this;have:=all_range this hij;simp only[Bool.or_eq_true,hi,Vi] at this
  rcases this with h|⟨⟨h,h'⟩,h''⟩
  ·exact .inl (hbef i j h)
  ·exact .inr ⟨h,h',h''⟩
 have hdisj:∀ {xs ys:List Nat} {y:Nat},disj xs ys=true->y∈xs->y∉ys:=by
  intro xs ys y h hy hy';have:=List.all_eq_true.1 h y hy;simp[hy'] at this
 have hstep:=fun(j:Nat) o e (ho:ops.toList[j]? = some o) he=>by have:=TraceS.at_ ops.toList es 0 s htr j o e ho he;rwa [Nat.zero_add] at this
 have soft:i0<j0/\∀ j ej,es[j]? = some ej->y0∈ej.wr->(j<i0->Bef ops j i0)/\(i0<j->j=j0\/Bef ops i0 j):=by
  unfold softP at hsoft;simp only[Vi,decide_eq_true_eq,Yo] at hsoft;refine⟨hsoft.1,fun j ej hej hy=>?_⟩;have hjn:j<es.length:=(Va hej).1;have:=all_range hsoft.2 hjn;simp only[Vg,hej,Yc] at this
  have hy':ej.fp.2.contains y0=true:=by simpa [Ent.fp] using hy
  rw[hy'] at this;simp only[Bool.not_true,Bool.false_or] at this;refine⟨fun hlt=>?_,fun hlt=>?_⟩
  ·rw[if_pos hlt] at this;exact hbef _ _ this
  ·rw[if_neg (by omega)] at this;simp only[Bool.or_eq_true,decide_eq_true_eq] at this
   rcases this with(h|h)|h
   ·omega
   ·exact .inl h
   ·exact .inr (hbef _ _ h)
 have key:∀ (fuel:Nat) (listed:Array Bool) (a:Act) (w:World),listed.size=ops.size->Closed ops (fun j=>listed.getD j false)->(List.range ops.size).countP (fun j=>!listed.getD j true)<=fuel ->
   Rel c0 (sub (fun j=>listed.getD j false) 0 ops.toList es s) a w->wpAny P .any ops (fun e a' w'=>e=.normal/\Goes P f (fun v w'=>∃ ρ' r h',RelH ⟨ρ',h',w',c0.X⟩/\Ev c0 ⟨ρ',h',w',c0.X⟩/\RV ⟨ρ',h',w',c0.X⟩ v r/\R r h') k a' w') fuel listed a w:=by
  intro fuel;have hdone:∀ (listed:Array Bool) (a:Act) (w:World),listed.size=ops.size->(∀ j,j<ops.size->listed.getD j true=true)->Rel c0 (sub (fun j=>listed.getD j false) 0 ops.toList es s) a w ->
    Goes P f (fun v w'=>∃ ρ' r h',RelH ⟨ρ',h',w',c0.X⟩/\Ev c0 ⟨ρ',h',w',c0.X⟩/\RV ⟨ρ',h',w',c0.X⟩ v r/\R r h') k a w:=by
   intro listed a w hsz hall ⟨ρ,q1,q2,q3,q4⟩
   have:sub (fun j=>listed.getD j false) 0 ops.toList es s=sub (fun _=>true) 0 ops.toList es s:=sub_congr _ _ _ _ fun j hj=>by
    have hj':j<ops.size:=by simpa using hj
    have:=hall j hj';rw[Nat.zero_add]
    have hjl:j<listed.size:=by omega
    rw[Array.getD_eq_getD_getElem?,Vc hjl] at this ⊢;exact this
   rw[this] at q1 q2 q3;exact hk ρ w a q1 q2 q3 q4
  have hready:∀ (listed:Array Bool),listed.size=ops.size->Region.ready .any ops listed=[]->∀ j,j<ops.size->listed.getD j true=true:=by
   intro listed hsz hnil j
   induction j using Nat.strongRecOn with
   |_ j ih=>
    intro hj;apply Vf;intro hnot
    have hmem:j∈Region.ready .any ops listed:=by
     refine List.mem_filter.2 ⟨List.mem_range.2 hj,?_⟩;simp only[Vi,Bool.not_eq_true'];refine⟨by simpa using hnot,?_⟩;have hoj:ops[j]? = some ops[j]:=Vc hj;rw[hoj];simp only[Yc,Y4];rw[Array.all_eq_true_iff_forall_mem];intro e he
     cases hb:Region.binds .any e with
     |false=>rfl
     |true=>
      have hlt:=back j _ e hoj (by simpa using he) hb;have:=ih e.on hlt (by omega)
      have hjl:e.on<listed.size:=by omega
      rw[Array.getD_eq_getD_getElem?,Vc hjl] at this ⊢
      simpa using this
    rw[hnil] at hmem;simp at hmem
  induction fuel with
  |zero=>
   intro listed a w hsz hcl hcnt hrel
   have h0:∀ j,j<ops.size->listed.getD j true=true:=by
    intro j hj;have:=List.countP_eq_zero.1 (Nat.le_zero.1 hcnt) j (List.mem_range.2 hj)
    simpa using this
   refine⟨?_,rfl,hdone listed a w hsz h0 hrel⟩;refine List.filter_eq_nil_iff.2 fun j hj=>?_;rw[h0 j (List.mem_range.1 hj)];simp
  |succ fuel ih=>
   intro listed a w hsz hcl hcnt hrel;refine⟨fun hnil=>⟨rfl,hdone listed a w hsz (hready listed hsz hnil) hrel⟩,fun i hi=>?_⟩;obtain⟨hir,hcond⟩:=List.mem_filter.1 hi;have hin:i<ops.size:=List.mem_range.1 hir;simp only[Vi,Bool.not_eq_true'] at hcond;obtain⟨hnl,hpre⟩:=hcond;have hoi:ops[i]? = some ops[i]:=Vc hin;rw[hoi] at hpre;simp only[Yc,Y4] at hpre;rw[Array.all_eq_true_iff_forall_mem] at hpre
   have hil:i<listed.size:=by omega
   have hDi:listed.getD i false=false:=by
    rw[Array.getD_eq_getD_getElem?,Vc hil] at hnl ⊢;exact hnl
   have hpre':∀ o e,ops[i]? = some o->e∈o.after.toList->Region.binds .any e=true->listed.getD e.on false=true:=by
    intro o e ho he hb;rw[hoi] at ho;cases ho;have:=hpre e (by simpa using he)
    simpa [hb] using this
   have hie:i<es.length:=by omega
   have hei:es[i]? = some es[i]:=Vb hie;generalize ops[i]=oi at *;generalize es[i]=ei at *
   have hoi':ops.toList[i]? = some oi:=by simpa using hoi
   have hD:∀ j,j<i->Bef ops j i->listed.getD j false=true:=fun j _ hb=>Bef.pre hcl hb hpre'
   have hD':∀ j,Bef ops i j->listed.getD j false=false:=fun j hb=>by
    cases hj:listed.getD j false with
    |false=>rfl
    |true=>have h:listed.getD i false=true:=hcl.bef hb hj;rw[hDi] at h;cases h
   refine hstep i oi ei hoi' hei _ (by rw[sub_tlen,sub_tlen]) (fun x hx=>?_) (fun y hy=>?_) (fun hi0=>?_) a w _ _ hrel fun a' w' hr=>?_
   ·refine sub_tmp _ _ _ _ _ rfl rfl fun j oj hoj hdj=>?_;rw[Nat.zero_add]
    have hoj':ops[j]? = some oj:=by simpa using hoj
    rcases Nat.lt_trichotomy j i with hlt|rfl|hgt
    ·rw[decide_eq_true hlt]
     rcases stat j i oj oi hlt hoj' hoi with hb|⟨h1,_,_⟩
     ·exact hD j hlt hb
     ·exact absurd hx (h1 x hdj)
    ·simp[hDi]
    ·rw[decide_eq_false (by omega)]
     rcases stat i j oi oj hgt hoi hoj' with hb|⟨_,_,h1⟩
     ·exact hD' j hb
     ·exact absurd hx (h1 x hdj)
   ·refine sub_blk _ _ _ _ _ rfl rfl fun j ej hej hwj=>?_;rw[Nat.zero_add]
    rcases Nat.lt_trichotomy j i with hlt|rfl|hgt
    ·rw[decide_eq_true hlt]
     rcases dyn j i ej ei hlt hej hei with hb|⟨h1,_,_⟩
     ·exact hD j hlt hb
     ·exact absurd hy (hdisj h1 hwj)
    ·simp[hDi]
    ·rw[decide_eq_false (by omega)]
     rcases dyn i j ei ej hgt hei hej with hb|⟨_,_,h1⟩
     ·exact hD' j hb
     ·exact absurd hwj (hdisj h1 hy)
   ·subst hi0;obtain⟨hij0,hs0⟩:=soft;obtain⟨e0,he0,hd0⟩:=hj0
    cases hlj:listed.getD j0 false with
    |false=>
     left
     refine sub_blk _ _ _ _ _ rfl rfl fun j ej hej hwj=>?_;rw[Nat.zero_add]
     rcases Nat.lt_trichotomy j i with hlt|rfl|hgt
     ·rw[decide_eq_true hlt];exact hD j hlt ((hs0 j ej hej hwj).1 hlt)
     ·simp[hDi]
     ·rw[decide_eq_false (by omega)]
      rcases(hs0 j ej hej hwj).2 hgt with rfl|hb
      ·exact hlj
      ·exact hD' j hb
    |true=>
     by_cases hyl:y0<s.h.length
     ·right
      have hj0n:j0<ops.toList.length:=by rw[Array.length_toList];have:=(Va he0).1;omega
      refine sub_last hd0 ops.toList es 0 s j0 (by simpa using hj0n) he0 hyl (by rw[Nat.zero_add];exact hlj) fun j ej hj hej hwj=>?_;rw[Nat.zero_add]
      rcases(hs0 j ej hej hwj).2 (by omega) with h|hb
      ·omega
      ·exact hD' j hb
     ·left
      rw[List.getElem?_eq_none (by rw[sub_hlen];omega),List.getElem?_eq_none (by rw[sub_hlen];omega)]
   ·have hset:∀ j,(listed.setIfInBounds i true).getD j false=(listed.getD j false||j==i):=fun j=>by
     rw[Array.getD_eq_getD_getElem?,Array.getD_eq_getD_getElem?,Array.getElem?_setIfInBounds]
     by_cases hji:i=j
     ·subst hji;simp[hil]
     ·have:(j==i)=false:=by simp;omega
      simp[hji,this]
    have e1:sub (fun j=>(listed.setIfInBounds i true).getD j false) 0 ops.toList es s=ei.app oi (sub (fun j=>listed.getD j false) 0 ops.toList es s):=by
     have:(fun j=>(listed.setIfInBounds i true).getD j false)=(fun j=>listed.getD j false||j==i):=funext hset;rw[this];refine sub_set (D:=fun j=>listed.getD j false) hDi ops.toList es 0 s oi ei hoi' hei (Nat.zero_le _) fun j oj ej hj hoj hej hDj=>?_;rw[Nat.zero_add] at hj hDj
     have hoj':ops[j]? = some oj:=by simpa using hoj
     have hno:¬Bef ops i j:=fun hb=>by rw[hD' j hb] at hDj;cases hDj
     refine⟨?_,?_⟩
     ·rcases stat i j oi oj hj hoi hoj' with hb|⟨_,h1,_⟩
      ·exact absurd hb hno
      ·exact h1
     ·rcases dyn i j ei ej hj hei hej with hb|⟨_,h1,_⟩
      ·exact absurd hb hno
      ·exact h1
    refine ih _ a' w' (by simpa using hsz) (fun j o e ho hj he hb=>?_) ?_ (by rw[e1];exact hr)
    ·simp only[hset] at hj ⊢;simp only[Bool.or_eq_true,beq_iff_eq] at hj ⊢
     rcases hj with hj|rfl
     ·exact .inl (hcl j o e ho hj he hb)
     ·exact .inl (hpre' o e ho he hb)
    ·have hlt:(List.range ops.size).countP (fun j=>!(listed.setIfInBounds i true).getD j true)<(List.range ops.size).countP (fun j=>!listed.getD j true):=by
      refine countP_lt (i:=i) (fun x hx=>?_) hir (by simp[hnl]) ?_
      ·simp only[Bool.not_eq_true'] at hx ⊢;rw[Array.getD_eq_getD_getElem?,Array.getElem?_setIfInBounds] at hx;rw[Array.getD_eq_getD_getElem?]
       by_cases hix:i=x
       ·subst hix;rw[if_pos rfl,if_pos hil] at hx;simp at hx
       ·rw[if_neg hix] at hx;exact hx
      ·rw[Array.getD_eq_getD_getElem?,Array.getElem?_setIfInBounds];simp[hil]
     omega
 refine key ops.size (Array.replicate ops.size false) a _ (by simp) (fun j o e ho hj he hb=>?_) ?_ ?_
 ·exfalso
  simp only at hj;rw[Array.getD_eq_getD_getElem?,Array.getElem?_replicate] at hj
  split at hj<;>simp at hj
 ·exact Nat.le_trans List.countP_le_length (by simp)
 ·have e0:sub (fun j=>(Array.replicate ops.size false).getD j false) 0 ops.toList es s=s:=by
   have hf:∀ j,(Array.replicate ops.size false).getD j false=false:=fun j=>by
    rw[Array.getD_eq_getD_getElem?,Array.getElem?_replicate]
    split<;>rfl
   have:∀ (os:List Oper) (es:List Ent) (m:Nat) (s:AState),sub (fun j=>(Array.replicate ops.size false).getD j false) m os es s=s:=by
    intro os
    induction os with
    |nil=>intro es m s;simp[sub]
    |cons o os ih=>
     intro es m s
     cases es with
     |nil=>simp[sub]
     |cons e es=>
      have:=ih es (m+1) s;simp only[hf] at this;simp only[sub,hf,Y8,Yr];exact this
   exact this _ _ _ _
  rw[e0]
  have hev:Ev ⟨ρ,s.h,w,c0.X⟩ ⟨ρ,s.h,{ w with drawn:=w.drawn+1 },c0.X⟩:=⟨rfl,rfl,rfl,Nat.le_refl _,rfl,fun _ _ h=>⟨h,rfl⟩,fun _ _ h=>⟨rfl,h⟩,Nat.le_refl _,fun _ x h hf=>⟨x,h,hf,fun ht=>⟨ht,rfl⟩,fun _ n e=>⟨n,e,.inr ⟨rfl,rfl,fun _ _=>rfl⟩⟩⟩,fun _ vs _ _ h=>⟨vs,h,rfl⟩⟩
  exact⟨ρ,⟨h1.inj,h1.here,fun i x hx=>(h1.blk i x hx).mono hev rfl fun _ _ _=>rfl,h1.xs⟩,h2.trans hev,h3.mono hev,h4⟩
end
structure DSoft(P:Program)(f:FuncId)(c0:Cx)(R:AV->List ABlk->Prop)(ops:Array Oper)(i0 j0 y:Nat)(b:ABlk)(n sl:Nat)(rest:List Oper)(fp:List (List Nat×List Nat))(k:List Item)(s:AState):Prop where
 h:∃ es:List Ent,es.length=rest.length/\TraceS P c0 ops i0 y b n rest es s/\dynP (masks ops.toList []) (fp++es.map Ent.fp)=true/\softP (masks ops.toList []) (fp++es.map Ent.fp) i0 j0 y=true/\(n<=j0->∃ e0,es[j0-n]? = some e0/\e0.d=[(y,b)])/\ARun P f c0 R k (sub (fun _=>true) n rest es s)
section
variable {P:Program} {f:FuncId} {c0:Cx} {R:AV->List ABlk->Prop} {T:TabT} {ops:Array Oper} {i0 j0 y n sl sl':Nat} {b:ABlk} {o:Oper} {rest:List Oper} {fp:List (List Nat×List Nat)} {k:List Item} {s:AState}
theorem DSoft.nil(hn:j0<n)(hd:dynP (masks ops.toList []) fp=true)(hs:softP (masks ops.toList []) fp i0 j0 y=true)(h:Run P f c0 R k s):DSoft P f c0 R ops i0 j0 y b n sl [] fp k s:=⟨[],rfl,trivial,by simpa using hd,by simpa using hs,fun h=>by omega,by simpa [sub] using h.h⟩
theorem DSoft.cons{e:Ent}(hs:StepS P c0 ops i0 y b n o s e)(he:n=j0->e.d=[(y,b)])(h:DSoft P f c0 R ops i0 j0 y b (n+1) sl' rest (fp++[e.fp]) k (e.app o s)):DSoft P f c0 R ops i0 j0 y b n sl (o::rest) fp k s:=by
 obtain⟨es,h1,h2,h3,h4,h5,h6⟩:=h.h;refine⟨e::es,by simp[h1],⟨hs,h2⟩,by simpa using h3,by simpa using h4,fun hn=>?_,by simpa [sub] using h6⟩
 by_cases hnj:n=j0
 ·subst hnj;exact⟨e,by simp,he rfl⟩
 ·obtain⟨e0,g1,g2⟩:=h5 (by omega);refine⟨e0,?_,g2⟩
  have:j0-n=(j0-(n+1))+1:=by omega
  rw[this]
  simpa using g1
theorem DSoft.op(hT:TabOk P T)(ho:ops[n]? = some o)(hw:Wanted ops s.t o.guard true){r:ARes}(hr:aop T sl s.t s.h o.op=some r)(hp:r.p)(hf:freeOk s.t s.h sl o.op)(he:n=j0->r.d.toList=[(y,b)])
  (h:DSoft P f c0 R ops i0 j0 y b (n+1) (if mN o.op then sl+1 else sl) rest (fp++[(if needs s.t o.op then sl::rdOf s.t o.op else rdOf s.t o.op,wrOf r.d)]) k ⟨aput s.t o.dst r.v,aupd s.h r.d⟩):DSoft P f c0 R ops i0 j0 y b n sl (o::rest) fp k s:=by
 rw[<- wrOf_list,<- aupds_one] at h;refine DSoft.cons (StepS.of (StepOk.op hT ho hw hr hp fun hn=>?_)) he h;unfold freeOk at hf;rw[if_pos hn] at hf
 split at hf
 ·assumption
 ·exact hf.elim
theorem DSoft.look(hT:TabOk P T)(ho:ops[n]? = some o)(hw:Wanted ops s.t o.guard true){r r':ARes}(hi:n=i0)(hij:n≠j0)(hrd:rdOf s.t o.op=[y])(hnn:needs s.t o.op=false)(hr:aop T sl s.t s.h o.op=some r)(hrb:aop T sl s.t (s.h.set y b) o.op=some r')(hv:r'.v=r.v)(hd:r.d=none)(hd':r'.d=none)(hp:r.p)(hp':r'.p)(hy:y<s.h.length)
  (h:DSoft P f c0 R ops i0 j0 y b (n+1) sl rest (fp++[([],[])]) k ⟨aput s.t o.dst r.v,s.h⟩):DSoft P f c0 R ops i0 j0 y b n sl (o::rest) fp k s:=by
 refine DSoft.cons (e:=⟨r.v,[],[]⟩) ?_ (fun h=>absurd h hij) h;intro s' hl ht hh hsoft a w K Q ⟨ρ,h1,h2,h3,h4⟩ hK;have hx:=looks_op ht
 have hr':∃ q:ARes,aop T sl s'.t s'.h o.op=some q/\q.v=r.v/\q.d=none/\q.p:=by
  rcases hsoft hi with hs|hs
  ·refine⟨r,(aop_local hx fun z hz=>?_).trans hr,rfl,hd,hp⟩;rw[hrd] at hz;simp only[List.mem_singleton] at hz;subst hz;exact hs
  ·refine⟨r',(aop_local hx fun z hz=>?_).trans hrb,hv,hd',hp'⟩;rw[hrd] at hz;simp only[List.mem_singleton] at hz;subst hz;rw[hs,List.getElem?_set_self hy]
 obtain⟨q,hq,hqv,hqd,hqp⟩:=hr';obtain⟨nx,v,ρ',w',q1,q2,q3,q4,q5⟩:=aop_ok (P:=P) hT h1 h3 o (fun hn=>by rw[needs_local hx,hnn] at hn;simp at hn) hq hqp;rw[hqd] at q3 q4 q5;rw[hqv] at q5
 have hrel:Rel c0 (Ent.app ⟨r.v,[],[]⟩ o s') (a.put o.dst v) w':=⟨ρ',q3,h2.trans q4,(h3.mono q4).put o.dst q5,by cases o.dst<;>exact h4⟩
 unfold wpOp;simp only[ho];rw[(looks_guard ht hw).ok h3,if_pos rfl];refine .inl ?_;unfold Oper.wp;rw[q1]
 rcases q2 with rfl|⟨rfl,rfl⟩
 ·exact hK _ _ hrel
 ·exact hK _ _ hrel
theorem DSoft.draw{id:Nat}{i0 j0 y:Nat}{b:ABlk}(hm:P.follows .mixedOrders=true)(hst:statOk ops=true)(h:DSoft P f c0 R ops i0 j0 y b 0 s.h.length ops.toList [] k ⟨s.t,s.h++places ops.toList⟩):Run P f c0 R (.code (.region id ops true)::k) s:=by
 have hgrow:∀ m,Wk P c0 s ⟨s.t,s.h++List.replicate m .free⟩:=by
  intro m;clear h
  induction m with
  |zero=>simpa using Wk.refl s
  |succ m ih=>
   refine ih.trans fun ρ w vs h1 h2 h3=>?_;obtain⟨g1,g2⟩:=Cx.grow h1
   have e:s.h++List.replicate m ABlk.free++[.free]=s.h++List.replicate (m+1) .free:=by rw[List.replicate_succ',List.append_assoc]
   simp only[e] at g1 g2;exact⟨_,g1,h2.trans g2,h3.mono g2⟩
 obtain⟨m,hm'⟩:=places_eq ops.toList;rw[hm'] at h;refine⟨ARun.weak (hgrow m) ?_⟩;obtain⟨es,h1,h2,h3,h4,h5,h6⟩:=h.h;exact ARun.drawS hm hst es (by simpa using h1) h2 (by simpa using h4) (by simpa using h5 (Nat.zero_le _)) (by rw[<- dynP_ok];simpa using h3) h6
end
section
variable (P:Program) (f:FuncId) (c0:Cx) (R:AV->List ABlk->Prop) (T:TabT)
def sdone(i0 j0 y:Nat)(b:ABlk)(n:Nat)(o:Oper)(sl:Nat)(fp:List (List Nat×List Nat))(s:AState)(K:Nat->List (List Nat×List Nat)->AState->Prop):Prop:=
 if n=i0 then
  match aop T sl s.t s.h o.op,aop T sl s.t (s.h.set y b) o.op with
  |some r,some r'=>(n≠j0/\rdOf s.t o.op=[y]/\needs s.t o.op=false/\r'.v=r.v/\r.d=none/\r'.d=none/\r.p/\r'.p/\y<s.h.length)/\K sl (fp++[([],[])]) ⟨aput s.t o.dst r.v,s.h⟩
  |_,_=>False
 else match aop T sl s.t s.h o.op with
  |some r=>(r.p/\freeOk s.t s.h sl o.op/\(n=j0->r.d=some (y,b)))/\K (if mN o.op then sl+1 else sl) (fp++[(if needs s.t o.op then sl::rdOf s.t o.op else rdOf s.t o.op,wrOf r.d)]) ⟨aput s.t o.dst r.v,aupd s.h r.d⟩
  |none=>False
def sadops(ops:Array Oper)(i0 j0 y:Nat)(b:ABlk)(K:AState->Prop):Nat->List Oper->Nat->List (List Nat×List Nat)->AState->Prop
 |n,[],_,fp,s=>(dynP (masks ops.toList []) fp=true/\softP (masks ops.toList []) fp i0 j0 y=true/\j0<n)/\K s
 |n,o::rest,sl,fp,s=>match o.guard with
  |none=>sdone T i0 j0 y b n o sl fp s (sadops ops i0 j0 y b K (n+1) rest)
  |some _=>False
end
section
variable {P:Program} {f:FuncId} {c0:Cx} {R:AV->List ABlk->Prop} {T:TabT} {ops:Array Oper} {k:List Item} {s:AState}
theorem sadops_ok(hT:TabOk P T){i0 j0 y:Nat}{b:ABlk}{K:AState->Prop}(hK:∀ s,K s->Run P f c0 R k s):∀ (rest:List Oper) (n sl:Nat) (fp:List (List Nat×List Nat)) (s:AState),ops.toList.drop n=rest->sadops T ops i0 j0 y b K n rest sl fp s->DSoft P f c0 R ops i0 j0 y b n sl rest fp k s
 |[],n,sl,fp,s,_,h=>by
  unfold sadops at h;exact DSoft.nil h.1.2.2 h.1.1 h.1.2.1 (hK s h.2)
 |o::rest,n,sl,fp,s,hd,h=>by
  obtain⟨ho,hd'⟩:=range'_cons hd;have ih:=fun sl' fp s=>sadops_ok hT (i0:=i0) (j0:=j0) (y:=y) (b:=b) hK rest (n+1) sl' fp s hd';unfold sadops at h
  split at h
  ·rename_i hg
   have hw:Wanted ops s.t o.guard true:=by rw[hg];exact .free
   unfold sdone at h
   split at h
   ·rename_i hn
    split at h
    ·rename_i r r' hr hr';obtain⟨⟨h1,h2,h3,h4,h5,h6,h7,h8,h9⟩,h10⟩:=h;exact DSoft.look hT ho hw hn h1 h2 h3 hr hr' h4 h5 h6 h7 h8 h9 (ih _ _ _ h10)
    ·exact h.elim
   ·split at h
    ·rename_i r hr;obtain⟨⟨h1,h2,h3⟩,h4⟩:=h;exact DSoft.op hT ho hw hr h1 h2 (fun hn=>by rw[h3 hn];rfl) (ih _ _ _ h4)
    ·exact h.elim
  ·exact h.elim
theorem Run.soft(hT:TabOk P T)(hM:P.follows .mixedOrders=true){fn:Func}(hf:P.funcs[f]? = some fn)(m i0 j0 y:Nat)(b:ABlk){id:Nat}(hst:statOk ops=true)
  (h:sadops T ops i0 j0 y b (drun P f c0 R T fn.results.toList m k) 0 ops.toList s.h.length [] ⟨s.t,s.h++places ops.toList⟩):Run P f c0 R (.code (.region id ops true)::k) s:=
 DSoft.draw hM hst (sadops_ok hT (fun s h=>⟨drun_ok hT hM hf m k s h⟩) ops.toList 0 _ [] _ rfl h)
end
end Go.Proofs.YtojhjaohaafeaaaGreatDoor
