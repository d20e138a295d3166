/-
  Several texts in one: Open, OpenS, Rd, Lw.
-/
import Derived.Test.YtojhjaohaafeaaaGreatDoorQd
import Derived.SizedLaws
import Derived.Test.YtojhjaohaafeaaaGreatDoorQg
import Derived.Deep.DeepHandedRow
import Derived.Test.YtojhjaohaafeaaaGreatDoorCards
import Derived.Test.YtojhjaohaafeaaaGreatDoorTie
import Derived.WalkKit
import Derived.ProofKit
import Derived.Lib.LaidTab
set_option maxRecDepth 20000
set_option maxHeartbeats 8000000
open Go.Proofs.Tryz
namespace Go.Proofs.YtojhjaohaafeaaaGreatDoor
open Go.ChangeShapes Go.WideShapes Go.ChangeAt Go.RowKit Go.Deep
/-! ### out of an argument's reading -/
def InReach{H:Type}(P:Program)(t:TypeId)(d:DataW H):Prop:=∀ n∈d.weights P t,n<=reachBytes
theorem inReach_all{H:Type}{P:Program}{e:TypeId}{d:DataW H}:∀ {ds:List (DataW H)},d∈ds->(∀ n∈DataW.weightsAll P e ds,n<=reachBytes)->InReach P e d
 |d0::ds,h,hr=>by
  rcases List.mem_cons.1 h with rfl|h
  ·exact fun n hn=>hr n (by simp only[DataW.weightsAll,List.mem_append];exact Or.inl hn)
  ·exact inReach_all h fun n hn=>hr n (by simp only[DataW.weightsAll,List.mem_append];exact Or.inr hn)
theorem inReach_slice{H:Type}{P:Program}{t e:TypeId}{els sp:List (DataW H)}(ht:P.underlying t=some (.slice e))(h:InReach P t (.slice els sp)) :
  (els.length+sp.length)*P.bytesOf e<=reachBytes/\∀ d∈els,InReach P e d:=by
 unfold InReach at h;simp only[DataW.weights,ht,List.mem_cons,List.mem_append] at h;exact⟨h _ (Or.inl rfl),fun d hd=>inReach_all hd fun n hn=>h n (Or.inr (Or.inl hn))⟩
section
variable {P:Program}
theorem i64_lim{n:Int}(h:(Lit.int .i64 n).wf=true):-9223372036854775808<=n/\n<=9223372036854775807:=by
 simp[Lit.wf,IntKind.min,IntKind.max,IntKind.signed,IntKind.bits] at h;omega
end
end Go.Proofs.YtojhjaohaafeaaaGreatDoor
namespace Go.Proofs.YtojhjaohaafeaaaGreatDoor
open Go.ChangeShapes Go.WideShapes Go.ChangeAt Go.RowKit Go.Deep
theorem inReach_each{H:Type}{P:Program}:∀ {ts:List TypeId} {ds:List (DataW H)} {i:Nat} {t:TypeId} {d:DataW H},ts[i]? = some t->ds[i]? = some d->(∀ n∈DataW.weightsEach P ts ds,n<=reachBytes)->InReach P t d
 |t0::ts,d0::ds,0,t,d,ht,hd,h=>by
  simp at ht hd;subst ht hd;exact fun n hn=>h n (by simp only[DataW.weightsEach,List.mem_append];exact Or.inl hn)
 |t0::ts,d0::ds,i+1,t,d,ht,hd,h=>inReach_each (ts:=ts) (ds:=ds) (i:=i) (by simpa using ht) (by simpa using hd) fun n hn=>h n (by simp only[DataW.weightsEach,List.mem_append];exact Or.inr hn)
 |[],_,_,_,_,ht,_,_=>by simp at ht
 |_::_,[],_,_,_,_,hd,_=>by simp at hd
section
variable {P:Program} {H:Type} {enc:TypeId×Value->H} {w:World} {base:Nat} {sp:Nat->Bool} {hd:Bool} {t:TypeId}
end
end Go.Proofs.YtojhjaohaafeaaaGreatDoor
namespace Go.Proofs.YtojhjaohaafeaaaGreatDoor
open Go.ChangeShapes Go.WideShapes Go.ChangeAt Go.RowKit Go.Deep
structure RdAt(w:World)(cs:List Value)(cl:List AV):Prop where
 len:cl.length=cs.length
 pl:∀ (i:Nat) a,cl[i]? = some a->a.plain=true
 rv:∀ (i:Nat) v a,cs[i]? = some v->cl[i]? = some a->RV (Cx.top w) v a
def Reads(P:Program)(e:TypeId)(E:List AV->Prop):Prop:=
 ∀ {H:Type} (enc:TypeId×Value->H) (w:World) (base:Nat) (sp:Nat->Bool) (hd:Bool) (n:Nat) (cs:List Value) (x:DataW H×List MemPlace),DataW.trod enc P w base sp hd n e cs=some x->InReach P e x.1->∃ cl,RdAt w cs cl/\E cl
theorem Reads.mono{P:Program}{e:TypeId}{E E':List AV->Prop}(h:Reads P e E)(hE:∀ cl,E cl->E' cl):Reads P e E':=fun enc w base sp hd n cs x h1 h2=>by
 obtain⟨cl,g1,g2⟩:=h enc w base sp hd n cs x h1 h2;exact⟨cl,g1,hE cl g2⟩
theorem RdAt.nil{w:World}:RdAt w [] []:=⟨rfl,fun i a h=>by simp at h,fun i v a h=>by simp at h⟩
theorem RdAt.one{w:World}{v:Value}{a:AV}(hp:a.plain=true)(h:RV (Cx.top w) v a):RdAt w [v] [a]:=by
 refine⟨rfl,fun i b hb=>?_,fun i u b hu hb=>?_⟩
 ·cases i with
  |zero=>simp at hb;subst hb;exact hp
  |succ i=>simp at hb
 ·cases i with
  |zero=>simp at hu hb;subst hu hb;exact h
  |succ i=>simp at hu
theorem RdAt.app{w:World}{c1 c2:List Value}{a1 a2:List AV}(h1:RdAt w c1 a1)(h2:RdAt w c2 a2):RdAt w (c1++c2) (a1++a2):=by
 refine⟨by simp[h1.len,h2.len],fun i a ha=>?_,fun i v a hv ha=>?_⟩
 ·rw[List.getElem?_append] at ha
  split at ha
  ·exact h1.pl i a ha
  ·exact h2.pl _ a ha
 ·rw[List.getElem?_append] at ha hv;rw[h1.len] at ha
  split at ha
  ·rename_i hl;rw[if_pos hl] at hv;exact h1.rv i v a hv ha
  ·rename_i hl;rw[if_neg hl] at hv;exact h2.rv _ v a hv ha
section
variable {P:Program}
theorem reads_int{e:TypeId}{k:IntKind}(he:P.underlying e=some (.int k)):Reads P e fun cl=>∃ n,cl=[.int k n]/\(Lit.int k n).wf=true:=fun _ _ _ _ _ _ _ _ h hr=>by
 obtain⟨n,rfl,_,hw⟩:=DataW.trod_int he h;exact⟨_,RdAt.one rfl (.int k n),n,rfl,hw⟩
theorem reads_bool{e:TypeId}(he:P.underlying e=some .bool):Reads P e fun cl=>∃ b,cl=[.bool b]:=fun _ _ _ _ _ _ _ _ h hr=>by
 obtain⟨b,rfl,_⟩:=DataW.trod_bool he h;exact⟨_,RdAt.one rfl (.bool b),b,rfl⟩
theorem reads_str{e:TypeId}(he:P.underlying e=some .string):Reads P e fun cl=>∃ s:Bytes,cl=[.str s]/\s.length<=reachBytes:=fun _ _ _ _ _ _ _ _ h hr=>by
 obtain⟨s,rfl,rfl,hs⟩:=DataW.trod_string he h;exact⟨_,RdAt.one rfl (.str s _ rfl),s.data.toList,rfl,hr _ (by simp[DataW.weights])⟩
theorem wf64{n:Int}(h:(Lit.int .i64 n).wf=true):I64 n:=by
 have:=i64_lim h;unfold I64;omega
theorem reads_slice{E:List AV->Prop}{t e:TypeId}{k bytes:Nat}(ht:P.underlying t=some (.slice e))(hk:P.cellsOf e=k)(hby:P.bytesOf e=bytes)(hk0:0<k)(hR:Reads P e E) :
  Reads P t fun cl=>∃ l,cl=[.sl k l .no]/\(∀ x∈l,E x)/\l.length*bytes<=reachBytes:=fun enc w base sp hd n cs x h hr=>by
 subst hk
 rcases open_slice ht h with⟨rfl,_⟩|⟨ad,len,cap,m,n',D,Pl,rfl,_,hlc,hcm,hm,rfl,hi⟩
 ·refine⟨_,RdAt.one rfl (.sl (P.cellsOf e) [] .no none 0 0 0 0 (fun _ _=>undef) rfl (Nat.le_refl _) (Nat.zero_le _) (fun h=>absurd rfl h) (fun j e h=>by simp at h) (fun j e i a h=>by simp at h) (fun j e i a h=>by simp at h) trivial),[],rfl,by simp,by simp⟩
 ·have hlm:len<=m:=by rw[hm];split<;>omega
  obtain⟨hw,hel⟩:=inReach_slice ht hr;rw[hby] at hw;simp only[Yo,List.length_range] at hw
  have hex:∀ i,i<len->∃ a,∃ cs',w.cells? base (ad.add (i*P.cellsOf e)) (P.cellsOf e)=some cs'/\RdAt w cs' a/\E a:=fun i hl=>by
   obtain⟨cs',hc,ht'⟩:=hi i (by omega);obtain⟨a,ha,hE⟩:=hR enc w base sp hd n' cs' _ ht' (hel _ (List.mem_map.2 ⟨i,List.mem_range.2 hl,rfl⟩));exact⟨a,cs',hc,ha,hE⟩
  have hlist:∀ m',m'<=len->∃ l:List (List AV),l.length=m'/\∀ i a,l[i]? = some a->∃ cs',w.cells? base (ad.add (i*P.cellsOf e)) (P.cellsOf e)=some cs'/\RdAt w cs' a/\E a:=by
   intro m'
   induction m' with
   |zero=>exact fun _=>⟨[],rfl,fun i a h=>by simp at h⟩
   |succ q ih=>
    intro hq;obtain⟨l,hl,hg⟩:=ih (by omega);obtain⟨a,ha⟩:=hex q (by omega);refine⟨l++[a],by simp[hl],fun i b hb=>?_⟩;rw[List.getElem?_append] at hb
    split at hb
    ·exact hg i b hb
    ·rename_i hge
     have:i=q:=by
      have:=(Va hb).1;simp at this;omega
     subst this;simp[hl] at hb;subst hb;exact ha
  obtain⟨l,hl,hg⟩:=hlist len (Nat.le_refl _)
  have hmem:∀ x∈l,E x:=fun x hx=>by
   obtain⟨i,hi⟩:=List.mem_iff_getElem?.1 hx;obtain⟨_,_,_,h⟩:=hg i x hi;exact h
  obtain⟨b,o,sp'⟩:=ad
  have hsp0:l≠[]->sp'=none:=fun hne=>by
   obtain⟨a0,ha0⟩:∃ a,l[0]? = some a:=⟨l[0]'(List.length_pos_iff.2 hne),Vb _⟩
   obtain⟨cs0,hc0,_,_⟩:=hg 0 a0 ha0;obtain⟨_,hl0,hat0⟩:=World.cells?_some hc0;have h00:=hat0 0 hk0;have hsome:cs0[0]? = some (cs0[0]'(by omega)):=Vb _;rw[hsome] at h00;simp only[Nat.zero_mul,Addr.add,Ys] at h00;unfold World.cell? at h00
   split at h00
   ·cases sp' with
    |none=>rfl
    |some q=>simp at h00
   ·cases h00
  have hadd:∀ o i,(Addr.mk b o none).add i=⟨b,o+i,none⟩:=fun o i=>by
   unfold Addr.add;split
   ·rename_i h;subst h;rfl
   ·rfl
  have hcell:∀ (j:Nat) a,l[j]? = some a->∀ (i:Nat) x,a[i]? = some x->∃ v,sp'=none/\b<w.heap.size/\w.cell? ⟨b,o+j*P.cellsOf e+i,none⟩=some v/\RV (Cx.top w) v x/\x.plain=true/\a.length=P.cellsOf e:=fun j a hj i x hx=>by
   obtain⟨cs',hc',hr',_⟩:=hg j a hj;obtain⟨_,hl',hat'⟩:=World.cells?_some hc'
   have hal:a.length=P.cellsOf e:=by rw[hr'.len,hl']
   have hi':i<P.cellsOf e:=by rw[<- hal];exact(Va hx).1
   have hv:cs'[i]? = some (cs'[i]'(by omega)):=Vb _;have hat:=hat' i hi';rw[hv] at hat;have hsp:sp'=none:=hsp0 (fun h=>by rw[h] at hj;simp at hj);subst hsp;have hblt:=World.block_lt_of_cell? w _ hat;refine⟨_,rfl,?_,?_,hr'.rv i _ x hv hx,hr'.pl i x hx,hal⟩
   ·rw[hadd,hadd] at hblt;exact hblt
   ·rw[hadd,hadd] at hat;exact hat
  refine⟨_,RdAt.one rfl (RV.sl (P.cellsOf e) l .no (some ⟨b,o,sp'⟩) len cap b o (fun j i=>(w.cell? ⟨b,o+j*P.cellsOf e+i,none⟩).getD undef) hl hlc hcm ?_ ?_ ?_ ?_ trivial),l,rfl,hmem,by rw[hl];exact Nat.le_trans (Nat.mul_le_mul_right _ (Nat.le_add_right _ _)) hw⟩
  ·intro hne
   obtain⟨a0,ha0⟩:∃ a,l[0]? = some a:=⟨l[0]'(List.length_pos_iff.2 hne),Vb _⟩
   obtain⟨cs0,hc0,hr0,_⟩:=hg 0 a0 ha0;obtain⟨_,hl0,_⟩:=World.cells?_some hc0
   obtain⟨x0,hx0⟩:∃ x,a0[0]? = some x:=⟨a0[0]'(by rw[hr0.len,hl0];exact hk0),Vb _⟩
   obtain⟨_,rfl,_⟩:=hcell 0 a0 ha0 0 x0 hx0;rfl
  ·intro j a hj;obtain⟨cs',hc',hr',_⟩:=hg j a hj;obtain⟨_,hl',_⟩:=World.cells?_some hc';rw[hr'.len,hl']
  ·intro j a i x hj hx;obtain⟨v,_,h1,h2,h3,h4,_⟩:=hcell j a hj i x hx;exact⟨h4,Cx.top_im h1,by show w.cell? _=_;rw[h2];rfl⟩
  ·intro j a i x hj hx;obtain⟨v,_,h1,h2,h3,h4,_⟩:=hcell j a hj i x hx;rw[h2];exact h3
def Fits(P:Program):List Field->Nat->List (Nat×(List AV->Prop))->Prop
 |[],_,[]=>True
 |f::fs,o,(k,E)::Es=>f.offset=o/\P.cellsOf f.type=k/\Reads P f.type E/\Fits P fs (o+k) Es
 |_,_,_=>False
def PartsE:List (Nat×(List AV->Prop))->List AV->Prop
 |[],cl=>cl=[]
 |(_,E)::Es,cl=>∃ a b,cl=a++b/\E a/\PartsE Es b
def cellsSum:List (Nat×(List AV->Prop))->Nat
 |[]=>0
 |(k,_)::Es=>k+cellsSum Es
theorem reads_fields{H:Type}{enc:TypeId×Value->H}{w:World}{base:Nat}{sp:Nat->Bool}{hd:Bool}{n:Nat}{cs:List Value}:∀ (fs:List Field) (o:Nat) (Es:List (Nat×(List AV->Prop))),Fits P fs o Es ->
  (∀ f∈fs,∃ x:DataW H×List MemPlace,DataW.trod enc P w base sp hd n f.type ((cs.drop f.offset).take (P.cellsOf f.type))=some x/\InReach P f.type x.1) ->
  ∃ cl,RdAt w ((cs.drop o).take (cellsSum Es)) cl/\PartsE Es cl
 |[],o,[],_,_=>⟨[],by simpa [cellsSum] using RdAt.nil,rfl⟩
 |f::fs,o,(k,E)::Es,⟨h1,h2,h3,h4⟩,h=>by
  obtain⟨x,g1,g2⟩:=h f List.mem_cons_self;obtain⟨a,r1,e1⟩:=h3 enc w base sp hd n _ x g1 g2;obtain⟨b,r2,e2⟩:=reads_fields fs (o+k) Es h4 fun f' hf'=>h f' (List.mem_cons_of_mem _ hf');refine⟨a++b,?_,a,b,rfl,e1,e2⟩;rw[h1,h2] at r1
  have e:(cs.drop o).take (cellsSum ((k,E)::Es))=(cs.drop o).take k++(cs.drop (o+k)).take (cellsSum Es):=by
   rw[cellsSum,List.take_add,List.drop_drop]
  rw[e];exact r1.app r2
 |[],_,_::_,h,_=>h.elim
 |_::_,_,[],h,_=>h.elim
theorem reads_struct{t:TypeId}{fs:Array Field}{Es:List (Nat×(List AV->Prop))}(ht:P.underlying t=some (.struct fs))(hF:Fits P fs.toList 0 Es)(hc:P.cellsOf t=cellsSum Es):Reads P t (PartsE Es):=fun enc w base sp hd n cs x h hr=>by
 obtain⟨xs,m,_,rfl,hlen,hxl,hg⟩:=DataW.trod_struct ht h
 obtain⟨cl,h1,h2⟩:=reads_fields (enc:=enc) (w:=w) (base:=base) (sp:=sp) (hd:=hd) (n:=m) (cs:=cs) fs.toList 0 Es hF fun f hf=>by
  obtain⟨i,hi⟩:=List.mem_iff_getElem?.1 hf;rw[Array.getElem?_toList] at hi
  have hil:i<xs.length:=by rw[hxl];exact(Array.getElem?_eq_some_iff.1 hi).1
  have h1:=hg i f hi;rw[Vb hil] at h1;refine⟨xs[i],h1,?_⟩;unfold InReach at hr;simp only[DataW.weights,ht] at hr;exact inReach_each (ts:=fs.toList.map (·.type)) (ds:=xs.map (·.1)) (i:=i) (by rw[Vg,Array.getElem?_toList,hi];rfl) (by rw[Vg,Vb hil];rfl) hr
 refine⟨cl,?_,h2⟩;rw[List.drop_zero,<- hc,<- hlen,List.take_length] at h1;exact h1
theorem rd_struct{t:TypeId}{fs:Array Field}{H:Type}{enc:TypeId×Value->H}{w:World}{base base':Nat}{sp:Nat->Bool}{hd:Bool}{v:Value}{d:DataW H}{p:List MemPlace}{r:Reach}{E:List AV->Prop}
  (ht:P.underlying t=some (.struct fs)) (hR:Reads P t E) (hval:Value.okWide P w r base' t v) (h:DataW.Trod enc P w base sp hd t v d p) (hr:InReach P t d):∃ cl,RV (Cx.top w) v (.agg cl)/\E cl:=by
 obtain⟨f,hf⟩:=h;obtain⟨cs,rfl,hsz⟩:=okWide_struct ht hval;obtain⟨cl,h1,h2⟩:=hR enc w _ _ _ _ _ _ hf hr;refine⟨cl,.agg _ _ ?_ (fun i a ha=>AV.plain_cell (h1.pl i a ha)) (fun i u a hu ha=>h1.rv i u a ?_ ha),h2⟩
 ·have:=h1.len
  simpa [Value.cells] using this.symm
 ·simpa [Value.cells] using hu
end
theorem list_of{α:Type}{f:α->List AV}{Q:α->Prop}{l:List (List AV)}(h:∀ x∈l,∃ c,x=f c/\Q c):∃ b:List α,l=b.map f/\∀ c∈b,Q c:=by
 induction l with
 |nil=>exact⟨[],rfl,by simp⟩
 |cons x l ih=>
  obtain⟨c,rfl,hc⟩:=h x List.mem_cons_self;obtain⟨b,rfl,hb⟩:=ih fun y hy=>h y (List.mem_cons_of_mem _ hy);exact⟨c::b,rfl,by simp;exact⟨hc,hb⟩⟩
end Go.Proofs.YtojhjaohaafeaaaGreatDoor
namespace Go.Proofs.YtojhjaohaafeaaaGreatDoor
open Go.ChangeShapes Go.WideShapes Go.ChangeAt Go.RowKit Go.Deep
theorem law_lifted_laid{C:Checked}{os:Os}{k:FuncId}{f:Func}{s:ChangeSpec}{H:Type}{enc:TypeId×Value->H}{tb:TypeId}{F:Stop.Interp}{laid:List (String×DataW Unit)}
  (own:ownKnob C.prog.godebug=none) (started:os.Started) (noInit:C.prog.inits.idxOf? k=none) (hfn:C.prog.funcs[k]? = some f)
  (witness:∃ (w:World) (tape:Tape) (i:Input),w.os=os/\(w.forCall tape i).Shaped C.prog/\i.vars=[]/\Input.okWide C.prog (w.forCall tape i) .any w.heap.size k i /\
   (OpenSpec.ofChange s).preRow enc C.prog f [] false laid (w.forCall tape i).memory i.args/\Assume.holds {} C.prog (lone (Frame.enter C.prog k i.args .normal) [] (w.forCall tape i)))
  (hl:laidOutB C.prog=true) (hts:(f.params.toList.all fun t=>C.prog.readableRec t&&decide (t<C.prog.types.size))=true)
  (hres:f.resultTypes=#[tb]) (hbool:C.prog.underlying tb=some .bool) (hvars:s.vars=[])
  (hspec:∀ ds:List (DataW H),ds.length=f.params.toList.length->s.fn H ds={ results:=[.lit (.bool true)],args:=ds })
  (walk:∀ (W:World) (base:Nat) (args:Array Value) (ds:List (DataW H)) (p:List MemPlace),
   (∀ (j:Nat) t v,f.params[j]? = some t->args[j]? = some v->Value.okWide C.prog W .any base t v) ->
   (∀ (j:Nat) t d,f.params[j]? = some t->ds[j]? = some d->InReach C.prog t d) ->
   DataW.TrodAll enc C.prog W 0 (fun _=>true) true f.params.toList args.toList ds p->(∀ x∈p,x.block<W.heap.size) ->
   Calls C.prog k args W fun e W'=>e=.returned (.bool true)/\Below W.heap.size W W') :
  ReturnsInHanded {} C os k .any ((OpenSpec.ofChange s).preRow enc C.prog f [] false laid) (((OpenSpec.ofChange s).at F).post enc C.prog f false true false false):=by
 refine returnsInHanded_of_row (C:=C) (s:=OpenSpec.ofChange s) own started noInit hfn witness ?_;intro W base args ds gs before hval hW0 _ _ hsz _ _ _;have hW:DataW.Whole enc C.prog f.params.toList s.vars false W args.toList ds gs before:=hW0;show Calls C.prog k args W fun e W'=>∃ v,e=.returned v/\s.post enc C.prog f false true false false W args v W';have hW':=hW
 have hlt:∀ x∈before,x.block<W.heap.size:=fun x hx=>by simpa using hW.lt x hx
 obtain⟨p,q,hA,hV,rfl,hfz,hnd⟩:=hW;rw[hvars] at hV;obtain⟨rfl,rfl⟩:=trodVars_none hV;rw[List.append_nil] at hlt;have hlen:=trodAll_length _ _ _ _ hA;have hs:=hspec ds hlen
 have hin:∀ (j:Nat) t d,f.params[j]? = some t->ds[j]? = some d->InReach C.prog t d:=fun j t d ht hd n hn=>by
  have hj:j<f.params.toList.length:=by
   have:=(Array.getElem?_eq_some_iff.1 ht).1
   simpa using this
  have:=List.all_eq_true.1 hsz n (DataW.weights_mem_each (j:=j) (t:=t) (d:=d) (by rw[List.getElem?_append_left hj];simpa using ht) (by rw[List.append_nil];exact hd) n hn)
  simpa using this
 refine(walk W base args ds p hval hin hA hlt).mono fun e W' ⟨he,hb⟩=>⟨_,he,ds,[],p++[],[],p,[],hW',?_,?_,?_,hb.frame _,fun h=>by cases h⟩
 ·simp only[Yd,hs,hres];exact trodAll_mk1 (shut_bool hbool true)
 ·simp only[Yd,hs];exact trodAll_below hl hb _ _ _ _ hts hA hlt
 ·rw[hvars];simp only[Yd,hs];exact(rfl:([]:List MemPlace)=[])
theorem lw_own:ownKnob prog.godebug=none:=by kernel_rfl
def putCells(cs:Array Value):Obj->Obj
 |.cells _ t frozen=>.cells cs t frozen
 |o=>o
def tabF:Array Value:=(Go.Pinned.utf8FirstZ.map fun(n:Nat)=>Value.int .u8 n).toArray
def tabR:Array Value:=#[.int .u8 128,.int .u8 191,.int .u8 160,.int .u8 191,.int .u8 128,.int .u8 159,.int .u8 144,.int .u8 191,.int .u8 128,.int .u8 143,.int .u8 0,.int .u8 0,.int .u8 0,.int .u8 0,.int .u8 0,.int .u8 0,.int .u8 0,.int .u8 0,.int .u8 0,.int .u8 0,.int .u8 0,.int .u8 0,.int .u8 0,.int .u8 0,.int .u8 0,.int .u8 0,.int .u8 0,.int .u8 0,.int .u8 0,.int .u8 0,.int .u8 0,.int .u8 0]
noncomputable def laidWorld(os:Os):World:=
 { World.holding prog os ⟨#[],#[],[]⟩ with heap:=((World.holding prog os ⟨#[],#[],[]⟩).heap.modify 1 (putCells tabF)).modify 2 (putCells tabR) }
end Go.Proofs.YtojhjaohaafeaaaGreatDoor
