/-
  Several texts in one: Base, Av, Ar, Ao, At, As, Ap, Aq, Ax, Ay, Az, Aw, An.
-/
import Derived.WalkKit
import Derived.WalkLawsBesides
import Derived.WalkSpells
import Derived.ProofKit
import Derived.Deep.MidRow
import Derived.Laws.StructEq
import Derived.ChangeKeysEq
import Derived.Laws.IdiomStrings
import Derived.IntWalk
import Derived.Great.BuildSlice
namespace Go.Proofs.YtojhjaohaafeaaaGreatDoor
theorem Va{α:Type}{l:List α}{i:Nat}{a:α}(h:l[i]? = some a):∃ h:i<l.length, l[i]=a:=List.getElem?_eq_some_iff.1 h
theorem Vb{α:Type}{l:List α}{i:Nat}(h:i<l.length):l[i]? = some l[i]:=List.getElem?_eq_getElem h
theorem Vc{α:Type}{l:Array α}{i:Nat}(h:i<l.size):l[i]? = some l[i]:=Array.getElem?_eq_getElem h
theorem Vd{α:Type}{l:List α}{i:Nat}{a:α}(h:l[i]? = some a):a∈l:=List.mem_of_getElem? h
theorem Ve{α β:Type}{x:Option α}{f:α→β}{b:β}:x.map f=some b↔∃ a, x=some a∧f a=b:=Option.map_eq_some_iff
theorem Vg{α β:Type}{f:α→β}{l:List α}{i:Nat}:(l.map f)[i]? = l[i]?.map f:=List.getElem?_map
theorem Vi{a b:Bool}:((a&&b)=true)=(a=true∧b=true):=Bool.and_eq_true a b
theorem Vf{p:Prop}(h:¬p→False):p:=Classical.byContradiction h
theorem Y0{α:Type}{l:List α}{i:Nat}{a:α}:l.getD i a=l[i]?.getD a:=rfl
theorem Y1{α:Type}{a:α}{l:List α}:(a::l)[0]? = some a:=rfl
theorem Y2{α:Type}{a:α}{l:List α}{i:Nat}:(a::l)[i+1]? = l[i]?:=rfl
theorem Y3{α:Type}{l:List α}:[]++l=l:=rfl
theorem Y4{α:Type}{a b:α}:(some a).getD b=a:=rfl
theorem Y5{α:Type}{a:α}{l m:List α}:(a::l)++m=a::(l++m):=rfl
theorem Y6{α:Type}{a b:α}{l:List α}:(b::l).set 0 a=a::l:=rfl
theorem Y7{α:Type}{a b:α}{l:List α}{n:Nat}:(b::l).set (n+1) a=b::l.set n a:=rfl
theorem Y8:(false=true)=False:=Bool.false_eq_true
theorem Y9{α:Type}:([]:List α).length=0:=rfl
theorem Ya{α:Type}{a:α}{l:List α}:(a::l).length=l.length+1:=rfl
theorem Yb{α β:Type}{a:α}{f:α→Option β}:(some a).bind f=f a:=rfl
theorem Yc{α β:Type}{a:α}{f:α→β}:(some a).map f=some (f a):=rfl
theorem Yd{α:Type}{l:List α}:l++[]=l:=List.append_nil l
theorem Ye{α β:Type}{f:α→β}:[].map f=[]:=rfl
theorem Yf{α β:Type}{f:α→β}{a:α}{l:List α}:(a::l).map f=f a::l.map f:=rfl
theorem Yg{α:Type}{a:α}{l:List α}{i:Nat}:(a::l).take (i+1)=a::l.take i:=rfl
theorem Yh{α:Type}{a:α}{l:List α}{i:Nat}:(a::l).drop (i+1)=l.drop i:=rfl
theorem Yi{α:Type}{l:List α}:l.drop 0=l:=rfl
theorem Yj{α:Type}{l:List α}:l.take 0=[]:=rfl
theorem Yk{α:Type}{i:Nat}:([]:List α).take i=[]:=List.take_nil
theorem Yl{α:Type}{i:Nat}:([]:List α).drop i=[]:=List.drop_nil
theorem Ym{α:Type}{a:α}{n:Nat}:List.replicate (n+1) a=a::List.replicate n a:=rfl
theorem Yn{α:Type}{a:α}:List.replicate 0 a=[]:=rfl
theorem Yo{α β:Type}{f:α→β}{l:List α}:(l.map f).length=l.length:=List.length_map f
theorem Yp{n:Nat}:0+n=n:=Nat.zero_add n
theorem Yq{n:Nat}:n+0=n:=rfl
theorem Yr{α:Type}{h:Decidable False}(t e:α):@ite α False h t e=e:=if_neg id
theorem Ys{α:Type}{h:Decidable True}(t e:α):@ite α True h t e=t:=if_pos trivial
theorem Yt(p:Prop):(True∧p)=p:=true_and p
theorem Yu(p:Prop):(p∧True)=p:=and_true p
theorem Yv(n:Nat):n≤n:=Nat.le_refl n
theorem Yw{α:Type}{l:List α}{i:Nat}:l.toArray[i]? = l[i]?:=by simp
open Go.ChangeShapes Go.WideShapes Go.ChangeAt Go.RowKit
theorem trodAll_below{H:Type}{enc:TypeId×Value→H}{P:Program}(hl:laidOutB P=true){W W':World}(hb:Below W.heap.size W W') :
  ∀ (ts:List TypeId) (vs:List Value) (ds:List (DataW H)) (ps:List MemPlace),(ts.all fun t=>P.readableRec t&&decide (t<P.types.size))=true →
   DataW.TrodAll enc P W 0 (fun _=>true) true ts vs ds ps→(∀ x∈ps,x.block<W.heap.size) →
   DataW.TrodAll enc P W' 0 (fun b=>decide (b<W.heap.size)) true ts vs ds ps
 |[],[],[],_,_,h,_=>h
 |t::ts,v::vs,d::ds,ps,hts,h,hlt=>by
  obtain⟨p,q,h1,h2,rfl⟩:=h
  simp only[List.all_cons,Vi,decide_eq_true_eq] at hts
  exact⟨p,q,Below.trod hl hts.1.1 hts.1.2 h1 hb (fun x hx=>hlt x (by simp[hx])),
   trodAll_below hl hb ts vs ds q (by simpa using hts.2) h2 (fun x hx=>hlt x (by simp[hx])),rfl⟩
 |[],[],_::_,_,_,h,_=>h.elim
 |[],_::_,_,_,_,h,_=>h.elim
 |_::_,[],_,_,_,h,_=>h.elim
 |_::_,_::_,[],_,_,h,_=>h.elim
theorem trodAll_length{H:Type}{enc:TypeId×Value→H}{P:Program}{w:World}{b:Nat}{sp:Nat→Bool}{hd:Bool} :
  ∀ (ts:List TypeId) (vs:List Value) (ds:List (DataW H)) (ps:List MemPlace),DataW.TrodAll enc P w b sp hd ts vs ds ps→ds.length=ts.length
 |[],[],[],_,_=>rfl
 |_::ts,_::vs,_::ds,_,h=>by
  obtain⟨p,q,_,h2,_⟩:=h
  simp[trodAll_length ts vs ds q h2]
 |[],[],_::_,_,h=>h.elim
 |[],_::_,_,_,h=>h.elim
 |_::_,[],_,_,h=>h.elim
 |_::_,_::_,[],_,h=>h.elim
/-! ### worlds -/
theorem bN(w:World)(o:Obj):Below w.heap.size w (w.alloc o):=(Below.refl _ w).alloc (Nat.le_refl _) o
theorem below_then{w w1 w2:World}(h:Below w.heap.size w w1)(k:Below w1.heap.size w1 w2):Below w.heap.size w w2:=h.trans (k.mono h.size)
theorem hid{p:Prop}(h:p):Hid p:=h
theorem ret_int{k:IntKind}{a b:Int}(h:a=b):Ending.returned (.int k a)=.returned (.int k b):=by rw[h]
theorem ret_bool{a b:Bool}(h:a=b):Ending.returned (.bool a)=.returned (.bool b):=by rw[h]
inductive Tk where
 |no
 |own (i:Nat)
inductive AV where
 |int (k:IntKind) (n:Int)
 |bool (b:Bool)
 |str (s:List UInt8)
 |nilp
 |ptr (i o:Nat)
 |rptr (cs:List AV)
 |sl (k:Nat) (l:List (List AV)) (t:Tk)
 |psl (k:Nat) (l:List (List AV))
 |nils
 |agg (cs:List AV)
 |tup (vs:List AV)
 |fn (f:Fn) (first captured:List AV)
 |nilf
 |iface (t:TypeId) (v:AV)
 |nilI
 |mp (i:Nat)
 |nilm
 |msl (i k o n cap:Nat)
 |msu (i k n:Nat)
 |eptr (i k j o:Nat)
 |cnd (g:Bool) (v:AV)
 |junk
inductive ABlk where
 |free
 |dead
 |box (cs:List AV)
 |tok (k n:Nat)
 |rows (k:Nat) (l:List (List AV))
 |map (l:List (AV×AV))
 |iter (m n:Nat) (seen:List Nat)
def AV.cell:AV→Bool
 |.agg _|.tup _|.cnd _ _|.junk=>false
 |_=>true
def AV.plain:AV→Bool
 |.int _ _|.bool _|.str _|.nilp|.sl _ _ .no|.nils|.nilf|.nilI|.nilm=>true
 |_=>false
def AV.cells:AV→List AV
 |.agg cs=>cs
 |v=>[v]
def ABlk.istok:ABlk→Bool
 |.tok _ _=>true
 |_=>false
def ABlk.isfree:ABlk→Bool
 |.free=>true
 |_=>false
def ABlk.live:ABlk→Bool
 |.free|.dead=>false
 |_=>true
structure Cx where
 ρ:Nat→Option Nat
 h:List ABlk
 w:World
 X:Nat→Nat→Prop
def ABlk.fix(o:Nat):ABlk→Prop
 |.free|.dead=>True
 |.tok k n=>o<n*k
 |_=>False
def Cx.im(c:Cx)(b o:Nat):Prop:=b<c.w.heap.size∧¬c.X b o∧∀ i x,c.h[i]? = some x→c.ρ i=some b→x.fix o
def Cx.mutb(c:Cx)(b:Nat):Prop:=∃ i x,c.h[i]? = some x∧x.live=true∧c.ρ i=some b
def Cx.known(c:Cx)(i:Nat):Prop:=∃ x,c.h[i]? = some x∧x.isfree=false
def TkOk(c:Cx)(A:Option Addr)(n cap k:Nat):Tk→Prop
 |.no=>True
 |.own i=>c.known i∧∀ k' n',c.h[i]? = some (.tok k' n')→k'=k∧n≤n'∧(n'=n→cap=n∨∃ b vs e,c.ρ i=some b∧A=some ⟨b,0,none⟩∧c.w.heap[b]? = some (.cells vs e (0,0))∧vs.size=cap*k∧0<n)
inductive RV(c:Cx):Value→AV→Prop where
 |int (k:IntKind) (n:Int):RV c (.int k n) (.int k n)
 |bool (b:Bool):RV c (.bool b) (.bool b)
 |str (s:ByteArray) (l:List UInt8) (h:s.data.toList=l):RV c (.string s) (.str l)
 |nilp:RV c (.pointer none) .nilp
 |ptr (i o b:Nat) (hk:c.known i) (hb:c.ρ i=some b) (ht:∀ x,c.h[i]? = some x→x.istok=false):RV c (.pointer (some ⟨b,o,none⟩)) (.ptr i o)
 |rptr (cs:List AV) (b o:Nat) (vs:Nat→Value) (hc:∀ (i:Nat) a,cs[i]? = some a→a.cell=true∧c.im b (o+i)∧c.w.cell? ⟨b,o+i,none⟩=some (vs i))
   (hr:∀ (i:Nat) a,cs[i]? = some a→RV c (vs i) a):RV c (.pointer (some ⟨b,o,none⟩)) (.rptr cs)
 |sl (k:Nat) (l:List (List AV)) (t:Tk) (A:Option Addr) (n cap b o:Nat) (vs:Nat→Nat→Value) (hn:l.length=n) (hcap:n≤cap) (hm:cap≤maxLen) (hA:l≠[]→A=some ⟨b,o,none⟩)
   (hk:∀ (j:Nat) e,l[j]? = some e→e.length=k)
   (hc:∀ (j:Nat) e (i:Nat) a,l[j]? = some e→e[i]? = some a→a.plain=true∧c.im b (o+j*k+i)∧c.w.cell? ⟨b,o+j*k+i,none⟩=some (vs j i))
   (hr:∀ (j:Nat) e (i:Nat) a,l[j]? = some e→e[i]? = some a→RV c (vs j i) a)
   (ht:TkOk c A n cap k t):RV c (.slice A n cap) (.sl k l t)
 |psl (k:Nat) (l:List (List AV)) (A:Option Addr) (n cap b o:Nat) (vs:Nat→Nat→Value) (hn:l.length=n) (hcap:n≤cap) (hm:cap≤maxLen) (hA:l≠[]→A=some ⟨b,o,none⟩)
   (hk:∀ (j:Nat) e,l[j]? = some e→e.length=k)
   (hc:∀ (j:Nat) e (i:Nat) a,l[j]? = some e→e[i]? = some a→a.cell=true∧c.im b (o+j*k+i)∧c.w.cell? ⟨b,o+j*k+i,none⟩=some (vs j i))
   (hr:∀ (j:Nat) e (i:Nat) a,l[j]? = some e→e[i]? = some a→RV c (vs j i) a):RV c (.slice A n cap) (.psl k l)
 |nils:RV c (.slice none 0 0) .nils
 |agg (vs:Array Value) (cs:List AV) (hs:vs.size=cs.length) (hc:∀ (i:Nat) a,cs[i]? = some a→a.cell=true) (hr:∀ (i:Nat) v a,vs[i]? = some v→cs[i]? = some a→RV c v a):RV c (.agg vs) (.agg cs)
 |tup (vs:Array Value) (cs:List AV) (hs:vs.size=cs.length) (hr:∀ (i:Nat) v a,vs[i]? = some v→cs[i]? = some a→RV c v a):RV c (.tuple vs) (.tup cs)
 |fn (f:Fn) (v1 v2:Array Value) (a1 a2:List AV) (h1:v1.size=a1.length) (h2:v2.size=a2.length) (r1:∀ (i:Nat) v a,v1[i]? = some v→a1[i]? = some a→RV c v a) (r2:∀ (i:Nat) v a,v2[i]? = some v→a2[i]? = some a→RV c v a):RV c (.func f v1 v2) (.fn f a1 a2)
 |nilf:RV c .nilFunc .nilf
 |iface (t:TypeId) (v:Value) (a:AV) (h:RV c v a):RV c (.iface t v) (.iface t a)
 |nilI:RV c .nilIface .nilI
 |mp (i b:Nat) (hk:c.known i) (hb:c.ρ i=some b) (ht:∀ x,c.h[i]? = some x→x.istok=false):RV c (.map (some b)) (.mp i)
 |nilm:RV c (.map none) .nilm
 |msl (i k o n cap b o':Nat) (hk:c.known i) (hb:c.ρ i=some b) (ht:∀ x,c.h[i]? = some x→x.istok=false) (hcap:n≤cap) (hm:cap≤maxLen) (ho:0<cap→o'=o*k):RV c (.slice (some ⟨b,o',none⟩) n cap) (.msl i k o n cap)
 |msu (i k n cap b:Nat) (hk:c.known i) (hb:c.ρ i=some b) (ht:∀ x,c.h[i]? = some x→x.istok=false) (hcap:n≤cap) (hm:cap≤maxLen) (hs:∃ vs e f,c.w.heap[b]? = some (.cells vs e f)∧cap*k≤vs.size):RV c (.slice (some ⟨b,0,none⟩) n cap) (.msu i k n)
 |eptr (i k j o b:Nat) (hk:c.known i) (hb:c.ρ i=some b) (ht:∀ x,c.h[i]? = some x→x.istok=false):RV c (.pointer (some ⟨b,j*k+o,none⟩)) (.eptr i k j o)
 |cnd (g:Bool) (v:Value) (a:AV) (h:g=true→RV c v a):RV c v (.cnd g a)
 |junk (v:Value):RV c v .junk
def BlkOk(c:Cx)(i:Nat):ABlk→Prop
 |.free=>c.ρ i=none
 |.dead=>True
 |.box cs=>∃ b vs e,c.ρ i=some b∧c.w.heap[b]? = some (.cells vs e (0,0))∧vs.size=cs.length∧∀ (j:Nat) a,cs[j]? = some a→a.cell=true∧∃ v,vs[j]? = some v∧RV c v a
 |.tok _ _=>∀ b,c.ρ i=some b→∃ vs e,c.w.heap[b]? = some (.cells vs e (0,0))
 |.rows k l=>∃ b vs e,c.ρ i=some b∧c.w.heap[b]? = some (.cells vs e (0,0))∧(∀ (j:Nat) x,l[j]? = some x→x.length=k) ∧
   ∀ (j:Nat) x (m:Nat) a,l[j]? = some x→x[m]? = some a→∃ v,vs[j*k+m]? = some v∧RV c v a
 |.map l=>∃ b es,c.ρ i=some b∧c.w.heap[b]? = some (.map es l.length)∧es.size=l.length∧∀ (j:Nat) e p,es[j]? = some e→l[j]? = some p→e.born=j∧RV c e.key p.1∧RV c e.val p.2
 |.iter m n seen=>∃ b mb sa,c.ρ i=some b∧c.w.heap[b]? = some (.mapIter (some mb) n sa n)∧sa.toList=seen∧RV c (.map (some mb)) (.mp m)
structure RelH(c:Cx):Prop where
 inj:∀ (i j:Nat) x y b,c.h[i]? = some x→c.h[j]? = some y→x.live=true→y.live=true→c.ρ i=some b→c.ρ j=some b→i=j
 here:∀ (i:Nat) x b,c.h[i]? = some x→c.ρ i=some b→b<c.w.heap.size
 blk:∀ (i:Nat) x,c.h[i]? = some x→BlkOk c i x
 xs:∀ b o,c.X b o→b<c.w.heap.size∧∀ (i:Nat) x,c.h[i]? = some x→x.live=true→c.ρ i≠some b
structure Ev(c c':Cx):Prop where
 os:c'.w.os=c.w.os
 tape:c'.w.tape=c.w.tape
 output:c'.w.output=c.w.output
 size:c.w.heap.size≤c'.w.heap.size
 x:c'.X=c.X
 im:∀ b o,c.im b o→c'.im b o∧c'.w.cell? ⟨b,o,none⟩=c.w.cell? ⟨b,o,none⟩
 fr:∀ b,b<c.w.heap.size→¬c.mutb b→c'.w.heap[b]? = c.w.heap[b]?∧¬c'.mutb b
 len:c.h.length≤c'.h.length
 id:∀ (i:Nat) x,c.h[i]? = some x→x.isfree=false→∃ y,c'.h[i]? = some y∧y.isfree=false∧(x.istok=false→y.istok=false∧c'.ρ i=c.ρ i) ∧
  ∀ k n',y=.tok k n'→∃ n,x=.tok k n∧(n<n'∨(n=n'∧c'.ρ i=c.ρ i∧∀ b,c.ρ i=some b→c'.w.heap[b]? = c.w.heap[b]?))
 keep:∀ (b:Nat) vs e f,c.w.heap[b]? = some (.cells vs e f)→∃ vs',c'.w.heap[b]? = some (.cells vs' e f)∧vs'.size=vs.size
theorem Ev.refl(c:Cx):Ev c c:=⟨rfl,rfl,rfl,Nat.le_refl _,rfl,fun _ _ h=>⟨h,rfl⟩,fun _ _ h=>⟨rfl,h⟩,Nat.le_refl _,fun _ x h hf=>⟨x,h,hf,fun ht=>⟨ht,rfl⟩,fun _ n e=>⟨n,e,.inr ⟨rfl,rfl,fun _ _=>rfl⟩⟩⟩,fun _ vs _ _ h=>⟨vs,h,rfl⟩⟩
theorem keep_old{w w':World}(h:∀ b,b<w.heap.size→w'.heap[b]? = w.heap[b]?):∀ (b:Nat) vs e f,w.heap[b]? = some (.cells vs e f)→∃ vs',w'.heap[b]? = some (.cells vs' e f)∧vs'.size=vs.size:=
 fun b vs e f hb=>⟨vs,by rw[h b (Array.getElem?_eq_some_iff.1 hb).1];exact hb,rfl⟩
theorem Ev.trans{a b c:Cx}(h:Ev a b)(k:Ev b c):Ev a c:=by
 refine⟨k.os.trans h.os,k.tape.trans h.tape,k.output.trans h.output,Nat.le_trans h.size k.size,k.x.trans h.x,fun b o hi=>?_,fun b hb hm=>?_,Nat.le_trans h.len k.len,fun i x hx hf=>?_,fun b vs e f h0=>?_⟩
 ·obtain⟨h1,h2⟩:=h.im b o hi
  obtain⟨h3,h4⟩:=k.im b o h1
  exact⟨h3,h4.trans h2⟩
 ·obtain⟨h1,h2⟩:=h.fr b hb hm
  obtain⟨h3,h4⟩:=k.fr b (Nat.lt_of_lt_of_le hb h.size) h2
  exact⟨h3.trans h1,h4⟩
 ·obtain⟨y,hy,hyf,h1,h2⟩:=h.id i x hx hf
  obtain⟨z,hz,hzf,h3,h4⟩:=k.id i y hy hyf
  refine⟨z,hz,hzf,fun ht=>?_,fun kk n' e=>?_⟩
  ·obtain⟨g1,g2⟩:=h1 ht
   obtain⟨g3,g4⟩:=h3 g1
   exact⟨g3,g4.trans g2⟩
  ·obtain⟨n1,e1,g1⟩:=h4 kk n' e
   obtain⟨n0,e0,g0⟩:=h2 kk n1 e1
   refine⟨n0,e0,?_⟩
   rcases g0 with g0|⟨rfl,g01,g02⟩<;>rcases g1 with g1|⟨rfl,g11,g12⟩
   ·exact .inl (by omega)
   ·exact .inl g0
   ·exact .inl g1
   ·refine .inr ⟨rfl,g11.trans g01,fun b hb=>?_⟩
    rw[g12 b (g01.trans hb),g02 b hb]
 ·obtain⟨v1,q1,q2⟩:=h.keep b vs e f h0
  obtain⟨v2,q3,q4⟩:=k.keep b v1 e f q1
  exact⟨v2,q3,q4.trans q2⟩
theorem Ev.known{c c':Cx}(h:Ev c c'){i:Nat}(hk:c.known i):c'.known i:=by
 obtain⟨x,hx,hf⟩:=hk
 obtain⟨y,hy,hyf,_⟩:=h.id i x hx hf
 exact⟨y,hy,hyf⟩
theorem TkOk.mono{c c':Cx}(h:Ev c c'){A:Option Addr}{n cap k:Nat}{t:Tk}(ht:TkOk c A n cap k t):TkOk c' A n cap k t:=by
 cases t with
 |no=>trivial
 |own i=>
  obtain⟨hk,ht⟩:=ht
  refine⟨h.known hk,fun k' n' e=>?_⟩
  obtain⟨x,hx,hf⟩:=hk
  obtain⟨y,hy,hyf,_,h2⟩:=h.id i x hx hf
  rw[e] at hy
  obtain rfl:=Option.some.inj hy
  obtain⟨n0,rfl,g⟩:=h2 k' n' rfl
  obtain⟨g1,g2,g3⟩:=ht k' n0 hx
  rcases g with g|⟨rfl,g4,g5⟩
  ·exact⟨g1,by omega,fun e=>by omega⟩
  ·refine⟨g1,g2,fun e=>?_⟩
   rcases g3 e with g3|⟨b,vs,e,q1,q2,q3,q4⟩
   ·exact .inl g3
   ·exact .inr ⟨b,vs,e,g4.trans q1,q2,(g5 b q1).trans q3,q4⟩
theorem RV.mono{c c':Cx}(h:Ev c c'){v:Value}{a:AV}(hr:RV c v a):RV c' v a:=by
 have hid:∀ (i b:Nat),c.known i→c.ρ i=some b→(∀ x,c.h[i]? = some x→x.istok=false)→c'.known i∧c'.ρ i=some b∧∀ x,c'.h[i]? = some x→x.istok=false:=by
  intro i b hk hb ht
  refine⟨h.known hk,?_⟩
  obtain⟨x,hx,hf⟩:=hk
  obtain⟨y,hy,hyf,h1,_⟩:=h.id i x hx hf
  obtain⟨g1,g2⟩:=h1 (ht x hx)
  refine⟨g2.trans hb,fun z hz=>?_⟩
  rw[hy] at hz
  obtain rfl:=Option.some.inj hz
  exact g1
 induction hr with
 |int k n=>exact .int k n
 |bool b=>exact .bool b
 |str s l h=>exact .str s l h
 |nilp=>exact .nilp
 |ptr i o b hk hb ht=>obtain⟨g1,g2,g3⟩:=hid i b hk hb ht;exact .ptr i o b g1 g2 g3
 |rptr cs b o vs hc _ ih=>
  refine .rptr cs b o vs (fun i a ha=>?_) (fun i a ha=>ih i a ha)
  obtain⟨h1,h2,h3⟩:=hc i a ha
  obtain⟨g1,g2⟩:=h.im _ _ h2
  exact⟨h1,g1,g2.trans h3⟩
 |sl k l t A n cap b o vs hn hcap hm hA hk hc _ ht ih=>
  refine .sl k l t A n cap b o vs hn hcap hm hA hk (fun j e i a he ha=>?_) (fun j e i a he ha=>ih j e i a he ha) (ht.mono h)
  obtain⟨h1,h2,h3⟩:=hc j e i a he ha
  obtain⟨g1,g2⟩:=h.im _ _ h2
  exact⟨h1,g1,g2.trans h3⟩
 |psl k l A n cap b o vs hn hcap hm hA hk hc _ ih=>
  refine .psl k l A n cap b o vs hn hcap hm hA hk (fun j e i a he ha=>?_) (fun j e i a he ha=>ih j e i a he ha)
  obtain⟨h1,h2,h3⟩:=hc j e i a he ha
  obtain⟨g1,g2⟩:=h.im _ _ h2
  exact⟨h1,g1,g2.trans h3⟩
 |nils=>exact .nils
 |agg vs cs hs hc _ ih=>exact .agg vs cs hs hc ih
 |tup vs cs hs _ ih=>exact .tup vs cs hs ih
 |fn f v1 v2 a1 a2 h1 h2 _ _ r1 r2=>exact .fn f v1 v2 a1 a2 h1 h2 r1 r2
 |nilf=>exact .nilf
 |iface t v a _ ih=>exact .iface t v a ih
 |nilI=>exact .nilI
 |mp i b hk hb ht=>obtain⟨g1,g2,g3⟩:=hid i b hk hb ht;exact .mp i b g1 g2 g3
 |nilm=>exact .nilm
 |msl i k o n cap b o' hk hb ht h1 h2 h3=>obtain⟨g1,g2,g3⟩:=hid i b hk hb ht;exact .msl i k o n cap b o' g1 g2 g3 h1 h2 h3
 |msu i k n cap b hk hb ht h1 h2 h3=>
  obtain⟨g1,g2,g3⟩:=hid i b hk hb ht
  obtain⟨vs,e,f,q1,q2⟩:=h3
  obtain⟨vs',q3,q4⟩:=h.keep b vs e f q1
  exact .msu i k n cap b g1 g2 g3 h1 h2 ⟨vs',e,f,q3,by rw[q4];exact q2⟩
 |eptr i k j o b hk hb ht=>obtain⟨g1,g2,g3⟩:=hid i b hk hb ht;exact .eptr i k j o b g1 g2 g3
 |cnd g v a _ ih=>exact .cnd g v a ih
 |junk v=>exact .junk v
theorem AV.plain_cell{a:AV}(h:a.plain=true):a.cell=true:=by cases a<;>first|rfl|cases h
theorem BlkOk.mono{c c':Cx}(h:Ev c c'){i:Nat}{x:ABlk}(hρ:c'.ρ i=c.ρ i)(hw:∀ b,x.live=true→c.ρ i=some b→c'.w.heap[b]? = c.w.heap[b]?)(hx:BlkOk c i x):BlkOk c' i x:=by
 cases x with
 |free=>exact hρ.trans hx
 |dead=>trivial
 |box cs=>
  obtain⟨b,vs,e,h1,h2,h3,h4⟩:=hx
  refine⟨b,vs,e,hρ.trans h1,(hw b rfl h1).trans h2,h3,fun j a ha=>?_⟩
  obtain⟨g1,v,g2,g3⟩:=h4 j a ha
  exact⟨g1,v,g2,g3.mono h⟩
 |tok k n=>
  intro b hb
  obtain⟨vs,e,h1⟩:=hx b (hρ.symm.trans hb)
  exact⟨vs,e,(hw b rfl (hρ.symm.trans hb)).trans h1⟩
 |rows k l=>
  obtain⟨b,vs,e,h1,h2,h3,h4⟩:=hx
  refine⟨b,vs,e,hρ.trans h1,(hw b rfl h1).trans h2,h3,fun j x m a hx ha=>?_⟩
  obtain⟨v,g2,g3⟩:=h4 j x m a hx ha
  exact⟨v,g2,g3.mono h⟩
 |map l=>
  obtain⟨b,es,h1,h2,h3,h4⟩:=hx
  refine⟨b,es,hρ.trans h1,(hw b rfl h1).trans h2,h3,fun j e p he hp=>?_⟩
  obtain⟨g0,g1,g2⟩:=h4 j e p he hp
  exact⟨g0,g1.mono h,g2.mono h⟩
 |iter m n seen=>
  obtain⟨b,mb,sa,h1,h2,h3,h4⟩:=hx
  exact⟨b,mb,sa,hρ.trans h1,(hw b rfl h1).trans h2,h3,h4.mono h⟩
def setρ(ρ:Nat→Option Nat)(i:Nat)(b:Option Nat):Nat→Option Nat:=fun j=>if j=i then b else ρ j
theorem setρ_same(ρ:Nat→Option Nat)(i:Nat)(b:Option Nat):setρ ρ i b i=b:=by simp[setρ]
theorem setρ_ne(ρ:Nat→Option Nat){i j:Nat}(b:Option Nat)(h:j≠i):setρ ρ i b j=ρ j:=by simp[setρ,h]
theorem cB{w w':World}{b o:Nat}(h:w'.heap[b]? = w.heap[b]?):w'.cell? ⟨b,o,none⟩=w.cell? ⟨b,o,none⟩:=World.cell?_of_block (a:=⟨b,o,none⟩) h
theorem Cx.grow{c:Cx}(hc:RelH c):RelH ⟨setρ c.ρ c.h.length none,c.h++[.free],c.w,c.X⟩∧Ev c ⟨setρ c.ρ c.h.length none,c.h++[.free],c.w,c.X⟩:=by
 have hρ:∀ (i:Nat) x,c.h[i]? = some x→setρ c.ρ c.h.length none i=c.ρ i:=fun i x hx=>by
  have:i<c.h.length:=(Va hx).1
  exact setρ_ne _ _ (by omega)
 have hcase:∀ (i:Nat) y b,(c.h++[ABlk.free])[i]? = some y→setρ c.ρ c.h.length none i=some b→c.h[i]? = some y∧c.ρ i=some b:=fun i y b hy hb=>by
  by_cases hi:i=c.h.length
  ·subst hi;rw[setρ_same] at hb;cases hb
  ·rw[setρ_ne _ _ hi] at hb
   refine⟨?_,hb⟩
   by_cases hl:i<c.h.length
   ·rwa [List.getElem?_append_left hl] at hy
   ·rw[List.getElem?_eq_none (by simp;omega)] at hy;cases hy
 have hev:Ev c ⟨setρ c.ρ c.h.length none,c.h++[.free],c.w,c.X⟩:=by
  refine⟨rfl,rfl,rfl,Nat.le_refl _,rfl,fun b o h=>⟨⟨h.1,h.2.1,fun i x hx hb=>?_⟩,rfl⟩,fun b hb hm=>⟨rfl,?_⟩,by simp,fun i x hx hf=>?_,fun _ vs _ _ h=>⟨vs,h,rfl⟩⟩
  ·obtain⟨h1,h2⟩:=hcase i x b hx hb
   exact h.2.2 i x h1 h2
  ·rintro⟨i,x,hx,hl,hi⟩
   obtain⟨h1,h2⟩:=hcase i x b hx hi
   exact hm ⟨i,x,h1,hl,h2⟩
  ·have hi:i<c.h.length:=(Va hx).1
   refine⟨x,by rw[List.getElem?_append_left hi];exact hx,hf,fun ht=>⟨ht,hρ i x hx⟩,fun k n e=>⟨n,e,.inr ⟨rfl,hρ i x hx,fun _ _=>rfl⟩⟩⟩
 refine⟨⟨fun i j x y b hx hy lx ly hi hj=>?_,fun i x b hx hb=>?_,fun i x hx=>?_,fun b o h=>⟨(hc.xs b o h).1,fun i x hx hl hb=>by obtain⟨g1,g2⟩:=hcase i x b hx hb;exact(hc.xs b o h).2 i x g1 hl g2⟩⟩,hev⟩
 ·obtain⟨h1,h2⟩:=hcase i x b hx hi
  obtain⟨h3,h4⟩:=hcase j y b hy hj
  exact hc.inj i j x y b h1 h3 lx ly h2 h4
 ·obtain⟨h1,h2⟩:=hcase i x b hx hb
  exact hc.here i x b h1 h2
 ·by_cases hl:i<c.h.length
  ·have hx':c.h[i]? = some x:=by rw[← hx];exact(List.getElem?_append_left hl).symm
   exact(hc.blk i x hx').mono hev (hρ i x hx') fun _ _ _=>rfl
  ·have hi:i=c.h.length:=by
    have:=(Va hx).1
    simp at this;omega
   subst hi
   simp at hx
   subst hx
   exact setρ_same _ _ _
theorem Cx.alloc{c:Cx}(hc:RelH c)(i:Nat)(x0:ABlk)(hi:c.h[i]? = some x0)(x:ABlk)(hx0:x0=.free∨∃ k n n',x0=.tok k n∧x=.tok k n'∧n<n')(hxf:x.isfree=false)(w':World)(o:Obj)(hw:w'.heap=c.w.heap.push o)(h1:w'.os=c.w.os)(h2:w'.tape=c.w.tape)(h3:w'.output=c.w.output)
  (hx:Ev c ⟨setρ c.ρ i (some c.w.heap.size),c.h.set i x,w',c.X⟩→BlkOk ⟨setρ c.ρ i (some c.w.heap.size),c.h.set i x,w',c.X⟩ i x) :
  RelH ⟨setρ c.ρ i (some c.w.heap.size),c.h.set i x,w',c.X⟩∧Ev c ⟨setρ c.ρ i (some c.w.heap.size),c.h.set i x,w',c.X⟩:=by
 have hil:i<c.h.length:=(Va hi).1
 have hold:∀ b,b<c.w.heap.size→w'.heap[b]? = c.w.heap[b]?:=fun b hb=>by rw[hw,Array.getElem?_push_lt hb,Vc hb]
 have hcase:∀ (j:Nat) y b,(c.h.set i x)[j]? = some y→setρ c.ρ i (some c.w.heap.size) j=some b→(j=i∧y=x∧b=c.w.heap.size)∨(j≠i∧c.h[j]? = some y∧c.ρ j=some b∧b<c.w.heap.size):=fun j y b hy hb=>by
  by_cases hj:j=i
  ·subst hj
   rw[List.getElem?_set_self hil] at hy
   rw[setρ_same] at hb
   exact .inl ⟨rfl,(Option.some.inj hy).symm,(Option.some.inj hb).symm⟩
  ·rw[List.getElem?_set_ne (Ne.symm hj)] at hy
   rw[setρ_ne _ _ hj] at hb
   exact .inr ⟨hj,hy,hb,hc.here j y b hy hb⟩
 have hev:Ev c ⟨setρ c.ρ i (some c.w.heap.size),c.h.set i x,w',c.X⟩:=by
  refine⟨h1,h2,h3,by rw[hw];simp,rfl,fun b o h=>⟨⟨by rw[hw];simp;have:=h.1;omega,h.2.1,fun j y hy hb=>?_⟩,cB (hold b h.1)⟩,fun b hb hm=>⟨hold b hb,?_⟩,by simp,fun j y hy hf=>?_,keep_old hold⟩
  ·rcases hcase j y b hy hb with⟨_,_,rfl⟩|⟨_,g1,g2,_⟩
   ·have:=h.1;omega
   ·exact h.2.2 j y g1 g2
  ·rintro⟨j,y,hy,hl,hj⟩
   rcases hcase j y b hy hj with⟨_,_,rfl⟩|⟨_,g1,g2,_⟩
   ·omega
   ·exact hm ⟨j,y,g1,hl,g2⟩
  ·by_cases hj:j=i
   ·subst hj
    rw[hi] at hy
    obtain rfl:=Option.some.inj hy
    rcases hx0 with rfl|⟨k,n,n',rfl,rfl,hn⟩
    ·cases hf
    ·exact⟨_,List.getElem?_set_self hil,rfl,(fun ht=>by cases ht),fun k2 n2 e=>by cases e;exact⟨n,rfl,.inl hn⟩⟩
   ·exact⟨y,by rw[List.getElem?_set_ne (Ne.symm hj)];exact hy,hf,fun ht=>⟨ht,setρ_ne _ _ hj⟩,fun k n e=>⟨n,e,.inr ⟨rfl,setρ_ne _ _ hj,fun b hb=>hold b (hc.here j y b hy hb)⟩⟩⟩
 refine⟨⟨fun j j' y y' b hy hy' ly ly' hb hb'=>?_,fun j y b hy hb=>?_,fun j y hy=>?_,fun b o h=>⟨by rw[hw];simp;have:=(hc.xs b o h).1;omega,fun j y hy hl hb=>by
  rcases hcase j y b hy hb with⟨_,_,rfl⟩|⟨_,g1,g2,_⟩
  ·have:=(hc.xs _ o h).1;omega
  ·exact(hc.xs b o h).2 j y g1 hl g2⟩⟩,hev⟩
 ·rcases hcase j y b hy hb with⟨rfl,rfl,rfl⟩|⟨_,g1,g2,g3⟩<;>rcases hcase j' y' _ hy' hb' with⟨rfl,rfl,q⟩|⟨_,q1,q2,q3⟩
  ·rfl
  ·omega
  ·omega
  ·exact hc.inj j j' y y' b g1 q1 ly ly' g2 q2
 ·rcases hcase j y b hy hb with⟨rfl,rfl,rfl⟩|⟨_,g1,g2,g3⟩
  ·rw[hw];simp
  ·rw[hw];simp;omega
 ·by_cases hj:j=i
  ·subst hj
   rw[List.getElem?_set_self hil] at hy
   obtain rfl:=Option.some.inj hy
   exact hx hev
  ·rw[List.getElem?_set_ne (Ne.symm hj)] at hy
   exact(hc.blk j y hy).mono hev (setρ_ne _ _ hj) fun b _ hb=>hold b (hc.here j y b hy hb)
theorem Cx.write{c:Cx}(hc:RelH c)(i:Nat)(x0 x:ABlk)(b:Nat)(hi:c.h[i]? = some x0)(hb:c.ρ i=some b)(hl:x0.live=true)(hxl:x.live=true)
  (w':World) (hs:w'.heap.size=c.w.heap.size) (h1:w'.os=c.w.os) (h2:w'.tape=c.w.tape) (h3:w'.output=c.w.output)
  (hw:∀ b',b'≠b→w'.heap[b']? = c.w.heap[b']?)
  (hfix:∀ o,x0.fix o→x.fix o∧w'.cell? ⟨b,o,none⟩=c.w.cell? ⟨b,o,none⟩)
  (ht:(x0.istok=false∧x.istok=false)∨∃ k n n',x0=.tok k n∧x=.tok k n'∧(n<n'∨(n=n'∧w'.heap[b]? = c.w.heap[b]?)))
  (hkp:∀ vs e f,c.w.heap[b]? = some (.cells vs e f)→∃ vs',w'.heap[b]? = some (.cells vs' e f)∧vs'.size=vs.size)
  (hx:Ev c ⟨c.ρ,c.h.set i x,w',c.X⟩→BlkOk ⟨c.ρ,c.h.set i x,w',c.X⟩ i x) :
  RelH ⟨c.ρ,c.h.set i x,w',c.X⟩∧Ev c ⟨c.ρ,c.h.set i x,w',c.X⟩:=by
 have hil:i<c.h.length:=(Va hi).1
 have hcase:∀ (j:Nat) y,(c.h.set i x)[j]? = some y→(j=i∧y=x)∨(j≠i∧c.h[j]? = some y):=fun j y hy=>by
  by_cases hj:j=i
  ·subst hj
   rw[List.getElem?_set_self hil] at hy
   exact .inl ⟨rfl,(Option.some.inj hy).symm⟩
  ·rw[List.getElem?_set_ne (Ne.symm hj)] at hy
   exact .inr ⟨hj,hy⟩
 have hne:∀ (j:Nat) y b',j≠i→c.h[j]? = some y→y.live=true→c.ρ j=some b'→b'≠b:=fun j y b' hj hy ly hb' e=>by
  subst e
  exact hj (hc.inj j i y x0 _ hy hi ly hl hb' hb)
 have hev:Ev c ⟨c.ρ,c.h.set i x,w',c.X⟩:=by
  refine⟨h1,h2,h3,by simp[hs],rfl,fun b' o h=>?_,fun b' hb' hm=>?_,by simp,fun j y hy hf=>?_,fun b' vs e f h0=>(if hbb:b'=b then(by subst hbb;exact hkp vs e f h0) else⟨vs,by rw[hw b' hbb];exact h0,rfl⟩)⟩
  ·by_cases hbb:b'=b
   ·subst hbb
    obtain⟨g1,g2⟩:=hfix o (h.2.2 i x0 hi hb)
    refine⟨⟨by rw[hs];exact h.1,h.2.1,fun j y hy hj=>?_⟩,g2⟩
    rcases hcase j y hy with⟨rfl,rfl⟩|⟨_,g⟩
    ·exact g1
    ·exact h.2.2 j y g hj
   ·refine⟨⟨by rw[hs];exact h.1,h.2.1,fun j y hy hj=>?_⟩,cB (hw b' hbb)⟩
    rcases hcase j y hy with⟨rfl,rfl⟩|⟨_,g⟩
    ·rw[hb] at hj;exact absurd (Option.some.inj hj).symm hbb
    ·exact h.2.2 j y g hj
  ·have hbb:b'≠b:=fun e=>hm ⟨i,x0,hi,hl,by rw[hb,e]⟩
   refine⟨hw b' hbb,?_⟩
   rintro⟨j,y,hy,ly,hj⟩
   rcases hcase j y hy with⟨rfl,rfl⟩|⟨_,g⟩
   ·exact hm ⟨_,x0,hi,hl,hj⟩
   ·exact hm ⟨j,y,g,ly,hj⟩
  ·by_cases hj:j=i
   ·subst hj
    rw[hi] at hy
    obtain rfl:=Option.some.inj hy
    refine⟨x,List.getElem?_set_self hil,(by cases x<;>first|rfl|cases hxl),fun ht'=>?_,fun k n e=>?_⟩
    ·rcases ht with⟨_,h⟩|⟨k,n,n',rfl,_⟩
     ·exact⟨h,rfl⟩
     ·cases ht'
    ·rcases ht with⟨_,h⟩|⟨k',n1,n',rfl,rfl,g⟩
     ·rw[e] at h;cases h
     ·cases e
      refine⟨n1,rfl,?_⟩
      rcases g with g|⟨rfl,g⟩
      ·exact .inl g
      ·refine .inr ⟨rfl,rfl,fun b' hb'=>?_⟩
       rw[hb] at hb'
       obtain rfl:=Option.some.inj hb'
       exact g
   ·refine⟨y,by rw[List.getElem?_set_ne (Ne.symm hj)];exact hy,hf,fun ht=>⟨ht,rfl⟩,fun k n e=>⟨n,e,.inr ⟨rfl,rfl,fun b' hb'=>hw b' (hne j y b' hj hy (by rw[e];rfl) hb')⟩⟩⟩
 refine⟨⟨fun j j' y y' b1 hy hy' ly ly' hb1 hb1'=>?_,fun j y b1 hy hb1=>?_,fun j y hy=>?_,fun b o h=>⟨by rw[hs];exact(hc.xs b o h).1,fun j y hy ly hb=>by
  rcases hcase j y hy with⟨rfl,rfl⟩|⟨_,g⟩
  ·exact(hc.xs b o h).2 _ x0 hi hl hb
  ·exact(hc.xs b o h).2 j y g ly hb⟩⟩,hev⟩
 ·rcases hcase j y hy with⟨rfl,rfl⟩|⟨_,g⟩<;>rcases hcase j' y' hy' with⟨rfl,rfl⟩|⟨_,g'⟩
  ·rfl
  ·exact hc.inj _ j' x0 y' b1 hi g' hl ly' hb1 hb1'
  ·exact hc.inj j _ y x0 b1 g hi ly hl hb1 hb1'
  ·exact hc.inj j j' y y' b1 g g' ly ly' hb1 hb1'
 ·rw[hs]
  rcases hcase j y hy with⟨rfl,rfl⟩|⟨_,g⟩
  ·exact hc.here _ x0 b1 hi hb1
  ·exact hc.here j y b1 g hb1
 ·rcases hcase j y hy with⟨rfl,rfl⟩|⟨hj,g⟩
  ·exact hx hev
  ·exact(hc.blk j y g).mono hev rfl fun b' ly hb'=>hw b' (hne j y b' hj g ly hb')
theorem Cx.freeze{c:Cx}(hc:RelH c)(i:Nat)(x0:ABlk)(hi:c.h[i]? = some x0)(_:x0.isfree=false):RelH ⟨c.ρ,c.h.set i .dead,c.w,c.X⟩∧Ev c ⟨c.ρ,c.h.set i .dead,c.w,c.X⟩:=by
 have hil:i<c.h.length:=(Va hi).1
 have hcase:∀ (j:Nat) y,(c.h.set i ABlk.dead)[j]? = some y→(j=i∧y=.dead)∨(j≠i∧c.h[j]? = some y):=fun j y hy=>by
  by_cases hj:j=i
  ·subst hj
   rw[List.getElem?_set_self hil] at hy
   exact .inl ⟨rfl,(Option.some.inj hy).symm⟩
  ·rw[List.getElem?_set_ne (Ne.symm hj)] at hy
   exact .inr ⟨hj,hy⟩
 have hev:Ev c ⟨c.ρ,c.h.set i .dead,c.w,c.X⟩:=by
  refine⟨rfl,rfl,rfl,Nat.le_refl _,rfl,fun b o h=>⟨⟨h.1,h.2.1,fun j y hy hj=>?_⟩,rfl⟩,fun b hb hm=>⟨rfl,?_⟩,by simp,fun j y hy hf'=>?_,fun _ vs _ _ h=>⟨vs,h,rfl⟩⟩
  ·rcases hcase j y hy with⟨rfl,rfl⟩|⟨_,g⟩
   ·trivial
   ·exact h.2.2 j y g hj
  ·rintro⟨j,y,hy,ly,hj⟩
   rcases hcase j y hy with⟨rfl,rfl⟩|⟨_,g⟩
   ·cases ly
   ·exact hm ⟨j,y,g,ly,hj⟩
  ·by_cases hj:j=i
   ·subst hj
    exact⟨.dead,List.getElem?_set_self hil,rfl,fun _=>⟨rfl,rfl⟩,fun k n e=>by cases e⟩
   ·exact⟨y,by rw[List.getElem?_set_ne (Ne.symm hj)];exact hy,hf',fun ht=>⟨ht,rfl⟩,fun k n e=>⟨n,e,.inr ⟨rfl,rfl,fun _ _=>rfl⟩⟩⟩
 refine⟨⟨fun j j' y y' b1 hy hy' ly ly' hb1 hb1'=>?_,fun j y b1 hy hb1=>?_,fun j y hy=>?_,fun b o h=>⟨(hc.xs b o h).1,fun j y hy ly hb=>by
  rcases hcase j y hy with⟨rfl,rfl⟩|⟨_,g⟩
  ·cases ly
  ·exact(hc.xs b o h).2 j y g ly hb⟩⟩,hev⟩
 ·rcases hcase j y hy with⟨rfl,rfl⟩|⟨_,g⟩<;>rcases hcase j' y' hy' with⟨rfl,rfl⟩|⟨_,g'⟩
  ·rfl
  ·cases ly
  ·cases ly'
  ·exact hc.inj j j' y y' b1 g g' ly ly' hb1 hb1'
 ·rcases hcase j y hy with⟨rfl,rfl⟩|⟨_,g⟩
  ·exact hc.here _ x0 b1 hi hb1
  ·exact hc.here j y b1 g hb1
 ·rcases hcase j y hy with⟨rfl,rfl⟩|⟨hj,g⟩
  ·trivial
  ·exact(hc.blk j y g).mono hev rfl fun b' ly hb'=>rfl
inductive TS where
 |bool|int (k:IntKind)|str|ptr|sl|arr (n:Nat)|st|map|fn|iface|other
structure TI where
 sort:TS
 size:Nat
 bytes:Nat
 elem:Nat
 offs:List (Nat×Nat)
 zero:List AV
 eqs:List TS
 mutb:Bool
def TI.agg(t:TI):Bool:=match t.sort with|.arr _|.st=>true|_=>false
abbrev TabT:=Nat→Option TI
abbrev I64(n:Int):Prop:=-9223372036854775808≤n∧n≤9223372036854775807
structure AState where
 t:List AV
 h:List ABlk
def aput(l:List AV)(d:Option Nat)(v:AV):List AV:=match d with|some i=>l.set i v|none=>l
def aupd(h:List ABlk)(d:Option (Nat×ABlk)):List ABlk:=match d with|some (i,x)=>h.set i x|none=>h
def aconst:Value→AV
 |.int k n=>.int k n
 |.bool b=>.bool b
 |.string s=>.str s.data.toList
 |.pointer none=>.nilp
 |.slice none 0 0=>.nils
 |.nilFunc=>.nilf
 |.nilIface=>.nilI
 |.map none=>.nilm
 |_=>.junk
def aev(t:List AV):Operand→AV
 |.tmp i=>t.getD i .junk
 |.const v=>aconst v
 |.func f=>.fn (.func f) [] []
 |.global _=>.junk
def lay(cs:List AV)(o:Nat)(xs:List AV):List AV:=cs.take o++xs++cs.drop (o+xs.length)
structure ARes where
 p:Prop
 v:AV
 d:Option (Nat×ABlk)
 [dec:Decidable p]
structure PD(α:Type) where
 p:Prop
 v:α
 [dec:Decidable p]
attribute [instance] ARes.dec PD.dec
def ok1(v:AV):Option ARes:=some ⟨True,v,none⟩
def cellsAs(a:Bool)(cs:List AV):Option AV:=if a then some (.agg cs) else match cs with|[v]=>some v|_=>none
def aload(h:List ABlk)(ti:TI):AV→Option ARes
 |.ptr i o=>match h[i]? with
  |some (.box cs)=>(cellsAs ti.agg ((cs.drop o).take ti.size)).map fun v=>⟨o+ti.size≤cs.length,v,none⟩
  |_=>none
 |.rptr cs=>(cellsAs ti.agg (cs.take ti.size)).map fun v=>⟨ti.size≤cs.length,v,none⟩
 |.eptr i k j o=>match h[i]? with
  |some (.rows k' l)=>if(((l.getD j []).drop o).take ti.size).all AV.cell then(cellsAs ti.agg (((l.getD j []).drop o).take ti.size)).map fun v=>⟨k'=k∧j<l.length∧o+ti.size≤k,v,none⟩ else none
  |_=>none
 |_=>none
def AV.whole:AV→Bool
 |.tup _|.cnd _ _|.junk=>false
 |_=>true
def astore(h:List ABlk)(ti:TI)(v:AV):AV→Option ARes
 |.ptr i o=>match h[i]?,v.whole with
  |some (.box cs),true=>some ⟨o+ti.size≤cs.length∧v.cells.length=ti.size,.junk,some (i,.box (lay cs o v.cells))⟩
  |_,_=>none
 |.eptr i k j o=>match h[i]?,v.whole with
  |some (.rows k' l),true=>some ⟨k'=k∧j<l.length∧o+ti.size≤k∧v.cells.length=ti.size∧0<ti.size,.junk,some (i,.rows k' (l.set j (lay (l.getD j []) o v.cells)))⟩
  |_,_=>none
 |_=>none
def afieldAddr(ti:TI)(f:Nat)(p:AV):Option ARes:=
 match ti.offs[f]?,p with
 |some (o',_),.ptr i o=>ok1 (.ptr i (o+o'))
 |some (o',_),.rptr cs=>ok1 (.rptr (cs.drop o'))
 |some (o',_),.eptr i k j o=>ok1 (.eptr i k j (o+o'))
 |_,_=>none
def aindexAddr(T:TabT)(ti:TI):AV→AV→Option ARes
 |.sl k l _,.int _ n=>match ti.sort,T ti.elem with
  |.sl,some e=>some ⟨k=e.size∧0<k∧0≤n∧n<l.length,.rptr (l.getD n.toNat []),none⟩
  |_,_=>none
 |.psl k l,.int _ n=>match ti.sort,T ti.elem with
  |.sl,some e=>some ⟨k=e.size∧0<k∧0≤n∧n<l.length,.rptr (l.getD n.toNat []),none⟩
  |_,_=>none
 |.msl i k o m _,.int _ n=>match ti.sort,T ti.elem with
  |.sl,some e=>some ⟨k=e.size∧0<k∧0≤n∧n<m,.eptr i k (o+n.toNat) 0,none⟩
  |_,_=>none
 |.msu i k m,.int _ n=>match ti.sort,T ti.elem with
  |.sl,some e=>some ⟨k=e.size∧0<k∧0≤n∧n<m,.eptr i k n.toNat 0,none⟩
  |_,_=>none
 |.ptr i o,.int _ n=>match ti.sort,T ti.elem with
  |.arr m,some e=>some ⟨0<e.size∧0≤n∧n<m,.ptr i (o+n.toNat*e.size),none⟩
  |_,_=>none
 |.rptr cs,.int _ n=>match ti.sort,T ti.elem with
  |.arr m,some e=>some ⟨0<e.size∧0≤n∧n<m,.rptr (cs.drop (n.toNat*e.size)),none⟩
  |_,_=>none
 |_,_=>none
def apart(ti:TI)(cs:List AV)(o:Nat):Option ARes:=(cellsAs ti.agg ((cs.drop o).take ti.size)).map fun v=>⟨o+ti.size≤cs.length,v,none⟩
def acmp(op:BinOp)(a b:Int):Option Bool:=
 match op with
 |.lss=>some (decide (a<b))|.leq=>some (decide (a≤b))|.gtr=>some (decide (b<a))|.geq=>some (decide (b≤a))|.eql=>some (decide (a=b))|.neq=>some (!decide (a=b))
 |_=>none
def aarith(op:BinOp)(k:IntKind)(a b:Int):Option ARes:=
 match op with
 |.add=>if k=.i64 then some ⟨I64 (a+b),.int k (a+b),none⟩ else ok1 (.int k (k.wrap (a+b)))
 |.sub=>if k=.i64 then some ⟨I64 (a-b),.int k (a-b),none⟩ else ok1 (.int k (k.wrap (a-b)))
 |.mul=>if k=.i64 then some ⟨I64 (a*b),.int k (a*b),none⟩ else ok1 (.int k (k.wrap (a*b)))
 |.quo=>if k=.i64 then some ⟨b≠0∧I64 (a.tdiv b),.int k (a.tdiv b),none⟩ else some ⟨b≠0,.int k (k.wrap (a.tdiv b)),none⟩
 |.rem=>some ⟨b≠0,.int k (a.tmod b),none⟩
 |.and=>ok1 (.int k (bits .and k a b))|.or=>ok1 (.int k (bits .or k a b))|.xor=>ok1 (.int k (bits .xor k a b))|.andNot=>ok1 (.int k (bits .andNot k a b))
 |_=>none
def ashift(op:BinOp)(k:IntKind)(a b:Int):Option ARes:=
 match op with
 |.shl=>some ⟨0≤b,.int k (k.wrap (a*2^min b.toNat k.bits)),none⟩
 |.shr=>some ⟨0≤b,.int k (a.fdiv (2^min b.toNat k.bits)),none⟩
 |_=>none
def aeqs:List TS→List AV→List AV→Option Bool
 |[],[],[]=>some true
 |.int _::ss,.int k a::xs,.int k' b::ys=>if k=k' then(aeqs ss xs ys).map fun r=>decide (a=b)&&r else none
 |.bool::ss,.bool a::xs,.bool b::ys=>(aeqs ss xs ys).map fun r=>(a==b)&&r
 |.str::ss,.str a::xs,.str b::ys=>(aeqs ss xs ys).map fun r=>decide (a=b)&&r
 |_,_,_=>none
def isc:Operand→Bool|.const _=>true|_=>false
def abin(op:BinOp)(ti:TI)(k:Bool):AV→AV→Option ARes
 |.int k a,.int k' b=>match ashift op k a b with
  |some r=>some r
  |none=>if k=k' then match acmp op a b with|some r=>ok1 (.bool r)|none=>aarith op k a b else none
 |.str a,.str b=>match op with
  |.eql=>ok1 (.bool (decide (a=b)))|.neq=>ok1 (.bool (!decide (a=b)))
  |.add=>some ⟨((a.length+b.length:Nat):Int)≤9223372036854775807,.str (a++b),none⟩
  |.lss=>ok1 (.bool (Op.bytesLess a b))
  |_=>none
 |.bool a,.bool b=>match op,ti.sort with|.eql,.bool=>ok1 (.bool (a==b))|.neq,.bool=>ok1 (.bool (!(a==b)))|_,_=>none
 |.agg a,.agg b=>match op,ti.eqs with
  |.eql,s::ss=>(aeqs (s::ss) a b).map fun r=>⟨True,.bool r,none⟩
  |.neq,s::ss=>(aeqs (s::ss) a b).map fun r=>⟨True,.bool (!r),none⟩
  |_,_=>none
 |.iface _ _,.nilI=>match op,ti.sort with|.eql,.iface=>ok1 (.bool false)|.neq,.iface=>ok1 (.bool true)|_,_=>none
 |.msl _ _ _ _ _,.nils=>match op,ti.sort with|.eql,.sl=>ok1 (.bool false)|.neq,.sl=>ok1 (.bool true)|_,_=>none
 |.sl _ l _,.nils=>if l.length=0 then none else match op,ti.sort with|.eql,.sl=>ok1 (.bool false)|.neq,.sl=>ok1 (.bool true)|_,_=>none
 |.psl _ l,.nils=>if l.length=0 then none else match op,ti.sort with|.eql,.sl=>ok1 (.bool false)|.neq,.sl=>ok1 (.bool true)|_,_=>none
 |.msu _ _ _,.nils=>match op,ti.sort with|.eql,.sl=>ok1 (.bool false)|.neq,.sl=>ok1 (.bool true)|_,_=>none
 |.nils,.nils=>match op,ti.sort with|.eql,.sl=>ok1 (.bool true)|.neq,.sl=>ok1 (.bool false)|_,_=>none
 |.nilI,.nilI=>match op,ti.sort,k with|.eql,.iface,true=>ok1 (.bool true)|.neq,.iface,true=>ok1 (.bool false)|_,_,_=>none
 |_,_=>none
def bC(c:UInt8):List AV:=[.int .u8 c.toNat]
def bA(l:List UInt8):AV:=.sl 1 (l.map bC) .no
def cellU:List AV→UInt8
 |[.int .u8 n]=>UInt8.ofNat n.toNat
 |_=>0
def bytesOf(l:List (List AV)):List UInt8:=l.map cellU
theorem bytesOf_map(l:List UInt8):bytesOf (l.map bC)=l:=by
 unfold bytesOf
 rw[List.map_map]
 conv=>rhs;rw[← List.map_id l]
 congr 1
 funext c
 simp[bC,cellU]
def isByteC:List AV→Bool
 |[.int .u8 n]=>decide (0≤n∧n<256)
 |_=>false
theorem isByteC_eq(e:List AV)(h:isByteC e=true):e=bC (cellU e):=by
 unfold isByteC at h
 split at h
 ·rename_i n
  obtain⟨h0,h1⟩:=of_decide_eq_true h
  obtain⟨m,rfl⟩:∃ m:Nat,n=m:=⟨n.toNat,by omega⟩
  have hm:m<256:=by omega
  simp[bC,cellU,UInt8.toNat_ofNat',Nat.mod_eq_of_lt hm]
 ·cases h
theorem isByteC_byteC(c:UInt8):isByteC (bC c)=true:=by
 have:=c.toNat_lt
 simp only[isByteC,bC,decide_eq_true_eq]
 omega
theorem bytes_iff(l:List (List AV)):l.all isByteC=true↔l=(bytesOf l).map bC:=by
 induction l with
 |nil=>simp[bytesOf]
 |cons e l ih=>
  simp only[bytesOf,Yf,List.all_cons,Vi,List.cons.injEq]
  constructor
  ·rintro⟨h1,h2⟩
   exact⟨isByteC_eq e h1,ih.1 h2⟩
  ·rintro⟨h1,h2⟩
   refine⟨?_,ih.2 h2⟩
   rw[h1]
   exact isByteC_byteC _
instance (l:List (List AV)):Decidable (l=(bytesOf l).map bC):=decidable_of_iff _ (bytes_iff l)
def aconv(T:TabT)(s d:TI):AV→Option ARes
 |.int _ n=>match d.sort with|.int k=>ok1 (.int k (k.wrap n))|_=>none
 |.sl _ l _=>match s.sort,(T s.elem).map (fun(q:TI)=>q.sort),d.sort with
  |.sl,some (.int .u8),.str=>some ⟨l=(bytesOf l).map bC,.str (bytesOf l),none⟩
  |_,_,_=>none
 |.nils=>match s.sort,(T s.elem).map (fun(q:TI)=>q.sort),d.sort with
  |.sl,some (.int .u8),.str=>ok1 (.str [])
  |_,_,_=>none
 |.str l=>match s.sort,d.sort with
  |.str,.str=>ok1 (.str l)
  |.str,.sl=>match(T d.elem).map (fun(q:TI)=>q.sort) with
   |some (.int .u8)=>some ⟨(l.length:Int)≤9223372036854775807,.sl 1 (l.map bC) .no,none⟩
   |_=>none
  |_,_=>none
 |_=>none
def alen(ti:TI):AV→Option ARes
 |.sl _ l _=>match ti.sort with|.sl=>ok1 (.int .i64 l.length)|_=>none
 |.psl _ l=>match ti.sort with|.sl=>ok1 (.int .i64 l.length)|_=>none
 |.msl _ _ _ n _=>match ti.sort with|.sl=>ok1 (.int .i64 n)|_=>none
 |.msu _ _ n=>match ti.sort with|.sl=>ok1 (.int .i64 n)|_=>none
 |.nils=>match ti.sort with|.sl=>ok1 (.int .i64 0)|_=>none
 |.str l=>match ti.sort with|.str=>ok1 (.int .i64 l.length)|_=>none
 |_=>none
def aslice(T:TabT)(ti:TI)(lo hi:Option AV)(mx:Option AV):AV→Option ARes
 |.sl k l _=>match ti.sort,T ti.elem with
  |.sl,some e=>match lo,hi,mx with
   |none,none,none=>some ⟨k=e.size,.sl k l .no,none⟩
   |some (.int _ a),none,none=>some ⟨k=e.size∧0≤a∧a≤l.length,.sl k (l.drop a.toNat) .no,none⟩
   |none,some (.int _ b),none=>some ⟨k=e.size∧0≤b∧b≤l.length,.sl k (l.take b.toNat) .no,none⟩
   |some (.int _ a),some (.int _ b),none=>some ⟨k=e.size∧0≤a∧a≤b∧b≤l.length,.sl k ((l.take b.toNat).drop a.toNat) .no,none⟩
   |_,_,_=>none
  |_,_=>none
 |.msl i k o n cap=>match ti.sort,T ti.elem with
  |.sl,some e=>match lo,hi,mx with
   |none,none,none=>some ⟨k=e.size,.msl i k o n cap,none⟩
   |some (.int _ a),none,none=>some ⟨k=e.size∧0≤a∧a≤n,.msl i k (o+a.toNat) (n-a.toNat) (cap-a.toNat),none⟩
   |none,some (.int _ b),none=>some ⟨k=e.size∧0≤b∧b≤cap,.msl i k o b.toNat cap,none⟩
   |some (.int _ a),some (.int _ b),none=>some ⟨k=e.size∧0≤a∧a≤b∧b≤cap,.msl i k (o+a.toNat) (b.toNat-a.toNat) (cap-a.toNat),none⟩
   |_,_,_=>none
  |_,_=>none
 |.nils=>match ti.sort,T ti.elem with
  |.sl,some _=>match lo,hi,mx with
   |none,none,none=>ok1 .nils
   |some (.int _ a),none,none=>some ⟨a=0,.nils,none⟩
   |none,some (.int _ b),none=>some ⟨b=0,.nils,none⟩
   |some (.int _ a),some (.int _ b),none=>some ⟨a=0∧b=0,.nils,none⟩
   |_,_,_=>none
  |_,_=>none
 |.str l=>match ti.sort with
  |.str=>match lo,hi,mx with
   |some (.int _ a),none,none=>some ⟨0≤a∧a≤l.length,.str (l.drop a.toNat),none⟩
   |none,some (.int _ b),none=>some ⟨0≤b∧b≤l.length,.str (l.take b.toNat),none⟩
   |some (.int _ a),some (.int _ b),none=>some ⟨0≤a∧a≤b∧b≤l.length,.str ((l.take b.toNat).drop a.toNat),none⟩
   |_,_,_=>none
  |_=>none
 |.msu i k n=>match ti.sort,T ti.elem with
  |.sl,some e=>match lo,hi,mx with
   |none,none,none=>some ⟨k=e.size,.msu i k n,none⟩
   |some (.int _ a),none,none=>some ⟨k=e.size∧a=0,.msu i k n,none⟩
   |none,some (.int _ b),none=>some ⟨k=e.size∧0≤b∧b≤n,.msu i k b.toNat,none⟩
   |some (.int _ a),some (.int _ b),none=>some ⟨k=e.size∧a=0∧0≤b∧b≤n,.msu i k b.toNat,none⟩
   |_,_,_=>none
  |_,_=>none
 |_=>none
def aslice3(T:TabT)(slot:Nat)(ti:TI)(lo:Option AV)(hi mx:AV):AV→Option ARes
 |.sl k l _=>match ti.sort,T ti.elem,lo,hi,mx with
  |.sl,some e,none,.int _ b,.int _ m=>some ⟨k=e.size∧b=m∧0≤b∧b≤l.length,.sl k (l.take b.toNat) (.own slot),some (slot,.tok k b.toNat)⟩
  |_,_,_,_,_=>none
 |.msl i k o _ cap=>match ti.sort,T ti.elem,lo,hi,mx with
  |.sl,some e,some (.int _ a),.int _ b,.int _ m=>some ⟨k=e.size∧0≤a∧a≤b∧b≤m∧m≤cap,.msl i k (o+a.toNat) (b.toNat-a.toNat) (m.toNat-a.toNat),none⟩
  |_,_,_,_,_=>none
 |.nils=>match ti.sort,T ti.elem,lo,hi,mx with
  |.sl,some _,none,.int _ b,.int _ m=>some ⟨b=0∧m=0,.nils,none⟩
  |_,_,_,_,_=>none
 |_=>none
def afield(T:TabT)(ti:TI)(f:Nat):AV→Option ARes
 |.agg cs=>match ti.sort,ti.offs[f]? with
  |.st,some (o,ft)=>(T ft).bind fun fi=>apart fi cs o
  |_,_=>none
 |_=>none
def aindex(T:TabT)(ti:TI):AV→AV→Option ARes
 |.agg cs,.int _ n=>match ti.sort,T ti.elem with
  |.arr m,some e=>(apart e cs (n.toNat*e.size)).map fun r=>⟨(0≤n∧n<m)∧r.p,r.v,none⟩
  |_,_=>none
 |.str l,.int _ n=>match ti.sort with
  |.str=>some ⟨0≤n∧n<l.length,.int .u8 ((l.getD n.toNat 0).toNat:Int),none⟩
  |_=>none
 |_,_=>none
def abuild(T:TabT)(ti:TI):List (Nat×AV)→List AV→Option (PD (List AV))
 |[],cs=>some ⟨True,cs⟩
 |(i,v)::r,cs=>match ti.offs[i]?,v.whole with
  |some (o,ft),true=>(T ft).bind fun fi=>(abuild T ti r (lay cs o v.cells)).map fun q=>⟨(v.cells.length=fi.size∧o+fi.size≤cs.length)∧q.1,q.2⟩
  |_,_=>none
def AV.bare:AV→AV
 |.sl k l _=>.sl k l .no
 |v=>v
def aelems(k:Nat):List (Nat×AV)→List (List AV)→Option (PD (List (List AV)))
 |[],l=>some ⟨True,l⟩
 |(i,v)::r,l=>if v.whole then(aelems k r (l.set i (v.cells.map AV.bare))).map fun q=>⟨(v.cells.length=k∧i<l.length)∧q.1,q.2⟩ else none
def plains(l:List (List AV)):Bool:=l.all fun e=>e.all AV.plain
def asrc(k:Nat)(ui:TI):AV→Option (List (List AV))
 |.sl k' l _=>match ui.sort with|.sl=>if k'=k then some l else none|_=>none
 |.nils=>match ui.sort with|.sl=>some []|_=>none
 |.str s=>match ui.sort with|.str=>if k=1 then some (s.map bC) else none|_=>none
 |_=>none
def aappend(T:TabT)(slot:Nat)(h:List ABlk)(ti ui:TI)(s x:AV):Option ARes:=
 match ti.sort,T ti.elem with
 |.sl,some e=>(asrc e.size ui x).bind fun y=>match s with
  |.nils=>some ⟨y.length*e.bytes≤140737488355328∧y.length≤4611686018427387904,.sl e.size y (.own slot),some (slot,.tok e.size y.length)⟩
  |.sl k l (.own i)=>match h[i]? with
   |some (.tok k' n)=>some ⟨k=e.size∧k'=k∧n=l.length∧(l.length+y.length)*e.bytes≤140737488355328∧l.length+y.length≤4611686018427387904,.sl k (l++y) (.own i),some (i,.tok k (l.length+y.length))⟩
   |_=>none
  |_=>none
 |_,_=>none
def asrcM(k:Nat)(h:List ABlk)(ui:TI)(x:AV):Option (PD (List (List AV))):=
 match x with
 |.msl j k2 o2 n2 _=>match ui.sort,h[j]? with
  |.sl,some (.rows k3 M)=>some ⟨k2=k∧k3=k∧o2+n2≤M.length∧∀ x∈(M.drop o2).take n2,∀ a∈x,a.cell=true,(M.drop o2).take n2⟩
  |_,_=>none
 |x=>(asrc k ui x).map fun y=>⟨∀ x∈y,∀ a∈x,a.cell=true,y⟩
def aappendS(T:TabT)(slot:Nat)(h:List ABlk)(ti ui:TI)(s x:AV):Option ARes:=
 match ti.sort,T ti.elem with
 |.sl,some e=>(asrcM e.size h ui x).bind fun q=>if plains q.2=true then match s with
   |.nils=>some ⟨(0<e.size∧q.1)∧q.2.length*e.bytes≤140737488355328∧q.2.length≤4611686018427387904,.sl e.size q.2 (.own slot),some (slot,.tok e.size q.2.length)⟩
   |.sl k l (.own i)=>match h[i]? with
    |some (.tok k' n)=>some ⟨(0<e.size∧q.1)∧k=e.size∧k'=k∧n=l.length∧(l.length+q.2.length)*e.bytes≤140737488355328∧l.length+q.2.length≤4611686018427387904,.sl k (l++q.2) (.own i),some (i,.tok k (l.length+q.2.length))⟩
    |_=>none
   |_=>none
  else none
 |_,_=>none
def aappendM(T:TabT)(slot:Nat)(h:List ABlk)(ti ui:TI)(s x:AV):Option ARes:=
 match s with
 |.msl i k o n cap=>match ti.sort,T ti.elem,h[i]? with
  |.sl,some e,some (.rows k' L)=>(asrcM e.size h ui x).bind fun q=>if n+q.2.length≤cap then some ⟨k=e.size∧k'=k∧0<k∧o+n+q.2.length≤L.length∧q.1,.msl i k o (n+q.2.length) cap,some (i,.rows k' (L.take (o+n)++q.2++L.drop (o+n+q.2.length)))⟩ else none
  |_,_,_=>none
 |s=>match x with
  |.msl _ _ _ _ _=>aappendS T slot h ti ui s x
  |x=>aappend T slot h ti ui s x
def aclear(T:TabT)(h:List ABlk)(ti:TI):AV→Option ARes
 |.msl i k o n _=>match ti.sort,T ti.elem,h[i]? with
  |.sl,some e,some (.rows k' L)=>some ⟨k=e.size∧k'=k∧0<k∧o+n≤L.length,.junk,some (i,.rows k' (L.take o++List.replicate n e.zero++L.drop (o+n)))⟩
  |_,_,_=>none
 |.msu i k n=>match ti.sort,T ti.elem,h[i]? with
  |.sl,some e,some (.rows k' L)=>some ⟨k=e.size∧k'=k∧0<k∧0+n≤L.length,.junk,some (i,.rows k' (L.take 0++List.replicate n e.zero++L.drop (0+n)))⟩
  |_,_,_=>none
 |_=>none
def akeqs:List AV→List AV→Option Bool
 |[],[]=>some true
 |.int k a::xs,.int k' b::ys=>if k=k' then(akeqs xs ys).map fun r=>decide (a=b)&&r else none
 |.str a::xs,.str b::ys=>(akeqs xs ys).map fun r=>decide (a=b)&&r
 |_,_=>none
def akeq:AV→AV→Option Bool
 |.int k a,.int k' b=>if k=k' then some (decide (a=b)) else none
 |.str a,.str b=>some (decide (a=b))
 |.agg a,.agg b=>akeqs a b
 |_,_=>none
def afind(key:AV):List (AV×AV)→Nat→Option (Option Nat)
 |[],_=>some none
 |p::l,j=>match akeq key p.1 with
  |some true=>some (some j)
  |some false=>afind key l (j+1)
  |none=>none
def keyCs:List TS→List AV→Bool
 |[],[]=>true
 |.int _::ss,.int _ _::cs=>keyCs ss cs
 |.str::ss,.str _::cs=>keyCs ss cs
 |_,_=>false
def keyTy(ki:TI):AV→Bool
 |.int _ _=>match ki.sort with|.int _=>true|_=>false
 |.str _=>match ki.sort with|.str=>true|_=>false
 |.agg cs=>match ki.sort,ki.eqs with|.st,s::ss=>keyCs (s::ss) cs|_,_=>false
 |_=>false
def mapK(T:TabT)(ti:TI):Option (TI×TI):=match ti.sort,ti.offs with
 |.map,[(_,k)]=>(T k).bind fun ki=>(T ti.elem).map fun ei=>(ki,ei)
 |_,_=>none
def pset(l:List (AV×AV))(j:Nat)(v:AV):List (AV×AV):=l.modify j fun p=>(p.1,v)
def amapEntry(T:TabT)(h:List ABlk)(ti:TI):AV→AV→Option ARes
 |.mp i,key=>match h[i]?,mapK T ti with
  |some (.map l),some (ki,ei)=>match keyTy ki key,afind key l 0,cellsAs ei.agg ei.zero with
   |true,some (some j),some _=>some ⟨True,.tup [((l[j]?).map (·.2)).getD .junk,.int .i64 j],some (i,.map l)⟩
   |true,some none,some z=>some ⟨True,.tup [z,.int .i64 l.length],some (i,.map (l++[(key,z)]))⟩
   |_,_,_=>none
  |_,_=>none
 |_,_=>none
def amapUpdate(T:TabT)(h:List ABlk)(ti:TI):AV→AV→AV→Option ARes
 |.mp i,key,v=>match h[i]?,mapK T ti with
  |some (.map l),some (ki,_)=>match keyTy ki key,afind key l 0 with
   |true,some (some j)=>some ⟨True,.junk,some (i,.map (pset l j v))⟩
   |true,some none=>some ⟨True,.junk,some (i,.map (l++[(key,v)]))⟩
   |_,_=>none
  |_,_=>none
 |_,_,_=>none
def aentryStore(h:List ABlk):AV→AV→AV→Option ARes
 |.mp i,.int _ n,v=>match h[i]? with
  |some (.map l)=>some ⟨0≤n∧n<l.length,.junk,some (i,.map (pset l n.toNat v))⟩
  |_=>none
 |_,_,_=>none
def alookup(T:TabT)(h:List ABlk)(ti:TI)(ok:Bool):AV→AV→Option ARes
 |.mp i,key=>match h[i]?,mapK T ti with
  |some (.map l),some (ki,ei)=>match keyTy ki key,afind key l 0,cellsAs ei.agg ei.zero with
   |true,some (some j),some _=>ok1 (if ok then .tup [((l[j]?).map (·.2)).getD .junk,.bool true] else((l[j]?).map (·.2)).getD .junk)
   |true,some none,some z=>ok1 (if ok then .tup [z,.bool false] else z)
   |_,_,_=>none
  |_,_=>none
 |_,_=>none
def arange(h:List ABlk)(slot:Nat)(ti:TI):AV→Option ARes
 |.mp i=>match ti.sort,h[i]? with
  |.map,some (.map l)=>some ⟨True,.ptr slot 0,some (slot,.iter i l.length [])⟩
  |_,_=>none
 |_=>none
def acap(ti:TI):AV→Option ARes
 |.msl _ _ _ _ c=>match ti.sort with|.sl=>ok1 (.int .i64 c)|_=>none
 |.nils=>match ti.sort with|.sl=>ok1 (.int .i64 0)|_=>none
 |_=>none
def acopy(T:TabT)(h:List ABlk)(ti:TI):AV→AV→Option ARes
 |.msl i k o n _,s=>match h[i]?,ti.sort,T ti.elem with
  |some (.rows k' L),.sl,some ei=>match s with
   |.sl k2 l _=>some ⟨k=ei.size∧k'=k∧k2=k∧0<k∧o+min l.length n≤L.length,.int .i64 ((min l.length n:Nat):Int),some (i,.rows k' (L.take o++l.take (min l.length n)++L.drop (o+min l.length n)))⟩
   |.msl j k2 o2 n2 _=>match h[j]? with
    |some (.rows k3 M)=>some ⟨k=ei.size∧k'=k∧k2=k∧k3=k∧0<k∧o+min n2 n≤L.length∧o2+min n2 n≤M.length∧∀ x∈(M.drop o2).take (min n2 n),∀ a∈x,a.cell=true,.int .i64 ((min n2 n:Nat):Int),some (i,.rows k' (L.take o++(M.drop o2).take (min n2 n)++L.drop (o+min n2 n)))⟩
    |_=>none
   |_=>none
  |_,_,_=>none
 |_,_=>none
def aop(T:TabT)(slot:Nat)(t:List AV)(h:List ABlk)(op:Op):Option ARes:=
 match op with
 |.move x|.assign x=>ok1 (aev t x)
 |.pick c x y=>match aev t c with|.bool true=>ok1 (aev t x)|.bool false=>ok1 (aev t y)|_=>none
 |.box _ x=>if(aev t x).whole then some ⟨True,.ptr slot 0,some (slot,.box (aev t x).cells)⟩ else none
 |.alloc e=>(T e).map fun ti=>⟨True,.ptr slot 0,some (slot,.box ti.zero)⟩
 |.load e x=>(T e).bind fun ti=>aload h ti (aev t x)
 |.store e x v=>(T e).bind fun ti=>astore h ti (aev t v) (aev t x)
 |.fieldAddr e x f=>(T e).bind fun ti=>match ti.sort with|.st=>afieldAddr ti f (aev t x)|_=>none
 |.indexAddr e x i=>(T e).bind fun ti=>aindexAddr T ti (aev t x) (aev t i)
 |.field e x f=>(T e).bind fun ti=>afield T ti f (aev t x)
 |.index e x i=>(T e).bind fun ti=>aindex T ti (aev t x) (aev t i)
 |.binOp op e x y _=>(T e).bind fun ti=>abin op ti (isc x||isc y) (aev t x) (aev t y)
 |.unOp .not _ x=>match aev t x with|.bool b=>ok1 (.bool !b)|_=>none
 |.unOp .neg _ x=>match aev t x with|.int .i64 n=>some ⟨I64 (-n),.int .i64 (-n),none⟩|_=>none
 |.convert s d x=>(T s).bind fun si=>(T d).bind fun di=>aconv T si di (aev t x)
 |.slice e x lo hi none=>(T e).bind fun ti=>aslice T ti (lo.map (aev t)) (hi.map (aev t)) none (aev t x)
 |.slice e x lo (some hi) (some mx)=>(T e).bind fun ti=>aslice3 T slot ti (lo.map (aev t)) (aev t hi) (aev t mx) (aev t x)
 |.makeMap e none=>(T e).bind fun ti=>match ti.sort with|.map=>some ⟨True,.mp slot,some (slot,.map [])⟩|_=>none
 |.mapEntry e m k=>(T e).bind fun ti=>amapEntry T h ti (aev t m) (aev t k)
 |.mapUpdate e m k v|.insert e m k v=>(T e).bind fun ti=>amapUpdate T h ti (aev t m) (aev t k) (aev t v)
 |.entryStore _ m s v=>aentryStore h (aev t m) (aev t s) (aev t v)
 |.lookup e m k ok=>(T e).bind fun ti=>alookup T h ti ok (aev t m) (aev t k)
 |.range e m=>(T e).bind fun ti=>arange h slot ti (aev t m)
 |.extract x i=>match aev t x with|.tup vs=>(vs[i]?).map fun v=>⟨True,v,none⟩|_=>none
 |.nilCheck x=>match aev t x with|.ptr i o=>ok1 (.ptr i o)|.eptr i k j o=>ok1 (.eptr i k j o)|.rptr cs=>ok1 (.rptr cs)|_=>none
 |.makeFunc (.func f) a b=>ok1 (.fn (.func f) (a.toList.map (aev t)) (b.toList.map (aev t)))
 |.makeInterface e x=>(T e).bind fun ti=>match ti.sort with|.iface=>none|.other=>none|_=>ok1 (.iface e (aev t x))
 |.build e ps=>(T e).bind fun ti=>match ti.sort with|.st=>(abuild T ti (ps.toList.map fun q=>(q.1,aev t q.2)) ti.zero).map fun q=>⟨q.1,.agg q.2,none⟩|_=>none
 |.call { callee:=.builtin .len,args,argTypes }=>match args.toList,argTypes.toList with|[x],[e]=>(T e).bind fun ti=>alen ti (aev t x)|_,_=>none
 |.buildSlice e n ps=>(T e).bind fun ti=>match ti.sort,T ti.elem with
  |.sl,some ei=>if(ti.mutb&&n==0)=true then(aelems ei.size (ps.toList.map fun q=>(q.1,aev t q.2)) (List.replicate n ei.zero)).map fun q=>⟨n*ei.size≤16777216∧0<ei.size∧q.1,.msl slot ei.size 0 n n,some (slot,.rows ei.size q.2)⟩
   else(aelems ei.size (ps.toList.map fun q=>(q.1,aev t q.2)) (List.replicate n ei.zero)).map fun q=>⟨n*ei.size≤16777216∧0<ei.size∧q.1,if plains q.2 then .sl ei.size q.2 (.own slot) else .psl ei.size q.2,some (slot,.tok ei.size n)⟩
  |_,_=>none
 |.call { callee:=.builtin .append,args,argTypes }=>match args.toList,argTypes.toList with|[s,x],[e,f]=>(T e).bind fun ti=>(T f).bind fun ui=>aappendM T slot h ti ui (aev t s) (aev t x)|_,_=>none
 |.call { callee:=.builtin .min,args,.. }=>match args.toList.map (aev t) with|[.int .i64 a,.int .i64 b]=>ok1 (.int .i64 (min a b))|_=>none
 |.call { callee:=.builtin .max,args,.. }=>match args.toList.map (aev t) with|[.int .i64 a,.int .i64 b]=>ok1 (.int .i64 (max a b))|[.int .i64 a,.int .i64 b,.int .i64 c]=>ok1 (.int .i64 (max (max a b) c))|_=>none
 |.makeSlice e l m=>(T e).bind fun ti=>match ti.sort,T ti.elem,aev t l,aev t m with
  |.sl,some ei,.int _ a,.int _ b=>some ⟨0≤a∧a≤b∧b.toNat*ei.size≤16777216∧b.toNat*ei.bytes≤140737488355328∧0<ei.size,.msl slot ei.size 0 a.toNat b.toNat,some (slot,.rows ei.size (List.replicate b.toNat ei.zero))⟩
  |_,_,_,_=>none
 |.call { callee:=.builtin .cap,args,argTypes }=>match args.toList,argTypes.toList with|[x],[e]=>(T e).bind fun ti=>acap ti (aev t x)|_,_=>none
 |.call { callee:=.builtin .clear,args,argTypes }=>match args.toList,argTypes.toList with|[x],[e]=>(T e).bind fun ti=>aclear T h ti (aev t x)|_,_=>none
 |.call { callee:=.builtin .copy,args,argTypes }=>match args.toList,argTypes.toList with|[d,s],[e,_]=>(T e).bind fun ti=>acopy T h ti (aev t d) (aev t s)|_,_=>none
 |_=>none
def needs(t:List AV):Op→Bool
 |.box ..|.alloc _|.buildSlice ..|.makeMap ..|.makeSlice ..|.range ..=>true
 |.slice _ _ _ _ mx=>mx.isSome
 |.call { callee:=.builtin .append,args,.. }=>match(args[0]?).map (aev t) with|some (.sl _ _ (.own _))=>false|some (.msl _ _ _ _ _)=>false|_=>true
 |_=>false
def zeroC:Value→AV→Bool
 |.int k 0,.int k' 0=>k==k'
 |.bool false,.bool false=>true
 |.string s,.str []=>s.data.toList.isEmpty
 |.pointer none,.nilp=>true
 |.slice none 0 0,.nils=>true
 |.map none,.nilm=>true
 |.nilFunc,.nilf=>true
 |.nilIface,.nilI=>true
 |_,_=>false
def zeroL:List Value→List AV→Bool
 |[],[]=>true
 |v::vs,a::as=>zeroC v a&&zeroL vs as
 |_,_=>false
theorem zeroC_ok{v:Value}{a:AV}(h:zeroC v a=true):a.plain=true∧∀ c,RV c v a:=by
 unfold zeroC at h
 split at h<;>first|cases h;done|skip
 ·simp at h;subst h;exact⟨rfl,fun c=>.int _ _⟩
 ·exact⟨rfl,fun c=>.bool _⟩
 ·exact⟨rfl,fun c=>.str _ _ (by simpa using h)⟩
 ·exact⟨rfl,fun c=>.nilp⟩
 ·exact⟨rfl,fun c=>.nils⟩
 ·exact⟨rfl,fun c=>.nilm⟩
 ·exact⟨rfl,fun c=>.nilf⟩
 ·exact⟨rfl,fun c=>.nilI⟩
theorem zeroL_ok:∀ {vs:List Value} {as:List AV},zeroL vs as=true→vs.length=as.length∧∀ (j:Nat) v a,vs[j]? = some v→as[j]? = some a→a.plain=true∧∀ c,RV c v a
 |[],[],_=>⟨rfl,fun j v a h=>by simp at h⟩
 |v::vs,a::as,h=>by
  simp only[zeroL,Vi] at h
  obtain⟨h1,h2⟩:=zeroL_ok h.2
  refine⟨by simp[h1],fun j v' a' hv ha=>?_⟩
  cases j with
  |zero=>simp at hv ha;subst hv ha;exact zeroC_ok h.1
  |succ j=>exact h2 j v' a' (by simpa using hv) (by simpa using ha)
 |[],_::_,h=>by cases h
 |_::_,[],h=>by cases h
def sortOk(P:Program)(ti:TI)(d:TypeDesc):Prop:=
 match ti.sort with
 |.bool=>d=.bool|.int k=>d=.int k|.str=>d=.string|.ptr=>d=.pointer ti.elem|.sl=>d=.slice ti.elem|.arr n=>d=.array n ti.elem
 |.st=>∃ fs,d=.struct fs∧fs.toList.map (fun f=>(f.offset,f.type))=ti.offs∧∀ f∈fs.toList,∃ i,P.info? f.type=some i∧i.size≠0
 |.map=>∃ k,d=.map k ti.elem∧ti.offs=[(0,k)]|.fn=>∃ a b c,d=.func a b c|.iface=>∃ ms,d=.interface ms|.other=>False
def sortB(P:Program)(ti:TI)(d:TypeDesc):Bool:=
 match ti.sort,d with
 |.bool,.bool|.str,.string|.fn,.func ..|.iface,.interface _=>true
 |.map,.map k e=>e==ti.elem&&ti.offs==[(0,k)]
 |.int k,.int k'=>k==k'
 |.ptr,.pointer e|.sl,.slice e=>e==ti.elem
 |.arr n,.array m e=>n==m&&e==ti.elem
 |.st,.struct fs=>fs.toList.map (fun f=>(f.offset,f.type))==ti.offs&&fs.toList.all fun f=>match P.info? f.type with|some i=>i.size != 0|none=>false
 |_,_=>false
theorem sortB_ok{P:Program}{ti:TI}{d:TypeDesc}(h:sortB P ti d=true):sortOk P ti d:=by
 unfold sortB at h
 unfold sortOk
 split at h<;>first|cases h;done|skip
 all_goals rename_i hs
 all_goals simp only[hs]
 all_goals try simp only[Vi,beq_iff_eq,List.all_eq_true] at h
 all_goals first|(subst h;rfl)|(obtain⟨rfl,rfl⟩:=h;rfl)|(obtain⟨rfl,h⟩:=h;exact⟨_,rfl,h⟩)|exact⟨_,_,_,rfl⟩|exact⟨_,rfl⟩|rfl|skip
 obtain⟨h1,h2⟩:=h
 refine⟨_,rfl,h1,fun f hf=>?_⟩
 have:=h2 f hf
 split at this
 ·rename_i i hi;exact⟨i,hi,by simpa using this⟩
 ·cases this
def scalB(P:Program)(t:TypeId)(s:TS):Bool:=
 match P.underlying t,s with
 |some .bool,.bool|some (.int _),.int _|some .string,.str=>true
 |_,_=>false
def flatL(P:Program):List Field→Nat→List TS→Bool
 |[],_,[]=>true
 | f :: fs,o,s :: ss => f.offset == o && f.name != "_" && scalB P f.type s && flatL P fs (o + 1) ss
 |_,_,_=>false
def flatEq(P:Program)(t:TypeId)(ss:List TS):Bool:=
 match P.underlying t with
 |some (.struct fs)=>!P.stoodInHeld t&&flatL P fs.toList 0 ss&&!P.eqGuardType P.depth t
 |some (.array n e)=>ss.length==n&&ss.all (scalB P e)&&P.cellsOf e==1&&(P.info? e).isSome&&!P.eqGuardType P.depth t
 |_=>false
def aggB:Value→Bool
 |.agg _=>true
 |_=>false
structure TIok(P:Program)(t:Nat)(ti:TI):Prop where
 info:∃ i z,P.info? t=some i∧i.size=ti.size∧i.bytes=ti.bytes∧i.zero=some z∧z.cells.size=ti.zero.length∧∀ (j:Nat) v a,z.cells[j]? = some v→ti.zero[j]? = some a→a.plain=true∧∀ c,RV c v a
 desc:∃ d,P.underlying t=some d∧sortOk P ti d
 one:ti.agg=false→ti.size=1
 zl:ti.zero.length=ti.size
 eq:ti.eqs≠[]→flatEq P t ti.eqs=true
 za:∀ i z,P.info? t=some i→i.zero=some z→aggB z=ti.agg
def tiB(P:Program)(t:Nat)(ti:TI):Bool:=
 (match P.info? t with
  |some i=>i.size==ti.size&&i.bytes==ti.bytes&&(match i.zero with|some z=>zeroL z.cells.toList ti.zero&&aggB z==ti.agg|none=>false)
  |none=>false) &&
 (match P.underlying t with|some d=>sortB P ti d|none=>false)&&(ti.agg||ti.size==1)&&ti.zero.length==ti.size&&(ti.eqs.isEmpty||flatEq P t ti.eqs)
theorem tiB_ok{P:Program}{t:Nat}{ti:TI}(h:tiB P t ti=true):TIok P t ti:=by
 simp only[tiB,Vi] at h
 obtain⟨⟨⟨⟨h1,h2⟩,h3⟩,h5⟩,h4⟩:=h
 refine⟨?_,?_,fun e=>by simp[e] at h3;exact h3,by simpa using h5,fun e=>by simp[e] at h4;exact h4,fun i z hi hz=>?_⟩
 rotate_left 2
 ·rw[hi] at h1
  simp only[hz,Vi,beq_iff_eq] at h1
  exact h1.2.2
 ·split at h1
  ·rename_i i hi
   simp only[Vi,beq_iff_eq] at h1
   obtain⟨⟨g1,g2⟩,g3⟩:=h1
   split at g3
   ·rename_i z hz
    simp only[Vi] at g3
    obtain⟨q1,q2⟩:=zeroL_ok g3.1
    exact⟨i,z,hi,g1,g2,hz,by simpa using q1,fun j v a hv ha=>q2 j v a (by simpa using hv) ha⟩
   ·cases g3
  ·cases h1
 ·split at h2
  ·rename_i d hd;exact⟨d,hd,sortB_ok h2⟩
  ·cases h2
def TabOk(P:Program)(T:TabT):Prop:=∀ t ti,T t=some ti→TIok P t ti
section
variable {P:Program} {t:Nat} {ti:TI}
theorem TIok.sizeOf(h:TIok P t ti)(w:World):(sizeOf t).run P w=.ok ti.size w:=by
 obtain⟨i,z,h1,h2,_⟩:=h.info
 simp[Go.sizeOf,typeInfo,h1,h2]
theorem TIok.isAgg(h:TIok P t ti)(w:World):(isAgg t).run P w=.ok ti.agg w:=by
 obtain⟨d,h1,h2⟩:=h.desc
 unfold Go.isAgg TI.agg
 unfold sortOk at h2
 rw[Sem.run_bind,run_underlying h1 w]
 split at h2<;>rename_i hs<;>simp only[hs]<;>first|(subst h2;simp)|skip
 ·obtain⟨fs,rfl,_⟩:=h2;simp
 ·obtain⟨k,rfl,_⟩:=h2;simp
 ·obtain⟨a,b,c,rfl⟩:=h2;simp
 ·obtain⟨ms,rfl⟩:=h2;simp
 ·exact h2.elim
end
def Cells(c:Cx)(b o:Nat)(xs:List AV):Prop:=∀ (j:Nat) a,xs[j]? = some a→a.cell=true∧∃ v,c.w.cell? ⟨b,o+j,none⟩=some v∧RV c v a
theorem Cells.vals{c:Cx}{b o:Nat}{xs:List AV}(h:Cells c b o xs):∃ vs:List Value,vs.length=xs.length∧c.w.rangeAt b o vs∧∀ (j:Nat) v a,vs[j]? = some v→xs[j]? = some a→a.cell=true∧RV c v a:=by
 induction xs generalizing o with
 |nil=>exact⟨[],rfl,fun j v hv=>by simp at hv,fun j v a hv=>by simp at hv⟩
 |cons x xs ih=>
  obtain⟨h0,v0,h1,h2⟩:=h 0 x rfl
  obtain⟨vs,q1,q2,q3⟩:=ih (o:=o+1) (fun j a ha=>by
   obtain⟨g1,v,g2,g3⟩:=h (j+1) a (by simpa using ha)
   exact⟨g1,v,by rw[← g2];congr 2;omega,g3⟩)
  refine⟨v0::vs,by simp[q1],fun j v hv=>?_,fun j v a hv ha=>?_⟩
  ·cases j with
   |zero=>simp at hv;subst hv;exact h1
   |succ j=>rw[← q2 j v (by simpa using hv)];congr 2;omega
  ·cases j with
   |zero=>simp at hv ha;subst hv ha;exact⟨h0,h2⟩
   |succ j=>exact q3 j v a (by simpa using hv) (by simpa using ha)
theorem RV.one{c:Cx}{v:Value}{a:AV}(h:RV c v a)(ha:a.cell=true):v.oneCell'=true:=by
 cases h<;>first|rfl|cases ha
theorem RV.cells{c:Cx}{v:Value}{a:AV}(h:RV c v a)(ha:a.whole=true):v.cells.size=a.cells.length∧∀ (j:Nat) u x,v.cells[j]? = some u→a.cells[j]? = some x→x.cell=true∧RV c u x:=by
 have key:∀ (v:Value) (a:AV),RV c v a→a.cell=true→v.cells=#[v]→a.cells=[a]→(v.cells.size=a.cells.length∧∀ (j:Nat) u x,v.cells[j]? = some u→a.cells[j]? = some x→x.cell=true∧RV c u x):=by
  intro v a h ha h1 h2
  rw[h1,h2]
  refine⟨rfl,fun j u x hu hx=>?_⟩
  match j,hu,hx with
  |0,hu,hx=>simp at hu hx;subst hu hx;exact⟨ha,h⟩
 cases h with
 |agg vs cs hs hc hr=>exact⟨hs,fun j u x hu hx=>⟨hc j x hx,hr j u x hu hx⟩⟩
 |tup=>cases ha
 |cnd=>cases ha
 |junk=>cases ha
 |int k n=>exact key _ _ (.int k n) rfl rfl rfl
 |bool b=>exact key _ _ (.bool b) rfl rfl rfl
 |str s l h=>exact key _ _ (.str s l h) rfl rfl rfl
 |nilp=>exact key _ _ .nilp rfl rfl rfl
 |ptr i o b h1 h2 h3=>exact key _ _ (.ptr i o b h1 h2 h3) rfl rfl rfl
 |rptr cs b o vs h1 h2=>exact key _ _ (.rptr cs b o vs h1 h2) rfl rfl rfl
 |sl k l t A n cap b o vs h1 h2 h3 h4 h5 h6 h7 h8=>exact key _ _ (.sl k l t A n cap b o vs h1 h2 h3 h4 h5 h6 h7 h8) rfl rfl rfl
 |psl k l A n cap b o vs h1 h2 h3 h4 h5 h6 h7=>exact key _ _ (.psl k l A n cap b o vs h1 h2 h3 h4 h5 h6 h7) rfl rfl rfl
 |nils=>exact key _ _ .nils rfl rfl rfl
 |fn f v1 v2 a1 a2 h1 h2 h3 h4=>exact key _ _ (.fn f v1 v2 a1 a2 h1 h2 h3 h4) rfl rfl rfl
 |nilf=>exact key _ _ .nilf rfl rfl rfl
 |iface t v a h=>exact key _ _ (.iface t v a h) rfl rfl rfl
 |nilI=>exact key _ _ .nilI rfl rfl rfl
 |mp i b h1 h2 h3=>exact key _ _ (.mp i b h1 h2 h3) rfl rfl rfl
 |nilm=>exact key _ _ .nilm rfl rfl rfl
 |msl i k o n cap b o' h1 h2 h3 h4 h5 h6=>exact key _ _ (.msl i k o n cap b o' h1 h2 h3 h4 h5 h6) rfl rfl rfl
 |msu i k n cap b h1 h2 h3 h4 h5 h6=>exact key _ _ (.msu i k n cap b h1 h2 h3 h4 h5 h6) rfl rfl rfl
 |eptr i k j o b h1 h2 h3=>exact key _ _ (.eptr i k j o b h1 h2 h3) rfl rfl rfl
theorem load_ok{P:Program}{c:Cx}{t:Nat}{ti:TI}(hT:TIok P t ti){b o:Nat}{xs:List AV}(h:Cells c b o xs)(hl:xs.length=ti.size){r:AV}(hr:cellsAs ti.agg xs=some r) :
  ∃ v,(Instr.loadAt t (.pointer (some ⟨b,o,none⟩))).run P c.w=.ok v c.w∧RV c v r:=by
 obtain⟨vs,h1,h2,h3⟩:=h.vals
 obtain⟨i,z,hi,hs,_⟩:=hT.info
 unfold cellsAs at hr
 split at hr
 ·rename_i hagg
  cases hr
  refine⟨.agg vs.toArray,?_,.agg _ _ (by simpa using h1) (fun j a ha=>(h j a ha).1) fun j v a hv ha=>(h3 j v a (by simpa using hv) ha).2⟩
  have hag:=hT.isAgg c.w
  have hsz:=hT.sizeOf c.w
  have hll:(loadCells ⟨b,o,none⟩ vs.length).run P c.w=.ok vs.toArray c.w:=
   run_loadCells_list (P:=P) c.w ⟨b,o,none⟩ vs (fun j v hv=>by rw[Addr.add_mid];exact h2 j v hv)
  rw[h1,hl] at hll
  simp[Instr.loadAt,Instr.sureAddr,loadVar,Sem.run_bind,hag,hagg,hsz,hll]
 ·rename_i hagg
  have hagg':ti.agg=false:=by simpa using hagg
  split at hr
  ·rename_i x
   cases hr
   obtain⟨_,v,g1,g2⟩:=h 0 r rfl
   refine⟨v,?_,g2⟩
   have hag:=hT.isAgg c.w
   rw[Nat.add_zero] at g1
   simp[Instr.loadAt,Instr.sureAddr,loadVar,Sem.run_bind,hag,hagg',Go.load,Sem.run,g1]
  ·cases hr
theorem store_ok{P:Program}{w:World}{t:Nat}{ti:TI}(hT:TIok P t ti){b o:Nat}{vs:Array Value}{e:TypeId}(hb:w.heap[b]? = some (.cells vs e (0,0))){v:Value}(hs:v.cells.size=ti.size)(ho:o+ti.size≤vs.size)
  (h1:∀ u∈v.cells.toList,u.oneCell'=true) :
  (Instr.storeAt t (.pointer (some ⟨b,o,none⟩)) v).run P w=.ok () (w.setRow b (vs.toList.take o++v.cells.toList++vs.toList.drop (o+ti.size)).toArray):=by
 have hsz:=hT.sizeOf w
 have:=run_storeCells_at P b o e v.cells.toList 0 vs w hb (by simpa [hs] using ho) h1
 simp only[Yq,Array.length_toList,hs] at this
 simp[Instr.storeAt,Instr.sureAddr,storeVar,Sem.run_bind,hsz,hs,this]
def TRel(c:Cx)(vs:Array Value)(t:List AV):Prop:=vs.size=t.length∧∀ (i:Nat) v x,vs[i]? = some v→t[i]? = some x→RV c v x
theorem TRel.mono{c c':Cx}(h:Ev c c'){vs:Array Value}{t:List AV}(ht:TRel c vs t):TRel c' vs t:=⟨ht.1,fun i v x hv hx=>(ht.2 i v x hv hx).mono h⟩
theorem aconst_ok(c:Cx)(v:Value):RV c v (aconst v):=by
 unfold aconst
 split
 ·exact .int _ _
 ·exact .bool _
 ·exact .str _ _ rfl
 ·exact .nilp
 ·exact .nils
 ·exact .nilf
 ·exact .nilI
 ·exact .nilm
 ·exact .junk _
theorem TRel.ev{c:Cx}{a:Act}{t:List AV}(h:TRel c a.tmps t)(x:Operand):RV c (a.eval x) (aev t x):=by
 cases x with
 |const v=>exact aconst_ok c v
 |global g=>exact .junk _
 |func f=>exact .fn _ _ _ _ _ rfl rfl (fun i v a hv=>by simp at hv) (fun i v a hv=>by simp at hv)
 |tmp i=>
  simp only[Act.eval,aev]
  by_cases hi:i<t.length
  ·have hi':i<a.tmps.size:=by rw[h.1];exact hi
   have:=h.2 i a.tmps[i] t[i] (Vc hi') (Vb hi)
   simpa [Array.getD_eq_getD_getElem?,List.getD_eq_getElem?_getD,hi,hi'] using this
  ·rw[List.getD_eq_getElem?_getD,List.getElem?_eq_none (Nat.le_of_not_lt hi)]
   exact .junk _
theorem TRel.put{c:Cx}{a:Act}{t:List AV}(h:TRel c a.tmps t)(d:Option Tmp){v:Value}{x:AV}(hv:RV c v x):TRel c (a.put d v).tmps (aput t d x):=by
 cases d with
 |none=>exact h
 |some i=>
  refine⟨by simp[Act.put,aput,h.1],fun j u y hu hy=>?_⟩
  simp only[Act.put,aput] at hu hy
  rw[Array.getElem?_setIfInBounds] at hu
  rw[List.getElem?_set] at hy
  by_cases hj:i=j
  ·subst hj
   simp only[Ys] at hu hy
   split at hu
   ·split at hy
    ·cases hu;cases hy;exact hv
    ·cases hy
   ·cases hu
  ·simp only[hj,Yr] at hu hy
   exact h.2 j u y hu hy
def OpOk(P:Program)(c:Cx)(s:Sem Next)(r:ARes):Prop:=
 ∃ nx v ρ' w',s.run P c.w=.ok nx w'∧(nx=.value v∨(nx=.skip∧v=undef))∧RelH ⟨ρ',aupd c.h r.d,w',c.X⟩∧Ev c ⟨ρ',aupd c.h r.d,w',c.X⟩∧RV ⟨ρ',aupd c.h r.d,w',c.X⟩ v r.v
theorem OpOk.pure{P:Program}{c:Cx}(hc:RelH c){s:Sem Next}{r:ARes}{v:Value}(hs:s.run P c.w=.ok (.value v) c.w)(hv:RV c v r.v)(hd:r.d=none):OpOk P c s r:=
 ⟨_,v,c.ρ,c.w,hs,.inl rfl,by rw[hd];exact hc,by rw[hd];exact Ev.refl c,by rw[hd];exact hv⟩
section
variable {P:Program} {T:TabT} (hT:TabOk P T) {c:Cx} (hc:RelH c)
include hc
theorem BlkOk.cells{i:Nat}{cs:List AV}{b:Nat}(hi:c.h[i]? = some (.box cs))(hb:c.ρ i=some b)(o:Nat):Cells c b o (cs.drop o):=by
 obtain⟨b',vs,e,h1,h2,h3,h4⟩:=hc.blk i _ hi
 rw[hb] at h1
 obtain rfl:=Option.some.inj h1
 intro j a ha
 rw[List.getElem?_drop] at ha
 obtain⟨g1,v,g2,g3⟩:=h4 _ a ha
 exact⟨g1,v,by rw[cell_of_row c.w b (o+j) vs e (0,0) h2];exact g2,g3⟩
theorem BlkOk.rcells{i k:Nat}{l:List (List AV)}{b:Nat}(hi:c.h[i]? = some (.rows k l))(hb:c.ρ i=some b)(j o n:Nat)(hj:j<l.length)(hcl:(((l.getD j []).drop o).take n).all AV.cell=true):Cells c b (j*k+o) (((l.getD j []).drop o).take n):=by
 obtain⟨b',vs,e,h1,h2,h3,h4⟩:=hc.blk i _ hi
 rw[hb] at h1
 obtain rfl:=Option.some.inj h1
 intro m a ha
 have hcell:=List.all_eq_true.1 hcl a (Vd ha)
 rw[List.getElem?_take] at ha
 split at ha
 ·rw[List.getElem?_drop,List.getD_eq_getElem?_getD,Vb hj] at ha
  obtain⟨v,g2,g3⟩:=h4 j _ _ a (Vb hj) ha
  exact⟨hcell,v,by rw[cell_of_row c.w b _ vs e (0,0) h2,Nat.add_assoc];exact g2,g3⟩
 ·cases ha
omit hc in
theorem Cells.take{b o:Nat}{xs:List AV}(h:Cells c b o xs)(n:Nat):Cells c b o (xs.take n):=fun j a ha=>by
 rw[List.getElem?_take] at ha
 split at ha
 ·exact h j a ha
 ·cases ha
theorem aload_ok{t:Nat}{ti:TI}(ht:TIok P t ti){v:Value}{x:AV}(hv:RV c v x){r:ARes}(hr:aload c.h ti x=some r)(hp:r.p) :
  r.d=none∧∃ u,(Instr.loadAt t v).run P c.w=.ok u c.w∧RV c u r.v:=by
 unfold aload at hr
 split at hr
 ·rename_i i o
  cases hv with
  |ptr _ _ b hk hb hn=>
   split at hr
   ·rename_i cs hi
    simp only[Ve] at hr
    obtain⟨y,hy,rfl⟩:=hr
    exact⟨rfl,load_ok ht ((BlkOk.cells hc hi hb o).take ti.size) (by simp;simp at hp;omega) hy⟩
   ·cases hr
 ·rename_i cs
  simp only[Ve] at hr
  obtain⟨y,hy,rfl⟩:=hr
  cases hv with
  |rptr _ b o vs h1 h2=>
   exact⟨rfl,load_ok ht ((show Cells c b o cs from fun j a ha=>⟨(h1 j a ha).1,vs j,(h1 j a ha).2.2,h2 j a ha⟩).take ti.size) (by simp;simp at hp;omega) hy⟩
 ·rename_i i k j o
  cases hv with
  |eptr _ _ _ _ b hk hb hn=>
   split at hr
   ·rename_i k' l hi
    split at hr
    ·rename_i hcl
     simp only[Ve] at hr
     obtain⟨y,hy,rfl⟩:=hr
     obtain⟨rfl,hj,ho⟩:=hp
     have hlen:(l.getD j []).length=k':=by
      obtain⟨_,_,_,_,_,h3,_⟩:=hc.blk i _ hi
      rw[List.getD_eq_getElem?_getD,Vb hj]
      exact h3 j _ (Vb hj)
     exact⟨rfl,load_ok ht (BlkOk.rcells hc hi hb j o ti.size hj hcl) (by rw[List.length_take,List.length_drop,hlen];omega) hy⟩
    ·cases hr
   ·cases hr
 ·cases hr
theorem new_ok{slot:Nat}(hs:c.h[slot]? = some .free)(cs:List AV)(vs:Array Value)(e:TypeId)(hl:vs.size=cs.length)(h:∀ (j:Nat) v a,vs[j]? = some v→cs[j]? = some a→a.cell=true∧RV c v a) :
  RelH ⟨setρ c.ρ slot (some c.w.heap.size),c.h.set slot (.box cs),c.w.alloc (.cells vs e),c.X⟩∧Ev c ⟨setρ c.ρ slot (some c.w.heap.size),c.h.set slot (.box cs),c.w.alloc (.cells vs e),c.X⟩ ∧
   RV ⟨setρ c.ρ slot (some c.w.heap.size),c.h.set slot (.box cs),c.w.alloc (.cells vs e),c.X⟩ (.pointer (some ⟨c.w.heap.size,0,none⟩)) (.ptr slot 0):=by
 have hsl:slot<c.h.length:=(Va hs).1
 obtain⟨h1,h2⟩:=Cx.alloc hc slot .free hs (.box cs) (.inl rfl) rfl (c.w.alloc (.cells vs e)) (.cells vs e) rfl rfl rfl rfl (fun hev=>by
  refine⟨c.w.heap.size,vs,e,setρ_same _ _ _,(by show(c.w.heap.push _)[c.w.heap.size]? = _;simp),hl,fun j a ha=>?_⟩
  have hj:j<vs.size:=by rw[hl];exact(Va ha).1
  obtain⟨g1,g2⟩:=h j vs[j] a (Vc hj) ha
  exact⟨g1,vs[j],Vc hj,g2.mono hev⟩)
 refine⟨h1,h2,.ptr _ _ _ ⟨_,List.getElem?_set_self hsl,rfl⟩ (setρ_same _ _ _) fun x hx=>?_⟩
 rw[List.getElem?_set_self hsl] at hx
 cases hx;rfl
omit hc in
theorem getElem?_lay{cs xs:List AV}{o:Nat}(ho:o+xs.length≤cs.length)(j:Nat):(lay cs o xs)[j]? = if j<o then cs[j]? else if j<o+xs.length then xs[j-o]? else cs[j]?:=by
 unfold lay
 by_cases h1:j<o
 ·rw[if_pos h1,List.append_assoc,List.getElem?_append_left (by simp;omega),List.getElem?_take,if_pos h1]
 ·rw[if_neg h1,List.append_assoc,List.getElem?_append_right (by simp;omega)]
  have e1:min o cs.length=o:=by omega
  simp only[List.length_take,e1]
  by_cases h2:j<o+xs.length
  ·rw[if_pos h2,List.getElem?_append_left (by omega)]
  ·rw[if_neg h2,List.getElem?_append_right (by omega),List.getElem?_drop]
   congr 1;omega
omit hc in
theorem getElem?_layV{cs xs:List Value}{o:Nat}(ho:o+xs.length≤cs.length)(j:Nat):(cs.take o++xs++cs.drop (o+xs.length))[j]? = if j<o then cs[j]? else if j<o+xs.length then xs[j-o]? else cs[j]?:=by
 by_cases h1:j<o
 ·rw[if_pos h1,List.append_assoc,List.getElem?_append_left (by simp;omega),List.getElem?_take,if_pos h1]
 ·rw[if_neg h1,List.append_assoc,List.getElem?_append_right (by simp;omega)]
  have e1:min o cs.length=o:=by omega
  simp only[List.length_take,e1]
  by_cases h2:j<o+xs.length
  ·rw[if_pos h2,List.getElem?_append_left (by omega)]
  ·rw[if_neg h2,List.getElem?_append_right (by omega),List.getElem?_drop]
   congr 1;omega
omit hc in
theorem length_lay{cs xs:List AV}{o:Nat}(ho:o+xs.length≤cs.length):(lay cs o xs).length=cs.length:=by
 unfold lay;simp;omega
theorem astore_ok{t:Nat}{ti:TI}(ht:TIok P t ti){p u:Value}{x y:AV}(hp':RV c p x)(hu:RV c u y){r:ARes}(hr:astore c.h ti y x=some r)(hp:r.p) :
  ∃ ρ' w',(Instr.storeAt t p u).run P c.w=.ok () w'∧RelH ⟨ρ',aupd c.h r.d,w',c.X⟩∧Ev c ⟨ρ',aupd c.h r.d,w',c.X⟩:=by
 unfold astore at hr
 split at hr
 ·rename_i i o
  cases hp' with
  |ptr _ _ b hk hb hn=>
   split at hr
   ·rename_i cs hi hy
    cases hr
    obtain⟨ho,hl⟩:=hp
    obtain⟨q1,q2⟩:=hu.cells hy
    obtain⟨b',vs,e,h1,h2,h3,h4⟩:=hc.blk i _ hi
    rw[hb] at h1
    obtain rfl:=Option.some.inj h1
    have h1c:∀ v∈u.cells.toList,v.oneCell'=true:=by
     intro v hv
     obtain⟨j,hj⟩:=List.getElem?_of_mem hv
     have hj':u.cells[j]? = some v:=by simpa using hj
     have hjl:j<y.cells.length:=by rw[← q1];exact(Array.getElem?_eq_some_iff.1 hj').1
     obtain⟨g1,g2⟩:=q2 j v _ hj' (Vb hjl)
     exact g2.one g1
    have hst:=store_ok ht h2 (o:=o) (q1.trans hl) (by rw[h3];exact ho) h1c
    refine⟨c.ρ,_,hst,?_⟩
    have hux:u.cells.toList.length=ti.size:=by simp[q1,hl]
    refine Cx.write hc i (.box cs) (.box (lay cs o y.cells)) b hi hb rfl rfl _ (by simp) rfl rfl rfl (fun b' hb'=>setRow_other _ _ _ _ hb') (fun o h=>h.elim) (.inl ⟨rfl,rfl⟩) (fun vs' e' f h0=>by rw[h2] at h0;cases h0;exact⟨_,setRow_heap _ _ _ _ _ _ h2,by simp;omega⟩) fun hev=>?_
    refine⟨b,_,e,hb,setRow_heap _ _ _ _ _ _ h2,?_,fun j a ha=>?_⟩
    ·rw[length_lay (by omega)];simp;omega
    ·rw[getElem?_lay (by omega)] at ha
     have hva:=getElem?_layV (cs:=vs.toList) (xs:=u.cells.toList) (o:=o) (by rw[hux];simp;omega) j
     rw[hux] at hva
     simp only[Yw,hva]
     rw[hl] at ha
     split at ha
     ·rename_i hj
      obtain⟨g1,v,g2,g3⟩:=h4 j a ha
      exact⟨g1,v,by rw[if_pos hj];simpa using g2,g3.mono hev⟩
     ·rename_i hj
      split at ha
      ·rename_i hj2
       have hjl:j-o<u.cells.size:=by rw[q1,hl];omega
       obtain⟨g1,g2⟩:=q2 (j-o) _ a (Vc hjl) ha
       exact⟨g1,_,by rw[if_neg hj,if_pos hj2,Array.getElem?_toList];exact Vc hjl,g2.mono hev⟩
      ·rename_i hj2
       obtain⟨g1,v,g2,g3⟩:=h4 j a ha
       exact⟨g1,v,by rw[if_neg hj,if_neg hj2];simpa using g2,g3.mono hev⟩
   ·cases hr
 ·rename_i i k j o
  cases hp' with
  |eptr _ _ _ _ b hk hb hn=>
   split at hr
   ·rename_i k' l hi hy
    cases hr
    obtain⟨rfl,hj,ho,hl,hz⟩:=hp
    obtain⟨q1,q2⟩:=hu.cells hy
    obtain⟨b',vs,e,h1,h2,h3,h4⟩:=hc.blk i _ hi
    rw[hb] at h1
    obtain rfl:=Option.some.inj h1
    have hD:l.getD j []=l[j]:=by rw[List.getD_eq_getElem?_getD,Vb hj];rfl
    rw[hD]
    have hlj:l[j].length=k':=h3 j _ (Vb hj)
    have h1c:∀ v∈u.cells.toList,v.oneCell'=true:=by
     intro v hv
     obtain⟨j,hj⟩:=List.getElem?_of_mem hv
     have hj':u.cells[j]? = some v:=by simpa using hj
     have hjl:j<y.cells.length:=by rw[← q1];exact(Array.getElem?_eq_some_iff.1 hj').1
     obtain⟨g1,g2⟩:=q2 j v _ hj' (Vb hjl)
     exact g2.one g1
    have hfit':j*k'+o+ti.size≤vs.size:=by
     obtain⟨v,g2,_⟩:=h4 j _ (o+ti.size-1) _ (Vb hj) (Vb (by omega))
     have:=(Array.getElem?_eq_some_iff.1 g2).1
     omega
    have hst:=store_ok ht h2 (o:=j*k'+o) (q1.trans hl) hfit' h1c
    refine⟨c.ρ,_,hst,?_⟩
    have hux:u.cells.toList.length=ti.size:=by simp[q1,hl]
    refine Cx.write hc i (.rows k' l) (.rows k' (l.set j (lay l[j] o y.cells))) b hi hb rfl rfl _ (by simp) rfl rfl rfl (fun b' hb'=>setRow_other _ _ _ _ hb') (fun o h=>h.elim) (.inl ⟨rfl,rfl⟩) (fun vs' e' f h0=>by rw[h2] at h0;cases h0;exact⟨_,setRow_heap _ _ _ _ _ _ h2,by simp;omega⟩) fun hev=>?_
    refine⟨b,_,e,hb,setRow_heap _ _ _ _ _ _ h2,fun j' x hx=>?_,fun j' x m a hx ha=>?_⟩
    ·rw[List.getElem?_set] at hx
     by_cases hjj:j=j'
     ·subst hjj
      rw[if_pos rfl,if_pos hj] at hx
      cases hx;rw[length_lay (by omega)];exact hlj
     ·rw[if_neg hjj] at hx
      exact h3 j' x hx
    ·have hva:=getElem?_layV (cs:=vs.toList) (xs:=u.cells.toList) (o:=j*k'+o) (by rw[hux];simp;omega) (j'*k'+m)
     rw[hux] at hva
     simp only[Yw,hva]
     rw[List.getElem?_set] at hx
     by_cases hjj:j=j'
     ·subst hjj
      rw[if_pos rfl,if_pos hj] at hx
      cases hx
      rw[getElem?_lay (by omega),hl] at ha
      split at ha
      ·rename_i hm
       obtain⟨v,g2,g3⟩:=h4 j _ m a (Vb hj) ha
       exact⟨v,by rw[if_pos (by omega)];simpa using g2,g3.mono hev⟩
      ·rename_i hm
       split at ha
       ·rename_i hm2
        have hjl:m-o<u.cells.size:=by rw[q1,hl];omega
        obtain⟨g1,g2⟩:=q2 (m-o) _ a (Vc hjl) ha
        refine⟨_,?_,g2.mono hev⟩
        rw[if_neg (by omega),if_pos (by omega),Array.getElem?_toList,show j*k'+m-(j*k'+o)=m-o by omega]
        exact Vc hjl
       ·rename_i hm2
        obtain⟨v,g2,g3⟩:=h4 j _ m a (Vb hj) ha
        exact⟨v,by rw[if_neg (by omega),if_neg (by omega)];simpa using g2,g3.mono hev⟩
     ·rw[if_neg hjj] at hx
      have hmk:m<k':=by rw[← h3 j' x hx];exact(Va ha).1
      obtain⟨v,g2,g3⟩:=h4 j' x m a hx ha
      refine⟨v,?_,g3.mono hev⟩
      rcases Nat.lt_or_gt_of_ne hjj with hlt|hgt
      ·have:(j+1)*k'≤j'*k':=Nat.mul_le_mul_right k' hlt
       rw[Nat.add_mul] at this
       rw[if_neg (by omega),if_neg (by omega)];simpa using g2
      ·have:(j'+1)*k'≤j*k':=Nat.mul_le_mul_right k' hgt
       rw[Nat.add_mul] at this
       rw[if_pos (by omega)];simpa using g2
   ·cases hr
 ·cases hr
end
section
variable {P:Program} {T:TabT} {c:Cx}
theorem fieldPlace_ok{b o:Nat}{f:Field}{i:TypeInfo}(hi:P.info? f.type=some i)(hs:i.size≠0)(w:World):(fieldPlace ⟨b,o,none⟩ f).run P w=.ok ⟨b,o+f.offset,none⟩ w:=by
 simp[fieldPlace,sizeOf,typeInfo,hi,hs,Addr.add_mid]
theorem TIok.field{t:Nat}{ti:TI}(ht:TIok P t ti){n o ft:Nat}(h:ti.offs[n]? = some (o,ft))(hst:ti.sort=.st) :
  ∃ fs f i,P.underlying t=some (.struct fs)∧fs[n]? = some f∧f.offset=o∧f.type=ft∧P.info? f.type=some i∧i.size≠0:=by
 obtain⟨d,h1,h2⟩:=ht.desc
 unfold sortOk at h2
 rw[hst] at h2
 obtain⟨fs,rfl,h3,h4⟩:=h2
 rw[← h3,Vg] at h
 simp only[Ve] at h
 obtain⟨f,hf,he⟩:=h
 cases he
 obtain⟨i,hi,hs⟩:=h4 f (Vd hf)
 exact⟨fs,f,i,h1,by simpa using hf,rfl,rfl,hi,hs⟩
theorem afieldAddr_ok{t:Nat}{ti:TI}(ht:TIok P t ti){n:Nat}{v:Value}{x:AV}(hv:RV c v x){r:ARes}(hr:afieldAddr ti n x=some r)(hst:ti.sort=.st) :
  r.d=none∧∃ u,(Instr.fieldAt t v n).run P c.w=.ok u c.w∧RV c u r.v:=by
 unfold afieldAddr at hr
 have key:∀ (b o o' ft:Nat),ti.offs[n]? = some (o',ft)→(Instr.fieldAt t (.pointer (some ⟨b,o,none⟩)) n).run P c.w=.ok (.pointer (some ⟨b,o+o',none⟩)) c.w:=by
  intro b o o' ft h
  obtain⟨fs,f,i,h1,h2,rfl,rfl,h3,h4⟩:=ht.field h hst
  simp[Instr.fieldAt,run_underlying h1,h2,Instr.sureAddr,fieldPlace_ok h3 h4,Sem.run_bind]
 split at hr
 ·rename_i o' ft i o h
  cases hr
  cases hv with
  |ptr _ _ b hk hb hn=>exact⟨rfl,_,key b o o' ft h,.ptr i (o+o') b hk hb hn⟩
 ·rename_i o' ft cs h
  cases hr
  cases hv with
  |rptr _ b o vs h1 h2=>
   refine⟨rfl,_,key b o o' ft h,.rptr _ b (o+o') (fun j=>vs (o'+j)) (fun j a ha=>?_) (fun j a ha=>?_)⟩
   ·rw[List.getElem?_drop] at ha
    have:=h1 _ a ha
    rwa [← Nat.add_assoc] at this
   ·rw[List.getElem?_drop] at ha
    exact h2 _ a ha
 ·rename_i o' ft i k j o h
  cases hr
  cases hv with
  |eptr _ _ _ _ b hk hb hn=>
   have:=key b (j*k+o) o' ft h
   rw[Nat.add_assoc] at this
   exact⟨rfl,_,this,.eptr i k j (o+o') b hk hb hn⟩
 ·cases hr
theorem aindexAddr_ok(hT:TabOk P T){t:Nat}{ti:TI}(ht:TIok P t ti){v vi:Value}{x y:AV}(hv:RV c v x)(hi:RV c vi y){r:ARes}(hr:aindexAddr T ti x y=some r)(hp:r.p) :
  r.d=none∧∃ u,(Instr.indexAt t v vi).run P c.w=.ok u c.w∧RV c u r.v:=by
 obtain⟨d,hd,hso⟩:=ht.desc
 unfold sortOk at hso
 unfold aindexAddr at hr
 split at hr
 ·rename_i k l tk kk n
  split at hr
  ·rename_i e hs he
   cases hr
   rw[hs] at hso
   subst hso
   obtain⟨rfl,hk,h0,hlt⟩:=hp
   have hsz:=(hT _ _ he).sizeOf c.w
   cases hi
   cases hv with
   |sl _ _ _ A m cap b o vs hn hcap hm hA hk2 hc hr2 htk=>
    have hne:l≠[]:=by rintro rfl;simp at hlt;omega
    obtain rfl:=hA hne
    have hnl:n.toNat<l.length:=by omega
    refine⟨rfl,.pointer (some ⟨b,o+n.toNat*e.size,none⟩),?_,?_⟩
    ·have hn2:n<(m:Int):=by omega
     simp[Instr.indexAt,asIntOf,run_underlying hd,Sem.run_bind,h0,hn2,hsz,Addr.add_mid]
    ·rw[List.getD_eq_getElem?_getD,Vb hnl]
     exact .rptr _ b _ (fun j=>vs n.toNat j) (fun j a ha=>by obtain⟨g1,g2⟩:=hc _ _ j a (Vb hnl) ha;exact⟨AV.plain_cell g1,g2⟩) (fun j a ha=>hr2 _ _ j a (Vb hnl) ha)
  ·cases hr
 ·rename_i k l kk n
  split at hr
  ·rename_i e hs he
   cases hr
   rw[hs] at hso
   subst hso
   obtain⟨rfl,hk,h0,hlt⟩:=hp
   have hsz:=(hT _ _ he).sizeOf c.w
   cases hi
   cases hv with
   |psl _ _ A m cap b o vs hn hcap hm hA hk2 hc hr2=>
    have hne:l≠[]:=by rintro rfl;simp at hlt;omega
    obtain rfl:=hA hne
    have hnl:n.toNat<l.length:=by omega
    refine⟨rfl,.pointer (some ⟨b,o+n.toNat*e.size,none⟩),?_,?_⟩
    ·have hn2:n<(m:Int):=by omega
     simp[Instr.indexAt,asIntOf,run_underlying hd,Sem.run_bind,h0,hn2,hsz,Addr.add_mid]
    ·rw[List.getD_eq_getElem?_getD,Vb hnl]
     exact .rptr _ b _ (fun j=>vs n.toNat j) (fun j a ha=>hc _ _ j a (Vb hnl) ha) (fun j a ha=>hr2 _ _ j a (Vb hnl) ha)
  ·cases hr
 ·rename_i i k o m cp kk n
  split at hr
  ·rename_i e hs he
   cases hr
   rw[hs] at hso
   subst hso
   obtain⟨rfl,hk,h0,hlt⟩:=hp
   have hsz:=(hT _ _ he).sizeOf c.w
   cases hi
   cases hv with
   |msl _ _ _ _ _ b o' hk hb hn hcap hm ho=>
    refine⟨rfl,.pointer (some ⟨b,(o+n.toNat)*e.size+0,none⟩),?_,.eptr i e.size (o+n.toNat) 0 b hk hb hn⟩
    obtain rfl:=ho (by omega)
    have e1:o*e.size+n.toNat*e.size=(o+n.toNat)*e.size:=by rw[Nat.add_mul]
    simp[Instr.indexAt,asIntOf,run_underlying hd,Sem.run_bind,h0,hlt,hsz,Addr.add_mid,e1]
  ·cases hr
 ·rename_i i k m kk n
  split at hr
  ·rename_i e hs he
   cases hr
   rw[hs] at hso
   subst hso
   obtain⟨rfl,hk,h0,hlt⟩:=hp
   have hsz:=(hT _ _ he).sizeOf c.w
   cases hi
   cases hv with
   |msu _ _ _ cap b hk hb hn hcap hm hz=>
    refine⟨rfl,.pointer (some ⟨b,n.toNat*e.size+0,none⟩),?_,.eptr i e.size n.toNat 0 b hk hb hn⟩
    simp[Instr.indexAt,asIntOf,run_underlying hd,Sem.run_bind,h0,hlt,hsz,Addr.add_mid]
  ·cases hr
 ·rename_i i o kk n
  split at hr
  ·rename_i m e hs he
   cases hr
   rw[hs] at hso
   subst hso
   obtain⟨hk,h0,hlt⟩:=hp
   have hsz:=(hT _ _ he).sizeOf c.w
   cases hi
   cases hv with
   |ptr _ _ b hk hb hn=>
    refine⟨rfl,.pointer (some ⟨b,o+n.toNat*e.size,none⟩),?_,.ptr i _ b hk hb hn⟩
    simp[Instr.indexAt,asIntOf,run_underlying hd,Sem.run_bind,Instr.sureAddr,h0,hlt,hsz,Addr.add_mid]
  ·cases hr
 ·rename_i cs kk n
  split at hr
  ·rename_i m e hs he
   cases hr
   rw[hs] at hso
   subst hso
   obtain⟨hk,h0,hlt⟩:=hp
   have hsz:=(hT _ _ he).sizeOf c.w
   cases hi
   cases hv with
   |rptr _ b o vs h1 h2=>
    refine⟨rfl,.pointer (some ⟨b,o+n.toNat*e.size,none⟩),?_,.rptr _ b _ (fun j=>vs (n.toNat*e.size+j)) (fun j a ha=>?_) (fun j a ha=>?_)⟩
    ·simp[Instr.indexAt,asIntOf,run_underlying hd,Sem.run_bind,Instr.sureAddr,h0,hlt,hsz,Addr.add_mid]
    ·rw[List.getElem?_drop] at ha
     have:=h1 _ a ha
     rwa [← Nat.add_assoc] at this
    ·rw[List.getElem?_drop] at ha
     exact h2 _ a ha
  ·cases hr
 ·cases hr
theorem apart_ok{t:Nat}{ti:TI}(ht:TIok P t ti){vs:Array Value}{cs:List AV}(hs:vs.size=cs.length)(hc:∀ (i:Nat) a,cs[i]? = some a→a.cell=true)(hr':∀ (i:Nat) v a,vs[i]? = some v→cs[i]? = some a→RV c v a){o:Nat}{r:ARes}(hr:apart ti cs o=some r)(hp:r.p)(w:World) :
  r.d=none∧∃ u,(Go.part t vs o).run P w=.ok u w∧RV c u r.v:=by
 unfold apart at hr
 simp only[Ve] at hr
 obtain⟨y,hy,rfl⟩:=hr
 refine⟨rfl,?_⟩
 have hag:=ht.isAgg w
 have hsz:=ht.sizeOf w
 unfold cellsAs at hy
 split at hy
 ·rename_i hagg
  cases hy
  refine⟨.agg (vs.extract o (o+ti.size)),by simp[Go.part,Sem.run_bind,hag,hagg,hsz],.agg _ _ (by simp at hp;simp;omega) (fun j a ha=>?_) fun j v a hv ha=>?_⟩
  ·rw[List.getElem?_take] at ha
   split at ha
   ·rw[List.getElem?_drop] at ha;exact hc _ a ha
   ·cases ha
  ·rw[List.getElem?_take] at ha
   split at ha
   ·rw[List.getElem?_drop] at ha
    rw[Array.getElem?_extract] at hv
    split at hv
    ·exact hr' _ v a hv ha
    ·cases hv
   ·cases ha
 ·rename_i hagg
  have hagg':ti.agg=false:=by simpa using hagg
  split at hy
  ·rename_i x hx
   cases hy
   have h1:cs[o]? = some y:=by
    have:=congrArg (·[0]?) hx
    simp only[Y1,List.getElem?_take,ht.one hagg',Nat.zero_lt_one,Ys,List.getElem?_drop,Yq] at this
    exact this
   have ho:o<vs.size:=by rw[hs];exact(Va h1).1
   refine⟨vs[o],by simp[Go.part,Sem.run_bind,hag,hagg',ho],hr' o _ y (Vc ho) h1⟩
  ·cases hy
theorem afield_ok(hT:TabOk P T){t:Nat}{ti:TI}(ht:TIok P t ti){n:Nat}{v:Value}{x:AV}(hv:RV c v x){r:ARes}(hr:afield T ti n x=some r)(hp:r.p) :
  r.d=none∧∃ u,(Instr.field t v n).run P c.w=.ok u c.w∧RV c u r.v:=by
 unfold afield at hr
 split at hr
 ·rename_i cs
  split at hr
  ·rename_i o ft hst ho
   simp only[Option.bind_eq_some_iff] at hr
   obtain⟨fi,hfi,hr⟩:=hr
   obtain⟨fs,f,i,h1,h2,rfl,rfl,h3,h4⟩:=ht.field ho hst
   cases hv with
   |agg vs _ hs hc hr'=>
    obtain⟨g1,u,g2,g3⟩:=apart_ok (hT _ _ hfi) hs hc hr' hr hp c.w
    exact⟨g1,u,by simp[Instr.field,run_underlying h1,h2,Sem.run_bind,asAgg,g2],g3⟩
  ·cases hr
 ·cases hr
theorem aindex_ok(hT:TabOk P T){t:Nat}{ti:TI}(ht:TIok P t ti){v vi:Value}{x y:AV}(hv:RV c v x)(hi:RV c vi y){r:ARes}(hr:aindex T ti x y=some r)(hp:r.p) :
  r.d=none∧∃ u,(Instr.index t v vi).run P c.w=.ok u c.w∧RV c u r.v:=by
 obtain⟨d,hd,hso⟩:=ht.desc
 unfold sortOk at hso
 unfold aindex at hr
 split at hr
 ·rename_i cs kk n
  split at hr
  ·rename_i m e hs he
   simp only[Ve] at hr
   obtain⟨q,hq,rfl⟩:=hr
   rw[hs] at hso
   subst hso
   obtain⟨⟨h0,hlt⟩,hp⟩:=hp
   have hsz:=(hT _ _ he).sizeOf c.w
   cases hi
   cases hv with
   |agg vs _ hs hc hr'=>
    obtain⟨g1,u,g2,g3⟩:=apart_ok (hT _ _ he) hs hc hr' hq hp c.w
    exact⟨rfl,u,by simp[Instr.index,asIntOf,run_underlying hd,Sem.run_bind,h0,hlt,hsz,g2],g3⟩
  ·cases hr
 ·rename_i l kk n
  split at hr
  ·rename_i hs
   cases hr
   rw[hs] at hso
   subst hso
   obtain⟨h0,hlt⟩:=hp
   cases hi
   cases hv with
   |str s _ hl=>
    have hsz:n.toNat<s.data.toList.length:=by rw[hl];omega
    have hsz':n.toNat<s.size:=by simpa using hsz
    have e1:l.getD n.toNat 0=s[n.toNat]:=by
     rw[List.getD_eq_getElem?_getD,← hl,Vb hsz]
     simp[ByteArray.getElem_eq_getElem_data]
    refine⟨rfl,.int .u8 (s[n.toNat].toNat:Int),?_,by rw[e1];exact .int _ _⟩
    simp[Instr.index,asIntOf,run_underlying hd,Sem.run_bind,h0,hsz']
  ·cases hr
 ·cases hr
end
section
variable {P:Program} {T:TabT} {c:Cx}
theorem str_beq{s s':ByteArray}:(s.toList==s'.toList)=decide (s.data.toList=s'.data.toList):=by
 rw[ByteArray.toList_eq,ByteArray.toList_eq,Bool.eq_iff_iff]
 simp
theorem scal_eq{ft:Nat}{s:TS}(hs:scalB P ft s=true){v u:Value}{x y:AV}{xs ys:List AV}{ss:List TS}{r:Bool}(hv:RV c v x)(hu:RV c u y)(h:aeqs (s::ss) (x::xs) (y::ys)=some r)(d:Nat)(w:World) :
  ∃ q r',aeqs ss xs ys=some r'∧r=(q&&r')∧(Op.equalIn (d+1) ft v u).run P w=.ok q w:=by
 unfold aeqs at h
 unfold scalB at hs
 split at h
 ·rename_i e _ _;cases e
 ·rename_i e1 e2 e3
  cases e1;cases e2;cases e3
  split at h
  ·rename_i hk
   subst hk
   simp only[Ve] at h
   obtain⟨r',hr,rfl⟩:=h
   split at hs<;>first|cases hs;done|skip
   ·rename_i _ e;cases e
   ·rename_i _ _ hd _
    cases hv;cases hu
    exact⟨_,r',hr,rfl,by rw[run_equalIn_int w d ft _ _ _ _ hd];congr 1⟩
   ·rename_i _ e;cases e
  ·cases h
 ·rename_i e1 e2 e3
  cases e1;cases e2;cases e3
  simp only[Ve] at h
  obtain⟨r',hr,rfl⟩:=h
  split at hs<;>first|cases hs;done|skip
  ·rename_i hd _
   cases hv;cases hu
   exact⟨_,r',hr,rfl,run_equalIn_bool w d ft _ _ hd⟩
  ·rename_i _ e;cases e
  ·rename_i _ e;cases e
 ·rename_i e1 e2 e3
  cases e1;cases e2;cases e3
  simp only[Ve] at h
  obtain⟨r',hr,rfl⟩:=h
  split at hs<;>first|cases hs;done|skip
  ·rename_i _ e;cases e
  ·rename_i _ e;cases e
  ·rename_i hd _
   cases hv with
   |str s1 _ h1=>
    cases hu with
    |str s2 _ h2=>
     subst h1 h2
     exact⟨_,r',hr,rfl,by rw[run_equalIn_string w d ft _ _ hd,str_beq]⟩
 ·cases h
theorem eqFields_flat{vs us:Array Value}{xs ys:List AV}(hv:vs.size=xs.length)(hu:us.size=ys.length)(rv:∀ (i:Nat) v a,vs[i]? = some v→xs[i]? = some a→RV c v a)(ru:∀ (i:Nat) v a,us[i]? = some v→ys[i]? = some a→RV c v a)(d:Nat)(w:World) :
  ∀ (fs:List Field) (o:Nat) (ss:List TS) (r:Bool),flatL P fs o ss=true→aeqs ss (xs.drop o) (ys.drop o)=some r→(Op.eqFields (d+1) vs us fs).run P w=.ok r w
 |[],o,ss,r,h,ha=>by
  cases ss with
  |cons s ss=>cases h
  |nil=>
   unfold aeqs at ha
   split at ha
   ·cases ha;simp[Op.eqFields]
   ·rename_i e _ _;cases e
   ·rename_i e _ _;cases e
   ·rename_i e _ _;cases e
   ·cases ha
 |f::fs,o,[],r,h,ha=>by cases h
 |f::fs,o,s::ss,r,h,ha=>by
  simp only[flatL,Vi,beq_iff_eq,bne_iff_ne] at h
  obtain⟨⟨⟨h1,h2⟩,h3⟩,h4⟩:=h
  cases hx:xs.drop o with
  |nil=>rw[hx] at ha;simp[aeqs] at ha
  |cons x xs'=>
   cases hy:ys.drop o with
   |nil=>rw[hx,hy] at ha;simp[aeqs] at ha
   |cons y ys'=>
    rw[hx,hy] at ha
    have hxo:xs[o]? = some x:=by have:=congrArg (·[0]?) hx;simpa [List.getElem?_drop] using this
    have hyo:ys[o]? = some y:=by have:=congrArg (·[0]?) hy;simpa [List.getElem?_drop] using this
    have hvo:o<vs.size:=by rw[hv];exact(Va hxo).1
    have huo:o<us.size:=by rw[hu];exact(Va hyo).1
    have hx':xs.drop (o+1)=xs':=by rw[← List.drop_drop,hx];rfl
    have hy':ys.drop (o+1)=ys':=by rw[← List.drop_drop,hy];rfl
    obtain⟨q,r',g1,rfl,g2⟩:=scal_eq h3 (rv o vs[o] x (Vc hvo) hxo) (ru o us[o] y (Vc huo) hyo) ha d w
    have ih:=eqFields_flat hv hu rv ru d w fs (o+1) ss r' h4 (by rw[hx',hy'];exact g1)
    have hag:∀ W:World,(isAgg f.type).run P W=.ok false W:=by
     intro W
     unfold scalB at h3
     unfold Go.isAgg
     rw[Sem.run_bind]
     split at h3<;>first|cases h3;done|(rename_i hd _;rw[run_underlying hd];simp)|(rename_i hd;rw[run_underlying hd];simp)
    have p1:(Go.part f.type vs f.offset).run P w=.ok vs[o] w:=by simp[Go.part,Sem.run_bind,hag,h1,hvo]
    have p2:(Go.part f.type us f.offset).run P w=.ok us[o] w:=by simp[Go.part,Sem.run_bind,hag,h1,huo]
    simp only[Op.eqFields,ne_eq,h2,not_false_eq_true,Ys,Sem.run_bind,p1,p2,g2,Result.andThen_ok]
    cases q
    ·simp
    ·simpa using ih
theorem eqItems_flat{e:Nat}{vs us:Array Value}{xs ys:List AV}(hv:vs.size=xs.length)(hu:us.size=ys.length)(rv:∀ (i:Nat) v a,vs[i]? = some v→xs[i]? = some a→RV c v a)(ru:∀ (i:Nat) v a,us[i]? = some v→ys[i]? = some a→RV c v a)(d:Nat)(w:World) :
  ∀ (ss:List TS) (o:Nat) (r:Bool),ss.all (scalB P e)=true→aeqs ss (xs.drop o) (ys.drop o)=some r→(Op.eqItems (d+1) e 1 vs us (List.range' o ss.length)).run P w=.ok r w
 |[],o,r,h,ha=>by
  unfold aeqs at ha
  split at ha
  ·cases ha;simp[Op.eqItems]
  ·rename_i e _ _;cases e
  ·rename_i e _ _;cases e
  ·rename_i e _ _;cases e
  ·cases ha
 |s::ss,o,r,h,ha=>by
  simp only[List.all_cons,Vi] at h
  obtain⟨h3,h4⟩:=h
  cases hx:xs.drop o with
  |nil=>rw[hx] at ha;simp[aeqs] at ha
  |cons x xs'=>
   cases hy:ys.drop o with
   |nil=>rw[hx,hy] at ha;simp[aeqs] at ha
   |cons y ys'=>
    rw[hx,hy] at ha
    have hxo:xs[o]? = some x:=by have:=congrArg (·[0]?) hx;simpa [List.getElem?_drop] using this
    have hyo:ys[o]? = some y:=by have:=congrArg (·[0]?) hy;simpa [List.getElem?_drop] using this
    have hvo:o<vs.size:=by rw[hv];exact(Va hxo).1
    have huo:o<us.size:=by rw[hu];exact(Va hyo).1
    have hx':xs.drop (o+1)=xs':=by rw[← List.drop_drop,hx];rfl
    have hy':ys.drop (o+1)=ys':=by rw[← List.drop_drop,hy];rfl
    obtain⟨q,r',g1,rfl,g2⟩:=scal_eq h3 (rv o vs[o] x (Vc hvo) hxo) (ru o us[o] y (Vc huo) hyo) ha d w
    have ih:=eqItems_flat hv hu rv ru d w ss (o+1) r' h4 (by rw[hx',hy'];exact g1)
    have hag:∀ W:World,(isAgg e).run P W=.ok false W:=by
     intro W
     unfold scalB at h3
     unfold Go.isAgg
     rw[Sem.run_bind]
     split at h3<;>first|cases h3;done|(rename_i hd _;rw[run_underlying hd];simp)|(rename_i hd;rw[run_underlying hd];simp)
    have p1:(Go.part e vs (o*1)).run P w=.ok vs[o] w:=by simp[Go.part,Sem.run_bind,hag,hvo]
    have p2:(Go.part e us (o*1)).run P w=.ok us[o] w:=by simp[Go.part,Sem.run_bind,hag,huo]
    simp only[Ya,List.range'_succ,Op.eqItems,Sem.run_bind,p1,p2,g2,Result.andThen_ok]
    cases q
    ·simp
    ·simpa using ih
theorem agg_eq{t:Nat}{ss:List TS}(hf:flatEq P t ss=true){vs us:Array Value}{xs ys:List AV}(hv:vs.size=xs.length)(hu:us.size=ys.length)(rv:∀ (i:Nat) v a,vs[i]? = some v→xs[i]? = some a→RV c v a)(ru:∀ (i:Nat) v a,us[i]? = some v→ys[i]? = some a→RV c v a){r:Bool}(ha:aeqs ss xs ys=some r)(w:World) :
  P.eqGuardType P.depth t=false∧(Op.equalIn 10000 t (.agg vs) (.agg us)).run P w=.ok r w:=by
 unfold flatEq at hf
 split at hf
 ·rename_i fs hd
  simp only[Vi,Bool.not_eq_true'] at hf
  refine⟨hf.2,?_⟩
  rw[run_equalIn_struct w 9999 t vs us (by simp[Program.fieldsOf,hd]) hf.1.1]
  rw[show P.fieldsOf t=fs by simp[Program.fieldsOf,hd]]
  exact eqFields_flat hv hu rv ru 9998 w fs.toList 0 ss r hf.1.2 (by simpa using ha)
 ·rename_i n e hd
  simp only[Vi,Bool.not_eq_true',beq_iff_eq] at hf
  obtain⟨⟨⟨⟨h1,h2⟩,h3⟩,h4⟩,h5⟩:=hf
  refine⟨h5,?_⟩
  obtain⟨i,hi⟩:=Option.isSome_iff_exists.1 h4
  rw[run_equalIn_array w 9999 vs us hd hi,h3,List.range_eq_range',← h1]
  exact eqItems_flat hv hu rv ru 9998 w ss 0 r h2 (by simpa using ha)
 ·cases hf
theorem acmp_ok(op:BinOp)(a b:Int){r:Bool}(h:acmp op a b=some r)(w:World):(Op.intCmp op a b).run P w=.ok (.bool r) w:=by
 unfold acmp at h
 split at h<;>cases h
 all_goals (simp[Op.intCmp])
 all_goals (try rw[Bool.eq_iff_iff];simp)
end
section
variable {P:Program} {T:TabT} {c:Cx}
theorem aarith_ok{op:BinOp}{k:IntKind}{a b:Int}{r:ARes}(hr:aarith op k a b=some r)(hp:r.p)(w:World) :
  r.d=none∧∃ q,(match op with|.add|.sub|.mul=>Op.intArith op k a b|.quo|.rem=>Op.intDiv op k a b|.and|.or|.xor|.andNot=>Op.intBits op k a b|_=>Op.intCmp op a b:Sem Value).run P w=.ok q w∧RV c q r.v:=by
 unfold aarith at hr
 split at hr
 ·split at hr
  ·rename_i hk;subst hk;cases hr
   exact⟨rfl,_,by simp[Op.intArith,IntWalk.i64_in _ hp],.int _ _⟩
  ·cases hr;exact⟨rfl,_,by simp[Op.intArith],.int _ _⟩
 ·split at hr
  ·rename_i hk;subst hk;cases hr
   exact⟨rfl,_,by simp[Op.intArith,IntWalk.i64_in _ hp],.int _ _⟩
  ·cases hr;exact⟨rfl,_,by simp[Op.intArith],.int _ _⟩
 ·split at hr
  ·rename_i hk;subst hk;cases hr
   exact⟨rfl,_,by simp[Op.intArith,IntWalk.i64_in _ hp],.int _ _⟩
  ·cases hr;exact⟨rfl,_,by simp[Op.intArith],.int _ _⟩
 ·split at hr
  ·rename_i hk;subst hk;cases hr
   exact⟨rfl,_,by simp[Op.intDiv,hp.1,IntWalk.i64_in _ hp.2],.int _ _⟩
  ·cases hr;exact⟨rfl,_,by simp[Op.intDiv,show b≠0 from hp],.int _ _⟩
 ·cases hr;exact⟨rfl,_,by simp[Op.intDiv,show b≠0 from hp],.int _ _⟩
 ·cases hr;exact⟨rfl,.int k (bits .and k a b),rfl,.int _ _⟩
 ·cases hr;exact⟨rfl,.int k (bits .or k a b),rfl,.int _ _⟩
 ·cases hr;exact⟨rfl,.int k (bits .xor k a b),rfl,.int _ _⟩
 ·cases hr;exact⟨rfl,.int k (bits .andNot k a b),rfl,.int _ _⟩
 ·cases hr
theorem ashift_ok{op:BinOp}{k:IntKind}{a b:Int}{r:ARes}(hr:ashift op k a b=some r)(hp:r.p)(w:World) :
  r.d=none∧∃ q,(Op.shift op k a k b).run P w=.ok q w∧RV c q r.v∧(op=.shl∨op=.shr):=by
 unfold ashift at hr
 split at hr
 ·cases hr
  have h:¬b<0:=by have:=hp;simp at this;omega
  exact⟨rfl,.int k (k.wrap (a*2^min b.toNat k.bits)),by simp[Op.shift,h],.int _ _,.inl rfl⟩
 ·cases hr
  have h:¬b<0:=by have:=hp;simp at this;omega
  exact⟨rfl,.int k (a.fdiv (2^min b.toNat k.bits)),by simp[Op.shift,h],.int _ _,.inr rfl⟩
 ·cases hr
theorem run_iface_nil(d:Nat)(t:TypeId){ms:Array (String×TypeId)}(hd:P.underlying t=some (.interface ms))(tt:TypeId)(vv:Value)(w:World):(Op.equalIn (d+1) t (.iface tt vv) .nilIface).run P w=.ok false w:=by
 simp[Op.equalIn,run_underlying hd]
theorem run_sl_nil(d:Nat)(t:TypeId){el:Nat}(hd:P.underlying t=some (.slice el))(a:Addr)(n cap:Nat)(w:World):(Op.equalIn (d+1) t (.slice (some a) n cap) (.slice none 0 0)).run P w=.ok false w:=by
 simp[Op.equalIn,run_underlying hd]
theorem run_nils_nils(d:Nat)(t:TypeId){el:Nat}(hd:P.underlying t=some (.slice el))(n cap:Nat)(w:World):(Op.equalIn (d+1) t (.slice none n cap) (.slice none 0 0)).run P w=.ok true w:=by
 simp[Op.equalIn,run_underlying hd]
theorem run_nil_nil(d:Nat)(t:TypeId){ms:Array (String×TypeId)}(hd:P.underlying t=some (.interface ms))(w:World):(Op.equalIn (d+1) t .nilIface .nilIface).run P w=.ok true w:=by
 simp[Op.equalIn,run_underlying hd]
theorem run_guard_nil(op:BinOp)(t:TypeId)(x y:Operand)(h:(isc x||isc y)=true)(w:World):(eqGuard op t x y .nilIface .nilIface).run P w=.ok () w:=by
 cases x<;>cases y<;>first|(cases h;done)|(cases op<;>simp[eqGuard])
theorem abin_ok{op:BinOp}{t:Nat}{ti:TI}(ht:TIok P t ti){x y:Operand}{v u:Value}{a b:AV}(hv:RV c v a)(hu:RV c u b){r:ARes}(hr:abin op ti (isc x||isc y) a b=some r)(hp:r.p) :
  r.d=none∧∃ q,(do eqGuard op t x y v u;binOp op t v u:Sem Value).run P c.w=.ok q c.w∧RV c q r.v:=by
 unfold abin at hr
 split at hr
 ·rename_i k a k' b
  split at hr
  ·rename_i q hq
   cases hr
   obtain⟨h1,u,h2,h3,h4⟩:=ashift_ok (P:=P) (c:=c) hq hp c.w
   cases hv;cases hu
   refine⟨h1,u,?_,h3⟩
   have hg:(eqGuard op t x y (.int k a) (.int k' b)).run P c.w=.ok () c.w:=by cases op<;>simp[eqGuard]
   rcases h4 with rfl|rfl
   ·simp[Sem.run_bind,hg,binOp];exact h2
   ·simp[Sem.run_bind,hg,binOp];exact h2
  split at hr
  ·rename_i hk;subst hk
   cases hv;cases hu
   have hg:(eqGuard op t x y (.int k a) (.int k b)).run P c.w=.ok () c.w:=by cases op<;>simp[eqGuard]
   split at hr
   ·rename_i q hq
    cases hr
    refine⟨rfl,.bool q,?_,.bool _⟩
    have hcm:=acmp_ok (P:=P) op a b hq c.w
    have hbo:(binOp op t (.int k a) (.int k b)).run P c.w=.ok (.bool q) c.w:=by
     unfold acmp at hq
     split at hq<;>first|cases hq;done|skip
     all_goals (simp only[binOp,ne_eq,not_true_eq_false,Yr];exact hcm)
    simp[Sem.run_bind,hg,hbo]
   ·obtain⟨h1,q,h2,h3⟩:=aarith_ok (P:=P) (c:=c) hr hp c.w
    refine⟨h1,q,?_,h3⟩
    have hbo:(binOp op t (.int k a) (.int k b)).run P c.w=.ok q c.w:=by
     unfold aarith at hr
     split at hr<;>first|cases hr;done|skip
     all_goals (simp only[binOp,ne_eq,not_true_eq_false,Yr];exact h2)
    simp[Sem.run_bind,hg,hbo]
  ·cases hr
 ·rename_i a b
  cases hv with
  |str s1 _ h1=>
   cases hu with
   |str s2 _ h2=>
    subst h1 h2
    have hg:(eqGuard op t x y (.string s1) (.string s2)).run P c.w=.ok () c.w:=by cases op<;>simp[eqGuard]
    split at hr<;>first|cases hr;done|skip
    ·cases hr
     exact⟨rfl,_,by simp[hg,binOp,Op.stringOp,str_beq],.bool _⟩
    ·cases hr
     exact⟨rfl,_,by simp[hg,binOp,Op.stringOp,str_beq],.bool _⟩
    ·cases hr
     have hn:¬((s1.size+s2.size:Nat):Int) > IntKind.i64.max:=by
      have:((s1.data.toList.length+s2.data.toList.length:Nat):Int)≤9223372036854775807:=hp
      have e:IntKind.i64.max=9223372036854775807:=by decide
      simp at this
      rw[e];omega
     exact⟨rfl,.string (s1++s2),by simp only[Sem.run_bind,hg,Result.andThen_ok,binOp,Op.stringOp,if_neg hn,Sem.run_pure],.str _ _ (by simp)⟩
    ·cases hr
     exact⟨rfl,_,by simp[hg,binOp,Op.stringOp];rfl,by rw[← ByteArray.toList_eq,← ByteArray.toList_eq];exact .bool _⟩
 ·cases hv;cases hu
  obtain⟨d,hd,hso⟩:=ht.desc
  unfold sortOk at hso
  split at hr<;>first|cases hr;done|skip
  ·rename_i hs;rw[hs] at hso;subst hso;cases hr
   exact⟨rfl,_,by simp[eqGuard,binOp,run_equal_bool c.w t _ _ hd],.bool _⟩
  ·rename_i hs;rw[hs] at hso;subst hso;cases hr
   exact⟨rfl,_,by simp[eqGuard,binOp,run_equal_bool c.w t _ _ hd],.bool _⟩
 ·cases hv with
  |agg vs xs h1 h2 h3=>
   cases hu with
   |agg us ys g1 g2 g3=>
    split at hr<;>first|cases hr;done|skip
    ·rename_i s ss hs
     simp only[Ve] at hr
     obtain⟨q,hq,rfl⟩:=hr
     obtain⟨w1,w2⟩:=agg_eq (ht.eq (by rw[hs];simp)) h1 g1 h3 g3 (by rw[hs];exact hq) c.w
     exact⟨rfl,.bool q,by simp only[Sem.run_bind,run_eqGuard_agg c.w _ t x y vs us w1,Result.andThen_ok,run_eql_struct,w2],.bool _⟩
    ·rename_i s ss hs
     simp only[Ve] at hr
     obtain⟨q,hq,rfl⟩:=hr
     obtain⟨w1,w2⟩:=agg_eq (ht.eq (by rw[hs];simp)) h1 g1 h3 g3 (by rw[hs];exact hq) c.w
     exact⟨rfl,.bool (!q),by simp only[Sem.run_bind,run_eqGuard_agg c.w _ t x y vs us w1,Result.andThen_ok,run_neq_struct,w2],.bool _⟩
 ·cases hv with
  |iface tt vv aa ha=>
   cases hu
   obtain⟨d,hd,hso⟩:=ht.desc
   unfold sortOk at hso
   split at hr<;>first|cases hr;done|skip
   ·rename_i hs;rw[hs] at hso;obtain⟨ms,rfl⟩:=hso;cases hr
    have he:=fun tt=>run_iface_nil 9999 t hd tt vv c.w
    exact⟨rfl,.bool false,by simp[eqGuard,binOp,Op.equal,Op.maxDepth,he],.bool _⟩
   ·rename_i hs;rw[hs] at hso;obtain⟨ms,rfl⟩:=hso;cases hr
    have he:=fun tt=>run_iface_nil 9999 t hd tt vv c.w
    exact⟨rfl,.bool true,by simp[eqGuard,binOp,Op.equal,Op.maxDepth,he],.bool _⟩
 ·cases hv with
  |msl _ _ _ _ _ b o' h1 h2 h3 h4 h5 h6=>
   cases hu
   obtain⟨d,hd,hso⟩:=ht.desc
   unfold sortOk at hso
   split at hr<;>first|cases hr;done|skip
   ·rename_i hs;rw[hs] at hso;subst hso;cases hr
    have he:=fun a n cap=>run_sl_nil 9999 t hd a n cap c.w
    exact⟨rfl,.bool false,by simp[eqGuard,binOp,Op.equal,Op.maxDepth,he],.bool _⟩
   ·rename_i hs;rw[hs] at hso;subst hso;cases hr
    have he:=fun a n cap=>run_sl_nil 9999 t hd a n cap c.w
    exact⟨rfl,.bool true,by simp[eqGuard,binOp,Op.equal,Op.maxDepth,he],.bool _⟩
 ·split at hr
  ·cases hr
  ·rename_i hl0
   cases hv with
   |sl _ _ _ A m cap b o vs h1 h2 h3 h4 h5 h6 h7 h8=>
    cases hu
    obtain rfl:=h4 (fun e=>hl0 (by rw[e];rfl))
    obtain⟨d,hd,hso⟩:=ht.desc
    unfold sortOk at hso
    split at hr<;>first|cases hr;done|skip
    ·rename_i hs;rw[hs] at hso;subst hso;cases hr
     have he:=fun a n cap=>run_sl_nil 9999 t hd a n cap c.w
     exact⟨rfl,.bool false,by simp[eqGuard,binOp,Op.equal,Op.maxDepth,he],.bool _⟩
    ·rename_i hs;rw[hs] at hso;subst hso;cases hr
     have he:=fun a n cap=>run_sl_nil 9999 t hd a n cap c.w
     exact⟨rfl,.bool true,by simp[eqGuard,binOp,Op.equal,Op.maxDepth,he],.bool _⟩
 ·split at hr
  ·cases hr
  ·rename_i hl0
   cases hv with
   |psl _ _ A m cap b o vs h1 h2 h3 h4 h5 h6 h7=>
    cases hu
    obtain rfl:=h4 (fun e=>hl0 (by rw[e];rfl))
    obtain⟨d,hd,hso⟩:=ht.desc
    unfold sortOk at hso
    split at hr<;>first|cases hr;done|skip
    ·rename_i hs;rw[hs] at hso;subst hso;cases hr
     have he:=fun a n cap=>run_sl_nil 9999 t hd a n cap c.w
     exact⟨rfl,.bool false,by simp[eqGuard,binOp,Op.equal,Op.maxDepth,he],.bool _⟩
    ·rename_i hs;rw[hs] at hso;subst hso;cases hr
     have he:=fun a n cap=>run_sl_nil 9999 t hd a n cap c.w
     exact⟨rfl,.bool true,by simp[eqGuard,binOp,Op.equal,Op.maxDepth,he],.bool _⟩
 ·cases hv with
  |msu _ _ _ cap b h1 h2 h3 h4 h5 h6=>
   cases hu
   obtain⟨d,hd,hso⟩:=ht.desc
   unfold sortOk at hso
   split at hr<;>first|cases hr;done|skip
   ·rename_i hs;rw[hs] at hso;subst hso;cases hr
    have he:=fun a n cap=>run_sl_nil 9999 t hd a n cap c.w
    exact⟨rfl,.bool false,by simp[eqGuard,binOp,Op.equal,Op.maxDepth,he],.bool _⟩
   ·rename_i hs;rw[hs] at hso;subst hso;cases hr
    have he:=fun a n cap=>run_sl_nil 9999 t hd a n cap c.w
    exact⟨rfl,.bool true,by simp[eqGuard,binOp,Op.equal,Op.maxDepth,he],.bool _⟩
 ·cases hv;cases hu
  obtain⟨d,hd,hso⟩:=ht.desc
  unfold sortOk at hso
  split at hr<;>first|cases hr;done|skip
  ·rename_i hs;rw[hs] at hso;subst hso;cases hr
   have he:=fun n cap=>run_nils_nils 9999 t hd n cap c.w
   exact⟨rfl,.bool true,by simp[eqGuard,binOp,Op.equal,Op.maxDepth,he],.bool _⟩
  ·rename_i hs;rw[hs] at hso;subst hso;cases hr
   have he:=fun n cap=>run_nils_nils 9999 t hd n cap c.w
   exact⟨rfl,.bool false,by simp[eqGuard,binOp,Op.equal,Op.maxDepth,he],.bool _⟩
 ·cases hv;cases hu
  obtain⟨d,hd,hso⟩:=ht.desc
  unfold sortOk at hso
  split at hr<;>first|cases hr;done|skip
  ·rename_i hs hk;rw[hs] at hso;obtain⟨ms,rfl⟩:=hso;cases hr
   have he:=run_nil_nil 9999 t hd c.w
   exact⟨rfl,.bool true,by simp[Sem.run_bind,run_guard_nil _ t x y hk,binOp,Op.equal,Op.maxDepth,he],.bool _⟩
  ·rename_i hs hk;rw[hs] at hso;obtain⟨ms,rfl⟩:=hso;cases hr
   have he:=run_nil_nil 9999 t hd c.w
   exact⟨rfl,.bool false,by simp[Sem.run_bind,run_guard_nil _ t x y hk,binOp,Op.equal,Op.maxDepth,he],.bool _⟩
 ·cases hr
theorem alen_ok{t:Nat}{ti:TI}(ht:TIok P t ti){v:Value}{x:AV}(hv:RV c v x){r:ARes}(hr:alen ti x=some r)(ty:TypeId):r.d=none∧∃ q,(Builtin.len_ #[t] ty #[v]).run P c.w=.ok q c.w∧RV c q r.v:=by
 obtain⟨d,hd,hso⟩:=ht.desc
 unfold sortOk at hso
 unfold alen at hr
 split at hr<;>first|cases hr;done|skip
 all_goals (split at hr<;>first|cases hr;done|skip)
 all_goals (rename_i hs;rw[hs] at hso;subst hso;cases hr)
 ·cases hv with
  |sl _ _ _ A n cap b o vs hn=>subst hn;exact⟨rfl,_,by simp[Builtin.len_,Sem.run_bind,run_underlying hd,goInt],.int _ _⟩
 ·cases hv with
  |psl _ _ A n cap b o vs hn=>subst hn;exact⟨rfl,_,by simp[Builtin.len_,Sem.run_bind,run_underlying hd,goInt],.int _ _⟩
 ·cases hv;exact⟨rfl,_,by simp[Builtin.len_,Sem.run_bind,run_underlying hd,goInt],.int _ _⟩
 ·cases hv;exact⟨rfl,_,by simp[Builtin.len_,Sem.run_bind,run_underlying hd,goInt],.int _ _⟩
 ·cases hv;exact⟨rfl,_,by simp[Builtin.len_,Sem.run_bind,run_underlying hd,goInt],.int _ _⟩
 ·cases hv with
  |str s _ h=>subst h;exact⟨rfl,.int .i64 s.size,by simp[Builtin.len_,Sem.run_bind,run_underlying hd,goInt],by simp;exact .int _ _⟩
end
structure FlatP(p:AV→Bool)(c:Cx)(k:Nat)(l:List (List AV))(xs:List Value):Prop where
 len:xs.length=l.length*k
 el:∀ (j:Nat) e,l[j]? = some e→e.length=k
 rv:∀ (j:Nat) e (i:Nat) a,l[j]? = some e→e[i]? = some a→p a=true∧∃ u,xs[j*k+i]? = some u∧RV c u a
abbrev Flat(c:Cx)(k:Nat)(l:List (List AV))(xs:List Value):Prop:=FlatP AV.plain c k l xs
theorem FlatP.mono'{p:AV→Bool}{c c':Cx}(h:Ev c c'){k:Nat}{l:List (List AV)}{xs:List Value}(hf:FlatP p c k l xs):FlatP p c' k l xs:=
 ⟨hf.len,hf.el,fun j e i a he ha=>by obtain⟨h1,u,h2,h3⟩:=hf.rv j e i a he ha;exact⟨h1,u,h2,h3.mono h⟩⟩
section
variable {P:Program} {T:TabT} {c:Cx}
theorem Flat.mono{c':Cx}(h:Ev c c'){k:Nat}{l:List (List AV)}{xs:List Value}(hf:Flat c k l xs):Flat c' k l xs:=
 ⟨hf.len,hf.el,fun j e i a he ha=>by obtain⟨h1,u,h2,h3⟩:=hf.rv j e i a he ha;exact⟨h1,u,h2,h3.mono h⟩⟩
theorem Flat.nil{k:Nat}:Flat c k [] []:=⟨by simp,fun j e h=>by simp at h,fun j e i a h=>by simp at h⟩
theorem Flat.append{k:Nat}{l l2:List (List AV)}{xs ys:List Value}(h:Flat c k l xs)(g:Flat c k l2 ys):Flat c k (l++l2) (xs++ys):=by
 refine⟨by simp[h.len,g.len,Nat.add_mul],fun j e he=>?_,fun j e i a he ha=>?_⟩
 ·rw[List.getElem?_append] at he
  split at he
  ·exact h.el _ _ he
  ·exact g.el _ _ he
 ·rw[List.getElem?_append] at he
  split at he
  ·rename_i hj
   obtain⟨h1,u,h2,h3⟩:=h.rv j e i a he ha
   exact⟨h1,u,by rw[List.getElem?_append_left (Va h2).1];exact h2,h3⟩
  ·rename_i hj
   obtain⟨h1,u,h2,h3⟩:=g.rv _ e i a he ha
   refine⟨h1,u,?_,h3⟩
   have hle:l.length*k≤j*k:=Nat.mul_le_mul_right k (by omega)
   rw[List.getElem?_append_right (by rw[h.len];omega),h.len,← h2,Nat.sub_mul]
   congr 1;omega
theorem Flat.one{c:Cx}{k:Nat}{l:List (List AV)}{xs:List Value}(h:Flat c k l xs):∀ u∈xs,u.oneCell'=true:=by
 intro u hu
 obtain⟨q,hq⟩:=List.getElem?_of_mem hu
 have hql:q<l.length*k:=by rw[← h.len];exact(Va hq).1
 have hk:0<k:=by
  rcases Nat.eq_zero_or_pos k with h0|h0
  ·rw[h0,Nat.mul_zero] at hql;omega
  ·exact h0
 have hj:q / k<l.length:=(Nat.div_lt_iff_lt_mul hk).2 hql
 have hi:q % k<(l[q / k]).length:=by rw[h.el _ _ (Vb hj)];exact Nat.mod_lt _ hk
 obtain⟨h1,u',h2,h3⟩:=h.rv _ _ _ _ (Vb hj) (Vb hi)
 rw[Nat.mul_comm,Nat.div_add_mod,hq] at h2
 obtain rfl:=Option.some.inj h2
 exact h3.one (AV.plain_cell h1)
theorem RV.flat{v:Value}{k:Nat}{l:List (List AV)}{t:Tk}(h:RV c v (.sl k l t)):∃ A cap xs,v=.slice A l.length cap∧l.length≤cap∧cap≤maxLen∧Flat c k l xs∧TkOk c A l.length cap k t ∧
  (l≠[]→∃ b o,A=some ⟨b,o,none⟩∧∀ (q:Nat) u,xs[q]? = some u→c.im b (o+q)∧c.w.cell? ⟨b,o+q,none⟩=some u):=by
 cases h with
 |sl _ _ _ A n cap b o vs hn hcap hm hA hk hc hr ht=>
  subst hn
  have hq:∀ q u,((List.range (l.length*k)).map fun q=>vs (q / k) (q % k))[q]? = some u→∃ e a,l[q / k]? = some e∧e[q % k]? = some a∧u=vs (q / k) (q % k)∧q / k*k+q % k=q:=by
   intro q u hu
   rw[Vg] at hu
   simp only[Ve] at hu
   obtain⟨q',hq',rfl⟩:=hu
   obtain⟨hlt,hq2⟩:=Va hq'
   simp only[List.length_range] at hlt
   rw[List.getElem_range] at hq2
   subst hq2
   have hk0:0<k:=by
    rcases Nat.eq_zero_or_pos k with h0|h0
    ·rw[h0,Nat.mul_zero] at hlt;omega
    ·exact h0
   have hj:q / k<l.length:=(Nat.div_lt_iff_lt_mul hk0).2 hlt
   have hi:q % k<(l[q / k]).length:=by rw[hk _ _ (Vb hj)];exact Nat.mod_lt _ hk0
   exact⟨_,_,Vb hj,Vb hi,rfl,by rw[Nat.mul_comm];exact Nat.div_add_mod q k⟩
  refine⟨A,cap,(List.range (l.length*k)).map fun q=>vs (q / k) (q % k),rfl,hcap,hm,⟨by simp,hk,fun j e i a he ha=>⟨(hc j e i a he ha).1,vs j i,?_,hr j e i a he ha⟩⟩,ht,fun hne=>⟨b,o,hA hne,fun q u hu=>?_⟩⟩
  ·have hj:=(Va he).1
   have hi:i<k:=by rw[← hk j e he];exact(Va ha).1
   have hlt:j*k+i<l.length*k:=by
    have:(j+1)*k≤l.length*k:=Nat.mul_le_mul_right k hj
    rw[Nat.add_mul] at this;omega
   rw[Vg,List.getElem?_range hlt]
   have e1:(j*k+i) / k=j:=by rw[Nat.mul_comm,Nat.mul_add_div (by omega)];rw[Nat.div_eq_of_lt hi];rfl
   have e2:(j*k+i) % k=i:=by rw[Nat.mul_comm,Nat.mul_add_mod];exact Nat.mod_eq_of_lt hi
   simp[e1,e2]
  ·obtain⟨e,a,h1,h2,rfl,h4⟩:=hq q u hu
   obtain⟨_,g2,g3⟩:=hc _ _ _ _ h1 h2
   rw[Nat.add_assoc,h4] at g2 g3
   exact⟨g2,g3⟩
theorem RV.sl_of{k:Nat}{l:List (List AV)}{xs:List Value}(hf:Flat c k l xs){A:Option Addr}{cap:Nat}(hcap:l.length≤cap)(hm:cap≤maxLen)(b o:Nat)(hA:l≠[]→A=some ⟨b,o,none⟩)
  (hc:∀ (q:Nat) u,xs[q]? = some u→c.im b (o+q)∧c.w.cell? ⟨b,o+q,none⟩=some u) {t:Tk} (ht:TkOk c A l.length cap k t) {n:Nat} (hn:l.length=n):RV c (.slice A n cap) (.sl k l t):=by
 subst hn
 refine .sl k l t A _ cap b o (fun j i=>xs.getD (j*k+i) undef) rfl hcap hm hA hf.el (fun j e i a he ha=>?_) (fun j e i a he ha=>?_) ht
 ·obtain⟨h1,u,h2,h3⟩:=hf.rv j e i a he ha
  obtain⟨g1,g2⟩:=hc _ u h2
  rw[← Nat.add_assoc] at g1 g2
  exact⟨h1,g1,by rw[g2,List.getD_eq_getElem?_getD,h2];rfl⟩
 ·obtain⟨h1,u,h2,h3⟩:=hf.rv j e i a he ha
  rw[List.getD_eq_getElem?_getD,h2]
  exact h3
theorem RV.psl_of{k:Nat}{l:List (List AV)}{xs:List Value}(hf:FlatP AV.cell c k l xs){A:Option Addr}{cap:Nat}(hcap:l.length≤cap)(hm:cap≤maxLen)(b o:Nat)(hA:l≠[]→A=some ⟨b,o,none⟩)
  (hc:∀ (q:Nat) u,xs[q]? = some u→c.im b (o+q)∧c.w.cell? ⟨b,o+q,none⟩=some u) {n:Nat} (hn:l.length=n):RV c (.slice A n cap) (.psl k l):=by
 subst hn
 refine .psl k l A _ cap b o (fun j i=>xs.getD (j*k+i) undef) rfl hcap hm hA hf.el (fun j e i a he ha=>?_) (fun j e i a he ha=>?_)
 ·obtain⟨h1,u,h2,h3⟩:=hf.rv j e i a he ha
  obtain⟨g1,g2⟩:=hc _ u h2
  rw[← Nat.add_assoc] at g1 g2
  exact⟨h1,g1,by rw[g2,List.getD_eq_getElem?_getD,h2];rfl⟩
 ·obtain⟨h1,u,h2,h3⟩:=hf.rv j e i a he ha
  rw[List.getD_eq_getElem?_getD,h2]
  exact h3
theorem RV.sub{k:Nat}{l:List (List AV)}{t:Tk}{A:Option Addr}{n cap:Nat}(h:RV c (.slice A n cap) (.sl k l t))(lo hi:Nat)(h1:lo≤hi)(h2:hi≤n)(mx:Nat)(hmx:hi≤mx)(hmc:mx≤cap) :
  RV c (.slice (if mx=lo then A else A.map (·.add (lo*k))) (hi-lo) (mx-lo)) (.sl k ((l.take hi).drop lo) .no):=by
 cases h with
 |sl _ _ _ _ _ _ b o vs hn hcap hm hA hk hc hr ht=>
  have hel:∀ (j:Nat) e,((l.take hi).drop lo)[j]? = some e→l[lo+j]? = some e∧lo+j<hi:=by
   intro j e he
   rw[List.getElem?_drop,List.getElem?_take] at he
   split at he
   ·exact⟨he,by assumption⟩
   ·cases he
  refine .sl k _ .no _ _ _ b (o+lo*k) (fun j i=>vs (lo+j) i) (by simp;omega) (by omega) (by omega) (fun hne=>?_) (fun j e he=>hk _ e (hel j e he).1) (fun j e i a he ha=>?_) (fun j e i a he ha=>hr _ e i a (hel j e he).1 ha) trivial
  ·have hlen:lo<hi:=by
    rcases Nat.lt_or_ge lo hi with h|h
    ·exact h
    ·exact absurd (List.drop_eq_nil_of_le (by simp;omega)) hne
   have:l≠[]:=by rintro rfl;simp at hn;omega
   rw[if_neg (by omega),hA this]
   simp[Addr.add_mid]
  ·obtain⟨g1,g2,g3⟩:=hc _ e i a (hel j e he).1 ha
   rw[Nat.add_mul,← Nat.add_assoc] at g2 g3
   exact⟨g1,g2,g3⟩
theorem extract_list(s:ByteArray)(a b:Nat):(s.extract a b).data.toList=(s.data.toList.take b).drop a:=by
 simp[ByteArray.data_extract,Array.toList_extract,List.extract_eq_take_drop,List.drop_take]
theorem RV.ints{v:Value}{k:IntKind}{n:Int}(h:RV c v (.int k n)):v=.int k n:=by cases h;rfl
theorem aslice_ok(hT:TabOk P T){t:Nat}{ti:TI}(ht:TIok P t ti){v:Value}{x:AV}(hv:RV c v x){lo hi mx:Option Value}{alo ahi amx:Option AV}
  (h1:∀ a,alo=some a→∃ u,lo=some u∧RV c u a) (h1n:alo=none→lo=none) (h2:∀ a,ahi=some a→∃ u,hi=some u∧RV c u a) (h2n:ahi=none→hi=none) (h3n:amx=none→mx=none)
  {r:ARes} (hr:aslice T ti alo ahi amx x=some r) (hp:r.p):r.d=none∧∃ u,(Instr.sliceAt t v lo hi mx).run P c.w=.ok u c.w∧RV c u r.v:=by
 obtain⟨d,hd,hso⟩:=ht.desc
 unfold sortOk at hso
 unfold aslice at hr
 split at hr
 ·rename_i k l tk
  split at hr
  ·rename_i e hs he
   rw[hs] at hso
   subst hso
   have hsz:=(hT _ _ he).sizeOf c.w
   obtain⟨A,cap,xs,rfl,hcap,hm,hf,_⟩:=hv.flat
   split at hr
   ·cases hr
    obtain rfl:=h1n rfl;obtain rfl:=h2n rfl;obtain rfl:=h3n rfl
    obtain rfl:k=e.size:=hp
    refine⟨rfl,_,by simp[Instr.sliceAt,Instr.slice,Instr.sliceBounds,Sem.run_bind,run_underlying hd,hsz];rfl,?_⟩
    have:=hv.sub 0 l.length (Nat.zero_le _) (Nat.le_refl _) cap hcap (Nat.le_refl _)
    simpa using this
   ·rename_i kk a
    obtain⟨u,rfl,hu⟩:=h1 _ rfl;obtain rfl:=h2n rfl;obtain rfl:=h3n rfl
    cases hr
    obtain rfl:=hu.ints
    obtain⟨rfl,h0,hle⟩:=hp
    refine⟨rfl,_,by simp[Instr.sliceAt,Instr.slice,Instr.sliceBounds,Instr.sliceBound,asIntOf,Sem.run_bind,run_underlying hd,hsz,h0,hle];rfl,?_⟩
    have:=hv.sub a.toNat l.length (by omega) (Nat.le_refl _) cap hcap (Nat.le_refl _)
    rwa [List.take_length] at this
   ·rename_i kk a
    obtain⟨u,rfl,hu⟩:=h2 _ rfl;obtain rfl:=h1n rfl;obtain rfl:=h3n rfl
    cases hr
    obtain rfl:=hu.ints
    obtain⟨rfl,h0,hle⟩:=hp
    have hle2:a≤(cap:Int):=by omega
    refine⟨rfl,_,by simp[Instr.sliceAt,Instr.slice,Instr.sliceBounds,Instr.sliceBound,asIntOf,Sem.run_bind,run_underlying hd,hsz,h0,hle2];rfl,?_⟩
    have:=hv.sub 0 a.toNat (Nat.zero_le _) (by omega) cap (by omega) (Nat.le_refl _)
    simpa using this
   ·rename_i ka a kb b
    obtain⟨u,rfl,hu⟩:=h1 _ rfl;obtain⟨u2,rfl,hu2⟩:=h2 _ rfl;obtain rfl:=h3n rfl
    cases hr
    obtain rfl:=hu.ints
    obtain rfl:=hu2.ints
    obtain⟨rfl,h0,hab,hle⟩:=hp
    have hle2:b≤(cap:Int):=by omega
    have hb0:0≤b:=by omega
    have hab2:a≤(b.toNat:Int):=by omega
    have hab3:a≤max b 0:=by omega
    refine⟨rfl,_,by simp[Instr.sliceAt,Instr.slice,Instr.sliceBounds,Instr.sliceBound,asIntOf,Sem.run_bind,run_underlying hd,hsz,h0,hle2,hb0,hab3];rfl,?_⟩
    exact hv.sub a.toNat b.toNat (by omega) (by omega) cap (by omega) (Nat.le_refl _)
   ·cases hr
  ·cases hr
 ·rename_i i k o n cap
  split at hr
  ·rename_i e hs he
   rw[hs] at hso
   subst hso
   have hsz:=(hT _ _ he).sizeOf c.w
   cases hv with
   |msl _ _ _ _ _ b o' hk hb hn hcap hm ho=>
    have hadd0:(Addr.mk b o' none).add 0=⟨b,o',none⟩:=by unfold Addr.add;simp
    have hadd:∀ q:Nat,(Addr.mk b o' none).add (q*e.size)=⟨b,o'+q*e.size,none⟩:=fun q=>by
     unfold Addr.add;split
     ·rename_i h;rw[h];rfl
     ·rfl
    split at hr
    ·cases hr
     obtain rfl:=h1n rfl;obtain rfl:=h2n rfl;obtain rfl:=h3n rfl
     obtain rfl:k=e.size:=hp
     refine⟨rfl,.slice (some ⟨b,o',none⟩) n cap,by simp[Instr.sliceAt,Instr.slice,Instr.sliceBounds,Sem.run_bind,run_underlying hd,hsz,hadd0],.msl _ _ _ _ _ b o' hk hb hn hcap hm ho⟩
    ·rename_i kk a
     obtain⟨u,rfl,hu⟩:=h1 _ rfl;obtain rfl:=h2n rfl;obtain rfl:=h3n rfl
     cases hr
     obtain rfl:=hu.ints
     obtain⟨rfl,h0,hle⟩:=hp
     refine⟨rfl,.slice (some ⟨b,if cap=a.toNat then o' else o'+a.toNat*e.size,none⟩) (n-a.toNat) (cap-a.toNat),?_,.msl _ _ _ _ _ b _ hk hb hn (by omega) (by omega) fun h=>?_⟩
     ·simp[Instr.sliceAt,Instr.slice,Instr.sliceBounds,Instr.sliceBound,asIntOf,Sem.run_bind,run_underlying hd,hsz,h0,hle,hadd]
      split<;>rfl
     ·rw[if_neg (by omega),ho (by omega),Nat.add_mul]
    ·rename_i kk a
     obtain⟨u,rfl,hu⟩:=h2 _ rfl;obtain rfl:=h1n rfl;obtain rfl:=h3n rfl
     cases hr
     obtain rfl:=hu.ints
     obtain⟨rfl,h0,hle⟩:=hp
     refine⟨rfl,.slice (some ⟨b,o',none⟩) a.toNat cap,?_,.msl _ _ _ _ _ b _ hk hb hn (by omega) (by omega) ho⟩
     simp[Instr.sliceAt,Instr.slice,Instr.sliceBounds,Instr.sliceBound,asIntOf,Sem.run_bind,run_underlying hd,hsz,h0,hle,hadd0]
    ·rename_i ka a kb b2
     obtain⟨u,rfl,hu⟩:=h1 _ rfl;obtain⟨u2,rfl,hu2⟩:=h2 _ rfl;obtain rfl:=h3n rfl
     cases hr
     obtain rfl:=hu.ints
     obtain rfl:=hu2.ints
     obtain⟨rfl,h0,hab,hle⟩:=hp
     have hb0:0≤b2:=by omega
     have hab2:a≤(b2.toNat:Int):=by omega
     have hab3:a≤max b2 0:=by omega
     refine⟨rfl,.slice (some ⟨b,if cap=a.toNat then o' else o'+a.toNat*e.size,none⟩) (b2.toNat-a.toNat) (cap-a.toNat),?_,.msl _ _ _ _ _ b _ hk hb hn (by omega) (by omega) fun h=>?_⟩
     ·simp[Instr.sliceAt,Instr.slice,Instr.sliceBounds,Instr.sliceBound,asIntOf,Sem.run_bind,run_underlying hd,hsz,h0,hle,hb0,hab3,hadd]
      split<;>rfl
     ·rw[if_neg (by omega),ho (by omega),Nat.add_mul]
    ·cases hr
  ·cases hr
 ·split at hr
  ·rename_i e hs he
   rw[hs] at hso
   subst hso
   have hsz:=(hT _ _ he).sizeOf c.w
   cases hv
   split at hr
   ·cases hr
    obtain rfl:=h1n rfl;obtain rfl:=h2n rfl;obtain rfl:=h3n rfl
    exact⟨rfl,_,by simp[Instr.sliceAt,Instr.slice,Instr.sliceBounds,Sem.run_bind,run_underlying hd,hsz],.nils⟩
   ·rename_i kk a
    obtain⟨u,rfl,hu⟩:=h1 _ rfl;obtain rfl:=h2n rfl;obtain rfl:=h3n rfl
    cases hr
    obtain rfl:=hu.ints
    obtain rfl:a=0:=hp
    exact⟨rfl,_,by simp[Instr.sliceAt,Instr.slice,Instr.sliceBounds,Instr.sliceBound,asIntOf,Sem.run_bind,run_underlying hd,hsz],.nils⟩
   ·rename_i kk a
    obtain⟨u,rfl,hu⟩:=h2 _ rfl;obtain rfl:=h1n rfl;obtain rfl:=h3n rfl
    cases hr
    obtain rfl:=hu.ints
    obtain rfl:a=0:=hp
    exact⟨rfl,_,by simp[Instr.sliceAt,Instr.slice,Instr.sliceBounds,Instr.sliceBound,asIntOf,Sem.run_bind,run_underlying hd,hsz],.nils⟩
   ·rename_i ka a kb b
    obtain⟨u,rfl,hu⟩:=h1 _ rfl;obtain⟨u2,rfl,hu2⟩:=h2 _ rfl;obtain rfl:=h3n rfl
    cases hr
    obtain rfl:=hu.ints
    obtain rfl:=hu2.ints
    obtain⟨rfl,rfl⟩:=hp
    exact⟨rfl,_,by simp[Instr.sliceAt,Instr.slice,Instr.sliceBounds,Instr.sliceBound,asIntOf,Sem.run_bind,run_underlying hd,hsz],.nils⟩
   ·cases hr
  ·cases hr
 ·rename_i l
  split at hr
  ·rename_i hs
   rw[hs] at hso
   subst hso
   cases hv with
   |str s _ hl=>
    subst hl
    split at hr
    ·rename_i kk a
     obtain⟨u,rfl,hu⟩:=h1 _ rfl;obtain rfl:=h2n rfl;obtain rfl:=h3n rfl
     cases hr
     obtain rfl:=hu.ints
     obtain⟨h0,hle⟩:=hp
     simp only[Array.length_toList,ByteArray.size_data] at hle
     refine⟨rfl,.string (s.extract a.toNat s.size),by simp[Instr.sliceAt,Instr.slice,Instr.sliceBounds,Instr.sliceBound,asIntOf,Sem.run_bind,run_underlying hd,h0,hle],.str _ _ ?_⟩
     rw[extract_list,List.take_of_length_le (by simp)]
    ·rename_i kk a
     obtain⟨u,rfl,hu⟩:=h2 _ rfl;obtain rfl:=h1n rfl;obtain rfl:=h3n rfl
     cases hr
     obtain rfl:=hu.ints
     obtain⟨h0,hle⟩:=hp
     simp only[Array.length_toList,ByteArray.size_data] at hle
     refine⟨rfl,.string (s.extract 0 a.toNat),by simp[Instr.sliceAt,Instr.slice,Instr.sliceBounds,Instr.sliceBound,asIntOf,Sem.run_bind,run_underlying hd,h0,hle],.str _ _ ?_⟩
     rw[extract_list,List.drop_zero]
    ·rename_i ka a kb b
     obtain⟨u,rfl,hu⟩:=h1 _ rfl;obtain⟨u2,rfl,hu2⟩:=h2 _ rfl;obtain rfl:=h3n rfl
     cases hr
     obtain rfl:=hu.ints
     obtain rfl:=hu2.ints
     obtain⟨h0,hab,hle⟩:=hp
     simp only[Array.length_toList,ByteArray.size_data] at hle
     have hb0:0≤b:=by omega
     have hab2:a≤(b.toNat:Int):=by omega
     have hab3:a≤max b 0:=by omega
     exact⟨rfl,.string (s.extract a.toNat b.toNat),by simp[Instr.sliceAt,Instr.slice,Instr.sliceBounds,Instr.sliceBound,asIntOf,Sem.run_bind,run_underlying hd,h0,hle,hb0,hab3],.str _ _ (extract_list s _ _)⟩
    ·cases hr
  ·cases hr
 ·rename_i i k n
  split at hr
  ·rename_i e hs he
   rw[hs] at hso
   subst hso
   have hsz:=(hT _ _ he).sizeOf c.w
   cases hv with
   |msu _ _ _ cap b hk hb hn hcap hm ho=>
    have hadd0:(Addr.mk b 0 none).add 0=⟨b,0,none⟩:=by unfold Addr.add;simp
    split at hr
    ·cases hr
     obtain rfl:=h1n rfl;obtain rfl:=h2n rfl;obtain rfl:=h3n rfl
     obtain rfl:k=e.size:=hp
     exact⟨rfl,.slice (some ⟨b,0,none⟩) n cap,by simp[Instr.sliceAt,Instr.slice,Instr.sliceBounds,Sem.run_bind,run_underlying hd,hsz,hadd0],.msu _ _ _ _ b hk hb hn hcap hm ho⟩
    ·rename_i kk a
     obtain⟨u,rfl,hu⟩:=h1 _ rfl;obtain rfl:=h2n rfl;obtain rfl:=h3n rfl
     cases hr
     obtain rfl:=hu.ints
     obtain⟨rfl,rfl⟩:=hp
     exact⟨rfl,.slice (some ⟨b,0,none⟩) n cap,by simp[Instr.sliceAt,Instr.slice,Instr.sliceBounds,Instr.sliceBound,asIntOf,Sem.run_bind,run_underlying hd,hsz,hadd0],.msu _ _ _ _ b hk hb hn hcap hm ho⟩
    ·rename_i kk a
     obtain⟨u,rfl,hu⟩:=h2 _ rfl;obtain rfl:=h1n rfl;obtain rfl:=h3n rfl
     cases hr
     obtain rfl:=hu.ints
     obtain⟨rfl,h0,hle⟩:=hp
     have hle2:a≤(cap:Int):=by omega
     exact⟨rfl,.slice (some ⟨b,0,none⟩) a.toNat cap,by simp[Instr.sliceAt,Instr.slice,Instr.sliceBounds,Instr.sliceBound,asIntOf,Sem.run_bind,run_underlying hd,hsz,h0,hle2,hadd0],.msu _ _ _ _ b hk hb hn (by omega) hm ho⟩
    ·rename_i ka a kb b2
     obtain⟨u,rfl,hu⟩:=h1 _ rfl;obtain⟨u2,rfl,hu2⟩:=h2 _ rfl;obtain rfl:=h3n rfl
     cases hr
     obtain rfl:=hu.ints
     obtain rfl:=hu2.ints
     obtain⟨rfl,rfl,h0,hle⟩:=hp
     have hle2:b2≤(cap:Int):=by omega
     exact⟨rfl,.slice (some ⟨b,0,none⟩) b2.toNat cap,by simp[Instr.sliceAt,Instr.slice,Instr.sliceBounds,Instr.sliceBound,asIntOf,Sem.run_bind,run_underlying hd,hsz,h0,hle2,hadd0],.msu _ _ _ _ b hk hb hn (by omega) hm ho⟩
    ·cases hr
  ·cases hr
 ·cases hr
end
section
variable {P:Program} {T:TabT} {c:Cx}
theorem asrc_ok{k:Nat}{u:Nat}{ui:TI}(hu:TIok P u ui){v:Value}{x:AV}(hv:RV c v x){y:List (List AV)}(hy:asrc k ui x=some y) :
  (∃ d,P.underlying u=some d∧((∃ e,d=.slice e)∨d=.string))∧∃ news,Flat c k y news∧(∀ w,(Builtin.lenOf v).run P w=.ok y.length w)∧∀ w:World,w.heap=c.w.heap→(Builtin.firstCells k y.length v).run P w=.ok news.toArray w:=by
 obtain⟨d,hd,hso⟩:=hu.desc
 unfold sortOk at hso
 unfold asrc at hy
 split at hy
 ·rename_i k' l' tk
  split at hy
  ·rename_i hs
   rw[hs] at hso
   subst hso
   split at hy
   ·rename_i hk
    subst hk
    cases hy
    obtain⟨A,cap,xs,rfl,hcap,hm,hf,_,hc⟩:=hv.flat
    refine⟨⟨_,hd,.inl ⟨_,rfl⟩⟩,xs,hf,fun w=>by simp[Builtin.lenOf],fun w hw=>?_⟩
    by_cases hn:y=[]
    ·subst hn
     have:xs=[]:=by have:=hf.len;simpa using this
     subst this
     cases A with
     |none=>simp[Builtin.firstCells]
     |some a=>exact run_firstCells_some w k' 0 a _ cap [] (by simp) (fun j v h=>by simp at h)
    ·obtain⟨b,o,rfl,hcell⟩:=hc hn
     refine run_firstCells_some w k' y.length _ _ cap xs hf.len fun j v hj=>?_
     rw[Addr.add_mid,cB (show w.heap[b]? = c.w.heap[b]? by rw[hw])]
     exact(hcell j v hj).2
   ·cases hy
  ·cases hy
 ·split at hy
  ·rename_i hs
   rw[hs] at hso
   subst hso
   cases hy
   cases hv
   exact⟨⟨_,hd,.inl ⟨_,rfl⟩⟩,[],Flat.nil,fun w=>by simp[Builtin.lenOf],fun w _=>by simp[Builtin.firstCells]⟩
  ·cases hy
 ·rename_i s
  split at hy
  ·rename_i hs
   rw[hs] at hso
   subst hso
   split at hy
   ·rename_i hk
    subst hk
    cases hy
    cases hv with
    |str q _ hq=>
     subst hq
     refine⟨⟨_,hd,.inr rfl⟩,q.data.toList.map fun b=>Value.int .u8 b.toNat,⟨by simp,fun j e he=>?_,fun j e i a he ha=>?_⟩,fun w=>by simp[Builtin.lenOf],fun w _=>?_⟩
     ·rw[Vg] at he
      simp only[Ve] at he
      obtain⟨b,_,rfl⟩:=he
      rfl
     ·rw[Vg] at he
      simp only[Ve] at he
      obtain⟨b,hb,rfl⟩:=he
      match i,ha with
      |0,ha=>
       simp only[bC,Y1,Option.some.injEq] at ha
       subst ha
       exact⟨rfl,.int .u8 b.toNat,by rw[Nat.mul_one,Nat.add_zero,Vg,hb];rfl,.int _ _⟩
     ·have e1:q.extract 0 (q.data.toList.map bC).length=q:=by
       apply ByteArray.ext
       simp[]
      simp only[Builtin.firstCells,e1,Sem.run_pure]
      congr 1
      apply Array.ext'
      simp
   ·cases hy
  ·cases hy
 ·cases hy
section
variable {t u el:Nat} {du:TypeDesc} {ie:TypeInfo} {z:Value} {W:World}
theorem run_append_in(hd:P.underlying t=some (.slice el))(hdu:P.underlying u=some du)(hn:(∃ e,du=.slice e)∨du=.string)(hi:P.info? el=some ie){vx:Value}{m:Nat}{news:List Value}
  (hlen:∀ w,(Builtin.lenOf vx).run P w=.ok m w) (hnews:∀ w:World,w.heap=W.heap→(Builtin.firstCells ie.size m vx).run P w=.ok news.toArray w) (ty:TypeId) {A:Option Addr} {n cap:Nat} (hfit:n+m≤cap) {w':World}
  (hst:match A with|none=>w'=W|some a=>(storeCells (a.add (n*ie.size)) news).run P W=.ok () w') :
  (Builtin.append_ #[t,u] ty #[.slice A n cap,vx]).run P W=.ok (.slice A (n+m) cap) w':=by
 have hN:=hnews W rfl
 rcases hn with⟨e,rfl⟩|rfl
 all_goals cases A with
 |none=>subst hst;simp[Builtin.append_,run_underlying hd,run_underlying hdu,sizeOf,typeInfo,hi,hlen,hfit,hN]
 |some a=>simp[Builtin.append_,run_underlying hd,run_underlying hdu,sizeOf,typeInfo,hi,hlen,hfit,hN,hst]
theorem run_append_out(hd:P.underlying t=some (.slice el))(hdu:P.underlying u=some du)(hn:(∃ e,du=.slice e)∨du=.string)(hi:P.info? el=some ie)(hz:ie.zero=some z){vx:Value}{m:Nat}{news olds:List Value}
  (hlen:∀ w,(Builtin.lenOf vx).run P w=.ok m w) (hnews:∀ w:World,w.heap=W.heap→(Builtin.firstCells ie.size m vx).run P w=.ok news.toArray w) (ty:TypeId) {A:Option Addr} {n cap:Nat} (hgrow:cap<n+m)
  (holds:∀ w:World,w.heap=W.heap→(Builtin.firstCells ie.size n (.slice A n cap)).run P w=.ok olds.toArray w)
  (h63:n+m≤4611686018427387904) (h48:(n+m)*ie.bytes≤140737488355328) :
  (Builtin.append_ #[t,u] ty #[.slice A n cap,vx]).run P W=.ok (.slice (some ⟨W.heap.size,0,none⟩) (n+m) (grownCap W (n+m) cap el))
   (W.drew.alloc (.cells ((olds++news).toArray++Builtin.zeroCells z.cells (grownCap W (n+m) cap el-(n+m))) el)):=by
 have hN:=hnews W.drew rfl
 have hO:=holds W.drew rfl
 have hnn:¬(n+m≤cap):=by omega
 have h63':¬(9223372036854775807<((n:Int)+(m:Int))):=by omega
 have h48':¬(281474976710656<Builtin.nextslicecap (n+m) cap*ie.bytes):=by have:=growslice_fits hgrow h48;omega
 have hsz:W.drew.heap.size=W.heap.size:=rfl
 rcases hn with⟨e,rfl⟩|rfl
 all_goals
  simp[Builtin.append_,run_underlying hd,run_underlying hdu,sizeOf,typeInfo,zeroValue,hi,hz,hlen,hnn,h63',h48',Question.forced,hN,hO,newRow,grownCap]
  congr 2
  apply Array.ext'
  simp
end
theorem im_old{c c':Cx}(h:Ev c c'){b o:Nat}{xs:List Value}(hc:∀ (q:Nat) u,xs[q]? = some u→c.im b (o+q)∧c.w.cell? ⟨b,o+q,none⟩=some u):∀ (q:Nat) u,xs[q]? = some u→c'.im b (o+q)∧c'.w.cell? ⟨b,o+q,none⟩=some u:=fun q u hq=>by
 obtain⟨h1,h2⟩:=hc q u hq
 obtain⟨g1,g2⟩:=h.im _ _ h1
 exact⟨g1,g2.trans h2⟩
theorem Cx.unbornN(hc:RelH c)(i k n:Nat)(hi:c.h[i]? = some .free):RelH ⟨c.ρ,c.h.set i (.tok k n),c.w,c.X⟩∧Ev c ⟨c.ρ,c.h.set i (.tok k n),c.w,c.X⟩:=by
 have hil:i<c.h.length:=(Va hi).1
 have hρ:c.ρ i=none:=hc.blk i _ hi
 have hcase:∀ (j:Nat) y,(c.h.set i (ABlk.tok k n))[j]? = some y→(j=i∧y=.tok k n)∨(j≠i∧c.h[j]? = some y):=fun j y hy=>by
  by_cases hj:j=i
  ·subst hj
   rw[List.getElem?_set_self hil] at hy
   exact .inl ⟨rfl,(Option.some.inj hy).symm⟩
  ·rw[List.getElem?_set_ne (Ne.symm hj)] at hy
   exact .inr ⟨hj,hy⟩
 have hev:Ev c ⟨c.ρ,c.h.set i (.tok k n),c.w,c.X⟩:=by
  refine⟨rfl,rfl,rfl,Nat.le_refl _,rfl,fun b o h=>⟨⟨h.1,h.2.1,fun j y hy hj=>?_⟩,rfl⟩,fun b hb hm=>⟨rfl,?_⟩,by simp,fun j y hy hf'=>?_,fun _ vs _ _ h=>⟨vs,h,rfl⟩⟩
  ·rcases hcase j y hy with⟨rfl,rfl⟩|⟨_,g⟩
   ·rw[hρ] at hj;cases hj
   ·exact h.2.2 j y g hj
  ·rintro⟨j,y,hy,ly,hj⟩
   rcases hcase j y hy with⟨rfl,rfl⟩|⟨_,g⟩
   ·rw[hρ] at hj;cases hj
   ·exact hm ⟨j,y,g,ly,hj⟩
  ·by_cases hj:j=i
   ·subst hj
    rw[hi] at hy
    cases hy
    cases hf'
   ·exact⟨y,by rw[List.getElem?_set_ne (Ne.symm hj)];exact hy,hf',fun ht=>⟨ht,rfl⟩,fun k n e=>⟨n,e,.inr ⟨rfl,rfl,fun _ _=>rfl⟩⟩⟩
 refine⟨⟨fun j j' y y' b1 hy hy' ly ly' hb1 hb1'=>?_,fun j y b1 hy hb1=>?_,fun j y hy=>?_,fun b o h=>⟨(hc.xs b o h).1,fun j y hy ly hb=>by
  rcases hcase j y hy with⟨rfl,rfl⟩|⟨_,g⟩
  ·rw[hρ] at hb;cases hb
  ·exact(hc.xs b o h).2 j y g ly hb⟩⟩,hev⟩
 ·rcases hcase j y hy with⟨rfl,rfl⟩|⟨_,g⟩<;>rcases hcase j' y' hy' with⟨rfl,rfl⟩|⟨_,g'⟩
  ·rfl
  ·rw[hρ] at hb1;cases hb1
  ·rw[hρ] at hb1';cases hb1'
  ·exact hc.inj j j' y y' b1 g g' ly ly' hb1 hb1'
 ·rcases hcase j y hy with⟨rfl,rfl⟩|⟨_,g⟩
  ·rw[hρ] at hb1;cases hb1
  ·exact hc.here j y b1 g hb1
 ·rcases hcase j y hy with⟨rfl,rfl⟩|⟨hj,g⟩
  ·intro b hb;rw[hρ] at hb;cases hb
  ·exact(hc.blk j y g).mono hev rfl fun b' ly hb'=>rfl
theorem Cx.unborn(hc:RelH c)(i k:Nat)(hi:c.h[i]? = some .free):RelH ⟨c.ρ,c.h.set i (.tok k 0),c.w,c.X⟩∧Ev c ⟨c.ρ,c.h.set i (.tok k 0),c.w,c.X⟩:=Cx.unbornN hc i k 0 hi
theorem append_core(hc:RelH c){t u el:Nat}{du:TypeDesc}{ie:TypeInfo}{z:Value}(hd:P.underlying t=some (.slice el))(hdu:P.underlying u=some du)(hn:(∃ e,du=.slice e)∨du=.string)(hi:P.info? el=some ie)(hz:ie.zero=some z)(hzs:z.cells.size=ie.size)
  {vx:Value} {y:List (List AV)} {news:List Value} (hf:Flat c ie.size y news) (hlen:∀ w,(Builtin.lenOf vx).run P w=.ok y.length w) (hnews:∀ w:World,w.heap=c.w.heap→(Builtin.firstCells ie.size y.length vx).run P w=.ok news.toArray w) (ty:TypeId)
  (A:Option Addr) (cap i:Nat) (l:List (List AV)) (olds:List Value) (x0:ABlk) (hcap:l.length≤cap) (hcm:cap≤maxLen) (hfo:Flat c ie.size l olds) (hix:c.h[i]? = some x0)
  (hoc:l≠[]→∃ b o,A=some ⟨b,o,none⟩∧∀ (q:Nat) u,olds[q]? = some u→c.im b (o+q)∧c.w.cell? ⟨b,o+q,none⟩=some u)
  (hx0:(x0=.free∧A=none∧cap=0)∨(x0=.tok ie.size l.length∧(cap=l.length∨∃ b vs e',c.ρ i=some b∧A=some ⟨b,0,none⟩∧c.w.heap[b]? = some (.cells vs e' (0,0))∧vs.size=cap*ie.size∧0<l.length)))
  (hb1:(l.length+y.length)*ie.bytes≤140737488355328) (hb2:l.length+y.length≤4611686018427387904) :
  ∃ q ρ' w',(Builtin.append_ #[t,u] ty #[.slice A l.length cap,vx]).run P c.w=.ok q w'∧RelH ⟨ρ',c.h.set i (.tok ie.size (l.length+y.length)),w',c.X⟩∧Ev c ⟨ρ',c.h.set i (.tok ie.size (l.length+y.length)),w',c.X⟩ ∧
   RV ⟨ρ',c.h.set i (.tok ie.size (l.length+y.length)),w',c.X⟩ q (.sl ie.size (l++y) (.own i)):=by
 have hil:i<c.h.length:=(Va hix).1
 have hset:(c.h.set i (.tok ie.size (l.length+y.length)))[i]? = some (.tok ie.size (l.length+y.length)):=List.getElem?_set_self hil
 have hnl:=hf.len
 have hol:=hfo.len
 by_cases hfit:l.length+y.length≤cap
 ·by_cases hy0:y=[]
  · -- nothing is appended
   subst hy0
   have hn0:news=[]:=by simpa using hnl
   subst hn0
   have hrun:=run_append_in (P:=P) (W:=c.w) hd hdu hn hi hlen hnews ty (A:=A) (n:=l.length) (cap:=cap) hfit (w':=c.w) (by cases A<;>simp[storeCells])
   have hst:∃ hr:RelH ⟨c.ρ,c.h.set i (.tok ie.size (l.length+([]:List (List AV)).length)),c.w,c.X⟩,Ev c ⟨c.ρ,c.h.set i (.tok ie.size (l.length+([]:List (List AV)).length)),c.w,c.X⟩:=by
    rcases hx0 with⟨rfl,rfl,rfl⟩|⟨rfl,hx0⟩
    ·have hl0:l.length=0:=by omega
     simp only[hl0,Y9,Yq]
     obtain⟨h1,h2⟩:=Cx.unborn hc i ie.size hix
     exact⟨h1,h2⟩
    ·have:c.h.set i (.tok ie.size (l.length+([]:List (List AV)).length))=c.h:=by
      simp only[Y9,Yq]
      obtain⟨h1,h2⟩:=Va hix
      rw[← h2,List.set_getElem_self]
     rw[this]
     exact⟨hc,Ev.refl c⟩
   obtain⟨hr,hev⟩:=hst
   refine⟨_,c.ρ,c.w,hrun,hr,hev,?_⟩
   rw[List.append_nil]
   have htk:TkOk ⟨c.ρ,c.h.set i (.tok ie.size (l.length+([]:List (List AV)).length)),c.w,c.X⟩ A l.length cap ie.size (.own i):=by
    refine⟨⟨_,hset,rfl⟩,fun k' n' e=>?_⟩
    rw[show(Cx.mk c.ρ (c.h.set i (.tok ie.size (l.length+([]:List (List AV)).length))) c.w c.X).h=c.h.set i (.tok ie.size (l.length+([]:List (List AV)).length)) from rfl,hset] at e
    cases e
    refine⟨rfl,by simp,fun _=>?_⟩
    rcases hx0 with⟨rfl,rfl,rfl⟩|⟨rfl,hx0⟩
    ·left;omega
    ·rcases hx0 with h|⟨b,vs,e',h1,h2,h3,h4,h5⟩
     ·exact .inl h
     ·exact .inr ⟨b,vs,e',h1,h2,h3,h4,by simpa using h5⟩
   by_cases hl:l=[]
   ·have hoe:olds=[]:=by rw[hl] at hol;simpa using hol
    exact RV.sl_of (hfo.mono hev) hcap hcm 0 0 (fun h=>absurd hl h) (fun q u hq=>by rw[hoe] at hq;simp at hq) htk (by simp)
   ·obtain⟨b,o,hA,hcell⟩:=hoc hl
    exact RV.sl_of (hfo.mono hev) hcap hcm b o (fun _=>hA) (im_old hev hcell) htk (by simp)
  · -- there is room
   have hyl:0<y.length:=List.length_pos_iff.2 hy0
   rcases hx0 with⟨rfl,rfl,rfl⟩|⟨rfl,hx0⟩
   ·omega
   rcases hx0 with hx0|⟨b,vs,e',hb,rfl,hh,hvs,_⟩
   ·omega
   have hfit2:l.length*ie.size+news.length≤vs.size:=by rw[hnl,hvs,← Nat.add_mul];exact Nat.mul_le_mul_right _ hfit
   have hst:=run_storeCells_at P b (l.length*ie.size) e' news 0 vs c.w hh (by simpa using hfit2) hf.one
   simp only[Yq] at hst
   have hrun:=run_append_in (P:=P) (W:=c.w) hd hdu hn hi hlen hnews ty (A:=some ⟨b,0,none⟩) (n:=l.length) (cap:=cap) hfit (by simpa [Addr.add_mid] using hst)
   have hcell:∀ o:Nat,(c.w.setRow b (vs.toList.take (l.length*ie.size)++news++vs.toList.drop (l.length*ie.size+news.length)).toArray).cell? ⟨b,o,none⟩ =
     if o<l.length*ie.size then vs[o]? else if o<l.length*ie.size+news.length then news[o-l.length*ie.size]? else vs[o]?:=fun o=>by
    rw[cell_setRow_same c.w b o vs _ e' (0,0) hh,List.getElem?_toArray,getElem?_layV (by simpa using hfit2)]
    simp
   have hw:∀ o,c.w.cell? ⟨b,o,none⟩=vs[o]?:=fun o=>cell_of_row c.w b o vs e' (0,0) hh
   obtain⟨X,hX⟩:∃ X,X=(vs.toList.take (l.length*ie.size)++news++vs.toList.drop (l.length*ie.size+news.length)).toArray:=⟨_,rfl⟩
   rw[← List.append_assoc] at hrun
   rw[← hX] at hrun hcell
   have hXs:X.size=vs.size:=by rw[hX];simp;omega
   have hother:=fun b' hb'=>setRow_other c.w b b' X hb'
   have hblk':=setRow_heap c.w b vs X e' (0,0) hh
   have hsz:(c.w.setRow b X).heap.size=c.w.heap.size:=by simp
   obtain⟨hr,hev⟩:=Cx.write hc i (.tok ie.size l.length) (.tok ie.size (l.length+y.length)) b hix hb rfl rfl (c.w.setRow b X) hsz rfl rfl rfl hother
    (fun o ho=>⟨by show o<(l.length+y.length)*ie.size;have:o<l.length*ie.size:=ho;rw[Nat.add_mul];omega,by rw[hcell,if_pos (show o<l.length*ie.size from ho),hw]⟩) (.inr ⟨_,_,_,rfl,rfl,.inl (by omega)⟩)
    (fun vs' e2 f h0=>by rw[hh] at h0;cases h0;exact⟨X,hblk',hXs⟩)
    (fun _ b' hb'=>by rw[show(Cx.mk c.ρ (c.h.set i (.tok ie.size (l.length+y.length))) (c.w.setRow b X) c.X).ρ i=c.ρ i from rfl,hb] at hb';cases hb';exact⟨X,e',hblk'⟩)
   refine⟨_,c.ρ,_,hrun,hr,hev,RV.sl_of ((hfo.mono hev).append (hf.mono hev)) (by simpa using hfit) hcm b 0 (fun _=>rfl) (fun q u hq=>?_) ?_ (by simp)⟩
   ·have hql:q<l.length*ie.size+news.length:=by
     have:=(Va hq).1
     rw[List.length_append,hol] at this;exact this
    rw[Nat.zero_add]
    refine⟨⟨?_,?_,fun j x hj hjb=>?_⟩,?_⟩
    ·have:=(Array.getElem?_eq_some_iff.1 hh).1
     simpa using this
    ·exact fun h=>(hc.xs _ _ h).2 i _ hix rfl hb
    ·by_cases hji:j=i
     ·subst hji
      simp only[hset] at hj
      cases hj
      show q<(l.length+y.length)*ie.size
      rw[Nat.add_mul,← hnl];exact hql
     ·simp only[List.getElem?_set_ne (Ne.symm hji)] at hj
      by_cases hxl:x.live=true
      ·exact absurd (hc.inj j i x _ b hj hix hxl rfl hjb hb) hji
      ·cases x<;>first|exact absurd rfl hxl|trivial
    ·rw[hcell]
     rw[List.getElem?_append,hol] at hq
     split at hq
     ·rename_i hq1
      rw[if_pos hq1]
      have hl:l≠[]:=by rintro rfl;simp at hq1
      obtain⟨b',o',hA,hcc⟩:=hoc hl
      cases hA
      have:=(hcc q u hq).2
      rw[Nat.zero_add,hw] at this
      exact this
     ·rename_i hq1
      rw[if_neg hq1,if_pos (by omega)]
      exact hq
   ·refine⟨⟨_,hset,rfl⟩,fun k' n' e=>?_⟩
    simp only[hset] at e
    cases e
    exact⟨rfl,by simp,fun _=>.inr ⟨b,X,e',hb,rfl,hblk',by rw[hXs,hvs],by simp;omega⟩⟩
 · -- a new row
  have hyl:0<y.length:=by omega
  have holds:∀ w:World,w.heap=c.w.heap→(Builtin.firstCells ie.size l.length (.slice A l.length cap)).run P w=.ok olds.toArray w:=fun w hw=>by
   by_cases hl:l=[]
   ·subst hl
    have:olds=[]:=by simpa using hol
    subst this
    cases A with
    |none=>simp[Builtin.firstCells]
    |some a=>exact run_firstCells_some w ie.size 0 a _ cap [] (by simp) (fun j v h=>by simp at h)
   ·obtain⟨b,o,rfl,hcc⟩:=hoc hl
    refine run_firstCells_some w ie.size l.length _ _ cap olds hol fun j v hj=>?_
    rw[Addr.add_mid,cB (show w.heap[b]? = c.w.heap[b]? by rw[hw])]
    exact(hcc j v hj).2
  have hrun:=run_append_out (P:=P) (W:=c.w) hd hdu hn hi hz hlen hnews ty (A:=A) (n:=l.length) (cap:=cap) (by omega) holds hb2 hb1
  have hge:=grownCap_ge c.w (l.length+y.length) cap el
  have hle:=grownCap_le_maxLen c.w (l.length+y.length) cap el (by unfold maxLen;omega)
  generalize hgc:grownCap c.w (l.length+y.length) cap el=gc at *
  generalize hcells:((olds++news).toArray++Builtin.zeroCells z.cells (gc-(l.length+y.length)))=cells at *
  have hcs:cells.size=gc*ie.size:=by
   rw[← hcells]
   simp only[Array.size_append,List.size_toArray,List.length_append,hol,hnl,size_zeroCells,hzs,← Nat.add_mul]
   congr 1;omega
  have hpre:∀ (q:Nat) u,(olds++news)[q]? = some u→cells[q]? = some u:=fun q u hq=>by
   rw[← hcells]
   have hlt:=(Va hq).1
   rw[Array.getElem?_append_left (by simpa using hlt)]
   simpa using hq
  obtain⟨hr,hev⟩:=Cx.alloc hc i x0 hix (.tok ie.size (l.length+y.length)) (by
    rcases hx0 with⟨rfl,_⟩|⟨rfl,_⟩
    ·exact .inl rfl
    ·exact .inr ⟨_,_,_,rfl,rfl,by omega⟩) rfl (c.w.drew.alloc (.cells cells el)) (.cells cells el) rfl rfl rfl rfl
   (fun _ b hb=>by
    rw[show(Cx.mk (setρ c.ρ i (some c.w.heap.size)) (c.h.set i (.tok ie.size (l.length+y.length))) (c.w.drew.alloc (.cells cells el)) c.X).ρ i=some c.w.heap.size from setρ_same _ _ _] at hb
    cases hb
    exact⟨cells,el,by show(c.w.heap.push _)[c.w.heap.size]? = _;simp⟩)
  have hblk:(c.w.drew.alloc (.cells cells el)).heap[c.w.heap.size]? = some (.cells cells el):=by show(c.w.heap.push _)[c.w.heap.size]? = _;simp
  refine⟨_,_,_,hrun,hr,hev,RV.sl_of ((hfo.mono hev).append (hf.mono hev)) (by simpa using hge) hle c.w.heap.size 0 (fun _=>rfl) (fun q u hq=>?_) ?_ (by simp)⟩
  ·have hql:q<l.length*ie.size+news.length:=by
    have:=(Va hq).1
    rw[List.length_append,hol] at this;exact this
   rw[Nat.zero_add]
   refine⟨⟨by show c.w.heap.size<(c.w.heap.push _).size;simp,(fun h=>by have:=(hc.xs _ _ h).1;omega),fun j x hj hjb=>?_⟩,?_⟩
   ·have:j=i:=by
     by_cases hji:j=i
     ·exact hji
     ·simp only[List.getElem?_set_ne (Ne.symm hji)] at hj
      simp only[setρ_ne _ _ hji] at hjb
      have:=hc.here j x _ hj hjb
      omega
    subst this
    simp only[hset] at hj
    cases hj
    show q<(l.length+y.length)*ie.size
    rw[Nat.add_mul,← hnl];exact hql
   ·rw[cell_of_row _ _ q cells el (0,0) hblk]
    exact hpre q u hq
  ·refine⟨⟨_,hset,rfl⟩,fun k' n' e=>?_⟩
   simp only[hset] at e
   cases e
   exact⟨rfl,by simp,fun _=>.inr ⟨c.w.heap.size,cells,el,setρ_same _ _ _,rfl,hblk,hcs,by simp;omega⟩⟩
end
section
variable {P:Program} {T:TabT} {c:Cx}
theorem aappend_ok(hT:TabOk P T)(hc:RelH c){t u:Nat}{ti ui:TI}(ht:TIok P t ti)(hu:TIok P u ui){slot:Nat}{v vx:Value}{s x:AV}(hv:RV c v s)(hx:RV c vx x)
  (hslot:s=.nils→c.h[slot]? = some .free) {r:ARes} (hr:aappend T slot c.h ti ui s x=some r) (hp:r.p) (ty:TypeId) :
  ∃ q ρ' w',(Builtin.append_ #[t,u] ty #[v,vx]).run P c.w=.ok q w'∧RelH ⟨ρ',aupd c.h r.d,w',c.X⟩∧Ev c ⟨ρ',aupd c.h r.d,w',c.X⟩∧RV ⟨ρ',aupd c.h r.d,w',c.X⟩ q r.v:=by
 obtain⟨d,hd,hso⟩:=ht.desc
 unfold sortOk at hso
 unfold aappend at hr
 split at hr
 ·rename_i e hs he
  rw[hs] at hso
  subst hso
  simp only[Option.bind_eq_some_iff] at hr
  obtain⟨y,hy,hr⟩:=hr
  obtain⟨ie,z,hi1,hi2,hi3,hi4,hi5,_⟩:=(hT _ _ he).info
  have hzs:z.cells.size=ie.size:=by rw[hi5,(hT _ _ he).zl,hi2]
  rw[← hi2] at hy
  obtain⟨⟨du,hdu,hn⟩,news,hf,hlen,hnews⟩:=asrc_ok hu hx hy
  split at hr
  ·cases hr
   cases hv
   obtain⟨p1,p2⟩:=hp
   rw[← hi3] at p1
   have:=append_core (P:=P) hc hd hdu hn hi1 hi4 hzs hf hlen hnews ty none 0 slot [] [] .free (Nat.le_refl _) (by unfold maxLen;omega) Flat.nil (hslot rfl) (fun h=>absurd rfl h) (.inl ⟨rfl,rfl,rfl⟩) (by simpa using p1) (by simpa using p2)
   simp only[Y9,Yp,Y3,hi2] at this
   exact this
  ·rename_i k l i
   split at hr
   ·rename_i k' n hi
    cases hr
    obtain⟨rfl,rfl,rfl,p1,p2⟩:=hp
    obtain⟨A,cap,xs,rfl,hcap,hm,hfl,htk,hcell⟩:=hv.flat
    obtain⟨_,htk⟩:=htk
    obtain⟨_,_,g3⟩:=htk _ _ hi
    rw[← hi3] at p1
    rw[← hi2] at hfl hi g3
    have:=append_core (P:=P) hc hd hdu hn hi1 hi4 hzs hf hlen hnews ty A cap i l xs _ hcap hm hfl hi hcell (.inr ⟨rfl,g3 rfl⟩) p1 p2
    rw[hi2] at this
    exact this
   ·cases hr
  ·cases hr
 ·cases hr
theorem fill_one{place:Nat→Option (Nat×Nat)}{cells:Array Value}{i o s:Nat}{v:Value}{rest:List (Nat×Value)}(hp:place i=some (o,s))(hs:v.cells.size=s)(hle:o+s≤cells.size) :
  ∃ cells':Array Value,Instr.fill place cells ((i,v)::rest)=Instr.fill place cells' rest∧cells'.size=cells.size∧∀ j:Nat,cells'[j]? = if j<o then cells[j]? else if j<o+s then v.cells[j-o]? else cells[j]?:=by
 obtain⟨g1,g2⟩:=Great.foldl_set o v.cells.toList 0 cells
 refine⟨_,?_,g1,fun j=>?_⟩
 ·conv=>lhs;unfold Instr.fill
  simp only[hp,hs]
  rw[if_neg (by simp;omega)]
  congr 1
  rw[← Array.foldl_toList]
  congr 1
  simp
 ·rw[g2 j]
  simp only[Yq,Array.length_toList,hs]
  by_cases h1:j<o
  ·rw[if_neg (by omega),if_pos h1]
  ·rw[if_neg h1]
   by_cases h2:j<o+s
   ·rw[if_pos ⟨by omega,h2,by omega⟩,if_pos h2];simp
   ·rw[if_neg (by omega),if_neg h2]
def CellsAt(c:Cx)(vs:Array Value)(cs:List AV):Prop:=vs.size=cs.length∧∀ (j:Nat) v a,vs[j]? = some v→cs[j]? = some a→a.cell=true∧RV c v a
theorem CellsAt.lay{vs vs':Array Value}{cs:List AV}(h:CellsAt c vs cs){v:Value}{x:AV}(hv:RV c v x)(hx:x.whole=true){o s:Nat}(hs:x.cells.length=s)(ho:o+s≤cs.length)(hz:vs'.size=vs.size)
  (hj:∀ j:Nat,vs'[j]? = if j<o then vs[j]? else if j<o+s then v.cells[j-o]? else vs[j]?):CellsAt c vs' (lay cs o x.cells):=by
 obtain⟨q1,q2⟩:=hv.cells hx
 refine⟨by rw[hz,h.1,length_lay (by omega)],fun j u a hu ha=>?_⟩
 rw[hj j] at hu
 rw[getElem?_lay (by omega),hs] at ha
 split at hu
 ·rename_i h1;rw[if_pos h1] at ha;exact h.2 j u a hu ha
 ·rename_i h1
  rw[if_neg h1] at ha
  split at hu
  ·rename_i h2;rw[if_pos h2] at ha;exact q2 _ u a hu ha
  ·rename_i h2;rw[if_neg h2] at ha;exact h.2 j u a hu ha
theorem abuild_fill(hT:TabOk P T){ti:TI}{place:Nat→Option (Nat×Nat)}(hpl:∀ (i o ft:Nat) fi,ti.offs[i]? = some (o,ft)→T ft=some fi→place i=some (o,fi.size)) :
  ∀ (parts:List (Nat×AV)) (vals:List (Nat×Value)) (cs:List AV) (vs:Array Value) (q:PD (List AV)),vals.length=parts.length→(∀ (j:Nat) p v,parts[j]? = some p→vals[j]? = some v→v.1=p.1∧RV c v.2 p.2)→CellsAt c vs cs→abuild T ti parts cs=some q→q.1 →
   ∃ r,Instr.fill place vs vals=some r∧CellsAt c r q.2
 |[],[],cs,vs,q,_,_,h,hq,_=>by
  simp only[abuild,Option.some.injEq] at hq
  subst hq
  exact⟨vs,rfl,h⟩
 |(i,x)::parts,[],cs,vs,q,hl,_,_,_,_=>by simp at hl
 |[],_::_,cs,vs,q,hl,_,_,_,_=>by simp at hl
 |(i,x)::parts,(i',v)::vals,cs,vs,q,hl,hr,h,hq,hp=>by
  obtain⟨e1,e2⟩:=hr 0 _ _ rfl rfl
  simp only at e1 e2
  subst e1
  simp only[abuild] at hq
  split at hq
  ·rename_i o ft ho hw
   simp only[Option.bind_eq_some_iff,Ve] at hq
   obtain⟨fi,hfi,q',hq',rfl⟩:=hq
   obtain⟨⟨p1,p2⟩,p3⟩:=hp
   obtain⟨q1,_⟩:=e2.cells hw
   obtain⟨vs',hf,hz,hj⟩:=fill_one (rest:=vals) (hpl _ o ft fi ho hfi) (q1.trans p1) (by rw[h.1];exact p2)
   obtain⟨r,hr1,hr2⟩:=abuild_fill hT hpl parts vals _ vs' q' (by simpa using hl) (fun j p w hp hw=>hr (j+1) p w (by simpa using hp) (by simpa using hw)) (h.lay e2 hw p1 p2 hz hj) hq' p3
   exact⟨r,hf.trans hr1,hr2⟩
  ·cases hq
theorem mapM_places(hT:TabOk P T):∀ (fs:List Field),(∀ f∈fs,∃ i,P.info? f.type=some i∧i.size≠0)→∃ places,fs.mapM (fun f=>(P.info? f.type).map fun i=>(f.offset,i.size))=some places ∧
  ∀ (j:Nat) f fi,fs[j]? = some f→T f.type=some fi→places[j]? = some (f.offset,fi.size)
 |[],_=>⟨[],by simp,fun j f fi h=>by simp at h⟩
 |f::fs,h=>by
  obtain⟨i,hi,_⟩:=h f (by simp)
  obtain⟨pl,h1,h2⟩:=mapM_places hT fs (fun g hg=>h g (by simp[hg]))
  refine⟨(f.offset,i.size)::pl,by simp[List.mapM_cons,hi,h1],fun j g fi hj hfi=>?_⟩
  cases j with
  |zero=>
   simp only[Y1,Option.some.injEq] at hj
   subst hj
   obtain⟨i',_,w1,w2,_⟩:=(hT _ _ hfi).info
   rw[hi] at w1
   cases w1
   simp[w2]
  |succ j=>simpa using h2 j g fi (by simpa using hj) hfi
theorem TRel.parts{a:Act}{t:List AV}(h:TRel c a.tmps t)(ps:List (Nat×Operand)):∀ (j:Nat) p v,(ps.map fun q=>(q.1,aev t q.2))[j]? = some p→(ps.map fun q=>(q.1,a.eval q.2))[j]? = some v→v.1=p.1∧RV c v.2 p.2:=by
 intro j p v hp hv
 rw[Vg] at hp hv
 simp only[Ve] at hp hv
 obtain⟨q,hq,rfl⟩:=hp
 obtain⟨q',hq',rfl⟩:=hv
 rw[hq] at hq'
 cases hq'
 exact⟨rfl,h.ev _⟩
theorem abuild_ok(hT:TabOk P T){t:Nat}{ti:TI}(ht:TIok P t ti)(hs:ti.sort=.st){a:Act}{tm:List AV}(hr:TRel c a.tmps tm)(ps:Array (Nat×Operand)){q:PD (List AV)}
  (hq:abuild T ti (ps.toList.map fun q=>(q.1,aev tm q.2)) ti.zero=some q) (hp:q.1) :
  ∃ v,(Instr.build t (ps.map fun(i,x)=>(i,a.eval x))).run P c.w=.ok v c.w∧RV c v (.agg q.2):=by
 obtain⟨d,hd,hso⟩:=ht.desc
 unfold sortOk at hso
 rw[hs] at hso
 obtain⟨fs,rfl,h1,h2⟩:=hso
 obtain⟨it,z,hi1,hi2,hi3,hi4,hi5,hi6⟩:=ht.info
 obtain⟨pl,hm,hpl⟩:=mapM_places hT fs.toList h2
 obtain⟨r,hf,hcr⟩:=abuild_fill (c:=c) hT (ti:=ti) (place:=(pl.toArray[·]?)) (fun i o ft fi ho hfi=>by
   rw[← h1,Vg] at ho
   simp only[Ve] at ho
   obtain⟨f,hf,he⟩:=ho
   cases he
   simpa using hpl i f fi hf hfi) _ (ps.toList.map fun q=>(q.1,a.eval q.2)) ti.zero z.cells q (by simp) (hr.parts ps.toList) ⟨hi5,fun j v x hv hx=>⟨AV.plain_cell (hi6 j v x hv hx).1,(hi6 j v x hv hx).2 c⟩⟩ hq hp
 refine⟨.agg r,run_build c.w t _ r ?_,.agg r q.2 hcr.1 (fun j x hx=>?_) (fun j v x hv hx=>(hcr.2 j v x hv hx).2)⟩
 ·unfold Program.built
  simp only[hi1,hd,hi4,hm]
  have e:(ps.map fun(i,x)=>(i,a.eval x)).toList=ps.toList.map fun q=>(q.1,a.eval q.2):=by simp
  rw[e]
  exact hf
 ·have hj:j<r.size:=by rw[hcr.1];exact(Va hx).1
  exact(hcr.2 j r[j] x (Vc hj) hx).1
theorem RV.bare{v:Value}{a:AV}(h:RV c v a):RV c v a.bare:=by
 cases h with
 |sl k l t A n cap b o vs hn hcap hm hA hk hc hr ht=>exact .sl k l .no A n cap b o vs hn hcap hm hA hk hc hr trivial
 |ptr i o b h1 h2 h3=>exact .ptr i o b h1 h2 h3
 |mp i b h1 h2 h3=>exact .mp i b h1 h2 h3
 |msl i k o n cap b o' h1 h2 h3 h4 h5 h6=>exact .msl i k o n cap b o' h1 h2 h3 h4 h5 h6
 |msu i k n cap b h1 h2 h3 h4 h5 h6=>exact .msu i k n cap b h1 h2 h3 h4 h5 h6
 |eptr i k j o b h1 h2 h3=>exact .eptr i k j o b h1 h2 h3
 |_=>constructor<;>assumption
theorem AV.bare_cell{a:AV}(h:a.cell=true):a.bare.cell=true:=by cases a<;>first|rfl|cases h
theorem RV.bcells{v:Value}{a:AV}(h:RV c v a)(ha:a.whole=true):v.cells.size=(a.cells.map AV.bare).length∧∀ (j:Nat) u x,v.cells[j]? = some u→(a.cells.map AV.bare)[j]? = some x→x.cell=true∧RV c u x:=by
 obtain⟨q1,q2⟩:=h.cells ha
 refine⟨by simpa using q1,fun j u x hu hx=>?_⟩
 rw[Vg] at hx
 simp only[Ve] at hx
 obtain⟨y,hy,rfl⟩:=hx
 obtain⟨g1,g2⟩:=q2 j u y hu hy
 exact⟨AV.bare_cell g1,g2.bare⟩
theorem FlatP.set{k:Nat}{l:List (List AV)}{xs xs':List Value}(h:FlatP AV.cell c k l xs){v:Value}{x:AV}(hv:RV c v x)(hx:x.whole=true){i:Nat}(hi:i<l.length)(hk:x.cells.length=k)(hz:xs'.length=xs.length)
  (hj:∀ j:Nat,xs'[j]? = if j<i*k then xs[j]? else if j<i*k+k then v.cells[j-i*k]? else xs[j]?):FlatP AV.cell c k (l.set i (x.cells.map AV.bare)) xs':=by
 obtain⟨q1,q2⟩:=hv.bcells hx
 rw[List.length_map] at q1
 refine⟨by rw[hz,h.len,List.length_set],fun j e he=>?_,fun j e m a he ha=>?_⟩
 ·rw[List.getElem?_set] at he
  by_cases hji:i=j
  ·subst hji;rw[if_pos rfl,if_pos hi] at he;cases he;simpa using hk
  ·rw[if_neg hji] at he;exact h.el j e he
 ·rw[List.getElem?_set] at he
  by_cases hji:i=j
  ·subst hji
   rw[if_pos rfl,if_pos hi] at he
   cases he
   have hm:m<k:=by rw[← hk];simpa using(Va ha).1
   have hmv:m<v.cells.size:=by rw[q1,hk];exact hm
   obtain⟨g1,g2⟩:=q2 m _ a (Vc hmv) ha
   refine⟨g1,_,?_,g2⟩
   rw[hj,if_neg (by omega),if_pos (by omega),show i*k+m-i*k=m by omega]
   exact Vc hmv
  ·rw[if_neg hji] at he
   obtain⟨g1,u,g2,g3⟩:=h.rv j e m a he ha
   have hm:m<k:=by rw[← h.el j e he];exact(Va ha).1
   refine⟨g1,u,?_,g3⟩
   rw[hj]
   rcases Nat.lt_or_gt_of_ne hji with hlt|hgt
   ·have:(i+1)*k≤j*k:=Nat.mul_le_mul_right k hlt
    rw[Nat.add_mul] at this
    rw[if_neg (by omega),if_neg (by omega)];exact g2
   ·have:(j+1)*k≤i*k:=Nat.mul_le_mul_right k hgt
    rw[Nat.add_mul] at this
    rw[if_pos (by omega)];exact g2
theorem aelems_fill{k:Nat}:∀ (parts:List (Nat×AV)) (vals:List (Nat×Value)) (l:List (List AV)) (vs:Array Value) (q:PD (List (List AV))),vals.length=parts.length→(∀ (j:Nat) p v,parts[j]? = some p→vals[j]? = some v→v.1=p.1∧RV c v.2 p.2)→FlatP AV.cell c k l vs.toList→aelems k parts l=some q→q.1 →
   ∃ r,Instr.fill (fun i=>some (i*k,k)) vs vals=some r∧FlatP AV.cell c k q.2 r.toList∧q.2.length=l.length
 |[],[],l,vs,q,_,_,h,hq,_=>by
  simp only[aelems,Option.some.injEq] at hq
  subst hq
  exact⟨vs,rfl,h,rfl⟩
 |(i,x)::parts,[],cs,vs,q,hl,_,_,_,_=>by simp at hl
 |[],_::_,cs,vs,q,hl,_,_,_,_=>by simp at hl
 |(i,x)::parts,(i',v)::vals,l,vs,q,hl,hr,h,hq,hp=>by
  obtain⟨e1,e2⟩:=hr 0 _ _ rfl rfl
  simp only at e1 e2
  subst e1
  simp only[aelems] at hq
  split at hq
  ·rename_i hw
   simp only[Ve] at hq
   obtain⟨q',hq',rfl⟩:=hq
   obtain⟨⟨p1,p2⟩,p3⟩:=hp
   obtain⟨q1,_⟩:=e2.cells hw
   have hle:i'*k+k≤vs.size:=by
    have:=h.len
    simp only[Array.length_toList] at this
    have h2:(i'+1)*k≤l.length*k:=Nat.mul_le_mul_right k p2
    rw[Nat.add_mul] at h2;omega
   obtain⟨vs',hf,hz,hj⟩:=fill_one (place:=fun i=>some (i*k,k)) (rest:=vals) (i:=i') rfl (q1.trans p1) hle
   obtain⟨r,hr1,hr2,hr3⟩:=aelems_fill parts vals (l.set i' (x.cells.map AV.bare)) vs' q' (by simpa using hl) (fun j p w hp hw=>hr (j+1) p w (by simpa using hp) (by simpa using hw)) (h.set e2 hw p2 p1 (by simpa using hz) (fun j=>by simpa using hj j)) hq' p3
   exact⟨r,hf.trans hr1,hr2,by rw[hr3,List.length_set]⟩
  ·cases hq
theorem flat_plain{k:Nat}{l:List (List AV)}{xs:List Value}(h:FlatP AV.cell c k l xs)(hp:plains l=true):Flat c k l xs:=
 ⟨h.len,h.el,fun j e i a he ha=>by
  obtain⟨_,g⟩:=h.rv j e i a he ha
  refine⟨?_,g⟩
  have h1:=(List.all_eq_true.1 hp) e (Vd he)
  exact(List.all_eq_true.1 h1) a (Vd ha)⟩
end
section
variable {P:Program} {T:TabT} {c:Cx}
theorem zeros_flat{ei:TI}{z:Value}(hz:z.cells.size=ei.zero.length)(hzl:ei.zero.length=ei.size)(hzr:∀ (j:Nat) v a,z.cells[j]? = some v→ei.zero[j]? = some a→a.plain=true∧∀ c,RV c v a)(n:Nat) :
  FlatP AV.cell c ei.size (List.replicate n ei.zero) ((Array.range (n*ei.size)).map (z.cells[· % z.cells.size]!)).toList:=by
 refine⟨by simp,fun j e he=>?_,fun j e i a he ha=>?_⟩
 ·rw[List.getElem?_replicate] at he
  split at he
  ·cases he;exact hzl
  ·cases he
 ·rw[List.getElem?_replicate] at he
  split at he
  ·rename_i hj
   cases he
   have hi:i<ei.size:=by rw[← hzl];exact(Va ha).1
   have hiz:i<z.cells.size:=by rw[hz,hzl];exact hi
   have hlt:j*ei.size+i<n*ei.size:=by
    have:(j+1)*ei.size≤n*ei.size:=Nat.mul_le_mul_right _ hj
    rw[Nat.add_mul] at this;omega
   obtain⟨g1,g2⟩:=hzr i _ a (Vc hiz) ha
   refine⟨AV.plain_cell g1,_,?_,g2 c⟩
   simp only[Array.toList_map,Vg,Array.toList_range,List.getElem?_range hlt,Yc]
   congr 1
   have:(j*ei.size+i) % z.cells.size=i:=by rw[hz,hzl,Nat.mul_comm,Nat.mul_add_mod];exact Nat.mod_eq_of_lt hi
   rw[this]
   exact getElem!_pos z.cells i hiz
  ·cases he
theorem abuildSlice_ok(hT:TabOk P T)(hc:RelH c){t:Nat}{ti ei:TI}(ht:TIok P t ti)(hs:ti.sort=.sl)(he:T ti.elem=some ei){slot:Nat}(hsl:c.h[slot]? = some .free){a:Act}{tm:List AV}(hr:TRel c a.tmps tm)(n:Nat)(ps:Array (Nat×Operand)){q:PD (List (List AV))}
  (hq:aelems ei.size (ps.toList.map fun q=>(q.1,aev tm q.2)) (List.replicate n ei.zero)=some q) (hsm:n*ei.size≤16777216) (hpos:0<ei.size) (hp:q.1) :
  ∃ v ρ' w',(Instr.buildSlice t n (ps.map fun(i,x)=>(i,a.eval x))).run P c.w=.ok v w'∧RelH ⟨ρ',c.h.set slot (.tok ei.size n),w',c.X⟩∧Ev c ⟨ρ',c.h.set slot (.tok ei.size n),w',c.X⟩∧RV ⟨ρ',c.h.set slot (.tok ei.size n),w',c.X⟩ v (if plains q.2 then .sl ei.size q.2 (.own slot) else .psl ei.size q.2):=by
 obtain⟨d,hd,hso⟩:=ht.desc
 unfold sortOk at hso
 rw[hs] at hso
 subst hso
 have hslt:slot<c.h.length:=(Va hsl).1
 obtain⟨ie,z,hi1,hi2,hi3,hi4,hi5,hi6⟩:=(hT _ _ he).info
 have hzl:=(hT _ _ he).zl
 obtain⟨r,hf,hfl,hlen⟩:=aelems_fill (c:=c) _ (ps.toList.map fun q=>(q.1,a.eval q.2)) (List.replicate n ei.zero) _ q (by simp) (hr.parts ps.toList) (zeros_flat (c:=c) hi5 hzl hi6 n) hq hp
 have hlen':q.2.length=n:=by simpa using hlen
 have hrun:(Instr.buildSlice t n (ps.map fun(i,x)=>(i,a.eval x))).run P c.w=.ok (.slice (some ⟨c.w.heap.size,0,none⟩) n n) (c.w.alloc (.cells r ti.elem)):=by
  have e:(ps.map fun(i,x)=>(i,a.eval x)).toList=ps.toList.map fun q=>(q.1,a.eval q.2):=by simp
  by_cases hn:n=0
  ·subst hn
   have hps:ps.toList.map (fun q=>(q.1,aev tm q.2))=[]:=by
    cases hh:ps.toList.map (fun q=>(q.1,aev tm q.2)) with
    |nil=>rfl
    |cons x rest=>
     exfalso
     rw[hh] at hq
     obtain⟨i,y⟩:=x
     simp only[aelems] at hq
     split at hq
     ·simp only[Ve] at hq
      obtain⟨q',_,rfl⟩:=hq
      obtain⟨⟨_,h2⟩,_⟩:=hp
      simp at h2
     ·cases hq
   have hps0:ps=#[]:=by
    have:ps.toList=[]:=by simpa using hps
    simpa using this
   subst hps0
   have hr0:r=#[]:=by
    simp only[Ye,Instr.fill,Option.some.injEq] at hf
    rw[← hf];simp
   subst hr0
   simp[Instr.buildSlice,run_underlying hd,sizeOf,typeInfo,hi1,Instr.fill,newRow,Array.range_zero']
  ·refine run_buildSlice c.w t ti.elem n _ r ie z hd hi1 hi4 (by rw[hi2];omega) (by rw[hi2];exact Nat.mul_ne_zero hn (by omega)) ?_
   rw[e,hi2]
   exact hf
 have hm:n≤16777216:=Nat.le_trans (Nat.le_mul_of_pos_right n hpos) hsm
 have hblk:(c.w.alloc (.cells r ti.elem)).heap[c.w.heap.size]? = some (.cells r ti.elem):=by show(c.w.heap.push _)[c.w.heap.size]? = _;simp
 obtain⟨h1,h2⟩:=Cx.alloc hc slot .free hsl (.tok ei.size n) (.inl rfl) rfl (c.w.alloc (.cells r ti.elem)) (.cells r ti.elem) rfl rfl rfl rfl (fun _ b hb=>by
  rw[show(Cx.mk (setρ c.ρ slot (some c.w.heap.size)) (c.h.set slot (.tok ei.size n)) (c.w.alloc (.cells r ti.elem)) c.X).ρ slot=some c.w.heap.size from setρ_same _ _ _] at hb
  cases hb
  exact⟨r,ti.elem,hblk⟩)
 have hcell:∀ (j:Nat) u,r.toList[j]? = some u→(Cx.mk (setρ c.ρ slot (some c.w.heap.size)) (c.h.set slot (.tok ei.size n)) (c.w.alloc (.cells r ti.elem)) c.X).im c.w.heap.size (0+j)∧(c.w.alloc (.cells r ti.elem)).cell? ⟨c.w.heap.size,0+j,none⟩=some u:=fun j u hj=>by
  rw[Nat.zero_add]
  refine⟨⟨by show c.w.heap.size<(c.w.heap.push _).size;simp,(fun h=>by have:=(hc.xs _ _ h).1;omega),fun i x hx hb=>?_⟩,?_⟩
  ·by_cases hi:i=slot
   ·subst hi
    simp only[List.getElem?_set_self hslt] at hx
    cases hx
    show j<n*ei.size
    have:=(Va hj).1
    rw[hfl.len,hlen'] at this;exact this
   ·simp only[List.getElem?_set_ne (Ne.symm hi)] at hx
    simp only[setρ_ne _ _ hi] at hb
    have:=hc.here i x _ hx hb
    omega
  ·rw[cell_of_row _ _ j r ti.elem (0,0) hblk]
   simpa using hj
 refine⟨_,_,_,hrun,h1,h2,?_⟩
 split
 ·rename_i hpl
  refine RV.sl_of ((flat_plain hfl hpl).mono' h2) (by omega) (by unfold maxLen;omega) c.w.heap.size 0 (fun _=>rfl) hcell ?_ hlen'
  refine⟨⟨_,List.getElem?_set_self hslt,rfl⟩,fun k' n' e=>?_⟩
  simp only[List.getElem?_set_self hslt] at e
  cases e
  exact⟨rfl,by omega,fun _=>.inl (by omega)⟩
 ·exact RV.psl_of (hfl.mono' h2) (by omega) (by unfold maxLen;omega) c.w.heap.size 0 (fun _=>rfl) hcell hlen'
theorem Cx.push(hc:RelH c)(w':World)(o:Obj)(hw:w'.heap=c.w.heap.push o)(h1:w'.os=c.w.os)(h2:w'.tape=c.w.tape)(h3:w'.output=c.w.output):RelH ⟨c.ρ,c.h,w',c.X⟩∧Ev c ⟨c.ρ,c.h,w',c.X⟩:=by
 have hold:∀ b,b<c.w.heap.size→w'.heap[b]? = c.w.heap[b]?:=fun b hb=>by rw[hw,Array.getElem?_push_lt hb,Vc hb]
 have hev:Ev c ⟨c.ρ,c.h,w',c.X⟩:=⟨h1,h2,h3,by rw[hw];simp,rfl,fun b o h=>⟨⟨by rw[hw];simp;have:=h.1;omega,h.2⟩,cB (hold b h.1)⟩,fun b hb hm=>⟨hold b hb,hm⟩,Nat.le_refl _,
  fun i x hx hf=>⟨x,hx,hf,fun ht=>⟨ht,rfl⟩,fun k n e=>⟨n,e,.inr ⟨rfl,rfl,fun b hb=>hold b (hc.here i x b hx hb)⟩⟩⟩,keep_old hold⟩
 exact⟨⟨hc.inj,fun i x b hx hb=>by rw[hw];simp;have:=hc.here i x b hx hb;omega,fun i x hx=>(hc.blk i x hx).mono hev rfl fun b _ hb=>hold b (hc.here i x b hx hb),fun b o h=>⟨by rw[hw];simp;have:=(hc.xs b o h).1;omega,(hc.xs b o h).2⟩⟩,hev⟩
theorem bytes_flat(l:List UInt8):Flat c 1 (l.map bC) (l.map fun b=>Value.int .u8 b.toNat):=by
 refine⟨by simp,fun j e he=>?_,fun j e i a he ha=>?_⟩
 ·rw[Vg] at he
  simp only[Ve] at he
  obtain⟨b,_,rfl⟩:=he
  rfl
 ·rw[Vg] at he
  simp only[Ve] at he
  obtain⟨b,hb,rfl⟩:=he
  match i,ha with
  |0,ha=>
   simp only[bC,Y1,Option.some.injEq] at ha
   subst ha
   exact⟨rfl,.int .u8 b.toNat,by rw[Nat.mul_one,Nat.add_zero,Vg,hb];rfl,.int _ _⟩
theorem run_str_bytes{s d e:TypeId}(hs:P.underlying s=some .string)(hd:P.underlying d=some (.slice e))(he:P.underlying e=some (.int .u8))(q:ByteArray)(hq:q.size≤9223372036854775807)(w:World) :
  ∃ (C:Array Value) (cap:Nat) (fr:Nat×Nat),(convert s d (.string q)).run P w=.ok (.slice (some ⟨w.heap.size,0,none⟩) q.size cap) { w with heap:=w.heap.push (.cells C e fr),drawn:=w.drawn+1 }∧q.size≤cap∧cap≤maxLen∧∀ (j:Nat) u,(q.data.toList.map fun b=>Value.int .u8 b.toNat)[j]? = some u→C[j]? = some u:=by
 obtain⟨C,hC⟩:∃ C:Array Value,C=q.data.map (fun b=>Value.int .u8 b.toNat)++Array.replicate (grownCap w q.size 0 e-q.size) (.int .u8 0):=⟨_,rfl⟩
 have hsh:(w.drew.alloc (.cells C e)).shape? w.heap.size=some (e,C.size):=by
  have:(w.drew.alloc (.cells C e)).heap[w.heap.size]? = some (.cells C e):=by
   show(w.heap.push (.cells C e))[w.heap.size]? = _
   simp
  unfold World.shape?
  rw[this]
 have hfr:(w.drew.alloc (.cells C e)).freeze ⟨w.heap.size,C.size,none⟩ 1={ w with heap:=w.heap.push (.cells C e (C.size,C.size+1)),drawn:=w.drawn+1 }:=by
  have hm:∀ (a:Array Obj) (x:Obj) (f:Obj→Obj),(a.push x).modify a.size f=a.push (f x):=by
   intro a x f
   apply Array.ext
   ·simp
   ·intro i h1 h2
    rw[Array.getElem_modify]
    by_cases hi:a.size=i
    ·subst hi;simp
    ·have:i<a.size:=by simp at h1;omega
     rw[if_neg hi,Array.getElem_push_lt this,Array.getElem_push_lt this]
  unfold World.freeze
  rw[if_neg (by decide)]
  show({ w.drew with heap:=(w.heap.push (.cells C e)).modify w.heap.size _ }:World)=_
  rw[hm]
  rfl
 refine⟨C,grownCap w q.size 0 e,(C.size,C.size+1),?_,grownCap_ge _ _ _ _,grownCap_le_maxLen _ _ _ _ (by unfold maxLen;omega),fun j u hj=>?_⟩
 ·have hrun:(convert s d (.string q)).run P w=((markStringish ⟨w.heap.size,0,none⟩).run P (w.drew.alloc (.cells C e))).andThen fun _ w'=>.ok (.slice (some ⟨w.heap.size,0,none⟩) q.size (grownCap w q.size 0 e)) w':=by
   rw[hC]
   simp[convert,Sem.run_bind,run_underlying hs,run_underlying hd,run_underlying he,Conv.stringToBytes,Question.forced,newRow,grownCap]
  rw[hrun]
  simp[markStringish,Go.shape,Go.freeze,Sem.run,Sem.run_bind,hsh,hfr]
 ·subst hC
  have hlt:=(Va hj).1
  rw[Array.getElem?_append_left (by simpa using hlt)]
  simpa using hj
theorem aconv_ok(hT:TabOk P T)(hc:RelH c){s d:Nat}{si di:TI}(hs:TIok P s si)(hd:TIok P d di){v:Value}{x:AV}(hv:RV c v x){r:ARes}(hr:aconv T si di x=some r)(hp:r.p) :
  r.d=none∧∃ u w',(convert s d v).run P c.w=.ok u w'∧RelH ⟨c.ρ,c.h,w',c.X⟩∧Ev c ⟨c.ρ,c.h,w',c.X⟩∧RV ⟨c.ρ,c.h,w',c.X⟩ u r.v:=by
 obtain⟨ds,hds,hss⟩:=hs.desc
 obtain⟨dd,hdd,hsd⟩:=hd.desc
 unfold sortOk at hss hsd
 unfold aconv at hr
 split at hr
 ·rename_i k n
  split at hr
  ·rename_i k' hk
   rw[hk] at hsd;subst hsd
   cases hr
   cases hv
   exact⟨rfl,_,c.w,by simp[convert,Sem.run_bind,run_underlying hds,run_underlying hdd,Conv.intToInt],hc,Ev.refl c,.int _ _⟩
  ·cases hr
 ·rename_i k l t
  split at hr
  ·rename_i h1 h2 h3
   rw[h1] at hss;subst hss
   rw[h3] at hsd;subst hsd
   simp only[Ve] at h2
   obtain⟨ei,hei,hes⟩:=h2
   obtain⟨de,hde,hse⟩:=(hT _ _ hei).desc
   unfold sortOk at hse
   rw[hes] at hse;subst hse
   cases hr
   have hb:l=(bytesOf l).map bC:=hp
   obtain⟨A,cap,xs,rfl,hcap,hm,hf,_,hcell⟩:=hv.flat
   refine⟨rfl,.string ⟨(bytesOf l).toArray⟩,c.w,?_,hc,Ev.refl c,.str _ _ (by simp)⟩
   have hll:l.length=(bytesOf l).length:=by conv=>lhs;rw[hb];simp
   by_cases hl:l=[]
   ·subst hl
    rw[List.length_nil,run_convert_bytes_string c.w s d _ _ 0 cap hds hde hdd]
    cases A<;>simp[Conv.bytesToString,loadCells,loadCellsFrom,bytesOf]<;>rfl
   ·obtain⟨b,o,rfl,hcc⟩:=hcell hl
    rw[hll]
    refine run_convert_bytes_back (P:=P) c.w s d _ ⟨b,o,none⟩ cap _ hds hde hdd fun j hj=>?_
    rw[Addr.add_mid]
    have hlj:l[j]? = some (bC (bytesOf l)[j]):=by conv=>lhs;rw[hb];simp[hj]
    have hk:k=1:=by have:=hf.el j _ hlj;simpa [bC] using this.symm
    subst hk
    obtain⟨_,u,g1,g2⟩:=hf.rv j _ 0 _ hlj rfl
    rw[Nat.mul_one,Nat.add_zero] at g1
    rw[(hcc j u g1).2]
    cases g2;rfl
  ·cases hr
 ·split at hr
  ·rename_i h1 h2 h3
   rw[h1] at hss;subst hss
   rw[h3] at hsd;subst hsd
   simp only[Ve] at h2
   obtain⟨ei,hei,hes⟩:=h2
   obtain⟨de,hde,hse⟩:=(hT _ _ hei).desc
   unfold sortOk at hse
   rw[hes] at hse;subst hse
   cases hr
   cases hv
   refine⟨rfl,.string .empty,c.w,?_,hc,Ev.refl c,.str _ _ rfl⟩
   rw[run_convert_bytes_string c.w s d _ _ 0 0 hds hde hdd]
   simp[Conv.bytesToString]
  ·cases hr
 ·rename_i l
  split at hr
  ·rename_i h1 h3
   rw[h1] at hss;subst hss
   rw[h3] at hsd;subst hsd
   cases hr
   cases hv with
   |str q _ hq=>exact⟨rfl,.string q,c.w,by simp[convert,Sem.run_bind,run_underlying hds,run_underlying hdd],hc,Ev.refl c,.str _ _ hq⟩
  ·rename_i h1 h3
   rw[h1] at hss;subst hss
   rw[h3] at hsd;subst hsd
   split at hr
   ·rename_i h2
    simp only[Ve] at h2
    obtain⟨ei,hei,hes⟩:=h2
    obtain⟨de,hde,hse⟩:=(hT _ _ hei).desc
    unfold sortOk at hse
    rw[hes] at hse;subst hse
    cases hr
    cases hv with
    |str q _ hq=>
     subst hq
     have hqs:q.size≤9223372036854775807:=by have h:=hp;simp at h;omega
     obtain⟨C,cap,fr,h1,h2,h3,h4⟩:=run_str_bytes hds hdd hde q hqs c.w
     obtain⟨g1,g2⟩:=Cx.push hc { c.w with heap:=c.w.heap.push (.cells C di.elem fr),drawn:=c.w.drawn+1 } _ rfl rfl rfl rfl
     refine⟨rfl,_,_,h1,g1,g2,RV.sl_of (t:=.no) (bytes_flat _) (by simpa using h2) h3 c.w.heap.size 0 (fun _=>rfl) (fun j u hj=>?_) trivial (by simp)⟩
     rw[Nat.zero_add]
     refine⟨⟨by simp,(fun h=>by have:=(hc.xs _ _ h).1;omega),fun i x hx hb=>?_⟩,?_⟩
     ·have:=hc.here i x _ hx hb
      omega
     ·rw[cell_of_row _ _ j C di.elem fr (by simp)]
      exact h4 j u hj
   ·cases hr
  ·cases hr
 ·cases hr
end
end Go.Proofs.YtojhjaohaafeaaaGreatDoor
