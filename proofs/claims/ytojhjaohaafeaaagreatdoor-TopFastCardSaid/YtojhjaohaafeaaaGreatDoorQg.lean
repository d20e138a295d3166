/-
  Several texts in one: Sw, Sx, ZRep, LibB, DiskSpec, Dx, Pm, CrcSpec, FrameSpec, Crc, CrcB, TakeZ, RegL, CrcC, CrcD, OctetRef, CrcE, Wa, WalSpec, Wp, Dz, Wb, Wc, Nb, Nj, Pq, Ny.
-/
import Derived.Test.YtojhjaohaafeaaaGreatDoorQf
import Derived.Test.YtojhjaohaafeaaaGreatDoorQd
import Derived.Lib.AppendZeros
import Derived.Deep.QuietTactic
import Derived.BigQuiet
import Derived.Laws.BitsAllLaws
import Derived.Deep.RegionHeld3
import Derived.IntWalk
import Derived.Test.YtojhjaohaafeaaaGreatDoorQb
import Derived.Test.YtojhjaohaafeaaaGreatDoorQc
set_option maxRecDepth 20000
set_option maxHeartbeats 8000000
open Go.Proofs.Tryz
namespace Go.Proofs.YtojhjaohaafeaaaGreatDoor
open Go.RowKit
theorem encZs_cons(n:Int)(l:List Int):encZs (n::l)=encN (zig n)++encZs l:=by simp[encZs]
theorem seqZ_enc:∀ (l:List Int) (r:Bytes),(∀ n∈l,I64 n)->seqZ l.length (encZs l++r)=.ok (l,r)
 |[],r,_=>rfl
 |n::l,r,h=>by
  have h0:=h n List.mem_cons_self;unfold I64 at h0;rw[encZs_cons,List.append_assoc,List.length_cons,seqZ,takeZ_enc n (by omega) (by omega)];simp only[seqZ_enc l r fun m hm=>h m (List.mem_cons_of_mem _ hm)]
theorem may_small{o:Ord}(h:mayO o=true):o.s.length<=100/\o.t.length<=1000:=by
 simp only[mayO,Vi,decide_eq_true_eq] at h;omega
theorem takeO_enc(o:Ord)(h:mayO o=true)(hs:smO o)(more:Bytes):takeO (putO o++more)=.ok (o,more):=by
 obtain⟨h1,h2,h3,h4,h5,h6,_,_⟩:=hs;obtain⟨g1,g2⟩:=may_small h;have e:=seqZ_enc [o.a,o.b,o.kind,o.x,o.y,o.z] (encT o.s++(encT o.t++more)) (by simp;exact⟨h1,h2,h3,h4,h5,h6⟩);simp only[Ya,Y9,Nat.reduceAdd] at e;rw[takeO,putO,List.append_assoc,List.append_assoc,e];simp only[takeT_enc o.s 100 (by omega) (by omega),takeT_enc o.t 1000 (by omega) (by omega),List.getD_cons_zero,List.getD_cons_succ];rw[if_pos h]
theorem oput_spec(b:Bytes)(n:Nat)(hb:b.length<=1000000)(h1:n<18446744073709551616):OSpec prog 112 [bA b,.int .u64 n] 1 ((b++encN n).map bC):=by
 refine own_spec (by rw[List.length_append];have:=encN_pos n;omega) ⟨_,func112,by kernel_rfl,rfl⟩ fun c vs hh hc hr=>?_;obtain⟨u,v,rfl,hu,hv⟩:=hr.duo;obtain⟨A,cap,rfl,g1,g2,hs⟩:=hu.bytes;cases hv;refine(put_any A b b.length cap n rfl g1 g2 h1 hb c.w hs).mono ?_;rintro e w' ⟨v,rfl,h,hb⟩;exact⟨v,_,rfl,h,hb⟩
end Go.Proofs.YtojhjaohaafeaaaGreatDoor
namespace Go.Proofs.YtojhjaohaafeaaaGreatDoor
open Go.ChangeShapes Go.WideShapes Go.ChangeAt Go.RowKit Go.Deep
structure Agree(Z:Nat->Prop)(w w':World):Prop where
 os:w'.os=w.os
 tape:w'.tape=w.tape
 output:w'.output=w.output
 size:w.heap.size<=w'.heap.size
 block:∀ k,k<w.heap.size->Z k->w'.heap[k]? = w.heap[k]?
section
variable {Z Z':Nat->Prop} {a b c w w':World}
end
structure ZRep(α:Type) where
 at_:(Nat->Prop)->World->List Value->α->Prop
 mono:∀ {Z Z':Nat->Prop} {w cs a},(∀ k,Z k->Z' k)->at_ Z w cs a->at_ Z' w cs a
 stable:∀ {Z w w' cs a},Agree Z w w'->at_ Z w cs a->at_ Z w' cs a
 narrow:∀ {Z w cs a},at_ Z w cs a->at_ (fun k=>Z k/\k<w.heap.size) w cs a
def SlZ{α:Type}(R:ZRep α)(k:Nat)(Z:Nat->Prop)(w:World)(A:Option Addr)(l:List α):Prop:=
 l≠[]->∃ b o,A=some ⟨b,o,none⟩/\Z b/\b<w.heap.size/\∀ (j:Nat) a,l[j]? = some a->∃ cs,cs.length=k/\R.at_ Z w cs a/\∀ i u,cs[i]? = some u->w.cell? ⟨b,o+j*k+i,none⟩=some u
section
variable {α:Type} {R:ZRep α} {k:Nat} {Z Z':Nat->Prop} {w w':World} {A:Option Addr} {l:List α}
end
section
variable {α:Type} {p:List Value->α->Prop} {k B:Nat} {Z:Nat->Prop} {w w':World} {A:Option Addr} {l:List α}
end
end Go.Proofs.YtojhjaohaafeaaaGreatDoor
namespace Go.Proofs.YtojhjaohaafeaaaGreatDoor
structure DD where
 cap:Int
 safe:Bytes
 loose:Bytes
 down:Bool
 fuse:Int
def rightB(d:DD):Bool:=decide (0<=d.cap/\d.cap<=1000000/\((d.safe.length+d.loose.length:Nat):Int)<=d.cap)
open Go.RowKit
end Go.Proofs.YtojhjaohaafeaaaGreatDoor
namespace Go.Proofs.YtojhjaohaafeaaaGreatDoor
def crcBit(x:Nat):Nat:=x / 2 ^^^ (if x % 2=1 then 2197175160 else 0)
def crcBits:Nat->Nat->Nat
 |0,x=>x
 |k+1,x=>crcBit (crcBits k x)
def crcByte(x:Nat):Nat:=crcBits 8 x
def crcStep(x:Nat)(c:UInt8):Nat:=crcByte (x ^^^ c.toNat)
def crcRun(x:Nat)(b:Bytes):Nat:=b.foldl crcStep x
def crcMore(s:Nat)(b:Bytes):Nat:=crcRun (s ^^^ 4294967295) b ^^^ 4294967295
def crcSum(b:Bytes):Nat:=crcMore 0 b
/-! ### one to one -/
end Go.Proofs.YtojhjaohaafeaaaGreatDoor
namespace Go.Proofs.YtojhjaohaafeaaaGreatDoor
def frB(x:Bytes):Bytes:=167::(encN x.length++x)
def fr(x:Bytes):Bytes:=frB x++be 4 (crcSum (frB x))
def frs(l:List Bytes):Bytes:=(l.map fr).flatten
end Go.Proofs.YtojhjaohaafeaaaGreatDoor
namespace Go.Proofs.YtojhjaohaafeaaaGreatDoor
open Go.RowKit Go.Deep
structure TabUpTo(Y k:Nat)(w:World):Prop where
 lt:Y<w.heap.size
 fz:∀ j,j<256->w.frozen? ⟨Y,j,none⟩=false
 there:∀ j,j<256->(w.cell? ⟨Y,j,none⟩).isSome=true
 done:∀ j,j<k->w.cell? ⟨Y,j,none⟩=some (.int .u32 (crcByte j:Nat))
end Go.Proofs.YtojhjaohaafeaaaGreatDoor
namespace Go.Proofs.YtojhjaohaafeaaaGreatDoor
open Go.RowKit Go.Deep
end Go.Proofs.YtojhjaohaafeaaaGreatDoor
namespace Go.Proofs.YtojhjaohaafeaaaGreatDoor
open Go.RowKit Go.Deep
section
variable {P:Program} {ops:Array Oper} {Q:Exit->Act->World->Prop} {md:Region.Mode} {S S':World->Prop}
section
variable {l:List Oper} {listed:Array Bool} {fuel:Nat} {a:Act} {w:World}
end
end
end Go.Proofs.YtojhjaohaafeaaaGreatDoor
namespace Go.Proofs.YtojhjaohaafeaaaGreatDoor
open Go.RowKit Go.Deep
end Go.Proofs.YtojhjaohaafeaaaGreatDoor
namespace Go.Proofs.YtojhjaohaafeaaaGreatDoor
open Go.RowKit Go.Deep
end Go.Proofs.YtojhjaohaafeaaaGreatDoor
namespace Go.Proofs.YtojhjaohaafeaaaGreatDoor
open Go.RowKit Go.Deep
theorem w8(m:Nat):IntKind.u8.wrap (m:Int)=((UInt8.ofNat m).toNat:Int):=by
 have e:(2:Int)^IntKind.u8.bits=256:=by decide
 simp only[IntKind.wrap,e,show IntKind.u8.signed=false from rfl,Bool.false_and,Y8,Yr];rw[UInt8.toNat_ofNat'];omega
theorem wf(m p:Nat):IntKind.u8.wrap ((m:Int).fdiv (p:Int))=((UInt8.ofNat (m / p)).toNat:Int):=by
 rw[Int.fdiv_eq_ediv_of_nonneg _ (by omega),<- Int.natCast_ediv,w8]
end Go.Proofs.YtojhjaohaafeaaaGreatDoor
namespace Go.Proofs.YtojhjaohaafeaaaGreatDoor
structure WL where
 d:DD
 l:List Bytes
/-! ### RECOVERS -/
structure Rec(S M:List Bytes)(y:DD):Prop where
 right:rightB y=true
 safe:y.safe=frs S
 loose:y.loose=[]\/(y.loose=frs M/\y.down=true)
 long:(∀ x∈S,x.length<=20000)/\∀ x∈M,x.length<=20000
end Go.Proofs.YtojhjaohaafeaaaGreatDoor
namespace Go.Proofs.YtojhjaohaafeaaaGreatDoor
def i64(n:Int):Prop:=-9223372036854775808<=n/\n<=9223372036854775807
structure WInv(g:WL)(S M:List Bytes):Prop where
 sl:g.l=S
 right:rightB g.d=true
 fuse:i64 g.d.fuse
 safe:g.d.safe=frs S
 small:∀ x∈S,x.length<=100000
 smM:∀ x∈M,x.length<=100000
 loose:g.d.loose=[]\/(g.d.down=true/\g.d.loose=frs M)
 up:M≠[]->g.d.down=true
open Go.RowKit
section
variable {P:Program} {f:FuncId} {c0:Cx} {R:AV->List ABlk->Prop} {ops:Array Oper} {n:Nat} {o:Oper} {rest:List Oper} {k:List Item} {s:AState}
end
theorem fi_some{p:Bytes->Bool}{l:List Bytes}{k:Nat}{x:Bytes}(hk:l[k]? = some x)(hp:p x=true)(hlt:∀ j y,j<k->l[j]? = some y->p y=false):l.findIdx? p=some k:=by
 obtain⟨h1,rfl⟩:=Va hk;rw[List.findIdx?_eq_some_iff_getElem];exact⟨h1,hp,fun j hj=>by have:=hlt j _ hj (Vb (by omega));simp[this]⟩
theorem fi_none{p:Bytes->Bool}{l:List Bytes}(h:∀ j y,j<l.length->l[j]? = some y->p y=false):l.findIdx? p=none:=by
 rw[List.findIdx?_eq_none_iff];intro x hx;obtain⟨j,hj⟩:=List.getElem?_of_mem hx;exact h j x (Va hj).1 hj
end Go.Proofs.YtojhjaohaafeaaaGreatDoor
namespace Go.Proofs.YtojhjaohaafeaaaGreatDoor
def a0(s:Sz)(me:Int):Acp:=⟨s,me,0,false,0,[],[],[]⟩
def lastA(s:Sz)(me:Int)(L:List Acp):Acp:=L.getLast?.getD (a0 s me)
structure Lst(s:Sz)(me:Int)(b:Acp):Prop where
 ok:AcOk b
 es:b.s=s
 em:b.me=me
 eb:bare b=b
structure Kpt(s:Sz)(me:Int)(a:Acp)(g:WL)(d:Sd)(L M:List Acp):Prop where
 ok:AcOk a
 es:a.s=s
 em:a.me=me
 has:hasS a d=true
 log:WInv g (L.map tF) (M.map tF)
 lst:∀ b∈L++M,Lst s me b
 last:lastA s me L=bare a
 may:∀ b∈M,hasS b d=true
 one:M.length<=1
end Go.Proofs.YtojhjaohaafeaaaGreatDoor
namespace Go.Proofs.YtojhjaohaafeaaaGreatDoor
theorem mayA_parts{a:Acc}(h:mayA a=true):0<=a.by_/\0<=a.view/\a.view<=100000/\(a.value.length:Int)<=6000:=by
 simp only[mayA,Vi,decide_eq_true_eq] at h;exact⟨h.1.1.1,h.1.1.2,h.1.2,h.2⟩
theorem sz_small{s:Sz}(h:s.right=true):1<=s.f/\s.f<=5/\0<=s.t/\s.t<=s.f:=by
 simp only[Sz.right,Vi,decide_eq_true_eq] at h;exact⟨h.1.1.1,h.1.1.2,h.1.2,h.2⟩
structure Prf(p:List Acc)(v:Int)(x:Bts):Prop where
 each:∀ a∈p,a.view=v/\a.value=x/\0<=a.by_/\a.by_<=100
 v0:0<=v
 v1:v<=100000
 xl:x.length<=6000
 few:p.length<=100
 ne:p≠[]
structure Parts(a:Acp):Prop where
 v0:0<=a.view
 v1:a.view<=100000
 a0:0<=a.at_
 a1:a.at_<=100000
 xl:a.value.length<=6000
 prf:a.proof=[]\/∃ v x,Prf a.proof v x
open Go.RowKit
theorem make19_spec(s:Sz)(l:List Acc)(hs:s.right=true)(hl:l.length<=1000000)(hb:ASpec prog 104 [.agg [vA l],.int .i64 s.proof] (bestVA (bestV l s.proof))):ASpec prog 50 [eS s,.agg [vA l]] (makeA (makeF s l)):=by
 have hp:=zProof_spec hs
 cases h:bestV l s.proof with
 |none=>
  rw[h] at hb;rw[show makeF s l=none by unfold makeF;rw[h];rfl];refine⟨⟨_,func50,by kernel_rfl,rfl⟩,Sg func50 rfl fun c0 hc0=>?_⟩;simp only[go_sem,eS,vA,Nat.reduceAdd,Nat.reduceSub];(and_intros<;>try first|rfl|omega);refine DOps.pure rfl .free rfl rfl (hp) (by simp only[go_sem,eS];(repeat' first|exact .refl _|apply LeR.tup|apply Le.agg|constructor)) rfl rfl ?_;refine Dg func50 rfl ?_;simp only[go_sem,Nat.reduceAdd];(and_intros<;>try first|rfl|omega);refine DOps.pure rfl .free rfl rfl (hb) (by simp only[go_sem,vA];(repeat' first|exact .refl _|apply LeR.tup|apply Le.agg|constructor)) rfl rfl ?_;refine Dg func50 rfl ?_;simp only[go_sem,bestVA,↓aT,Nat.reduceAdd];(and_intros<;>try first|rfl|omega)
  try simp only[makeA,vA,Ye]
  (repeat' first|exact .refl _|apply LeR.tup|apply Le.agg|constructor)
 |some c=>
  rw[h] at hb;obtain⟨h1,h2⟩:=bestV_some h;rw[show makeF s l=some ((l.filter (isV c.1 c.2)).take s.proof.toNat) by unfold makeF;rw[h];rfl];have hv:=voters_spec l c.1 c.2 hl;rw[List.countP_eq_length_filter] at h2
  have h0:0<=s.proof:=by omega
  obtain⟨F,hF⟩:∃ F,F=l.filter (isV c.1 c.2):=⟨_,rfl⟩
  rw[<- hF] at hv h2 ⊢;refine⟨⟨_,func50,by kernel_rfl,rfl⟩,Sg func50 rfl fun c0 hc0=>?_⟩;simp only[go_sem,eS,vA,Nat.reduceAdd,Nat.reduceSub];(and_intros<;>try first|rfl|omega);refine DOps.pure rfl .free rfl rfl (hp) (by simp only[go_sem,eS];(repeat' first|exact .refl _|apply LeR.tup|apply Le.agg|constructor)) rfl rfl ?_;refine Dg func50 rfl ?_;simp only[go_sem,Nat.reduceAdd];(and_intros<;>try first|rfl|omega);refine DOps.pure rfl .free rfl rfl (hb) (by simp only[go_sem,vA];(repeat' first|exact .refl _|apply LeR.tup|apply Le.agg|constructor)) rfl rfl ?_;refine Dg func50 rfl ?_;simp only[go_sem,bestVA,↓aF,Nat.reduceAdd];(and_intros<;>try first|rfl|omega);refine DOps.pure rfl .free rfl rfl (hv) (by simp only[go_sem,vA];(repeat' first|exact .refl _|apply LeR.tup|apply Le.agg|constructor)) rfl rfl ?_;refine Dg func50 rfl ?_;simp only[go_sem,Nat.reduceAdd];(and_intros<;>try first|rfl|omega);refine DOps.pure rfl .free rfl rfl (hp) (by simp only[go_sem,eS];(repeat' first|exact .refl _|apply LeR.tup|apply Le.agg|constructor)) rfl rfl ?_;refine Dg func50 rfl ?_;simp only[go_sem,vA,Nat.reduceAdd];(and_intros<;>try first|rfl|omega)
  try simp only[makeA,vA,List.map_take]
  (repeat' first|exact .refl _|apply LeR.tup|apply Le.agg|constructor)
theorem propose0_spec(a:Acp)(hv:a.view=0)(hh:a.has=false)(x:Bts)(hx:x.length<=6000):ASpec prog 17 [eC a,.int .i64 0,.str x,rpsA []] (.tup [eC (propF a 0 x),eA ⟨a.me,0,x⟩,.bool true]):=by
 obtain⟨s,me,view,has,at_,value,proof,votes⟩:=a;dsimp only at hv hh;subst hv hh
 have q5:¬6000<(x.length:Int):=by omega
 refine⟨⟨_,func17,by kernel_rfl,rfl⟩,Sg func17 rfl fun c0 hc0=>?_⟩;simp only[go_sem,eC,pC,vA,eA,aC,rpsA,q5,↓aT,↓aF,↓bT,↓bF,↓gT,↓gW,↓gF,Nat.reduceAdd,Nat.reduceLeDiff,Nat.reduceSub];(and_intros<;>try first|rfl|omega)
 try simp only[propF]
 (repeat' first|exact .refl _|apply LeR.tup|apply Le.agg|constructor)
end Go.Proofs.YtojhjaohaafeaaaGreatDoor
