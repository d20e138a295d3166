/-
  Several texts in one: CrcSpec, FrameSpec, DiskSpec, WalSpec, Wp, Nb, Nj, Pq, Pb, Pc, No, Ot, Oi, Bq.
-/
import Derived.Test.YtojhjaohaafeaaaGreatDoorQe
import Derived.Test.YtojhjaohaafeaaaGreatDoorQd
import Derived.Test.YtojhjaohaafeaaaGreatDoorQc
import Derived.Test.YtojhjaohaafeaaaGreatDoorQb
set_option maxRecDepth 20000
set_option maxHeartbeats 8000000
namespace Go.Proofs.YtojhjaohaafeaaaGreatDoor
def crcBit(x:Nat):Nat:=x / 2 ^^^ (if x % 2=1 then 2197175160 else 0)
def crcBits:Nat→Nat→Nat
 |0,x=>x
 |k+1,x=>crcBit (crcBits k x)
def crcByte(x:Nat):Nat:=crcBits 8 x
def crcStep(x:Nat)(c:UInt8):Nat:=crcByte (x ^^^ c.toNat)
def crcRun(x:Nat)(b:Bytes):Nat:=b.foldl crcStep x
def crcMore(s:Nat)(b:Bytes):Nat:=crcRun (s ^^^ 4294967295) b ^^^ 4294967295
def crcSum(b:Bytes):Nat:=crcMore 0 b
theorem xor32{a b:Nat}(ha:a<4294967296)(hb:b<4294967296):a ^^^ b<4294967296:=Nat.xor_lt_two_pow (n:=32) ha hb
theorem byte_lt(c:UInt8):c.toNat<4294967296:=by have:=c.toNat_lt;omega
theorem crcBit_lt{x:Nat}(h:x<4294967296):crcBit x<4294967296:=by
 unfold crcBit
 refine xor32 (by omega) ?_
 split<;>omega
theorem crcBits_lt{x:Nat}(h:x<4294967296)(k:Nat):crcBits k x<4294967296:=by
 induction k with
 |zero=>exact h
 |succ k ih=>exact crcBit_lt ih
theorem crcByte_lt{x:Nat}(h:x<4294967296):crcByte x<4294967296:=crcBits_lt h 8
theorem crcStep_lt{x:Nat}(h:x<4294967296)(c:UInt8):crcStep x c<4294967296:=crcByte_lt (xor32 h (byte_lt c))
theorem crcRun_lt{x:Nat}(h:x<4294967296)(b:Bytes):crcRun x b<4294967296:=by
 induction b generalizing x with
 |nil=>exact h
 |cons c b ih=>exact ih (crcStep_lt h c)
theorem crcMore_lt{x:Nat}(h:x<4294967296)(b:Bytes):crcMore x b<4294967296:=xor32 (crcRun_lt (xor32 h (by decide)) b) (by decide)
theorem crcSum_lt(b:Bytes):crcSum b<4294967296:=crcMore_lt (by decide) b
theorem xor_half(a b:Nat):(a ^^^ b) / 2=a / 2 ^^^ b / 2:=by
 have:=Nat.shiftRight_xor_distrib (a:=a) (b:=b) (i:=1)
 simpa [Nat.shiftRight_eq_div_pow] using this
theorem xor_byte(a b:Nat):(a ^^^ b) / 256=a / 256 ^^^ b / 256:=by
 have:=Nat.shiftRight_xor_distrib (a:=a) (b:=b) (i:=8)
 simpa [Nat.shiftRight_eq_div_pow] using this
theorem xor_odd(a b:Nat):((a ^^^ b) % 2=1)↔¬(a % 2=1↔b % 2=1):=Nat.xor_mod_two_eq_one
theorem crcBit_xor(a b:Nat):crcBit (a ^^^ b)=crcBit a ^^^ crcBit b:=by
 unfold crcBit
 rw[xor_half]
 have e:(if(a ^^^ b) % 2=1 then 2197175160 else 0)=(if a % 2=1 then 2197175160 else 0) ^^^ (if b % 2=1 then 2197175160 else 0):=by
  by_cases h1:a % 2=1
  ·by_cases h2:b % 2=1
   ·rw[if_neg (fun h=>(xor_odd a b).1 h ⟨fun _=>h2,fun _=>h1⟩),if_pos h1,if_pos h2,Nat.xor_self]
   ·rw[if_pos ((xor_odd a b).2 fun h=>h2 (h.1 h1)),if_pos h1,if_neg h2,Nat.xor_zero]
  ·by_cases h2:b % 2=1
   ·rw[if_pos ((xor_odd a b).2 fun h=>h1 (h.2 h2)),if_neg h1,if_pos h2,Nat.zero_xor]
   ·rw[if_neg (fun h=>(xor_odd a b).1 h ⟨fun k=>absurd k h1,fun k=>absurd k h2⟩),if_neg h1,if_neg h2,Nat.xor_self]
 rw[e]
 generalize (if a % 2=1 then 2197175160 else 0)=p
 generalize (if b % 2=1 then 2197175160 else 0)=q
 rw[Nat.xor_assoc,Nat.xor_assoc,← Nat.xor_assoc (b / 2) p q,Nat.xor_comm (b / 2) p,Nat.xor_assoc p]
theorem crcBits_xor(k a b:Nat):crcBits k (a ^^^ b)=crcBits k a ^^^ crcBits k b:=by
 induction k with
 |zero=>rfl
 |succ k ih=>simp only[crcBits,ih,crcBit_xor]
theorem crcBit_even(m:Nat):crcBit (2*m)=m:=by
 unfold crcBit
 rw[if_neg (by omega),Nat.xor_zero]
 omega
theorem crcBits_high(k h:Nat):crcBits k (2^k*h)=h:=by
 induction k generalizing h with
 |zero=>simp[crcBits]
 |succ k ih=>
  have e:2^(k+1)*h=2^k*(2*h):=by rw[Nat.pow_succ,Nat.mul_assoc]
  rw[e]
  show crcBit (crcBits k (2^k*(2*h)))=h
  rw[ih,crcBit_even]
theorem split_byte(x:Nat):2^8*(x / 256) ^^^ x % 256=x:=by
 apply Nat.eq_of_testBit_eq
 intro j
 have e:x / 256=x / 2^8:=rfl
 have e2:x % 256=x % 2^8:=rfl
 rw[Nat.testBit_xor,Nat.testBit_two_pow_mul,e,e2,Nat.testBit_div_two_pow,Nat.testBit_mod_two_pow]
 by_cases h:j<8
 ·have h2:¬8≤j:=by omega
  simp[h,h2]
 ·have:8+(j-8)=j:=by omega
  have h2:8≤j:=by omega
  simp[h,h2]
theorem crcByte_split(x:Nat):crcByte x=x / 256 ^^^ crcByte (x % 256):=by
 have e:=crcBits_xor 8 (2^8*(x / 256)) (x % 256)
 rw[split_byte,crcBits_high] at e
 exact e
theorem crcStep_table(x:Nat)(c:UInt8):crcStep x c=x / 256 ^^^ crcByte (x % 256 ^^^ c.toNat):=by
 have hc:=c.toNat_lt
 unfold crcStep
 rw[crcByte_split,xor_byte,show c.toNat / 256=0 by omega,Nat.xor_zero]
 have e:=Nat.xor_mod_two_pow (a:=x) (b:=c.toNat) (n:=8)
 rw[show(2:Nat)^8=256 from rfl,Nat.mod_eq_of_lt hc] at e
 rw[e]
/-! ### one to one -/
theorem crcRun_append(x:Nat)(a b:Bytes):crcRun x (a++b)=crcRun (crcRun x a) b:=by simp[crcRun]
end Go.Proofs.YtojhjaohaafeaaaGreatDoor
namespace Go.Proofs.YtojhjaohaafeaaaGreatDoor
def frB(x:Bytes):Bytes:=167::(encN x.length++x)
def fr(x:Bytes):Bytes:=frB x++be 4 (crcSum (frB x))
def takeF(b:Bytes):Except Int (Bytes×Bytes):=
 match b with
 |[]=>.error 2
 |m::t=>if m≠167 then .error 3 else
  match takeN t with
  |.error z=>.error z
  |.ok (n,r)=>
   if 100000<n then .error 5
   else if r.length<n+4 then .error 2
   else if be 4 (crcSum ((m::t).take ((m::t).length-(r.length-n))))=(r.drop n).take 4 then .ok (r.take n,r.drop (n+4))
   else .error 4
def frLong(n:Nat):Nat:=1+(1+nb n)+n+4
theorem frB_length(x:Bytes):(frB x).length=1+(1+nb x.length)+x.length:=by simp[frB,encN_length];omega
theorem fr_length(x:Bytes):(fr x).length=frLong x.length:=by simp[fr,frB_length,be_length,frLong]
theorem takeF_fr(x r:Bytes)(hx:x.length≤100000):takeF (fr x++r)=.ok (x,r):=by
 have e:fr x++r=167::(encN x.length++(x++(be 4 (crcSum (frB x))++r))):=by simp[fr,frB]
 rw[e]
 unfold takeF
 simp only[ne_eq,not_true_eq_false,Yr]
 rw[takeN_enc x.length (by omega)]
 simp only
 have hl:(x++(be 4 (crcSum (frB x))++r)).length=x.length+4+r.length:=by simp[be_length];omega
 rw[if_neg (by omega),if_neg (by rw[hl];omega),hl]
 have h1:(167::(encN x.length++(x++(be 4 (crcSum (frB x))++r)))).take ((167::(encN x.length++(x++(be 4 (crcSum (frB x))++r)))).length-(x.length+4+r.length-x.length))=frB x:=by
  have e2:(167:UInt8)::(encN x.length++(x++(be 4 (crcSum (frB x))++r)))=frB x++(be 4 (crcSum (frB x))++r):=by simp[frB]
  rw[e2]
  have e3:(frB x++(be 4 (crcSum (frB x))++r)).length-(x.length+4+r.length-x.length)=(frB x).length:=by simp[be_length];omega
  rw[e3,List.take_left]
 rw[h1]
 have h2:(x++(be 4 (crcSum (frB x))++r)).drop x.length=be 4 (crcSum (frB x))++r:=List.drop_left
 have h3:(be 4 (crcSum (frB x))++r).take 4=be 4 (crcSum (frB x)):=List.take_left' (be_length _ _)
 have h4:(x++(be 4 (crcSum (frB x))++r)).drop (x.length+4)=r:=by
  rw[← List.drop_drop,h2];exact List.drop_left' (be_length _ _)
 rw[h2,h3,if_pos rfl,h4,List.take_left]
theorem takeF_only{b x r:Bytes}(h:takeF b=.ok (x,r)):fr x++r=b∧x.length≤100000:=by
 unfold takeF at h
 split at h
 ·cases h
 ·rename_i m t
  split at h
  ·cases h
  ·rename_i hm
   have hm:m=167:=Vf hm
   subst hm
   split at h
   ·cases h
   ·rename_i n q hq
    have hb:=takeN_only hq
    split at h
    ·cases h
    ·rename_i hn
     split at h
     ·cases h
     ·rename_i hl
      split at h
      ·rename_i hs
       simp only[Except.ok.injEq,Prod.mk.injEq] at h
       obtain⟨rfl,rfl⟩:=h
       have hx:(q.take n).length=n:=by rw[List.length_take];omega
       refine⟨?_,by omega⟩
       have e1:frB (q.take n)=167::(encN n++q.take n):=by rw[frB,hx]
       have e2:((167:UInt8)::t).take (((167:UInt8)::t).length-(q.length-n))=frB (q.take n):=by
        rw[← hb,e1]
        have e3:(167:UInt8)::(encN n++q)=(167::(encN n++q.take n))++q.drop n:=by simp
        rw[e3]
        exact List.take_left' (by simp[List.length_take];omega)
       rw[e2] at hs
       unfold fr
       rw[hs,e1,← hb]
       simp only[Y5,List.append_assoc,List.cons.injEq,Yt,List.append_cancel_left_eq]
       rw[← List.drop_drop,List.take_append_drop,List.take_append_drop]
      ·cases h
theorem takeF_err{b:Bytes}{z:Int}(h:takeF b=.error z):z=2∨z=3∨z=4∨z=5:=by
 unfold takeF at h
 split at h
 ·cases h;simp
 ·split at h
  ·cases h;simp
  ·split at h
   ·rename_i q
    cases h
    rcases takeN_err q with h|h<;>simp[h]
   ·split at h
    ·cases h;simp
    ·split at h
     ·cases h;simp
     ·split at h
      ·cases h
      ·cases h;simp
theorem fr_pos(x:Bytes):0<(fr x).length:=by rw[fr_length];unfold frLong;omega
theorem takeF_shorter{b x r:Bytes}(h:takeF b=.ok (x,r)):r.length<b.length∧x.length≤b.length:=by
 obtain⟨rfl,_⟩:=takeF_only h
 have:=fr_pos x
 have e:=fr_length x
 unfold frLong at e
 rw[List.length_append]
 omega
def scanS(b:Bytes):List Bytes×Bytes:=
 match _h:takeF b with
 |.error _=>([],b)
 |.ok (x,r)=>(x::(scanS r).1,(scanS r).2)
termination_by b.length
decreasing_by
 all_goals exact(takeF_shorter _h).1
theorem scanS_err{b:Bytes}{z:Int}(h:takeF b=.error z):scanS b=([],b):=by
 rw[scanS]
 split
 ·rfl
 ·rename_i h2
  rw[h] at h2;cases h2
theorem scanS_ok{b x r:Bytes}(h:takeF b=.ok (x,r)):scanS b=(x::(scanS r).1,(scanS r).2):=by
 rw[scanS]
 split
 ·rename_i h2
  rw[h] at h2;cases h2
 ·rename_i h2
  rw[h] at h2
  simp only[Except.ok.injEq,Prod.mk.injEq] at h2
  obtain⟨rfl,rfl⟩:=h2
  rfl
def frs(l:List Bytes):Bytes:=(l.map fr).flatten
theorem frs_cons(x:Bytes)(l:List Bytes):frs (x::l)=fr x++frs l:=by simp[frs]
theorem frs_append(a b:List Bytes):frs (a++b)=frs a++frs b:=by simp[frs]
theorem scanS_frs(l:List Bytes)(hl:∀ x∈l,x.length≤100000)(r:Bytes):scanS (frs l++r)=(l++(scanS r).1,(scanS r).2):=by
 induction l with
 |nil=>simp[frs]
 |cons x l ih=>
  rw[frs_cons,List.append_assoc,scanS_ok (takeF_fr x _ (hl x (by simp))),ih (fun y hy=>hl y (by simp[hy]))]
  rfl
theorem scanS_split(b:Bytes):frs (scanS b).1++(scanS b).2=b∧∀ x∈(scanS b).1,x.length≤100000:=by
 induction h:b.length using Nat.strongRecOn generalizing b with
 |_ n ih=>
  cases hb:takeF b with
  |error z=>rw[scanS_err hb];exact⟨by simp[frs],by simp⟩
  |ok p=>
   obtain⟨x,r⟩:=p
   obtain⟨h1,h2⟩:=takeF_only hb
   have hs:=(takeF_shorter hb).1
   obtain⟨i1,i2⟩:=ih r.length (by omega) r rfl
   rw[scanS_ok hb]
   refine⟨?_,?_⟩
   ·simp only
    rw[frs_cons,List.append_assoc,i1,h1]
   ·intro y hy
    rcases List.mem_cons.1 hy with rfl|hy
    ·exact h2
    ·exact i2 y hy
theorem takeF_cut(x:Bytes)(hx:x.length≤100000)(k:Nat)(hk:k<(fr x).length):∃ z,takeF ((fr x).take k)=.error z:=by
 cases h:takeF ((fr x).take k) with
 |error z=>exact⟨z,rfl⟩
 |ok p=>
  obtain⟨y,r⟩:=p
  obtain⟨h1,h2⟩:=takeF_only h
  have e:fr x=fr y++(r++(fr x).drop k):=by rw[← List.append_assoc,h1,List.take_append_drop]
  have e1:=takeF_fr x [] hx
  rw[List.append_nil,e,takeF_fr y _ h2] at e1
  simp only[Except.ok.injEq,Prod.mk.injEq,List.append_eq_nil_iff,List.drop_eq_nil_iff] at e1
  omega
end Go.Proofs.YtojhjaohaafeaaaGreatDoor
namespace Go.Proofs.YtojhjaohaafeaaaGreatDoor
structure DD where
 cap:Int
 safe:Bytes
 loose:Bytes
 down:Bool
 fuse:Int
def rightB(d:DD):Bool:=decide (0≤d.cap∧d.cap≤1000000∧((d.safe.length+d.loose.length:Nat):Int)≤d.cap)
def newD(n:Int):DD×Int:=if n<0∨1000000<n then(⟨0,[],[],false,0⟩,1) else(⟨n,[],[],false,-1⟩,0)
def actS(d:DD):DD×Int:=if d.down=true then(d,11) else if d.fuse=0 then(⟨d.cap,d.safe,d.loose,true,0⟩,11) else if 0<d.fuse then(⟨d.cap,d.safe,d.loose,false,d.fuse-1⟩,0) else(d,0)
def doS(d:DD)(long:Int)(f:DD→DD):DD×Int:=if(actS d).2=0 then(if d.cap<long then((actS d).1,9) else(f (actS d).1,0)) else actS d
def addS(b:Bytes)(x:DD):DD:=⟨x.cap,x.safe,x.loose++b,x.down,x.fuse⟩
def allS(x:DD):DD:=⟨x.cap,x.safe++x.loose,[],x.down,x.fuse⟩
def otherS(b:Bytes)(x:DD):DD:=⟨x.cap,b,[],x.down,x.fuse⟩
def longS(d:DD):Nat:=d.safe.length+d.loose.length
def writeS(d:DD)(b:Bytes):DD×Int:=doS d (longS d+b.length:Nat) (addS b)
def syncS(d:DD):DD×Int:=doS d (longS d:Nat) allS
def replaceS(d:DD)(b:Bytes):DD×Int:=doS d (b.length:Nat) (otherS b)
def readS(d:DD):Bytes×Int:=if d.down=true then([],11) else(d.safe++d.loose,0)
def blowS(d:DD)(n:Int):DD:=if d.down=true then d else⟨d.cap,d.safe,d.loose,d.down,n⟩
def keepN(n:Int)(k:Nat):Nat:=(min (max n 0) k).toNat
def crashS(d:DD)(n:Int):DD:=⟨d.cap,d.safe++d.loose.take (keepN n d.loose.length),[],false,-1⟩
end Go.Proofs.YtojhjaohaafeaaaGreatDoor
namespace Go.Proofs.YtojhjaohaafeaaaGreatDoor
structure WL where
 d:DD
 l:List Bytes
def allD(d:DD):Bytes:=d.safe++d.loose
def recordsS(d:DD):List Bytes:=(scanS (allD d)).1
def openS(d:DD):WL×Int:=
 if d.down=true then(⟨d,[]⟩,11)
 else if(scanS (allD d)).2=[]∧d.loose=[] then(⟨d,recordsS d⟩,0)
 else if(replaceS d (frs (recordsS d))).2=0 then(⟨(replaceS d (frs (recordsS d))).1,recordsS d⟩,0)
 else(⟨(replaceS d (frs (recordsS d))).1,[]⟩,(replaceS d (frs (recordsS d))).2)
def largeB(l:List Bytes):Bool:=l.any fun x=>decide (20000<x.length)
def appendS(g:WL)(r:List Bytes):WL×Int:=
 if largeB r=true then(g,5)
 else if r=[] then(g,0)
 else if(writeS g.d (frs r)).2=0 then
  (if(syncS (writeS g.d (frs r)).1).2=0 then(⟨(syncS (writeS g.d (frs r)).1).1,g.l++r⟩,0) else(⟨(syncS (writeS g.d (frs r)).1).1,g.l⟩,(syncS (writeS g.d (frs r)).1).2))
 else(⟨(writeS g.d (frs r)).1,g.l⟩,(writeS g.d (frs r)).2)
def crashW(g:WL)(n:Int):WL:=⟨crashS g.d n,[]⟩
def blowW(g:WL)(n:Int):WL:=⟨blowS g.d n,g.l⟩
theorem take_good(d:DD):(allD d).take ((allD d).length-(scanS (allD d)).2.length)=frs (recordsS d):=by
 obtain⟨h,_⟩:=scanS_split (allD d)
 have e:(allD d).length-(scanS (allD d)).2.length=(frs (scanS (allD d)).1).length:=by
  have:=congrArg List.length h
  rw[List.length_append] at this
  omega
 rw[e]
 unfold recordsS
 generalize scanS (allD d)=s at *
 rw[← h]
 exact List.take_left
/-! ### RECOVERS -/
structure Rec(S M:List Bytes)(y:DD):Prop where
 right:rightB y=true
 safe:y.safe=frs S
 loose:y.loose=[]∨(y.loose=frs M∧y.down=true)
 long:(∀ x∈S,x.length≤20000)∧∀ x∈M,x.length≤20000
theorem scan_begin(M:List Bytes)(hM:∀ x∈M,x.length≤100000)(k:Nat):∃ j,j≤M.length∧(scanS ((frs M).take k)).1=M.take j∧((scanS ((frs M).take k)).2=[]→(frs M).take k=frs (M.take j)):=by
 induction M generalizing k with
 |nil => 
  refine⟨0,by simp,?_,fun _=>by simp[frs]⟩
  have:takeF ((frs []).take k)=.error 2:=by simp[frs,takeF]
  rw[scanS_err this];rfl
 |cons x M ih=>
  rw[frs_cons]
  by_cases hk:k<(fr x).length
  ·rw[List.take_append_of_le_length (by omega)]
   obtain⟨z,hz⟩:=takeF_cut x (hM x (by simp)) k hk
   refine⟨0,by omega,by rw[scanS_err hz];rfl,fun h=>?_⟩
   rw[scanS_err hz] at h
   have h:(fr x).take k=[]:=h
   rw[h];simp[frs]
  ·obtain⟨j,h1,h2,h3⟩:=ih (fun y hy=>hM y (by simp[hy])) (k-(fr x).length)
   have e:(fr x++frs M).take k=fr x++(frs M).take (k-(fr x).length):=by
    rw[List.take_append,List.take_of_length_le (by omega)]
   refine⟨j+1,by simp;omega,?_,fun h=>?_⟩
   ·rw[e,scanS_ok (takeF_fr x _ (hM x (by simp))),h2];rfl
   ·rw[e] at h ⊢
    rw[scanS_ok (takeF_fr x _ (hM x (by simp)))] at h
    rw[h3 h,List.take_succ_cons,frs_cons]
end Go.Proofs.YtojhjaohaafeaaaGreatDoor
namespace Go.Proofs.YtojhjaohaafeaaaGreatDoor
def i64(n:Int):Prop:=-9223372036854775808≤n∧n≤9223372036854775807
theorem right_iff(d:DD):rightB d=true↔0≤d.cap∧d.cap≤1000000∧((d.safe.length+d.loose.length:Nat):Int)≤d.cap:=by
 unfold rightB;rw[decide_eq_true_eq]
theorem act_cases(d:DD)(hf:i64 d.fuse):∃ dn fu z,actS d=(⟨d.cap,d.safe,d.loose,dn,fu⟩,z)∧i64 fu∧((z=11∧dn=true)∨(z=0∧dn=false∧d.down=false)):=by
 obtain⟨ca,sa,lo,dn,fu⟩:=d
 unfold i64 at hf
 simp only at hf
 unfold actS i64
 dsimp only
 cases dn with
 |true=>exact⟨true,fu,11,by simp,hf,.inl ⟨rfl,rfl⟩⟩
 |false=>
  by_cases h0:fu=0
  ·exact⟨true,0,11,by simp[h0],by omega,.inl ⟨rfl,rfl⟩⟩
  ·by_cases hp:0<fu
   ·exact⟨false,fu-1,0,by simp[h0,hp],by omega,.inr ⟨rfl,rfl,rfl⟩⟩
   ·exact⟨false,fu,0,by simp[h0,hp],hf,.inr ⟨rfl,rfl,rfl⟩⟩
theorem do_down{d:DD}{dn:Bool}{fu:Int}(ha:actS d=(⟨d.cap,d.safe,d.loose,dn,fu⟩,11))(n:Int)(f:DD→DD):doS d n f=(⟨d.cap,d.safe,d.loose,dn,fu⟩,11):=by
 unfold doS
 rw[ha]
 exact if_neg (by simp)
theorem do_full{d:DD}{dn:Bool}{fu:Int}(ha:actS d=(⟨d.cap,d.safe,d.loose,dn,fu⟩,0)){n:Int}(hn:d.cap<n)(f:DD→DD):doS d n f=(⟨d.cap,d.safe,d.loose,dn,fu⟩,9):=by
 unfold doS
 rw[ha]
 simp only[Ys]
 rw[if_pos hn]
theorem do_ok{d:DD}{dn:Bool}{fu:Int}(ha:actS d=(⟨d.cap,d.safe,d.loose,dn,fu⟩,0)){n:Int}(hn:¬d.cap<n)(f:DD→DD):doS d n f=(f ⟨d.cap,d.safe,d.loose,dn,fu⟩,0):=by
 unfold doS
 rw[ha]
 simp only[Ys]
 rw[if_neg hn]
theorem large_no{l:List Bytes}(h:¬largeB l=true):∀ x∈l,x.length≤20000:=fun x hx=>by
 unfold largeB at h
 rw[List.any_eq_true] at h
 exact Nat.le_of_not_lt fun hlt=>h ⟨x,hx,by simpa using hlt⟩
theorem scanS_nil:scanS []=([],[]):=scanS_err (z:=2) rfl
structure WInv(g:WL)(S M:List Bytes):Prop where
 sl:g.l=S
 right:rightB g.d=true
 fuse:i64 g.d.fuse
 safe:g.d.safe=frs S
 small:∀ x∈S,x.length≤100000
 smM:∀ x∈M,x.length≤100000
 loose:g.d.loose=[]∨(g.d.down=true∧g.d.loose=frs M)
 up:M≠[]→g.d.down=true
theorem WInv.bare{g:WL}{S M:List Bytes}(h:WInv g S M)(hd:g.d.down=false):M=[]∧g.d.loose=[]:=by
 have hM:M=[]:=Vf fun hn=>by have:=h.up hn;rw[hd] at this;cases this
 refine⟨hM,?_⟩
 rcases h.loose with e|⟨e,_⟩
 ·exact e
 ·rw[hd] at e;cases e
theorem WInv.append{g:WL}{S M:List Bytes}(h:WInv g S M)(r:List Bytes) :
  ((appendS g r).2=0∧WInv (appendS g r).1 (S++r) M)∨((appendS g r).2=11∧WInv (appendS g r).1 S (if M=[] then r else M))∨(¬(appendS g r).2=0∧¬(appendS g r).2=11∧WInv (appendS g r).1 S M):=by
 obtain⟨r1,r2,r3⟩:=(right_iff _).1 h.right
 unfold appendS
 by_cases hl:largeB r=true
 ·rw[if_pos hl];exact .inr (.inr ⟨by simp,by simp,h⟩)
 rw[if_neg hl]
 by_cases hr:r=[]
 ·rw[if_pos hr];subst hr;exact .inl ⟨rfl,by rw[List.append_nil];exact h⟩
 rw[if_neg hr]
 have hsm:∀ x∈r,x.length≤100000:=fun x hx=>by have:=large_no hl x hx;omega
 obtain⟨dn,fu,z,ha,hfu,hz⟩:=act_cases g.d h.fuse
 rcases hz with⟨rfl,rfl⟩|⟨rfl,rfl,hdn⟩
 ·have e:writeS g.d (frs r)=_:=do_down ha _ _
  rw[e]
  simp only
  rw[if_neg (by simp)]
  refine .inr (.inl ⟨rfl,h.sl,(right_iff _).2 ⟨r1,r2,r3⟩,hfu,h.safe,h.small,?_,?_,fun _=>rfl⟩)
  ·split
   ·exact hsm
   ·exact h.smM
  ·by_cases hM:M=[]
   ·rw[if_pos hM]
    refine .inl ?_
    rcases h.loose with e|⟨_,e⟩
    ·exact e
    ·show g.d.loose=[];rw[e,hM];rfl
   ·rw[if_neg hM]
    rcases h.loose with e|⟨_,e⟩
    ·exact .inl e
    ·exact .inr ⟨rfl,e⟩
 ·obtain⟨hM,hlo⟩:=h.bare hdn
  by_cases hc:g.d.cap<((longS g.d+(frs r).length:Nat):Int)
  ·have e:writeS g.d (frs r)=_:=do_full ha hc _
   rw[e]
   simp only
   rw[if_neg (by simp)]
   exact .inr (.inr ⟨by simp,by simp,h.sl,(right_iff _).2 ⟨r1,r2,r3⟩,hfu,h.safe,h.small,h.smM,.inl hlo,fun hn=>absurd hM hn⟩)
  ·have e:writeS g.d (frs r)=_:=do_ok ha hc _
   rw[e]
   have hcl:((g.d.safe.length+(frs r).length:Nat):Int)≤g.d.cap:=by unfold longS at hc;rw[hlo] at hc;simp only[Y9] at hc;omega
   simp only[addS,hlo,Y3,Ys]
   obtain⟨dn2,fu2,z2,ha2,hfu2,hz2⟩:=act_cases ⟨g.d.cap,g.d.safe,frs r,false,fu⟩ hfu
   simp only at ha2
   rcases hz2 with⟨rfl,rfl⟩|⟨rfl,rfl,_⟩
   ·have e2:syncS ⟨g.d.cap,g.d.safe,frs r,false,fu⟩=_:=do_down ha2 _ _
    rw[e2]
    simp only
    rw[if_neg (by simp),if_pos hM]
    exact .inr (.inl ⟨rfl,h.sl,(right_iff _).2 ⟨r1,r2,hcl⟩,hfu2,h.safe,h.small,hsm,.inr ⟨rfl,rfl⟩,fun _=>rfl⟩)
   ·have e2:syncS ⟨g.d.cap,g.d.safe,frs r,false,fu⟩=_:=do_ok ha2 (by simp only[longS];omega) _
    rw[e2]
    simp only[Ys,allS]
    refine .inl ⟨trivial,?_⟩
    refine⟨by show g.l++r=S++r;rw[h.sl],(right_iff _).2 ⟨r1,r2,?_⟩,hfu2,?_,fun x hx=>?_,h.smM,.inl rfl,fun hn=>absurd hM hn⟩
    ·simp only[List.length_append,Y9];omega
    ·show g.d.safe++frs r=frs (S++r);rw[h.safe,frs_append]
    ·rcases List.mem_append.1 hx with hx|hx
     ·exact h.small x hx
     ·exact hsm x hx
theorem WInv.blow{g:WL}{S M:List Bytes}(h:WInv g S M)(n:Int)(hn:i64 n):WInv (blowW g n) S M:=by
 obtain⟨r1,r2,r3⟩:=(right_iff _).1 h.right
 unfold blowW blowS
 by_cases hd:g.d.down=true
 ·rw[if_pos hd];exact⟨h.sl,h.right,h.fuse,h.safe,h.small,h.smM,h.loose,h.up⟩
 ·rw[if_neg hd];exact⟨h.sl,(right_iff _).2 ⟨r1,r2,r3⟩,hn,h.safe,h.small,h.smM,h.loose,h.up⟩
theorem WInv.crash{g:WL}{S M:List Bytes}(h:WInv g S M)(n:Int):(openS (crashS g.d n)).2=0∧∃ j,j≤M.length∧WInv (openS (crashS g.d n)).1 (S++M.take j) []:=by
 obtain⟨r1,r2,r3⟩:=(right_iff _).1 h.right
 obtain⟨T,hT⟩:∃ T,T=g.d.loose.take (keepN n g.d.loose.length):=⟨_,rfl⟩
 have hTl:T.length≤g.d.loose.length:=by rw[hT,List.length_take];omega
 obtain⟨j,hj,h1,h2⟩:∃ j,j≤M.length∧(scanS T).1=M.take j∧((scanS T).2=[]→T=frs (M.take j)):=by
  rcases h.loose with e|⟨_,e⟩
  ·refine⟨0,Nat.zero_le _,?_,fun _=>?_⟩<;>rw[hT,e,List.take_nil]<;>first|(rw[scanS_nil];rfl)|simp[frs]
  ·rw[hT,e]
   exact scan_begin M h.smM _
 have hsmall:∀ x∈S++M.take j,x.length≤100000:=fun x hx=>by
  rcases List.mem_append.1 hx with hx|hx
  ·exact h.small x hx
  ·exact h.smM x (List.mem_of_mem_take hx)
 have hcr:crashS g.d n=⟨g.d.cap,frs S++T,[],false,-1⟩:=by unfold crashS;rw[hT,h.safe]
 have hlen:(((frs S++T).length:Nat):Int)≤g.d.cap:=by
  rw[List.length_append,← h.safe];omega
 rw[hcr]
 have hall:allD ⟨g.d.cap,frs S++T,[],false,-1⟩=frs S++T:=by simp[allD]
 have hsc:=scanS_frs S h.small T
 have hrec:recordsS ⟨g.d.cap,frs S++T,[],false,-1⟩=S++M.take j:=by unfold recordsS;rw[hall,hsc,h1]
 have hi1:i64 (-1):=by unfold i64;omega
 unfold openS
 rw[if_neg (by simp),hall,hsc,hrec]
 by_cases hq:(scanS T).2=[]
 ·rw[if_pos ⟨hq,rfl⟩]
  refine⟨rfl,j,hj,rfl,(right_iff _).2 ⟨r1,r2,?_⟩,hi1,?_,hsmall,fun x hx=>by simp at hx,.inl rfl,fun hn=>absurd rfl hn⟩
  ·simp only[Y9,Yq];exact hlen
  ·show frs S++T=frs (S++M.take j)
   rw[frs_append,← h2 hq]
 ·rw[if_neg (fun h=>hq h.1)]
  have hfl:(frs (S++M.take j)).length≤(frs S++T).length:=by
   have:=take_good ⟨g.d.cap,frs S++T,[],false,-1⟩
   rw[hall,hrec] at this
   rw[← this,List.length_take];omega
  have ha:actS ⟨g.d.cap,frs S++T,[],false,-1⟩=(⟨g.d.cap,frs S++T,[],false,-1⟩,0):=by unfold actS;simp
  have e:replaceS ⟨g.d.cap,frs S++T,[],false,-1⟩ (frs (S++M.take j))=_:=do_ok (d:=⟨g.d.cap,frs S++T,[],false,-1⟩) ha (by show ¬g.d.cap<_;omega) _
  rw[e]
  simp only[Ys,otherS]
  refine⟨trivial,j,hj,rfl,(right_iff _).2 ⟨r1,r2,?_⟩,hi1,rfl,hsmall,fun x hx=>by simp at hx,.inl rfl,fun hn=>absurd rfl hn⟩
  simp only[Y9,Yq];omega
theorem open_new(n:Int)(_:0≤n):openS ⟨n,[],[],false,-1⟩=(⟨⟨n,[],[],false,-1⟩,[]⟩,0):=by
 unfold openS recordsS
 have hall:allD ⟨n,[],[],false,-1⟩=[]:=rfl
 rw[hall,scanS_nil]
 simp
theorem WInv.new(n:Int)(h0:0≤n)(h1:n≤1000000):WInv ⟨⟨n,[],[],false,-1⟩,[]⟩ [] []:=
 ⟨rfl,(right_iff _).2 ⟨h0,h1,by simpa using h0⟩,by show i64 (-1);unfold i64;omega,by simp[frs],fun x hx=>by simp at hx,fun x hx=>by simp at hx,.inl rfl,fun hn=>absurd rfl hn⟩
end Go.Proofs.YtojhjaohaafeaaaGreatDoor
namespace Go.Proofs.YtojhjaohaafeaaaGreatDoor
def a0(s:Sz)(me:Int):Acp:=⟨s,me,0,false,0,[],[],[]⟩
def lastA(s:Sz)(me:Int)(L:List Acp):Acp:=L.getLast?.getD (a0 s me)
theorem lastA_snoc(s:Sz)(me:Int)(L:List Acp)(b:Acp):lastA s me (L++[b])=b:=by simp[lastA]
structure Lst(s:Sz)(me:Int)(b:Acp):Prop where
 ok:AcOk b
 es:b.s=s
 em:b.me=me
 eb:bare b=b
theorem lastA_lst{s:Sz}{me:Int}(h0:newF s me=some (a0 s me)){L:List Acp}(hL:∀ b∈L,Lst s me b):Lst s me (lastA s me L):=by
 unfold lastA
 cases h:L.getLast? with
 |none=>
  obtain⟨h1,h2,h3,h4⟩:=newF_ok h0
  exact⟨h1,h2,h3,h4⟩
 |some b=>exact hL b (List.mem_of_getLast? h)
theorem textF_bare(a:Acp):tF (bare a)=tF a:=rfl
structure Kpt(s:Sz)(me:Int)(a:Acp)(g:WL)(d:Sd)(L M:List Acp):Prop where
 ok:AcOk a
 es:a.s=s
 em:a.me=me
 has:hasS a d=true
 log:WInv g (L.map tF) (M.map tF)
 lst:∀ b∈L++M,Lst s me b
 last:lastA s me L=bare a
 may:∀ b∈M,hasS b d=true
 one:M.length≤1
theorem Kpt.begin{s:Sz}{me:Int}(h0:newF s me=some (a0 s me)):Kpt s me (a0 s me) ⟨⟨100000,[],[],false,-1⟩,[]⟩ ⟨⟨me,-1,[]⟩,0,-1⟩ [] []:=by
 obtain⟨h1,h2,h3,h4⟩:=newF_ok h0
 exact⟨h1,h2,h3,rfl,WInv.new 100000 (by omega) (by omega),fun b hb=>(by cases hb),rfl,fun b hb=>(by cases hb),by simp⟩
theorem Kpt.soft{s:Sz}{me:Int}{a b:Acp}{g:WL}{d:Sd}{L M:List Acp}(h:Kpt s me a g d L M)(hb:AcOk b)(e:bare b=bare a):Kpt s me b g d L M:=by
 have es:b.s=a.s:=by have:=congrArg Acp.s e;exact this
 have em:b.me=a.me:=by have:=congrArg Acp.me e;exact this
 refine⟨hb,es.trans h.es,em.trans h.em,?_,h.log,h.lst,h.last.trans e.symm,h.may,h.one⟩
 have:=h.has
 rw[← has_bare,← e,has_bare] at this
 exact this
theorem Kpt.blow{s:Sz}{me:Int}{a:Acp}{g:WL}{d:Sd}{L M:List Acp}(h:Kpt s me a g d L M)(n:Int)(hn:i64 n):Kpt s me a (blowW g n) d L M:=
 ⟨h.ok,h.es,h.em,h.has,h.log.blow n hn,h.lst,h.last,h.may,h.one⟩
theorem append_upK{g:WL}{r:List Bytes}(hr:r≠[])(h:(appendS g r).2=0):g.d.down=false:=by
 cases hd:g.d.down with
 |false=>rfl
 |true=>
  exfalso
  have ha:actS g.d=(g.d,11):=by
   unfold actS
   rw[if_pos hd]
  have hw:writeS g.d (frs r)=(g.d,11):=by
   unfold writeS doS
   rw[ha]
   exact if_neg (by simp)
  unfold appendS at h
  split at h
  ·exact absurd h (by simp)
  ·rw[hw] at h
   first|(rw[if_neg hr] at h;simp at h;done)|(simp at h;done)
theorem Kpt.append{s:Sz}{me:Int}{a b:Acp}{g:WL}{d e:Sd}{L M:List Acp}(h:Kpt s me a g d L M)(hb:AcOk b)(es:b.s=s)(em:b.me=me)(h1:hasS b d=true)(h2:hasS b e=true) :
  ((appendS g [tF b]).2=0∧∃ L' M',Kpt s me b (appendS g [tF b]).1 e L' M')∨(¬(appendS g [tF b]).2=0∧∃ L' M',Kpt s me a (appendS g [tF b]).1 d L' M'):=by
 have hl:Lst s me (bare b):=⟨hb.bare,es,em,rfl⟩
 rcases h.log.append [tF b] with⟨q1,q2⟩|⟨q1,q2⟩|⟨q1,q1',q2⟩
 ·refine .inl ⟨q1,L++[bare b],[],?_⟩
  have hM:M=[]:=by
   have:=(h.log.bare (append_upK (by simp) q1)).1
   simpa using this
  subst hM
  refine⟨hb,es,em,h2,?_,fun x hx=>?_,lastA_snoc _ _ _ _,fun x hx=>(by cases hx),by simp⟩
  ·rw[List.map_append,List.map_cons,List.map_nil,textF_bare];exact q2
  ·rw[List.append_nil] at hx
   rcases List.mem_append.1 hx with hx|hx
   ·exact h.lst x (List.mem_append_left _ hx)
   ·rw[List.mem_singleton.1 hx];exact hl
 ·refine .inr ⟨by rw[q1];omega,L,if M=[] then [bare b] else M,?_⟩
  refine⟨h.ok,h.es,h.em,h.has,?_,fun x hx=>?_,h.last,fun x hx=>?_,?_⟩
  ·by_cases hM:M=[]
   ·subst hM;rw[if_pos rfl];exact q2
   ·rw[if_neg hM]
    rw[if_neg (by simpa using hM)] at q2;exact q2
  ·rcases List.mem_append.1 hx with hx|hx
   ·exact h.lst x (List.mem_append_left _ hx)
   ·split at hx
    ·rw[List.mem_singleton.1 hx];exact hl
    ·exact h.lst x (List.mem_append_right _ hx)
  ·split at hx
   ·rw[List.mem_singleton.1 hx];exact h1
   ·exact h.may x hx
  ·split
   ·simp
   ·exact h.one
 ·exact .inr ⟨q1,L,M,h.ok,h.es,h.em,h.has,q2,h.lst,h.last,h.may,h.one⟩
theorem Kpt.crash{s:Sz}{me:Int}(h0:newF s me=some (a0 s me)){a:Acp}{g:WL}{d:Sd}{L M:List Acp}(h:Kpt s me a g d L M)(n:Int) :
  (openS (crashS g.d n)).2=0∧∃ L',(openS (crashS g.d n)).1.l=L'.map tF∧(∀ b∈L',Lst s me b)∧Kpt s me (lastA s me L') (openS (crashS g.d n)).1 d L' []:=by
 obtain⟨q1,j,hj,q2⟩:=h.log.crash n
 refine⟨q1,L++M.take j,?_,?_,?_⟩
 ·rw[q2.sl,List.map_append,List.map_take]
 ·intro b hb
  rcases List.mem_append.1 hb with hb|hb
  ·exact h.lst b (List.mem_append_left _ hb)
  ·exact h.lst b (List.mem_append_right _ (List.mem_of_mem_take hb))
 ·have hl:∀ b∈L++M.take j,Lst s me b:=fun b hb=>by
   rcases List.mem_append.1 hb with hb|hb
   ·exact h.lst b (List.mem_append_left _ hb)
   ·exact h.lst b (List.mem_append_right _ (List.mem_of_mem_take hb))
  have hla:=lastA_lst h0 hl
  refine⟨hla.ok,hla.es,hla.em,?_,?_,by rw[List.append_nil];exact hl,hla.eb.symm,fun b hb=>(by cases hb),by simp⟩
  ·cases hM:M.take j with
   |nil=>rw[List.append_nil,h.last,has_bare];exact h.has
   |cons x m=>
    have hm:m=[]:=by
     have h1:=h.one
     have h2:(M.take j).length≤M.length:=List.length_take_le' ..
     rw[hM] at h2
     simp at h2
     exact List.length_eq_zero_iff.1 (by omega)
    subst hm
    rw[lastA_snoc]
    exact h.may x (List.mem_of_mem_take (hM▸List.mem_cons_self))
  ·rw[List.map_append,List.map_take];exact q2
end Go.Proofs.YtojhjaohaafeaaaGreatDoor
namespace Go.Proofs.YtojhjaohaafeaaaGreatDoor
theorem mayA_parts{a:Acc}(h:mayA a=true):0≤a.by_∧0≤a.view∧a.view≤100000∧(a.value.length:Int)≤6000:=by
 simp only[mayA,Vi,decide_eq_true_eq] at h
 exact⟨h.1.1.1,h.1.1.2,h.1.2,h.2⟩
theorem sz_small{s:Sz}(h:s.right=true):1≤s.f∧s.f≤5∧0≤s.t∧s.t≤s.f:=by
 simp only[Sz.right,Vi,decide_eq_true_eq] at h
 exact⟨h.1.1.1,h.1.1.2,h.1.2,h.2⟩
structure Prf(p:List Acc)(v:Int)(x:Bts):Prop where
 each:∀ a∈p,a.view=v∧a.value=x∧0≤a.by_∧a.by_≤100
 v0:0≤v
 v1:v≤100000
 xl:x.length≤6000
 few:p.length≤100
 ne:p≠[]
theorem rightP_prf{s:Sz}{a:Acc}{l:List Acc}(h:rightP s (a::l)=true):Prf (a::l) a.view a.value:=by
 unfold rightP at h
 simp only[Vi,decide_eq_true_eq] at h
 obtain⟨⟨⟨⟨hs,hl⟩,ht⟩,hb⟩,hv⟩:=h
 obtain⟨z1,z2,z3,z4⟩:=sz_small hs
 obtain⟨g1,g2⟩:=(rightT_iff _).1 ht
 have ha:=mayA_parts (g1 a List.mem_cons_self)
 refine⟨fun x hx=>?_,ha.2.1,ha.2.2.1,by omega,?_,by simp⟩
 ·have k1:=mayA_parts (g1 x hx)
  have k2:=List.all_eq_true.1 hb x hx
  have k3:=List.all_eq_true.1 hv x hx
  simp only[decide_eq_true_eq] at k2 k3
  simp only[Yf,List.headD_cons] at k3
  unfold Sz.n at k2
  exact⟨k3.1,k3.2,k1.1,by omega⟩
 ·unfold Sz.proof at hl
  omega
theorem lastsP_prf{s:Sz}{v:Int}{a:Acc}{l:List Acc}(h:lastsP s v (a::l)=true):Prf (a::l) a.view a.value:=by
 unfold lastsP at h
 rw[Vi] at h
 exact rightP_prf h.1
theorem encN_le9(n:Nat)(h:n<18446744073709551616):(encN n).length≤9:=by
 have:=nb_le n h
 simp only[encN,Ya,be_length]
 omega
theorem encZ_le(n:Int)(h:-9223372036854775808≤n)(h':n≤9223372036854775807):(encN (zig n)).length≤9:=encN_le9 _ (zig_lt n h h')
theorem encT_le6(x:Bytes)(h:x.length≤6000):(encT x).length≤6009:=by
 have:=encN_le9 x.length (by omega)
 simp only[encT,List.length_append]
 omega
theorem encBys_cons(a:Acc)(l:List Acc):encBys (a::l)=encN (zig a.by_)++encBys l:=by simp[encBys]
theorem encBys_le:∀ (l:List Acc),(∀ a∈l,0≤a.by_∧a.by_≤100)→(encBys l).length≤9*l.length
 |[],_=>by simp[encBys]
 |a::l,h=>by
  have h1:=encZ_le a.by_ (by have:=h a List.mem_cons_self;omega) (by have:=h a List.mem_cons_self;omega)
  have h2:=encBys_le l fun x hx=>h x (List.mem_cons_of_mem _ hx)
  rw[encBys_cons,List.length_append,List.length_cons]
  omega
theorem encBys_snoc{l:List Acc}{k:Nat}{a:Acc}(h:l[k]? = some a):encBys (l.take (k+1))=encBys (l.take k)++encN (zig a.by_):=by
 rw[List.take_add_one,h]
 simp[encBys]
theorem flagI_sm(b:Bool):0≤flagI b∧flagI b≤1:=by cases b<;>decide
structure Parts(a:Acp):Prop where
 v0:0≤a.view
 v1:a.view≤100000
 a0:0≤a.at_
 a1:a.at_≤100000
 xl:a.value.length≤6000
 prf:a.proof=[]∨∃ v x,Prf a.proof v x
theorem AcOk.parts{a:Acp}(h:AcOk a):Parts a:=by
 obtain⟨g1,g2,g3,g4⟩:=lasts_parts h.lasts
 have hv:0≤a.at_∧a.at_≤100000∧a.value.length≤6000:=by
  cases hh:a.has with
  |true=>
   obtain⟨k1,k2,k3⟩:=lastsV_has g3 hh
   exact⟨k1,by omega,by omega⟩
  |false=>
   unfold lastsV at g3
   rw[hh] at g3
   simp only[Y8,Yr,Vi,decide_eq_true_eq] at g3
   rw[g3.1,g3.2]
   simp
 refine⟨g1,g2,hv.1,hv.2.1,hv.2.2,?_⟩
 cases hp:a.proof with
 |nil=>exact .inl rfl
 |cons x l=>
  rw[hp] at g4
  exact .inr ⟨_,_,lastsP_prf g4⟩
def headF(a:Acp):Bytes:=encN (zig a.view)++(encN (zig (flagI a.has))++(encN (zig a.at_)++(encT a.value++encN (zig a.proof.length))))
theorem textF_eq(a:Acp):tF a=headF a++(encBys a.proof++tailF a.proof):=by
 simp[tF,headF]
theorem headF_le{a:Acp}(h:Parts a):(headF a).length≤7000:=by
 have h1:=encZ_le a.view (by have:=h.v0;omega) (by have:=h.v1;omega)
 have h2:=encZ_le a.at_ (by have:=h.a0;omega) (by have:=h.a1;omega)
 have h3:=encT_le6 a.value h.xl
 have h4:=encZ_le (flagI a.has) (by have:=flagI_sm a.has;omega) (by have:=flagI_sm a.has;omega)
 have hl:a.proof.length≤100:=by
  rcases h.prf with e|⟨v,x,e⟩
  ·rw[e];simp
  ·exact e.few
 have h5:=encZ_le (a.proof.length:Int) (by omega) (by omega)
 simp only[headF,List.length_append]
 omega
theorem tailF_le{p:List Acc}{v:Int}{x:Bts}(h:Prf p v x):(tailF p).length≤6018∧tailF p=encN (zig v)++encT x:=by
 cases p with
 |nil=>exact absurd rfl h.ne
 |cons a l=>
  obtain⟨k1,k2,k3,k4⟩:=h.each a List.mem_cons_self
  have e:tailF (a::l)=encN (zig v)++encT x:=by rw[← k1,← k2];rfl
  have h1:=encZ_le v (by have:=h.v0;omega) (by have:=h.v1;omega)
  have h2:=encT_le6 x h.xl
  refine⟨?_,e⟩
  rw[e,List.length_append]
  omega
theorem textF_le{a:Acp}(h:Parts a):(tF a).length≤14000:=by
 have h1:=headF_le h
 rw[textF_eq]
 rcases h.prf with e|⟨v,x,e⟩
 ·rw[e]
  simp only[encBys,tailF,Ye,List.flatten_nil,Yd]
  omega
 ·have h2:=encBys_le a.proof fun y hy=>(e.each y hy).2.2
  have h3:=(tailF_le e).1
  have h4:=e.few
  simp only[List.length_append]
  omega
open Go.RowKit
theorem make19_spec(s:Sz)(l:List Acc)(hs:s.right=true)(hl:l.length≤1000000)(hb:ASpec Tryz.prog 104 [.agg [vA l],.int .i64 s.proof] (bestVA (bestV l s.proof))):ASpec Tryz.prog 50 [eS s,.agg [vA l]] (makeA (makeF s l)):=by
 have hp:=zProof_spec hs
 cases h:bestV l s.proof with
 |none=>
  rw[h] at hb
  rw[show makeF s l=none by unfold makeF;rw[h];rfl]
  refine⟨⟨_,Tryz.func50,by kernel_rfl,rfl⟩,Sg Tryz.func50 rfl fun c0 hc0=>?_⟩;simp only[go_sem,eS,vA,Nat.reduceAdd,Nat.reduceSub]
  (and_intros<;>try first|rfl|omega)
  refine DOps.pure rfl .free rfl rfl (hp) Vl rfl rfl ?_
  refine Dg Tryz.func50 rfl ?_;simp only[go_sem,Nat.reduceAdd]
  (and_intros<;>try first|rfl|omega)
  refine DOps.pure rfl .free rfl rfl (hb) Vl rfl rfl ?_
  refine Dg Tryz.func50 rfl ?_;simp only[go_sem,bestVA,↓aT,Nat.reduceAdd]
  (and_intros<;>try first|rfl|omega)
  try simp only[makeA,vA,Ye]
  (repeat' first|exact .refl _|apply LeR.tup|apply Le.agg|constructor)
 |some c=>
  rw[h] at hb
  obtain⟨h1,h2⟩:=bestV_some h
  rw[show makeF s l=some ((l.filter (isV c.1 c.2)).take s.proof.toNat) by unfold makeF;rw[h];rfl]
  have hv:=voters_spec l c.1 c.2 hl
  rw[List.countP_eq_length_filter] at h2
  have h0:0≤s.proof:=by omega
  obtain⟨F,hF⟩:∃ F,F=l.filter (isV c.1 c.2):=⟨_,rfl⟩
  rw[← hF] at hv h2 ⊢
  refine⟨⟨_,Tryz.func50,by kernel_rfl,rfl⟩,Sg Tryz.func50 rfl fun c0 hc0=>?_⟩;simp only[go_sem,eS,vA,Nat.reduceAdd,Nat.reduceSub]
  (and_intros<;>try first|rfl|omega)
  refine DOps.pure rfl .free rfl rfl (hp) Vl rfl rfl ?_
  refine Dg Tryz.func50 rfl ?_;simp only[go_sem,Nat.reduceAdd]
  (and_intros<;>try first|rfl|omega)
  refine DOps.pure rfl .free rfl rfl (hb) Vl rfl rfl ?_
  refine Dg Tryz.func50 rfl ?_;simp only[go_sem,bestVA,↓aF,Nat.reduceAdd]
  (and_intros<;>try first|rfl|omega)
  refine DOps.pure rfl .free rfl rfl (hv) Vl rfl rfl ?_
  refine Dg Tryz.func50 rfl ?_;simp only[go_sem,Nat.reduceAdd]
  (and_intros<;>try first|rfl|omega)
  refine DOps.pure rfl .free rfl rfl (hp) Vl rfl rfl ?_
  refine Dg Tryz.func50 rfl ?_;simp only[go_sem,vA,Nat.reduceAdd]
  (and_intros<;>try first|rfl|omega)
  try simp only[makeA,vA,List.map_take]
  exact Vr
abbrev Ck:=Int×Bts
def kE(q:Ck):AV:=.agg [.int .i64 q.1,.str q.2]
def addC(m:List (Ck×Nat))(x:Ck):List (Ck×Nat):=match m.findIdx? (fun p=>p.1==x) with
 |some j=>m.modify j fun p=>(p.1,p.2+1)
 |none=>m++[(x,1)]
def mpC(m:List (Ck×Nat)):List (AV×AV):=m.map fun p=>(kE p.1,.int .i64 p.2)
theorem akeq_kE(x y:Ck):akeq (kE x) (kE y)=some (decide (x=y)):=by
 obtain⟨a,b⟩:=x
 obtain⟨c,d⟩:=y
 simp only[go_sem,kE,akeq,Prod.mk.injEq]
 rw[Bool.eq_iff_iff];simp
theorem afind_mpC(x:Ck):∀ (m:List (Ck×Nat)) (i:Nat),afind (kE x) (mpC m) i=some ((m.findIdx? (fun p=>p.1==x)).map (·+i))
 |[],i=>rfl
 |p::m,i=>by
  have ih:=afind_mpC x m (i+1)
  simp only[mpC,Yf,afind,akeq_kE] at ih ⊢
  rw[List.findIdx?_cons]
  by_cases h:x=p.1
  ·subst h
   simp
  ·have h':¬(p.1==x)=true:=by simp;exact fun e=>h e.symm
   rw[decide_eq_false h]
   simp only[h',ih]
   cases m.findIdx? (fun p=>p.1==x) with
   |none=>rfl
   |some j=>simp;omega
def cntC(m:List (Ck×Nat))(x:Ck):Nat:=match m.findIdx? (fun p=>p.1==x) with
 |some j=>(m[j]?.map (·.2)).getD 0
 |none=>0
theorem idxC{m:List (Ck×Nat)}{x:Ck}{j:Nat}(h:m.findIdx? (fun p=>p.1==x)=some j):∃ n,m[j]? = some (x,n)∧j<m.length∧cntC m x=n∧∀ i,i<j→∀ p,m[i]? = some p→p.1≠x:=by
 have h0:=h
 rw[List.findIdx?_eq_some_iff_getElem] at h
 obtain⟨h1,h2,h3⟩:=h
 have e:m[j]? = some (x,(m[j]).2):=by
  rw[Vb h1]
  simp only[beq_iff_eq] at h2
  rw[← h2]
 refine⟨(m[j]).2,e,h1,by unfold cntC;rw[h0];simp only[e];rfl,fun i hi p hp=>?_⟩
 have:=h3 i hi
 obtain⟨hl,rfl⟩:=Va hp
 simpa using this
theorem addC_cases(m:List (Ck×Nat))(x:Ck):(∃ j n,m.findIdx? (fun p=>p.1==x)=some j∧m[j]? = some (x,n)∧addC m x=m.set j (x,n+1))∨(m.findIdx? (fun p=>p.1==x)=none∧addC m x=m++[(x,1)]):=by
 unfold addC
 cases h:m.findIdx? (fun p=>p.1==x) with
 |none=>exact .inr ⟨rfl,rfl⟩
 |some j=>
  obtain⟨n,h1,h2,_⟩:=idxC h
  refine .inl ⟨j,n,rfl,h1,?_⟩
  apply List.ext_getElem?
  intro i
  obtain⟨_,he⟩:=Va h1
  simp only[List.getElem?_modify,List.getElem?_set]
  by_cases hij:j=i
  ·subst hij
   simp[h2,he]
  ·simp[hij]
theorem mpC_set{m:List (Ck×Nat)}{j n:Nat}{x:Ck}(h:m[j]? = some (x,n))(hf:m.findIdx? (fun p=>p.1==x)=some j):pset (mpC m) j (.int .i64 ((n:Int)+1))=mpC (addC m x):=by
 rcases addC_cases m x with⟨j',n',h1,h2,h3⟩|⟨h1,_⟩
 ·rw[hf] at h1
  cases h1
  rw[h] at h2
  cases h2
  rw[h3]
  apply List.ext_getElem?
  intro i
  rw[getElem?_pset]
  unfold mpC
  rw[Vg,Vg,List.getElem?_set]
  have hj:=(Va h).1
  by_cases hij:j=i
  ·subst hij
   have he:=(Va h).2
   simp[hj,he]
  ·simp[hij]
 ·rw[hf] at h1;cases h1
theorem mpC_add{m:List (Ck×Nat)}{x:Ck}(hf:m.findIdx? (fun p=>p.1==x)=none):mpC m++[(kE x,.int .i64 1)]=mpC (addC m x):=by
 rcases addC_cases m x with⟨j',n',h1,h2,h3⟩|⟨h1,h3⟩
 ·rw[hf] at h1;cases h1
 ·rw[h3];simp[mpC]
theorem mpC_bel(m:List (Ck×Nat))(n:Nat):(ABlk.map (mpC m)).bel n=true:=by
 simp[ABlk.bel,mpC,kE,AV.bel,belL]
theorem findIdx_set_ne{m:List (Ck×Nat)}{j n:Nat}{x y:Ck}(hj:∃ k,m[j]? = some (x,k)):(m.set j (x,n)).findIdx? (fun p=>p.1==y)=m.findIdx? (fun p=>p.1==y):=by
 induction m generalizing j with
 |nil=>simp
 |cons p m ih=>
  obtain⟨k,hk⟩:=hj
  cases j with
  |zero=>
   simp only[Y1,Option.some.injEq] at hk
   subst hk
   simp[List.findIdx?_cons]
  |succ j=>
   simp only[Y7,List.findIdx?_cons]
   rw[ih ⟨k,by simpa using hk⟩]
theorem cnt_addC(m:List (Ck×Nat))(x y:Ck):cntC (addC m x) y=cntC m y+(if x=y then 1 else 0):=by
 rcases addC_cases m x with⟨j,n,h1,h2,h3⟩|⟨h1,h3⟩
 ·rw[h3]
  unfold cntC
  rw[findIdx_set_ne ⟨n,h2⟩]
  have hj:=(Va h2).1
  cases h:m.findIdx? (fun p=>p.1==y) with
  |none=>
   by_cases hxy:x=y
   ·subst hxy;rw[h1] at h;cases h
   ·simp[hxy]
  |some i=>
   obtain⟨k,g1,g2,_⟩:=idxC h
   simp only
   rw[List.getElem?_set]
   by_cases hij:j=i
   ·subst hij
    rw[h2] at g1
    cases g1
    have he:=(Va h2).2
    simp[hj,he]
   ·have hxy:¬x=y:=fun e=>by subst e;rw[h1] at h;cases h;exact hij rfl
    simp[hij,hxy]
 ·rw[h3]
  unfold cntC
  rw[List.findIdx?_append]
  cases h:m.findIdx? (fun p=>p.1==y) with
  |some i=>
   obtain⟨k,g1,g2,_⟩:=idxC h
   have hxy:¬x=y:=fun e=>by subst e;rw[h1] at h;cases h
   simp[hxy,List.getElem?_append_left g2]
  |none=>
   by_cases hxy:x=y
   ·subst hxy
    simp
   ·simp[hxy]
def votesM:List Acc→List (Ck×Nat)→List (Ck×Nat)
 |[],m=>m
 |a::l,m=>votesM l (addC m (cvA a))
theorem votesM_cnt(x:Ck):∀ (l:List Acc) (m:List (Ck×Nat)),cntC (votesM l m) x=cntC m x+l.countP (isV x.1 x.2)
 |[],m=>by simp[votesM]
 |a::l,m=>by
  rw[votesM,votesM_cnt x l,cnt_addC,List.countP_cons]
  by_cases h:cvA a=x
  ·have e:isV x.1 x.2 a=true:=by subst h;simp[isV,cvA]
   rw[if_pos h,if_pos e];omega
  ·have e:¬isV x.1 x.2 a=true:=by
    intro e
    simp only[isV,Vi,decide_eq_true_eq] at e
    exact h (by simp[cvA,e.1,e.2])
   rw[if_neg h,if_neg e];omega
theorem votesM_snoc(a:Acc):∀ (l:List Acc) (m:List (Ck×Nat)),votesM (l++[a]) m=addC (votesM l m) (cvA a)
 |[],_=>rfl
 |_::l,_=>votesM_snoc a l _
theorem cntC_le{n:Nat}(m:List (Ck×Nat))(x:Ck):(∀ p∈m,p.2≤n)→∀ p∈addC m x,p.2≤n+1:=by
 intro h p hp
 rcases addC_cases m x with⟨j,k,_,h1,h2⟩|⟨_,h2⟩
 ·rw[h2] at hp
  rcases List.mem_or_eq_of_mem_set hp with hp|rfl
  ·have:=h p hp;omega
  ·have:=h _ (Vd h1);simp only at this ⊢;omega
 ·rw[h2] at hp
  rcases List.mem_append.1 hp with hp|hp
  ·have:=h p hp;omega
  ·simp at hp;subst hp;simp
theorem afind_end(x:Ck)(v:AV):∀ (m:List (Ck×Nat)) (i:Nat),m.findIdx? (fun p=>p.1==x)=none→afind (kE x) (mpC m++[(kE x,v)]) i=some (some (i+m.length))
 |[],i,_=>by simp[mpC,afind,akeq_kE]
 |p::m,i,h=>by
  rw[List.findIdx?_cons] at h
  split at h
  ·cases h
  ·rename_i hp
   have hp':¬x=p.1:=fun e=>hp (by simp[e])
   have ih:=afind_end x v m (i+1) (by simpa using h)
   simp only[mpC,Yf,Y5,afind,akeq_kE,decide_eq_false hp',Ya] at ih ⊢
   rw[ih,show i+1+m.length=i+(m.length+1) by omega]
theorem mpC_len(m:List (Ck×Nat)):(mpC m).length=m.length:=by simp[mpC]
theorem mpC_fin{m:List (Ck×Nat)}{x:Ck}(hf:m.findIdx? (fun p=>p.1==x)=none):pset (mpC m++[(kE x,.int .i64 0)]) m.length (.int .i64 1)=mpC (addC m x):=by
 rw[← mpC_add hf]
 apply List.ext_getElem?
 intro i
 rw[getElem?_pset,List.getElem?_append,List.getElem?_append,mpC_len]
 by_cases h:i<m.length
 ·have:¬i=m.length:=by omega
  have:¬m.length=i:=by omega
  simp[*]
 ·by_cases he:i=m.length
  ·subst he;simp
  ·have:¬m.length=i:=by omega
   have h2:¬i-m.length=0:=by omega
   obtain⟨q,hq⟩:∃ q,i-m.length=q+1:=⟨i-m.length-1,by omega⟩
   simp[h,this,hq]
def bxC:Option Cv→List AV
 |none=>[.int .i64 (-1),.str []]
 |some c=>[.int .i64 c.1,.str c.2]
theorem bxC_bel(b:Option Cv)(n:Nat):(ABlk.box (bxC b)).bel n=true:=by
 cases b<;>simp[ABlk.bel,bxC,AV.bel,belL]
theorem best_spec(l:List Acc)(need:Int)(hl:l.length≤1000000)(hv:∀ a∈l,0≤a.view):ASpec Tryz.prog 104 [.agg [vA l],.int .i64 need] (bestVA (bestV l need)):=by
 refine⟨⟨_,Tryz.func104,by kernel_rfl,rfl⟩,Sg Tryz.func104 rfl fun c0 hc0=>?_⟩;simp only[go_sem,vA,Int.reduceNeg,Nat.reduceAdd,Nat.reduceSub]
 refine Run.loopV (α:=Nat×List (Ck×Nat)) (fun x=>x.1≤l.length∧x.2=votesM (l.take x.1) []∧∀ p∈x.2,p.2≤x.1) (fun x=>[(19,.int .i64 x.1)]) 2 (fun x=>[(1,.map (mpC x.2))]) (fun x=>l.length-x.1) (0,[]) ⟨Nat.zero_le _,rfl,by simp⟩ ?_ ?_
 ·simp only[go_sem,writes,junks,puts,hputs,List.filterMap_cons,List.filterMap_nil,mpC]
  (refine Weak.of (by simp[hc0]) ?_ ?_<;>(repeat' first|exact .refl _|exact .junk _|exact .nil _|exact .tok _ _ _|rfl|apply LeB.same|apply LeB.box|apply Le.agg|apply Le.one|constructor))
 rintro⟨k,m⟩ ⟨hI,hm,hp⟩ ih
 simp only[writes,junks,puts,hputs,List.filterMap_cons,List.filterMap_nil,Y6,Y7,Yg,Yk,Y5,Y3,Yd] at hI hm hp ih ⊢
 by_cases hk:k<l.length
 ·obtain⟨a,ha⟩:∃ a,l[k]? = some a:=⟨_,Vb hk⟩
  have hkk:(k:Int)<l.length:=by omega
  have haf:=afind_mpC (cvA a) m 0
  have hm2:addC m (cvA a)=votesM (l.take (k+1)) []:=by rw[List.take_add_one,ha,hm];exact(votesM_snoc a _ _).symm
  have hle:=cntC_le m (cvA a) hp
  refine Run.god tab_ok follows_ok Tryz.func104 9 ?_;simp only[go_sem,ha,hkk,aC,Vg,↓aT,Int.reduceNeg,Nat.reduceAdd,Nat.reduceLT]
  (and_intros<;>try first|rfl|omega)
  cases hfi:m.findIdx? (fun p=>p.1==cvA a) with
  |none=>
   rw[hfi] at haf
   have hfa:afind (.agg [.int .i64 a.view,.str a.value]) (mpC m) 0=some none:=haf
   have hfe:afind (.agg [.int .i64 a.view,.str a.value]) (mpC m++[(.agg [.int .i64 a.view,.str a.value],.int .i64 0)]) 0=some (some m.length):=(afind_end (cvA a) _ m 0 hfi).trans (by rw[Nat.zero_add])
   have hge:(mpC m++[(AV.agg [.int .i64 a.view,.str a.value],AV.int .i64 0)])[m.length]? = some (.agg [.int .i64 a.view,.str a.value],.int .i64 0):=by rw[List.getElem?_append_right (by rw[mpC_len];omega),mpC_len,Nat.sub_self];rfl
   have hpf:pset (mpC m++[(AV.agg [.int .i64 a.view,.str a.value],AV.int .i64 0)]) m.length (.int .i64 1)=mpC (addC m (cvA a)):=mpC_fin hfi
   have hpl:((m.length:Int)<((m.length+1:Nat):Int)):=by omega
   refine Run.soft tab_ok follows_ok Tryz.func104 60 6 8 1 (.map (mpC m++[(.agg [.int .i64 a.view,.str a.value],.int .i64 0)])) ?_ ?_;exact rfl;simp only[go_sem,hfa,hfe,hge,hpf,hpl,mpC_len,List.length_append,Int.zero_add,↓reduceIte,sadops,sdone,ne_eq,Int.reduceNeg,reduceIte,Nat.reduceAdd,Nat.reduceLeDiff,Nat.reduceEqDiff,Nat.reduceLT,reduceCtorEq];try simp only[go_sem,Int.reduceNeg]
   (and_intros<;>try first|rfl|omega)
   refine ih (k+1,addC m (cvA a)) _ ⟨by dsimp only;omega,hm2,hle⟩ (by dsimp only;omega) ?_
   simp only[Int.natCast_add,Int.natCast_one]
   (refine Weak.of (by simp[hc0]) ?_ ?_<;>(repeat' first|exact .refl _|exact .junk _|exact .nil _|exact .tok _ _ _|rfl|apply LeB.same|apply LeB.box|apply Le.agg|apply Le.one|constructor))
   all_goals first|exact mpC_bel _ _|exact bxC_bel _ _
  |some j=>
   rw[hfi] at haf
   have hfa:afind (.agg [.int .i64 a.view,.str a.value]) (mpC m) 0=some (some j):=haf
   obtain⟨n,hn,hjl,_⟩:=idxC hfi
   have hset:=mpC_set hn hfi
   have hmj:(mpC m)[j]? = some (.agg [.int .i64 a.view,.str a.value],.int .i64 n):=by unfold mpC;rw[Vg,hn];rfl
   have hnl:=hp _ (Vd hn)
   simp only at hnl
   have hjl':(j:Int)<(m.length:Int):=by omega
   refine Run.soft tab_ok follows_ok Tryz.func104 60 6 8 1 (.map (mpC m)) ?_ ?_;exact rfl;simp only[go_sem,hfa,hmj,hset,hjl',mpC_len,↓reduceIte,sadops,sdone,ne_eq,Int.reduceNeg,reduceIte,Nat.reduceAdd,Nat.reduceLeDiff,Nat.reduceEqDiff,Nat.reduceLT,reduceCtorEq];try simp only[go_sem,Int.reduceNeg]
   (and_intros<;>try first|rfl|omega)
   refine ih (k+1,addC m (cvA a)) _ ⟨by dsimp only;omega,hm2,hle⟩ (by dsimp only;omega) ?_
   simp only[Int.natCast_add,Int.natCast_one]
   (refine Weak.of (by simp[hc0]) ?_ ?_<;>(repeat' first|exact .refl _|exact .junk _|exact .nil _|exact .tok _ _ _|rfl|apply LeB.same|apply LeB.box|apply Le.agg|apply Le.one|constructor))
   all_goals first|exact mpC_bel _ _|exact bxC_bel _ _
 have hkk:¬(k:Int)<l.length:=by omega
 obtain rfl:k=l.length:=by omega
 rw[List.take_length] at hm
 have hcnt:∀ x:Ck,cntC m x=l.countP (isV x.1 x.2):=fun x=>by rw[hm,votesM_cnt];simp[cntC]
 refine Rg Tryz.func104 ?_;simp only[go_sem,hkk,↓aF,Int.reduceNeg,Nat.reduceAdd,Nat.reduceLeDiff]
 refine Run.loopV (α:=Nat×Option Cv) (fun x=>x.1≤l.length∧bestV l need=(l.drop x.1).foldl (betterV l need) x.2) (fun x=>[(11,.bool x.2.isSome),(38,.int .i64 x.1)]) 3 (fun x=>[(2,.box (bxC x.2))]) (fun x=>l.length-x.1) (0,none) ⟨Nat.zero_le _,rfl⟩ ?_ ?_
 ·simp only[go_sem,writes,junks,puts,hputs,List.filterMap_cons,List.filterMap_nil,bxC]
  (refine Weak.of (by simp[hc0]) ?_ ?_<;>(repeat' first|exact .refl _|exact .junk _|exact .nil _|exact .tok _ _ _|rfl|apply LeB.same|apply LeB.box|apply Le.agg|apply Le.one|constructor))
  all_goals first|exact mpC_bel _ _|exact bxC_bel _ _
 rintro⟨k,b⟩ ⟨hI2,hb⟩ ih2
 simp only[writes,junks,puts,hputs,List.filterMap_cons,List.filterMap_nil,Y6,Y7,Yg,Yk,Y5,Y3,Yd] at hI2 hb ih2 ⊢
 by_cases hk:k<l.length
 ·obtain⟨a,ha⟩:∃ a,l[k]? = some a:=⟨_,Vb hk⟩
  have hkk2:(k:Int)<l.length:=by omega
  rw[drop_at ha,List.foldl_cons] at hb
  have hav:=hv a (Vd ha)
  have haf:=afind_mpC (cvA a) m 0
  have hc:=hcnt (cvA a)
  obtain⟨n,hnn⟩:∃ n,n=l.countP (isV a.view a.value):=⟨_,rfl⟩
  have hcn:cntC m (cvA a)=n:=hc.trans hnn.symm
  by_cases h1:1≤need
  case neg=>
   have e:betterV l need b a=b:=by unfold betterV;rw[decide_eq_false h1];simp
   rw[e] at hb
   refine Rg Tryz.func104 ?_;simp only[go_sem,ha,hkk2,h1,aC,Vg,↓aT,↓aF,↓bF,↓gW,Int.reduceNeg,Nat.reduceAdd,Nat.reduceLeDiff,Nat.reduceLT]
   (and_intros<;>try first|rfl|omega)
   refine ih2 (k+1,b) _ ⟨by dsimp only;omega,hb⟩ (by dsimp only;omega) ?_
   simp only[Int.natCast_add,Int.natCast_one]
   (refine Weak.of (by simp[hc0]) ?_ ?_<;>(repeat' first|exact .refl _|exact .junk _|exact .nil _|exact .tok _ _ _|rfl|apply LeB.same|apply LeB.box|apply Le.agg|apply Le.one|constructor))
   all_goals first|exact mpC_bel _ _|exact bxC_bel _ _
  case pos=>
  cases hfi:m.findIdx? (fun p=>p.1==cvA a) with
  |none=>
   rw[hfi] at haf
   have hfa:afind (.agg [.int .i64 a.view,.str a.value]) (mpC m) 0=some none:=haf
   have hn0:n=0:=by rw[← hcn];unfold cntC;rw[hfi]
   have h2:¬need≤(n:Int):=by omega
   have h2':¬need≤0:=by omega
   have e:betterV l need b a=b:=by unfold betterV;rw[← hnn,decide_eq_false h2];simp
   rw[e] at hb
   refine Rg Tryz.func104 ?_;simp only[go_sem,ha,hkk2,h1,h2',hfa,aC,Vg,↓aT,↓aF,↓bT,↓bF,↓gT,↓gW,Int.reduceNeg,Nat.reduceAdd,Nat.reduceLeDiff,Nat.reduceLT]
   (and_intros<;>try first|rfl|omega)
   refine ih2 (k+1,b) _ ⟨by dsimp only;omega,hb⟩ (by dsimp only;omega) ?_
   simp only[Int.natCast_add,Int.natCast_one]
   (refine Weak.of (by simp[hc0]) ?_ ?_<;>(repeat' first|exact .refl _|exact .junk _|exact .nil _|exact .tok _ _ _|rfl|apply LeB.same|apply LeB.box|apply Le.agg|apply Le.one|constructor))
   all_goals first|exact mpC_bel _ _|exact bxC_bel _ _
  |some j=>
  rw[hfi] at haf
  have hfa:afind (.agg [.int .i64 a.view,.str a.value]) (mpC m) 0=some (some j):=haf
  obtain⟨n',hn',hjl,hcc,_⟩:=idxC hfi
  obtain rfl:n'=n:=hcc.symm.trans hcn
  have hmj:(mpC m)[j]? = some (.agg [.int .i64 a.view,.str a.value],.int .i64 n'):=by unfold mpC;rw[Vg,hn'];rfl
  by_cases h2:need≤(n':Int)
  case neg=>
   have e:betterV l need b a=b:=by unfold betterV;rw[← hnn,decide_eq_false h2];simp
   rw[e] at hb
   refine Rg Tryz.func104 ?_;simp only[go_sem,ha,hkk2,h1,h2,hfa,hmj,aC,Vg,↓aT,↓aF,↓bT,↓bF,↓gT,↓gW,Int.reduceNeg,Nat.reduceAdd,Nat.reduceLeDiff,Nat.reduceLT]
   (and_intros<;>try first|rfl|omega)
   refine ih2 (k+1,b) _ ⟨by dsimp only;omega,hb⟩ (by dsimp only;omega) ?_
   simp only[Int.natCast_add,Int.natCast_one]
   (refine Weak.of (by simp[hc0]) ?_ ?_<;>(repeat' first|exact .refl _|exact .junk _|exact .nil _|exact .tok _ _ _|rfl|apply LeB.same|apply LeB.box|apply Le.agg|apply Le.one|constructor))
   all_goals first|exact mpC_bel _ _|exact bxC_bel _ _
  case pos=>
  cases b with
  |none=>
   have h3:(-1:Int)<a.view:=by omega
   have e:betterV l need none a=some (cvA a):=by unfold betterV;rw[← hnn,decide_eq_true h1,decide_eq_true h2];rfl
   rw[e] at hb
   refine Rg Tryz.func104 ?_;simp only[go_sem,ha,hkk2,h1,h2,h3,hfa,hmj,bxC,aC,Vg,↓aT,↓bT,↓gT,Int.reduceNeg,Nat.reduceAdd,Nat.reduceLeDiff,Nat.reduceLT]
   (and_intros<;>try first|rfl|omega)
   refine ih2 (k+1,some (cvA a)) _ ⟨by dsimp only;omega,hb⟩ (by dsimp only;omega) ?_
   simp only[Int.natCast_add,Int.natCast_one,Option.isSome_some,bxC,cvA]
   (refine Weak.of (by simp[hc0]) ?_ ?_<;>(repeat' first|exact .refl _|exact .junk _|exact .nil _|exact .tok _ _ _|rfl|apply LeB.same|apply LeB.box|apply Le.agg|apply Le.one|constructor))
   all_goals first|exact mpC_bel _ _|exact bxC_bel _ _
  |some c=>
   by_cases h3:c.1<a.view
   ·have e:betterV l need (some c) a=some (cvA a):=by unfold betterV;rw[← hnn,decide_eq_true h1,decide_eq_true h2];simp[overV,h3]
    rw[e] at hb
    refine Rg Tryz.func104 ?_;simp only[go_sem,ha,hkk2,h1,h2,h3,hfa,hmj,bxC,aC,Vg,↓aT,↓bT,↓gT,Int.reduceNeg,Nat.reduceAdd,Nat.reduceLeDiff,Nat.reduceLT]
    (and_intros<;>try first|rfl|omega)
    refine ih2 (k+1,some (cvA a)) _ ⟨by dsimp only;omega,hb⟩ (by dsimp only;omega) ?_
    simp only[Int.natCast_add,Int.natCast_one,Option.isSome_some,bxC,cvA]
    (refine Weak.of (by simp[hc0]) ?_ ?_<;>(repeat' first|exact .refl _|exact .junk _|exact .nil _|exact .tok _ _ _|rfl|apply LeB.same|apply LeB.box|apply Le.agg|apply Le.one|constructor))
    all_goals first|exact mpC_bel _ _|exact bxC_bel _ _
   ·have e:betterV l need (some c) a=some c:=by unfold betterV;rw[← hnn];simp[overV,h3]
    rw[e] at hb
    refine Rg Tryz.func104 ?_;simp only[go_sem,ha,hkk2,h1,h2,h3,hfa,hmj,bxC,aC,Vg,↓aT,↓aF,↓bT,↓gT,Int.reduceNeg,Nat.reduceAdd,Nat.reduceLeDiff,Nat.reduceLT]
    (and_intros<;>try first|rfl|omega)
    refine ih2 (k+1,some c) _ ⟨by dsimp only;omega,hb⟩ (by dsimp only;omega) ?_
    simp only[Int.natCast_add,Int.natCast_one,Option.isSome_some,bxC]
    (refine Weak.of (by simp[hc0]) ?_ ?_<;>(repeat' first|exact .refl _|exact .junk _|exact .nil _|exact .tok _ _ _|rfl|apply LeB.same|apply LeB.box|apply Le.agg|apply Le.one|constructor))
    all_goals first|exact mpC_bel _ _|exact bxC_bel _ _
 ·obtain rfl:k=l.length:=by omega
  rw[List.drop_length,List.foldl_nil] at hb
  rw[hb]
  have hkk2:¬(l.length:Int)<l.length:=by omega
  cases b with
  |none=>
   refine Rg Tryz.func104 ?_;simp only[go_sem,hkk2,bxC,↓aT,↓aF,Int.reduceNeg]
   simp only[bestVA]
   exact Vr
  |some c=>
   refine Rg Tryz.func104 ?_;simp only[go_sem,hkk2,bxC,↓aF,Int.reduceNeg,Nat.reduceAdd,Nat.reduceLeDiff]
   (and_intros<;>try first|rfl|omega)
   simp only[bestVA]
   exact Vr
theorem rises_len:∀ (l:List Int) (b n:Int),rises b l=true→(∀ x∈l,x<n)→b<n→b+l.length<n
 |[],b,n,_,_,h=>by simpa using h
 |x::l,b,n,h,h2,_=>by
  rw[rises,Vi,decide_eq_true_eq] at h
  have:=rises_len l x n h.2 (fun y hy=>h2 y (List.mem_cons_of_mem _ hy)) (h2 x List.mem_cons_self)
  rw[List.length_cons]
  omega
theorem votes_few{l:List Acc}{n:Int}(h:rightT l=true)(hb:∀ a∈l,a.by_<n)(hn:0<n):(l.length:Int)≤n:=by
 unfold rightT at h
 rw[Vi] at h
 have:=rises_len (l.map (·.by_)) (-1) n h.2 (fun x hx=>by obtain⟨a,ha,rfl⟩:=List.mem_map.1 hx;exact hb a ha) (by omega)
 rw[List.length_map] at this
 omega
theorem AcOk.few{a:Acp}(h:AcOk a):a.votes.length≤1000:=by
 obtain⟨z1,z2,z3,z4⟩:=sz_small h.sz
 have hn:0<a.s.n∧a.s.n≤100:=by unfold Sz.n;omega
 have:=votes_few h.vt (fun x hx=>(h.vb x hx).1) hn.1
 omega
def pvv:List Acc→Bts
 |[]=>[]
 |a::_=>a.value
theorem of2_spec(p:List Acc):ASpec Tryz.prog 51 [vA p] (.tup [.int .i64 (pvw p),.str (pvv p),.bool (!p.isEmpty)]):=by
 have:=of_spec p
 cases p<;>exact this
def hearA(r:Acp×Option (List Acc)):AV:=match r.2 with
 |none=>.tup [eC r.1,vA [],.bool false]
 |some p=>.tup [eC r.1,vA p,.bool true]
theorem hear_spec(a:Acp)(h:AcOk a)(w:Acc):ASpec Tryz.prog 18 [eC a,eA w] (hearA (hearF a w)):=by
 have hN:=zN_spec h.sz
 have hP:=of2_spec a.proof
 have hm:=may18_spec w
 by_cases q1:a.s.n≤w.by_
 case pos=>
  rw[show hearF a w=(a,none) by unfold hearF;rw[if_pos (.inl q1)]]
  unfold hearA vA
  refine⟨⟨_,Tryz.func18,by kernel_rfl,rfl⟩,Sg Tryz.func18 rfl fun c0 hc0=>?_⟩;simp only[go_sem,eC,pC,vA,eA,aC,Nat.reduceAdd,Nat.reduceLeDiff,Nat.reduceSub]
  (and_intros<;>try first|rfl|omega)
  refine DOps.pure rfl .free rfl rfl (hN) Vl rfl rfl ?_
  refine Dg Tryz.func18 rfl ?_;simp only[go_sem,q1,↓aT,↓bT,↓gdone_ft,Nat.reduceAdd]
  (and_intros<;>try first|rfl|omega)
  (repeat' first|exact .refl _|apply LeR.tup|apply Le.agg|constructor)
 case neg=>
 by_cases q2:w.view=a.view
 case neg=>
  rw[show hearF a w=(a,none) by unfold hearF;rw[if_pos (.inr q2)]]
  unfold hearA vA
  refine⟨⟨_,Tryz.func18,by kernel_rfl,rfl⟩,Sg Tryz.func18 rfl fun c0 hc0=>?_⟩;simp only[go_sem,eC,pC,vA,eA,aC,Nat.reduceAdd,Nat.reduceLeDiff,Nat.reduceSub]
  (and_intros<;>try first|rfl|omega)
  refine DOps.pure rfl .free rfl rfl (hN) Vl rfl rfl ?_
  refine Dg Tryz.func18 rfl ?_;simp only[go_sem,q1,q2,↓aT,↓bF,↓gU,Nat.reduceAdd,Nat.reduceLeDiff]
  (and_intros<;>try first|rfl|omega)
  (repeat' first|exact .refl _|apply LeR.tup|apply Le.agg|constructor)
 case pos=>
 have hadd:=add_spec a.votes w h.few h.vt (fun x hx=>by rw[(h.vb x hx).2,q2])
 have hvt:=add_right h.vt w
 have hal:(addF a.votes w).length≤1001:=by
  have:=h.few
  unfold addF
  split
  ·simp;omega
  ·omega
 have hv0:∀ x∈addF a.votes w,0≤x.view:=fun x hx=>(mayA_parts (((rightT_iff _).1 hvt).1 x hx)).2.1
 have hmk:=make19_spec a.s (addF a.votes w) h.sz (by omega) (best_spec (addF a.votes w) a.s.proof (by omega) hv0)
 have hF:hearF a w=match makeF a.s (addF a.votes w) with
  |none=>({ a with votes:=addF a.votes w },none)
  |some p=>if mayA w=true∧pvw a.proof<a.view then({ a with votes:=addF a.votes w,proof:=p },some p) else({ a with votes:=addF a.votes w },none):=by
  unfold hearF;rw[if_neg (by rintro(e|e);exact q1 e;exact e q2)];rfl
 rw[hF]
 clear hF
 obtain⟨vs,hvs⟩:∃ vs,vs=addF a.votes w:=⟨_,rfl⟩
 rw[← hvs] at hadd hmk ⊢
 obtain⟨nw,hnw⟩:∃ n,n=pvw a.proof:=⟨_,rfl⟩
 rw[← hnw] at hP ⊢
 obtain⟨s,me,view,has,at_,value,proof,votes⟩:=a
 obtain⟨wb,wv,wx⟩:=w
 dsimp only at *
 subst q2
 cases hmf:makeF s vs with
 |none=>
  rw[hmf] at hmk
  simp only[makeA] at hmk
  cases hmw:mayA ⟨wb,wv,wx⟩ with
  |false=>
   rw[hmw] at hm
   simp only[hearA]
   refine⟨⟨_,Tryz.func18,by kernel_rfl,rfl⟩,Sg Tryz.func18 rfl fun c0 hc0=>?_⟩;simp only[go_sem,eC,pC,vA,eA,aC,Nat.reduceAdd,Nat.reduceLeDiff,Nat.reduceSub]
   (and_intros<;>try first|rfl|omega)
   refine DOps.pure rfl .free rfl rfl (hN) Vl rfl rfl ?_
   refine Dg Tryz.func18 rfl ?_;simp only[go_sem,q1,↓aF,↓bF,↓gU,Nat.reduceAdd,Nat.reduceLeDiff]
   (and_intros<;>try first|rfl|omega)
   refine Ops.pure .free rfl rfl (hadd) Vl rfl rfl ?_
   refine Og Tryz.func18 ?_;simp only[go_sem,vA,Nat.reduceAdd,Nat.reduceLeDiff]
   (and_intros<;>try first|rfl|omega)
   refine Ops.pure .free rfl rfl (hmk) Vl rfl rfl ?_
   refine Og Tryz.func18 ?_;simp only[go_sem,vA,Nat.reduceAdd,Nat.reduceLeDiff]
   (and_intros<;>try first|rfl|omega)
   refine Ops.pure .free rfl rfl (hP) Vl rfl rfl ?_
   refine Og Tryz.func18 ?_;simp only[go_sem,Nat.reduceAdd]
   (and_intros<;>try first|rfl|omega)
   refine Ops.pure .free rfl rfl (hm) Vl rfl rfl ?_
   refine Og Tryz.func18 ?_;simp only[go_sem,↓aT,↓bT,↓gV,Nat.reduceAdd]
   (and_intros<;>try first|rfl|omega)
   (repeat' first|exact .refl _|apply LeR.tup|apply Le.agg|constructor)
  |true=>
   rw[hmw] at hm
   simp only[hearA]
   refine⟨⟨_,Tryz.func18,by kernel_rfl,rfl⟩,Sg Tryz.func18 rfl fun c0 hc0=>?_⟩;simp only[go_sem,eC,pC,vA,eA,aC,Nat.reduceAdd,Nat.reduceLeDiff,Nat.reduceSub]
   (and_intros<;>try first|rfl|omega)
   refine DOps.pure rfl .free rfl rfl (hN) Vl rfl rfl ?_
   refine Dg Tryz.func18 rfl ?_;simp only[go_sem,q1,↓aF,↓bF,↓gU,Nat.reduceAdd,Nat.reduceLeDiff]
   (and_intros<;>try first|rfl|omega)
   refine Ops.pure .free rfl rfl (hadd) Vl rfl rfl ?_
   refine Og Tryz.func18 ?_;simp only[go_sem,vA,Nat.reduceAdd,Nat.reduceLeDiff]
   (and_intros<;>try first|rfl|omega)
   refine Ops.pure .free rfl rfl (hmk) Vl rfl rfl ?_
   refine Og Tryz.func18 ?_;simp only[go_sem,vA,Nat.reduceAdd,Nat.reduceLeDiff]
   (and_intros<;>try first|rfl|omega)
   refine Ops.pure .free rfl rfl (hP) Vl rfl rfl ?_
   refine Og Tryz.func18 ?_;simp only[go_sem,Nat.reduceAdd]
   (and_intros<;>try first|rfl|omega)
   refine Ops.pure .free rfl rfl (hm) Vl rfl rfl ?_
   refine Og Tryz.func18 ?_;simp only[go_sem,↓aT,↓bT,↓bF,↓gV,↓gF,Nat.reduceAdd]
   (and_intros<;>try first|rfl|omega)
   (repeat' first|exact .refl _|apply LeR.tup|apply Le.agg|constructor)
 |some p=>
  rw[hmf] at hmk
  simp only[makeA] at hmk
  cases hmw:mayA ⟨wb,wv,wx⟩ with
  |false=>
   rw[hmw] at hm
   simp only[Y8,false_and,Yr,hearA]
   refine⟨⟨_,Tryz.func18,by kernel_rfl,rfl⟩,Sg Tryz.func18 rfl fun c0 hc0=>?_⟩;simp only[go_sem,eC,pC,vA,eA,aC,Nat.reduceAdd,Nat.reduceLeDiff,Nat.reduceSub]
   (and_intros<;>try first|rfl|omega)
   refine DOps.pure rfl .free rfl rfl (hN) Vl rfl rfl ?_
   refine Dg Tryz.func18 rfl ?_;simp only[go_sem,q1,↓aF,↓bF,↓gU,Nat.reduceAdd,Nat.reduceLeDiff]
   (and_intros<;>try first|rfl|omega)
   refine Ops.pure .free rfl rfl (hadd) Vl rfl rfl ?_
   refine Og Tryz.func18 ?_;simp only[go_sem,vA,Nat.reduceAdd,Nat.reduceLeDiff]
   (and_intros<;>try first|rfl|omega)
   refine Ops.pure .free rfl rfl (hmk) Vl rfl rfl ?_
   refine Og Tryz.func18 ?_;simp only[go_sem,vA,Nat.reduceAdd,Nat.reduceLeDiff]
   (and_intros<;>try first|rfl|omega)
   refine Ops.pure .free rfl rfl (hP) Vl rfl rfl ?_
   refine Og Tryz.func18 ?_;simp only[go_sem,Nat.reduceAdd]
   (and_intros<;>try first|rfl|omega)
   refine Ops.pure .free rfl rfl (hm) Vl rfl rfl ?_
   refine Og Tryz.func18 ?_;simp only[go_sem,↓aT,↓bT,↓gV,Nat.reduceAdd]
   (and_intros<;>try first|rfl|omega)
   (repeat' first|exact .refl _|apply LeR.tup|apply Le.agg|constructor)
  |true=>
   rw[hmw] at hm
   by_cases q3:nw<wv
   case pos=>
    have q4:¬wv≤nw:=by omega
    simp only[Yt,q3,Ys,hearA]
    refine⟨⟨_,Tryz.func18,by kernel_rfl,rfl⟩,Sg Tryz.func18 rfl fun c0 hc0=>?_⟩;simp only[go_sem,eC,pC,vA,eA,aC,Nat.reduceAdd,Nat.reduceLeDiff,Nat.reduceSub]
    (and_intros<;>try first|rfl|omega)
    refine DOps.pure rfl .free rfl rfl (hN) Vl rfl rfl ?_
    refine Dg Tryz.func18 rfl ?_;simp only[go_sem,q1,↓aF,↓bF,↓gU,Nat.reduceAdd,Nat.reduceLeDiff]
    (and_intros<;>try first|rfl|omega)
    refine Ops.pure .free rfl rfl (hadd) Vl rfl rfl ?_
    refine Og Tryz.func18 ?_;simp only[go_sem,vA,Nat.reduceAdd,Nat.reduceLeDiff]
    (and_intros<;>try first|rfl|omega)
    refine Ops.pure .free rfl rfl (hmk) Vl rfl rfl ?_
    refine Og Tryz.func18 ?_;simp only[go_sem,vA,Nat.reduceAdd,Nat.reduceLeDiff]
    (and_intros<;>try first|rfl|omega)
    refine Ops.pure .free rfl rfl (hP) Vl rfl rfl ?_
    refine Og Tryz.func18 ?_;simp only[go_sem,Nat.reduceAdd]
    (and_intros<;>try first|rfl|omega)
    refine Ops.pure .free rfl rfl (hm) Vl rfl rfl ?_
    refine Og Tryz.func18 ?_;simp only[go_sem,q4,↓aF,↓bF,↓gF,Nat.reduceAdd,Nat.reduceLeDiff]
    (and_intros<;>try first|rfl|omega)
    exact Vr
   case neg=>
    have q4:wv≤nw:=by omega
    simp only[Yt,q3,Yr,hearA]
    refine⟨⟨_,Tryz.func18,by kernel_rfl,rfl⟩,Sg Tryz.func18 rfl fun c0 hc0=>?_⟩;simp only[go_sem,eC,pC,vA,eA,aC,Nat.reduceAdd,Nat.reduceLeDiff,Nat.reduceSub]
    (and_intros<;>try first|rfl|omega)
    refine DOps.pure rfl .free rfl rfl (hN) Vl rfl rfl ?_
    refine Dg Tryz.func18 rfl ?_;simp only[go_sem,q1,↓aF,↓bF,↓gU,Nat.reduceAdd,Nat.reduceLeDiff]
    (and_intros<;>try first|rfl|omega)
    refine Ops.pure .free rfl rfl (hadd) Vl rfl rfl ?_
    refine Og Tryz.func18 ?_;simp only[go_sem,vA,Nat.reduceAdd,Nat.reduceLeDiff]
    (and_intros<;>try first|rfl|omega)
    refine Ops.pure .free rfl rfl (hmk) Vl rfl rfl ?_
    refine Og Tryz.func18 ?_;simp only[go_sem,vA,Nat.reduceAdd,Nat.reduceLeDiff]
    (and_intros<;>try first|rfl|omega)
    refine Ops.pure .free rfl rfl (hP) Vl rfl rfl ?_
    refine Og Tryz.func18 ?_;simp only[go_sem,Nat.reduceAdd]
    (and_intros<;>try first|rfl|omega)
    refine Ops.pure .free rfl rfl (hm) Vl rfl rfl ?_
    refine Og Tryz.func18 ?_;simp only[go_sem,q4,↓aT,↓bF,↓gF,Nat.reduceAdd,Nat.reduceLeDiff]
    (and_intros<;>try first|rfl|omega)
    (repeat' first|exact .refl _|apply LeR.tup|apply Le.agg|constructor)
def takeA:Except Int (Nat×Bytes)→AV
 |.error z=>.tup [.int .u64 0,bA [],.int .i64 z]
 |.ok (n,r)=>.tup [.int .u64 n,bA r,.int .i64 0]
theorem shl8(a:Int):ashift .shl .u64 a 8=some ⟨(0:Int)≤8,.int .u64 (IntKind.u64.wrap (a*256)),none⟩:=rfl
theorem wrap_u8(k:UInt8):IntKind.i64.wrap (k.toNat:Int)=k.toNat:=by
 have:=k.toNat_lt
 have e:(2:Int)^IntKind.i64.bits=18446744073709551616:=by decide
 have e':(2:Int)^(IntKind.i64.bits-1)=9223372036854775808:=by decide
 simp only[IntKind.wrap,e,e',show IntKind.i64.signed=true from rfl,Bool.true_and,decide_eq_true_eq]
 split<;>omega
theorem wrap_nat(n:Nat)(h:n<18446744073709551616):IntKind.u64.wrap (n:Int)=n:=by
 have e:(2:Int)^IntKind.u64.bits=18446744073709551616:=by decide
 simp only[IntKind.wrap,e,show IntKind.u64.signed=false from rfl,Bool.false_and,Y8,Yr]
 omega
theorem or_acc(n:Nat)(c:UInt8)(hn:n<72057594037927936):bits .or .u64 (IntKind.u64.wrap ((n:Int)*256)) (IntKind.u64.wrap (c.toNat:Int))=(n*256+c.toNat:Nat):=by
 have hc:=c.toNat_lt
 have e1:IntKind.u64.wrap ((n:Int)*256)=((n*256:Nat):Int):=by rw[← wrap_nat (n*256) (by omega)];simp
 have e2:IntKind.u64.wrap (c.toNat:Int)=(c.toNat:Int):=wrap_nat _ (by omega)
 rw[e1,e2,u64_or_nat (n*256) c.toNat (by omega) (by omega)]
 have:=Nat.shiftLeft_add_eq_or_of_lt (i:=8) (show c.toNat<2^8 by omega) n
 rw[Nat.shiftLeft_eq] at this
 rw[← this]
theorem take_nil_s:ASpec Tryz.prog 160 [bA []] (takeA (.error 2)):=by
 refine⟨⟨_,Tryz.func160,by kernel_rfl,rfl⟩,Sg Tryz.func160 rfl fun c0 hc0=>?_⟩;simp only[go_sem,bA,takeA,↓aT,Nat.reduceSub]
 (repeat' first|exact .refl _|apply LeR.tup|apply Le.agg|constructor)
theorem succ_ne(n:Nat):(((n+1:Nat):Int)=0)=False:=by simp;omega
theorem succ_pos'(n:Nat):((0:Int)<((n+1:Nat):Int))=True:=by simp
theorem take_form_s(k:UInt8)(r:Bytes)(h:(8:Int)<k.toNat):ASpec Tryz.prog 160 [bA (k::r)] (takeA (.error 3)):=by
 refine⟨⟨_,Tryz.func160,by kernel_rfl,rfl⟩,Sg Tryz.func160 rfl fun c0 hc0=>?_⟩;simp only[go_sem,bA,takeA,bC,wrap_u8,h,succ_ne,Int.reduceToNat,↓aT,↓aF,↓bT,↓gV,Int.reduceLE,Nat.reduceLT,Nat.reduceSub]
 exact⟨rfl,by omega,by omega,rfl,by(repeat' first|exact .refl _|apply LeR.tup|apply Le.agg|constructor)⟩
theorem take_short0_s(k:UInt8)(h:¬(8:Int)<k.toNat)(h0:(0:Int)<k.toNat):ASpec Tryz.prog 160 [bA [k]] (takeA (.error 2)):=by
 refine⟨⟨_,Tryz.func160,by kernel_rfl,rfl⟩,Sg Tryz.func160 rfl fun c0 hc0=>?_⟩;simp only[go_sem,bA,takeA,bC,wrap_u8,h,h0,succ_ne,Int.reduceToNat,↓aT,↓aF,↓bT,↓bF,↓gT,↓gW,↓gF,Int.reduceLT,Int.reduceLE,Nat.reduceLT,Nat.reduceSub]
 exact⟨rfl,by omega,by omega,rfl,by(repeat' first|exact .refl _|apply LeR.tup|apply Le.agg|constructor)⟩
theorem take_zero_s(k c:UInt8)(r:Bytes)(h:¬(8:Int)<k.toNat)(h0:(0:Int)<k.toNat)(hc:(c.toNat:Int)=0):ASpec Tryz.prog 160 [bA (k::c::r)] (takeA (.error 3)):=by
 refine⟨⟨_,Tryz.func160,by kernel_rfl,rfl⟩,Sg Tryz.func160 rfl fun c0 hc0=>?_⟩;simp only[go_sem,bA,takeA,bC,wrap_u8,h,h0,hc,succ_ne,succ_pos',Int.reduceToNat,↓aT,↓aF,↓bT,↓bF,↓gT,↓gF,Int.reduceLE,Nat.reduceLT,Nat.reduceSub]
 exact⟨rfl,by omega,rfl,by(repeat' first|exact .refl _|apply LeR.tup|apply Le.agg|constructor)⟩
theorem take_short_s(k c:UInt8)(r:Bytes)(h:¬(8:Int)<k.toNat)(h0:(0:Int)<k.toNat)(hc:¬(c.toNat:Int)=0)(hl:((r.length+1:Nat):Int)<k.toNat):ASpec Tryz.prog 160 [bA (k::c::r)] (takeA (.error 2)):=by
 refine⟨⟨_,Tryz.func160,by kernel_rfl,rfl⟩,Sg Tryz.func160 rfl fun c0 hc0=>?_⟩;simp only[go_sem,bA,takeA,bC,wrap_u8,h,h0,hc,hl,succ_ne,succ_pos',Int.reduceToNat,↓aT,↓aF,↓bT,↓bF,↓gT,↓gF,Int.reduceLE,Nat.reduceLT,Nat.reduceSub]
 exact⟨rfl,by omega,rfl,by(repeat' first|exact .refl _|apply LeR.tup|apply Le.agg|constructor)⟩
theorem take_none_s(k:UInt8)(r:Bytes)(h0:(k.toNat:Int)=0):ASpec Tryz.prog 160 [bA (k::r)] (takeA (.ok (0,r))):=by
 have hl:¬(r.length:Int)<0:=by omega
 refine⟨⟨_,Tryz.func160,by kernel_rfl,rfl⟩,Sg Tryz.func160 rfl fun c0 hc0=>?_⟩;simp only[go_sem,bA,takeA,bC,h0,hl,show IntKind.i64.wrap 0=0 from rfl,succ_ne,succ_pos',Int.reduceToNat,↓aF,↓bF,↓gW,↓gF,Int.reduceLT,Int.reduceLE,Nat.reduceLT,Nat.reduceSub]
 refine⟨rfl,by omega,rfl,by omega,Run.unloop ?_⟩
 refine Rg Tryz.func160 ?_;simp only[go_sem,↓aF,Int.reduceLT,Int.reduceLE]
 exact⟨rfl,by omega,rfl,by(repeat' first|exact .refl _|apply LeR.tup|apply Le.agg|constructor)⟩
theorem take_some_s(k c:UInt8)(r:Bytes)(h:¬(8:Int)<k.toNat)(h0:(0:Int)<k.toNat)(hc:¬(c.toNat:Int)=0)(hl:¬((r.length+1:Nat):Int)<k.toNat):ASpec Tryz.prog 160 [bA (k::c::r)] (takeA (.ok (fromBE ((c::r).take k.toNat),(c::r).drop k.toNat))):=by
 refine⟨⟨_,Tryz.func160,by kernel_rfl,rfl⟩,Sg Tryz.func160 rfl fun c0 hc0=>?_⟩;simp only[go_sem,bA,takeA,bC,wrap_u8,h,h0,hc,hl,succ_ne,succ_pos',Int.reduceToNat,↓aF,↓bT,↓bF,↓gT,↓gF,Int.reduceLE,Nat.reduceLT,Nat.reduceSub]
 refine⟨rfl,by omega,rfl,by omega,?_⟩
 have hlen:(List.take k.toNat ([AV.int .u8 c.toNat]::List.map bC r)).length=k.toNat:=by simp;omega
 refine Run.loopV (α:=Nat) (fun j=>j≤k.toNat) (fun j=>[(7,.int .u64 (fromBE ((c::r).take j):Nat)),(46,.int .i64 j)]) 0 (fun _=>[]) (fun j=>k.toNat-j) 0 (Nat.zero_le _) ?_ ?_
 ·simp only[go_sem,writes,junks,puts,hputs,List.filterMap_cons,List.filterMap_nil,Int.natCast_add,Int.natCast_one]
  (refine Weak.of (by simp[hc0]) ?_ ?_<;>(repeat' first|exact .refl _|exact .junk _|exact .nil _|exact .tok _ _ _|rfl|apply LeB.same|apply LeB.box|apply Le.agg|apply Le.one|constructor))
 ·intro j hj ih
  simp only[writes,junks,puts,hputs,List.filterMap_cons,List.filterMap_nil,Int.natCast_add,Int.natCast_one,Y6,Y7,Yk,Y5,Y3,Yd,hlen] at ih ⊢
  by_cases hjk:j<k.toNat
  ·have hjr:j<(c::r).length:=by simp;omega
   have hg:(c::r)[j]? = some ((c::r)[j]):=Vb hjr
   have hsn:fromBE ((c::r).take (j+1))=fromBE ((c::r).take j)*256+((c::r)[j]).toNat:=by
    rw[List.take_add_one,hg,← fromBE_snoc];rfl
   have hF:=fromBE_lt ((c::r).take j)
   have hFl:((c::r).take j).length=j:=by rw[List.length_take];omega
   rw[hFl] at hF
   have hpow:256^j≤256^7:=Nat.pow_le_pow_right (by omega) (by omega)
   have hx:(List.take k.toNat ([AV.int .u8 c.toNat]::List.map bC r))[j]? = some [.int .u8 ((c::r)[j]).toNat]:=by
    have e:([AV.int .u8 c.toNat]::List.map bC r)=(c::r).map bC:=rfl
    rw[e,← List.map_take,Vg,List.getElem?_take_of_lt hjk,hg];rfl
   have hor:=or_acc (fromBE ((c::r).take j)) ((c::r)[j]) (by omega)
   rw[← hsn] at hor
   obtain⟨G,hG⟩:∃ G,G=fromBE ((c::r).take (j+1)):=⟨_,rfl⟩
   rw[← hG] at hor
   generalize (c::r)[j]=x at *
   have hjj:(j:Int)<k.toNat:=by omega
   refine Rg Tryz.func160 ?_;simp only[go_sem,hx,hjj,hlen,↓shl8,hor,↓aT,Int.reduceLE,Nat.reduceLT]
   refine⟨by omega,by unfold I64;omega,ih (j+1) _ (by omega) (by omega) ?_⟩
   rw[← hG]
   simp only[Int.natCast_add,Int.natCast_one]
   (refine Weak.of (by simp[hc0]) ?_ ?_<;>(repeat' first|exact .refl _|exact .junk _|exact .nil _|exact .tok _ _ _|rfl|apply LeB.same|apply LeB.box|apply Le.agg|apply Le.one|constructor))
  ·obtain rfl:j=k.toNat:=by omega
   have hjj:¬(k.toNat:Int)<k.toNat:=by omega
   refine Rg Tryz.func160 ?_;simp only[go_sem,hjj,↓aF]
   have e:List.drop k.toNat ([AV.int .u8 c.toNat]::List.map bC r)=List.map bC (List.drop k.toNat (c::r)):=by rw[List.map_drop];rfl
   rw[e]
   exact⟨rfl,by omega,rfl,by(repeat' first|exact .refl _|apply LeR.tup|apply Le.agg|constructor)⟩
theorem take_spec(b:Bytes):ASpec Tryz.prog 160 [bA b] (takeA (takeN b)):=by
 match b with
 |[]=>exact take_nil_s
 |k::r=>
  by_cases h8:(8:Int)<k.toNat
  ·have e:takeN (k::r)=.error 3:=by
    have q:8<k.toNat:=by omega
    simp[takeN,q]
   rw[e]
   exact take_form_s k r h8
  ·have q:¬8<k.toNat:=by omega
   by_cases h0:(0:Int)<k.toNat
   ·have q2:0<k.toNat:=by omega
    match r with
    |[]=>
     have e:takeN [k]=.error 2:=by simp[takeN,q,q2]
     rw[e]
     exact take_short0_s k h8 h0
    |c::r=>
     by_cases hc:(c.toNat:Int)=0
     ·have hz:c=0:=by apply UInt8.toNat_inj.1;simpa using hc
      have e:takeN (k::c::r)=.error 3:=by subst hz;simp[takeN,q2]
      rw[e]
      exact take_zero_s k c r h8 h0 hc
     ·have hz:¬c=0:=by intro h;subst h;exact hc rfl
      by_cases hl:((r.length+1:Nat):Int)<k.toNat
      ·have q3:r.length+1<k.toNat:=by omega
       have e:takeN (k::c::r)=.error 2:=by simp[takeN,hz,q,q3]
       rw[e]
       exact take_short_s k c r h8 h0 hc hl
      ·have q3:¬r.length+1<k.toNat:=by omega
       have e:takeN (k::c::r)=.ok (fromBE ((c::r).take k.toNat),(c::r).drop k.toNat):=by simp[takeN,hz,q,q3]
       rw[e]
       exact take_some_s k c r h8 h0 hc hl
   ·have hk:(k.toNat:Int)=0:=by omega
    have hk':k.toNat=0:=by omega
    have e:takeN (k::r)=.ok (0,r):=by simp[takeN,hk',fromBE]
    rw[e]
    exact take_none_s k r hk
def takeZ(b:Bytes):Except Int (Int×Bytes):=match takeN b with
 |.error z=>.error z
 |.ok (n,r)=>.ok (unzig n,r)
theorem taken_small{b:Bytes}{n:Nat}{r:Bytes}(h:takeN b=.ok (n,r)):n<18446744073709551616∧r.length≤b.length:=by
 cases b with
 |nil=>simp[takeN] at h
 |cons k t=>
  simp only[takeN] at h
  split at h
  ·cases h
  ·split at h
   ·cases h
   ·rename_i h1 h2
    simp only[Except.ok.injEq,Prod.mk.injEq] at h
    obtain⟨rfl,rfl⟩:=h
    have hF:=fromBE_lt (t.take k.toNat)
    rw[List.length_take] at hF
    have:256^(min k.toNat t.length)≤256^8:=Nat.pow_le_pow_right (by omega) (by omega)
    exact⟨by omega,by simp;omega⟩
theorem ofInt_small(a:Nat)(ha:a<9223372036854775808):(BitVec.ofInt 64 (a:Int)).toNat=a:=by
 rw[BitVec.ofInt_natCast,BitVec.toNat_ofNat]
 exact Nat.mod_eq_of_lt (by omega)
theorem and_one(n:Nat)(hn:n<18446744073709551616):bits .and .u64 (n:Int) 1=((n % 2:Nat):Int):=by
 have:=u64_and_nat n 1 hn (by omega)
 rw[Nat.and_one_is_mod] at this
 exact this
theorem xor_unzig(n:Nat)(hn:n<18446744073709551616):bits .xor .i64 ((n / 2:Nat):Int) (-((n % 2:Nat):Int))=unzig n:=by
 have hd:n / 2<9223372036854775808:=by omega
 generalize hx:n / 2=x at *
 show IntKind.i64.wrap ((BitVec.ofInt 64 (x:Int) ^^^ BitVec.ofInt 64 _).toNat:Int)=_
 rcases(by omega:n % 2=0∨n % 2=1) with h|h
 ·rw[h]
  have e0:(-((0:Nat):Int))=0:=by omega
  rw[e0,BitVec.toNat_xor,ofInt_small x hd,show(BitVec.ofInt 64 0).toNat=0 from rfl,Nat.xor_zero,IntKind.wrap_i64,unzig,if_neg (by omega),hx]
  omega
 ·rw[h]
  have e0:(-((1:Nat):Int))=-1:=by omega
  rw[e0,show BitVec.ofInt 64 (-1)=BitVec.allOnes 64 by decide,BitVec.xor_allOnes,BitVec.toNat_not,ofInt_small x hd,IntKind.wrap_i64,unzig,if_pos h,hx]
  omega
theorem wrap_n64(n:Nat)(h:n<9223372036854775808):IntKind.i64.wrap (n:Int)=n:=by
 have e:(2:Int)^IntKind.i64.bits=18446744073709551616:=by decide
 have e':(2:Int)^(IntKind.i64.bits-1)=9223372036854775808:=by decide
 simp only[IntKind.wrap,e,e',show IntKind.i64.signed=true from rfl,Bool.true_and,decide_eq_true_eq]
 split<;>omega
def takeZA:Except Int (Int×Bytes)→AV
 |.error z=>.tup [.int .i64 0,bA [],.int .i64 z]
 |.ok (n,r)=>.tup [.int .i64 n,bA r,.int .i64 0]
theorem shr1(a:Int):ashift .shr .u64 a 1=some ⟨(0:Int)≤1,.int .u64 (a.fdiv 2),none⟩:=rfl
theorem takeint_spec(b:Bytes):ASpec Tryz.prog 172 [bA b] (takeZA (takeZ b)):=by
 have hsp:=take_spec b
 cases ht:takeN b with
 |error z=>
  rw[ht] at hsp
  refine⟨⟨_,Tryz.func172,by kernel_rfl,rfl⟩,Sg Tryz.func172 rfl fun c0 hc0=>?_⟩;simp only[go_sem,bA,Nat.reduceSub]
  refine Ops.pure .free rfl rfl (hsp) Vl rfl rfl ?_
  refine Og Tryz.func172 ?_;simp only[go_sem,takeA,bA,↓shr1,Int.reduceLE]
  have e1:IntKind.i64.wrap (Int.fdiv 0 2)=((0 / 2:Nat):Int):=rfl
  have e2:IntKind.i64.wrap (bits .and .u64 0 1)=((0 % 2:Nat):Int):=by decide
  have e3:=xor_unzig 0 (by omega)
  rw[e1,e2,e3,takeZ,ht]
  exact⟨by unfold I64;omega,by simp only[takeZA];(repeat' first|exact .refl _|apply LeR.tup|apply Le.agg|constructor)⟩
 |ok p=>
  obtain⟨n,r⟩:=p
  obtain⟨hn,_⟩:=taken_small ht
  rw[ht] at hsp
  refine⟨⟨_,Tryz.func172,by kernel_rfl,rfl⟩,Sg Tryz.func172 rfl fun c0 hc0=>?_⟩;simp only[go_sem,bA,Nat.reduceSub]
  refine Ops.pure .free rfl rfl (hsp) Vl rfl rfl ?_
  refine Og Tryz.func172 ?_;simp only[go_sem,takeA,bA,↓shr1,and_one n hn,Int.reduceLE]
  have e1:IntKind.i64.wrap ((n:Int).fdiv 2)=((n / 2:Nat):Int):=by
   rw[Int.fdiv_eq_ediv_of_nonneg _ (by decide),show(n:Int) / 2=((n / 2:Nat):Int) by omega,wrap_n64 _ (by omega)]
  have e2:IntKind.i64.wrap ((n % 2:Nat):Int)=((n % 2:Nat):Int):=wrap_n64 _ (by omega)
  rw[e1,e2,xor_unzig n hn,takeZ,ht]
  exact⟨by unfold I64;omega,by simp only[takeZA];(repeat' first|exact .refl _|apply LeR.tup|apply Le.agg|constructor)⟩
def takeTA:Except Int (Bytes×Bytes)→AV
 |.error z=>.tup [.str [],bA [],.int .i64 z]
 |.ok (s,r)=>.tup [.str s,bA r,.int .i64 0]
theorem taketext_spec(b:Bytes)(most:Int)(hb:b.length≤1000000)(hm:0≤most∧most≤1000000):ASpec Tryz.prog 173 [bA b,.int .i64 most] (takeTA (takeT b most)):=by
 have hsp:=take_spec b
 cases ht:takeN b with
 |error z=>
  rw[ht] at hsp
  have hz:¬z=0:=by rcases takeN_err ht with h|h<;>omega
  refine⟨⟨_,Tryz.func173,by kernel_rfl,rfl⟩,Sg Tryz.func173 rfl fun c0 hc0=>?_⟩;simp only[go_sem,bA,Nat.reduceAdd,Nat.reduceSub]
  refine Ops.pure .free rfl rfl (hsp) Vl rfl rfl ?_
  refine Og Tryz.func173 ?_;simp only[go_sem,takeA,bA,hz,↓aT]
  rw[takeT,ht]
  simp only[takeTA]
  (repeat' first|exact .refl _|apply LeR.tup|apply Le.agg|constructor)
 |ok p=>
  obtain⟨n,r⟩:=p
  obtain⟨hn,hl⟩:=taken_small ht
  rw[ht] at hsp
  have hw:IntKind.u64.wrap most=most:=by
   obtain⟨m,rfl⟩:=Int.eq_ofNat_of_zero_le hm.1
   exact wrap_nat m (by omega)
  have hw2:IntKind.u64.wrap (r.length:Int)=r.length:=wrap_nat _ (by omega)
  have hmx:max most 0=most:=by omega
  by_cases h1:most<(n:Int)
  ·refine⟨⟨_,Tryz.func173,by kernel_rfl,rfl⟩,Sg Tryz.func173 rfl fun c0 hc0=>?_⟩;simp only[go_sem,bA,Nat.reduceAdd,Nat.reduceSub]
   refine Ops.pure .free rfl rfl (hsp) Vl rfl rfl ?_
   refine Og Tryz.func173 ?_;simp only[go_sem,takeA,bA,hw,hmx,h1,↓aT,↓aF]
   rw[takeT,ht]
   simp only[if_pos (show(max most 0).toNat<n by omega),takeTA]
   (repeat' first|exact .refl _|apply LeR.tup|apply Le.agg|constructor)
  ·by_cases h2:(r.length:Int)<(n:Int)
   ·refine⟨⟨_,Tryz.func173,by kernel_rfl,rfl⟩,Sg Tryz.func173 rfl fun c0 hc0=>?_⟩;simp only[go_sem,bA,Nat.reduceAdd,Nat.reduceSub]
    refine Ops.pure .free rfl rfl (hsp) Vl rfl rfl ?_
    refine Og Tryz.func173 ?_;simp only[go_sem,takeA,bA,hw,hw2,hmx,h1,h2,↓aT,↓aF]
    rw[takeT,ht]
    simp only[if_neg (show ¬(max most 0).toNat<n by omega),if_pos (show r.length<n by omega),takeTA]
    (repeat' first|exact .refl _|apply LeR.tup|apply Le.agg|constructor)
   ·refine⟨⟨_,Tryz.func173,by kernel_rfl,rfl⟩,Sg Tryz.func173 rfl fun c0 hc0=>?_⟩;simp only[go_sem,bA,Nat.reduceAdd,Nat.reduceSub]
    refine Ops.pure .free rfl rfl (hsp) Vl rfl rfl ?_
    refine Og Tryz.func173 ?_;simp only[go_sem,takeA,bA,hw,hw2,hmx,h1,h2,↓aF]
    rw[takeT,ht]
    simp only[if_neg (show ¬(max most 0).toNat<n by omega),if_neg (show ¬r.length<n by omega),takeTA]
    rw[← List.map_take,← List.map_drop,bytesOf_map]
    exact⟨rfl,by omega,rfl,by omega,rfl,by(repeat' first|exact .refl _|apply LeR.tup|apply Le.agg|constructor)⟩
end Go.Proofs.YtojhjaohaafeaaaGreatDoor
namespace Go.Proofs.YtojhjaohaafeaaaGreatDoor
theorem unzig_zig(n:Int)(h:-9223372036854775808≤n)(h':n≤9223372036854775807):unzig (zig n)=n:=by
 unfold zig unzig
 split<;>split<;>omega
theorem takeZ_enc(n:Int)(h:-9223372036854775808≤n)(h':n≤9223372036854775807)(r:Bytes):takeZ (encN (zig n)++r)=.ok (n,r):=by
 rw[takeZ,takeN_enc _ (zig_lt n h h')]
 simp only[unzig_zig n h h']
theorem takeT_enc(s:Bytes)(most:Int)(h:s.length<18446744073709551616)(hm:s.length≤max most 0)(r:Bytes):takeT (encT s++r) most=.ok (s,r):=by
 rw[takeT,encT,List.append_assoc,takeN_enc _ h]
 simp only
 rw[if_neg (by omega),if_neg (by simp),List.take_left,List.drop_left]
end Go.Proofs.YtojhjaohaafeaaaGreatDoor
