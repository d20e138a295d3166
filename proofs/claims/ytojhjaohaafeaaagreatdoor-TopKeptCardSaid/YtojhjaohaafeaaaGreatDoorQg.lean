/-
  Several texts in one: Str, Conv, Len, Octet, OctetB, Nd, Nf, Ng, Nh, Ni, Nl, Nm, ZRep, LibB, Dx, Pm, Crc, CrcB, TakeZ, RegL, CrcC, CrcD, OctetRef, CrcE, Wa, Dz, Wb, Np, Nq, Wc, Wd, Wf.
-/
import Derived.Test.YtojhjaohaafeaaaGreatDoorQd
import Derived.Lib.AppendStr
import Derived.Laws.IdiomStrings
import Derived.Test.YtojhjaohaafeaaaGreatDoorRows
import Derived.Shelf.Strconv.Itoa0
import Derived.Test.YtojhjaohaafeaaaGreatDoorProg
import Derived.Test.YtojhjaohaafeaaaGreatDoorQf
import Derived.Test.YtojhjaohaafeaaaGreatDoorQc
import Derived.Lib.AppendZeros
import Derived.Deep.QuietTactic
import Derived.BigQuiet
import Derived.Laws.BitsAllLaws
import Derived.Deep.RegionHeld3
import Derived.IntWalk
import Derived.Test.YtojhjaohaafeaaaGreatDoorQb
set_option maxRecDepth 20000
set_option maxHeartbeats 8000000
namespace Go.Proofs.YtojhjaohaafeaaaGreatDoor
open Go.ChangeShapes Go.WideShapes Go.ChangeAt Go.RowKit Go.Deep
theorem strCells_bytes(s:ByteArray):Lib.strCells s=s.data.toList.map byteV:=rfl
section
variable {P:Program} {w:World}
theorem wpl_append_str{ops:Array Oper}{rest:List Oper}{o:Oper}{a:Act}{Q:Exit→Act→World→Prop}{base e:Nat}(hgd:o.guard=none)(s x:Operand)(t u:TypeId)
  (ho:o.op=.call { callee:=.builtin .append,args:=#[s,x],argTypes:=#[t,u] }) (T:Tab P t e 1 1) (hz:(P.info? e).bind (·.zero)=some (.int .u8 0)) (hu:P.underlying u=some .string) (v:Value) (l:List UInt8) (hs:a.eval s=v) (hown:Own byteR 1 e base 0 w v l)
  (q:ByteArray) (hx:a.eval x=.string q) (hlen:l.length+q.size≤140737488355328) (hbase:base≤w.heap.size)
  (h:∀ v' w',Own byteR 1 e base 0 w' v' (l++q.data.toList)→Below base w w'→w.grownBy w' v.ownBlock→wpList P ops Q rest (a.put o.dst v') w'):wpList P ops Q (o::rest) a w:=by
 obtain⟨i,z,hi,hzz,hsz,hb,_⟩:=T.hi
 have hz':i.zero=some (.int .u8 0):=by rw[hi] at hz;simpa using hz
 obtain⟨xs,ho',hxs⟩:=hown
 obtain⟨v',w',hrun,h2,h3,_⟩:=Lib.run_append_own_string (P:=P) w base t u o.type e i T.ht hu hi hz' hsz hb v l.length xs ho' q (by unfold maxLen;omega) hlen hbase
 have hbl:Below base w w':=(Below.refl _ _).grown h3 hbase (fun k hk=>(ho'.lt k hk).1)
 have hql:q.data.toList.length=q.size:=by simp
 refine wpList_plain hgd fun _ hK=>?_
 unfold Oper.wp execOp
 simp only[ho,resolve,invoke,builtin,Sem.run_bind,Sem.run_pure,Result.andThen_ok,List.map_toArray,Yf,Ye,hs,hx,hrun]
 refine hK _ _ (h v' w' ⟨xs++Lib.strCells q,by rw[List.length_append,hql];exact h2,?_⟩ hbl h3)
 rw[cs_bytes,cs_bytes.1 hxs,strCells_bytes,List.map_append]
end
end Go.Proofs.YtojhjaohaafeaaaGreatDoor
namespace Go.Proofs.YtojhjaohaafeaaaGreatDoor
open Go.RowKit Go.Deep
theorem tabB:Tab Tryz.prog 89 5 1 1:=by
 obtain⟨i,h1,h2,h3,h4⟩:=info_parts (P:=Tryz.prog) (e:=5) (z:=.int .u8 0) (size:=1) (bytes:=1) (by kernel_rfl)
 exact⟨Tryz.underlying89,⟨i,_,h1,h2,h3,h4,rfl⟩,by omega⟩
theorem Own.len{α:Type}{R:Rep α}{k B base:Nat}{e:TypeId}{w:World}{v:Value}{l:List α}(h:Own R k e base B w v l)(hB:B≤w.heap.size){m:Nat}(hm:l.length=m) :
  ∃ A c,v=.slice A m c∧m≤c∧c≤maxLen∧Sl R k w.heap.size w A l:=by
 obtain⟨A,c,rfl,h1,h2,h3⟩:=h.sl hB
 exact⟨A,c,by rw[hm],by rw[← hm];exact h1,h2,h3⟩
theorem Own.form2{α:Type}{R:Rep α}{k B base:Nat}{e:TypeId}{w:World}{v:Value}{l:List α}(h:Own R k e base B w v l){m:Nat}(hm:l.length=m):∃ A c,v=.slice A m c:=by
 obtain⟨A,c,rfl,_⟩:=h.form
 exact⟨A,c,by rw[hm]⟩
def RetB(w:World)(l:Bytes)(e:Ending)(w':World):Prop:=∃ v,e=.returned v∧Own byteR 1 5 w.heap.size 0 w' v l∧Below w.heap.size w w'
end Go.Proofs.YtojhjaohaafeaaaGreatDoor
namespace Go.Proofs.YtojhjaohaafeaaaGreatDoor
open Go.Shelf
def lays129_ren:Go.Shelf.Ren:=⟨fun|129=>213|n=>n,fun|53=>239|3=>3|4=>4|46=>245|5=>5|9=>9|n=>n,fun|n=>n⟩
theorem lays129:Go.Proofs.Lays.n129 Tryz.prog lays129_ren:={
 mixed:=by kernel_rfl
 f129:=Tryz.func213.trans (congrArg some (by kernel_rfl))
 t3:=Tryz.underlying3
 a3:=Tryz.isAgg3
 z3:=Tryz.sizeOf3
 v3:=Tryz.zeroValue3
 t4:=Tryz.underlying4
 a4:=Tryz.isAgg4
 z4:=Tryz.sizeOf4
 v4:=Tryz.zeroValue4
 t5:=Tryz.underlying5
 a5:=Tryz.isAgg5
 z5:=Tryz.sizeOf5
 v5:=Tryz.zeroValue5
 t9:=Tryz.underlying9
 a9:=Tryz.isAgg9
 z9:=Tryz.sizeOf9
 v9:=Tryz.zeroValue9
 t46:=Tryz.underlying245
 a46:=Tryz.isAgg245
 z46:=Tryz.sizeOf245
 v46:=Tryz.zeroValue245
 t53:=Tryz.underlying239
 a53:=Tryz.isAgg239
 z53:=Tryz.sizeOf239
 v53:=Tryz.zeroValue239 }
theorem len64_any(x:Int)(w:World)(h0:0≤x)(h1:x≤18446744073709551615) :
  Calls Tryz.prog 213 #[.int .u64 x] w fun e w'=>e=.returned (.int .i64 (Lib.bitLen x.toNat))∧w'=w:=Any.bits_Len64 lays129 x w h0 h1
open Go.RowKit
theorem size_any(n:Nat)(hn:n<18446744073709551616)(w:World) :
  Calls Tryz.prog 175 #[.int .u64 n] w fun e w'=>e=.returned (.int .i64 (1+nb n:Nat))∧w=w':=by
 have h8:=nb_le n hn
 have hb:=bitLen_nb n hn
 have hb2:Lib.bitLen n≤64:=by omega
 have HB:=hid hb;clear hb
 go_enter Tryz.func175,Tryz.ntmps175
 go_wp2_with (go_at_call 213;refine(len64_any _ _ (by omega) (by omega)).mono ?_;rintro e w' ⟨rfl,rfl⟩;rw[Int.toNat_natCast])
 go_ret
 exact⟨ret_int (by have:=HB.out;omega),rfl⟩
theorem clip_any(A:Option Addr)(n c:Nat)(hn:n≤c)(_hc:c≤maxLen)(w:World) :
  Calls Tryz.prog 176 #[.slice A n c] w fun e w'=>e=.returned (.slice A n n)∧w=w':=by
 unfold maxLen at _hc
 go_enter Tryz.func176,Tryz.ntmps176
 go_wp2
 go_ret
 exact⟨rfl,rfl⟩
theorem put_any(A:Option Addr)(b:Bytes)(m c n:Nat)(hm:b.length=m)(hmc:m≤c)(hc:c≤maxLen)(hn:n<18446744073709551616)(hb:m≤1000000)(w:World)(hs:Sl byteR 1 w.heap.size w A b) :
  Calls Tryz.prog 112 #[.slice A m c,.int .u64 n] w (RetB w (b++encN n)):=by
 have h8:=nb_le n hn
 obtain⟨xs,hr0',hcx⟩:=hs.cells
 rw[hm] at hr0'
 have hc0':∀ W:World,Cs byteR 1 0 W xs b:=fun W=>cs_bytes.2 (cs_bytes.1 hcx)
 have hk8:1+(nb n:Int)-1=(nb n % 256:Nat):=by omega
 have hl1:(b.length+[UInt8.ofNat (nb n)].length)*1≤140737488355328:=by simp;omega
 have hl2:b.length+[UInt8.ofNat (nb n)].length≤maxLen:=by simp[maxLen];omega
 have HK:=hid hk8;have HL1:=hid hl1;have HL2:=hid hl2;have HR:=hid hr0';have HC:=hid hc0'
 clear hk8 hl1 hl2 hcx hr0' hc0' hs
 go_enter Tryz.func112,Tryz.ntmps112
 go_wp2_with (first
  |(go_at_call 175;refine(size_any n hn _).mono ?_;rintro e w' ⟨rfl,rfl⟩)
  |(go_at_call 176;refine(clip_any A m c hmc hc _).mono ?_;rintro e w' ⟨rfl,rfl⟩)
  |(at_builtin;refine wpl_append_full (R:=byteR) (B:=0) rfl (.tmp 12) (.tmp 15) _ rfl tabB A m m xs b [UInt8.ofNat (nb n)] rfl hm rfl (HR.out.alloc _) (HC.out _) (Nat.zero_le _) ⟨w.heap.size,0,none⟩ 1 1 [.int .u8 (1+(nb n:Int)-1)] rfl rfl Nat.one_pos (rdc_new _ _ _ rfl) (byte_one HK.out _) (bytes1 _) HL1.out HL2.out ?_;intro v1 w1 hown hbl))
 have hown2:=hown.low (base':=w.heap.size) (by simp)
 have hbl2:Below w.heap.size w w1:=below_then (bN _ _) hbl
 have HO:=hid hown2;clear hown hbl hown2
 go_loopw [6,7] (fun v i wr=>∃ q:Nat,q≤nb n∧i=.int .i64 ((q:Int)-1)∧Own byteR 1 5 w.heap.size 0 wr v ((b++[UInt8.ofNat (nb n)])++(be (nb n) n).take (nb n-q))∧Below w.heap.size w wr)
  (fun _ i _=>(intOf i+1).toNat)
 case atStart=>exact⟨nb n,Nat.le_refl _,by go_num,by simpa using HO.out,hbl2⟩
 case round=>
  obtain⟨q,hq,rfl,hown,hbr⟩:=hrel
  cases q with
  |zero=>
   have HO2:=hid hown;clear hown
   go_wp2
   go_ret
   refine⟨_,rfl,?_,hbr⟩
   have:=HO2.out
   rw[Nat.sub_zero,List.take_of_length_le (by rw[be_length];omega)] at this
   simpa [encN] using this
  |succ p=>
   rw[show((p+1:Nat):Int)-1=(p:Int) by omega]
   have HO2:=hid hown;clear hown
   have hl:((b++[UInt8.ofNat (nb n)])++(be (nb n) n).take (nb n-(p+1))).length≤1000010:=by
    simp only[List.length_append,Ya,Y9]
    have:(List.take (nb n-(p+1)) (be (nb n) n)).length≤nb n:=by rw[List.length_take,be_length];omega
    omega
   have hk:=shr_byte n p
   have ht:=be_take (nb n) n (nb n-(p+1)) (by omega)
   rw[show nb n-1-(nb n-(p+1))=p by omega,show nb n-(p+1)+1=nb n-p by omega] at ht
   generalize hL:(b++[UInt8.ofNat (nb n)])++(be (nb n) n).take (nb n-(p+1))=L at *
   have HK1:=hid hk;have HT:=hid ht;have HL:=hid hL;have HN:=hid hl;clear hk ht hL hl
   go_wp2_with (first
    |(at_builtin;refine wpl_append (R:=byteR) (B:=0) rfl (.tmp 23) (.tmp 29) _ rfl tabB _ L [UInt8.ofNat (n / 256^p)] rfl (HO2.out.alloc (Nat.zero_le _) _) (Nat.zero_le _) (some ⟨wr.heap.size,0,none⟩) 1 1 [.int .u8 ((n:Int) / 2^(8*p) % 256)] rfl rfl (rdc_new _ _ _ rfl) (byte_one HK1.out _) (bytes1 _) (by have:=HN.out;simp;omega) (by have:=HN.out;simp[maxLen];omega) (le_alloc hbr.size _) ?_;intro v2 w2 hown2 hbl3 _ _))
   have HO3:=hid hown2;clear hown2
   go_roundw
   case rel=>
    refine⟨p,by omega,by go_num,?_,?_⟩
    ·have:=HO3.out
     rw[← HL.out,List.append_assoc,← HT.out] at this
     exact this
    ·exact(hbr.trans ((Below.refl _ _).alloc hbr.size _)).trans hbl3
   case measure=>simp[intOf]
theorem xor_ones(x:Nat)(h:x<18446744073709551616):x ^^^ 18446744073709551615=18446744073709551615-x:=by
 have h1:(BitVec.ofNat 64 x ^^^ BitVec.allOnes 64).toNat=x ^^^ 18446744073709551615:=by
  rw[BitVec.toNat_xor,BitVec.toNat_ofNat,BitVec.toNat_allOnes,Nat.mod_eq_of_lt (by omega)]
 rw[← h1,BitVec.xor_allOnes,BitVec.toNat_not,BitVec.toNat_ofNat,Nat.mod_eq_of_lt (by omega)]
theorem zig_neg(n:Int)(h:n<0)(hn:-9223372036854775808≤n):bits .xor .u64 (IntKind.u64.wrap (IntKind.u64.wrap n*2)) (IntKind.u64.wrap (n / 9223372036854775808))=(zig n:Nat):=by
 rw[IntKind.wrap_u64,IntKind.wrap_u64,IntKind.wrap_u64]
 obtain⟨x,hx⟩:=Int.eq_ofNat_of_zero_le (show 0≤n % 18446744073709551616*2 % 18446744073709551616 by omega)
 rw[hx,show n / 9223372036854775808 % 18446744073709551616=((18446744073709551615:Nat):Int) by omega,u64_xor_nat _ _ (by omega) (by omega),xor_ones _ (by omega)]
 unfold zig
 rw[if_pos h]
 omega
theorem zig_pos(n:Int)(h:¬n<0)(hn:n≤9223372036854775807):bits .xor .u64 (n*2) (n / 9223372036854775808)=(zig n:Nat):=by
 obtain⟨x,rfl⟩:=Int.eq_ofNat_of_zero_le (show 0≤n by omega)
 rw[show((x:Int)*2)=((x*2:Nat):Int) by omega,show((x:Int) / 9223372036854775808)=((0:Nat):Int) by omega,u64_xor_nat _ _ (by omega) (by omega),Nat.xor_zero]
 unfold zig
 rw[if_neg h]
 omega
theorem int_any(A:Option Addr)(b:Bytes)(m c:Nat)(n:Int)(hm:b.length=m)(hmc:m≤c)(hc:c≤maxLen)(hn:-9223372036854775808≤n)(hn':n≤9223372036854775807)(hb:m≤1000000)(w:World)(hs:Sl byteR 1 w.heap.size w A b) :
  Calls Tryz.prog 62 #[.slice A m c,.int .i64 n] w (RetB w (b++encN (zig n))):=by
 have hz:=zig_lt n hn hn'
 by_cases h:n<0
 ·have hk:=zig_neg n h hn
  have HK:=hid hk;clear hk
  go_enter Tryz.func62,Tryz.ntmps62
  go_wp2_with fail
  rw[HK.out]
  refine(put_any A b m c (zig n) hm hmc hc hz hb _ hs).mono ?_;rintro e w' ⟨v,rfl,hown,hbl⟩
  go_wp2_with fail
  go_ret
  exact⟨v,rfl,hown,hbl⟩
 ·have hk:=zig_pos n h hn'
  have HK:=hid hk;clear hk
  go_enter Tryz.func62,Tryz.ntmps62
  go_wp2_with fail
  rw[HK.out]
  refine(put_any A b m c (zig n) hm hmc hc hz hb _ hs).mono ?_;rintro e w' ⟨v,rfl,hown,hbl⟩
  go_wp2_with fail
  go_ret
  exact⟨v,rfl,hown,hbl⟩
abbrev sb(s:ByteArray):Bytes:=s.data.toList
theorem sb_length(s:ByteArray):(sb s).length=s.size:=by simp
theorem infoB:(Tryz.prog.info? 5).bind (·.zero)=some (.int .u8 0):=by kernel_rfl
theorem text_any(A:Option Addr)(b:Bytes)(m c:Nat)(s:ByteArray)(hm:b.length=m)(hmc:m≤c)(hc:c≤maxLen)(hs0:s.size≤1000000)(hb:m≤1000000)(w:World)(hs:Sl byteR 1 w.heap.size w A b) :
  Calls Tryz.prog 64 #[.slice A m c,.string s] w (RetB w (b++encT (sb s))):=by
 have hl:=encN_le s.size (by omega)
 go_enter Tryz.func64,Tryz.ntmps64
 go_wp2_with fail
 refine(put_any A b m c s.size hm hmc hc (by omega) hb _ hs).mono ?_;rintro e w1 ⟨v,rfl,hown,hbl⟩
 have hsz:=hbl.size
 have HO:=hid hown;clear hown
 have hlen:(b++encN s.size).length+s.size≤140737488355328:=by rw[List.length_append];omega
 have HL:=hid hlen;clear hlen
 go_wp2_with (first
  |(at_builtin;refine wpl_append_str rfl (.tmp 9) (.tmp 10) _ _ rfl tabB infoB Tryz.underlying9 _ (b++encN s.size) rfl HO.out s rfl HL.out hsz ?_;intro v2 w2 hown2 hbl2 _))
 go_ret
 refine⟨v2,rfl,?_,hbl.trans hbl2⟩
 rw[List.append_assoc] at hown2
 rw[encT,sb_length]
 exact hown2
theorem TRel.duo{c:Cx}{vs:Array Value}{x y:AV}(h:TRel c vs [x,y]):∃ u v,vs=#[u,v]∧RV c u x∧RV c v y:=by
 obtain⟨h1,h2⟩:=h
 obtain⟨vs⟩:=vs
 match vs,h1 with
 |[u,v],_=>exact⟨u,v,rfl,h2 0 u x rfl rfl,h2 1 v y rfl rfl⟩
theorem RV.strb{c:Cx}{v:Value}{s:Bytes}(h:RV c v (.str s)):∃ q:ByteArray,v=.string q∧sb q=s:=by
 cases h with
 |str q l h=>exact⟨q,rfl,h⟩
theorem sb_size(q:ByteArray):(sb q).length=q.size:=by unfold sb;rfl
theorem encN_pos(n:Nat):0<(encN n).length:=Nat.succ_pos _
theorem int_spec(b:Bytes)(n:Int)(hb:b.length≤1000000)(h1:I64 n):OSpec Tryz.prog 62 [bA b,.int .i64 n] 1 ((b++encN (zig n)).map bC):=by
 refine own_spec (by rw[List.length_append];have:=encN_pos (zig n);omega) ⟨_,Tryz.func62,by kernel_rfl,rfl⟩ fun c vs hh hc hr=>?_
 obtain⟨u,v,rfl,hu,hv⟩:=hr.duo
 obtain⟨A,cap,rfl,g1,g2,hs⟩:=hu.bytes
 cases hv
 unfold I64 at h1
 refine(int_any A b b.length cap n rfl g1 g2 (by omega) (by omega) hb c.w hs).mono ?_
 rintro e w' ⟨v,rfl,h,hb⟩
 exact⟨v,_,rfl,h,hb⟩
theorem text_spec(b s:Bytes)(hb:b.length≤1000000)(h1:s.length≤1000000):OSpec Tryz.prog 64 [bA b,.str s] 1 ((b++encT s).map bC):=by
 refine own_spec (by unfold encT;rw[List.length_append,List.length_append];have:=encN_pos s.length;omega) ⟨_,Tryz.func64,by kernel_rfl,rfl⟩ fun c vs hh hc hr=>?_
 obtain⟨u,v,rfl,hu,hv⟩:=hr.duo
 obtain⟨A,cap,rfl,g1,g2,hs⟩:=hu.bytes
 obtain⟨q,rfl,rfl⟩:=hv.strb
 rw[sb_size] at h1
 refine(text_any A b b.length cap q rfl g1 g2 h1 hb c.w hs).mono ?_
 rintro e w' ⟨v,rfl,h,hb⟩
 exact⟨v,_,rfl,h,hb⟩
def zRp:Rp:=⟨0,0,false,0,[],[]⟩
def enterA(a:Acp)(v:Int):AV:=if enterB a v then .tup [eC (enterF a v),encRp (tellF (enterF a v)),.bool true] else .tup [eC a,encRp zRp,.bool false]
theorem enter_spec(a:Acp)(v:Int):ASpec Tryz.prog 15 [eC a,.int .i64 v] (enterA a v):=by
 by_cases q1:v≤a.view
 case pos=>
  have e:enterA a v=.tup [eC a,encRp zRp,.bool false]:=by
   have:enterB a v=false:=by simp only[enterB,Bool.and_eq_false_iff,decide_eq_false_iff_not];omega
   simp[enterA,this]
  rw[e]
  unfold zRp
  refine⟨⟨_,Tryz.func15,by kernel_rfl,rfl⟩,Sg Tryz.func15 rfl fun c0 hc0=>?_⟩;simp only[go_sem,eC,pC,encRp,rpC,vA,q1,↓aT,↓bT,↓gV,Nat.reduceAdd,Nat.reduceLeDiff,Nat.reduceSub]
  (and_intros<;>try first|rfl|omega)
  (repeat' first|exact .refl _|apply LeR.tup|apply Le.agg|constructor)
 case neg=>
  by_cases q2:100000<v
  case pos=>
   have e:enterA a v=.tup [eC a,encRp zRp,.bool false]:=by
    have:enterB a v=false:=by simp only[enterB,Bool.and_eq_false_iff,decide_eq_false_iff_not];omega
    simp[enterA,this]
   rw[e]
   unfold zRp
   refine⟨⟨_,Tryz.func15,by kernel_rfl,rfl⟩,Sg Tryz.func15 rfl fun c0 hc0=>?_⟩;simp only[go_sem,eC,pC,encRp,rpC,vA,q1,q2,↓aT,↓bF,↓gF,Nat.reduceAdd,Nat.reduceLeDiff,Nat.reduceSub]
   (and_intros<;>try first|rfl|omega)
   (repeat' first|exact .refl _|apply LeR.tup|apply Le.agg|constructor)
  case neg=>
   have e:enterA a v=.tup [eC (enterF a v),encRp (tellF (enterF a v)),.bool true]:=by
    have:enterB a v=true:=by simp only[enterB,Vi,decide_eq_true_eq];omega
    simp[enterA,this]
   rw[e]
   have hT:=tell_spec (enterF a v)
   unfold enterF tellF at hT ⊢
   refine⟨⟨_,Tryz.func15,by kernel_rfl,rfl⟩,Sg Tryz.func15 rfl fun c0 hc0=>?_⟩;simp only[go_sem,eC,pC,encRp,rpC,vA,q1,q2,↓aF,↓bF,↓gF,Nat.reduceAdd,Nat.reduceLeDiff,Nat.reduceSub]
   (and_intros<;>try first|rfl|omega)
   refine DOps.pure rfl .free rfl rfl (hT) (by simp only[go_sem,eC,pC,vA];(repeat' first|exact .refl _|apply LeR.tup|apply Le.agg|constructor)) rfl rfl ?_
   refine Dg Tryz.func15 rfl ?_;simp only[go_sem,encRp,rpC,vA,Nat.reduceAdd]
   (and_intros<;>try first|rfl|omega)
   (repeat' first|exact .refl _|apply LeR.tup|apply Le.agg|constructor)
theorem lasts_spec(a:Acp)(hp:a.proof.length≤1000000):ASpec Tryz.prog 110 [eC a] (.bool (lastsB a)):=by
 have hR:=right19_spec a.s a.proof hp
 obtain⟨s,me,view,has,at_,value,proof,votes⟩:=a
 dsimp only at hR
 by_cases q1:view<0
 case pos=>
  have n1:¬(0≤view):=by omega
  have e:lastsB ⟨s,me,view,has,at_,value,proof,votes⟩=false:=by
   simp[lastsB,lastsV,n1]
  rw[e]
  refine⟨⟨_,Tryz.func110,by kernel_rfl,rfl⟩,Sg Tryz.func110 rfl fun c0 hc0=>?_⟩;simp only[go_sem,eC,pC,vA,q1,↓aT,↓bT,↓gV,Nat.reduceAdd,Nat.reduceLeDiff,Nat.reduceSub]
  (and_intros<;>try first|rfl|omega)
  exact Vr
 case neg=>
  have n1:0≤view:=by omega
  by_cases q2:100000<view
  case pos=>
   have n2:¬(view≤100000):=by omega
   have e:lastsB ⟨s,me,view,has,at_,value,proof,votes⟩=false:=by
    simp[lastsB,lastsV,n1,n2]
   rw[e]
   refine⟨⟨_,Tryz.func110,by kernel_rfl,rfl⟩,Sg Tryz.func110 rfl fun c0 hc0=>?_⟩;simp only[go_sem,eC,pC,vA,q1,q2,↓aT,↓bF,↓gF,Nat.reduceAdd,Nat.reduceLeDiff,Nat.reduceSub]
   (and_intros<;>try first|rfl|omega)
   exact Vr
  case neg=>
   have n2:view≤100000:=by omega
   cases has with
   |true=>
    by_cases q3:at_<0
    case pos=>
     have n3:¬(0≤at_):=by omega
     have e:lastsB ⟨s,me,view,true,at_,value,proof,votes⟩=false:=by
      simp[lastsB,lastsV,n1,n2,n3]
     rw[e]
     refine⟨⟨_,Tryz.func110,by kernel_rfl,rfl⟩,Sg Tryz.func110 rfl fun c0 hc0=>?_⟩;simp only[go_sem,eC,pC,vA,q1,q2,q3,↓aT,↓aF,↓bT,↓bF,↓gT,↓gV,↓gF,Nat.reduceAdd,Nat.reduceLeDiff,Nat.reduceSub]
     (and_intros<;>try first|rfl|omega)
     exact Vr
    case neg=>
     have n3:0≤at_:=by omega
     by_cases q4:view<at_
     case pos=>
      have n4:¬(at_≤view):=by omega
      have e:lastsB ⟨s,me,view,true,at_,value,proof,votes⟩=false:=by
       simp[lastsB,lastsV,n1,n2,n3,n4]
      rw[e]
      refine⟨⟨_,Tryz.func110,by kernel_rfl,rfl⟩,Sg Tryz.func110 rfl fun c0 hc0=>?_⟩;simp only[go_sem,eC,pC,vA,q1,q2,q3,q4,↓aT,↓aF,↓bT,↓bF,↓gT,↓gV,↓gF,Nat.reduceAdd,Nat.reduceLeDiff,Nat.reduceSub]
      (and_intros<;>try first|rfl|omega)
      exact Vr
     case neg=>
      have n4:at_≤view:=by omega
      by_cases q5:6000<(value.length:Int)
      case pos=>
       have n5:¬((value.length:Int)≤6000):=by omega
       have e:lastsB ⟨s,me,view,true,at_,value,proof,votes⟩=false:=by
        simp[lastsB,lastsV,n1,n2,n3,n4,n5]
       rw[e]
       refine⟨⟨_,Tryz.func110,by kernel_rfl,rfl⟩,Sg Tryz.func110 rfl fun c0 hc0=>?_⟩;simp only[go_sem,eC,pC,vA,q1,q2,q3,q4,q5,↓aT,↓aF,↓bT,↓bF,↓gT,↓gF,Nat.reduceAdd,Nat.reduceLeDiff,Nat.reduceSub]
       (and_intros<;>try first|rfl|omega)
       exact Vr
      case neg=>
       have n5:(value.length:Int)≤6000:=by omega
       have e:lastsB ⟨s,me,view,true,at_,value,proof,votes⟩=lastsP s view proof:=by
        simp[lastsB,lastsV,n1,n2,n3,n4,n5]
       rw[e]
       cases proof with
       |nil=>
        unfold lastsP
        refine⟨⟨_,Tryz.func110,by kernel_rfl,rfl⟩,Sg Tryz.func110 rfl fun c0 hc0=>?_⟩;simp only[go_sem,eC,pC,vA,q1,q2,q3,q4,q5,↓aF,↓bT,↓bF,↓gT,↓gW,↓gF,↓gdone_ft,Nat.reduceAdd,Nat.reduceLeDiff,Nat.reduceSub]
        (and_intros<;>try first|rfl|omega)
        exact Vr
       |cons x l=>
        have hl:¬((l.length+1:Nat):Int)=0:=by omega
        cases hr:rightP s (x::l) with
        |false=>
         rw[hr] at hR
         have e2:lastsP s view (x::l)=false:=by simp[lastsP,hr]
         rw[e2]
         refine⟨⟨_,Tryz.func110,by kernel_rfl,rfl⟩,Sg Tryz.func110 rfl fun c0 hc0=>?_⟩;simp only[go_sem,eC,pC,vA,q1,q2,q3,q4,q5,hl,↓aF,↓bT,↓bF,↓gT,↓gW,↓gF,↓gU,Nat.reduceAdd,Nat.reduceLeDiff,Nat.reduceSub]
         (and_intros<;>try first|rfl|omega)
         refine DOps.pure rfl (Wanted.test 4 false false rfl) rfl rfl (hR) Vl rfl rfl ?_
         refine Dg Tryz.func110 rfl ?_;simp only[go_sem,↓bF,↓gdone_tf,↓gU,Nat.reduceAdd]
         (and_intros<;>try first|rfl|omega)
         exact Vr
        |true=>
         rw[hr] at hR
         have e2:lastsP s view (x::l)=decide (x.view≤view):=by simp[lastsP,hr]
         rw[e2]
         refine⟨⟨_,Tryz.func110,by kernel_rfl,rfl⟩,Sg Tryz.func110 rfl fun c0 hc0=>?_⟩;simp only[go_sem,eC,pC,vA,q1,q2,q3,q4,q5,hl,↓aF,↓bT,↓bF,↓gT,↓gW,↓gF,↓gU,Nat.reduceAdd,Nat.reduceLeDiff,Nat.reduceSub]
         (and_intros<;>try first|rfl|omega)
         refine DOps.pure rfl (Wanted.test 4 false false rfl) rfl rfl (hR) Vl rfl rfl ?_
         refine Dg Tryz.func110 rfl ?_;simp only[go_sem,aC,↓bT,↓bF,↓gdone_tt,↓gU,Int.reduceLE,Nat.reduceAdd,Nat.reduceLeDiff,Nat.reduceLT,reduceCtorEq]
         (and_intros<;>try first|rfl|omega)
         exact Vr
   |false=>
    by_cases q3:at_=0
    case neg=>
     have e:lastsB ⟨s,me,view,false,at_,value,proof,votes⟩=false:=by
      simp[lastsB,lastsV,n1,n2,q3]
     rw[e]
     refine⟨⟨_,Tryz.func110,by kernel_rfl,rfl⟩,Sg Tryz.func110 rfl fun c0 hc0=>?_⟩;simp only[go_sem,eC,pC,vA,q1,q2,q3,↓aT,↓aF,↓bT,↓bF,↓gT,↓gW,↓gV,↓gF,Nat.reduceAdd,Nat.reduceLeDiff,Nat.reduceSub]
     (and_intros<;>try first|rfl|omega)
     exact Vr
    case pos=>
     subst q3
     by_cases q4:value=[]
     case neg=>
      have e:lastsB ⟨s,me,view,false,0,value,proof,votes⟩=false:=by
       simp[lastsB,lastsV,n1,n2,q4]
      rw[e]
      refine⟨⟨_,Tryz.func110,by kernel_rfl,rfl⟩,Sg Tryz.func110 rfl fun c0 hc0=>?_⟩;simp only[go_sem,eC,pC,vA,q1,q2,q4,↓aT,↓aF,↓bT,↓bF,↓gT,↓gW,↓gF,Nat.reduceAdd,Nat.reduceLeDiff,Nat.reduceSub]
      (and_intros<;>try first|rfl|omega)
      exact Vr
     case pos=>
      subst q4
      have e:lastsB ⟨s,me,view,false,0,[],proof,votes⟩=lastsP s view proof:=by
       simp[lastsB,lastsV,n1,n2]
      rw[e]
      cases proof with
      |nil=>
       unfold lastsP
       refine⟨⟨_,Tryz.func110,by kernel_rfl,rfl⟩,Sg Tryz.func110 rfl fun c0 hc0=>?_⟩;simp only[go_sem,eC,pC,vA,q1,q2,↓aF,↓bT,↓bF,↓gT,↓gW,↓gF,↓gdone_ft,Nat.reduceAdd,Nat.reduceLeDiff,Nat.reduceSub]
       (and_intros<;>try first|rfl|omega)
       exact Vr
      |cons x l=>
       have hl:¬((l.length+1:Nat):Int)=0:=by omega
       cases hr:rightP s (x::l) with
       |false=>
        rw[hr] at hR
        have e2:lastsP s view (x::l)=false:=by simp[lastsP,hr]
        rw[e2]
        refine⟨⟨_,Tryz.func110,by kernel_rfl,rfl⟩,Sg Tryz.func110 rfl fun c0 hc0=>?_⟩;simp only[go_sem,eC,pC,vA,q1,q2,hl,↓aF,↓bT,↓bF,↓gT,↓gW,↓gF,↓gU,Nat.reduceAdd,Nat.reduceLeDiff,Nat.reduceSub]
        (and_intros<;>try first|rfl|omega)
        refine DOps.pure rfl (Wanted.test 4 false false rfl) rfl rfl (hR) Vl rfl rfl ?_
        refine Dg Tryz.func110 rfl ?_;simp only[go_sem,↓bF,↓gdone_tf,↓gU,Nat.reduceAdd]
        (and_intros<;>try first|rfl|omega)
        exact Vr
       |true=>
        rw[hr] at hR
        have e2:lastsP s view (x::l)=decide (x.view≤view):=by simp[lastsP,hr]
        rw[e2]
        refine⟨⟨_,Tryz.func110,by kernel_rfl,rfl⟩,Sg Tryz.func110 rfl fun c0 hc0=>?_⟩;simp only[go_sem,eC,pC,vA,q1,q2,hl,↓aF,↓bT,↓bF,↓gT,↓gW,↓gF,↓gU,Nat.reduceAdd,Nat.reduceLeDiff,Nat.reduceSub]
        (and_intros<;>try first|rfl|omega)
        refine DOps.pure rfl (Wanted.test 4 false false rfl) rfl rfl (hR) Vl rfl rfl ?_
        refine Dg Tryz.func110 rfl ?_;simp only[go_sem,aC,↓bT,↓bF,↓gdone_tt,↓gU,Int.reduceLE,Nat.reduceAdd,Nat.reduceLeDiff,Nat.reduceLT,reduceCtorEq]
        (and_intros<;>try first|rfl|omega)
        exact Vr
def propA(a:Acp)(v:Int)(x:Bts)(cert:List Rp):AV:=if propB a v x cert then .tup [eC (propF a v x),eA ⟨a.me,v,x⟩,.bool true] else .tup [eC a,eA ⟨0,0,[]⟩,.bool false]
theorem propose_spec(a:Acp)(v:Int)(x:Bts)(cert:List Rp)(hc:smL cert):ASpec Tryz.prog 17 [eC a,.int .i64 v,.str x,rpsA cert] (propA a v x cert):=by
 have hV:=vouches_spec a.s v cert x hc
 obtain⟨s,me,view,has,at_,value,proof,votes⟩:=a
 dsimp only at hV
 by_cases q1:v=view
 case neg=>
  have e:propA ⟨s,me,view,has,at_,value,proof,votes⟩ v x cert=.tup [eC ⟨s,me,view,has,at_,value,proof,votes⟩,eA ⟨0,0,[]⟩,.bool false]:=by
   simp[propA,propB,q1]
  rw[e]
  refine⟨⟨_,Tryz.func17,by kernel_rfl,rfl⟩,Sg Tryz.func17 rfl fun c0 hc0=>?_⟩;simp only[go_sem,eC,pC,vA,eA,aC,rpsA,q1,↓aT,↓bT,↓gV,Nat.reduceAdd,Nat.reduceLeDiff,Nat.reduceSub]
  (and_intros<;>try first|rfl|omega)
  exact Vr
 case pos=>
  subst q1
  cases has with
  |true=>
   by_cases q4:at_=v
   case pos=>
    have e:propA ⟨s,me,v,true,at_,value,proof,votes⟩ v x cert=.tup [eC ⟨s,me,v,true,at_,value,proof,votes⟩,eA ⟨0,0,[]⟩,.bool false]:=by
     simp[propA,propB,q4]
    rw[e]
    refine⟨⟨_,Tryz.func17,by kernel_rfl,rfl⟩,Sg Tryz.func17 rfl fun c0 hc0=>?_⟩;simp only[go_sem,eC,pC,vA,eA,aC,rpsA,q4,↓aT,↓bT,↓bF,↓gT,↓gV,↓gF,Nat.reduceAdd,Nat.reduceLeDiff,Nat.reduceSub]
    (and_intros<;>try first|rfl|omega)
    exact Vr
   case neg=>
    by_cases q5:6000<(x.length:Int)
    case pos=>
     have n5:¬((x.length:Int)≤6000):=by omega
     have e:propA ⟨s,me,v,true,at_,value,proof,votes⟩ v x cert=.tup [eC ⟨s,me,v,true,at_,value,proof,votes⟩,eA ⟨0,0,[]⟩,.bool false]:=by
      simp[propA,propB,q4,n5]
     rw[e]
     refine⟨⟨_,Tryz.func17,by kernel_rfl,rfl⟩,Sg Tryz.func17 rfl fun c0 hc0=>?_⟩;simp only[go_sem,eC,pC,vA,eA,aC,rpsA,q4,q5,↓aT,↓bT,↓bF,↓gT,↓gF,Nat.reduceAdd,Nat.reduceLeDiff,Nat.reduceSub]
     (and_intros<;>try first|rfl|omega)
     exact Vr
    case neg=>
     have n5:(x.length:Int)≤6000:=by omega
     by_cases q6:v=0
     case neg=>
      cases hv:vouches s v cert x with
      |false=>
       rw[hv] at hV
       have e:propA ⟨s,me,v,true,at_,value,proof,votes⟩ v x cert=.tup [eC ⟨s,me,v,true,at_,value,proof,votes⟩,eA ⟨0,0,[]⟩,.bool false]:=by
        simp[propA,propB,q4,n5,q6,hv]
       rw[e]
       refine⟨⟨_,Tryz.func17,by kernel_rfl,rfl⟩,Sg Tryz.func17 rfl fun c0 hc0=>?_⟩;simp only[go_sem,eC,pC,vA,eA,aC,rpsA,q4,q5,q6,↓aF,↓bT,↓bF,↓gT,↓gW,↓gF,Nat.reduceAdd,Nat.reduceLeDiff,Nat.reduceSub]
       (and_intros<;>try first|rfl|omega)
       refine Ops.pure .free rfl rfl (hV) Vl rfl rfl ?_
       refine Og Tryz.func17 ?_;simp only[go_sem,↓aT,Nat.reduceAdd]
       (and_intros<;>try first|rfl|omega)
       exact Vr
      |true=>
       rw[hv] at hV
       have e:propA ⟨s,me,v,true,at_,value,proof,votes⟩ v x cert=.tup [eC ⟨s,me,v,true,v,x,proof,votes⟩,eA ⟨me,v,x⟩,.bool true]:=by
        simp[propA,propB,propF,q4,n5,q6,hv]
       rw[e]
       refine⟨⟨_,Tryz.func17,by kernel_rfl,rfl⟩,Sg Tryz.func17 rfl fun c0 hc0=>?_⟩;simp only[go_sem,eC,pC,vA,eA,aC,rpsA,q4,q5,q6,↓aF,↓bT,↓bF,↓gT,↓gW,↓gF,Nat.reduceAdd,Nat.reduceLeDiff,Nat.reduceSub]
       (and_intros<;>try first|rfl|omega)
       refine Ops.pure .free rfl rfl (hV) Vl rfl rfl ?_
       refine Og Tryz.func17 ?_;simp only[go_sem,↓aF,Nat.reduceAdd,Nat.reduceLeDiff]
       (and_intros<;>try first|rfl|omega)
       exact Vr
     case pos=>
      subst q6
      cases cert with
      |nil=>
       have e:propA ⟨s,me,0,true,at_,value,proof,votes⟩ 0 x []=.tup [eC ⟨s,me,0,true,0,x,proof,votes⟩,eA ⟨me,0,x⟩,.bool true]:=by
        simp[propA,propB,propF,q4,n5]
       rw[e]
       refine⟨⟨_,Tryz.func17,by kernel_rfl,rfl⟩,Sg Tryz.func17 rfl fun c0 hc0=>?_⟩;simp only[go_sem,eC,pC,vA,eA,aC,rpsA,q4,q5,↓aT,↓aF,↓bT,↓bF,↓gT,↓gF,Nat.reduceAdd,Nat.reduceLeDiff,Nat.reduceSub]
       (and_intros<;>try first|rfl|omega)
       exact Vr
      |cons r l=>
       have hl:¬((l.length+1:Nat):Int)=0:=by omega
       cases hv:vouches s 0 (r::l) x with
       |false=>
        rw[hv] at hV
        have e:propA ⟨s,me,0,true,at_,value,proof,votes⟩ 0 x (r::l)=.tup [eC ⟨s,me,0,true,at_,value,proof,votes⟩,eA ⟨0,0,[]⟩,.bool false]:=by
         simp[propA,propB,q4,n5,hv]
        rw[e]
        refine⟨⟨_,Tryz.func17,by kernel_rfl,rfl⟩,Sg Tryz.func17 rfl fun c0 hc0=>?_⟩;simp only[go_sem,eC,pC,vA,eA,aC,rpsA,q4,q5,hl,↓aF,↓bT,↓bF,↓gT,↓gF,Nat.reduceAdd,Nat.reduceLeDiff,Nat.reduceSub]
        (and_intros<;>try first|rfl|omega)
        refine Ops.pure .free rfl rfl (hV) Vl rfl rfl ?_
        refine Og Tryz.func17 ?_;simp only[go_sem,↓aT,Nat.reduceAdd]
        (and_intros<;>try first|rfl|omega)
        exact Vr
       |true=>
        rw[hv] at hV
        have e:propA ⟨s,me,0,true,at_,value,proof,votes⟩ 0 x (r::l)=.tup [eC ⟨s,me,0,true,0,x,proof,votes⟩,eA ⟨me,0,x⟩,.bool true]:=by
         simp[propA,propB,propF,q4,n5,hv]
        rw[e]
        refine⟨⟨_,Tryz.func17,by kernel_rfl,rfl⟩,Sg Tryz.func17 rfl fun c0 hc0=>?_⟩;simp only[go_sem,eC,pC,vA,eA,aC,rpsA,q4,q5,hl,↓aF,↓bT,↓bF,↓gT,↓gF,Nat.reduceAdd,Nat.reduceLeDiff,Nat.reduceSub]
        (and_intros<;>try first|rfl|omega)
        refine Ops.pure .free rfl rfl (hV) Vl rfl rfl ?_
        refine Og Tryz.func17 ?_;simp only[go_sem,↓aF,Nat.reduceAdd,Nat.reduceLeDiff]
        (and_intros<;>try first|rfl|omega)
        exact Vr
  |false=>
   by_cases q5:6000<(x.length:Int)
   case pos=>
    have n5:¬((x.length:Int)≤6000):=by omega
    have e:propA ⟨s,me,v,false,at_,value,proof,votes⟩ v x cert=.tup [eC ⟨s,me,v,false,at_,value,proof,votes⟩,eA ⟨0,0,[]⟩,.bool false]:=by
     simp[propA,propB,n5]
    rw[e]
    refine⟨⟨_,Tryz.func17,by kernel_rfl,rfl⟩,Sg Tryz.func17 rfl fun c0 hc0=>?_⟩;simp only[go_sem,eC,pC,vA,eA,aC,rpsA,q5,↓aT,↓bF,↓gW,↓gF,Nat.reduceAdd,Nat.reduceLeDiff,Nat.reduceSub]
    (and_intros<;>try first|rfl|omega)
    exact Vr
   case neg=>
    have n5:(x.length:Int)≤6000:=by omega
    by_cases q6:v=0
    case neg=>
     cases hv:vouches s v cert x with
     |false=>
      rw[hv] at hV
      have e:propA ⟨s,me,v,false,at_,value,proof,votes⟩ v x cert=.tup [eC ⟨s,me,v,false,at_,value,proof,votes⟩,eA ⟨0,0,[]⟩,.bool false]:=by
       simp[propA,propB,n5,q6,hv]
      rw[e]
      refine⟨⟨_,Tryz.func17,by kernel_rfl,rfl⟩,Sg Tryz.func17 rfl fun c0 hc0=>?_⟩;simp only[go_sem,eC,pC,vA,eA,aC,rpsA,q5,q6,↓aF,↓bF,↓gW,↓gF,Nat.reduceAdd,Nat.reduceLeDiff,Nat.reduceSub]
      (and_intros<;>try first|rfl|omega)
      refine Ops.pure .free rfl rfl (hV) Vl rfl rfl ?_
      refine Og Tryz.func17 ?_;simp only[go_sem,↓aT,Nat.reduceAdd]
      (and_intros<;>try first|rfl|omega)
      exact Vr
     |true=>
      rw[hv] at hV
      have e:propA ⟨s,me,v,false,at_,value,proof,votes⟩ v x cert=.tup [eC ⟨s,me,v,true,v,x,proof,votes⟩,eA ⟨me,v,x⟩,.bool true]:=by
       simp[propA,propB,propF,n5,q6,hv]
      rw[e]
      refine⟨⟨_,Tryz.func17,by kernel_rfl,rfl⟩,Sg Tryz.func17 rfl fun c0 hc0=>?_⟩;simp only[go_sem,eC,pC,vA,eA,aC,rpsA,q5,q6,↓aF,↓bF,↓gW,↓gF,Nat.reduceAdd,Nat.reduceLeDiff,Nat.reduceSub]
      (and_intros<;>try first|rfl|omega)
      refine Ops.pure .free rfl rfl (hV) Vl rfl rfl ?_
      refine Og Tryz.func17 ?_;simp only[go_sem,↓aF,Nat.reduceAdd,Nat.reduceLeDiff]
      (and_intros<;>try first|rfl|omega)
      exact Vr
    case pos=>
     subst q6
     cases cert with
     |nil=>
      have e:propA ⟨s,me,0,false,at_,value,proof,votes⟩ 0 x []=.tup [eC ⟨s,me,0,true,0,x,proof,votes⟩,eA ⟨me,0,x⟩,.bool true]:=by
       simp[propA,propB,propF,n5]
      rw[e]
      refine⟨⟨_,Tryz.func17,by kernel_rfl,rfl⟩,Sg Tryz.func17 rfl fun c0 hc0=>?_⟩;simp only[go_sem,eC,pC,vA,eA,aC,rpsA,q5,↓aT,↓aF,↓bT,↓bF,↓gT,↓gW,↓gF,Nat.reduceAdd,Nat.reduceLeDiff,Nat.reduceSub]
      (and_intros<;>try first|rfl|omega)
      exact Vr
     |cons r l=>
      have hl:¬((l.length+1:Nat):Int)=0:=by omega
      cases hv:vouches s 0 (r::l) x with
      |false=>
       rw[hv] at hV
       have e:propA ⟨s,me,0,false,at_,value,proof,votes⟩ 0 x (r::l)=.tup [eC ⟨s,me,0,false,at_,value,proof,votes⟩,eA ⟨0,0,[]⟩,.bool false]:=by
        simp[propA,propB,n5,hv]
       rw[e]
       refine⟨⟨_,Tryz.func17,by kernel_rfl,rfl⟩,Sg Tryz.func17 rfl fun c0 hc0=>?_⟩;simp only[go_sem,eC,pC,vA,eA,aC,rpsA,q5,hl,↓aF,↓bT,↓bF,↓gT,↓gW,↓gF,Nat.reduceAdd,Nat.reduceLeDiff,Nat.reduceSub]
       (and_intros<;>try first|rfl|omega)
       refine Ops.pure .free rfl rfl (hV) Vl rfl rfl ?_
       refine Og Tryz.func17 ?_;simp only[go_sem,↓aT,Nat.reduceAdd]
       (and_intros<;>try first|rfl|omega)
       exact Vr
      |true=>
       rw[hv] at hV
       have e:propA ⟨s,me,0,false,at_,value,proof,votes⟩ 0 x (r::l)=.tup [eC ⟨s,me,0,true,0,x,proof,votes⟩,eA ⟨me,0,x⟩,.bool true]:=by
        simp[propA,propB,propF,n5,hv]
       rw[e]
       refine⟨⟨_,Tryz.func17,by kernel_rfl,rfl⟩,Sg Tryz.func17 rfl fun c0 hc0=>?_⟩;simp only[go_sem,eC,pC,vA,eA,aC,rpsA,q5,hl,↓aF,↓bT,↓bF,↓gT,↓gW,↓gF,Nat.reduceAdd,Nat.reduceLeDiff,Nat.reduceSub]
       (and_intros<;>try first|rfl|omega)
       refine Ops.pure .free rfl rfl (hV) Vl rfl rfl ?_
       refine Og Tryz.func17 ?_;simp only[go_sem,↓aF,Nat.reduceAdd,Nat.reduceLeDiff]
       (and_intros<;>try first|rfl|omega)
       exact Vr
theorem OSpec.asp{P:Program}{f:FuncId}{args:List AV}{k:Nat}{l:List (List AV)}(h:OSpec P f args k l):ASpec P f args (.sl k l .no):=⟨h.fn,h.run.mono fun r h' ⟨i,e,_⟩=>by rw[e];exact .one (.one (.tok _ _ _))⟩
theorem aint_spec(b:Bytes)(n:Int)(hb:b.length≤1000000)(h1:I64 n):ASpec Tryz.prog 62 [bA b,.int .i64 n] (bA (b++encN (zig n))):=(int_spec b n hb h1).asp
theorem atext_spec(b s:Bytes)(hb:b.length≤1000000)(h1:s.length≤1000000):ASpec Tryz.prog 64 [bA b,.str s] (bA (b++encT s)):=(text_spec b s hb h1).asp
theorem i64s{n:Int}(h0:0≤n)(h1:n≤1000000000):I64 n:=by unfold I64;omega
theorem acptext_spec(a:Acp)(h:Parts a):ASpec Tryz.prog 23 [eC a] (bA (tF a)):=by
 have hhl:=headF_le h
 have hpl:a.proof.length≤100:=by
  rcases h.prf with e|⟨v,x,e⟩
  ·rw[e];simp
  ·exact e.few
 have hby:∀ y∈a.proof,0≤y.by_∧y.by_≤100:=by
  rcases h.prf with e|⟨v,x,e⟩
  ·rw[e];simp
  ·exact fun y hy=>(e.each y hy).2.2
 have hbl:=encBys_le a.proof hby
 have hfs:=flagI_sm a.has
 have e1:=aint_spec [] a.view (by simp) (i64s h.v0 (by have:=h.v1;omega))
 have e2:=flag_spec a.has
 obtain⟨B1,hB1⟩:∃ B,B=[]++encN (zig a.view):=⟨_,rfl⟩
 rw[← hB1] at e1
 have l1:B1.length≤9:=by rw[hB1];simpa using encZ_le a.view (by have:=h.v0;omega) (by have:=h.v1;omega)
 have e3:=aint_spec B1 (flagI a.has) (by omega) (i64s hfs.1 (by omega))
 obtain⟨B2,hB2⟩:∃ B,B=B1++encN (zig (flagI a.has)):=⟨_,rfl⟩
 rw[← hB2] at e3
 have l2:B2.length≤18:=by
  have:=encZ_le (flagI a.has) (by omega) (by omega)
  rw[hB2,List.length_append];omega
 have e4:=aint_spec B2 a.at_ (by omega) (i64s h.a0 (by have:=h.a1;omega))
 obtain⟨B3,hB3⟩:∃ B,B=B2++encN (zig a.at_):=⟨_,rfl⟩
 rw[← hB3] at e4
 have l3:B3.length≤27:=by
  have:=encZ_le a.at_ (by have:=h.a0;omega) (by have:=h.a1;omega)
  rw[hB3,List.length_append];omega
 have e5:=atext_spec B3 a.value (by omega) (by have:=h.xl;omega)
 obtain⟨B4,hB4⟩:∃ B,B=B3++encT a.value:=⟨_,rfl⟩
 rw[← hB4] at e5
 have l4:B4.length≤6100:=by
  have:=encT_le6 a.value h.xl
  rw[hB4,List.length_append];omega
 have e6:=aint_spec B4 (a.proof.length:Int) (by omega) (i64s (by omega) (by omega))
 have hB5:B4++encN (zig a.proof.length)=headF a:=by
  rw[hB4,hB3,hB2,hB1];simp[headF]
 rw[hB5] at e6
 have hof:=of_spec a.proof
 have htx:tF a=(headF a++encBys a.proof)++tailF a.proof:=by rw[textF_eq,List.append_assoc]
 have hpr:=h.prf
 rw[htx]
 obtain⟨H,hH⟩:∃ H,H=headF a:=⟨_,rfl⟩
 rw[← hH] at e6 hhl ⊢
 obtain⟨s,me,view,has,at_,value,proof,votes⟩:=a
 dsimp only at *
 refine⟨⟨_,Tryz.func23,by kernel_rfl,rfl⟩,Sg Tryz.func23 rfl fun c0 hc0=>?_⟩;simp only[go_sem,eC,pC,vA,Nat.reduceAdd,Nat.reduceLeDiff,Nat.reduceSub]
 (and_intros<;>try first|rfl|omega)
 refine DOps.pure rfl .free rfl rfl (e1) (by simp only[go_sem,bA];(repeat' first|exact .refl _|apply LeR.tup|apply Le.agg|constructor)) rfl rfl ?_
 refine Dg Tryz.func23 rfl ?_;simp only[go_sem,Nat.reduceAdd,Nat.reduceLeDiff]
 (and_intros<;>try first|rfl|omega)
 refine DOps.pure rfl .free rfl rfl (e2) Vl rfl rfl ?_
 refine Dg Tryz.func23 rfl ?_;simp only[go_sem,Nat.reduceAdd]
 (and_intros<;>try first|rfl|omega)
 refine DOps.pure rfl .free rfl rfl (e3) Vl rfl rfl ?_
 refine Dg Tryz.func23 rfl ?_;simp only[go_sem,Nat.reduceAdd,Nat.reduceLeDiff]
 (and_intros<;>try first|rfl|omega)
 refine DOps.pure rfl .free rfl rfl (e4) Vl rfl rfl ?_
 refine Dg Tryz.func23 rfl ?_;simp only[go_sem,Nat.reduceAdd,Nat.reduceLeDiff]
 (and_intros<;>try first|rfl|omega)
 refine DOps.pure rfl .free rfl rfl (e5) Vl rfl rfl ?_
 refine Dg Tryz.func23 rfl ?_;simp only[go_sem,Nat.reduceAdd,Nat.reduceLeDiff]
 (and_intros<;>try first|rfl|omega)
 refine DOps.pure rfl .free rfl rfl (e6) Vl rfl rfl ?_
 refine Dg Tryz.func23 rfl ?_;simp only[go_sem,Nat.reduceAdd,Nat.reduceLeDiff]
 (and_intros<;>try first|rfl|omega)
 refine Run.loopV (α:=Nat) (fun k=>k≤proof.length) (fun k=>[(3,bA (H++encBys (proof.take k))),(30,.int .i64 k)]) 1 (fun _=>[]) (fun k=>proof.length-k) 0 (Nat.zero_le _) ?_ ?_
 ·simp only[go_sem,writes,junks,puts,hputs,List.filterMap_cons,List.filterMap_nil,encBys,bA,List.flatten_nil]
  (refine Weak.of (by simp[hc0]) ?_ ?_<;>(repeat' first|exact .refl _|exact .junk _|exact .nil _|exact .tok _ _ _|rfl|apply LeB.same|apply LeB.box|apply Le.agg|apply Le.one|constructor))
 intro k hk0 ih
 simp only[writes,junks,puts,hputs,List.filterMap_cons,List.filterMap_nil,Y6,Y7,Yg,Yj,Y5,Y3,Yd] at ih ⊢
 by_cases hk:k<proof.length
 case pos=>
  obtain⟨x,hx⟩:∃ x,proof[k]? = some x:=⟨_,Vb hk⟩
  have hkk:(k:Int)<proof.length:=by omega
  have hbx:=hby x (Vd hx)
  have hbt:=encBys_le (proof.take k) fun y hy=>hby y (List.mem_of_mem_take hy)
  have hlt:(proof.take k).length≤100:=by rw[List.length_take];omega
  have e7:=aint_spec (H++encBys (proof.take k)) x.by_ (by rw[List.length_append];omega) (i64s hbx.1 (by omega))
  rw[List.append_assoc,← encBys_snoc hx] at e7
  obtain⟨C,hC⟩:∃ C,C=H++encBys (proof.take k):=⟨_,rfl⟩
  rw[← hC] at e7
  rw[← hC]
  refine Rg Tryz.func23 ?_;simp only[go_sem,hx,hkk,aC,Vg,↓aT,Nat.reduceAdd,Nat.reduceLeDiff,Nat.reduceLT]
  (and_intros<;>try first|rfl|omega)
  refine Ops.pure .free rfl rfl (e7) Vl rfl rfl ?_
  refine Og Tryz.func23 ?_;simp only[go_sem]
  (and_intros<;>try first|rfl|omega)
  refine ih (k+1) _ (by omega) (by omega) ?_
  simp only[Int.natCast_add,Int.natCast_one]
  (refine Weak.of (by simp[hc0]) ?_ ?_<;>(repeat' first|exact .refl _|exact .junk _|exact .nil _|exact .tok _ _ _|rfl|apply LeB.same|apply LeB.box|apply Le.agg|apply Le.one|constructor))
 case neg=>
  obtain rfl:k=proof.length:=by omega
  have hkk:¬(proof.length:Int)<proof.length:=by omega
  rw[List.take_length]
  obtain⟨C,hC⟩:∃ C,C=H++encBys proof:=⟨_,rfl⟩
  have hCl:C.length≤8000:=by rw[hC,List.length_append];omega
  rw[← hC]
  match proof,hof,hpr with
  |[],hof,hpr=>
   simp only[ofA] at hof
   simp only[tailF,Yd]
   refine Rg Tryz.func23 ?_;simp only[go_sem,↓aF,Int.reduceLT,Nat.reduceAdd,Nat.reduceLeDiff]
   (and_intros<;>try first|rfl|omega)
   refine Ops.pure .free rfl rfl (hof) Vl rfl rfl ?_
   refine Og Tryz.func23 ?_;simp only[go_sem,↓aF,Int.reduceNeg]
   (and_intros<;>try first|rfl|omega)
   exact Vr
  |y::l,hof,hpr=>
   simp only[ofA] at hof
   rcases hpr with e|⟨v,x,e⟩
   ·cases e
   ·obtain⟨q1,q2,_,_⟩:=e.each y List.mem_cons_self
    have hvb:0≤y.view∧y.view≤100000:=by rw[q1];exact⟨e.v0,e.v1⟩
    have hxb:y.value.length≤6000:=by rw[q2];exact e.xl
    have e8:=aint_spec C y.view (by omega) (i64s hvb.1 (by omega))
    have hvl:=encZ_le y.view (by omega) (by omega)
    have e9:=atext_spec (C++encN (zig y.view)) y.value (by rw[List.length_append];omega) (by omega)
    simp only[tailF]
    rw[← List.append_assoc]
    refine Rg Tryz.func23 ?_;simp only[go_sem,Int.lt_irrefl,↓aF,Nat.reduceAdd,Nat.reduceLeDiff]
    (and_intros<;>try first|rfl|omega)
    refine Ops.pure .free rfl rfl (hof) Vl rfl rfl ?_
    refine Og Tryz.func23 ?_;simp only[go_sem,↓aT,Nat.reduceAdd]
    (and_intros<;>try first|rfl|omega)
    refine Ops.pure .free rfl rfl (e8) Vl rfl rfl ?_
    refine Og Tryz.func23 ?_;simp only[go_sem,Nat.reduceAdd]
    (and_intros<;>try first|rfl|omega)
    refine Ops.pure .free rfl rfl (e9) Vl rfl rfl ?_
    refine Og Tryz.func23 ?_;simp only[go_sem]
    (and_intros<;>try first|rfl|omega)
    exact Vr
def tkB(b:Bytes):ABlk:=.box [bA b,.int .i64 0]
theorem tkB_lent(b:Bytes):LentB (tkB b):=.inl ⟨_,rfl,rfl⟩
theorem lent1{x:ABlk}(h:LentB x):∀ y∈[x],LentB y:=fun y hy=>by simp at hy;subst hy;exact h
theorem tkint(n:Int)(h:I64 n)(r:Bytes):BSpec Tryz.prog 107 [.ptr 0 0] [tkB (encN (zig n)++r)] [tkB r] (.int .i64 n):=by
 have hi:=takeint_spec (encN (zig n)++r)
 rw[takeZ_enc n h.1 h.2 r] at hi
 simp only[takeZA] at hi
 obtain⟨B,hB⟩:∃ B,B=encN (zig n)++r:=⟨_,rfl⟩
 rw[← hB] at hi ⊢
 refine⟨⟨_,Tryz.func107,by kernel_rfl,rfl⟩,Sg Tryz.func107 rfl fun c0 hc0=>?_⟩;simp only[go_sem,tkB,bA,↓aT,Nat.reduceAdd,Nat.reduceLeDiff,Nat.reduceSub]
 refine Ops.pure .free rfl rfl (hi) Vl rfl rfl ?_
 refine Og Tryz.func107 ?_;simp only[go_sem,bA,Nat.reduceAdd,Nat.reduceLeDiff]
 (and_intros<;>try first|rfl|omega)
 all_goals (first|omega|(repeat'(first|exact WkH.nil _|exact LeR.one (Le.refl _)|exact LeR.one (Le.nil _)|exact LeR.one (.one (Le1.nil _))|exact LeL.nil|apply LeR.tup|exact Le.refl _|exact Le1.refl _|exact Le1.nil _|exact Le1L.nil|exact Le1.tok _ _ _|rfl|apply WkH.cons|apply LeB.box|apply Le1L.cons|apply Le.one|apply LeR.one)))
theorem tktext(x r:Bytes)(h:x.length≤6000)(hl:(encT x++r).length≤1000000):BSpec Tryz.prog 108 [.ptr 0 0] [tkB (encT x++r)] [tkB r] (.str x):=by
 have hi:=taketext_spec (encT x++r) 6000 hl (by omega)
 rw[takeT_enc x 6000 (by omega) (by omega) r] at hi
 simp only[takeTA] at hi
 obtain⟨B,hB⟩:∃ B,B=encT x++r:=⟨_,rfl⟩
 rw[← hB] at hi ⊢
 refine⟨⟨_,Tryz.func108,by kernel_rfl,rfl⟩,Sg Tryz.func108 rfl fun c0 hc0=>?_⟩;simp only[go_sem,tkB,bA,↓aT,Nat.reduceAdd,Nat.reduceLeDiff,Nat.reduceSub]
 refine Ops.pure .free rfl rfl (hi) Vl rfl rfl ?_
 refine Og Tryz.func108 ?_;simp only[go_sem,bA,Nat.reduceAdd,Nat.reduceLeDiff]
 (and_intros<;>try first|rfl|omega)
 all_goals (first|omega|(repeat'(first|exact WkH.nil _|exact LeR.one (Le.refl _)|exact LeR.one (Le.nil _)|exact LeR.one (.one (Le1.nil _))|exact LeL.nil|apply LeR.tup|exact Le.refl _|exact Le1.refl _|exact Le1.nil _|exact Le1L.nil|exact Le1.tok _ _ _|rfl|apply WkH.cons|apply LeB.box|apply Le1L.cons|apply Le.one|apply LeR.one)))
def byC(a:Acc):List AV:=[.int .i64 a.by_,.int .i64 0,.str []]
def rowsK(p:List Acc)(k:Nat):List (List AV):=(p.take k).map byC++List.replicate (p.length-k) [.int .i64 0,.int .i64 0,.str []]
def rowsM(p:List Acc)(k:Nat):List (List AV):=(p.take k).map aC++(p.drop k).map byC
theorem set_mid{α:Type}(A B:List α)(z y:α)(k:Nat)(h:A.length=k):(A++z::B).set k y=A++y::B∧(A++z::B)[k]? = some z:=by
 subst h
 constructor<;>simp
theorem rowsK_at{p:List Acc}{k:Nat}{x:Acc}(hx:p[k]? = some x):(rowsK p k)[k]? = some [.int .i64 0,.int .i64 0,.str []]∧(rowsK p k).set k (byC x)=rowsK p (k+1):=by
 have hk:=(Va hx).1
 have e:rowsK p k=(p.take k).map byC++[.int .i64 0,.int .i64 0,.str []]::List.replicate (p.length-(k+1)) [.int .i64 0,.int .i64 0,.str []]:=by
  unfold rowsK
  rw[show p.length-k=(p.length-(k+1))+1 by omega,List.replicate_succ]
 have h2:=set_mid ((p.take k).map byC) (List.replicate (p.length-(k+1)) [AV.int .i64 0,.int .i64 0,.str []]) [.int .i64 0,.int .i64 0,.str []] (byC x) k (by simp;omega)
 rw[e]
 refine⟨h2.2,h2.1.trans ?_⟩
 unfold rowsK
 rw[List.take_add_one,hx]
 simp
theorem rowsK_len{p:List Acc}{k:Nat}(h:k≤p.length):(rowsK p k).length=p.length:=by simp[rowsK];omega
theorem rowsM_at{p:List Acc}{k:Nat}{x:Acc}(hx:p[k]? = some x):(rowsM p k)[k]? = some (byC x)∧(rowsM p k).set k (aC x)=rowsM p (k+1):=by
 have hk:=(Va hx).1
 have e:rowsM p k=(p.take k).map aC++byC x::(p.drop (k+1)).map byC:=by
  unfold rowsM
  rw[drop_at hx,List.map_cons]
 have h2:=set_mid ((p.take k).map aC) ((p.drop (k+1)).map byC) (byC x) (aC x) k (by simp;omega)
 rw[e]
 refine⟨h2.2,h2.1.trans ?_⟩
 unfold rowsM
 rw[List.take_add_one,hx]
 simp
theorem rowsM_len{p:List Acc}{k:Nat}(h:k≤p.length):(rowsM p k).length=p.length:=by simp[rowsM];omega
theorem belLL_of{n:Nat}:∀ {l:List (List AV)},(∀ x∈l,belL n x=true)→belLL n l=true
 |[],_=>rfl
 |x::l,h=>by
  rw[belLL,Vi]
  exact⟨h x List.mem_cons_self,belLL_of fun y hy=>h y (List.mem_cons_of_mem _ hy)⟩
theorem rowsK_bel{n:Nat}(p:List Acc)(k:Nat):belLL n (rowsK p k)=true:=belLL_of fun x hx=>by
 unfold rowsK at hx
 rcases List.mem_append.1 hx with hx|hx
 ·obtain⟨y,_,rfl⟩:=List.mem_map.1 hx;rfl
 ·rw[(List.mem_replicate.1 hx).2];rfl
theorem rowsM_bel{n:Nat}(p:List Acc)(k:Nat):belLL n (rowsM p k)=true:=belLL_of fun x hx=>by
 unfold rowsM at hx
 rcases List.mem_append.1 hx with hx|hx
 ·obtain⟨y,_,rfl⟩:=List.mem_map.1 hx;rfl
 ·obtain⟨y,_,rfl⟩:=List.mem_map.1 hx;rfl
theorem accC_pl{l:List Acc}:∀ x∈l.map aC,∀ a∈x,a.plain=true:=by
 intro x hx a ha
 obtain⟨y,_,rfl⟩:=List.mem_map.1 hx
 simp only[aC,List.mem_cons,List.not_mem_nil,or_false] at ha
 rcases ha with rfl|rfl|rfl<;>rfl
theorem rows_turn(p:List Acc):rowsK p p.length=rowsM p 0:=by simp[rowsK,rowsM]
theorem rows_done(p:List Acc):rowsM p p.length=p.map aC:=by simp[rowsM]
theorem tkproof(p:List Acc)(h:p=[]∨∃ v x,Prf p v x):BSpec Tryz.prog 109 [.ptr 0 0] [tkB (encN (zig p.length)++(encBys p++tailF p))] [tkB []] (vA p):=by
 rcases h with rfl|⟨v,x,e⟩
 ·have hi:=tkint ((([]:List Acc).length:Nat):Int) (by unfold I64;simp) (encBys []++tailF [])
  obtain⟨B,hB⟩:∃ B,B=encN (zig ((([]:List Acc).length:Nat):Int))++(encBys []++tailF []):=⟨_,rfl⟩
  rw[← hB] at hi ⊢
  rw[show encBys []++tailF []=[] from rfl] at hi
  refine⟨⟨_,Tryz.func109,by kernel_rfl,rfl⟩,Sg Tryz.func109 rfl fun c0 hc0=>?_⟩;simp only[go_sem,tkB,bA,Nat.reduceSub]
  refine Ops.callB .free rfl rfl (js:=[0]) (by decide) (LentAll.cons rfl (tkB_lent _) LentAll.nil) (lent1 (tkB_lent _)) rfl rfl Vl (hi) rfl ?_
  refine Og Tryz.func109 ?_;simp only[go_sem,pB,tkB,bA,vA,↓aT,↓aF,↓bF,↓gF,Int.reduceLT,Nat.reduceAdd]
  (and_intros<;>try first|rfl|omega)
  all_goals (first|omega|(repeat'(first|exact WkH.nil _|exact LeR.one (Le.refl _)|exact LeR.one (Le.nil _)|exact LeR.one (.one (Le1.nil _))|exact LeL.nil|apply LeR.tup|exact Le.refl _|exact Le1.refl _|exact Le1.nil _|exact Le1L.nil|exact Le1.tok _ _ _|rfl|apply WkH.cons|apply LeB.box|apply Le1L.cons|apply Le.one|apply LeR.one)))
 ·have hpl:=e.few
  have hp0:0<p.length:=List.length_pos_iff.2 e.ne
  have hi:=tkint (p.length:Int) (by unfold I64;omega) (encBys p++tailF p)
  obtain⟨B,hB⟩:∃ B,B=encN (zig (p.length:Int))++(encBys p++tailF p):=⟨_,rfl⟩
  rw[← hB] at hi ⊢
  have z1:¬((p.length:Nat):Int)<0:=by omega
  have z2:¬(100:Int)<(p.length:Nat):=by omega
  have z3:¬((p.length:Nat):Int)=0:=by omega
  have hK0:List.replicate p.length [AV.int .i64 0,.int .i64 0,.str []]=rowsK p 0:=by simp[rowsK]
  obtain⟨tl,etl⟩:=tailF_le e
  refine⟨⟨_,Tryz.func109,by kernel_rfl,rfl⟩,Sg Tryz.func109 rfl fun c0 hc0=>?_⟩;simp only[go_sem,tkB,bA,Nat.reduceSub]
  refine Ops.callB .free rfl rfl (js:=[0]) (by decide) (LentAll.cons rfl (tkB_lent _) LentAll.nil) (lent1 (tkB_lent _)) rfl rfl Vl (hi) rfl ?_
  refine Og Tryz.func109 ?_;simp only[go_sem,z1,z2,z3,pB,tkB,bA,↓aF,↓bF,↓gF,Nat.reduceAdd,Nat.reduceLT]
  (and_intros<;>try first|rfl|omega)
  rw[hK0]
  refine Run.loopV (α:=Nat) (fun k=>k≤p.length) (fun k=>[(33,.int .i64 k)]) 2 (fun k=>[(0,.box [bA (encBys (p.drop k)++tailF p),.int .i64 0]),(1,.rows 3 (rowsK p k))]) (fun k=>p.length-k) 0 (Nat.zero_le _) ?_ ?_
  ·simp only[go_sem,writes,junks,puts,hputs,List.filterMap_cons,List.filterMap_nil,bA]
   (refine Weak.of (by simp[hc0]) ?_ ?_<;>(repeat' first|exact .refl _|exact .junk _|exact .nil _|exact .tok _ _ _|rfl|apply LeB.same|apply LeB.box|apply Le.agg|apply Le.one|constructor))
   all_goals exact rowsK_bel _ _
  intro k hk0 ih
  simp only[writes,junks,puts,hputs,List.filterMap_cons,List.filterMap_nil,Y6,Y7,Yg,Yk,Y5,Y3,Yd] at ih ⊢
  by_cases hk:k<p.length
  case pos=>
   obtain⟨y,hy⟩:∃ y,p[k]? = some y:=⟨_,Vb hk⟩
   have hkk:(k:Int)<p.length:=by omega
   have hby:=(e.each y (Vd hy)).2.2
   have e7:=tkint y.by_ (by unfold I64;omega) (encBys (p.drop (k+1))++tailF p)
   rw[show encN (zig y.by_)++(encBys (p.drop (k+1))++tailF p)=encBys (p.drop k)++tailF p by rw[drop_at hy,encBys_cons,List.append_assoc]] at e7
   obtain⟨f1,f2⟩:=rowsK_at hy
   have f3:=rowsK_len hk0
   obtain⟨S,hS⟩:∃ S,S=encBys (p.drop (k+1))++tailF p:=⟨_,rfl⟩
   rw[← hS] at e7
   refine Rg Tryz.func109 ?_;simp only[go_sem,hkk,↓aT,Nat.reduceAdd]
   (and_intros<;>try first|rfl|omega)
   refine Ops.callB .free rfl rfl (js:=[0]) (by decide) (LentAll.cons rfl (tkB_lent _) LentAll.nil) (lent1 (tkB_lent _)) rfl rfl Vl (e7) rfl ?_
   refine Og Tryz.func109 ?_;simp only[go_sem,hkk,hk,f1,f3,pB,tkB,bA,Nat.reduceLeDiff,Nat.reduceLT,reduceCtorEq]
   (and_intros<;>try first|rfl|omega)
   refine ih (k+1) _ (by omega) (by omega) ?_
   rw[← f2,← hS]
   simp only[Int.natCast_add,Int.natCast_one,bA,byC]
   (refine Weak.of (by simp[hc0]) ?_ ?_<;>(repeat' first|exact .refl _|exact .junk _|exact .nil _|exact .tok _ _ _|rfl|apply LeB.same|apply LeB.box|apply Le.agg|apply Le.one|constructor))
   all_goals (show belLL _ ((rowsK p k).set k (byC y))=true;rw[f2];exact rowsK_bel _ _)
  case neg=>
  obtain rfl:k=p.length:=by omega
  have hkk:¬(p.length:Int)<p.length:=by omega
  rw[List.drop_length,show encBys []++tailF p=tailF p from rfl,rows_turn,etl]
  have e8:=tkint v (by unfold I64;have:=e.v0;have:=e.v1;omega) (encT x)
  have hxl:=encT_le6 x e.xl
  have e9:=tktext x [] e.xl (by rw[List.append_nil];omega)
  rw[List.append_nil] at e9
  obtain⟨T,hT⟩:∃ T,T=encN (zig v)++encT x:=⟨_,rfl⟩
  rw[← hT] at e8 ⊢
  refine Rg Tryz.func109 ?_;simp only[go_sem,hkk,↓aF]
  (and_intros<;>try first|rfl|omega)
  refine Ops.callB .free rfl rfl (js:=[0]) (by decide) (LentAll.cons rfl (tkB_lent _) LentAll.nil) (lent1 (tkB_lent _)) rfl rfl Vl (e8) rfl ?_
  refine Og Tryz.func109 ?_;simp only[go_sem,pB,tkB,bA,Nat.reduceAdd]
  (and_intros<;>try first|rfl|omega)
  refine Ops.callB .free rfl rfl (js:=[0]) (by decide) (LentAll.cons rfl (tkB_lent _) LentAll.nil) (lent1 (tkB_lent _)) rfl rfl Vl (e9) rfl ?_
  refine Og Tryz.func109 ?_;simp only[go_sem,pB,tkB,bA]
  (and_intros<;>try first|rfl|omega)
  refine Run.loopV (α:=Nat) (fun k=>k≤p.length) (fun k=>[(49,.int .i64 k)]) 2 (fun k=>[(1,.rows 3 (rowsM p k))]) (fun k=>p.length-k) 0 (Nat.zero_le _) ?_ ?_
  ·simp only[go_sem,writes,junks,puts,hputs,List.filterMap_cons,List.filterMap_nil]
   (refine Weak.of (by simp[hc0]) ?_ ?_<;>(repeat' first|exact .refl _|exact .junk _|exact .nil _|exact .tok _ _ _|rfl|apply LeB.same|apply LeB.box|apply Le.agg|apply Le.one|constructor))
   all_goals exact rowsM_bel _ _
  intro k hk0 ih
  simp only[writes,junks,puts,hputs,List.filterMap_cons,List.filterMap_nil,Y6,Y7,Yg,Yk,Y5,Y3,Yd] at ih ⊢
  by_cases hk:k<p.length
  case pos=>
   obtain⟨y,hy⟩:∃ y,p[k]? = some y:=⟨_,Vb hk⟩
   have hkk:(k:Int)<p.length:=by omega
   obtain⟨y1,y2,_,_⟩:=e.each y (Vd hy)
   obtain⟨f1,f2⟩:=rowsM_at hy
   have f3:=rowsM_len hk0
   obtain⟨M,hM⟩:∃ M,M=rowsM p k:=⟨_,rfl⟩
   rw[← hM] at f1 f2 f3 ⊢
   have f4:(M.set k [.int .i64 y.by_,.int .i64 v,.str []])[k]? = some [.int .i64 y.by_,.int .i64 v,.str []]:=List.getElem?_set_self (by omega)
   have f5:(M.set k [.int .i64 y.by_,.int .i64 v,.str []]).set k [.int .i64 y.by_,.int .i64 v,.str x]=M.set k (aC y):=by
    rw[List.set_set];unfold aC;rw[y1,y2]
   have f6:(M.set k [.int .i64 y.by_,.int .i64 v,.str []]).length=p.length:=by rw[List.length_set];exact f3
   refine Rg Tryz.func109 ?_;simp only[go_sem,hkk,hk,f1,f3,f4,f5,f6,byC,↓aT,Nat.reduceAdd,Nat.reduceLeDiff,Nat.reduceLT,reduceCtorEq]
   (and_intros<;>try first|rfl|omega)
   refine ih (k+1) _ (by omega) (by omega) ?_
   rw[← f2]
   simp only[Int.natCast_add,Int.natCast_one]
   (refine Weak.of (by simp[hc0]) ?_ ?_<;>(repeat' first|exact .refl _|exact .junk _|exact .nil _|exact .tok _ _ _|rfl|apply LeB.same|apply LeB.box|apply Le.agg|apply Le.one|constructor))
   all_goals (show belLL _ (M.set k (aC y))=true;rw[f2];exact rowsM_bel _ _)
  case neg=>
  obtain rfl:k=p.length:=by omega
  have hkk:¬(p.length:Int)<p.length:=by omega
  rw[rows_done]
  have hfz:((p.map aC).drop 0).take p.length=p.map aC:=by rw[List.drop_zero];exact List.take_of_length_le (by simp)
  refine Run.weak (Weak.freezeM 4 1 3 0 p.length p.length _ rfl rfl (by omega) (by simp) (by rw[hfz];exact accC_pl)) ?_
  rw[hfz]
  simp only[Y6,Y7]
  refine Rg Tryz.func109 ?_;simp only[go_sem,hkk,↓aF]
  (and_intros<;>try first|rfl|omega)
  all_goals (first|omega|(repeat'(first|exact WkH.nil _|exact LeR.one (Le.refl _)|exact LeR.one (Le.nil _)|exact LeR.one (.one (Le1.nil _))|exact LeL.nil|apply LeR.tup|exact Le.refl _|exact Le1.refl _|exact Le1.nil _|exact Le1L.nil|exact Le1.tok _ _ _|rfl|apply WkH.cons|apply LeB.box|apply Le1L.cons|apply Le.one|apply LeR.one)))
theorem newF_of{a:Acp}(h:AcOk a):newF a.s a.me=some (a0 a.s a.me):=by
 unfold newF a0
 rw[if_pos ⟨h.sz,h.me0,h.me1⟩]
theorem load_spec(a:Acp)(h:AcOk a)(eb:bare a=a):ASpec Tryz.prog 55 [eS a.s,.int .i64 a.me,bA (tF a)] (.tup [eC a,.int .i64 0]):=by
 have hp:=h.parts
 have hn:=anew_spec a.s a.me
 rw[show newA a.s a.me=.tup [eC (a0 a.s a.me),.int .i64 0] by simp[newA,newF_of h]] at hn
 have hpl:a.proof.length≤100:=by
  rcases hp.prf with e|⟨v,x,e⟩
  ·rw[e];simp
  ·exact e.few
 have hfs:=flagI_sm a.has
 have htl:=textF_le hp
 have hla:=lasts_spec a (by omega)
 rw[h.lasts] at hla
 have hfl:=flag_spec a.has
 have e1:=tkint a.view (by unfold I64;have:=hp.v0;have:=hp.v1;omega) (encN (zig (flagI a.has))++(encN (zig a.at_)++(encT a.value++(encN (zig a.proof.length)++(encBys a.proof++tailF a.proof)))))
 have e2:=tkint (flagI a.has) (by unfold I64;omega) (encN (zig a.at_)++(encT a.value++(encN (zig a.proof.length)++(encBys a.proof++tailF a.proof))))
 have e3:=tkint a.at_ (by unfold I64;have:=hp.a0;have:=hp.a1;omega) (encT a.value++(encN (zig a.proof.length)++(encBys a.proof++tailF a.proof)))
 have e4:=tktext a.value (encN (zig a.proof.length)++(encBys a.proof++tailF a.proof)) hp.xl (by
  have:(encT a.value++(encN (zig a.proof.length)++(encBys a.proof++tailF a.proof))).length≤(tF a).length:=by
   unfold tF;simp only[List.length_append];omega
  omega)
 have e5:=tkproof a.proof hp.prf
 obtain⟨T5,h5⟩:∃ T,T=encN (zig a.proof.length)++(encBys a.proof++tailF a.proof):=⟨_,rfl⟩
 rw[← h5] at e1 e2 e3 e4 e5
 obtain⟨T4,h4⟩:∃ T,T=encT a.value++T5:=⟨_,rfl⟩
 rw[← h4] at e1 e2 e3 e4
 obtain⟨T3,h3⟩:∃ T,T=encN (zig a.at_)++T4:=⟨_,rfl⟩
 rw[← h3] at e1 e2 e3
 obtain⟨T2,h2⟩:∃ T,T=encN (zig (flagI a.has))++T3:=⟨_,rfl⟩
 rw[← h2] at e1 e2
 obtain⟨T1,h1⟩:∃ T,T=encN (zig a.view)++T2:=⟨_,rfl⟩
 rw[← h1] at e1
 rw[show tF a=T1 by rw[h1,h2,h3,h4,h5];rfl]
 clear h1 h2 h3 h4 h5 htl
 have hz:∀ b:Bool,decide (flagI b=1)=b:=fun b=>by cases b<;>rfl
 have hz2:=hz a.has
 obtain⟨F,hF⟩:∃ F,F=flagI a.has:=⟨_,rfl⟩
 rw[← hF] at e2 hfl hz2
 clear hF hfs
 obtain⟨s,me,view,has,at_,value,proof,votes⟩:=a
 obtain rfl:votes=[]:=by have:=congrArg Acp.votes eb;exact this.symm
 unfold a0 at hn
 dsimp only at *
 refine⟨⟨_,Tryz.func55,by kernel_rfl,rfl⟩,Sg Tryz.func55 rfl fun c0 hc0=>?_⟩;simp only[go_sem,eS,bA,Nat.reduceAdd,Nat.reduceLeDiff,Nat.reduceSub]
 (and_intros<;>try first|rfl|omega)
 refine Ops.pure .free rfl rfl (hn) Vl rfl rfl ?_
 refine Og Tryz.func55 ?_;simp only[go_sem,eC,pC,vA,↓aF,Nat.reduceAdd]
 (and_intros<;>try first|rfl|omega)
 refine Ops.callB .free rfl rfl (js:=[2]) (by decide) (LentAll.cons rfl (tkB_lent _) LentAll.nil) (lent1 (tkB_lent _)) rfl rfl Vl (e1) rfl ?_
 refine Og Tryz.func55 ?_;simp only[go_sem,pB,tkB,bA,Nat.reduceAdd]
 (and_intros<;>try first|rfl|omega)
 refine Ops.callB .free rfl rfl (js:=[2]) (by decide) (LentAll.cons rfl (tkB_lent _) LentAll.nil) (lent1 (tkB_lent _)) rfl rfl Vl (e2) rfl ?_
 refine Og Tryz.func55 ?_;simp only[go_sem,pB,tkB,bA,Nat.reduceAdd]
 (and_intros<;>try first|rfl|omega)
 refine Ops.callB .free rfl rfl (js:=[2]) (by decide) (LentAll.cons rfl (tkB_lent _) LentAll.nil) (lent1 (tkB_lent _)) rfl rfl Vl (e3) rfl ?_
 refine Og Tryz.func55 ?_;simp only[go_sem,pB,tkB,bA,Nat.reduceAdd,Nat.reduceLeDiff]
 (and_intros<;>try first|rfl|omega)
 refine Ops.callB .free rfl rfl (js:=[2]) (by decide) (LentAll.cons rfl (tkB_lent _) LentAll.nil) (lent1 (tkB_lent _)) rfl rfl Vl (e4) rfl ?_
 refine Og Tryz.func55 ?_;simp only[go_sem,pB,tkB,bA,hz2,Nat.reduceAdd,Nat.reduceLeDiff]
 (and_intros<;>try first|rfl|omega)
 refine Ops.callB .free rfl rfl (js:=[2]) (by decide) (LentAll.cons rfl (tkB_lent _) LentAll.nil) (lent1 (tkB_lent _)) rfl rfl Vl (e5) rfl ?_
 refine Og Tryz.func55 ?_;simp only[go_sem,pB,tkB,bA,vA,↓bF,↓gF,Nat.reduceAdd,Nat.reduceLeDiff]
 (and_intros<;>try first|rfl|omega)
 refine Ops.pure (Wanted.test 5 false false rfl) rfl rfl (hfl) Vl rfl rfl ?_
 refine Og Tryz.func55 ?_;simp only[go_sem,Int.lt_irrefl,↓bF,↓gF,Nat.reduceAdd,Nat.reduceLeDiff]
 (and_intros<;>try first|rfl|omega)
 refine Ops.pure (Wanted.test 20 false false rfl) rfl rfl (hla) Vl rfl rfl ?_
 refine Og Tryz.func55 ?_;simp only[go_sem,↓aF,↓bF,↓gF,Nat.reduceAdd]
 (and_intros<;>try first|rfl|omega)
 exact Vr
end Go.Proofs.YtojhjaohaafeaaaGreatDoor
namespace Go.Proofs.YtojhjaohaafeaaaGreatDoor
open Go.ChangeShapes Go.WideShapes Go.ChangeAt Go.RowKit Go.Deep
structure Agree(Z:Nat→Prop)(w w':World):Prop where
 os:w'.os=w.os
 tape:w'.tape=w.tape
 output:w'.output=w.output
 size:w.heap.size≤w'.heap.size
 block:∀ k,k<w.heap.size→Z k→w'.heap[k]? = w.heap[k]?
section
variable {Z Z':Nat→Prop} {a b c w w':World}
theorem Agree.refl(w:World):Agree Z w w:=⟨rfl,rfl,rfl,Nat.le_refl _,fun _ _ _=>rfl⟩
theorem Agree.trans(h:Agree Z a b)(k:Agree Z b c):Agree Z a c:=
 ⟨k.os.trans h.os,k.tape.trans h.tape,k.output.trans h.output,Nat.le_trans h.size k.size,fun i hi hz=>(k.block i (Nat.lt_of_lt_of_le hi h.size) hz).trans (h.block i hi hz)⟩
theorem Agree.below{B:Nat}(h:Agree Z w w')(hB:∀ k,k<B→k<w.heap.size∧Z k):Below B w w':=⟨h.os,h.tape,h.output,h.size,fun k hk=>h.block k (hB k hk).1 (hB k hk).2⟩
theorem Agree.setCell(h:Agree Z w w'){p:Addr}(hp:¬Z p.block)(v:Value):Agree Z w (w'.setCell p v):=by
 refine h.trans ⟨rfl,rfl,rfl,?_,fun k hk hz=>Below.heap_setCell w' p v k (fun e=>hp (e▸hz))⟩
 simp
end
structure ZRep(α:Type) where
 at_:(Nat→Prop)→World→List Value→α→Prop
 mono:∀ {Z Z':Nat→Prop} {w cs a},(∀ k,Z k→Z' k)→at_ Z w cs a→at_ Z' w cs a
 stable:∀ {Z w w' cs a},Agree Z w w'→at_ Z w cs a→at_ Z w' cs a
 narrow:∀ {Z w cs a},at_ Z w cs a→at_ (fun k=>Z k∧k<w.heap.size) w cs a
def SlZ{α:Type}(R:ZRep α)(k:Nat)(Z:Nat→Prop)(w:World)(A:Option Addr)(l:List α):Prop:=
 l≠[]→∃ b o,A=some ⟨b,o,none⟩∧Z b∧b<w.heap.size∧∀ (j:Nat) a,l[j]? = some a→∃ cs,cs.length=k∧R.at_ Z w cs a∧∀ i u,cs[i]? = some u→w.cell? ⟨b,o+j*k+i,none⟩=some u
section
variable {α:Type} {R:ZRep α} {k:Nat} {Z Z':Nat→Prop} {w w':World} {A:Option Addr} {l:List α}
end
section
variable {α:Type} {p:List Value→α→Prop} {k B:Nat} {Z:Nat→Prop} {w w':World} {A:Option Addr} {l:List α}
end
theorem own_grown{α:Type}{R:Rep α}{e:TypeId}(w:World)(cur:Array Value)(cap:Nat)(hc:cur.size=cap*1)(hm:cap≤maxLen) :
  Own R 1 e w.heap.size 0 (w.alloc (.cells cur e)) (.slice (some ⟨w.heap.size,0,none⟩) 0 cap) ([]:List α):=
 ⟨[],World.ownsRow_made w cur cap (Nat.le_refl _) hm hc,Cs.nil⟩
theorem grow_any(n:Nat)(hn:n≤4000000)(w:World) :
  Calls Tryz.prog 163 #[.slice none 0 0,.int .i64 n] w fun e w'=>∃ v,e=.returned v∧Own byteR 1 5 w.heap.size 0 w' v []∧Below w.heap.size w w':=by
 obtain⟨i,hi,hz,hs,hb⟩:=info_parts (P:=Tryz.prog) (e:=5) (z:=.int .u8 0) (size:=1) (bytes:=1) (by kernel_rfl)
 rcases Nat.eq_zero_or_pos n with rfl|hp
 ·go_enter Tryz.func163,Tryz.ntmps163
  go_wp2
  go_ret
  exact⟨_,rfl,Own.nil _,Below.refl _ _⟩
 ·have hp':(0:Int)<n:=by omega
  go_enter Tryz.func163,Tryz.ntmps163
  go_wp2_with (at_builtin;refine Lib.wpList_append_run _ rfl (.tmp 20) (.tmp 21) _ _ rfl _ _ rfl rfl _ _ (Lib.run_append_nil_zeros _ 89 3 89 5 i (.int .u8 0) .i64 .i64 Tryz.underlying89 Tryz.underlying3 hi hz n hp (by omega) (by omega) (by rw[hb];omega)) ?_)
  go_ret
  refine⟨_,rfl,Own.drew (own_grown w _ _ ?_ (grownCap_le_maxLen _ _ _ _ (by unfold maxLen;omega))),((Below.refl _ _).alloc (Nat.le_refl _) _).drew⟩
  have:=grownCap_ge w n 0 5
  simp[Builtin.zeroCells]
  omega
theorem clone_any(A:Option Addr)(b:Bytes)(n c:Nat)(hm:b.length=n)(hb:n≤1000000)(w:World)(hs:Sl byteR 1 w.heap.size w A b) :
  Calls Tryz.prog 96 #[.slice A n c] w (RetB w b):=by
 have hq:=fun(W:World) (a:Option Addr) (k c:Nat)=>Lib.run_eql_slice_nil (P:=Tryz.prog) W 89 5 a k c 0 0 Tryz.underlying89
 cases A with
 |none=>
  have hb0:b=[]:=by
   apply Vf;intro hn
   obtain⟨_,_,h,_⟩:=hs hn
   cases h
  subst hb0
  obtain rfl:0=n:=hm
  go_enter Tryz.func96,Tryz.ntmps96
  go_wp2
  go_ret
  exact⟨_,rfl,Own.nil _,Below.refl _ _⟩
 |some ad=>
  have hl1:(([]:Bytes).length+b.length)*1≤140737488355328:=by simp;omega
  have hl2:([]:Bytes).length+b.length≤maxLen:=by simp[maxLen];omega
  have HS:=hid hs;have HM:=hid hm;have HL1:=hid hl1;have HL2:=hid hl2;clear hs hl1 hl2 hm
  go_enter Tryz.func96,Tryz.ntmps96
  go_wp2_with (at_builtin;refine wpl_app0 (W:=w) (R:=byteR) (B:=0) rfl (.tmp 5) (.tmp 6) _ rfl tabB _ [] b rfl (Own.made w (Nat.le_refl _)) (Nat.zero_le _) (bN _ _) (some ad) n c (b.map byteV) rfl HM.out ((sl_bytes HS.out HM.out).alloc _) (cs_map _ _ _) (bytes_oneCell _) HL1.out HL2.out ?_;intro v0 w0 hown0 hbl0 _)
  go_ret
  exact⟨_,rfl,hown0,hbl0⟩
theorem cs_row{B n:Nat}{w:World}{A:Option Addr}{l:Bytes}{c:Nat}(h:Sl byteR 1 B w A l)(hn:l.length=n)(g:n≤c)(m:c≤maxLen):Cs (slR byteR 1) 1 B w [.slice A n c] [l]:=by subst hn;exact Cs.one rfl ⟨A,c,rfl,g,m,h⟩
theorem sl_made{α:Type}{R:Rep α}{B q:Nat}{w:World}{cs:List Value}{t:TypeId}{l:List α}(h:Cs R 1 B w cs l)(hB:B≤w.heap.size)(hq:q=w.heap.size):Sl R 1 (w.alloc (.cells cs.toArray t)).heap.size (w.alloc (.cells cs.toArray t)) (some ⟨q,0,none⟩) l:=by
 subst hq
 have h':=h.below ((Below.refl B w).alloc hB (.cells cs.toArray t))
 refine RdC.sl (xs:=cs) ⟨h.1,fun _=>⟨_,_,rfl,fun j u hu=>?_⟩⟩ (h'.mono (by simp;omega)) (by rintro b o h;cases h;simp)
 rw[Nat.zero_add,World.cell?_alloc_new]
 simpa using hu
theorem rows3{B q:Nat}{w:World}{A1 A2 A3:Option Addr}{l1 l2 l3:Bytes}{c1 c2 c3 n1 n2 n3:Nat}(t:TypeId)(h1:Sl byteR 1 B w A1 l1)(e1:l1.length=n1)(g1:n1≤c1)(m1:c1≤maxLen)(h2:Sl byteR 1 B w A2 l2)(e2:l2.length=n2)(g2:n2≤c2)(m2:c2≤maxLen)(h3:Sl byteR 1 B w A3 l3)(e3:l3.length=n3)(g3:n3≤c3)(m3:c3≤maxLen)(hB:B≤w.heap.size)(hq:q=w.heap.size) :
  Sl (slR byteR 1) 1 (w.alloc (.cells #[.slice A1 n1 c1,.slice A2 n2 c2,.slice A3 n3 c3] t)).heap.size (w.alloc (.cells #[.slice A1 n1 c1,.slice A2 n2 c2,.slice A3 n3 c3] t)) (some ⟨q,0,none⟩) [l1,l2,l3]:=
 sl_made ((cs_row h1 e1 g1 m1).append ((cs_row h2 e2 g2 m2).append (cs_row h3 e3 g3 m3))) hB hq
def flen(L:List Bytes):Nat:=L.flatten.length
theorem flen_succ(L:List Bytes)(k:Nat)(x:Bytes)(h:L[k]? = some x):(L.take (k+1)).flatten=(L.take k).flatten++x:=by
 rw[List.take_add_one,h];simp
theorem flen_take(L:List Bytes)(k:Nat):(L.take k).flatten.length≤L.flatten.length:=by
 conv=>rhs;rw[← List.take_append_drop k L]
 rw[List.flatten_append,List.length_append]
 omega
theorem concat_any(A:Option Addr)(L:List Bytes)(n c:Nat)(hL:L.length=n)(hn:n≤1000000)(ht:L.flatten.length≤3000000)(w:World)(hs:Sl (slR byteR 1) 1 w.heap.size w A L) :
  Calls Tryz.prog 92 #[.slice A n c] w (RetB w L.flatten):=by
 have HS:=hid hs;have HL:=hid hL;have HT:=hid ht;clear hs hL ht
 have hn':(n:Int)≤1000000:=by omega
 go_enter Tryz.func92,Tryz.ntmps92
 go_wp2_with fail
 go_loop [3,11] (fun s i=>∃ k:Nat,k≤n∧i=.int .i64 k∧s=.int .i64 (flen (L.take k):Nat)∧flen (L.take k)≤3000000) (fun _ i=>n-(intOf i).toNat)
 case atStart=>exact⟨0,Nat.zero_le _,rfl,by simp[flen],by simp[flen]⟩
 case round=>
  obtain⟨k,hk,rfl,rfl,hm⟩:=hrel
  by_cases hlt:k<n
  ·obtain⟨x,hx⟩:∃ x,L[k]? = some x:=⟨_,Vb (by rw[HL.out];exact hlt)⟩
   obtain⟨b,o,v,rfl,hb,⟨A',c',hv,hc1,hc2,hsx⟩,hcell⟩:=HS.out.get1 hx
   simp only[List.cons.injEq,Yu] at hv
   subst hv
   have e1:=flen_succ L k x hx
   have e2:flen (L.take (k+1))=flen (L.take k)+x.length:=by rw[flen,e1,List.length_append];rfl
   have e3:flen (L.take (k+1))≤flen L:=flen_take L (k+1)
   rw[e2] at e3
   have e4:flen (L.take k)+x.length≤3000000:=by have:flen L≤3000000:=HT.out;omega
   have e5:(flen (L.take k):Int)+x.length≤3000000:=by omega
   have E2:=hid e2;have E1:=hid e1;clear e1 e2 e3 hx hsx
   generalize flen (L.take k)=T at *
   go_wp2_with fail
   go_round
   case rel=>exact⟨k+1,by omega,by go_num,by rw[E2.out];go_num,by rw[E2.out];exact e4⟩
   case measure=>simp[intOf];omega
  ·obtain rfl:k=n:=by omega
   rw[List.take_of_length_le (by rw[HL.out];omega)] at *
   clear hlt
   go_wp2_with fail
   refine(grow_any (flen L) (by omega) _).mono ?_;rintro e w1 ⟨v,rfl,hown,hbl⟩
   have HO:=hid hown;clear hown hm
   go_wp2_with fail
   go_loopw [6,27] (fun v i wr=>∃ q:Nat,q≤k∧i=.int .i64 q∧Own byteR 1 5 w.heap.size 0 wr v (L.take q).flatten∧Below w.heap.size w wr)
    (fun _ i _=>k-(intOf i).toNat)
   case atStart=>exact⟨0,Nat.zero_le _,rfl,by simpa using HO.out,hbl⟩
   case round=>
    obtain⟨q,hq,rfl,hown,hbr⟩:=hrel
    have HO2:=hid hown;clear hown
    by_cases hlt:q<k
    ·obtain⟨x,hx⟩:∃ x,L[q]? = some x:=⟨_,Vb (by rw[HL.out];exact hlt)⟩
     obtain⟨b,o,v',rfl,hb,⟨A',c',hv,hc1,hc2,hsx⟩,hcell⟩:=HS.out.get1 hx
     simp only[List.cons.injEq,Yu] at hv
     subst hv
     have hcell:=(hbr.cell (p:=⟨b,o+q,none⟩) hb).trans hcell
     have e1:=flen_succ L q x hx
     have e3:=flen_take L (q+1)
     rw[e1,List.length_append] at e3
     have hl1:((L.take q).flatten.length+x.length)*1≤140737488355328:=by have:=HT.out;omega
     have hl2:(L.take q).flatten.length+x.length≤maxLen:=by have:=HT.out;unfold maxLen;omega
     have HX:=hid (sl_bytes (hsx.below hbr) rfl)
     have HL1:=hid hl1;have HL2:=hid hl2;have E1:=hid e1;clear hl1 hl2 e1 e3 hx hsx
     generalize (L.take q).flatten=T at *
     go_wp2_with (at_builtin;refine wpl_app0 (W:=w) (R:=byteR) (B:=0) rfl (.tmp 31) (.tmp 32) _ rfl tabB _ T x rfl HO2.out (Nat.zero_le _) hbr A' x.length c' (x.map byteV) rfl rfl HX.out (cs_map _ _ _) (bytes_oneCell _) HL1.out HL2.out ?_;intro v2 w2 hown2 hbl2 _)
     have HO3:=hid hown2;clear hown2
     go_roundw
     case rel=>exact⟨q+1,by omega,by go_num,by rw[E1.out];exact HO3.out,hbl2⟩
     case measure=>simp[intOf];omega
    ·obtain rfl:q=k:=by omega
     rw[List.take_of_length_le (by rw[HL.out];omega)] at *
     go_wp2_with fail
     go_ret
     exact⟨_,rfl,HO2.out,hbr⟩
theorem TRel.one{c:Cx}{vs:Array Value}{x:AV}(h:TRel c vs [x]):∃ v,vs=#[v]∧RV c v x:=by
 obtain⟨h1,h2⟩:=h
 obtain⟨vs⟩:=vs
 match vs,h1 with
 |[v],_=>exact⟨v,rfl,h2 0 v x rfl rfl⟩
theorem bytes_pure{P:Program}{f:FuncId}{args:List AV}{b:Bytes}(hfn:Callable P f)
  (h:∀ (c:Cx) (vs:Array Value),c.h=[]→RelH c→TRel c vs args→Calls P f vs c.w fun e w'=>∃ v t,e=.returned v∧Own byteR 1 t c.w.heap.size 0 w' v b∧Below c.w.heap.size c.w w'):ASpec P f args (bA b):=by
 by_cases hne:0<b.length
 ·exact(own_spec hne hfn h).spec
 ·obtain rfl:b=[]:=by cases b with|nil=>rfl|cons x l=>simp at hne
  refine⟨hfn,fun c vs hh hc ht=>(h c vs hh hc ht).mono ?_⟩
  rintro e w' ⟨v,t,rfl,⟨xs,⟨hxl,how⟩,hxs⟩,hb⟩
  obtain⟨g1,g2⟩:=Below.ev hc hh hb
  have hsl:∃ A cap,v=.slice A 0 cap∧cap≤maxLen:=by
   rcases how with⟨rfl,hx0⟩|⟨g,cap,cur,rfl,hg,hcell,hn,hm,hcs,htake⟩
   ·exact⟨none,0,rfl,Nat.zero_le _⟩
   ·exact⟨_,cap,rfl,hm⟩
  obtain⟨A,cap,rfl,hm⟩:=hsl
  exact⟨_,c.ρ,bA [],[],rfl,g1,g2,.sl 1 [] .no A 0 cap 0 0 (fun _ _=>undef) rfl (Nat.zero_le _) hm (fun h=>absurd rfl h) (fun j e h=>by simp at h) (fun j e i a h=>by simp at h) (fun j e i a h=>by simp at h) trivial,.one (.refl _)⟩
theorem concat_spec(L:List Bytes)(hn:L.length≤1000000)(ht:L.flatten.length≤3000000):ASpec Tryz.prog 92 [.sl 1 (L.map rowC) .no] (bA L.flatten):=by
 refine bytes_pure ⟨_,Tryz.func92,by kernel_rfl,rfl⟩ fun c vs hh hc hr=>?_
 obtain⟨v,rfl,hv⟩:=hr.one
 obtain⟨A,cap,rfl,h1,h2,hs⟩:=hv.rows
 refine(concat_any A L L.length cap rfl hn ht c.w hs).mono ?_
 rintro e w' ⟨v,rfl,h,hb⟩
 exact⟨v,_,rfl,h,hb⟩
def eD(d:DD):AV:=.agg [.int .i64 d.cap,bA d.safe,bA d.loose,.bool d.down,.int .i64 d.fuse]
def encDE(x:DD×Int):AV:=.tup [eD x.1,.int .i64 x.2]
def smD(d:DD):Prop:=d.safe.length≤1000000∧d.loose.length≤1000000∧I64 d.fuse
end Go.Proofs.YtojhjaohaafeaaaGreatDoor
namespace Go.Proofs.YtojhjaohaafeaaaGreatDoor
open Go.RowKit Go.Deep
theorem bit_step(x:Nat)(h:x<4294967296):bits .xor .u32 ((x:Int) / 2) (bits .and .u32 2197175160 (IntKind.u32.wrap (-(bits .and .u32 (x:Int) 1))))=(crcBit x:Nat):=by
 have e1:bits .and .u32 (x:Int) 1=((x % 2:Nat):Int):=by
  have:=u32_and_nat x 1 h (by omega)
  rw[Nat.and_one_is_mod] at this
  exact this
 rw[e1,IntKind.wrap_u32]
 unfold crcBit
 rw[show((x:Int) / 2)=((x / 2:Nat):Int) by omega]
 by_cases h2:x % 2=1
 ·rw[h2,if_pos rfl,show(-((1:Nat):Int)) % 4294967296=((4294967295:Nat):Int) by decide]
  have e2:=u32_and_nat 2197175160 4294967295 (by omega) (by omega)
  rw[show(2197175160 &&& 4294967295:Nat)=2197175160 by decide] at e2
  rw[show(2197175160:Int)=((2197175160:Nat):Int) from rfl,e2,u32_xor_nat _ _ (by omega) (by omega)]
 ·rw[show x % 2=0 by omega,if_neg (by omega),show(-((0:Nat):Int)) % 4294967296=((0:Nat):Int) by decide]
  have e2:=u32_and_nat 2197175160 0 (by omega) (by omega)
  rw[show(2197175160 &&& 0:Nat)=0 by decide] at e2
  rw[show(2197175160:Int)=((2197175160:Nat):Int) from rfl,e2,u32_xor_nat _ _ (by omega) (by omega)]
def TabAt(Y:Nat)(w:World):Prop:=∀ i,i<256→w.cell? ⟨Y,i,none⟩=some (.int .u32 (crcByte i:Nat))
structure TabUpTo(Y k:Nat)(w:World):Prop where
 lt:Y<w.heap.size
 fz:∀ j,j<256→w.frozen? ⟨Y,j,none⟩=false
 there:∀ j,j<256→(w.cell? ⟨Y,j,none⟩).isSome=true
 done:∀ j,j<k→w.cell? ⟨Y,j,none⟩=some (.int .u32 (crcByte j:Nat))
theorem TabUpTo.step{Y k:Nat}{w:World}(h:TabUpTo Y k w)(hk:k<256):TabUpTo Y (k+1) (w.setCell ⟨Y,k,none⟩ (.int .u32 (crcByte k:Nat))):=by
 have key:∀ j,j≠k→(w.setCell ⟨Y,k,none⟩ (.int .u32 (crcByte k:Nat))).cell? ⟨Y,j,none⟩=w.cell? ⟨Y,j,none⟩:=fun j hj=>World.cell?_setCell_other _ _ _ _ (fun e=>hj (congrArg Addr.off e).symm)
 have same:=World.cell?_setCell_same' w ⟨Y,k,none⟩ (.int .u32 (crcByte k:Nat)) (h.there k hk)
 refine⟨by rw[World.size_setCell];exact h.lt,fun j hj=>by rw[World.frozen?_setCell];exact h.fz j hj,fun j hj=>?_,fun j hj=>?_⟩
 ·by_cases e:j=k
  ·subst e;rw[same];rfl
  ·rw[key j e];exact h.there j hj
 ·by_cases e:j=k
  ·subst e;exact same
  ·rw[key j e];exact h.done j (by omega)
theorem zeros_size:Tryz.zeroCells398.size=256:=by kernel_rfl
theorem table_any(w:World):Calls Tryz.prog 214 #[] w fun e w'=>∃ Y,e=.returned (.pointer (some ⟨Y,0,none⟩))∧w.heap.size≤Y∧Y<w'.heap.size∧TabAt Y w'∧Below w.heap.size w w':=by
 go_enter Tryz.func214,Tryz.ntmps214
 go_wp2_with fail
 go_loopw [6] (fun i wr=>∃ k:Nat,k≤256∧i=.int .i64 k∧TabUpTo w.heap.size k wr∧Below w.heap.size w wr) (fun i _=>256-(intOf i).toNat)
 case atStart=>
  refine⟨0,by omega,rfl,⟨by simp,fun j _=>World.frozen?_alloc_new _ _ _ _,fun j hj=>?_,fun j hj=>by omega⟩,bN _ _⟩
  rw[World.cell?_alloc_new]
  have:=zeros_size
  rw[Vc (by omega)]
  rfl
 case round=>
  obtain⟨k,hk,rfl,ht,hb⟩:=hrel
  by_cases hlt:k<256
  ·have HT:=hid ht;have HB:=hid hb;clear ht hb
   go_wp2_with fail
   go_loop [3,11] (fun x i=>∃ q:Nat,q≤8∧i=.int .i64 q∧x=.int .u32 (crcBits q k:Nat)) (fun _ i=>8-(intOf i).toNat)
   case atStart=>exact⟨0,by omega,rfl,by go_num⟩
   case round=>
    obtain⟨q,hq,rfl,rfl⟩:=hrel
    have hx:crcBits q k<4294967296:=crcBits_lt (by omega) q
    have hs:=bit_step _ hx
    have e:crcBit (crcBits q k)=crcBits (q+1) k:=rfl
    rw[e,IntKind.wrap_u32] at hs
    by_cases hq8:q<8
    ·generalize crcBits q k=x at *
     go_wp2_with fail
     go_round
     case rel=>exact⟨q+1,by omega,by go_num,rfl⟩
     case measure=>simp[intOf];omega
    ·obtain rfl:q=8:=by omega
     clear hs e
     have e8:crcBits 8 k=crcByte k:=rfl
     rw[e8] at *
     have lt:=HT.out.lt;have f1:=HT.out.fz k hlt
     obtain⟨t0,t1⟩:=Option.isSome_iff_exists.1 (HT.out.there k hlt)
     go_wp2_with fail
     go_roundw
     case rel=>exact⟨k+1,by omega,by go_num,HT.out.step hlt,HB.out.trans (((Agree.refl wr).setCell (Z:=fun j=>j≠w.heap.size) (p:=⟨w.heap.size,k,none⟩) (by simp) _).below fun j hj=>⟨Nat.lt_of_lt_of_le hj HB.out.size,by omega⟩)⟩
     case measure=>simp[intOf];omega
  ·obtain rfl:k=256:=by omega
   go_wp2_with fail
   go_ret
   exact⟨_,rfl,Nat.le_refl _,ht.lt,fun i hi=>ht.done i hi,hb⟩
theorem ones_u32(x:Nat)(h:x<4294967296):bits .xor .u32 IntKind.u32.max (x:Int)=(x ^^^ 4294967295:Nat):=by
 have:=u32_xor_nat 4294967295 x (by omega) h
 rw[Nat.xor_comm] at this
 exact this
theorem idx_u8(x:Nat)(c:UInt8):bits .xor .u8 ((x:Int) % 256) (c.toNat:Int)=(x % 256 ^^^ c.toNat:Nat):=by
 have hc:=c.toNat_lt
 have:=u8_xor_nat (x % 256) c.toNat (by omega) (by omega)
 rw[show((x:Int) % 256)=((x % 256:Nat):Int) by omega]
 exact this
theorem idx_lt(x:Nat)(c:UInt8):x % 256 ^^^ c.toNat<256:=Nat.xor_lt_two_pow (n:=8) (by omega) c.toNat_lt
theorem crcRun_take(b:Bytes)(x k:Nat)(c:UInt8)(h:b[k]? = some c):crcRun x (b.take (k+1))=crcStep (crcRun x (b.take k)) c:=by
 rw[List.take_add_one,h,crcRun_append]
 rfl
theorem crc_step(x:Nat)(c:UInt8)(h:x<4294967296):bits .xor .u32 ((x:Int) / 256) ((crcByte (x % 256 ^^^ c.toNat):Nat):Int)=(crcStep x c:Nat):=by
 have hc:=c.toNat_lt
 rw[crcStep_table,show((x:Int) / 256)=((x / 256:Nat):Int) by omega,u32_xor_nat _ _ (by omega) (crcByte_lt (Nat.lt_of_lt_of_le (Nat.xor_lt_two_pow (n:=8) (by omega) (by omega)) (by decide)))]
theorem more_any(s:Nat)(hs32:s<4294967296)(A:Option Addr)(b:Bytes)(n c:Nat)(hm:b.length=n)(hn:n≤9223372036854775807)(w:World){B:Nat}(hB:B≤w.heap.size)(hs:Sl byteR 1 B w A b) :
  Calls Tryz.prog 177 #[.int .u32 s,.slice A n c] w fun e w'=>e=.returned (.int .u32 (crcMore s b:Nat))∧Below w.heap.size w w':=by
 have HS:=hid hs;have HM:=hid hm;clear hs hm
 have hn63:(n:Int)≤9223372036854775807:=by omega
 have hs0:s ^^^ 4294967295<4294967296:=xor32 hs32 (by decide)
 go_enter Tryz.func177,Tryz.ntmps177
 go_wp2_with fail
 refine(table_any _).mono ?_
 rintro e w1 ⟨Y,rfl,hY1,hY2,hT,hb⟩
 have HT:=hid hT;have HB:=hid hb;clear hT hb
 have hones:=ones_u32 s hs32
 go_wp2_with fail
 go_loop [6,14] (fun x i=>∃ k:Nat,k≤n∧i=.int .i64 k∧x=.int .u32 (crcRun (s ^^^ 4294967295) (b.take k):Nat)) (fun _ i=>n-(intOf i).toNat)
 case atStart=>exact⟨0,Nat.zero_le _,rfl,rfl⟩
 case round=>
  obtain⟨k,hk,rfl,rfl⟩:=hrel
  by_cases hlt:k<n
  ·obtain⟨x,hx⟩:∃ x,b[k]? = some x:=⟨_,Vb (by rw[HM.out];exact hlt)⟩
   obtain⟨b0,o,v,rfl,hb0,hv,hcell⟩:=HS.out.get1 hx
   have hv:v=byteV x:=by have h':[v]=[byteV x]:=hv;simpa using h'
   subst hv
   have hcell:=(HB.out.cell (p:=⟨b0,o+k,none⟩) (Nat.lt_of_lt_of_le hb0 hB)).trans hcell
   have hr:=crcRun_take b (s ^^^ 4294967295) k x hx
   have hlt2:=crcRun_lt hs0 (b.take k)
   have HR:=hid hr;clear hr hx
   generalize crcRun (s ^^^ 4294967295) (b.take k)=z at *
   have h8:=idx_u8 z x
   have hil:=idx_lt z x
   have hst:=HT.out _ hil
   have hfin:=crc_step z x hlt2
   have HF:=hid hfin;clear hfin
   unfold byteV at hcell
   generalize z % 256 ^^^ x.toNat=q at *
   generalize x.toNat=cn at *
   have hqi:(q:Int)<256:=by omega
   go_wp2_with fail
   go_round
   case rel=>exact⟨k+1,by omega,by go_num,by rw[HR.out,← HF.out]⟩
   case measure=>simp[intOf];omega
  ·obtain rfl:k=n:=by omega
   rw[List.take_of_length_le (by rw[HM.out];omega)]
   have hz:=crcRun_lt hs0 b
   have hones:=ones_u32 _ hz
   go_wp2_with fail
   go_ret
   exact⟨by first|rfl|(rw[hones];rfl),HB.out⟩
theorem sum_any(A:Option Addr)(b:Bytes)(n c:Nat)(hm:b.length=n)(hn:n≤9223372036854775807)(w:World){B:Nat}(hB:B≤w.heap.size)(hs:Sl byteR 1 B w A b) :
  Calls Tryz.prog 114 #[.slice A n c] w fun e w'=>e=.returned (.int .u32 (crcSum b:Nat))∧Below w.heap.size w w':=by
 have h:=more_any 0 (by decide) A b n c hm hn w hB hs
 go_enter Tryz.func114,Tryz.ntmps114
 go_wp2_with fail
 refine h.mono ?_
 rintro e w1 ⟨rfl,hb⟩
 go_wp2_with fail
 go_ret
 exact⟨rfl,hb⟩
end Go.Proofs.YtojhjaohaafeaaaGreatDoor
namespace Go.Proofs.YtojhjaohaafeaaaGreatDoor
open Go.RowKit Go.Deep
theorem byte_sh(n k:Nat)(p:Nat)(hp:p=256^k):Value.int .u8 ((n:Int) / (p:Int) % 256)=byteV (UInt8.ofNat (n / 256^k)):=by
 subst hp
 exact byteV_of (by rw[Int.natCast_emod,Int.natCast_ediv];rfl)
theorem four_cells(n:Nat):[Value.int .u8 ((n:Int) / 16777216 % 256),.int .u8 ((n:Int) / 65536 % 256),.int .u8 ((n:Int) / 256 % 256),.int .u8 ((n:Int) % 256)]=(be 4 n).map byteV:=by
 have h3:=byte_sh n 3 16777216 (by decide)
 have h2:=byte_sh n 2 65536 (by decide)
 have h1:=byte_sh n 1 256 (by decide)
 have h0:Value.int .u8 ((n:Int) % 256)=byteV (UInt8.ofNat (n / 256^0)):=byteV_of (by simp)
 have e3:((16777216:Nat):Int)=16777216:=rfl
 have e2:((65536:Nat):Int)=65536:=rfl
 have e1:((256:Nat):Int)=256:=rfl
 rw[e3] at h3;rw[e2] at h2;rw[e1] at h1
 rw[h3,h2,h1,h0]
 rfl
theorem slnew{w:World}{q:Nat}(l:Bytes)(t:TypeId)(hq:q=w.heap.size):Sl byteR 1 (w.alloc (.cells (l.map byteV).toArray t)).heap.size (w.alloc (.cells (l.map byteV).toArray t)) (some ⟨q,0,none⟩) l:=
 sl_made (B:=0) (cs_map _ _ l) (Nat.zero_le _) hq
theorem four_any(n:Nat)(hn:n<4294967296)(w:World) :
  Calls Tryz.prog 113 #[.int .u32 n] w fun e w'=>e=.returned (.slice (some ⟨w.heap.size,0,none⟩) 4 4)∧w'=w.alloc (.cells ((be 4 n).map byteV).toArray 5):=by
 have h4:=four_cells n
 rw[show(n:Int) / 16777216 % 256=(n:Int) / 16777216 by omega] at h4
 go_enter Tryz.func113,Tryz.ntmps113
 go_wp2_with fail
 go_ret
 exact⟨rfl,by rw[← h4]⟩
theorem frame_any(A1:Option Addr)(b:Bytes)(n1 c1:Nat)(e1:b.length=n1)(g1:n1≤c1)(m1:c1≤maxLen)(z1:n1≤900000)(A2:Option Addr)(x:Bytes)(n2 c2:Nat)(e2:x.length=n2)(_:n2≤c2)(_:c2≤maxLen)(z2:n2≤200000)(w:World)
  (hs1:Sl byteR 1 w.heap.size w A1 b) (hs2:Sl byteR 1 w.heap.size w A2 x) :
  Calls Tryz.prog 58 #[.slice A1 n1 c1,.slice A2 n2 c2] w (RetB w (b++fr x)):=by
 have hl:=frB_length x
 have hnb:=nb_le n2 (by omega)
 rw[e2] at hl
 have HS1:=hid hs1;have HS2:=hid hs2;have E1:=hid e1;have E2:=hid e2;have G1:=hid (And.intro g1 m1);clear hs1 hs2 e1 g1 m1
 have h0:(n2:Int)≤200000:=by omega
 go_enter Tryz.func58,Tryz.ntmps58
 go_wp2_with fail
 refine(put_any (some ⟨w.heap.size,0,none⟩) [167] 1 1 n2 rfl (Nat.le_refl _) (by decide) (by omega) (by omega) _ (slnew [167] 5 rfl)).mono ?_
 rintro e w1 ⟨v,rfl,hown,hb1⟩
 have H1:=hid (below_then (bN w (.cells ([167].map byteV).toArray 5)) hb1)
 have HO:=hid hown;clear hown
 have HB1:=hid hb1;clear hb1
 have hl1:(([167]++encN n2).length+x.length)*1≤140737488355328:=by simp[encN_length];omega
 have hl2:([167]++encN n2).length+x.length≤maxLen:=by simp[encN_length,maxLen];omega
 have HL1:=hid hl1;have HL2:=hid hl2;clear hl1 hl2
 have hfb:([167]++encN n2)++x=frB x:=by unfold frB;rw[E2.out];simp
 have HFB:=hid hfb;clear hfb
 obtain⟨m,hm⟩:∃ m,(frB x).length=m:=⟨_,rfl⟩
 have hm2:m≤300000:=by omega
 have HM:=hid hm;clear hm hl
 go_wp2_with (at_builtin;refine wpl_app0 (W:=w.alloc (.cells ([167].map byteV).toArray 5)) (R:=byteR) (B:=0) rfl (.tmp 10) (.tmp 11) _ rfl tabB _ ([167]++encN n2) x rfl HO.out (Nat.zero_le _) HB1.out A2 n2 c2 (x.map byteV) rfl E2.out (sl_bytes (HS2.out.below H1.out) E2.out) (cs_map _ _ _) (bytes_oneCell _) HL1.out HL2.out ?_;intro v2 w2 hown2 hbl2 _;rw[HFB.out] at hown2;obtain⟨Af,cf,hAf⟩:=hown2.form2 HM.out;subst hAf)
 have H2:=hid (below_then (bN w (.cells ([167].map byteV).toArray 5)) hbl2)
 obtain⟨Af',cf',he,gf,mf,hsf⟩:=hown2.len (Nat.zero_le _) HM.out
 simp only[Value.slice.injEq,Yt] at he
 obtain⟨rfl,rfl⟩:=he
 have HF:=hid hsf;clear hown2 hbl2 hsf
 refine(sum_any Af (frB x) m cf HM.out (by omega) w2 (Nat.le_refl _) HF.out).mono ?_
 rintro e w3 ⟨rfl,hb3⟩
 have H3:=hid (below_then H2.out hb3);have HF3:=hid (HF.out.call hb3);clear hb3 HF
 go_wp2_with fail
 refine(four_any (crcSum (frB x)) (crcSum_lt _) w3).mono ?_
 rintro e w4 ⟨rfl,rfl⟩
 have H4:=hid (below_then H3.out (bN w3 (.cells ((be 4 (crcSum (frB x))).map byteV).toArray 5)))
 have hr:=rows3 (q:=(w3.alloc (.cells ((be 4 (crcSum (frB x))).map byteV).toArray 5)).heap.size) 89 (HS1.out.call H4.out) E1.out G1.out.1 G1.out.2 (HF3.out.call (bN w3 (.cells ((be 4 (crcSum (frB x))).map byteV).toArray 5))) HM.out gf mf (slnew (be 4 (crcSum (frB x))) 5 (w:=w3) rfl) (be_length _ _) (Nat.le_refl 4) (by decide) (Nat.le_refl _) rfl
 have HR:=hid hr;clear hr
 have hfl:[b,frB x,be 4 (crcSum (frB x))].flatten=b++fr x:=by simp[fr]
 have hflen:[b,frB x,be 4 (crcSum (frB x))].flatten.length≤3000000:=by
  have:=HM.out;have:=E1.out
  simp only[List.flatten_cons,List.flatten_nil,List.length_append,Y9,be_length]
  omega
 have HFL:=hid hfl;have HFLE:=hid hflen;clear hfl hflen
 generalize w3.alloc (.cells ((be 4 (crcSum (frB x))).map byteV).toArray 5)=w4 at *
 go_wp2_with fail
 refine(concat_any _ [b,frB x,be 4 (crcSum (frB x))] 3 3 rfl (by omega) HFLE.out _ HR.out).mono ?_
 rintro e w5 ⟨v5,rfl,hown5,hb5⟩
 rw[HFL.out] at hown5
 have HO5:=hid hown5;clear hown5
 go_wp2_with fail
 go_ret
 have hb6:=below_then (below_then H4.out (bN _ _)) hb5
 exact⟨v5,rfl,HO5.out.low (by have:=H4.out.size;have:=hb5.size;simp at *;omega),hb6⟩
end Go.Proofs.YtojhjaohaafeaaaGreatDoor
namespace Go.Proofs.YtojhjaohaafeaaaGreatDoor
open Go.RowKit Go.Deep
section
variable {P:Program} {ops:Array Oper} {Q:Exit→Act→World→Prop} {md:Region.Mode} {S S':World→Prop}
section
variable {l:List Oper} {listed:Array Bool} {fuel:Nat} {a:Act} {w:World}
end
end
end Go.Proofs.YtojhjaohaafeaaaGreatDoor
namespace Go.Proofs.YtojhjaohaafeaaaGreatDoor
open Go.RowKit Go.Deep
end Go.Proofs.YtojhjaohaafeaaaGreatDoor
namespace Go.Proofs.YtojhjaohaafeaaaGreatDoor
open Go.RowKit Go.Deep
end Go.Proofs.YtojhjaohaafeaaaGreatDoor
namespace Go.Proofs.YtojhjaohaafeaaaGreatDoor
open Go.RowKit Go.Deep
theorem TRel.two{c:Cx}{vs:Array Value}{x y:AV}(h:TRel c vs [x,y]):∃ u v,vs=#[u,v]∧RV c u x∧RV c v y:=by
 obtain⟨h1,h2⟩:=h
 obtain⟨vs⟩:=vs
 match vs,h1 with
 |[u,v],_=>exact⟨u,v,rfl,h2 0 u x rfl rfl,h2 1 v y rfl rfl⟩
theorem takeF_n{m:UInt8}{t:Bytes}(hm:¬m=167):takeF (m::t)=.error 3:=by simp[takeF,hm]
theorem takeF_z{m:UInt8}{t:Bytes}{z:Int}(hm:m=167)(ht:takeN t=.error z):takeF (m::t)=.error z:=by simp[takeF,hm,ht]
theorem takeF_5{m:UInt8}{t:Bytes}{n:Nat}{r:Bytes}(hm:m=167)(ht:takeN t=.ok (n,r))(h1:100000<n):takeF (m::t)=.error 5:=by simp[takeF,hm,ht,h1]
theorem takeF_2{m:UInt8}{t:Bytes}{n:Nat}{r:Bytes}(hm:m=167)(ht:takeN t=.ok (n,r))(h1:¬100000<n)(h2:r.length<n+4):takeF (m::t)=.error 2:=by simp[takeF,hm,ht,h1,h2]
theorem takeF_k{m:UInt8}{t:Bytes}{n:Nat}{r:Bytes}(hm:m=167)(ht:takeN t=.ok (n,r))(h1:¬100000<n)(h2:¬r.length<n+4){K:Nat}(hK:K=t.length+1-(r.length-n)) :
  takeF (m::t)=if be 4 (crcSum ((m::t).take K))=(r.drop n).take 4 then .ok (r.take n,r.drop (n+4)) else .error 4:=by
 subst hm hK
 unfold takeF
 simp only[ht,h1,h2,Yr,ne_eq,not_true_eq_false,Ya]
theorem bytes_num{P:Program}{f:FuncId}{b:Bytes}{r:AV}{u:Value}(hfn:Callable P f)(hv:∀ c,RV c u r)
  (h:∀ A cap w,b.length≤cap→cap≤maxLen→Sl byteR 1 w.heap.size w A b→Calls P f #[.slice A b.length cap] w fun e w'=>e=.returned u∧Below w.heap.size w w'):ASpec P f [bA b] r:=by
 refine⟨hfn,fun c vs hh hc ht=>?_⟩
 obtain⟨v,rfl,hv1⟩:=ht.one
 obtain⟨A,cap,rfl,g1,g2,hs⟩:=hv1.bytes
 refine(h A cap c.w g1 g2 hs).mono ?_
 rintro e w' ⟨rfl,hb⟩
 obtain⟨q1,q2⟩:=Below.ev hc hh hb
 exact⟨_,_,_,_,rfl,q1,q2,hv _,.one (.refl _)⟩
theorem sum15_spec(b:Bytes)(hb:b.length≤9000000):ASpec Tryz.prog 114 [bA b] (.int .u32 (crcSum b:Nat)):=
 bytes_num ⟨_,Tryz.func114,by kernel_rfl,rfl⟩ (fun _=>.int _ _) fun A cap w h1 h2 hs=>sum_any A b b.length cap rfl (by omega) w (Nat.le_refl _) hs
theorem sh24(a:Int):ashift .shr .u32 a 24=some ⟨(0:Int)≤24,.int .u32 (a.fdiv 16777216),none⟩:=rfl
theorem sh16(a:Int):ashift .shr .u32 a 16=some ⟨(0:Int)≤16,.int .u32 (a.fdiv 65536),none⟩:=rfl
theorem sh8(a:Int):ashift .shr .u32 a 8=some ⟨(0:Int)≤8,.int .u32 (a.fdiv 256),none⟩:=rfl
theorem w8(m:Nat):IntKind.u8.wrap (m:Int)=((UInt8.ofNat m).toNat:Int):=by
 have e:(2:Int)^IntKind.u8.bits=256:=by decide
 simp only[IntKind.wrap,e,show IntKind.u8.signed=false from rfl,Bool.false_and,Y8,Yr]
 rw[UInt8.toNat_ofNat']
 omega
theorem wf(m p:Nat):IntKind.u8.wrap ((m:Int).fdiv (p:Int))=((UInt8.ofNat (m / p)).toNat:Int):=by
 rw[Int.fdiv_eq_ediv_of_nonneg _ (by omega),← Int.natCast_ediv,w8]
theorem be4(n:Nat):be 4 n=[UInt8.ofNat (n / 16777216),UInt8.ofNat (n / 65536),UInt8.ofNat (n / 256),UInt8.ofNat n]:=by
 have h:be 4 n=[UInt8.ofNat (n / 256^3),UInt8.ofNat (n / 256^2),UInt8.ofNat (n / 256^1),UInt8.ofNat (n / 256^0)]:=rfl
 rw[h,Nat.pow_zero,Nat.div_one]
theorem four_spec(n:Nat):ASpec Tryz.prog 113 [.int .u32 n] (bA (be 4 n)):=by
 have h3:IntKind.u8.wrap ((n:Int).fdiv 16777216)=((UInt8.ofNat (n / 16777216)).toNat:Int):=wf n 16777216
 have h2:IntKind.u8.wrap ((n:Int).fdiv 65536)=((UInt8.ofNat (n / 65536)).toNat:Int):=wf n 65536
 have h1:IntKind.u8.wrap ((n:Int).fdiv 256)=((UInt8.ofNat (n / 256)).toNat:Int):=wf n 256
 have h0:=w8 n
 refine⟨⟨_,Tryz.func113,by kernel_rfl,rfl⟩,Sg Tryz.func113 rfl fun c0 hc0=>?_⟩;simp only[go_sem,↓sh24,↓sh16,↓sh8,h3,h2,h1,h0,Int.reduceLE,Nat.reduceAdd,Nat.reduceLeDiff,Nat.reduceMul,Nat.reduceBEq,Nat.reduceLT,Nat.reduceSub]
 (and_intros<;>try first|rfl|omega)
 rw[be4]
 simp only[bA,Yf,Ye,bC]
 (repeat' first|exact .refl _|apply LeR.tup|apply Le.agg|constructor)
theorem frame15_spec(b x:Bytes)(hb:b.length≤900000)(hx:x.length≤200000):ASpec Tryz.prog 58 [bA b,bA x] (bA (b++fr x)):=by
 refine bytes_pure ⟨_,Tryz.func58,by kernel_rfl,rfl⟩ fun c vs hh hc hr=>?_
 obtain⟨u,v,rfl,hu,hv⟩:=hr.two
 obtain⟨A,cap,rfl,g1,g2,hs⟩:=hu.bytes
 obtain⟨A2,cap2,rfl,q1,q2,hs2⟩:=hv.bytes
 refine(frame_any A b b.length cap rfl g1 g2 hb A2 x x.length cap2 rfl q1 q2 hx c.w hs hs2).mono ?_
 rintro e w' ⟨v,rfl,h,hb⟩
 exact⟨v,_,rfl,h,hb⟩
theorem drop_eqB{α:Type}{l m:List α}{k:Nat}{x y:α}(hx:l[k]? = some x)(hy:m[k]? = some y):l.drop k=m.drop k↔x=y∧l.drop (k+1)=m.drop (k+1):=by
 obtain⟨h1,rfl⟩:=Va hx
 obtain⟨h2,rfl⟩:=Va hy
 rw[List.drop_eq_getElem_cons h1,List.drop_eq_getElem_cons h2,List.cons.injEq]
theorem equalB_spec(l m:Bytes)(hl:l.length≤1000000000000):ASpec Tryz.prog 164 [bA l,bA m] (.bool (decide (l=m))):=by
 by_cases hlm:l.length=m.length
 ·have hlm':(l.length:Int)=m.length:=by omega
  refine⟨⟨_,Tryz.func164,by kernel_rfl,rfl⟩,Sg Tryz.func164 rfl fun c0 hc0=>?_⟩;simp only[go_sem,bA,hlm',↓aF,Nat.reduceAdd,Nat.reduceSub]
  refine Run.loopV (α:=Nat) (fun k=>k≤l.length∧(l=m↔l.drop k=m.drop k)) (fun k=>[(13,.int .i64 k)]) 0 (fun _=>[]) (fun k=>l.length-k) 0 ⟨Nat.zero_le _,Iff.rfl⟩ ?_ ?_
  ·simp only[go_sem,writes,junks,puts,hputs,List.filterMap_cons,List.filterMap_nil]
   (refine Weak.of (by simp[hc0]) ?_ ?_<;>(repeat' first|exact .refl _|exact .junk _|exact .nil _|exact .tok _ _ _|rfl|apply LeB.same|apply LeB.box|apply Le.agg|apply Le.one|constructor))
  ·rintro k ⟨hI,hk2⟩ ih
   simp only[writes,junks,puts,hputs,List.filterMap_cons,List.filterMap_nil,Y6,Y7,Yk,Y5,Y3,Yd] at ih ⊢
   by_cases hk:k<l.length
   ·obtain⟨x,hx⟩:∃ x,l[k]? = some x:=⟨_,Vb hk⟩
    obtain⟨y,hy⟩:∃ x,m[k]? = some x:=⟨_,Vb (by omega)⟩
    have hkk:(k:Int)<m.length:=by omega
    rw[drop_eqB hx hy] at hk2
    by_cases hxy:x=y
    ·subst hxy
     refine Rg Tryz.func164 ?_;simp only[go_sem,hx,hy,hkk,hlm',bC,Vg,↓aT,↓aF,Nat.reduceLT]
     (and_intros<;>try first|rfl|omega)
     refine ih (k+1) _ ⟨by omega,by rw[hk2];simp⟩ (by omega) ?_
     simp only[Int.natCast_add,Int.natCast_one]
     (refine Weak.of (by simp[hc0]) ?_ ?_<;>(repeat' first|exact .refl _|exact .junk _|exact .nil _|exact .tok _ _ _|rfl|apply LeB.same|apply LeB.box|apply Le.agg|apply Le.one|constructor))
    ·have hxy':¬(x.toNat:Int)=y.toNat:=fun h=>hxy (UInt8.toNat_inj.1 (by omega))
     refine Rg Tryz.func164 ?_;simp only[go_sem,hx,hy,hkk,hxy',hlm',bC,Vg,↓aT,Nat.reduceLT]
     (and_intros<;>try first|rfl|omega)
     rw[show decide (l=m)=false by rw[decide_eq_false_iff_not,hk2];exact fun h=>hxy h.1]
     exact Vr
   ·obtain rfl:k=l.length:=by omega
    have hkk:¬(m.length:Int)<m.length:=by omega
    refine Rg Tryz.func164 ?_;simp only[go_sem,hkk,hlm',↓aF]
    rw[show decide (l=m)=true by rw[decide_eq_true_eq,hk2,hlm,List.drop_length,← hlm,List.drop_length]]
    exact Vr
 ·have hlm':¬(l.length:Int)=m.length:=by omega
  refine⟨⟨_,Tryz.func164,by kernel_rfl,rfl⟩,Sg Tryz.func164 rfl fun c0 hc0=>?_⟩;simp only[go_sem,bA,hlm',↓aT,Nat.reduceAdd,Nat.reduceSub]
  rw[show decide (l=m)=false by rw[decide_eq_false_iff_not];intro h;exact hlm (by rw[h])]
  exact Vr
def takeFA:Except Int (Bytes×Bytes)→AV
 |.error z=>.tup [bA [],bA [],.int .i64 z]
 |.ok (x,r)=>.tup [bA x,bA r,.int .i64 0]
def rA(l:List Bytes):AV:=.sl 1 (l.map rowC) .no
theorem ctake15_spec(b:Bytes)(hb:b.length≤8000000):ASpec Tryz.prog 93 [bA b] (takeFA (takeF b)):=by
 match b,hb with
 |[],_=>
  rw[show takeF []=.error 2 from rfl]
  refine⟨⟨_,Tryz.func93,by kernel_rfl,rfl⟩,Sg Tryz.func93 rfl fun c0 hc0=>?_⟩;simp only[go_sem,bA,takeFA,↓aT,Nat.reduceSub]
  (repeat' first|exact .refl _|apply LeR.tup|apply Le.agg|constructor)
 |m::t,hb=>
 simp only[Ya] at hb
 by_cases hm:m=167
 case neg=>
  have hm':¬(m.toNat:Int)=167:=fun h=>hm (UInt8.toNat_inj.1 (by have e:(167:UInt8).toNat=167:=rfl;omega))
  rw[takeF_n hm]
  refine⟨⟨_,Tryz.func93,by kernel_rfl,rfl⟩,Sg Tryz.func93 rfl fun c0 hc0=>?_⟩;simp only[go_sem,bA,bC,hm',succ_ne,↓aT,↓aF,Int.reduceLE,Nat.reduceLT,Nat.reduceSub]
  (and_intros<;>try first|rfl|omega)
  simp only[takeFA,bA,Ye]
  (repeat' first|exact .refl _|apply LeR.tup|apply Le.agg|constructor)
 have hm':(m.toNat:Int)=167:=by rw[hm];rfl
 have hsp:=take_spec t
 cases ht:takeN t with
 |error z=>
  rw[ht] at hsp
  have hz:¬z=0:=by rcases takeN_err ht with h|h<;>omega
  rw[takeF_z hm ht]
  refine⟨⟨_,Tryz.func93,by kernel_rfl,rfl⟩,Sg Tryz.func93 rfl fun c0 hc0=>?_⟩;simp only[go_sem,bA,bC,hm',succ_ne,Int.reduceToNat,↓aF,Int.reduceLE,Nat.reduceAdd,Nat.reduceLT,Nat.reduceSub]
  (and_intros<;>try first|rfl|omega)
  refine Ops.pure .free rfl rfl (hsp) Vl rfl rfl ?_
  refine Og Tryz.func93 ?_;simp only[go_sem,takeA,bA,hz,↓aT]
  (and_intros<;>try first|rfl|omega)
  simp only[takeFA,bA,Ye]
  (repeat' first|exact .refl _|apply LeR.tup|apply Le.agg|constructor)
 |ok p=>
 obtain⟨n,r⟩:=p
 obtain⟨hn,hl⟩:=taken_small ht
 rw[ht] at hsp
 have hw:IntKind.u64.wrap (r.length:Int)=r.length:=wrap_nat _ (by omega)
 by_cases h1:100000<n
 ·have h1':(100000:Int)<n:=by omega
  rw[takeF_5 hm ht h1]
  refine⟨⟨_,Tryz.func93,by kernel_rfl,rfl⟩,Sg Tryz.func93 rfl fun c0 hc0=>?_⟩;simp only[go_sem,bA,bC,hm',succ_ne,Int.reduceToNat,↓aF,Int.reduceLE,Nat.reduceAdd,Nat.reduceLT,Nat.reduceSub]
  (and_intros<;>try first|rfl|omega)
  refine Ops.pure .free rfl rfl (hsp) Vl rfl rfl ?_
  refine Og Tryz.func93 ?_;simp only[go_sem,takeA,bA,h1',↓aT,↓aF]
  (and_intros<;>try first|rfl|omega)
  simp only[takeFA,bA,Ye]
  (repeat' first|exact .refl _|apply LeR.tup|apply Le.agg|constructor)
 have h1':¬(100000:Int)<n:=by omega
 have hw4:IntKind.u64.wrap ((n:Int)+4)=n+4:=by
  have e:=wrap_nat (n+4) (by omega)
  rw[Int.natCast_add] at e
  exact e
 have hwn:=wrap_n64 n (by omega)
 by_cases h2:r.length<n+4
 ·have h2':(r.length:Int)<n+4:=by omega
  rw[takeF_2 hm ht h1 h2]
  refine⟨⟨_,Tryz.func93,by kernel_rfl,rfl⟩,Sg Tryz.func93 rfl fun c0 hc0=>?_⟩;simp only[go_sem,bA,bC,hm',succ_ne,Int.reduceToNat,↓aF,Int.reduceLE,Nat.reduceAdd,Nat.reduceLT,Nat.reduceSub]
  (and_intros<;>try first|rfl|omega)
  refine Ops.pure .free rfl rfl (hsp) Vl rfl rfl ?_
  refine Og Tryz.func93 ?_;simp only[go_sem,takeA,bA,h1',h2',hw,hw4,↓aT,↓aF,reduceCtorEq]
  (and_intros<;>try first|rfl|omega)
  simp only[takeFA,bA,Ye]
  (repeat' first|exact .refl _|apply LeR.tup|apply Le.agg|constructor)
 have h2':¬(r.length:Int)<n+4:=by omega
 obtain⟨K,hK⟩:∃ K,K=(m::t).length-(r.length-n):=⟨_,rfl⟩
 simp only[Ya] at hK
 have hK':(((t.length+1:Nat):Int)-((r.length-n:Nat):Int)).toNat=K:=by omega
 have hs:=sum15_spec ((m::t).take K) (by rw[List.length_take];simp only[Ya];omega)
 have h4:=four_spec (crcSum ((m::t).take K))
 have he:=equalB_spec (be 4 (crcSum ((m::t).take K))) ((r.drop n).take 4) (by rw[be_length];omega)
 have hd4:(4:Int)≤((List.drop n (List.map bC r)).length:Nat):=by rw[List.length_drop,List.length_map];omega
 have hF:takeF (m::t)=if be 4 (crcSum ((m::t).take K))=(r.drop n).take 4 then .ok (r.take n,r.drop (n+4)) else .error 4:=
  takeF_k hm ht h1 h2 hK
 rw[hF]
 have e1:List.drop 4 (List.drop n (List.map bC r))=List.map bC (r.drop (n+4)):=by rw[List.drop_drop,List.map_drop]
 have e2:List.take n (List.map bC r)=List.map bC (r.take n):=List.map_take.symm
 by_cases hq:be 4 (crcSum ((m::t).take K))=(r.drop n).take 4
 ·rw[if_pos hq]
  rw[decide_eq_true hq] at he
  refine⟨⟨_,Tryz.func93,by kernel_rfl,rfl⟩,Sg Tryz.func93 rfl fun c0 hc0=>?_⟩;simp only[go_sem,bA,bC,hm',succ_ne,Int.reduceToNat,↓aF,Int.reduceLE,Nat.reduceAdd,Nat.reduceLT,Nat.reduceSub]
  (and_intros<;>try first|rfl|omega)
  refine Ops.pure .free rfl rfl (hsp) Vl rfl rfl ?_
  refine Og Tryz.func93 ?_;simp only[go_sem,takeA,bA,h1',h2',hw,hw4,List.length_drop,↓aF,Nat.reduceAdd,reduceCtorEq]
  (and_intros<;>try first|rfl|omega)
  try simp only[hK']
  refine DOps.pure rfl .free rfl rfl (hs) (by simp only[go_sem,bA,bC,List.map_take,hm'];(repeat' first|exact .refl _|apply LeR.tup|apply Le.agg|constructor)) rfl rfl ?_
  refine Dg Tryz.func93 rfl ?_;simp only[go_sem,Nat.reduceAdd]
  (and_intros<;>try first|rfl|omega)
  refine DOps.pure rfl .free rfl rfl (h4) Vl rfl rfl ?_
  refine Dg Tryz.func93 rfl ?_;simp only[go_sem,bA,Int.reduceToNat,Int.reduceLE,Nat.reduceAdd]
  (and_intros<;>try first|rfl|omega)
  refine DOps.pure rfl .free rfl rfl (he) (by simp only[go_sem,bA,List.map_take,List.map_drop];(repeat' first|exact .refl _|apply LeR.tup|apply Le.agg|constructor)) rfl rfl ?_
  refine Dg Tryz.func93 rfl ?_;simp only[go_sem,Int.reduceToNat,↓aF,Int.reduceLE,Nat.reduceAdd]
  (and_intros<;>try first|rfl|omega)
  simp only[takeFA,bA,← e1,← e2]
  exact Vr
 ·rw[if_neg hq]
  rw[decide_eq_false hq] at he
  refine⟨⟨_,Tryz.func93,by kernel_rfl,rfl⟩,Sg Tryz.func93 rfl fun c0 hc0=>?_⟩;simp only[go_sem,bA,bC,hm',succ_ne,Int.reduceToNat,↓aF,Int.reduceLE,Nat.reduceAdd,Nat.reduceLT,Nat.reduceSub]
  (and_intros<;>try first|rfl|omega)
  refine Ops.pure .free rfl rfl (hsp) Vl rfl rfl ?_
  refine Og Tryz.func93 ?_;simp only[go_sem,takeA,bA,h1',h2',hw,hw4,List.length_drop,↓aF,Nat.reduceAdd,reduceCtorEq]
  (and_intros<;>try first|rfl|omega)
  try simp only[hK']
  refine DOps.pure rfl .free rfl rfl (hs) (by simp only[go_sem,bA,bC,List.map_take,hm'];(repeat' first|exact .refl _|apply LeR.tup|apply Le.agg|constructor)) rfl rfl ?_
  refine Dg Tryz.func93 rfl ?_;simp only[go_sem,Nat.reduceAdd]
  (and_intros<;>try first|rfl|omega)
  refine DOps.pure rfl .free rfl rfl (h4) Vl rfl rfl ?_
  refine Dg Tryz.func93 rfl ?_;simp only[go_sem,bA,Int.reduceToNat,Int.reduceLE,Nat.reduceAdd]
  (and_intros<;>try first|rfl|omega)
  refine DOps.pure rfl .free rfl rfl (he) (by simp only[go_sem,bA,List.map_take,List.map_drop];(repeat' first|exact .refl _|apply LeR.tup|apply Le.agg|constructor)) rfl rfl ?_
  refine Dg Tryz.func93 rfl ?_;simp only[go_sem,↓aT,Nat.reduceAdd]
  (and_intros<;>try first|rfl|omega)
  simp only[takeFA,bA,Ye]
  (repeat' first|exact .refl _|apply LeR.tup|apply Le.agg|constructor)
theorem scan15_spec(b:Bytes)(hb:b.length≤8000000):ASpec Tryz.prog 44 [bA b] (.tup [rA (scanS b).1,.int .i64 ((b.length:Int)-(scanS b).2.length)]):=by
 refine⟨⟨_,Tryz.func44,by kernel_rfl,rfl⟩,Sg Tryz.func44 rfl fun c0 hc0=>?_⟩;simp only[go_sem,bA,Nat.reduceSub]
 refine Run.weak (Weak.own 4 1 rfl) ?_
 simp only[Y6,Y7,Y9,Y3]
 refine Run.loopV (α:=List Bytes×Bytes) (fun x=>scanS b=(x.1++(scanS x.2).1,(scanS x.2).2)∧x.1.length+x.2.length≤b.length) (fun x=>[(4,.sl 1 (x.1.map rowC) (.own 0)),(5,bA x.2)]) 1 (fun x=>[(0,.tok 1 x.1.length)]) (fun x=>x.2.length) ([],b) ⟨by simp,by simp⟩ ?_ ?_
 ·simp only[writes,junks,puts,hputs,List.filterMap_cons,List.filterMap_nil,Y6,Y7,Y9,Yg,Yk,Ye,Y5,Y3,Yd,bA]
  (refine Weak.of (by simp[hc0]) ?_ ?_<;>(repeat' first|exact .refl _|exact .junk _|exact .nil _|exact .tok _ _ _|rfl|apply LeB.same|apply LeB.box|apply Le.agg|apply Le.one|constructor))
 rintro⟨m,y⟩ ⟨hI,hml⟩ ih
 simp only[writes,junks,puts,hputs,List.filterMap_cons,List.filterMap_nil,Y6,Y7,Yg,Yk,Y5,Y3,Yd] at hI hml ih ⊢
 have hsp:=ctake15_spec y (by omega)
 cases hty:takeF y with
 |error z=>
  rw[hty] at hsp
  have hz:¬z=0:=by rcases takeF_err hty with h|h|h|h<;>omega
  rw[scanS_err hty,List.append_nil] at hI
  rw[hI]
  refine Rg Tryz.func44 ?_;simp only[go_sem,bA]
  (and_intros<;>try first|rfl|omega)
  refine Ops.pure .free rfl rfl (hsp) Vl rfl rfl ?_
  refine Og Tryz.func44 ?_;simp only[go_sem,takeFA,bA,hz,↓aT]
  (and_intros<;>try first|rfl|omega)
  simp only[rA]
  (repeat' first|exact .refl _|apply LeR.tup|apply Le.agg|constructor)
 |ok p=>
  obtain⟨x,r⟩:=p
  rw[hty] at hsp
  have hsh:=(takeF_shorter hty).1
  rw[scanS_ok hty] at hI
  refine Rg Tryz.func44 ?_;simp only[go_sem,bA]
  (and_intros<;>try first|rfl|omega)
  refine Ops.pure .free rfl rfl (hsp) Vl rfl rfl ?_
  refine Og Tryz.func44 ?_;simp only[go_sem,takeFA,bA,↓aF,Nat.reduceLeDiff,Nat.reduceMul,Nat.reduceBEq,Nat.reduceLT]
  (and_intros<;>try first|rfl|omega)
  refine ih (m++[x],r) _ ⟨by rw[hI];simp,by simp;omega⟩ (by dsimp only;omega) ?_
  simp only[Ya,Y9,Yf,Ye,Yp,List.map_append,List.length_append,rowC,bA]
  (refine Weak.of (by simp[hc0]) ?_ ?_<;>(repeat' first|exact .refl _|exact .junk _|exact .nil _|exact .tok _ _ _|rfl|apply LeB.same|apply LeB.box|apply Le.agg|apply Le.one|constructor))
def cellsD(d:DD):List AV:=[.int .i64 d.cap,bA d.safe,bA d.loose,.bool d.down,.int .i64 d.fuse]
def CS(y:DD)(cs:List AV):Prop:=cs=cellsD y∨y.loose=[]∧cs=[.int .i64 y.cap,bA y.safe,.nils,.bool y.down,.int .i64 y.fuse]
def ClA(g:FuncId)(ca:List AV)(F:DD→DD)(x:DD):Prop:=∀ (z:ABlk) (R:AV→List ABlk→Prop),(∀ ex cs,CS (F x) cs→R (.tup []) (.box cs::z::ex))→ACall Tryz.prog g (.ptr 0 0::ca) [.box (cellsD x),z] R
theorem clone_spec(b:Bytes)(hb:b.length≤1000000):ASpec Tryz.prog 96 [bA b] (bA b):=by
 refine bytes_pure ⟨_,Tryz.func96,by kernel_rfl,rfl⟩ fun c vs hh hc hr=>?_
 obtain⟨v,rfl,hv⟩:=hr.one
 obtain⟨A,cap,rfl,h1,h2,hs⟩:=hv.bytes
 refine(clone_any A b b.length cap rfl hb c.w hs).mono ?_
 rintro e w' ⟨v,rfl,h,hb⟩
 exact⟨v,_,rfl,h,hb⟩
theorem cl_write(x:DD)(hs:smD x)(b:Bytes)(hb:b.length≤1000000):ClA 116 [.rptr [bA b]] (addS b) x:=by
 obtain⟨h1,h2,h3⟩:=id hs
 intro z R hR
 refine Sg Tryz.func116 rfl fun c1 hc1=>?_;simp only[go_sem,cellsD,bA,Nat.reduceAdd,Nat.reduceLeDiff,Nat.reduceMul,Nat.reduceBEq,Nat.reduceLT,Nat.reduceSub]
 refine⟨rfl,?_⟩
 refine DOps.pure rfl .free rfl rfl ((concat_spec [x.loose,b] (by simp) (by simp;omega))) (by simp only[go_sem,bA,rowC];(repeat' first|exact .refl _|apply LeR.tup|apply Le.agg|constructor)) rfl rfl ?_
 refine Dg Tryz.func116 rfl ?_;simp only[go_sem,bA,List.flatten_cons,List.flatten_nil,Nat.reduceAdd,Nat.reduceLeDiff]
 exact⟨rfl,hR _ _ (.inl rfl)⟩
theorem cl_sync(x:DD)(hs:smD x):ClA 117 [] allS x:=by
 obtain⟨h1,h2,h3⟩:=id hs
 intro z R hR
 refine Sg Tryz.func117 rfl fun c1 hc1=>?_;simp only[go_sem,cellsD,bA,Nat.reduceAdd,Nat.reduceLeDiff,Nat.reduceMul,Nat.reduceBEq,Nat.reduceLT,Nat.reduceSub]
 refine⟨rfl,?_⟩
 refine DOps.pure rfl .free rfl rfl ((concat_spec [x.safe,x.loose] (by simp) (by simp;omega))) (by simp only[go_sem,bA,rowC];(repeat' first|exact .refl _|apply LeR.tup|apply Le.agg|constructor)) rfl rfl ?_
 refine Dg Tryz.func117 rfl ?_;simp only[go_sem,bA,List.flatten_cons,List.flatten_nil,Nat.reduceAdd,Nat.reduceLeDiff]
 exact⟨rfl,hR _ _ (.inr ⟨rfl,rfl⟩)⟩
theorem cl_replace(x:DD)(hs:smD x)(b:Bytes)(hb:b.length≤1000000):ClA 95 [.rptr [bA b]] (otherS b) x:=by
 obtain⟨h1,h2,h3⟩:=id hs
 intro z R hR
 refine Sg Tryz.func95 rfl fun c1 hc1=>?_;simp only[go_sem,cellsD,bA,Nat.reduceAdd,Nat.reduceSub]
 refine Ops.pure .free rfl rfl ((clone_spec b hb)) Vl rfl rfl ?_
 refine Og Tryz.func95 ?_;simp only[go_sem,bA,Nat.reduceAdd,Nat.reduceLeDiff]
 exact hR _ _ (.inr ⟨rfl,rfl⟩)
theorem dact_spec(d:DD)(hs:smD d)(n:Int)(g:FuncId)(ca:List AV)(hg:Callable Tryz.prog g)(F:DD→DD)(hcl:∀ dn fu,I64 fu→ClA g ca F ⟨d.cap,d.safe,d.loose,dn,fu⟩):ASpec Tryz.prog 94 [eD d,.int .i64 n,.fn (.func g) [] ca] (encDE (doS d n F)):=by
 obtain⟨h1,h2,h3⟩:=id hs
 cases hdn:d.down with
 |true=>
  refine⟨⟨_,Tryz.func94,by kernel_rfl,rfl⟩,Sg Tryz.func94 rfl fun c0 hc0=>?_⟩;simp only[go_sem,eD,bA,hdn,↓aT,Nat.reduceAdd,Nat.reduceLeDiff,Nat.reduceSub]
  have e:doS d n F=(⟨d.cap,d.safe,d.loose,true,d.fuse⟩,11):=by
   obtain⟨ca,sa,lo,dn,fu⟩:=d;dsimp only at hdn;subst hdn;simp[doS,actS]
  rw[e]
  exact Vr
 |false=>
  by_cases hf:d.fuse=0
  ·refine⟨⟨_,Tryz.func94,by kernel_rfl,rfl⟩,Sg Tryz.func94 rfl fun c0 hc0=>?_⟩;simp only[go_sem,eD,bA,hdn,hf,↓aT,↓aF,Nat.reduceAdd,Nat.reduceLeDiff,Nat.reduceSub]
   have e:doS d n F=(⟨d.cap,d.safe,d.loose,true,0⟩,11):=by
    obtain⟨ca,sa,lo,dn,fu⟩:=d;dsimp only at hdn hf;subst hdn hf;simp[doS,actS]
   rw[e]
   exact Vr
  ·have ha:actS d=(⟨d.cap,d.safe,d.loose,false,if 0<d.fuse then d.fuse-1 else d.fuse⟩,0):=by
    obtain⟨ca,sa,lo,dn,fu⟩:=d;dsimp only at hdn hf ⊢;subst hdn
    by_cases hp:0<fu<;>simp[actS,hf,hp]
   by_cases hc:d.cap<n
   ·refine⟨⟨_,Tryz.func94,by kernel_rfl,rfl⟩,Sg Tryz.func94 rfl fun c0 hc0=>?_⟩;simp only[go_sem,eD,bA,hdn,hf,hc,↓aT,↓aF,Nat.reduceAdd,Nat.reduceLeDiff,Nat.reduceSub]
    refine⟨fun hp=>⟨by unfold I64 at *;omega,?_⟩,fun hp=>?_⟩
    ·simp only[doS,ha,hp,hc,Ys]
     exact Vr
    ·simp only[doS,ha,hp,hc,Ys,Yr]
     exact Vr
   ·refine⟨⟨_,Tryz.func94,by kernel_rfl,rfl⟩,Sg Tryz.func94 rfl fun c0 hc0=>?_⟩;simp only[go_sem,eD,bA,hdn,hf,hc,↓aF,Nat.reduceAdd,Nat.reduceLeDiff,Nat.reduceSub]
    refine⟨fun hp=>⟨by unfold I64 at *;omega,?_⟩,fun hp=>?_⟩
    ·refine Ops.call .free rfl rfl hg (hcl false (d.fuse-1) (by unfold I64 at *;omega) _ _ fun ex cs hcs=>?_)
     rcases hcs with rfl|⟨hl,rfl⟩
     ·refine Og Tryz.func94 ?_;simp only[go_sem,cellsD,bA,Nat.reduceAdd]
      simp only[doS,ha,hp,hc,Ys,Yr]
      exact Vr
     ·refine Og Tryz.func94 ?_;simp only[go_sem,bA,Nat.reduceAdd]
      simp only[doS,ha,hp,hc,Ys,Yr,encDE,eD,bA,hl]
      (repeat' first|exact .refl _|apply LeR.tup|apply Le.agg|constructor)
    ·refine Ops.call .free rfl rfl hg (hcl false d.fuse h3 _ _ fun ex cs hcs=>?_)
     rcases hcs with rfl|⟨hl,rfl⟩
     ·refine Og Tryz.func94 ?_;simp only[go_sem,cellsD,bA,Nat.reduceAdd]
      simp only[doS,ha,hp,hc,Ys,Yr]
      exact Vr
     ·refine Og Tryz.func94 ?_;simp only[go_sem,bA,Nat.reduceAdd]
      simp only[doS,ha,hp,hc,Ys,Yr,encDE,eD,bA,hl]
      (repeat' first|exact .refl _|apply LeR.tup|apply Le.agg|constructor)
theorem long_spec(d:DD)(hs:smD d):ASpec Tryz.prog 115 [eD d] (.int .i64 (longS d:Nat)):=by
 obtain⟨h1,h2,h3⟩:=id hs
 refine⟨⟨_,Tryz.func115,by kernel_rfl,rfl⟩,Sg Tryz.func115 rfl fun c0 hc0=>?_⟩;simp only[go_sem,eD,bA,Nat.reduceAdd,Nat.reduceLeDiff,Nat.reduceSub]
 refine⟨by unfold I64;omega,?_⟩
 simp only[longS,Int.natCast_add]
 exact Vr
theorem dread_spec(d:DD)(hs:smD d):ASpec Tryz.prog 43 [eD d] (.tup [bA (readS d).1,.int .i64 (readS d).2]):=by
 obtain⟨h1,h2,h3⟩:=hs
 cases h:d.down with
 |true=>
  refine⟨⟨_,Tryz.func43,by kernel_rfl,rfl⟩,Sg Tryz.func43 rfl fun c0 hc0=>?_⟩;simp only[go_sem,eD,bA,h,↓aT,Nat.reduceAdd,Nat.reduceLeDiff,Nat.reduceSub]
  simp only[readS,h,Ys]
  (repeat' first|exact .refl _|apply LeR.tup|apply Le.agg|constructor)
 |false=>
  refine⟨⟨_,Tryz.func43,by kernel_rfl,rfl⟩,Sg Tryz.func43 rfl fun c0 hc0=>?_⟩;simp only[go_sem,eD,bA,h,↓aF,Nat.reduceAdd,Nat.reduceLeDiff,Nat.reduceMul,Nat.reduceBEq,Nat.reduceLT,Nat.reduceSub]
  refine Ops.pure .free rfl rfl ((concat_spec [d.safe,d.loose] (by simp) (by simp;omega))) (by simp only[go_sem,bA,rowC];(repeat' first|exact .refl _|apply LeR.tup|apply Le.agg|constructor)) rfl rfl ?_
  refine Og Tryz.func43 ?_;simp only[go_sem,List.flatten_cons,List.flatten_nil]
  simp only[readS,h,Yr,reduceCtorEq]
  exact Vr
theorem dblow_spec(d:DD)(n:Int):ASpec Tryz.prog 53 [eD d,.int .i64 n] (eD (blowS d n)):=by
 cases h:d.down with
 |true=>
  refine⟨⟨_,Tryz.func53,by kernel_rfl,rfl⟩,Sg Tryz.func53 rfl fun c0 hc0=>?_⟩;simp only[go_sem,eD,bA,h,↓aF,Nat.reduceAdd,Nat.reduceLeDiff,Nat.reduceSub]
  simp only[blowS,h,Ys]
  exact Vr
 |false=>
  refine⟨⟨_,Tryz.func53,by kernel_rfl,rfl⟩,Sg Tryz.func53 rfl fun c0 hc0=>?_⟩;simp only[go_sem,eD,bA,h,↓aT,Nat.reduceAdd,Nat.reduceLeDiff,Nat.reduceSub]
  simp only[blowS,h,Yr,reduceCtorEq]
  exact Vr
theorem dcrash_spec(d:DD)(hs:smD d)(n:Int):ASpec Tryz.prog 54 [eD d,.int .i64 n] (eD (crashS d n)):=by
 obtain⟨h1,h2,h3⟩:=id hs
 refine⟨⟨_,Tryz.func54,by kernel_rfl,rfl⟩,Sg Tryz.func54 rfl fun c0 hc0=>?_⟩;simp only[go_sem,eD,bA,Int.reduceNeg,Nat.reduceAdd,Nat.reduceLeDiff,Nat.reduceMul,Nat.reduceBEq,Nat.reduceLT,Nat.reduceSub]
 refine⟨rfl,by omega,?_⟩
 rw[← List.map_take]
 refine DOps.pure rfl .free rfl rfl ((concat_spec [d.safe,d.loose.take (keepN n d.loose.length)] (by simp) (by simp;omega))) (by simp only[go_sem,bA,rowC];(repeat' first|exact .refl _|apply LeR.tup|apply Le.agg|constructor)) rfl rfl ?_
 refine Dg Tryz.func54 rfl ?_;simp only[go_sem,bA,List.flatten_cons,List.flatten_nil,Int.reduceNeg,Nat.reduceAdd,Nat.reduceLeDiff]
 refine⟨rfl,?_⟩
 simp only[crashS]
 (repeat' first|exact .refl _|apply LeR.tup|apply Le.agg|constructor)
theorem dsync_spec(d:DD)(hs:smD d):ASpec Tryz.prog 60 [eD d] (encDE (syncS d)):=by
 obtain⟨h1,h2,h3⟩:=id hs
 refine⟨⟨_,Tryz.func60,by kernel_rfl,rfl⟩,Sg Tryz.func60 rfl fun c0 hc0=>?_⟩;simp only[go_sem,eD,bA,Nat.reduceAdd,Nat.reduceSub]
 refine⟨rfl,?_⟩
 refine DOps.pure rfl .free rfl rfl (long_spec d hs) Vl rfl rfl ?_
 refine Dg Tryz.func60 rfl ?_;simp only[go_sem,Nat.reduceAdd]
 refine DOps.pure rfl .free rfl rfl (dact_spec d hs (longS d:Nat) 117 [] ⟨_,Tryz.func117,by kernel_rfl,rfl⟩ allS (fun dn fu hfu=>cl_sync _ ⟨h1,h2,hfu⟩)) Vl rfl rfl ?_
 refine Dg Tryz.func60 rfl ?_;simp only[go_sem,eD,encDE,bA,Nat.reduceAdd]
 refine⟨rfl,?_⟩
 simp only[syncS]
 exact Vr
theorem dreplace_spec(d:DD)(hs:smD d)(b:Bytes)(hb:b.length≤1000000):ASpec Tryz.prog 45 [eD d,bA b] (encDE (replaceS d b)):=by
 obtain⟨h1,h2,h3⟩:=id hs
 refine⟨⟨_,Tryz.func45,by kernel_rfl,rfl⟩,ACall.of Tryz.func45 rfl fun c0 hc0=>?_⟩;simp only[Nat.reduceAdd,Nat.reduceSub,go_sem];refine Run.god tab_ok follows_ok Tryz.func45 2 ?_;simp only[go_sem,eD,bA,Nat.reduceAdd]
 refine Run.weak (Weak.freeze 3 1 _ rfl rfl) ?_
 refine Rg Tryz.func45 ?_;simp only[go_sem,Nat.reduceAdd]
 refine Ops.pure .free rfl rfl (dact_spec d hs (b.length:Nat) 95 [.rptr [bA b]] ⟨_,Tryz.func95,by kernel_rfl,rfl⟩ (otherS b) (fun dn fu hfu=>cl_replace ⟨d.cap,d.safe,d.loose,dn,fu⟩ ⟨h1,h2,hfu⟩ b hb)) Vl rfl rfl ?_
 refine Og Tryz.func45 ?_;simp only[go_sem,eD,encDE,bA,Nat.reduceAdd]
 simp only[replaceS]
 exact Vr
theorem dwrite_spec(d:DD)(hs:smD d)(b:Bytes)(hb:b.length≤1000000):ASpec Tryz.prog 59 [eD d,bA b] (encDE (writeS d b)):=by
 obtain⟨h1,h2,h3⟩:=id hs
 refine⟨⟨_,Tryz.func59,by kernel_rfl,rfl⟩,ACall.of Tryz.func59 rfl fun c0 hc0=>?_⟩;simp only[Nat.reduceAdd,Nat.reduceSub,go_sem];refine Run.god tab_ok follows_ok Tryz.func59 2 ?_;simp only[go_sem,eD,bA,Nat.reduceAdd]
 refine Run.weak (Weak.freeze 3 1 _ rfl rfl) ?_
 refine Rg Tryz.func59 ?_;simp only[go_sem,Nat.reduceAdd]
 refine⟨rfl,?_⟩
 refine DOps.pure rfl .free rfl rfl (long_spec d hs) Vl rfl rfl ?_
 refine Dg Tryz.func59 rfl ?_;simp only[go_sem,Nat.reduceAdd]
 refine⟨by unfold I64 longS;omega,?_⟩
 rw[← Int.natCast_add]
 refine DOps.pure rfl .free rfl rfl (dact_spec d hs (longS d+b.length:Nat) 116 [.rptr [bA b]] ⟨_,Tryz.func116,by kernel_rfl,rfl⟩ (addS b) (fun dn fu hfu=>cl_write ⟨d.cap,d.safe,d.loose,dn,fu⟩ ⟨h1,h2,hfu⟩ b hb)) Vl rfl rfl ?_
 refine Dg Tryz.func59 rfl ?_;simp only[go_sem,eD,encDE,bA,Nat.reduceAdd]
 refine⟨rfl,?_⟩
 simp only[writeS]
 exact Vr
def eW(g:WL):AV:=.agg [.int .i64 g.d.cap,bA g.d.safe,bA g.d.loose,.bool g.d.down,.int .i64 g.d.fuse,rA g.l]
def encWE(x:WL×Int):AV:=.tup [eW x.1,.int .i64 x.2]
theorem i64_iff(n:Int):i64 n↔I64 n:=Iff.rfl
theorem do_sm{d:DD}(hs:smD d)(n:Int)(f:DD→DD)(hf:∀ dn fu,I64 fu→¬d.cap<n→smD (f ⟨d.cap,d.safe,d.loose,dn,fu⟩)):smD (doS d n f).1:=by
 obtain⟨h1,h2,h3⟩:=hs
 obtain⟨dn,fu,z,ha,hfu,hz⟩:=act_cases d h3
 rcases hz with⟨rfl,rfl⟩|⟨rfl,rfl,_⟩
 ·rw[do_down ha];exact⟨h1,h2,hfu⟩
 ·by_cases hc:d.cap<n
  ·rw[do_full ha hc];exact⟨h1,h2,hfu⟩
  ·rw[do_ok ha hc];exact hf false fu hfu hc
theorem write_sm{d:DD}(hs:smD d)(hr:rightB d=true)(b:Bytes):smD (writeS d b).1:=by
 obtain⟨r1,r2,r3⟩:=(right_iff d).1 hr
 refine do_sm hs _ _ fun dn fu hfu hc=>⟨hs.1,?_,hfu⟩
 show(d.loose++b).length≤1000000
 unfold longS at hc
 rw[List.length_append];omega
theorem take_succ_snoc{α:Type}{l:List α}{k:Nat}{x:α}(h:l[k]? = some x):l.take (k+1)=l.take k++[x]:=by
 rw[List.take_add_one,h];rfl
theorem frs_snoc{l:List Bytes}{k:Nat}{x:Bytes}(h:l[k]? = some x):frs (l.take (k+1))=frs (l.take k)++fr x:=by
 rw[take_succ_snoc h,frs_append];simp[frs]
theorem frs_take_le(l:List Bytes)(k:Nat):(frs (l.take k)).length≤(frs l).length:=by
 conv=>rhs;rw[← List.take_append_drop k l,frs_append]
 rw[List.length_append];omega
theorem wopen_spec(d:DD)(hs:smD d)(hb:(allD d).length≤1000000):ASpec Tryz.prog 13 [eD d] (encWE (openS d)):=by
 have hrd:=dread_spec d hs
 have hsc:=scan15_spec (allD d) (by omega)
 cases hd:d.down with
 |true=>
  rw[show readS d=([],11) by unfold readS;rw[if_pos hd]] at hrd
  rw[show openS d=(⟨d,[]⟩,11) by unfold openS;rw[if_pos hd]]
  refine⟨⟨_,Tryz.func13,by kernel_rfl,rfl⟩,Sg Tryz.func13 rfl fun c0 hc0=>?_⟩;simp only[go_sem,eD,bA,Nat.reduceAdd,Nat.reduceSub]
  refine Ops.pure .free rfl rfl (hrd) Vl rfl rfl ?_
  refine Og Tryz.func13 ?_;simp only[go_sem,bA,↓aT,Int.reduceEq,Nat.reduceAdd,Nat.reduceLeDiff]
  simp only[encWE,eW,rA,bA,Ye]
  (repeat' first|exact .refl _|apply LeR.tup|apply Le.agg|constructor)
 |false=>
 have hdn:¬d.down=true:=by rw[hd];decide
 rw[show readS d=(allD d,0) by unfold readS allD;rw[if_neg hdn]] at hrd
 have htg:=take_good d
 obtain⟨sp1,sp2⟩:=scanS_split (allD d)
 have hrl:(scanS (allD d)).2.length≤(allD d).length:=by
  have:=congrArg List.length sp1;rw[List.length_append] at this;omega
 have hfl:(frs (recordsS d)).length≤1000000:=by rw[← htg,List.length_take];omega
 have hrp:=dreplace_spec d hs (frs (recordsS d)) hfl
 rw[show(scanS (allD d)).1=recordsS d from rfl] at hsc
 obtain⟨T,hT⟩:∃ T,T=(scanS (allD d)).2:=⟨_,rfl⟩
 rw[← hT] at hsc htg hrl
 by_cases hq:T=[]∧d.loose=[]
 ·obtain⟨hq1,hq2⟩:=hq
  subst hq1
  rw[show openS d=(⟨d,recordsS d⟩,0) by unfold openS;rw[if_neg hdn,if_pos ⟨hT.symm,hq2⟩]]
  have hl1:¬((allD d).length:Int)-0<(allD d).length:=by omega
  have hl2:(d.loose.length:Int)=0:=by rw[hq2];rfl
  have hl3:¬(0:Int)<0:=by omega
  refine⟨⟨_,Tryz.func13,by kernel_rfl,rfl⟩,Sg Tryz.func13 rfl fun c0 hc0=>?_⟩;simp only[go_sem,eD,bA,Nat.reduceAdd,Nat.reduceSub]
  refine Ops.pure .free rfl rfl (hrd) Vl rfl rfl ?_
  refine Og Tryz.func13 ?_;simp only[go_sem,bA,↓aF]
  refine Ops.pure .free rfl rfl (hsc) Vl rfl rfl ?_
  refine Og Tryz.func13 ?_;simp only[go_sem,rA,hl1,hl2,hl3,↓aF,↓bF,↓gF,Nat.reduceAdd,Nat.reduceLeDiff]
  simp only[encWE,eW,rA,bA]
  exact Vr
 ·have hkk:(((allD d).length:Int)-(T.length:Nat)).toNat=(allD d).length-T.length:=by omega
  have hkl:(allD d).length-T.length≤(allD d).length:=by omega
  have hnq:¬((scanS (allD d)).2=[]∧d.loose=[]):=by rw[← hT];exact hq
  have hcase:((allD d).length:Int)-(T.length:Nat)<(allD d).length∨¬((allD d).length:Int)-(T.length:Nat)<(allD d).length∧(0:Int)<d.loose.length:=by
   by_cases h0:T=[]
   ·refine .inr ⟨by rw[h0];simp,?_⟩
    have:=List.length_pos_iff.2 (fun e=>hq ⟨h0,e⟩);omega
   ·have:=List.length_pos_iff.2 h0;exact .inl (by omega)
  obtain⟨x,z,hz⟩:∃ x z,replaceS d (frs (recordsS d))=(x,z):=⟨_,_,rfl⟩
  rw[hz] at hrp
  have key:(allD d).take ((allD d).length-T.length)=frs (recordsS d):=htg
  by_cases hz0:z=0
  ·subst hz0
   rw[show openS d=(⟨x,recordsS d⟩,0) by unfold openS;rw[if_neg hdn,if_neg hnq,hz,if_pos rfl]]
   rcases hcase with hc|⟨hc1,hc2⟩
   ·refine⟨⟨_,Tryz.func13,by kernel_rfl,rfl⟩,Sg Tryz.func13 rfl fun c0 hc0=>?_⟩;simp only[go_sem,eD,bA,Nat.reduceAdd,Nat.reduceSub]
    refine Ops.pure .free rfl rfl (hrd) Vl rfl rfl ?_
    refine Og Tryz.func13 ?_;simp only[go_sem,bA,↓aF]
    refine Ops.pure .free rfl rfl (hsc) Vl rfl rfl ?_
    refine Og Tryz.func13 ?_;simp only[go_sem,rA,hc,hkk,↓aT,↓bT,↓gV,Nat.reduceAdd]
    (and_intros<;>try first|rfl|omega)
    rw[← List.map_take,key]
    refine DOps.pure rfl .free rfl rfl (hrp) Vl rfl rfl ?_
    refine Dg Tryz.func13 rfl ?_;simp only[go_sem,encDE,eD,bA,↓aF,Nat.reduceAdd,Nat.reduceLeDiff]
    (and_intros<;>try first|rfl|omega)
    simp only[encWE,eW,rA,bA]
    exact Vr
   ·refine⟨⟨_,Tryz.func13,by kernel_rfl,rfl⟩,Sg Tryz.func13 rfl fun c0 hc0=>?_⟩;simp only[go_sem,eD,bA,Nat.reduceAdd,Nat.reduceSub]
    refine Ops.pure .free rfl rfl (hrd) Vl rfl rfl ?_
    refine Og Tryz.func13 ?_;simp only[go_sem,bA,↓aF]
    refine Ops.pure .free rfl rfl (hsc) Vl rfl rfl ?_
    refine Og Tryz.func13 ?_;simp only[go_sem,rA,hc1,hc2,hkk,↓aT,↓bF,↓gF,Nat.reduceAdd,Nat.reduceLeDiff]
    (and_intros<;>try first|rfl|omega)
    rw[← List.map_take,key]
    refine DOps.pure rfl .free rfl rfl (hrp) Vl rfl rfl ?_
    refine Dg Tryz.func13 rfl ?_;simp only[go_sem,encDE,eD,bA,↓aF,Nat.reduceAdd,Nat.reduceLeDiff]
    (and_intros<;>try first|rfl|omega)
    simp only[encWE,eW,rA,bA]
    exact Vr
  ·rw[show openS d=(⟨x,[]⟩,z) by unfold openS;rw[if_neg hdn,if_neg hnq,hz,if_neg hz0]]
   rcases hcase with hc|⟨hc1,hc2⟩
   ·refine⟨⟨_,Tryz.func13,by kernel_rfl,rfl⟩,Sg Tryz.func13 rfl fun c0 hc0=>?_⟩;simp only[go_sem,eD,bA,Nat.reduceAdd,Nat.reduceSub]
    refine Ops.pure .free rfl rfl (hrd) Vl rfl rfl ?_
    refine Og Tryz.func13 ?_;simp only[go_sem,bA,↓aF]
    refine Ops.pure .free rfl rfl (hsc) Vl rfl rfl ?_
    refine Og Tryz.func13 ?_;simp only[go_sem,rA,hc,hkk,↓aT,↓bT,↓gV,Nat.reduceAdd]
    (and_intros<;>try first|rfl|omega)
    rw[← List.map_take,key]
    refine DOps.pure rfl .free rfl rfl (hrp) Vl rfl rfl ?_
    refine Dg Tryz.func13 rfl ?_;simp only[go_sem,encDE,eD,bA,hz0,↓aT,Nat.reduceAdd,Nat.reduceLeDiff]
    (and_intros<;>try first|rfl|omega)
    simp only[encWE,eW,rA,bA,Ye]
    (repeat' first|exact .refl _|apply LeR.tup|apply Le.agg|constructor)
   ·refine⟨⟨_,Tryz.func13,by kernel_rfl,rfl⟩,Sg Tryz.func13 rfl fun c0 hc0=>?_⟩;simp only[go_sem,eD,bA,Nat.reduceAdd,Nat.reduceSub]
    refine Ops.pure .free rfl rfl (hrd) Vl rfl rfl ?_
    refine Og Tryz.func13 ?_;simp only[go_sem,bA,↓aF]
    refine Ops.pure .free rfl rfl (hsc) Vl rfl rfl ?_
    refine Og Tryz.func13 ?_;simp only[go_sem,rA,hc1,hc2,hkk,↓aT,↓bF,↓gF,Nat.reduceAdd,Nat.reduceLeDiff]
    (and_intros<;>try first|rfl|omega)
    rw[← List.map_take,key]
    refine DOps.pure rfl .free rfl rfl (hrp) Vl rfl rfl ?_
    refine Dg Tryz.func13 rfl ?_;simp only[go_sem,encDE,eD,bA,hz0,↓aT,Nat.reduceAdd,Nat.reduceLeDiff]
    (and_intros<;>try first|rfl|omega)
    simp only[encWE,eW,rA,bA,Ye]
    (repeat' first|exact .refl _|apply LeR.tup|apply Le.agg|constructor)
theorem large1_spec(x:Bytes):ASpec Tryz.prog 57 [bA x] (.bool (decide (20000<x.length))):=by
 have e:decide (20000<x.length)=decide ((20000:Int)<(x.length:Int)):=by rw[Bool.eq_iff_iff];simp;omega
 rw[e]
 refine⟨⟨_,Tryz.func57,by kernel_rfl,rfl⟩,Sg Tryz.func57 rfl fun c0 hc0=>?_⟩;simp only[go_sem,bA,Nat.reduceSub]
 exact Vr
def votesB(l:List Acc):Bool:=decide (l.length≤30)&&l.all fun a=>decide ((a.value.length:Int)≤300)
theorem votes_spec(l:List Acc):ASpec Tryz.prog 46 [vA l] (.bool (votesB l)):=by
 refine⟨⟨_,Tryz.func46,by kernel_rfl,rfl⟩,Sg Tryz.func46 rfl fun c0 hc0=>?_⟩;simp only[go_sem,vA,Nat.reduceSub]
 refine Run.loopV (α:=Nat) (fun k=>k≤l.length∧k≤30∧∀ a∈l.take k,(a.value.length:Int)≤300) (fun k=>[(3,.int .i64 k)]) 0 (fun _=>[]) (fun k=>l.length-k) 0 ⟨Nat.zero_le _,by omega,by simp⟩ ?_ ?_
 ·simp only[go_sem,writes,junks,puts,hputs,List.filterMap_cons,List.filterMap_nil]
  (refine Weak.of (by simp[hc0]) ?_ ?_<;>(repeat' first|exact .refl _|exact .junk _|exact .nil _|exact .tok _ _ _|rfl|apply LeB.same|apply LeB.box|apply Le.agg|apply Le.one|constructor))
 rintro k ⟨hk0,hk30,hall⟩ ih
 simp only[writes,junks,puts,hputs,List.filterMap_cons,List.filterMap_nil,Y6,Y7,Yk,Y5,Y3,Yd] at ih ⊢
 by_cases hk:k<l.length
 case pos=>
  obtain⟨x,hx⟩:∃ x,l[k]? = some x:=⟨_,Vb hk⟩
  have hkk:(k:Int)<l.length:=by omega
  by_cases h30:k=30
  ·have h30e:=eq_true (show(k:Int)=30 by omega)
   rw[show votesB l=false by
    unfold votesB
    rw[decide_eq_false (by omega)];rfl]
   refine Rg Tryz.func46 ?_;simp only[go_sem,hkk,h30e,↓aT,↓bT,↓gV]
   (and_intros<;>try first|rfl|omega)
   exact Vr
  ·have h30':¬(k:Int)=30:=by omega
   by_cases hv:(300:Int)<x.value.length
   ·rw[show votesB l=false by
     unfold votesB
     rw[Bool.and_eq_false_iff]
     refine .inr (List.all_eq_false.2 ⟨x,Vd hx,?_⟩)
     simp;omega]
    refine Rg Tryz.func46 ?_;simp only[go_sem,hx,hkk,h30',hv,aC,Vg,↓aT,↓bF,↓gF,Nat.reduceLT,reduceCtorEq]
    (and_intros<;>try first|rfl|omega)
    exact Vr
   ·refine Rg Tryz.func46 ?_;simp only[go_sem,hx,hkk,h30',hv,aC,Vg,↓aT,↓aF,↓bF,↓gF,Nat.reduceLT,reduceCtorEq]
    (and_intros<;>try first|rfl|omega)
    refine ih (k+1) _ ⟨by omega,by omega,fun a ha=>?_⟩ (by omega) ?_
    ·rw[take_succ_snoc hx] at ha
     rcases List.mem_append.1 ha with ha|ha
     ·exact hall a ha
     ·rw[List.mem_singleton.1 ha];omega
    ·simp only[Int.natCast_add,Int.natCast_one]
     (refine Weak.of (by simp[hc0]) ?_ ?_<;>(repeat' first|exact .refl _|exact .junk _|exact .nil _|exact .tok _ _ _|rfl|apply LeB.same|apply LeB.box|apply Le.agg|apply Le.one|constructor))
 case neg=>
  obtain rfl:k=l.length:=by omega
  have hkk:¬(l.length:Int)<l.length:=by omega
  rw[List.take_length] at hall
  rw[show votesB l=true by
   unfold votesB
   rw[decide_eq_true hk30,Bool.true_and,List.all_eq_true]
   exact fun a ha=>by simpa using hall a ha]
  refine Rg Tryz.func46 ?_;simp only[go_sem,hkk,↓aF]
  (and_intros<;>try first|rfl|omega)
  exact Vr
structure TAct where
 kind:Int
 n:Int
 view:Int
 value:Bts
 cert:List Rp
 vote:Acc
def tC(x:TAct):List AV:=[.int .i64 x.kind,.int .i64 x.n,.int .i64 x.view,.str x.value,rpsA x.cert,.int .i64 x.vote.by_,.int .i64 x.vote.view,.str x.vote.value]
def tactsA(l:List TAct):AV:=.sl 8 (l.map tC) .no
def smallR(r:Rp):Bool:=decide ((r.value.length:Int)≤300)&&votesB r.proof
def smallX(x:TAct):Bool:=decide ((x.value.length:Int)≤300)&&decide ((x.cert.length:Int)≤30)&&decide ((x.vote.value.length:Int)≤300)&&x.cert.all smallR
def smallB(l:List TAct):Bool:=decide (l.length≤40)&&l.all smallX
theorem small_no{l:List TAct}{x:TAct}{k:Nat}(hx:l[k]? = some x)(h:smallX x=false):smallB l=false:=by
 unfold smallB
 rw[Bool.and_eq_false_iff]
 exact .inr (List.all_eq_false.2 ⟨x,Vd hx,by simp[h]⟩)
theorem small_spec(l:List TAct):ASpec Tryz.prog 14 [tactsA l] (.bool (smallB l)):=by
 refine⟨⟨_,Tryz.func14,by kernel_rfl,rfl⟩,Sg Tryz.func14 rfl fun c0 hc0=>?_⟩;simp only[go_sem,tactsA,Nat.reduceSub]
 refine Run.loopV (α:=Nat) (fun k=>k≤l.length∧k≤40∧∀ a∈l.take k,smallX a=true) (fun k=>[(3,.int .i64 k)]) 0 (fun _=>[]) (fun k=>l.length-k) 0 ⟨Nat.zero_le _,by omega,by simp⟩ ?_ ?_
 ·simp only[go_sem,writes,junks,puts,hputs,List.filterMap_cons,List.filterMap_nil]
  (refine Weak.of (by simp[hc0]) ?_ ?_<;>(repeat' first|exact .refl _|exact .junk _|exact .nil _|exact .tok _ _ _|rfl|apply LeB.same|apply LeB.box|apply Le.agg|apply Le.one|constructor))
 rintro k ⟨hk0,hk40,hall⟩ ih
 simp only[writes,junks,puts,hputs,List.filterMap_cons,List.filterMap_nil,Y6,Y7,Yk,Y5,Y3,Yd] at ih ⊢
 by_cases hk:k<l.length
 case neg=>
  obtain rfl:k=l.length:=by omega
  have hkk:¬(l.length:Int)<l.length:=by omega
  rw[List.take_length] at hall
  rw[show smallB l=true by
   unfold smallB
   rw[decide_eq_true hk40,Bool.true_and,List.all_eq_true]
   exact hall]
  refine Rg Tryz.func14 ?_;simp only[go_sem,hkk,↓aF]
  (and_intros<;>try first|rfl|omega)
  exact Vr
 case pos=>
 obtain⟨x,hx⟩:∃ x,l[k]? = some x:=⟨_,Vb hk⟩
 have hkk:(k:Int)<l.length:=by omega
 by_cases h40:k=40
 ·have h40e:=eq_true (show(k:Int)=40 by omega)
  rw[show smallB l=false by
   unfold smallB
   rw[decide_eq_false (by omega)];rfl]
  refine Rg Tryz.func14 ?_;simp only[go_sem,hx,hkk,h40e,tC,rpsA,Vg,↓aT,↓bT,↓gV,Nat.reduceAdd,Nat.reduceLT]
  (and_intros<;>try first|rfl|omega)
  exact Vr
 have h40':¬(k:Int)=40:=by omega
 by_cases q1:(300:Int)<x.value.length
 ·rw[small_no hx (by unfold smallX;rw[decide_eq_false (show ¬(x.value.length:Int)≤300 by omega)];simp)]
  refine Rg Tryz.func14 ?_;simp only[go_sem,hx,hkk,h40',q1,tC,rpsA,Vg,↓aT,↓bT,↓bF,↓gV,↓gF,Nat.reduceAdd,Nat.reduceLeDiff,Nat.reduceLT]
  (and_intros<;>try first|rfl|omega)
  exact Vr
 by_cases q2:(30:Int)<x.cert.length
 ·rw[small_no hx (by unfold smallX;rw[decide_eq_false (show ¬(x.cert.length:Int)≤30 by omega)];simp)]
  refine Rg Tryz.func14 ?_;simp only[go_sem,hx,hkk,h40',q1,q2,tC,rpsA,Vg,↓aT,↓bT,↓bF,↓gV,↓gF,Nat.reduceAdd,Nat.reduceLeDiff,Nat.reduceLT]
  (and_intros<;>try first|rfl|omega)
  exact Vr
 by_cases q3:(300:Int)<x.vote.value.length
 ·rw[small_no hx (by unfold smallX;rw[decide_eq_false (show ¬(x.vote.value.length:Int)≤300 by omega)];simp)]
  refine Rg Tryz.func14 ?_;simp only[go_sem,hx,hkk,h40',q1,q2,q3,tC,rpsA,Vg,↓aT,↓bF,↓gF,Nat.reduceAdd,Nat.reduceLeDiff,Nat.reduceLT]
  (and_intros<;>try first|rfl|omega)
  exact Vr
 obtain⟨C,hC⟩:∃ C,C=x.cert:=⟨_,rfl⟩
 have hsx:smallX x=C.all smallR:=by
  unfold smallX
  rw[decide_eq_true (show(x.value.length:Int)≤300 by omega),decide_eq_true (show(x.cert.length:Int)≤30 by omega),decide_eq_true (show(x.vote.value.length:Int)≤300 by omega),hC]
  simp
 rw[← hC] at q2
 refine Rg Tryz.func14 ?_;simp only[go_sem,hx,hkk,h40',q1,q2,q3,← hC,tC,rpsA,Vg,↓aT,↓aF,↓bF,↓gF,Nat.reduceAdd,Nat.reduceLeDiff,Nat.reduceLT]
 (and_intros<;>try first|rfl|omega)
 refine Run.loopV (α:=Nat) (fun j=>j≤C.length∧∀ a∈C.take j,smallR a=true) (fun j=>[(5,.int .i64 j)]) 1 (fun _=>[]) (fun j=>C.length-j) 0 ⟨Nat.zero_le _,by simp⟩ ?_ ?_
 ·simp only[go_sem,writes,junks,puts,hputs,List.filterMap_cons,List.filterMap_nil]
  (refine Weak.of (by simp[hc0]) ?_ ?_<;>(repeat' first|exact .refl _|exact .junk _|exact .nil _|exact .tok _ _ _|rfl|apply LeB.same|apply LeB.box|apply Le.agg|apply Le.one|constructor))
 rintro j ⟨hj0,hallj⟩ ihj
 simp only[writes,junks,puts,hputs,List.filterMap_cons,List.filterMap_nil,Y6,Y7,Yg,Yk,Y5,Y3,Yd] at ihj ⊢
 by_cases hj:j<C.length
 case neg=>
  obtain rfl:j=C.length:=by omega
  have hjj:¬(C.length:Int)<C.length:=by omega
  rw[List.take_length] at hallj
  refine Rg Tryz.func14 ?_;simp only[go_sem,hjj,↓aF,Nat.reduceAdd,Nat.reduceLeDiff,Nat.reduceBEq]
  (and_intros<;>try first|rfl|omega)
  refine ih (k+1) _ ⟨by omega,by omega,fun a ha=>?_⟩ (by omega) ?_
  ·rw[take_succ_snoc hx] at ha
   rcases List.mem_append.1 ha with ha|ha
   ·exact hall a ha
   ·rw[List.mem_singleton.1 ha,hsx,List.all_eq_true];exact hallj
  ·simp only[Int.natCast_add,Int.natCast_one]
   (refine Weak.of (by simp[hc0]) ?_ ?_<;>(repeat' first|exact .refl _|exact .junk _|exact .nil _|exact .tok _ _ _|rfl|apply LeB.same|apply LeB.box|apply Le.agg|apply Le.one|constructor))
 case pos=>
 obtain⟨r,hr⟩:∃ r,C[j]? = some r:=⟨_,Vb hj⟩
 have hjj:(j:Int)<C.length:=by omega
 have hno:smallR r=false→smallX x=false:=fun h=>by
  rw[hsx]
  exact List.all_eq_false.2 ⟨r,Vd hr,by simp[h]⟩
 by_cases q4:(300:Int)<r.value.length
 ·rw[small_no hx (hno (by unfold smallR;rw[decide_eq_false (show ¬(r.value.length:Int)≤300 by omega)];simp))]
  refine Rg Tryz.func14 ?_;simp only[go_sem,hr,hjj,q4,rpC,Vg,↓aT,↓bT,↓gV,Nat.reduceAdd,Nat.reduceLeDiff,Nat.reduceLT,reduceCtorEq]
  (and_intros<;>try first|rfl|omega)
  exact Vr
 have hvs:=votes_spec r.proof
 cases hvb:votesB r.proof with
 |false=>
  rw[hvb] at hvs
  rw[small_no hx (hno (by unfold smallR;rw[hvb];simp))]
  refine Rg Tryz.func14 ?_;simp only[go_sem,hr,hjj,q4,rpC,Vg,↓aT,↓bF,↓gF,Nat.reduceAdd,Nat.reduceLeDiff,Nat.reduceLT,reduceCtorEq]
  (and_intros<;>try first|rfl|omega)
  refine Ops.pure (Wanted.test 8 false false rfl) rfl rfl (hvs) Vl rfl rfl ?_
  refine Og Tryz.func14 ?_;simp only[go_sem,↓aT,↓bF,↓gF]
  (and_intros<;>try first|rfl|omega)
  exact Vr
 |true=>
  rw[hvb] at hvs
  have hrr:smallR r=true:=by unfold smallR;rw[hvb,decide_eq_true (show(r.value.length:Int)≤300 by omega)];rfl
  refine Rg Tryz.func14 ?_;simp only[go_sem,hr,hjj,q4,rpC,Vg,↓aT,↓bF,↓gF,Nat.reduceAdd,Nat.reduceLeDiff,Nat.reduceLT,reduceCtorEq]
  (and_intros<;>try first|rfl|omega)
  refine Ops.pure (Wanted.test 8 false false rfl) rfl rfl (hvs) Vl rfl rfl ?_
  refine Og Tryz.func14 ?_;simp only[go_sem,↓aF,↓bF,↓gF]
  (and_intros<;>try first|rfl|omega)
  refine ihj (j+1) _ ⟨by omega,fun a ha=>?_⟩ (by omega) ?_
  ·rw[take_succ_snoc hr] at ha
   rcases List.mem_append.1 ha with ha|ha
   ·exact hallj a ha
   ·rw[List.mem_singleton.1 ha];exact hrr
  ·simp only[Int.natCast_add,Int.natCast_one]
   (refine Weak.of (by simp[hc0]) ?_ ?_<;>(repeat' first|exact .refl _|exact .junk _|exact .nil _|exact .tok _ _ _|rfl|apply LeB.same|apply LeB.box|apply Le.agg|apply Le.one|constructor))
def sdC(d:Sd):List AV:=[.int .i64 d.vote.by_,.int .i64 d.vote.view,.str d.vote.value,.int .i64 d.view,.int .i64 d.proved]
def encSd(d:Sd):AV:=.agg (sdC d)
theorem pvw_cons(p:Acc)(l:List Acc):pvw (p::l)=p.view:=rfl
theorem has_spec(a:Acp)(d:Sd)(h:hasS a d=true):ASpec Tryz.prog 16 [eC a,encSd d] (.bool true):=by
 rw[has_iff] at h
 obtain⟨q1,q2,q3⟩:=h
 obtain⟨s,me,view,has,at_,value,proof,votes⟩:=a
 obtain⟨⟨db,dv,dx⟩,dw,dp⟩:=d
 dsimp only at q1 q2 q3
 by_cases g1:dv<0
 case pos=>
  by_cases g2:dp<0
  case pos=>
   refine⟨⟨_,Tryz.func16,by kernel_rfl,rfl⟩,Sg Tryz.func16 rfl fun c0 hc0=>?_⟩;simp only[go_sem,eC,pC,vA,encSd,sdC,q1,g1,g2,↓bT,↓gV,↓gdone_tt,↓gdone_ft,Nat.reduceAdd,Nat.reduceLeDiff,Nat.reduceSub]
   (and_intros<;>try first|rfl|omega)
   exact Vr
  case neg=>
   rcases q3 with q3|⟨q3,q4⟩
   ·exact absurd q3 g2
   cases proof with
   |nil=>exact absurd rfl q3
   |cons p l=>
    rw[pvw_cons] at q4
    have hl:(0:Int)<((l.length+1:Nat):Int):=by omega
    refine⟨⟨_,Tryz.func16,by kernel_rfl,rfl⟩,Sg Tryz.func16 rfl fun c0 hc0=>?_⟩;simp only[go_sem,eC,pC,vA,encSd,sdC,aC,q1,g1,g2,hl,q4,↓bT,↓bF,↓gV,↓gdone_tt,↓gU,Int.reduceLE,Nat.reduceAdd,Nat.reduceLeDiff,Nat.reduceLT,reduceCtorEq,Nat.reduceSub]
    (and_intros<;>try first|rfl|omega)
    exact Vr
 case neg=>
  rcases q2 with q2|⟨q2,q5,q6⟩
  ·exact absurd q2 g1
  subst q2
  by_cases g3:dv<at_
  case pos=>
   by_cases g2:dp<0
   case pos=>
    refine⟨⟨_,Tryz.func16,by kernel_rfl,rfl⟩,Sg Tryz.func16 rfl fun c0 hc0=>?_⟩;simp only[go_sem,eC,pC,vA,encSd,sdC,q1,g1,g2,g3,q5,↓bT,↓bF,↓gT,↓gV,↓gF,↓gdone_tt,↓gdone_ft,Nat.reduceAdd,Nat.reduceLeDiff,Nat.reduceSub]
    (and_intros<;>try first|rfl|omega)
    exact Vr
   case neg=>
    rcases q3 with q3|⟨q3,q4⟩
    ·exact absurd q3 g2
    cases proof with
    |nil=>exact absurd rfl q3
    |cons p l=>
     rw[pvw_cons] at q4
     have hl:(0:Int)<((l.length+1:Nat):Int):=by omega
     refine⟨⟨_,Tryz.func16,by kernel_rfl,rfl⟩,Sg Tryz.func16 rfl fun c0 hc0=>?_⟩;simp only[go_sem,eC,pC,vA,encSd,sdC,aC,q1,g1,g2,g3,q5,hl,q4,↓bT,↓bF,↓gT,↓gV,↓gF,↓gdone_tt,↓gU,Int.reduceLE,Nat.reduceAdd,Nat.reduceLeDiff,Nat.reduceLT,reduceCtorEq,Nat.reduceSub]
     (and_intros<;>try first|rfl|omega)
     exact Vr
  case neg=>
   rcases q6 with q6|q6
   ·exact absurd q6 g3
   subst q6
   by_cases g2:dp<0
   case pos=>
    refine⟨⟨_,Tryz.func16,by kernel_rfl,rfl⟩,Sg Tryz.func16 rfl fun c0 hc0=>?_⟩;simp only[go_sem,eC,pC,vA,encSd,sdC,q1,g1,g2,g3,q5,↓bT,↓bF,↓gT,↓gF,↓gdone_tt,↓gdone_ft,Nat.reduceAdd,Nat.reduceLeDiff,Nat.reduceSub]
    (and_intros<;>try first|rfl|omega)
    exact Vr
   case neg=>
    rcases q3 with q3|⟨q3,q4⟩
    ·exact absurd q3 g2
    cases proof with
    |nil=>exact absurd rfl q3
    |cons p l=>
     rw[pvw_cons] at q4
     have hl:(0:Int)<((l.length+1:Nat):Int):=by omega
     refine⟨⟨_,Tryz.func16,by kernel_rfl,rfl⟩,Sg Tryz.func16 rfl fun c0 hc0=>?_⟩;simp only[go_sem,eC,pC,vA,encSd,sdC,aC,q1,g1,g2,g3,q5,hl,q4,↓bT,↓bF,↓gT,↓gF,↓gdone_tt,↓gU,Int.reduceLE,Nat.reduceAdd,Nat.reduceLeDiff,Nat.reduceLT,reduceCtorEq,Nat.reduceSub]
     (and_intros<;>try first|rfl|omega)
     exact Vr
theorem lastA_some(s:Sz)(me:Int)(L:List Acp)(b:Acp)(h:L.getLast? = some b):lastA s me L=b:=by simp[lastA,h]
theorem opened_spec(s:Sz)(me:Int)(g:WL)(L:List Acp)(h0:newF s me=some (a0 s me))(hg:g.l=L.map tF)(hL:∀ b∈L,Lst s me b)(hLl:L.length≤1000000):ASpec Tryz.prog 21 [eS s,.int .i64 me,eW g] (.tup [eC (lastA s me L),.bool true]):=by
 obtain⟨⟨ca,sa,lo,dn,fu⟩,l⟩:=g
 dsimp only at hg
 subst hg
 cases hl:L.getLast? with
 |none=>
  obtain rfl:L=[]:=List.getLast?_eq_none_iff.1 hl
  have hn:=anew_spec s me
  have e:newA s me=.tup [eC (a0 s me),.int .i64 0]:=by simp[newA,h0]
  rw[e] at hn
  rw[show lastA s me []=a0 s me from rfl]
  refine⟨⟨_,Tryz.func21,by kernel_rfl,rfl⟩,Sg Tryz.func21 rfl fun c0 hc0=>?_⟩;simp only[go_sem,eW,eS,rA,bA,↓aT,Nat.reduceAdd,Nat.reduceSub]
  (and_intros<;>try first|rfl|omega)
  refine Ops.pure .free rfl rfl (hn) Vl rfl rfl ?_
  refine Og Tryz.func21 ?_;simp only[go_sem,eC,pC,vA,Nat.reduceAdd]
  (and_intros<;>try first|rfl|omega)
  exact Vr
 |some b=>
  rw[lastA_some s me L b hl]
  have hb:=hL b (List.mem_of_getLast? hl)
  have hld:=load_spec b hb.ok hb.eb
  rw[hb.es,hb.em] at hld
  have hpos:0<L.length:=List.length_pos_iff.2 (by rintro rfl;cases hl)
  have hx:L[L.length-1]? = some b:=by rw[← List.getLast?_eq_getElem?];exact hl
  have z0:¬((L.length:Nat):Int)=0:=by omega
  obtain⟨j,hj⟩:∃ j,j=L.length-1:=⟨_,rfl⟩
  have z1:((L.length:Nat):Int)-1=(j:Int):=by omega
  have z2:(j:Int)<L.length:=by omega
  rw[← hj] at hx
  refine⟨⟨_,Tryz.func21,by kernel_rfl,rfl⟩,Sg Tryz.func21 rfl fun c0 hc0=>?_⟩;simp only[go_sem,eW,eS,rA,rowC,bA,z0,z1,z2,hx,Vg,↓aF,Nat.reduceAdd,Nat.reduceLT,Nat.reduceSub]
  (and_intros<;>try first|rfl|omega)
  refine DOps.pure rfl .free rfl rfl (hld) Vl rfl rfl ?_
  refine Dg Tryz.func21 rfl ?_;simp only[go_sem,eC,pC,vA,Nat.reduceAdd]
  (and_intros<;>try first|rfl|omega)
  exact Vr
section
variable {P:Program} {f:FuncId} {c0:Cx} {R:AV→List ABlk→Prop} {ops:Array Oper} {n:Nat} {o:Oper} {rest:List Oper} {k:List Item} {s:AState}
end
def FrzW(k:Nat)(res:List (List AV))(r:AV)(h':List ABlk):Prop:=∃ i o n cap L,r=.msl i k o n cap∧h'[i]? = some (.rows k L)∧o+n≤L.length∧(L.drop o).take n=res
theorem ACall.frzW{P:Program}{f:FuncId}{args:List AV}{h:List ABlk}{k:Nat}{res:List (List AV)}(hk:0<k)(hp:∀ x∈res,∀ a∈x,a.plain=true)(H:ACall P f args h (FrzW k res)):ACall P f args h fun r _=>LeR r (.sl k res .no):=by
 refine ACall.freeze (H.mono ?_)
 rintro r h' ⟨i,o,n,cap,L,rfl,h1,h2,h3⟩
 exact⟨i,k,o,n,cap,L,rfl,h1,hk,h2,by rw[h3];exact hp,by rw[h3];exact .one (.refl _)⟩
theorem rowC_plain{l:List Bytes}:∀ x∈l.map rowC,∀ a∈x,a.plain=true:=by
 intro x hx a ha
 obtain⟨y,_,rfl⟩:=List.mem_map.1 hx
 simp only[rowC,List.mem_cons,List.not_mem_nil,or_false] at ha
 subst ha;rfl
theorem rowC_cell{l:List Bytes}:∀ x∈l.map rowC,∀ a∈x,a.cell=true:=fun x hx a ha=>AV.plain_cell (rowC_plain x hx a ha)
theorem growR_call(N:Int)(h0:0<N)(h1:N≤4000000)(R:AV→List ABlk→Prop)(hR:∀ cap,N.toNat≤cap→cap≤maxLen→R (.msl 0 1 0 0 cap) [.rows 1 (List.replicate N.toNat [.nils]++List.replicate (cap-N.toNat) [.nils])]) :
  ACall Tryz.prog 118 [.nils,.int .i64 N] [] R:=by
 have g1:¬N<0:=by omega
 have g2:N-0=N:=by omega
 have g3:I64 N:=by unfold I64;omega
 refine Sg Tryz.func118 rfl fun c1 hc1=>?_;simp only[go_sem,g1,g2,h0,Int.sub_self,↓aT,↓aF,Nat.reduceAdd,Nat.reduceSub]
 (and_intros<;>try first|rfl|omega)
 refine Ops.appendZ tab_ok .free rfl rfl rfl rfl rfl (by decide) (kd:=.i64) (kd':=.i64) (m:=N) rfl rfl h0 (.nils (by omega)) (by simp;omega) (by simp;omega) fun cap hcap hcm=>?_
 simp only[Y9,Yp,Y3] at hcap ⊢
 refine Og Tryz.func118 ?_;simp only[go_sem,Int.reduceLE]
 (and_intros<;>try first|rfl|omega)
 exact hR cap hcap hcm
theorem grow0_spec:ASpec Tryz.prog 118 [.nils,.int .i64 0] .nils:=by
 have z1:¬(0:Int)<0:=by omega
 refine⟨⟨_,Tryz.func118,by kernel_rfl,rfl⟩,Sg Tryz.func118 rfl fun c0 hc0=>?_⟩;simp only[go_sem,z1,Int.sub_self,↓aF,Nat.reduceAdd,Nat.reduceSub]
 (and_intros<;>try first|rfl|omega)
 exact Vr
theorem two_rows{α:Type}(L A B L1:List α)(_:A.length+B.length≤L.length)(hL:L1=A++L.drop A.length):(L1.take A.length++B++L1.drop (A.length+B.length)).take (A.length+B.length)=A++B∧A.length+B.length≤(L1.take A.length++B++L1.drop (A.length+B.length)).length:=by
 subst hL
 have e:(A++L.drop A.length).take A.length=A:=by simp
 rw[e]
 constructor
 ·rw[show A.length+B.length=(A++B).length by simp,List.take_left]
 ·simp only[List.length_append,List.length_drop];omega
theorem concatR_spec(a b:List Bytes)(ha:a.length≤1000000)(hb:b.length≤1000000):ASpec Tryz.prog 61 [.sl 1 [[rA a],[rA b]] .no] (rA (a++b)):=by
 have c2:((2:Nat):Int)=2:=rfl
 have g3:(1:Int)<2:=by omega
 have g4:¬(2:Int)<2:=by omega
 have g6:(0:Int)<2:=by omega
 have g7:(0:Int)+1=1:=by omega
 have g8:(1:Int)+1=2:=by omega
 by_cases h0:a.length+b.length=0
 ·obtain rfl:a=[]:=List.length_eq_zero_iff.1 (by omega)
  obtain rfl:b=[]:=List.length_eq_zero_iff.1 (by omega)
  have z0:(0:Int)+0=0:=by omega
  have z1:¬(0:Int)<0:=by omega
  refine⟨⟨_,Tryz.func61,by kernel_rfl,rfl⟩,Sg Tryz.func61 rfl fun c0 hc0=>?_⟩;simp only[go_sem,rA,c2,Nat.reduceAdd,Nat.reduceSub]
  refine Run.unloop ?_
  refine Rg Tryz.func61 ?_;simp only[go_sem,c2,z0,z1,g6,g7,↓aT,↓aF,Int.reduceLE,Nat.reduceAdd,Nat.reduceLT]
  (and_intros<;>try first|rfl|omega)
  refine Run.again ?_
  refine Rg Tryz.func61 ?_;simp only[go_sem,c2,z0,z1,g3,g8,Int.reduceToNat,↓aT,↓aF,Int.reduceLE,Nat.reduceAdd,Nat.reduceLT]
  (and_intros<;>try first|rfl|omega)
  refine Run.again ?_
  refine Rg Tryz.func61 ?_;simp only[go_sem,g4,↓aF]
  refine Ops.pure .free rfl rfl (grow0_spec) Vl rfl rfl ?_
  refine Og Tryz.func61 ?_;simp only[go_sem,c2,Nat.reduceAdd]
  refine Run.unloop ?_
  refine Rg Tryz.func61 ?_;simp only[go_sem,c2,g6,g7,↓aT,Int.reduceLE,Nat.reduceAdd,Nat.reduceLeDiff,Nat.reduceMul,Nat.reduceLT]
  (and_intros<;>try first|rfl|omega)
  refine Run.again ?_
  refine Rg Tryz.func61 ?_;simp only[go_sem,c2,g3,g8,Int.reduceToNat,↓aT,Int.reduceLE,Nat.reduceAdd,Nat.reduceLeDiff,Nat.reduceMul,Nat.reduceLT]
  (and_intros<;>try first|rfl|omega)
  refine Run.again ?_
  refine Rg Tryz.func61 ?_;simp only[go_sem,g4,↓aF]
  (repeat' first|exact .refl _|apply LeR.tup|apply Le.agg|constructor)
 ·refine⟨⟨_,Tryz.func61,by kernel_rfl,rfl⟩,ACall.frzW (res:=(a++b).map rowC) (by omega) rowC_plain ?_⟩
  have g1:¬(a.length:Int)<0:=by omega
  have g2:¬(a.length:Int)+b.length<0:=by omega
  have g5:(0:Int)+a.length=a.length:=by omega
  have i1:I64 (a.length:Int):=by unfold I64;omega
  have i2:I64 ((a.length:Int)+b.length):=by unfold I64;omega
  refine Sg Tryz.func61 rfl fun c1 hc1=>?_;simp only[go_sem,rA,c2,Nat.reduceAdd,Nat.reduceSub]
  refine Run.unloop ?_
  refine Rg Tryz.func61 ?_;simp only[go_sem,c2,g1,g5,g6,g7,↓aT,↓aF,Int.reduceLE,Nat.reduceAdd,Nat.reduceLT]
  (and_intros<;>try first|rfl|omega)
  refine Run.again ?_
  refine Rg Tryz.func61 ?_;simp only[go_sem,c2,g2,g3,g8,Int.reduceToNat,↓aT,↓aF,Int.reduceLE,Nat.reduceAdd,Nat.reduceLT]
  (and_intros<;>try first|rfl|omega)
  refine Run.again ?_
  refine Rg Tryz.func61 ?_;simp only[go_sem,g4,↓aF]
  refine Ops.call .free rfl rfl ⟨_,Tryz.func118,by kernel_rfl,rfl⟩ (growR_call ((a.length:Int)+b.length) (by omega) (by omega) _ fun cap hcap hcm=>?_)
  have hcn:((a.length:Int)+b.length).toNat=a.length+b.length:=by omega
  rw[hcn] at hcap ⊢
  obtain⟨L,hL⟩:∃ L,L=List.replicate (a.length+b.length) [AV.nils]++List.replicate (cap-(a.length+b.length)) [AV.nils]:=⟨_,rfl⟩
  have hLl:L.length=cap:=by rw[hL];simp;omega
  rw[← hL]
  have hca:a.length≤cap:=by omega
  have hcab:a.length+b.length≤cap:=by omega
  have hca':a.length≤L.length:=by omega
  have hcab':a.length+b.length≤L.length:=by omega
  refine Og Tryz.func61 ?_;simp only[go_sem,c2,Nat.reduceAdd]
  refine Run.unloop ?_
  refine Rg Tryz.func61 ?_;simp only[go_sem,hca,g6,g7,↓aT,Int.reduceLE,Nat.reduceAdd,Nat.reduceLT]
  (and_intros<;>try first|rfl|omega)
  ·exact rowC_cell
  refine Run.again ?_
  refine Rg Tryz.func61 ?_;simp only[go_sem,hcab,c2,g3,g8,Int.reduceToNat,↓aT,Int.reduceLE,Nat.reduceAdd,Nat.reduceLT]
  (and_intros<;>try first|rfl|omega)
  ·simp only[List.length_append,Yo,List.length_drop];omega
  ·exact rowC_cell
  refine Run.again ?_
  refine Rg Tryz.func61 ?_;simp only[go_sem,g4,↓aF]
  have ht:=two_rows L (a.map rowC) (b.map rowC) _ (by simp only[Yo];exact hcab') rfl
  simp only[Yo] at ht
  exact⟨0,0,a.length+b.length,cap,_,rfl,rfl,by rw[Nat.zero_add];exact ht.2,by rw[List.drop_zero,List.map_append];exact ht.1⟩
theorem fi_some{p:Bytes→Bool}{l:List Bytes}{k:Nat}{x:Bytes}(hk:l[k]? = some x)(hp:p x=true)(hlt:∀ j y,j<k→l[j]? = some y→p y=false):l.findIdx? p=some k:=by
 obtain⟨h1,rfl⟩:=Va hk
 rw[List.findIdx?_eq_some_iff_getElem]
 exact⟨h1,hp,fun j hj=>by have:=hlt j _ hj (Vb (by omega));simp[this]⟩
theorem fi_none{p:Bytes→Bool}{l:List Bytes}(h:∀ j y,j<l.length→l[j]? = some y→p y=false):l.findIdx? p=none:=by
 rw[List.findIdx?_eq_none_iff]
 intro x hx
 obtain⟨j,hj⟩:=List.getElem?_of_mem hx
 exact h j x (Va hj).1 hj
def largeP(x:Bytes):Bool:=decide (20000<x.length)
def fiI(l:List Bytes):Int:=((l.findIdx? largeP).map fun n=>(n:Int)).getD (-1)
theorem index_spec(l:List Bytes)(hl:l.length≤100000000):ASpec Tryz.prog 111 [rA l,.fn (.func 57) [] []] (.int .i64 (fiI l)):=by
 refine⟨⟨_,Tryz.func111,by kernel_rfl,rfl⟩,Sg Tryz.func111 rfl fun c0 hc0=>?_⟩;simp only[go_sem,rA,Int.reduceNeg,Nat.reduceAdd,Nat.reduceSub]
 refine Run.loopV (α:=Nat) (fun k=>k≤l.length∧∀ j y,j<k→l[j]? = some y→largeP y=false) (fun k=>[(8,.int .i64 k)]) 0 (fun _=>[]) (fun k=>l.length-k) 0 ⟨Nat.zero_le _,fun j y h=>absurd h (Nat.not_lt_zero j)⟩ ?_ ?_
 ·simp only[go_sem,writes,junks,puts,hputs,List.filterMap_cons,List.filterMap_nil]
  (refine Weak.of (by simp[hc0]) ?_ ?_<;>(repeat' first|exact .refl _|exact .junk _|exact .nil _|exact .tok _ _ _|rfl|apply LeB.same|apply LeB.box|apply Le.agg|apply Le.one|constructor))
 rintro k ⟨hI,hq⟩ ih
 simp only[writes,junks,puts,hputs,List.filterMap_cons,List.filterMap_nil,Y6,Y7,Yk,Y5,Y3,Yd] at ih ⊢
 by_cases hk:k<l.length
 ·obtain⟨x,hx⟩:∃ x,l[k]? = some x:=⟨_,Vb hk⟩
  have hkk:(k:Int)<l.length:=by omega
  have hls:=large1_spec x
  cases hp:largeP x with
  |true=>
   rw[show decide (20000<x.length)=true from hp] at hls
   refine Rg Tryz.func111 ?_;simp only[go_sem,hx,hkk,rowC,Vg,↓aT,Int.reduceNeg,Nat.reduceAdd,Nat.reduceLT]
   (and_intros<;>try first|rfl|omega)
   refine Ops.pure .free rfl rfl (hls) Vl rfl rfl ?_
   refine Og Tryz.func111 ?_;simp only[go_sem,↓aT]
   rw[show fiI l=k by unfold fiI;rw[fi_some hx hp hq];rfl]
   exact Vr
  |false=>
   rw[show decide (20000<x.length)=false from hp] at hls
   refine Rg Tryz.func111 ?_;simp only[go_sem,hx,hkk,rowC,Vg,↓aT,Int.reduceNeg,Nat.reduceAdd,Nat.reduceLT]
   (and_intros<;>try first|rfl|omega)
   refine Ops.pure .free rfl rfl (hls) Vl rfl rfl ?_
   refine Og Tryz.func111 ?_;simp only[go_sem,↓aF,Int.reduceNeg]
   (and_intros<;>try first|rfl|omega)
   refine ih (k+1) _ ⟨by omega,fun j y hj hy=>?_⟩ (by omega) ?_
   ·rcases Nat.lt_or_ge j k with h|h
    ·exact hq j y h hy
    ·obtain rfl:j=k:=by omega
     rw[hx] at hy;cases hy;exact hp
   ·simp only[Int.natCast_add,Int.natCast_one]
    (refine Weak.of (by simp[hc0]) ?_ ?_<;>(repeat' first|exact .refl _|exact .junk _|exact .nil _|exact .tok _ _ _|rfl|apply LeB.same|apply LeB.box|apply Le.agg|apply Le.one|constructor))
 ·have hkk:¬(k:Int)<l.length:=by omega
  refine Rg Tryz.func111 ?_;simp only[go_sem,hkk,↓aF,Int.reduceNeg]
  rw[show fiI l=-1 by unfold fiI;rw[fi_none fun j y hj hy=>hq j y (by omega) hy];rfl]
  exact Vr
theorem fi_large(l:List Bytes):decide (0≤fiI l)=largeB l:=by
 unfold fiI
 cases h:l.findIdx? largeP with
 |none=>
  rw[List.findIdx?_eq_none_iff] at h
  have e:largeB l=false:=by
   unfold largeB
   rw[List.any_eq_false]
   intro x hx
   have:=h x hx
   unfold largeP at this
   simpa using this
  rw[e];rfl
 |some k=>
  rw[List.findIdx?_eq_some_iff_getElem] at h
  obtain⟨h1,h2,_⟩:=h
  have e:largeB l=true:=by
   unfold largeB
   rw[List.any_eq_true]
   exact⟨_,List.getElem_mem h1,h2⟩
  rw[e,decide_eq_true_eq]
  simp
theorem contains_spec(l:List Bytes)(hl:l.length≤100000000):ASpec Tryz.prog 56 [rA l,.fn (.func 57) [] []] (.bool (largeB l)):=by
 rw[← fi_large]
 refine⟨⟨_,Tryz.func56,by kernel_rfl,rfl⟩,Sg Tryz.func56 rfl fun c0 hc0=>?_⟩;simp only[go_sem,rA,Nat.reduceAdd,Nat.reduceSub]
 refine Ops.pure .free rfl rfl (index_spec l hl) Vl rfl rfl ?_
 refine Og Tryz.func56 ?_;simp only[go_sem]
 exact Vr
structure WSm(g:WL):Prop where
 sm:smD g.d
 right:rightB g.d=true
 rows:g.l.length≤1000000
theorem wcrash_spec(g:WL)(hs:smD g.d)(n:Int):ASpec Tryz.prog 20 [eW g,.int .i64 n] (eW (crashW g n)):=by
 have h:=dcrash_spec g.d hs n
 refine⟨⟨_,Tryz.func20,by kernel_rfl,rfl⟩,Sg Tryz.func20 rfl fun c0 hc0=>?_⟩;simp only[go_sem,eW,bA,rA,Nat.reduceAdd,Nat.reduceLeDiff,Nat.reduceSub]
 refine Ops.pure .free rfl rfl (h) Vl rfl rfl ?_
 refine Og Tryz.func20 ?_;simp only[go_sem,eD,bA,Nat.reduceAdd,Nat.reduceLeDiff]
 simp only[crashW,Ye]
 (repeat' first|exact .refl _|apply LeR.tup|apply Le.agg|constructor)
theorem wblow_spec(g:WL)(n:Int):ASpec Tryz.prog 19 [eW g,.int .i64 n] (eW (blowW g n)):=by
 have h:=dblow_spec g.d n
 refine⟨⟨_,Tryz.func19,by kernel_rfl,rfl⟩,Sg Tryz.func19 rfl fun c0 hc0=>?_⟩;simp only[go_sem,eW,bA,rA,Nat.reduceAdd,Nat.reduceLeDiff,Nat.reduceSub]
 (and_intros<;>try first|rfl|omega)
 refine DOps.pure rfl .free rfl rfl (h) Vl rfl rfl ?_
 refine Dg Tryz.func19 rfl ?_;simp only[go_sem,eD,bA,Nat.reduceAdd,Nat.reduceLeDiff]
 (and_intros<;>try first|rfl|omega)
 simp only[blowW]
 exact Vr
theorem wappend_spec(g:WL)(hs:WSm g)(r:List Bytes)(hr:r.length≤1000000)(hfl:(frs r).length≤900000):ASpec Tryz.prog 22 [eW g,rA r] (encWE (appendS g r)):=by
 have hc:=contains_spec r (by omega)
 cases hlg:largeB r with
 |true=>
  rw[hlg] at hc
  rw[show appendS g r=(g,5) by unfold appendS;rw[if_pos hlg]]
  refine⟨⟨_,Tryz.func22,by kernel_rfl,rfl⟩,Sg Tryz.func22 rfl fun c0 hc0=>?_⟩;simp only[go_sem,eW,bA,rA,Nat.reduceAdd,Nat.reduceSub]
  refine Ops.pure .free rfl rfl (hc) Vl rfl rfl ?_
  refine Og Tryz.func22 ?_;simp only[go_sem,↓aT,Nat.reduceAdd]
  simp only[encWE,eW,bA,rA]
  exact Vr
 |false=>
 rw[hlg] at hc
 have hlg:¬largeB r=true:=by rw[hlg];decide
 by_cases h0:r=[]
 ·subst h0
  rw[show appendS g []=(g,0) by unfold appendS;rw[if_neg hlg,if_pos rfl]]
  refine⟨⟨_,Tryz.func22,by kernel_rfl,rfl⟩,Sg Tryz.func22 rfl fun c0 hc0=>?_⟩;simp only[go_sem,eW,bA,rA,Nat.reduceAdd,Nat.reduceSub]
  refine Ops.pure .free rfl rfl (hc) Vl rfl rfl ?_
  refine Og Tryz.func22 ?_;simp only[go_sem,↓aT,↓aF,Nat.reduceAdd]
  simp only[encWE,eW,bA,rA]
  exact Vr
 have hr0:¬(r.length:Int)=0:=by have:=List.length_pos_iff.2 h0;omega
 have hw:=dwrite_spec g.d hs.sm (frs r) (by omega)
 have hsm2:=write_sm hs.sm hs.right (frs r)
 obtain⟨d1,z1,hz1⟩:∃ y z,writeS g.d (frs r)=(y,z):=⟨_,_,rfl⟩
 rw[hz1] at hw hsm2
 by_cases h1:z1=0
 ·subst h1
  have hy:=dsync_spec d1 hsm2
  obtain⟨d2,z2,hz2⟩:∃ y z,syncS d1=(y,z):=⟨_,_,rfl⟩
  rw[hz2] at hy
  by_cases h2:z2=0
  ·subst h2
   rw[show appendS g r=(⟨d2,g.l++r⟩,0) by unfold appendS;rw[if_neg hlg,if_neg h0,hz1,if_pos rfl,hz2,if_pos rfl]]
   have hcc:=concatR_spec g.l r hs.rows hr
   refine⟨⟨_,Tryz.func22,by kernel_rfl,rfl⟩,Sg Tryz.func22 rfl fun c0 hc0=>?_⟩;simp only[go_sem,eW,bA,rA,Nat.reduceAdd,Nat.reduceSub]
   refine Ops.pure .free rfl rfl (hc) Vl rfl rfl ?_
   refine Og Tryz.func22 ?_;simp only[go_sem,hr0,↓aF]
   refine Run.loopV (α:=Nat) (fun k=>k≤r.length) (fun k=>[(6,bA (frs (r.take k))),(22,.int .i64 k)]) 2 (fun _=>[]) (fun k=>r.length-k) 0 (Nat.zero_le _) ?_ ?_
   ·simp only[go_sem,writes,junks,puts,hputs,List.filterMap_cons,List.filterMap_nil,bA,frs,List.flatten_nil]
    (refine Weak.of (by simp[hc0]) ?_ ?_<;>(repeat' first|exact .refl _|exact .junk _|exact .nil _|exact .tok _ _ _|rfl|apply LeB.same|apply LeB.box|apply Le.agg|apply Le.one|constructor))
   intro k hI ih
   simp only[writes,junks,puts,hputs,List.filterMap_cons,List.filterMap_nil,Y6,Y7,Yg,Yk,Y5,Y3,Yd] at ih ⊢
   by_cases hk:k<r.length
   ·obtain⟨x,hx⟩:∃ x,r[k]? = some x:=⟨_,Vb hk⟩
    have hkk:(k:Int)<r.length:=by omega
    have hfk:=frs_take_le r k
    have hxl:=large_no hlg x (Vd hx)
    have hf:=frame15_spec (frs (r.take k)) x (by omega) (by omega)
    rw[← frs_snoc hx] at hf
    refine Rg Tryz.func22 ?_;simp only[go_sem,hx,hkk,rowC,Vg,↓aT,Nat.reduceAdd,Nat.reduceLT]
    (and_intros<;>try first|rfl|omega)
    refine Ops.pure .free rfl rfl (hf) Vl rfl rfl ?_
    refine Og Tryz.func22 ?_;simp only[go_sem,bA]
    (and_intros<;>try first|rfl|omega)
    refine ih (k+1) _ (by omega) (by omega) ?_
    simp only[Int.natCast_add,Int.natCast_one,bA]
    (refine Weak.of (by simp[hc0]) ?_ ?_<;>(repeat' first|exact .refl _|exact .junk _|exact .nil _|exact .tok _ _ _|rfl|apply LeB.same|apply LeB.box|apply Le.agg|apply Le.one|constructor))
   obtain rfl:k=r.length:=by omega
   have hkk:¬(r.length:Int)<r.length:=by omega
   rw[List.take_length]
   refine Rg Tryz.func22 ?_;simp only[go_sem,hkk,↓aF,Nat.reduceAdd,Nat.reduceLeDiff]
   refine Ops.pure .free rfl rfl (hw) Vl rfl rfl ?_
   refine Og Tryz.func22 ?_;simp only[go_sem,encDE,eD,bA,↓aT,Nat.reduceAdd]
   refine Ops.pure .free rfl rfl (hy) Vl rfl rfl ?_
   refine Og Tryz.func22 ?_;simp only[go_sem,encDE,eD,bA,↓aT,Nat.reduceAdd,Nat.reduceLeDiff,Nat.reduceMul,Nat.reduceBEq,Nat.reduceLT]
   refine Ops.pure .free rfl rfl (hcc) (by simp only[go_sem,rA];(repeat' first|exact .refl _|apply LeR.tup|apply Le.agg|constructor)) rfl rfl ?_
   refine Og Tryz.func22 ?_;simp only[go_sem,rA,Nat.reduceAdd,Nat.reduceLeDiff]
   simp only[encWE,eW,bA,rA]
   exact Vr
  ·rw[show appendS g r=(⟨d2,g.l⟩,z2) by unfold appendS;rw[if_neg hlg,if_neg h0,hz1,if_pos rfl,hz2,if_neg h2]]
   refine⟨⟨_,Tryz.func22,by kernel_rfl,rfl⟩,Sg Tryz.func22 rfl fun c0 hc0=>?_⟩;simp only[go_sem,eW,bA,rA,Nat.reduceAdd,Nat.reduceSub]
   refine Ops.pure .free rfl rfl (hc) Vl rfl rfl ?_
   refine Og Tryz.func22 ?_;simp only[go_sem,hr0,↓aF]
   refine Run.loopV (α:=Nat) (fun k=>k≤r.length) (fun k=>[(6,bA (frs (r.take k))),(22,.int .i64 k)]) 2 (fun _=>[]) (fun k=>r.length-k) 0 (Nat.zero_le _) ?_ ?_
   ·simp only[go_sem,writes,junks,puts,hputs,List.filterMap_cons,List.filterMap_nil,bA,frs,List.flatten_nil]
    (refine Weak.of (by simp[hc0]) ?_ ?_<;>(repeat' first|exact .refl _|exact .junk _|exact .nil _|exact .tok _ _ _|rfl|apply LeB.same|apply LeB.box|apply Le.agg|apply Le.one|constructor))
   intro k hI ih
   simp only[writes,junks,puts,hputs,List.filterMap_cons,List.filterMap_nil,Y6,Y7,Yg,Yk,Y5,Y3,Yd] at ih ⊢
   by_cases hk:k<r.length
   ·obtain⟨x,hx⟩:∃ x,r[k]? = some x:=⟨_,Vb hk⟩
    have hkk:(k:Int)<r.length:=by omega
    have hfk:=frs_take_le r k
    have hxl:=large_no hlg x (Vd hx)
    have hf:=frame15_spec (frs (r.take k)) x (by omega) (by omega)
    rw[← frs_snoc hx] at hf
    refine Rg Tryz.func22 ?_;simp only[go_sem,hx,hkk,rowC,Vg,↓aT,Nat.reduceAdd,Nat.reduceLT]
    (and_intros<;>try first|rfl|omega)
    refine Ops.pure .free rfl rfl (hf) Vl rfl rfl ?_
    refine Og Tryz.func22 ?_;simp only[go_sem,bA]
    (and_intros<;>try first|rfl|omega)
    refine ih (k+1) _ (by omega) (by omega) ?_
    simp only[Int.natCast_add,Int.natCast_one,bA]
    (refine Weak.of (by simp[hc0]) ?_ ?_<;>(repeat' first|exact .refl _|exact .junk _|exact .nil _|exact .tok _ _ _|rfl|apply LeB.same|apply LeB.box|apply Le.agg|apply Le.one|constructor))
   obtain rfl:k=r.length:=by omega
   have hkk:¬(r.length:Int)<r.length:=by omega
   rw[List.take_length]
   refine Rg Tryz.func22 ?_;simp only[go_sem,hkk,↓aF,Nat.reduceAdd,Nat.reduceLeDiff]
   refine Ops.pure .free rfl rfl (hw) Vl rfl rfl ?_
   refine Og Tryz.func22 ?_;simp only[go_sem,encDE,eD,bA,↓aT,Nat.reduceAdd]
   refine Ops.pure .free rfl rfl (hy) Vl rfl rfl ?_
   refine Og Tryz.func22 ?_;simp only[go_sem,encDE,eD,bA,h2,↓aF,Nat.reduceAdd,Nat.reduceLeDiff]
   simp only[encWE,eW,bA,rA]
   exact Vr
 ·rw[show appendS g r=(⟨d1,g.l⟩,z1) by unfold appendS;rw[if_neg hlg,if_neg h0,hz1,if_neg h1]]
  refine⟨⟨_,Tryz.func22,by kernel_rfl,rfl⟩,Sg Tryz.func22 rfl fun c0 hc0=>?_⟩;simp only[go_sem,eW,bA,rA,Nat.reduceAdd,Nat.reduceSub]
  refine Ops.pure .free rfl rfl (hc) Vl rfl rfl ?_
  refine Og Tryz.func22 ?_;simp only[go_sem,hr0,↓aF]
  refine Run.loopV (α:=Nat) (fun k=>k≤r.length) (fun k=>[(6,bA (frs (r.take k))),(22,.int .i64 k)]) 2 (fun _=>[]) (fun k=>r.length-k) 0 (Nat.zero_le _) ?_ ?_
  ·simp only[go_sem,writes,junks,puts,hputs,List.filterMap_cons,List.filterMap_nil,bA,frs,List.flatten_nil]
   (refine Weak.of (by simp[hc0]) ?_ ?_<;>(repeat' first|exact .refl _|exact .junk _|exact .nil _|exact .tok _ _ _|rfl|apply LeB.same|apply LeB.box|apply Le.agg|apply Le.one|constructor))
  intro k hI ih
  simp only[writes,junks,puts,hputs,List.filterMap_cons,List.filterMap_nil,Y6,Y7,Yg,Yk,Y5,Y3,Yd] at ih ⊢
  by_cases hk:k<r.length
  ·obtain⟨x,hx⟩:∃ x,r[k]? = some x:=⟨_,Vb hk⟩
   have hkk:(k:Int)<r.length:=by omega
   have hfk:=frs_take_le r k
   have hxl:=large_no hlg x (Vd hx)
   have hf:=frame15_spec (frs (r.take k)) x (by omega) (by omega)
   rw[← frs_snoc hx] at hf
   refine Rg Tryz.func22 ?_;simp only[go_sem,hx,hkk,rowC,Vg,↓aT,Nat.reduceAdd,Nat.reduceLT]
   (and_intros<;>try first|rfl|omega)
   refine Ops.pure .free rfl rfl (hf) Vl rfl rfl ?_
   refine Og Tryz.func22 ?_;simp only[go_sem,bA]
   (and_intros<;>try first|rfl|omega)
   refine ih (k+1) _ (by omega) (by omega) ?_
   simp only[Int.natCast_add,Int.natCast_one,bA]
   (refine Weak.of (by simp[hc0]) ?_ ?_<;>(repeat' first|exact .refl _|exact .junk _|exact .nil _|exact .tok _ _ _|rfl|apply LeB.same|apply LeB.box|apply Le.agg|apply Le.one|constructor))
  obtain rfl:k=r.length:=by omega
  have hkk:¬(r.length:Int)<r.length:=by omega
  rw[List.take_length]
  refine Rg Tryz.func22 ?_;simp only[go_sem,hkk,↓aF,Nat.reduceAdd,Nat.reduceLeDiff]
  refine Ops.pure .free rfl rfl (hw) Vl rfl rfl ?_
  refine Og Tryz.func22 ?_;simp only[go_sem,encDE,eD,bA,h1,↓aF,Nat.reduceAdd,Nat.reduceLeDiff]
  simp only[encWE,eW,bA,rA]
  exact Vr
theorem dnew_spec(n:Int):ASpec Tryz.prog 12 [.int .i64 n] (encDE (newD n)):=by
 by_cases h0:n<0
 ·rw[show newD n=(⟨0,[],[],false,0⟩,1) from if_pos (.inl h0)]
  refine⟨⟨_,Tryz.func12,by kernel_rfl,rfl⟩,Sg Tryz.func12 rfl fun c0 hc0=>?_⟩;simp only[go_sem,h0,↓aT,↓bT,↓gV,Nat.reduceAdd,Nat.reduceSub]
  simp only[encDE,eD,bA,Ye]
  (repeat' first|exact .refl _|apply LeR.tup|apply Le.agg|constructor)
 ·by_cases h1:1000000<n
  ·rw[show newD n=(⟨0,[],[],false,0⟩,1) from if_pos (.inr h1)]
   refine⟨⟨_,Tryz.func12,by kernel_rfl,rfl⟩,Sg Tryz.func12 rfl fun c0 hc0=>?_⟩;simp only[go_sem,h0,h1,↓aT,↓bF,↓gF,Nat.reduceAdd,Nat.reduceSub]
   simp only[encDE,eD,bA,Ye]
   (repeat' first|exact .refl _|apply LeR.tup|apply Le.agg|constructor)
  ·rw[show newD n=(⟨n,[],[],false,-1⟩,0) from if_neg (by omega)]
   refine⟨⟨_,Tryz.func12,by kernel_rfl,rfl⟩,Sg Tryz.func12 rfl fun c0 hc0=>?_⟩;simp only[go_sem,h0,h1,↓aF,↓bF,↓gF,Int.reduceNeg,Nat.reduceAdd,Nat.reduceLeDiff,Nat.reduceSub]
   (and_intros<;>try first|rfl|omega)
   simp only[encDE,eD,bA,Ye]
   (repeat' first|exact .refl _|apply LeR.tup|apply Le.agg|constructor)
theorem frs_len_ge(l:List Bytes):l.length≤(frs l).length:=by
 induction l with
 |nil=>simp
 |cons x l ih=>
  rw[frs_cons,List.length_append,fr_length,List.length_cons]
  unfold frLong
  omega
structure Up(d:DD):Prop where
 down:d.down=false
 fuse:d.fuse=-1
end Go.Proofs.YtojhjaohaafeaaaGreatDoor
