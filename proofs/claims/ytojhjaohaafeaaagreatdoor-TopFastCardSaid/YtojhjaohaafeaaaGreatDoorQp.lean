/-
  Several texts in one: Nw, Fh, Fj, Sa, Sb, Fd, Fe, Fi, Hr.
-/
import Derived.WalkKit
import Derived.OwnWalkIn
import Derived.TacticsInMore
import Derived.LoopNIn
import Derived.LoopIn
import Derived.Lib.OthersKept
import Derived.Lib.TrimU
import Derived.Deep.LoopGhost
import Derived.Shelf.Strings.Count
import Derived.Shelf.Strings.Search3
import Derived.Shelf.Small.Strs
import Derived.Test.YtojhjaohaafeaaaGreatDoorProg
import Derived.Test.YtojhjaohaafeaaaGreatDoorQo
import Derived.Shelf.Strings.SlTrimAscii
import Derived.Test.YtojhjaohaafeaaaGreatDoorQb
import Derived.Test.YtojhjaohaafeaaaGreatDoorQd
import Derived.Test.YtojhjaohaafeaaaGreatDoorQc
import Derived.Test.YtojhjaohaafeaaaGreatDoorQn
set_option maxRecDepth 20000
set_option maxHeartbeats 8000000
open Go.Proofs.Tryz
namespace Go.Proofs.YtojhjaohaafeaaaGreatDoor
open Go.Proofs Go.RowKit Go.Shelf
set_option linter.unusedVariables false
def lays137_ren:Go.Shelf.Ren:=⟨fun|137=>420|217=>425|266=>428|n=>n,fun|3=>3|5=>5|9=>9|n=>n,fun  | n=>n⟩
theorem lays137:Go.Proofs.Lays.n137 prog lays137_ren:={
 mixed:=by kernel_rfl
 f137:=func420.trans (congrArg some (by kernel_rfl))
 f217:=func425.trans (congrArg some (by kernel_rfl))
 f266:=func428.trans (congrArg some (by kernel_rfl))
 t3:=underlying3
 a3:=Tryz.isAgg3
 z3:=Tryz.sizeOf3
 v3:=Tryz.zeroValue3
 t5:=underlying5
 a5:=Tryz.isAgg5
 z5:=Tryz.sizeOf5
 v5:=Tryz.zeroValue5
 t9:=underlying9
 a9:=Tryz.isAgg9
 z9:=Tryz.sizeOf9
 v9:=Tryz.zeroValue9 }
def lays138_ren:Go.Shelf.Ren:=⟨fun|138=>399|143=>400|195=>413|217=>425|218=>415|219=>416|224=>422|225=>423|266=>428|267=>426|314=>429|n=>n,fun|0=>0|3=>3|4=>4|5=>5|9=>9|46=>245|51=>241|146=>524|n=>n,fun|1=>0|n=>n⟩
theorem lays138:Go.Proofs.Lays.n138 prog lays138_ren:={
 mixed:=by kernel_rfl
 f138:=func399.trans (congrArg some (by kernel_rfl))
 f143:=func400.trans (congrArg some (by kernel_rfl))
 f195:=func413.trans (congrArg some (by kernel_rfl))
 f217:=func425.trans (congrArg some (by kernel_rfl))
 f218:=func415.trans (congrArg some (by kernel_rfl))
 f219:=func416.trans (congrArg some (by kernel_rfl))
 f224:=func422.trans (congrArg some (by kernel_rfl))
 f225:=func423.trans (congrArg some (by kernel_rfl))
 f266:=func428.trans (congrArg some (by kernel_rfl))
 f267:=func426.trans (congrArg some (by kernel_rfl))
 f314:=func429.trans (congrArg some (by kernel_rfl))
 t0:=underlying0
 a0:=Tryz.isAgg0
 z0:=Tryz.sizeOf0
 v0:=Tryz.zeroValue0
 t3:=underlying3
 a3:=Tryz.isAgg3
 z3:=Tryz.sizeOf3
 v3:=Tryz.zeroValue3
 t4:=underlying4
 a4:=Tryz.isAgg4
 z4:=Tryz.sizeOf4
 v4:=Tryz.zeroValue4
 t5:=underlying5
 a5:=Tryz.isAgg5
 z5:=Tryz.sizeOf5
 v5:=Tryz.zeroValue5
 t9:=underlying9
 a9:=Tryz.isAgg9
 z9:=Tryz.sizeOf9
 v9:=Tryz.zeroValue9
 t46:=underlying245
 a46:=Tryz.isAgg245
 z46:=Tryz.sizeOf245
 v46:=Tryz.zeroValue245
 t51:=underlying241
 a51:=Tryz.isAgg241
 z51:=Tryz.sizeOf241
 v51:=Tryz.zeroValue241
 t146:=underlying524
 a146:=Tryz.isAgg524
 z146:=Tryz.sizeOf524
 v146:=Tryz.zeroValue524
 g1:=by kernel_rfl }
def lays143_ren:Go.Shelf.Ren:=⟨fun|143=>400|217=>425|219=>416|224=>422|225=>423|266=>428|267=>426|314=>429|n=>n,fun|3=>3|4=>4|5=>5|9=>9|46=>245|51=>241|146=>524|n=>n,fun|1=>0|n=>n⟩
theorem lays143:Go.Proofs.Lays.n143 prog lays143_ren:={
 mixed:=by kernel_rfl
 f143:=func400.trans (congrArg some (by kernel_rfl))
 f217:=func425.trans (congrArg some (by kernel_rfl))
 f219:=func416.trans (congrArg some (by kernel_rfl))
 f224:=func422.trans (congrArg some (by kernel_rfl))
 f225:=func423.trans (congrArg some (by kernel_rfl))
 f266:=func428.trans (congrArg some (by kernel_rfl))
 f267:=func426.trans (congrArg some (by kernel_rfl))
 f314:=func429.trans (congrArg some (by kernel_rfl))
 t3:=underlying3
 a3:=Tryz.isAgg3
 z3:=Tryz.sizeOf3
 v3:=Tryz.zeroValue3
 t4:=underlying4
 a4:=Tryz.isAgg4
 z4:=Tryz.sizeOf4
 v4:=Tryz.zeroValue4
 t5:=underlying5
 a5:=Tryz.isAgg5
 z5:=Tryz.sizeOf5
 v5:=Tryz.zeroValue5
 t9:=underlying9
 a9:=Tryz.isAgg9
 z9:=Tryz.sizeOf9
 v9:=Tryz.zeroValue9
 t46:=underlying245
 a46:=Tryz.isAgg245
 z46:=Tryz.sizeOf245
 v46:=Tryz.zeroValue245
 t51:=underlying241
 a51:=Tryz.isAgg241
 z51:=Tryz.sizeOf241
 v51:=Tryz.zeroValue241
 t146:=underlying524
 a146:=Tryz.isAgg524
 z146:=Tryz.sizeOf524
 v146:=Tryz.zeroValue524
 g1:=by kernel_rfl }
theorem irune_calls(s:ByteArray)(r:Nat)(hr:r<128)(w:World) :
  Calls prog 409 #[.string s,.int .i32 (r:Int)] w fun e w'=>e=.returned (.int .i64 (Lib.indexByte s.data.toList r.toUInt8))/\w'=w:=by
 have cI:=Any.strings_IndexByte lays137 s (r:Int) w;rw[Int.toNat_natCast] at cI
 go_enter func409,ntmps409
 go_wp2_with (go_at_call 420;refine cI.mono ?_;rintro e w' ⟨rfl,rfl⟩)
 go_ret
 exact⟨rfl,rfl⟩
theorem crune_calls(s:ByteArray)(r:Nat)(hr:r<128)(w:World) :
  Calls prog 387 #[.string s,.int .i32 (r:Int)] w fun e w'=>e=.returned (.bool (decide (0<=Lib.indexByte s.data.toList r.toUInt8)))/\w'=w:=by
 have cI:=irune_calls s r hr w;generalize Lib.indexByte s.data.toList r.toUInt8=q at cI ⊢
 go_enter func387,ntmps387
 go_wp2_with (go_at_call 409;refine cI.mono ?_;rintro e w' ⟨rfl,rfl⟩)
 go_ret
 exact⟨rfl,rfl⟩
def lettersB : ByteArray := "abcdefghijklmnopqrstuvwxyz0123456789-_".toUTF8
def badL(c:UInt8):Bool:=!decide (0<=Lib.indexByte lettersB.data.toList c)
theorem name1_calls(c:UInt8)(hc:c.toNat<128)(w:World) :
  Calls prog 386 #[.int .i32 (c.toNat:Int)] w fun e w'=>e=.returned (.bool (badL c))/\w'=w:=by
 have cI:=crune_calls lettersB c.toNat hc w;rw[show c.toNat.toUInt8=c from by simp] at cI;unfold badL;generalize decide (0<=Lib.indexByte lettersB.data.toList c)=q at cI ⊢
 go_enter func386,ntmps386
 go_wp2_with (go_at_call 387;refine cI.mono ?_;rintro e w' ⟨rfl,rfl⟩)
 go_ret
 exact⟨rfl,rfl⟩
theorem xfunc_calls(s:ByteArray)(hs:∀ j (h:j<s.size),(s[j]'h).toNat<128)(w:World) :
  Calls prog 419 #[.string s,.func (.func 386) #[] #[],.bool true] w fun e w'=>(∃ n:Int,e=.returned (.int .i64 n)/\decide (0<=n)=s.data.toList.any badL)/\Below w.heap.size w w':=by
 go_enter func419,ntmps419
 go_wp2
 go_loopg [] s.size (fun gf wx=>∃ pos:Nat,wx.heap[w.heap.size]? = some (.stringIter s pos)/\Below w.heap.size w wx/\s.size=pos+gf/\∀ j (h:j<s.size),j<pos->badL (s[j]'h)=false)
 case atStart=>exact⟨0,World.iter_heap w s 0,(Below.refl _ w).alloc (Nat.le_refl _) _,by omega,fun j h h0=>by omega⟩
 case round=>
  obtain⟨pos,hit,hbw,hfu,hall⟩:=hrel
  by_cases hps:pos<s.size
  ·obtain⟨g',rfl⟩:∃ g',gk=g'+1:=⟨gk-1,by omega⟩
   have hnx:∀ ty,(Instr.next (.pointer (some ⟨w.heap.size,0,none⟩)) true ty).run prog wr=_:=fun ty=>Lib.run_next_ascii_at wr w.heap.size s pos ty hit hps (hs pos hps);have hit2:=Lib.iterAt_heap wr w.heap.size s pos (pos+1) hit;have hbw2:=Lib.below_iterAt hbw (k:=w.heap.size) (Nat.le_refl _) s (pos+1)
   obtain⟨W,hWd⟩:∃ W,wr.iterAt w.heap.size s (pos+1)=W:=⟨_,rfl⟩
   rw[hWd] at hnx hit2 hbw2;have cS:=name1_calls (s[pos]'hps) (hs pos hps) W;cases hsp:badL (s[pos]'hps)<;>rw[hsp] at cS
   ·go_wp2_with (go_at_call 386;refine cS.mono ?_;rintro e W' ⟨rfl,rfl⟩)
    go_roundg g'
    case measure=>omega
    case rel=>exact⟨pos+1,hit2,hbw2,by omega,fun j h hj=>(by rcases Nat.lt_succ_iff_lt_or_eq.1 hj with hj|rfl;exact hall j h hj;exact hsp)⟩
   ·go_wp2_with (go_at_call 386;refine cS.mono ?_;rintro e W' ⟨rfl,rfl⟩)
    go_ret
    refine⟨⟨_,rfl,?_⟩,hbw2⟩;rw[decide_eq_true (by omega)];exact(List.any_eq_true.2 ⟨s[pos]'hps,by exact Array.getElem_mem_toList (xs:=s.data) hps,hsp⟩).symm
  ·have hnx:∀ ty,(Instr.next (.pointer (some ⟨w.heap.size,0,none⟩)) true ty).run prog wr=_:=fun ty=>Lib.run_next_end_at wr w.heap.size s pos ty hit hps
   go_wp2
   go_ret
   refine⟨⟨_,rfl,?_⟩,hbw⟩;rw[decide_eq_false (by omega)];refine(List.any_eq_false.2 fun c hc=>?_).symm;obtain⟨j,hj,rfl⟩:=List.mem_iff_getElem.1 hc
   have hj':j<s.size:=by simpa using hj
   have:=hall j hj' (by omega)
   exact fun h=>by
    have h2:badL (s[j]'hj')=true:=h;rw[this] at h2;cases h2
theorem ifunc_calls(s:ByteArray)(hs:∀ j (h:j<s.size),(s[j]'h).toNat<128)(w:World) :
  Calls prog 408 #[.string s,.func (.func 386) #[] #[]] w fun e w'=>(∃ n:Int,e=.returned (.int .i64 n)/\decide (0<=n)=s.data.toList.any badL)/\Below w.heap.size w w':=by
 have cI:=xfunc_calls s hs w
 go_enter func408,ntmps408
 go_wp2_with (go_at_call 419;refine cI.mono ?_;rintro e w' ⟨⟨n,rfl,hn⟩,hb⟩)
 go_ret
 exact⟨⟨_,rfl,hn⟩,hb⟩
theorem cfunc_calls(s:ByteArray)(hs:∀ j (h:j<s.size),(s[j]'h).toNat<128)(w:World) :
  Calls prog 385 #[.string s,.func (.func 386) #[] #[]] w fun e w'=>e=.returned (.bool (s.data.toList.any badL))/\Below w.heap.size w w':=by
 have cI:=ifunc_calls s hs w;generalize s.data.toList.any badL=q at cI ⊢
 go_enter func385,ntmps385
 go_wp2_with (go_at_call 408;refine cI.mono ?_;rintro e w' ⟨⟨n,rfl,hn⟩,hb⟩)
 go_ret
 exact⟨by rw[<- hn];rfl,hb⟩
/-! ### az laws -/
noncomputable def cnt9(l:List UInt8)(c:UInt8):Nat:=List.rec (motive:=fun _=>Nat) 0 (fun b _ ih=>Bool.rec (motive:=fun _=>Nat) ih (Nat.succ ih) (beq8 b c)) l
theorem cnt9_eq(c:UInt8):∀ l:List UInt8,cnt9 l c=Lib.countByte l c
 |[]=>rfl
 |b::l=>by
  show Bool.rec (motive:=fun _=>Nat) (cnt9 l c) (Nat.succ (cnt9 l c)) (beq8 b c)=List.count c (b::l);rw[cnt9_eq c l,beq8_eq,List.count_cons];cases b==c<;>rfl
noncomputable def idx9(l:List UInt8)(c:UInt8):Option Nat:=List.rec (motive:=fun _=>Option Nat) none (fun b _ ih=>Bool.rec (motive:=fun _=>Option Nat) (Option.rec (motive:=fun _=>Option Nat) none (fun n=>some (Nat.succ n)) ih) (some 0) (beq8 b c)) l
noncomputable def idxI(l:List UInt8)(c:UInt8):Int:=Option.rec (motive:=fun _=>Int) (Int.negSucc 0) (fun n=>Int.ofNat n) (idx9 l c)
theorem idxI_eq(c:UInt8):∀ l:List UInt8,idxI l c=Lib.indexByte l c
 |[]=>rfl
 |b::l=>by
  have ih:=idxI_eq c l;unfold idxI at ih ⊢;unfold Lib.indexByte;rw[<- ih,<- beq8_eq];show Option.rec (motive:=fun _=>Int) _ _ (Bool.rec (motive:=fun _=>Option Nat) (Option.rec (motive:=fun _=>Option Nat) none (fun n=>some (Nat.succ n)) (idx9 l c)) (some 0) (beq8 b c):Option Nat)=_
  cases beq8 b c with
  |true=>rfl
  |false=>
   cases idx9 l c with
   |none=>rfl
   |some n=>
    show Int.ofNat (n+1)=if false=true then 0 else if(Int.ofNat n==-1)=true then -1 else Int.ofNat n+1
    rw[if_neg (by simp),if_neg (by simp)];rfl
theorem rv_str{c:Cx}{v:Value}{l:List UInt8}(h:RV c v (.str l)):∃ s:ByteArray,v=.string s/\s.data.toList=l:=by
 cases h with
 |str s _ h=>exact⟨s,rfl,h⟩
theorem str_one{s:ByteArray}{c:UInt8}(h:s.data.toList=[c]):s=⟨#[c]⟩:=by
 obtain⟨⟨l⟩⟩:=s;cases h;rfl
theorem cnt_callable:Callable prog 399:=⟨_,func399,by kernel_rfl,rfl⟩
theorem idx_callable:Callable prog 400:=⟨_,func400,by kernel_rfl,rfl⟩
theorem ibt_callable:Callable prog 420:=⟨_,func420,by kernel_rfl,rfl⟩
theorem cfn_callable:Callable prog 385:=⟨_,func385,by kernel_rfl,rfl⟩
theorem count_law(l:List UInt8)(c:UInt8):ASpec prog 399 [.str l,.str [c]] (.int .i64 (Int.ofNat (cnt9 l c))):=⟨cnt_callable,fun x vs hh hc ht=>by
 obtain⟨u,v,rfl,hu,hv⟩:=trel2 ht;obtain⟨s,rfl,rfl⟩:=rv_str hu;obtain⟨t,rfl,ht2⟩:=rv_str hv;obtain rfl:=str_one ht2;refine(Any.strings_Count_one lays138 s c x.w).mono ?_;rintro e w' ⟨rfl,rfl⟩;rw[cnt9_eq]
 exact⟨_,_,_,_,rfl,hc,.refl _,.int _ _,.one (.refl _)⟩⟩
theorem index_law(l:List UInt8)(c:UInt8):ASpec prog 400 [.str l,.str [c]] (.int .i64 (idxI l c)):=⟨idx_callable,fun x vs hh hc ht=>by
 obtain⟨u,v,rfl,hu,hv⟩:=trel2 ht;obtain⟨s,rfl,rfl⟩:=rv_str hu;obtain⟨t,rfl,ht2⟩:=rv_str hv;obtain rfl:=str_one ht2;refine(Any.strings_Index_one lays143 s c x.w).mono ?_;rintro e w' ⟨rfl,rfl⟩;rw[idxI_eq]
 exact⟨_,_,_,_,rfl,hc,.refl _,.int _ _,.one (.refl _)⟩⟩
theorem ibyte_law(l:List UInt8)(c:Nat)(h:c<256):ASpec prog 420 [.str l,.int .u8 (Int.ofNat c)] (.int .i64 (idxI l c.toUInt8)):=⟨ibt_callable,fun x vs hh hc ht=>by
 obtain⟨u,v,rfl,hu,hv⟩:=trel2 ht;obtain⟨s,rfl,rfl⟩:=rv_str hu;cases hv;refine(Any.strings_IndexByte lays137 s (Int.ofNat c) x.w).mono ?_;rintro e w' ⟨rfl,rfl⟩;rw[idxI_eq]
 exact⟨_,_,_,_,rfl,hc,.refl _,.int _ _,.one (.refl _)⟩⟩
noncomputable def bad9(L:List UInt8)(c:UInt8):Bool:=Option.rec (motive:=fun _=>Bool) true (fun _=>false) (idx9 L c)
theorem bad9_eq(c:UInt8):bad9 lettersB.data.toList c=badL c:=by
 unfold badL bad9;rw[<- idxI_eq];unfold idxI
 cases idx9 lettersB.data.toList c with
 |none=>rfl
 |some n=>
  show false=!decide ((0:Int)<=(n:Int));rw[decide_eq_true (Int.natCast_nonneg n)];rfl
noncomputable def any9{α:Type}(f:α->Bool)(l:List α):Bool:=List.rec (motive:=fun _=>Bool) false (fun a _ ih=>Bool.rec (motive:=fun _=>Bool) ih true (f a)) l
theorem any9_eq{α:Type}(f:α->Bool):∀ l:List α,any9 f l=l.any f
 |[]=>rfl
 |a::l=>by
  show Bool.rec (motive:=fun _=>Bool) (any9 f l) true (f a)=_;rw[any9_eq f l,List.any_cons];cases f a<;>rfl
theorem letters_eq:lettersB.data.toList=[97,98,99,100,101,102,103,104,105,106,107,108,109,110,111,112,113,114,115,116,117,118,119,120,121,122,48,49,50,51,52,53,54,55,56,57,45,95]:=by decide +kernel
noncomputable def low9(c:UInt8):Bool:=Nat.ble (Nat.succ c.toNat) 128
theorem cfunc_law(l:List UInt8)(h:all9 low9 l=true):ASpec prog 385 [.str l,.fn (.func 386) [] []] (.bool (any9 (bad9 [97,98,99,100,101,102,103,104,105,106,107,108,109,110,111,112,113,114,115,116,117,118,119,120,121,122,48,49,50,51,52,53,54,55,56,57,45,95]) l)):=⟨cfn_callable,fun x vs hh hc ht=>by
 obtain⟨u,v,rfl,hu,hv⟩:=trel2 ht;obtain⟨s,rfl,rfl⟩:=rv_str hu
 cases hv with
 |fn f v1 v2 a1 a2 h1 h2 r1 r2=>
  obtain rfl:v1=#[]:=Array.eq_empty_of_size_eq_zero h1;obtain rfl:v2=#[]:=Array.eq_empty_of_size_eq_zero h2;rw[all9_eq,List.all_eq_true] at h;refine(cfunc_calls s (fun j hj=>?_) x.w).mono ?_
  ·have:=h (s[j]'hj) (Array.getElem_mem_toList (xs:=s.data) hj);exact Nat.le_of_ble_eq_true this
  ·rintro e w' ⟨rfl,hb⟩;obtain⟨g1,g2⟩:=Below.evh hc hb;rw[<- letters_eq,any9_eq,show bad9 lettersB.data.toList=badL from funext bad9_eq]
   exact⟨_,_,_,_,rfl,g1,g2,.bool _,.one (.refl _)⟩⟩
noncomputable def str9(g:FuncId)(args:List AV):Option AV:=match args with
 |[.str l,.str [c]]=>match Nat.beq g 399 with
  |true=>some (.int .i64 (Int.ofNat (cnt9 l c)))
  |false=>match Nat.beq g 400 with
   |true=>some (.int .i64 (idxI l c))
   |false=>none
 |[.str l,.int .u8 (.ofNat c)]=>match Nat.beq g 420&&Nat.ble (Nat.succ c) 256 with
  |true=>some (.int .i64 (idxI l c.toUInt8))
  |false=>none
 |[.str l,.fn (.func q) [] []]=>match Nat.beq g 385&&(Nat.beq q 386&&all9 low9 l) with
  |true=>some (.bool (any9 (bad9 [97,98,99,100,101,102,103,104,105,106,107,108,109,110,111,112,113,114,115,116,117,118,119,120,121,122,48,49,50,51,52,53,54,55,56,57,45,95]) l))
  |false=>none
 |_=>none
theorem str9_ok:KAok prog str9:=by
 intro g args r h;unfold str9 at h
 split at h
 ·split at h
  ·rename_i e;cases h;rw[Nat.eq_of_beq_eq_true e];exact count_law _ _
  ·split at h
   ·rename_i e;cases h;rw[Nat.eq_of_beq_eq_true e];exact index_law _ _
   ·cases h
 ·split at h
  ·rename_i e;cases h;rw[Vi] at e;rw[Nat.eq_of_beq_eq_true e.1];exact ibyte_law _ _ (Nat.le_of_ble_eq_true e.2)
  ·cases h
 ·split at h
  ·rename_i e;cases h;simp only[Vi] at e;rw[Nat.eq_of_beq_eq_true e.1,Nat.eq_of_beq_eq_true e.2.1];exact cfunc_law _ e.2.2
  ·cases h
 ·cases h
theorem KCok.le{P:Program}{C D:KC}(h:CLe C D)(hD:KCok P D):KCok P C:=fun o g args ht l r ht' q e=>hD o g args ht l r ht' q (h o g args ht _ e)
noncomputable def kMGr(C:KC)(o:Oper)(g:FuncId)(i k n:Nat)(h:HT):Option ABlk->Option (AV×HT)
 |some (.rows k' L)=>match Nat.beq k' k&&(Nat.ble 1 k&&(Nat.ble n (len9 L)&&(all9 (all9 pl1) (L.take n)&&Nat.ble (h.n+1) 4096))) with
  |true=>match C o g [.sl k (L.take n) .no] HT.nil with
   |some (r,h1)=>match isOwnRow r h1.get with
    |some (k2,l)=>some (.sl k2 l (.own h.n),(h.set i .dead).push (.tok k2 l.length))
    |none=>none
   |none=>none
  |false=>none
 |_=>none
noncomputable def kMG(C:KC):KC:=fun o g args h=>match args with
 |[.msu i k n]=>kMGr C o g i k n h (h.get i)
 |_=>none
theorem kMG_ok{P:Program}{C:KC}(hC:KCok P C):KCok P (kMG C):=by
 intro o g args ht h r ht' q e;unfold kMG at e
 split at e
 ·rename_i i k n;unfold kMGr at e
  split at e
  ·rename_i k' L hi
   split at e
   ·rename_i hb;simp only[Vi] at hb;obtain⟨h1,h2,h3,h4,h5⟩:=hb
    split at e
    ·rename_i r1 ht1 hr
     split at e
     ·rename_i k2 l hown;cases e;obtain⟨c1,l',w1,w2⟩:=hC _ _ _ _ _ _ _ HL.nil hr
      have hO:OSpec P g [.sl k (L.take n) .no] k2 l:=by
       unfold isOwnRow at hown
       split at hown
       ·rename_i k1 l2 j
        split at hown
        ·rename_i k3 n3 hj
         split at hown
         ·rename_i hq;obtain⟨rfl,rfl⟩:=hq;cases hown;exact⟨c1,w2.mono fun _ _ ⟨e1,e2⟩=>⟨j,e1,by rw[e2,<- w1.2.2 j];exact hj⟩⟩
         ·cases hown
        ·cases hown
       ·cases hown
      obtain rfl:=beq_iff.1 h1;have hk:=Nat.le_of_ble_eq_true h2
      have hn:n<=L.length:=by have:=Nat.le_of_ble_eq_true h3;rwa [len9_eq] at this
      have hp:=all_pl1 h4;have h5:ht.n<4096:=Nat.le_of_ble_eq_true h5;rw[q.2.2 i] at hi;refine⟨c1,_,(q.set i .dead).push _ (by rw[HT.set_n];exact h5),ACall.melt hi hk hn hp ?_⟩;refine ACall.grown (ACall.ownAt (sl:=(h.set i .dead).length) (by simp) hO (leL_refl _) rfl ⟨by rw[List.length_set,q.1],?_⟩);rw[List.set_append_right _ _ (Nat.le_refl _),Nat.sub_self];rfl
     ·cases e
    ·cases e
   ·cases e
  ·cases e
 ·cases e
theorem kMG_pres{C:KC}:KPres (kMG C):=by
 intro o g args h r h' e;unfold kMG at e
 split at e
 ·unfold kMGr at e
  split at e
  ·split at e
   ·rename_i hb;simp only[Vi] at hb
    split at e
    ·split at e
     ·cases e;exact(PresB.set h _ _).trans (.push' _ _ (by rw[HT.set_n];exact hb.2.2.2.2))
     ·cases e
    ·cases e
   ·cases e
  ·cases e
 ·cases e
theorem ncalled9_ok{P:Program}{U:FunT}(hU:FunOk P U){M:KMT}(hMM:KMok P M){K:KC}(hK:KCok P K)(hKP:KPres K){T:TabT}(hT:TabOk P T)(hM:P.follows .mixedOrders=true)(n:Nat):KCok P (ncalled9 U (nrun9 U M K T n)):=by
 refine KCok.le (ncalled9_le U (nrun9_le U M K T n)) ?_;rw[ncalled_eq,nrun_eq];exact kcall_ok hU (krun_ok hU hMM hK hKP hT hM n)
theorem ACall.melt4{P:Program}{f:FuncId}{h:List ABlk}{R:AV->List ABlk->Prop}{a b d:AV}{i k n cap:Nat}{L:List (List AV)}(hi:h[i]? = some (.rows k L))(hk:0<k)(hn:n<=L.length)(hp:∀ x∈L.take n,∀ a∈x,a.plain=true)
  (H:ACall P f [a,b,.sl k (L.take n) .no,d] (h.set i .dead) R):ACall P f [a,b,.msl i k 0 n cap,d] h R:=by
 intro c vs hch hc ht;subst hch;obtain⟨vs⟩:=vs
 match vs,ht.1 with
 |[u0,u1,v,u3],_=>
  have hv:=ht.2 2 v _ rfl rfl;obtain⟨q1,q2,q3⟩:=hv.frozen hc hi hk (by omega) (by rw[List.drop_zero];exact hp);rw[List.drop_zero] at q3;refine(H ⟨c.ρ,c.h.set i .dead,c.w,c.X⟩ _ rfl q1 ⟨rfl,fun j u x hu hx=>?_⟩).mono ?_
  ·match j,hu,hx with
   |0,hu,hx=>cases hu;cases hx;exact(ht.2 0 u0 _ rfl rfl).mono q2
   |1,hu,hx=>cases hu;cases hx;exact(ht.2 1 u1 _ rfl rfl).mono q2
   |2,hu,hx=>cases hu;cases hx;exact q3
   |3,hu,hx=>cases hu;cases hx;exact(ht.2 3 u3 _ rfl rfl).mono q2
   |j+4,hu,hx=>simp at hu
  ·rintro e w' ⟨v',ρ',r,h',rfl,g1,g2,g3,hR⟩;exact⟨v',ρ',r,h',rfl,g1,q2.trans g2,g3,hR⟩
noncomputable def kMSr(C:KC)(o:Oper)(g:FuncId)(a b d:AV)(i k n:Nat)(h:HT):Option ABlk->Option (AV×HT)
 |some (.rows k' L)=>match Nat.beq k' k&&(Nat.ble 1 k&&(Nat.ble n (len9 L)&&all9 (all9 pl1) (L.take n))) with
  |true=>C o g [a,b,.sl k (L.take n) .no,d] (h.set i .dead)
  |false=>none
 |_=>none
noncomputable def kMS(C:KC):KC:=fun o g args h=>match args with
 |[a,b,.msl i k 0 n _,d]=>kMSr C o g a b d i k n h (h.get i)
 |_=>none
theorem kMS_ok{P:Program}{C:KC}(hC:KCok P C):KCok P (kMS C):=by
 intro o g args ht h r ht' q e;unfold kMS at e
 split at e
 ·rename_i a b i k n cap d;unfold kMSr at e
  split at e
  ·rename_i k' L hi
   split at e
   ·rename_i hb;simp only[Vi] at hb;obtain⟨h1,h2,h3,h4⟩:=hb;obtain rfl:=beq_iff.1 h1;have hk:=Nat.le_of_ble_eq_true h2
    have hn:n<=L.length:=by have:=Nat.le_of_ble_eq_true h3;rwa [len9_eq] at this
    rw[q.2.2 i] at hi;obtain⟨c1,l',w1,w2⟩:=hC _ _ _ _ _ _ _ (q.set i .dead) e;exact⟨c1,l',w1,ACall.melt4 hi hk hn (all_pl1 h4) w2⟩
   ·cases e
  ·cases e
 ·cases e
theorem kMS_pres{C:KC}(hC:KPres C):KPres (kMS C):=by
 intro o g args h r h' e;unfold kMS at e
 split at e
 ·unfold kMSr at e
  split at e
  ·split at e
   ·exact(PresB.set h _ _).trans (hC _ _ _ _ _ _ e)
   ·cases e
  ·cases e
 ·cases e
theorem ncalled9_pres(U:FunT)(M:KMT){K:KC}(hK:KPres K)(T:TabT)(n:Nat):KPres (ncalled9 U (nrun9 U M K T n)):=by
 intro o g args h r h' e;have:=ncalled9_le U (nrun9_le U M K T n) o g args h _ e;rw[ncalled_eq,nrun_eq] at this;exact kcall_pres (krun_pres hK n) _ _ _ _ _ _ this
end Go.Proofs.YtojhjaohaafeaaaGreatDoor
namespace Go.Proofs.YtojhjaohaafeaaaGreatDoor
open Go.Proofs Go.RowKit Go.Shelf
set_option linter.unusedVariables false
def lays160_ren:Go.Shelf.Ren:=⟨fun|119=>421|120=>427|137=>420|151=>387|152=>409|160=>384|197=>414|217=>425|224=>422|225=>423|227=>403|228=>417|231=>401|232=>402|233=>404|234=>405|235=>406|236=>407|260=>424|266=>428|271=>418|n=>n,fun|0=>0|3=>3|4=>4|5=>5|9=>9|21=>21|46=>245|105=>548|116=>540|117=>541|119=>553|124=>544|138=>555|139=>556|n=>n,fun|3=>1|4=>2|n=>n⟩
theorem lays160:Go.Proofs.Lays.n160 prog lays160_ren:={
 mixed:=by kernel_rfl
 f119:=func421.trans (congrArg some (by kernel_rfl))
 f120:=func427.trans (congrArg some (by kernel_rfl))
 f137:=func420.trans (congrArg some (by kernel_rfl))
 f151:=func387.trans (congrArg some (by kernel_rfl))
 f152:=func409.trans (congrArg some (by kernel_rfl))
 f160:=func384.trans (congrArg some (by kernel_rfl))
 f197:=func414.trans (congrArg some (by kernel_rfl))
 f217:=func425.trans (congrArg some (by kernel_rfl))
 f224:=func422.trans (congrArg some (by kernel_rfl))
 f225:=func423.trans (congrArg some (by kernel_rfl))
 f227:=func403.trans (congrArg some (by kernel_rfl))
 f228:=func417.trans (congrArg some (by kernel_rfl))
 f231:=func401.trans (congrArg some (by kernel_rfl))
 f232:=func402.trans (congrArg some (by kernel_rfl))
 f233:=func404.trans (congrArg some (by kernel_rfl))
 f234:=func405.trans (congrArg some (by kernel_rfl))
 f235:=func406.trans (congrArg some (by kernel_rfl))
 f236:=func407.trans (congrArg some (by kernel_rfl))
 f260:=func424.trans (congrArg some (by kernel_rfl))
 f266:=func428.trans (congrArg some (by kernel_rfl))
 f271:=func418.trans (congrArg some (by kernel_rfl))
 t0:=underlying0
 a0:=Tryz.isAgg0
 z0:=Tryz.sizeOf0
 v0:=Tryz.zeroValue0
 t3:=underlying3
 a3:=Tryz.isAgg3
 z3:=Tryz.sizeOf3
 v3:=Tryz.zeroValue3
 t4:=underlying4
 a4:=Tryz.isAgg4
 z4:=Tryz.sizeOf4
 v4:=Tryz.zeroValue4
 t5:=underlying5
 a5:=Tryz.isAgg5
 z5:=Tryz.sizeOf5
 v5:=Tryz.zeroValue5
 t9:=underlying9
 a9:=Tryz.isAgg9
 z9:=Tryz.sizeOf9
 v9:=Tryz.zeroValue9
 t21:=underlying21
 a21:=Tryz.isAgg21
 z21:=Tryz.sizeOf21
 v21:=Tryz.zeroValue21
 t46:=underlying245
 a46:=Tryz.isAgg245
 z46:=Tryz.sizeOf245
 v46:=Tryz.zeroValue245
 t105:=underlying548
 a105:=Tryz.isAgg548
 z105:=Tryz.sizeOf548
 v105:=Tryz.zeroValue548
 t116:=underlying540
 a116:=Tryz.isAgg540
 z116:=Tryz.sizeOf540
 t117:=underlying541
 a117:=Tryz.isAgg541
 z117:=Tryz.sizeOf541
 v117:=Tryz.zeroValue541
 t119:=underlying553
 a119:=Tryz.isAgg553
 z119:=Tryz.sizeOf553
 t124:=underlying544
 a124:=Tryz.isAgg544
 z124:=Tryz.sizeOf544
 v124:=Tryz.zeroValue544
 t138:=underlying555
 a138:=Tryz.isAgg555
 z138:=Tryz.sizeOf555
 v138:=Tryz.zeroValue555
 t139:=underlying556
 a139:=Tryz.isAgg556
 z139:=Tryz.sizeOf556
 v139:=Tryz.zeroValue556
 g3:=by kernel_rfl
 g4:=by kernel_rfl }
def letL:List UInt8:=[97,98,99,100,101,102,103,104,105,106,107,108,109,110,111,112,113,114,115,116,117,118,119,120,121,122,48,49,50,51,52,53,54,55,56,57,45,95]
theorem letL_low:∀ b∈letL,b.toNat<128:=by decide
theorem letL_good:∀ b∈letL,bad9 letL b=false:=by
 intro b hb;have h:bad9 lettersB.data.toList b=badL b:=bad9_eq b;rw[letters_eq] at h
 have h2:∀ b∈letL,badL b=false:=by unfold badL;rw[letters_eq];decide +kernel
 exact h.trans (h2 b hb)
theorem dropW_all{α:Type}(p:α->Bool):∀ l:List α,l.dropWhile p=[]->∀ x∈l,p x=true
 |[],_,x,hx=>by cases hx
 |a::l,h,x,hx=>by
  rw[List.dropWhile_cons] at h
  cases hp:p a with
  |false=>rw[hp] at h;simp at h
  |true=>
   rw[hp] at h
   rcases List.mem_cons.1 hx with rfl|hx
   ·exact hp
   ·exact dropW_all p l h x hx
theorem trim_all{s L:List UInt8}(h:Lib.trimS s L=[]):∀ b∈s,L.contains b=true:=by
 unfold Lib.trimS Lib.trimLeftS Lib.trimRightS at h;intro b hb;have h1:=dropW_all _ _ h;have h2:b∈s.reverse:=List.mem_reverse.2 hb;have h3:=List.takeWhile_append_dropWhile (p:=fun x=>L.contains x) (l:=s.reverse);rw[<- h3] at h2
 rcases List.mem_append.1 h2 with h2|h2
 ·have:=List.all_takeWhile (p:=fun x=>L.contains x) (l:=s.reverse);exact List.all_eq_true.1 this b h2
 ·exact h1 b (List.mem_reverse.2 h2)
theorem trm_callable:Callable prog 384:=⟨_,func384,by kernel_rfl,rfl⟩
theorem trim_law(l:List UInt8)(hl:l.length<=1000000):ASpec prog 384 [.str l,.str letL] (.str (Lib.trimS l letL)):=⟨trm_callable,fun x vs hh hc ht=>by
 obtain⟨u,v,rfl,hu,hv⟩:=trel2 ht;obtain⟨s,rfl,rfl⟩:=rv_str hu;obtain⟨t,rfl,ht2⟩:=rv_str hv
 have hs:s.size<=1000000:=by rw[Lib.size_eq];exact hl
 have hts:t.size<4294967281:=by rw[Lib.size_eq,ht2];decide
 have:=Any.strings_Trim_laid lays160 (by kernel_rfl) s t x.w (by omega) hts (fun j b hb=>letL_low b (by rw[<- ht2];exact Vd hb));refine this.mono ?_;rintro e w' ⟨rfl,hb⟩;rw[ht2];obtain⟨g1,g2⟩:=Below.ev hc hh hb
 exact⟨_,_,_,_,rfl,g1,g2,.str _ _ (by simp),.one (.refl _)⟩⟩
def isNm(s:List UInt8):Bool:=decide (s≠[])&&decide (s.length<=30)&&decide (Lib.trimS s letL=[])
theorem isname_spec(s:List UInt8):ASpec prog 363 [.str s] (.bool (isNm s)):=by
 unfold isNm
 by_cases h0:s=[]
 ·subst h0;refine Sh func363 (by kernel_rfl) rfl fun c0 hc0=>?_;simp only[go_sem];exact Vr
 by_cases h1:(s.length:Int)<=30
 case neg=>
  rw[decide_eq_false (show ¬s.length<=30 by omega)];refine Sh func363 (by kernel_rfl) rfl fun c0 hc0=>?_;simp only[go_sem,h0,h1,ne_eq]
  try simp only[Bool.and_false,Bool.false_and]
  exact Vr
 case pos=>
 have ht:=trim_law s (by omega)
 by_cases h2:Lib.trimS s letL=[]
 case neg=>
  rw[decide_eq_false h2];refine Sh func363 (by kernel_rfl) rfl fun c0 hc0=>?_;simp only[go_sem,h0,h1,ne_eq];refine Ops.pure (Wanted.test 7 true true rfl) rfl rfl (ht) Vl rfl rfl ?_;refine Og func363 ?_;simp only[go_sem,h2]
  try simp only[Bool.and_false,Bool.false_and]
  exact Vr
 case pos=>
  have hall:=trim_all h2
  have hmem:∀ b∈s,b∈letL:=fun b hb=>by simpa using hall b hb
  have hf:=cfunc_law s (by
   rw[show all9 low9 s=s.all low9 from all9_eq _ _,List.all_eq_true]
   exact fun b hb=>Nat.ble_eq_true_of_le (letL_low b (hmem b hb)))
  have ha:any9 (bad9 letL) s=false:=by
   rw[any9_eq,List.any_eq_false]
   exact fun b hb=>by rw[letL_good b (hmem b hb)];simp
  rw[show [97,98,99,100,101,102,103,104,105,106,107,108,109,110,111,112,113,114,115,116,117,118,119,120,121,122,48,49,50,51,52,53,54,55,56,57,45,95]=letL from rfl,ha] at hf;rw[h2] at ht;rw[decide_eq_true h2,decide_eq_true (show s.length<=30 by omega),decide_eq_true (show s≠[] from h0)];refine Sh func363 (by kernel_rfl) rfl fun c0 hc0=>?_;simp only[go_sem,h0,h1];refine Ops.pure (Wanted.test 7 true true rfl) rfl rfl (ht) Vl rfl rfl ?_;refine Og func363 ?_;simp only[go_sem];refine Ops.pure (Wanted.test 12 true true rfl) rfl rfl (hf) Vl rfl rfl ?_;refine Og func363 ?_;simp only[go_sem];exact Vr
def cutF(p:List UInt8):List UInt8×Bool:=match p with
 |[]=>([],false)
 |c::r=>if c=47 then(r,true) else(c::r,false)
theorem haspre_spec(p:List UInt8):ASpec prog 397 [.str p,.str [47]] (.bool (cutF p).2):=by
 match p with
 |[]=>
  refine Sh func397 (by kernel_rfl) rfl fun c0 hc0=>?_;simp only[go_sem,Int.natCast_one];exact Vr
 |c::r=>
  have h1:(1:Int)<=((r.length+1:Nat):Int):=by omega
  unfold cutF
  by_cases hc:c=47
  ·subst hc;refine Sh func397 (by kernel_rfl) rfl fun c0 hc0=>?_;simp only[go_sem,h1,Int.natCast_one];(and_intros<;>try omega)
   try simp only[Ys]
   exact Vr
  ·have hc2:¬([c]=[47]):=by simpa using hc
   refine Sh func397 (by kernel_rfl) rfl fun c0 hc0=>?_;simp only[go_sem,h1,Int.natCast_one,hc,hc2];(and_intros<;>try omega)
   try simp only[hc,Yr]
   exact Vr
theorem cutl_spec(p:List UInt8):ASpec prog 381 [.str p,.str [47]] (.tup [.str (cutF p).1,.bool (cutF p).2]):=by
 have hp:=haspre_spec p
 match p,hp with
 |[],hp=>
  simp only[cutF] at hp;refine Sh func381 (by kernel_rfl) rfl fun c0 hc0=>?_;simp only[go_sem];refine Ops.pure .free rfl rfl (hp) Vl rfl rfl ?_;refine Og func381 ?_;simp only[go_sem];exact Vr
 |c::r,hp=>
  unfold cutF at hp ⊢
  by_cases hc:c=47
  ·subst hc;simp only[Ys] at hp ⊢;refine Sh func381 (by kernel_rfl) rfl fun c0 hc0=>?_;simp only[go_sem];refine Ops.pure .free rfl rfl (hp) Vl rfl rfl ?_;refine Og func381 ?_;simp only[go_sem];(and_intros<;>try omega);exact Vr
  ·simp only[hc,Yr] at hp ⊢;refine Sh func381 (by kernel_rfl) rfl fun c0 hc0=>?_;simp only[go_sem];refine Ops.pure .free rfl rfl (hp) Vl rfl rfl ?_;refine Og func381 ?_;simp only[go_sem];(and_intros<;>try omega);exact Vr
theorem cut_spec(p:List UInt8):ASpec prog 359 [.str p,.str [47]] (.tup [.str (cutF p).1,.bool (cutF p).2]):=by
 have hp:=cutl_spec p;refine Sh func359 (by kernel_rfl) rfl fun c0 hc0=>?_;simp only[go_sem];refine Ops.pure .free rfl rfl (hp) Vl rfl rfl ?_;refine Og func359 ?_;simp only[go_sem];exact Vr
set_option linter.unusedVariables false
theorem pad_take(kk:Nat)(l:List (List AV))(cap:Nat):(padJ kk l cap).take l.length=l:=by
 unfold padJ;rw[List.take_append_of_le_length (by simp)];exact List.take_of_length_le (by simp)
theorem pad_len(kk:Nat){l:List (List AV)}{cap:Nat}(h:l.length<=cap):(padJ kk l cap).length=cap:=by
 simp[padJ];omega
theorem take_front{α:Type}(a b:List α)(n:Nat)(h:a.length=n):(a++b).take n=a:=by
 subst h;simp
theorem drop_front{α:Type}(a b:List α)(n:Nat)(h:a.length=n):(a++b).drop n=b:=by
 subst h;simp
theorem three_of{α:Type}{L l:List α}{i n:Nat}(hi:i<n)(hL:L.take n=l)(hn:n<=L.length):∃ A b B T,L=A++(b::B++T)/\l=A++b::B/\A.length=i/\B.length+1+i=n/\A=l.take i/\b::B=l.drop i:=by
 subst hL
 have hd:(L.take n).drop i≠[]:=by
  intro e;have:=congrArg List.length e;simp at this;omega
 obtain⟨b,B,hB⟩:=List.exists_cons_of_ne_nil hd
 have h1:L.take n=(L.take n).take i++b::B:=by rw[<- hB,List.take_append_drop]
 refine⟨(L.take n).take i,b,B,L.drop n,?_,h1,by simp;omega,?_,rfl,hB.symm⟩
 ·rw[<- List.append_assoc,<- h1,List.take_append_drop]
 ·have:=congrArg List.length hB;simp at this;omega
theorem ins_place{α:Type}{L l:List α}{x:α}{i n:Nat}(hi:i<n)(hL:L.take n=l)(hn:n<=L.length)(R:List α)(hR:R=L.take (i+1)++(L.drop i).take (n-i)++L.drop (i+1+(n-i))) :
  (R.take i++[x]++R.drop (i+1)).take (n+1)=l.take i++x::l.drop i:=by
 obtain⟨A,b,B,T,rfl,rfl,hA,hB,e1,e2⟩:=three_of hi hL hn
 have r1:(A++(b::B++T)).take (i+1)=A++[b]:=by
  have:A++(b::B++T)=(A++[b])++(B++T):=by simp
  rw[this];exact take_front _ _ _ (by simp;omega)
 have r2:((A++(b::B++T)).drop i).take (n-i)=b::B:=by
  rw[drop_front A _ i hA];exact take_front _ _ _ (by simp;omega)
 rw[r1,r2] at hR;generalize (A++(b::B++T)).drop (i+1+(n-i))=D at hR;subst hR
 have r3:(A++[b]++b::B++D).take i=A:=by
  rw[List.append_assoc,List.append_assoc];exact take_front _ _ _ hA
 have r4:(A++[b]++b::B++D).drop (i+1)=b::B++D:=by
  rw[List.append_assoc];exact drop_front _ _ _ (by simp;omega)
 rw[r3,r4,<- e1,<- e2,<- List.append_assoc];rw[show A++[x]++b::B++D=(A++x::b::B)++D by simp];exact take_front _ _ _ (by simp;omega)
theorem ins_grow{α:Type}{L l:List α}{x z:α}{i n:Nat}(hi:i<n)(hL:L.take n=l)(hn:n<=L.length)(D R:List α)(hR:R=L.take i++List.replicate (n+1-i) z++D) :
  ((R.take i++[x]++R.drop (i+1)).take (i+1)++(L.drop i).take (n-i)++(R.take i++[x]++R.drop (i+1)).drop (i+1+(n-i))).take (n+1)=l.take i++x::l.drop i:=by
 obtain⟨A,b,B,T,rfl,rfl,hA,hB,e1,e2⟩:=three_of hi hL hn;have r0:(A++(b::B++T)).take i=A:=take_front _ _ _ hA
 have r2:((A++(b::B++T)).drop i).take (n-i)=b::B:=by
  rw[drop_front A _ i hA];exact take_front _ _ _ (by simp;omega)
 rw[r0] at hR
 have r1:R.take i=A:=by rw[hR,List.append_assoc];exact take_front _ _ _ hA
 rw[r1,r2,<- e1,<- e2];rw[take_front (A++[x]) _ (i+1) (by simp;omega)];rw[show ∀ E,A++[x]++b::B++E=(A++x::b::B)++E by simp];exact take_front _ _ _ (by simp;omega)
def FrzR(k:Nat)(res:List (List AV))(r:AV)(h':List ABlk):Prop:=∃ i o n cap L,r=.msl i k o n cap/\h'[i]? = some (.rows k L)/\o+n<=L.length/\(L.drop o).take n=res
theorem ACall.frz{P:Program}{f:FuncId}{args:List AV}{h:List ABlk}{k:Nat}{res:List (List AV)}(hk:0<k)(hp:∀ x∈res,∀ a∈x,a.plain=true)(H:ACall P f args h (FrzR k res)):ACall P f args h fun r _=>LeR r (.sl k res .no):=by
 refine ACall.freeze (H.mono ?_);rintro r h' ⟨i,o,n,cap,L,rfl,h1,h2,h3⟩;exact⟨i,k,o,n,cap,L,rfl,h1,hk,h2,by rw[h3];exact hp,by rw[h3];exact .one (.refl _)⟩
theorem From.whole{s:AState}{kk m n cap i:Nat}{L l:List (List AV)}(hi:s.h[i]? = some (.rows kk L))(ht:L.take n=l)(hn:n<=L.length)(hcl:∀ x∈l,∀ a∈x,a.cell=true)(hg:cap<n+m):From s kk m (.msl i kk 0 n cap) l:=by
 subst ht;have:=From.rows (m:=m) i 0 n cap L hi (by omega) (by rw[List.drop_zero];exact hcl) hg
 rwa [List.drop_zero] at this
theorem pL{l:List (List AV)}(h:∀ x∈l,∀ a∈x,a.plain=true):∀ x∈l,∀ a∈x,a.cell=true:=fun x hx a ha=>by
 have:=h x hx a ha
 cases a<;>first|rfl|cases this
theorem ins_plain{l:List (List AV)}{x:List AV}(hl:∀ x∈l,∀ a∈x,a.plain=true)(hx:∀ a∈x,a.plain=true)(i:Nat):∀ y∈l.take i++x::l.drop i,∀ a∈y,a.plain=true:=by
 intro y hy
 rcases List.mem_append.1 hy with hy|hy
 ·exact hl y (List.mem_of_mem_take hy)
 ·rcases List.mem_cons.1 hy with rfl|hy
  ·exact hx
  ·exact hl y (List.mem_of_mem_drop hy)
theorem one_plain{x:List AV}(hx:∀ a∈x,a.plain=true):∀ y∈[x],∀ a∈y,a.plain=true:=fun y hy=>by rw[List.mem_singleton.1 hy];exact hx
theorem overlaps_ext_acc(args:Array Value)(w:World)(v:Value)(h:(Extern.SlicesOverlaps.overlaps #[44,44] #[4] args).run prog w=.ok v w):(callFunc 170 args).run prog w=.ok (.value v) w:=by
 rw[run_callFunc_extern func170 (by kernel_rfl) (by kernel_rfl) (by kernel_rfl) (e:=Extern.SlicesOverlaps.overlaps #[44,44] #[4]) (by kernel_rfl),h]
 try rfl
theorem insert_end_acc(l:List (List AV))(x:List AV)(hpl:∀ x∈l,∀ a∈x,a.plain=true)(hpx:∀ a∈x,a.plain=true)(hl:l.length<=1000000):ACall prog 103 [.msu 0 3 l.length,.int .i64 l.length,.sl 3 [x] .no] [.rows 3 (l)] fun r _=>LeR r (.sl 3 (l++[x]) .no):=by
 refine ACall.frz (by omega) (by
  intro y hy
  rcases List.mem_append.1 hy with hy|hy
  ·exact hpl y hy
  ·rw[List.mem_singleton.1 hy];exact hpx) ?_
 refine ACall.of func103 rfl fun c0 hc0=>?_;simp only[ntmps103,Ya,Y9,Nat.reduceAdd,Nat.reduceSub,Ym,Yn,Y5,Y3];refine Run.resolve (j:=0) (i:=0) rfl rfl fun cap hcap hcm=>?_;simp only[Y6];have hpl2:=pad_len 3 hcap;have hpt:=pad_take 3 l cap;generalize padJ 3 l cap=L at hpl2 hpt
 have h1:¬(1:Int)=0:=by omega
 by_cases hroom:l.length+1<=cap
 ·refine Rg func103 ?_;simp only[go_sem,hroom,h1,Int.natCast_one];(and_intros<;>try omega)
  ·exact pL (one_plain hpx)
  ·refine⟨0,0,l.length+1,cap,_,rfl,rfl,by simp;omega,?_⟩;rw[List.drop_zero,hpt];exact take_front _ _ _ (by simp)
 ·refine Rg func103 ?_;simp only[go_sem,hroom,h1,Int.natCast_one];(and_intros<;>try omega);refine Ops.appendF tab_ok .free rfl (q:=(⟨_,[x]⟩:PD (List (List AV)))) (l:=l) rfl rfl rfl rfl (by decide) rfl (pL (one_plain hpx)) (From.whole rfl hpt (by omega) (pL hpl) (show cap<l.length+1 by omega)) (by first|omega|(simp;omega)) (by first|omega|(simp;omega)) fun cap2 hcap2 hcm2=>?_;refine Og func103 ?_;simp only[go_sem];refine⟨1,0,l.length+1,cap2,_,rfl,rfl,by simp,?_⟩;rw[List.drop_zero];exact take_front _ _ _ (by simp)
theorem insert_grow_acc(l:List (List AV))(x:List AV)(hpl:∀ x∈l,∀ a∈x,a.plain=true)(hpx:∀ a∈x,a.plain=true)(i:Nat)(hi:i<l.length)(hl:l.length<=1000000):ACall prog 103 [.msu 0 3 l.length,.int .i64 i,.sl 3 [x] .no] [.rows 3 (l)] fun r _=>LeR r (.sl 3 (l.take i++x::l.drop i) .no):=by
 refine ACall.frz (by omega) (ins_plain hpl hpx i) ?_;refine ACall.of func103 rfl fun c0 hc0=>?_;simp only[ntmps103,Ya,Y9,Nat.reduceAdd,Nat.reduceSub,Ym,Yn,Y5,Y3];refine Run.resolve (j:=0) (i:=0) rfl rfl fun cap hcap hcm=>?_;simp only[Y6];have hpl2:=pad_len 3 hcap;have hpt:=pad_take 3 l cap;generalize padJ 3 l cap=L at hpl2 hpt
 have h1:¬(1:Int)=0:=by omega
 have h2:¬(i:Int)=l.length:=by omega
 have hm1:min (l.length+1-i) (l.length+1-(i+1))=l.length-i:=by omega
 have hm2:min 1 (l.length+1-i)=1:=by omega
 by_cases hroom:l.length+1<=cap
 ·have h3:¬(cap:Int)<(l.length:Int)+1:=by omega
  have e3:((l.length:Int)+1).toNat=l.length+1:=by omega
  have e4:((i:Int)+1).toNat=i+1:=by omega
  refine Rg func103 ?_;simp only[go_sem,h1,h2,h3,e3,e4,Int.natCast_one];(and_intros<;>try first|rfl|omega);refine Ops.overlaps .free rfl rfl underlying44 (size:=3) (fun w=>(tab_ok 43 _ rfl).sizeOf w) overlaps_ext_acc (by omega) rfl rfl rfl (by intro e;rw[e] at hpl2;simp at hpl2;omega) ?_;refine Og func103 ?_;simp only[go_sem,e4];(and_intros<;>try first|rfl|omega)
  all_goals simp only[hm1,hm2] at *
  ·have:(L.drop i).take (l.length-i)=l.drop i:=by rw[<- List.drop_take,hpt]
   rw[this];exact pL fun y hy=>hpl y (List.mem_of_mem_drop hy)
  ·simp;omega
  ·refine⟨0,0,l.length+1,cap,_,rfl,rfl,by simp;omega,?_⟩;rw[List.drop_zero];refine(ins_place (x:=x) hi hpt (by omega) _ rfl).trans ?_;simp
 ·have h3:(cap:Int)<(l.length:Int)+1:=by omega
  refine Rg func103 ?_;simp only[go_sem,h1,h2,h3,Int.natCast_one,↓aT,↓aF,Nat.reduceAdd,Nat.reduceLT];(and_intros<;>try omega)
  have hmm:((l.length:Int)+1-i).toNat=l.length+1-i:=by omega
  have e4:((i:Int)+1).toNat=i+1:=by omega
  have hm3:min (l.length-i) (l.length+1-(i+1))=l.length-i:=by omega
  have hlt:((L.drop 0).take i).length=i:=by simp;omega
  refine Ops.appendZ tab_ok .free rfl rfl rfl rfl rfl (by decide) (kd:=.i64) (kd':=.i64) (m:=(l.length:Int)+1-i) rfl rfl (by omega) (.rows 0 0 i cap L rfl (by omega) (by
   rw[List.drop_zero];intro y hy;exact pL hpl y (by rw[<- hpt];exact List.take_subset_take_left _ (by omega) hy)) (by rw[hmm];omega)) (by rw[hmm,hlt];simp;omega) (by rw[hmm,hlt];omega) fun cap2 hcap2 hcm2=>?_
  rw[hmm,hlt] at hcap2 ⊢
  have hn1:i+(l.length+1-i)=l.length+1:=by omega
  rw[hn1] at hcap2 ⊢;refine Og func103 ?_;simp only[go_sem,e4];(and_intros<;>try first|rfl|omega)
  all_goals simp only[hm2,hm3] at *
  ·simp;omega
  ·simp;omega
  ·have:(L.drop i).take (l.length-i)=l.drop i:=by rw[<- List.drop_take,hpt]
   rw[this];exact pL fun y hy=>hpl y (List.mem_of_mem_drop hy)
  ·refine⟨1,0,l.length+1,cap2,_,rfl,rfl,by simp;omega,?_⟩;rw[List.drop_zero];refine(ins_grow (x:=x) (z:=[.int .i64 0,.int .i64 0,.str []]) hi hpt (by omega) _ _ rfl).trans ?_;simp
theorem insert_acc(l:List (List AV))(x:List AV)(hpl:∀ x∈l,∀ a∈x,a.plain=true)(hpx:∀ a∈x,a.plain=true)(i:Nat)(hi:i<=l.length)(hl:l.length<=1000000):ACall prog 103 [.msu 0 3 l.length,.int .i64 i,.sl 3 [x] .no] [.rows 3 l] fun r _=>LeR r (.sl 3 (l.take i++x::l.drop i) .no):=by
 rcases Nat.lt_or_ge i l.length with h|h
 ·exact insert_grow_acc l x hpl hpx i h hl
 ·obtain rfl:i=l.length:=by omega
  have:=insert_end_acc l x hpl hpx hl
  simpa using this
theorem overlaps_ext_rep(args:Array Value)(w:World)(v:Value)(h:(Extern.SlicesOverlaps.overlaps #[41,41] #[4] args).run prog w=.ok v w):(callFunc 296 args).run prog w=.ok (.value v) w:=by
 rw[run_callFunc_extern func296 (by kernel_rfl) (by kernel_rfl) (by kernel_rfl) (e:=Extern.SlicesOverlaps.overlaps #[41,41] #[4]) (by kernel_rfl),h]
 try rfl
theorem insert_end_rep(l:List (List AV))(x:List AV)(hpl:∀ x∈l,∀ a∈x,a.plain=true)(hpx:∀ a∈x,a.plain=true)(hl:l.length<=1000000):ACall prog 264 [.msu 0 6 l.length,.int .i64 l.length,.sl 6 [x] .no] [.rows 6 (l)] fun r _=>LeR r (.sl 6 (l++[x]) .no):=by
 refine ACall.frz (by omega) (by
  intro y hy
  rcases List.mem_append.1 hy with hy|hy
  ·exact hpl y hy
  ·rw[List.mem_singleton.1 hy];exact hpx) ?_
 refine ACall.of func264 rfl fun c0 hc0=>?_;simp only[ntmps264,Ya,Y9,Nat.reduceAdd,Nat.reduceSub,Ym,Yn,Y5,Y3];refine Run.resolve (j:=0) (i:=0) rfl rfl fun cap hcap hcm=>?_;simp only[Y6];have hpl2:=pad_len 6 hcap;have hpt:=pad_take 6 l cap;generalize padJ 6 l cap=L at hpl2 hpt
 have h1:¬(1:Int)=0:=by omega
 by_cases hroom:l.length+1<=cap
 ·refine Rg func264 ?_;simp only[go_sem,hroom,h1,Int.natCast_one];(and_intros<;>try omega)
  ·exact pL (one_plain hpx)
  ·refine⟨0,0,l.length+1,cap,_,rfl,rfl,by simp;omega,?_⟩;rw[List.drop_zero,hpt];exact take_front _ _ _ (by simp)
 ·refine Rg func264 ?_;simp only[go_sem,hroom,h1,Int.natCast_one];(and_intros<;>try omega);refine Ops.appendF tab_ok .free rfl (q:=(⟨_,[x]⟩:PD (List (List AV)))) (l:=l) rfl rfl rfl rfl (by decide) rfl (pL (one_plain hpx)) (From.whole rfl hpt (by omega) (pL hpl) (show cap<l.length+1 by omega)) (by first|omega|(simp;omega)) (by first|omega|(simp;omega)) fun cap2 hcap2 hcm2=>?_;refine Og func264 ?_;simp only[go_sem];refine⟨1,0,l.length+1,cap2,_,rfl,rfl,by simp,?_⟩;rw[List.drop_zero];exact take_front _ _ _ (by simp)
theorem insert_grow_rep(l:List (List AV))(x:List AV)(hpl:∀ x∈l,∀ a∈x,a.plain=true)(hpx:∀ a∈x,a.plain=true)(i:Nat)(hi:i<l.length)(hl:l.length<=1000000):ACall prog 264 [.msu 0 6 l.length,.int .i64 i,.sl 6 [x] .no] [.rows 6 (l)] fun r _=>LeR r (.sl 6 (l.take i++x::l.drop i) .no):=by
 refine ACall.frz (by omega) (ins_plain hpl hpx i) ?_;refine ACall.of func264 rfl fun c0 hc0=>?_;simp only[ntmps264,Ya,Y9,Nat.reduceAdd,Nat.reduceSub,Ym,Yn,Y5,Y3];refine Run.resolve (j:=0) (i:=0) rfl rfl fun cap hcap hcm=>?_;simp only[Y6];have hpl2:=pad_len 6 hcap;have hpt:=pad_take 6 l cap;generalize padJ 6 l cap=L at hpl2 hpt
 have h1:¬(1:Int)=0:=by omega
 have h2:¬(i:Int)=l.length:=by omega
 have hm1:min (l.length+1-i) (l.length+1-(i+1))=l.length-i:=by omega
 have hm2:min 1 (l.length+1-i)=1:=by omega
 by_cases hroom:l.length+1<=cap
 ·have h3:¬(cap:Int)<(l.length:Int)+1:=by omega
  have e3:((l.length:Int)+1).toNat=l.length+1:=by omega
  have e4:((i:Int)+1).toNat=i+1:=by omega
  refine Rg func264 ?_;simp only[go_sem,h1,h2,h3,e3,e4,Int.natCast_one];(and_intros<;>try first|rfl|omega);refine Ops.overlaps .free rfl rfl underlying41 (size:=6) (fun w=>(tab_ok 46 _ rfl).sizeOf w) overlaps_ext_rep (by omega) rfl rfl rfl (by intro e;rw[e] at hpl2;simp at hpl2;omega) ?_;refine Og func264 ?_;simp only[go_sem,e4];(and_intros<;>try first|rfl|omega)
  all_goals simp only[hm1,hm2] at *
  ·have:(L.drop i).take (l.length-i)=l.drop i:=by rw[<- List.drop_take,hpt]
   rw[this];exact pL fun y hy=>hpl y (List.mem_of_mem_drop hy)
  ·simp;omega
  ·refine⟨0,0,l.length+1,cap,_,rfl,rfl,by simp;omega,?_⟩;rw[List.drop_zero];refine(ins_place (x:=x) hi hpt (by omega) _ rfl).trans ?_;simp
 ·have h3:(cap:Int)<(l.length:Int)+1:=by omega
  refine Rg func264 ?_;simp only[go_sem,h1,h2,h3,Int.natCast_one,↓aT,↓aF,Nat.reduceAdd,Nat.reduceLT];(and_intros<;>try omega)
  have hmm:((l.length:Int)+1-i).toNat=l.length+1-i:=by omega
  have e4:((i:Int)+1).toNat=i+1:=by omega
  have hm3:min (l.length-i) (l.length+1-(i+1))=l.length-i:=by omega
  have hlt:((L.drop 0).take i).length=i:=by simp;omega
  refine Ops.appendZ tab_ok .free rfl rfl rfl rfl rfl (by decide) (kd:=.i64) (kd':=.i64) (m:=(l.length:Int)+1-i) rfl rfl (by omega) (.rows 0 0 i cap L rfl (by omega) (by
   rw[List.drop_zero];intro y hy;exact pL hpl y (by rw[<- hpt];exact List.take_subset_take_left _ (by omega) hy)) (by rw[hmm];omega)) (by rw[hmm,hlt];simp;omega) (by rw[hmm,hlt];omega) fun cap2 hcap2 hcm2=>?_
  rw[hmm,hlt] at hcap2 ⊢
  have hn1:i+(l.length+1-i)=l.length+1:=by omega
  rw[hn1] at hcap2 ⊢;refine Og func264 ?_;simp only[go_sem,e4];(and_intros<;>try first|rfl|omega)
  all_goals simp only[hm2,hm3] at *
  ·simp;omega
  ·simp;omega
  ·have:(L.drop i).take (l.length-i)=l.drop i:=by rw[<- List.drop_take,hpt]
   rw[this];exact pL fun y hy=>hpl y (List.mem_of_mem_drop hy)
  ·refine⟨1,0,l.length+1,cap2,_,rfl,rfl,by simp;omega,?_⟩;rw[List.drop_zero];refine(ins_grow (x:=x) (z:=[.int .i64 0,.int .i64 0,.bool false,.int .i64 0,.str [],.nils]) hi hpt (by omega) _ _ rfl).trans ?_;simp
theorem insert_rep(l:List (List AV))(x:List AV)(hpl:∀ x∈l,∀ a∈x,a.plain=true)(hpx:∀ a∈x,a.plain=true)(i:Nat)(hi:i<=l.length)(hl:l.length<=1000000):ACall prog 264 [.msu 0 6 l.length,.int .i64 i,.sl 6 [x] .no] [.rows 6 l] fun r _=>LeR r (.sl 6 (l.take i++x::l.drop i) .no):=by
 rcases Nat.lt_or_ge i l.length with h|h
 ·exact insert_grow_rep l x hpl hpx i h hl
 ·obtain rfl:i=l.length:=by omega
  have:=insert_end_rep l x hpl hpx hl
  simpa using this
theorem overlaps_ext_nod(args:Array Value)(w:World)(v:Value)(h:(Extern.SlicesOverlaps.overlaps #[63,63] #[4] args).run prog w=.ok v w):(callFunc 354 args).run prog w=.ok (.value v) w:=by
 rw[run_callFunc_extern func354 (by kernel_rfl) (by kernel_rfl) (by kernel_rfl) (e:=Extern.SlicesOverlaps.overlaps #[63,63] #[4]) (by kernel_rfl),h]
 try rfl
theorem insert_end_nod(l:List (List AV))(x:List AV)(hpl:∀ x∈l,∀ a∈x,a.plain=true)(hpx:∀ a∈x,a.plain=true)(hl:l.length<=1000000):ACall prog 311 [.msu 0 4 l.length,.int .i64 l.length,.sl 4 [x] .no] [.rows 4 (l)] fun r _=>LeR r (.sl 4 (l++[x]) .no):=by
 refine ACall.frz (by omega) (by
  intro y hy
  rcases List.mem_append.1 hy with hy|hy
  ·exact hpl y hy
  ·rw[List.mem_singleton.1 hy];exact hpx) ?_
 refine ACall.of func311 rfl fun c0 hc0=>?_;simp only[ntmps311,Ya,Y9,Nat.reduceAdd,Nat.reduceSub,Ym,Yn,Y5,Y3];refine Run.resolve (j:=0) (i:=0) rfl rfl fun cap hcap hcm=>?_;simp only[Y6];have hpl2:=pad_len 4 hcap;have hpt:=pad_take 4 l cap;generalize padJ 4 l cap=L at hpl2 hpt
 have h1:¬(1:Int)=0:=by omega
 by_cases hroom:l.length+1<=cap
 ·refine Rg func311 ?_;simp only[go_sem,hroom,h1,Int.natCast_one];(and_intros<;>try omega)
  ·exact pL (one_plain hpx)
  ·refine⟨0,0,l.length+1,cap,_,rfl,rfl,by simp;omega,?_⟩;rw[List.drop_zero,hpt];exact take_front _ _ _ (by simp)
 ·refine Rg func311 ?_;simp only[go_sem,hroom,h1,Int.natCast_one];(and_intros<;>try omega);refine Ops.appendF tab_ok .free rfl (q:=(⟨_,[x]⟩:PD (List (List AV)))) (l:=l) rfl rfl rfl rfl (by decide) rfl (pL (one_plain hpx)) (From.whole rfl hpt (by omega) (pL hpl) (show cap<l.length+1 by omega)) (by first|omega|(simp;omega)) (by first|omega|(simp;omega)) fun cap2 hcap2 hcm2=>?_;refine Og func311 ?_;simp only[go_sem];refine⟨1,0,l.length+1,cap2,_,rfl,rfl,by simp,?_⟩;rw[List.drop_zero];exact take_front _ _ _ (by simp)
theorem insert_grow_nod(l:List (List AV))(x:List AV)(hpl:∀ x∈l,∀ a∈x,a.plain=true)(hpx:∀ a∈x,a.plain=true)(i:Nat)(hi:i<l.length)(hl:l.length<=1000000):ACall prog 311 [.msu 0 4 l.length,.int .i64 i,.sl 4 [x] .no] [.rows 4 (l)] fun r _=>LeR r (.sl 4 (l.take i++x::l.drop i) .no):=by
 refine ACall.frz (by omega) (ins_plain hpl hpx i) ?_;refine ACall.of func311 rfl fun c0 hc0=>?_;simp only[ntmps311,Ya,Y9,Nat.reduceAdd,Nat.reduceSub,Ym,Yn,Y5,Y3];refine Run.resolve (j:=0) (i:=0) rfl rfl fun cap hcap hcm=>?_;simp only[Y6];have hpl2:=pad_len 4 hcap;have hpt:=pad_take 4 l cap;generalize padJ 4 l cap=L at hpl2 hpt
 have h1:¬(1:Int)=0:=by omega
 have h2:¬(i:Int)=l.length:=by omega
 have hm1:min (l.length+1-i) (l.length+1-(i+1))=l.length-i:=by omega
 have hm2:min 1 (l.length+1-i)=1:=by omega
 by_cases hroom:l.length+1<=cap
 ·have h3:¬(cap:Int)<(l.length:Int)+1:=by omega
  have e3:((l.length:Int)+1).toNat=l.length+1:=by omega
  have e4:((i:Int)+1).toNat=i+1:=by omega
  refine Rg func311 ?_;simp only[go_sem,h1,h2,h3,e3,e4,Int.natCast_one];(and_intros<;>try first|rfl|omega);refine Ops.overlaps .free rfl rfl underlying63 (size:=4) (fun w=>(tab_ok 284 _ rfl).sizeOf w) overlaps_ext_nod (by omega) rfl rfl rfl (by intro e;rw[e] at hpl2;simp at hpl2;omega) ?_;refine Og func311 ?_;simp only[go_sem,e4];(and_intros<;>try first|rfl|omega)
  all_goals simp only[hm1,hm2] at *
  ·have:(L.drop i).take (l.length-i)=l.drop i:=by rw[<- List.drop_take,hpt]
   rw[this];exact pL fun y hy=>hpl y (List.mem_of_mem_drop hy)
  ·simp;omega
  ·refine⟨0,0,l.length+1,cap,_,rfl,rfl,by simp;omega,?_⟩;rw[List.drop_zero];refine(ins_place (x:=x) hi hpt (by omega) _ rfl).trans ?_;simp
 ·have h3:(cap:Int)<(l.length:Int)+1:=by omega
  refine Rg func311 ?_;simp only[go_sem,h1,h2,h3,Int.natCast_one,↓aT,↓aF,Nat.reduceAdd,Nat.reduceLT];(and_intros<;>try omega)
  have hmm:((l.length:Int)+1-i).toNat=l.length+1-i:=by omega
  have e4:((i:Int)+1).toNat=i+1:=by omega
  have hm3:min (l.length-i) (l.length+1-(i+1))=l.length-i:=by omega
  have hlt:((L.drop 0).take i).length=i:=by simp;omega
  refine Ops.appendZ tab_ok .free rfl rfl rfl rfl rfl (by decide) (kd:=.i64) (kd':=.i64) (m:=(l.length:Int)+1-i) rfl rfl (by omega) (.rows 0 0 i cap L rfl (by omega) (by
   rw[List.drop_zero];intro y hy;exact pL hpl y (by rw[<- hpt];exact List.take_subset_take_left _ (by omega) hy)) (by rw[hmm];omega)) (by rw[hmm,hlt];simp;omega) (by rw[hmm,hlt];omega) fun cap2 hcap2 hcm2=>?_
  rw[hmm,hlt] at hcap2 ⊢
  have hn1:i+(l.length+1-i)=l.length+1:=by omega
  rw[hn1] at hcap2 ⊢;refine Og func311 ?_;simp only[go_sem,e4];(and_intros<;>try first|rfl|omega)
  all_goals simp only[hm2,hm3] at *
  ·simp;omega
  ·simp;omega
  ·have:(L.drop i).take (l.length-i)=l.drop i:=by rw[<- List.drop_take,hpt]
   rw[this];exact pL fun y hy=>hpl y (List.mem_of_mem_drop hy)
  ·refine⟨1,0,l.length+1,cap2,_,rfl,rfl,by simp;omega,?_⟩;rw[List.drop_zero];refine(ins_grow (x:=x) (z:=[.str [],.str [],.int .i64 0,.int .i64 0]) hi hpt (by omega) _ _ rfl).trans ?_;simp
theorem insert_nod(l:List (List AV))(x:List AV)(hpl:∀ x∈l,∀ a∈x,a.plain=true)(hpx:∀ a∈x,a.plain=true)(i:Nat)(hi:i<=l.length)(hl:l.length<=1000000):ACall prog 311 [.msu 0 4 l.length,.int .i64 i,.sl 4 [x] .no] [.rows 4 l] fun r _=>LeR r (.sl 4 (l.take i++x::l.drop i) .no):=by
 rcases Nat.lt_or_ge i l.length with h|h
 ·exact insert_grow_nod l x hpl hpx i h hl
 ·obtain rfl:i=l.length:=by omega
  have:=insert_end_nod l x hpl hpx hl
  simpa using this
theorem overlaps_ext_giv(args:Array Value)(w:World)(v:Value)(h:(Extern.SlicesOverlaps.overlaps #[118,118] #[4] args).run prog w=.ok v w):(callFunc 192 args).run prog w=.ok (.value v) w:=by
 rw[run_callFunc_extern func192 (by kernel_rfl) (by kernel_rfl) (by kernel_rfl) (e:=Extern.SlicesOverlaps.overlaps #[118,118] #[4]) (by kernel_rfl),h]
 try rfl
theorem insert_end_giv(l:List (List AV))(x:List AV)(hpl:∀ x∈l,∀ a∈x,a.plain=true)(hpx:∀ a∈x,a.plain=true)(hl:l.length<=1000000):ACall prog 144 [.msu 0 7 l.length,.int .i64 l.length,.sl 7 [x] .no] [.rows 7 (l)] fun r _=>LeR r (.sl 7 (l++[x]) .no):=by
 refine ACall.frz (by omega) (by
  intro y hy
  rcases List.mem_append.1 hy with hy|hy
  ·exact hpl y hy
  ·rw[List.mem_singleton.1 hy];exact hpx) ?_
 refine ACall.of func144 rfl fun c0 hc0=>?_;simp only[ntmps144,Ya,Y9,Nat.reduceAdd,Nat.reduceSub,Ym,Yn,Y5,Y3];refine Run.resolve (j:=0) (i:=0) rfl rfl fun cap hcap hcm=>?_;simp only[Y6];have hpl2:=pad_len 7 hcap;have hpt:=pad_take 7 l cap;generalize padJ 7 l cap=L at hpl2 hpt
 have h1:¬(1:Int)=0:=by omega
 by_cases hroom:l.length+1<=cap
 ·refine Rg func144 ?_;simp only[go_sem,hroom,h1,Int.natCast_one];(and_intros<;>try omega)
  ·exact pL (one_plain hpx)
  ·refine⟨0,0,l.length+1,cap,_,rfl,rfl,by simp;omega,?_⟩;rw[List.drop_zero,hpt];exact take_front _ _ _ (by simp)
 ·refine Rg func144 ?_;simp only[go_sem,hroom,h1,Int.natCast_one];(and_intros<;>try omega);refine Ops.appendF tab_ok .free rfl (q:=(⟨_,[x]⟩:PD (List (List AV)))) (l:=l) rfl rfl rfl rfl (by decide) rfl (pL (one_plain hpx)) (From.whole rfl hpt (by omega) (pL hpl) (show cap<l.length+1 by omega)) (by first|omega|(simp;omega)) (by first|omega|(simp;omega)) fun cap2 hcap2 hcm2=>?_;refine Og func144 ?_;simp only[go_sem];refine⟨1,0,l.length+1,cap2,_,rfl,rfl,by simp,?_⟩;rw[List.drop_zero];exact take_front _ _ _ (by simp)
theorem insert_grow_giv(l:List (List AV))(x:List AV)(hpl:∀ x∈l,∀ a∈x,a.plain=true)(hpx:∀ a∈x,a.plain=true)(i:Nat)(hi:i<l.length)(hl:l.length<=1000000):ACall prog 144 [.msu 0 7 l.length,.int .i64 i,.sl 7 [x] .no] [.rows 7 (l)] fun r _=>LeR r (.sl 7 (l.take i++x::l.drop i) .no):=by
 refine ACall.frz (by omega) (ins_plain hpl hpx i) ?_;refine ACall.of func144 rfl fun c0 hc0=>?_;simp only[ntmps144,Ya,Y9,Nat.reduceAdd,Nat.reduceSub,Ym,Yn,Y5,Y3];refine Run.resolve (j:=0) (i:=0) rfl rfl fun cap hcap hcm=>?_;simp only[Y6];have hpl2:=pad_len 7 hcap;have hpt:=pad_take 7 l cap;generalize padJ 7 l cap=L at hpl2 hpt
 have h1:¬(1:Int)=0:=by omega
 have h2:¬(i:Int)=l.length:=by omega
 have hm1:min (l.length+1-i) (l.length+1-(i+1))=l.length-i:=by omega
 have hm2:min 1 (l.length+1-i)=1:=by omega
 by_cases hroom:l.length+1<=cap
 ·have h3:¬(cap:Int)<(l.length:Int)+1:=by omega
  have e3:((l.length:Int)+1).toNat=l.length+1:=by omega
  have e4:((i:Int)+1).toNat=i+1:=by omega
  refine Rg func144 ?_;simp only[go_sem,h1,h2,h3,e3,e4,Int.natCast_one];(and_intros<;>try first|rfl|omega);refine Ops.overlaps .free rfl rfl underlying118 (size:=7) (fun w=>(tab_ok 267 _ rfl).sizeOf w) overlaps_ext_giv (by omega) rfl rfl rfl (by intro e;rw[e] at hpl2;simp at hpl2;omega) ?_;refine Og func144 ?_;simp only[go_sem,e4];(and_intros<;>try first|rfl|omega)
  all_goals simp only[hm1,hm2] at *
  ·have:(L.drop i).take (l.length-i)=l.drop i:=by rw[<- List.drop_take,hpt]
   rw[this];exact pL fun y hy=>hpl y (List.mem_of_mem_drop hy)
  ·simp;omega
  ·refine⟨0,0,l.length+1,cap,_,rfl,rfl,by simp;omega,?_⟩;rw[List.drop_zero];refine(ins_place (x:=x) hi hpt (by omega) _ rfl).trans ?_;simp
 ·have h3:(cap:Int)<(l.length:Int)+1:=by omega
  refine Rg func144 ?_;simp only[go_sem,h1,h2,h3,Int.natCast_one,↓aT,↓aF,Nat.reduceAdd,Nat.reduceLT];(and_intros<;>try omega)
  have hmm:((l.length:Int)+1-i).toNat=l.length+1-i:=by omega
  have e4:((i:Int)+1).toNat=i+1:=by omega
  have hm3:min (l.length-i) (l.length+1-(i+1))=l.length-i:=by omega
  have hlt:((L.drop 0).take i).length=i:=by simp;omega
  refine Ops.appendZ tab_ok .free rfl rfl rfl rfl rfl (by decide) (kd:=.i64) (kd':=.i64) (m:=(l.length:Int)+1-i) rfl rfl (by omega) (.rows 0 0 i cap L rfl (by omega) (by
   rw[List.drop_zero];intro y hy;exact pL hpl y (by rw[<- hpt];exact List.take_subset_take_left _ (by omega) hy)) (by rw[hmm];omega)) (by rw[hmm,hlt];simp;omega) (by rw[hmm,hlt];omega) fun cap2 hcap2 hcm2=>?_
  rw[hmm,hlt] at hcap2 ⊢
  have hn1:i+(l.length+1-i)=l.length+1:=by omega
  rw[hn1] at hcap2 ⊢;refine Og func144 ?_;simp only[go_sem,e4];(and_intros<;>try first|rfl|omega)
  all_goals simp only[hm2,hm3] at *
  ·simp;omega
  ·simp;omega
  ·have:(L.drop i).take (l.length-i)=l.drop i:=by rw[<- List.drop_take,hpt]
   rw[this];exact pL fun y hy=>hpl y (List.mem_of_mem_drop hy)
  ·refine⟨1,0,l.length+1,cap2,_,rfl,rfl,by simp;omega,?_⟩;rw[List.drop_zero];refine(ins_grow (x:=x) (z:=[.int .i64 0,.int .i64 0,.int .i64 0,.int .i64 0,.str [],.int .i64 0,.nils]) hi hpt (by omega) _ _ rfl).trans ?_;simp
theorem insert_giv(l:List (List AV))(x:List AV)(hpl:∀ x∈l,∀ a∈x,a.plain=true)(hpx:∀ a∈x,a.plain=true)(i:Nat)(hi:i<=l.length)(hl:l.length<=1000000):ACall prog 144 [.msu 0 7 l.length,.int .i64 i,.sl 7 [x] .no] [.rows 7 l] fun r _=>LeR r (.sl 7 (l.take i++x::l.drop i) .no):=by
 rcases Nat.lt_or_ge i l.length with h|h
 ·exact insert_grow_giv l x hpl hpx i h hl
 ·obtain rfl:i=l.length:=by omega
  have:=insert_end_giv l x hpl hpx hl
  simpa using this
set_option linter.unusedVariables false
/-! ### rows put in -/
def InsOk(P:Program)(g:FuncId)(k:Nat):Prop:=Callable P g/\∀ (l:List (List AV)) (x:List AV),(∀ x∈l,∀ a∈x,a.plain=true)->(∀ a∈x,a.plain=true)->∀ i:Nat,i<=l.length->l.length<=1000000->ACall P g [.msu 0 k l.length,.int .i64 i,.sl k [x] .no] [.rows k l] fun r _=>LeR r (.sl k (l.take i++x::l.drop i) .no)
noncomputable def insR(k i kk n:Nat)(j:Int)(k2:Nat)(x:List AV):Option ABlk->Option (Nat×AV×Bool)
 |some (.rows k3 L)=>match Nat.beq kk k&&(Nat.beq k2 k&&(Nat.beq k3 k&&(Nat.beq n (len9 L)&&(Nat.ble n 1000&&(all9 (all9 pl1) L&&(all9 pl1 x&&(not9 (ilt9 j 0)&&not9 (ilt9 (Int.ofNat n) j)))))))) with
  |true=>some (i,.sl k (L.take j.toNat++x::L.drop j.toNat) .no,false)
  |false=>none
 |_=>none
noncomputable def insL(k:Nat)(args:List AV)(hg:Nat->Option ABlk):Option (Nat×AV×Bool):=match args with
 |[.msu i kk n,.int .i64 j,.sl k2 [x] tk]=>insR k i kk n j k2 x (hg i)
 |_=>none
theorem insL_ok{P:Program}{g:FuncId}{k:Nat}(hI:InsOk P g k){args:List AV}{hg:Nat->Option ABlk}{i:Nat}{res:AV}{b:Bool}(e:insL k args hg=some (i,res,b)) :
  Callable P g/\∀ h:List ABlk,h[i]? = hg i->ACall P g args h fun r h'=>r=res/\h'=keepB b h i:=by
 unfold insL at e
 split at e
 ·rename_i i0 kk n j k2 x tk;unfold insR at e
  split at e
  ·rename_i k3 L hi
   split at e
   ·rename_i hb;simp only[Vi] at hb;obtain⟨h1,h2,h3,h4,h5,h6,h7,h8,h9⟩:=hb;cases e;obtain rfl:=beq_iff.1 h1;obtain rfl:=beq_iff.1 h2;obtain rfl:=beq_iff.1 h3;have h4:=beq_iff.1 h4;rw[len9_eq] at h4;subst h4;have h5:=Nat.le_of_ble_eq_true h5;rw[not9_eq,ilt9_eq] at h8 h9;simp only[Bool.not_eq_true',decide_eq_false_iff_not,Int.ofNat_eq_natCast] at h8 h9;have hpl:=all_pl1 h6
    have hpx:∀ a∈x,a.plain=true:=fun a ha=>by
     rw[all9_eq,List.all_eq_true] at h7;exact pl1_plain (h7 a ha)
    refine⟨hI.1,fun h hh=>?_⟩;rw[hi] at hh
    obtain⟨m,rfl⟩:∃ m:Nat,j=m:=⟨j.toNat,by omega⟩
    rw[Int.toNat_natCast];have hspec:=hI.2 L x hpl hpx m (by omega) (by omega);refine ACall.one hh (.inl ⟨_,_,rfl,plain_belLL hpl⟩) hspec rfl ?_ ⟨rfl,rfl⟩;refine .cons (.msu _ _) (.cons (.le (.refl _) rfl) (.cons (.le ?_ rfl) .nil));exact .one (.tok _ _ _)
   ·cases e
  ·cases e
 ·cases e
theorem ins_acc:InsOk prog 103 3:=⟨⟨_,func103,by kernel_rfl,rfl⟩,fun l x h1 h2 i h3 h4=>insert_acc l x h1 h2 i h3 h4⟩
theorem ins_rep:InsOk prog 264 6:=⟨⟨_,func264,by kernel_rfl,rfl⟩,fun l x h1 h2 i h3 h4=>insert_rep l x h1 h2 i h3 h4⟩
theorem ins_nod:InsOk prog 311 4:=⟨⟨_,func311,by kernel_rfl,rfl⟩,fun l x h1 h2 i h3 h4=>insert_nod l x h1 h2 i h3 h4⟩
theorem ins_giv:InsOk prog 144 7:=⟨⟨_,func144,by kernel_rfl,rfl⟩,fun l x h1 h2 i h3 h4=>insert_giv l x h1 h2 i h3 h4⟩
noncomputable def lent9(o:Oper)(g:FuncId)(args:List AV)(hg:Nat->Option ABlk):Option (Nat×AV×Bool):=match Nat.beq g 103 with
  |true=>insL 3 args hg
  |false=>match Nat.beq g 264 with
  |true=>insL 6 args hg
  |false=>match Nat.beq g 311 with
  |true=>insL 4 args hg
  |false=>match Nat.beq g 144 with
  |true=>insL 7 args hg
  |false=>match Nat.beq g 190 with
  |true=>nthL args hg
  |false=>none
theorem lent9_ok(o:Oper)(g:FuncId)(args:List AV)(hg:Nat->Option ABlk)(i:Nat)(res:AV)(b:Bool)(e:lent9 o g args hg=some (i,res,b)):Callable prog g/\∀ h:List ABlk,h[i]? = hg i->ACall prog g args h fun r h'=>r=res/\h'=keepB b h i:=by
 unfold lent9 at e
 split at e
 ·rename_i q;rw[Nat.eq_of_beq_eq_true q];exact insL_ok ins_acc e
 split at e
 ·rename_i q;rw[Nat.eq_of_beq_eq_true q];exact insL_ok ins_rep e
 split at e
 ·rename_i q;rw[Nat.eq_of_beq_eq_true q];exact insL_ok ins_nod e
 split at e
 ·rename_i q;rw[Nat.eq_of_beq_eq_true q];exact insL_ok ins_giv e
 split at e
 ·rename_i q;rw[Nat.eq_of_beq_eq_true q];exact nthL_ok e
 cases e
noncomputable def M9:KMT:=⟨cloneM,lent9⟩
theorem M9_ok:KMok prog M9:=⟨cloneM_ok,lent9_ok⟩
/-! ### a tally's best -/
noncomputable def acc9:List AV->Option Acc
 |[.int .i64 b,.int .i64 v,.str x]=>match not9 (ilt9 v 0) with
  |true=>some ⟨b,v,x⟩
  |false=>none
 |_=>none
theorem acc9_ok{c:List AV}{a:Acc}(h:acc9 c=some a):c=aC a/\0<=a.view:=by
 unfold acc9 at h
 split at h
 ·split at h
  ·rename_i hb;cases h;rw[not9_eq,ilt9_eq] at hb;simp only[Bool.not_eq_true',decide_eq_false_iff_not] at hb;exact⟨rfl,by simp only;omega⟩
  ·cases h
 ·cases h
noncomputable def bestA9(args:List AV):Option AV:=match args with
 |[.agg [.sl 3 l .no],.int .i64 need]=>match mapO acc9 l with
  |some m=>match Nat.ble (len9 m) 1000 with
   |true=>some (bestVA (bestV m need))
   |false=>none
  |none=>none
 |_=>none
theorem accs_ok{l:List (List AV)}{m:List Acc}(h:mapO acc9 l=some m):l=m.map aC/\∀ a∈m,0<=a.view:=by
 obtain⟨h1,h2⟩:=mapO_ok h
 constructor
 ·apply List.ext_getElem?;intro i;rw[Vg]
  cases hm:m[i]? with
  |none=>
   have:=List.getElem?_eq_none_iff.1 hm;rw[List.getElem?_eq_none (by omega)];rfl
  |some a=>
   obtain⟨c,hc,ha⟩:=h2 i a hm;rw[hc,(acc9_ok ha).1];rfl
 ·intro a ha;obtain⟨i,hi⟩:=List.getElem?_of_mem ha;obtain⟨c,hc,ha⟩:=h2 i a hi;exact(acc9_ok ha).2
theorem bestA9_ok{args:List AV}{r:AV}(h:bestA9 args=some r):ASpec prog 104 args r:=by
 unfold bestA9 at h
 split at h
 ·split at h
  ·rename_i m hm
   split at h
   ·rename_i hb;cases h;obtain⟨rfl,h2⟩:=accs_ok hm;have:=Nat.le_of_ble_eq_true hb;rw[len9_eq] at this;exact best_spec m _ (by omega) h2
   ·cases h
  ·cases h
 ·cases h
noncomputable def known9:KAT:=fun g args=>match sizeA g args with
 |some r=>some r
 |none=>match Nat.beq g 104 with
  |true=>bestA9 args
  |false=>match Nat.beq g 190 with
   |true=>nthA args
   |false=>str9 g args
theorem known9_ok:KAok prog known9:=by
 intro g args r h;unfold known9 at h
 split at h
 ·rename_i q hq;cases h;exact sizeA_ok _ _ _ hq
 ·split at h
  ·rename_i e;rw[Nat.eq_of_beq_eq_true e];exact bestA9_ok h
  ·split at h
   ·rename_i e;rw[Nat.eq_of_beq_eq_true e];exact nthA_ok h
   ·exact str9_ok _ _ _ h
/-! ### empty clones -/
theorem clone_entry0:OSpec prog 266 [.sl 2 [] .no] 2 []:=by
 refine OSpec.nil ⟨_,func266,by kernel_rfl,rfl⟩ ?_;refine Sg func266 rfl fun c1 hc1=>?_;simp only[go_sem];refine Ops.eqnil .free rfl underlying57 rfl rfl fun b=>?_
 cases b with
 |true=>
  refine Og func266 ?_;simp only[go_sem,reduceCtorEq]
  first|exact .inl rfl|exact .inl trivial|simp
 |false=>
  refine Og func266 ?_;simp only[go_sem,reduceCtorEq];(and_intros<;>try omega)
  all_goals first|(simp;done)|exact .inr ⟨_,_,_,rfl⟩
noncomputable def entry0(args:List AV)(h:HT):Option (AV×HT):=match args with
 |[.sl 2 [] .no]=>match Nat.ble (Nat.succ h.n) 4096 with
  |true=>some (.sl 2 [] (.own h.n),h.push (.tok 2 0))
  |false=>none
 |_=>none
noncomputable def kE0:KC:=fun _ g args h=>match Nat.beq g 266 with
 |true=>entry0 args h
 |false=>none
theorem kE0_ok:KCok prog kE0:=by
 intro o g args ht h r ht' q e;unfold kE0 at e
 split at e
 ·rename_i hg;rw[Nat.eq_of_beq_eq_true hg];unfold entry0 at e
  split at e
  ·split at e
   ·rename_i hb;cases e;have hb:ht.n<4096:=Nat.le_of_ble_eq_true hb;refine⟨clone_entry0.fn,_,q.push _ hb,?_⟩;rw[q.1];exact kOwn0 clone_entry0 rfl h
   ·cases e
  ·cases e
 ·cases e
theorem kE0_pres:KPres kE0:=by
 intro o g args h r h' e;unfold kE0 at e
 split at e
 ·unfold entry0 at e
  split at e
  ·split at e
   ·rename_i hb;cases e;exact .push' _ _ hb
   ·cases e
  ·cases e
 ·cases e
noncomputable def K9:KC:=kOr (kA known9) (kOr (kL M9) (kOr (kMF M9) (kOr (kM M9) kE0)))
theorem K9_pres:KPres K9:=kOr_pres kA_pres (kOr_pres kL_pres (kOr_pres kMF_pres (kOr_pres kM_pres kE0_pres)))
theorem K9_ok:KCok prog K9:=kOr_ok (kA_ok known9_ok) (kOr_ok (kL_ok M9_ok) (kOr_ok (kMF_ok M9_ok) (kOr_ok (kM_ok M9_ok) kE0_ok)))
noncomputable def K8:KC:=kOr K9 (kMG (ncalled9 xfun (nrun9 xfun M9 K9 xtab 1000)))
theorem K8_pres:KPres K8:=kOr_pres K9_pres kMG_pres
theorem K8_ok:KCok prog K8:=kOr_ok K9_ok (kMG_ok (ncalled9_ok xfun_ok M9_ok K9_ok K9_pres xtab_ok xfollows_ok 1000))
def o0 : Oper := ⟨none,.move (.tmp 0),0,"",#[],none⟩
noncomputable def rn(a b:AV):Option AV:=fst9 (ncalled9 xfun (nrun9 xfun M9 K8 xtab 100000) o0 73 [a,b] HT.nil)
theorem rS{a b r:AV}(h:rn a b=some r):ASpec prog 73 [a,b] r:=by
 obtain⟨h',e⟩:=fst9_ok h;exact ASpec.of9 xfun_ok M9_ok K8_ok K8_pres xtab_ok xfollows_ok 100000 e
end Go.Proofs.YtojhjaohaafeaaaGreatDoor
