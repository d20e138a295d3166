/-
  Several texts in one: Tx, Tm, Rep, OctetSpec, Br, Size, Es, Tab, Tp, Rs, Rz, Rp, Rq, Rr, Pa, Pb, Pd, Pc.
-/
import Derived.Test.YtojhjaohaafeaaaGreatDoorQc
import Derived.Test.YtojhjaohaafeaaaGreatDoorProg
import Derived.Test.YtojhjaohaafeaaaGreatDoorQa
import Derived.Deep.Slices
import Derived.Deep.AppendLies
import Derived.Laws.OwnMore
import Derived.Laws.AppendOwnNone
import Derived.Maps.AppendAt
import Derived.Lib.BitFns
import Derived.Test.YtojhjaohaafeaaaGreatDoorQb
set_option maxRecDepth 20000
set_option maxHeartbeats 8000000
open Go.Proofs.Tryz
namespace Go.Proofs.YtojhjaohaafeaaaGreatDoor
open Go.RowKit
set_option maxRecDepth 100000
set_option maxHeartbeats 4000000
inductive TT where
 |nil
 |leaf (t:TI)
 |node (m:Nat) (a b:TT)
def TT.get:TT->Nat->Option TI
 |.nil,_=>none
 |.leaf t,_=>some t
 |.node m a b,n=>match Nat.ble m n with
  |true=>b.get n
  |false=>a.get n
def TT.all(p:Nat->TI->Bool):TT->Nat->Nat->Bool
 |.nil,_,_=>true
 |.leaf t,lo,hi=>(List.range' lo (hi-lo)).all fun n=>p n t
 |.node m a b,lo,hi=>a.all p lo m&&b.all p m hi
theorem TT.all_ok{p:Nat->TI->Bool}:∀ (t:TT) (lo hi n:Nat) (ti:TI),t.all p lo hi=true->lo<=n->n<hi->t.get n=some ti->p n ti=true
 |.nil,_,_,_,_,_,_,_,h=>by cases h
 |.leaf t,lo,hi,n,ti,h,h1,h2,h3=>by
  cases h3;exact List.all_eq_true.1 h n (by rw[List.mem_range'_1];omega)
 |.node m a b,lo,hi,n,ti,h,h1,h2,h3=>by
  simp only[TT.all,Vi] at h;unfold TT.get at h3
  split at h3
  ·rename_i hm;exact TT.all_ok b m hi n ti h.2 (Nat.le_of_ble_eq_true hm) h2 h3
  ·rename_i hm
   have:n<m:=Nat.lt_of_not_le fun hle=>by rw[Nat.ble_eq_true_of_le hle] at hm;cases hm
   exact TT.all_ok a lo m n ti h.1 h1 this h3
abbrev l0:TT:=.leaf ⟨.fn,1,8,0,[],[.nilf],[],false⟩
abbrev l1:TT:=.leaf ⟨.arr 256,256,256,4,[],List.replicate 256 (.bool false),[.bool,.bool,.bool,.bool,.bool,.bool,.bool,.bool,.bool,.bool,.bool,.bool,.bool,.bool,.bool,.bool,.bool,.bool,.bool,.bool,.bool,.bool,.bool,.bool,.bool,.bool,.bool,.bool,.bool,.bool,.bool,.bool,.bool,.bool,.bool,.bool,.bool,.bool,.bool,.bool,.bool,.bool,.bool,.bool,.bool,.bool,.bool,.bool,.bool,.bool,.bool,.bool,.bool,.bool,.bool,.bool,.bool,.bool,.bool,.bool,.bool,.bool,.bool,.bool,.bool,.bool,.bool,.bool,.bool,.bool,.bool,.bool,.bool,.bool,.bool,.bool,.bool,.bool,.bool,.bool,.bool,.bool,.bool,.bool,.bool,.bool,.bool,.bool,.bool,.bool,.bool,.bool,.bool,.bool,.bool,.bool,.bool,.bool,.bool,.bool,.bool,.bool,.bool,.bool,.bool,.bool,.bool,.bool,.bool,.bool,.bool,.bool,.bool,.bool,.bool,.bool,.bool,.bool,.bool,.bool,.bool,.bool,.bool,.bool,.bool,.bool,.bool,.bool,.bool,.bool,.bool,.bool,.bool,.bool,.bool,.bool,.bool,.bool,.bool,.bool,.bool,.bool,.bool,.bool,.bool,.bool,.bool,.bool,.bool,.bool,.bool,.bool,.bool,.bool,.bool,.bool,.bool,.bool,.bool,.bool,.bool,.bool,.bool,.bool,.bool,.bool,.bool,.bool,.bool,.bool,.bool,.bool,.bool,.bool,.bool,.bool,.bool,.bool,.bool,.bool,.bool,.bool,.bool,.bool,.bool,.bool,.bool,.bool,.bool,.bool,.bool,.bool,.bool,.bool,.bool,.bool,.bool,.bool,.bool,.bool,.bool,.bool,.bool,.bool,.bool,.bool,.bool,.bool,.bool,.bool,.bool,.bool,.bool,.bool,.bool,.bool,.bool,.bool,.bool,.bool,.bool,.bool,.bool,.bool,.bool,.bool,.bool,.bool,.bool,.bool,.bool,.bool,.bool,.bool,.bool,.bool,.bool,.bool,.bool,.bool,.bool,.bool,.bool,.bool,.bool,.bool,.bool,.bool,.bool,.bool,.bool,.bool,.bool,.bool,.bool,.bool],false⟩
abbrev l2:TT:=.leaf ⟨.st,73,488,0,[(0,3),(1,3),(2,3),(3,52),(65,28)],[.int .i64 0,.int .i64 0,.int .i64 0,.int .i64 0,.int .i64 0,.int .i64 0,.int .i64 0,.str [],.nils,.int .i64 0,.int .i64 0,.str [],.nils,.int .i64 0,.int .i64 0,.bool false,.int .i64 0,.str [],.nils,.int .u8 0,.int .u8 0,.int .u8 0,.int .u8 0,.int .u8 0,.int .u8 0,.int .u8 0,.int .u8 0,.int .u8 0,.int .u8 0,.int .u8 0,.int .u8 0,.int .u8 0,.int .u8 0,.int .u8 0,.int .u8 0,.int .u8 0,.int .u8 0,.int .u8 0,.int .u8 0,.int .u8 0,.int .u8 0,.int .u8 0,.int .u8 0,.int .u8 0,.int .u8 0,.int .u8 0,.int .u8 0,.int .u8 0,.int .u8 0,.int .u8 0,.int .u8 0,.int .i64 0,.int .i64 0,.int .i64 0,.str [],.str [],.int .i64 0,.int .i64 0,.int .i64 0,.int .i64 0,.int .i64 0,.int .i64 0,.str [],.int .i64 0,.nils,.int .i64 0,.int .i64 0,.int .i64 0,.str [],.str [],.int .i64 0,.int .i64 0,.int .i64 0],[],false⟩
abbrev l3:TT:=.leaf ⟨.st,62,384,0,[(0,3),(1,3),(2,3),(3,3),(4,9),(5,41),(6,43),(9,44),(10,46),(16,47),(48,28),(56,50)],[.int .i64 0,.int .i64 0,.int .i64 0,.int .i64 0,.str [],.nils,.int .i64 0,.int .i64 0,.str [],.nils,.int .i64 0,.int .i64 0,.bool false,.int .i64 0,.str [],.nils,.int .u8 0,.int .u8 0,.int .u8 0,.int .u8 0,.int .u8 0,.int .u8 0,.int .u8 0,.int .u8 0,.int .u8 0,.int .u8 0,.int .u8 0,.int .u8 0,.int .u8 0,.int .u8 0,.int .u8 0,.int .u8 0,.int .u8 0,.int .u8 0,.int .u8 0,.int .u8 0,.int .u8 0,.int .u8 0,.int .u8 0,.int .u8 0,.int .u8 0,.int .u8 0,.int .u8 0,.int .u8 0,.int .u8 0,.int .u8 0,.int .u8 0,.int .u8 0,.int .i64 0,.int .i64 0,.int .i64 0,.str [],.str [],.int .i64 0,.int .i64 0,.int .i64 0,.int .i64 0,.int .i64 0,.int .i64 0,.str [],.int .i64 0,.nils],[],false⟩
abbrev l4:TT:=.leaf ⟨.st,58,400,0,[(0,23),(2,3),(3,3),(4,56),(11,59),(14,62),(50,74),(55,48),(56,75),(57,76)],[.int .i64 0,.int .i64 0,.int .i64 0,.int .i64 0,.int .i64 0,.int .i64 0,.int .i64 0,.int .i64 0,.nils,.int .i64 0,.int .i64 0,.int .i64 0,.int .i64 0,.nils,.int .i64 0,.int .i64 0,.nils,.int .i64 0,.int .u8 0,.int .u8 0,.int .u8 0,.int .u8 0,.int .u8 0,.int .u8 0,.int .u8 0,.int .u8 0,.int .u8 0,.int .u8 0,.int .u8 0,.int .u8 0,.int .u8 0,.int .u8 0,.int .u8 0,.int .u8 0,.int .u8 0,.int .u8 0,.int .u8 0,.int .u8 0,.int .u8 0,.int .u8 0,.int .u8 0,.int .u8 0,.int .u8 0,.int .u8 0,.int .u8 0,.int .u8 0,.int .u8 0,.int .u8 0,.int .u8 0,.int .u8 0,.nils,.int .i64 0,.nils,.nils,.nils,.nils,.nils,.nils],[],false⟩
abbrev l5:TT:=.leaf ⟨.st,59,424,0,[(0,78),(58,32)],[.int .i64 0,.int .i64 0,.int .i64 0,.int .i64 0,.int .i64 0,.int .i64 0,.int .i64 0,.int .i64 0,.nils,.int .i64 0,.int .i64 0,.int .i64 0,.int .i64 0,.nils,.int .i64 0,.int .i64 0,.nils,.int .i64 0,.int .u8 0,.int .u8 0,.int .u8 0,.int .u8 0,.int .u8 0,.int .u8 0,.int .u8 0,.int .u8 0,.int .u8 0,.int .u8 0,.int .u8 0,.int .u8 0,.int .u8 0,.int .u8 0,.int .u8 0,.int .u8 0,.int .u8 0,.int .u8 0,.int .u8 0,.int .u8 0,.int .u8 0,.int .u8 0,.int .u8 0,.int .u8 0,.int .u8 0,.int .u8 0,.int .u8 0,.int .u8 0,.int .u8 0,.int .u8 0,.int .u8 0,.int .u8 0,.nils,.int .i64 0,.nils,.nils,.nils,.nils,.nils,.nils,.nils],[],false⟩
abbrev l6:TT:=.leaf ⟨.st,36,80,0,[(0,23),(2,60),(3,3),(4,47)],[.int .i64 0,.int .i64 0,.nils,.int .i64 0,.int .u8 0,.int .u8 0,.int .u8 0,.int .u8 0,.int .u8 0,.int .u8 0,.int .u8 0,.int .u8 0,.int .u8 0,.int .u8 0,.int .u8 0,.int .u8 0,.int .u8 0,.int .u8 0,.int .u8 0,.int .u8 0,.int .u8 0,.int .u8 0,.int .u8 0,.int .u8 0,.int .u8 0,.int .u8 0,.int .u8 0,.int .u8 0,.int .u8 0,.int .u8 0,.int .u8 0,.int .u8 0,.int .u8 0,.int .u8 0,.int .u8 0,.int .u8 0],[],false⟩
abbrev l7:TT:=.leaf ⟨.st,34,48,0,[(0,3),(1,3),(2,47)],[.int .i64 0,.int .i64 0,.int .u8 0,.int .u8 0,.int .u8 0,.int .u8 0,.int .u8 0,.int .u8 0,.int .u8 0,.int .u8 0,.int .u8 0,.int .u8 0,.int .u8 0,.int .u8 0,.int .u8 0,.int .u8 0,.int .u8 0,.int .u8 0,.int .u8 0,.int .u8 0,.int .u8 0,.int .u8 0,.int .u8 0,.int .u8 0,.int .u8 0,.int .u8 0,.int .u8 0,.int .u8 0,.int .u8 0,.int .u8 0,.int .u8 0,.int .u8 0,.int .u8 0,.int .u8 0],[],false⟩
abbrev l8:TT:=.leaf ⟨.st,20,280,0,[(0,74),(5,28),(13,50),(19,343)],[.nils,.int .i64 0,.nils,.nils,.nils,.int .i64 0,.int .i64 0,.int .i64 0,.str [],.str [],.int .i64 0,.int .i64 0,.int .i64 0,.int .i64 0,.int .i64 0,.int .i64 0,.str [],.int .i64 0,.nils,.nils],[],false⟩
abbrev l9:TT:=.leaf ⟨.st,15,192,0,[(0,3),(1,3),(2,3),(3,9),(4,41),(5,43),(8,44),(9,46)],[.int .i64 0,.int .i64 0,.int .i64 0,.str [],.nils,.int .i64 0,.int .i64 0,.str [],.nils,.int .i64 0,.int .i64 0,.bool false,.int .i64 0,.str [],.nils],[],false⟩
abbrev la:TT:=.leaf ⟨.st,11,48,0,[(0,12),(1,12),(2,241),(3,562),(4,5),(5,5),(6,563),(7,564),(8,565),(9,566),(10,567)],[.int .u64 0,.int .u64 0,.int .u32 0,.int .u8 0,.int .u8 0,.int .u8 0,.int .u8 0,.nilf,.nilp,.int .i32 0,.int .i32 0],[],false⟩
abbrev lb:TT:=.leaf ⟨.st,18,256,0,[(0,86),(9,201),(16,41),(17,3)],[.int .i64 0,.int .i64 0,.int .i64 0,.int .i64 0,.bool false,.int .i64 0,.str [],.nils,.nils,.int .i64 0,.int .i64 0,.nils,.nils,.nils,.bool false,.str [],.nils,.int .i64 0],[],false⟩
abbrev lc:TT:=.leaf ⟨.st,13,152,0,[(0,3),(1,3),(2,4),(3,28),(11,118),(12,119)],[.int .i64 0,.int .i64 0,.bool false,.int .i64 0,.int .i64 0,.int .i64 0,.str [],.str [],.int .i64 0,.int .i64 0,.int .i64 0,.nils,.nils],[],false⟩
abbrev ld:TT:=.leaf ⟨.st,14,152,0,[(0,28),(8,50)],[.int .i64 0,.int .i64 0,.int .i64 0,.str [],.str [],.int .i64 0,.int .i64 0,.int .i64 0,.int .i64 0,.int .i64 0,.int .i64 0,.str [],.int .i64 0,.nils],[],false⟩
abbrev le:TT:=.leaf ⟨.st,9,112,0,[(0,23),(2,3),(3,3),(4,4),(5,3),(6,9),(7,44),(8,84)],[.int .i64 0,.int .i64 0,.int .i64 0,.int .i64 0,.bool false,.int .i64 0,.str [],.nils,.nils],[],false⟩
abbrev lf:TT:=.leaf ⟨.st,10,64,0,[(0,503),(8,89),(9,3)],[.int .u32 0,.int .u32 0,.int .u32 0,.int .u32 0,.int .u32 0,.int .u32 0,.int .u32 0,.int .u32 0,.nils,.int .i64 0],[],false⟩
abbrev lg:TT:=.leaf ⟨.st,8,96,0,[(0,3),(1,3),(2,3),(3,9),(4,41),(5,43)],[.int .i64 0,.int .i64 0,.int .i64 0,.str [],.nils,.int .i64 0,.int .i64 0,.str []],[],false⟩
abbrev lh:TT:=.leaf ⟨.st,7,72,0,[(0,23),(2,3),(3,3),(4,38),(5,3),(6,3)],[.int .i64 0,.int .i64 0,.int .i64 0,.int .i64 0,.nils,.int .i64 0,.int .i64 0],[],false⟩
abbrev li:TT:=.leaf ⟨.st,7,112,0,[(0,23),(2,84),(3,84),(4,84),(5,4),(6,9)],[.int .i64 0,.int .i64 0,.nils,.nils,.nils,.bool false,.str []],[],false⟩
abbrev lj:TT:=.leaf ⟨.st,7,120,0,[(0,23),(2,3),(3,24),(4,30),(5,31),(6,32)],[.int .i64 0,.int .i64 0,.int .i64 0,.nils,.nils,.nils,.nils],[],false⟩
abbrev lk:TT:=.leaf ⟨.st,6,72,0,[(0,3),(1,3),(2,35),(3,9),(4,3),(5,48)],[.int .i64 0,.int .i64 0,.int .i64 0,.str [],.int .i64 0,.nils],[],false⟩
abbrev ll:TT:=.leaf ⟨.st,6,72,0,[(0,3),(1,3),(2,4),(3,3),(4,9),(5,44)],[.int .i64 0,.int .i64 0,.bool false,.int .i64 0,.str [],.nils],[],false⟩
abbrev lm:TT:=.leaf ⟨.st,2,32,0,[(0,89),(1,35)],[.nils,.int .i64 0],[],false⟩
abbrev ln:TT:=.leaf ⟨.st,7,80,0,[(0,3),(1,50)],[.int .i64 0,.int .i64 0,.int .i64 0,.int .i64 0,.str [],.int .i64 0,.nils],[],false⟩
abbrev lo:TT:=.leaf ⟨.st,2,24,0,[(0,3),(1,9)],[.int .i64 0,.str []],[.int .i64,.str],false⟩
abbrev lp:TT:=.leaf ⟨.st,5,72,0,[(0,3),(1,89),(2,89),(3,4),(4,3)],[.int .i64 0,.nils,.nils,.bool false,.int .i64 0],[],false⟩
abbrev lq:TT:=.leaf ⟨.st,5,56,0,[(0,23),(2,3),(3,24),(4,3)],[.int .i64 0,.int .i64 0,.int .i64 0,.nils,.int .i64 0],[],false⟩
abbrev lr:TT:=.leaf ⟨.st,5,48,0,[(0,43),(3,3),(4,3)],[.int .i64 0,.int .i64 0,.str [],.int .i64 0,.int .i64 0],[],false⟩
abbrev ls:TT:=.leaf ⟨.st,4,24,0,[(0,2),(1,3),(2,4),(3,6)],[.int .i64 0,.int .i64 0,.bool false,.int .u8 0],[],false⟩
abbrev lt:TT:=.leaf ⟨.st,5,104,0,[(0,65),(1,68),(3,71),(4,72)],[.nils,.int .i64 0,.nils,.nils,.nils],[],false⟩
abbrev lu:TT:=.leaf ⟨.st,6,96,0,[(0,91),(5,94)],[.int .i64 0,.nils,.nils,.bool false,.int .i64 0,.nils],[],false⟩
abbrev lv:TT:=.leaf ⟨.st,5,56,0,[(0,385),(3,387)],[.str [],.int .i64 0,.bool false,.int .i64 0,.str []],[],false⟩
abbrev lw:TT:=.leaf ⟨.int .i64,1,8,0,[],[.int .i64 0],[],false⟩
abbrev lx:TT:=.leaf ⟨.int .u64,1,8,0,[],[.int .u64 0],[],false⟩
abbrev ly:TT:=.leaf ⟨.st,2,24,0,[(0,3),(1,9)],[.int .i64 0,.str []],[],false⟩
abbrev lz:TT:=.leaf ⟨.int .u8,1,1,0,[],[.int .u8 0],[],false⟩
abbrev l01:TT:=.leaf ⟨.st,4,40,0,[(0,17),(1,17),(2,17),(3,9)],[.nilp,.nilp,.nilp,.str []],[],false⟩
abbrev l11:TT:=.leaf ⟨.st,2,16,0,[(0,3),(1,3)],[.int .i64 0,.int .i64 0],[.int .i64,.int .i64],false⟩
abbrev l21:TT:=.leaf ⟨.st,3,40,0,[(0,3),(1,3),(2,57)],[.int .i64 0,.int .i64 0,.nils],[],false⟩
abbrev l31:TT:=.leaf ⟨.int .i32,1,4,0,[],[.int .i32 0],[],false⟩
abbrev l41:TT:=.leaf ⟨.st,2,16,0,[(0,3),(1,3)],[.int .i64 0,.int .i64 0],[],false⟩
abbrev l51:TT:=.leaf ⟨.st,2,24,0,[(0,9),(1,12)],[.str [],.int .u64 0],[],false⟩
abbrev l61:TT:=.leaf ⟨.st,2,2,0,[(0,5),(1,5)],[.int .u8 0,.int .u8 0],[],false⟩
abbrev l71:TT:=.leaf ⟨.st,2,32,0,[(0,3),(1,66)],[.int .i64 0,.nils],[],false⟩
abbrev l81:TT:=.leaf ⟨.str,1,16,0,[],[.str []],[],false⟩
abbrev l91:TT:=.leaf ⟨.st,1,24,0,[(0,63)],[.nils],[],false⟩
abbrev la1:TT:=.leaf ⟨.st,1,24,0,[(0,69)],[.nils],[],false⟩
abbrev lb1:TT:=.leaf ⟨.st,1,24,0,[(0,44)],[.nils],[],false⟩
abbrev lc1:TT:=.leaf ⟨.st,1,24,0,[(0,89)],[.nils],[],false⟩
abbrev ld1:TT:=.leaf ⟨.st,1,8,0,[(0,17)],[.nilp],[],false⟩
def tt0:TT:=(.node 32 (.node 16 (.node 8 (.node 4 (.node 2 (.node 1 .nil l0) (.node 3 lw lw)) (.node 6 (.node 5 (.leaf ⟨.bool,1,1,0,[],[.bool false],[],false⟩) lz) (.node 7 lz ls))) (.node 12 (.node 10 (.node 9 ls l81) (.node 11 l81 l81)) (.node 14 (.node 13 lx l51) (.node 15 l51 (.leaf ⟨.ptr,1,8,558,[],[.nilp],[],false⟩))))) (.node 24 (.node 20 (.node 18 (.node 17 (.leaf ⟨.ptr,1,8,561,[],[.nilp],[],false⟩) (.leaf ⟨.ptr,1,8,569,[],[.nilp],[],false⟩)) (.node 19 ld1 ld1)) (.node 22 (.node 21 (.leaf ⟨.iface,1,16,0,[],[.nilI],[],false⟩) l31) (.node 23 l41 l11))) (.node 28 (.node 26 (.node 25 (.leaf ⟨.sl,1,24,4,[],[.nils],[],false⟩) lq) (.node 27 lq (.leaf ⟨.st,8,80,0,[(0,3),(1,3),(2,3),(3,9),(4,9),(5,3),(6,3),(7,3)],[.int .i64 0,.int .i64 0,.int .i64 0,.str [],.str [],.int .i64 0,.int .i64 0,.int .i64 0],[],false⟩))) (.node 30 (.node 29 (.leaf ⟨.st,8,80,0,[(0,3),(1,3),(2,3),(3,9),(4,9),(5,3),(6,3),(7,3)],[.int .i64 0,.int .i64 0,.int .i64 0,.str [],.str [],.int .i64 0,.int .i64 0,.int .i64 0],[.int .i64,.int .i64,.int .i64,.str,.str,.int .i64,.int .i64,.int .i64],false⟩) l0) (.node 31 (.leaf ⟨.sl,1,24,78,[],[.nils],[],false⟩) (.leaf ⟨.sl,1,24,121,[],[.nils],[],false⟩)))))) (.node 48 (.node 40 (.node 36 (.node 34 (.node 33 (.leaf ⟨.sl,1,24,52,[],[.nils],[],false⟩) lj) (.node 35 lj lw)) (.node 38 (.node 37 .nil l0) (.node 39 (.leaf ⟨.sl,1,24,3,[],[.nils],[],false⟩) l0))) (.node 44 (.node 42 (.node 41 l0 (.leaf ⟨.sl,1,24,46,[],[.nils],[],false⟩)) (.node 43 (.leaf ⟨.st,3,32,0,[(0,3),(1,3),(2,9)],[.int .i64 0,.int .i64 0,.str []],[],false⟩) (.leaf ⟨.st,3,32,0,[(0,3),(1,3),(2,9)],[.int .i64 0,.int .i64 0,.str []],[.int .i64,.int .i64,.str],false⟩))) (.node 46 (.node 45 (.leaf ⟨.sl,1,24,43,[],[.nils],[],false⟩) ll) (.node 47 ll (.leaf ⟨.arr 32,32,32,5,[],(List.replicate 32 (.int .u8 0)),(List.replicate 32 (.int .u8)),false⟩))))) (.node 56 (.node 52 (.node 50 (.node 49 (.leaf ⟨.sl,1,24,9,[],[.nils],[],false⟩) lk) (.node 51 lk l3)) (.node 54 (.node 53 l3 l2) (.node 55 l2 lh))) (.node 60 (.node 58 (.node 57 lh (.leaf ⟨.sl,1,24,408,[],[.nils],[],false⟩)) (.node 59 l21 l21)) (.node 62 (.node 61 (.leaf ⟨.sl,1,24,315,[],[.nils],[],false⟩) l6) (.node 63 l6 (.leaf ⟨.sl,1,24,284,[],[.nils],[],false⟩)))))))
def tt1:TT:=(.node 96 (.node 80 (.node 72 (.node 68 (.node 66 (.node 65 l91 l91) (.node 67 (.leaf ⟨.sl,1,24,455,[],[.nils],[],false⟩) l71)) (.node 70 (.node 69 l71 (.leaf ⟨.sl,1,24,385,[],[.nils],[],false⟩)) (.node 71 la1 la1))) (.node 76 (.node 74 (.node 73 (.leaf ⟨.sl,1,24,50,[],[.nils],[],false⟩) lt) (.node 75 lt (.leaf ⟨.sl,1,24,203,[],[.nils],[],false⟩))) (.node 78 (.node 77 (.leaf ⟨.sl,1,24,28,[],[.nils],[],false⟩) l4) (.node 79 l4 l0)))) (.node 88 (.node 84 (.node 82 (.node 81 l0 l0) (.node 83 (.leaf ⟨.sl,1,24,103,[],[.nils],[],false⟩) lb1)) (.node 86 (.node 85 lb1 le) (.node 87 le .nil))) (.node 92 (.node 90 (.node 89 l0 (.leaf ⟨.sl,1,24,5,[],[.nils],[],false⟩)) (.node 91 lp lp)) (.node 94 (.node 93 .nil l0) (.node 95 (.leaf ⟨.sl,1,24,89,[],[.nils],[],false⟩) lu))))) (.node 112 (.node 104 (.node 100 (.node 98 (.node 97 lu .nil) (.node 99 l0 l0)) (.node 102 (.node 101 lr lr) (.node 103 lg lg))) (.node 108 (.node 106 (.node 105 .nil l0) (.node 107 l0 .nil)) (.node 110 (.node 109 l0 .nil) (.node 111 l0 l0)))) (.node 120 (.node 116 (.node 114 (.node 113 .nil l0) (.node 115 l0 l0)) (.node 118 (.node 117 l0 l0) (.node 119 (.leaf ⟨.sl,1,24,267,[],[.nils],[],false⟩) (.leaf ⟨.sl,1,24,274,[],[.nils],[],false⟩)))) (.node 124 (.node 122 (.node 121 lc lc) (.node 123 l0 l0)) (.node 126 (.node 125 .nil l0) (.node 127 .nil l0))))))
def tt2:TT:=(.node 160 (.node 144 (.node 136 (.node 132 (.node 130 (.node 129 l0 .nil) (.node 131 (.leaf ⟨.ptr,1,8,34,[],[.nilp],[],false⟩) l0)) (.node 134 (.node 133 l0 l0) (.node 135 .nil l0))) (.node 140 (.node 138 (.node 137 l0 l0) (.node 139 l0 l0)) (.node 142 (.node 141 l0 l0) (.node 143 .nil l0)))) (.node 152 (.node 148 (.node 146 (.node 145 .nil l0) (.node 147 .nil l0)) (.node 150 (.node 149 l0 l0) (.node 151 l0 l0))) (.node 156 (.node 154 (.node 153 .nil l0) (.node 155 .nil l0)) (.node 158 (.node 157 .nil l0) (.node 159 l0 l0))))) (.node 176 (.node 168 (.node 164 (.node 162 (.node 161 l0 l0) (.node 163 l0 l0)) (.node 166 (.node 165 l0 l0) (.node 167 l0 l0))) (.node 172 (.node 170 (.node 169 l0 l0) (.node 171 .nil l0)) (.node 174 (.node 173 (.leaf ⟨.ptr,1,8,174,[],[.nilp],[],false⟩) l5) (.node 175 l5 .nil)))) (.node 184 (.node 180 (.node 178 (.node 177 l0 .nil) (.node 179 l0 l0)) (.node 182 (.node 181 .nil l0) (.node 183 l0 l0))) (.node 188 (.node 186 (.node 185 l0 l41) (.node 187 l11 .nil)) (.node 190 (.node 189 l0 l0) (.node 191 .nil l0))))))
def tt3:TT:=(.node 224 (.node 208 (.node 200 (.node 196 (.node 194 (.node 193 .nil l0) (.node 195 l0 l0)) (.node 198 (.node 197 l0 l0) (.node 199 l0 l0))) (.node 204 (.node 202 (.node 201 li li) (.node 203 lb lb)) (.node 206 (.node 205 l0 l0) (.node 207 l0 l0)))) (.node 216 (.node 212 (.node 210 (.node 209 .nil l0) (.node 211 (.leaf ⟨.sl,1,24,391,[],[.nils],[],false⟩) .nil)) (.node 214 (.node 213 l0 l0) (.node 215 .nil l0))) (.node 220 (.node 218 (.node 217 l0 (.leaf ⟨.ptr,1,8,91,[],[.nilp],[],false⟩)) (.node 219 l0 l0)) (.node 222 (.node 221 l0 .nil) (.node 223 l0 .nil))))) (.node 240 (.node 232 (.node 228 (.node 226 (.node 225 l0 l0) (.node 227 l0 l0)) (.node 230 (.node 229 l0 l0) (.node 231 l0 (.leaf ⟨.ptr,1,8,233,[],[.nilp],[],false⟩)))) (.node 236 (.node 234 (.node 233 lm lm) (.node 235 l0 l0)) (.node 238 (.node 237 l0 l0) (.node 239 l0 lx)))) (.node 248 (.node 244 (.node 242 (.node 241 l0 (.leaf ⟨.int .u32,1,4,0,[],[.int .u32 0],[],false⟩)) (.node 243 l0 (.leaf ⟨.sl,1,24,94,[],[.nils],[],false⟩))) (.node 246 (.node 245 l0 lx) (.node 247 l0 l0))) (.node 252 (.node 250 (.node 249 l0 l0) (.node 251 .nil l0)) (.node 254 (.node 253 (.leaf ⟨.sl,1,24,309,[],[.nils],[],false⟩) .nil) (.node 255 l0 l0))))))
def tt4:TT:=(.node 288 (.node 272 (.node 264 (.node 260 (.node 258 (.node 257 l0 (.leaf ⟨.map,1,8,256,[(0,3)],[.nilm],[],false⟩)) (.node 259 .nil l0)) (.node 262 (.node 261 l0 l0) (.node 263 l0 (.leaf ⟨.ptr,1,8,186,[],[.nilp],[],false⟩)))) (.node 268 (.node 266 (.node 265 l0 l0) (.node 267 ln ln)) (.node 270 (.node 269 l0 l0) (.node 271 l0 l0)))) (.node 280 (.node 276 (.node 274 (.node 273 l0 ld) (.node 275 ld l0)) (.node 278 (.node 277 l0 l0) (.node 279 l0 l0))) (.node 284 (.node 282 (.node 281 l0 .nil) (.node 283 l0 (.leaf ⟨.st,4,48,0,[(0,9),(1,9),(2,3),(3,3)],[.str [],.str [],.int .i64 0,.int .i64 0],[],false⟩))) (.node 286 (.node 285 (.leaf ⟨.st,4,48,0,[(0,9),(1,9),(2,3),(3,3)],[.str [],.str [],.int .i64 0,.int .i64 0],[.str,.str,.int .i64,.int .i64],false⟩) .nil) (.node 287 l0 .nil))))) (.node 304 (.node 296 (.node 292 (.node 290 (.node 289 l0 .nil) (.node 291 l0 l0)) (.node 294 (.node 293 l0 l0) (.node 295 (.leaf ⟨.map,1,8,3,[(0,9)],[.nilm],[],false⟩) l0))) (.node 300 (.node 298 (.node 297 l0 l0) (.node 299 (.leaf ⟨.map,1,8,3,[(0,300)],[.nilm],[],false⟩) ly)) (.node 302 (.node 301 lo .nil) (.node 303 l0 .nil)))) (.node 312 (.node 308 (.node 306 (.node 305 l0 l0) (.node 307 l0 l0)) (.node 310 (.node 309 l9 l9) (.node 311 l0 l0))) (.node 316 (.node 314 (.node 313 .nil l0) (.node 315 l7 l7)) (.node 318 (.node 317 .nil l0) (.node 319 l0 l0))))))
def tt5:TT:=(.node 352 (.node 336 (.node 328 (.node 324 (.node 322 (.node 321 l0 l0) (.node 323 (.leaf ⟨.ptr,1,8,56,[],[.nilp],[],false⟩) l0)) (.node 326 (.node 325 l0 l0) (.node 327 l0 l0))) (.node 332 (.node 330 (.node 329 l0 l0) (.node 331 l0 l0)) (.node 334 (.node 333 l0 l0) (.node 335 (.leaf ⟨.ptr,1,8,336,[],[.nilp],[],false⟩) lm)))) (.node 344 (.node 340 (.node 338 (.node 337 lm l0) (.node 339 (.leaf ⟨.ptr,1,8,3,[],[.nilp],[],false⟩) l0)) (.node 342 (.node 341 (.leaf ⟨.ptr,1,8,9,[],[.nilp],[],false⟩) l0) (.node 343 (.leaf ⟨.ptr,1,8,345,[],[.nilp],[],false⟩) (.leaf ⟨.sl,1,24,387,[],[.nils],[],false⟩)))) (.node 348 (.node 346 (.node 345 l8 l8) (.node 347 l0 (.leaf ⟨.sl,1,24,346,[],[.nils],[],false⟩))) (.node 350 (.node 349 l0 .nil) (.node 351 l0 l0))))) (.node 368 (.node 360 (.node 356 (.node 354 (.node 353 l0 l0) (.node 355 l0 l0)) (.node 358 (.node 357 (.leaf ⟨.ptr,1,8,398,[],[.nilp],[],false⟩) l0) (.node 359 l0 l0))) (.node 364 (.node 362 (.node 361 l0 l0) (.node 363 .nil l0)) (.node 366 (.node 365 l0 l0) (.node 367 l0 l0)))) (.node 376 (.node 372 (.node 370 (.node 369 l0 l0) (.node 371 l0 l0)) (.node 374 (.node 373 l0 l0) (.node 375 .nil l0))) (.node 380 (.node 378 (.node 377 l0 l0) (.node 379 l0 l0)) (.node 382 (.node 381 l0 l0) (.node 383 (.leaf ⟨.sl,1,24,338,[],[.nils],[],false⟩) l0))))))
def tt6:TT:=(.node 416 (.node 400 (.node 392 (.node 388 (.node 386 (.node 385 (.leaf ⟨.st,3,32,0,[(0,9),(1,3),(2,4)],[.str [],.int .i64 0,.bool false],[],false⟩) (.leaf ⟨.st,3,32,0,[(0,9),(1,3),(2,4)],[.str [],.int .i64 0,.bool false],[.str,.int .i64,.bool],false⟩)) (.node 387 ly lo)) (.node 390 (.node 389 l0 l0) (.node 391 lv lv))) (.node 396 (.node 394 (.node 393 l0 l0) (.node 395 l0 l0)) (.node 398 (.node 397 l0 l0) (.node 399 (.leaf ⟨.arr 256,256,1024,241,[],(List.replicate 256 (.int .u32 0)),(List.replicate 256 (.int .u32)),false⟩) .nil)))) (.node 408 (.node 404 (.node 402 (.node 401 l0 (.leaf ⟨.ptr,1,8,84,[],[.nilp],[],false⟩)) (.node 403 (.leaf ⟨.ptr,1,8,203,[],[.nilp],[],false⟩) l0)) (.node 406 (.node 405 l0 l0) (.node 407 l0 ly))) (.node 412 (.node 410 (.node 409 lo l0) (.node 411 l0 l0)) (.node 414 (.node 413 l0 l0) (.node 415 l0 l0))))) (.node 432 (.node 424 (.node 420 (.node 418 (.node 417 l0 l0) (.node 419 l0 .nil)) (.node 422 (.node 421 l0 .nil) (.node 423 l0 l0))) (.node 428 (.node 426 (.node 425 .nil l0) (.node 427 .nil l0)) (.node 430 (.node 429 l0 .nil) (.node 431 l0 .nil)))) (.node 440 (.node 436 (.node 434 (.node 433 l0 l0) (.node 435 l0 l0)) (.node 438 (.node 437 l0 l0) (.node 439 l0 l0))) (.node 444 (.node 442 (.node 441 l0 l0) (.node 443 l0 l0)) (.node 446 (.node 445 l0 l0) (.node 447 l0 .nil))))))
def tt7:TT:=(.node 480 (.node 464 (.node 456 (.node 452 (.node 450 (.node 449 l0 l0) (.node 451 l0 l0)) (.node 454 (.node 453 l0 l0) (.node 455 (.leaf ⟨.st,3,24,0,[(0,3),(1,3),(2,3)],[.int .i64 0,.int .i64 0,.int .i64 0],[],false⟩) (.leaf ⟨.st,3,24,0,[(0,3),(1,3),(2,3)],[.int .i64 0,.int .i64 0,.int .i64 0],[.int .i64,.int .i64,.int .i64],false⟩)))) (.node 460 (.node 458 (.node 457 l0 l0) (.node 459 .nil l0)) (.node 462 (.node 461 l0 .nil) (.node 463 l0 l0)))) (.node 472 (.node 468 (.node 466 (.node 465 l0 l0) (.node 467 l0 l0)) (.node 470 (.node 469 l0 (.leaf ⟨.ptr,1,8,506,[],[.nilp],[],false⟩)) (.node 471 l0 l0))) (.node 476 (.node 474 (.node 473 l0 (.leaf ⟨.ptr,1,8,475,[],[.nilp],[],false⟩)) (.node 475 lc1 lc1)) (.node 478 (.node 477 l0 l0) (.node 479 l0 l0))))) (.node 496 (.node 488 (.node 484 (.node 482 (.node 481 l0 lw) (.node 483 .nil l0)) (.node 486 (.node 485 l0 l0) (.node 487 l0 l0))) (.node 492 (.node 490 (.node 489 l0 l0) (.node 491 l0 l0)) (.node 494 (.node 493 l0 l0) (.node 495 l0 l0)))) (.node 504 (.node 500 (.node 498 (.node 497 l0 l0) (.node 499 l0 l0)) (.node 502 (.node 501 l0 l0) (.node 503 l0 (.leaf ⟨.arr 8,8,32,241,[],(List.replicate 8 (.int .u32 0)),(List.replicate 8 (.int .u32)),false⟩)))) (.node 508 (.node 506 (.node 505 l0 lf) (.node 507 lf l0)) (.node 510 (.node 509 (.leaf ⟨.ptr,1,8,503,[],[.nilp],[],false⟩) l0) (.node 511 l0 l0))))))
def tt8:TT:=(.node 544 (.node 528 (.node 520 (.node 516 (.node 514 (.node 513 lx l0) (.node 515 l0 l0)) (.node 518 (.node 517 l0 l0) (.node 519 l0 l0))) (.node 524 (.node 522 (.node 521 l0 l0) (.node 523 l0 l0)) (.node 526 (.node 525 .nil l0) (.node 527 l0 (.leaf ⟨.arr 64,64,256,241,[],(List.replicate 64 (.int .u32 0)),(List.replicate 64 (.int .u32)),false⟩))))) (.node 536 (.node 532 (.node 530 (.node 529 l0 (.leaf ⟨.ptr,1,8,527,[],[.nilp],[],false⟩)) (.node 531 l0 l0)) (.node 534 (.node 533 (.leaf ⟨.ptr,1,8,512,[],[.nilp],[],false⟩) .nil) (.node 535 l0 l0))) (.node 540 (.node 538 (.node 537 l0 l0) (.node 539 l0 l1)) (.node 542 (.node 541 l1 .nil) (.node 543 l0 l0))))) (.node 560 (.node 552 (.node 548 (.node 546 (.node 545 (.leaf ⟨.ptr,1,8,540,[],[.nilp],[],false⟩) l0) (.node 547 l0 l0)) (.node 550 (.node 549 .nil l0) (.node 551 l0 l0))) (.node 556 (.node 554 (.node 553 l0 (.leaf ⟨.arr 256,256,256,5,[],(List.replicate 256 (.int .u8 0)),(List.replicate 256 (.int .u8)),false⟩)) (.node 555 l61 l61)) (.node 558 (.node 557 (.leaf ⟨.arr 16,32,32,555,[],(List.replicate 32 (.int .u8 0)),[],false⟩) l01) (.node 559 l01 (.leaf ⟨.arr 0,0,0,16,[],[],[],false⟩))))) (.node 568 (.node 564 (.node 562 .nil (.node 563 lz lz)) (.node 566 (.node 565 l0 (.leaf ⟨.ptr,1,8,5,[],[.nilp],[],false⟩)) (.node 567 l31 l31))) (.node 572 (.node 570 (.node 569 la la) (.node 571 l0 l0)) (.node 574 (.node 573 l0 l0) .nil)))))
def ttree:TT:=(.node 256 (.node 128 (.node 64 tt0 tt1) (.node 192 tt2 tt3)) (.node 384 (.node 320 tt4 tt5) (.node 448 tt6 (.node 512 tt7 tt8))))
def xtab(n:Nat):Option TI:=match Nat.ble 576 n with
 |true=>none
 |false=>ttree.get n
theorem xfollows_ok:prog.follows .mixedOrders=true:=by kernel_rfl
theorem xtab_all:ttree.all (fun t ti=>tiB prog t ti) 0 576=true:=by kernel_rfl
theorem xtab_ok:TabOk prog xtab:=by
 intro t ti h;unfold xtab at h
 split at h
 ·cases h
 ·rename_i hm
  have:t<576:=Nat.lt_of_not_le fun hle=>by rw[Nat.ble_eq_true_of_le hle] at hm;cases hm
  exact tiB_ok (TT.all_ok ttree 0 576 t ti xtab_all (Nat.zero_le _) this h)
def mutT:List Nat:=[30,31,38,41,44,57,63,75,76,118]
def xtabM(t:Nat):Option TI:=(xtab t).map fun ti=>{ ti with mutb:=mutT.contains t }
theorem tab_ok:TabOk prog xtabM:=by
 intro t ti h;unfold xtabM at h;rw[Ve] at h;obtain⟨u,hu,rfl⟩:=h;have q:=xtab_ok t u hu;exact⟨q.info,q.desc,q.one,q.zl,q.eq,q.za⟩
theorem follows_ok:prog.follows .mixedOrders=true:=xfollows_ok
theorem xtab_3:xtabM 3=some ⟨.int .i64,1,8,0,[],[.int .i64 0],[],false⟩:=by rfl
theorem xtab_4:xtabM 4=some ⟨.bool,1,1,0,[],[.bool false],[],false⟩:=by rfl
theorem xtab_5:xtabM 5=some ⟨.int .u8,1,1,0,[],[.int .u8 0],[],false⟩:=by rfl
theorem xtab_9:xtabM 9=some ⟨.str,1,16,0,[],[.str []],[],false⟩:=by rfl
theorem xtab_23:xtabM 23=some ⟨.st,2,16,0,[(0,3),(1,3)],[.int .i64 0,.int .i64 0],[.int .i64,.int .i64],false⟩:=by rfl
theorem xtab_24:xtabM 24=some ⟨.sl,1,24,4,[],[.nils],[],false⟩:=by rfl
theorem xtab_28:xtabM 28=some ⟨.st,8,80,0,[(0,3),(1,3),(2,3),(3,9),(4,9),(5,3),(6,3),(7,3)],[.int .i64 0,.int .i64 0,.int .i64 0,.str [],.str [],.int .i64 0,.int .i64 0,.int .i64 0],[.int .i64,.int .i64,.int .i64,.str,.str,.int .i64,.int .i64,.int .i64],false⟩:=by rfl
theorem xtab_30:xtabM 30=some ⟨.sl,1,24,78,[],[.nils],[],true⟩:=by rfl
theorem xtab_31:xtabM 31=some ⟨.sl,1,24,121,[],[.nils],[],true⟩:=by rfl
theorem xtab_35:xtabM 35=some ⟨.int .i64,1,8,0,[],[.int .i64 0],[],false⟩:=by rfl
theorem xtab_38:xtabM 38=some ⟨.sl,1,24,3,[],[.nils],[],true⟩:=by rfl
theorem xtab_41:xtabM 41=some ⟨.sl,1,24,46,[],[.nils],[],true⟩:=by rfl
theorem xtab_43:xtabM 43=some ⟨.st,3,32,0,[(0,3),(1,3),(2,9)],[.int .i64 0,.int .i64 0,.str []],[.int .i64,.int .i64,.str],false⟩:=by rfl
theorem xtab_44:xtabM 44=some ⟨.sl,1,24,43,[],[.nils],[],true⟩:=by rfl
theorem xtab_46:xtabM 46=some ⟨.st,6,72,0,[(0,3),(1,3),(2,4),(3,3),(4,9),(5,44)],[.int .i64 0,.int .i64 0,.bool false,.int .i64 0,.str [],.nils],[],false⟩:=by rfl
theorem xtab_48:xtabM 48=some ⟨.sl,1,24,9,[],[.nils],[],false⟩:=by rfl
theorem xtab_50:xtabM 50=some ⟨.st,6,72,0,[(0,3),(1,3),(2,35),(3,9),(4,3),(5,48)],[.int .i64 0,.int .i64 0,.int .i64 0,.str [],.int .i64 0,.nils],[],false⟩:=by rfl
theorem xtab_56:xtabM 56=some ⟨.st,7,72,0,[(0,23),(2,3),(3,3),(4,38),(5,3),(6,3)],[.int .i64 0,.int .i64 0,.int .i64 0,.int .i64 0,.nils,.int .i64 0,.int .i64 0],[],false⟩:=by rfl
theorem xtab_57:xtabM 57=some ⟨.sl,1,24,408,[],[.nils],[],true⟩:=by rfl
theorem xtab_59:xtabM 59=some ⟨.st,3,40,0,[(0,3),(1,3),(2,57)],[.int .i64 0,.int .i64 0,.nils],[],false⟩:=by rfl
theorem xtab_63:xtabM 63=some ⟨.sl,1,24,284,[],[.nils],[],true⟩:=by rfl
theorem xtab_65:xtabM 65=some ⟨.st,1,24,0,[(0,63)],[.nils],[],false⟩:=by rfl
theorem xtab_66:xtabM 66=some ⟨.sl,1,24,455,[],[.nils],[],false⟩:=by rfl
theorem xtab_68:xtabM 68=some ⟨.st,2,32,0,[(0,3),(1,66)],[.int .i64 0,.nils],[],false⟩:=by rfl
theorem xtab_69:xtabM 69=some ⟨.sl,1,24,385,[],[.nils],[],false⟩:=by rfl
theorem xtab_71:xtabM 71=some ⟨.st,1,24,0,[(0,69)],[.nils],[],false⟩:=by rfl
theorem xtab_72:xtabM 72=some ⟨.sl,1,24,50,[],[.nils],[],false⟩:=by rfl
theorem xtab_74:xtabM 74=some ⟨.st,5,104,0,[(0,65),(1,68),(3,71),(4,72)],[.nils,.int .i64 0,.nils,.nils,.nils],[],false⟩:=by rfl
theorem xtab_75:xtabM 75=some ⟨.sl,1,24,203,[],[.nils],[],true⟩:=by rfl
theorem xtab_76:xtabM 76=some ⟨.sl,1,24,28,[],[.nils],[],true⟩:=by rfl
theorem xtab_78:xtabM 78=some ⟨.st,58,400,0,[(0,23),(2,3),(3,3),(4,56),(11,59),(14,62),(50,74),(55,48),(56,75),(57,76)],[.int .i64 0,.int .i64 0,.int .i64 0,.int .i64 0,.int .i64 0,.int .i64 0,.int .i64 0,.int .i64 0,.nils,.int .i64 0,.int .i64 0,.int .i64 0,.int .i64 0,.nils,.int .i64 0,.int .i64 0,.nils,.int .i64 0,.int .u8 0,.int .u8 0,.int .u8 0,.int .u8 0,.int .u8 0,.int .u8 0,.int .u8 0,.int .u8 0,.int .u8 0,.int .u8 0,.int .u8 0,.int .u8 0,.int .u8 0,.int .u8 0,.int .u8 0,.int .u8 0,.int .u8 0,.int .u8 0,.int .u8 0,.int .u8 0,.int .u8 0,.int .u8 0,.int .u8 0,.int .u8 0,.int .u8 0,.int .u8 0,.int .u8 0,.int .u8 0,.int .u8 0,.int .u8 0,.int .u8 0,.int .u8 0,.nils,.int .i64 0,.nils,.nils,.nils,.nils,.nils,.nils],[],false⟩:=by rfl
theorem xtab_84:xtabM 84=some ⟨.st,1,24,0,[(0,44)],[.nils],[],false⟩:=by rfl
theorem xtab_86:xtabM 86=some ⟨.st,9,112,0,[(0,23),(2,3),(3,3),(4,4),(5,3),(6,9),(7,44),(8,84)],[.int .i64 0,.int .i64 0,.int .i64 0,.int .i64 0,.bool false,.int .i64 0,.str [],.nils,.nils],[],false⟩:=by rfl
theorem xtab_89:xtabM 89=some ⟨.sl,1,24,5,[],[.nils],[],false⟩:=by rfl
theorem xtab_118:xtabM 118=some ⟨.sl,1,24,267,[],[.nils],[],true⟩:=by rfl
theorem xtab_121:xtabM 121=some ⟨.st,13,152,0,[(0,3),(1,3),(2,4),(3,28),(11,118),(12,119)],[.int .i64 0,.int .i64 0,.bool false,.int .i64 0,.int .i64 0,.int .i64 0,.str [],.str [],.int .i64 0,.int .i64 0,.int .i64 0,.nils,.nils],[],false⟩:=by rfl
theorem xtab_201:xtabM 201=some ⟨.st,7,112,0,[(0,23),(2,84),(3,84),(4,84),(5,4),(6,9)],[.int .i64 0,.int .i64 0,.nils,.nils,.nils,.bool false,.str []],[],false⟩:=by rfl
theorem xtab_203:xtabM 203=some ⟨.st,18,256,0,[(0,86),(9,201),(16,41),(17,3)],[.int .i64 0,.int .i64 0,.int .i64 0,.int .i64 0,.bool false,.int .i64 0,.str [],.nils,.nils,.int .i64 0,.int .i64 0,.nils,.nils,.nils,.bool false,.str [],.nils,.int .i64 0],[],false⟩:=by rfl
theorem xtab_239:xtabM 239=some ⟨.int .u64,1,8,0,[],[.int .u64 0],[],false⟩:=by rfl
theorem xtab_245:xtabM 245=some ⟨.int .u64,1,8,0,[],[.int .u64 0],[],false⟩:=by rfl
theorem xtab_267:xtabM 267=some ⟨.st,7,80,0,[(0,3),(1,50)],[.int .i64 0,.int .i64 0,.int .i64 0,.int .i64 0,.str [],.int .i64 0,.nils],[],false⟩:=by rfl
theorem xtab_284:xtabM 284=some ⟨.st,4,48,0,[(0,9),(1,9),(2,3),(3,3)],[.str [],.str [],.int .i64 0,.int .i64 0],[.str,.str,.int .i64,.int .i64],false⟩:=by rfl
theorem xtab_298:xtabM 298=some ⟨.map,1,8,3,[(0,300)],[.nilm],[],false⟩:=by rfl
theorem xtab_300:xtabM 300=some ⟨.st,2,24,0,[(0,3),(1,9)],[.int .i64 0,.str []],[.int .i64,.str],false⟩:=by rfl
theorem xtab_338:xtabM 338=some ⟨.ptr,1,8,3,[],[.nilp],[],false⟩:=by rfl
theorem xtab_385:xtabM 385=some ⟨.st,3,32,0,[(0,9),(1,3),(2,4)],[.str [],.int .i64 0,.bool false],[.str,.int .i64,.bool],false⟩:=by rfl
theorem xtab_408:xtabM 408=some ⟨.st,2,24,0,[(0,3),(1,9)],[.int .i64 0,.str []],[.int .i64,.str],false⟩:=by rfl
theorem xtab_455:xtabM 455=some ⟨.st,3,24,0,[(0,3),(1,3),(2,3)],[.int .i64 0,.int .i64 0,.int .i64 0],[.int .i64,.int .i64,.int .i64],false⟩:=by rfl
end Go.Proofs.YtojhjaohaafeaaaGreatDoor
namespace Go.Proofs.YtojhjaohaafeaaaGreatDoor
open Go.ChangeShapes Go.WideShapes Go.ChangeAt Go.RowKit Go.Deep
structure Rep(α:Type) where
 at_:Nat->World->List Value->α->Prop
 mono:∀ {B B' w cs a},B<=B'->at_ B w cs a->at_ B' w cs a
 stable:∀ {B w w' cs a},Below B w w'->at_ B w cs a->at_ B w' cs a
def plR{α:Type}(p:List Value->α->Prop):Rep α:=⟨fun _ _=>p,fun _ h=>h,fun _ h=>h⟩
def byteV(c:UInt8):Value:=.int .u8 c.toNat
def byteR:Rep UInt8:=plR fun cs c=>cs=[byteV c]
def RdC(w:World)(k:Nat)(A:Option Addr)(m:Nat)(xs:List Value):Prop:=
 xs.length=m*k/\(0<m->∃ b o,A=some ⟨b,o,none⟩/\∀ j u,xs[j]? = some u->w.cell? ⟨b,o+j,none⟩=some u)
def Cs{α:Type}(R:Rep α)(k B:Nat)(w:World)(xs:List Value)(l:List α):Prop:=
 xs.length=l.length*k/\∀ (j:Nat) a,l[j]? = some a->R.at_ B w ((xs.drop (j*k)).take k) a
def Sl{α:Type}(R:Rep α)(k B:Nat)(w:World)(A:Option Addr)(l:List α):Prop:=
 l≠[]->∃ b o,A=some ⟨b,o,none⟩/\b<B/\∀ (j:Nat) a,l[j]? = some a->∃ cs,cs.length=k/\R.at_ B w cs a/\∀ i u,cs[i]? = some u->w.cell? ⟨b,o+j*k+i,none⟩=some u
def Own{α:Type}(R:Rep α)(k:Nat)(e:TypeId)(base B:Nat)(w:World)(v:Value)(l:List α):Prop:=
 ∃ xs,w.ownsRow base e k v l.length xs/\Cs R k B w xs l
section
variable {α:Type} {R:Rep α} {k B B':Nat} {w w':World} {A:Option Addr} {l l2:List α}
/-! ### cells -/
theorem Cs.nil:Cs R k B w [] ([]:List α):=⟨by simp,fun j a h=>by simp at h⟩
theorem Cs.below{xs:List Value}(h:Cs R k B w xs l)(hb:Below B w w'):Cs R k B w' xs l:=⟨h.1,fun j a hj=>R.stable hb (h.2 j a hj)⟩
theorem Cs.append{xs ys:List Value}(h:Cs R k B w xs l)(h2:Cs R k B w ys l2):Cs R k B w (xs++ys) (l++l2):=by
 refine⟨by simp[h.1,h2.1,Nat.add_mul],fun j a hj=>?_⟩;rw[List.getElem?_append] at hj
 split at hj
 ·rename_i hlt;have:=h.2 j a hj;have hle:(j+1)*k<=l.length*k:=Nat.mul_le_mul_right k hlt;rw[Nat.add_mul,<- h.1] at hle;rw[List.drop_append_of_le_length (by omega),List.take_append_of_le_length (by rw[List.length_drop];omega)];exact this
 ·rename_i hge;have:=h2.2 _ a hj;have hle:l.length*k<=j*k:=Nat.mul_le_mul_right k (by omega);rw[List.drop_append,List.drop_eq_nil_of_le (by rw[h.1];exact hle),List.nil_append,h.1,<- Nat.sub_mul];exact this
theorem Cs.one{xs:List Value}{a:α}(hl:xs.length=k)(h:R.at_ B w xs a):Cs R k B w xs [a]:=by
 refine⟨by simp[hl],fun j b hj=>?_⟩
 match j,hj with
 |0,hj=>
  simp at hj;subst hj;rw[Nat.zero_mul,List.drop_zero,List.take_of_length_le (by omega)];exact h
theorem Sl.cells(h:Sl R k B w A l):∃ xs,RdC w k A l.length xs/\Cs R k B w xs l:=by
 by_cases hn:l=[]
 ·subst hn;exact⟨[],⟨by simp,fun h=>absurd h (by simp)⟩,Cs.nil⟩
 ·obtain⟨b,o,rfl,hlt,hc⟩:=h hn
  have key:∀ n,n<=l.length->∃ xs:List Value,xs.length=n*k/\(∀ j u,xs[j]? = some u->w.cell? ⟨b,o+j,none⟩=some u)/\Cs R k B w xs (l.take n):=by
   intro n
   induction n with
   |zero=>exact fun _=>⟨[],by simp,fun j u h=>by simp at h,by simpa using Cs.nil⟩
   |succ n ih=>
    intro hn';obtain⟨xs,hx,hcell,hcs⟩:=ih (by omega);have hget:l[n]? = some l[n]:=Vb (by omega);obtain⟨cs,hl,hr,hcc⟩:=hc n _ hget;refine⟨xs++cs,by rw[List.length_append,hx,hl,Nat.add_mul];omega,fun j u hj=>?_,?_⟩
    ·rw[List.getElem?_append] at hj
     split at hj
     ·exact hcell j u hj
     ·rename_i hge;have:=hcc _ u hj;rw[hx] at this hge;rw[<- this]
      congr 2
      omega
    ·rw[List.take_add_one,hget];exact hcs.append (Cs.one hl hr)
  obtain⟨xs,hx,hcell,hcs⟩:=key l.length (Nat.le_refl _);rw[List.take_length] at hcs;exact⟨xs,⟨hx,fun _=>⟨b,o,rfl,hcell⟩⟩,hcs⟩
/-! ### rows of the call's own -/
variable {e:TypeId} {base:Nat} {v:Value}
theorem Own.alloc(h:Own R k e base B w v l)(hB:B<=w.heap.size)(o:Obj):Own R k e base B (w.alloc o) v l:=by
 obtain⟨xs,h1,h2⟩:=h;exact⟨xs,h1.alloc o,h2.below ((Below.refl _ _).alloc hB o)⟩
theorem Own.low(h:Own R k e base B w v l){base':Nat}(hb:base'<=base):Own R k e base' B w v l:=by
 obtain⟨xs,⟨h1,h2⟩,h3⟩:=h;refine⟨xs,⟨h1,?_⟩,h3⟩
 rcases h2 with h2|⟨g,cap,cur,hv,hg,r⟩
 ·exact .inl h2
 ·exact .inr ⟨g,cap,cur,hv,Nat.le_trans hb hg,r⟩
end
/-! ### append -/
structure Tab(P:Program)(t e:TypeId)(k bytes:Nat):Prop where
 ht:P.underlying t=some (.slice e)
 hi:∃ i z,P.info? e=some i/\i.zero=some z/\i.size=k/\i.bytes=bytes/\z.cells.size=k
 hk:0<k
section
variable {P:Program} {α:Type} {R:Rep α} {k B:Nat} {w:World} {l l2:List α} {e:TypeId} {base bytes:Nat} {v:Value}
theorem run_append_of_nil(t ty:TypeId)(i:TypeInfo)(ht:P.underlying t=some (.slice e))(hi:P.info? e=some i)(n:Nat)(xs:List Value)(hown:w.ownsRow base e k v n xs)(c:Nat) :
  (Builtin.append_ #[t,t] ty #[v,.slice none 0 c]).run P w=.ok v w:=by
 rcases hown.2 with⟨rfl,rfl⟩|⟨g,cap,cur,rfl,_,_,hnc,_⟩
 ·simp[Builtin.append_,run_underlying ht,sizeOf,typeInfo,hi,Builtin.lenOf,Builtin.firstCells]
 ·simp[Builtin.append_,run_underlying ht,sizeOf,typeInfo,hi,Builtin.lenOf,Builtin.firstCells,hnc,storeCells]
theorem run_append_own_any(t ty:TypeId)(T:Tab P t e k bytes)(hown:Own R k e base B w v l)(hB:B<=base)(A:Option Addr)(m c:Nat)(ys:List Value)(hm:l2.length=m)(hr:RdC w k A m ys)(hc:Cs R k B w ys l2)
  (h1:∀ u∈ys,u.oneCell'=true) (hlen:(l.length+l2.length)*bytes<=140737488355328) (h63:l.length+l2.length<=maxLen) (hbase:base<=w.heap.size) :
  ∃ v' w',(Builtin.append_ #[t,t] ty #[v,.slice A m c]).run P w=.ok v' w'/\Own R k e base B w' v' (l++l2)/\Below base w w'/\w.grownBy w' v.ownBlock/\(v'.ownBlock=v.ownBlock\/v'.ownBlock=some w.heap.size):=by
 obtain⟨i,z,hi,hz,hs,hb,hzc⟩:=T.hi;obtain⟨xs,ho,hxs⟩:=hown;subst hm;have hrow:∀ q,v.ownBlock=some q->base<=q:=fun q hq=>(ho.lt q hq).1
 have fin:∀ (ad:Addr) (_:∀ j u,ys[j]? = some u->w.cell? (ad.add j)=some u),∃ v' w',(Builtin.append_ #[t,t] ty #[v,.slice (some ad) l2.length c]).run P w=.ok v' w'/\Own R k e base B w' v' (l++l2)/\Below base w w'/\w.grownBy w' v.ownBlock/\(v'.ownBlock=v.ownBlock\/v'.ownBlock=some w.heap.size):=by
  intro ad hcells;obtain⟨v',w',hrun,h2,h3,h4,h5⟩:=run_append_own_at (P:=P) w base t ty e i z k bytes T.ht hi hz hs hb hzc T.hk v l.length xs ho ad l2.length c ys hr.1 hcells h1 h63 hlen hbase;have hbl:Below base w w':=(Below.refl _ _).grown h3 hbase hrow;exact⟨v',w',hrun,⟨xs++ys,by rw[List.length_append];exact h2,(hxs.append hc).below (hbl.mono hB)⟩,hbl,h3,h5⟩
 rcases Nat.eq_zero_or_pos l2.length with h0|hpos
 ·have hl2:l2=[]:=List.length_eq_zero_iff.1 h0;subst hl2;have hy:ys=[]:=List.length_eq_zero_iff.1 (by simpa using hr.1);subst hy
  cases A with
  |none=>exact⟨v,w,run_append_of_nil t ty i T.ht hi l.length xs ho c,by rw[List.append_nil];exact⟨xs,ho,hxs⟩,Below.refl _ _,World.grownBy.refl w _,.inl rfl⟩
  |some ad=>exact fin ad fun j u h=>by simp at h
 ·obtain⟨b,o,rfl,hcell⟩:=hr.2 hpos
  exact fin ⟨b,o,none⟩ fun j u hu=>by rw[Addr.add_mid];exact hcell j u hu
theorem wpl_append{ops:Array Oper}{rest:List Oper}{o:Oper}{a:Act}{Q:Exit->Act->World->Prop}(hgd:o.guard=none)(s x:Operand)(t:TypeId)
  (ho:o.op=.call { callee:=.builtin .append,args:=#[s,x],argTypes:=#[t,t] }) (T:Tab P t e k bytes) (v:Value) (l l2:List α) (hs:a.eval s=v) (hown:Own R k e base B w v l) (hB:B<=base)
  (A:Option Addr) (m c:Nat) (ys:List Value) (hx:a.eval x=.slice A m c) (hm:l2.length=m) (hr:RdC w k A m ys) (hc:Cs R k B w ys l2)
  (h1:∀ u∈ys,u.oneCell'=true) (hlen:(l.length+l2.length)*bytes<=140737488355328) (h63:l.length+l2.length<=maxLen) (hbase:base<=w.heap.size)
  (h:∀ v' w',Own R k e base B w' v' (l++l2)->Below base w w'->w.grownBy w' v.ownBlock->(v'.ownBlock=v.ownBlock\/v'.ownBlock=some w.heap.size)->wpList P ops Q rest (a.put o.dst v') w'):wpList P ops Q (o::rest) a w:=by
 obtain⟨v',w',hrun,h2,h3,h4,h5⟩:=run_append_own_any (P:=P) (w:=w) t o.type T hown hB A m c ys hm hr hc h1 hlen h63 hbase;refine wpList_plain hgd fun _ hK=>?_;unfold Oper.wp execOp;simp only[ho,resolve,invoke,builtin,Sem.run_bind,Sem.run_pure,Result.andThen_ok,List.map_toArray,Yf,Ye,hs,hx,hrun];exact hK _ _ (h v' w' h2 h3 h4 h5)
theorem wpl_append_full{ops:Array Oper}{rest:List Oper}{o:Oper}{a:Act}{Q:Exit->Act->World->Prop}(hgd:o.guard=none)(s x:Operand)(t:TypeId)
  (ho:o.op=.call { callee:=.builtin .append,args:=#[s,x],argTypes:=#[t,t] }) (T:Tab P t e k bytes) (A0:Option Addr) (n cap:Nat) (xs:List Value) (l l2:List α) (hs:a.eval s=.slice A0 n cap) (hn:l.length=n)
  (hcap:cap=n) (hr0:RdC w k A0 n xs) (hc0:Cs R k B w xs l) (hB:B<=w.heap.size)
  (ad:Addr) (m c:Nat) (ys:List Value) (hx:a.eval x=.slice (some ad) m c) (hm:l2.length=m) (hm0:0<m) (hr:RdC w k (some ad) m ys) (hc:Cs R k B w ys l2)
  (h1:∀ u∈ys,u.oneCell'=true) (hlen:(l.length+l2.length)*bytes<=140737488355328) (h63:l.length+l2.length<=maxLen)
  (h:∀ v' w',Own R k e w.heap.size B w' v' (l++l2)->Below w.heap.size w w'->wpList P ops Q rest (a.put o.dst v') w'):wpList P ops Q (o::rest) a w:=by
 obtain⟨i,z,hi,hz,hsz,hb,hzc⟩:=T.hi;subst hn hm hcap
 have hnone:A0=none->l.length=0/\l.length=0:=by
  intro hA
  rcases Nat.eq_zero_or_pos l.length with h0|hp
  ·exact⟨h0,h0⟩
  ·obtain⟨b,o2,hA',_⟩:=hr0.2 hp;rw[hA] at hA';cases hA'
 obtain⟨b',o',hae,hcy⟩:=hr.2 hm0;simp only[Option.some.injEq] at hae;subst hae
 have holds:∀ q,A0=some q->∀ j u,xs[j]? = some u->w.cell? (q.add j)=some u:=by
  intro q hq j u hu
  rcases Nat.eq_zero_or_pos l.length with h0|hp
  ·have hx0:xs=[]:=List.length_eq_zero_iff.1 (by rw[hr0.1,h0,Nat.zero_mul]);subst hx0;simp at hu
  ·obtain⟨b,o2,hA,hcell⟩:=hr0.2 hp;rw[hA] at hq;cases hq;rw[Addr.add_mid];exact hcell j u hu
 refine wpList_append_grows (P:=P) w hgd s x t ho e i z k bytes T.ht hi hz hsz hb hzc T.hk A0 l.length l.length xs hs hnone hr0.1 holds ⟨b',o',none⟩ l2.length c ys hx hr.1
  (fun j u hu=>by rw[Addr.add_mid];exact hcy j u hu) h1 (by omega) h63 hlen (fun v' w' h2 h3=>?_)
 have hbl:Below w.heap.size w w':=(Below.refl _ _).grown h3 (Nat.le_refl _) (fun q hq=>by cases hq);exact h v' w' ⟨xs++ys,by rw[List.length_append];exact h2,(hc0.append hc).below (hbl.mono hB)⟩ hbl
end
/-! ### one element behind -/
theorem rdc_new(w:World)(cs:List Value)(t:TypeId){k:Nat}(hl:cs.length=k):RdC (w.alloc (.cells cs.toArray t)) k (some ⟨w.heap.size,0,none⟩) 1 cs:=
 ⟨by simp[hl],fun _=>⟨_,_,rfl,fun j u hu=>by
  have hj:j<cs.length:=(Va hu).1;rw[Nat.zero_add,World.cell?_alloc_new]
  simpa using hu⟩⟩
theorem cell_alloc{w:World}{p:Addr}{u:Value}(h:w.cell? p=some u)(o:Obj):(w.alloc o).cell? p=some u:=by
 rw[World.cell?_alloc_lt _ _ _ (World.block_lt_of_cell? w _ h)];exact h
theorem le_alloc{B:Nat}{w:World}(h:B<=w.heap.size)(o:Obj):B<=(w.alloc o).heap.size:=by simp;omega
theorem RdC.alloc{w:World}{k m:Nat}{A:Option Addr}{xs:List Value}(h:RdC w k A m xs)(o:Obj):RdC (w.alloc o) k A m xs:=
 ⟨h.1,fun hm=>by
  obtain⟨b,o',rfl,hc⟩:=h.2 hm
  exact⟨b,o',rfl,fun j u hu=>cell_alloc (hc j u hu) o⟩⟩
/-! ### append as a call's walk meets it: W is the world in which the call began -/
section
variable {P:Program} {α:Type} {R:Rep α} {k B:Nat} {w W:World} {e:TypeId} {bytes:Nat}
end
section
variable {P:Program} {α:Type} {R:Rep α} {k B:Nat} {w W:World} {e:TypeId} {bytes:Nat}
end
/-! ### bytes -/
theorem mem_one(v:Value)(h:v.oneCell'=true):∀ u∈[v],u.oneCell'=true:=by
 intro u hu;simp only[List.mem_singleton] at hu;subst hu;exact h
theorem byteV_of{z:Int}{k:Nat}(h:z=(k % 256:Nat)):Value.int .u8 z=byteV (UInt8.ofNat k):=by
 rw[h];simp[byteV]
theorem byte_one{z:Int}{k:Nat}(h:z=(k % 256:Nat))(w:World):Cs byteR 1 0 w [.int .u8 z] [UInt8.ofNat k]:=Cs.one rfl (by rw[byteV_of h];exact(rfl:_=_))
theorem bytes1{k:IntKind}(z:Int):∀ u∈[Value.int k z],u.oneCell'=true:=by
 intro u hu;simp only[List.mem_singleton] at hu;subst hu;rfl
theorem cs_bytes{B:Nat}{w:World}{xs:List Value}{l:List UInt8}:Cs byteR 1 B w xs l↔xs=l.map byteV:=by
 constructor
 ·rintro⟨h1,h2⟩;apply List.ext_getElem?;intro j;rw[Vg]
  by_cases hj:j<l.length
  ·have:=h2 j _ (Vb hj);simp only[byteR,plR,Nat.mul_one] at this;rw[Vb hj]
   have hx:(List.take 1 (List.drop j xs))[0]? = xs[j]?:=by rw[List.getElem?_take,if_pos (by omega),List.getElem?_drop,Nat.add_zero]
   rw[<- hx,this];rfl
  ·rw[List.getElem?_eq_none (by omega),List.getElem?_eq_none (by omega)];rfl
 ·rintro rfl;refine⟨by simp,fun j a hj=>?_⟩;simp only[byteR,plR,Nat.mul_one];have hjl:j<l.length:=(Va hj).1;rw[List.drop_eq_getElem_cons (by simpa using hjl)];simp only[Yg,Yj,List.getElem_map]
  congr 2
  rw[Vb hjl] at hj;exact Option.some.inj hj
end Go.Proofs.YtojhjaohaafeaaaGreatDoor
namespace Go.Proofs.YtojhjaohaafeaaaGreatDoor
abbrev Bytes:=List UInt8
def nbF:Nat->Nat->Nat
 |0,_=>0
 |f+1,n=>if n=0 then 0 else nbF f (n / 256)+1
def nb(n:Nat):Nat:=nbF 9 n
def be:Nat->Nat->Bytes
 |0,_=>[]
 |k+1,n=>UInt8.ofNat (n / 256^k)::be k n
def encN(n:Nat):Bytes:=UInt8.ofNat (nb n)::be (nb n) n
def encT(s:Bytes):Bytes:=encN s.length++s
def zig(n:Int):Nat:=if n<0 then(-2*n-1).toNat else(2*n).toNat
theorem be_length(k n:Nat):(be k n).length=k:=by
 induction k with
 |zero=>rfl
 |succ k ih=>simp[be,ih]
theorem be_get(k n j:Nat)(h:j<k):(be k n)[j]? = some (UInt8.ofNat (n / 256^(k-1-j))):=by
 induction k generalizing j with
 |zero=>omega
 |succ k ih=>
  cases j with
  |zero=>simp[be]
  |succ j=>
   simp only[be,Y2];rw[ih j (by omega),show k+1-1-(j+1)=k-1-j by omega]
theorem be_take(k n j:Nat)(h:j<k):(be k n).take (j+1)=(be k n).take j++[UInt8.ofNat (n / 256^(k-1-j))]:=by
 rw[List.take_add_one,be_get k n j h];rfl
theorem nbF_le(f n:Nat):nbF f n<=f:=by
 induction f generalizing n with
 |zero=>simp[nbF]
 |succ f ih=>
  unfold nbF
  split
  ·omega
  ·have:=ih (n / 256);omega
theorem nbF_more(f n:Nat)(h:n<256^f):nbF (f+1) n=nbF f n:=by
 induction f generalizing n with
 |zero=>simp at h;simp[nbF,h]
 |succ f ih=>
  unfold nbF
  split
  ·rfl
  ·rw[ih (n / 256) (by rw[Nat.pow_succ] at h;omega)]
theorem nb_zero:nb 0=0:=rfl
theorem nb_step(n:Nat)(h0:n≠0)(h:n<18446744073709551616):nb n=nb (n / 256)+1:=by
 have:nb n=nbF 8 (n / 256)+1:=by show(if n=0 then 0 else nbF 8 (n / 256)+1)=_;rw[if_neg h0]
 rw[this,nb,nbF_more 8 (n / 256) (by omega)]
theorem nb_le(n:Nat)(h:n<18446744073709551616):nb n<=8:=by
 have:nb n=nbF 8 n:=nbF_more 8 n (by omega);rw[this];exact nbF_le 8 n
theorem nb_lt(n:Nat)(h:n<18446744073709551616):n<256^nb n:=by
 have key:∀ f n,n<256^f->n<256^nbF f n:=by
  intro f
  induction f with
  |zero=>intro n h;simp at h;subst h;simp[nbF]
  |succ f ih=>
   intro n h;unfold nbF
   split
   ·rename_i h0;subst h0;simp
   ·have:=ih (n / 256) (by rw[Nat.pow_succ] at h;omega);rw[Nat.pow_succ];omega
 exact key 9 n (by omega)
theorem nb_ge(n:Nat)(h0:n≠0)(h:n<18446744073709551616):256^(nb n-1)<=n:=by
 have key:∀ f n,n≠0->n<256^f->256^(nbF f n-1)<=n:=by
  intro f
  induction f with
  |zero=>intro n h0 h;simp at h;exact absurd h h0
  |succ f ih=>
   intro n h0 h;unfold nbF;rw[if_neg h0];simp only[Nat.add_sub_cancel]
   by_cases hz:n / 256=0
   ·rw[hz]
    have:nbF f 0=0:=by cases f<;>simp[nbF]
    rw[this];simp;omega
   ·have hi:=ih (n / 256) hz (by rw[Nat.pow_succ] at h;omega)
    have hp:0<nbF f (n / 256):=by
     cases f with
     |zero=>simp at h;omega
     |succ f=>unfold nbF;rw[if_neg hz];omega
    obtain⟨q,hq⟩:∃ q,nbF f (n / 256)=q+1:=⟨nbF f (n / 256)-1,by omega⟩
    rw[hq] at hi ⊢;simp only[Nat.add_sub_cancel] at hi;rw[Nat.pow_succ];omega
 exact key 9 n h0 (by omega)
theorem nb_pos(n:Nat)(h0:n≠0):1<=nb n:=by show 1<=(if n=0 then 0 else nbF 8 (n / 256)+1);rw[if_neg h0];omega
theorem bitLen_nb(n:Nat)(h:n<18446744073709551616):(Lib.bitLen n+7) / 8=nb n:=by
 induction n using Nat.strongRecOn with
 |_ n ih=>
  by_cases h0:n=0
  ·subst h0;rfl
  ·by_cases h1:n<256
   ·have h8:Lib.bitLen n<=8:=Lib.bitLen_le8 ⟨n,h1⟩
    have hp:1<=Lib.bitLen n:=by
     have:=Lib.bitLen_half n h0 (by omega);omega
    rw[nb_step n h0 h,show n / 256=0 by omega,nb_zero];omega
   ·have hs:=Lib.bitLen_shift8 n (by omega) h;have:=ih (n / 256) (by omega) (by omega);rw[nb_step n h0 h,<- this,hs];omega
theorem shr_byte(n p:Nat):(n:Int) / 2^(8*p) % 256=((n / 256^p) % 256:Nat):=by
 have h:(2:Int)^(8*p)=((256^p:Nat):Int):=by rw[Int.pow_mul];simp
 rw[h];rw[Int.natCast_emod,Int.natCast_ediv];rfl
theorem encN_length(n:Nat):(encN n).length=1+nb n:=by simp[encN,be_length];omega
theorem encN_le(n:Nat)(h:n<18446744073709551616):(encN n).length<=9:=by have:=nb_le n h;rw[encN_length];omega
theorem zig_lt(n:Int)(h:-9223372036854775808<=n)(h':n<=9223372036854775807):zig n<18446744073709551616:=by unfold zig;split<;>omega
theorem encT_le(s:Bytes)(h:s.length<18446744073709551616):(encT s).length<=s.length+9:=by
 have:=encN_le s.length h;simp[encT];omega
/-! ### taking -/
def fromBE(l:Bytes):Nat:=l.foldl (fun n c=>n*256+c.toNat) 0
theorem fromBE_snoc(l:Bytes)(c:UInt8):fromBE (l++[c])=fromBE l*256+c.toNat:=by simp[fromBE]
theorem fromBE_lt(l:Bytes):fromBE l<256^l.length:=by
 have key:∀ (l:Bytes) (n:Nat),l.foldl (fun n c=>n*256+c.toNat) n<(n+1)*256^l.length:=by
  intro l
  induction l with
  |nil=>intro n;simp
  |cons c l ih=>
   intro n;have h:=ih (n*256+c.toNat);have hc:=c.toNat_lt;simp only[List.foldl_cons,Ya];refine Nat.lt_of_lt_of_le h ?_;rw[Nat.pow_succ,Nat.mul_comm (256^l.length) 256,<- Nat.mul_assoc];exact Nat.mul_le_mul_right _ (by omega)
 have:=key l 0;rw[Nat.zero_add,Nat.one_mul] at this;exact this
def takeN:Bytes->Except Int (Nat×Bytes)
 |[]=>.error 2
 |k::r=>if 8<k.toNat\/(0<k.toNat/\r.head? = some 0) then .error 3 else if r.length<k.toNat then .error 2 else .ok (fromBE (r.take k.toNat),r.drop k.toNat)
def takeT(b:Bytes)(most:Int):Except Int (Bytes×Bytes):=
 match takeN b with
 |.error z=>.error z
 |.ok (n,r)=>if(max most 0).toNat<n then .error 5 else if r.length<n then .error 2 else .ok (r.take n,r.drop n)
def unzig(u:Nat):Int:=if u % 2=1 then -(u / 2:Nat)-1 else(u / 2:Nat)
theorem takeN_shorter{b r:Bytes}{n:Nat}(h:takeN b=.ok (n,r)):r.length+1<=b.length:=by
 unfold takeN at h
 split at h
 ·cases h
 ·split at h
  ·cases h
  ·split at h
   ·cases h
   ·simp only[Except.ok.injEq,Prod.mk.injEq] at h;obtain⟨_,rfl⟩:=h;simp
theorem takeT_shorter{b s r:Bytes}{most:Int}(h:takeT b most=.ok (s,r)):s.length+r.length+1<=b.length/\s.length<=(max most 0).toNat:=by
 unfold takeT at h
 split at h
 ·cases h
 ·rename_i n q hq;have:=takeN_shorter hq
  split at h
  ·cases h
  ·split at h
   ·cases h
   ·simp only[Except.ok.injEq,Prod.mk.injEq] at h;obtain⟨rfl,rfl⟩:=h;simp only[List.length_take,List.length_drop];omega
theorem takeN_err{b:Bytes}{z:Int}(h:takeN b=.error z):z=2\/z=3:=by
 unfold takeN at h
 split at h
 ·cases h;simp
 ·split at h
  ·cases h;simp
  ·split at h
   ·cases h;simp
   ·cases h
theorem takeT_err{b:Bytes}{z most:Int}(h:takeT b most=.error z):z=2\/z=3\/z=5:=by
 unfold takeT at h
 split at h
 ·rename_i q;cases h
  rcases takeN_err q with h|h<;>simp[h]
 ·split at h
  ·cases h;simp
  ·split at h
   ·cases h;simp
   ·cases h
open Go.RowKit
theorem RV.bytes{c:Cx}{v:Value}{b:Bytes}{t:Tk}(h:RV c v (.sl 1 (b.map bC) t)):∃ A cap,v=.slice A b.length cap/\b.length<=cap/\cap<=maxLen/\Sl byteR 1 c.w.heap.size c.w A b:=by
 obtain⟨A,cap,xs,rfl,h1,h2,hf,_,hc⟩:=h.flat;simp only[Yo] at h1 ⊢;refine⟨A,cap,rfl,h1,h2,fun hn=>?_⟩;obtain⟨bl,o,rfl,hcc⟩:=hc (by simpa using hn)
 obtain⟨x0,hx0⟩:∃ x,b[0]? = some x:=⟨_,Vb (List.length_pos_iff.2 hn)⟩
 have key:∀ (j:Nat) a,b[j]? = some a->c.im bl (o+j)/\c.w.cell? ⟨bl,o+j,none⟩=some (byteV a):=fun j a hj=>by
  obtain⟨_,u,g1,g2⟩:=hf.rv j (bC a) 0 _ (by rw[Vg,hj];rfl) rfl;rw[Nat.mul_one,Nat.add_zero] at g1;obtain⟨w1,w2⟩:=hcc j u g1;cases g2;exact⟨w1,w2⟩
 refine⟨bl,o,rfl,(key 0 x0 hx0).1.1,fun j a hj=>⟨[byteV a],rfl,rfl,fun i u hu=>?_⟩⟩
 match i,hu with
 |0,hu=>
  simp only[Y1,Option.some.injEq] at hu;subst hu;rw[Nat.mul_one,Nat.add_zero];exact(key j a hj).2
theorem Below.ev{c:Cx}(hc:RelH c)(hh:c.h=[]){w':World}(hb:Below c.w.heap.size c.w w'):RelH ⟨c.ρ,[],w',c.X⟩/\Ev c ⟨c.ρ,[],w',c.X⟩:=by
 have hno:∀ (i:Nat) x,c.h[i]?≠some x:=fun i x h=>by rw[hh] at h;simp at h
 refine⟨⟨fun i j x y b hx=>by simp at hx,fun i x b hx=>by simp at hx,fun i x hx=>by simp at hx,fun b o h=>⟨Nat.lt_of_lt_of_le (hc.xs b o h).1 hb.size,fun i x hx=>by simp at hx⟩⟩,?_⟩;refine⟨hb.os,hb.tape,hb.output,hb.size,rfl,fun b o h=>⟨⟨Nat.lt_of_lt_of_le h.1 hb.size,h.2.1,fun i x hx=>by simp at hx⟩,cB (hb.block b h.1)⟩,fun b hlt _=>⟨hb.block b hlt,?_⟩,by rw[hh];exact Nat.le_refl _,fun i x hx=>absurd hx (hno i x),keep_old hb.block⟩;rintro⟨i,x,hx,_⟩;simp at hx
theorem own_spec{P:Program}{f:FuncId}{args:List AV}{b:Bytes}(hne:0<b.length)(hfn:Callable P f)
  (h:∀ (c:Cx) (vs:Array Value),c.h=[]->RelH c->TRel c vs args->Calls P f vs c.w fun e w'=>∃ v t,e=.returned v/\Own byteR 1 t c.w.heap.size 0 w' v b/\Below c.w.heap.size c.w w'):OSpec P f args 1 (b.map bC):=by
 refine⟨hfn,fun c vs hh hc ht=>(h c vs hh hc ht).mono ?_⟩;rintro e w' ⟨v,t,rfl,⟨xs,⟨hxl,how⟩,hxs⟩,hb⟩;obtain⟨g1,g2⟩:=Below.ev hc hh hb;rw[cs_bytes] at hxs;subst hxs;have hfl:∀ c':Cx,Flat c' 1 (b.map bC) (b.map byteV):=fun c'=>bytes_flat (c:=c') b
 rcases how with⟨rfl,hx0⟩|⟨g,cap,cur,rfl,hg,hcell,hn,hm,hcs,htake⟩
 ·have hb0:b=[]:=by simpa using hx0
  subst hb0
  -- a token without a block
  obtain⟨q1,q2⟩:=Cx.grow g1;obtain⟨r1,r2⟩:=Cx.unborn q1 0 1 (by simp);refine⟨_,_,_,_,rfl,r1,(g2.trans q2).trans r2,?_,0,rfl,by simp⟩;refine .sl 1 [] _ none 0 0 0 0 (fun _ _=>undef) rfl (Nat.le_refl _) (Nat.zero_le _) (fun h=>absurd rfl h) (fun j e h=>by simp at h) (fun j e i a h=>by simp at h) (fun j e i a h=>by simp at h) ⟨⟨_,by simp;rfl,rfl⟩,fun k' n' e=>?_⟩;simp at e;obtain⟨rfl,rfl⟩:=e;exact⟨rfl,Nat.le_refl _,fun _=>.inl rfl⟩
 ·have hgl:g<w'.heap.size:=(Array.getElem?_eq_some_iff.1 hcell).1
  have hno:∀ (i:Nat) x,c.h[i]?≠some x:=fun i x h=>by rw[hh] at h;simp at h
  have hone:∀ (i:Nat) x,[ABlk.tok 1 b.length][i]? = some x->i=0/\x=.tok 1 b.length:=fun i x h=>by
   cases i with
   |zero=>simp at h;exact⟨rfl,h.symm⟩
   |succ i=>simp at h
  have hrel:RelH ⟨fun _=>some g,[.tok 1 b.length],w',c.X⟩:=by
   refine⟨fun i j x y bb hx hy _ _ _ _=>?_,fun i x bb hx hbb=>?_,fun i x hx=>?_,fun bb o hX=>⟨Nat.lt_of_lt_of_le (hc.xs bb o hX).1 hb.size,fun i x hx _ hbb=>?_⟩⟩
   ·rw[(hone i x hx).1,(hone j y hy).1]
   ·cases hbb;exact hgl
   ·obtain⟨_,rfl⟩:=hone i x hx;intro bb hbb;cases hbb;exact⟨cur,t,hcell⟩
   ·cases hbb;have:=(hc.xs _ o hX).1;omega
  have hev:Ev c ⟨fun _=>some g,[.tok 1 b.length],w',c.X⟩:=by
   refine⟨hb.os,hb.tape,hb.output,hb.size,rfl,fun bb o hX=>⟨⟨Nat.lt_of_lt_of_le hX.1 hb.size,hX.2.1,fun i x hx hbb=>?_⟩,cB (hb.block bb hX.1)⟩,fun bb hlt _=>⟨hb.block bb hlt,?_⟩,by rw[hh];simp,fun i x hx=>absurd hx (hno i x),keep_old hb.block⟩
   ·cases hbb;have:=hX.1;omega
   ·rintro⟨i,x,hx,_,hbb⟩;cases hbb;omega
  refine⟨_,_,_,_,rfl,hrel,hev,RV.sl_of (t:=.own 0) (hfl _) (by simpa using hn) hm g 0 (fun _=>rfl) (fun q u hq=>?_) ⟨⟨.tok 1 b.length,rfl,rfl⟩,fun k' n' e=>?_⟩ (by simp),0,rfl,by simp⟩
  ·have hql:q<b.length:=by have:=(Va hq).1;simpa using this
   rw[Nat.zero_add];refine⟨⟨hgl,fun hX=>by have:=(hc.xs _ _ hX).1;omega,fun i x hx hbb=>?_⟩,?_⟩
   ·obtain⟨_,rfl⟩:=hone i x hx;show q<b.length*1;omega
   ·rw[cell_of_row w' g q cur t (0,0) hcell];rw[<- htake,List.getElem?_take] at hq
    split at hq
    ·simpa using hq
    ·cases hq
  ·simp at e;obtain⟨rfl,rfl⟩:=e;exact⟨rfl,by simp,fun _=>.inr ⟨g,cur,t,rfl,rfl,hcell,by simpa using hcs,by simpa using hne⟩⟩
abbrev szV(F T:Int):Value:=.agg #[.int .i64 F,.int .i64 T]
def sizeOk(F T:Int):Bool:=decide (1<=F/\F<=5/\0<=T/\T<=F)
theorem sizeOk_iff{F T:Int}:sizeOk F T=true↔1<=F/\F<=5/\0<=T/\T<=F:=by simp[sizeOk]
theorem sizeOk_no{F T:Int}(h:¬(1<=F/\F<=5/\0<=T/\T<=F)):sizeOk F T=false:=by simp[sizeOk];omega
theorem sizeOk_yes{F T:Int}(h:1<=F/\F<=5/\0<=T/\T<=F):sizeOk F T=true:=sizeOk_iff.2 h
theorem right_any(F T:Int)(w:World) :
  Calls prog 25 #[szV F T] w fun e w'=>e=.returned (.bool (sizeOk F T))/\Below w.heap.size w w':=by
 by_cases h1:1<=F
 ·by_cases h2:F<=5
  ·by_cases h3:0<=T
   ·by_cases h4:T<=F
    ·go_enter func25,ntmps25
     go_wp2
     go_ret
     exact⟨ret_bool (by rw[sizeOk_yes ⟨h1,h2,h3,h4⟩]),bN _ _⟩
    ·go_enter func25,ntmps25
     go_wp2
     go_ret
     exact⟨ret_bool (by rw[sizeOk_no (by omega)]),bN _ _⟩
   ·go_enter func25,ntmps25
    go_wp2
    go_ret
    exact⟨ret_bool (by rw[sizeOk_no (by omega)]),bN _ _⟩
  ·go_enter func25,ntmps25
   go_wp2
   go_ret
   exact⟨ret_bool (by rw[sizeOk_no (by omega)]),bN _ _⟩
 ·go_enter func25,ntmps25
  go_wp2
  go_ret
  exact⟨ret_bool (by rw[sizeOk_no (by omega)]),bN _ _⟩
/-! ### the numbers: by floats -/
theorem pair_any(F T:Int)(w:World) :
  Calls prog 70 #[szV F T] w fun e w'=>e=.returned (.complex .f64 (floatOfInt .f64 F) (floatOfInt .f64 T))/\Below w.heap.size w w':=by
 go_enter func70,ntmps70
 go_wp2
 go_ret
 exact⟨rfl,bN _ _⟩
def ofVal(F T:Int)(a b:Nat):Option Int:=
 (floatBits .mul .f64 (floatOfInt .f64 F) a).bind fun x=>(floatBits .mul .f64 (floatOfInt .f64 T) b).bind fun y=>(floatBits .add .f64 x y).bind fun s=>floatToIntVal .f64 s .i64
theorem of_any(F T:Int)(a b:Nat)(n:Int)(h:ofVal F T a b=some n)(h0:0<=n)(h1:n<=100000)(w:World) :
  Calls prog 30 #[szV F T,.complex .f64 a b] w fun e w'=>e=.returned (.int .i64 (n+1))/\Below w.heap.size w w':=by
 simp only[ofVal,Option.bind_eq_some_iff] at h;obtain⟨x,hx,y,hy,s,hs,h⟩:=h;have q1:=fun(w:World)=>run_float_arith (P:=prog) w .mul 180 .f64 _ _ _ hx;have q2:=fun(w:World)=>run_float_arith (P:=prog) w .mul 180 .f64 _ _ _ hy;have q3:=fun(w:World)=>run_float_arith (P:=prog) w .add 180 .f64 _ _ _ hs;have q4:=fun(w:World)=>run_convert_float_int (P:=prog) w 180 3 .f64 .i64 s n (by rw[underlying180];rfl) underlying3 h;clear hx hy hs h
 go_enter func30,ntmps30
 go_wp2_with (go_at_call 70;refine(pair_any _ _ _).mono ?_;rintro e w' ⟨rfl,hb⟩)
 go_ret
 exact⟨rfl,below_then (bN _ _) hb⟩
def ofTable(a b:Nat)(p q:Int):Bool:=(List.range 6).all fun f=>(List.range 6).all fun t=>ofVal (f:Int) (t:Int) a b==some (p*f+q*t)
theorem of_table{a b:Nat}{p q:Int}(h:ofTable a b p q=true){F T:Int}(hs:sizeOk F T=true):ofVal F T a b=some (p*F+q*T):=by
 obtain⟨h1,h2,h3,h4⟩:=sizeOk_iff.1 hs;obtain⟨f,rfl⟩:=Int.eq_ofNat_of_zero_le (show 0<=F by omega);obtain⟨t,rfl⟩:=Int.eq_ofNat_of_zero_le h3;simp only[ofTable,List.all_eq_true,List.mem_range,beq_iff_eq] at h;exact h f (by omega) t (by omega)
theorem tabN:ofTable 4613937818241073152 4611686018427387904 3 2=true:=by decide +kernel
theorem zN_any(F T:Int)(hs:sizeOk F T=true)(w:World) :
  Calls prog 26 #[szV F T] w fun e w'=>e=.returned (.int .i64 (3*F+2*T+1))/\Below w.heap.size w w':=by
 have hb:=sizeOk_iff.1 hs;have h:=of_table tabN hs
 go_enter func26,ntmps26
 go_wp2_with (go_at_call 30;refine(of_any _ _ _ _ _ h (by omega) (by omega) _).mono ?_;rintro e w' ⟨rfl,hb⟩)
 go_ret
 exact⟨ret_int (by omega),below_then (bN _ _) hb⟩
theorem tabFast:ofTable 4613937818241073152 4607182418800017408 3 1=true:=by decide +kernel
theorem zFast_any(F T:Int)(hs:sizeOk F T=true)(w:World) :
  Calls prog 7 #[szV F T] w fun e w'=>e=.returned (.int .i64 (3*F+T+1))/\Below w.heap.size w w':=by
 have hb:=sizeOk_iff.1 hs;have h:=of_table tabFast hs
 go_enter func7,ntmps7
 go_wp2_with (go_at_call 30;refine(of_any _ _ _ _ _ h (by omega) (by omega) _).mono ?_;rintro e w' ⟨rfl,hb⟩)
 go_ret
 exact⟨ret_int (by omega),below_then (bN _ _) hb⟩
theorem tabProof:ofTable 4611686018427387904 4607182418800017408 2 1=true:=by decide +kernel
theorem zProof_any(F T:Int)(hs:sizeOk F T=true)(w:World) :
  Calls prog 105 #[szV F T] w fun e w'=>e=.returned (.int .i64 (2*F+T+1))/\Below w.heap.size w w':=by
 have hb:=sizeOk_iff.1 hs;have h:=of_table tabProof hs
 go_enter func105,ntmps105
 go_wp2_with (go_at_call 30;refine(of_any _ _ _ _ _ h (by omega) (by omega) _).mono ?_;rintro e w' ⟨rfl,hb⟩)
 go_ret
 exact⟨ret_int (by omega),below_then (bN _ _) hb⟩
theorem tabMost:ofTable 4611686018427387904 4611686018427387904 2 2=true:=by decide +kernel
theorem zMost_any(F T:Int)(hs:sizeOk F T=true)(w:World) :
  Calls prog 165 #[szV F T] w fun e w'=>e=.returned (.int .i64 (2*F+2*T+1))/\Below w.heap.size w w':=by
 have hb:=sizeOk_iff.1 hs;have h:=of_table tabMost hs
 go_enter func165,ntmps165
 go_wp2_with (go_at_call 30;refine(of_any _ _ _ _ _ h (by omega) (by omega) _).mono ?_;rintro e w' ⟨rfl,hb⟩)
 go_ret
 exact⟨ret_int (by omega),below_then (bN _ _) hb⟩
theorem tabVouch:ofTable 4607182418800017408 4607182418800017408 1 1=true:=by decide +kernel
theorem zVouch_any(F T:Int)(hs:sizeOk F T=true)(w:World) :
  Calls prog 168 #[szV F T] w fun e w'=>e=.returned (.int .i64 (F+T+1))/\Below w.heap.size w w':=by
 have hb:=sizeOk_iff.1 hs;have h:=of_table tabVouch hs
 go_enter func168,ntmps168
 go_wp2_with (go_at_call 30;refine(of_any _ _ _ _ _ h (by omega) (by omega) _).mono ?_;rintro e w' ⟨rfl,hb⟩)
 go_ret
 exact⟨ret_int (by omega),below_then (bN _ _) hb⟩
theorem tabWeak:ofTable 4607182418800017408 0 1 0=true:=by decide +kernel
theorem zWeak_any(F T:Int)(hs:sizeOk F T=true)(w:World) :
  Calls prog 147 #[szV F T] w fun e w'=>e=.returned (.int .i64 (F+1))/\Below w.heap.size w w':=by
 have hb:=sizeOk_iff.1 hs;have h:=of_table tabWeak hs
 go_enter func147,ntmps147
 go_wp2_with (go_at_call 30;refine(of_any _ _ _ _ _ h (by omega) (by omega) _).mono ?_;rintro e w' ⟨rfl,hb⟩)
 go_ret
 exact⟨ret_int (by omega),below_then (bN _ _) hb⟩
theorem szv_of{c:Cx}{vs:Array Value}{F T:Int}(h:TRel c vs [.agg [.int .i64 F,.int .i64 T]]):vs=#[szV F T]:=by
 obtain⟨h1,h2⟩:=h;obtain⟨vs⟩:=vs
 match vs,h1 with
 |[u],_=>
  have hu:=h2 0 u _ rfl rfl
  cases hu with
  |agg us _ hs hc hr=>
   obtain⟨us⟩:=us
   match us,hs with
   |[x,y],_=>
    have hx:=hr 0 x _ rfl rfl;have hy:=hr 1 y _ rfl rfl;cases hx;cases hy;rfl
theorem sz_spec{P:Program}{f:FuncId}{F T:Int}{r:AV}{v:Value}(hfn:Callable P f)(hv:∀ c,RV c v r)(h:∀ w,Calls P f #[szV F T] w fun e w'=>e=.returned v/\Below w.heap.size w w'):ASpec P f [.agg [.int .i64 F,.int .i64 T]] r:=by
 refine⟨hfn,fun c vs hh hc ht=>?_⟩;obtain rfl:=szv_of ht;refine(h c.w).mono ?_;rintro e w' ⟨rfl,hb⟩;obtain⟨g1,g2⟩:=Below.ev hc hh hb;exact⟨_,_,_,_,rfl,g1,g2,hv _,.one (.refl _)⟩
theorem ks_N{F T:Int}(h:sizeOk F T=true):ASpec prog 26 [.agg [.int .i64 F,.int .i64 T]] (.int .i64 (3*F+2*T+1)):=sz_spec ⟨_,func26,by kernel_rfl,rfl⟩ (fun _=>.int _ _) fun w=>zN_any F T h w
theorem ks_Fast{F T:Int}(h:sizeOk F T=true):ASpec prog 7 [.agg [.int .i64 F,.int .i64 T]] (.int .i64 (3*F+T+1)):=sz_spec ⟨_,func7,by kernel_rfl,rfl⟩ (fun _=>.int _ _) fun w=>by simpa using zFast_any F T h w
theorem ks_Proof{F T:Int}(h:sizeOk F T=true):ASpec prog 105 [.agg [.int .i64 F,.int .i64 T]] (.int .i64 (2*F+T+1)):=sz_spec ⟨_,func105,by kernel_rfl,rfl⟩ (fun _=>.int _ _) fun w=>by simpa using zProof_any F T h w
theorem ks_Most{F T:Int}(h:sizeOk F T=true):ASpec prog 165 [.agg [.int .i64 F,.int .i64 T]] (.int .i64 (2*F+2*T+1)):=sz_spec ⟨_,func165,by kernel_rfl,rfl⟩ (fun _=>.int _ _) fun w=>zMost_any F T h w
theorem ks_Vouch{F T:Int}(h:sizeOk F T=true):ASpec prog 168 [.agg [.int .i64 F,.int .i64 T]] (.int .i64 (F+T+1)):=sz_spec ⟨_,func168,by kernel_rfl,rfl⟩ (fun _=>.int _ _) fun w=>by simpa using zVouch_any F T h w
theorem ks_Weak{F T:Int}(h:sizeOk F T=true):ASpec prog 147 [.agg [.int .i64 F,.int .i64 T]] (.int .i64 (F+1)):=sz_spec ⟨_,func147,by kernel_rfl,rfl⟩ (fun _=>.int _ _) fun w=>by simpa using zWeak_any F T h w
attribute [go_sem] Nat.reduceAdd Nat.reduceSub Nat.reduceLeDiff Nat.reduceLT Nat.reduceMul Nat.reduceBEq Int.reduceLE Int.reduceLT Int.reduceEq Int.reduceToNat
attribute [go_sem ↓] aT aF bT bF gT gF gU gV gW gdone_ft gdone_tf gdone_tt
attribute [go_sem] eq_self Int.natCast_zero Int.toNat_zero alt alts gslot akeqs keyCs aslice3 aappendM asrcM aclear AV.mid amapEntry amapUpdate aentryStore alookup arange acap acopy mapK keyTy AV.cell bytesOf_map beq_true beq_false drun adops adone places mN freeOk rdOf AV.id wrOf aops aone afin ares aresL ares1 aresOk aresOk1 aop needs ext aev aconst aput aupd aload astore afieldAddr aindexAddr apart acmp aarith ashift aeqs abin isc aconv alen aslice afield aindex abuild aelems plains asrc aappend gval xtab_3 xtab_4 xtab_5 xtab_9 xtab_23 xtab_24 xtab_28 xtab_30 xtab_31 xtab_35 xtab_38 xtab_41 xtab_43 xtab_44 xtab_46 xtab_48 xtab_50 xtab_56 xtab_57 xtab_59 xtab_63 xtab_65 xtab_66 xtab_68 xtab_69 xtab_71 xtab_72 xtab_74 xtab_75 xtab_76 xtab_78 xtab_84 xtab_86 xtab_89 xtab_118 xtab_121 xtab_201 xtab_203 xtab_239 xtab_245 xtab_267 xtab_284 xtab_298 xtab_300 xtab_338 xtab_385 xtab_408 xtab_455 ok1 lay cellsAs TI.agg AV.cells AV.whole AV.plain AV.bare exitTo gotoIn findLabel Option.getD_some Option.getD_none Option.bind_some Option.bind_none Option.map_some Option.map_none List.set_cons_zero List.set_cons_succ List.length_cons List.length_nil List.getElem?_cons_zero List.getElem?_cons_succ List.getElem?_toArray List.getD_cons_zero List.getD_cons_succ List.drop_zero List.drop_succ_cons List.take_succ_cons List.take_zero List.take_nil List.drop_nil List.map_cons List.map_nil List.length_map List.cons_append List.nil_append List.append_nil List.all_cons List.all_nil List.replicate_succ List.replicate_zero true_and and_true if_true if_false Nat.zero_add Nat.add_zero beq_self_eq_true Bool.and_self Bool.and_true Bool.true_and Bool.and_false Bool.false_and Bool.not_true Bool.not_false Bool.not_eq_true' Bool.not_eq_false' decide_eq_true_eq decide_eq_false_iff_not decide_true decide_false not_false_eq_true not_true_eq_false Nat.lt_irrefl forall_const false_implies implies_true Nat.le_refl Option.some.injEq Int.toNat_natCast List.getD_eq_getElem?_getD Option.isSome_none Option.isSome_some Bool.false_eq_true ntmps10 ntmps100 ntmps101 ntmps102 ntmps103 ntmps104 ntmps105 ntmps106 ntmps11 ntmps112 ntmps123 ntmps125 ntmps126 ntmps127 ntmps128 ntmps129 ntmps130 ntmps131 ntmps134 ntmps136 ntmps137 ntmps138 ntmps141 ntmps144 ntmps145 ntmps147 ntmps15 ntmps152 ntmps159 ntmps160 ntmps161 ntmps162 ntmps165 ntmps168 ntmps169 ntmps17 ntmps172 ntmps173 ntmps175 ntmps176 ntmps179 ntmps18 ntmps180 ntmps183 ntmps184 ntmps185 ntmps186 ntmps187 ntmps188 ntmps189 ntmps190 ntmps191 ntmps200 ntmps202 ntmps203 ntmps204 ntmps205 ntmps206 ntmps207 ntmps208 ntmps209 ntmps215 ntmps219 ntmps220 ntmps221 ntmps222 ntmps223 ntmps224 ntmps231 ntmps232 ntmps233 ntmps234 ntmps235 ntmps236 ntmps237 ntmps240 ntmps241 ntmps242 ntmps243 ntmps244 ntmps245 ntmps246 ntmps247 ntmps248 ntmps249 ntmps25 ntmps250 ntmps251 ntmps252 ntmps253 ntmps256 ntmps257 ntmps26 ntmps261 ntmps264 ntmps265 ntmps266 ntmps267 ntmps27 ntmps274 ntmps275 ntmps277 ntmps279 ntmps28 ntmps280 ntmps281 ntmps282 ntmps283 ntmps284 ntmps285 ntmps286 ntmps287 ntmps288 ntmps29 ntmps290 ntmps291 ntmps292 ntmps293 ntmps294 ntmps298 ntmps299 ntmps3 ntmps30 ntmps300 ntmps304 ntmps305 ntmps308 ntmps309 ntmps31 ntmps310 ntmps311 ntmps312 ntmps313 ntmps314 ntmps317 ntmps318 ntmps319 ntmps32 ntmps322 ntmps323 ntmps324 ntmps327 ntmps33 ntmps349 ntmps35 ntmps351 ntmps352 ntmps353 ntmps358 ntmps359 ntmps36 ntmps360 ntmps361 ntmps362 ntmps363 ntmps364 ntmps378 ntmps381 ntmps382 ntmps383 ntmps385 ntmps386 ntmps387 ntmps39 ntmps397 ntmps408 ntmps409 ntmps419 ntmps42 ntmps47 ntmps49 ntmps50 ntmps51 ntmps52 ntmps6 ntmps62 ntmps64 ntmps69 ntmps7 ntmps70 ntmps71 ntmps72 ntmps73 ntmps76 ntmps77 ntmps78 ntmps8 ntmps85 ntmps87 ntmps9 ntmps90 ntmps91 ntmps99 results10 results100 results101 results102 results103 results104 results106 results11 results123 results125 results126 results127 results128 results129 results130 results131 results134 results136 results137 results138 results141 results144 results145 results15 results152 results159 results160 results161 results162 results169 results17 results172 results173 results179 results18 results180 results183 results184 results185 results186 results187 results188 results189 results191 results200 results202 results203 results204 results205 results206 results207 results208 results209 results215 results219 results220 results221 results222 results223 results224 results231 results232 results233 results234 results235 results240 results241 results242 results243 results244 results245 results246 results247 results248 results249 results250 results251 results252 results253 results256 results257 results261 results264 results265 results266 results267 results27 results274 results279 results28 results280 results281 results282 results283 results284 results285 results286 results287 results288 results29 results290 results291 results292 results293 results294 results298 results299 results3 results300 results304 results308 results309 results31 results310 results311 results312 results313 results314 results317 results318 results319 results32 results322 results323 results324 results327 results33 results349 results35 results351 results352 results353 results358 results359 results36 results360 results361 results362 results363 results364 results378 results381 results382 results383 results39 results397 results42 results47 results49 results50 results51 results52 results6 results69 results71 results72 results73 results76 results77 results78 results8 results85 results87 results9 results90 results91 results99
theorem Vl:∀ {l:List AV},LeL l l
  |[]=>.nil
  |_::_=>.cons (.refl _) Vl
theorem Vr{a:AV}:LeR a a:=.one (.refl _)
theorem Rg{f:FuncId}{c0:Cx}{R:AV->List ABlk->Prop}{fn:Func}(hf:prog.funcs[f]? = some fn){k:List Item}{s:AState}(h:drun prog f c0 R xtabM fn.results.toList 60 k s):Run prog f c0 R k s:=Run.god tab_ok follows_ok hf 60 h
theorem Og{f:FuncId}{c0:Cx}{R:AV->List ABlk->Prop}{fn:Func}(hf:prog.funcs[f]? = some fn){ops:Array Oper}{n:Nat}{rest:List Oper}{k:List Item}{s:AState}(h:aops prog f c0 R xtabM ops k (drun prog f c0 R xtabM fn.results.toList 60 k) n rest s):Ops prog f c0 R ops n rest k s:=Ops.god tab_ok follows_ok hf 60 h
theorem Dg{f:FuncId}{c0:Cx}{R:AV->List ABlk->Prop}{fn:Func}(hf:prog.funcs[f]? = some fn){ops:Array Oper}{n sl:Nat}{rest:List Oper}{fp:List (List Nat×List Nat)}{k:List Item}{s:AState}(hd:ops.toList.drop n=rest)(h:adops prog f c0 R xtabM ops k (drun prog f c0 R xtabM fn.results.toList 60 k) n rest sl fp s):DOps prog f c0 R ops n sl rest fp k s:=DOps.god tab_ok follows_ok hf 60 hd h
theorem Sg{f:FuncId}{R:AV->List ABlk->Prop}{fn:Func}{c:Code}{args:List AV}{h:List ABlk}(hf:prog.funcs[f]? = some fn)(hb:fn.body=some c)(H:∀ c0:Cx,c0.h=h->drun prog f c0 R xtabM fn.results.toList 60 [.code c] ⟨args++List.replicate (fn.ntmps-args.length) .junk,h⟩):ACall prog f args h R:=ACall.of hf hb fun c0 h=>Rg hf (H c0 h)
theorem Sh{f:FuncId}{fn:Func}{c:Code}{args:List AV}{res:AV}(hf:prog.funcs[f]? = some fn)(hk:(fn.name== "runtime.NumGoroutine")=false)(hb:fn.body=some c)(H:∀ c0:Cx,c0.h=[]->drun prog f c0 (fun r _=>LeR r res) xtabM fn.results.toList 60 [.code c] ⟨args++List.replicate (fn.ntmps-args.length) .junk,[]⟩):ASpec prog f args res:=⟨⟨_,hf,hk,by rw[hb];rfl⟩,Sg hf hb H⟩
def Cx.top(w:World):Cx:=⟨fun _=>none,[],w,fun _ _=>False⟩
theorem Cx.top_rel(w:World):RelH (Cx.top w):=
 ⟨fun i j x y b h=>by simp[Cx.top] at h,fun i x b h=>by simp[Cx.top] at h,fun i x h=>by simp[Cx.top] at h,fun b o h=>h.elim⟩
theorem Cx.top_im{w:World}{b o:Nat}(h:b<w.heap.size):(Cx.top w).im b o:=⟨h,fun h=>h,fun i x h=>by simp[Cx.top] at h⟩
theorem TRel.nil{c:Cx}:TRel c #[] []:=⟨rfl,fun i v x h=>by simp at h⟩
theorem TRel.cons{c:Cx}{v:Value}{x:AV}{vs:List Value}{xs:List AV}(h:RV c v x)(t:TRel c vs.toArray xs):TRel c (v::vs).toArray (x::xs):=by
 refine⟨by have:=t.1;simpa using this,fun i u y hu hy=>?_⟩
 cases i with
 |zero=>simp at hu hy;subst hu hy;exact h
 |succ i=>exact t.2 i u y (by simpa using hu) (by simpa using hy)
theorem law_top{P:Program}{f:FuncId}{args:List AV}{v:Bool}(h:ASpec P f args (.bool v))(w:World)(vs:Array Value)(ht:TRel (Cx.top w) vs args):Calls P f vs w fun e w'=>e=.returned (.bool v)/\Below w.heap.size w w':=by
 refine(h.run (Cx.top w) vs rfl (Cx.top_rel w) ht).mono ?_;rintro e w' ⟨u,ρ',r,h',rfl,g1,g2,g3,hle⟩;have hv:=hle.rv g3;cases hv;refine⟨rfl,g2.os,g2.tape,g2.output,g2.size,fun b hb=>(g2.fr b hb ?_).1⟩;rintro⟨i,x,hx,_⟩;simp[Cx.top] at hx
end Go.Proofs.YtojhjaohaafeaaaGreatDoor
namespace Go.Proofs.YtojhjaohaafeaaaGreatDoor
abbrev Bts:=List UInt8
structure Sz where
 f:Int
 t:Int
deriving DecidableEq
def Sz.right(s:Sz):Bool:=decide (1<=s.f)&&decide (s.f<=5)&&decide (0<=s.t)&&decide (s.t<=s.f)
def Sz.n(s:Sz):Int:=3*s.f+2*s.t+1
def Sz.proof(s:Sz):Int:=2*s.f+s.t+1
def Sz.most(s:Sz):Int:=2*s.f+2*s.t+1
def Sz.vouch(s:Sz):Int:=s.f+s.t+1
structure Acc where
 by_:Int
 view:Int
 value:Bts
deriving DecidableEq
structure Rp where
 by_:Int
 for_:Int
 has:Bool
 view:Int
 value:Bts
 proof:List Acc
deriving DecidableEq
def mayA(a:Acc):Bool:=decide (0<=a.by_)&&decide (0<=a.view)&&decide (a.view<=100000)&&decide ((a.value.length:Int)<=6000)
def rises:Int->List Int->Bool
 |_,[]=>true
 |b,x::l=>decide (b<x)&&rises x l
def rightT(l:List Acc):Bool:=l.all mayA&&rises (-1) (l.map (·.by_))
def rightP(s:Sz)(p:List Acc):Bool:=s.right&&decide ((p.length:Int)=s.proof)&&rightT p&&p.all (fun a=>decide (a.by_<s.n))&&p.all fun a=>decide (a.view=(p.map (·.view)).headD 0/\a.value=(p.map (·.value)).headD [])
def mayR(s:Sz)(r:Rp):Bool:=
 s.right&&decide (0<=r.by_)&&decide (r.by_<s.n)&&decide (1<=r.for_)&&decide (r.for_<=100000) &&
 (if r.has then decide (0<=r.view)&&decide (r.view<r.for_)&&decide ((r.value.length:Int)<=6000) else decide (r.view=0)&&decide (r.value=[])) &&
 (match r.proof with|[]=>true|a::p=>rightP s (a::p)&&decide (a.view<r.for_))
def rightR(s:Sz)(v:Int)(l:List Rp):Bool:=s.right&&decide ((l.length:Int)=s.most)&&l.all (fun r=>mayR s r&&decide (r.for_=v))&&rises (-1) (l.map (·.by_))
def bst:List Rp->Int->Bts->Int×Bts
 |[],b,v=>(b,v)
 |r::l,b,v=>match r.proof with
  |[]=>bst l b v
  |a::_=>if b<a.view then bst l a.view a.value else bst l b v
def tells(c:Int)(r:Rp):Bool:=r.has&&decide (c<r.view)
def cnt(c:Int)(x:Bts)(l:List Rp):Nat:=l.countP fun r=>tells c r&&decide (r.value=x)
def bnd(q c:Int)(l m:List Rp):Option Bts:=(m.find? fun r=>tells c r&&decide (q<=(cnt c r.value l:Int))).map (·.value)
def binds(s:Sz)(l:List Rp):Bts×Bool:=match bnd s.vouch (bst l (-1) []).1 l l with
 |some x=>(x,true)
 |none=>((bst l (-1) []).2,decide (-1<(bst l (-1) []).1))
def vouches(s:Sz)(v:Int)(l:List Rp)(x:Bts):Bool:=rightR s v l&&(!(binds s l).2||decide ((binds s l).1=x))
/-! ### what was chosen -/
open Go.RowKit
def eS(s:Sz):AV:=.agg [.int .i64 s.f,.int .i64 s.t]
theorem sz_of{c:Cx}{vs:Array Value}{s:Sz}(h:TRel c vs [eS s]):vs=#[szV s.f s.t]:=by
 obtain⟨h1,h2⟩:=h;obtain⟨vs⟩:=vs
 match vs,h1 with
 |[u],_=>
  have hu:=h2 0 u _ rfl rfl
  cases hu with
  |agg us _ hs hc hr=>
   obtain⟨us⟩:=us
   match us,hs with
   |[x,y],_=>
    have hx:=hr 0 x _ rfl rfl;have hy:=hr 1 y _ rfl rfl;cases hx;cases hy;rfl
theorem size_spec{P:Program}{f:FuncId}{s:Sz}{r:AV}{v:Value}(hfn:Callable P f)(hv:∀ c,RV c v r)(h:∀ w,Calls P f #[szV s.f s.t] w fun e w'=>e=.returned v/\Below w.heap.size w w'):ASpec P f [eS s] r:=by
 refine⟨hfn,fun c vs hh hc ht=>?_⟩;obtain rfl:=sz_of ht;refine(h c.w).mono ?_;rintro e w' ⟨rfl,hb⟩;obtain⟨g1,g2⟩:=Below.ev hc hh hb;exact⟨_,_,_,_,rfl,g1,g2,hv _,.one (.refl _)⟩
theorem sizeOk_right(s:Sz):sizeOk s.f s.t=s.right:=by
 rw[Bool.eq_iff_iff,sizeOk_iff];simp only[Sz.right,Vi,decide_eq_true_eq];omega
theorem right_spec(s:Sz):ASpec prog 25 [eS s] (.bool s.right):=
 size_spec ⟨_,func25,by kernel_rfl,rfl⟩ (fun _=>.bool _) fun w=>by rw[<- sizeOk_right];exact right_any s.f s.t w
theorem zN_spec{s:Sz}(h:s.right=true):ASpec prog 26 [eS s] (.int .i64 s.n):=
 size_spec ⟨_,func26,by kernel_rfl,rfl⟩ (fun _=>.int _ _) fun w=>zN_any s.f s.t (by rw[sizeOk_right];exact h) w
theorem zProof_spec{s:Sz}(h:s.right=true):ASpec prog 105 [eS s] (.int .i64 s.proof):=
 size_spec ⟨_,func105,by kernel_rfl,rfl⟩ (fun _=>.int _ _) fun w=>zProof_any s.f s.t (by rw[sizeOk_right];exact h) w
theorem zMost_spec{s:Sz}(h:s.right=true):ASpec prog 165 [eS s] (.int .i64 s.most):=
 size_spec ⟨_,func165,by kernel_rfl,rfl⟩ (fun _=>.int _ _) fun w=>zMost_any s.f s.t (by rw[sizeOk_right];exact h) w
def aC(a:Acc):List AV:=[.int .i64 a.by_,.int .i64 a.view,.str a.value]
def eA(a:Acc):AV:=.agg (aC a)
def vA(l:List Acc):AV:=.sl 3 (l.map aC) .no
def rpC(r:Rp):List AV:=[.int .i64 r.by_,.int .i64 r.for_,.bool r.has,.int .i64 r.view,.str r.value,vA r.proof]
def encRp(r:Rp):AV:=.agg (rpC r)
def rpsA(l:List Rp):AV:=.sl 6 (l.map rpC) .no
theorem drop_at{α:Type}{l:List α}{k:Nat}{x:α}(hx:l[k]? = some x):l.drop k=x::l.drop (k+1):=by
 obtain⟨hk,rfl⟩:=Va hx;exact List.drop_eq_getElem_cons hk
theorem may18_spec(a:Acc):ASpec prog 52 [eA a] (.bool (mayA a)):=by
 obtain⟨b,v,x⟩:=a;refine⟨⟨_,func52,by kernel_rfl,rfl⟩,ACall.of func52 rfl fun c0 hc0=>?_⟩;simp only[Nat.reduceSub,go_sem];refine Rg func52 ?_;simp (config := { maxSteps := 2000000 }) +contextual only[go_sem,eA,aC,mayA,↓bT,↓bF,↓gT,↓gW,Nat.reduceAdd,Nat.reduceLeDiff];(repeat'(first|(intro _)|(apply And.intro)))
 all_goals try(first|rfl|(repeat' first|exact .refl _|exact .nil|exact .nil _|exact .tok _ _ _|apply LeR.tup|apply LeL.cons|apply Le1L.cons|apply Le.agg|apply Le.one|apply LeR.one))
def ofA:List Acc->AV
 |[]=>.tup [.int .i64 (-1),.str [],.bool false]
 |a::_=>.tup [.int .i64 a.view,.str a.value,.bool true]
theorem of_spec(p:List Acc):ASpec prog 51 [vA p] (ofA p):=by
 match p with
 |[]=>
  refine Sh func51 (by kernel_rfl) rfl fun c0 hc0=>?_;simp only[go_sem,vA,Int.reduceNeg];simp only[ofA];exact Vr
 |a::p=>
  have hl:¬((p.length+1:Nat):Int)=0:=by omega
  refine Sh func51 (by kernel_rfl) rfl fun c0 hc0=>?_;simp only[go_sem,vA,hl,aC,reduceCtorEq];(and_intros<;>try first|rfl|omega);simp only[ofA];exact Vr
theorem drop_eq{α:Type}{l m:List α}{k:Nat}{x y:α}(hx:l[k]? = some x)(hy:m[k]? = some y):l.drop k=m.drop k↔x=y/\l.drop (k+1)=m.drop (k+1):=by
 rw[drop_at hx,drop_at hy,List.cons.injEq]
theorem acc_eq(x y:Acc):x=y↔(x.by_=y.by_/\x.view=y.view/\x.value=y.value):=by
 cases x;cases y;simp
theorem dec_eq{p q:Prop}[Decidable p][Decidable q](h:p↔q):decide p=decide q:=by
 by_cases hp:p
 ·simp[hp,h.1 hp]
 ·have hq:¬q:=fun hq=>hp (h.2 hq);simp[hp,hq]
theorem equalA_spec(l m:List Acc)(hl:l.length<=1000000000000):ASpec prog 240 [vA l,vA m] (.bool (decide (l=m))):=by
 by_cases hlm:l.length=m.length
 ·have hlm':(l.length:Int)=m.length:=by omega
  refine Sh func240 (by kernel_rfl) rfl fun c0 hc0=>?_;simp only[go_sem,vA,hlm'];refine Run.loopV (α:=Nat) (fun k=>k<=m.length/\decide (l=m)=decide (l.drop k=m.drop k)) (fun k=>[(13,.int .i64 k)]) 0 (fun _=>[]) (fun k=>m.length-k) 0 ⟨Nat.zero_le _,rfl⟩ ?_ ?_
  ·simp only[go_sem,writes,junks,puts,hputs,List.filterMap_cons,List.filterMap_nil];(refine Weak.of (by simp[hc0]) ?_ ?_<;>repeat' first|exact .refl _|exact .junk _|rfl|apply Le.agg|constructor)
  ·rintro k ⟨hI,hrd⟩ ih;simp only[writes,junks,puts,hputs,List.filterMap_cons,List.filterMap_nil,Y6,Y7,Yk,Y5,Y3,Yd] at ih ⊢
   by_cases hk:k<m.length
   ·obtain⟨x,hx⟩:∃ x,l[k]? = some x:=⟨_,Vb (by omega)⟩
    obtain⟨y,hy⟩:∃ y,m[k]? = some y:=⟨_,Vb hk⟩
    have hkk:(k:Int)<m.length:=by omega
    rw[dec_eq (drop_eq hx hy)] at hrd;have hd:=acc_eq x y
    by_cases h1:x.by_=y.by_
    ·by_cases h2:x.view=y.view
     ·by_cases h3:x.value=y.value
      ·have e:x=y:=hd.2 ⟨h1,h2,h3⟩;refine Rg func240 ?_;simp only[go_sem,hx,hy,hkk,h1,h2,h3,aC,Vg];(and_intros<;>try first|rfl|omega);refine ih (k+1) _ ⟨by omega,?_⟩ (by omega) ?_
       ·rw[hrd];simp[e]
       ·simp only[Int.natCast_add,Int.natCast_one];(refine Weak.of (by simp[hc0]) ?_ ?_<;>repeat' first|exact .refl _|exact .junk _|rfl|apply Le.agg|constructor)
      ·have e:¬x=y:=fun e=>h3 (hd.1 e).2.2;refine Rg func240 ?_;simp only[go_sem,hx,hy,hkk,h1,h2,h3,aC,Vg];(and_intros<;>try first|rfl|omega);rw[hrd,decide_eq_false (fun h=>e h.1)];exact Vr
     ·have e:¬x=y:=fun e=>h2 (hd.1 e).2.1;refine Rg func240 ?_;simp only[go_sem,hx,hy,hkk,h1,h2,aC,Vg];(and_intros<;>try first|rfl|omega);rw[hrd,decide_eq_false (fun h=>e h.1)];exact Vr
    ·have e:¬x=y:=fun e=>h1 (hd.1 e).1;refine Rg func240 ?_;simp only[go_sem,hx,hy,hkk,h1,aC,Vg];(and_intros<;>try first|rfl|omega);rw[hrd,decide_eq_false (fun h=>e h.1)];exact Vr
   ·obtain rfl:k=m.length:=by omega
    have hkk:¬(m.length:Int)<m.length:=by omega
    refine Rg func240 ?_;simp only[go_sem,hkk];rw[hrd,decide_eq_true (by rw[List.drop_length,<- hlm,List.drop_length])];exact Vr
 ·have hlm':¬(l.length:Int)=m.length:=by omega
  have e:¬l=m:=fun h=>hlm (by rw[h]);refine Sh func240 (by kernel_rfl) rfl fun c0 hc0=>?_;simp only[go_sem,vA,hlm'];rw[decide_eq_false e];exact Vr
def isV(v:Int)(x:Bts)(a:Acc):Bool:=decide (a.view=v)&&decide (a.value=x)
theorem voters_spec(l:List Acc)(v:Int)(x:Bts)(hl:l.length<=1000000):ASpec prog 106 [.agg [vA l],.int .i64 v,.str x] (vA (l.filter (isV v x))):=by
 refine Sh func106 (by kernel_rfl) rfl fun c0 hc0=>?_;simp only[go_sem,vA];refine Run.weak (Weak.own 7 3 rfl) ?_;simp only[Y6,Y7,Ya,Y9,Y5,Y3,Yp];refine Run.loopV (α:=Nat×List Acc) (fun y=>y.1<=l.length/\y.2.length<=y.1/\l.filter (isV v x)=y.2++(l.drop y.1).filter (isV v x)) (fun y=>[(7,.sl 3 (y.2.map aC) (.own 1)),(13,.int .i64 y.1)]) 2 (fun y=>[(1,.tok 3 y.2.length)]) (fun y=>l.length-y.1) (0,[]) ⟨Nat.zero_le _,Nat.le_refl _,rfl⟩ ?_ ?_
 ·simp only[go_sem,writes,junks,puts,hputs,List.filterMap_cons,List.filterMap_nil];(refine Weak.of (by simp[hc0]) ?_ ?_<;>repeat' first|exact .refl _|exact .junk _|rfl|apply Le.agg|constructor)
 ·rintro⟨k,m⟩ ⟨hI,hml,hrd⟩ ih;simp only[writes,junks,puts,hputs,List.filterMap_cons,List.filterMap_nil,Y6,Y7,Yg,Yk,Y5,Y3,Yd] at hI hml hrd ih ⊢
  by_cases hk:k<l.length
  ·obtain⟨a,ha⟩:∃ a,l[k]? = some a:=⟨_,Vb hk⟩
   have hkk:(k:Int)<l.length:=by omega
   rw[drop_at ha,List.filter_cons] at hrd
   by_cases h1:a.view=v
   ·by_cases h2:a.value=x
    ·have e:isV v x a=true:=by simp[isV,h1,h2]
     rw[if_pos e] at hrd;refine Rg func106 ?_;simp only[go_sem,ha,hkk,h1,h2,aC,Vg];(and_intros<;>try omega);refine ih (k+1,m++[a]) _ ⟨by dsimp only;omega,by simp;omega,by rw[hrd];simp⟩ (by dsimp only;omega) ?_;simp only[Int.natCast_add,Int.natCast_one,Ya,Y9,Yf,Ye,Yp,List.map_append,List.length_append,aC,h1,h2];(refine Weak.of (by simp[hc0]) ?_ ?_<;>repeat' first|exact .refl _|exact .junk _|rfl|apply Le.agg|constructor)
    ·have e:¬isV v x a=true:=by simp[isV,h1,h2]
     rw[if_neg e] at hrd;refine Rg func106 ?_;simp only[go_sem,ha,hkk,h1,h2,aC,Vg];(and_intros<;>try omega);refine ih (k+1,m) _ ⟨by dsimp only;omega,by dsimp only;omega,hrd⟩ (by dsimp only;omega) ?_;simp only[Int.natCast_add,Int.natCast_one];(refine Weak.of (by simp[hc0]) ?_ ?_<;>repeat' first|exact .refl _|exact .junk _|rfl|apply Le.agg|constructor)
   ·have e:¬isV v x a=true:=by simp[isV,h1]
    rw[if_neg e] at hrd;refine Rg func106 ?_;simp only[go_sem,ha,hkk,h1,aC,Vg];(and_intros<;>try omega);refine ih (k+1,m) _ ⟨by dsimp only;omega,by dsimp only;omega,hrd⟩ (by dsimp only;omega) ?_;simp only[Int.natCast_add,Int.natCast_one];(refine Weak.of (by simp[hc0]) ?_ ?_<;>repeat' first|exact .refl _|exact .junk _|rfl|apply Le.agg|constructor)
  ·obtain rfl:k=l.length:=by omega
   have hkk:¬(l.length:Int)<l.length:=by omega
   rw[List.drop_length,List.filter_nil,List.append_nil] at hrd;refine Rg func106 ?_;simp only[go_sem,hkk];rw[hrd];(repeat' first|exact .refl _|apply LeR.tup|apply Le.agg|constructor)
abbrev Ck:=Int×Bts
def kE(q:Ck):AV:=.agg [.int .i64 q.1,.str q.2]
def addC(m:List (Ck×Nat))(x:Ck):List (Ck×Nat):=match m.findIdx? (fun p=>p.1==x) with
 |some j=>m.modify j fun p=>(p.1,p.2+1)
 |none=>m++[(x,1)]
def mpC(m:List (Ck×Nat)):List (AV×AV):=m.map fun p=>(kE p.1,.int .i64 p.2)
theorem akeq_kE(x y:Ck):akeq (kE x) (kE y)=some (decide (x=y)):=by
 obtain⟨a,b⟩:=x;obtain⟨c,d⟩:=y;simp only[go_sem,kE,akeq,Prod.mk.injEq];rw[Bool.eq_iff_iff];simp
theorem afind_mpC(x:Ck):∀ (m:List (Ck×Nat)) (i:Nat),afind (kE x) (mpC m) i=some ((m.findIdx? (fun p=>p.1==x)).map (·+i))
 |[],i=>rfl
 |p::m,i=>by
  have ih:=afind_mpC x m (i+1);simp only[mpC,Yf,afind,akeq_kE] at ih ⊢;rw[List.findIdx?_cons]
  by_cases h:x=p.1
  ·subst h;simp
  ·have h':¬(p.1==x)=true:=by simp;exact fun e=>h e.symm
   rw[decide_eq_false h];simp only[h',ih]
   cases m.findIdx? (fun p=>p.1==x) with
   |none=>rfl
   |some j=>simp;omega
def cntC(m:List (Ck×Nat))(x:Ck):Nat:=match m.findIdx? (fun p=>p.1==x) with
 |some j=>(m[j]?.map (·.2)).getD 0
 |none=>0
theorem idxC{m:List (Ck×Nat)}{x:Ck}{j:Nat}(h:m.findIdx? (fun p=>p.1==x)=some j):∃ n,m[j]? = some (x,n)/\j<m.length/\cntC m x=n/\∀ i,i<j->∀ p,m[i]? = some p->p.1≠x:=by
 have h0:=h;rw[List.findIdx?_eq_some_iff_getElem] at h;obtain⟨h1,h2,h3⟩:=h
 have e:m[j]? = some (x,(m[j]).2):=by
  rw[Vb h1];simp only[beq_iff_eq] at h2;rw[<- h2]
 refine⟨(m[j]).2,e,h1,by unfold cntC;rw[h0];simp only[e];rfl,fun i hi p hp=>?_⟩;have:=h3 i hi;obtain⟨hl,rfl⟩:=Va hp
 simpa using this
theorem addC_cases(m:List (Ck×Nat))(x:Ck):(∃ j n,m.findIdx? (fun p=>p.1==x)=some j/\m[j]? = some (x,n)/\addC m x=m.set j (x,n+1))\/(m.findIdx? (fun p=>p.1==x)=none/\addC m x=m++[(x,1)]):=by
 unfold addC
 cases h:m.findIdx? (fun p=>p.1==x) with
 |none=>exact .inr ⟨rfl,rfl⟩
 |some j=>
  obtain⟨n,h1,h2,_⟩:=idxC h;refine .inl ⟨j,n,rfl,h1,?_⟩;apply List.ext_getElem?;intro i;obtain⟨_,he⟩:=Va h1;simp only[List.getElem?_modify,List.getElem?_set]
  by_cases hij:j=i
  ·subst hij;simp[h2,he]
  ·simp[hij]
theorem mpC_set{m:List (Ck×Nat)}{j n:Nat}{x:Ck}(h:m[j]? = some (x,n))(hf:m.findIdx? (fun p=>p.1==x)=some j):pset (mpC m) j (.int .i64 ((n:Int)+1))=mpC (addC m x):=by
 rcases addC_cases m x with⟨j',n',h1,h2,h3⟩|⟨h1,_⟩
 ·rw[hf] at h1;cases h1;rw[h] at h2;cases h2;rw[h3];apply List.ext_getElem?;intro i;rw[getElem?_pset];unfold mpC;rw[Vg,Vg,List.getElem?_set];have hj:=(Va h).1
  by_cases hij:j=i
  ·subst hij;have he:=(Va h).2;simp[hj,he]
  ·simp[hij]
 ·rw[hf] at h1;cases h1
theorem mpC_add{m:List (Ck×Nat)}{x:Ck}(hf:m.findIdx? (fun p=>p.1==x)=none):mpC m++[(kE x,.int .i64 1)]=mpC (addC m x):=by
 rcases addC_cases m x with⟨j',n',h1,h2,h3⟩|⟨h1,h3⟩
 ·rw[hf] at h1;cases h1
 ·rw[h3];simp[mpC]
theorem mpC_bel(m:List (Ck×Nat))(n:Nat):(ABlk.map (mpC m)).bel n=true:=by
 simp[ABlk.bel,mpC,kE,AV.bel,belL]
theorem findIdx_set_ne{m:List (Ck×Nat)}{j n:Nat}{x y:Ck}(hj:∃ k,m[j]? = some (x,k)):(m.set j (x,n)).findIdx? (fun p=>p.1==y)=m.findIdx? (fun p=>p.1==y):=by
 induction m generalizing j with
 |nil=>simp
 |cons p m ih=>
  obtain⟨k,hk⟩:=hj
  cases j with
  |zero=>
   simp only[Y1,Option.some.injEq] at hk;subst hk;simp[List.findIdx?_cons]
  |succ j=>
   simp only[Y7,List.findIdx?_cons];rw[ih ⟨k,by simpa using hk⟩]
theorem cnt_addC(m:List (Ck×Nat))(x y:Ck):cntC (addC m x) y=cntC m y+(if x=y then 1 else 0):=by
 rcases addC_cases m x with⟨j,n,h1,h2,h3⟩|⟨h1,h3⟩
 ·rw[h3];unfold cntC;rw[findIdx_set_ne ⟨n,h2⟩];have hj:=(Va h2).1
  cases h:m.findIdx? (fun p=>p.1==y) with
  |none=>
   by_cases hxy:x=y
   ·subst hxy;rw[h1] at h;cases h
   ·simp[hxy]
  |some i=>
   obtain⟨k,g1,g2,_⟩:=idxC h;simp only;rw[List.getElem?_set]
   by_cases hij:j=i
   ·subst hij;rw[h2] at g1;cases g1;have he:=(Va h2).2;simp[hj,he]
   ·have hxy:¬x=y:=fun e=>by subst e;rw[h1] at h;cases h;exact hij rfl
    simp[hij,hxy]
 ·rw[h3];unfold cntC;rw[List.findIdx?_append]
  cases h:m.findIdx? (fun p=>p.1==y) with
  |some i=>
   obtain⟨k,g1,g2,_⟩:=idxC h
   have hxy:¬x=y:=fun e=>by subst e;rw[h1] at h;cases h
   simp[hxy,List.getElem?_append_left g2]
  |none=>
   by_cases hxy:x=y
   ·subst hxy;simp
   ·simp[hxy]
abbrev Cv:=Int×Bts
def cvA(a:Acc):Cv:=(a.view,a.value)
def overV(b:Option Cv)(v:Int):Bool:=match b with|none=>true|some c=>decide (c.1<v)
def betterV(l:List Acc)(need:Int)(b:Option Cv)(a:Acc):Option Cv:=
 if(decide (1<=need)&&decide (need<=(l.countP (isV a.view a.value):Int))&&overV b a.view)=true then some (cvA a) else b
def bestV(l:List Acc)(need:Int):Option Cv:=l.foldl (betterV l need) none
def bestVA:Option Cv->AV
 |none=>.tup [.int .i64 0,.str [],.bool false]
 |some c=>.tup [.int .i64 c.1,.str c.2,.bool true]
def votesM:List Acc->List (Ck×Nat)->List (Ck×Nat)
 |[],m=>m
 |a::l,m=>votesM l (addC m (cvA a))
theorem votesM_cnt(x:Ck):∀ (l:List Acc) (m:List (Ck×Nat)),cntC (votesM l m) x=cntC m x+l.countP (isV x.1 x.2)
 |[],m=>by simp[votesM]
 |a::l,m=>by
  rw[votesM,votesM_cnt x l,cnt_addC,List.countP_cons]
  by_cases h:cvA a=x
  ·have e:isV x.1 x.2 a=true:=by subst h;simp[isV,cvA]
   rw[if_pos h,if_pos e];omega
  ·have e:¬isV x.1 x.2 a=true:=by
    intro e;simp only[isV,Vi,decide_eq_true_eq] at e;exact h (by simp[cvA,e.1,e.2])
   rw[if_neg h,if_neg e];omega
theorem votesM_snoc(a:Acc):∀ (l:List Acc) (m:List (Ck×Nat)),votesM (l++[a]) m=addC (votesM l m) (cvA a)
 |[],_=>rfl
 |_::l,_=>votesM_snoc a l _
theorem cntC_le{n:Nat}(m:List (Ck×Nat))(x:Ck):(∀ p∈m,p.2<=n)->∀ p∈addC m x,p.2<=n+1:=by
 intro h p hp
 rcases addC_cases m x with⟨j,k,_,h1,h2⟩|⟨_,h2⟩
 ·rw[h2] at hp
  rcases List.mem_or_eq_of_mem_set hp with hp|rfl
  ·have:=h p hp;omega
  ·have:=h _ (Vd h1);simp only at this ⊢;omega
 ·rw[h2] at hp
  rcases List.mem_append.1 hp with hp|hp
  ·have:=h p hp;omega
  ·simp at hp;subst hp;simp
theorem afind_end(x:Ck)(v:AV):∀ (m:List (Ck×Nat)) (i:Nat),m.findIdx? (fun p=>p.1==x)=none->afind (kE x) (mpC m++[(kE x,v)]) i=some (some (i+m.length))
 |[],i,_=>by simp[mpC,afind,akeq_kE]
 |p::m,i,h=>by
  rw[List.findIdx?_cons] at h
  split at h
  ·cases h
  ·rename_i hp;have hp':¬x=p.1:=fun e=>hp (by simp[e]);have ih:=afind_end x v m (i+1) (by simpa using h);simp only[mpC,Yf,Y5,afind,akeq_kE,decide_eq_false hp',Ya] at ih ⊢;rw[ih,show i+1+m.length=i+(m.length+1) by omega]
theorem mpC_len(m:List (Ck×Nat)):(mpC m).length=m.length:=by simp[mpC]
theorem mpC_fin{m:List (Ck×Nat)}{x:Ck}(hf:m.findIdx? (fun p=>p.1==x)=none):pset (mpC m++[(kE x,.int .i64 0)]) m.length (.int .i64 1)=mpC (addC m x):=by
 rw[<- mpC_add hf];apply List.ext_getElem?;intro i;rw[getElem?_pset,List.getElem?_append,List.getElem?_append,mpC_len]
 by_cases h:i<m.length
 ·have:¬i=m.length:=by omega
  have:¬m.length=i:=by omega
  simp[*]
 ·by_cases he:i=m.length
  ·subst he;simp
  ·have:¬m.length=i:=by omega
   have h2:¬i-m.length=0:=by omega
   obtain⟨q,hq⟩:∃ q,i-m.length=q+1:=⟨i-m.length-1,by omega⟩
   simp[h,this,hq]
def bxC:Option Cv->List AV
 |none=>[.int .i64 (-1),.str []]
 |some c=>[.int .i64 c.1,.str c.2]
theorem bxC_bel(b:Option Cv)(n:Nat):(ABlk.box (bxC b)).bel n=true:=by
 cases b<;>simp[ABlk.bel,bxC,AV.bel,belL]
theorem best_spec(l:List Acc)(need:Int)(hl:l.length<=1000000)(hv:∀ a∈l,0<=a.view):ASpec prog 104 [.agg [vA l],.int .i64 need] (bestVA (bestV l need)):=by
 refine Sh func104 (by kernel_rfl) rfl fun c0 hc0=>?_;simp only[go_sem,vA,Int.reduceNeg];refine Run.loopV (α:=Nat×List (Ck×Nat)) (fun x=>x.1<=l.length/\x.2=votesM (l.take x.1) []/\∀ p∈x.2,p.2<=x.1) (fun x=>[(19,.int .i64 x.1)]) 2 (fun x=>[(1,.map (mpC x.2))]) (fun x=>l.length-x.1) (0,[]) ⟨Nat.zero_le _,rfl,by simp⟩ ?_ ?_
 ·simp only[go_sem,writes,junks,puts,hputs,List.filterMap_cons,List.filterMap_nil,mpC];(refine Weak.of (by simp[hc0]) ?_ ?_<;>repeat' first|exact .refl _|exact .junk _|rfl|apply Le.agg|constructor)
 rintro⟨k,m⟩ ⟨hI,hm,hp⟩ ih;simp only[writes,junks,puts,hputs,List.filterMap_cons,List.filterMap_nil,Y6,Y7,Yg,Yk,Y5,Y3,Yd] at hI hm hp ih ⊢
 by_cases hk:k<l.length
 ·obtain⟨a,ha⟩:∃ a,l[k]? = some a:=⟨_,Vb hk⟩
  have hkk:(k:Int)<l.length:=by omega
  have haf:=afind_mpC (cvA a) m 0
  have hm2:addC m (cvA a)=votesM (l.take (k+1)) []:=by rw[List.take_add_one,ha,hm];exact(votesM_snoc a _ _).symm
  have hle:=cntC_le m (cvA a) hp;refine Run.god tab_ok follows_ok func104 9 ?_;simp only[go_sem,ha,hkk,aC,Vg,Int.reduceNeg];(and_intros<;>try omega)
  cases hfi:m.findIdx? (fun p=>p.1==cvA a) with
  |none=>
   rw[hfi] at haf;have hfa:afind (.agg [.int .i64 a.view,.str a.value]) (mpC m) 0=some none:=haf;have hfe:afind (.agg [.int .i64 a.view,.str a.value]) (mpC m++[(.agg [.int .i64 a.view,.str a.value],.int .i64 0)]) 0=some (some m.length):=(afind_end (cvA a) _ m 0 hfi).trans (by rw[Nat.zero_add])
   have hge:(mpC m++[(AV.agg [.int .i64 a.view,.str a.value],AV.int .i64 0)])[m.length]? = some (.agg [.int .i64 a.view,.str a.value],.int .i64 0):=by rw[List.getElem?_append_right (by rw[mpC_len];omega),mpC_len,Nat.sub_self];rfl
   have hpf:pset (mpC m++[(AV.agg [.int .i64 a.view,.str a.value],AV.int .i64 0)]) m.length (.int .i64 1)=mpC (addC m (cvA a)):=mpC_fin hfi
   have hpl:((m.length:Int)<((m.length+1:Nat):Int)):=by omega
   refine Run.soft tab_ok follows_ok func104 60 6 8 1 (.map (mpC m++[(.agg [.int .i64 a.view,.str a.value],.int .i64 0)])) ?_ ?_;exact rfl;simp only[go_sem,hfa,hfe,hge,hpf,hpl,mpC_len,List.length_append,Int.zero_add,↓reduceIte,sadops,sdone,ne_eq,Int.reduceNeg,reduceIte,Nat.reduceEqDiff,reduceCtorEq];try simp only[go_sem,Int.reduceNeg]
   (and_intros<;>try first|rfl|omega);refine ih (k+1,addC m (cvA a)) _ ⟨by dsimp only;omega,hm2,hle⟩ (by dsimp only;omega) ?_;simp only[Int.natCast_add,Int.natCast_one];(refine Weak.of (by simp[hc0]) ?_ ?_<;>repeat' first|exact .refl _|exact .junk _|rfl|apply Le.agg|constructor)
   all_goals first|exact mpC_bel _ _|exact bxC_bel _ _
  |some j=>
   rw[hfi] at haf;have hfa:afind (.agg [.int .i64 a.view,.str a.value]) (mpC m) 0=some (some j):=haf;obtain⟨n,hn,hjl,_⟩:=idxC hfi;have hset:=mpC_set hn hfi
   have hmj:(mpC m)[j]? = some (.agg [.int .i64 a.view,.str a.value],.int .i64 n):=by unfold mpC;rw[Vg,hn];rfl
   have hnl:=hp _ (Vd hn);simp only at hnl
   have hjl':(j:Int)<(m.length:Int):=by omega
   refine Run.soft tab_ok follows_ok func104 60 6 8 1 (.map (mpC m)) ?_ ?_;exact rfl;simp only[go_sem,hfa,hmj,hset,hjl',mpC_len,↓reduceIte,sadops,sdone,ne_eq,Int.reduceNeg,reduceIte,Nat.reduceEqDiff,reduceCtorEq];try simp only[go_sem,Int.reduceNeg]
   (and_intros<;>try first|rfl|omega);refine ih (k+1,addC m (cvA a)) _ ⟨by dsimp only;omega,hm2,hle⟩ (by dsimp only;omega) ?_;simp only[Int.natCast_add,Int.natCast_one];(refine Weak.of (by simp[hc0]) ?_ ?_<;>repeat' first|exact .refl _|exact .junk _|rfl|apply Le.agg|constructor)
   all_goals first|exact mpC_bel _ _|exact bxC_bel _ _
 have hkk:¬(k:Int)<l.length:=by omega
 obtain rfl:k=l.length:=by omega
 rw[List.take_length] at hm
 have hcnt:∀ x:Ck,cntC m x=l.countP (isV x.1 x.2):=fun x=>by rw[hm,votesM_cnt];simp[cntC]
 refine Rg func104 ?_;simp only[go_sem,hkk,Int.reduceNeg];refine Run.loopV (α:=Nat×Option Cv) (fun x=>x.1<=l.length/\bestV l need=(l.drop x.1).foldl (betterV l need) x.2) (fun x=>[(11,.bool x.2.isSome),(38,.int .i64 x.1)]) 3 (fun x=>[(2,.box (bxC x.2))]) (fun x=>l.length-x.1) (0,none) ⟨Nat.zero_le _,rfl⟩ ?_ ?_
 ·simp only[go_sem,writes,junks,puts,hputs,List.filterMap_cons,List.filterMap_nil,bxC];(refine Weak.of (by simp[hc0]) ?_ ?_<;>repeat' first|exact .refl _|exact .junk _|rfl|apply Le.agg|constructor)
  all_goals first|exact mpC_bel _ _|exact bxC_bel _ _
 rintro⟨k,b⟩ ⟨hI2,hb⟩ ih2;simp only[writes,junks,puts,hputs,List.filterMap_cons,List.filterMap_nil,Y6,Y7,Yg,Yk,Y5,Y3,Yd] at hI2 hb ih2 ⊢
 by_cases hk:k<l.length
 ·obtain⟨a,ha⟩:∃ a,l[k]? = some a:=⟨_,Vb hk⟩
  have hkk2:(k:Int)<l.length:=by omega
  rw[drop_at ha,List.foldl_cons] at hb;have hav:=hv a (Vd ha);have haf:=afind_mpC (cvA a) m 0;have hc:=hcnt (cvA a)
  obtain⟨n,hnn⟩:∃ n,n=l.countP (isV a.view a.value):=⟨_,rfl⟩
  have hcn:cntC m (cvA a)=n:=hc.trans hnn.symm
  by_cases h1:1<=need
  case neg=>
   have e:betterV l need b a=b:=by unfold betterV;rw[decide_eq_false h1];simp
   rw[e] at hb;refine Rg func104 ?_;simp only[go_sem,ha,hkk2,h1,aC,Vg,Int.reduceNeg];(and_intros<;>try omega);refine ih2 (k+1,b) _ ⟨by dsimp only;omega,hb⟩ (by dsimp only;omega) ?_;simp only[Int.natCast_add,Int.natCast_one];(refine Weak.of (by simp[hc0]) ?_ ?_<;>repeat' first|exact .refl _|exact .junk _|rfl|apply Le.agg|constructor)
   all_goals first|exact mpC_bel _ _|exact bxC_bel _ _
  case pos=>
  cases hfi:m.findIdx? (fun p=>p.1==cvA a) with
  |none=>
   rw[hfi] at haf;have hfa:afind (.agg [.int .i64 a.view,.str a.value]) (mpC m) 0=some none:=haf
   have hn0:n=0:=by rw[<- hcn];unfold cntC;rw[hfi]
   have h2:¬need<=(n:Int):=by omega
   have h2':¬need<=0:=by omega
   have e:betterV l need b a=b:=by unfold betterV;rw[<- hnn,decide_eq_false h2];simp
   rw[e] at hb;refine Rg func104 ?_;simp only[go_sem,ha,hkk2,h1,h2',hfa,aC,Vg,Int.reduceNeg];(and_intros<;>try omega);refine ih2 (k+1,b) _ ⟨by dsimp only;omega,hb⟩ (by dsimp only;omega) ?_;simp only[Int.natCast_add,Int.natCast_one];(refine Weak.of (by simp[hc0]) ?_ ?_<;>repeat' first|exact .refl _|exact .junk _|rfl|apply Le.agg|constructor)
   all_goals first|exact mpC_bel _ _|exact bxC_bel _ _
  |some j=>
  rw[hfi] at haf;have hfa:afind (.agg [.int .i64 a.view,.str a.value]) (mpC m) 0=some (some j):=haf;obtain⟨n',hn',hjl,hcc,_⟩:=idxC hfi;obtain rfl:n'=n:=hcc.symm.trans hcn
  have hmj:(mpC m)[j]? = some (.agg [.int .i64 a.view,.str a.value],.int .i64 n'):=by unfold mpC;rw[Vg,hn'];rfl
  by_cases h2:need<=(n':Int)
  case neg=>
   have e:betterV l need b a=b:=by unfold betterV;rw[<- hnn,decide_eq_false h2];simp
   rw[e] at hb;refine Rg func104 ?_;simp only[go_sem,ha,hkk2,h1,h2,hfa,hmj,aC,Vg,Int.reduceNeg];(and_intros<;>try omega);refine ih2 (k+1,b) _ ⟨by dsimp only;omega,hb⟩ (by dsimp only;omega) ?_;simp only[Int.natCast_add,Int.natCast_one];(refine Weak.of (by simp[hc0]) ?_ ?_<;>repeat' first|exact .refl _|exact .junk _|rfl|apply Le.agg|constructor)
   all_goals first|exact mpC_bel _ _|exact bxC_bel _ _
  case pos=>
  cases b with
  |none=>
   have h3:(-1:Int)<a.view:=by omega
   have e:betterV l need none a=some (cvA a):=by unfold betterV;rw[<- hnn,decide_eq_true h1,decide_eq_true h2];rfl
   rw[e] at hb;refine Rg func104 ?_;simp only[go_sem,ha,hkk2,h1,h2,h3,hfa,hmj,bxC,aC,Vg,Int.reduceNeg];(and_intros<;>try omega);refine ih2 (k+1,some (cvA a)) _ ⟨by dsimp only;omega,hb⟩ (by dsimp only;omega) ?_;simp only[Int.natCast_add,Int.natCast_one,Option.isSome_some,bxC,cvA];(refine Weak.of (by simp[hc0]) ?_ ?_<;>repeat' first|exact .refl _|exact .junk _|rfl|apply Le.agg|constructor)
   all_goals first|exact mpC_bel _ _|exact bxC_bel _ _
  |some c=>
   by_cases h3:c.1<a.view
   ·have e:betterV l need (some c) a=some (cvA a):=by unfold betterV;rw[<- hnn,decide_eq_true h1,decide_eq_true h2];simp[overV,h3]
    rw[e] at hb;refine Rg func104 ?_;simp only[go_sem,ha,hkk2,h1,h2,h3,hfa,hmj,bxC,aC,Vg,Int.reduceNeg];(and_intros<;>try omega);refine ih2 (k+1,some (cvA a)) _ ⟨by dsimp only;omega,hb⟩ (by dsimp only;omega) ?_;simp only[Int.natCast_add,Int.natCast_one,Option.isSome_some,bxC,cvA];(refine Weak.of (by simp[hc0]) ?_ ?_<;>repeat' first|exact .refl _|exact .junk _|rfl|apply Le.agg|constructor)
    all_goals first|exact mpC_bel _ _|exact bxC_bel _ _
   ·have e:betterV l need (some c) a=some c:=by unfold betterV;rw[<- hnn];simp[overV,h3]
    rw[e] at hb;refine Rg func104 ?_;simp only[go_sem,ha,hkk2,h1,h2,h3,hfa,hmj,bxC,aC,Vg,Int.reduceNeg];(and_intros<;>try omega);refine ih2 (k+1,some c) _ ⟨by dsimp only;omega,hb⟩ (by dsimp only;omega) ?_;simp only[Int.natCast_add,Int.natCast_one,Option.isSome_some,bxC];(refine Weak.of (by simp[hc0]) ?_ ?_<;>repeat' first|exact .refl _|exact .junk _|rfl|apply Le.agg|constructor)
    all_goals first|exact mpC_bel _ _|exact bxC_bel _ _
 ·obtain rfl:k=l.length:=by omega
  rw[List.drop_length,List.foldl_nil] at hb;rw[hb]
  have hkk2:¬(l.length:Int)<l.length:=by omega
  cases b with
  |none=>
   refine Rg func104 ?_;simp only[go_sem,hkk2,bxC,Int.reduceNeg];simp only[bestVA];exact Vr
  |some c=>
   refine Rg func104 ?_;simp only[go_sem,hkk2,bxC,Int.reduceNeg];(and_intros<;>try first|rfl|omega);simp only[bestVA];exact Vr
end Go.Proofs.YtojhjaohaafeaaaGreatDoor
