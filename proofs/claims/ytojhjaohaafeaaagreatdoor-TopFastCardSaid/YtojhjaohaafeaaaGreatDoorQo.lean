/-
  Several texts in one: Ep, Eq, Er, Fa, Fb, Fg, Fc, Nu.
-/
import Derived.Test.YtojhjaohaafeaaaGreatDoorQn
import Derived.Test.YtojhjaohaafeaaaGreatDoorQc
import Derived.Test.YtojhjaohaafeaaaGreatDoorQe
set_option maxRecDepth 20000
set_option maxHeartbeats 8000000
open Go.Proofs.Tryz
namespace Go.Proofs.YtojhjaohaafeaaaGreatDoor
open Go.RowKit
abbrev KRun:=Nat->(Operand->AV)->(Nat->Option ABlk)->Option ARes
inductive KAct where
 |pure (f:KRun)
 |mk (nd:(Operand->AV)->Bool) (f:KRun)
 |call (x:Operand) (az:List Operand)
 |fcall (g:FuncId) (az:List Operand)
 |spec (op:Op)
 |bad
def appNd(v:AV):Bool:=match v with
 |.sl _ _ (.own _)=>false
 |.msl _ _ _ _ _=>false
 |_=>true
def kbnd:Option TI->(TI->KAct)->KAct
 |some ti,f=>f ti
 |none,_=>.bad
def kact(T:TabT)(op:Op):KAct:=match op with
 |.call { callee:=.value (.func g),args,argTypes:=_ }=>.fcall g args.toList
 |.call { callee:=.value x,args,argTypes:=_ }=>.call x args.toList
 |.next x false=>.spec (.next x false)
 |.entry x=>.spec (.entry x)
 |.move x|.assign x=>.pure fun _ ev _=>ok1 (ev x)
 |.pick c x y=>.pure fun _ ev _=>match ev c with|.bool true=>ok1 (ev x)|.bool false=>ok1 (ev y)|_=>none
 |.box _ x=>.mk (fun _=>true) fun slot ev _=>if(ev x).whole then some ⟨True,.ptr slot 0,some (slot,.box (ev x).cells)⟩ else none
 |.alloc e=>kbnd (T e) fun ti=>.mk (fun _=>true) fun slot _ _=>some ⟨True,.ptr slot 0,some (slot,.box ti.zero)⟩
 |.load e x=>kbnd (T e) fun ti=>.pure fun _ ev hg=>kload hg ti (ev x)
 |.store e x v=>kbnd (T e) fun ti=>.pure fun _ ev hg=>kstore hg ti (ev v) (ev x)
 |.fieldAddr e x f=>kbnd (T e) fun ti=>.pure fun _ ev _=>match ti.sort with|.st=>afieldAddr ti f (ev x)|_=>none
 |.indexAddr e x i=>kbnd (T e) fun ti=>.pure fun _ ev _=>aindexAddr T ti (ev x) (ev i)
 |.field e x f=>kbnd (T e) fun ti=>.pure fun _ ev _=>afield T ti f (ev x)
 |.index e x i=>kbnd (T e) fun ti=>.pure fun _ ev _=>aindex T ti (ev x) (ev i)
 |.binOp op e x y _=>kbnd (T e) fun ti=>.pure fun _ ev _=>abin op ti (isc x||isc y) (ev x) (ev y)
 |.unOp .not _ x=>.pure fun _ ev _=>match ev x with|.bool b=>ok1 (.bool !b)|_=>none
 |.unOp .neg _ x=>.pure fun _ ev _=>match ev x with|.int .i64 n=>some ⟨I64 (-n),.int .i64 (-n),none⟩|_=>none
 |.convert s d x=>kbnd (T s) fun si=>kbnd (T d) fun di=>.pure fun _ ev _=>aconv T si di (ev x)
 |.slice e x lo hi none=>kbnd (T e) fun ti=>.pure fun _ ev _=>aslice T ti (lo.map ev) (hi.map ev) none (ev x)
 |.slice e x lo (some hi) (some mx)=>kbnd (T e) fun ti=>.mk (fun _=>true) fun slot ev _=>aslice3 T slot ti (lo.map ev) (ev hi) (ev mx) (ev x)
 |.makeMap e none=>kbnd (T e) fun ti=>.mk (fun _=>true) fun slot _ _=>match ti.sort with|.map=>some ⟨True,.mp slot,some (slot,.map [])⟩|_=>none
 |.mapEntry e m k=>kbnd (T e) fun ti=>.pure fun _ ev hg=>kmapEntry T hg ti (ev m) (ev k)
 |.mapUpdate e m k v|.insert e m k v=>kbnd (T e) fun ti=>.pure fun _ ev hg=>kmapUpdate T hg ti (ev m) (ev k) (ev v)
 |.entryStore _ m s v=>.pure fun _ ev hg=>kentryStore hg (ev m) (ev s) (ev v)
 |.lookup e m k ok=>kbnd (T e) fun ti=>.pure fun _ ev hg=>klookup T hg ti ok (ev m) (ev k)
 |.range e m=>kbnd (T e) fun ti=>.mk (fun _=>true) fun slot ev hg=>krange hg slot ti (ev m)
 |.extract x i=>.pure fun _ ev _=>match ev x with|.tup vs=>(vs[i]?).map fun v=>⟨True,v,none⟩|_=>none
 |.nilCheck x=>.pure fun _ ev _=>match ev x with|.ptr i o=>ok1 (.ptr i o)|.eptr i k j o=>ok1 (.eptr i k j o)|.rptr cs=>ok1 (.rptr cs)|_=>none
 |.makeFunc (.func f) a b=>.pure fun _ ev _=>ok1 (.fn (.func f) (a.toList.map ev) (b.toList.map ev))
 |.makeInterface e x=>kbnd (T e) fun ti=>.pure fun _ ev _=>match ti.sort with|.iface=>none|.other=>none|_=>ok1 (.iface e (ev x))
 |.build e ps=>kbnd (T e) fun ti=>.pure fun _ ev _=>match ti.sort with|.st=>(abuild T ti (ps.toList.map fun q=>(q.1,ev q.2)) ti.zero).map fun q=>⟨q.1,.agg q.2,none⟩|_=>none
 |.call { callee:=.builtin .len,args,argTypes }=>match args.toList,argTypes.toList with|[x],[e]=>kbnd (T e) fun ti=>.pure fun _ ev _=>alen ti (ev x)|_,_=>.bad
 |.buildSlice e n ps=>kbnd (T e) fun ti=>.mk (fun _=>true) fun slot ev _=>match ti.sort,T ti.elem with
    |.sl,some ei=>if(ti.mutb&&n==0)=true then(aelems ei.size (ps.toList.map fun q=>(q.1,ev q.2)) (List.replicate n ei.zero)).map fun q=>⟨n*ei.size<=16777216/\0<ei.size/\q.1,.msl slot ei.size 0 n n,some (slot,.rows ei.size q.2)⟩
     else(aelems ei.size (ps.toList.map fun q=>(q.1,ev q.2)) (List.replicate n ei.zero)).map fun q=>⟨n*ei.size<=16777216/\0<ei.size/\q.1,if plains q.2 then .sl ei.size q.2 (.own slot) else .psl ei.size q.2,some (slot,.tok ei.size n)⟩
    |_,_=>none
 |.call { callee:=.builtin .append,args,argTypes }=>match args.toList,argTypes.toList with|[s,x],[e,f]=>kbnd (T e) fun ti=>kbnd (T f) fun ui=>.mk (fun ev=>appNd (ev s)) fun slot ev hg=>kappendM T slot hg ti ui (ev s) (ev x)|_,_=>.bad
 |.call { callee:=.builtin .min,args,.. }=>.pure fun _ ev _=>match args.toList.map ev with|[.int .i64 a,.int .i64 b]=>ok1 (.int .i64 (min a b))|_=>none
 |.call { callee:=.builtin .max,args,.. }=>.pure fun _ ev _=>match args.toList.map ev with|[.int .i64 a,.int .i64 b]=>ok1 (.int .i64 (max a b))|[.int .i64 a,.int .i64 b,.int .i64 c]=>ok1 (.int .i64 (max (max a b) c))|_=>none
 |.makeSlice e l m=>kbnd (T e) fun ti=>.mk (fun _=>true) fun slot ev _=>match ti.sort,T ti.elem,ev l,ev m with
    |.sl,some ei,.int _ a,.int _ b=>some ⟨0<=a/\a<=b/\b.toNat*ei.size<=16777216/\b.toNat*ei.bytes<=140737488355328/\0<ei.size,.msl slot ei.size 0 a.toNat b.toNat,some (slot,.rows ei.size (List.replicate b.toNat ei.zero))⟩
    |_,_,_,_=>none
 |.call { callee:=.builtin .cap,args,argTypes }=>match args.toList,argTypes.toList with|[x],[e]=>kbnd (T e) fun ti=>.pure fun _ ev _=>acap ti (ev x)|_,_=>.bad
 |.call { callee:=.builtin .clear,args,argTypes }=>match args.toList,argTypes.toList with|[x],[e]=>kbnd (T e) fun ti=>.pure fun _ ev hg=>kclear T hg ti (ev x)|_,_=>.bad
 |.call { callee:=.builtin .copy,args,argTypes }=>match args.toList,argTypes.toList with|[d,s],[e,_]=>kbnd (T e) fun ti=>.pure fun _ ev hg=>kcopy T hg ti (ev d) (ev s)|_,_=>.bad
 |_=>.bad
/-! ### one operation -/
noncomputable def nres(dst:Option Nat)(t:Fr)(h1:HT):Option ARes->Option KS
 |some r=>match r.dec with
  |.isTrue _=>some ⟨kput t dst r.v,kupd h1 r.d⟩
  |.isFalse _=>none
 |none=>none
noncomputable def nput(dst:Option Nat)(t:Fr):Option (AV×HT)->Option KS
 |some (r,h)=>some ⟨kput t dst r,h⟩
 |none=>none
noncomputable def nmk(f:KRun)(dst:Option Nat)(s:KS):Option HT->Option KS
 |some h1=>nres dst s.t h1 (f s.h.n (kev s.t) h1.get)
 |none=>none
noncomputable def ncall(C:KC)(o:Oper)(az:List Operand)(s:KS):AV->Option KS
 |.fn (.func g) fi ca=>nput o.dst s.t (C o g (fi++az.map (kev s.t)++ca) s.h)
 |_=>none
noncomputable def nspec(dst:Option Nat)(s:KS):Option KSp->Option KS
 |some .fin=>some ⟨kput s.t dst (.tup [.bool false]),s.h⟩
 |some (.one i m nn j seen p)=>some ⟨kput s.t dst (.tup [.bool true,p.1,p.2]),s.h.set i (.iter m nn (seen++[j]))⟩
 |some (.last p)=>some ⟨kput s.t dst (.tup [p.1,p.2]),s.h⟩
 |none=>none
noncomputable def nact(C:KC)(sp:Bool)(o:Oper)(s:KS):KAct->Option KS
 |.pure f=>nres o.dst s.t s.h (f s.h.n (kev s.t) s.h.get)
 |.mk nd f=>nmk f o.dst s (kext (nd (kev s.t)) s.h)
 |.call x az=>ncall C o az s (kev s.t x)
 |.fcall g az=>nput o.dst s.t (C o g (az.map (kev s.t)) s.h)
 |.spec op=>match sp with
  |true=>nspec o.dst s (kspec (kev s.t) s.h.get op)
  |false=>none
 |.bad=>none
section
variable {T:TabT} {C:KC} {o:Oper} {s:KS}
theorem kbnd_pure(C:KC)(sp:Bool)(o:Oper)(s:KS)(t:Option TI)(f:TI->KRun):nact C sp o s (kbnd t fun ti=>.pure (f ti))=nres o.dst s.t s.h (t.bind fun ti=>f ti s.h.n (kev s.t) s.h.get):=by cases t<;>rfl
theorem kbnd_mk(C:KC)(sp:Bool)(o:Oper)(s:KS)(t:Option TI)(nd:(Operand->AV)->Bool)(f:TI->KRun):nact C sp o s (kbnd t fun ti=>.mk nd (f ti))=nmk (fun n ev hg=>t.bind fun ti=>f ti n ev hg) o.dst s (kext (nd (kev s.t)) s.h):=by
 cases t with
 |none=>
  show none=_;cases kext (nd (kev s.t)) s.h<;>rfl
 |some ti=>
  show nmk (f ti) o.dst s _=_;cases kext (nd (kev s.t)) s.h<;>rfl
noncomputable def kone0(T:TabT)(dst:Option Nat)(op:Op)(s:KS):Option KS:=nmk (fun n ev hg=>kop T n ev hg op) dst s (kext (kneeds (kev s.t) op) s.h)
theorem kone0_no{dst:Option Nat}{op:Op}(h:∀ n ev hg,kop T n ev hg op=none):kone0 T dst op s=none:=by
 unfold kone0
 cases kext (kneeds (kev s.t) op) s.h with
 |none=>rfl
 |some h1=>
  show nres _ _ _ (kop T _ _ _ op)=none;rw[h];rfl
theorem kone0_eq:kone T C o s=match kcallee (kev s.t) o.op with
 |some (g,args)=>nput o.dst s.t (C o g args s.h)
 |none=>kone0 T o.dst o.op s:=by
 unfold kone kone0
 cases kcallee (kev s.t) o.op with
 |some p => 
  obtain⟨g,args⟩:=p
  show(match C o g args s.h with|some (r,h')=>some (⟨kput s.t o.dst r,h'⟩:KS)|none=>none)=nput o.dst s.t (C o g args s.h)
  cases C o g args s.h<;>rfl
 |none=>
  dsimp only
  cases kext (kneeds (kev s.t) o.op) s.h with
  |none=>rfl
  |some h1=>
   show(match kop T s.h.n (kev s.t) h1.get o.op with|some r=>_|none=>_)=nres o.dst s.t h1 (kop T s.h.n (kev s.t) h1.get o.op)
   cases kop T s.h.n (kev s.t) h1.get o.op<;>rfl
theorem nact_eqG(sp:Bool)(h1:∀ x,o.op≠.next x false)(h2:∀ x,o.op≠.entry x):nact C sp o s (kact T o.op)=kone T C o s:=by
 rw[kone0_eq];obtain⟨dst,op,pos,id,after,guard⟩:=o
 cases op<;>first
  |rfl
  |(unfold kact;dsimp only;rw[kbnd_pure];rfl)
  |(unfold kact;dsimp only;rw[kbnd_mk];rfl)
  |skip
 case alloc e=>
  unfold kact;dsimp only;rw[kbnd_mk];show nmk _ _ _ (kext true s.h)=nmk _ dst s (kext true s.h)
  congr 1
  funext n ev hg
  show(T e).bind _=(T e).map _
  cases T e<;>rfl
 case unOp op e x=>cases op<;>rfl
 case convert a b x=>
  unfold kact;dsimp only;show nact C sp _ s (kbnd (T a) fun si=>kbnd (T b) fun di=>.pure fun _ ev _=>aconv T si di (ev x))=nres dst s.t s.h ((T a).bind fun si=>(T b).bind fun di=>aconv T si di (kev s.t x))
  cases T a with
  |none=>rfl
  |some si=>exact kbnd_pure C sp _ s (T b) fun di _ ev _=>aconv T si di (ev x)
 case makeFunc fn a b=>cases fn<;>rfl
 case makeMap e r=>
  cases r with
  |none=>unfold kact;dsimp only;rw[kbnd_mk];rfl
  |some r=>exact(kone0_no fun _ _ _=>rfl).symm
 case next x b=>cases b with|true=>rfl|false=>exact absurd rfl (h1 x)
 case entry x=>exact absurd rfl (h2 x)
 case slice e x lo hi mx=>
  cases mx with
  |none=>unfold kact;dsimp only;rw[kbnd_pure];rfl
  |some mx=>
   cases hi with
   |none=>exact(kone0_no fun _ _ _=>rfl).symm
   |some hi=>unfold kact;dsimp only;rw[kbnd_mk];rfl
 case call c=>
  obtain⟨callee,args,tys⟩:=c
  cases callee with
  |value x => 
   have key:nact C sp ⟨dst,.call ⟨.value x,args,tys⟩,pos,id,after,guard⟩ s (.call x args.toList)=match kcallee (kev s.t) (.call ⟨.value x,args,tys⟩) with
    |some (g,az)=>nput dst s.t (C ⟨dst,.call ⟨.value x,args,tys⟩,pos,id,after,guard⟩ g az s.h)
    |none=>kone0 T dst (.call ⟨.value x,args,tys⟩) s:=by
    rw[show kone0 T dst (.call ⟨.value x,args,tys⟩) s=none from kone0_no fun _ _ _=>rfl];show ncall C _ args.toList s (kev s.t x)=_;unfold ncall kcallee;dsimp only
    cases kev s.t x with
    |fn f a b=>cases f<;>rfl
    |_=>rfl
   cases x with
   |func g=>
    show nput dst s.t (C _ g (args.toList.map (kev s.t)) s.h)=nput dst s.t (C _ g ([]++args.toList.map (kev s.t)++[]) s.h);rw[List.nil_append,List.append_nil]
   |_=>exact key
  |builtin b => 
   obtain⟨az⟩:=args;obtain⟨ts⟩:=tys
   cases b<;>first
    |rfl
    |exact(kone0_no fun _ _ _=>rfl).symm
    |(rcases az with _|⟨x,_|⟨y,_|⟨z,az⟩⟩⟩<;>rcases ts with _|⟨e,_|⟨f,_|⟨g,ts⟩⟩⟩<;>first
      |rfl
      |exact(kone0_no fun _ _ _=>rfl).symm
      |(unfold kact;dsimp only;rw[kbnd_pure];rfl)
      |skip)
   case builtin.append.cons.cons.nil.cons.cons.nil=>
    unfold kact;dsimp only
    have hn:kneeds (kev s.t) (.call ⟨.builtin .append,⟨[x,y]⟩,⟨[e,f]⟩⟩)=appNd (kev s.t x):=by
     show(match some (kev s.t x) with|some (.sl _ _ (.own _))=>false|some (.msl _ _ _ _ _)=>false|_=>true)=_
     unfold appNd
     cases kev s.t x with
     |sl k l t=>cases t<;>rfl
     |_=>rfl
    show nact C sp _ s (kbnd (T e) fun ti=>kbnd (T f) fun ui=>.mk _ fun slot ev hg=>kappendM T slot hg ti ui (ev x) (ev y))=nmk (fun slot ev hg=>(T e).bind fun ti=>(T f).bind fun ui=>kappendM T slot hg ti ui (ev x) (ev y)) dst s (kext (kneeds (kev s.t) (.call ⟨.builtin .append,⟨[x,y]⟩,⟨[e,f]⟩⟩)) s.h);rw[hn]
    cases T e with
    |none=>exact kbnd_mk C sp ⟨dst,.call ⟨.builtin .append,⟨[x,y]⟩,⟨[e,f]⟩⟩,pos,id,after,guard⟩ s none (fun ev=>appNd (ev x)) fun _=>fun _ _ _=>none
    |some ti=>exact kbnd_mk C sp ⟨dst,.call ⟨.builtin .append,⟨[x,y]⟩,⟨[e,f]⟩⟩,pos,id,after,guard⟩ s (T f) (fun ev=>appNd (ev x)) fun ui slot ev hg=>kappendM T slot hg ti ui (ev x) (ev y)
  |invoke x m=>exact(kone0_no fun _ _ _=>rfl).symm
theorem nact_eq0:nact C false o s (kact T o.op)=kone T C o s:=by
 by_cases h1:∃ x,o.op=.next x false
 ·obtain⟨x,e⟩:=h1;rw[kone0_eq,e];rfl
 ·by_cases h2:∃ x,o.op=.entry x
  ·obtain⟨x,e⟩:=h2;rw[kone0_eq,e];rfl
  ·exact nact_eqG false (fun x e=>h1 ⟨x,e⟩) (fun x e=>h2 ⟨x,e⟩)
theorem nact_eq1:nact C true o s (kact T o.op)=kone1 T C o s:=by
 have hs:∀ (h:kone T C o s=none),nspec o.dst s (kspec (kev s.t) s.h.get o.op)=kone1 T C o s:=fun h=>by
  unfold kone1 nspec;rw[h];rfl
 by_cases h1:∃ x,o.op=.next x false
 ·obtain⟨x,e⟩:=h1;have:=hs (by rw[kone0_eq,e];rfl);rw[e] at this ⊢;exact this
 ·by_cases h2:∃ x,o.op=.entry x
  ·obtain⟨x,e⟩:=h2;have:=hs (by rw[kone0_eq,e];rfl);rw[e] at this ⊢;exact this
  ·rw[nact_eqG true (fun x e=>h1 ⟨x,e⟩) (fun x e=>h2 ⟨x,e⟩)];unfold kone1
   have:kspec (kev s.t) s.h.get o.op=none:=by
    unfold kspec
    split
    ·rename_i x e;exact absurd ⟨x,e⟩ h1
    ·rename_i x e;exact absurd ⟨x,e⟩ h2
    ·rfl
   rw[this]
/-! ### regions in order -/
inductive KG where
 |free
 |bad
 |test (d:Nat) (want:Bool)
def kg(ops:Array Oper):Option (Nat×Bool)->KG
 |none=>.free
 |some (j,want)=>match gslot ops j with
  |none=>.bad
  |some d=>.test d want
noncomputable def nbool(want g:Bool):Bool:=Bool.rec (Bool.rec true false g) g want
theorem nbool_eq(want g:Bool):nbool want g=(g==want):=by cases want<;>cases g<;>rfl
noncomputable def ntest(want:Bool):AV->Option Bool
 |.bool g=>some (nbool want g)
 |.tup []=>some false
 |_=>none
noncomputable def nwant(t:Fr):KG->Option Bool
 |.free=>some true
 |.bad=>none
 |.test d want=>ntest want (Fr.get d t)
theorem nwant_eq(ops:Array Oper)(t:Fr)(g:Option (Nat×Bool)):nwant t (kg ops g)=kwant ops t g:=by
 cases g with
 |none=>rfl
 |some p=>
  obtain⟨j,want⟩:=p;unfold kg kwant;dsimp only
  cases gslot ops j with
  |none=>rfl
  |some d=>
   show ntest want (Fr.get d t)=_;unfold ntest;dsimp only
   split<;>simp_all [nbool_eq]
structure KO where
 g:KG
 o:Oper
 a:KAct
def kco(T:TabT)(ops:Array Oper)(o:Oper):KO:=⟨kg ops o.guard,o,kact T o.op⟩
noncomputable def nthen(ih:KS->Option KS):Option KS->Option KS
 |some s=>ih s
 |none=>none
noncomputable def ngo(C:KC)(sp:Bool)(o:Oper)(a:KAct)(s:KS)(ih:KS->Option KS):Option Bool->Option KS
 |some true=>nthen ih (nact C sp o s a)
 |some false=>ih ⟨kput s.t o.dst (.tup []),s.h⟩
 |none=>none
noncomputable def nko(C:KC)(sp:Bool)(s:KS)(ih:KS->Option KS):KO->Option KS
 |⟨g,o,a⟩=>ngo C sp o a s ih (nwant s.t g)
noncomputable def nops(C:KC)(sp:Bool)(L:List KO):KS->Option KS:=
 List.rec (motive:=fun _=>KS->Option KS) (fun s=>some s) (fun ko _ ih s=>nko C sp s ih ko) L
theorem nops_eq0(T:TabT)(C:KC)(ops:Array Oper):∀ (rest:List Oper) (s:KS),nops C false (rest.map (kco T ops)) s=kops T C ops rest s
 |[],s=>rfl
 |o::rest,s=>by
  show ngo C false o (kact T o.op) s (nops C false (rest.map (kco T ops))) (nwant s.t (kg ops o.guard))=(match kwant ops s.t o.guard with
  |some true=>match kone T C o s with
   |some s'=>kops T C ops rest s'
   |none=>none
  |some false=>kops T C ops rest ⟨kput s.t o.dst (.tup []),s.h⟩
  |none=>none)
  rw[nwant_eq]
  cases kwant ops s.t o.guard with
  |none=>rfl
  |some b=>
   cases b with
   |false=>exact nops_eq0 T C ops rest _
   |true=>
    show nthen _ (nact C false o s (kact T o.op))=_;rw[nact_eq0];dsimp only
    cases kone T C o s with
    |none=>rfl
    |some s'=>exact nops_eq0 T C ops rest s'
theorem nops_eq1(T:TabT)(C:KC)(ops:Array Oper):∀ (rest:List Oper) (s:KS),nops C true (rest.map (kco T ops)) s=kops1 T C ops rest s
 |[],s=>rfl
 |o::rest,s=>by
  show ngo C true o (kact T o.op) s (nops C true (rest.map (kco T ops))) (nwant s.t (kg ops o.guard))=(match kwant ops s.t o.guard with
  |some true=>match kone1 T C o s with
   |some s'=>kops1 T C ops rest s'
   |none=>none
  |some false=>kops1 T C ops rest ⟨kput s.t o.dst (.tup []),s.h⟩
  |none=>none)
  rw[nwant_eq]
  cases kwant ops s.t o.guard with
  |none=>rfl
  |some b=>
   cases b with
   |false=>exact nops_eq1 T C ops rest _
   |true=>
    show nthen _ (nact C true o s (kact T o.op))=_;rw[nact_eq1];dsimp only
    cases kone1 T C o s with
    |none=>rfl
    |some s'=>exact nops_eq1 T C ops rest s'
end
/-! ### footprints -/
abbrev FpE:=Nat×(List Nat×List Nat)
def nadd(j:Nat)(x:List Nat×List Nat)(acc:List FpE):List FpE:=match x.1,x.2 with
 |[],[]=>acc
 |_,_=>(j,x)::acc
def accFrom:Nat->List (List Nat×List Nat)->List FpE->List FpE
 |_,[],acc=>acc
 |j,x::l,acc=>accFrom (j+1) l (nadd j x acc)
theorem accFrom_app:∀ (l:List (List Nat×List Nat)) (j:Nat) (acc:List FpE) (x:List Nat×List Nat),accFrom j (l++[x]) acc=nadd (j+l.length) x (accFrom j l acc)
 |[],j,acc,x=>rfl
 |y::l,j,acc,x=>by
  show accFrom (j+1) (l++[x]) _=nadd _ x (accFrom (j+1) l _);rw[accFrom_app l,List.length_cons,show j+1+l.length=j+(l.length+1) by omega]
theorem nadd_mem{j:Nat}{x:List Nat×List Nat}{acc:List FpE}{a:FpE}:a∈nadd j x acc↔a∈acc\/(a=(j,x)/\x≠([],[])):=by
 obtain⟨x1,x2⟩:=x;unfold nadd;cases x1<;>cases x2<;>simp[or_comm]
theorem accFrom_mem:∀ (l:List (List Nat×List Nat)) (j:Nat) (acc:List FpE) (a:FpE),a∈accFrom j l acc↔a∈acc\/(j<=a.1/\l[a.1-j]? = some a.2/\a.2≠([],[]))
 |[],j,acc,a=>by simp[accFrom]
 |y::l,j,acc,a=>by
  show a∈accFrom (j+1) l _↔_;rw[accFrom_mem l,nadd_mem];obtain⟨i,x⟩:=a;simp only[Prod.mk.injEq]
  constructor
  ·rintro((h|⟨⟨rfl,rfl⟩,h⟩)|⟨h1,h2,h3⟩)
   ·exact .inl h
   ·exact .inr ⟨Nat.le_refl _,by rw[Nat.sub_self];rfl,h⟩
   ·refine .inr ⟨by omega,?_,h3⟩;rw[show i-j=i-(j+1)+1 by omega];exact h2
  ·rintro(h|⟨h1,h2,h3⟩)
   ·exact .inl (.inl h)
   ·by_cases e:i=j
    ·subst e;rw[Nat.sub_self] at h2;cases h2;exact .inl (.inr ⟨⟨rfl,rfl⟩,h3⟩)
    ·refine .inr ⟨by omega,?_,h3⟩;rw[show i-j=i-(j+1)+1 by omega] at h2;exact h2
def fpOk(ms:List Nat)(a b:FpE):Bool:=match Nat.ble (b.1+1) a.1 with
 |true=>(ms.getD a.1 0).testBit b.1||(disj b.2.2 a.2.1&&disj b.2.2 a.2.2&&disj b.2.1 a.2.2)
 |false=>true
def wrs(a:FpE):Bool:=match a.2.2 with
 |[]=>false
 |_=>true
def dynN(ms:List Nat)(acc:List FpE):Bool:=(acc.filter wrs).all fun a=>acc.all fun b=>fpOk ms a b&&fpOk ms b a
theorem disj_nil(xs:List Nat):disj xs []=true:=by unfold disj;simp
theorem fpOk_rd{ms:List Nat}{a b:FpE}(ha:wrs a=false)(hb:wrs b=false):fpOk ms a b=true:=by
 obtain⟨i,r,w⟩:=a;obtain⟨j,r',w'⟩:=b
 cases w with
 |cons _ _=>cases ha
 |nil=>cases w' with
  |cons _ _=>cases hb
  |nil=>
   unfold fpOk
   split
   ·simp[disj_nil];exact .inr rfl
   ·rfl
theorem dynN_iff(ms:List Nat)(acc:List FpE):dynN ms acc=true↔∀ a∈acc,∀ b∈acc,fpOk ms a b=true:=by
 unfold dynN;simp only[List.all_eq_true,List.mem_filter,Vi]
 constructor
 ·intro h a ha b hb
  cases hwa:wrs a with
  |true=>exact(h a ⟨ha,hwa⟩ b hb).1
  |false=>cases hwb:wrs b with
   |true=>exact(h b ⟨hb,hwb⟩ a ha).2
   |false=>exact fpOk_rd hwa hwb
 ·intro h a ha b hb;exact⟨h a ha.1 b hb,h b hb a ha.1⟩
theorem dynN_eq(ms:List Nat)(fp:List (List Nat×List Nat)):dynN ms (accFrom 0 fp [])=dynP ms fp:=by
 have key:dynN ms (accFrom 0 fp [])=true↔dynP ms fp=true:=by
  rw[dynN_iff];unfold dynP;rw[List.all_eq_true]
  constructor
  ·intro h j hj;have hj':=List.mem_range.1 hj;rw[Vb hj'];simp only;rw[List.all_eq_true];intro i hi;have hi':=List.mem_range.1 hi;rw[Vb (by omega:i<fp.length)];simp only
   by_cases e1:fp[j]=([],[])
   ·rw[e1];simp[disj_nil]
   ·by_cases e2:fp[i]=([],[])
    ·rw[e2];simp[disj]
    ·have:=h (j,fp[j]) ((accFrom_mem _ _ _ _).2 (.inr ⟨Nat.zero_le _,by simp[hj'],e1⟩)) (i,fp[i]) ((accFrom_mem _ _ _ _).2 (.inr ⟨Nat.zero_le _,by simp[show i<fp.length by omega],e2⟩));unfold fpOk at this;rw[show Nat.ble ((i,fp[i]).1+1) (j,fp[j]).1=true from Nat.ble_eq_true_of_le hi'] at this;exact this
  ·intro h a ha b hb
   rcases(accFrom_mem _ _ _ _).1 ha with h0|⟨_,h1,h2⟩
   ·cases h0
   rcases(accFrom_mem _ _ _ _).1 hb with h0|⟨_,h3,h4⟩
   ·cases h0
   rw[Nat.sub_zero] at h1 h3;unfold fpOk
   split
   ·rename_i hlt;have hlt':b.1<a.1:=Nat.le_of_ble_eq_true hlt;have:=h a.1 (List.mem_range.2 (Va h1).1);rw[h1] at this;simp only[List.all_eq_true] at this;have:=this b.1 (List.mem_range.2 hlt');rw[h3] at this;exact this
   ·rfl
 cases h1:dynN ms (accFrom 0 fp [])<;>cases h2:dynP ms fp<;>simp_all
/-! ### drawn regions -/
inductive KRd where
 |no
 |id (x:Operand)
 |idmid (x y:Operand)
 |idid (x y:Operand)
def krd:Op->KRd
 |.load _ x=>.id x
 |.store _ x _=>.id x
 |.mapEntry _ m _=>.id m
 |.mapUpdate _ m _ _|.insert _ m _ _=>.id m
 |.entryStore _ m _ _=>.id m
 |.lookup _ m _ _=>.id m
 |.range _ m=>.id m
 |.call { callee:=.builtin .append,args,.. }=>match args.toList with|x::y::_=>.idmid x y|x::_=>.id x|[]=>.no
 |.call { callee:=.builtin .clear,args,.. }=>match args.toList with|x::_=>.id x|[]=>.no
 |.call { callee:=.builtin .copy,args,.. }=>match args.toList with|x::y::_=>.idid x y|_=>.no
 |_=>.no
def nrd(ev:Operand->AV):KRd->List Nat
 |.no=>[]
 |.id x=>(ev x).id
 |.idmid x y=>(ev x).id++(ev y).mid
 |.idid x y=>(ev x).id++(ev y).id
theorem nrd_eq(ev:Operand->AV)(op:Op):nrd ev (krd op)=krdOf ev op:=by
 cases op<;>try rfl
 rename_i c;obtain⟨callee,⟨az⟩,ts⟩:=c
 cases callee<;>try rfl
 rename_i b
 cases b<;>try rfl
 all_goals rcases az with _|⟨x,_|⟨y,az⟩⟩<;>rfl
structure KF where
 sl:Nat
 j:Nat
 acc:List FpE
 s:KS
 f:HT
def KE.toF(d:KE):KF:=⟨d.sl,d.fp.length,accFrom 0 d.fp [],d.s,d.f⟩
theorem KE.toF_app(sl:Nat)(fp:List (List Nat×List Nat))(x:List Nat×List Nat)(s:KS)(f:HT):KE.toF ⟨sl,fp++[x],s,f⟩=⟨sl,fp.length+1,nadd fp.length x (accFrom 0 fp []),s,f⟩:=by
 unfold KE.toF;rw[accFrom_app,Nat.zero_add,List.length_append];rfl
noncomputable def nfok(o:Oper)(may:Bool)(d:KF)(rd:List Nat)(r:ARes):Bool->Option KF
 |true=>some ⟨match may with|true=>d.sl+1|false=>d.sl,d.j+1,nadd d.j (rd,wrOf r.d) d.acc,⟨kput d.s.t o.dst r.v,kupd d.s.h r.d⟩,kupd d.f r.d⟩
 |false=>none
noncomputable def nfres(o:Oper)(may:Bool)(d:KF)(rd:List Nat)(fr:Bool):Option ARes->Option KF
 |some r=>match r.dec with
  |.isTrue _=>nfok o may d rd r fr
  |.isFalse _=>none
 |none=>none
noncomputable def nfmk(o:Oper)(may:Bool)(d:KF)(rd:List Nat)(f:KRun):Bool->Option KF
 |true=>nfres o may d (d.sl::rd) (isFree (d.s.h.get d.sl)) (f d.sl (kev d.s.t) d.s.h.get)
 |false=>nfres o may d rd true (f d.sl (kev d.s.t) d.s.h.get)
noncomputable def nfc2(n:Nat)(o:Oper)(d:KF)(r:AV)(h':HT):Bool->Option KF
 |true=>some ⟨d.sl+1,d.j+1,nadd d.j (List.range n,(chg n d.f.get h'.get).map (·.1)) d.acc,⟨kput d.s.t o.dst r,kupds (chg n d.f.get h'.get) d.s.h⟩,kupds (chg n d.f.get h'.get) d.f⟩
 |false=>none
noncomputable def nfc3(n:Nat)(o:Oper)(d:KF)(r:AV)(h':HT):Bool->Option KF
 |true=>some ⟨d.sl+1,d.j+1,nadd d.j (List.range n,[]) d.acc,⟨kput d.s.t o.dst r,d.s.h⟩,d.f⟩
 |false=>nfc2 n o d r h' (r.bel n&&(Nat.ble n h'.n&&(List.range n).all (fun i=>belB n (h'.get i))))
noncomputable def nfc1(n:Nat)(o:Oper)(d:KF):Option (AV×HT)->Option KF
 |some (r,h')=>nfc3 n o d r h' (r.bel n&&nolog n h'.log)
 |none=>none
noncomputable def nwc2(o:Oper)(d:KF)(r:AV)(h':HT):Bool->Option KF
 |true=>some ⟨d.sl+1,d.j+1,nadd d.j (List.range d.sl,(chg d.sl d.s.h.get h'.get).map (·.1)) d.acc,⟨kput d.s.t o.dst r,kupds (chg d.sl d.s.h.get h'.get) d.s.h⟩,kupds (chg d.sl d.s.h.get h'.get) d.f⟩
 |false=>none
noncomputable def nwc1(o:Oper)(d:KF):Option (AV×HT)->Option KF
 |some (r,h')=>nwc2 o d r h' (r.bel d.sl&&(Nat.ble d.sl h'.n&&(List.range d.sl).all (fun i=>belB d.sl (h'.get i))))
 |none=>none
noncomputable def nwc0(C:KC)(o:Oper)(g:FuncId)(args:List AV)(d:KF):Option HT->Option KF
 |some h0=>nwc1 o d (C o g args h0)
 |none=>none
noncomputable def nwcall(C:KC)(o:Oper)(g:FuncId)(args:List AV)(d:KF):Bool->Option KF
 |true=>nwc0 C o g args d (kpushs ((List.range d.sl).map fun i=>(d.s.h.get i).getD .free) HT.nil)
 |false=>none
noncomputable def nfcall(C:KC)(n:Nat)(o:Oper)(g:FuncId)(args:List AV)(d:KF):Bool->Option KF
 |true=>nfc1 n o d (C o g args d.f.clear)
 |false=>nwcall C o g args d (belL d.sl args&&(Nat.ble n d.sl&&(List.range d.sl).all (fun i=>belB d.sl (d.s.h.get i))))
noncomputable def nfown(o:Oper)(d:KF)(v:AV)(x:ABlk):Bool->Option KF
 |true=>some ⟨d.sl+1,d.j+1,nadd d.j ([d.sl],[d.sl]) d.acc,⟨kput d.s.t o.dst v,d.s.h.set d.sl x⟩,d.f⟩
 |false=>none
noncomputable def nfrow(n:Nat)(o:Oper)(d:KF):Option (Nat×List (List AV))->Option KF
 |some (k,l)=>nfown o d (.sl k l (.own d.sl)) (.tok k l.length) (isFree (d.s.h.get d.sl)&&Nat.ble n d.sl)
 |none=>none
noncomputable def nfput(n:Nat)(o:Oper)(d:KF)(r:AV)(h1:HT):Bool->Option KF
 |true=>some ⟨d.sl+1,d.j+1,d.acc,⟨kput d.s.t o.dst r,d.s.h⟩,d.f⟩
 |false=>nfrow n o d (isOwnRow r h1.get)
noncomputable def nfgot(n:Nat)(o:Oper)(d:KF):Option (AV×HT)->Option KF
 |some (r,h1)=>nfput n o d r h1 (r.bel 0)
 |none=>none
noncomputable def nfm(C:KC)(n:Nat)(o:Oper)(g:FuncId)(args:List AV)(d:KF):Option (Nat×List (List AV))->Option KF
 |some (k,l)=>nfown o d (.msu d.sl k l.length) (.rows k l) (isFree (d.s.h.get d.sl)&&Nat.ble n d.sl)
 |none=>nfgot n o d (C o g args HT.nil)
noncomputable def nflent(C:KC)(n:Nat)(o:Oper)(g:FuncId)(args:List AV)(d:KF):Option (Nat×AV×Bool)->Option KF
 |some (i,res,true)=>some ⟨d.sl+1,d.j+1,nadd d.j ([i],[]) d.acc,⟨kput d.s.t o.dst res,d.s.h⟩,d.f⟩
 |some (i,res,false)=>some ⟨d.sl+1,d.j+1,nadd d.j ([i],[i]) d.acc,⟨kput d.s.t o.dst res,d.s.h.set i .dead⟩,d.f.set i .dead⟩
 |none=>nfcall C n o g args d (belL n args&&(List.range n).all (fun i=>belB n (d.f.get i)))
noncomputable def nfany(M:KMT)(C:KC)(n:Nat)(o:Oper)(g:FuncId)(args:List AV)(d:KF):Bool->Option KF
 |true=>nfm C n o g (args.map strip) d (M.m o g (args.map strip))
 |false=>nflent C n o g args d (M.l o g args d.s.h.get)
noncomputable def necall(M:KMT)(C:KC)(n:Nat)(o:Oper)(g:FuncId)(args:List AV)(d:KF):Option KF:=nfany M C n o g args d (belL 0 (args.map strip))
noncomputable def nfval(M:KMT)(C:KC)(n:Nat)(o:Oper)(az:List Operand)(d:KF):AV->Option KF
 |.fn (.func g) fi ca=>necall M C n o g (fi++az.map (kev d.s.t)++ca) d
 |_=>none
noncomputable def nfact(M:KMT)(C:KC)(n:Nat)(o:Oper)(may:Bool)(rd:KRd)(d:KF):KAct->Option KF
 |.pure f=>nfres o may d (nrd (kev d.s.t) rd) true (f d.sl (kev d.s.t) d.s.h.get)
 |.mk nd f=>nfmk o may d (nrd (kev d.s.t) rd) f (nd (kev d.s.t))
 |.call x az=>nfval M C n o az d (kev d.s.t x)
 |.fcall g az=>necall M C n o g (az.map (kev d.s.t)) d
 |.spec _=>none
 |.bad=>none
section
variable {M:KMT} {T:TabT} {C:KC} {n:Nat} {o:Oper}
theorem nwcall_eq(g:FuncId)(args:List AV)(d:KE):nwcall C o g args d.toF (belL d.sl args&&(Nat.ble n d.sl&&(List.range d.sl).all (fun i=>belB d.sl (d.s.h.get i))))=(kwcall C n o g args d).map KE.toF:=by
 unfold kwcall
 cases belL d.sl args&&(Nat.ble n d.sl&&(List.range d.sl).all (fun i=>belB d.sl (d.s.h.get i))) with
 |false=>rfl
 |true=>
  show nwc0 C o g args d.toF (kpushs ((List.range d.sl).map fun i=>(d.s.h.get i).getD .free) HT.nil)=_;dsimp only
  cases kpushs ((List.range d.sl).map fun i=>(d.s.h.get i).getD .free) HT.nil with
  |none=>rfl
  |some h0=>
   show nwc1 o d.toF (C o g args h0)=_;dsimp only
   cases C o g args h0 with
   |none=>rfl
   |some p=>
    obtain⟨r,h'⟩:=p;show nwc2 o d.toF r h' (r.bel d.sl&&(Nat.ble d.sl h'.n&&(List.range d.sl).all (fun i=>belB d.sl (h'.get i))))=_;dsimp only
    cases r.bel d.sl&&(Nat.ble d.sl h'.n&&(List.range d.sl).all (fun i=>belB d.sl (h'.get i))) with
    |false=>rfl
    |true=>exact congrArg some (KE.toF_app _ _ _ _ _).symm
theorem nfcall_eq(g:FuncId)(args:List AV)(d:KE):nfcall C n o g args d.toF (belL n args&&(List.range n).all (fun i=>belB n (d.f.get i)))=(kfcall C n o g args d).map KE.toF:=by
 unfold kfcall
 cases belL n args&&(List.range n).all (fun i=>belB n (d.f.get i)) with
 |false=>exact nwcall_eq g args d
 |true=>
  show nfc1 n o d.toF (C o g args d.f.clear)=_
  cases C o g args d.f.clear with
  |none=>rfl
  |some p=>
   obtain⟨r,h'⟩:=p;show nfc3 n o d.toF r h' (r.bel n&&nolog n h'.log)=_;dsimp only
   cases r.bel n&&nolog n h'.log with
   |true=>exact congrArg some (KE.toF_app _ _ _ _ _).symm
   |false=>
   show nfc2 n o d.toF r h' (r.bel n&&(Nat.ble n h'.n&&(List.range n).all (fun i=>belB n (h'.get i))))=_;dsimp only
   cases r.bel n&&(Nat.ble n h'.n&&(List.range n).all (fun i=>belB n (h'.get i))) with
   |false=>rfl
   |true=>exact congrArg some (KE.toF_app _ _ _ _ _).symm
theorem necall_eq(g:FuncId)(args:List AV)(d:KE):necall M C n o g args d.toF=(kecall M C n o g args d).map KE.toF:=by
 unfold kecall necall
 cases belL 0 (args.map strip) with
 |false=>
  show nflent C n o g args d.toF (M.l o g args d.s.h.get)=_;dsimp only
  cases M.l o g args d.s.h.get with
  |none=>exact nfcall_eq g args d
  |some q=>
   obtain⟨i,res,b⟩:=q;cases b<;>exact congrArg some (KE.toF_app _ _ _ _ _).symm
 |true=>
  show nfm C n o g _ d.toF (M.m o g (args.map strip))=_;dsimp only
  cases M.m o g (args.map strip) with
  |some p=>
   obtain⟨k,l⟩:=p;show nfown o d.toF _ _ (isFree (d.s.h.get d.sl)&&Nat.ble n d.sl)=_;dsimp only
   cases isFree (d.s.h.get d.sl)&&Nat.ble n d.sl with
   |false=>rfl
   |true=>exact congrArg some (KE.toF_app _ _ _ _ _).symm
  |none=>
   show nfgot n o d.toF (C o g (args.map strip) HT.nil)=_;dsimp only
   cases C o g (args.map strip) HT.nil with
   |none=>rfl
   |some p=>
    obtain⟨r,h1⟩:=p;show nfput n o d.toF r h1 (r.bel 0)=_;dsimp only
    cases r.bel 0 with
    |true=>
     show some _=some (KE.toF _);rw[KE.toF_app];rfl
    |false=>
     show nfrow n o d.toF (isOwnRow r h1.get)=_;dsimp only
     cases isOwnRow r h1.get with
     |none=>rfl
     |some q=>
      obtain⟨k,l⟩:=q;show nfown o d.toF _ _ (isFree (d.s.h.get d.sl)&&Nat.ble n d.sl)=_;dsimp only
      cases isFree (d.s.h.get d.sl)&&Nat.ble n d.sl with
      |false=>rfl
      |true=>exact congrArg some (KE.toF_app _ _ _ _ _).symm
theorem nfres_eq(d:KE)(rd:List Nat)(nd:Bool)(x:Option ARes):nfres o (mN o.op) d.toF rd (!nd||isFree (d.s.h.get d.sl)) x=(match x with
  |some r=>match r.dec with
   |.isTrue _=>match !nd||isFree (d.s.h.get d.sl) with
    |true=>some (⟨if mN o.op then d.sl+1 else d.sl,d.fp++[(rd,wrOf r.d)],⟨kput d.s.t o.dst r.v,kupd d.s.h r.d⟩,kupd d.f r.d⟩:KE)
    |false=>none
   |.isFalse _=>none
  |none=>none).map KE.toF:=by
 cases x with
 |none=>rfl
 |some r=>
  show(match r.dec with|.isTrue _=>nfok o (mN o.op) d.toF rd r (!nd||isFree (d.s.h.get d.sl))|.isFalse _=>none)=_
  dsimp only
  cases r.dec with
  |isFalse _=>rfl
  |isTrue _=>
   dsimp only
   cases !nd||isFree (d.s.h.get d.sl) with
   |false=>rfl
   |true=>
    show some _=some (KE.toF _);rw[KE.toF_app];cases mN o.op<;>rfl
def KAct.run:KAct->KRun
 |.pure f=>f
 |.mk _ f=>f
 |_=>fun _ _ _=>none
def KAct.ndOk(ev:Operand->AV)(op:Op):KAct->Prop
 |.pure _=>kneeds ev op=false
 |.mk nd _=>nd ev=kneeds ev op
 |.call _ _=>∃ x az ts,op=.call ⟨.value x,az,ts⟩
 |.fcall _ _=>∃ x az ts,op=.call ⟨.value x,az,ts⟩
 |_=>True
theorem kbnd_run(slot:Nat)(ev:Operand->AV)(hg:Nat->Option ABlk)(t:Option TI)(f:TI->KAct):(kbnd t f).run slot ev hg=t.bind fun ti=>(f ti).run slot ev hg:=by cases t<;>rfl
theorem kbnd_nd(ev:Operand->AV)(op:Op)(t:Option TI)(f:TI->KAct)(h:∀ ti,(f ti).ndOk ev op):(kbnd t f).ndOk ev op:=by
 cases t with
 |none=>trivial
 |some ti=>exact h ti
theorem kact_run(slot:Nat)(ev:Operand->AV)(hg:Nat->Option ABlk){op:Op}(h:∀ x az ts,op≠.call ⟨.value x,az,ts⟩):(kact T op).run slot ev hg=kop T slot ev hg op:=by
 cases op<;>first
  |rfl
  |(unfold kact;dsimp only;rw[kbnd_run];rfl)
  |skip
 case alloc e=>
  unfold kact;dsimp only;rw[kbnd_run]
  show(T e).bind _=(T e).map _
  cases T e<;>rfl
 case unOp op e x=>cases op<;>rfl
 case convert a b x=>
  unfold kact;dsimp only;rw[kbnd_run]
  show(T a).bind _=(T a).bind _
  congr 1
  funext ti
  rw[kbnd_run];rfl
 case makeFunc fn a b=>cases fn<;>rfl
 case makeMap e r=>cases r<;>first|rfl|(unfold kact;dsimp only;rw[kbnd_run];rfl)
 case next x b=>cases b<;>rfl
 case slice e x lo hi mx=>cases mx<;>cases hi<;>first|rfl|(unfold kact;dsimp only;rw[kbnd_run];rfl)
 case call c=>
  obtain⟨callee,⟨az⟩,⟨ts⟩⟩:=c
  cases callee with
  |value x=>exact absurd rfl (h x _ _)
  |builtin b=>
   cases b<;>first
    |rfl
    |(rcases az with _|⟨x,_|⟨y,_|⟨z,az⟩⟩⟩<;>rcases ts with _|⟨e,_|⟨f,_|⟨g,ts⟩⟩⟩<;>first
      |rfl
      |(unfold kact;dsimp only;rw[kbnd_run];rfl)
      |skip)
   unfold kact;dsimp only;rw[kbnd_run]
   show(T e).bind _=(T e).bind _
   congr 1
   funext ti
   rw[kbnd_run];rfl
  |invoke x m=>rfl
theorem kact_nd(ev:Operand->AV){op:Op}:(kact T op).ndOk ev op:=by
 cases op<;>first
  |rfl
  |trivial
  |(unfold kact;dsimp only;exact kbnd_nd _ _ _ _ fun _=>rfl)
  |skip
 case unOp op e x=>cases op<;>first|rfl|trivial
 case convert a b x=>unfold kact;dsimp only;exact kbnd_nd _ _ _ _ fun _=>kbnd_nd _ _ _ _ fun _=>rfl
 case makeFunc fn a b=>cases fn<;>first|rfl|trivial
 case makeMap e r=>cases r<;>first|trivial|(unfold kact;dsimp only;exact kbnd_nd _ _ _ _ fun _=>rfl)
 case next x b=>cases b<;>trivial
 case slice e x lo hi mx=>cases mx<;>cases hi<;>first|trivial|(unfold kact;dsimp only;exact kbnd_nd _ _ _ _ fun _=>rfl)
 case call c=>
  obtain⟨callee,⟨az⟩,⟨ts⟩⟩:=c
  cases callee with
  |value x=>cases x<;>exact⟨_,_,_,rfl⟩
  |builtin b=>
   cases b<;>first
    |rfl
    |trivial
    |(rcases az with _|⟨x,_|⟨y,_|⟨z,az⟩⟩⟩<;>rcases ts with _|⟨e,_|⟨f,_|⟨g,ts⟩⟩⟩<;>first
      |rfl
      |trivial
      |(unfold kact;dsimp only;exact kbnd_nd _ _ _ _ fun _=>rfl)
      |skip)
   unfold kact;dsimp only;refine kbnd_nd _ _ _ _ fun _=>kbnd_nd _ _ _ _ fun _=>?_;show appNd (ev x)=(match some (ev x) with|some (.sl _ _ (.own _))=>false|some (.msl _ _ _ _ _)=>false|_=>true);unfold appNd
   cases ev x with
   |sl k l t=>cases t<;>rfl
   |_=>rfl
  |invoke x m=>trivial
theorem kact_val(x:Operand)(az:Array Operand)(ts:Array TypeId)(d:KE)(ho:o.op=.call ⟨.value x,az,ts⟩):nfact M C n o (mN o.op) (krd o.op) d.toF (kact T o.op)=nfval M C n o az.toList d.toF (kev d.s.t x):=by
 rw[ho]
 cases x with
 |func g=>
  show necall M C n o g (az.toList.map (kev d.s.t)) d.toF=necall M C n o g ([]++az.toList.map (kev d.s.t)++[]) d.toF;rw[List.nil_append,List.append_nil]
 |_=>rfl
theorem nfact_eq(d:KE):nfact M C n o (mN o.op) (krd o.op) d.toF (kact T o.op)=(keone M T C n o d).map KE.toF:=by
 by_cases hv:∃ x az ts,o.op=.call ⟨.value x,az,ts⟩
 ·obtain⟨x,az,ts,ho⟩:=hv;rw[kact_val x az ts d ho];unfold keone;rw[ho];unfold kcallee nfval;dsimp only
  have hno:(match kop T d.sl (kev d.s.t) d.s.h.get (.call ⟨.value x,az,ts⟩) with
   |some r=>(match r.dec with
    |.isTrue _=>(match !(kneeds (kev d.s.t) (.call ⟨.value x,az,ts⟩))||isFree (d.s.h.get d.sl) with
     |true=>some (⟨if mN (.call ⟨.value x,az,ts⟩) then d.sl+1 else d.sl,d.fp++[(if kneeds (kev d.s.t) (.call ⟨.value x,az,ts⟩) then d.sl::krdOf (kev d.s.t) (.call ⟨.value x,az,ts⟩) else krdOf (kev d.s.t) (.call ⟨.value x,az,ts⟩),wrOf r.d)],⟨kput d.s.t o.dst r.v,kupd d.s.h r.d⟩,kupd d.f r.d⟩:KE)
     |false=>none)
    |.isFalse _=>none)
   |none=>none)=none:=rfl
  cases kev d.s.t x with
  |fn f a b=>cases f with
   |func g=>exact necall_eq g _ d
   |_=>rfl
  |_=>rfl
 ·have hv':∀ x az ts,o.op≠.call ⟨.value x,az,ts⟩:=fun x az ts e=>hv ⟨x,az,ts,e⟩
  have hc:kcallee (kev d.s.t) o.op=none:=by
   unfold kcallee
   split
   ·rename_i x az ts e;exact absurd e (hv' x az ts)
   ·rfl
  have hr:=kact_run (T:=T) d.sl (kev d.s.t) d.s.h.get hv';have hn:=kact_nd (T:=T) (kev d.s.t) (op:=o.op);unfold keone;rw[hc];dsimp only;rw[<- hr];generalize kact T o.op=a at *
  cases a with
  |pure f=>
   have hn':kneeds (kev d.s.t) o.op=false:=hn;rw[hn'];show nfres o (mN o.op) d.toF (nrd (kev d.s.t) (krd o.op)) (!false||isFree (d.s.h.get d.sl)) _=_;rw[nfres_eq,nrd_eq];rfl
  |mk nd f=>
   have hn':nd (kev d.s.t)=kneeds (kev d.s.t) o.op:=hn;show nfmk o (mN o.op) d.toF (nrd (kev d.s.t) (krd o.op)) f (nd (kev d.s.t))=_;rw[hn',nrd_eq]
   cases kneeds (kev d.s.t) o.op with
   |true=>exact nfres_eq d _ true _
   |false=>exact nfres_eq d _ false _
  |spec op=>rfl
  |bad=>rfl
  |fcall g az=>exact absurd hn hv
  |call x az=>exact absurd hn hv
structure KP where
 g:KG
 o:Oper
 a:KAct
 may:Bool
 rd:KRd
def kcp(T:TabT)(ops:Array Oper)(o:Oper):KP:=⟨kg ops o.guard,o,kact T o.op,mN o.op,krd o.op⟩
noncomputable def nfthen(ih:KF->Option KS):Option KF->Option KS
 |some d=>ih d
 |none=>none
noncomputable def nfskip(o:Oper)(d:KF):Bool->KF
 |true=>⟨d.sl+1,d.j+1,d.acc,⟨kput d.s.t o.dst (.tup []),d.s.h⟩,d.f⟩
 |false=>⟨d.sl,d.j+1,d.acc,⟨kput d.s.t o.dst (.tup []),d.s.h⟩,d.f⟩
noncomputable def nfgo(M:KMT)(C:KC)(n:Nat)(o:Oper)(a:KAct)(may:Bool)(rd:KRd)(d:KF)(ih:KF->Option KS):Option Bool->Option KS
 |some true=>nfthen ih (nfact M C n o may rd d a)
 |some false=>ih (nfskip o d may)
 |none=>none
noncomputable def nfko(M:KMT)(C:KC)(n:Nat)(d:KF)(ih:KF->Option KS):KP->Option KS
 |⟨g,o,a,may,rd⟩=>nfgo M C n o a may rd d ih (nwant d.s.t g)
noncomputable def nfend(d:KF):Bool->Option KS
 |true=>some d.s
 |false=>none
noncomputable def npre(M:KMT)(C:KC)(n:Nat)(ms:List Nat)(L:List KP):KF->Option KS:=
 List.rec (motive:=fun _=>KF->Option KS) (fun d=>nfend d (dynN ms d.acc)) (fun kp _ ih d=>nfko M C n d ih kp) L
theorem npre_eq(ops:Array Oper):∀ (rest:List Oper) (d:KE),npre M C n (masks ops.toList []) (rest.map (kcp T ops)) d.toF=kepre M T C n ops rest d
 |[],d=>by
  show nfend d.toF (dynN (masks ops.toList []) (accFrom 0 d.fp []))=(match dynP (masks ops.toList []) d.fp with|true=>some d.s|false=>none);rw[dynN_eq];cases dynP (masks ops.toList []) d.fp<;>rfl
 |o::rest,d=>by
  show nfgo M C n o (kact T o.op) (mN o.op) (krd o.op) d.toF (npre M C n (masks ops.toList []) (rest.map (kcp T ops))) (nwant d.s.t (kg ops o.guard))=(match kwant ops d.s.t o.guard with
   |some true=>match keone M T C n o d with
    |some d'=>kepre M T C n ops rest d'
    |none=>none
   |some false=>kepre M T C n ops rest ⟨if mN o.op then d.sl+1 else d.sl,d.fp++[([],[])],⟨kput d.s.t o.dst (.tup []),d.s.h⟩,d.f⟩
   |none=>none)
  rw[nwant_eq]
  cases kwant ops d.s.t o.guard with
  |none=>rfl
  |some b=>
   cases b with
   |false=>
    rw[<- npre_eq ops rest,KE.toF_app];show npre M C n (masks ops.toList []) (rest.map (kcp T ops)) (nfskip o d.toF (mN o.op))=_;cases mN o.op<;>rfl
   |true=>
    show nfthen _ (nfact M C n o (mN o.op) (krd o.op) d.toF (kact T o.op))=_;rw[nfact_eq];dsimp only
    cases keone M T C n o d with
    |none=>rfl
    |some d'=>exact npre_eq ops rest d'
end
structure KD where
 ok:Bool
 pl:List ABlk
 ms:List Nat
 pre:List KP
 tail:List KO
def kcd(T:TabT)(ops:Array Oper):KD:=⟨statOk ops&&(fullOk ops (sufAt ops)&&Nat.ble (sufAt ops) ops.size),places (ops.toList.take (sufAt ops)),masks ops.toList [],(ops.toList.take (sufAt ops)).map (kcp T ops),(ops.toList.drop (sufAt ops)).map (kco T ops)⟩
noncomputable def ndraw2(C:KC)(tail:List KO):Option KS->Option KS
 |some s1=>nops C false tail s1
 |none=>none
noncomputable def ndraw1(M:KMT)(C:KC)(ms:List Nat)(pre:List KP)(tail:List KO)(s:KS):Option HT->Option KS
 |some h1=>ndraw2 C tail (npre M C s.h.n ms pre ⟨s.h.n,0,[],⟨s.t,h1⟩,s.h⟩)
 |none=>none
noncomputable def ndraw0(M:KMT)(C:KC)(pl:List ABlk)(ms:List Nat)(pre:List KP)(tail:List KO)(s:KS):Bool->Option KS
 |true=>ndraw1 M C ms pre tail s (kpushs pl s.h)
 |false=>none
noncomputable def ndraw(M:KMT)(C:KC)(s:KS):KD->Option KS
 |⟨ok,pl,ms,pre,tail⟩=>ndraw0 M C pl ms pre tail s ok
theorem ndraw_eq(M:KMT)(T:TabT)(C:KC)(ops:Array Oper)(s:KS):ndraw M C s (kcd T ops)=kdraw M T C ops s:=by
 unfold kdraw;show ndraw0 M C _ _ _ _ s (statOk ops&&(fullOk ops (sufAt ops)&&Nat.ble (sufAt ops) ops.size))=_
 cases statOk ops&&(fullOk ops (sufAt ops)&&Nat.ble (sufAt ops) ops.size) with
 |false=>rfl
 |true=>
  show ndraw1 M C _ _ _ s (kpushs (places (ops.toList.take (sufAt ops))) s.h)=_;dsimp only
  cases kpushs (places (ops.toList.take (sufAt ops))) s.h with
  |none=>rfl
  |some h1=>
   show ndraw2 C _ (npre M C s.h.n (masks ops.toList []) ((ops.toList.take (sufAt ops)).map (kcp T ops)) (KE.toF ⟨s.h.n,[],⟨s.t,h1⟩,s.h⟩))=_;rw[npre_eq];dsimp only
   cases kepre M T C s.h.n ops (ops.toList.take (sufAt ops)) ⟨s.h.n,[],⟨s.t,h1⟩,s.h⟩ with
   |none=>rfl
   |some s1=>exact nops_eq0 T C ops _ s1
/-! ### calls -/
noncomputable def ngive(h:HT):Option AV->Option (AV×HT)
 |some res=>match res.bel 0 with
  |true=>some (res,h)
  |false=>none
 |none=>none
noncomputable def nown(k:Nat)(l:List (List AV))(h:HT):Bool->Option (AV×HT)
 |true=>none
 |false=>some (.sl k l (.own h.n),h.push (.tok k l.length))
noncomputable def nrow(r:AV)(hg:Nat->Option ABlk)(h:HT):Option (Nat×List (List AV))->Option (AV×HT)
 |some (k,l)=>nown k l h (Nat.ble 4096 h.n)
 |none=>ngive h (kice 9 hg r)
theorem nrow_eq(r:AV)(hg:Nat->Option ABlk)(h:HT):nrow r hg h (isOwnRow r hg)=kgive r hg h:=by
 unfold kgive
 cases isOwnRow r hg with
 |some p=>
  obtain⟨k,l⟩:=p;show nown k l h (Nat.ble 4096 h.n)=_;dsimp only;cases Nat.ble 4096 h.n<;>rfl
 |none=>
  show ngive h (kice 9 hg r)=_;unfold ngive;dsimp only;cases kice 9 hg r<;>rfl
noncomputable def nbody(F:KR)(rs:List ResultVar)(m:Nat)(c:Code)(args:List AV)(h:HT):Bool->Option (AV×HT)
 |true=>F rs [.code c] ⟨kframe m args,h⟩
 |false=>none
noncomputable def nback(F:KR)(rs:List ResultVar)(m:Nat)(c:Code)(args:List AV)(h:HT):Option (AV×HT)->Option (AV×HT)
 |some q=>some q
 |none=>nbody F rs m c args h (Nat.ble args.length m)
noncomputable def nfrom(F:KR)(rs:List ResultVar)(m:Nat)(c:Code)(args:List AV)(h:HT):Option (AV×HT)->Option (AV×HT)
 |some (r,h')=>nback F rs m c args h (nrow r h'.get h (isOwnRow r h'.get))
 |none=>none
noncomputable def npart(F:KR)(rs:List ResultVar)(m:Nat)(c:Code)(args:List AV)(h:HT):Bool->Option (AV×HT)
 |true=>nfrom F rs m c args h (nbody F rs m c (args.map strip) HT.nil (Nat.ble (args.map strip).length m))
 |false=>nbody F rs m c args h (Nat.ble args.length m)
structure KFn where
 rs:List ResultVar
 m:Nat
 c:Code
def kfn(fn:Func):Option KFn:=match fn.body with
 |some c=>some ⟨fn.results.toList,fn.ntmps,c⟩
 |none=>none
noncomputable def nfn(F:KR)(args:List AV)(h:HT):Option KFn->Option (AV×HT)
 |some ⟨rs,m,c⟩=>npart F rs m c args h (belL 0 (args.map strip))
 |none=>none
noncomputable def ncalled(U:FunT)(F:KR):KC:=fun _ g args h=>nfn F args h ((U g).bind kfn)
theorem ncalled_eq(U:FunT)(F:KR):ncalled U F=kcall U F:=by
 funext o g args h
 unfold ncalled kcall
 cases U g with
 |none=>rfl
 |some fn=>
  show nfn F args h (kfn fn)=_;unfold kfn;dsimp only
  cases fn.body with
  |none=>rfl
  |some c=>
   show npart F fn.results.toList fn.ntmps c args h (belL 0 (args.map strip))=_
   have hb:∀ args h,nbody F fn.results.toList fn.ntmps c args h (Nat.ble args.length fn.ntmps)=kbody F fn c args h:=fun args h=>by
    unfold kbody;cases Nat.ble args.length fn.ntmps<;>rfl
   dsimp only
   cases belL 0 (args.map strip) with
   |false=>exact hb _ _
   |true=>
    show nfrom F _ _ c args h (nbody F fn.results.toList fn.ntmps c (args.map strip) HT.nil (Nat.ble (args.map strip).length fn.ntmps))=_;rw[hb];dsimp only
    cases kbody F fn c (args.map strip) HT.nil with
    |none=>rfl
    |some p=>
     obtain⟨r,h'⟩:=p;show nback F _ _ c args h (nrow r h'.get h (isOwnRow r h'.get))=_;rw[nrow_eq];dsimp only
     cases kgive r h'.get h with
     |some q=>rfl
     |none=>exact hb _ _
/-! ### whole runs -/
noncomputable def nnext(F:KR)(rs:List ResultVar)(k:List Item):Option KS->Option (AV×HT)
 |some s=>F rs k s
 |none=>none
noncomputable def njump(F:KR)(rs:List ResultVar)(s:KS):Option (List Item)->Option (AV×HT)
 |some k=>F rs k s
 |none=>none
noncomputable def ncond(F:KR)(rs:List ResultVar)(k:List Item)(s:KS)(x y:Code):AV->Option (AV×HT)
 |.bool true=>F rs (.code x::k) s
 |.bool false=>F rs (.code y::k) s
 |_=>none
noncomputable def nregion(M:KMT)(T:TabT)(F:KR)(C:KC)(rs:List ResultVar)(k:List Item)(s:KS)(ops:Array Oper):Bool->Option (AV×HT)
 |false=>nnext F rs k (nops C true (ops.toList.map (kco T ops)) s)
 |true=>nnext F rs k (ndraw M C s (kcd T ops))
noncomputable def ncode(M:KMT)(T:TabT)(F:KR)(C:KC)(rs:List ResultVar)(k:List Item)(s:KS):Code->Option (AV×HT)
 |.seq a b=>F rs (.code a::.code b::k) s
 |.skip=>F rs k s
 |.label _=>F rs k s
 |.block id c=>F rs (.code c::.inBlock id::k) s
 |.scope c=>F rs (.code c::.inScope c::k) s
 |.loop c=>F rs (.code c::.inLoop c::k) s
 |.exit id=>njump F rs s (exitTo id k)
 |.goto l=>njump F rs s (gotoIn l k)
 |.cond c x y=>ncond F rs k s x y (kev s.t c)
 |.region _ ops d=>nregion M T F C rs k s ops d
 |.ret=>kfin T rs s
 |_=>none
noncomputable def nitem(M:KMT)(T:TabT)(F:KR)(C:KC)(rs:List ResultVar)(k:List Item)(s:KS):Item->Option (AV×HT)
 |.code c=>ncode M T F C rs k s c
 |.inBlock _=>F rs k s
 |.inScope _=>F rs k s
 |.inLoop c=>F rs (.code c::.inLoop c::k) s
 |_=>none
noncomputable def nstep(M:KMT)(T:TabT)(F:KR)(C:KC)(rs:List ResultVar)(s:KS):List Item->Option (AV×HT)
 |[]=>kfin T rs s
 |it::k=>nitem M T F C rs k s it
theorem nstep_eq(M:KMT)(T:TabT)(F:KR)(C:KC)(rs:List ResultVar)(s:KS)(k:List Item):nstep M T F C rs s k=kstep M T F C rs k s:=by
 unfold kstep
 cases k with
 |nil=>rfl
 |cons it k=>
  cases it<;>try rfl
  rename_i c
  cases c<;>try rfl
  case cons.code.region id ops d=>
   cases d with
   |false=>
    show nnext F rs k (nops C true (ops.toList.map (kco T ops)) s)=_;rw[nops_eq1];dsimp only;cases kops1 T C ops ops.toList s<;>rfl
   |true=>
    show nnext F rs k (ndraw M C s (kcd T ops))=_;rw[ndraw_eq];dsimp only;cases kdraw M T C ops s<;>rfl
noncomputable def norC(C:KC)(o:Oper)(g:FuncId)(args:List AV)(h:HT):Option (AV×HT)->Option (AV×HT)
 |some q=>some q
 |none=>C o g args h
noncomputable def nC(U:FunT)(K:KC)(F:KR):KC:=fun o g args h=>norC (ncalled U F) o g args h (K o g args h)
noncomputable def nrun(U:FunT)(M:KMT)(K:KC)(T:TabT)(n:Nat):KR:=
 Nat.rec (motive:=fun _=>KR) (fun _ _ _=>none) (fun _ ih rs k s=>nstep M T ih (nC U K ih) rs s k) n
theorem nrun_eq(U:FunT)(M:KMT)(K:KC)(T:TabT):∀ n,nrun U M K T n=krun U M K T n
 |0=>rfl
 |n+1=>by
  funext rs k s
  show nstep M T (nrun U M K T n) (nC U K (nrun U M K T n)) rs s k=_;rw[nstep_eq,nrun_eq U M K T n]
  have:nC U K (krun U M K T n)=fun o g args h=>match K o g args h with|some q=>some q|none=>kcall U (krun U M K T n) o g args h:=by
   funext o g args h
   unfold nC;rw[ncalled_eq];unfold norC;cases K o g args h<;>rfl
  rw[this];rfl
theorem ASpec.ofN{P:Program}{U:FunT}(hU:FunOk P U){M:KMT}(hMM:KMok P M){K:KC}(hK:KCok P K)(hKP:KPres K){T:TabT}(hT:TabOk P T)(hM:P.follows .mixedOrders=true)(n:Nat){g:FuncId}{args:List AV}{r:AV}{h':HT}{o:Oper}(h:ncalled U (nrun U M K T n) o g args HT.nil=some (r,h')):ASpec P g args r:=by
 rw[ncalled_eq,nrun_eq] at h;exact ASpec.ofK hU hMM hK hKP hT hM n h
set_option linter.unusedVariables false
/-! ### what is not known is less -/
def RLe{α:Type}(a b:Option α):Prop:=∀ x,a=some x->b=some x
theorem RLe.refl{α:Type}(a:Option α):RLe a a:=fun _ h=>h
theorem RLe.none{α:Type}(b:Option α):RLe (none:Option α) b:=fun _ h=>by cases h
theorem RLe.trans{α:Type}{a b c:Option α}(h1:RLe a b)(h2:RLe b c):RLe a c:=fun x h=>h2 x (h1 x h)
theorem RLe.of_eq{α:Type}{a b:Option α}(h:a=b):RLe a b:=fun _ e=>h▸e
inductive KRes where
 |no
 |val (v:AV)
 |wr (v:AV) (i:Nat) (x:ABlk)
def KLe(a b:KRes):Prop:=a=.no\/a=b
theorem KLe.refl(a:KRes):KLe a a:=.inr rfl
theorem KLe.no(a:KRes):KLe .no a:=.inl rfl
def fin:Option ARes->KRes
 |none=>.no
 |some r=>match r.dec with
  |.isTrue _=>match r.d with
   |none=>.val r.v
   |some (i,x)=>.wr r.v i x
  |.isFalse _=>.no
theorem fin_val{q:Prop}(dq:Decidable q)(h:q)(v:AV):fin (some ⟨q,v,none⟩)=.val v:=by
 cases dq with
 |isTrue _=>rfl
 |isFalse hn=>exact absurd h hn
theorem fin_wr{q:Prop}(dq:Decidable q)(h:q)(v:AV)(i:Nat)(x:ABlk):fin (some ⟨q,v,some (i,x)⟩)=.wr v i x:=by
 cases dq with
 |isTrue _=>rfl
 |isFalse hn=>exact absurd h hn
/-! ### lists -/
noncomputable def fnat{R:Type}(n:Nat)(k:Nat->R):R:=Nat.rec (motive:=fun _=>R) (k 0) (fun m _=>k (Nat.succ m)) n
theorem fnat_eq{R:Type}(n:Nat)(k:Nat->R):fnat n k=k n:=by cases n<;>rfl
noncomputable def fdr{R:Type}(z:R)(l:List AV):Nat->(List AV->R)->R:=List.rec (motive:=fun _=>Nat->(List AV->R)->R) (fun n k=>Nat.rec (motive:=fun _=>R) (k []) (fun _ _=>z) n) (fun a l ih n k=>Nat.rec (motive:=fun _=>R) (k (a::l)) (fun m _=>ih m k) n) l
theorem fdr_eq{R:Type}(z:R):∀ (l:List AV) (n:Nat) (k:List AV->R),fdr z l n k=if n<=l.length then k (l.drop n) else z
 |[],0,k=>rfl
 |[],n+1,k=>rfl
 |a::l,0,k=>by rw[if_pos (Nat.zero_le _)];rfl
 |a::l,n+1,k=>by
  show fdr z l n k=_;rw[fdr_eq z l n k];simp
noncomputable def ftk{R:Type}(z:R)(l:List AV):Nat->(List AV->R)->R:=List.rec (motive:=fun _=>Nat->(List AV->R)->R) (fun n k=>Nat.rec (motive:=fun _=>R) (k []) (fun _ _=>z) n) (fun a l ih n k=>Nat.rec (motive:=fun _=>R) (k []) (fun m _=>ih m fun r=>k (a::r)) n) l
theorem ftk_eq{R:Type}(z:R):∀ (l:List AV) (n:Nat) (k:List AV->R),ftk z l n k=if n<=l.length then k (l.take n) else z
 |[],0,k=>rfl
 |[],n+1,k=>rfl
 |a::l,0,k=>by rw[if_pos (Nat.zero_le _)];rfl
 |a::l,n+1,k=>by
  show ftk z l n (fun r=>k (a::r))=_;rw[ftk_eq z l n];simp
noncomputable def nth9{α R:Type}(z:R)(l:List α):Nat->(α->R)->R:=List.rec (motive:=fun _=>Nat->(α->R)->R) (fun _ _=>z) (fun a l ih n k=>Nat.rec (motive:=fun _=>R) (k a) (fun m _=>ih m k) n) l
theorem nth9_eq{α R:Type}(z:R):∀ (l:List α) (n:Nat) (k:α->R),nth9 z l n k=match l[n]? with|some a=>k a|none=>z
 |[],n,k=>rfl
 |a::l,0,k=>rfl
 |a::l,n+1,k=>by
  show nth9 z l n k=_;rw[nth9_eq z l n k,List.getElem?_cons_succ]
noncomputable def len9{α:Type}(l:List α):Nat:=List.rec (motive:=fun _=>Nat) 0 (fun _ _ ih=>Nat.succ ih) l
theorem len9_eq{α:Type}:∀ l:List α,len9 l=l.length
 |[]=>rfl
 |a::l=>congrArg Nat.succ (len9_eq l)
noncomputable def set9{α:Type}(l:List α):Nat->α->List α:=List.rec (motive:=fun _=>Nat->α->List α) (fun _ _=>[]) (fun a l ih n x=>Nat.rec (motive:=fun _=>List α) (x::l) (fun m _=>a::ih m x) n) l
theorem set9_eq{α:Type}:∀ (l:List α) (n:Nat) (x:α),set9 l n x=l.set n x
 |[],n,x=>rfl
 |a::l,0,x=>rfl
 |a::l,n+1,x=>by
  show a::set9 l n x=_;rw[set9_eq l n x];rfl
noncomputable def fpt{R:Type}(z:R)(cs:List AV):Nat->List AV->(List AV->R)->R:=List.rec (motive:=fun _=>Nat->List AV->(List AV->R)->R)
 (fun n xs k=>Nat.rec (motive:=fun _=>R) (List.rec (motive:=fun _=>R) (k []) (fun _ _ _=>z) xs) (fun _ _=>z) n)
 (fun a cs ih n xs k=>Nat.rec (motive:=fun _=>R) (List.rec (motive:=fun _=>R) (k (a::cs)) (fun x xs' _=>ih 0 xs' fun r=>k (x::r)) xs) (fun m _=>ih m xs fun r=>k (a::r)) n) cs
theorem fpt_eq{R:Type}(z:R):∀ (cs:List AV) (n:Nat) (xs:List AV) (k:List AV->R),fpt z cs n xs k=if n+xs.length<=cs.length then k (lay cs n xs) else z
 |[],0,[],k=>rfl
 |[],0,x::xs,k=>by rw[if_neg (by simp)];rfl
 |[],n+1,xs,k=>by rw[if_neg (by simp)];rfl
 |a::cs,0,[],k=>by rw[if_pos (by simp)];rfl
 |a::cs,0,x::xs,k=>by
  show fpt z cs 0 xs (fun r=>k (x::r))=_;rw[fpt_eq z cs 0 xs];simp[lay]
 |a::cs,n+1,xs,k=>by
  show fpt z cs n xs (fun r=>k (a::r))=_;rw[fpt_eq z cs n xs]
  have e:n+1+xs.length=(n+xs.length)+1:=by omega
  simp only[go_sem,e,Nat.add_le_add_iff_right]
noncomputable def cell9(a:AV):Bool:=AV.rec (motive_1:=fun _=>Bool) (motive_2:=fun _=>Unit) (motive_3:=fun _=>Unit) (fun _ _=>true) (fun _=>true) (fun _=>true) (true) (fun _ _=>true) (fun _ _=>true) (fun _ _ _ _=>true) (fun _ _ _=>true) (true) (fun _ _=>false) (fun _ _=>false) (fun _ _ _ _ _=>true) (true) (fun _ _ _=>true) (true) (fun _=>true) (true) (fun _ _ _ _ _=>true) (fun _ _ _=>true) (fun _ _ _ _=>true) (fun _ _ _=>false) (false) () (fun _ _ _ _=>()) () (fun _ _ _ _=>()) (a)
theorem cell9_eq(a:AV):cell9 a=a.cell:=by cases a<;>rfl
noncomputable def all9{α:Type}(f:α->Bool)(l:List α):Bool:=List.rec (motive:=fun _=>Bool) true (fun a _ ih=>Bool.rec (motive:=fun _=>Bool) false ih (f a)) l
theorem all9_eq{α:Type}(f:α->Bool):∀ l:List α,all9 f l=l.all f
 |[]=>rfl
 |a::l=>by
  show Bool.rec (motive:=fun _=>Bool) false (all9 f l) (f a)=_;rw[all9_eq f l,List.all_cons];cases f a<;>rfl
/-! ### loads and stores -/
noncomputable def kcut9(agg:Bool)(size:Nat)(r:List AV):KRes:=Bool.rec (motive:=fun _=>KRes) (List.rec (motive:=fun _=>KRes) (.no) (fun a _ _=>.val a) (r)) (ftk .no (r) size fun l=>.val (.agg l)) (agg)
noncomputable def kcutc9(agg:Bool)(size:Nat)(r:List AV):KRes:=Bool.rec (motive:=fun _=>KRes) (List.rec (motive:=fun _=>KRes) (.no) (fun a _ _=>Bool.rec (motive:=fun _=>KRes) (.no) (.val a) (cell9 a)) (r)) (ftk .no (r) size fun l=>Bool.rec (motive:=fun _=>KRes) (.no) (.val (.agg l)) (all9 cell9 l)) (agg)
noncomputable def kload9(agg:Bool)(size:Nat)(hg:Nat->Option ABlk)(v:AV):KRes:=AV.rec (motive_1:=fun _=>KRes) (motive_2:=fun _=>Unit) (motive_3:=fun _=>Unit) (fun _ _=>.no) (fun _=>.no) (fun _=>.no) (.no) (fun i o=>Option.rec (motive:=fun _=>KRes) (.no) (fun b=>ABlk.rec (motive:=fun _=>KRes) (.no) (.no) (fun cs=>fdr .no cs o (kcut9 agg size)) (fun _ _=>.no) (fun _ _=>.no) (fun _=>.no) (fun _ _ _=>.no) (b)) (hg i)) (fun cs _=>kcut9 agg size cs) (fun _ _ _ _=>.no) (fun _ _ _=>.no) (.no) (fun _ _=>.no) (fun _ _=>.no) (fun _ _ _ _ _=>.no) (.no) (fun _ _ _=>.no) (.no) (fun _=>.no) (.no) (fun _ _ _ _ _=>.no) (fun _ _ _=>.no) (fun i k j o=>Option.rec (motive:=fun _=>KRes) (.no) (fun b=>ABlk.rec (motive:=fun _=>KRes) (.no) (.no) (fun _=>.no) (fun _ _=>.no) (fun k2 l=>Bool.rec (motive:=fun _=>KRes) (.no) (nth9 .no l j fun e=>Bool.rec (motive:=fun _=>KRes) (.no) (fdr .no e o (kcutc9 agg size)) (Nat.ble (Nat.add o size) k)) (Nat.beq k2 k)) (fun _=>.no) (fun _ _ _=>.no) (b)) (hg i)) (fun _ _ _=>.no) (.no) () (fun _ _ _ _=>()) () (fun _ _ _ _=>()) (v)
theorem TI.agg_or{ti:TI}(h:ti.agg=true\/ti.size=1):ti.agg=true\/(ti.agg=false/\ti.size=1):=by
 cases e:ti.agg with
 |true=>exact .inl rfl
 |false=>exact .inr ⟨rfl,h.resolve_left (by rw[e];simp)⟩
theorem kcut9_le{ti:TI}(h:ti.agg=true\/ti.size=1)(cs:List AV)(o:Nat)(ho:o<=cs.length):KLe (kcut9 ti.agg ti.size (cs.drop o)) (fin ((cellsAs ti.agg ((cs.drop o).take ti.size)).map fun v=>⟨o+ti.size<=cs.length,v,none⟩)):=by
 rcases TI.agg_or h with h1|⟨h1,h2⟩
 ·rw[h1];show KLe (ftk .no (cs.drop o) ti.size fun l=>.val (.agg l)) _;rw[ftk_eq]
  by_cases hs:ti.size<=(cs.drop o).length
  ·rw[if_pos hs];rw[List.length_drop] at hs;refine .inr ?_;exact(fin_val _ (by omega) _).symm
  ·rw[if_neg hs];exact .no _
 ·rw[h1,h2]
  cases hd:cs.drop o with
  |nil=>exact .no _
  |cons a l=>
   have:o+1<=cs.length:=by
    have:=congrArg List.length hd;rw[List.length_drop,List.length_cons] at this;omega
   refine .inr ?_;show KRes.val a=fin (some ⟨o+1<=cs.length,a,none⟩);exact(fin_val _ this _).symm
theorem kcutc9_le{ti:TI}(h:ti.agg=true\/ti.size=1)(cs:List AV)(o:Nat)(q:Prop)[dq:Decidable q](hq:o<=cs.length->q)(ho:o<=cs.length):KLe (kcutc9 ti.agg ti.size (cs.drop o)) (fin (if((cs.drop o).take ti.size).all AV.cell then(cellsAs ti.agg ((cs.drop o).take ti.size)).map fun v=>⟨q,v,none⟩ else none)):=by
 have hq:=hq ho
 rcases TI.agg_or h with h1|⟨h1,h2⟩
 ·rw[h1];show KLe (ftk .no (cs.drop o) ti.size fun l=>Bool.rec (motive:=fun _=>KRes) .no (.val (.agg l)) (all9 cell9 l)) _;rw[ftk_eq]
  by_cases hs:ti.size<=(cs.drop o).length
  ·rw[if_pos hs,all9_eq,show cell9=AV.cell from funext cell9_eq]
   cases hc:((cs.drop o).take ti.size).all AV.cell with
   |false=>exact .no _
   |true=>
    refine .inr ?_;exact(fin_val _ hq _).symm
  ·rw[if_neg hs];exact .no _
 ·rw[h1,h2]
  cases hd:cs.drop o with
  |nil=>exact .no _
  |cons a l=>
   show KLe (Bool.rec (motive:=fun _=>KRes) .no (.val a) (cell9 a)) _;rw[cell9_eq]
   cases hc:a.cell with
   |false=>exact .no _
   |true=>
    refine .inr ?_;show KRes.val a=fin (if((a::l).take 1).all AV.cell then _ else none);rw[if_pos (by simp[hc])];exact(fin_val _ hq _).symm
theorem beq_iff{m n:Nat}:Nat.beq m n=true↔m=n:=⟨Nat.eq_of_beq_eq_true,fun e=>e▸Nat.beq_refl m⟩
theorem kload9_le{ti:TI}(h:ti.agg=true\/ti.size=1)(hg:Nat->Option ABlk)(v:AV):KLe (kload9 ti.agg ti.size hg v) (fin (kload hg ti v)):=by
 cases v with
 |ptr i o=>
  unfold kload;dsimp only[kload9]
  cases hi:hg i with
  |none=>exact .no _
  |some b=>
   cases b with
   |box cs=>
    show KLe (fdr .no cs o _) _;rw[fdr_eq]
    by_cases ho:o<=cs.length
    ·rw[if_pos ho];exact kcut9_le h cs o ho
    ·rw[if_neg ho];exact .no _
   |_=>exact .no _
 |rptr cs=>
  have:=kcut9_le h cs 0 (Nat.zero_le _);rw[List.drop_zero] at this
  rcases this with e|e
  ·exact .inl e
  ·refine .inr (e.trans ?_);unfold kload;dsimp only
   congr 1
   congr 1
   funext v
   simp
 |eptr i k j o=>
  unfold kload;dsimp only[kload9]
  cases hi:hg i with
  |none=>exact .no _
  |some b=>
   cases b with
   |rows k2 l=>
    dsimp only
    cases hk:Nat.beq k2 k with
    |false=>exact .no _
    |true=>
     show KLe (nth9 .no l j _) _;rw[nth9_eq]
     cases hj:l[j]? with
     |none=>exact .no _
     |some e=>
      dsimp only
      cases hb:Nat.ble (Nat.add o ti.size) k with
      |false=>exact .no _
      |true=>
       show KLe (fdr .no e o _) _;rw[fdr_eq]
       by_cases ho:o<=e.length
       ·rw[if_pos ho];have hjl:=(Va hj).1
        have hge:l.getD j []=e:=by rw[List.getD_eq_getElem?_getD,hj];rfl
        rw[hge];exact kcutc9_le h e o (k2=k/\j<l.length/\o+ti.size<=k) (fun _=>⟨beq_iff.1 hk,hjl,Nat.le_of_ble_eq_true hb⟩) ho
       ·rw[if_neg ho];exact .no _
   |_=>exact .no _
 |_=>exact .no _
noncomputable def cellsK9(v:AV)(k:List AV->KRes):KRes:=AV.rec (motive_1:=fun _=>KRes) (motive_2:=fun _=>Unit) (motive_3:=fun _=>Unit) (fun a b=>k [.int a b]) (fun b=>k [.bool b]) (fun s=>k [.str s]) (k [.nilp]) (fun i o=>k [.ptr i o]) (fun cs _=>k [.rptr cs]) (fun a l t _=>k [.sl a l t]) (fun a l _=>k [.psl a l]) (k [.nils]) (fun cs _=>k cs) (fun _ _=>.no) (fun f a b _ _=>k [.fn f a b]) (k [.nilf]) (fun t v _=>k [.iface t v]) (k [.nilI]) (fun i=>k [.mp i]) (k [.nilm]) (fun i a o n c=>k [.msl i a o n c]) (fun i a n=>k [.msu i a n]) (fun i a j o=>k [.eptr i a j o]) (fun _ _ _=>.no) (.no) () (fun _ _ _ _=>()) () (fun _ _ _ _=>()) (v)
theorem cellsK9_eq(v:AV)(k:List AV->KRes):cellsK9 v k=if v.whole=true then k v.cells else .no:=by cases v<;>rfl
noncomputable def kstore9(size:Nat)(hg:Nat->Option ABlk)(v p:AV):KRes:=cellsK9 v fun xs=>Bool.rec (motive:=fun _=>KRes) (.no) (AV.rec (motive_1:=fun _=>KRes) (motive_2:=fun _=>Unit) (motive_3:=fun _=>Unit) (fun _ _=>.no) (fun _=>.no) (fun _=>.no) (.no) (fun i o=>Option.rec (motive:=fun _=>KRes) (.no) (fun b=>ABlk.rec (motive:=fun _=>KRes) (.no) (.no) (fun cs=>fpt .no cs o xs fun r=>.wr .junk i (.box r)) (fun _ _=>.no) (fun _ _=>.no) (fun _=>.no) (fun _ _ _=>.no) (b)) (hg i)) (fun _ _=>.no) (fun _ _ _ _=>.no) (fun _ _ _=>.no) (.no) (fun _ _=>.no) (fun _ _=>.no) (fun _ _ _ _ _=>.no) (.no) (fun _ _ _=>.no) (.no) (fun _=>.no) (.no) (fun _ _ _ _ _=>.no) (fun _ _ _=>.no) (fun i k j o=>Option.rec (motive:=fun _=>KRes) (.no) (fun b=>ABlk.rec (motive:=fun _=>KRes) (.no) (.no) (fun _=>.no) (fun _ _=>.no) (fun k2 l=>Bool.rec (motive:=fun _=>KRes) (.no) (Bool.rec (motive:=fun _=>KRes) (.no) (Bool.rec (motive:=fun _=>KRes) (.no) (nth9 .no l j fun e=>fpt .no e o xs fun r=>.wr .junk i (.rows k2 (set9 l j r))) (Nat.ble 1 size)) (Nat.ble (Nat.add o size) k)) (Nat.beq k2 k)) (fun _=>.no) (fun _ _ _=>.no) (b)) (hg i)) (fun _ _ _=>.no) (.no) () (fun _ _ _ _=>()) () (fun _ _ _ _=>()) (p)) (Nat.beq (len9 xs) size)
theorem kstore9_le(ti:TI)(hg:Nat->Option ABlk)(v q:AV):KLe (kstore9 ti.size hg v q) (fin (kstore hg ti v q)):=by
 unfold kstore9;rw[cellsK9_eq]
 by_cases hw:v.whole=true
 case neg=>rw[if_neg hw];exact .no _
 rw[if_pos hw,len9_eq]
 cases hl:Nat.beq v.cells.length ti.size with
 |false=>exact .no _
 |true=>
  have hl:=beq_iff.1 hl
  cases q with
  |ptr i o=>
   unfold kstore;dsimp only
   cases hi:hg i with
   |none=>exact .no _
   |some b=>
    cases b with
    |box cs=>
     show KLe (fpt .no cs o v.cells _) _;rw[fpt_eq]
     by_cases ho:o+v.cells.length<=cs.length
     ·rw[if_pos ho,hw];exact .inr (fin_wr _ ⟨by omega,hl⟩ _ _ _).symm
     ·rw[if_neg ho];exact .no _
    |_=>exact .no _
  |eptr i k j o=>
   unfold kstore;dsimp only
   cases hi:hg i with
   |none=>exact .no _
   |some b=>
    cases b with
    |rows k2 l=>
     dsimp only
     cases hk:Nat.beq k2 k with
     |false=>exact .no _
     |true=>
      dsimp only
      cases hb:Nat.ble (Nat.add o ti.size) k with
      |false=>exact .no _
      |true=>
       dsimp only
       cases h0:Nat.ble 1 ti.size with
       |false=>exact .no _
       |true=>
        show KLe (nth9 .no l j _) _;rw[nth9_eq]
        cases hj:l[j]? with
        |none=>exact .no _
        |some e=>
         dsimp only;rw[fpt_eq]
         by_cases ho:o+v.cells.length<=e.length
         ·rw[if_pos ho,hw,set9_eq];dsimp only;have hjl:=(Va hj).1
          have hge:l.getD j []=e:=by rw[List.getD_eq_getElem?_getD,hj];rfl
          rw[hge];exact .inr (fin_wr _ ⟨beq_iff.1 hk,hjl,Nat.le_of_ble_eq_true hb,hl,Nat.le_of_ble_eq_true h0⟩ _ _ _).symm
         ·rw[if_neg ho];exact .no _
    |_=>exact .no _
  |_=>exact .no _
set_option linter.unusedVariables false
abbrev RR:=Option (AV×HT)
abbrev KK:=Fr->HT->RR
/-! ### whole numbers -/
noncomputable def ilt9(a b:Int):Bool:=Int.rec (motive:=fun _=>Bool) (fun m=>Int.rec (motive:=fun _=>Bool) (fun n=>Nat.ble (Nat.succ m) n) (fun n=>false) (b)) (fun m=>Int.rec (motive:=fun _=>Bool) (fun n=>true) (fun n=>Nat.ble (Nat.succ n) m) (b)) (a)
noncomputable def ieq9(a b:Int):Bool:=Int.rec (motive:=fun _=>Bool) (fun m=>Int.rec (motive:=fun _=>Bool) (fun n=>Nat.beq m n) (fun n=>false) (b)) (fun m=>Int.rec (motive:=fun _=>Bool) (fun n=>false) (fun n=>Nat.beq m n) (b)) (a)
noncomputable def not9(b:Bool):Bool:=Bool.rec (motive:=fun _=>Bool) true false b
theorem ble_dec(m n:Nat):Nat.ble m n=decide (m<=n):=ble_iff m n
theorem beq_dec(m n:Nat):Nat.beq m n=decide (m=n):=by
 by_cases h:m=n
 ·rw[decide_eq_true h,h,Nat.beq_refl]
 ·rw[decide_eq_false h]
  cases hb:Nat.beq m n with
  |true=>exact absurd (Nat.eq_of_beq_eq_true hb) h
  |false=>rfl
theorem ilt9_eq(a b:Int):ilt9 a b=decide (a<b):=by
 cases a with
 |ofNat m=>cases b with
  |ofNat n=>
   show Nat.ble (m+1) n=_;rw[ble_dec];exact decide_eq_decide.2 (by simp only[Int.ofNat_eq_natCast];omega)
  |negSucc n=>exact(decide_eq_false (by simp only[Int.ofNat_eq_natCast,Int.negSucc_eq];omega)).symm
 |negSucc m=>cases b with
  |ofNat n=>exact(decide_eq_true (by simp only[Int.ofNat_eq_natCast,Int.negSucc_eq];omega)).symm
  |negSucc n=>
   show Nat.ble (n+1) m=_;rw[ble_dec];exact decide_eq_decide.2 (by simp only[Int.negSucc_eq];omega)
theorem ieq9_eq(a b:Int):ieq9 a b=decide (a=b):=by
 cases a with
 |ofNat m=>cases b with
  |ofNat n=>
   show Nat.beq m n=_;rw[beq_dec];exact decide_eq_decide.2 (by simp only[Int.ofNat_eq_natCast];omega)
  |negSucc n=>exact(decide_eq_false (by simp only[Int.ofNat_eq_natCast,Int.negSucc_eq];omega)).symm
 |negSucc m=>cases b with
  |ofNat n=>exact(decide_eq_false (by simp only[Int.ofNat_eq_natCast,Int.negSucc_eq];omega)).symm
  |negSucc n=>
   show Nat.beq m n=_;rw[beq_dec];exact decide_eq_decide.2 (by simp only[Int.negSucc_eq];omega)
theorem not9_eq(b:Bool):not9 b=!b:=by cases b<;>rfl
noncomputable def rng9{R:Type}(z:R)(r:Int)(k:Int->R):R:=Int.rec (motive:=fun _=>R) (fun n=>fnat n fun n=>Bool.rec (motive:=fun _=>R) (z) (k (Int.ofNat n)) (Nat.ble n 9223372036854775807)) (fun n=>fnat n fun n=>Bool.rec (motive:=fun _=>R) (z) (k (Int.negSucc n)) (Nat.ble n 9223372036854775807)) (r)
noncomputable def sub9(m n:Nat):Int:=Bool.rec (motive:=fun _=>Int) (Int.negSucc (Nat.sub n m)) (Int.ofNat (Nat.sub m (Nat.succ n))) (Nat.ble (Nat.succ n) m)
noncomputable def iad9(a b:Int):Int:=Int.rec (motive:=fun _=>Int) (fun m=>Int.rec (motive:=fun _=>Int) (fun n=>Int.ofNat (Nat.add m n)) (fun n=>sub9 m n) (b)) (fun m=>Int.rec (motive:=fun _=>Int) (fun n=>sub9 n m) (fun n=>Int.negSucc (Nat.succ (Nat.add m n))) (b)) (a)
noncomputable def ing9(b:Int):Int:=Int.rec (motive:=fun _=>Int) (fun n=>Nat.rec (motive:=fun _=>Int) (Int.ofNat 0) (fun m _=>Int.negSucc m) n) (fun n=>Int.ofNat (Nat.succ n)) (b)
theorem rng9_eq{R:Type}(z:R)(r:Int)(k:Int->R):rng9 z r k=if I64 r then k r else z:=by
 cases r with
 |ofNat n=>
  show fnat n (fun n=>Bool.rec (motive:=fun _=>R) z (k (Int.ofNat n)) (Nat.ble n 9223372036854775807))=_;rw[fnat_eq,ble_dec]
  by_cases h:n<=9223372036854775807
  ·rw[decide_eq_true h,if_pos (by unfold I64;simp only[Int.ofNat_eq_natCast];omega)]
  ·rw[decide_eq_false h,if_neg (by unfold I64;simp only[Int.ofNat_eq_natCast];omega)]
 |negSucc n=>
  show fnat n (fun n=>Bool.rec (motive:=fun _=>R) z (k (Int.negSucc n)) (Nat.ble n 9223372036854775807))=_;rw[fnat_eq,ble_dec]
  by_cases h:n<=9223372036854775807
  ·rw[decide_eq_true h,if_pos (by unfold I64;simp only[Int.negSucc_eq];omega)]
  ·rw[decide_eq_false h,if_neg (by unfold I64;simp only[Int.negSucc_eq];omega)]
theorem sub9_eq(m n:Nat):sub9 m n=Int.ofNat m+Int.negSucc n:=by
 unfold sub9;rw[ble_dec]
 by_cases h:Nat.succ n<=m
 ·rw[decide_eq_true h];show Int.ofNat (m-(n+1))=_;simp only[Int.ofNat_eq_natCast,Int.negSucc_eq];omega
 ·rw[decide_eq_false h];show Int.negSucc (n-m)=_;simp only[Int.ofNat_eq_natCast,Int.negSucc_eq];omega
theorem iad9_eq(a b:Int):iad9 a b=a+b:=by
 cases a with
 |ofNat m=>cases b with
  |ofNat n=>rfl
  |negSucc n=>exact sub9_eq m n
 |negSucc m=>cases b with
  |ofNat n=>exact(sub9_eq n m).trans (Int.add_comm _ _)
  |negSucc n=>
   show Int.negSucc (m+n+1)=_;simp only[Int.negSucc_eq];omega
theorem ing9_eq(b:Int):ing9 b=-b:=by
 cases b with
 |ofNat n=>cases n<;>rfl
 |negSucc n=>rfl
/-! ### operands and places,laid out -/
structure Wr where
 f:Fr->AV->Fr
noncomputable def opg(x:Operand):Rdr Fr AV:=Operand.rec (motive:=fun _=>Rdr Fr AV) (fun i=>Bool.rec (motive:=fun _=>Rdr Fr AV) (Rdr.rec (motive:=fun _=>Rdr Fr AV) (fun lo=>Rdr.rec (motive:=fun _=>Rdr Fr AV) (fun hi=>Rdr.mk fun t=>lo (hi t.b)) (B16.rd (Nat.div i 16))) (B16.rd (Nat.mod i 16))) (Rdr.mk fun _=>.junk) (Nat.ble 256 i)) (fun v=>Rdr.mk fun _=>aconst v) (fun _=>Rdr.mk fun _=>.junk) (fun f=>Rdr.mk fun _=>.fn (.func f) [] []) (x)
theorem opg_eq(x:Operand)(t:Fr):(opg x).f t=kev t x:=by
 cases x with
 |tmp i=>
  show(Bool.rec (motive:=fun _=>Rdr Fr AV) _ _ (Nat.ble 256 i):Rdr Fr AV).f t=Bool.rec (get2 i t.b) .junk (Nat.ble 256 i)
  cases Nat.ble 256 i with
  |true=>rfl
  |false=>
   show(Rdr.rec (motive:=fun _=>Rdr Fr AV) (fun lo=>Rdr.rec (motive:=fun _=>Rdr Fr AV) (fun hi=>Rdr.mk fun t=>lo (hi t.b)) (B16.rd (Nat.div i 16))) (B16.rd (Nat.mod i 16)):Rdr Fr AV).f t=(B16.rd (Nat.mod i 16)).f ((B16.rd (Nat.div i 16)).f t.b)
   cases(B16.rd (Nat.mod i 16):Rdr (B16 AV) AV) with
   |mk lo=>
    cases(B16.rd (Nat.div i 16):Rdr (B16 (B16 AV)) (B16 AV)) with
    |mk hi=>rfl
 |_=>rfl
noncomputable def wop0{R:Type}(x:Operand)(f:(Fr->AV)->R):R:=Rdr.rec (motive:=fun _=>R) f (opg x)
theorem wop0_eq{R:Type}(x:Operand)(f:(Fr->AV)->R):wop0 x f=f fun t=>kev t x:=by
 have h:(fun t=>kev t x)=(opg x).f:=funext fun t=>(opg_eq x t).symm;rw[h];unfold wop0;cases opg x;rfl
noncomputable def opgs(l:List Operand):Rdr Fr (List AV):=List.rec (motive:=fun _=>Rdr Fr (List AV)) (Rdr.mk fun _=>[]) (fun x _ ih=>Rdr.rec (motive:=fun _=>Rdr Fr (List AV)) (fun gs=>Rdr.rec (motive:=fun _=>Rdr Fr (List AV)) (fun g=>Rdr.mk fun t=>g t::gs t) (opg x)) ih) l
theorem opgs_eq(t:Fr):∀ l:List Operand,(opgs l).f t=l.map (kev t)
 |[]=>rfl
 |x::l=>by
  have h1:=opgs_eq t l;have h2:=opg_eq x t
  show(Rdr.rec (motive:=fun _=>Rdr Fr (List AV)) (fun gs=>Rdr.rec (motive:=fun _=>Rdr Fr (List AV)) (fun g=>Rdr.mk fun t=>g t::gs t) (opg x)) (opgs l):Rdr Fr (List AV)).f t=kev t x::l.map (kev t)
  rw[<- h1,<- h2]
noncomputable def wops{R:Type}(l:List Operand)(f:(Fr->List AV)->R):R:=Rdr.rec (motive:=fun _=>R) f (opgs l)
theorem wops_eq{R:Type}(l:List Operand)(f:(Fr->List AV)->R):wops l f=f fun t=>l.map (kev t):=by
 have h:(fun t=>l.map (kev t))=(opgs l).f:=funext fun t=>(opgs_eq t l).symm;rw[h];unfold wops;cases opgs l;rfl
noncomputable def kwr(d:Option Nat):Wr:=Option.rec (motive:=fun _=>Wr) (Wr.mk fun t _=>t) (fun i=>Mdr.rec (motive:=fun _=>Wr) (fun lo=>Mdr.rec (motive:=fun _=>Wr) (fun hi=>Wr.mk fun t v=>Fr.rec (motive:=fun _=>Fr) (fun n b=>Bool.rec (motive:=fun _=>Fr) ⟨n,b⟩ ⟨n,hi (lo fun _=>v) b⟩ (Nat.ble (Nat.succ i) n)) t) (B16.md (Nat.div i 16))) (B16.md (Nat.mod i 16))) (d)
theorem kwr_eq(d:Option Nat)(t:Fr)(v:AV):(kwr d).f t v=kput t d v:=by
 cases d with
 |none=>rfl
 |some i=>
  show(Mdr.rec (motive:=fun _=>Wr) (fun lo=>Mdr.rec (motive:=fun _=>Wr) (fun hi=>Wr.mk fun t v=>Fr.rec (motive:=fun _=>Fr) (fun n b=>Bool.rec (motive:=fun _=>Fr) ⟨n,b⟩ ⟨n,hi (lo fun _=>v) b⟩ (Nat.ble (Nat.succ i) n)) t) (B16.md (Nat.div i 16))) (B16.md (Nat.mod i 16)):Wr).f t v=Fr.rec (motive:=fun _=>Fr) (fun n b=>Bool.rec ⟨n,b⟩ ⟨n,(B16.md (Nat.div i 16)).g ((B16.md (Nat.mod i 16)).g fun _=>v) b⟩ (Nat.ble (Nat.succ i) n)) t
  cases(B16.md (Nat.mod i 16):Mdr AV) with
  |mk lo=>
   cases(B16.md (Nat.div i 16):Mdr (B16 AV)) with
   |mk hi=>rfl
/-! ### acts -/
abbrev KRun9:=Nat->Fr->(Nat->Option ABlk)->KRes
inductive KAct9 where
 |pure (f:KRun9)
 |mk (nd:Fr->Bool) (f:KRun9)
 |call (x:Fr->AV) (az:Fr->List AV)
 |fcall (g:FuncId) (az:Fr->List AV)
 |spec (op:Op)
 |bad
noncomputable def slow:KAct->KAct9
 |.pure f=>.pure fun n t hg=>fin (f n (kev t) hg)
 |.mk nd f=>.mk (fun t=>nd (kev t)) fun n t hg=>fin (f n (kev t) hg)
 |.call x az=>.call (fun t=>kev t x) fun t=>az.map (kev t)
 |.fcall g az=>.fcall g fun t=>az.map (kev t)
 |.spec op=>.spec op
 |.bad=>.bad
inductive ALe:KAct9->KAct9->Prop
 |refl (a:KAct9):ALe a a
 |pure (f g:KRun9) (h:∀ n t hg,KLe (f n t hg) (g n t hg)):ALe (.pure f) (.pure g)
 |mk (nd:Fr->Bool) (f g:KRun9) (h:∀ n t hg,KLe (f n t hg) (g n t hg)):ALe (.mk nd f) (.mk nd g)
/-! ### single operations -/
noncomputable def fa9(o2:Nat)(v:AV):KRes:=AV.rec (motive_1:=fun _=>KRes) (motive_2:=fun _=>Unit) (motive_3:=fun _=>Unit) (fun _ _=>.no) (fun _=>.no) (fun _=>.no) (.no) (fun i o=>fnat (Nat.add o o2) fun n=>.val (.ptr i n)) (fun cs _=>fdr .no cs o2 fun r=>.val (.rptr r)) (fun _ _ _ _=>.no) (fun _ _ _=>.no) (.no) (fun _ _=>.no) (fun _ _=>.no) (fun _ _ _ _ _=>.no) (.no) (fun _ _ _=>.no) (.no) (fun _=>.no) (.no) (fun _ _ _ _ _=>.no) (fun _ _ _=>.no) (fun i k j o=>fnat (Nat.add o o2) fun n=>.val (.eptr i k j n)) (fun _ _ _=>.no) (.no) () (fun _ _ _ _=>()) () (fun _ _ _ _=>()) (v)
theorem fa9_le(ti:TI)(f:Nat)(q:Nat×Nat)(hq:ti.offs[f]? = some q)(v:AV):KLe (fa9 q.1 v) (fin (afieldAddr ti f v)):=by
 obtain⟨o2,ft⟩:=q;unfold afieldAddr;rw[hq]
 cases v with
 |ptr i o=>exact .inr (fnat_eq (o+o2) (fun n=>KRes.val (.ptr i n)))
 |eptr i k j o=>exact .inr (fnat_eq (o+o2) (fun n=>KRes.val (.eptr i k j n)))
 |rptr cs=>
  show KLe (fdr .no cs o2 _) _;rw[fdr_eq]
  split
  ·exact .inr rfl
  ·exact .no _
 |_=>exact .no _
noncomputable def nc9(v:AV):KRes:=AV.rec (motive_1:=fun _=>KRes) (motive_2:=fun _=>Unit) (motive_3:=fun _=>Unit) (fun _ _=>.no) (fun _=>.no) (fun _=>.no) (.no) (fun i o=>.val (.ptr i o)) (fun cs _=>.val (.rptr cs)) (fun _ _ _ _=>.no) (fun _ _ _=>.no) (.no) (fun _ _=>.no) (fun _ _=>.no) (fun _ _ _ _ _=>.no) (.no) (fun _ _ _=>.no) (.no) (fun _=>.no) (.no) (fun _ _ _ _ _=>.no) (fun _ _ _=>.no) (fun i k j o=>.val (.eptr i k j o)) (fun _ _ _=>.no) (.no) () (fun _ _ _ _=>()) () (fun _ _ _ _=>()) (v)
theorem nc9_eq(v:AV):nc9 v=fin (match v with|.ptr i o=>ok1 (.ptr i o)|.eptr i k j o=>ok1 (.eptr i k j o)|.rptr cs=>ok1 (.rptr cs)|_=>none):=by cases v<;>rfl
noncomputable def ex9(i:Nat)(v:AV):KRes:=AV.rec (motive_1:=fun _=>KRes) (motive_2:=fun _=>Unit) (motive_3:=fun _=>Unit) (fun _ _=>.no) (fun _=>.no) (fun _=>.no) (.no) (fun _ _=>.no) (fun _ _=>.no) (fun _ _ _ _=>.no) (fun _ _ _=>.no) (.no) (fun _ _=>.no) (fun vs _=>nth9 .no vs i fun a=>.val a) (fun _ _ _ _ _=>.no) (.no) (fun _ _ _=>.no) (.no) (fun _=>.no) (.no) (fun _ _ _ _ _=>.no) (fun _ _ _=>.no) (fun _ _ _ _=>.no) (fun _ _ _=>.no) (.no) () (fun _ _ _ _=>()) () (fun _ _ _ _=>()) (v)
theorem ex9_eq(i:Nat)(v:AV):ex9 i v=fin (match v with|.tup vs=>(vs[i]?).map fun v=>⟨True,v,none⟩|_=>none):=by
 cases v with
 |tup vs=>
  show nth9 KRes.no vs i (fun a=>KRes.val a)=_;rw[nth9_eq];dsimp only;cases vs[i]?<;>rfl
 |_=>rfl
noncomputable def pk9(c x y:AV):KRes:=AV.rec (motive_1:=fun _=>KRes) (motive_2:=fun _=>Unit) (motive_3:=fun _=>Unit) (fun _ _=>.no) (fun b=>Bool.rec (motive:=fun _=>KRes) (.val y) (.val x) (b)) (fun _=>.no) (.no) (fun _ _=>.no) (fun _ _=>.no) (fun _ _ _ _=>.no) (fun _ _ _=>.no) (.no) (fun _ _=>.no) (fun _ _=>.no) (fun _ _ _ _ _=>.no) (.no) (fun _ _ _=>.no) (.no) (fun _=>.no) (.no) (fun _ _ _ _ _=>.no) (fun _ _ _=>.no) (fun _ _ _ _=>.no) (fun _ _ _=>.no) (.no) () (fun _ _ _ _=>()) () (fun _ _ _ _=>()) (c)
theorem pk9_eq(c x y:AV):pk9 c x y=fin (match c with|.bool true=>ok1 x|.bool false=>ok1 y|_=>none):=by
 cases c<;>try rfl
 rename_i b;cases b<;>rfl
noncomputable def nt9(c:AV):KRes:=AV.rec (motive_1:=fun _=>KRes) (motive_2:=fun _=>Unit) (motive_3:=fun _=>Unit) (fun _ _=>.no) (fun b=>.val (.bool (not9 b))) (fun _=>.no) (.no) (fun _ _=>.no) (fun _ _=>.no) (fun _ _ _ _=>.no) (fun _ _ _=>.no) (.no) (fun _ _=>.no) (fun _ _=>.no) (fun _ _ _ _ _=>.no) (.no) (fun _ _ _=>.no) (.no) (fun _=>.no) (.no) (fun _ _ _ _ _=>.no) (fun _ _ _=>.no) (fun _ _ _ _=>.no) (fun _ _ _=>.no) (.no) () (fun _ _ _ _=>()) () (fun _ _ _ _=>()) (c)
theorem nt9_eq(c:AV):nt9 c=fin (match c with|.bool b=>ok1 (.bool !b)|_=>none):=by
 cases c<;>try rfl
 rename_i b;cases b<;>rfl
noncomputable def bx9(slot:Nat)(v:AV):KRes:=cellsK9 v fun cs=>.wr (.ptr slot 0) slot (.box cs)
theorem bx9_eq(slot:Nat)(v:AV):bx9 slot v=fin (if v.whole then some ⟨True,.ptr slot 0,some (slot,.box v.cells)⟩ else none):=by
 unfold bx9;rw[cellsK9_eq]
 split<;>rfl
noncomputable def ln9(sl:Bool)(v:AV):KRes:=Bool.rec (motive:=fun _=>KRes) (AV.rec (motive_1:=fun _=>KRes) (motive_2:=fun _=>Unit) (motive_3:=fun _=>Unit) (fun _ _=>.no) (fun _=>.no) (fun l=>.val (.int .i64 (Int.ofNat (len9 l)))) (.no) (fun _ _=>.no) (fun _ _=>.no) (fun _ _ _ _=>.no) (fun _ _ _=>.no) (.no) (fun _ _=>.no) (fun _ _=>.no) (fun _ _ _ _ _=>.no) (.no) (fun _ _ _=>.no) (.no) (fun _=>.no) (.no) (fun _ _ _ _ _=>.no) (fun _ _ _=>.no) (fun _ _ _ _=>.no) (fun _ _ _=>.no) (.no) () (fun _ _ _ _=>()) () (fun _ _ _ _=>()) (v)) (AV.rec (motive_1:=fun _=>KRes) (motive_2:=fun _=>Unit) (motive_3:=fun _=>Unit) (fun _ _=>.no) (fun _=>.no) (fun _=>.no) (.no) (fun _ _=>.no) (fun _ _=>.no) (fun _ l _ _=>.val (.int .i64 (Int.ofNat (len9 l)))) (fun _ l _=>.val (.int .i64 (Int.ofNat (len9 l)))) (.val (.int .i64 (Int.ofNat 0))) (fun _ _=>.no) (fun _ _=>.no) (fun _ _ _ _ _=>.no) (.no) (fun _ _ _=>.no) (.no) (fun _=>.no) (.no) (fun _ _ _ n _=>.val (.int .i64 (Int.ofNat n))) (fun _ _ n=>.val (.int .i64 (Int.ofNat n))) (fun _ _ _ _=>.no) (fun _ _ _=>.no) (.no) () (fun _ _ _ _=>()) () (fun _ _ _ _=>()) (v)) (sl)
def slB(ti:TI):Option Bool:=match ti.sort with|.sl=>some true|.str=>some false|_=>none
theorem ln9_le{ti:TI}{b:Bool}(h:slB ti=some b)(v:AV):KLe (ln9 b v) (fin (alen ti v)):=by
 obtain⟨so,a1,a2,a3,a4,a5,a6,a7⟩:=ti;unfold slB at h
 cases so<;>try(cases h;done)
 all_goals
  cases h
  cases v<;>first
   |exact .no _
   |(refine .inr ?_;simp only[go_sem,ln9,len9_eq];rfl)
noncomputable def ix9(sz:Nat)(v n:AV):KRes:=AV.rec (motive_1:=fun _=>KRes) (motive_2:=fun _=>Unit) (motive_3:=fun _=>Unit) (fun _ n=>Int.rec (motive:=fun _=>KRes) (fun n=>AV.rec (motive_1:=fun _=>KRes) (motive_2:=fun _=>Unit) (motive_3:=fun _=>Unit) (fun _ _=>.no) (fun _=>.no) (fun _=>.no) (.no) (fun _ _=>.no) (fun _ _=>.no) (fun k l _ _=>Bool.rec (motive:=fun _=>KRes) (.no) (Bool.rec (motive:=fun _=>KRes) (.no) (nth9 .no l n fun e=>.val (.rptr e)) (Nat.ble 1 k)) (Nat.beq k sz)) (fun k l _=>Bool.rec (motive:=fun _=>KRes) (.no) (Bool.rec (motive:=fun _=>KRes) (.no) (nth9 .no l n fun e=>.val (.rptr e)) (Nat.ble 1 k)) (Nat.beq k sz)) (.no) (fun _ _=>.no) (fun _ _=>.no) (fun _ _ _ _ _=>.no) (.no) (fun _ _ _=>.no) (.no) (fun _=>.no) (.no) (fun i k o m _=>Bool.rec (motive:=fun _=>KRes) (.no) (Bool.rec (motive:=fun _=>KRes) (.no) (Bool.rec (motive:=fun _=>KRes) (.no) (fnat (Nat.add o n) fun q=>.val (.eptr i k q 0)) (Nat.ble (Nat.succ n) m)) (Nat.ble 1 k)) (Nat.beq k sz)) (fun i k m=>Bool.rec (motive:=fun _=>KRes) (.no) (Bool.rec (motive:=fun _=>KRes) (.no) (Bool.rec (motive:=fun _=>KRes) (.no) (.val (.eptr i k n 0)) (Nat.ble (Nat.succ n) m)) (Nat.ble 1 k)) (Nat.beq k sz)) (fun _ _ _ _=>.no) (fun _ _ _=>.no) (.no) () (fun _ _ _ _=>()) () (fun _ _ _ _=>()) (v)) (fun _=>.no) (n)) (fun _=>.no) (fun _=>.no) (.no) (fun _ _=>.no) (fun _ _=>.no) (fun _ _ _ _=>.no) (fun _ _ _=>.no) (.no) (fun _ _=>.no) (fun _ _=>.no) (fun _ _ _ _ _=>.no) (.no) (fun _ _ _=>.no) (.no) (fun _=>.no) (.no) (fun _ _ _ _ _=>.no) (fun _ _ _=>.no) (fun _ _ _ _=>.no) (fun _ _ _=>.no) (.no) () (fun _ _ _ _=>()) () (fun _ _ _ _=>()) (n)
theorem ix9_le{T:TabT}{ti e:TI}(hs:ti.sort=.sl)(he:T ti.elem=some e)(v n:AV):KLe (ix9 e.size v n) (fin (aindexAddr T ti v n)):=by
 cases n with
 |int kk n=>
  cases n with
  |negSucc n=>exact .no _
  |ofNat n=>
   cases v with
   |sl k l tk=>
    show KLe (Bool.rec (motive:=fun _=>KRes) .no (Bool.rec (motive:=fun _=>KRes) .no (nth9 .no l n _) (Nat.ble 1 k)) (Nat.beq k e.size)) _
    cases h1:Nat.beq k e.size with
    |false=>exact .no _
    |true=>cases h2:Nat.ble 1 k with
     |false=>exact .no _
     |true=>
      show KLe (nth9 .no l n _) _;rw[nth9_eq]
      cases hj:l[n]? with
      |none=>exact .no _
      |some x=>
       unfold aindexAddr;rw[hs,he];have hl:=(Va hj).1
       have hge:l.getD (Int.ofNat n).toNat []=x:=by rw[show(Int.ofNat n).toNat=n from rfl,List.getD_eq_getElem?_getD,hj];rfl
       dsimp only;rw[hge];exact .inr (fin_val _ ⟨beq_iff.1 h1,Nat.le_of_ble_eq_true h2,by simp,by simp only[Int.ofNat_eq_natCast];omega⟩ _).symm
   |psl k l=>
    show KLe (Bool.rec (motive:=fun _=>KRes) .no (Bool.rec (motive:=fun _=>KRes) .no (nth9 .no l n _) (Nat.ble 1 k)) (Nat.beq k e.size)) _
    cases h1:Nat.beq k e.size with
    |false=>exact .no _
    |true=>cases h2:Nat.ble 1 k with
     |false=>exact .no _
     |true=>
      show KLe (nth9 .no l n _) _;rw[nth9_eq]
      cases hj:l[n]? with
      |none=>exact .no _
      |some x=>
       unfold aindexAddr;rw[hs,he];have hl:=(Va hj).1
       have hge:l.getD (Int.ofNat n).toNat []=x:=by rw[show(Int.ofNat n).toNat=n from rfl,List.getD_eq_getElem?_getD,hj];rfl
       dsimp only;rw[hge];exact .inr (fin_val _ ⟨beq_iff.1 h1,Nat.le_of_ble_eq_true h2,by simp,by simp only[Int.ofNat_eq_natCast];omega⟩ _).symm
   |msl i k o m c=>
    show KLe (Bool.rec (motive:=fun _=>KRes) .no (Bool.rec (motive:=fun _=>KRes) .no (Bool.rec (motive:=fun _=>KRes) .no (fnat (o+n) _) (Nat.ble (n+1) m)) (Nat.ble 1 k)) (Nat.beq k e.size)) _
    cases h1:Nat.beq k e.size with
    |false=>exact .no _
    |true=>cases h2:Nat.ble 1 k with
     |false=>exact .no _
     |true=>cases h3:Nat.ble (n+1) m with
      |false=>exact .no _
      |true=>
       show KLe (fnat (o+n) _) _;rw[fnat_eq];unfold aindexAddr;rw[hs,he];have:=Nat.le_of_ble_eq_true h3;exact .inr (fin_val _ ⟨beq_iff.1 h1,Nat.le_of_ble_eq_true h2,by simp,by simp only[Int.ofNat_eq_natCast];omega⟩ _).symm
   |msu i k m=>
    show KLe (Bool.rec (motive:=fun _=>KRes) .no (Bool.rec (motive:=fun _=>KRes) .no (Bool.rec (motive:=fun _=>KRes) .no (.val (.eptr i k n 0)) (Nat.ble (n+1) m)) (Nat.ble 1 k)) (Nat.beq k e.size)) _
    cases h1:Nat.beq k e.size with
    |false=>exact .no _
    |true=>cases h2:Nat.ble 1 k with
     |false=>exact .no _
     |true=>cases h3:Nat.ble (n+1) m with
      |false=>exact .no _
      |true=>
       unfold aindexAddr;rw[hs,he];have:=Nat.le_of_ble_eq_true h3;exact .inr (fin_val _ ⟨beq_iff.1 h1,Nat.le_of_ble_eq_true h2,by simp,by simp only[Int.ofNat_eq_natCast];omega⟩ _).symm
   |_=>exact .no _
 |_=>exact .no _
noncomputable def isI64(k:IntKind):Bool:=IntKind.rec (motive:=fun _=>Bool) (false) (false) (false) (true) (false) (false) (false) (false) (k)
theorem isI64_eq{k:IntKind}(h:isI64 k=true):k=.i64:=by cases k<;>first|rfl|cases h
noncomputable def keq9(a b:IntKind):Bool:=IntKind.rec (motive:=fun _=>Bool) (IntKind.rec (motive:=fun _=>Bool) (true) (false) (false) (false) (false) (false) (false) (false) (b)) (IntKind.rec (motive:=fun _=>Bool) (false) (true) (false) (false) (false) (false) (false) (false) (b)) (IntKind.rec (motive:=fun _=>Bool) (false) (false) (true) (false) (false) (false) (false) (false) (b)) (IntKind.rec (motive:=fun _=>Bool) (false) (false) (false) (true) (false) (false) (false) (false) (b)) (IntKind.rec (motive:=fun _=>Bool) (false) (false) (false) (false) (true) (false) (false) (false) (b)) (IntKind.rec (motive:=fun _=>Bool) (false) (false) (false) (false) (false) (true) (false) (false) (b)) (IntKind.rec (motive:=fun _=>Bool) (false) (false) (false) (false) (false) (false) (true) (false) (b)) (IntKind.rec (motive:=fun _=>Bool) (false) (false) (false) (false) (false) (false) (false) (true) (b)) (a)
theorem keq9_eq{a b:IntKind}(h:keq9 a b=true):a=b:=by cases a<;>cases b<;>first|rfl|cases h
noncomputable def cmpw9(f:Int->Int->Bool)(x y:AV):KRes:=AV.rec (motive_1:=fun _=>KRes) (motive_2:=fun _=>Unit) (motive_3:=fun _=>Unit) (fun k a=>AV.rec (motive_1:=fun _=>KRes) (motive_2:=fun _=>Unit) (motive_3:=fun _=>Unit) (fun k2 b=>Bool.rec (motive:=fun _=>KRes) (.no) (.val (.bool (f a b))) (keq9 k k2)) (fun _=>.no) (fun _=>.no) (.no) (fun _ _=>.no) (fun _ _=>.no) (fun _ _ _ _=>.no) (fun _ _ _=>.no) (.no) (fun _ _=>.no) (fun _ _=>.no) (fun _ _ _ _ _=>.no) (.no) (fun _ _ _=>.no) (.no) (fun _=>.no) (.no) (fun _ _ _ _ _=>.no) (fun _ _ _=>.no) (fun _ _ _ _=>.no) (fun _ _ _=>.no) (.no) () (fun _ _ _ _=>()) () (fun _ _ _ _=>()) (y)) (fun _=>.no) (fun _=>.no) (.no) (fun _ _=>.no) (fun _ _=>.no) (fun _ _ _ _=>.no) (fun _ _ _=>.no) (.no) (fun _ _=>.no) (fun _ _=>.no) (fun _ _ _ _ _=>.no) (.no) (fun _ _ _=>.no) (.no) (fun _=>.no) (.no) (fun _ _ _ _ _=>.no) (fun _ _ _=>.no) (fun _ _ _ _=>.no) (fun _ _ _=>.no) (.no) () (fun _ _ _ _=>()) () (fun _ _ _ _=>()) (x)
noncomputable def addw9(f:Int->Int->Int)(x y:AV):KRes:=AV.rec (motive_1:=fun _=>KRes) (motive_2:=fun _=>Unit) (motive_3:=fun _=>Unit) (fun k a=>AV.rec (motive_1:=fun _=>KRes) (motive_2:=fun _=>Unit) (motive_3:=fun _=>Unit) (fun k2 b=>Bool.rec (motive:=fun _=>KRes) (.no) (Bool.rec (motive:=fun _=>KRes) (.no) (rng9 .no (f a b) fun r=>.val (.int .i64 r)) (isI64 k2)) (isI64 k)) (fun _=>.no) (fun _=>.no) (.no) (fun _ _=>.no) (fun _ _=>.no) (fun _ _ _ _=>.no) (fun _ _ _=>.no) (.no) (fun _ _=>.no) (fun _ _=>.no) (fun _ _ _ _ _=>.no) (.no) (fun _ _ _=>.no) (.no) (fun _=>.no) (.no) (fun _ _ _ _ _=>.no) (fun _ _ _=>.no) (fun _ _ _ _=>.no) (fun _ _ _=>.no) (.no) () (fun _ _ _ _=>()) () (fun _ _ _ _=>()) (y)) (fun _=>.no) (fun _=>.no) (.no) (fun _ _=>.no) (fun _ _=>.no) (fun _ _ _ _=>.no) (fun _ _ _=>.no) (.no) (fun _ _=>.no) (fun _ _=>.no) (fun _ _ _ _ _=>.no) (.no) (fun _ _ _=>.no) (.no) (fun _=>.no) (.no) (fun _ _ _ _ _=>.no) (fun _ _ _=>.no) (fun _ _ _ _=>.no) (fun _ _ _=>.no) (.no) () (fun _ _ _ _=>()) () (fun _ _ _ _=>()) (x)
theorem cmpw9_le{op:BinOp}{f:Int->Int->Bool}(hs:∀ k a b,ashift op k a b=none)(hf:∀ a b,acmp op a b=some (f a b))(ti:TI)(c:Bool)(x y:AV):KLe (cmpw9 f x y) (fin (abin op ti c x y)):=by
 cases x with
 |int k a=>cases y with
  |int k2 b=>
   show KLe (Bool.rec (motive:=fun _=>KRes) .no (.val (.bool (f a b))) (keq9 k k2)) _
   cases hk:keq9 k k2 with
   |false=>exact .no _
   |true=>
    have e:=keq9_eq hk;subst e;refine .inr ?_;show KRes.val (.bool (f a b))=fin (match ashift op k a b with|some r=>some r|none=>if k=k then(match acmp op a b with|some r=>ok1 (.bool r)|none=>aarith op k a b) else none);rw[hs,hf];dsimp only;rw[if_pos rfl];rfl
  |_=>exact .no _
 |_=>exact .no _
theorem addw9_le{op:BinOp}{f:Int->Int->Int}(hs:∀ k a b,ashift op k a b=none)(hc:∀ a b,acmp op a b=none)(hf:∀ a b,aarith op .i64 a b=some ⟨I64 (f a b),.int .i64 (f a b),none⟩)(ti:TI)(c:Bool)(x y:AV):KLe (addw9 f x y) (fin (abin op ti c x y)):=by
 cases x with
 |int k a=>cases y with
  |int k2 b=>
   show KLe (Bool.rec (motive:=fun _=>KRes) .no (Bool.rec (motive:=fun _=>KRes) .no (rng9 .no (f a b) _) (isI64 k2)) (isI64 k)) _
   cases hk:isI64 k with
   |false=>exact .no _
   |true=>cases hk2:isI64 k2 with
    |false=>exact .no _
    |true=>
     have e:=isI64_eq hk;have e2:=isI64_eq hk2;subst e e2;show KLe (rng9 .no (f a b) _) (fin (match ashift op .i64 a b with|some r=>some r|none=>if IntKind.i64=IntKind.i64 then(match acmp op a b with|some r=>ok1 (.bool r)|none=>aarith op .i64 a b) else none));rw[rng9_eq,hs,hc];dsimp only;rw[if_pos rfl,hf]
     by_cases hr:I64 (f a b)
     ·rw[if_pos hr];exact .inr (fin_val _ hr _).symm
     ·rw[if_neg hr];exact .no _
  |_=>exact .no _
 |_=>exact .no _
theorem add_le(ti:TI)(c:Bool)(x y:AV):KLe (addw9 iad9 x y) (fin (abin .add ti c x y)):=
 addw9_le (fun _ _ _=>rfl) (fun _ _=>rfl) (fun a b=>by rw[iad9_eq];rfl) ti c x y
theorem sub_le(ti:TI)(c:Bool)(x y:AV):KLe (addw9 (fun a b=>iad9 a (ing9 b)) x y) (fin (abin .sub ti c x y)):=
 addw9_le (fun _ _ _=>rfl) (fun _ _=>rfl) (fun a b=>by
  have:iad9 a (ing9 b)=a-b:=by rw[iad9_eq,ing9_eq];omega
  rw[this];rfl) ti c x y
theorem lss_le(ti:TI)(c:Bool)(x y:AV):KLe (cmpw9 ilt9 x y) (fin (abin .lss ti c x y)):=cmpw9_le (fun _ _ _=>rfl) (fun a b=>by rw[ilt9_eq];rfl) ti c x y
theorem gtr_le(ti:TI)(c:Bool)(x y:AV):KLe (cmpw9 (fun a b=>ilt9 b a) x y) (fin (abin .gtr ti c x y)):=cmpw9_le (fun _ _ _=>rfl) (fun a b=>by rw[ilt9_eq];rfl) ti c x y
theorem leq_le(ti:TI)(c:Bool)(x y:AV):KLe (cmpw9 (fun a b=>not9 (ilt9 b a)) x y) (fin (abin .leq ti c x y)):=cmpw9_le (fun _ _ _=>rfl) (fun a b=>by
 have:not9 (ilt9 b a)=decide (a<=b):=by rw[not9_eq,ilt9_eq,<- decide_not];exact decide_eq_decide.2 (by omega)
 rw[this];rfl) ti c x y
theorem geq_le(ti:TI)(c:Bool)(x y:AV):KLe (cmpw9 (fun a b=>not9 (ilt9 a b)) x y) (fin (abin .geq ti c x y)):=cmpw9_le (fun _ _ _=>rfl) (fun a b=>by
 have:not9 (ilt9 a b)=decide (b<=a):=by rw[not9_eq,ilt9_eq,<- decide_not];exact decide_eq_decide.2 (by omega)
 rw[this];rfl) ti c x y
noncomputable def eqw9(neg:Bool)(z:KRes)(x y:AV):KRes:=AV.rec (motive_1:=fun _=>KRes) (motive_2:=fun _=>Unit) (motive_3:=fun _=>Unit) (fun k a=>AV.rec (motive_1:=fun _=>KRes) (motive_2:=fun _=>Unit) (motive_3:=fun _=>Unit) (fun k2 b=>Bool.rec (motive:=fun _=>KRes) (.no) (.val (.bool (Bool.rec (motive:=fun _=>Bool) (ieq9 a b) (not9 (ieq9 a b)) (neg)))) (keq9 k k2)) (fun _=>z) (fun _=>z) (z) (fun _ _=>z) (fun _ _=>z) (fun _ _ _ _=>z) (fun _ _ _=>z) (z) (fun _ _=>z) (fun _ _=>z) (fun _ _ _ _ _=>z) (z) (fun _ _ _=>z) (z) (fun _=>z) (z) (fun _ _ _ _ _=>z) (fun _ _ _=>z) (fun _ _ _ _=>z) (fun _ _ _=>z) (z) () (fun _ _ _ _=>()) () (fun _ _ _ _=>()) (y)) (fun _=>z) (fun _=>z) (z) (fun _ _=>z) (fun _ _=>z) (fun _ _ _ _=>z) (fun _ _ _=>z) (z) (fun _ _=>z) (fun _ _=>z) (fun _ _ _ _ _=>z) (z) (fun _ _ _=>z) (z) (fun _=>z) (z) (fun _ _ _ _ _=>z) (fun _ _ _=>z) (fun _ _ _ _=>z) (fun _ _ _=>z) (z) () (fun _ _ _ _=>()) () (fun _ _ _ _=>()) (x)
theorem eql_le(ti:TI)(c:Bool)(x y:AV):KLe (eqw9 false (fin (abin .eql ti c x y)) x y) (fin (abin .eql ti c x y)):=by
 have h:=cmpw9_le (op:=.eql) (f:=ieq9) (fun _ _ _=>rfl) (fun a b=>by rw[ieq9_eq];rfl) ti c x y
 cases x with
 |int k a=>cases y with
  |int k2 b=>exact h
  |_=>exact .refl _
 |_=>exact .refl _
theorem neq_le(ti:TI)(c:Bool)(x y:AV):KLe (eqw9 true (fin (abin .neq ti c x y)) x y) (fin (abin .neq ti c x y)):=by
 have h:=cmpw9_le (op:=.neq) (f:=fun a b=>not9 (ieq9 a b)) (fun _ _ _=>rfl) (fun a b=>by rw[not9_eq,ieq9_eq];rfl) ti c x y
 cases x with
 |int k a=>cases y with
  |int k2 b=>exact h
  |_=>exact .refl _
 |_=>exact .refl _
noncomputable def bothi9(u z:KRes)(x y:AV):KRes:=AV.rec (motive_1:=fun _=>KRes) (motive_2:=fun _=>Unit) (motive_3:=fun _=>Unit) (fun k a=>AV.rec (motive_1:=fun _=>KRes) (motive_2:=fun _=>Unit) (motive_3:=fun _=>Unit) (fun k2 b=>Bool.rec (motive:=fun _=>KRes) (z) (u) (isI64 k)) (fun _=>z) (fun _=>z) (z) (fun _ _=>z) (fun _ _=>z) (fun _ _ _ _=>z) (fun _ _ _=>z) (z) (fun _ _=>z) (fun _ _=>z) (fun _ _ _ _ _=>z) (z) (fun _ _ _=>z) (z) (fun _=>z) (z) (fun _ _ _ _ _=>z) (fun _ _ _=>z) (fun _ _ _ _=>z) (fun _ _ _=>z) (z) () (fun _ _ _ _=>()) () (fun _ _ _ _=>()) (y)) (fun _=>z) (fun _=>z) (z) (fun _ _=>z) (fun _ _=>z) (fun _ _ _ _=>z) (fun _ _ _=>z) (z) (fun _ _=>z) (fun _ _=>z) (fun _ _ _ _ _=>z) (z) (fun _ _ _=>z) (z) (fun _=>z) (z) (fun _ _ _ _ _=>z) (fun _ _ _=>z) (fun _ _ _ _=>z) (fun _ _ _=>z) (z) () (fun _ _ _ _=>()) () (fun _ _ _ _=>()) (x)
theorem bothi9_le{u w:KRes}(h:KLe u w)(x y:AV):KLe (bothi9 u w x y) w:=by
 cases x with
 |int k a=>cases y with
  |int k2 b=>
   show KLe (Bool.rec (motive:=fun _=>KRes) w u (isI64 k)) w
   cases isI64 k with
   |true=>exact h
   |false=>exact .refl _
  |_=>exact .refl _
 |_=>exact .refl _
noncomputable def cmpz9(z:KRes)(f:Int->Int->Bool)(x y:AV):KRes:=AV.rec (motive_1:=fun _=>KRes) (motive_2:=fun _=>Unit) (motive_3:=fun _=>Unit) (fun k a=>AV.rec (motive_1:=fun _=>KRes) (motive_2:=fun _=>Unit) (motive_3:=fun _=>Unit) (fun k2 b=>Bool.rec (motive:=fun _=>KRes) (.no) (.val (.bool (f a b))) (keq9 k k2)) (fun _=>z) (fun _=>z) (z) (fun _ _=>z) (fun _ _=>z) (fun _ _ _ _=>z) (fun _ _ _=>z) (z) (fun _ _=>z) (fun _ _=>z) (fun _ _ _ _ _=>z) (z) (fun _ _ _=>z) (z) (fun _=>z) (z) (fun _ _ _ _ _=>z) (fun _ _ _=>z) (fun _ _ _ _=>z) (fun _ _ _=>z) (z) () (fun _ _ _ _=>()) () (fun _ _ _ _=>()) (y)) (fun _=>z) (fun _=>z) (z) (fun _ _=>z) (fun _ _=>z) (fun _ _ _ _=>z) (fun _ _ _=>z) (z) (fun _ _=>z) (fun _ _=>z) (fun _ _ _ _ _=>z) (z) (fun _ _ _=>z) (z) (fun _=>z) (z) (fun _ _ _ _ _=>z) (fun _ _ _=>z) (fun _ _ _ _=>z) (fun _ _ _=>z) (z) () (fun _ _ _ _=>()) () (fun _ _ _ _=>()) (x)
theorem cmpz9_le{z:KRes}{f:Int->Int->Bool}{x y:AV}(h:KLe (cmpw9 f x y) z):KLe (cmpz9 z f x y) z:=by
 cases x with
 |int k a=>cases y with
  |int k2 b=>exact h
  |_=>exact .refl _
 |_=>exact .refl _
structure BF where
 f:AV->AV->KRes
noncomputable def bnf(op:BinOp)(ti:TI)(c:Bool):BF:=match op with
 |.add=>⟨fun x y=>bothi9 (addw9 iad9 x y) (fin (abin .add ti c x y)) x y⟩
 |.sub=>⟨fun x y=>bothi9 (addw9 (fun a b=>iad9 a (ing9 b)) x y) (fin (abin .sub ti c x y)) x y⟩
 |.lss=>⟨fun x y=>cmpz9 (fin (abin .lss ti c x y)) ilt9 x y⟩
 |.gtr=>⟨fun x y=>cmpz9 (fin (abin .gtr ti c x y)) (fun a b=>ilt9 b a) x y⟩
 |.leq=>⟨fun x y=>cmpz9 (fin (abin .leq ti c x y)) (fun a b=>not9 (ilt9 b a)) x y⟩
 |.geq=>⟨fun x y=>cmpz9 (fin (abin .geq ti c x y)) (fun a b=>not9 (ilt9 a b)) x y⟩
 |.eql=>⟨fun x y=>eqw9 false (fin (abin .eql ti c x y)) x y⟩
 |.neq=>⟨fun x y=>eqw9 true (fin (abin .neq ti c x y)) x y⟩
 |op=>⟨fun x y=>fin (abin op ti c x y)⟩
theorem bnf_le(op:BinOp)(ti:TI)(c:Bool)(x y:AV):KLe ((bnf op ti c).f x y) (fin (abin op ti c x y)):=by
 cases op<;>first
  |exact .refl _
  |exact bothi9_le (add_le ti c x y) x y
  |exact bothi9_le (sub_le ti c x y) x y
  |exact cmpz9_le (lss_le ti c x y)
  |exact cmpz9_le (gtr_le ti c x y)
  |exact cmpz9_le (leq_le ti c x y)
  |exact cmpz9_le (geq_le ti c x y)
  |exact eql_le ti c x y
  |exact neq_le ti c x y
/-! ### compiled -/
noncomputable def kact9(T:TabT)(op:Op):KAct9:=match op with
 |.move x|.assign x=>wop0 x fun g=>.pure fun _ t _=>.val (g t)
 |.pick c x y=>wop0 c fun gc=>wop0 x fun gx=>wop0 y fun gy=>.pure fun _ t _=>pk9 (gc t) (gx t) (gy t)
 |.nilCheck x=>wop0 x fun g=>.pure fun _ t _=>nc9 (g t)
 |.extract x i=>wop0 x fun g=>.pure fun _ t _=>ex9 i (g t)
 |.unOp .not _ x=>wop0 x fun g=>.pure fun _ t _=>nt9 (g t)
 |.makeFunc (.func f) a b=>wops a.toList fun ga=>wops b.toList fun gb=>.pure fun _ t _=>.val (.fn (.func f) (ga t) (gb t))
 |.box _ x=>wop0 x fun g=>.mk (fun _=>true) fun slot t _=>bx9 slot (g t)
 |.alloc e=>match T e with
  |some ti=>.mk (fun _=>true) fun slot _ _=>.wr (.ptr slot 0) slot (.box ti.zero)
  |none=>.bad
 |.fieldAddr e x f=>match T e with
  |some ti=>match ti.sort with
   |.st=>match ti.offs[f]? with
    |some q=>wop0 x fun g=>.pure fun _ t _=>fa9 q.1 (g t)
    |none=>slow (kact T op)
   |_=>slow (kact T op)
  |none=>slow (kact T op)
 |.load e x=>match T e with
  |some ti=>match ti.agg||Nat.beq ti.size 1 with
   |true=>wop0 x fun g=>.pure fun _ t hg=>kload9 ti.agg ti.size hg (g t)
   |false=>slow (kact T op)
  |none=>slow (kact T op)
 |.store e x v=>match T e with
  |some ti=>wop0 x fun g=>wop0 v fun gv=>.pure fun _ t hg=>kstore9 ti.size hg (gv t) (g t)
  |none=>slow (kact T op)
 |.indexAddr e x i=>match T e with
  |some ti=>match ti.sort with
   |.sl=>match T ti.elem with
    |some ei=>wop0 x fun g=>wop0 i fun gi=>.pure fun _ t _=>ix9 ei.size (g t) (gi t)
    |none=>slow (kact T op)
   |_=>slow (kact T op)
  |none=>slow (kact T op)
 |.call ⟨.builtin .len,⟨[x]⟩,⟨[e]⟩⟩=>match T e with
  |some ti=>match slB ti with
   |some b=>wop0 x fun g=>.pure fun _ t _=>ln9 b (g t)
   |none=>slow (kact T op)
  |none=>slow (kact T op)
 |.call ⟨.value (.func g),az,_⟩=>wops az.toList fun ga=>.fcall g ga
 |.call ⟨.value x,az,_⟩=>wop0 x fun g=>wops az.toList fun ga=>.call g ga
 |.binOp o e x y _=>match T e with
  |some ti=>BF.rec (motive:=fun _=>KAct9) (fun f=>wop0 x fun gx=>wop0 y fun gy=>.pure fun _ t _=>f (gx t) (gy t)) (bnf o ti (isc x||isc y))
  |none=>slow (kact T op)
 |_=>slow (kact T op)
theorem kact9_le(T:TabT)(op:Op):ALe (kact9 T op) (slow (kact T op)):=by
 unfold kact9
 split
 ·rw[wop0_eq];exact .refl _
 ·rw[wop0_eq];exact .refl _
 ·rw[wop0_eq,wop0_eq,wop0_eq];exact .pure _ _ fun n t hg=>.inr (pk9_eq _ _ _)
 ·rw[wop0_eq];exact .pure _ _ fun n t hg=>.inr (nc9_eq _)
 ·rw[wop0_eq];exact .pure _ _ fun n t hg=>.inr (ex9_eq _ _)
 ·rw[wop0_eq];exact .pure _ _ fun n t hg=>.inr (nt9_eq _)
 ·rw[wops_eq,wops_eq];exact .refl _
 ·rw[wop0_eq];exact .mk _ _ _ fun n t hg=>.inr (bx9_eq _ _)
 ·rename_i e;unfold kact;dsimp only;cases T e<;>exact .refl _
 ·rename_i e x f
  split
  ·rename_i ti hti
   split
   ·rename_i hs
    split
    ·rename_i q hq;rw[wop0_eq];unfold kact;dsimp only;rw[hti];refine .pure _ _ fun n t hg=>?_;have:=fa9_le ti f q hq (kev t x);dsimp only;rw[hs];exact this
    ·exact .refl _
   ·exact .refl _
  ·exact .refl _
 ·rename_i e x
  split
  ·rename_i ti hti
   split
   ·rename_i hc;rw[wop0_eq];unfold kact;dsimp only;rw[hti];refine .pure _ _ fun n t hg=>kload9_le ?_ hg _;rw[Bool.or_eq_true] at hc;exact hc.imp id beq_iff.1
   ·exact .refl _
  ·exact .refl _
 ·rename_i e x v
  split
  ·rename_i ti hti;rw[wop0_eq,wop0_eq];unfold kact;dsimp only;rw[hti];exact .pure _ _ fun n t hg=>kstore9_le ti hg _ _
  ·exact .refl _
 ·rename_i e x i
  split
  ·rename_i ti hti
   split
   ·rename_i hs
    split
    ·rename_i ei hei;rw[wop0_eq,wop0_eq];unfold kact;dsimp only;rw[hti];exact .pure _ _ fun n t hg=>ix9_le hs hei _ _
    ·exact .refl _
   ·exact .refl _
  ·exact .refl _
 ·rename_i x e
  split
  ·rename_i ti hti
   split
   ·rename_i b hb;rw[wop0_eq];unfold kact;dsimp only;rw[hti];exact .pure _ _ fun n t hg=>ln9_le hb _
   ·exact .refl _
  ·exact .refl _
 ·rw[wops_eq];exact .refl _
 ·rename_i x az _ hne;rw[wop0_eq,wops_eq];unfold kact
  cases x with
  |func g=>exact absurd rfl (hne g)
  |_=>exact .refl _
 ·rename_i o e x y _
  split
  ·rename_i ti hti;have h:=bnf_le o ti (isc x||isc y);unfold kact;dsimp only;rw[hti];generalize bnf o ti (isc x||isc y)=q at h;obtain⟨f⟩:=q;show ALe (wop0 x fun gx=>wop0 y fun gy=>.pure fun _ t _=>f (gx t) (gy t)) _;rw[wop0_eq,wop0_eq];exact .pure _ _ fun n t hg=>h _ _
  ·exact .refl _
 ·exact .refl _
set_option linter.unusedVariables false
def KKLe(k k2:KK):Prop:=∀ t h,RLe (k t h) (k2 t h)
def CLe(C D:KC):Prop:=∀ o g args h,RLe (C o g args h) (D o g args h)
def thn(x:Option KS)(k:KK):RR:=match x with
 |some s=>k s.t s.h
 |none=>none
theorem thn_le{x:Option KS}{k k2:KK}(h:KKLe k k2):RLe (thn x k) (thn x k2):=by
 cases x with
 |none=>exact .none _
 |some s=>exact h _ _
abbrev WW:=Fr->AV->Fr
noncomputable def wput(d:Option Nat):WW:=fun t v=>kput t d v
theorem kwr_wput(d:Option Nat):(kwr d).f=wput d:=funext fun t=>funext fun v=>kwr_eq d t v
noncomputable def kres9(w:WW)(k:KK)(t:Fr)(h:HT)(r:KRes):RR:=KRes.rec (motive:=fun _=>RR) (none) (fun v=>k (w t v) h) (fun v i x=>k (w t v) (h.set i x)) (r)
theorem kres9_le(w:WW){k k2:KK}(hk:KKLe k k2)(t:Fr)(h:HT){r r2:KRes}(hr:KLe r r2):RLe (kres9 w k t h r) (kres9 w k2 t h r2):=by
 rcases hr with rfl|rfl
 ·exact .none _
 ·cases r with
  |no=>exact .none _
  |val v=>exact hk _ _
  |wr v i x=>exact hk _ _
theorem kres9_thn(d:Option Nat)(k:KK)(t:Fr)(h:HT)(r:Option ARes):kres9 (wput d) k t h (fin r)=thn (nres d t h r) k:=by
 cases r with
 |none=>rfl
 |some r=>
  obtain @⟨q,v,dd,dec⟩:=r
  cases dec with
  |isFalse _=>rfl
  |isTrue _=>
   cases dd with
   |none=>rfl
   |some x=>rfl
noncomputable def ret9(w:WW)(k:KK)(t:Fr)(x:RR):RR:=Option.rec (motive:=fun _=>RR) (none) (fun q=>Prod.rec (motive:=fun _=>RR) (fun r h=>k (w t r) h) q) (x)
theorem ret9_le(w:WW){k k2:KK}(hk:KKLe k k2)(t:Fr){x y:RR}(h:RLe x y):RLe (ret9 w k t x) (ret9 w k2 t y):=by
 cases x with
 |none=>exact .none _
 |some q=>
  rw[h q rfl];exact hk _ _
theorem ret9_thn(d:Option Nat)(k:KK)(t:Fr)(x:RR):ret9 (wput d) k t x=thn (nput d t x) k:=by
 cases x with
 |none=>rfl
 |some q=>rfl
noncomputable def app9{α:Type}(a b:List α):List α:=List.rec (motive:=fun _=>List α) b (fun x _ ih=>x::ih) a
theorem app9_eq{α:Type}(b:List α):∀ a:List α,app9 a b=a++b
 |[]=>rfl
 |x::a=>congrArg (List.cons x) (app9_eq b a)
noncomputable def nact9(C:KC)(sp:Bool)(o:Oper)(w:WW)(k:KK)(t:Fr)(h:HT)(a:KAct9):RR:=KAct9.rec (motive:=fun _=>RR) (fun f=>kres9 w k t h (f h.n t h.get)) (fun nd f=>Bool.rec (motive:=fun _=>RR) (kres9 w k t h (f h.n t h.get)) (Bool.rec (motive:=fun _=>RR) ((fun h1=>kres9 w k t h1 (f h.n t h1.get)) (h.push .free)) (none) (Nat.ble 4096 h.n)) (nd t)) (fun x az=>AV.rec (motive_1:=fun _=>RR) (motive_2:=fun _=>Unit) (motive_3:=fun _=>Unit) (fun _ _=>none) (fun _=>none) (fun _=>none) (none) (fun _ _=>none) (fun _ _=>none) (fun _ _ _ _=>none) (fun _ _ _=>none) (none) (fun _ _=>none) (fun _ _=>none) (fun fn0 fi ca _ _=>Fn.rec (motive:=fun _=>RR) (fun g=>ret9 w k t (C o g (app9 fi (app9 (az t) ca)) h)) (fun _=>none) (fun _ _=>none) (fun _ _ _ _=>none) (fun _=>none) (fn0)) (none) (fun _ _ _=>none) (none) (fun _=>none) (none) (fun _ _ _ _ _=>none) (fun _ _ _=>none) (fun _ _ _ _=>none) (fun _ _ _=>none) (none) () (fun _ _ _ _=>()) () (fun _ _ _ _=>()) (x t)) (fun g az=>ret9 w k t (C o g (az t) h)) (fun op=>Bool.rec (motive:=fun _=>RR) (none) (thn (nspec o.dst ⟨t,h⟩ (kspec (kev t) h.get op)) k) (sp)) (none) (a)
theorem nact9_le{a b:KAct9}(ha:ALe a b){C D:KC}(hC:CLe C D)(sp:Bool)(o:Oper)(w:WW){k k2:KK}(hk:KKLe k k2)(t:Fr)(h:HT):RLe (nact9 C sp o w k t h a) (nact9 D sp o w k2 t h b):=by
 cases ha with
 |refl=>
  cases a with
  |pure f=>exact kres9_le w hk t h (.refl _)
  |mk nd f=>
   show RLe (Bool.rec (motive:=fun _=>RR) _ _ (nd t)) (Bool.rec (motive:=fun _=>RR) _ _ (nd t))
   cases nd t with
   |false=>exact kres9_le w hk t h (.refl _)
   |true=>
    dsimp only
    cases Nat.ble 4096 h.n with
    |true=>exact .none _
    |false=>exact kres9_le w hk t _ (.refl _)
  |call x az=>
   show RLe (AV.rec (motive_1:=fun _=>RR) _ _ _ _ _ _ _ _ _ _ _ _ _ _ _ _ _ _ _ _ _ _ _ _ _ _ (x t)) (AV.rec (motive_1:=fun _=>RR) _ _ _ _ _ _ _ _ _ _ _ _ _ _ _ _ _ _ _ _ _ _ _ _ _ _ (x t))
   cases x t with
   |fn f fi ca=>cases f with
    |func g=>exact ret9_le w hk t (hC o g _ h)
    |_=>exact .none _
   |_=>exact .none _
  |fcall g az=>exact ret9_le w hk t (hC o g _ h)
  |spec op=>cases sp with
   |true=>exact thn_le hk
   |false=>exact .none _
  |bad=>exact .none _
 |pure f g hfg=>exact kres9_le w hk t h (hfg _ _ _)
 |mk nd f g hfg=>
  show RLe (Bool.rec (motive:=fun _=>RR) _ _ (nd t)) (Bool.rec (motive:=fun _=>RR) _ _ (nd t))
  cases nd t with
  |false=>exact kres9_le w hk t h (hfg _ _ _)
  |true=>
   dsimp only
   cases Nat.ble 4096 h.n with
   |true=>exact .none _
   |false=>exact kres9_le w hk t _ (hfg _ _ _)
theorem nact9_slow(C:KC)(sp:Bool)(o:Oper)(k:KK)(t:Fr)(h:HT)(a:KAct):nact9 C sp o (wput o.dst) k t h (slow a)=thn (nact C sp o ⟨t,h⟩ a) k:=by
 cases a with
 |pure f=>exact kres9_thn _ _ _ _ _
 |mk nd f=>
  show Bool.rec (motive:=fun _=>RR) _ _ (nd (kev t))=thn (nmk f o.dst ⟨t,h⟩ (kext (nd (kev t)) h)) k
  cases nd (kev t) with
  |false=>exact kres9_thn _ _ _ _ _
  |true=>
   unfold kext;dsimp only
   cases Nat.ble 4096 h.n with
   |true=>rfl
   |false=>exact kres9_thn _ _ _ _ _
 |call x az=>
  show AV.rec (motive_1:=fun _=>RR) _ _ _ _ _ _ _ _ _ _ _ _ _ _ _ _ _ _ _ _ _ _ _ _ _ _ (kev t x)=thn (ncall C o az ⟨t,h⟩ (kev t x)) k
  cases kev t x with
  |fn f fi ca=>cases f with
   |func g=>
    show ret9 (wput o.dst) k t (C o g (app9 fi (app9 (az.map (kev t)) ca)) h)=thn (nput o.dst t (C o g (fi++az.map (kev t)++ca) h)) k;rw[ret9_thn,app9_eq,app9_eq,List.append_assoc]
   |_=>rfl
  |_=>rfl
 |fcall g az=>exact ret9_thn _ _ _ _
 |spec op=>cases sp<;>rfl
 |bad=>rfl
/-! ### regions in order -/
inductive KG9 where
 |free
 |bad
 |test (g:Fr->AV) (want:Bool)
noncomputable def kg9:KG->KG9
 |.free=>.free
 |.bad=>.bad
 |.test d want=>wop0 (.tmp d) fun g=>.test g want
structure KO9 where
 g:KG9
 w:WW
 o:Oper
 a:KAct9
noncomputable def kco9(T:TabT)(ops:Array Oper)(o:Oper):KO9:=Wr.rec (motive:=fun _=>KO9) (fun w=>KO9.mk (kg9 (kg ops o.guard)) w o (kact9 T o.op)) (kwr o.dst)
theorem kco9_eq(T:TabT)(ops:Array Oper)(o:Oper):kco9 T ops o=⟨kg9 (kg ops o.guard),wput o.dst,o,kact9 T o.op⟩:=by
 rw[<- kwr_wput];unfold kco9;cases kwr o.dst;rfl
noncomputable def gate9(t:Fr)(act skip:RR)(g:KG9):RR:=KG9.rec (motive:=fun _=>RR) (act) (none) (fun gt want=>AV.rec (motive_1:=fun _=>RR) (motive_2:=fun _=>Unit) (motive_3:=fun _=>Unit) (fun _ _=>none) (fun b=>Bool.rec (motive:=fun _=>RR) (skip) (act) (nbool want b)) (fun _=>none) (none) (fun _ _=>none) (fun _ _=>none) (fun _ _ _ _=>none) (fun _ _ _=>none) (none) (fun _ _=>none) (fun vs _=>List.rec (motive:=fun _=>RR) (skip) (fun _ _ _=>none) (vs)) (fun _ _ _ _ _=>none) (none) (fun _ _ _=>none) (none) (fun _=>none) (none) (fun _ _ _ _ _=>none) (fun _ _ _=>none) (fun _ _ _ _=>none) (fun _ _ _=>none) (none) () (fun _ _ _ _=>()) () (fun _ _ _ _=>()) (gt t)) (g)
theorem gate9_le(t:Fr){a a2 s s2:RR}(ha:RLe a a2)(hs:RLe s s2)(g:KG):RLe (gate9 t a s (kg9 g)) (match nwant t g with|some true=>a2|some false=>s2|none=>none):=by
 cases g with
 |free=>exact ha
 |bad=>exact .none _
 |test d want=>
  show RLe (gate9 t a s (wop0 (.tmp d) fun g=>.test g want)) (match ntest want (Fr.get d t) with|some true=>a2|some false=>s2|none=>none);rw[wop0_eq];show RLe (AV.rec (motive_1:=fun _=>RR) _ _ _ _ _ _ _ _ _ _ _ _ _ _ _ _ _ _ _ _ _ _ _ _ _ _ (Fr.get d t)) _
  cases Fr.get d t with
  |bool b=>
   show RLe (Bool.rec (motive:=fun _=>RR) s a (nbool want b)) (match some (nbool want b) with|some true=>a2|some false=>s2|none=>none)
   cases nbool want b with
   |true=>exact ha
   |false=>exact hs
  |tup vs=>cases vs with
   |nil=>exact hs
   |cons _ _=>exact .none _
  |_=>exact .none _
noncomputable def nko9(C:KC)(sp:Bool)(k:KK)(t:Fr)(h:HT)(ko:KO9):RR:=KO9.rec (motive:=fun _=>RR) (fun g w o a=>gate9 t (nact9 C sp o w k t h a) (k (w t (.tup [])) h) g) ko
noncomputable def nops9(C:KC)(sp:Bool)(L:List KO9):KK->KK:=List.rec (motive:=fun _=>KK->KK) (fun k=>k) (fun ko _ ih k t h=>nko9 C sp (ih k) t h ko) L
theorem nops9_le(T:TabT)(ops:Array Oper){C D:KC}(hC:CLe C D)(sp:Bool){k k2:KK}(hk:KKLe k k2):∀ (rest:List Oper) (t:Fr) (h:HT),RLe (nops9 C sp (rest.map (kco9 T ops)) k t h) (thn (nops D sp (rest.map (kco T ops)) ⟨t,h⟩) k2)
 |[],t,h=>hk t h
 |o::rest,t,h=>by
  have ih:KKLe (nops9 C sp (rest.map (kco9 T ops)) k) fun t h=>thn (nops D sp (rest.map (kco T ops)) ⟨t,h⟩) k2:=nops9_le T ops hC sp hk rest;show RLe (nko9 C sp (nops9 C sp (rest.map (kco9 T ops)) k) t h (kco9 T ops o)) _;rw[kco9_eq]
  have h1:RLe (nact9 C sp o (wput o.dst) (nops9 C sp (rest.map (kco9 T ops)) k) t h (kact9 T o.op)) (thn (nact D sp o ⟨t,h⟩ (kact T o.op)) fun t h=>thn (nops D sp (rest.map (kco T ops)) ⟨t,h⟩) k2):=by
   rw[<- nact9_slow];exact nact9_le (kact9_le T o.op) hC sp o _ ih t h
  refine(gate9_le t h1 (ih _ _) (kg ops o.guard)).trans (RLe.of_eq ?_);show _=thn (ngo D sp o (kact T o.op) ⟨t,h⟩ (nops D sp (rest.map (kco T ops))) (nwant t (kg ops o.guard))) k2
  cases nwant t (kg ops o.guard) with
  |none=>rfl
  |some b=>cases b with
   |false=>rfl
   |true=>
    show thn (nact D sp o ⟨t,h⟩ (kact T o.op)) _=thn (nthen _ (nact D sp o ⟨t,h⟩ (kact T o.op))) k2;cases nact D sp o ⟨t,h⟩ (kact T o.op)<;>rfl
noncomputable def beln9(n:Nat)(v:AV):Bool:=AV.rec (motive_1:=fun _=>Bool) (motive_2:=fun _=>Bool) (motive_3:=fun _=>Bool) (fun _ _=>true) (fun _=>true) (fun _=>true) (true) (fun i _=>Nat.ble (Nat.succ i) n) (fun _ ih=>ih) (fun _ _ tk _=>Tk.rec (motive:=fun _=>Bool) (true) (fun i=>Nat.ble (Nat.succ i) n) (tk)) (fun _ _ ih=>ih) (true) (fun _ ih=>ih) (fun _ ih=>ih) (fun _ _ _ i1 i2=>Bool.rec (motive:=fun _=>Bool) false i2 i1) (true) (fun _ _ ih=>ih) (true) (fun i=>Nat.ble (Nat.succ i) n) (true) (fun i _ _ _ _=>Nat.ble (Nat.succ i) n) (fun i _ _=>Nat.ble (Nat.succ i) n) (fun i _ _ _=>Nat.ble (Nat.succ i) n) (fun _ _ ih=>ih) (true) true (fun _ _ i1 i2=>Bool.rec (motive:=fun _=>Bool) false i2 i1) true (fun _ _ i1 i2=>Bool.rec (motive:=fun _=>Bool) false i2 i1) v
noncomputable def belLn9(n:Nat)(v:List AV):Bool:=AV.rec_1 (motive_1:=fun _=>Bool) (motive_2:=fun _=>Bool) (motive_3:=fun _=>Bool) (fun _ _=>true) (fun _=>true) (fun _=>true) (true) (fun i _=>Nat.ble (Nat.succ i) n) (fun _ ih=>ih) (fun _ _ tk _=>Tk.rec (motive:=fun _=>Bool) (true) (fun i=>Nat.ble (Nat.succ i) n) (tk)) (fun _ _ ih=>ih) (true) (fun _ ih=>ih) (fun _ ih=>ih) (fun _ _ _ i1 i2=>Bool.rec (motive:=fun _=>Bool) false i2 i1) (true) (fun _ _ ih=>ih) (true) (fun i=>Nat.ble (Nat.succ i) n) (true) (fun i _ _ _ _=>Nat.ble (Nat.succ i) n) (fun i _ _=>Nat.ble (Nat.succ i) n) (fun i _ _ _=>Nat.ble (Nat.succ i) n) (fun _ _ ih=>ih) (true) true (fun _ _ i1 i2=>Bool.rec (motive:=fun _=>Bool) false i2 i1) true (fun _ _ i1 i2=>Bool.rec (motive:=fun _=>Bool) false i2 i1) v
noncomputable def belLLn9(n:Nat)(v:List (List AV)):Bool:=AV.rec_2 (motive_1:=fun _=>Bool) (motive_2:=fun _=>Bool) (motive_3:=fun _=>Bool) (fun _ _=>true) (fun _=>true) (fun _=>true) (true) (fun i _=>Nat.ble (Nat.succ i) n) (fun _ ih=>ih) (fun _ _ tk _=>Tk.rec (motive:=fun _=>Bool) (true) (fun i=>Nat.ble (Nat.succ i) n) (tk)) (fun _ _ ih=>ih) (true) (fun _ ih=>ih) (fun _ ih=>ih) (fun _ _ _ i1 i2=>Bool.rec (motive:=fun _=>Bool) false i2 i1) (true) (fun _ _ ih=>ih) (true) (fun i=>Nat.ble (Nat.succ i) n) (true) (fun i _ _ _ _=>Nat.ble (Nat.succ i) n) (fun i _ _=>Nat.ble (Nat.succ i) n) (fun i _ _ _=>Nat.ble (Nat.succ i) n) (fun _ _ ih=>ih) (true) true (fun _ _ i1 i2=>Bool.rec (motive:=fun _=>Bool) false i2 i1) true (fun _ _ i1 i2=>Bool.rec (motive:=fun _=>Bool) false i2 i1) v
theorem and9(a b:Bool):(Bool.rec (motive:=fun _=>Bool) false b a:Bool)=(a&&b):=by cases a<;>rfl
theorem blt9(i n:Nat):Nat.ble (Nat.succ i) n=decide (i<n):=ble_dec (i+1) n
mutual
theorem beln9_eq(n:Nat):∀ v:AV,beln9 n v=v.bel n
 |.int _ _|.bool _|.str _|.nilp|.nils|.nilf|.nilI|.nilm|.junk=>rfl
 |.ptr i _|.eptr i _ _ _|.msl i _ _ _ _|.msu i _ _|.mp i=>blt9 i n
 |.sl _ _ .no=>rfl
 |.sl _ _ (.own i)=>blt9 i n
 |.agg cs=>belLn9_eq n cs
 |.tup vs=>belLn9_eq n vs
 |.rptr cs=>belLn9_eq n cs
 |.psl _ l=>belLLn9_eq n l
 |.fn _ a b=>by
  show(Bool.rec (motive:=fun _=>Bool) false (belLn9 n b) (belLn9 n a):Bool)=(belL n a&&belL n b)
  rw[and9,belLn9_eq n a,belLn9_eq n b]
 |.iface _ v=>beln9_eq n v
 |.cnd _ v=>beln9_eq n v
theorem belLn9_eq(n:Nat):∀ l:List AV,belLn9 n l=belL n l
 |[]=>rfl
 |a::l=>by
  show(Bool.rec (motive:=fun _=>Bool) false (belLn9 n l) (beln9 n a):Bool)=(a.bel n&&belL n l)
  rw[and9,beln9_eq n a,belLn9_eq n l]
theorem belLLn9_eq(n:Nat):∀ l:List (List AV),belLLn9 n l=belLL n l
 |[]=>rfl
 |a::l=>by
  show(Bool.rec (motive:=fun _=>Bool) false (belLLn9 n l) (belLn9 n a):Bool)=(belL n a&&belLL n l)
  rw[and9,belLn9_eq n a,belLLn9_eq n l]
end
noncomputable def bel9(v:AV):Bool:=AV.rec (motive_1:=fun _=>Bool) (motive_2:=fun _=>Bool) (motive_3:=fun _=>Bool) (fun _ _=>true) (fun _=>true) (fun _=>true) (true) (fun _ _=>false) (fun _ ih=>ih) (fun _ _ tk _=>Tk.rec (motive:=fun _=>Bool) (true) (fun _=>false) (tk)) (fun _ _ ih=>ih) (true) (fun _ ih=>ih) (fun _ ih=>ih) (fun _ _ _ i1 i2=>Bool.rec (motive:=fun _=>Bool) false i2 i1) (true) (fun _ _ ih=>ih) (true) (fun _=>false) (true) (fun _ _ _ _ _=>false) (fun _ _ _=>false) (fun _ _ _ _=>false) (fun _ _ ih=>ih) (true) true (fun _ _ i1 i2=>Bool.rec (motive:=fun _=>Bool) false i2 i1) true (fun _ _ i1 i2=>Bool.rec (motive:=fun _=>Bool) false i2 i1) v
noncomputable def belL9(v:List AV):Bool:=AV.rec_1 (motive_1:=fun _=>Bool) (motive_2:=fun _=>Bool) (motive_3:=fun _=>Bool) (fun _ _=>true) (fun _=>true) (fun _=>true) (true) (fun _ _=>false) (fun _ ih=>ih) (fun _ _ tk _=>Tk.rec (motive:=fun _=>Bool) (true) (fun _=>false) (tk)) (fun _ _ ih=>ih) (true) (fun _ ih=>ih) (fun _ ih=>ih) (fun _ _ _ i1 i2=>Bool.rec (motive:=fun _=>Bool) false i2 i1) (true) (fun _ _ ih=>ih) (true) (fun _=>false) (true) (fun _ _ _ _ _=>false) (fun _ _ _=>false) (fun _ _ _ _=>false) (fun _ _ ih=>ih) (true) true (fun _ _ i1 i2=>Bool.rec (motive:=fun _=>Bool) false i2 i1) true (fun _ _ i1 i2=>Bool.rec (motive:=fun _=>Bool) false i2 i1) v
noncomputable def belLL9(v:List (List AV)):Bool:=AV.rec_2 (motive_1:=fun _=>Bool) (motive_2:=fun _=>Bool) (motive_3:=fun _=>Bool) (fun _ _=>true) (fun _=>true) (fun _=>true) (true) (fun _ _=>false) (fun _ ih=>ih) (fun _ _ tk _=>Tk.rec (motive:=fun _=>Bool) (true) (fun _=>false) (tk)) (fun _ _ ih=>ih) (true) (fun _ ih=>ih) (fun _ ih=>ih) (fun _ _ _ i1 i2=>Bool.rec (motive:=fun _=>Bool) false i2 i1) (true) (fun _ _ ih=>ih) (true) (fun _=>false) (true) (fun _ _ _ _ _=>false) (fun _ _ _=>false) (fun _ _ _ _=>false) (fun _ _ ih=>ih) (true) true (fun _ _ i1 i2=>Bool.rec (motive:=fun _=>Bool) false i2 i1) true (fun _ _ i1 i2=>Bool.rec (motive:=fun _=>Bool) false i2 i1) v
mutual
theorem bel9_eq:∀ v:AV,bel9 v=v.bel 0
 |.int _ _|.bool _|.str _|.nilp|.nils|.nilf|.nilI|.nilm|.junk=>rfl
 |.ptr _ _|.eptr _ _ _ _|.msl _ _ _ _ _|.msu _ _ _|.mp _=>by simp[AV.bel];rfl
 |.sl _ _ .no=>rfl
 |.sl _ _ (.own _)=>by simp[AV.bel];rfl
 |.agg cs=>belL9_eq cs
 |.tup vs=>belL9_eq vs
 |.rptr cs=>belL9_eq cs
 |.psl _ l=>belLL9_eq l
 |.fn _ a b=>by
  show(Bool.rec (motive:=fun _=>Bool) false (belL9 b) (belL9 a):Bool)=(belL 0 a&&belL 0 b)
  rw[and9,belL9_eq a,belL9_eq b]
 |.iface _ v=>bel9_eq v
 |.cnd _ v=>bel9_eq v
theorem belL9_eq:∀ l:List AV,belL9 l=belL 0 l
 |[]=>rfl
 |a::l=>by
  show(Bool.rec (motive:=fun _=>Bool) false (belL9 l) (bel9 a):Bool)=(a.bel 0&&belL 0 l)
  rw[and9,bel9_eq a,belL9_eq l]
theorem belLL9_eq:∀ l:List (List AV),belLL9 l=belLL 0 l
 |[]=>rfl
 |a::l=>by
  show(Bool.rec (motive:=fun _=>Bool) false (belLL9 l) (belL9 a):Bool)=(belL 0 a&&belLL 0 l)
  rw[and9,belL9_eq a,belLL9_eq l]
end
noncomputable def ntk1(v:AV):Bool:=AV.rec (motive_1:=fun _=>Bool) (motive_2:=fun _=>Unit) (motive_3:=fun _=>Unit) (fun _ _=>true) (fun _=>true) (fun _=>true) (true) (fun _ _=>true) (fun _ _=>true) (fun _ _ tk _=>Tk.rec (motive:=fun _=>Bool) (true) (fun _=>false) (tk)) (fun _ _ _=>true) (true) (fun _ _=>true) (fun _ _=>true) (fun _ _ _ _ _=>true) (true) (fun _ _ _=>true) (true) (fun _=>true) (true) (fun _ _ _ _ _=>true) (fun _ _ _=>true) (fun _ _ _ _=>true) (fun _ _ _=>true) (true) () (fun _ _ _ _=>()) () (fun _ _ _ _=>()) (v)
noncomputable def ntk9(v:AV):Bool:=AV.rec (motive_1:=fun _=>Bool) (motive_2:=fun _=>Unit) (motive_3:=fun _=>Unit) (fun _ _=>true) (fun _=>true) (fun _=>true) (true) (fun _ _=>true) (fun _ _=>true) (fun _ _ tk _=>Tk.rec (motive:=fun _=>Bool) (true) (fun _=>false) (tk)) (fun _ _ _=>true) (true) (fun cs _=>all9 ntk1 cs) (fun _ _=>true) (fun _ _ _ _ _=>true) (true) (fun _ _ _=>true) (true) (fun _=>true) (true) (fun _ _ _ _ _=>true) (fun _ _ _=>true) (fun _ _ _ _=>true) (fun _ _ _=>true) (true) () (fun _ _ _ _=>()) () (fun _ _ _ _=>()) (v)
theorem ntk1_eq{v:AV}(h:ntk1 v=true):strip1 v=v:=by
 cases v<;>try rfl
 rename_i tk;cases tk<;>first|rfl|cases h
theorem ntk9_eq{v:AV}(h:ntk9 v=true):strip v=v:=by
 cases v<;>try rfl
 ·rename_i tk;cases tk<;>first|rfl|cases h
 ·rename_i cs;have h:all9 ntk1 cs=true:=h;rw[all9_eq,List.all_eq_true] at h;show AV.agg (cs.map strip1)=_
  congr 1
  exact(List.map_congr_left fun a ha=>ntk1_eq (h a ha)).trans (List.map_id _)
theorem ntkL9_eq{l:List AV}(h:all9 ntk9 l=true):l.map strip=l:=by
 rw[all9_eq,List.all_eq_true] at h;exact(List.map_congr_left fun a ha=>ntk9_eq (h a ha)).trans (List.map_id _)
theorem bel_ntk1{v:AV}(h:v.bel 0=true):ntk1 v=true:=by
 cases v<;>try rfl
 rename_i tk;cases tk with
 |no=>rfl
 |own i=>simp[AV.bel] at h
theorem belL_all{l:List AV}(h:belL 0 l=true):∀ a∈l,a.bel 0=true:=by
 induction l with
 |nil=>intro a ha;cases ha
 |cons b l ih=>
  unfold belL at h;rw[Vi] at h;intro a ha
  rcases List.mem_cons.1 ha with rfl|ha
  ·exact h.1
  ·exact ih h.2 a ha
theorem bel_ntk9{v:AV}(h:v.bel 0=true):ntk9 v=true:=by
 cases v<;>try rfl
 ·rename_i tk;cases tk with
  |no=>rfl
  |own i=>simp[AV.bel] at h
 ·rename_i cs;show all9 ntk1 cs=true;rw[all9_eq,List.all_eq_true];exact fun a ha=>bel_ntk1 (belL_all h a ha)
theorem belL_strip{l:List AV}(h:belL 0 l=true):l.map strip=l:=by
 refine ntkL9_eq ?_;rw[all9_eq,List.all_eq_true];exact fun a ha=>bel_ntk9 (belL_all h a ha)
noncomputable def pl1(v:AV):Bool:=AV.rec (motive_1:=fun _=>Bool) (motive_2:=fun _=>Unit) (motive_3:=fun _=>Unit) (fun _ _=>true) (fun _=>true) (fun _=>true) (true) (fun _ _=>false) (fun _ _=>false) (fun _ _ tk _=>Tk.rec (motive:=fun _=>Bool) (true) (fun _=>false) (tk)) (fun _ _ _=>false) (true) (fun _ _=>false) (fun _ _=>false) (fun _ _ _ _ _=>false) (true) (fun _ _ _=>false) (true) (fun _=>false) (true) (fun _ _ _ _ _=>false) (fun _ _ _=>false) (fun _ _ _ _=>false) (fun _ _ _=>false) (false) () (fun _ _ _ _=>()) () (fun _ _ _ _=>()) (v)
noncomputable def pl2(v:AV):Bool:=AV.rec (motive_1:=fun _=>Bool) (motive_2:=fun _=>Unit) (motive_3:=fun _=>Unit) (fun _ _=>true) (fun _=>true) (fun _=>true) (true) (fun _ _=>false) (fun _ _=>false) (fun _ _ tk _=>Tk.rec (motive:=fun _=>Bool) (true) (fun _=>false) (tk)) (fun _ _ _=>false) (true) (fun cs _=>all9 pl1 cs) (fun _ _=>false) (fun _ _ _ _ _=>false) (true) (fun _ _ _=>false) (true) (fun _=>false) (true) (fun _ _ _ _ _=>false) (fun _ _ _=>false) (fun _ _ _ _=>false) (fun _ _ _=>false) (false) () (fun _ _ _ _=>()) () (fun _ _ _ _=>()) (v)
noncomputable def pl3(v:AV):Bool:=AV.rec (motive_1:=fun _=>Bool) (motive_2:=fun _=>Unit) (motive_3:=fun _=>Unit) (fun _ _=>true) (fun _=>true) (fun _=>true) (true) (fun _ _=>false) (fun _ _=>false) (fun _ _ tk _=>Tk.rec (motive:=fun _=>Bool) (true) (fun _=>false) (tk)) (fun _ _ _=>false) (true) (fun cs _=>all9 pl1 cs) (fun cs _=>all9 pl2 cs) (fun _ _ _ _ _=>false) (true) (fun _ _ _=>false) (true) (fun _=>false) (true) (fun _ _ _ _ _=>false) (fun _ _ _=>false) (fun _ _ _ _=>false) (fun _ _ _=>false) (false) () (fun _ _ _ _=>()) () (fun _ _ _ _=>()) (v)
theorem mapO_id{α:Type}{F:α->Option α}:∀ {l:List α},(∀ a∈l,F a=some a)->mapO F l=some l
 |[],_=>rfl
 |a::l,h=>by
  unfold mapO;rw[h a List.mem_cons_self];dsimp only;rw[mapO_id fun b hb=>h b (List.mem_cons_of_mem _ hb)]
theorem pl1_kice{v:AV}(h:pl1 v=true)(n:Nat)(hg:Nat->Option ABlk):kice (n+1) hg v=some v/\v.bel 0=true:=by
 cases v<;>first
  |exact⟨rfl,rfl⟩
  |(cases h;done)
  |(rename_i tk;cases tk<;>first|exact⟨rfl,rfl⟩|cases h)
theorem bel_of_all{l:List AV}(h:∀ a∈l,a.bel 0=true):belL 0 l=true:=by
 induction l with
 |nil=>rfl
 |cons a l ih=>
  unfold belL;rw[h a List.mem_cons_self,ih fun b hb=>h b (List.mem_cons_of_mem _ hb)];rfl
theorem pl2_kice{v:AV}(h:pl2 v=true)(n:Nat)(hg:Nat->Option ABlk):kice (n+2) hg v=some v/\v.bel 0=true:=by
 cases v<;>first
  |exact⟨rfl,rfl⟩
  |(cases h;done)
  |(rename_i tk;cases tk<;>first|exact⟨rfl,rfl⟩|cases h)
  |skip
 rename_i cs;have h:all9 pl1 cs=true:=h;rw[all9_eq,List.all_eq_true] at h;refine⟨?_,bel_of_all fun a ha=>(pl1_kice (h a ha) n hg).2⟩;unfold kice;dsimp only;rw[mapO_id fun a ha=>(pl1_kice (h a ha) n hg).1]
theorem pl3_kice{v:AV}(h:pl3 v=true)(n:Nat)(hg:Nat->Option ABlk):kice (n+3) hg v=some v/\v.bel 0=true:=by
 cases v<;>first
  |exact⟨rfl,rfl⟩
  |(cases h;done)
  |(rename_i tk;cases tk<;>first|exact⟨rfl,rfl⟩|cases h)
  |skip
 ·exact pl2_kice (v:=.agg _) h (n+1) hg
 ·rename_i cs;have h:all9 pl2 cs=true:=h;rw[all9_eq,List.all_eq_true] at h;refine⟨?_,bel_of_all fun a ha=>(pl2_kice (h a ha) n hg).2⟩;unfold kice;dsimp only;rw[mapO_id fun a ha=>(pl2_kice (h a ha) n hg).1]
theorem pl3_row{v:AV}(h:pl3 v=true)(hg:Nat->Option ABlk)(h0:HT):nrow v hg h0 (isOwnRow v hg)=some (v,h0):=by
 have hi:isOwnRow v hg=none:=by
  cases v<;>try rfl
  rename_i tk;cases tk with
  |no=>rfl
  |own i=>cases h
 obtain⟨h1,h2⟩:=pl3_kice h 6 hg;rw[hi];show ngive h0 (kice 9 hg v)=_;rw[h1]
 show(match v.bel 0 with|true=>some (v,h0)|false=>none)=_
 rw[h2]
abbrev KR9:=List ResultVar->List Item->Fr->HT->RR
def FLe(F:KR9)(G:KR):Prop:=∀ rs k t h,RLe (F rs k t h) (G rs k ⟨t,h⟩)
def dn(F:KR9):KR:=fun rs k s=>F rs k s.t s.h
theorem FLe.dn{F:KR9}{G:KR}(h:FLe F G)(rs:List ResultVar)(k:List Item)(s:KS):RLe (dn F rs k s) (G rs k s):=h rs k s.t s.h
/-! ### drawn regions -/
abbrev KD9:=Nat->Nat->List FpE->Fr->HT->HT->RR
def KDLe(k k2:KD9):Prop:=∀ a b c d e f,RLe (k a b c d e f) (k2 a b c d e f)
def thnF(x:Option KF)(k:KD9):RR:=match x with
 |some d=>k d.sl d.j d.acc d.s.t d.s.h d.f
 |none=>none
theorem thnF_le{x y:Option KF}(h:RLe x y){k k2:KD9}(hk:KDLe k k2):RLe (thnF x k) (thnF y k2):=by
 cases x with
 |none=>exact .none _
 |some d=>
  rw[h d rfl];exact hk _ _ _ _ _ _
noncomputable def nadd9(j:Nat)(rd wr:List Nat)(acc:List FpE):List FpE:=List.rec (motive:=fun _=>List FpE) (List.rec (motive:=fun _=>List FpE) (acc) (fun _ _ _=>(j,(rd,wr))::acc) (wr)) (fun _ _ _=>(j,(rd,wr))::acc) (rd)
theorem nadd9_eq(j:Nat)(rd wr:List Nat)(acc:List FpE):nadd9 j rd wr acc=nadd j (rd,wr) acc:=by cases rd<;>cases wr<;>rfl
noncomputable def nup9(may:Bool)(sl:Nat):Nat:=Bool.rec (motive:=fun _=>Nat) (sl) (fnat sl fun n=>Nat.succ n) (may)
theorem nup9_eq(may:Bool)(sl:Nat):nup9 may sl=(match may with|true=>sl+1|false=>sl):=by
 cases may
 ·rfl
 ·exact fnat_eq sl fun n=>Nat.succ n
noncomputable def nfres9(w:WW)(may:Bool)(k:KD9)(sl j:Nat)(acc:List FpE)(t:Fr)(h f:HT)(rd:List Nat)(fr:Bool)(r:KRes):RR:=KRes.rec (motive:=fun _=>RR) (none) (fun v=>Bool.rec (motive:=fun _=>RR) (none) (k (nup9 may sl) (Nat.succ j) (nadd9 j rd [] acc) (w t v) h f) (fr)) (fun v i x=>Bool.rec (motive:=fun _=>RR) (none) (k (nup9 may sl) (Nat.succ j) (nadd9 j rd [i] acc) (w t v) (h.set i x) (f.set i x)) (fr)) (r)
theorem nfres9_le(w:WW)(may:Bool){k k2:KD9}(hk:KDLe k k2)(sl j:Nat)(acc:List FpE)(t:Fr)(h f:HT)(rd:List Nat)(fr:Bool){r r2:KRes}(hr:KLe r r2):RLe (nfres9 w may k sl j acc t h f rd fr r) (nfres9 w may k2 sl j acc t h f rd fr r2):=by
 rcases hr with rfl|rfl
 ·exact .none _
 ·cases r with
  |no=>exact .none _
  |val v=>cases fr with
   |true=>exact hk _ _ _ _ _ _
   |false=>exact .none _
  |wr v i x=>cases fr with
   |true=>exact hk _ _ _ _ _ _
   |false=>exact .none _
theorem nfres9_thn(o:Oper)(may:Bool)(k:KD9)(sl j:Nat)(acc:List FpE)(t:Fr)(h f:HT)(rd:List Nat)(fr:Bool)(r:Option ARes):nfres9 (wput o.dst) may k sl j acc t h f rd fr (fin r)=thnF (nfres o may ⟨sl,j,acc,⟨t,h⟩,f⟩ rd fr r) k:=by
 cases r with
 |none=>rfl
 |some r=>
  obtain @⟨q,v,dd,dec⟩:=r
  cases dec with
  |isFalse _=>rfl
  |isTrue _=>
   cases fr with
   |false=>cases dd<;>rfl
   |true=>
    cases dd with
    |none=>
     show k (nup9 may sl) (j+1) (nadd9 j rd [] acc) (kput t o.dst v) h f=k _ (j+1) (nadd j (rd,[]) acc) (kput t o.dst v) h f;rw[nadd9_eq,nup9_eq]
     try(cases may<;>rfl)
    |some x=>
     show k (nup9 may sl) (j+1) (nadd9 j rd [x.1] acc) (kput t o.dst v) (h.set x.1 x.2) (f.set x.1 x.2)=k _ (j+1) (nadd j (rd,[x.1]) acc) (kput t o.dst v) (h.set x.1 x.2) (f.set x.1 x.2);rw[nadd9_eq,nup9_eq]
     try(cases may<;>rfl)
theorem necall_le{C D:KC}(hC:CLe C D)(M:KMT)(n:Nat)(o:Oper)(g:FuncId)(args:List AV)(d:KF):RLe (necall M C n o g args d) (necall M D n o g args d):=by
 unfold necall
 cases belL 0 (args.map strip) with
 |true=>
  show RLe (nfm C n o g (args.map strip) d (M.m o g (args.map strip))) (nfm D n o g (args.map strip) d (M.m o g (args.map strip)))
  cases M.m o g (args.map strip) with
  |some q=>exact .refl _
  |none=>
   show RLe (nfgot n o d (C o g (args.map strip) HT.nil)) (nfgot n o d (D o g (args.map strip) HT.nil));have:=hC o g (args.map strip) HT.nil
   cases h:C o g (args.map strip) HT.nil with
   |none=>exact .none _
   |some q=>
    rw[this q h];exact .refl _
 |false=>
  show RLe (nflent C n o g args d (M.l o g args d.s.h.get)) (nflent D n o g args d (M.l o g args d.s.h.get))
  cases M.l o g args d.s.h.get with
  |some q=>
   obtain⟨i,res,b⟩:=q;cases b<;>exact .refl _
  |none=>
  show RLe (nfcall C n o g args d (belL n args&&(List.range n).all (fun i=>belB n (d.f.get i)))) (nfcall D n o g args d (belL n args&&(List.range n).all (fun i=>belB n (d.f.get i))))
  cases belL n args&&(List.range n).all (fun i=>belB n (d.f.get i)) with
  |false=>
   show RLe (nwcall C o g args d (belL d.sl args&&(Nat.ble n d.sl&&(List.range d.sl).all (fun i=>belB d.sl (d.s.h.get i))))) (nwcall D o g args d (belL d.sl args&&(Nat.ble n d.sl&&(List.range d.sl).all (fun i=>belB d.sl (d.s.h.get i)))))
   cases belL d.sl args&&(Nat.ble n d.sl&&(List.range d.sl).all (fun i=>belB d.sl (d.s.h.get i))) with
   |false=>exact .refl _
   |true=>
    show RLe (nwc0 C o g args d (kpushs ((List.range d.sl).map fun i=>(d.s.h.get i).getD .free) HT.nil)) (nwc0 D o g args d (kpushs ((List.range d.sl).map fun i=>(d.s.h.get i).getD .free) HT.nil))
    cases kpushs ((List.range d.sl).map fun i=>(d.s.h.get i).getD .free) HT.nil with
    |none=>exact .refl _
    |some h0=>
     show RLe (nwc1 o d (C o g args h0)) (nwc1 o d (D o g args h0));have:=hC o g args h0
     cases h:C o g args h0 with
     |none=>exact .none _
     |some q=>
      rw[this q h];exact .refl _
  |true=>
   show RLe (nfc1 n o d (C o g args d.f.clear)) (nfc1 n o d (D o g args d.f.clear));have:=hC o g args d.f.clear
   cases h:C o g args d.f.clear with
   |none=>exact .none _
   |some q=>
    rw[this q h];exact .refl _
noncomputable def id9(v:AV):List Nat:=AV.rec (motive_1:=fun _=>List Nat) (motive_2:=fun _=>Unit) (motive_3:=fun _=>Unit) (fun _ _=>[]) (fun _=>[]) (fun _=>[]) ([]) (fun i _=>[i]) (fun _ _=>[]) (fun _ _ tk _=>Tk.rec (motive:=fun _=>List Nat) ([]) (fun i=>[i]) (tk)) (fun _ _ _=>[]) ([]) (fun _ _=>[]) (fun _ _=>[]) (fun _ _ _ _ _=>[]) ([]) (fun _ _ _=>[]) ([]) (fun i=>[i]) ([]) (fun i _ _ _ _=>[i]) (fun i _ _=>[i]) (fun i _ _ _=>[i]) (fun _ _ _=>[]) ([]) () (fun _ _ _ _=>()) () (fun _ _ _ _=>()) (v)
theorem id9_eq(v:AV):id9 v=v.id:=by
 cases v<;>try rfl
 rename_i tk;cases tk<;>rfl
noncomputable def krd9:KRd->Rdr Fr (List Nat)
 |.no=>Rdr.mk fun _=>[]
 |.id x=>wop0 x fun g=>Rdr.mk fun t=>id9 (g t)
 |.idmid x y=>wop0 x fun g=>wop0 y fun g2=>Rdr.mk fun t=>app9 (id9 (g t)) (g2 t).mid
 |.idid x y=>wop0 x fun g=>wop0 y fun g2=>Rdr.mk fun t=>app9 (id9 (g t)) (id9 (g2 t))
theorem krd9_eq(r:KRd):(krd9 r).f=fun t=>nrd (kev t) r:=by
 cases r<;>simp only[krd9,wop0_eq,nrd,app9_eq,id9_eq]
noncomputable def free9(x:Option ABlk):Bool:=Option.rec (motive:=fun _=>Bool) (false) (fun b=>ABlk.rec (motive:=fun _=>Bool) (true) (false) (fun _=>false) (fun _ _=>false) (fun _ _=>false) (fun _=>false) (fun _ _ _=>false) (b)) (x)
theorem free9_eq(x:Option ABlk):free9 x=isFree x:=by
 cases x with
 |none=>rfl
 |some b=>cases b<;>rfl
noncomputable def belB9(n:Nat)(x:Option ABlk):Bool:=Option.rec (motive:=fun _=>Bool) (false) (fun b=>ABlk.rec (motive:=fun _=>Bool) (true) (true) (fun cs=>belLn9 n cs) (fun _ _=>true) (fun _ l=>belLLn9 n l) (fun l=>ABlk.bel n (.map l)) (fun m _ _=>Nat.ble (Nat.succ m) n) (b)) (x)
theorem belB9_eq(n:Nat)(x:Option ABlk):belB9 n x=belB n x:=by
 cases x with
 |none=>rfl
 |some b=>cases b with
  |box cs=>exact belLn9_eq n cs
  |rows k l=>exact belLLn9_eq n l
  |iter m _ _=>exact blt9 m n
  |_=>rfl
noncomputable def blocks9(n:Nat)(f:HT)(m:Nat):Bool:=Nat.rec (motive:=fun _=>Bool) true (fun i ih=>Bool.rec (motive:=fun _=>Bool) false ih (belB9 n (f.get i))) m
theorem blocks9_eq(n:Nat)(f:HT):∀ m,blocks9 n f m=(List.range m).all fun i=>belB n (f.get i)
 |0=>rfl
 |m+1=>by
  show(Bool.rec (motive:=fun _=>Bool) false (blocks9 n f m) (belB9 n (f.get m)):Bool)=_
  rw[and9,belB9_eq,blocks9_eq n f m,List.range_succ,List.all_append];simp[Bool.and_comm]
noncomputable def necall9(M:KMT)(C:KC)(n:Nat)(o:Oper)(w:WW)(g:FuncId)(args:List AV)(k:KD9)(sl j:Nat)(acc:List FpE)(t:Fr)(h f:HT):RR:=Bool.rec (motive:=fun _=>RR) (Bool.rec (motive:=fun _=>RR) (thnF (necall M C n o g args ⟨sl,j,acc,⟨t,h⟩,f⟩) k) (Option.rec (motive:=fun _=>RR) (Bool.rec (motive:=fun _=>RR) (thnF (necall M C n o g args ⟨sl,j,acc,⟨t,h⟩,f⟩) k) (Bool.rec (motive:=fun _=>RR) (none) (Option.rec (motive:=fun _=>RR) (none) (fun q=>Prod.rec (motive:=fun _=>RR) (fun r h2=>Bool.rec (motive:=fun _=>RR) (thnF (necall M C n o g args ⟨sl,j,acc,⟨t,h⟩,f⟩) k) (Bool.rec (motive:=fun _=>RR) (thnF (necall M C n o g args ⟨sl,j,acc,⟨t,h⟩,f⟩) k) (k (Nat.succ sl) (Nat.succ j) (nadd9 j (List.range n) [] acc) (w t r) h f) (beln9 n r)) (nolog n h2.log)) q) (C o g args f.clear)) (blocks9 n f n)) (belLn9 n args)) (fun _=>thnF (necall M C n o g args ⟨sl,j,acc,⟨t,h⟩,f⟩) k) (M.l o g args h.get)) (all9 ntk9 args)) (Option.rec (motive:=fun _=>RR) (Option.rec (motive:=fun _=>RR) (none) (fun q=>Prod.rec (motive:=fun _=>RR) (fun r h1=>Bool.rec (motive:=fun _=>RR) (thnF (necall M C n o g args ⟨sl,j,acc,⟨t,h⟩,f⟩) k) (k (Nat.succ sl) (Nat.succ j) acc (w t r) h f) (pl3 r)) q) (C o g args HT.nil)) (fun _=>thnF (necall M C n o g args ⟨sl,j,acc,⟨t,h⟩,f⟩) k) (M.m o g args)) (belL9 args)
theorem necall9_le(M:KMT){C D:KC}(hC:CLe C D)(n:Nat)(o:Oper)(g:FuncId)(args:List AV){k k2:KD9}(hk:KDLe k k2)(sl j:Nat)(acc:List FpE)(t:Fr)(h f:HT):RLe (necall9 M C n o (wput o.dst) g args k sl j acc t h f) (thnF (necall M D n o g args ⟨sl,j,acc,⟨t,h⟩,f⟩) k2):=by
 have hslow:RLe (thnF (necall M C n o g args ⟨sl,j,acc,⟨t,h⟩,f⟩) k) (thnF (necall M D n o g args ⟨sl,j,acc,⟨t,h⟩,f⟩) k2):=thnF_le (necall_le hC M n o g args _) hk;unfold necall9
 cases hb:belL9 args with
 |true=>
  dsimp only
  cases hm:M.m o g args with
  |some _=>exact hslow
  |none=>
   dsimp only;have hb':=hb;rw[belL9_eq] at hb';have hs:=belL_strip hb'
   cases hc:C o g args HT.nil with
   |none=>exact .none _
   |some q=>
    obtain⟨r,h1⟩:=q;dsimp only
    cases hp:pl3 r with
    |false=>exact hslow
    |true=>
     have hr:=(pl3_kice hp 6 h1.get).2
     have e:necall M D n o g args ⟨sl,j,acc,⟨t,h⟩,f⟩=some ⟨sl+1,j+1,acc,⟨kput t o.dst r,h⟩,f⟩:=by
      unfold necall;rw[hs,hb'];show nfm D n o g (args.map strip) _ (M.m o g (args.map strip))=_;rw[hs,hm];show nfgot n o _ (D o g args HT.nil)=_;rw[hC o g args HT.nil _ hc];show nfput n o _ r h1 (r.bel 0)=_;rw[hr];rfl
     rw[e];exact hk _ _ _ _ _ _
 |false=>
  dsimp only
  cases ht:all9 ntk9 args with
  |false=>exact hslow
  |true=>
   dsimp only;have hs:=ntkL9_eq ht;have hb':=hb;rw[belL9_eq] at hb'
   cases hl:M.l o g args h.get with
   |some _=>exact hslow
   |none=>
    dsimp only
    cases ha:belLn9 n args with
    |false=>exact hslow
    |true=>
     dsimp only
     cases hf:blocks9 n f n with
     |false=>exact .none _
     |true=>
      dsimp only
      cases hc:C o g args f.clear with
      |none=>exact .none _
      |some q=>
       obtain⟨r,h2⟩:=q;dsimp only
       cases hg:nolog n h2.log with
       |false=>exact hslow
       |true=>
        dsimp only
        cases hr:beln9 n r with
        |false=>exact hslow
        |true=>
         rw[belLn9_eq] at ha;rw[blocks9_eq] at hf;rw[beln9_eq] at hr
         have e:necall M D n o g args ⟨sl,j,acc,⟨t,h⟩,f⟩=some ⟨sl+1,j+1,nadd j (List.range n,[]) acc,⟨kput t o.dst r,h⟩,f⟩:=by
          unfold necall;rw[hs,hb'];show nflent D n o g args _ (M.l o g args h.get)=_;rw[hl];show nfcall D n o g args ⟨sl,j,acc,⟨t,h⟩,f⟩ (belL n args&&(List.range n).all (fun i=>belB n (f.get i)))=_;rw[ha,hf];show nfc1 n o _ (D o g args f.clear)=_;rw[hC o g args f.clear _ hc];show nfc3 n o _ r h2 (r.bel n&&nolog n h2.log)=_;rw[hr,hg];rfl
         rw[e,nadd9_eq];exact hk _ _ _ _ _ _
noncomputable def nfact9(M:KMT)(C:KC)(n:Nat)(o:Oper)(w:WW)(may:Bool)(rd:Fr->List Nat)(k:KD9)(sl j:Nat)(acc:List FpE)(t:Fr)(h f:HT)(a:KAct9):RR:=KAct9.rec (motive:=fun _=>RR) (fun g=>nfres9 w may k sl j acc t h f (rd t) true (g sl t h.get)) (fun nd g=>Bool.rec (motive:=fun _=>RR) (nfres9 w may k sl j acc t h f (rd t) true (g sl t h.get)) (nfres9 w may k sl j acc t h f (sl::rd t) (free9 (h.get sl)) (g sl t h.get)) (nd t)) (fun x az=>AV.rec (motive_1:=fun _=>RR) (motive_2:=fun _=>Unit) (motive_3:=fun _=>Unit) (fun _ _=>none) (fun _=>none) (fun _=>none) (none) (fun _ _=>none) (fun _ _=>none) (fun _ _ _ _=>none) (fun _ _ _=>none) (none) (fun _ _=>none) (fun _ _=>none) (fun fn0 fi ca _ _=>Fn.rec (motive:=fun _=>RR) (fun g=>necall9 M C n o w g (app9 fi (app9 (az t) ca)) k sl j acc t h f) (fun _=>none) (fun _ _=>none) (fun _ _ _ _=>none) (fun _=>none) (fn0)) (none) (fun _ _ _=>none) (none) (fun _=>none) (none) (fun _ _ _ _ _=>none) (fun _ _ _=>none) (fun _ _ _ _=>none) (fun _ _ _=>none) (none) () (fun _ _ _ _=>()) () (fun _ _ _ _=>()) (x t)) (fun g az=>necall9 M C n o w g (az t) k sl j acc t h f) (fun op=>none) (none) (a)
theorem nfact9_le{a b:KAct9}(ha:ALe a b)(M:KMT)(C:KC)(n:Nat)(o:Oper)(w:WW)(may:Bool)(rd:Fr->List Nat)(k:KD9)(sl j:Nat)(acc:List FpE)(t:Fr)(h f:HT):RLe (nfact9 M C n o w may rd k sl j acc t h f a) (nfact9 M C n o w may rd k sl j acc t h f b):=by
 have hk:KDLe k k:=fun _ _ _ _ _ _=>.refl _
 cases ha with
 |refl=>exact .refl _
 |pure f0 g hfg=>exact nfres9_le w may hk sl j acc t h f (rd t) true (hfg sl t h.get)
 |mk nd f0 g hfg=>
  show RLe (Bool.rec (motive:=fun _=>RR) _ _ (nd t)) (Bool.rec (motive:=fun _=>RR) _ _ (nd t))
  cases nd t with
  |false=>exact nfres9_le w may hk _ _ _ _ _ _ _ _ (hfg _ _ _)
  |true=>exact nfres9_le w may hk _ _ _ _ _ _ _ _ (hfg _ _ _)
theorem nfact9_slow(M:KMT){C D:KC}(hC:CLe C D)(n:Nat)(o:Oper)(may:Bool)(rd:KRd){k k2:KD9}(hk:KDLe k k2)(sl j:Nat)(acc:List FpE)(t:Fr)(h f:HT)(a:KAct):RLe (nfact9 M C n o (wput o.dst) may (fun t=>nrd (kev t) rd) k sl j acc t h f (slow a)) (thnF (nfact M D n o may rd ⟨sl,j,acc,⟨t,h⟩,f⟩ a) k2):=by
 cases a with
 |pure g=>
  refine RLe.trans (RLe.of_eq (nfres9_thn o may k sl j acc t h f (nrd (kev t) rd) true (g sl (kev t) h.get))) (thnF_le (.refl _) hk)
 |mk nd g=>
  refine RLe.trans (RLe.of_eq ?_) (thnF_le (.refl _) hk);show Bool.rec (motive:=fun _=>RR) _ _ (nd (kev t))=thnF (nfmk o may ⟨sl,j,acc,⟨t,h⟩,f⟩ (nrd (kev t) rd) g (nd (kev t))) k
  cases nd (kev t) with
  |false=>exact nfres9_thn _ _ _ _ _ _ _ _ _ _ _ _
  |true=>
   show nfres9 (wput o.dst) may k sl j acc t h f _ (free9 (h.get sl)) _=_;rw[free9_eq];exact nfres9_thn _ _ _ _ _ _ _ _ _ _ _ _
 |call x az=>
  show RLe (AV.rec (motive_1:=fun _=>RR) _ _ _ _ _ _ _ _ _ _ _ _ _ _ _ _ _ _ _ _ _ _ _ _ _ _ (kev t x)) (thnF (nfval M D n o az ⟨sl,j,acc,⟨t,h⟩,f⟩ (kev t x)) k2)
  cases kev t x with
  |fn fn fi ca=>cases fn with
   |func g=>
    show RLe (necall9 M C n o (wput o.dst) g (app9 fi (app9 (az.map (kev t)) ca)) k sl j acc t h f) (thnF (necall M D n o g (fi++az.map (kev t)++ca) _) k2);rw[app9_eq,app9_eq,<- List.append_assoc];exact necall9_le M hC n o g _ hk sl j acc t h f
   |_=>exact .none _
  |_=>exact .none _
 |fcall g az=>exact necall9_le M hC n o g _ hk sl j acc t h f
 |spec op=>exact .none _
 |bad=>exact .none _
structure KP9 where
 g:KG9
 w:WW
 o:Oper
 a:KAct9
 may:Bool
 rd:Fr->List Nat
noncomputable def kcp9(T:TabT)(ops:Array Oper)(o:Oper):KP9:=Wr.rec (motive:=fun _=>KP9) (fun w=>Rdr.rec (motive:=fun _=>KP9) (fun rd=>KP9.mk (kg9 (kg ops o.guard)) w o (kact9 T o.op) (mN o.op) rd) (krd9 (krd o.op))) (kwr o.dst)
theorem kcp9_eq(T:TabT)(ops:Array Oper)(o:Oper):kcp9 T ops o=⟨kg9 (kg ops o.guard),wput o.dst,o,kact9 T o.op,mN o.op,fun t=>nrd (kev t) (krd o.op)⟩:=by
 rw[<- kwr_wput,<- krd9_eq];unfold kcp9;cases kwr o.dst;cases krd9 (krd o.op);rfl
noncomputable def nkp9(M:KMT)(C:KC)(n:Nat)(k:KD9)(sl j:Nat)(acc:List FpE)(t:Fr)(h f:HT)(kp:KP9):RR:=KP9.rec (motive:=fun _=>RR) (fun g w o a may rd=>gate9 t (nfact9 M C n o w may rd k sl j acc t h f a) (k (nup9 may sl) (Nat.succ j) acc (w t (.tup [])) h f) g) kp
noncomputable def nowr9(acc:List FpE):Bool:=List.rec (motive:=fun _=>Bool) true (fun a _ ih=>List.rec (motive:=fun _=>Bool) (ih) (fun _ _ _=>false) (a.2.2)) acc
theorem nowr9_dyn(ms:List Nat){acc:List FpE}(h:nowr9 acc=true):dynN ms acc=true:=by
 have key:∀ acc:List FpE,nowr9 acc=true->acc.filter wrs=[]:=by
  intro acc
  induction acc with
  |nil=>intro _;rfl
  |cons a l ih=>
   intro h;obtain⟨j,rd,wr⟩:=a
   cases wr with
   |cons _ _=>cases h
   |nil=>exact ih h
 unfold dynN;rw[key acc h];rfl
noncomputable def npre9(M:KMT)(C:KC)(n:Nat)(ms:List Nat)(k:KK)(L:List KP9):KD9:=List.rec (motive:=fun _=>KD9) (fun _ _ acc t h _=>Bool.rec (motive:=fun _=>RR) (Bool.rec (motive:=fun _=>RR) none (k t h) (dynN ms acc)) (k t h) (nowr9 acc)) (fun kp _ ih sl j acc t h f=>nkp9 M C n ih sl j acc t h f kp) L
theorem npre9_le(M:KMT)(T:TabT)(ops:Array Oper){C D:KC}(hC:CLe C D)(n:Nat)(ms:List Nat){k k2:KK}(hk:KKLe k k2):∀ rest:List Oper,KDLe (npre9 M C n ms k (rest.map (kcp9 T ops))) fun sl j acc t h f=>thn (npre M D n ms (rest.map (kcp T ops)) ⟨sl,j,acc,⟨t,h⟩,f⟩) k2
 |[]=>fun sl j acc t h f=>by
  show RLe (Bool.rec (motive:=fun _=>RR) (Bool.rec (motive:=fun _=>RR) none (k t h) (dynN ms acc)) (k t h) (nowr9 acc)) (thn (nfend ⟨sl,j,acc,⟨t,h⟩,f⟩ (dynN ms acc)) k2)
  cases hw:nowr9 acc with
  |true=>rw[nowr9_dyn ms hw];exact hk t h
  |false=>cases dynN ms acc with
   |true=>exact hk t h
   |false=>exact .none _
 |o::rest=>fun sl j acc t h f=>by
  have ih:=npre9_le M T ops hC n ms hk rest;show RLe (nkp9 M C n (npre9 M C n ms k (rest.map (kcp9 T ops))) sl j acc t h f (kcp9 T ops o)) _;rw[kcp9_eq]
  have h1:RLe (nfact9 M C n o (wput o.dst) (mN o.op) (fun t=>nrd (kev t) (krd o.op)) (npre9 M C n ms k (rest.map (kcp9 T ops))) sl j acc t h f (kact9 T o.op)) (thnF (nfact M D n o (mN o.op) (krd o.op) ⟨sl,j,acc,⟨t,h⟩,f⟩ (kact T o.op)) fun sl j acc t h f=>thn (npre M D n ms (rest.map (kcp T ops)) ⟨sl,j,acc,⟨t,h⟩,f⟩) k2):=by
   exact(nfact9_le (kact9_le T o.op) M C n o _ _ _ _ _ _ _ _ _ _).trans (nfact9_slow M hC n o _ _ ih _ _ _ _ _ _ _)
  refine(gate9_le t h1 (ih (nup9 (mN o.op) sl) (j+1) acc (wput o.dst t (.tup [])) h f) (kg ops o.guard)).trans (RLe.of_eq ?_);show _=thn (nfgo M D n o (kact T o.op) (mN o.op) (krd o.op) ⟨sl,j,acc,⟨t,h⟩,f⟩ (npre M D n ms (rest.map (kcp T ops))) (nwant t (kg ops o.guard))) k2
  cases nwant t (kg ops o.guard) with
  |none=>rfl
  |some b=>cases b with
   |false=>
    show thn (npre M D n ms (rest.map (kcp T ops)) ⟨nup9 (mN o.op) sl,j+1,acc,⟨kput t o.dst (.tup []),h⟩,f⟩) k2=thn (npre M D n ms (rest.map (kcp T ops)) (nfskip o ⟨sl,j,acc,⟨t,h⟩,f⟩ (mN o.op))) k2;rw[nup9_eq];cases mN o.op<;>rfl
   |true=>
    show thnF (nfact M D n o (mN o.op) (krd o.op) ⟨sl,j,acc,⟨t,h⟩,f⟩ (kact T o.op)) _=thn (nfthen _ (nfact M D n o (mN o.op) (krd o.op) ⟨sl,j,acc,⟨t,h⟩,f⟩ (kact T o.op))) k2;cases nfact M D n o (mN o.op) (krd o.op) ⟨sl,j,acc,⟨t,h⟩,f⟩ (kact T o.op)<;>rfl
structure KD9s where
 ok:Bool
 pl:List ABlk
 ms:List Nat
 pre:List KP9
 tail:List KO9
noncomputable def kcd9(T:TabT)(ops:Array Oper):KD9s:=⟨statOk ops&&(fullOk ops (sufAt ops)&&Nat.ble (sufAt ops) ops.size),places (ops.toList.take (sufAt ops)),masks ops.toList [],(ops.toList.take (sufAt ops)).map (kcp9 T ops),(ops.toList.drop (sufAt ops)).map (kco9 T ops)⟩
noncomputable def ndraw9(M:KMT)(C:KC)(k:KK)(t:Fr)(h:HT)(d:KD9s):RR:=KD9s.rec (motive:=fun _=>RR) (fun ok pl ms pre tail=>Bool.rec (motive:=fun _=>RR) (none) (Option.rec (motive:=fun _=>RR) (none) (fun h1=>npre9 M C h.n ms (nops9 C false tail k) pre h.n 0 [] t h1 h) (kpushs pl h)) (ok)) d
theorem ndraw9_le(M:KMT)(T:TabT)(ops:Array Oper){C D:KC}(hC:CLe C D){k k2:KK}(hk:KKLe k k2)(t:Fr)(h:HT):RLe (ndraw9 M C k t h (kcd9 T ops)) (thn (ndraw M D ⟨t,h⟩ (kcd T ops)) k2):=by
 unfold kcd9 kcd;show RLe (Bool.rec (motive:=fun _=>RR) _ _ (statOk ops&&(fullOk ops (sufAt ops)&&Nat.ble (sufAt ops) ops.size))) (thn (ndraw0 M D _ _ _ _ ⟨t,h⟩ (statOk ops&&(fullOk ops (sufAt ops)&&Nat.ble (sufAt ops) ops.size))) k2)
 cases statOk ops&&(fullOk ops (sufAt ops)&&Nat.ble (sufAt ops) ops.size) with
 |false=>exact .none _
 |true=>
  show RLe (Option.rec (motive:=fun _=>RR) _ _ (kpushs (places (ops.toList.take (sufAt ops))) h)) (thn (ndraw1 M D _ _ _ ⟨t,h⟩ (kpushs (places (ops.toList.take (sufAt ops))) h)) k2)
  cases kpushs (places (ops.toList.take (sufAt ops))) h with
  |none=>exact .none _
  |some h1=>
   have hk1:KKLe (nops9 C false ((ops.toList.drop (sufAt ops)).map (kco9 T ops)) k) fun t h=>thn (nops D false ((ops.toList.drop (sufAt ops)).map (kco T ops)) ⟨t,h⟩) k2:=nops9_le T ops hC false hk _;refine(npre9_le M T ops hC h.n (masks ops.toList []) hk1 (ops.toList.take (sufAt ops)) h.n 0 [] t h1 h).trans (RLe.of_eq ?_);show thn (npre M D h.n (masks ops.toList []) _ ⟨h.n,0,[],⟨t,h1⟩,h⟩) _=thn (ndraw2 D _ (npre M D h.n (masks ops.toList []) _ ⟨h.n,0,[],⟨t,h1⟩,h⟩)) k2;cases npre M D h.n (masks ops.toList []) ((ops.toList.take (sufAt ops)).map (kcp T ops)) ⟨h.n,0,[],⟨t,h1⟩,h⟩<;>rfl
/-! ### calls -/
noncomputable def nbody9(F:KR9)(rs:List ResultVar)(m:Nat)(c:Code)(args:List AV)(h:HT):RR:=Bool.rec (motive:=fun _=>RR) (none) (F rs [.code c] (kframe m args) h) (Nat.ble (len9 args) m)
noncomputable def nfrom9(F:KR9)(rs:List ResultVar)(m:Nat)(c:Code)(args:List AV)(h:HT)(x:RR):RR:=Option.rec (motive:=fun _=>RR) (none) (fun q=>Prod.rec (motive:=fun _=>RR) (fun r h2=>Bool.rec (motive:=fun _=>RR) (nback (dn F) rs m c args h (nrow r h2.get h (isOwnRow r h2.get))) (some (r,h)) (pl3 r)) q) (x)
noncomputable def npart9(F:KR9)(rs:List ResultVar)(m:Nat)(c:Code)(args:List AV)(h:HT):RR:=Bool.rec (motive:=fun _=>RR) (Bool.rec (motive:=fun _=>RR) (npart (dn F) rs m c args h (belL 0 (args.map strip))) (nbody9 F rs m c args h) (all9 ntk9 args)) (nfrom9 F rs m c args h (nbody9 F rs m c args HT.nil)) (belL9 args)
noncomputable def nfn9(F:KR9)(args:List AV)(h:HT)(x:Option KFn):RR:=Option.rec (motive:=fun _=>RR) (none) (fun q=>KFn.rec (motive:=fun _=>RR) (fun rs m c=>npart9 F rs m c args h) q) (x)
noncomputable def ncalled9(U:FunT)(F:KR9):KC:=fun _ g args h=>nfn9 F args h ((U g).bind kfn)
theorem nbody_le{F:KR}{G:KR}(h:∀ rs k s,RLe (F rs k s) (G rs k s))(rs:List ResultVar)(m:Nat)(c:Code)(args:List AV)(h0:HT)(b:Bool):RLe (nbody F rs m c args h0 b) (nbody G rs m c args h0 b):=by
 cases b with
 |true=>exact h _ _ _
 |false=>exact .none _
theorem nback_le{F:KR}{G:KR}(h:∀ rs k s,RLe (F rs k s) (G rs k s))(rs:List ResultVar)(m:Nat)(c:Code)(args:List AV)(h0:HT)(x:RR):RLe (nback F rs m c args h0 x) (nback G rs m c args h0 x):=by
 cases x with
 |some q=>exact .refl _
 |none=>exact nbody_le h _ _ _ _ _ _
theorem npart_le{F:KR}{G:KR}(h:∀ rs k s,RLe (F rs k s) (G rs k s))(rs:List ResultVar)(m:Nat)(c:Code)(args:List AV)(h0:HT)(b:Bool):RLe (npart F rs m c args h0 b) (npart G rs m c args h0 b):=by
 cases b with
 |false=>exact nbody_le h _ _ _ _ _ _
 |true=>
  show RLe (nfrom F rs m c args h0 (nbody F rs m c (args.map strip) HT.nil _)) (nfrom G rs m c args h0 (nbody G rs m c (args.map strip) HT.nil _));have h1:=nbody_le h rs m c (args.map strip) HT.nil (Nat.ble (args.map strip).length m)
  cases hx:nbody F rs m c (args.map strip) HT.nil (Nat.ble (args.map strip).length m) with
  |none=>exact .none _
  |some q=>
   rw[h1 q hx];exact nback_le h _ _ _ _ _ _
theorem nbody9_le{F:KR9}{G:KR}(h:FLe F G)(rs:List ResultVar)(m:Nat)(c:Code)(args:List AV)(h0:HT):RLe (nbody9 F rs m c args h0) (nbody G rs m c args h0 (Nat.ble args.length m)):=by
 unfold nbody9;rw[len9_eq]
 cases Nat.ble args.length m with
 |true=>exact h _ _ _ _
 |false=>exact .none _
theorem npart9_le{F:KR9}{G:KR}(h:FLe F G)(rs:List ResultVar)(m:Nat)(c:Code)(args:List AV)(h0:HT):RLe (npart9 F rs m c args h0) (npart G rs m c args h0 (belL 0 (args.map strip))):=by
 unfold npart9
 cases hb:belL9 args with
 |true=>
  rw[belL9_eq] at hb;have hs:=belL_strip hb;rw[hs,hb];show RLe (nfrom9 F rs m c args h0 (nbody9 F rs m c args HT.nil)) (nfrom G rs m c args h0 (nbody G rs m c (args.map strip) HT.nil (Nat.ble (args.map strip).length m)));rw[hs];have h1:=nbody9_le h rs m c args HT.nil
  cases hx:nbody9 F rs m c args HT.nil with
  |none=>exact .none _
  |some q=>
   rw[h1 q hx];obtain⟨r,h2⟩:=q;show RLe (Bool.rec (motive:=fun _=>RR) (nback (dn F) rs m c args h0 (nrow r h2.get h0 (isOwnRow r h2.get))) (some (r,h0)) (pl3 r)) (nback G rs m c args h0 (nrow r h2.get h0 (isOwnRow r h2.get)))
   cases hp:pl3 r with
   |false=>exact nback_le h.dn _ _ _ _ _ _
   |true=>
    rw[pl3_row hp];exact .refl _
 |false=>
  dsimp only
  cases ht:all9 ntk9 args with
  |true=>
   have hs:=ntkL9_eq ht;rw[belL9_eq] at hb;rw[hs,hb];exact nbody9_le h rs m c args h0
  |false=>exact npart_le h.dn _ _ _ _ _ _
theorem ncalled9_le(U:FunT){F:KR9}{G:KR}(h:FLe F G):CLe (ncalled9 U F) (ncalled U G):=by
 intro o g args h0;unfold ncalled9 ncalled
 cases(U g).bind kfn with
 |none=>exact .none _
 |some q=>
  obtain⟨rs,m,c⟩:=q;exact npart9_le h rs m c args h0
/-! ### whole runs -/
noncomputable def kfin9(T:TabT)(rs:List ResultVar)(t:Fr)(h:HT):RR:=List.rec (motive:=fun _=>RR) (some (.tup [],h)) (fun x l _=>List.rec (motive:=fun _=>RR) (ResultVar.rec (motive:=fun _=>RR) (fun i=>wop0 (.tmp i) fun g=>some (g t,h)) (fun _ _=>kfin T rs ⟨t,h⟩) (x)) (fun _ _ _=>kfin T rs ⟨t,h⟩) (l)) (rs)
theorem kfin9_eq(T:TabT)(rs:List ResultVar)(t:Fr)(h:HT):kfin9 T rs t h=kfin T rs ⟨t,h⟩:=by
 cases rs with
 |nil=>rfl
 |cons x l=>cases l with
  |cons _ _=>rfl
  |nil=>cases x with
   |cell _ _=>rfl
   |tmp i=>
    show wop0 (.tmp i) (fun g=>some (g t,h))=some (Fr.get i t,h);rw[wop0_eq];rfl
noncomputable def kops9(T:TabT)(ops:Array Oper):List KO9:=ops.toList.map (kco9 T ops)
noncomputable def ncode9(M:KMT)(T:TabT)(F:KR9)(C:KC)(rs:List ResultVar)(k:List Item)(t:Fr)(h:HT)(c:Code):RR:=Code.rec (motive:=fun _=>RR) (F rs k t h) (fun _ ops d=>Bool.rec (motive:=fun _=>RR) (nops9 C true (kops9 T ops) (F rs k) t h) (ndraw9 M C (F rs k) t h (kcd9 T ops)) (d)) (fun a b _ _=>F rs (.code a::.code b::k) t h) (fun x a b _ _=>wop0 x fun g=>AV.rec (motive_1:=fun _=>RR) (motive_2:=fun _=>Unit) (motive_3:=fun _=>Unit) (fun _ _=>none) (fun q=>Bool.rec (motive:=fun _=>RR) (F rs (.code b::k) t h) (F rs (.code a::k) t h) (q)) (fun _=>none) (none) (fun _ _=>none) (fun _ _=>none) (fun _ _ _ _=>none) (fun _ _ _=>none) (none) (fun _ _=>none) (fun _ _=>none) (fun _ _ _ _ _=>none) (none) (fun _ _ _=>none) (none) (fun _=>none) (none) (fun _ _ _ _ _=>none) (fun _ _ _=>none) (fun _ _ _ _=>none) (fun _ _ _=>none) (none) () (fun _ _ _ _=>()) () (fun _ _ _ _=>()) (g t)) (fun id c _=>F rs (.code c::.inBlock id::k) t h) (fun c _=>F rs (.code c::.inLoop c::k) t h) (fun _ _ _ _ _ _=>none) (fun id=>Option.rec (motive:=fun _=>RR) (none) (fun k2=>F rs k2 t h) (exitTo id k)) (fun c _=>F rs (.code c::.inScope c::k) t h) (fun _=>F rs k t h) (fun l=>Option.rec (motive:=fun _=>RR) (none) (fun k2=>F rs k2 t h) (gotoIn l k)) (kfin9 T rs t h) (fun _=>none) (c)
noncomputable def nitem9(M:KMT)(T:TabT)(F:KR9)(C:KC)(rs:List ResultVar)(k:List Item)(t:Fr)(h:HT)(it:Item):RR:=Item.rec (motive:=fun _=>RR) (fun c=>ncode9 M T F C rs k t h c) (fun _=>F rs k t h) (fun c=>F rs (.code c::.inLoop c::k) t h) (fun _=>F rs k t h) (fun _ _=>none) (fun _=>none) (fun _=>none) (none) (fun _ _ _ _=>none) (fun _ _=>none) (it)
noncomputable def nstep9(M:KMT)(T:TabT)(F:KR9)(C:KC)(rs:List ResultVar)(t:Fr)(h:HT)(k:List Item):RR:=List.rec (motive:=fun _=>RR) (kfin9 T rs t h) (fun it k _=>nitem9 M T F C rs k t h it) (k)
theorem nstep9_le(M:KMT)(T:TabT){F:KR9}{G:KR}(hF:FLe F G){C D:KC}(hC:CLe C D)(rs:List ResultVar)(t:Fr)(h:HT)(k:List Item):RLe (nstep9 M T F C rs t h k) (nstep M T G D rs ⟨t,h⟩ k):=by
 cases k with
 |nil=>exact RLe.of_eq (kfin9_eq T rs t h)
 |cons it k=>
  cases it with
  |code c=>
   cases c with
   |skip=>exact hF _ _ _ _
   |region id ops d=>cases d with
    |false=>
     refine(nops9_le T ops hC true (k2:=fun t h=>G rs k ⟨t,h⟩) (fun t h=>hF rs k t h) ops.toList t h).trans (RLe.of_eq ?_);show thn (nops D true (ops.toList.map (kco T ops)) ⟨t,h⟩) _=nnext G rs k (nops D true (ops.toList.map (kco T ops)) ⟨t,h⟩);cases nops D true (ops.toList.map (kco T ops)) ⟨t,h⟩<;>rfl
    |true=>
     refine(ndraw9_le M T ops hC (k2:=fun t h=>G rs k ⟨t,h⟩) (fun t h=>hF rs k t h) t h).trans (RLe.of_eq ?_);show thn (ndraw M D ⟨t,h⟩ (kcd T ops)) _=nnext G rs k (ndraw M D ⟨t,h⟩ (kcd T ops));cases ndraw M D ⟨t,h⟩ (kcd T ops)<;>rfl
   |seq a b=>exact hF _ _ _ _
   |cond x a b=>
    show RLe (wop0 x fun g=>AV.rec (motive_1:=fun _=>RR) _ _ _ _ _ _ _ _ _ _ _ _ _ _ _ _ _ _ _ _ _ _ _ _ _ _ (g t)) (ncond G rs k ⟨t,h⟩ a b (kev t x));rw[wop0_eq];dsimp only
    cases kev t x with
    |bool q=>cases q<;>exact hF _ _ _ _
    |_=>exact .none _
   |block id c=>exact hF _ _ _ _
   |loop c=>exact hF _ _ _ _
   |rangeFunc _ _ _ _=>exact .none _
   |exit id=>
    show RLe (Option.rec (motive:=fun _=>RR) none (fun k2=>F rs k2 t h) (exitTo id k)) (njump G rs ⟨t,h⟩ (exitTo id k))
    cases exitTo id k with
    |none=>exact .none _
    |some k2=>exact hF _ _ _ _
   |scope c=>exact hF _ _ _ _
   |label _=>exact hF _ _ _ _
   |goto l=>
    show RLe (Option.rec (motive:=fun _=>RR) none (fun k2=>F rs k2 t h) (gotoIn l k)) (njump G rs ⟨t,h⟩ (gotoIn l k))
    cases gotoIn l k with
    |none=>exact .none _
    |some k2=>exact hF _ _ _ _
   |ret=>exact RLe.of_eq (kfin9_eq T rs t h)
   |refuse _=>exact .none _
  |inBlock _=>exact hF _ _ _ _
  |inScope _=>exact hF _ _ _ _
  |inLoop c=>exact hF _ _ _ _
  |_=>exact .none _
noncomputable def norC9(C:KC)(o:Oper)(g:FuncId)(args:List AV)(h:HT)(x:RR):RR:=Option.rec (motive:=fun _=>RR) (C o g args h) (fun q=>some q) (x)
noncomputable def nC9(U:FunT)(K:KC)(F:KR9):KC:=fun o g args h=>norC9 (ncalled9 U F) o g args h (K o g args h)
noncomputable def nrun9(U:FunT)(M:KMT)(K:KC)(T:TabT)(n:Nat):KR9:=Nat.rec (motive:=fun _=>KR9) (fun _ _ _ _=>none) (fun _ ih rs k t h=>nstep9 M T ih (nC9 U K ih) rs t h k) n
theorem nrun9_le(U:FunT)(M:KMT)(K:KC)(T:TabT):∀ n,FLe (nrun9 U M K T n) (nrun U M K T n)
 |0=>fun _ _ _ _=>.none _
 |n+1=>fun rs k t h=>by
  have ih:=nrun9_le U M K T n
  have hC:CLe (nC9 U K (nrun9 U M K T n)) (nC U K (nrun U M K T n)):=by
   intro o g args h;show RLe (norC9 _ o g args h (K o g args h)) (norC _ o g args h (K o g args h))
   cases K o g args h with
   |some q=>exact .refl _
   |none=>exact ncalled9_le U ih o g args h
  exact nstep9_le M T ih hC rs t h k
theorem ASpec.of9{P:Program}{U:FunT}(hU:FunOk P U){M:KMT}(hMM:KMok P M){K:KC}(hK:KCok P K)(hKP:KPres K){T:TabT}(hT:TabOk P T)(hM:P.follows .mixedOrders=true)(n:Nat){g:FuncId}{args:List AV}{r:AV}{h':HT}{o:Oper}(h:ncalled9 U (nrun9 U M K T n) o g args HT.nil=some (r,h')):ASpec P g args r:=
 ASpec.ofN hU hMM hK hKP hT hM n (ncalled9_le U (nrun9_le U M K T n) o g args HT.nil _ h)
set_option linter.unusedVariables false
noncomputable def beq8(a b:UInt8):Bool:=Nat.beq a.toNat b.toNat
theorem beq8_eq(a b:UInt8):beq8 a b=(a==b):=by
 unfold beq8;rw[beq_dec]
 by_cases h:a=b
 ·subst h;simp
 ·rw[decide_eq_false (fun e=>h (UInt8.toNat_inj.1 e))];exact(beq_eq_false_iff_ne.2 h).symm
noncomputable def bqs9(a:List UInt8):List UInt8->Bool:=List.rec (motive:=fun _=>List UInt8->Bool) (fun m=>List.rec (motive:=fun _=>Bool) true (fun _ _ _=>false) m) (fun x _ ih m=>List.rec (motive:=fun _=>Bool) false (fun y m' _=>Bool.rec (motive:=fun _=>Bool) false (ih m') (beq8 x y)) m) a
theorem bqs9_ok:∀ a b:List UInt8,bqs9 a b=true->a=b
 |[],[],_=>rfl
 |[],_::_,h=>by cases h
 |_::_,[],h=>by cases h
 |x::a,y::b,h=>by
  have h:Bool.rec (motive:=fun _=>Bool) false (bqs9 a b) (beq8 x y)=true:=h
  cases hx:beq8 x y with
  |false=>rw[hx] at h;cases h
  |true=>
   rw[hx] at h;rw[beq8_eq] at hx;rw[bqs9_ok a b h,eq_of_beq hx]
noncomputable def bqb9(a b:Bool):Bool:=Bool.rec (motive:=fun _=>Bool) (not9 b) b a
theorem bqb9_ok{a b:Bool}(h:bqb9 a b=true):a=b:=by cases a<;>cases b<;>first|rfl|cases h
noncomputable def bqa(k:IntKind)(n:Int)(v:AV):Bool:=AV.rec (motive_1:=fun _=>Bool) (motive_2:=fun _=>Unit) (motive_3:=fun _=>Unit) (fun k2 n2=>Bool.rec (motive:=fun _=>Bool) (false) (ieq9 n n2) (keq9 k k2)) (fun _=>false) (fun _=>false) (false) (fun _ _=>false) (fun _ _=>false) (fun _ _ _ _=>false) (fun _ _ _=>false) (false) (fun _ _=>false) (fun _ _=>false) (fun _ _ _ _ _=>false) (false) (fun _ _ _=>false) (false) (fun _=>false) (false) (fun _ _ _ _ _=>false) (fun _ _ _=>false) (fun _ _ _ _=>false) (fun _ _ _=>false) (false) () (fun _ _ _ _=>()) () (fun _ _ _ _=>()) (v)
noncomputable def bqb(b:Bool)(v:AV):Bool:=AV.rec (motive_1:=fun _=>Bool) (motive_2:=fun _=>Unit) (motive_3:=fun _=>Unit) (fun _ _=>false) (fun b2=>bqb9 b b2) (fun _=>false) (false) (fun _ _=>false) (fun _ _=>false) (fun _ _ _ _=>false) (fun _ _ _=>false) (false) (fun _ _=>false) (fun _ _=>false) (fun _ _ _ _ _=>false) (false) (fun _ _ _=>false) (false) (fun _=>false) (false) (fun _ _ _ _ _=>false) (fun _ _ _=>false) (fun _ _ _ _=>false) (fun _ _ _=>false) (false) () (fun _ _ _ _=>()) () (fun _ _ _ _=>()) (v)
noncomputable def bqc(s:List UInt8)(v:AV):Bool:=AV.rec (motive_1:=fun _=>Bool) (motive_2:=fun _=>Unit) (motive_3:=fun _=>Unit) (fun _ _=>false) (fun _=>false) (fun s2=>bqs9 s s2) (false) (fun _ _=>false) (fun _ _=>false) (fun _ _ _ _=>false) (fun _ _ _=>false) (false) (fun _ _=>false) (fun _ _=>false) (fun _ _ _ _ _=>false) (false) (fun _ _ _=>false) (false) (fun _=>false) (false) (fun _ _ _ _ _=>false) (fun _ _ _=>false) (fun _ _ _ _=>false) (fun _ _ _=>false) (false) () (fun _ _ _ _=>()) () (fun _ _ _ _=>()) (v)
noncomputable def bqd(v:AV):Bool:=AV.rec (motive_1:=fun _=>Bool) (motive_2:=fun _=>Unit) (motive_3:=fun _=>Unit) (fun _ _=>false) (fun _=>false) (fun _=>false) (true) (fun _ _=>false) (fun _ _=>false) (fun _ _ _ _=>false) (fun _ _ _=>false) (false) (fun _ _=>false) (fun _ _=>false) (fun _ _ _ _ _=>false) (false) (fun _ _ _=>false) (false) (fun _=>false) (false) (fun _ _ _ _ _=>false) (fun _ _ _=>false) (fun _ _ _ _=>false) (fun _ _ _=>false) (false) () (fun _ _ _ _=>()) () (fun _ _ _ _=>()) (v)
noncomputable def bqe(k:Nat)(tk:Tk)(ih:List (List AV)->Bool)(v:AV):Bool:=AV.rec (motive_1:=fun _=>Bool) (motive_2:=fun _=>Unit) (motive_3:=fun _=>Unit) (fun _ _=>false) (fun _=>false) (fun _=>false) (false) (fun _ _=>false) (fun _ _=>false) (fun k2 l2 tk2 _=>Bool.rec (motive:=fun _=>Bool) (false) (Tk.rec (motive:=fun _=>Bool) (Tk.rec (motive:=fun _=>Bool) (ih l2) (fun _=>false) (tk2)) (fun _=>false) (tk)) (Nat.beq k k2)) (fun _ _ _=>false) (false) (fun _ _=>false) (fun _ _=>false) (fun _ _ _ _ _=>false) (false) (fun _ _ _=>false) (false) (fun _=>false) (false) (fun _ _ _ _ _=>false) (fun _ _ _=>false) (fun _ _ _ _=>false) (fun _ _ _=>false) (false) () (fun _ _ _ _=>()) () (fun _ _ _ _=>()) (v)
noncomputable def bqf(v:AV):Bool:=AV.rec (motive_1:=fun _=>Bool) (motive_2:=fun _=>Unit) (motive_3:=fun _=>Unit) (fun _ _=>false) (fun _=>false) (fun _=>false) (false) (fun _ _=>false) (fun _ _=>false) (fun _ _ _ _=>false) (fun _ _ _=>false) (true) (fun _ _=>false) (fun _ _=>false) (fun _ _ _ _ _=>false) (false) (fun _ _ _=>false) (false) (fun _=>false) (false) (fun _ _ _ _ _=>false) (fun _ _ _=>false) (fun _ _ _ _=>false) (fun _ _ _=>false) (false) () (fun _ _ _ _=>()) () (fun _ _ _ _=>()) (v)
noncomputable def bqg(ih:List AV->Bool)(v:AV):Bool:=AV.rec (motive_1:=fun _=>Bool) (motive_2:=fun _=>Unit) (motive_3:=fun _=>Unit) (fun _ _=>false) (fun _=>false) (fun _=>false) (false) (fun _ _=>false) (fun _ _=>false) (fun _ _ _ _=>false) (fun _ _ _=>false) (false) (fun cs _=>ih cs) (fun _ _=>false) (fun _ _ _ _ _=>false) (false) (fun _ _ _=>false) (false) (fun _=>false) (false) (fun _ _ _ _ _=>false) (fun _ _ _=>false) (fun _ _ _ _=>false) (fun _ _ _=>false) (false) () (fun _ _ _ _=>()) () (fun _ _ _ _=>()) (v)
noncomputable def bqh(ih:List AV->Bool)(v:AV):Bool:=AV.rec (motive_1:=fun _=>Bool) (motive_2:=fun _=>Unit) (motive_3:=fun _=>Unit) (fun _ _=>false) (fun _=>false) (fun _=>false) (false) (fun _ _=>false) (fun _ _=>false) (fun _ _ _ _=>false) (fun _ _ _=>false) (false) (fun _ _=>false) (fun cs _=>ih cs) (fun _ _ _ _ _=>false) (false) (fun _ _ _=>false) (false) (fun _=>false) (false) (fun _ _ _ _ _=>false) (fun _ _ _=>false) (fun _ _ _ _=>false) (fun _ _ _=>false) (false) () (fun _ _ _ _=>()) () (fun _ _ _ _=>()) (v)
noncomputable def bq9(a:AV):AV->Bool:=AV.rec (motive_1:=fun _=>AV->Bool) (motive_2:=fun _=>List AV->Bool) (motive_3:=fun _=>List (List AV)->Bool) bqa bqb bqc bqd (fun _ _ _=>false) (fun _ _ _=>false) (fun k _=>bqe k) (fun _ _ _ _=>false) bqf (fun _=>bqg) (fun _=>bqh) (fun _ _ _ _ _ _=>false) (fun _=>false) (fun _ _ _ _=>false) (fun _=>false) (fun _ _=>false) (fun _=>false) (fun _ _ _ _ _ _=>false) (fun _ _ _ _=>false) (fun _ _ _ _ _=>false) (fun _ _ _ _=>false) (fun _=>false) (fun m=>List.rec (motive:=fun _=>Bool) true (fun _ _ _=>false) m) (fun _ _ i1 i2 m=>List.rec (motive:=fun _=>Bool) false (fun b m2 _=>Bool.rec (motive:=fun _=>Bool) false (i2 m2) (i1 b)) m) (fun m=>List.rec (motive:=fun _=>Bool) true (fun _ _ _=>false) m) (fun _ _ i1 i2 m=>List.rec (motive:=fun _=>Bool) false (fun b m2 _=>Bool.rec (motive:=fun _=>Bool) false (i2 m2) (i1 b)) m) a
noncomputable def bqL9(a:List AV):List AV->Bool:=AV.rec_1 (motive_1:=fun _=>AV->Bool) (motive_2:=fun _=>List AV->Bool) (motive_3:=fun _=>List (List AV)->Bool) bqa bqb bqc bqd (fun _ _ _=>false) (fun _ _ _=>false) (fun k _=>bqe k) (fun _ _ _ _=>false) bqf (fun _=>bqg) (fun _=>bqh) (fun _ _ _ _ _ _=>false) (fun _=>false) (fun _ _ _ _=>false) (fun _=>false) (fun _ _=>false) (fun _=>false) (fun _ _ _ _ _ _=>false) (fun _ _ _ _=>false) (fun _ _ _ _ _=>false) (fun _ _ _ _=>false) (fun _=>false) (fun m=>List.rec (motive:=fun _=>Bool) true (fun _ _ _=>false) m) (fun _ _ i1 i2 m=>List.rec (motive:=fun _=>Bool) false (fun b m2 _=>Bool.rec (motive:=fun _=>Bool) false (i2 m2) (i1 b)) m) (fun m=>List.rec (motive:=fun _=>Bool) true (fun _ _ _=>false) m) (fun _ _ i1 i2 m=>List.rec (motive:=fun _=>Bool) false (fun b m2 _=>Bool.rec (motive:=fun _=>Bool) false (i2 m2) (i1 b)) m) a
noncomputable def bqLL9(a:List (List AV)):List (List AV)->Bool:=AV.rec_2 (motive_1:=fun _=>AV->Bool) (motive_2:=fun _=>List AV->Bool) (motive_3:=fun _=>List (List AV)->Bool) bqa bqb bqc bqd (fun _ _ _=>false) (fun _ _ _=>false) (fun k _=>bqe k) (fun _ _ _ _=>false) bqf (fun _=>bqg) (fun _=>bqh) (fun _ _ _ _ _ _=>false) (fun _=>false) (fun _ _ _ _=>false) (fun _=>false) (fun _ _=>false) (fun _=>false) (fun _ _ _ _ _ _=>false) (fun _ _ _ _=>false) (fun _ _ _ _ _=>false) (fun _ _ _ _=>false) (fun _=>false) (fun m=>List.rec (motive:=fun _=>Bool) true (fun _ _ _=>false) m) (fun _ _ i1 i2 m=>List.rec (motive:=fun _=>Bool) false (fun b m2 _=>Bool.rec (motive:=fun _=>Bool) false (i2 m2) (i1 b)) m) (fun m=>List.rec (motive:=fun _=>Bool) true (fun _ _ _=>false) m) (fun _ _ i1 i2 m=>List.rec (motive:=fun _=>Bool) false (fun b m2 _=>Bool.rec (motive:=fun _=>Bool) false (i2 m2) (i1 b)) m) a
mutual
theorem bq9_ok:∀ (a b:AV),bq9 a b=true->a=b
 |.int k n,b,h=>by
  cases b with
  |int k2 n2=>
   have h:Bool.rec (motive:=fun _=>Bool) false (ieq9 n n2) (keq9 k k2)=true:=h
   cases hk:keq9 k k2 with
   |false=>rw[hk] at h;cases h
   |true=>
    rw[hk] at h;have h:ieq9 n n2=true:=h;rw[ieq9_eq,decide_eq_true_eq] at h;rw[keq9_eq hk,h]
  |_=>cases h
 |.bool x,b,h=>by
  cases b with
  |bool y=>rw[bqb9_ok h]
  |_=>cases h
 |.str s,b,h=>by
  cases b with
  |str s2=>rw[bqs9_ok s s2 h]
  |_=>cases h
 |.nilp,b,h=>by
  cases b with
  |nilp=>rfl
  |_=>cases h
 |.nils,b,h=>by
  cases b with
  |nils=>rfl
  |_=>cases h
 |.agg cs,b,h=>by
  cases b with
  |agg ds=>rw[bqL9_ok cs ds h]
  |_=>cases h
 |.tup cs,b,h=>by
  cases b with
  |tup ds=>rw[bqL9_ok cs ds h]
  |_=>cases h
 |.sl k l tk,b,h=>by
  cases b with
  |sl k2 l2 tk2=>
   have h:Bool.rec (motive:=fun _=>Bool) false (Tk.rec (motive:=fun _=>Bool) (Tk.rec (motive:=fun _=>Bool) (bqLL9 l l2) (fun _=>false) tk2) (fun _=>false) tk) (Nat.beq k k2)=true:=h
   cases hk:Nat.beq k k2 with
   |false=>rw[hk] at h;cases h
   |true=>
    rw[hk] at h
    cases tk with
    |own i=>cases h
    |no=>cases tk2 with
     |own j=>cases h
     |no=>
      have h:bqLL9 l l2=true:=h;rw[beq_iff.1 hk,bqLL9_ok l l2 h]
  |_=>cases h
 |.ptr _ _,_,h|.rptr _,_,h|.psl _ _,_,h|.fn _ _ _,_,h|.nilf,_,h|.iface _ _,_,h|.nilI,_,h|.mp _,_,h|.nilm,_,h|.msl _ _ _ _ _,_,h|.msu _ _ _,_,h|.eptr _ _ _ _,_,h|.cnd _ _,_,h|.junk,_,h=>by cases h
theorem bqL9_ok:∀ (a b:List AV),bqL9 a b=true->a=b
 |[],[],_=>rfl
 |[],_::_,h=>by cases h
 |_::_,[],h=>by cases h
 |x::a,y::b,h=>by
  have h:Bool.rec (motive:=fun _=>Bool) false (bqL9 a b) (bq9 x y)=true:=h
  cases hx:bq9 x y with
  |false=>rw[hx] at h;cases h
  |true=>rw[hx] at h;rw[bqL9_ok a b h,bq9_ok x y hx]
theorem bqLL9_ok:∀ (a b:List (List AV)),bqLL9 a b=true->a=b
 |[],[],_=>rfl
 |[],_::_,h=>by cases h
 |_::_,[],h=>by cases h
 |x::a,y::b,h=>by
  have h:Bool.rec (motive:=fun _=>Bool) false (bqLL9 a b) (bqL9 x y)=true:=h
  cases hx:bqL9 x y with
  |false=>rw[hx] at h;cases h
  |true=>rw[hx] at h;rw[bqLL9_ok a b h,bqL9_ok x y hx]
end
/-! ### a tree of choices -/
noncomputable def key9(v:AV):Int:=AV.rec (motive_1:=fun _=>Int) (motive_2:=fun _=>Unit) (motive_3:=fun _=>Unit) (fun _ n=>n) (fun b=>Bool.rec (motive:=fun _=>Int) (Int.ofNat 0) (Int.ofNat 1) b) (fun s=>Int.ofNat (len9 s)) (Int.negSucc 1) (fun _ _=>Int.negSucc 1) (fun _ _=>Int.negSucc 1) (fun _ l _ _=>Int.ofNat (len9 l)) (fun _ _ _=>Int.negSucc 1) (Int.negSucc 0) (fun _ _=>Int.negSucc 1) (fun _ _=>Int.negSucc 1) (fun _ _ _ _ _=>Int.negSucc 1) (Int.negSucc 1) (fun _ _ _=>Int.negSucc 1) (Int.negSucc 1) (fun _=>Int.negSucc 1) (Int.negSucc 1) (fun _ _ _ _ _=>Int.negSucc 1) (fun _ _ _=>Int.negSucc 1) (fun _ _ _ _=>Int.negSucc 1) (fun _ _ _=>Int.negSucc 1) (Int.negSucc 1) () (fun _ _ _ _=>()) () (fun _ _ _ _=>()) (v)
noncomputable def sub8(j m:Nat)(v:AV):AV:=AV.rec (motive_1:=fun _=>AV) (motive_2:=fun _=>Unit) (motive_3:=fun _=>Unit) (fun _ _=>.junk) (fun _=>.junk) (fun _=>.junk) (.junk) (fun _ _=>.junk) (fun _ _=>.junk) (fun _ l _ _=>nth9 .junk l j fun e=>nth9 .junk e m fun a=>a) (fun _ _ _=>.junk) (.junk) (fun cs _=>nth9 .junk cs m fun a=>a) (fun _ _=>.junk) (fun _ _ _ _ _=>.junk) (.junk) (fun _ _ _=>.junk) (.junk) (fun _=>.junk) (.junk) (fun _ _ _ _ _=>.junk) (fun _ _ _=>.junk) (fun _ _ _ _=>.junk) (fun _ _ _=>.junk) (.junk) () (fun _ _ _ _=>()) () (fun _ _ _ _=>()) (v)
noncomputable def at9(p:List (Nat×Nat)):AV->Int:=List.rec (motive:=fun _=>AV->Int) key9 (fun q _ ih v=>Prod.rec (motive:=fun _=>Int) (fun j m=>ih (sub8 j m v)) q) p
inductive DT where
 |leaf (a b r:AV)
 |node (w:Bool) (p:List (Nat×Nat)) (c:Int) (l r:DT)
noncomputable def DT.look(t:DT):AV->AV->Option AV:=DT.rec (motive:=fun _=>AV->AV->Option AV)
 (fun a b r x y=>Bool.rec (motive:=fun _=>Option AV) none (Bool.rec (motive:=fun _=>Option AV) none (some r) (bq9 a x)) (bq9 b y))
 (fun w p c _ _ l r x y=>Bool.rec (motive:=fun _=>Option AV) (r x y) (l x y) (ilt9 (at9 p (Bool.rec (motive:=fun _=>AV) y x w)) c)) t
def DT.Ok(P:Program)(g:FuncId):DT->Prop
 |.leaf a b r=>ASpec P g [a,b] r
 |.node _ _ _ l r=>l.Ok P g/\r.Ok P g
theorem DT.look_ok{P:Program}{g:FuncId}:∀ {t:DT},t.Ok P g->∀ {x y r:AV},t.look x y=some r->ASpec P g [x,y] r
 |.leaf a b q,h,x,y,r,e=>by
  have e:Bool.rec (motive:=fun _=>Option AV) none (Bool.rec (motive:=fun _=>Option AV) none (some q) (bq9 a x)) (bq9 b y)=some r:=e
  cases hb:bq9 b y with
  |false=>rw[hb] at e;cases e
  |true=>
   rw[hb] at e;have e:Bool.rec (motive:=fun _=>Option AV) none (some q) (bq9 a x)=some r:=e
   cases ha:bq9 a x with
   |false=>rw[ha] at e;cases e
   |true=>
    rw[ha] at e;cases e;rw[<- bq9_ok _ _ ha,<- bq9_ok _ _ hb];exact h
 |.node w p c l q,h,x,y,r,e=>by
  have e:Bool.rec (motive:=fun _=>Option AV) (q.look x y) (l.look x y) (ilt9 (at9 p (Bool.rec (motive:=fun _=>AV) y x w)) c)=some r:=e
  cases hb:ilt9 (at9 p (Bool.rec (motive:=fun _=>AV) y x w)) c with
  |false=>rw[hb] at e;exact DT.look_ok h.2 e
  |true=>rw[hb] at e;exact DT.look_ok h.1 e
noncomputable def look9(f:FuncId)(t:DT)(z:KAT):KAT:=fun g args=>match Nat.beq g f with
 |true=>match args with
  |[x,y]=>match t.look x y with
   |some r=>some r
   |none=>z g args
  |_=>z g args
 |false=>z g args
theorem look9_ok{P:Program}{f:FuncId}{t:DT}(ht:t.Ok P f){z:KAT}(hz:KAok P z):KAok P (look9 f t z):=by
 intro g args r h;unfold look9 at h
 split at h
 ·rename_i e
  split at h
  ·split at h
   ·rename_i hl;cases h;rw[Nat.eq_of_beq_eq_true e];exact DT.look_ok ht hl
   ·exact hz _ _ _ h
  ·exact hz _ _ _ h
 ·exact hz _ _ _ h
noncomputable def fst9(x:Option (AV×HT)):Option AV:=Option.rec (motive:=fun _=>Option AV) none (fun q=>Prod.rec (motive:=fun _=>Option AV) (fun r _=>some r) q) x
theorem fst9_ok{x:Option (AV×HT)}{r:AV}(h:fst9 x=some r):∃ h',x=some (r,h'):=by
 cases x with
 |none=>cases h
 |some q=>exact⟨q.2,by cases h;rfl⟩
theorem RV.msu_msl{c:Cx}{v:Value}{i k n:Nat}(h:RV c v (.msu i k n)):∃ cap,RV c v (.msl i k 0 n cap):=by
 cases h with
 |msu _ _ _ cap b hk hb hn hcap hm ho=>exact⟨cap,.msl _ _ _ _ _ b 0 hk hb hn hcap hm fun _=>(Nat.zero_mul _).symm⟩
theorem ACall.melt{P:Program}{f:FuncId}{h:List ABlk}{R:AV->List ABlk->Prop}{i k n:Nat}{L:List (List AV)}(hi:h[i]? = some (.rows k L))(hk:0<k)(hn:n<=L.length)(hp:∀ x∈L.take n,∀ a∈x,a.plain=true)
  (H:ACall P f [.sl k (L.take n) .no] (h.set i .dead) R):ACall P f [.msu i k n] h R:=by
 intro c vs hch hc ht;subst hch;obtain⟨vs⟩:=vs
 match vs,ht.1 with
 |[v],_=>
  obtain⟨cap,hv⟩:=(ht.2 0 v _ rfl rfl).msu_msl;obtain⟨q1,q2,q3⟩:=hv.frozen hc hi hk (by omega) (by rw[List.drop_zero];exact hp);rw[List.drop_zero] at q3;refine(H ⟨c.ρ,c.h.set i .dead,c.w,c.X⟩ _ rfl q1 ⟨rfl,fun j u a hu ha=>?_⟩).mono ?_
  ·cases j with
   |zero=>cases hu;cases ha;exact q3
   |succ j=>simp at hu
  ·rintro e w' ⟨v',ρ',r,h',rfl,g1,g2,g3,hR⟩;exact⟨v',ρ',r,h',rfl,g1,q2.trans g2,g3,hR⟩
noncomputable def kMFr(M:KMT)(o:Oper)(g:FuncId)(i k n:Nat)(h:HT):Option ABlk->Option (AV×HT)
 |some (.rows k' L)=>match Nat.beq k' k&&(Nat.ble 1 k&&(Nat.ble n (len9 L)&&(all9 (all9 pl1) (L.take n)&&Nat.ble (h.n+1) 4096))) with
  |true=>match M.m o g [.sl k (L.take n) .no] with
   |some (k2,l)=>some (.msu h.n k2 l.length,(h.set i .dead).push (.rows k2 l))
   |none=>none
  |false=>none
 |_=>none
noncomputable def kMF(M:KMT):KC:=fun o g args h=>match args with
 |[.msu i k n]=>kMFr M o g i k n h (h.get i)
 |_=>none
theorem pl1_plain{a:AV}(h:pl1 a=true):a.plain=true:=by
 cases a<;>first
  |rfl
  |(cases h;done)
  |(rename_i tk;cases tk<;>first|rfl|cases h)
theorem all_pl1{l:List (List AV)}(h:all9 (all9 pl1) l=true):∀ x∈l,∀ a∈x,a.plain=true:=fun x hx a ha=>by
 rw[all9_eq,List.all_eq_true] at h;have:=h x hx;rw[all9_eq,List.all_eq_true] at this;exact pl1_plain (this a ha)
theorem plain_belL{l:List AV}(h:∀ a∈l,a.plain=true):belL 0 l=true:=bel_of_all fun a ha=>AV.plain_bel (h a ha) 0
theorem plain_belLL:∀ {l:List (List AV)},(∀ x∈l,∀ a∈x,a.plain=true)->belLL 0 l=true
 |[],_=>rfl
 |x::l,h=>by
  unfold belLL;rw[plain_belL (h x List.mem_cons_self),plain_belLL fun y hy=>h y (List.mem_cons_of_mem _ hy)];rfl
theorem kMF_ok{P:Program}{M:KMT}(hM:KMok P M):KCok P (kMF M):=by
 intro o g args ht h r ht' q e;unfold kMF at e
 split at e
 ·rename_i i k n;unfold kMFr at e
  split at e
  ·rename_i k' L hi
   split at e
   ·rename_i hb;simp only[Vi] at hb;obtain⟨h1,h2,h3,h4,h5⟩:=hb
    split at e
    ·rename_i k2 l hm;cases e;obtain⟨m1,m2⟩:=hM.m _ _ _ _ _ hm;obtain rfl:=beq_iff.1 h1;have hk:=Nat.le_of_ble_eq_true h2
     have hn:n<=L.length:=by have:=Nat.le_of_ble_eq_true h3;rwa [len9_eq] at this
     have hp:=all_pl1 h4;have h5:ht.n<4096:=Nat.le_of_ble_eq_true h5;rw[q.2.2 i] at hi;refine⟨m1.fn,_,(q.set i .dead).push _ (by rw[HT.set_n];exact h5),ACall.melt hi hk hn hp ?_⟩;refine ACall.grown (ACall.newAt (sl:=(h.set i .dead).length) (by simp) m1 (.cons (.refl _) .nil) ?_ m2 ⟨by rw[List.length_set,q.1],?_⟩)
     ·show(AV.bel 0 (.sl k' (L.take n) .no)&&true)=true
      rfl
     ·rw[List.set_append_right _ _ (Nat.le_refl _),Nat.sub_self];rfl
    ·cases e
   ·cases e
  ·cases e
 ·cases e
theorem leL_refl:∀ l:List AV,LeL l l
 |[]=>.nil
 |a::l=>.cons (.refl _) (leL_refl l)
theorem kMF_pres{M:KMT}:KPres (kMF M):=by
 intro o g args h r h' e;unfold kMF at e
 split at e
 ·unfold kMFr at e
  split at e
  ·split at e
   ·rename_i hb;simp only[Vi] at hb
    split at e
    ·cases e;exact(PresB.set h _ _).trans (.push' _ _ (by rw[HT.set_n];exact hb.2.2.2.2))
    ·cases e
   ·cases e
  ·cases e
 ·cases e
theorem kOwn0{P:Program}{g:FuncId}{args:List AV}{k:Nat}(hs:OSpec P g args k [])(ha:belL 0 args=true)(h:List ABlk):ACall P g args h fun r h'=>r=.sl k [] (.own h.length)/\h'=h++[.tok k 0]:=
 ACall.grown (ACall.ownAt (sl:=h.length) (by simp) hs (leL_refl _) ha ⟨rfl,by rw[List.set_append_right _ _ (Nat.le_refl _),Nat.sub_self];rfl⟩)
end Go.Proofs.YtojhjaohaafeaaaGreatDoor
namespace Go.Proofs.YtojhjaohaafeaaaGreatDoor
open Go.Proofs Go.RowKit
set_option linter.unusedVariables false
/-! ### a sort for the kernel -/
noncomputable def ins9(x:Int)(l:List Int):List Int:=List.rec (motive:=fun _=>List Int) [x] (fun y l ih=>Bool.rec (motive:=fun _=>List Int) (x::y::l) (y::ih) (ilt9 y x)) l
noncomputable def srt9(l:List Int):List Int:=List.rec (motive:=fun _=>List Int) [] (fun x _ ih=>ins9 x ih) l
theorem ins9_perm(x:Int):∀ l:List Int,(ins9 x l).Perm (x::l)
 |[]=>.refl _
 |y::l=>by
  show List.Perm (Bool.rec (motive:=fun _=>List Int) (x::y::l) (y::ins9 x l) (ilt9 y x)) _
  cases ilt9 y x with
  |false=>exact .refl _
  |true=>exact((ins9_perm x l).cons y).trans (.swap _ _ _)
theorem srt9_perm:∀ l:List Int,(srt9 l).Perm l
 |[]=>.refl _
 |x::l=>(ins9_perm x (srt9 l)).trans ((srt9_perm l).cons x)
theorem ins9_sorted(x:Int):∀ l:List Int,l.Pairwise (·<=·)->(ins9 x l).Pairwise (·<=·)
 |[],_=>by simp[ins9]
 |y::l,h=>by
  rw[List.pairwise_cons] at h;show List.Pairwise _ (Bool.rec (motive:=fun _=>List Int) (x::y::l) (y::ins9 x l) (ilt9 y x))
  cases hb:ilt9 y x with
  |false=>
   rw[ilt9_eq,decide_eq_false_iff_not] at hb;rw[List.pairwise_cons];refine⟨fun z hz=>?_,List.pairwise_cons.2 h⟩
   rcases List.mem_cons.1 hz with rfl|hz
   ·omega
   ·have:=h.1 z hz;omega
  |true=>
   rw[ilt9_eq,decide_eq_true_eq] at hb;rw[List.pairwise_cons];refine⟨fun z hz=>?_,ins9_sorted x l h.2⟩
   rcases List.mem_cons.1 ((ins9_perm x l).mem_iff.1 hz) with rfl|hz
   ·omega
   ·exact h.1 z hz
theorem srt9_sorted:∀ l:List Int,(srt9 l).Pairwise (·<=·)
 |[]=>.nil
 |x::l=>ins9_sorted x _ (srt9_sorted l)
theorem srt9_eq(l:List Int):l.mergeSort (fun x y=>decide (x<=y))=srt9 l:=by
 have h1:(l.mergeSort fun x y=>decide (x<=y)).Pairwise (·<=·):=by
  have:=List.pairwise_mergeSort (le:=fun x y:Int=>decide (x<=y)) (fun a b c h1 h2=>by simp only[decide_eq_true_eq] at *;omega) (fun a b=>by simp only[Bool.or_eq_true,decide_eq_true_eq];omega) l
  exact this.imp fun h=>by simpa using h
 exact List.Perm.eq_of_pairwise (fun a b _ _ h1 h2=>by omega) h1 (srt9_sorted l) ((List.mergeSort_perm l _).trans (srt9_perm l).symm)
noncomputable def nat9(k:Int):Nat:=Int.rec (motive:=fun _=>Nat) (fun n=>n) (fun _=>0) k
theorem nat9_eq(k:Int):nat9 k=k.toNat:=by cases k<;>rfl
noncomputable def nth9V(zs:List Int)(k:Int):Int:=Bool.rec (motive:=fun _=>Int) (Bool.rec (motive:=fun _=>Int) (nth9 (0:Int) (srt9 zs) (Nat.sub (len9 zs) (nat9 k)) fun x=>x) 0 (ilt9 (Int.ofNat (len9 zs)) k)) 0 (ilt9 k (Int.ofNat 1))
theorem nth9V_eq(zs:List Int)(k:Int):nth9V zs k=nthV zs k:=by
 unfold nth9V nthV;rw[ilt9_eq,ilt9_eq,len9_eq,nat9_eq,nth9_eq,srt9_eq]
 by_cases h1:k<1
 ·rw[if_pos (.inl h1),show decide (k<Int.ofNat 1)=true from decide_eq_true h1]
 ·rw[show decide (k<Int.ofNat 1)=false from decide_eq_false h1]
  by_cases h2:(zs.length:Int)<k
  ·rw[if_pos (.inr h2),show decide (Int.ofNat zs.length<k)=true from decide_eq_true h2]
  ·rw[if_neg (by omega),show decide (Int.ofNat zs.length<k)=false from decide_eq_false h2];rw[show Nat.sub zs.length k.toNat=zs.length-k.toNat from rfl]
   cases(srt9 zs)[zs.length-k.toNat]?<;>rfl
/-! ### rows of whole numbers -/
def intC(z:Int):List AV:=[.int .i64 z]
noncomputable def int1:List AV->Option Int:=fun e=>match e with
 |[.int .i64 n]=>some n
 |_=>none
theorem int1_ok{c:List AV}{n:Int}(h:int1 c=some n):c=intC n:=by
 unfold int1 at h
 split at h
 ·cases h;rfl
 ·cases h
theorem ints_ok{l:List (List AV)}{m:List Int}(h:mapO int1 l=some m):l=m.map intC:=by
 obtain⟨h1,h2⟩:=mapO_ok h;apply List.ext_getElem?;intro i;rw[Vg]
 cases hm:m[i]? with
 |none=>
  have:=List.getElem?_eq_none_iff.1 hm;rw[List.getElem?_eq_none (by omega)];rfl
 |some a=>
  obtain⟨c,hc,ha⟩:=h2 i a hm;rw[hc,int1_ok ha];rfl
theorem rv_ints{c:Cx}{v:Value}{zs:List Int}{t:Tk}(h:RV c v (.sl 1 (zs.map intC) t)):∃ A cap,v=.slice A zs.length cap/\(zs≠[]->SInts c.w.heap.size c.w (.slice A zs.length cap) zs):=by
 cases h with
 |sl _ _ _ A n cap b o vs hn hcap hm hA hk hc hr ht=>
  rw[List.length_map] at hn;subst hn;refine⟨A,cap,rfl,fun hne=>?_⟩;have hA:=hA (by simpa using hne);subst hA
  have key:∀ j,j<zs.length->b<c.w.heap.size/\c.w.cell? ⟨b,o+j,none⟩=some (.int .i64 (zs[j]?.getD 0)):=fun j hj=>by
   have e1:(zs.map intC)[j]? = some (intC zs[j]):=by rw[Vg,Vb hj];rfl
   obtain⟨_,him,hcell⟩:=hc j _ 0 _ e1 rfl;have hv:=hr j _ 0 _ e1 rfl;rw[Nat.mul_one,Nat.add_zero] at him hcell;generalize vs j 0=u at hv hcell;cases hv;exact⟨him.1,by rw[hcell,Vb hj];rfl⟩
  exact⟨b,o,cap,rfl,(key 0 (List.length_pos_iff.2 hne)).1,fun j hj=>(key j hj).2⟩
theorem rv_msints{c:Cx}(hc:RelH c){v:Value}{zs:List Int}{i:Nat}(hi:c.h[i]? = some (.rows 1 (zs.map intC)))(h:RV c v (.msu i 1 zs.length)):∃ A cap,v=.slice A zs.length cap/\(zs≠[]->SInts c.w.heap.size c.w (.slice A zs.length cap) zs):=by
 cases h with
 |msu _ _ _ cap b hk hb ht hcap hm hs=>
  refine⟨_,cap,rfl,fun hne=>?_⟩;obtain⟨b',vs,e,hb',hcell,_,hr⟩:=hc.blk i _ hi;rw[hb] at hb';cases hb';refine⟨b,0,cap,rfl,hc.here i _ b hi hb,fun j hj=>?_⟩
  have e1:(zs.map intC)[j]? = some (intC zs[j]):=by rw[Vg,Vb hj];rfl
  obtain⟨u,hu,hv⟩:=hr j _ 0 _ e1 rfl;cases hv;rw[Nat.mul_one,Nat.add_zero] at hu;rw[Nat.zero_add,Vb hj];unfold World.cell?;rw[hcell]
  simpa using hu
theorem Below.evh{c:Cx}(hc:RelH c){w':World}(hb:Below c.w.heap.size c.w w'):RelH ⟨c.ρ,c.h,w',c.X⟩/\Ev c ⟨c.ρ,c.h,w',c.X⟩:=by
 have hev:Ev c ⟨c.ρ,c.h,w',c.X⟩:=⟨hb.os,hb.tape,hb.output,hb.size,rfl,fun b o h=>⟨⟨Nat.lt_of_lt_of_le h.1 hb.size,h.2.1,h.2.2⟩,cB (hb.block b h.1)⟩,fun b hlt hm=>⟨hb.block b hlt,hm⟩,Nat.le_refl _,
  fun i x hx hf=>⟨x,hx,hf,fun ht=>⟨ht,rfl⟩,fun k n e=>⟨n,e,.inr ⟨rfl,rfl,fun b hbb=>hb.block b (hc.here i x b hx hbb)⟩⟩⟩,keep_old hb.block⟩
 exact⟨⟨hc.inj,fun i x b hx hbb=>Nat.lt_of_lt_of_le (hc.here i x b hx hbb) hb.size,fun i x hx=>(hc.blk i x hx).mono hev rfl fun b _ hbb=>hb.block b (hc.here i x b hx hbb),fun b o h=>⟨Nat.lt_of_lt_of_le (hc.xs b o h).1 hb.size,(hc.xs b o h).2⟩⟩,hev⟩
theorem trel2{c:Cx}{vs:Array Value}{a b:AV}(h:TRel c vs [a,b]):∃ u v,vs=#[u,v]/\RV c u a/\RV c v b:=by
 obtain⟨h1,h2⟩:=h;obtain⟨vs⟩:=vs
 match vs,h1 with
 |[u,v],_=>exact⟨u,v,rfl,h2 0 u _ rfl rfl,h2 1 v _ rfl rfl⟩
/-! ### what is known of it -/
theorem nth_callable:Callable prog 190:=⟨_,func190,by kernel_rfl,rfl⟩
noncomputable def i64b(k:Int):Bool:=Bool.rec (motive:=fun _=>Bool) false (not9 (ilt9 (Int.ofNat 1000000) k)) (not9 (ilt9 k (Int.negSucc 1000000)))
theorem i64b_ok{k:Int}(h:i64b k=true):-9223372036854775808<=k/\k<=9223372036854775807:=by
 unfold i64b at h;rw[not9_eq,not9_eq,ilt9_eq,ilt9_eq] at h
 cases h1:decide (k<Int.negSucc 1000000) with
 |true=>rw[h1] at h;cases h
 |false=>
  rw[h1] at h
  cases h2:decide (Int.ofNat 1000000<k) with
  |true=>rw[h2] at h;cases h
  |false=>
   rw[decide_eq_false_iff_not] at h1 h2;simp only[Int.ofNat_eq_natCast] at h1 h2;omega
noncomputable def nthR(zs:List Int)(k:Int):Option AV:=match i64b k&&Nat.ble (len9 zs) 1000 with
 |true=>some (.int .i64 (nth9V zs k))
 |false=>none
theorem nthR_ok{zs:List Int}{k:Int}{r:AV}(h:nthR zs k=some r):r=.int .i64 (nthV zs k)/\(-9223372036854775808<=k/\k<=9223372036854775807)/\zs.length<=1000000:=by
 unfold nthR at h
 split at h
 ·rename_i hb;cases h;rw[Vi] at hb;have:=Nat.le_of_ble_eq_true hb.2;rw[len9_eq] at this;rw[nth9V_eq];exact⟨rfl,i64b_ok hb.1,by omega⟩
 ·cases h
noncomputable def nthA(args:List AV):Option AV:=match args with
 |[.sl 1 l .no,.int .i64 k]=>match mapO int1 l with
  |some zs=>nthR zs k
  |none=>none
 |_=>none
theorem nthA_ok{args:List AV}{r:AV}(h:nthA args=some r):ASpec prog 190 args r:=by
 unfold nthA at h
 split at h
 ·rename_i l k
  split at h
  ·rename_i zs hz;obtain⟨rfl,hk,hl⟩:=nthR_ok h;obtain rfl:=ints_ok hz;refine⟨nth_callable,fun c vs hh hc ht=>?_⟩;obtain⟨u,v,rfl,hu,hv⟩:=trel2 ht;cases hv;obtain⟨A,cap,rfl,hI⟩:=rv_ints hu;refine(nth_calls A cap zs k c.w hk hl hI).mono ?_;rintro e w' ⟨rfl,hb⟩;obtain⟨g1,g2⟩:=Below.evh hc hb;exact⟨_,_,_,_,rfl,g1,g2,.int _ _,.one (.refl _)⟩
  ·cases h
 ·cases h
noncomputable def nthL9(zs:List Int)(i n:Nat)(k:Int):Option (Nat×AV×Bool):=match Nat.beq n (len9 zs) with
 |true=>match nthR zs k with
  |some r=>some (i,r,true)
  |none=>none
 |false=>none
noncomputable def nthL8(i n:Nat)(k:Int):Option ABlk->Option (Nat×AV×Bool)
 |some (.rows 1 L)=>match mapO int1 L with
  |some zs=>nthL9 zs i n k
  |none=>none
 |_=>none
noncomputable def nthL(args:List AV)(hg:Nat->Option ABlk):Option (Nat×AV×Bool):=match args with
 |[.msu i 1 n,.int .i64 k]=>nthL8 i n k (hg i)
 |_=>none
theorem nthL_ok{args:List AV}{hg:Nat->Option ABlk}{i:Nat}{res:AV}{b:Bool}(h:nthL args hg=some (i,res,b)):Callable prog 190/\∀ hh:List ABlk,hh[i]? = hg i->ACall prog 190 args hh fun r h'=>r=res/\h'=keepB b hh i:=by
 refine⟨nth_callable,?_⟩;unfold nthL at h
 split at h
 ·rename_i i0 n k;unfold nthL8 at h
  split at h
  ·rename_i L hL
   split at h
   ·rename_i zs hz;unfold nthL9 at h
    split at h
    ·rename_i hn
     split at h
     ·rename_i r hr;cases h;obtain⟨rfl,hk,hl⟩:=nthR_ok hr;obtain rfl:=ints_ok hz;have hn:=beq_iff.1 hn;rw[len9_eq] at hn;subst hn;intro hh hi c vs hch hc ht;rw[hL] at hi;obtain⟨u,v,rfl,hu,hv⟩:=trel2 ht;cases hv;obtain⟨A,cap,rfl,hI⟩:=rv_msints hc (by rw[hch];exact hi) hu;refine(nth_calls A cap zs k c.w hk hl hI).mono ?_;rintro e w' ⟨rfl,hb⟩;obtain⟨g1,g2⟩:=Below.evh hc hb;exact⟨_,_,_,_,rfl,g1,g2,.int _ _,rfl,hch⟩
     ·cases h
    ·cases h
   ·cases h
  ·cases h
 ·cases h
end Go.Proofs.YtojhjaohaafeaaaGreatDoor
