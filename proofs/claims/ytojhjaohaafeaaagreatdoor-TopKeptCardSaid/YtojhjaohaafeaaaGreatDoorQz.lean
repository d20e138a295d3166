/-
  Several texts in one: Kkf.
-/
import Derived.Test.YtojhjaohaafeaaaGreatDoorRows
import Derived.Test.YtojhjaohaafeaaaGreatDoorCards
import Derived.Test.YtojhjaohaafeaaaGreatDoorTie
import Derived.WalkKit
import Derived.ProofKit
import Derived.JoinedOf
import Derived.Test.YtojhjaohaafeaaaGreatDoorQy
set_option maxRecDepth 20000
set_option maxHeartbeats 8000000
namespace Go.Proofs.YtojhjaohaafeaaaGreatDoor
set_option maxRecDepth 100000
theorem no_go:Tryz.prog.funcs.any Func.goes=false:=by kernel_rfl
theorem goes_of{P:Program}(h:P.funcs.any Func.goes=false)(f:FuncId):P.goes f=false:=by
 unfold Program.goes
 rw[h,Bool.and_false,Bool.or_false,List.any_eq_false]
 intro g _
 cases hg:P.funcs[g]? with
 |none=>simp
 |some fn=>
  rw[Option.any_some]
  rw[Array.any_eq_false] at h
  obtain⟨hlt,rfl⟩:=Array.getElem?_eq_some_iff.1 hg
  exact h g hlt
theorem topKept_goes:false=Rows.topKeptRow.goesBy Tryz.prog:=by
 show false = (((Tryz.prog.funcNamed "consistory/consistorytop.TopKept").any Tryz.prog.goes) || false)
 rw[topKept_fn,Option.any_some,goes_of no_go]
 rfl
end Go.Proofs.YtojhjaohaafeaaaGreatDoor
