/-
  Several texts in one: Kkb.
-/
import Derived.Test.YtojhjaohaafeaaaGreatDoorRows
import Derived.Test.YtojhjaohaafeaaaGreatDoorCards
import Derived.Test.YtojhjaohaafeaaaGreatDoorTie
import Derived.WalkKit
import Derived.ProofKit
import Derived.JoinedOf
set_option maxRecDepth 20000
set_option maxHeartbeats 8000000
namespace Go.Proofs.YtojhjaohaafeaaaGreatDoor
set_option maxRecDepth 100000
theorem topKept_unfollowed:Tryz.prog.unfollowed 4=Rows.topKeptRow.unfollowed:=by kernel_rfl
end Go.Proofs.YtojhjaohaafeaaaGreatDoor
