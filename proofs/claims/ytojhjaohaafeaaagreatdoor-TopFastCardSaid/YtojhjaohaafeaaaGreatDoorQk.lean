/-
  Several texts in one: Kfc.
-/
import Derived.Test.YtojhjaohaafeaaaGreatDoorRows
import Derived.Test.YtojhjaohaafeaaaGreatDoorCards
import Derived.Test.YtojhjaohaafeaaaGreatDoorTie
import Derived.WalkKit
import Derived.ProofKit
import Derived.JoinedOf
set_option maxRecDepth 20000
set_option maxHeartbeats 8000000
open Go.Proofs.Tryz
namespace Go.Proofs.YtojhjaohaafeaaaGreatDoor
set_option maxRecDepth 100000
theorem topFast_recurses:prog.recurses 3=Rows.topFastRow.recurses:=by kernel_rfl
end Go.Proofs.YtojhjaohaafeaaaGreatDoor
