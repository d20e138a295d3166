/-
  Several texts in one: Kfe.
-/
import Derived.Test.YtojhjaohaafeaaaGreatDoorRows
import Derived.Test.YtojhjaohaafeaaaGreatDoorCards
import Derived.Test.YtojhjaohaafeaaaGreatDoorTie
import Derived.WalkKit
import Derived.ProofKit
import Derived.JoinedOf
import Derived.Test.YtojhjaohaafeaaaGreatDoorQi
import Derived.Test.YtojhjaohaafeaaaGreatDoorQj
import Derived.Test.YtojhjaohaafeaaaGreatDoorQk
import Derived.Test.YtojhjaohaafeaaaGreatDoorQl
set_option maxRecDepth 20000
set_option maxHeartbeats 8000000
open Go.Proofs.Tryz
namespace Go.Proofs.YtojhjaohaafeaaaGreatDoor
set_option maxRecDepth 100000
theorem topFast_wf:Rows.topFastRow.wf (OpenSpec.ofChange Rows.topFastSpec)=true:=by kernel_rfl
theorem topFast_laidOut:laidOutB prog=true:=by kernel_rfl
theorem topFast_mapsRowed:mapsRowed prog=true:=by kernel_rfl
theorem topFast_joined:joinedFacts prog 3 Tryz.f3 Rows.topFastSpec Rows.topFastRow=true:=by
 unfold joinedFacts;rw[topFast_inPlace,topFast_unfollowed,topFast_recurses,topFast_varsNamed,topFast_wf,topFast_laidOut,topFast_mapsRowed]
 kernel_rfl
theorem topFast_fn : prog.funcNamed "consistory/consistorytop.TopFast" = some 3 := by kernel_rfl
theorem topFast_inst:Tryz.f3.isInstance prog Rows.topFastRow.origin Rows.topFastRow.targs:=of_decide_eq_true (by kernel_rfl)
theorem topFast_wrap:Tryz.f3.isWrapper prog Rows.topFastRow.wrapper Rows.topFastRow.mainSum:=by
 unfold Func.isWrapper;first|(rw[if_pos (by decide +kernel)];kernel_rfl)|(rw[if_neg (by decide +kernel)];exact⟨rfl,rfl⟩)
theorem topFast_text:Rows.topFastRow.wfByText (OpenSpec.ofChange Rows.topFastSpec)=true:=by kernel_rfl
theorem topFast_main : prog.mainIs = some (true,"26077c05e2579cd417adc6f2e983b72c4ee774a9683f91f89462402780ad2ab7".toList) := by kernel_rfl
end Go.Proofs.YtojhjaohaafeaaaGreatDoor
