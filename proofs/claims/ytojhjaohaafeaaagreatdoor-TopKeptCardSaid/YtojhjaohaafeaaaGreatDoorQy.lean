/-
  Several texts in one: Kke.
-/
import Derived.Test.YtojhjaohaafeaaaGreatDoorRows
import Derived.Test.YtojhjaohaafeaaaGreatDoorCards
import Derived.Test.YtojhjaohaafeaaaGreatDoorTie
import Derived.WalkKit
import Derived.ProofKit
import Derived.JoinedOf
import Derived.Test.YtojhjaohaafeaaaGreatDoorQu
import Derived.Test.YtojhjaohaafeaaaGreatDoorQv
import Derived.Test.YtojhjaohaafeaaaGreatDoorQw
import Derived.Test.YtojhjaohaafeaaaGreatDoorQx
set_option maxRecDepth 20000
set_option maxHeartbeats 8000000
namespace Go.Proofs.YtojhjaohaafeaaaGreatDoor
set_option maxRecDepth 100000
theorem topKept_wf:Rows.topKeptRow.wf (OpenSpec.ofChange Rows.topKeptSpec)=true:=by kernel_rfl
theorem topKept_laidOut:laidOutB Tryz.prog=true:=by kernel_rfl
theorem topKept_mapsRowed:mapsRowed Tryz.prog=true:=by kernel_rfl
theorem topKept_joined:joinedFacts Tryz.prog 4 Tryz.f4 Rows.topKeptSpec Rows.topKeptRow=true:=by
 unfold joinedFacts
 rw[topKept_inPlace,topKept_unfollowed,topKept_recurses,topKept_varsNamed,topKept_wf,topKept_laidOut,topKept_mapsRowed]
 kernel_rfl
theorem topKept_fn : Tryz.prog.funcNamed "consistory/consistorytop.TopKept" = some 4 := by kernel_rfl
theorem topKept_inst:Tryz.f4.isInstance Tryz.prog Rows.topKeptRow.origin Rows.topKeptRow.targs:=of_decide_eq_true (by kernel_rfl)
theorem topKept_wrap:Tryz.f4.isWrapper Tryz.prog Rows.topKeptRow.wrapper Rows.topKeptRow.mainSum:=by
 unfold Func.isWrapper;first|(rw[if_pos (by decide +kernel)];kernel_rfl)|(rw[if_neg (by decide +kernel)];exact⟨rfl,rfl⟩)
theorem topKept_text:Rows.topKeptRow.wfByText (OpenSpec.ofChange Rows.topKeptSpec)=true:=by kernel_rfl
theorem topKept_main : Tryz.prog.mainIs = some (true,"26077c05e2579cd417adc6f2e983b72c4ee774a9683f91f89462402780ad2ab7".toList) := by kernel_rfl
end Go.Proofs.YtojhjaohaafeaaaGreatDoor
