/-
  Several texts in one: Hb.
-/
import Derived.Test.YtojhjaohaafeaaaGreatDoorQj
import Derived.Test.YtojhjaohaafeaaaGreatDoorQk
import Derived.KernelRfl
set_option maxRecDepth 20000
set_option maxHeartbeats 8000000
namespace Go.Proofs.YtojhjaohaafeaaaGreatDoor
open Go.RowKit
set_option maxRecDepth 1000000
theorem h0:rn q10 q13=some (.tup [q28,.sl 62 [q22] .no]):=by kernel_rfl
theorem h1:rn q31 q13=some (.tup [q33,.nils]):=by kernel_rfl
theorem h2:rn q36 q13=some (.tup [q38,.nils]):=by kernel_rfl
theorem h3:rn q41 q13=some (.tup [q43,.nils]):=by kernel_rfl
theorem h4:rn q28 q47=some (.tup [q28,.nils]):=by kernel_rfl
theorem h5:rn q33 q47=some (q50):=by kernel_rfl
theorem h6:rn q38 q47=some (.tup [q51,.nils]):=by kernel_rfl
theorem h7:rn q43 q47=some (.tup [q52,.nils]):=by kernel_rfl
theorem h8:rn q28 q54=some (.tup [q55,.nils]):=by kernel_rfl
theorem h9:rn q49 q54=some (q50):=by kernel_rfl
theorem h10:rn q51 q54=some (.tup [q63,.sl 62 [q59,q58,q57] .no]):=by kernel_rfl
theorem h11:rn q52 q54=some (.tup [q70,.sl 62 [q67,q66,q65] .no]):=by kernel_rfl
theorem h12:rn q55 q71=some (.tup [q77,.sl 62 [q46,q74,q73] .no]):=by kernel_rfl
theorem h13:rn q49 q71=some (.tup [q83,.sl 62 [q53,q80,q79] .no]):=by kernel_rfl
theorem h14:rn q63 q71=some (.tup [q63,.nils]):=by kernel_rfl
theorem h15:rn q70 q71=some (q88):=by kernel_rfl
theorem h16:rn q77 q89=some (q91):=by kernel_rfl
theorem h17:rn q83 q89=some (q93):=by kernel_rfl
theorem h18:rn q63 q89=some (q95):=by kernel_rfl
theorem h19:rn q87 q89=some (q88):=by kernel_rfl
theorem h20:rn q90 q96=some (q91):=by kernel_rfl
theorem h21:rn q92 q96=some (q93):=by kernel_rfl
theorem h22:rn q94 q96=some (q95):=by kernel_rfl
theorem h23:rn q87 q96=some (q88):=by kernel_rfl
theorem h24:rn q90 q71=some (q91):=by kernel_rfl
theorem h25:rn q92 q71=some (q93):=by kernel_rfl
theorem h26:rn q94 q71=some (q95):=by kernel_rfl
theorem h27:rn q87 q71=some (q88):=by kernel_rfl
theorem h28:rn q90 q97=some (q91):=by kernel_rfl
theorem h29:rn q92 q97=some (.tup [q101,.nils]):=by kernel_rfl
theorem h30:rn q94 q97=some (q95):=by kernel_rfl
theorem h31:rn q87 q97=some (q88):=by kernel_rfl
theorem h32:rn q90 q102=some (q91):=by kernel_rfl
theorem h33:rn q101 q102=some (q104):=by kernel_rfl
theorem h34:rn q94 q102=some (q95):=by kernel_rfl
theorem h35:rn q87 q102=some (q88):=by kernel_rfl
theorem h36:rn q90 q89=some (q91):=by kernel_rfl
theorem h37:rn q103 q89=some (q104):=by kernel_rfl
theorem h38:rn q94 q89=some (q95):=by kernel_rfl
theorem h39:rn q90 q105=some (q91):=by kernel_rfl
theorem h40:rn q103 q105=some (.tup [q108,.nils]):=by kernel_rfl
theorem h41:rn q94 q105=some (q95):=by kernel_rfl
theorem h42:rn q87 q105=some (q88):=by kernel_rfl
theorem h43:rn q90 q109=some (q91):=by kernel_rfl
theorem h44:rn q108 q109=some (q111):=by kernel_rfl
theorem h45:rn q94 q109=some (q95):=by kernel_rfl
theorem h46:rn q87 q109=some (q88):=by kernel_rfl
theorem h47:rn q90 q47=some (q91):=by kernel_rfl
theorem h48:rn q110 q47=some (q111):=by kernel_rfl
theorem h49:rn q94 q47=some (q95):=by kernel_rfl
theorem h50:rn q87 q47=some (q88):=by kernel_rfl
theorem h51:rn q90 q112=some (q91):=by kernel_rfl
theorem h52:rn q110 q112=some (.tup [q117,.sl 62 [q115] .no]):=by kernel_rfl
theorem h53:rn q94 q112=some (q95):=by kernel_rfl
theorem h54:rn q87 q112=some (q88):=by kernel_rfl
theorem h55:rn q90 q118=some (q91):=by kernel_rfl
theorem h56:rn q117 q118=some (q121):=by kernel_rfl
theorem h57:rn q94 q118=some (q95):=by kernel_rfl
theorem h58:rn q87 q118=some (q88):=by kernel_rfl
theorem h59:rn q90 q54=some (q91):=by kernel_rfl
theorem h60:rn q120 q54=some (q121):=by kernel_rfl
theorem h61:rn q94 q54=some (q95):=by kernel_rfl
theorem h62:rn q87 q54=some (q88):=by kernel_rfl
theorem h63:rn q90 q122=some (q91):=by kernel_rfl
theorem h64:rn q120 q122=some (.tup [q128,.nils]):=by kernel_rfl
end Go.Proofs.YtojhjaohaafeaaaGreatDoor
