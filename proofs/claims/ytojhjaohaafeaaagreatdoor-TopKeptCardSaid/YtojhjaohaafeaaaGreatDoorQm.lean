/-
  Several texts in one: Hc.
-/
import Derived.Test.YtojhjaohaafeaaaGreatDoorQj
import Derived.Test.YtojhjaohaafeaaaGreatDoorQk
import Derived.KernelRfl
set_option maxRecDepth 20000
set_option maxHeartbeats 8000000
namespace Go.Proofs.YtojhjaohaafeaaaGreatDoor
open Go.RowKit
set_option maxRecDepth 1000000
theorem h65:rn q94 q122=some (q95):=by kernel_rfl
theorem h66:rn q87 q122=some (q88):=by kernel_rfl
theorem h67:rn q90 q129=some (q91):=by kernel_rfl
theorem h68:rn q128 q129=some (.tup [q131,.nils]):=by kernel_rfl
theorem h69:rn q94 q129=some (q95):=by kernel_rfl
theorem h70:rn q87 q129=some (q88):=by kernel_rfl
theorem h71:rn q90 q132=some (.tup [q135,.sl 62 [q134] .no]):=by kernel_rfl
theorem h72:rn q131 q132=some (.tup [q137,.sl 62 [q136] .no]):=by kernel_rfl
theorem h73:rn q94 q132=some (.tup [q140,.sl 62 [q138] .no]):=by kernel_rfl
theorem h74:rn q87 q132=some (.tup [q142,.sl 62 [q141] .no]):=by kernel_rfl
theorem h75:rn q135 q143=some (.tup [q146,.nils]):=by kernel_rfl
theorem h76:rn q137 q143=some (.tup [q147,.nils]):=by kernel_rfl
theorem h77:rn q140 q143=some (.tup [q149,.nils]):=by kernel_rfl
theorem h78:rn q142 q143=some (.tup [q150,.nils]):=by kernel_rfl
theorem h79:rn q146 q151=some (.tup [q154,.nils]):=by kernel_rfl
theorem h80:rn q147 q151=some (.tup [q155,.nils]):=by kernel_rfl
theorem h81:rn q149 q151=some (.tup [q157,.nils]):=by kernel_rfl
theorem h82:rn q150 q151=some (.tup [q158,.nils]):=by kernel_rfl
theorem h83:rn q154 q159=some (.tup [q164,.sl 62 [q163] .no]):=by kernel_rfl
theorem h84:rn q155 q159=some (.tup [q166,.sl 62 [q165] .no]):=by kernel_rfl
theorem h85:rn q157 q159=some (.tup [q169,.sl 62 [q167] .no]):=by kernel_rfl
theorem h86:rn q158 q159=some (.tup [q171,.sl 62 [q170] .no]):=by kernel_rfl
theorem h87:rn q164 q172=some (.tup [q185,.sl 62 [q177,q176,q173] .no]):=by kernel_rfl
theorem h88:rn q166 q172=some (.tup [q190,.sl 62 [q188,q187,q186] .no]):=by kernel_rfl
theorem h89:rn q169 q172=some (.tup [q197,.sl 62 [q193,q192,q191] .no]):=by kernel_rfl
theorem h90:rn q171 q172=some (.tup [q202,.sl 62 [q200,q199,q198] .no]):=by kernel_rfl
theorem h91:rn q185 q203=some (q204):=by kernel_rfl
theorem h92:rn q190 q203=some (q205):=by kernel_rfl
end Go.Proofs.YtojhjaohaafeaaaGreatDoor
