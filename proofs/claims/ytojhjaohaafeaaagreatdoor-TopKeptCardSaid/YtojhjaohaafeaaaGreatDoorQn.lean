/-
  Several texts in one: Hd.
-/
import Derived.Test.YtojhjaohaafeaaaGreatDoorQj
import Derived.Test.YtojhjaohaafeaaaGreatDoorQk
import Derived.KernelRfl
set_option maxRecDepth 20000
set_option maxHeartbeats 8000000
namespace Go.Proofs.YtojhjaohaafeaaaGreatDoor
open Go.RowKit
set_option maxRecDepth 1000000
theorem h93:rn q197 q203=some (q206):=by kernel_rfl
theorem h94:rn q202 q203=some (q207):=by kernel_rfl
theorem h95:rn q185 q208=some (q204):=by kernel_rfl
theorem h96:rn q190 q208=some (q205):=by kernel_rfl
theorem h97:rn q197 q208=some (q206):=by kernel_rfl
theorem h98:rn q202 q208=some (q207):=by kernel_rfl
theorem h99:rn q185 q209=some (q204):=by kernel_rfl
theorem h100:rn q190 q209=some (q205):=by kernel_rfl
theorem h101:rn q197 q209=some (q206):=by kernel_rfl
theorem h102:rn q202 q209=some (q207):=by kernel_rfl
theorem h103:rn q185 q210=some (q204):=by kernel_rfl
theorem h104:rn q190 q210=some (q205):=by kernel_rfl
theorem h105:rn q197 q210=some (q206):=by kernel_rfl
theorem h106:rn q202 q210=some (q207):=by kernel_rfl
theorem h107:rn q185 q211=some (q204):=by kernel_rfl
theorem h108:rn q190 q211=some (q205):=by kernel_rfl
theorem h109:rn q197 q211=some (q206):=by kernel_rfl
theorem h110:rn q202 q211=some (q207):=by kernel_rfl
theorem h111:rn q185 q212=some (q204):=by kernel_rfl
theorem h112:rn q190 q212=some (q205):=by kernel_rfl
theorem h113:rn q197 q212=some (q206):=by kernel_rfl
theorem h114:rn q202 q212=some (q207):=by kernel_rfl
theorem h115:rn q185 q213=some (q204):=by kernel_rfl
theorem h116:rn q190 q213=some (q215):=by kernel_rfl
theorem h117:rn q197 q213=some (q206):=by kernel_rfl
theorem h118:rn q202 q213=some (q207):=by kernel_rfl
theorem h119:rn q185 q216=some (q204):=by kernel_rfl
theorem h120:rn q214 q216=some (q215):=by kernel_rfl
theorem h121:rn q197 q216=some (q206):=by kernel_rfl
theorem h122:rn q202 q216=some (q207):=by kernel_rfl
theorem h123:rn q185 q217=some (q204):=by kernel_rfl
theorem h124:rn q214 q217=some (q215):=by kernel_rfl
theorem h125:rn q197 q217=some (q206):=by kernel_rfl
theorem h126:rn q202 q217=some (q207):=by kernel_rfl
theorem h127:rn q185 q218=some (q204):=by kernel_rfl
theorem h128:rn q214 q218=some (q220):=by kernel_rfl
theorem h129:rn q197 q218=some (q206):=by kernel_rfl
theorem h130:rn q202 q218=some (q207):=by kernel_rfl
theorem h131:rn q185 q221=some (q204):=by kernel_rfl
theorem h132:rn q219 q221=some (q220):=by kernel_rfl
theorem h133:rn q197 q221=some (q206):=by kernel_rfl
theorem h134:rn q202 q221=some (q207):=by kernel_rfl
theorem h135:rn q185 q222=some (q204):=by kernel_rfl
theorem h136:rn q219 q222=some (q220):=by kernel_rfl
theorem h137:rn q197 q222=some (q206):=by kernel_rfl
theorem h138:rn q202 q222=some (q207):=by kernel_rfl
theorem h139:rn q185 q223=some (q204):=by kernel_rfl
theorem h140:rn q219 q223=some (q225):=by kernel_rfl
theorem h141:rn q197 q223=some (q206):=by kernel_rfl
theorem h142:rn q202 q223=some (q207):=by kernel_rfl
theorem h143:rn q185 q226=some (q204):=by kernel_rfl
theorem h144:rn q224 q226=some (q225):=by kernel_rfl
theorem h145:rn q197 q226=some (q206):=by kernel_rfl
theorem h146:rn q202 q226=some (q207):=by kernel_rfl
theorem h147:rn q185 q227=some (q204):=by kernel_rfl
theorem h148:rn q224 q227=some (q225):=by kernel_rfl
theorem h149:rn q197 q227=some (q206):=by kernel_rfl
theorem h150:rn q202 q227=some (q207):=by kernel_rfl
theorem h151:rn q185 q228=some (q204):=by kernel_rfl
theorem h152:rn q224 q228=some (q231):=by kernel_rfl
theorem h153:rn q197 q228=some (q206):=by kernel_rfl
theorem h154:rn q202 q228=some (q207):=by kernel_rfl
theorem h155:rn q230 q211=some (q231):=by kernel_rfl
theorem h156:rn q230 q216=some (q231):=by kernel_rfl
theorem h157:rn q230 q221=some (q231):=by kernel_rfl
theorem h158:rn q230 q226=some (q231):=by kernel_rfl
theorem h159:rn q185 q234=some (q204):=by kernel_rfl
theorem h160:rn q230 q234=some (q237):=by kernel_rfl
theorem h161:rn q197 q234=some (.tup [q238,.nils]):=by kernel_rfl
theorem h162:rn q202 q234=some (.tup [q239,.nils]):=by kernel_rfl
theorem h163:rn q185 q241=some (.tup [q242,.nils]):=by kernel_rfl
theorem h164:rn q236 q241=some (q237):=by kernel_rfl
theorem h165:rn q238 q241=some (.tup [q255,.sl 62 [q248,q247,q245,q244] .no]):=by kernel_rfl
theorem h166:rn q239 q241=some (.tup [q263,.sl 62 [q260,q259,q258,q257] .no]):=by kernel_rfl
end Go.Proofs.YtojhjaohaafeaaaGreatDoor
