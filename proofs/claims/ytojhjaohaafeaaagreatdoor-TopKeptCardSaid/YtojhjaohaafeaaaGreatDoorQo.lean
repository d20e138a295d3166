/-
  Several texts in one: He.
-/
import Derived.Test.YtojhjaohaafeaaaGreatDoorQj
import Derived.Test.YtojhjaohaafeaaaGreatDoorQk
import Derived.KernelRfl
set_option maxRecDepth 20000
set_option maxHeartbeats 8000000
namespace Go.Proofs.YtojhjaohaafeaaaGreatDoor
open Go.RowKit
set_option maxRecDepth 1000000
theorem h167:rn q242 q264=some (.tup [q273,.sl 62 [q233,q268,q267,q266] .no]):=by kernel_rfl
theorem h168:rn q236 q264=some (.tup [q283,.sl 62 [q240,q277,q276,q275] .no]):=by kernel_rfl
theorem h169:rn q255 q264=some (.tup [q255,.nils]):=by kernel_rfl
theorem h170:rn q263 q264=some (q288):=by kernel_rfl
theorem h171:rn q273 q289=some (q291):=by kernel_rfl
theorem h172:rn q283 q289=some (q293):=by kernel_rfl
theorem h173:rn q255 q289=some (q295):=by kernel_rfl
theorem h174:rn q287 q289=some (q288):=by kernel_rfl
theorem h175:rn q290 q264=some (q291):=by kernel_rfl
theorem h176:rn q292 q264=some (q293):=by kernel_rfl
theorem h177:rn q294 q264=some (q295):=by kernel_rfl
theorem h178:rn q287 q264=some (q288):=by kernel_rfl
theorem h179:rn q290 q296=some (q291):=by kernel_rfl
theorem h180:rn q292 q296=some (q293):=by kernel_rfl
theorem h181:rn q294 q296=some (.tup [q299,.nils]):=by kernel_rfl
theorem h182:rn q287 q296=some (q288):=by kernel_rfl
theorem h183:rn q290 q300=some (q291):=by kernel_rfl
theorem h184:rn q292 q300=some (q293):=by kernel_rfl
theorem h185:rn q299 q300=some (.tup [q303,.nils]):=by kernel_rfl
theorem h186:rn q287 q300=some (q288):=by kernel_rfl
theorem h187:rn q290 q304=some (q291):=by kernel_rfl
theorem h188:rn q292 q304=some (q293):=by kernel_rfl
theorem h189:rn q303 q304=some (q306):=by kernel_rfl
theorem h190:rn q287 q304=some (q288):=by kernel_rfl
theorem h191:rn q290 q289=some (q291):=by kernel_rfl
theorem h192:rn q292 q289=some (q293):=by kernel_rfl
theorem h193:rn q305 q289=some (q306):=by kernel_rfl
theorem h194:rn q290 q307=some (q291):=by kernel_rfl
theorem h195:rn q292 q307=some (q293):=by kernel_rfl
theorem h196:rn q305 q307=some (.tup [q310,.nils]):=by kernel_rfl
theorem h197:rn q287 q307=some (q288):=by kernel_rfl
theorem h198:rn q290 q311=some (q291):=by kernel_rfl
theorem h199:rn q292 q311=some (q293):=by kernel_rfl
theorem h200:rn q310 q311=some (.tup [q314,.nils]):=by kernel_rfl
theorem h201:rn q287 q311=some (q288):=by kernel_rfl
theorem h202:rn q290 q315=some (q291):=by kernel_rfl
theorem h203:rn q292 q315=some (q293):=by kernel_rfl
theorem h204:rn q314 q315=some (q317):=by kernel_rfl
theorem h205:rn q287 q315=some (q288):=by kernel_rfl
theorem h206:rn q290 q234=some (q291):=by kernel_rfl
theorem h207:rn q292 q234=some (q293):=by kernel_rfl
theorem h208:rn q316 q234=some (q317):=by kernel_rfl
theorem h209:rn q287 q234=some (q288):=by kernel_rfl
theorem h210:rn q290 q318=some (q291):=by kernel_rfl
theorem h211:rn q292 q318=some (q293):=by kernel_rfl
theorem h212:rn q316 q318=some (.tup [q322,.sl 62 [q320] .no]):=by kernel_rfl
theorem h213:rn q287 q318=some (q288):=by kernel_rfl
theorem h214:rn q290 q323=some (q291):=by kernel_rfl
theorem h215:rn q292 q323=some (q293):=by kernel_rfl
theorem h216:rn q322 q323=some (.tup [q326,.nils]):=by kernel_rfl
theorem h217:rn q287 q323=some (q288):=by kernel_rfl
theorem h218:rn q290 q327=some (q291):=by kernel_rfl
theorem h219:rn q292 q327=some (q293):=by kernel_rfl
theorem h220:rn q326 q327=some (q329):=by kernel_rfl
theorem h221:rn q287 q327=some (q288):=by kernel_rfl
theorem h222:rn q290 q241=some (q291):=by kernel_rfl
theorem h223:rn q292 q241=some (q293):=by kernel_rfl
theorem h224:rn q328 q241=some (q329):=by kernel_rfl
theorem h225:rn q287 q241=some (q288):=by kernel_rfl
theorem h226:rn q290 q330=some (q291):=by kernel_rfl
theorem h227:rn q292 q330=some (q293):=by kernel_rfl
theorem h228:rn q328 q330=some (.tup [q334,.nils]):=by kernel_rfl
theorem h229:rn q287 q330=some (q288):=by kernel_rfl
theorem h230:rn q290 q335=some (q291):=by kernel_rfl
theorem h231:rn q292 q335=some (q293):=by kernel_rfl
theorem h232:rn q334 q335=some (.tup [q337,.nils]):=by kernel_rfl
theorem h233:rn q287 q335=some (q288):=by kernel_rfl
theorem h234:rn q290 q338=some (q291):=by kernel_rfl
theorem h235:rn q292 q338=some (q293):=by kernel_rfl
theorem h236:rn q337 q338=some (.tup [q339,.nils]):=by kernel_rfl
theorem h237:rn q287 q338=some (q288):=by kernel_rfl
theorem h238:rn q290 q340=some (.tup [q343,.sl 62 [q342] .no]):=by kernel_rfl
theorem h239:rn q292 q340=some (.tup [q345,.sl 62 [q344] .no]):=by kernel_rfl
end Go.Proofs.YtojhjaohaafeaaaGreatDoor
