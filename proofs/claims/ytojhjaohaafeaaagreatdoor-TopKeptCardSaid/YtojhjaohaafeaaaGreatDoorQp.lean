/-
  Several texts in one: Hf.
-/
import Derived.Test.YtojhjaohaafeaaaGreatDoorQj
import Derived.Test.YtojhjaohaafeaaaGreatDoorQk
import Derived.KernelRfl
set_option maxRecDepth 20000
set_option maxHeartbeats 8000000
namespace Go.Proofs.YtojhjaohaafeaaaGreatDoor
open Go.RowKit
set_option maxRecDepth 1000000
theorem h240:rn q339 q340=some (.tup [q347,.sl 62 [q346] .no]):=by kernel_rfl
theorem h241:rn q287 q340=some (.tup [q349,.sl 62 [q348] .no]):=by kernel_rfl
theorem h242:rn q343 q350=some (.tup [q353,.nils]):=by kernel_rfl
theorem h243:rn q345 q350=some (.tup [q354,.nils]):=by kernel_rfl
theorem h244:rn q347 q350=some (.tup [q355,.nils]):=by kernel_rfl
theorem h245:rn q349 q350=some (.tup [q356,.nils]):=by kernel_rfl
theorem h246:rn q353 q357=some (.tup [q360,.nils]):=by kernel_rfl
theorem h247:rn q354 q357=some (.tup [q361,.nils]):=by kernel_rfl
theorem h248:rn q355 q357=some (.tup [q362,.nils]):=by kernel_rfl
theorem h249:rn q356 q357=some (.tup [q363,.nils]):=by kernel_rfl
theorem h250:rn q360 q364=some (.tup [q369,.sl 62 [q368] .no]):=by kernel_rfl
theorem h251:rn q361 q364=some (.tup [q371,.sl 62 [q370] .no]):=by kernel_rfl
theorem h252:rn q362 q364=some (.tup [q373,.sl 62 [q372] .no]):=by kernel_rfl
theorem h253:rn q363 q364=some (.tup [q375,.sl 62 [q374] .no]):=by kernel_rfl
theorem h254:rn q369 q376=some (q380):=by kernel_rfl
theorem h255:rn q371 q376=some (q383):=by kernel_rfl
theorem h256:rn q373 q376=some (q386):=by kernel_rfl
theorem h257:rn q375 q376=some (q389):=by kernel_rfl
theorem h258:rn q379 q390=some (q380):=by kernel_rfl
theorem h259:rn q382 q390=some (q383):=by kernel_rfl
theorem h260:rn q385 q390=some (q386):=by kernel_rfl
theorem h261:rn q388 q390=some (q389):=by kernel_rfl
theorem h262:rn q379 q391=some (q380):=by kernel_rfl
theorem h263:rn q382 q391=some (q383):=by kernel_rfl
theorem h264:rn q385 q391=some (q386):=by kernel_rfl
theorem h265:rn q388 q391=some (q389):=by kernel_rfl
theorem h266:rn q379 q392=some (q380):=by kernel_rfl
theorem h267:rn q382 q392=some (q383):=by kernel_rfl
theorem h268:rn q385 q392=some (q386):=by kernel_rfl
theorem h269:rn q388 q392=some (q389):=by kernel_rfl
theorem h270:rn q379 q393=some (q380):=by kernel_rfl
theorem h271:rn q382 q393=some (q383):=by kernel_rfl
theorem h272:rn q385 q393=some (q386):=by kernel_rfl
theorem h273:rn q388 q393=some (q389):=by kernel_rfl
theorem h274:rn q379 q211=some (q380):=by kernel_rfl
theorem h275:rn q382 q211=some (q383):=by kernel_rfl
theorem h276:rn q385 q211=some (q386):=by kernel_rfl
theorem h277:rn q388 q211=some (q389):=by kernel_rfl
theorem h278:rn q379 q216=some (q380):=by kernel_rfl
theorem h279:rn q382 q216=some (q383):=by kernel_rfl
theorem h280:rn q385 q216=some (q386):=by kernel_rfl
theorem h281:rn q388 q216=some (q389):=by kernel_rfl
theorem h282:rn q379 q221=some (q380):=by kernel_rfl
theorem h283:rn q382 q221=some (q383):=by kernel_rfl
end Go.Proofs.YtojhjaohaafeaaaGreatDoor
