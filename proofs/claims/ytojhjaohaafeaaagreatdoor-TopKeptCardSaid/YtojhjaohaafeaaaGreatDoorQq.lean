/-
  Several texts in one: Hg.
-/
import Derived.Test.YtojhjaohaafeaaaGreatDoorQj
import Derived.Test.YtojhjaohaafeaaaGreatDoorQk
import Derived.KernelRfl
set_option maxRecDepth 20000
set_option maxHeartbeats 8000000
namespace Go.Proofs.YtojhjaohaafeaaaGreatDoor
open Go.RowKit
set_option maxRecDepth 1000000
theorem h284:rn q385 q221=some (q386):=by kernel_rfl
theorem h285:rn q388 q221=some (q389):=by kernel_rfl
theorem h286:rn q379 q226=some (q380):=by kernel_rfl
theorem h287:rn q382 q226=some (q383):=by kernel_rfl
theorem h288:rn q385 q226=some (q386):=by kernel_rfl
theorem h289:rn q388 q226=some (q389):=by kernel_rfl
theorem h290:rn q379 q396=some (q380):=by kernel_rfl
theorem h291:rn q382 q396=some (q399):=by kernel_rfl
theorem h292:rn q385 q396=some (.tup [q400,.nils]):=by kernel_rfl
theorem h293:rn q388 q396=some (.tup [q401,.nils]):=by kernel_rfl
theorem h294:rn q379 q403=some (.tup [q404,.nils]):=by kernel_rfl
theorem h295:rn q398 q403=some (q399):=by kernel_rfl
theorem h296:rn q400 q403=some (.tup [q416,.sl 62 [q410,q409,q407,q406] .no]):=by kernel_rfl
theorem h297:rn q401 q403=some (.tup [q424,.sl 62 [q421,q420,q419,q418] .no]):=by kernel_rfl
theorem h298:rn q404 q425=some (.tup [q433,.sl 62 [q395,q429,q428,q427] .no]):=by kernel_rfl
theorem h299:rn q398 q425=some (.tup [q441,.sl 62 [q402,q437,q436,q435] .no]):=by kernel_rfl
theorem h300:rn q416 q425=some (.tup [q416,.nils]):=by kernel_rfl
theorem h301:rn q424 q425=some (q444):=by kernel_rfl
theorem h302:rn q433 q445=some (q447):=by kernel_rfl
theorem h303:rn q441 q445=some (q449):=by kernel_rfl
theorem h304:rn q416 q445=some (q451):=by kernel_rfl
theorem h305:rn q443 q445=some (q444):=by kernel_rfl
theorem h306:rn q446 q425=some (q447):=by kernel_rfl
theorem h307:rn q448 q425=some (q449):=by kernel_rfl
theorem h308:rn q450 q425=some (q451):=by kernel_rfl
theorem h309:rn q443 q425=some (q444):=by kernel_rfl
theorem h310:rn q446 q452=some (q447):=by kernel_rfl
theorem h311:rn q448 q452=some (q449):=by kernel_rfl
theorem h312:rn q450 q452=some (q451):=by kernel_rfl
theorem h313:rn q443 q452=some (.tup [q455,.nils]):=by kernel_rfl
theorem h314:rn q446 q456=some (q447):=by kernel_rfl
theorem h315:rn q448 q456=some (q449):=by kernel_rfl
theorem h316:rn q450 q456=some (q451):=by kernel_rfl
theorem h317:rn q455 q456=some (.tup [q459,.nils]):=by kernel_rfl
theorem h318:rn q446 q460=some (q447):=by kernel_rfl
theorem h319:rn q448 q460=some (q449):=by kernel_rfl
theorem h320:rn q450 q460=some (q451):=by kernel_rfl
theorem h321:rn q459 q460=some (q462):=by kernel_rfl
theorem h322:rn q446 q445=some (q447):=by kernel_rfl
theorem h323:rn q448 q445=some (q449):=by kernel_rfl
theorem h324:rn q450 q445=some (q451):=by kernel_rfl
theorem h325:rn q461 q445=some (q462):=by kernel_rfl
theorem h326:rn q446 q463=some (q447):=by kernel_rfl
theorem h327:rn q448 q463=some (q449):=by kernel_rfl
theorem h328:rn q450 q463=some (q451):=by kernel_rfl
theorem h329:rn q461 q463=some (.tup [q466,.nils]):=by kernel_rfl
theorem h330:rn q446 q467=some (q447):=by kernel_rfl
theorem h331:rn q448 q467=some (q449):=by kernel_rfl
theorem h332:rn q450 q467=some (q451):=by kernel_rfl
theorem h333:rn q466 q467=some (.tup [q470,.nils]):=by kernel_rfl
theorem h334:rn q446 q471=some (q447):=by kernel_rfl
theorem h335:rn q448 q471=some (q449):=by kernel_rfl
theorem h336:rn q450 q471=some (q451):=by kernel_rfl
theorem h337:rn q470 q471=some (q473):=by kernel_rfl
theorem h338:rn q446 q396=some (q447):=by kernel_rfl
theorem h339:rn q448 q396=some (q449):=by kernel_rfl
theorem h340:rn q450 q396=some (q451):=by kernel_rfl
theorem h341:rn q472 q396=some (q473):=by kernel_rfl
theorem h342:rn q446 q474=some (q447):=by kernel_rfl
theorem h343:rn q448 q474=some (q449):=by kernel_rfl
theorem h344:rn q450 q474=some (q451):=by kernel_rfl
theorem h345:rn q472 q474=some (.tup [q478,.sl 62 [q476] .no]):=by kernel_rfl
theorem h346:rn q446 q479=some (q447):=by kernel_rfl
theorem h347:rn q448 q479=some (q449):=by kernel_rfl
theorem h348:rn q450 q479=some (q451):=by kernel_rfl
theorem h349:rn q478 q479=some (.tup [q482,.nils]):=by kernel_rfl
theorem h350:rn q446 q483=some (q447):=by kernel_rfl
theorem h351:rn q448 q483=some (q449):=by kernel_rfl
theorem h352:rn q450 q483=some (q451):=by kernel_rfl
theorem h353:rn q482 q483=some (q485):=by kernel_rfl
theorem h354:rn q446 q403=some (q447):=by kernel_rfl
theorem h355:rn q448 q403=some (q449):=by kernel_rfl
theorem h356:rn q450 q403=some (q451):=by kernel_rfl
theorem h357:rn q484 q403=some (q485):=by kernel_rfl
theorem h358:rn q446 q486=some (q447):=by kernel_rfl
theorem h359:rn q448 q486=some (q449):=by kernel_rfl
theorem h360:rn q450 q486=some (q451):=by kernel_rfl
theorem h361:rn q484 q486=some (.tup [q490,.nils]):=by kernel_rfl
theorem h362:rn q446 q491=some (q447):=by kernel_rfl
theorem h363:rn q448 q491=some (q449):=by kernel_rfl
theorem h364:rn q450 q491=some (q451):=by kernel_rfl
end Go.Proofs.YtojhjaohaafeaaaGreatDoor
