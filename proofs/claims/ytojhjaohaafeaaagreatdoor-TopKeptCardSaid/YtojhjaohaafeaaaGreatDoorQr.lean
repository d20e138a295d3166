/-
  Several texts in one: Hh.
-/
import Derived.Test.YtojhjaohaafeaaaGreatDoorQj
import Derived.Test.YtojhjaohaafeaaaGreatDoorQk
import Derived.KernelRfl
set_option maxRecDepth 20000
set_option maxHeartbeats 8000000
namespace Go.Proofs.YtojhjaohaafeaaaGreatDoor
open Go.RowKit
set_option maxRecDepth 1000000
theorem h365:rn q490 q491=some (.tup [q493,.nils]):=by kernel_rfl
theorem h366:rn q446 q494=some (q447):=by kernel_rfl
theorem h367:rn q448 q494=some (q449):=by kernel_rfl
theorem h368:rn q450 q494=some (q451):=by kernel_rfl
theorem h369:rn q493 q494=some (.tup [q495,.nils]):=by kernel_rfl
theorem h370:rn q446 q496=some (.tup [q499,.sl 62 [q498] .no]):=by kernel_rfl
theorem h371:rn q448 q496=some (.tup [q501,.sl 62 [q500] .no]):=by kernel_rfl
theorem h372:rn q450 q496=some (.tup [q503,.sl 62 [q502] .no]):=by kernel_rfl
theorem h373:rn q495 q496=some (.tup [q505,.sl 62 [q504] .no]):=by kernel_rfl
theorem h374:rn q499 q506=some (.tup [q509,.nils]):=by kernel_rfl
theorem h375:rn q501 q506=some (.tup [q510,.nils]):=by kernel_rfl
theorem h376:rn q503 q506=some (.tup [q511,.nils]):=by kernel_rfl
theorem h377:rn q505 q506=some (.tup [q512,.nils]):=by kernel_rfl
theorem h378:rn q509 q513=some (.tup [q516,.nils]):=by kernel_rfl
theorem h379:rn q510 q513=some (.tup [q517,.nils]):=by kernel_rfl
theorem h380:rn q511 q513=some (.tup [q518,.nils]):=by kernel_rfl
theorem h381:rn q512 q513=some (.tup [q519,.nils]):=by kernel_rfl
theorem h382:rn q516 q520=some (.tup [q525,.sl 62 [q524] .no]):=by kernel_rfl
theorem h383:rn q517 q520=some (.tup [q527,.sl 62 [q526] .no]):=by kernel_rfl
theorem h384:rn q518 q520=some (.tup [q529,.sl 62 [q528] .no]):=by kernel_rfl
theorem h385:rn q519 q520=some (.tup [q531,.sl 62 [q530] .no]):=by kernel_rfl
theorem h386:rn q525 q532=some (q535):=by kernel_rfl
theorem h387:rn q527 q532=some (q537):=by kernel_rfl
theorem h388:rn q529 q532=some (q539):=by kernel_rfl
theorem h389:rn q531 q532=some (q541):=by kernel_rfl
theorem h390:rn q534 q542=some (q535):=by kernel_rfl
theorem h391:rn q536 q542=some (q537):=by kernel_rfl
theorem h392:rn q538 q542=some (q539):=by kernel_rfl
theorem h393:rn q540 q542=some (q541):=by kernel_rfl
theorem h394:rn q534 q543=some (q535):=by kernel_rfl
theorem h395:rn q536 q543=some (q537):=by kernel_rfl
theorem h396:rn q538 q543=some (q539):=by kernel_rfl
theorem h397:rn q540 q543=some (q541):=by kernel_rfl
theorem h398:rn q534 q544=some (q535):=by kernel_rfl
theorem h399:rn q536 q544=some (q537):=by kernel_rfl
theorem h400:rn q538 q544=some (q539):=by kernel_rfl
theorem h401:rn q540 q544=some (q541):=by kernel_rfl
theorem h402:rn q534 q545=some (q535):=by kernel_rfl
theorem h403:rn q536 q545=some (q537):=by kernel_rfl
theorem h404:rn q538 q545=some (q539):=by kernel_rfl
theorem h405:rn q540 q545=some (q541):=by kernel_rfl
end Go.Proofs.YtojhjaohaafeaaaGreatDoor
