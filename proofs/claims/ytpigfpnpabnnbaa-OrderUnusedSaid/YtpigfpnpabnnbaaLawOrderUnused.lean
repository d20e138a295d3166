/-
  OrderUnused, whole.
-/
import Derived.Test.YtpigfpnpabnnbaaPe
import Derived.Test.YtpigfpnpabnnbaaRdO
namespace Go.Proofs.Ytpigfpnpabnnbaa
open Go.RowKit
theorem unused_spec (o : Ord) (n : Int) : ASpec Try.prog 9 [encO o, .int .i64 n] (.bool true) := by
  cases h : mayO o with
  | false => exact unused_alive o n h
  | true =>
    by_cases hn : n = 0
    · subst hn; exact unused_zero o h
    · exact unused_more o n h hn
end Go.Proofs.Ytpigfpnpabnnbaa
