/-
  No cell of these rows narrows 'for every input' (looked for: loops, veiled, ifaces, maps, wideKeys, modest, calm, conditions, laid).
  DERIVED. THE GIVEN ROWS OF THIS SEAT. 10 by the template 'for every input the law returns true; each argument reads behind the call as it read before'; 0 by the template 'total and deterministic' (their statements: YthboeilpeggpoaaTotals.lean).
  GIVEN WITH THE SEED: the statements are not yours to turn. If you find one false, say at which input.
  Laid BY PROGRAM, IN A SANDBOX (cutbox-rows.mjs): the forced cells as the released guide's own fill.sh prints them over the translation 71fdcc16b9d5a7c2… (all of the seat's roots in one cut). By AI agents, Wed Nov 11 2026. No macro, syntax, notation, axiom, sorry.
-/
import Derived.Test.YthboeilpeggpoaaChecked
import GoSem.Claim
import GoSem.ClaimJoined
import GoSem.ClaimMapViews
import Derived.JoinedTies
import Derived.KernelRfl
namespace Go.Proofs.Ythboeilpeggpoaa
/- THE CELL 'sum', in the pinned program and in every row, IS THE sha256 OF THE DUMP (.gsa) THAT YthboeilpeggpoaaProg.lean LOADS. Nothing in Lean hashes anything: it is a label: what it is worth is what the hold of that sum in a sandbox is worth. -/
noncomputable def Try.pinned : Pinned := { name := "ythboeilpeggpoaa", sum := "71fdcc16b9d5a7c24c98716b6fdc3863f01b962958137b4447fe441e687d2065", checked := Try.checked }
namespace Rows
def none {H : Type} : Left H := { results := [], args := [] }

/-- 'consistorylaw16.DiskMay': WHATEVER THE INPUT: true; the input reads as it did. -/
def diskMaySpec : ChangeSpec := { name := "diskMay", fn := fun _ => fun
  | [d1, d2, d3] => { results := [.lit (.bool true)], args := [d1, d2, d3] }
  | _ => none }
def diskMayRow : OpenClaim := { program := "ythboeilpeggpoaa", sum := "71fdcc16b9d5a7c24c98716b6fdc3863f01b962958137b4447fe441e687d2065", func := "consistory/consistorylaw16.DiskMay", spec := "diskMay", unfollowed := true, recurses := true, apart := false }
def DiskMaySaid : Prop := diskMayRow.holds Try.pinned (OpenSpec.ofChange diskMaySpec)

/-- ITS FALSE NEIGHBOUR: 'it returns false'. Refute it at one input. -/
def diskMayWrong : ChangeSpec := { name := "diskMay", fn := fun _ => fun
  | [d1, d2, d3] => { results := [.lit (.bool false)], args := [d1, d2, d3] }
  | _ => none }
def DiskMayWrongFalsely : Prop := diskMayRow.holds Try.pinned (OpenSpec.ofChange diskMayWrong)

/-- 'consistorylaw16.DiskActs': WHATEVER THE INPUT: true; the input reads as it did. -/
def diskActsSpec : ChangeSpec := { name := "diskActs", fn := fun _ => fun
  | [d1, d2, d3] => { results := [.lit (.bool true)], args := [d1, d2, d3] }
  | _ => none }
def diskActsRow : OpenClaim := { program := "ythboeilpeggpoaa", sum := "71fdcc16b9d5a7c24c98716b6fdc3863f01b962958137b4447fe441e687d2065", func := "consistory/consistorylaw16.DiskActs", spec := "diskActs", unfollowed := true, recurses := true, apart := false }
def DiskActsSaid : Prop := diskActsRow.holds Try.pinned (OpenSpec.ofChange diskActsSpec)

/-- ITS FALSE NEIGHBOUR: 'it returns false'. Refute it at one input. -/
def diskActsWrong : ChangeSpec := { name := "diskActs", fn := fun _ => fun
  | [d1, d2, d3] => { results := [.lit (.bool false)], args := [d1, d2, d3] }
  | _ => none }
def DiskActsWrongFalsely : Prop := diskActsRow.holds Try.pinned (OpenSpec.ofChange diskActsWrong)

/-- 'consistorylaw16.DiskKept': WHATEVER THE INPUT: true; the input reads as it did. -/
def diskKeptSpec : ChangeSpec := { name := "diskKept", fn := fun _ => fun
  | [d1, d2, d3] => { results := [.lit (.bool true)], args := [d1, d2, d3] }
  | _ => none }
def diskKeptRow : OpenClaim := { program := "ythboeilpeggpoaa", sum := "71fdcc16b9d5a7c24c98716b6fdc3863f01b962958137b4447fe441e687d2065", func := "consistory/consistorylaw16.DiskKept", spec := "diskKept", unfollowed := true, recurses := true, apart := false }
def DiskKeptSaid : Prop := diskKeptRow.holds Try.pinned (OpenSpec.ofChange diskKeptSpec)

/-- ITS FALSE NEIGHBOUR: 'it returns false'. Refute it at one input. -/
def diskKeptWrong : ChangeSpec := { name := "diskKept", fn := fun _ => fun
  | [d1, d2, d3] => { results := [.lit (.bool false)], args := [d1, d2, d3] }
  | _ => none }
def DiskKeptWrongFalsely : Prop := diskKeptRow.holds Try.pinned (OpenSpec.ofChange diskKeptWrong)

/-- 'consistorylaw16.DiskFuses': WHATEVER THE INPUT: true; the input reads as it did. -/
def diskFusesSpec : ChangeSpec := { name := "diskFuses", fn := fun _ => fun
  | [d1, d2, d3] => { results := [.lit (.bool true)], args := [d1, d2, d3] }
  | _ => none }
def diskFusesRow : OpenClaim := { program := "ythboeilpeggpoaa", sum := "71fdcc16b9d5a7c24c98716b6fdc3863f01b962958137b4447fe441e687d2065", func := "consistory/consistorylaw16.DiskFuses", spec := "diskFuses", unfollowed := true, recurses := true, apart := false }
def DiskFusesSaid : Prop := diskFusesRow.holds Try.pinned (OpenSpec.ofChange diskFusesSpec)

/-- ITS FALSE NEIGHBOUR: 'it returns false'. Refute it at one input. -/
def diskFusesWrong : ChangeSpec := { name := "diskFuses", fn := fun _ => fun
  | [d1, d2, d3] => { results := [.lit (.bool false)], args := [d1, d2, d3] }
  | _ => none }
def DiskFusesWrongFalsely : Prop := diskFusesRow.holds Try.pinned (OpenSpec.ofChange diskFusesWrong)

/-- 'consistorylaw16.DiskReplaces': WHATEVER THE INPUT: true; the input reads as it did. -/
def diskReplacesSpec : ChangeSpec := { name := "diskReplaces", fn := fun _ => fun
  | [d1, d2, d3] => { results := [.lit (.bool true)], args := [d1, d2, d3] }
  | _ => none }
def diskReplacesRow : OpenClaim := { program := "ythboeilpeggpoaa", sum := "71fdcc16b9d5a7c24c98716b6fdc3863f01b962958137b4447fe441e687d2065", func := "consistory/consistorylaw16.DiskReplaces", spec := "diskReplaces", unfollowed := true, recurses := true, apart := false }
def DiskReplacesSaid : Prop := diskReplacesRow.holds Try.pinned (OpenSpec.ofChange diskReplacesSpec)

/-- ITS FALSE NEIGHBOUR: 'it returns false'. Refute it at one input. -/
def diskReplacesWrong : ChangeSpec := { name := "diskReplaces", fn := fun _ => fun
  | [d1, d2, d3] => { results := [.lit (.bool false)], args := [d1, d2, d3] }
  | _ => none }
def DiskReplacesWrongFalsely : Prop := diskReplacesRow.holds Try.pinned (OpenSpec.ofChange diskReplacesWrong)

/-- 'consistorylaw10.LeaseEnds': WHATEVER THE INPUT: true; the input reads as it did. -/
def leaseEndsSpec : ChangeSpec := { name := "leaseEnds", fn := fun _ => fun
  | [d1, d2] => { results := [.lit (.bool true)], args := [d1, d2] }
  | _ => none }
def leaseEndsRow : OpenClaim := { program := "ythboeilpeggpoaa", sum := "71fdcc16b9d5a7c24c98716b6fdc3863f01b962958137b4447fe441e687d2065", func := "consistory/consistorylaw10.LeaseEnds", spec := "leaseEnds", inPlace := ["slices.overlaps[consistory/lease.Session]"], unfollowed := true, recurses := true, apart := false }
def LeaseEndsSaid : Prop := leaseEndsRow.holds Try.pinned (OpenSpec.ofChange leaseEndsSpec)

/-- ITS FALSE NEIGHBOUR: 'it returns false'. Refute it at one input. -/
def leaseEndsWrong : ChangeSpec := { name := "leaseEnds", fn := fun _ => fun
  | [d1, d2] => { results := [.lit (.bool false)], args := [d1, d2] }
  | _ => none }
def LeaseEndsWrongFalsely : Prop := leaseEndsRow.holds Try.pinned (OpenSpec.ofChange leaseEndsWrong)

/-- 'consistorylaw10.LeaseMay': WHATEVER THE INPUT: true; the input reads as it did. -/
def leaseMaySpec : ChangeSpec := { name := "leaseMay", fn := fun _ => fun
  | [d1, d2] => { results := [.lit (.bool true)], args := [d1, d2] }
  | _ => none }
def leaseMayRow : OpenClaim := { program := "ythboeilpeggpoaa", sum := "71fdcc16b9d5a7c24c98716b6fdc3863f01b962958137b4447fe441e687d2065", func := "consistory/consistorylaw10.LeaseMay", spec := "leaseMay", inPlace := ["slices.overlaps[consistory/lease.Session]"], unfollowed := true, recurses := true, apart := false }
def LeaseMaySaid : Prop := leaseMayRow.holds Try.pinned (OpenSpec.ofChange leaseMaySpec)

/-- ITS FALSE NEIGHBOUR: 'it returns false'. Refute it at one input. -/
def leaseMayWrong : ChangeSpec := { name := "leaseMay", fn := fun _ => fun
  | [d1, d2] => { results := [.lit (.bool false)], args := [d1, d2] }
  | _ => none }
def LeaseMayWrongFalsely : Prop := leaseMayRow.holds Try.pinned (OpenSpec.ofChange leaseMayWrong)

/-- 'consistorylaw10.LeaseTurns': WHATEVER THE INPUT: true; the input reads as it did. -/
def leaseTurnsSpec : ChangeSpec := { name := "leaseTurns", fn := fun _ => fun
  | [d1, d2, d3] => { results := [.lit (.bool true)], args := [d1, d2, d3] }
  | _ => none }
def leaseTurnsRow : OpenClaim := { program := "ythboeilpeggpoaa", sum := "71fdcc16b9d5a7c24c98716b6fdc3863f01b962958137b4447fe441e687d2065", func := "consistory/consistorylaw10.LeaseTurns", spec := "leaseTurns", inPlace := ["slices.overlaps[consistory/lease.Session]"], unfollowed := true, recurses := true, apart := false }
def LeaseTurnsSaid : Prop := leaseTurnsRow.holds Try.pinned (OpenSpec.ofChange leaseTurnsSpec)

/-- ITS FALSE NEIGHBOUR: 'it returns false'. Refute it at one input. -/
def leaseTurnsWrong : ChangeSpec := { name := "leaseTurns", fn := fun _ => fun
  | [d1, d2, d3] => { results := [.lit (.bool false)], args := [d1, d2, d3] }
  | _ => none }
def LeaseTurnsWrongFalsely : Prop := leaseTurnsRow.holds Try.pinned (OpenSpec.ofChange leaseTurnsWrong)

/-- 'consistorylaw10.LeaseRight': WHATEVER THE INPUT: true; the input reads as it did. -/
def leaseRightSpec : ChangeSpec := { name := "leaseRight", fn := fun _ => fun
  | [d1, d2, d3] => { results := [.lit (.bool true)], args := [d1, d2, d3] }
  | _ => none }
def leaseRightRow : OpenClaim := { program := "ythboeilpeggpoaa", sum := "71fdcc16b9d5a7c24c98716b6fdc3863f01b962958137b4447fe441e687d2065", func := "consistory/consistorylaw10.LeaseRight", spec := "leaseRight", inPlace := ["slices.overlaps[consistory/lease.Session]"], unfollowed := true, recurses := true, apart := false }
def LeaseRightSaid : Prop := leaseRightRow.holds Try.pinned (OpenSpec.ofChange leaseRightSpec)

/-- ITS FALSE NEIGHBOUR: 'it returns false'. Refute it at one input. -/
def leaseRightWrong : ChangeSpec := { name := "leaseRight", fn := fun _ => fun
  | [d1, d2, d3] => { results := [.lit (.bool false)], args := [d1, d2, d3] }
  | _ => none }
def LeaseRightWrongFalsely : Prop := leaseRightRow.holds Try.pinned (OpenSpec.ofChange leaseRightWrong)

/-- 'consistorylaw10.LeaseTwo': WHATEVER THE INPUT: true; the input reads as it did. -/
def leaseTwoSpec : ChangeSpec := { name := "leaseTwo", fn := fun _ => fun
  | [d1, d2] => { results := [.lit (.bool true)], args := [d1, d2] }
  | _ => none }
def leaseTwoRow : OpenClaim := { program := "ythboeilpeggpoaa", sum := "71fdcc16b9d5a7c24c98716b6fdc3863f01b962958137b4447fe441e687d2065", func := "consistory/consistorylaw10.LeaseTwo", spec := "leaseTwo", inPlace := ["slices.overlaps[consistory/lease.Session]"], unfollowed := true, recurses := true, apart := false }
def LeaseTwoSaid : Prop := leaseTwoRow.holds Try.pinned (OpenSpec.ofChange leaseTwoSpec)

/-- ITS FALSE NEIGHBOUR: 'it returns false'. Refute it at one input. -/
def leaseTwoWrong : ChangeSpec := { name := "leaseTwo", fn := fun _ => fun
  | [d1, d2] => { results := [.lit (.bool false)], args := [d1, d2] }
  | _ => none }
def LeaseTwoWrongFalsely : Prop := leaseTwoRow.holds Try.pinned (OpenSpec.ofChange leaseTwoWrong)

/- THE SECOND FORM. 'bulk': how many values and letters a reading holds, each counted each time it is reached (what is shared counts as often as it is met; a slice's spare places count too). A statement '..UptoSaid' is the law's where the arguments, and the package variables that the reading takes, are together of bulk at most 1048576: NARROWER than '..Said'. Prove '..Said' where nothing that the law and all that it calls make is longer than what came in: it says more and counts as full. Else prove '..UptoSaid'. A law counts once. -/
mutual
def uptoBulk {H : Type} : DataW H → Nat
  | .lit (.string bytes) => bytes.length + 1
  | .lit _ => 1
  | .nil => 1
  | .ptr d => uptoBulk d + 1
  | .slice elems spare => uptoBulkAll elems + uptoBulkAll spare + 1
  | .agg parts => uptoBulkAll parts + 1
  | .iface _ d => uptoBulk d + 1
  | .map entries => uptoBulkEntries entries + 1
  | .held _ => 1
def uptoBulkAll {H : Type} : List (DataW H) → Nat
  | [] => 0
  | d :: r => uptoBulk d + uptoBulkAll r
def uptoBulkEntries {H : Type} : List (Lit × DataW H) → Nat
  | [] => 0
  | x :: r => uptoBulkEntry x + uptoBulkEntries r
def uptoBulkEntry {H : Type} : Lit × DataW H → Nat
  | (.string bytes, d) => bytes.length + uptoBulk d + 1
  | (_, d) => uptoBulk d + 1
 end
def uptoSmall : (H : Type) → List (DataW H) → Bool := fun _ ds => decide (uptoBulkAll ds ≤ 1048576)
def OpenSpec.upto (s : _root_.Go.ChangeSpec) : _root_.Go.OpenSpec := { _root_.Go.OpenSpec.ofChange s with cond := some uptoSmall }

/-- 'consistorylaw16.DiskMay', WHERE WHAT IT READS IS OF BULK AT MOST 1048576: true; the input reads as it did. -/
def diskMayUptoRow : OpenClaim := { program := "ythboeilpeggpoaa", sum := "71fdcc16b9d5a7c24c98716b6fdc3863f01b962958137b4447fe441e687d2065", func := "consistory/consistorylaw16.DiskMay", spec := "diskMay", unfollowed := true, recurses := true, apart := false, narrowed := true }
def DiskMayUptoSaid : Prop := diskMayUptoRow.holds Try.pinned (OpenSpec.upto diskMaySpec)

/-- 'consistorylaw16.DiskActs', WHERE WHAT IT READS IS OF BULK AT MOST 1048576: true; the input reads as it did. -/
def diskActsUptoRow : OpenClaim := { program := "ythboeilpeggpoaa", sum := "71fdcc16b9d5a7c24c98716b6fdc3863f01b962958137b4447fe441e687d2065", func := "consistory/consistorylaw16.DiskActs", spec := "diskActs", unfollowed := true, recurses := true, apart := false, narrowed := true }
def DiskActsUptoSaid : Prop := diskActsUptoRow.holds Try.pinned (OpenSpec.upto diskActsSpec)

/-- 'consistorylaw16.DiskKept', WHERE WHAT IT READS IS OF BULK AT MOST 1048576: true; the input reads as it did. -/
def diskKeptUptoRow : OpenClaim := { program := "ythboeilpeggpoaa", sum := "71fdcc16b9d5a7c24c98716b6fdc3863f01b962958137b4447fe441e687d2065", func := "consistory/consistorylaw16.DiskKept", spec := "diskKept", unfollowed := true, recurses := true, apart := false, narrowed := true }
def DiskKeptUptoSaid : Prop := diskKeptUptoRow.holds Try.pinned (OpenSpec.upto diskKeptSpec)

/-- 'consistorylaw16.DiskFuses', WHERE WHAT IT READS IS OF BULK AT MOST 1048576: true; the input reads as it did. -/
def diskFusesUptoRow : OpenClaim := { program := "ythboeilpeggpoaa", sum := "71fdcc16b9d5a7c24c98716b6fdc3863f01b962958137b4447fe441e687d2065", func := "consistory/consistorylaw16.DiskFuses", spec := "diskFuses", unfollowed := true, recurses := true, apart := false, narrowed := true }
def DiskFusesUptoSaid : Prop := diskFusesUptoRow.holds Try.pinned (OpenSpec.upto diskFusesSpec)

/-- 'consistorylaw16.DiskReplaces', WHERE WHAT IT READS IS OF BULK AT MOST 1048576: true; the input reads as it did. -/
def diskReplacesUptoRow : OpenClaim := { program := "ythboeilpeggpoaa", sum := "71fdcc16b9d5a7c24c98716b6fdc3863f01b962958137b4447fe441e687d2065", func := "consistory/consistorylaw16.DiskReplaces", spec := "diskReplaces", unfollowed := true, recurses := true, apart := false, narrowed := true }
def DiskReplacesUptoSaid : Prop := diskReplacesUptoRow.holds Try.pinned (OpenSpec.upto diskReplacesSpec)

/-- 'consistorylaw10.LeaseEnds', WHERE WHAT IT READS IS OF BULK AT MOST 1048576: true; the input reads as it did. -/
def leaseEndsUptoRow : OpenClaim := { program := "ythboeilpeggpoaa", sum := "71fdcc16b9d5a7c24c98716b6fdc3863f01b962958137b4447fe441e687d2065", func := "consistory/consistorylaw10.LeaseEnds", spec := "leaseEnds", inPlace := ["slices.overlaps[consistory/lease.Session]"], unfollowed := true, recurses := true, apart := false, narrowed := true }
def LeaseEndsUptoSaid : Prop := leaseEndsUptoRow.holds Try.pinned (OpenSpec.upto leaseEndsSpec)

/-- 'consistorylaw10.LeaseMay', WHERE WHAT IT READS IS OF BULK AT MOST 1048576: true; the input reads as it did. -/
def leaseMayUptoRow : OpenClaim := { program := "ythboeilpeggpoaa", sum := "71fdcc16b9d5a7c24c98716b6fdc3863f01b962958137b4447fe441e687d2065", func := "consistory/consistorylaw10.LeaseMay", spec := "leaseMay", inPlace := ["slices.overlaps[consistory/lease.Session]"], unfollowed := true, recurses := true, apart := false, narrowed := true }
def LeaseMayUptoSaid : Prop := leaseMayUptoRow.holds Try.pinned (OpenSpec.upto leaseMaySpec)

/-- 'consistorylaw10.LeaseTurns', WHERE WHAT IT READS IS OF BULK AT MOST 1048576: true; the input reads as it did. -/
def leaseTurnsUptoRow : OpenClaim := { program := "ythboeilpeggpoaa", sum := "71fdcc16b9d5a7c24c98716b6fdc3863f01b962958137b4447fe441e687d2065", func := "consistory/consistorylaw10.LeaseTurns", spec := "leaseTurns", inPlace := ["slices.overlaps[consistory/lease.Session]"], unfollowed := true, recurses := true, apart := false, narrowed := true }
def LeaseTurnsUptoSaid : Prop := leaseTurnsUptoRow.holds Try.pinned (OpenSpec.upto leaseTurnsSpec)

/-- 'consistorylaw10.LeaseRight', WHERE WHAT IT READS IS OF BULK AT MOST 1048576: true; the input reads as it did. -/
def leaseRightUptoRow : OpenClaim := { program := "ythboeilpeggpoaa", sum := "71fdcc16b9d5a7c24c98716b6fdc3863f01b962958137b4447fe441e687d2065", func := "consistory/consistorylaw10.LeaseRight", spec := "leaseRight", inPlace := ["slices.overlaps[consistory/lease.Session]"], unfollowed := true, recurses := true, apart := false, narrowed := true }
def LeaseRightUptoSaid : Prop := leaseRightUptoRow.holds Try.pinned (OpenSpec.upto leaseRightSpec)

/-- 'consistorylaw10.LeaseTwo', WHERE WHAT IT READS IS OF BULK AT MOST 1048576: true; the input reads as it did. -/
def leaseTwoUptoRow : OpenClaim := { program := "ythboeilpeggpoaa", sum := "71fdcc16b9d5a7c24c98716b6fdc3863f01b962958137b4447fe441e687d2065", func := "consistory/consistorylaw10.LeaseTwo", spec := "leaseTwo", inPlace := ["slices.overlaps[consistory/lease.Session]"], unfollowed := true, recurses := true, apart := false, narrowed := true }
def LeaseTwoUptoSaid : Prop := leaseTwoUptoRow.holds Try.pinned (OpenSpec.upto leaseTwoSpec)

end Rows
end Go.Proofs.Ythboeilpeggpoaa
