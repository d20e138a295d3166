/-
  No cell of these rows narrows 'for every input' (looked for: loops, veiled, ifaces, maps, wideKeys, modest, calm, conditions, laid).
  DERIVED. THE GIVEN ROWS OF THIS SEAT. 11 by the template 'for every input the law returns true; each argument reads behind the call as it read before'; 0 by the template 'total and deterministic' (their statements: YtpigfpnpabnnbaaTotals.lean).
  GIVEN WITH THE SEED: the statements are not yours to turn. If you find one false, say at which input.
  Laid BY PROGRAM, IN A SANDBOX (cutbox-rows.mjs): the forced cells as the released guide's own fill.sh prints them over the translation 3a3b54bfa3147a2e… (all of the seat's roots in one cut). By AI agents, Wed Nov 11 2026. No macro, syntax, notation, axiom, sorry.
-/
import Derived.Test.YtpigfpnpabnnbaaChecked
import GoSem.Claim
import GoSem.ClaimJoined
import GoSem.ClaimMapViews
import Derived.JoinedTies
import Derived.KernelRfl
namespace Go.Proofs.Ytpigfpnpabnnbaa
/- THE CELL 'sum', in the pinned program and in every row, IS THE sha256 OF THE DUMP (.gsa) THAT YtpigfpnpabnnbaaProg.lean LOADS. Nothing in Lean hashes anything: it is a label: what it is worth is what the hold of that sum in a sandbox is worth. -/
noncomputable def Try.pinned : Pinned := { name := "ytpigfpnpabnnbaa", sum := "3a3b54bfa3147a2eb98bf77ce1b6896a65b132e000244a6f4ec6c3cf417a9ddf", checked := Try.checked }
namespace Rows
def none {H : Type} : Left H := { results := [], args := [] }

/-- 'consistorylaw01.OctetOrder': WHATEVER THE INPUT: true; the input reads as it did. -/
def octetOrderSpec : ChangeSpec := { name := "octetOrder", fn := fun _ => fun
  | [d1, d2] => { results := [.lit (.bool true)], args := [d1, d2] }
  | _ => none }
def octetOrderRow : OpenClaim := { program := "ytpigfpnpabnnbaa", sum := "3a3b54bfa3147a2eb98bf77ce1b6896a65b132e000244a6f4ec6c3cf417a9ddf", func := "consistory/consistorylaw01.OctetOrder", spec := "octetOrder", apart := false }
def OctetOrderSaid : Prop := octetOrderRow.holds Try.pinned (OpenSpec.ofChange octetOrderSpec)

/-- ITS FALSE NEIGHBOUR: 'it returns false'. Refute it at one input. -/
def octetOrderWrong : ChangeSpec := { name := "octetOrder", fn := fun _ => fun
  | [d1, d2] => { results := [.lit (.bool false)], args := [d1, d2] }
  | _ => none }
def OctetOrderWrongFalsely : Prop := octetOrderRow.holds Try.pinned (OpenSpec.ofChange octetOrderWrong)

/-- 'consistorylaw01.OctetWrites': WHATEVER THE INPUT: true; the input reads as it did. -/
def octetWritesSpec : ChangeSpec := { name := "octetWrites", fn := fun _ => fun
  | [d1, d2, d3] => { results := [.lit (.bool true)], args := [d1, d2, d3] }
  | _ => none }
def octetWritesRow : OpenClaim := { program := "ytpigfpnpabnnbaa", sum := "3a3b54bfa3147a2eb98bf77ce1b6896a65b132e000244a6f4ec6c3cf417a9ddf", func := "consistory/consistorylaw01.OctetWrites", spec := "octetWrites", apart := false }
def OctetWritesSaid : Prop := octetWritesRow.holds Try.pinned (OpenSpec.ofChange octetWritesSpec)

/-- ITS FALSE NEIGHBOUR: 'it returns false'. Refute it at one input. -/
def octetWritesWrong : ChangeSpec := { name := "octetWrites", fn := fun _ => fun
  | [d1, d2, d3] => { results := [.lit (.bool false)], args := [d1, d2, d3] }
  | _ => none }
def OctetWritesWrongFalsely : Prop := octetWritesRow.holds Try.pinned (OpenSpec.ofChange octetWritesWrong)

/-- 'consistorylaw01.OctetTakes': WHATEVER THE INPUT: true; the input reads as it did. -/
def octetTakesSpec : ChangeSpec := { name := "octetTakes", fn := fun _ => fun
  | [d1, d2, d3] => { results := [.lit (.bool true)], args := [d1, d2, d3] }
  | _ => none }
def octetTakesRow : OpenClaim := { program := "ytpigfpnpabnnbaa", sum := "3a3b54bfa3147a2eb98bf77ce1b6896a65b132e000244a6f4ec6c3cf417a9ddf", func := "consistory/consistorylaw01.OctetTakes", spec := "octetTakes", apart := false }
def OctetTakesSaid : Prop := octetTakesRow.holds Try.pinned (OpenSpec.ofChange octetTakesSpec)

/-- ITS FALSE NEIGHBOUR: 'it returns false'. Refute it at one input. -/
def octetTakesWrong : ChangeSpec := { name := "octetTakes", fn := fun _ => fun
  | [d1, d2, d3] => { results := [.lit (.bool false)], args := [d1, d2, d3] }
  | _ => none }
def OctetTakesWrongFalsely : Prop := octetTakesRow.holds Try.pinned (OpenSpec.ofChange octetTakesWrong)

/-- 'consistorylaw01.OctetLimits': WHATEVER THE INPUT: true; the input reads as it did. -/
def octetLimitsSpec : ChangeSpec := { name := "octetLimits", fn := fun _ => fun
  | [d1, d2, d3] => { results := [.lit (.bool true)], args := [d1, d2, d3] }
  | _ => none }
def octetLimitsRow : OpenClaim := { program := "ytpigfpnpabnnbaa", sum := "3a3b54bfa3147a2eb98bf77ce1b6896a65b132e000244a6f4ec6c3cf417a9ddf", func := "consistory/consistorylaw01.OctetLimits", spec := "octetLimits", apart := false }
def OctetLimitsSaid : Prop := octetLimitsRow.holds Try.pinned (OpenSpec.ofChange octetLimitsSpec)

/-- ITS FALSE NEIGHBOUR: 'it returns false'. Refute it at one input. -/
def octetLimitsWrong : ChangeSpec := { name := "octetLimits", fn := fun _ => fun
  | [d1, d2, d3] => { results := [.lit (.bool false)], args := [d1, d2, d3] }
  | _ => none }
def OctetLimitsWrongFalsely : Prop := octetLimitsRow.holds Try.pinned (OpenSpec.ofChange octetLimitsWrong)

/-- 'consistorylaw01.OctetBack': WHATEVER THE INPUT: true; the input reads as it did. -/
def octetBackSpec : ChangeSpec := { name := "octetBack", fn := fun _ => fun
  | [d1, d2, d3] => { results := [.lit (.bool true)], args := [d1, d2, d3] }
  | _ => none }
def octetBackRow : OpenClaim := { program := "ytpigfpnpabnnbaa", sum := "3a3b54bfa3147a2eb98bf77ce1b6896a65b132e000244a6f4ec6c3cf417a9ddf", func := "consistory/consistorylaw01.OctetBack", spec := "octetBack", apart := false }
def OctetBackSaid : Prop := octetBackRow.holds Try.pinned (OpenSpec.ofChange octetBackSpec)

/-- ITS FALSE NEIGHBOUR: 'it returns false'. Refute it at one input. -/
def octetBackWrong : ChangeSpec := { name := "octetBack", fn := fun _ => fun
  | [d1, d2, d3] => { results := [.lit (.bool false)], args := [d1, d2, d3] }
  | _ => none }
def OctetBackWrongFalsely : Prop := octetBackRow.holds Try.pinned (OpenSpec.ofChange octetBackWrong)

/-- 'consistorylaw01.OctetOnly': WHATEVER THE INPUT: true; the input reads as it did. -/
def octetOnlySpec : ChangeSpec := { name := "octetOnly", fn := fun _ => fun
  | [d] => { results := [.lit (.bool true)], args := [d] }
  | _ => none }
def octetOnlyRow : OpenClaim := { program := "ytpigfpnpabnnbaa", sum := "3a3b54bfa3147a2eb98bf77ce1b6896a65b132e000244a6f4ec6c3cf417a9ddf", func := "consistory/consistorylaw01.OctetOnly", spec := "octetOnly", apart := false }
def OctetOnlySaid : Prop := octetOnlyRow.holds Try.pinned (OpenSpec.ofChange octetOnlySpec)

/-- ITS FALSE NEIGHBOUR: 'it returns false'. Refute it at one input. -/
def octetOnlyWrong : ChangeSpec := { name := "octetOnly", fn := fun _ => fun
  | [d] => { results := [.lit (.bool false)], args := [d] }
  | _ => none }
def OctetOnlyWrongFalsely : Prop := octetOnlyRow.holds Try.pinned (OpenSpec.ofChange octetOnlyWrong)

/-- 'consistorylaw12.OrderUnused': WHATEVER THE INPUT: true; the input reads as it did. -/
def orderUnusedSpec : ChangeSpec := { name := "orderUnused", fn := fun _ => fun
  | [d1, d2] => { results := [.lit (.bool true)], args := [d1, d2] }
  | _ => none }
def orderUnusedRow : OpenClaim := { program := "ytpigfpnpabnnbaa", sum := "3a3b54bfa3147a2eb98bf77ce1b6896a65b132e000244a6f4ec6c3cf417a9ddf", func := "consistory/consistorylaw12.OrderUnused", spec := "orderUnused", apart := false }
def OrderUnusedSaid : Prop := orderUnusedRow.holds Try.pinned (OpenSpec.ofChange orderUnusedSpec)

/-- ITS FALSE NEIGHBOUR: 'it returns false'. Refute it at one input. -/
def orderUnusedWrong : ChangeSpec := { name := "orderUnused", fn := fun _ => fun
  | [d1, d2] => { results := [.lit (.bool false)], args := [d1, d2] }
  | _ => none }
def OrderUnusedWrongFalsely : Prop := orderUnusedRow.holds Try.pinned (OpenSpec.ofChange orderUnusedWrong)

/-- 'consistorylaw12.OrderWrites': WHATEVER THE INPUT: true; the input reads as it did. -/
def orderWritesSpec : ChangeSpec := { name := "orderWrites", fn := fun _ => fun
  | [d1, d2, d3] => { results := [.lit (.bool true)], args := [d1, d2, d3] }
  | _ => none }
def orderWritesRow : OpenClaim := { program := "ytpigfpnpabnnbaa", sum := "3a3b54bfa3147a2eb98bf77ce1b6896a65b132e000244a6f4ec6c3cf417a9ddf", func := "consistory/consistorylaw12.OrderWrites", spec := "orderWrites", apart := false }
def OrderWritesSaid : Prop := orderWritesRow.holds Try.pinned (OpenSpec.ofChange orderWritesSpec)

/-- ITS FALSE NEIGHBOUR: 'it returns false'. Refute it at one input. -/
def orderWritesWrong : ChangeSpec := { name := "orderWrites", fn := fun _ => fun
  | [d1, d2, d3] => { results := [.lit (.bool false)], args := [d1, d2, d3] }
  | _ => none }
def OrderWritesWrongFalsely : Prop := orderWritesRow.holds Try.pinned (OpenSpec.ofChange orderWritesWrong)

/-- 'consistorylaw12.OrderTakes': WHATEVER THE INPUT: true; the input reads as it did. -/
def orderTakesSpec : ChangeSpec := { name := "orderTakes", fn := fun _ => fun
  | [d] => { results := [.lit (.bool true)], args := [d] }
  | _ => none }
def orderTakesRow : OpenClaim := { program := "ytpigfpnpabnnbaa", sum := "3a3b54bfa3147a2eb98bf77ce1b6896a65b132e000244a6f4ec6c3cf417a9ddf", func := "consistory/consistorylaw12.OrderTakes", spec := "orderTakes", apart := false }
def OrderTakesSaid : Prop := orderTakesRow.holds Try.pinned (OpenSpec.ofChange orderTakesSpec)

/-- ITS FALSE NEIGHBOUR: 'it returns false'. Refute it at one input. -/
def orderTakesWrong : ChangeSpec := { name := "orderTakes", fn := fun _ => fun
  | [d] => { results := [.lit (.bool false)], args := [d] }
  | _ => none }
def OrderTakesWrongFalsely : Prop := orderTakesRow.holds Try.pinned (OpenSpec.ofChange orderTakesWrong)

/-- 'consistorylaw12.OrderBack': WHATEVER THE INPUT: true; the input reads as it did. -/
def orderBackSpec : ChangeSpec := { name := "orderBack", fn := fun _ => fun
  | [d1, d2, d3] => { results := [.lit (.bool true)], args := [d1, d2, d3] }
  | _ => none }
def orderBackRow : OpenClaim := { program := "ytpigfpnpabnnbaa", sum := "3a3b54bfa3147a2eb98bf77ce1b6896a65b132e000244a6f4ec6c3cf417a9ddf", func := "consistory/consistorylaw12.OrderBack", spec := "orderBack", apart := false }
def OrderBackSaid : Prop := orderBackRow.holds Try.pinned (OpenSpec.ofChange orderBackSpec)

/-- ITS FALSE NEIGHBOUR: 'it returns false'. Refute it at one input. -/
def orderBackWrong : ChangeSpec := { name := "orderBack", fn := fun _ => fun
  | [d1, d2, d3] => { results := [.lit (.bool false)], args := [d1, d2, d3] }
  | _ => none }
def OrderBackWrongFalsely : Prop := orderBackRow.holds Try.pinned (OpenSpec.ofChange orderBackWrong)

/-- 'consistorylaw12.OrderOnly': WHATEVER THE INPUT: true; the input reads as it did. -/
def orderOnlySpec : ChangeSpec := { name := "orderOnly", fn := fun _ => fun
  | [d] => { results := [.lit (.bool true)], args := [d] }
  | _ => none }
def orderOnlyRow : OpenClaim := { program := "ytpigfpnpabnnbaa", sum := "3a3b54bfa3147a2eb98bf77ce1b6896a65b132e000244a6f4ec6c3cf417a9ddf", func := "consistory/consistorylaw12.OrderOnly", spec := "orderOnly", apart := false }
def OrderOnlySaid : Prop := orderOnlyRow.holds Try.pinned (OpenSpec.ofChange orderOnlySpec)

/-- ITS FALSE NEIGHBOUR: 'it returns false'. Refute it at one input. -/
def orderOnlyWrong : ChangeSpec := { name := "orderOnly", fn := fun _ => fun
  | [d] => { results := [.lit (.bool false)], args := [d] }
  | _ => none }
def OrderOnlyWrongFalsely : Prop := orderOnlyRow.holds Try.pinned (OpenSpec.ofChange orderOnlyWrong)

/- THE SECOND FORM. 'bulk': how many values and letters a reading holds, each counted each time it is reached (what is shared counts as often as it is met; a slice's spare places count too). A statement '..UptoSaid' is the law's where the arguments, and the package variables that the reading takes, are together of bulk at most 1048576: NARROWER than '..Said'. Prove '..Said' where nothing that the law and all that it calls make is longer than what came in: it says more and counts as full. Else prove '..UptoSaid'. A law counts once. -/
mutual
def uptoBulk {H : Type} : DataW H → Nat
  | .lit (.string bytes) => bytes.length + 1
  | .lit _ => 1
  | .nil => 1
  | .ptr d => uptoBulk d + 1
  | .slice elems spare => uptoBulkAll elems + uptoBulkAll spare + 1
  | .agg parts => uptoBulkAll parts + 1
  | .iface _ d => uptoBulk d + 1
  | .map entries => uptoBulkEntries entries + 1
  | .held _ => 1
def uptoBulkAll {H : Type} : List (DataW H) → Nat
  | [] => 0
  | d :: r => uptoBulk d + uptoBulkAll r
def uptoBulkEntries {H : Type} : List (Lit × DataW H) → Nat
  | [] => 0
  | x :: r => uptoBulkEntry x + uptoBulkEntries r
def uptoBulkEntry {H : Type} : Lit × DataW H → Nat
  | (.string bytes, d) => bytes.length + uptoBulk d + 1
  | (_, d) => uptoBulk d + 1
 end
def uptoSmall : (H : Type) → List (DataW H) → Bool := fun _ ds => decide (uptoBulkAll ds ≤ 1048576)
def OpenSpec.upto (s : _root_.Go.ChangeSpec) : _root_.Go.OpenSpec := { _root_.Go.OpenSpec.ofChange s with cond := some uptoSmall }

/-- 'consistorylaw01.OctetOrder', WHERE WHAT IT READS IS OF BULK AT MOST 1048576: true; the input reads as it did. -/
def octetOrderUptoRow : OpenClaim := { program := "ytpigfpnpabnnbaa", sum := "3a3b54bfa3147a2eb98bf77ce1b6896a65b132e000244a6f4ec6c3cf417a9ddf", func := "consistory/consistorylaw01.OctetOrder", spec := "octetOrder", apart := false, narrowed := true }
def OctetOrderUptoSaid : Prop := octetOrderUptoRow.holds Try.pinned (OpenSpec.upto octetOrderSpec)

/-- 'consistorylaw01.OctetWrites', WHERE WHAT IT READS IS OF BULK AT MOST 1048576: true; the input reads as it did. -/
def octetWritesUptoRow : OpenClaim := { program := "ytpigfpnpabnnbaa", sum := "3a3b54bfa3147a2eb98bf77ce1b6896a65b132e000244a6f4ec6c3cf417a9ddf", func := "consistory/consistorylaw01.OctetWrites", spec := "octetWrites", apart := false, narrowed := true }
def OctetWritesUptoSaid : Prop := octetWritesUptoRow.holds Try.pinned (OpenSpec.upto octetWritesSpec)

/-- 'consistorylaw01.OctetTakes', WHERE WHAT IT READS IS OF BULK AT MOST 1048576: true; the input reads as it did. -/
def octetTakesUptoRow : OpenClaim := { program := "ytpigfpnpabnnbaa", sum := "3a3b54bfa3147a2eb98bf77ce1b6896a65b132e000244a6f4ec6c3cf417a9ddf", func := "consistory/consistorylaw01.OctetTakes", spec := "octetTakes", apart := false, narrowed := true }
def OctetTakesUptoSaid : Prop := octetTakesUptoRow.holds Try.pinned (OpenSpec.upto octetTakesSpec)

/-- 'consistorylaw01.OctetLimits', WHERE WHAT IT READS IS OF BULK AT MOST 1048576: true; the input reads as it did. -/
def octetLimitsUptoRow : OpenClaim := { program := "ytpigfpnpabnnbaa", sum := "3a3b54bfa3147a2eb98bf77ce1b6896a65b132e000244a6f4ec6c3cf417a9ddf", func := "consistory/consistorylaw01.OctetLimits", spec := "octetLimits", apart := false, narrowed := true }
def OctetLimitsUptoSaid : Prop := octetLimitsUptoRow.holds Try.pinned (OpenSpec.upto octetLimitsSpec)

/-- 'consistorylaw01.OctetBack', WHERE WHAT IT READS IS OF BULK AT MOST 1048576: true; the input reads as it did. -/
def octetBackUptoRow : OpenClaim := { program := "ytpigfpnpabnnbaa", sum := "3a3b54bfa3147a2eb98bf77ce1b6896a65b132e000244a6f4ec6c3cf417a9ddf", func := "consistory/consistorylaw01.OctetBack", spec := "octetBack", apart := false, narrowed := true }
def OctetBackUptoSaid : Prop := octetBackUptoRow.holds Try.pinned (OpenSpec.upto octetBackSpec)

/-- 'consistorylaw01.OctetOnly', WHERE WHAT IT READS IS OF BULK AT MOST 1048576: true; the input reads as it did. -/
def octetOnlyUptoRow : OpenClaim := { program := "ytpigfpnpabnnbaa", sum := "3a3b54bfa3147a2eb98bf77ce1b6896a65b132e000244a6f4ec6c3cf417a9ddf", func := "consistory/consistorylaw01.OctetOnly", spec := "octetOnly", apart := false, narrowed := true }
def OctetOnlyUptoSaid : Prop := octetOnlyUptoRow.holds Try.pinned (OpenSpec.upto octetOnlySpec)

/-- 'consistorylaw12.OrderUnused', WHERE WHAT IT READS IS OF BULK AT MOST 1048576: true; the input reads as it did. -/
def orderUnusedUptoRow : OpenClaim := { program := "ytpigfpnpabnnbaa", sum := "3a3b54bfa3147a2eb98bf77ce1b6896a65b132e000244a6f4ec6c3cf417a9ddf", func := "consistory/consistorylaw12.OrderUnused", spec := "orderUnused", apart := false, narrowed := true }
def OrderUnusedUptoSaid : Prop := orderUnusedUptoRow.holds Try.pinned (OpenSpec.upto orderUnusedSpec)

/-- 'consistorylaw12.OrderWrites', WHERE WHAT IT READS IS OF BULK AT MOST 1048576: true; the input reads as it did. -/
def orderWritesUptoRow : OpenClaim := { program := "ytpigfpnpabnnbaa", sum := "3a3b54bfa3147a2eb98bf77ce1b6896a65b132e000244a6f4ec6c3cf417a9ddf", func := "consistory/consistorylaw12.OrderWrites", spec := "orderWrites", apart := false, narrowed := true }
def OrderWritesUptoSaid : Prop := orderWritesUptoRow.holds Try.pinned (OpenSpec.upto orderWritesSpec)

/-- 'consistorylaw12.OrderTakes', WHERE WHAT IT READS IS OF BULK AT MOST 1048576: true; the input reads as it did. -/
def orderTakesUptoRow : OpenClaim := { program := "ytpigfpnpabnnbaa", sum := "3a3b54bfa3147a2eb98bf77ce1b6896a65b132e000244a6f4ec6c3cf417a9ddf", func := "consistory/consistorylaw12.OrderTakes", spec := "orderTakes", apart := false, narrowed := true }
def OrderTakesUptoSaid : Prop := orderTakesUptoRow.holds Try.pinned (OpenSpec.upto orderTakesSpec)

/-- 'consistorylaw12.OrderBack', WHERE WHAT IT READS IS OF BULK AT MOST 1048576: true; the input reads as it did. -/
def orderBackUptoRow : OpenClaim := { program := "ytpigfpnpabnnbaa", sum := "3a3b54bfa3147a2eb98bf77ce1b6896a65b132e000244a6f4ec6c3cf417a9ddf", func := "consistory/consistorylaw12.OrderBack", spec := "orderBack", apart := false, narrowed := true }
def OrderBackUptoSaid : Prop := orderBackUptoRow.holds Try.pinned (OpenSpec.upto orderBackSpec)

/-- 'consistorylaw12.OrderOnly', WHERE WHAT IT READS IS OF BULK AT MOST 1048576: true; the input reads as it did. -/
def orderOnlyUptoRow : OpenClaim := { program := "ytpigfpnpabnnbaa", sum := "3a3b54bfa3147a2eb98bf77ce1b6896a65b132e000244a6f4ec6c3cf417a9ddf", func := "consistory/consistorylaw12.OrderOnly", spec := "orderOnly", apart := false, narrowed := true }
def OrderOnlyUptoSaid : Prop := orderOnlyUptoRow.holds Try.pinned (OpenSpec.upto orderOnlySpec)

end Rows
end Go.Proofs.Ytpigfpnpabnnbaa
