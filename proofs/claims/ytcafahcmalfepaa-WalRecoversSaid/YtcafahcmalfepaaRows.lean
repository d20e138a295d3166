/-
  No cell of these rows narrows 'for every input' (looked for: loops, veiled, ifaces, maps, wideKeys, modest, calm, conditions, laid).
  DERIVED. THE GIVEN ROWS OF THIS SEAT. 10 by the template 'for every input the law returns true; each argument reads behind the call as it read before'; 0 by the template 'total and deterministic' (their statements: YtcafahcmalfepaaTotals.lean).
  GIVEN WITH THE SEED: the statements are not yours to turn. If you find one false, say at which input.
  Laid BY PROGRAM, IN A SANDBOX (cutbox-rows.mjs): the forced cells as the released guide's own fill.sh prints them over the translation d1c2988b45186b01… (all of the seat's roots in one cut). By AI agents, Wed Nov 11 2026. No macro, syntax, notation, axiom, sorry.
-/
import Derived.Test.YtcafahcmalfepaaChecked
import GoSem.Claim
import GoSem.ClaimJoined
import GoSem.ClaimMapViews
import Derived.JoinedTies
import Derived.KernelRfl
namespace Go.Proofs.Ytcafahcmalfepaa
/- THE CELL 'sum', in the pinned program and in every row, IS THE sha256 OF THE DUMP (.gsa) THAT YtcafahcmalfepaaProg.lean LOADS. Nothing in Lean hashes anything: it is a label: what it is worth is what the hold of that sum in a sandbox is worth. -/
noncomputable def Try.pinned : Pinned := { name := "ytcafahcmalfepaa", sum := "d1c2988b45186b017ec30d2ad173ec28bd2471744b660c6f92d69a54bb9c0ea6", checked := Try.checked }
namespace Rows
def none {H : Type} : Left H := { results := [], args := [] }

/-- 'consistorylaw15.CrcTells': WHATEVER THE INPUT: true; the input reads as it did. -/
def crcTellsSpec : ChangeSpec := { name := "crcTells", fn := fun _ => fun
  | [d1, d2, d3] => { results := [.lit (.bool true)], args := [d1, d2, d3] }
  | _ => none }
def crcTellsRow : OpenClaim := { program := "ytcafahcmalfepaa", sum := "d1c2988b45186b017ec30d2ad173ec28bd2471744b660c6f92d69a54bb9c0ea6", func := "consistory/consistorylaw15.CrcTells", spec := "crcTells", apart := false }
def CrcTellsSaid : Prop := crcTellsRow.holds Try.pinned (OpenSpec.ofChange crcTellsSpec)

/-- ITS FALSE NEIGHBOUR: 'it returns false'. Refute it at one input. -/
def crcTellsWrong : ChangeSpec := { name := "crcTells", fn := fun _ => fun
  | [d1, d2, d3] => { results := [.lit (.bool false)], args := [d1, d2, d3] }
  | _ => none }
def CrcTellsWrongFalsely : Prop := crcTellsRow.holds Try.pinned (OpenSpec.ofChange crcTellsWrong)

/-- 'consistorylaw15.CrcPieces': WHATEVER THE INPUT: true; the input reads as it did. -/
def crcPiecesSpec : ChangeSpec := { name := "crcPieces", fn := fun _ => fun
  | [d1, d2, d3] => { results := [.lit (.bool true)], args := [d1, d2, d3] }
  | _ => none }
def crcPiecesRow : OpenClaim := { program := "ytcafahcmalfepaa", sum := "d1c2988b45186b017ec30d2ad173ec28bd2471744b660c6f92d69a54bb9c0ea6", func := "consistory/consistorylaw15.CrcPieces", spec := "crcPieces", apart := false }
def CrcPiecesSaid : Prop := crcPiecesRow.holds Try.pinned (OpenSpec.ofChange crcPiecesSpec)

/-- ITS FALSE NEIGHBOUR: 'it returns false'. Refute it at one input. -/
def crcPiecesWrong : ChangeSpec := { name := "crcPieces", fn := fun _ => fun
  | [d1, d2, d3] => { results := [.lit (.bool false)], args := [d1, d2, d3] }
  | _ => none }
def CrcPiecesWrongFalsely : Prop := crcPiecesRow.holds Try.pinned (OpenSpec.ofChange crcPiecesWrong)

/-- 'consistorylaw15.CrcScans': WHATEVER THE INPUT: true; the input reads as it did. -/
def crcScansSpec : ChangeSpec := { name := "crcScans", fn := fun _ => fun
  | [d] => { results := [.lit (.bool true)], args := [d] }
  | _ => none }
def crcScansRow : OpenClaim := { program := "ytcafahcmalfepaa", sum := "d1c2988b45186b017ec30d2ad173ec28bd2471744b660c6f92d69a54bb9c0ea6", func := "consistory/consistorylaw15.CrcScans", spec := "crcScans", apart := false }
def CrcScansSaid : Prop := crcScansRow.holds Try.pinned (OpenSpec.ofChange crcScansSpec)

/-- ITS FALSE NEIGHBOUR: 'it returns false'. Refute it at one input. -/
def crcScansWrong : ChangeSpec := { name := "crcScans", fn := fun _ => fun
  | [d] => { results := [.lit (.bool false)], args := [d] }
  | _ => none }
def CrcScansWrongFalsely : Prop := crcScansRow.holds Try.pinned (OpenSpec.ofChange crcScansWrong)

/-- 'consistorylaw15.CrcBack': WHATEVER THE INPUT: true; the input reads as it did. -/
def crcBackSpec : ChangeSpec := { name := "crcBack", fn := fun _ => fun
  | [d1, d2, d3] => { results := [.lit (.bool true)], args := [d1, d2, d3] }
  | _ => none }
def crcBackRow : OpenClaim := { program := "ytcafahcmalfepaa", sum := "d1c2988b45186b017ec30d2ad173ec28bd2471744b660c6f92d69a54bb9c0ea6", func := "consistory/consistorylaw15.CrcBack", spec := "crcBack", apart := false }
def CrcBackSaid : Prop := crcBackRow.holds Try.pinned (OpenSpec.ofChange crcBackSpec)

/-- ITS FALSE NEIGHBOUR: 'it returns false'. Refute it at one input. -/
def crcBackWrong : ChangeSpec := { name := "crcBack", fn := fun _ => fun
  | [d1, d2, d3] => { results := [.lit (.bool false)], args := [d1, d2, d3] }
  | _ => none }
def CrcBackWrongFalsely : Prop := crcBackRow.holds Try.pinned (OpenSpec.ofChange crcBackWrong)

/-- 'consistorylaw15.CrcSpoilt': WHATEVER THE INPUT: true; the input reads as it did. -/
def crcSpoiltSpec : ChangeSpec := { name := "crcSpoilt", fn := fun _ => fun
  | [d1, d2, d3] => { results := [.lit (.bool true)], args := [d1, d2, d3] }
  | _ => none }
def crcSpoiltRow : OpenClaim := { program := "ytcafahcmalfepaa", sum := "d1c2988b45186b017ec30d2ad173ec28bd2471744b660c6f92d69a54bb9c0ea6", func := "consistory/consistorylaw15.CrcSpoilt", spec := "crcSpoilt", apart := false }
def CrcSpoiltSaid : Prop := crcSpoiltRow.holds Try.pinned (OpenSpec.ofChange crcSpoiltSpec)

/-- ITS FALSE NEIGHBOUR: 'it returns false'. Refute it at one input. -/
def crcSpoiltWrong : ChangeSpec := { name := "crcSpoilt", fn := fun _ => fun
  | [d1, d2, d3] => { results := [.lit (.bool false)], args := [d1, d2, d3] }
  | _ => none }
def CrcSpoiltWrongFalsely : Prop := crcSpoiltRow.holds Try.pinned (OpenSpec.ofChange crcSpoiltWrong)

/-- 'consistorylaw17.WalOpens': WHATEVER THE INPUT: true; the input reads as it did. -/
def walOpensSpec : ChangeSpec := { name := "walOpens", fn := fun _ => fun
  | [d] => { results := [.lit (.bool true)], args := [d] }
  | _ => none }
def walOpensRow : OpenClaim := { program := "ytcafahcmalfepaa", sum := "d1c2988b45186b017ec30d2ad173ec28bd2471744b660c6f92d69a54bb9c0ea6", func := "consistory/consistorylaw17.WalOpens", spec := "walOpens", unfollowed := true, recurses := true, apart := false }
def WalOpensSaid : Prop := walOpensRow.holds Try.pinned (OpenSpec.ofChange walOpensSpec)

/-- ITS FALSE NEIGHBOUR: 'it returns false'. Refute it at one input. -/
def walOpensWrong : ChangeSpec := { name := "walOpens", fn := fun _ => fun
  | [d] => { results := [.lit (.bool false)], args := [d] }
  | _ => none }
def WalOpensWrongFalsely : Prop := walOpensRow.holds Try.pinned (OpenSpec.ofChange walOpensWrong)

/-- 'consistorylaw17.WalLarge': WHATEVER THE INPUT: true; the input reads as it did. -/
def walLargeSpec : ChangeSpec := { name := "walLarge", fn := fun _ => fun
  | [d1, d2] => { results := [.lit (.bool true)], args := [d1, d2] }
  | _ => none }
def walLargeRow : OpenClaim := { program := "ytcafahcmalfepaa", sum := "d1c2988b45186b017ec30d2ad173ec28bd2471744b660c6f92d69a54bb9c0ea6", func := "consistory/consistorylaw17.WalLarge", spec := "walLarge", unfollowed := true, recurses := true, apart := false }
def WalLargeSaid : Prop := walLargeRow.holds Try.pinned (OpenSpec.ofChange walLargeSpec)

/-- ITS FALSE NEIGHBOUR: 'it returns false'. Refute it at one input. -/
def walLargeWrong : ChangeSpec := { name := "walLarge", fn := fun _ => fun
  | [d1, d2] => { results := [.lit (.bool false)], args := [d1, d2] }
  | _ => none }
def WalLargeWrongFalsely : Prop := walLargeRow.holds Try.pinned (OpenSpec.ofChange walLargeWrong)

/-- 'consistorylaw17.WalCuts': WHATEVER THE INPUT: true; the input reads as it did. -/
def walCutsSpec : ChangeSpec := { name := "walCuts", fn := fun _ => fun
  | [d1, d2, d3] => { results := [.lit (.bool true)], args := [d1, d2, d3] }
  | _ => none }
def walCutsRow : OpenClaim := { program := "ytcafahcmalfepaa", sum := "d1c2988b45186b017ec30d2ad173ec28bd2471744b660c6f92d69a54bb9c0ea6", func := "consistory/consistorylaw17.WalCuts", spec := "walCuts", unfollowed := true, recurses := true, apart := false }
def WalCutsSaid : Prop := walCutsRow.holds Try.pinned (OpenSpec.ofChange walCutsSpec)

/-- ITS FALSE NEIGHBOUR: 'it returns false'. Refute it at one input. -/
def walCutsWrong : ChangeSpec := { name := "walCuts", fn := fun _ => fun
  | [d1, d2, d3] => { results := [.lit (.bool false)], args := [d1, d2, d3] }
  | _ => none }
def WalCutsWrongFalsely : Prop := walCutsRow.holds Try.pinned (OpenSpec.ofChange walCutsWrong)

/-- 'consistorylaw17.WalTurns': WHATEVER THE INPUT: true; the input reads as it did. -/
def walTurnsSpec : ChangeSpec := { name := "walTurns", fn := fun _ => fun
  | [d1, d2, d3] => { results := [.lit (.bool true)], args := [d1, d2, d3] }
  | _ => none }
def walTurnsRow : OpenClaim := { program := "ytcafahcmalfepaa", sum := "d1c2988b45186b017ec30d2ad173ec28bd2471744b660c6f92d69a54bb9c0ea6", func := "consistory/consistorylaw17.WalTurns", spec := "walTurns", unfollowed := true, recurses := true, apart := false }
def WalTurnsSaid : Prop := walTurnsRow.holds Try.pinned (OpenSpec.ofChange walTurnsSpec)

/-- ITS FALSE NEIGHBOUR: 'it returns false'. Refute it at one input. -/
def walTurnsWrong : ChangeSpec := { name := "walTurns", fn := fun _ => fun
  | [d1, d2, d3] => { results := [.lit (.bool false)], args := [d1, d2, d3] }
  | _ => none }
def WalTurnsWrongFalsely : Prop := walTurnsRow.holds Try.pinned (OpenSpec.ofChange walTurnsWrong)

/-- 'consistorylaw17.WalRecovers': WHATEVER THE INPUT: true; the input reads as it did. -/
def walRecoversSpec : ChangeSpec := { name := "walRecovers", fn := fun _ => fun
  | [d1, d2, d3] => { results := [.lit (.bool true)], args := [d1, d2, d3] }
  | _ => none }
def walRecoversRow : OpenClaim := { program := "ytcafahcmalfepaa", sum := "d1c2988b45186b017ec30d2ad173ec28bd2471744b660c6f92d69a54bb9c0ea6", func := "consistory/consistorylaw17.WalRecovers", spec := "walRecovers", unfollowed := true, recurses := true, apart := false }
def WalRecoversSaid : Prop := walRecoversRow.holds Try.pinned (OpenSpec.ofChange walRecoversSpec)

/-- ITS FALSE NEIGHBOUR: 'it returns false'. Refute it at one input. -/
def walRecoversWrong : ChangeSpec := { name := "walRecovers", fn := fun _ => fun
  | [d1, d2, d3] => { results := [.lit (.bool false)], args := [d1, d2, d3] }
  | _ => none }
def WalRecoversWrongFalsely : Prop := walRecoversRow.holds Try.pinned (OpenSpec.ofChange walRecoversWrong)

/- THE SECOND FORM. 'bulk': how many values and letters a reading holds, each counted each time it is reached (what is shared counts as often as it is met; a slice's spare places count too). A statement '..UptoSaid' is the law's where the arguments, and the package variables that the reading takes, are together of bulk at most 1048576: NARROWER than '..Said'. Prove '..Said' where nothing that the law and all that it calls make is longer than what came in: it says more and counts as full. Else prove '..UptoSaid'. A law counts once. -/
mutual
def uptoBulk {H : Type} : DataW H → Nat
  | .lit (.string bytes) => bytes.length + 1
  | .lit _ => 1
  | .nil => 1
  | .ptr d => uptoBulk d + 1
  | .slice elems spare => uptoBulkAll elems + uptoBulkAll spare + 1
  | .agg parts => uptoBulkAll parts + 1
  | .iface _ d => uptoBulk d + 1
  | .map entries => uptoBulkEntries entries + 1
  | .held _ => 1
def uptoBulkAll {H : Type} : List (DataW H) → Nat
  | [] => 0
  | d :: r => uptoBulk d + uptoBulkAll r
def uptoBulkEntries {H : Type} : List (Lit × DataW H) → Nat
  | [] => 0
  | x :: r => uptoBulkEntry x + uptoBulkEntries r
def uptoBulkEntry {H : Type} : Lit × DataW H → Nat
  | (.string bytes, d) => bytes.length + uptoBulk d + 1
  | (_, d) => uptoBulk d + 1
 end
def uptoSmall : (H : Type) → List (DataW H) → Bool := fun _ ds => decide (uptoBulkAll ds ≤ 1048576)
def OpenSpec.upto (s : _root_.Go.ChangeSpec) : _root_.Go.OpenSpec := { _root_.Go.OpenSpec.ofChange s with cond := some uptoSmall }

/-- 'consistorylaw15.CrcTells', WHERE WHAT IT READS IS OF BULK AT MOST 1048576: true; the input reads as it did. -/
def crcTellsUptoRow : OpenClaim := { program := "ytcafahcmalfepaa", sum := "d1c2988b45186b017ec30d2ad173ec28bd2471744b660c6f92d69a54bb9c0ea6", func := "consistory/consistorylaw15.CrcTells", spec := "crcTells", apart := false, narrowed := true }
def CrcTellsUptoSaid : Prop := crcTellsUptoRow.holds Try.pinned (OpenSpec.upto crcTellsSpec)

/-- 'consistorylaw15.CrcPieces', WHERE WHAT IT READS IS OF BULK AT MOST 1048576: true; the input reads as it did. -/
def crcPiecesUptoRow : OpenClaim := { program := "ytcafahcmalfepaa", sum := "d1c2988b45186b017ec30d2ad173ec28bd2471744b660c6f92d69a54bb9c0ea6", func := "consistory/consistorylaw15.CrcPieces", spec := "crcPieces", apart := false, narrowed := true }
def CrcPiecesUptoSaid : Prop := crcPiecesUptoRow.holds Try.pinned (OpenSpec.upto crcPiecesSpec)

/-- 'consistorylaw15.CrcScans', WHERE WHAT IT READS IS OF BULK AT MOST 1048576: true; the input reads as it did. -/
def crcScansUptoRow : OpenClaim := { program := "ytcafahcmalfepaa", sum := "d1c2988b45186b017ec30d2ad173ec28bd2471744b660c6f92d69a54bb9c0ea6", func := "consistory/consistorylaw15.CrcScans", spec := "crcScans", apart := false, narrowed := true }
def CrcScansUptoSaid : Prop := crcScansUptoRow.holds Try.pinned (OpenSpec.upto crcScansSpec)

/-- 'consistorylaw15.CrcBack', WHERE WHAT IT READS IS OF BULK AT MOST 1048576: true; the input reads as it did. -/
def crcBackUptoRow : OpenClaim := { program := "ytcafahcmalfepaa", sum := "d1c2988b45186b017ec30d2ad173ec28bd2471744b660c6f92d69a54bb9c0ea6", func := "consistory/consistorylaw15.CrcBack", spec := "crcBack", apart := false, narrowed := true }
def CrcBackUptoSaid : Prop := crcBackUptoRow.holds Try.pinned (OpenSpec.upto crcBackSpec)

/-- 'consistorylaw15.CrcSpoilt', WHERE WHAT IT READS IS OF BULK AT MOST 1048576: true; the input reads as it did. -/
def crcSpoiltUptoRow : OpenClaim := { program := "ytcafahcmalfepaa", sum := "d1c2988b45186b017ec30d2ad173ec28bd2471744b660c6f92d69a54bb9c0ea6", func := "consistory/consistorylaw15.CrcSpoilt", spec := "crcSpoilt", apart := false, narrowed := true }
def CrcSpoiltUptoSaid : Prop := crcSpoiltUptoRow.holds Try.pinned (OpenSpec.upto crcSpoiltSpec)

/-- 'consistorylaw17.WalOpens', WHERE WHAT IT READS IS OF BULK AT MOST 1048576: true; the input reads as it did. -/
def walOpensUptoRow : OpenClaim := { program := "ytcafahcmalfepaa", sum := "d1c2988b45186b017ec30d2ad173ec28bd2471744b660c6f92d69a54bb9c0ea6", func := "consistory/consistorylaw17.WalOpens", spec := "walOpens", unfollowed := true, recurses := true, apart := false, narrowed := true }
def WalOpensUptoSaid : Prop := walOpensUptoRow.holds Try.pinned (OpenSpec.upto walOpensSpec)

/-- 'consistorylaw17.WalLarge', WHERE WHAT IT READS IS OF BULK AT MOST 1048576: true; the input reads as it did. -/
def walLargeUptoRow : OpenClaim := { program := "ytcafahcmalfepaa", sum := "d1c2988b45186b017ec30d2ad173ec28bd2471744b660c6f92d69a54bb9c0ea6", func := "consistory/consistorylaw17.WalLarge", spec := "walLarge", unfollowed := true, recurses := true, apart := false, narrowed := true }
def WalLargeUptoSaid : Prop := walLargeUptoRow.holds Try.pinned (OpenSpec.upto walLargeSpec)

/-- 'consistorylaw17.WalCuts', WHERE WHAT IT READS IS OF BULK AT MOST 1048576: true; the input reads as it did. -/
def walCutsUptoRow : OpenClaim := { program := "ytcafahcmalfepaa", sum := "d1c2988b45186b017ec30d2ad173ec28bd2471744b660c6f92d69a54bb9c0ea6", func := "consistory/consistorylaw17.WalCuts", spec := "walCuts", unfollowed := true, recurses := true, apart := false, narrowed := true }
def WalCutsUptoSaid : Prop := walCutsUptoRow.holds Try.pinned (OpenSpec.upto walCutsSpec)

/-- 'consistorylaw17.WalTurns', WHERE WHAT IT READS IS OF BULK AT MOST 1048576: true; the input reads as it did. -/
def walTurnsUptoRow : OpenClaim := { program := "ytcafahcmalfepaa", sum := "d1c2988b45186b017ec30d2ad173ec28bd2471744b660c6f92d69a54bb9c0ea6", func := "consistory/consistorylaw17.WalTurns", spec := "walTurns", unfollowed := true, recurses := true, apart := false, narrowed := true }
def WalTurnsUptoSaid : Prop := walTurnsUptoRow.holds Try.pinned (OpenSpec.upto walTurnsSpec)

/-- 'consistorylaw17.WalRecovers', WHERE WHAT IT READS IS OF BULK AT MOST 1048576: true; the input reads as it did. -/
def walRecoversUptoRow : OpenClaim := { program := "ytcafahcmalfepaa", sum := "d1c2988b45186b017ec30d2ad173ec28bd2471744b660c6f92d69a54bb9c0ea6", func := "consistory/consistorylaw17.WalRecovers", spec := "walRecovers", unfollowed := true, recurses := true, apart := false, narrowed := true }
def WalRecoversUptoSaid : Prop := walRecoversUptoRow.holds Try.pinned (OpenSpec.upto walRecoversSpec)

end Rows
end Go.Proofs.Ytcafahcmalfepaa
