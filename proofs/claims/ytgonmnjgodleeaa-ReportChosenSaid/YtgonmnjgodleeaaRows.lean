/-
  No cell of these rows narrows 'for every input' (looked for: loops, veiled, ifaces, maps, wideKeys, modest, calm, conditions, laid).
  DERIVED. THE GIVEN ROWS OF THIS SEAT. 9 by the template 'for every input the law returns true; each argument reads behind the call as it read before'; 0 by the template 'total and deterministic' (their statements: YtgonmnjgodleeaaTotals.lean).
  GIVEN WITH THE SEED: the statements are not yours to turn. If you find one false, say at which input.
  Laid BY PROGRAM, IN A SANDBOX (cutbox-rows.mjs): the forced cells as the released guide's own fill.sh prints them over the translation 73a6f53b1642eee0… (all of the seat's roots in one cut). By AI agents, Wed Nov 11 2026. No macro, syntax, notation, axiom, sorry.
-/
import Derived.Test.YtgonmnjgodleeaaChecked
import GoSem.Claim
import GoSem.ClaimJoined
import GoSem.ClaimMapViews
import Derived.JoinedTies
import Derived.KernelRfl
namespace Go.Proofs.Ytgonmnjgodleeaa
/- THE CELL 'sum', in the pinned program and in every row, IS THE sha256 OF THE DUMP (.gsa) THAT YtgonmnjgodleeaaProg.lean LOADS. Nothing in Lean hashes anything: it is a label: what it is worth is what the hold of that sum in a sandbox is worth. -/
noncomputable def Try.pinned : Pinned := { name := "ytgonmnjgodleeaa", sum := "73a6f53b1642eee007113dda9ac4e61eab0a1bd9307820f4dc03cef713315a41", checked := Try.checked }
namespace Rows
def none {H : Type} : Left H := { results := [], args := [] }

/-- 'consistorylaw07.SizeLeads': WHATEVER THE INPUT: true; the input reads as it did. -/
def sizeLeadsSpec : ChangeSpec := { name := "sizeLeads", fn := fun _ => fun
  | [d1, d2] => { results := [.lit (.bool true)], args := [d1, d2] }
  | _ => none }
def sizeLeadsRow : OpenClaim := { program := "ytgonmnjgodleeaa", sum := "73a6f53b1642eee007113dda9ac4e61eab0a1bd9307820f4dc03cef713315a41", func := "consistory/consistorylaw07.SizeLeads", spec := "sizeLeads", apart := false }
def SizeLeadsSaid : Prop := sizeLeadsRow.holds Try.pinned (OpenSpec.ofChange sizeLeadsSpec)

/-- ITS FALSE NEIGHBOUR: 'it returns false'. Refute it at one input. -/
def sizeLeadsWrong : ChangeSpec := { name := "sizeLeads", fn := fun _ => fun
  | [d1, d2] => { results := [.lit (.bool false)], args := [d1, d2] }
  | _ => none }
def SizeLeadsWrongFalsely : Prop := sizeLeadsRow.holds Try.pinned (OpenSpec.ofChange sizeLeadsWrong)

/-- 'consistorylaw07.SizeTells': WHATEVER THE INPUT: true; the input reads as it did. -/
def sizeTellsSpec : ChangeSpec := { name := "sizeTells", fn := fun _ => fun
  | [d1, d2, d3] => { results := [.lit (.bool true)], args := [d1, d2, d3] }
  | _ => none }
def sizeTellsRow : OpenClaim := { program := "ytgonmnjgodleeaa", sum := "73a6f53b1642eee007113dda9ac4e61eab0a1bd9307820f4dc03cef713315a41", func := "consistory/consistorylaw07.SizeTells", spec := "sizeTells", apart := false }
def SizeTellsSaid : Prop := sizeTellsRow.holds Try.pinned (OpenSpec.ofChange sizeTellsSpec)

/-- ITS FALSE NEIGHBOUR: 'it returns false'. Refute it at one input. -/
def sizeTellsWrong : ChangeSpec := { name := "sizeTells", fn := fun _ => fun
  | [d1, d2, d3] => { results := [.lit (.bool false)], args := [d1, d2, d3] }
  | _ => none }
def SizeTellsWrongFalsely : Prop := sizeTellsRow.holds Try.pinned (OpenSpec.ofChange sizeTellsWrong)

/-- 'consistorylaw07.SizeMeets': WHATEVER THE INPUT: true; the input reads as it did. -/
def sizeMeetsSpec : ChangeSpec := { name := "sizeMeets", fn := fun _ => fun
  | [d1, d2, d3] => { results := [.lit (.bool true)], args := [d1, d2, d3] }
  | _ => none }
def sizeMeetsRow : OpenClaim := { program := "ytgonmnjgodleeaa", sum := "73a6f53b1642eee007113dda9ac4e61eab0a1bd9307820f4dc03cef713315a41", func := "consistory/consistorylaw07.SizeMeets", spec := "sizeMeets", unfollowed := true, recurses := true, apart := false }
def SizeMeetsSaid : Prop := sizeMeetsRow.holds Try.pinned (OpenSpec.ofChange sizeMeetsSpec)

/-- ITS FALSE NEIGHBOUR: 'it returns false'. Refute it at one input. -/
def sizeMeetsWrong : ChangeSpec := { name := "sizeMeets", fn := fun _ => fun
  | [d1, d2, d3] => { results := [.lit (.bool false)], args := [d1, d2, d3] }
  | _ => none }
def SizeMeetsWrongFalsely : Prop := sizeMeetsRow.holds Try.pinned (OpenSpec.ofChange sizeMeetsWrong)

/-- 'consistorylaw07.SizeQuorums': WHATEVER THE INPUT: true; the input reads as it did. -/
def sizeQuorumsSpec : ChangeSpec := { name := "sizeQuorums", fn := fun _ => fun
  | [d] => { results := [.lit (.bool true)], args := [d] }
  | _ => none }
def sizeQuorumsRow : OpenClaim := { program := "ytgonmnjgodleeaa", sum := "73a6f53b1642eee007113dda9ac4e61eab0a1bd9307820f4dc03cef713315a41", func := "consistory/consistorylaw07.SizeQuorums", spec := "sizeQuorums", unfollowed := true, recurses := true, apart := false }
def SizeQuorumsSaid : Prop := sizeQuorumsRow.holds Try.pinned (OpenSpec.ofChange sizeQuorumsSpec)

/-- ITS FALSE NEIGHBOUR: 'it returns false'. Refute it at one input. -/
def sizeQuorumsWrong : ChangeSpec := { name := "sizeQuorums", fn := fun _ => fun
  | [d] => { results := [.lit (.bool false)], args := [d] }
  | _ => none }
def SizeQuorumsWrongFalsely : Prop := sizeQuorumsRow.holds Try.pinned (OpenSpec.ofChange sizeQuorumsWrong)

/-- 'consistorylaw20.ReportBinds': WHATEVER THE INPUT: true; the input reads as it did. -/
def reportBindsSpec : ChangeSpec := { name := "reportBinds", fn := fun _ => fun
  | [d1, d2, d3] => { results := [.lit (.bool true)], args := [d1, d2, d3] }
  | _ => none }
def reportBindsRow : OpenClaim := { program := "ytgonmnjgodleeaa", sum := "73a6f53b1642eee007113dda9ac4e61eab0a1bd9307820f4dc03cef713315a41", func := "consistory/consistorylaw20.ReportBinds", spec := "reportBinds", apart := false }
def ReportBindsSaid : Prop := reportBindsRow.holds Try.pinned (OpenSpec.ofChange reportBindsSpec)

/-- ITS FALSE NEIGHBOUR: 'it returns false'. Refute it at one input. -/
def reportBindsWrong : ChangeSpec := { name := "reportBinds", fn := fun _ => fun
  | [d1, d2, d3] => { results := [.lit (.bool false)], args := [d1, d2, d3] }
  | _ => none }
def ReportBindsWrongFalsely : Prop := reportBindsRow.holds Try.pinned (OpenSpec.ofChange reportBindsWrong)

/-- 'consistorylaw20.ReportFree': WHATEVER THE INPUT: true; the input reads as it did. -/
def reportFreeSpec : ChangeSpec := { name := "reportFree", fn := fun _ => fun
  | [d1, d2, d3] => { results := [.lit (.bool true)], args := [d1, d2, d3] }
  | _ => none }
def reportFreeRow : OpenClaim := { program := "ytgonmnjgodleeaa", sum := "73a6f53b1642eee007113dda9ac4e61eab0a1bd9307820f4dc03cef713315a41", func := "consistory/consistorylaw20.ReportFree", spec := "reportFree", apart := false }
def ReportFreeSaid : Prop := reportFreeRow.holds Try.pinned (OpenSpec.ofChange reportFreeSpec)

/-- ITS FALSE NEIGHBOUR: 'it returns false'. Refute it at one input. -/
def reportFreeWrong : ChangeSpec := { name := "reportFree", fn := fun _ => fun
  | [d1, d2, d3] => { results := [.lit (.bool false)], args := [d1, d2, d3] }
  | _ => none }
def ReportFreeWrongFalsely : Prop := reportFreeRow.holds Try.pinned (OpenSpec.ofChange reportFreeWrong)

/-- 'consistorylaw20.ReportChosen': WHATEVER THE INPUT: true; the input reads as it did. -/
def reportChosenSpec : ChangeSpec := { name := "reportChosen", fn := fun _ => fun
  | [d1, d2] => { results := [.lit (.bool true)], args := [d1, d2] }
  | _ => none }
def reportChosenRow : OpenClaim := { program := "ytgonmnjgodleeaa", sum := "73a6f53b1642eee007113dda9ac4e61eab0a1bd9307820f4dc03cef713315a41", func := "consistory/consistorylaw20.ReportChosen", spec := "reportChosen", apart := false }
def ReportChosenSaid : Prop := reportChosenRow.holds Try.pinned (OpenSpec.ofChange reportChosenSpec)

/-- ITS FALSE NEIGHBOUR: 'it returns false'. Refute it at one input. -/
def reportChosenWrong : ChangeSpec := { name := "reportChosen", fn := fun _ => fun
  | [d1, d2] => { results := [.lit (.bool false)], args := [d1, d2] }
  | _ => none }
def ReportChosenWrongFalsely : Prop := reportChosenRow.holds Try.pinned (OpenSpec.ofChange reportChosenWrong)

/-- 'consistorylaw20.ReportTwo': WHATEVER THE INPUT: true; the input reads as it did. -/
def reportTwoSpec : ChangeSpec := { name := "reportTwo", fn := fun _ => fun
  | [d1, d2, d3] => { results := [.lit (.bool true)], args := [d1, d2, d3] }
  | _ => none }
def reportTwoRow : OpenClaim := { program := "ytgonmnjgodleeaa", sum := "73a6f53b1642eee007113dda9ac4e61eab0a1bd9307820f4dc03cef713315a41", func := "consistory/consistorylaw20.ReportTwo", spec := "reportTwo", apart := false }
def ReportTwoSaid : Prop := reportTwoRow.holds Try.pinned (OpenSpec.ofChange reportTwoSpec)

/-- ITS FALSE NEIGHBOUR: 'it returns false'. Refute it at one input. -/
def reportTwoWrong : ChangeSpec := { name := "reportTwo", fn := fun _ => fun
  | [d1, d2, d3] => { results := [.lit (.bool false)], args := [d1, d2, d3] }
  | _ => none }
def ReportTwoWrongFalsely : Prop := reportTwoRow.holds Try.pinned (OpenSpec.ofChange reportTwoWrong)

/-- 'consistorylaw20.ReportTells': WHATEVER THE INPUT: true; the input reads as it did. -/
def reportTellsSpec : ChangeSpec := { name := "reportTells", fn := fun _ => fun
  | [d1, d2, d3] => { results := [.lit (.bool true)], args := [d1, d2, d3] }
  | _ => none }
def reportTellsRow : OpenClaim := { program := "ytgonmnjgodleeaa", sum := "73a6f53b1642eee007113dda9ac4e61eab0a1bd9307820f4dc03cef713315a41", func := "consistory/consistorylaw20.ReportTells", spec := "reportTells", unfollowed := true, recurses := true, apart := false }
def ReportTellsSaid : Prop := reportTellsRow.holds Try.pinned (OpenSpec.ofChange reportTellsSpec)

/-- ITS FALSE NEIGHBOUR: 'it returns false'. Refute it at one input. -/
def reportTellsWrong : ChangeSpec := { name := "reportTells", fn := fun _ => fun
  | [d1, d2, d3] => { results := [.lit (.bool false)], args := [d1, d2, d3] }
  | _ => none }
def ReportTellsWrongFalsely : Prop := reportTellsRow.holds Try.pinned (OpenSpec.ofChange reportTellsWrong)

/- THE SECOND FORM. 'bulk': how many values and letters a reading holds, each counted each time it is reached (what is shared counts as often as it is met; a slice's spare places count too). A statement '..UptoSaid' is the law's where the arguments, and the package variables that the reading takes, are together of bulk at most 1048576: NARROWER than '..Said'. Prove '..Said' where nothing that the law and all that it calls make is longer than what came in: it says more and counts as full. Else prove '..UptoSaid'. A law counts once. -/
mutual
def uptoBulk {H : Type} : DataW H → Nat
  | .lit (.string bytes) => bytes.length + 1
  | .lit _ => 1
  | .nil => 1
  | .ptr d => uptoBulk d + 1
  | .slice elems spare => uptoBulkAll elems + uptoBulkAll spare + 1
  | .agg parts => uptoBulkAll parts + 1
  | .iface _ d => uptoBulk d + 1
  | .map entries => uptoBulkEntries entries + 1
  | .held _ => 1
def uptoBulkAll {H : Type} : List (DataW H) → Nat
  | [] => 0
  | d :: r => uptoBulk d + uptoBulkAll r
def uptoBulkEntries {H : Type} : List (Lit × DataW H) → Nat
  | [] => 0
  | x :: r => uptoBulkEntry x + uptoBulkEntries r
def uptoBulkEntry {H : Type} : Lit × DataW H → Nat
  | (.string bytes, d) => bytes.length + uptoBulk d + 1
  | (_, d) => uptoBulk d + 1
 end
def uptoSmall : (H : Type) → List (DataW H) → Bool := fun _ ds => decide (uptoBulkAll ds ≤ 1048576)
def OpenSpec.upto (s : _root_.Go.ChangeSpec) : _root_.Go.OpenSpec := { _root_.Go.OpenSpec.ofChange s with cond := some uptoSmall }

/-- 'consistorylaw07.SizeLeads', WHERE WHAT IT READS IS OF BULK AT MOST 1048576: true; the input reads as it did. -/
def sizeLeadsUptoRow : OpenClaim := { program := "ytgonmnjgodleeaa", sum := "73a6f53b1642eee007113dda9ac4e61eab0a1bd9307820f4dc03cef713315a41", func := "consistory/consistorylaw07.SizeLeads", spec := "sizeLeads", apart := false, narrowed := true }
def SizeLeadsUptoSaid : Prop := sizeLeadsUptoRow.holds Try.pinned (OpenSpec.upto sizeLeadsSpec)

/-- 'consistorylaw07.SizeTells', WHERE WHAT IT READS IS OF BULK AT MOST 1048576: true; the input reads as it did. -/
def sizeTellsUptoRow : OpenClaim := { program := "ytgonmnjgodleeaa", sum := "73a6f53b1642eee007113dda9ac4e61eab0a1bd9307820f4dc03cef713315a41", func := "consistory/consistorylaw07.SizeTells", spec := "sizeTells", apart := false, narrowed := true }
def SizeTellsUptoSaid : Prop := sizeTellsUptoRow.holds Try.pinned (OpenSpec.upto sizeTellsSpec)

/-- 'consistorylaw07.SizeMeets', WHERE WHAT IT READS IS OF BULK AT MOST 1048576: true; the input reads as it did. -/
def sizeMeetsUptoRow : OpenClaim := { program := "ytgonmnjgodleeaa", sum := "73a6f53b1642eee007113dda9ac4e61eab0a1bd9307820f4dc03cef713315a41", func := "consistory/consistorylaw07.SizeMeets", spec := "sizeMeets", unfollowed := true, recurses := true, apart := false, narrowed := true }
def SizeMeetsUptoSaid : Prop := sizeMeetsUptoRow.holds Try.pinned (OpenSpec.upto sizeMeetsSpec)

/-- 'consistorylaw07.SizeQuorums', WHERE WHAT IT READS IS OF BULK AT MOST 1048576: true; the input reads as it did. -/
def sizeQuorumsUptoRow : OpenClaim := { program := "ytgonmnjgodleeaa", sum := "73a6f53b1642eee007113dda9ac4e61eab0a1bd9307820f4dc03cef713315a41", func := "consistory/consistorylaw07.SizeQuorums", spec := "sizeQuorums", unfollowed := true, recurses := true, apart := false, narrowed := true }
def SizeQuorumsUptoSaid : Prop := sizeQuorumsUptoRow.holds Try.pinned (OpenSpec.upto sizeQuorumsSpec)

/-- 'consistorylaw20.ReportBinds', WHERE WHAT IT READS IS OF BULK AT MOST 1048576: true; the input reads as it did. -/
def reportBindsUptoRow : OpenClaim := { program := "ytgonmnjgodleeaa", sum := "73a6f53b1642eee007113dda9ac4e61eab0a1bd9307820f4dc03cef713315a41", func := "consistory/consistorylaw20.ReportBinds", spec := "reportBinds", apart := false, narrowed := true }
def ReportBindsUptoSaid : Prop := reportBindsUptoRow.holds Try.pinned (OpenSpec.upto reportBindsSpec)

/-- 'consistorylaw20.ReportFree', WHERE WHAT IT READS IS OF BULK AT MOST 1048576: true; the input reads as it did. -/
def reportFreeUptoRow : OpenClaim := { program := "ytgonmnjgodleeaa", sum := "73a6f53b1642eee007113dda9ac4e61eab0a1bd9307820f4dc03cef713315a41", func := "consistory/consistorylaw20.ReportFree", spec := "reportFree", apart := false, narrowed := true }
def ReportFreeUptoSaid : Prop := reportFreeUptoRow.holds Try.pinned (OpenSpec.upto reportFreeSpec)

/-- 'consistorylaw20.ReportChosen', WHERE WHAT IT READS IS OF BULK AT MOST 1048576: true; the input reads as it did. -/
def reportChosenUptoRow : OpenClaim := { program := "ytgonmnjgodleeaa", sum := "73a6f53b1642eee007113dda9ac4e61eab0a1bd9307820f4dc03cef713315a41", func := "consistory/consistorylaw20.ReportChosen", spec := "reportChosen", apart := false, narrowed := true }
def ReportChosenUptoSaid : Prop := reportChosenUptoRow.holds Try.pinned (OpenSpec.upto reportChosenSpec)

/-- 'consistorylaw20.ReportTwo', WHERE WHAT IT READS IS OF BULK AT MOST 1048576: true; the input reads as it did. -/
def reportTwoUptoRow : OpenClaim := { program := "ytgonmnjgodleeaa", sum := "73a6f53b1642eee007113dda9ac4e61eab0a1bd9307820f4dc03cef713315a41", func := "consistory/consistorylaw20.ReportTwo", spec := "reportTwo", apart := false, narrowed := true }
def ReportTwoUptoSaid : Prop := reportTwoUptoRow.holds Try.pinned (OpenSpec.upto reportTwoSpec)

/-- 'consistorylaw20.ReportTells', WHERE WHAT IT READS IS OF BULK AT MOST 1048576: true; the input reads as it did. -/
def reportTellsUptoRow : OpenClaim := { program := "ytgonmnjgodleeaa", sum := "73a6f53b1642eee007113dda9ac4e61eab0a1bd9307820f4dc03cef713315a41", func := "consistory/consistorylaw20.ReportTells", spec := "reportTells", unfollowed := true, recurses := true, apart := false, narrowed := true }
def ReportTellsUptoSaid : Prop := reportTellsUptoRow.holds Try.pinned (OpenSpec.upto reportTellsSpec)

end Rows
end Go.Proofs.Ytgonmnjgodleeaa
