/-
  No cell of these rows narrows 'for every input' (looked for: loops, veiled, ifaces, maps, wideKeys, modest, calm, conditions, laid).
  DERIVED. THE GIVEN ROWS OF THIS SEAT. 4 by the template 'for every input the law returns true; each argument reads behind the call as it read before'; 0 by the template 'total and deterministic' (their statements: YtolepnpcnlenpaaTotals.lean).
  GIVEN WITH THE SEED: the statements are not yours to turn. If you find one false, say at which input.
  Laid BY PROGRAM, IN A SANDBOX (cutbox-rows.mjs): the forced cells as the released guide's own fill.sh prints them over the translation f9ffd41febae7109… (all of the seat's roots in one cut). By AI agents, Wed Nov 11 2026. No macro, syntax, notation, axiom, sorry.
-/
import Derived.Test.YtolepnpcnlenpaaChecked
import GoSem.Claim
import GoSem.ClaimJoined
import GoSem.ClaimMapViews
import Derived.JoinedTies
import Derived.KernelRfl
namespace Go.Proofs.Ytolepnpcnlenpaa
/- THE CELL 'sum', in the pinned program and in every row, IS THE sha256 OF THE DUMP (.gsa) THAT YtolepnpcnlenpaaProg.lean LOADS. Nothing in Lean hashes anything: it is a label: what it is worth is what the hold of that sum in a sandbox is worth. -/
noncomputable def Try.pinned : Pinned := { name := "ytolepnpcnlenpaa", sum := "f9ffd41febae7109be97b62795d097d7389d06c4a7ac673911b33a1d4e2f42e8", checked := Try.checked }
namespace Rows
def none {H : Type} : Left H := { results := [], args := [] }

/-- 'consistorylaw07.SizeLeads': WHATEVER THE INPUT: true; the input reads as it did. -/
def sizeLeadsSpec : ChangeSpec := { name := "sizeLeads", fn := fun _ => fun
  | [d1, d2] => { results := [.lit (.bool true)], args := [d1, d2] }
  | _ => none }
def sizeLeadsRow : OpenClaim := { program := "ytolepnpcnlenpaa", sum := "f9ffd41febae7109be97b62795d097d7389d06c4a7ac673911b33a1d4e2f42e8", func := "consistory/consistorylaw07.SizeLeads", spec := "sizeLeads", apart := false }
def SizeLeadsSaid : Prop := sizeLeadsRow.holds Try.pinned (OpenSpec.ofChange sizeLeadsSpec)

/-- ITS FALSE NEIGHBOUR: 'it returns false'. Refute it at one input. -/
def sizeLeadsWrong : ChangeSpec := { name := "sizeLeads", fn := fun _ => fun
  | [d1, d2] => { results := [.lit (.bool false)], args := [d1, d2] }
  | _ => none }
def SizeLeadsWrongFalsely : Prop := sizeLeadsRow.holds Try.pinned (OpenSpec.ofChange sizeLeadsWrong)

/-- 'consistorylaw07.SizeTells': WHATEVER THE INPUT: true; the input reads as it did. -/
def sizeTellsSpec : ChangeSpec := { name := "sizeTells", fn := fun _ => fun
  | [d1, d2, d3] => { results := [.lit (.bool true)], args := [d1, d2, d3] }
  | _ => none }
def sizeTellsRow : OpenClaim := { program := "ytolepnpcnlenpaa", sum := "f9ffd41febae7109be97b62795d097d7389d06c4a7ac673911b33a1d4e2f42e8", func := "consistory/consistorylaw07.SizeTells", spec := "sizeTells", apart := false }
def SizeTellsSaid : Prop := sizeTellsRow.holds Try.pinned (OpenSpec.ofChange sizeTellsSpec)

/-- ITS FALSE NEIGHBOUR: 'it returns false'. Refute it at one input. -/
def sizeTellsWrong : ChangeSpec := { name := "sizeTells", fn := fun _ => fun
  | [d1, d2, d3] => { results := [.lit (.bool false)], args := [d1, d2, d3] }
  | _ => none }
def SizeTellsWrongFalsely : Prop := sizeTellsRow.holds Try.pinned (OpenSpec.ofChange sizeTellsWrong)

/-- 'consistorylaw07.SizeMeets': WHATEVER THE INPUT: true; the input reads as it did. -/
def sizeMeetsSpec : ChangeSpec := { name := "sizeMeets", fn := fun _ => fun
  | [d1, d2, d3] => { results := [.lit (.bool true)], args := [d1, d2, d3] }
  | _ => none }
def sizeMeetsRow : OpenClaim := { program := "ytolepnpcnlenpaa", sum := "f9ffd41febae7109be97b62795d097d7389d06c4a7ac673911b33a1d4e2f42e8", func := "consistory/consistorylaw07.SizeMeets", spec := "sizeMeets", unfollowed := true, recurses := true, apart := false }
def SizeMeetsSaid : Prop := sizeMeetsRow.holds Try.pinned (OpenSpec.ofChange sizeMeetsSpec)

/-- ITS FALSE NEIGHBOUR: 'it returns false'. Refute it at one input. -/
def sizeMeetsWrong : ChangeSpec := { name := "sizeMeets", fn := fun _ => fun
  | [d1, d2, d3] => { results := [.lit (.bool false)], args := [d1, d2, d3] }
  | _ => none }
def SizeMeetsWrongFalsely : Prop := sizeMeetsRow.holds Try.pinned (OpenSpec.ofChange sizeMeetsWrong)

/-- 'consistorylaw07.SizeQuorums': WHATEVER THE INPUT: true; the input reads as it did. -/
def sizeQuorumsSpec : ChangeSpec := { name := "sizeQuorums", fn := fun _ => fun
  | [d] => { results := [.lit (.bool true)], args := [d] }
  | _ => none }
def sizeQuorumsRow : OpenClaim := { program := "ytolepnpcnlenpaa", sum := "f9ffd41febae7109be97b62795d097d7389d06c4a7ac673911b33a1d4e2f42e8", func := "consistory/consistorylaw07.SizeQuorums", spec := "sizeQuorums", unfollowed := true, recurses := true, apart := false }
def SizeQuorumsSaid : Prop := sizeQuorumsRow.holds Try.pinned (OpenSpec.ofChange sizeQuorumsSpec)

/-- ITS FALSE NEIGHBOUR: 'it returns false'. Refute it at one input. -/
def sizeQuorumsWrong : ChangeSpec := { name := "sizeQuorums", fn := fun _ => fun
  | [d] => { results := [.lit (.bool false)], args := [d] }
  | _ => none }
def SizeQuorumsWrongFalsely : Prop := sizeQuorumsRow.holds Try.pinned (OpenSpec.ofChange sizeQuorumsWrong)

/- THE SECOND FORM. 'bulk': how many values and letters a reading holds, each counted each time it is reached (what is shared counts as often as it is met; a slice's spare places count too). A statement '..UptoSaid' is the law's where the arguments, and the package variables that the reading takes, are together of bulk at most 1048576: NARROWER than '..Said'. Prove '..Said' where nothing that the law and all that it calls make is longer than what came in: it says more and counts as full. Else prove '..UptoSaid'. A law counts once. -/
mutual
def uptoBulk {H : Type} : DataW H → Nat
  | .lit (.string bytes) => bytes.length + 1
  | .lit _ => 1
  | .nil => 1
  | .ptr d => uptoBulk d + 1
  | .slice elems spare => uptoBulkAll elems + uptoBulkAll spare + 1
  | .agg parts => uptoBulkAll parts + 1
  | .iface _ d => uptoBulk d + 1
  | .map entries => uptoBulkEntries entries + 1
  | .held _ => 1
def uptoBulkAll {H : Type} : List (DataW H) → Nat
  | [] => 0
  | d :: r => uptoBulk d + uptoBulkAll r
def uptoBulkEntries {H : Type} : List (Lit × DataW H) → Nat
  | [] => 0
  | x :: r => uptoBulkEntry x + uptoBulkEntries r
def uptoBulkEntry {H : Type} : Lit × DataW H → Nat
  | (.string bytes, d) => bytes.length + uptoBulk d + 1
  | (_, d) => uptoBulk d + 1
 end
def uptoSmall : (H : Type) → List (DataW H) → Bool := fun _ ds => decide (uptoBulkAll ds ≤ 1048576)
def OpenSpec.upto (s : _root_.Go.ChangeSpec) : _root_.Go.OpenSpec := { _root_.Go.OpenSpec.ofChange s with cond := some uptoSmall }

/-- 'consistorylaw07.SizeLeads', WHERE WHAT IT READS IS OF BULK AT MOST 1048576: true; the input reads as it did. -/
def sizeLeadsUptoRow : OpenClaim := { program := "ytolepnpcnlenpaa", sum := "f9ffd41febae7109be97b62795d097d7389d06c4a7ac673911b33a1d4e2f42e8", func := "consistory/consistorylaw07.SizeLeads", spec := "sizeLeads", apart := false, narrowed := true }
def SizeLeadsUptoSaid : Prop := sizeLeadsUptoRow.holds Try.pinned (OpenSpec.upto sizeLeadsSpec)

/-- 'consistorylaw07.SizeTells', WHERE WHAT IT READS IS OF BULK AT MOST 1048576: true; the input reads as it did. -/
def sizeTellsUptoRow : OpenClaim := { program := "ytolepnpcnlenpaa", sum := "f9ffd41febae7109be97b62795d097d7389d06c4a7ac673911b33a1d4e2f42e8", func := "consistory/consistorylaw07.SizeTells", spec := "sizeTells", apart := false, narrowed := true }
def SizeTellsUptoSaid : Prop := sizeTellsUptoRow.holds Try.pinned (OpenSpec.upto sizeTellsSpec)

/-- 'consistorylaw07.SizeMeets', WHERE WHAT IT READS IS OF BULK AT MOST 1048576: true; the input reads as it did. -/
def sizeMeetsUptoRow : OpenClaim := { program := "ytolepnpcnlenpaa", sum := "f9ffd41febae7109be97b62795d097d7389d06c4a7ac673911b33a1d4e2f42e8", func := "consistory/consistorylaw07.SizeMeets", spec := "sizeMeets", unfollowed := true, recurses := true, apart := false, narrowed := true }
def SizeMeetsUptoSaid : Prop := sizeMeetsUptoRow.holds Try.pinned (OpenSpec.upto sizeMeetsSpec)

/-- 'consistorylaw07.SizeQuorums', WHERE WHAT IT READS IS OF BULK AT MOST 1048576: true; the input reads as it did. -/
def sizeQuorumsUptoRow : OpenClaim := { program := "ytolepnpcnlenpaa", sum := "f9ffd41febae7109be97b62795d097d7389d06c4a7ac673911b33a1d4e2f42e8", func := "consistory/consistorylaw07.SizeQuorums", spec := "sizeQuorums", unfollowed := true, recurses := true, apart := false, narrowed := true }
def SizeQuorumsUptoSaid : Prop := sizeQuorumsUptoRow.holds Try.pinned (OpenSpec.upto sizeQuorumsSpec)

end Rows
end Go.Proofs.Ytolepnpcnlenpaa
