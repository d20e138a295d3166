/-
  DERIVED. GIVEN WITH THE SEED: THE CARDS: each row of YtojhjaohaafeaaaGreatDoorRows.lean that lists a variable, with what it lists TIED to the program's text (the seventh form; the later family's looks); each row that meets fmt, with fmt's text TOLD by the authors' own Lean function (tested against real Go, not proved from fmt's source: count such statements apart). THE CARD IS WHAT COUNTS. Prove the row's statement (the work); the ties are given (YtojhjaohaafeaaaGreatDoorTie.lean); close each card by the builder's one call (the guide's Derived/Test/ToyasCard.lean, 'card_holds'). Laid BY PROGRAM, IN A SANDBOX (cutbox-door.mjs). By AI agents, Wed Nov 11 2026. No macro, syntax, notation, axiom, sorry.
-/
import Derived.Test.YtojhjaohaafeaaaGreatDoorRows
import GoSem.ClaimSeven
namespace Go.Proofs.YtojhjaohaafeaaaGreatDoor
namespace Rows

/-- THE TIED CARD OF 'consistorytop.TopFast'. -/
def topFastCard : Claim7 := { stood := { row := topFastRow, standIns := [], harness := (true, "26077c05e2579cd417adc6f2e983b72c4ee774a9683f91f89462402780ad2ab7"), looks := false }, kinds := [], alts := [], laidByText := true, laidKinds := [.data, .pinned], laidTests := true, laidLooks := .later }
def TopFastCardSaid : Prop := Claim7.holds Tryz.pinned (.plain (OpenSpec.ofChange topFastSpec)) topFastCard

/-- THE TIED CARD OF 'consistorytop.TopKept'. -/
def topKeptCard : Claim7 := { stood := { row := topKeptRow, standIns := [], harness := (true, "26077c05e2579cd417adc6f2e983b72c4ee774a9683f91f89462402780ad2ab7"), looks := false }, kinds := [], alts := [], laidByText := true, laidKinds := [.data, .pinned], laidTests := true, laidLooks := .later }
def TopKeptCardSaid : Prop := Claim7.holds Tryz.pinned (.plain (OpenSpec.ofChange topKeptSpec)) topKeptCard

/-- THE SECOND FORM's CARD OF 'consistorytop.TopFast'. -/
def topFastUptoCard : Claim7 := { stood := { row := topFastUptoRow, standIns := [], harness := (true, "26077c05e2579cd417adc6f2e983b72c4ee774a9683f91f89462402780ad2ab7"), looks := false }, kinds := [], alts := [], laidByText := true, laidKinds := [.data, .pinned], laidTests := true, laidLooks := .later }
def TopFastUptoCardSaid : Prop := Claim7.holds Tryz.pinned (.plain (OpenSpec.upto topFastSpec)) topFastUptoCard

/-- THE SECOND FORM's CARD OF 'consistorytop.TopKept'. -/
def topKeptUptoCard : Claim7 := { stood := { row := topKeptUptoRow, standIns := [], harness := (true, "26077c05e2579cd417adc6f2e983b72c4ee774a9683f91f89462402780ad2ab7"), looks := false }, kinds := [], alts := [], laidByText := true, laidKinds := [.data, .pinned], laidTests := true, laidLooks := .later }
def TopKeptUptoCardSaid : Prop := Claim7.holds Tryz.pinned (.plain (OpenSpec.upto topKeptSpec)) topKeptUptoCard
end Rows
end Go.Proofs.YtojhjaohaafeaaaGreatDoor
