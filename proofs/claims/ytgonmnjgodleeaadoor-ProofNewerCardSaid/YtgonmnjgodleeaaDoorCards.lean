/-
  DERIVED. GIVEN WITH THE SEED: THE CARDS: each row of YtgonmnjgodleeaaDoorRows.lean that lists a variable, with what it lists TIED to the program's text (the seventh form; the later family's looks); each row that meets fmt, with fmt's text TOLD by the authors' own Lean function (tested against real Go, not proved from fmt's source: count such statements apart). THE CARD IS WHAT COUNTS. Prove the row's statement (the work); the ties are given (YtgonmnjgodleeaaDoorTie.lean); close each card by the builder's one call (the guide's Derived/Test/ToyasCard.lean, 'card_holds'). Laid BY PROGRAM, IN A SANDBOX (cutbox-door.mjs). By AI agents, Wed Nov 11 2026. No macro, syntax, notation, axiom, sorry.
-/
import Derived.Test.YtgonmnjgodleeaaDoorRows
import GoSem.ClaimSeven
namespace Go.Proofs.YtgonmnjgodleeaaDoor
namespace Rows

/-- THE TIED CARD OF 'consistorylaw19.ProofMakes'. -/
def proofMakesCard : Claim7 := { stood := { row := proofMakesRow, standIns := [], harness := (true, "0067dbc15855c1f45b1187766e1fd1e32102821f2cea1fe93f8337c431212b9b"), looks := false }, kinds := [], alts := [], laidByText := true, laidKinds := [.data, .data, .data], laidTests := true, laidLooks := .later }
def ProofMakesCardSaid : Prop := Claim7.holds Tryd.pinned (.plain (OpenSpec.ofChange proofMakesSpec)) proofMakesCard

/-- THE TIED CARD OF 'consistorylaw19.ProofOne'. -/
def proofOneCard : Claim7 := { stood := { row := proofOneRow, standIns := [], harness := (true, "0067dbc15855c1f45b1187766e1fd1e32102821f2cea1fe93f8337c431212b9b"), looks := false }, kinds := [], alts := [], laidByText := true, laidKinds := [.data, .data, .data], laidTests := true, laidLooks := .later }
def ProofOneCardSaid : Prop := Claim7.holds Tryd.pinned (.plain (OpenSpec.ofChange proofOneSpec)) proofOneCard

/-- THE TIED CARD OF 'consistorylaw19.ProofNewer'. -/
def proofNewerCard : Claim7 := { stood := { row := proofNewerRow, standIns := [], harness := (true, "0067dbc15855c1f45b1187766e1fd1e32102821f2cea1fe93f8337c431212b9b"), looks := false }, kinds := [], alts := [], laidByText := true, laidKinds := [.data, .data, .data], laidTests := true, laidLooks := .later }
def ProofNewerCardSaid : Prop := Claim7.holds Tryd.pinned (.plain (OpenSpec.ofChange proofNewerSpec)) proofNewerCard

/-- THE SECOND FORM's CARD OF 'consistorylaw19.ProofMakes'. -/
def proofMakesUptoCard : Claim7 := { stood := { row := proofMakesUptoRow, standIns := [], harness := (true, "0067dbc15855c1f45b1187766e1fd1e32102821f2cea1fe93f8337c431212b9b"), looks := false }, kinds := [], alts := [], laidByText := true, laidKinds := [.data, .data, .data], laidTests := true, laidLooks := .later }
def ProofMakesUptoCardSaid : Prop := Claim7.holds Tryd.pinned (.plain (OpenSpec.upto proofMakesSpec)) proofMakesUptoCard

/-- THE SECOND FORM's CARD OF 'consistorylaw19.ProofOne'. -/
def proofOneUptoCard : Claim7 := { stood := { row := proofOneUptoRow, standIns := [], harness := (true, "0067dbc15855c1f45b1187766e1fd1e32102821f2cea1fe93f8337c431212b9b"), looks := false }, kinds := [], alts := [], laidByText := true, laidKinds := [.data, .data, .data], laidTests := true, laidLooks := .later }
def ProofOneUptoCardSaid : Prop := Claim7.holds Tryd.pinned (.plain (OpenSpec.upto proofOneSpec)) proofOneUptoCard

/-- THE SECOND FORM's CARD OF 'consistorylaw19.ProofNewer'. -/
def proofNewerUptoCard : Claim7 := { stood := { row := proofNewerUptoRow, standIns := [], harness := (true, "0067dbc15855c1f45b1187766e1fd1e32102821f2cea1fe93f8337c431212b9b"), looks := false }, kinds := [], alts := [], laidByText := true, laidKinds := [.data, .data, .data], laidTests := true, laidLooks := .later }
def ProofNewerUptoCardSaid : Prop := Claim7.holds Tryd.pinned (.plain (OpenSpec.upto proofNewerSpec)) proofNewerUptoCard
end Rows
end Go.Proofs.YtgonmnjgodleeaaDoor
