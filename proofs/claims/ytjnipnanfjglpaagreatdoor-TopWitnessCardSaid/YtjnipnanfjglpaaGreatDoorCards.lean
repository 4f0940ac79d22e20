/-
  DERIVED. GIVEN WITH THE SEED: THE CARDS: each row of YtjnipnanfjglpaaGreatDoorRows.lean that lists a variable, with what it lists TIED to the program's text (the seventh form; the later family's looks); each row that meets fmt, with fmt's text TOLD by the authors' own Lean function (tested against real Go, not proved from fmt's source: count such statements apart). THE CARD IS WHAT COUNTS. Prove the row's statement (the work); the ties are given (YtjnipnanfjglpaaGreatDoorTie.lean); close each card by the builder's one call (the guide's Derived/Test/ToyasCard.lean, 'card_holds'). Laid BY PROGRAM, IN A SANDBOX (cutbox-door.mjs). By AI agents, Wed Nov 11 2026. No macro, syntax, notation, axiom, sorry.
-/
import Derived.Test.YtjnipnanfjglpaaGreatDoorRows
import GoSem.ClaimSeven
namespace Go.Proofs.YtjnipnanfjglpaaGreatDoor
namespace Rows

/-- THE TIED CARD OF 'hairpintop.TopWitness'. -/
def topWitnessCard : Claim7 := { stood := { row := topWitnessRow, standIns := [], harness := (true, "2e83d532b62020e998a10835b6c708691b7bd98ead78592fddf06b4650bbada8"), looks := true }, kinds := [], alts := [], laidByText := true, laidKinds := [.data, .data, .data, .sentinel, .sentinel], laidTests := true, laidLooks := .later }
def TopWitnessCardSaid : Prop := Claim7.holds Tryz.pinned (.plain (OpenSpec.ofChange topWitnessSpec)) topWitnessCard

/-- THE TIED CARD OF 'hairpintop.TopWatched'. -/
def topWatchedCard : Claim7 := { stood := { row := topWatchedRow, standIns := [], harness := (true, "2e83d532b62020e998a10835b6c708691b7bd98ead78592fddf06b4650bbada8"), looks := true }, kinds := [], alts := [], laidByText := true, laidKinds := [.data, .data, .data, .sentinel, .sentinel], laidTests := true, laidLooks := .later }
def TopWatchedCardSaid : Prop := Claim7.holds Tryz.pinned (.plain (OpenSpec.ofChange topWatchedSpec)) topWatchedCard

/-- THE SECOND FORM's CARD OF 'hairpintop.TopWitness'. -/
def topWitnessUptoCard : Claim7 := { stood := { row := topWitnessUptoRow, standIns := [], harness := (true, "2e83d532b62020e998a10835b6c708691b7bd98ead78592fddf06b4650bbada8"), looks := true }, kinds := [], alts := [], laidByText := true, laidKinds := [.data, .data, .data, .sentinel, .sentinel], laidTests := true, laidLooks := .later }
def TopWitnessUptoCardSaid : Prop := Claim7.holds Tryz.pinned (.plain (OpenSpec.upto topWitnessSpec)) topWitnessUptoCard

/-- THE SECOND FORM's CARD OF 'hairpintop.TopWatched'. -/
def topWatchedUptoCard : Claim7 := { stood := { row := topWatchedUptoRow, standIns := [], harness := (true, "2e83d532b62020e998a10835b6c708691b7bd98ead78592fddf06b4650bbada8"), looks := true }, kinds := [], alts := [], laidByText := true, laidKinds := [.data, .data, .data, .sentinel, .sentinel], laidTests := true, laidLooks := .later }
def TopWatchedUptoCardSaid : Prop := Claim7.holds Tryz.pinned (.plain (OpenSpec.upto topWatchedSpec)) topWatchedUptoCard
end Rows
end Go.Proofs.YtjnipnanfjglpaaGreatDoor
