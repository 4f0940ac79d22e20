/-
  DERIVED. GIVEN WITH THE SEED: THE CARDS: each row of YtcofohnmkmknbaaGreatDoorRows.lean that lists a variable, with what it lists TIED to the program's text (the seventh form; the later family's looks); each row that meets fmt, with fmt's text TOLD by the authors' own Lean function (tested against real Go, not proved from fmt's source: count such statements apart). THE CARD IS WHAT COUNTS. Prove the row's statement (the work); the ties are given (YtcofohnmkmknbaaGreatDoorTie.lean); close each card by the builder's one call (the guide's Derived/Test/ToyasCard.lean, 'card_holds'). Laid BY PROGRAM, IN A SANDBOX (cutbox-door.mjs). By AI agents, Wed Nov 11 2026. No macro, syntax, notation, axiom, sorry.
-/
import Derived.Test.YtcofohnmkmknbaaGreatDoorRows
import GoSem.ClaimSeven
namespace Go.Proofs.YtcofohnmkmknbaaGreatDoor
namespace Rows

/-- THE TIED CARD OF 'hairpinlaw10.RallyChecks'. -/
def rallyChecksCard : Claim7 := { stood := { row := rallyChecksRow, standIns := [], harness := (true, "6b43156e9a6fb4ba2a01e13c0e9fcc7b4a7400f5065c1a18fc610f8f07ebcfb0"), looks := true }, kinds := [], alts := [], laidByText := true, laidKinds := [.data, .data, .data, .data, .sentinel, .sentinel, .pinned], laidTests := true, laidLooks := .later }
def RallyChecksCardSaid : Prop := Claim7.holds Tryz.pinned (.plain (OpenSpec.ofChange rallyChecksSpec)) rallyChecksCard

/-- THE SECOND FORM's CARD OF 'hairpinlaw10.RallyChecks'. -/
def rallyChecksUptoCard : Claim7 := { stood := { row := rallyChecksUptoRow, standIns := [], harness := (true, "6b43156e9a6fb4ba2a01e13c0e9fcc7b4a7400f5065c1a18fc610f8f07ebcfb0"), looks := true }, kinds := [], alts := [], laidByText := true, laidKinds := [.data, .data, .data, .data, .sentinel, .sentinel, .pinned], laidTests := true, laidLooks := .later }
def RallyChecksUptoCardSaid : Prop := Claim7.holds Tryz.pinned (.plain (OpenSpec.upto rallyChecksSpec)) rallyChecksUptoCard
end Rows
end Go.Proofs.YtcofohnmkmknbaaGreatDoor
