/-
  DERIVED. GIVEN WITH THE SEED: THE CARDS: each row of YtkphgdkjjklajaaGreatDoorRows.lean that lists a variable, with what it lists TIED to the program's text (the seventh form; the later family's looks); each row that meets fmt, with fmt's text TOLD by the authors' own Lean function (tested against real Go, not proved from fmt's source: count such statements apart). THE CARD IS WHAT COUNTS. Prove the row's statement (the work); the ties are given (YtkphgdkjjklajaaGreatDoorTie.lean); close each card by the builder's one call (the guide's Derived/Test/ToyasCard.lean, 'card_holds'). Laid BY PROGRAM, IN A SANDBOX (cutbox-door.mjs). By AI agents, Wed Nov 11 2026. No macro, syntax, notation, axiom, sorry.
-/
import Derived.Test.YtkphgdkjjklajaaGreatDoorRows
import GoSem.ClaimSeven
namespace Go.Proofs.YtkphgdkjjklajaaGreatDoor
namespace Rows

/-- THE TIED CARD OF 'shambleslaw05.TraceTrails'. -/
def traceTrailsCard : Claim7 := { stood := { row := traceTrailsRow, standIns := [], harness := (true, "d63b6f694e4e6098d78cb3805cb86028d3a5a537c3014c6059b39bd21667fa82"), looks := true }, kinds := [], alts := [], laidByText := true, laidKinds := [.data, .data, .data, .data, .sentinel, .sentinel, .pinned], laidTests := true, laidLooks := .later }
def TraceTrailsCardSaid : Prop := Claim7.holds Tryz.pinned (.plain (OpenSpec.ofChange traceTrailsSpec)) traceTrailsCard

/-- THE TIED CARD OF 'shambleslaw05.TraceTape'. -/
def traceTapeCard : Claim7 := { stood := { row := traceTapeRow, standIns := [], harness := (true, "d63b6f694e4e6098d78cb3805cb86028d3a5a537c3014c6059b39bd21667fa82"), looks := true }, kinds := [], alts := [], laidByText := true, laidKinds := [.data, .data, .data, .data, .sentinel, .sentinel, .pinned], laidTests := true, laidLooks := .later }
def TraceTapeCardSaid : Prop := Claim7.holds Tryz.pinned (.plain (OpenSpec.ofChange traceTapeSpec)) traceTapeCard

/-- THE SECOND FORM's CARD OF 'shambleslaw05.TraceTrails'. -/
def traceTrailsUptoCard : Claim7 := { stood := { row := traceTrailsUptoRow, standIns := [], harness := (true, "d63b6f694e4e6098d78cb3805cb86028d3a5a537c3014c6059b39bd21667fa82"), looks := true }, kinds := [], alts := [], laidByText := true, laidKinds := [.data, .data, .data, .data, .sentinel, .sentinel, .pinned], laidTests := true, laidLooks := .later }
def TraceTrailsUptoCardSaid : Prop := Claim7.holds Tryz.pinned (.plain (OpenSpec.upto traceTrailsSpec)) traceTrailsUptoCard

/-- THE SECOND FORM's CARD OF 'shambleslaw05.TraceTape'. -/
def traceTapeUptoCard : Claim7 := { stood := { row := traceTapeUptoRow, standIns := [], harness := (true, "d63b6f694e4e6098d78cb3805cb86028d3a5a537c3014c6059b39bd21667fa82"), looks := true }, kinds := [], alts := [], laidByText := true, laidKinds := [.data, .data, .data, .data, .sentinel, .sentinel, .pinned], laidTests := true, laidLooks := .later }
def TraceTapeUptoCardSaid : Prop := Claim7.holds Tryz.pinned (.plain (OpenSpec.upto traceTapeSpec)) traceTapeUptoCard
end Rows
end Go.Proofs.YtkphgdkjjklajaaGreatDoor
