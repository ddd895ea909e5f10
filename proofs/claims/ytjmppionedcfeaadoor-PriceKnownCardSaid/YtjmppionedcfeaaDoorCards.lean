/-
  DERIVED. GIVEN WITH THE SEED: THE CARDS: each row of YtjmppionedcfeaaDoorRows.lean that lists a variable, with what it lists TIED to the program's text (the seventh form; the later family's looks); each row that meets fmt, with fmt's text TOLD by the authors' own Lean function (tested against real Go, not proved from fmt's source: count such statements apart). THE CARD IS WHAT COUNTS. Prove the row's statement (the work); the ties are given (YtjmppionedcfeaaDoorTie.lean); close each card by the builder's one call (the guide's Derived/Test/ToyasCard.lean, 'card_holds'). Laid BY PROGRAM, IN A SANDBOX (cutbox-door.mjs). By AI agents, Wed Nov 11 2026. No macro, syntax, notation, axiom, sorry.
-/
import Derived.Test.YtjmppionedcfeaaDoorRows
import GoSem.ClaimSeven
namespace Go.Proofs.YtjmppionedcfeaaDoor
namespace Rows

/-- THE TIED CARD OF 'shambleslaw08.PriceKnown'. -/
def priceKnownCard : Claim7 := { stood := { row := priceKnownRow, standIns := [], harness := (true, "081a7d14e05e1d68521464a8a1a0056467b3f35524b4ad93324f273771af691a"), looks := false }, kinds := [], alts := [], laidByText := true, laidKinds := [.data, .data, .data], laidTests := true, laidLooks := .later }
def PriceKnownCardSaid : Prop := Claim7.holds Tryd.pinned (.plain (OpenSpec.ofChange priceKnownSpec)) priceKnownCard

/-- THE SECOND FORM's CARD OF 'shambleslaw08.PriceKnown'. -/
def priceKnownUptoCard : Claim7 := { stood := { row := priceKnownUptoRow, standIns := [], harness := (true, "081a7d14e05e1d68521464a8a1a0056467b3f35524b4ad93324f273771af691a"), looks := false }, kinds := [], alts := [], laidByText := true, laidKinds := [.data, .data, .data], laidTests := true, laidLooks := .later }
def PriceKnownUptoCardSaid : Prop := Claim7.holds Tryd.pinned (.plain (OpenSpec.upto priceKnownSpec)) priceKnownUptoCard
end Rows
end Go.Proofs.YtjmppionedcfeaaDoor
