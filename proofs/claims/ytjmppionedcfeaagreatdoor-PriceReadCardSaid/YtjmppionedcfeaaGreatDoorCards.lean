/-
  DERIVED. GIVEN WITH THE SEED: THE CARDS: each row of YtjmppionedcfeaaGreatDoorRows.lean that lists a variable, with what it lists TIED to the program's text (the seventh form; the later family's looks); each row that meets fmt, with fmt's text TOLD by the authors' own Lean function (tested against real Go, not proved from fmt's source: count such statements apart). THE CARD IS WHAT COUNTS. Prove the row's statement (the work); the ties are given (YtjmppionedcfeaaGreatDoorTie.lean); close each card by the builder's one call (the guide's Derived/Test/ToyasCard.lean, 'card_holds'). Laid BY PROGRAM, IN A SANDBOX (cutbox-door.mjs). By AI agents, Wed Nov 11 2026. No macro, syntax, notation, axiom, sorry.
-/
import Derived.Test.YtjmppionedcfeaaGreatDoorRows
import GoSem.ClaimSeven
namespace Go.Proofs.YtjmppionedcfeaaGreatDoor
namespace Rows

/-- THE TIED CARD OF 'shambleslaw08.PriceAccounts'. -/
def priceAccountsCard : Claim7 := { stood := { row := priceAccountsRow, standIns := [], harness := (true, "3a92ef18de260c3ab1ef4401dd5a2c69c83d4e72c7783593cf66aac8ec1b0559"), looks := true }, kinds := [], alts := [], laidByText := true, laidKinds := [.data, .data, .data, .data, .sentinel, .sentinel, .pinned], laidTests := true, laidLooks := .later }
def PriceAccountsCardSaid : Prop := Claim7.holds Tryz.pinned (.plain (OpenSpec.ofChange priceAccountsSpec)) priceAccountsCard

/-- THE TIED CARD OF 'shambleslaw08.PriceRead'. -/
def priceReadCard : Claim7 := { stood := { row := priceReadRow, standIns := [], harness := (true, "3a92ef18de260c3ab1ef4401dd5a2c69c83d4e72c7783593cf66aac8ec1b0559"), looks := true }, kinds := [], alts := [], laidByText := true, laidKinds := [.data, .data, .data, .data, .sentinel, .sentinel, .pinned], laidTests := true, laidLooks := .later }
def PriceReadCardSaid : Prop := Claim7.holds Tryz.pinned (.plain (OpenSpec.ofChange priceReadSpec)) priceReadCard

/-- THE SECOND FORM's CARD OF 'shambleslaw08.PriceAccounts'. -/
def priceAccountsUptoCard : Claim7 := { stood := { row := priceAccountsUptoRow, standIns := [], harness := (true, "3a92ef18de260c3ab1ef4401dd5a2c69c83d4e72c7783593cf66aac8ec1b0559"), looks := true }, kinds := [], alts := [], laidByText := true, laidKinds := [.data, .data, .data, .data, .sentinel, .sentinel, .pinned], laidTests := true, laidLooks := .later }
def PriceAccountsUptoCardSaid : Prop := Claim7.holds Tryz.pinned (.plain (OpenSpec.upto priceAccountsSpec)) priceAccountsUptoCard

/-- THE SECOND FORM's CARD OF 'shambleslaw08.PriceRead'. -/
def priceReadUptoCard : Claim7 := { stood := { row := priceReadUptoRow, standIns := [], harness := (true, "3a92ef18de260c3ab1ef4401dd5a2c69c83d4e72c7783593cf66aac8ec1b0559"), looks := true }, kinds := [], alts := [], laidByText := true, laidKinds := [.data, .data, .data, .data, .sentinel, .sentinel, .pinned], laidTests := true, laidLooks := .later }
def PriceReadUptoCardSaid : Prop := Claim7.holds Tryz.pinned (.plain (OpenSpec.upto priceReadSpec)) priceReadUptoCard
end Rows
end Go.Proofs.YtjmppionedcfeaaGreatDoor
