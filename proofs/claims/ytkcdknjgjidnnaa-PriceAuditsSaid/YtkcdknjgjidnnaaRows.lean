/-
  No cell of these rows narrows 'for every input' (looked for: loops, veiled, ifaces, maps, wideKeys, modest, calm, conditions, laid).
  DERIVED. THE GIVEN ROWS OF THIS SEAT. 11 by the template 'for every input the law returns true; each argument reads behind the call as it read before'; 0 by the template 'total and deterministic' (their statements: YtkcdknjgjidnnaaTotals.lean).
  GIVEN WITH THE SEED: the statements are not yours to turn. If you find one false, say at which input.
  Laid BY PROGRAM, IN A SANDBOX (cutbox-rows.mjs): the forced cells as the released guide's own fill.sh prints them over the translation 9c34e43cfd4f953c… (all of the seat's roots in one cut). By AI agents, Wed Nov 11 2026. No macro, syntax, notation, axiom, sorry.
-/
import Derived.Test.YtkcdknjgjidnnaaChecked
import GoSem.Claim
import GoSem.ClaimJoined
import GoSem.ClaimMapViews
import Derived.JoinedTies
import Derived.KernelRfl
namespace Go.Proofs.Ytkcdknjgjidnnaa
/- THE CELL 'sum', in the pinned program and in every row, IS THE sha256 OF THE DUMP (.gsa) THAT YtkcdknjgjidnnaaProg.lean LOADS. Nothing in Lean hashes anything: it is a label: what it is worth is what the hold of that sum in a sandbox is worth. -/
noncomputable def Try.pinned : Pinned := { name := "ytkcdknjgjidnnaa", sum := "9c34e43cfd4f953c0f03762b179629fb40bec60129f272007cb3935557735e0e", checked := Try.checked }
namespace Rows
def none {H : Type} : Left H := { results := [], args := [] }

/-- 'shambleslaw08.PriceMakes': WHATEVER THE INPUT: true; the input reads as it did. -/
def priceMakesSpec : ChangeSpec := { name := "priceMakes", fn := fun _ => fun
  | [d1, d2, d3, d4, d5] => { results := [.lit (.bool true)], args := [d1, d2, d3, d4, d5] }
  | _ => none }
def priceMakesRow : OpenClaim := { program := "ytkcdknjgjidnnaa", sum := "9c34e43cfd4f953c0f03762b179629fb40bec60129f272007cb3935557735e0e", func := "shambles/shambleslaw08.PriceMakes", spec := "priceMakes", unfollowed := true, recurses := true, apart := false }
def PriceMakesSaid : Prop := priceMakesRow.holds Try.pinned (OpenSpec.ofChange priceMakesSpec)

/-- ITS FALSE NEIGHBOUR: 'it returns false'. Refute it at one input. -/
def priceMakesWrong : ChangeSpec := { name := "priceMakes", fn := fun _ => fun
  | [d1, d2, d3, d4, d5] => { results := [.lit (.bool false)], args := [d1, d2, d3, d4, d5] }
  | _ => none }
def PriceMakesWrongFalsely : Prop := priceMakesRow.holds Try.pinned (OpenSpec.ofChange priceMakesWrong)

/-- 'shambleslaw08.PriceSealed': WHATEVER THE INPUT: true; the input reads as it did. -/
def priceSealedSpec : ChangeSpec := { name := "priceSealed", fn := fun _ => fun
  | [d] => { results := [.lit (.bool true)], args := [d] }
  | _ => none }
def priceSealedRow : OpenClaim := { program := "ytkcdknjgjidnnaa", sum := "9c34e43cfd4f953c0f03762b179629fb40bec60129f272007cb3935557735e0e", func := "shambles/shambleslaw08.PriceSealed", spec := "priceSealed", unfollowed := true, recurses := true, apart := false }
def PriceSealedSaid : Prop := priceSealedRow.holds Try.pinned (OpenSpec.ofChange priceSealedSpec)

/-- ITS FALSE NEIGHBOUR: 'it returns false'. Refute it at one input. -/
def priceSealedWrong : ChangeSpec := { name := "priceSealed", fn := fun _ => fun
  | [d] => { results := [.lit (.bool false)], args := [d] }
  | _ => none }
def PriceSealedWrongFalsely : Prop := priceSealedRow.holds Try.pinned (OpenSpec.ofChange priceSealedWrong)

/-- 'shambleslaw08.PriceDues': WHATEVER THE INPUT: true; the input reads as it did. -/
def priceDuesSpec : ChangeSpec := { name := "priceDues", fn := fun _ => fun
  | [d1, d2, d3, d4, d5, d6] => { results := [.lit (.bool true)], args := [d1, d2, d3, d4, d5, d6] }
  | _ => none }
def priceDuesRow : OpenClaim := { program := "ytkcdknjgjidnnaa", sum := "9c34e43cfd4f953c0f03762b179629fb40bec60129f272007cb3935557735e0e", func := "shambles/shambleslaw08.PriceDues", spec := "priceDues", unfollowed := true, recurses := true, apart := false }
def PriceDuesSaid : Prop := priceDuesRow.holds Try.pinned (OpenSpec.ofChange priceDuesSpec)

/-- ITS FALSE NEIGHBOUR: 'it returns false'. Refute it at one input. -/
def priceDuesWrong : ChangeSpec := { name := "priceDues", fn := fun _ => fun
  | [d1, d2, d3, d4, d5, d6] => { results := [.lit (.bool false)], args := [d1, d2, d3, d4, d5, d6] }
  | _ => none }
def PriceDuesWrongFalsely : Prop := priceDuesRow.holds Try.pinned (OpenSpec.ofChange priceDuesWrong)

/-- 'shambleslaw08.PriceTrue': WHATEVER THE INPUT: true; the input reads as it did. -/
def priceTrueSpec : ChangeSpec := { name := "priceTrue", fn := fun _ => fun
  | [d] => { results := [.lit (.bool true)], args := [d] }
  | _ => none }
def priceTrueRow : OpenClaim := { program := "ytkcdknjgjidnnaa", sum := "9c34e43cfd4f953c0f03762b179629fb40bec60129f272007cb3935557735e0e", func := "shambles/shambleslaw08.PriceTrue", spec := "priceTrue", unfollowed := true, recurses := true, apart := false }
def PriceTrueSaid : Prop := priceTrueRow.holds Try.pinned (OpenSpec.ofChange priceTrueSpec)

/-- ITS FALSE NEIGHBOUR: 'it returns false'. Refute it at one input. -/
def priceTrueWrong : ChangeSpec := { name := "priceTrue", fn := fun _ => fun
  | [d] => { results := [.lit (.bool false)], args := [d] }
  | _ => none }
def PriceTrueWrongFalsely : Prop := priceTrueRow.holds Try.pinned (OpenSpec.ofChange priceTrueWrong)

/-- 'shambleslaw08.PriceEnds': WHATEVER THE INPUT: true; the input reads as it did. -/
def priceEndsSpec : ChangeSpec := { name := "priceEnds", fn := fun _ => fun
  | [d] => { results := [.lit (.bool true)], args := [d] }
  | _ => none }
def priceEndsRow : OpenClaim := { program := "ytkcdknjgjidnnaa", sum := "9c34e43cfd4f953c0f03762b179629fb40bec60129f272007cb3935557735e0e", func := "shambles/shambleslaw08.PriceEnds", spec := "priceEnds", unfollowed := true, recurses := true, apart := false }
def PriceEndsSaid : Prop := priceEndsRow.holds Try.pinned (OpenSpec.ofChange priceEndsSpec)

/-- ITS FALSE NEIGHBOUR: 'it returns false'. Refute it at one input. -/
def priceEndsWrong : ChangeSpec := { name := "priceEnds", fn := fun _ => fun
  | [d] => { results := [.lit (.bool false)], args := [d] }
  | _ => none }
def PriceEndsWrongFalsely : Prop := priceEndsRow.holds Try.pinned (OpenSpec.ofChange priceEndsWrong)

/-- 'shambleslaw08.PriceOrder': WHATEVER THE INPUT: true; the input reads as it did. -/
def priceOrderSpec : ChangeSpec := { name := "priceOrder", fn := fun _ => fun
  | [d] => { results := [.lit (.bool true)], args := [d] }
  | _ => none }
def priceOrderRow : OpenClaim := { program := "ytkcdknjgjidnnaa", sum := "9c34e43cfd4f953c0f03762b179629fb40bec60129f272007cb3935557735e0e", func := "shambles/shambleslaw08.PriceOrder", spec := "priceOrder", unfollowed := true, recurses := true, apart := false }
def PriceOrderSaid : Prop := priceOrderRow.holds Try.pinned (OpenSpec.ofChange priceOrderSpec)

/-- ITS FALSE NEIGHBOUR: 'it returns false'. Refute it at one input. -/
def priceOrderWrong : ChangeSpec := { name := "priceOrder", fn := fun _ => fun
  | [d] => { results := [.lit (.bool false)], args := [d] }
  | _ => none }
def PriceOrderWrongFalsely : Prop := priceOrderRow.holds Try.pinned (OpenSpec.ofChange priceOrderWrong)

/-- 'shambleslaw08.PriceAdds': WHATEVER THE INPUT: true; the input reads as it did. -/
def priceAddsSpec : ChangeSpec := { name := "priceAdds", fn := fun _ => fun
  | [d] => { results := [.lit (.bool true)], args := [d] }
  | _ => none }
def priceAddsRow : OpenClaim := { program := "ytkcdknjgjidnnaa", sum := "9c34e43cfd4f953c0f03762b179629fb40bec60129f272007cb3935557735e0e", func := "shambles/shambleslaw08.PriceAdds", spec := "priceAdds", unfollowed := true, recurses := true, apart := false }
def PriceAddsSaid : Prop := priceAddsRow.holds Try.pinned (OpenSpec.ofChange priceAddsSpec)

/-- ITS FALSE NEIGHBOUR: 'it returns false'. Refute it at one input. -/
def priceAddsWrong : ChangeSpec := { name := "priceAdds", fn := fun _ => fun
  | [d] => { results := [.lit (.bool false)], args := [d] }
  | _ => none }
def PriceAddsWrongFalsely : Prop := priceAddsRow.holds Try.pinned (OpenSpec.ofChange priceAddsWrong)

/-- 'shambleslaw08.PriceHalf': WHATEVER THE INPUT: true; the input reads as it did. -/
def priceHalfSpec : ChangeSpec := { name := "priceHalf", fn := fun _ => fun
  | [d] => { results := [.lit (.bool true)], args := [d] }
  | _ => none }
def priceHalfRow : OpenClaim := { program := "ytkcdknjgjidnnaa", sum := "9c34e43cfd4f953c0f03762b179629fb40bec60129f272007cb3935557735e0e", func := "shambles/shambleslaw08.PriceHalf", spec := "priceHalf", unfollowed := true, recurses := true, apart := false }
def PriceHalfSaid : Prop := priceHalfRow.holds Try.pinned (OpenSpec.ofChange priceHalfSpec)

/-- ITS FALSE NEIGHBOUR: 'it returns false'. Refute it at one input. -/
def priceHalfWrong : ChangeSpec := { name := "priceHalf", fn := fun _ => fun
  | [d] => { results := [.lit (.bool false)], args := [d] }
  | _ => none }
def PriceHalfWrongFalsely : Prop := priceHalfRow.holds Try.pinned (OpenSpec.ofChange priceHalfWrong)

/-- 'shambleslaw08.PricePicked': WHATEVER THE INPUT: true; the input reads as it did. -/
def pricePickedSpec : ChangeSpec := { name := "pricePicked", fn := fun _ => fun
  | [d] => { results := [.lit (.bool true)], args := [d] }
  | _ => none }
def pricePickedRow : OpenClaim := { program := "ytkcdknjgjidnnaa", sum := "9c34e43cfd4f953c0f03762b179629fb40bec60129f272007cb3935557735e0e", func := "shambles/shambleslaw08.PricePicked", spec := "pricePicked", unfollowed := true, recurses := true, apart := false }
def PricePickedSaid : Prop := pricePickedRow.holds Try.pinned (OpenSpec.ofChange pricePickedSpec)

/-- ITS FALSE NEIGHBOUR: 'it returns false'. Refute it at one input. -/
def pricePickedWrong : ChangeSpec := { name := "pricePicked", fn := fun _ => fun
  | [d] => { results := [.lit (.bool false)], args := [d] }
  | _ => none }
def PricePickedWrongFalsely : Prop := pricePickedRow.holds Try.pinned (OpenSpec.ofChange pricePickedWrong)

/-- 'shambleslaw08.PriceFound': WHATEVER THE INPUT: true; the input reads as it did. -/
def priceFoundSpec : ChangeSpec := { name := "priceFound", fn := fun _ => fun
  | [d] => { results := [.lit (.bool true)], args := [d] }
  | _ => none }
def priceFoundRow : OpenClaim := { program := "ytkcdknjgjidnnaa", sum := "9c34e43cfd4f953c0f03762b179629fb40bec60129f272007cb3935557735e0e", func := "shambles/shambleslaw08.PriceFound", spec := "priceFound", unfollowed := true, recurses := true, apart := false }
def PriceFoundSaid : Prop := priceFoundRow.holds Try.pinned (OpenSpec.ofChange priceFoundSpec)

/-- ITS FALSE NEIGHBOUR: 'it returns false'. Refute it at one input. -/
def priceFoundWrong : ChangeSpec := { name := "priceFound", fn := fun _ => fun
  | [d] => { results := [.lit (.bool false)], args := [d] }
  | _ => none }
def PriceFoundWrongFalsely : Prop := priceFoundRow.holds Try.pinned (OpenSpec.ofChange priceFoundWrong)

/-- 'shambleslaw08.PriceAudits': WHATEVER THE INPUT: true; the input reads as it did. -/
def priceAuditsSpec : ChangeSpec := { name := "priceAudits", fn := fun _ => fun
  | [d1, d2, d3, d4, d5, d6] => { results := [.lit (.bool true)], args := [d1, d2, d3, d4, d5, d6] }
  | _ => none }
def priceAuditsRow : OpenClaim := { program := "ytkcdknjgjidnnaa", sum := "9c34e43cfd4f953c0f03762b179629fb40bec60129f272007cb3935557735e0e", func := "shambles/shambleslaw08.PriceAudits", spec := "priceAudits", unfollowed := true, recurses := true, apart := false }
def PriceAuditsSaid : Prop := priceAuditsRow.holds Try.pinned (OpenSpec.ofChange priceAuditsSpec)

/-- ITS FALSE NEIGHBOUR: 'it returns false'. Refute it at one input. -/
def priceAuditsWrong : ChangeSpec := { name := "priceAudits", fn := fun _ => fun
  | [d1, d2, d3, d4, d5, d6] => { results := [.lit (.bool false)], args := [d1, d2, d3, d4, d5, d6] }
  | _ => none }
def PriceAuditsWrongFalsely : Prop := priceAuditsRow.holds Try.pinned (OpenSpec.ofChange priceAuditsWrong)

/- THE SECOND FORM. 'bulk': how many values and letters a reading holds, each counted each time it is reached (what is shared counts as often as it is met; a slice's spare places count too). A statement '..UptoSaid' is the law's where the arguments, and the package variables that the reading takes, are together of bulk at most 1048576: NARROWER than '..Said'. Prove '..Said' where nothing that the law and all that it calls make is longer than what came in: it says more and counts as full. Else prove '..UptoSaid'. A law counts once. -/
mutual
def uptoBulk {H : Type} : DataW H → Nat
  | .lit (.string bytes) => bytes.length + 1
  | .lit _ => 1
  | .nil => 1
  | .ptr d => uptoBulk d + 1
  | .slice elems spare => uptoBulkAll elems + uptoBulkAll spare + 1
  | .agg parts => uptoBulkAll parts + 1
  | .iface _ d => uptoBulk d + 1
  | .map entries => uptoBulkEntries entries + 1
  | .held _ => 1
def uptoBulkAll {H : Type} : List (DataW H) → Nat
  | [] => 0
  | d :: r => uptoBulk d + uptoBulkAll r
def uptoBulkEntries {H : Type} : List (Lit × DataW H) → Nat
  | [] => 0
  | x :: r => uptoBulkEntry x + uptoBulkEntries r
def uptoBulkEntry {H : Type} : Lit × DataW H → Nat
  | (.string bytes, d) => bytes.length + uptoBulk d + 1
  | (_, d) => uptoBulk d + 1
 end
def uptoSmall : (H : Type) → List (DataW H) → Bool := fun _ ds => decide (uptoBulkAll ds ≤ 1048576)
def OpenSpec.upto (s : _root_.Go.ChangeSpec) : _root_.Go.OpenSpec := { _root_.Go.OpenSpec.ofChange s with cond := some uptoSmall }

/-- 'shambleslaw08.PriceMakes', WHERE WHAT IT READS IS OF BULK AT MOST 1048576: true; the input reads as it did. -/
def priceMakesUptoRow : OpenClaim := { program := "ytkcdknjgjidnnaa", sum := "9c34e43cfd4f953c0f03762b179629fb40bec60129f272007cb3935557735e0e", func := "shambles/shambleslaw08.PriceMakes", spec := "priceMakes", unfollowed := true, recurses := true, apart := false, narrowed := true }
def PriceMakesUptoSaid : Prop := priceMakesUptoRow.holds Try.pinned (OpenSpec.upto priceMakesSpec)

/-- 'shambleslaw08.PriceSealed', WHERE WHAT IT READS IS OF BULK AT MOST 1048576: true; the input reads as it did. -/
def priceSealedUptoRow : OpenClaim := { program := "ytkcdknjgjidnnaa", sum := "9c34e43cfd4f953c0f03762b179629fb40bec60129f272007cb3935557735e0e", func := "shambles/shambleslaw08.PriceSealed", spec := "priceSealed", unfollowed := true, recurses := true, apart := false, narrowed := true }
def PriceSealedUptoSaid : Prop := priceSealedUptoRow.holds Try.pinned (OpenSpec.upto priceSealedSpec)

/-- 'shambleslaw08.PriceDues', WHERE WHAT IT READS IS OF BULK AT MOST 1048576: true; the input reads as it did. -/
def priceDuesUptoRow : OpenClaim := { program := "ytkcdknjgjidnnaa", sum := "9c34e43cfd4f953c0f03762b179629fb40bec60129f272007cb3935557735e0e", func := "shambles/shambleslaw08.PriceDues", spec := "priceDues", unfollowed := true, recurses := true, apart := false, narrowed := true }
def PriceDuesUptoSaid : Prop := priceDuesUptoRow.holds Try.pinned (OpenSpec.upto priceDuesSpec)

/-- 'shambleslaw08.PriceTrue', WHERE WHAT IT READS IS OF BULK AT MOST 1048576: true; the input reads as it did. -/
def priceTrueUptoRow : OpenClaim := { program := "ytkcdknjgjidnnaa", sum := "9c34e43cfd4f953c0f03762b179629fb40bec60129f272007cb3935557735e0e", func := "shambles/shambleslaw08.PriceTrue", spec := "priceTrue", unfollowed := true, recurses := true, apart := false, narrowed := true }
def PriceTrueUptoSaid : Prop := priceTrueUptoRow.holds Try.pinned (OpenSpec.upto priceTrueSpec)

/-- 'shambleslaw08.PriceEnds', WHERE WHAT IT READS IS OF BULK AT MOST 1048576: true; the input reads as it did. -/
def priceEndsUptoRow : OpenClaim := { program := "ytkcdknjgjidnnaa", sum := "9c34e43cfd4f953c0f03762b179629fb40bec60129f272007cb3935557735e0e", func := "shambles/shambleslaw08.PriceEnds", spec := "priceEnds", unfollowed := true, recurses := true, apart := false, narrowed := true }
def PriceEndsUptoSaid : Prop := priceEndsUptoRow.holds Try.pinned (OpenSpec.upto priceEndsSpec)

/-- 'shambleslaw08.PriceOrder', WHERE WHAT IT READS IS OF BULK AT MOST 1048576: true; the input reads as it did. -/
def priceOrderUptoRow : OpenClaim := { program := "ytkcdknjgjidnnaa", sum := "9c34e43cfd4f953c0f03762b179629fb40bec60129f272007cb3935557735e0e", func := "shambles/shambleslaw08.PriceOrder", spec := "priceOrder", unfollowed := true, recurses := true, apart := false, narrowed := true }
def PriceOrderUptoSaid : Prop := priceOrderUptoRow.holds Try.pinned (OpenSpec.upto priceOrderSpec)

/-- 'shambleslaw08.PriceAdds', WHERE WHAT IT READS IS OF BULK AT MOST 1048576: true; the input reads as it did. -/
def priceAddsUptoRow : OpenClaim := { program := "ytkcdknjgjidnnaa", sum := "9c34e43cfd4f953c0f03762b179629fb40bec60129f272007cb3935557735e0e", func := "shambles/shambleslaw08.PriceAdds", spec := "priceAdds", unfollowed := true, recurses := true, apart := false, narrowed := true }
def PriceAddsUptoSaid : Prop := priceAddsUptoRow.holds Try.pinned (OpenSpec.upto priceAddsSpec)

/-- 'shambleslaw08.PriceHalf', WHERE WHAT IT READS IS OF BULK AT MOST 1048576: true; the input reads as it did. -/
def priceHalfUptoRow : OpenClaim := { program := "ytkcdknjgjidnnaa", sum := "9c34e43cfd4f953c0f03762b179629fb40bec60129f272007cb3935557735e0e", func := "shambles/shambleslaw08.PriceHalf", spec := "priceHalf", unfollowed := true, recurses := true, apart := false, narrowed := true }
def PriceHalfUptoSaid : Prop := priceHalfUptoRow.holds Try.pinned (OpenSpec.upto priceHalfSpec)

/-- 'shambleslaw08.PricePicked', WHERE WHAT IT READS IS OF BULK AT MOST 1048576: true; the input reads as it did. -/
def pricePickedUptoRow : OpenClaim := { program := "ytkcdknjgjidnnaa", sum := "9c34e43cfd4f953c0f03762b179629fb40bec60129f272007cb3935557735e0e", func := "shambles/shambleslaw08.PricePicked", spec := "pricePicked", unfollowed := true, recurses := true, apart := false, narrowed := true }
def PricePickedUptoSaid : Prop := pricePickedUptoRow.holds Try.pinned (OpenSpec.upto pricePickedSpec)

/-- 'shambleslaw08.PriceFound', WHERE WHAT IT READS IS OF BULK AT MOST 1048576: true; the input reads as it did. -/
def priceFoundUptoRow : OpenClaim := { program := "ytkcdknjgjidnnaa", sum := "9c34e43cfd4f953c0f03762b179629fb40bec60129f272007cb3935557735e0e", func := "shambles/shambleslaw08.PriceFound", spec := "priceFound", unfollowed := true, recurses := true, apart := false, narrowed := true }
def PriceFoundUptoSaid : Prop := priceFoundUptoRow.holds Try.pinned (OpenSpec.upto priceFoundSpec)

/-- 'shambleslaw08.PriceAudits', WHERE WHAT IT READS IS OF BULK AT MOST 1048576: true; the input reads as it did. -/
def priceAuditsUptoRow : OpenClaim := { program := "ytkcdknjgjidnnaa", sum := "9c34e43cfd4f953c0f03762b179629fb40bec60129f272007cb3935557735e0e", func := "shambles/shambleslaw08.PriceAudits", spec := "priceAudits", unfollowed := true, recurses := true, apart := false, narrowed := true }
def PriceAuditsUptoSaid : Prop := priceAuditsUptoRow.holds Try.pinned (OpenSpec.upto priceAuditsSpec)

end Rows
end Go.Proofs.Ytkcdknjgjidnnaa
