/-
  No cell of these rows narrows 'for every input' (looked for: loops, veiled, ifaces, maps, wideKeys, modest, calm, conditions, laid).
  DERIVED. THE GIVEN ROWS OF THIS SEAT. 10 by the template 'for every input the law returns true; each argument reads behind the call as it read before'; 0 by the template 'total and deterministic' (their statements: YtkphgdkjjklajaaTotals.lean).
  GIVEN WITH THE SEED: the statements are not yours to turn. If you find one false, say at which input.
  Laid BY PROGRAM, IN A SANDBOX (cutbox-rows.mjs): the forced cells as the released guide's own fill.sh prints them over the translation ba190908bf1823f7… (all of the seat's roots in one cut). By AI agents, Wed Nov 11 2026. No macro, syntax, notation, axiom, sorry.
-/
import Derived.Test.YtkphgdkjjklajaaChecked
import GoSem.Claim
import GoSem.ClaimJoined
import GoSem.ClaimMapViews
import Derived.JoinedTies
import Derived.KernelRfl
namespace Go.Proofs.Ytkphgdkjjklajaa
/- THE CELL 'sum', in the pinned program and in every row, IS THE sha256 OF THE DUMP (.gsa) THAT YtkphgdkjjklajaaProg.lean LOADS. Nothing in Lean hashes anything: it is a label: what it is worth is what the hold of that sum in a sandbox is worth. -/
noncomputable def Try.pinned : Pinned := { name := "ytkphgdkjjklajaa", sum := "ba190908bf1823f785d4a300d3ad0a42fe01169c9129ff0fdd4684a31b730df6", checked := Try.checked }
namespace Rows
def none {H : Type} : Left H := { results := [], args := [] }

/-- 'shambleslaw05.TraceSamples': WHATEVER THE INPUT: true; the input reads as it did. -/
def traceSamplesSpec : ChangeSpec := { name := "traceSamples", fn := fun _ => fun
  | [d1, d2, d3] => { results := [.lit (.bool true)], args := [d1, d2, d3] }
  | _ => none }
def traceSamplesRow : OpenClaim := { program := "ytkphgdkjjklajaa", sum := "ba190908bf1823f785d4a300d3ad0a42fe01169c9129ff0fdd4684a31b730df6", func := "shambles/shambleslaw05.TraceSamples", spec := "traceSamples", unfollowed := true, recurses := true, plainKeys := false, apart := false }
def TraceSamplesSaid : Prop := traceSamplesRow.holds Try.pinned (OpenSpec.ofChange traceSamplesSpec)

/-- ITS FALSE NEIGHBOUR: 'it returns false'. Refute it at one input. -/
def traceSamplesWrong : ChangeSpec := { name := "traceSamples", fn := fun _ => fun
  | [d1, d2, d3] => { results := [.lit (.bool false)], args := [d1, d2, d3] }
  | _ => none }
def TraceSamplesWrongFalsely : Prop := traceSamplesRow.holds Try.pinned (OpenSpec.ofChange traceSamplesWrong)

/-- 'shambleslaw05.TraceMore': WHATEVER THE INPUT: true; the input reads as it did. -/
def traceMoreSpec : ChangeSpec := { name := "traceMore", fn := fun _ => fun
  | [d] => { results := [.lit (.bool true)], args := [d] }
  | _ => none }
def traceMoreRow : OpenClaim := { program := "ytkphgdkjjklajaa", sum := "ba190908bf1823f785d4a300d3ad0a42fe01169c9129ff0fdd4684a31b730df6", func := "shambles/shambleslaw05.TraceMore", spec := "traceMore", unfollowed := true, recurses := true, plainKeys := false, apart := false }
def TraceMoreSaid : Prop := traceMoreRow.holds Try.pinned (OpenSpec.ofChange traceMoreSpec)

/-- ITS FALSE NEIGHBOUR: 'it returns false'. Refute it at one input. -/
def traceMoreWrong : ChangeSpec := { name := "traceMore", fn := fun _ => fun
  | [d] => { results := [.lit (.bool false)], args := [d] }
  | _ => none }
def TraceMoreWrongFalsely : Prop := traceMoreRow.holds Try.pinned (OpenSpec.ofChange traceMoreWrong)

/-- 'shambleslaw05.TraceTells': WHATEVER THE INPUT: true; the input reads as it did. -/
def traceTellsSpec : ChangeSpec := { name := "traceTells", fn := fun _ => fun
  | [d] => { results := [.lit (.bool true)], args := [d] }
  | _ => none }
def traceTellsRow : OpenClaim := { program := "ytkphgdkjjklajaa", sum := "ba190908bf1823f785d4a300d3ad0a42fe01169c9129ff0fdd4684a31b730df6", func := "shambles/shambleslaw05.TraceTells", spec := "traceTells", unfollowed := true, recurses := true, plainKeys := false, apart := false }
def TraceTellsSaid : Prop := traceTellsRow.holds Try.pinned (OpenSpec.ofChange traceTellsSpec)

/-- ITS FALSE NEIGHBOUR: 'it returns false'. Refute it at one input. -/
def traceTellsWrong : ChangeSpec := { name := "traceTells", fn := fun _ => fun
  | [d] => { results := [.lit (.bool false)], args := [d] }
  | _ => none }
def TraceTellsWrongFalsely : Prop := traceTellsRow.holds Try.pinned (OpenSpec.ofChange traceTellsWrong)

/-- 'shambleslaw05.TraceTrue': WHATEVER THE INPUT: true; the input reads as it did. -/
def traceTrueSpec : ChangeSpec := { name := "traceTrue", fn := fun _ => fun
  | [d] => { results := [.lit (.bool true)], args := [d] }
  | _ => none }
def traceTrueRow : OpenClaim := { program := "ytkphgdkjjklajaa", sum := "ba190908bf1823f785d4a300d3ad0a42fe01169c9129ff0fdd4684a31b730df6", func := "shambles/shambleslaw05.TraceTrue", spec := "traceTrue", unfollowed := true, recurses := true, plainKeys := false, apart := false }
def TraceTrueSaid : Prop := traceTrueRow.holds Try.pinned (OpenSpec.ofChange traceTrueSpec)

/-- ITS FALSE NEIGHBOUR: 'it returns false'. Refute it at one input. -/
def traceTrueWrong : ChangeSpec := { name := "traceTrue", fn := fun _ => fun
  | [d] => { results := [.lit (.bool false)], args := [d] }
  | _ => none }
def TraceTrueWrongFalsely : Prop := traceTrueRow.holds Try.pinned (OpenSpec.ofChange traceTrueWrong)

/-- 'shambleslaw05.TraceAll': WHATEVER THE INPUT: true; the input reads as it did. -/
def traceAllSpec : ChangeSpec := { name := "traceAll", fn := fun _ => fun
  | [d] => { results := [.lit (.bool true)], args := [d] }
  | _ => none }
def traceAllRow : OpenClaim := { program := "ytkphgdkjjklajaa", sum := "ba190908bf1823f785d4a300d3ad0a42fe01169c9129ff0fdd4684a31b730df6", func := "shambles/shambleslaw05.TraceAll", spec := "traceAll", unfollowed := true, recurses := true, plainKeys := false, apart := false }
def TraceAllSaid : Prop := traceAllRow.holds Try.pinned (OpenSpec.ofChange traceAllSpec)

/-- ITS FALSE NEIGHBOUR: 'it returns false'. Refute it at one input. -/
def traceAllWrong : ChangeSpec := { name := "traceAll", fn := fun _ => fun
  | [d] => { results := [.lit (.bool false)], args := [d] }
  | _ => none }
def TraceAllWrongFalsely : Prop := traceAllRow.holds Try.pinned (OpenSpec.ofChange traceAllWrong)

/-- 'shambleslaw05.TraceKept': WHATEVER THE INPUT: true; the input reads as it did. -/
def traceKeptSpec : ChangeSpec := { name := "traceKept", fn := fun _ => fun
  | [d] => { results := [.lit (.bool true)], args := [d] }
  | _ => none }
def traceKeptRow : OpenClaim := { program := "ytkphgdkjjklajaa", sum := "ba190908bf1823f785d4a300d3ad0a42fe01169c9129ff0fdd4684a31b730df6", func := "shambles/shambleslaw05.TraceKept", spec := "traceKept", unfollowed := true, recurses := true, plainKeys := false, apart := false }
def TraceKeptSaid : Prop := traceKeptRow.holds Try.pinned (OpenSpec.ofChange traceKeptSpec)

/-- ITS FALSE NEIGHBOUR: 'it returns false'. Refute it at one input. -/
def traceKeptWrong : ChangeSpec := { name := "traceKept", fn := fun _ => fun
  | [d] => { results := [.lit (.bool false)], args := [d] }
  | _ => none }
def TraceKeptWrongFalsely : Prop := traceKeptRow.holds Try.pinned (OpenSpec.ofChange traceKeptWrong)

/-- 'shambleslaw05.TraceRecalls': WHATEVER THE INPUT: true; the input reads as it did. -/
def traceRecallsSpec : ChangeSpec := { name := "traceRecalls", fn := fun _ => fun
  | [d1, d2, d3, d4] => { results := [.lit (.bool true)], args := [d1, d2, d3, d4] }
  | _ => none }
def traceRecallsRow : OpenClaim := { program := "ytkphgdkjjklajaa", sum := "ba190908bf1823f785d4a300d3ad0a42fe01169c9129ff0fdd4684a31b730df6", func := "shambles/shambleslaw05.TraceRecalls", spec := "traceRecalls", unfollowed := true, recurses := true, plainKeys := false, apart := false }
def TraceRecallsSaid : Prop := traceRecallsRow.holds Try.pinned (OpenSpec.ofChange traceRecallsSpec)

/-- ITS FALSE NEIGHBOUR: 'it returns false'. Refute it at one input. -/
def traceRecallsWrong : ChangeSpec := { name := "traceRecalls", fn := fun _ => fun
  | [d1, d2, d3, d4] => { results := [.lit (.bool false)], args := [d1, d2, d3, d4] }
  | _ => none }
def TraceRecallsWrongFalsely : Prop := traceRecallsRow.holds Try.pinned (OpenSpec.ofChange traceRecallsWrong)

/-- 'shambleslaw05.TraceNets': WHATEVER THE INPUT: true; the input reads as it did. -/
def traceNetsSpec : ChangeSpec := { name := "traceNets", fn := fun _ => fun
  | [d1, d2, d3, d4] => { results := [.lit (.bool true)], args := [d1, d2, d3, d4] }
  | _ => none }
def traceNetsRow : OpenClaim := { program := "ytkphgdkjjklajaa", sum := "ba190908bf1823f785d4a300d3ad0a42fe01169c9129ff0fdd4684a31b730df6", func := "shambles/shambleslaw05.TraceNets", spec := "traceNets", unfollowed := true, recurses := true, plainKeys := false, apart := false }
def TraceNetsSaid : Prop := traceNetsRow.holds Try.pinned (OpenSpec.ofChange traceNetsSpec)

/-- ITS FALSE NEIGHBOUR: 'it returns false'. Refute it at one input. -/
def traceNetsWrong : ChangeSpec := { name := "traceNets", fn := fun _ => fun
  | [d1, d2, d3, d4] => { results := [.lit (.bool false)], args := [d1, d2, d3, d4] }
  | _ => none }
def TraceNetsWrongFalsely : Prop := traceNetsRow.holds Try.pinned (OpenSpec.ofChange traceNetsWrong)

/-- 'shambleslaw05.TraceParts': WHATEVER THE INPUT: true; the input reads as it did. -/
def tracePartsSpec : ChangeSpec := { name := "traceParts", fn := fun _ => fun
  | [d] => { results := [.lit (.bool true)], args := [d] }
  | _ => none }
def tracePartsRow : OpenClaim := { program := "ytkphgdkjjklajaa", sum := "ba190908bf1823f785d4a300d3ad0a42fe01169c9129ff0fdd4684a31b730df6", func := "shambles/shambleslaw05.TraceParts", spec := "traceParts", unfollowed := true, recurses := true, plainKeys := false, apart := false }
def TracePartsSaid : Prop := tracePartsRow.holds Try.pinned (OpenSpec.ofChange tracePartsSpec)

/-- ITS FALSE NEIGHBOUR: 'it returns false'. Refute it at one input. -/
def tracePartsWrong : ChangeSpec := { name := "traceParts", fn := fun _ => fun
  | [d] => { results := [.lit (.bool false)], args := [d] }
  | _ => none }
def TracePartsWrongFalsely : Prop := tracePartsRow.holds Try.pinned (OpenSpec.ofChange tracePartsWrong)

/-- 'shambleslaw05.TraceBack': WHATEVER THE INPUT: true; the input reads as it did. -/
def traceBackSpec : ChangeSpec := { name := "traceBack", fn := fun _ => fun
  | [d] => { results := [.lit (.bool true)], args := [d] }
  | _ => none }
def traceBackRow : OpenClaim := { program := "ytkphgdkjjklajaa", sum := "ba190908bf1823f785d4a300d3ad0a42fe01169c9129ff0fdd4684a31b730df6", func := "shambles/shambleslaw05.TraceBack", spec := "traceBack", unfollowed := true, recurses := true, plainKeys := false, apart := false }
def TraceBackSaid : Prop := traceBackRow.holds Try.pinned (OpenSpec.ofChange traceBackSpec)

/-- ITS FALSE NEIGHBOUR: 'it returns false'. Refute it at one input. -/
def traceBackWrong : ChangeSpec := { name := "traceBack", fn := fun _ => fun
  | [d] => { results := [.lit (.bool false)], args := [d] }
  | _ => none }
def TraceBackWrongFalsely : Prop := traceBackRow.holds Try.pinned (OpenSpec.ofChange traceBackWrong)

/- THE SECOND FORM. 'bulk': how many values and letters a reading holds, each counted each time it is reached (what is shared counts as often as it is met; a slice's spare places count too). A statement '..UptoSaid' is the law's where the arguments, and the package variables that the reading takes, are together of bulk at most 1048576: NARROWER than '..Said'. Prove '..Said' where nothing that the law and all that it calls make is longer than what came in: it says more and counts as full. Else prove '..UptoSaid'. A law counts once. -/
mutual
def uptoBulk {H : Type} : DataW H → Nat
  | .lit (.string bytes) => bytes.length + 1
  | .lit _ => 1
  | .nil => 1
  | .ptr d => uptoBulk d + 1
  | .slice elems spare => uptoBulkAll elems + uptoBulkAll spare + 1
  | .agg parts => uptoBulkAll parts + 1
  | .iface _ d => uptoBulk d + 1
  | .map entries => uptoBulkEntries entries + 1
  | .held _ => 1
def uptoBulkAll {H : Type} : List (DataW H) → Nat
  | [] => 0
  | d :: r => uptoBulk d + uptoBulkAll r
def uptoBulkEntries {H : Type} : List (Lit × DataW H) → Nat
  | [] => 0
  | x :: r => uptoBulkEntry x + uptoBulkEntries r
def uptoBulkEntry {H : Type} : Lit × DataW H → Nat
  | (.string bytes, d) => bytes.length + uptoBulk d + 1
  | (_, d) => uptoBulk d + 1
 end
def uptoSmall : (H : Type) → List (DataW H) → Bool := fun _ ds => decide (uptoBulkAll ds ≤ 1048576)
def OpenSpec.upto (s : _root_.Go.ChangeSpec) : _root_.Go.OpenSpec := { _root_.Go.OpenSpec.ofChange s with cond := some uptoSmall }

/-- 'shambleslaw05.TraceSamples', WHERE WHAT IT READS IS OF BULK AT MOST 1048576: true; the input reads as it did. -/
def traceSamplesUptoRow : OpenClaim := { program := "ytkphgdkjjklajaa", sum := "ba190908bf1823f785d4a300d3ad0a42fe01169c9129ff0fdd4684a31b730df6", func := "shambles/shambleslaw05.TraceSamples", spec := "traceSamples", unfollowed := true, recurses := true, plainKeys := false, apart := false, narrowed := true }
def TraceSamplesUptoSaid : Prop := traceSamplesUptoRow.holds Try.pinned (OpenSpec.upto traceSamplesSpec)

/-- 'shambleslaw05.TraceMore', WHERE WHAT IT READS IS OF BULK AT MOST 1048576: true; the input reads as it did. -/
def traceMoreUptoRow : OpenClaim := { program := "ytkphgdkjjklajaa", sum := "ba190908bf1823f785d4a300d3ad0a42fe01169c9129ff0fdd4684a31b730df6", func := "shambles/shambleslaw05.TraceMore", spec := "traceMore", unfollowed := true, recurses := true, plainKeys := false, apart := false, narrowed := true }
def TraceMoreUptoSaid : Prop := traceMoreUptoRow.holds Try.pinned (OpenSpec.upto traceMoreSpec)

/-- 'shambleslaw05.TraceTells', WHERE WHAT IT READS IS OF BULK AT MOST 1048576: true; the input reads as it did. -/
def traceTellsUptoRow : OpenClaim := { program := "ytkphgdkjjklajaa", sum := "ba190908bf1823f785d4a300d3ad0a42fe01169c9129ff0fdd4684a31b730df6", func := "shambles/shambleslaw05.TraceTells", spec := "traceTells", unfollowed := true, recurses := true, plainKeys := false, apart := false, narrowed := true }
def TraceTellsUptoSaid : Prop := traceTellsUptoRow.holds Try.pinned (OpenSpec.upto traceTellsSpec)

/-- 'shambleslaw05.TraceTrue', WHERE WHAT IT READS IS OF BULK AT MOST 1048576: true; the input reads as it did. -/
def traceTrueUptoRow : OpenClaim := { program := "ytkphgdkjjklajaa", sum := "ba190908bf1823f785d4a300d3ad0a42fe01169c9129ff0fdd4684a31b730df6", func := "shambles/shambleslaw05.TraceTrue", spec := "traceTrue", unfollowed := true, recurses := true, plainKeys := false, apart := false, narrowed := true }
def TraceTrueUptoSaid : Prop := traceTrueUptoRow.holds Try.pinned (OpenSpec.upto traceTrueSpec)

/-- 'shambleslaw05.TraceAll', WHERE WHAT IT READS IS OF BULK AT MOST 1048576: true; the input reads as it did. -/
def traceAllUptoRow : OpenClaim := { program := "ytkphgdkjjklajaa", sum := "ba190908bf1823f785d4a300d3ad0a42fe01169c9129ff0fdd4684a31b730df6", func := "shambles/shambleslaw05.TraceAll", spec := "traceAll", unfollowed := true, recurses := true, plainKeys := false, apart := false, narrowed := true }
def TraceAllUptoSaid : Prop := traceAllUptoRow.holds Try.pinned (OpenSpec.upto traceAllSpec)

/-- 'shambleslaw05.TraceKept', WHERE WHAT IT READS IS OF BULK AT MOST 1048576: true; the input reads as it did. -/
def traceKeptUptoRow : OpenClaim := { program := "ytkphgdkjjklajaa", sum := "ba190908bf1823f785d4a300d3ad0a42fe01169c9129ff0fdd4684a31b730df6", func := "shambles/shambleslaw05.TraceKept", spec := "traceKept", unfollowed := true, recurses := true, plainKeys := false, apart := false, narrowed := true }
def TraceKeptUptoSaid : Prop := traceKeptUptoRow.holds Try.pinned (OpenSpec.upto traceKeptSpec)

/-- 'shambleslaw05.TraceRecalls', WHERE WHAT IT READS IS OF BULK AT MOST 1048576: true; the input reads as it did. -/
def traceRecallsUptoRow : OpenClaim := { program := "ytkphgdkjjklajaa", sum := "ba190908bf1823f785d4a300d3ad0a42fe01169c9129ff0fdd4684a31b730df6", func := "shambles/shambleslaw05.TraceRecalls", spec := "traceRecalls", unfollowed := true, recurses := true, plainKeys := false, apart := false, narrowed := true }
def TraceRecallsUptoSaid : Prop := traceRecallsUptoRow.holds Try.pinned (OpenSpec.upto traceRecallsSpec)

/-- 'shambleslaw05.TraceNets', WHERE WHAT IT READS IS OF BULK AT MOST 1048576: true; the input reads as it did. -/
def traceNetsUptoRow : OpenClaim := { program := "ytkphgdkjjklajaa", sum := "ba190908bf1823f785d4a300d3ad0a42fe01169c9129ff0fdd4684a31b730df6", func := "shambles/shambleslaw05.TraceNets", spec := "traceNets", unfollowed := true, recurses := true, plainKeys := false, apart := false, narrowed := true }
def TraceNetsUptoSaid : Prop := traceNetsUptoRow.holds Try.pinned (OpenSpec.upto traceNetsSpec)

/-- 'shambleslaw05.TraceParts', WHERE WHAT IT READS IS OF BULK AT MOST 1048576: true; the input reads as it did. -/
def tracePartsUptoRow : OpenClaim := { program := "ytkphgdkjjklajaa", sum := "ba190908bf1823f785d4a300d3ad0a42fe01169c9129ff0fdd4684a31b730df6", func := "shambles/shambleslaw05.TraceParts", spec := "traceParts", unfollowed := true, recurses := true, plainKeys := false, apart := false, narrowed := true }
def TracePartsUptoSaid : Prop := tracePartsUptoRow.holds Try.pinned (OpenSpec.upto tracePartsSpec)

/-- 'shambleslaw05.TraceBack', WHERE WHAT IT READS IS OF BULK AT MOST 1048576: true; the input reads as it did. -/
def traceBackUptoRow : OpenClaim := { program := "ytkphgdkjjklajaa", sum := "ba190908bf1823f785d4a300d3ad0a42fe01169c9129ff0fdd4684a31b730df6", func := "shambles/shambleslaw05.TraceBack", spec := "traceBack", unfollowed := true, recurses := true, plainKeys := false, apart := false, narrowed := true }
def TraceBackUptoSaid : Prop := traceBackUptoRow.holds Try.pinned (OpenSpec.upto traceBackSpec)

end Rows
end Go.Proofs.Ytkphgdkjjklajaa
