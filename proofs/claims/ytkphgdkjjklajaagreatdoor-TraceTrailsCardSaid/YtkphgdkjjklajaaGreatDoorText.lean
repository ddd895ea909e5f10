/-
  Texts: rows of a word and numbers; the row of price.
-/
import Derived.Test.YtkphgdkjjklajaaGreatDoorBase
import Derived.Test.YtkphgdkjjklajaaGreatDoorStrLay
import Derived.Lib.AppendIntMem
import Derived.Lib.SmallJoins
import Derived.Lib.Builder
import Derived.Laws.Concat
set_option linter.unusedVariables false
set_option linter.unusedSimpArgs false
namespace Go.Proofs.YtkphgdkjjklajaaGreatDoor
open Go.RowKit

def numsT (l : List Int) : List UInt8 := l.flatMap fun n => 32 :: Lib.itoa n
def rowT (wd : List UInt8) (l : List Int) : List UInt8 := wd ++ numsT l ++ [10]
theorem numsT_snoc (l : List Int) (k : Nat) (hk : k < l.length) : numsT (l.take (k + 1)) = numsT (l.take k) ++ 32 :: Lib.itoa l[k] := by
  unfold numsT
  rw [List.take_succ_eq_append_getElem hk, List.flatMap_append, List.flatMap_cons, List.flatMap_nil, List.append_nil]
theorem numsT_take (l : List Int) (k : Nat) : (numsT (l.take k)).length ≤ (numsT l).length := by
  have h : numsT l = numsT (l.take k) ++ numsT (l.drop k) := by
    unfold numsT
    rw [← List.flatMap_append, List.take_append_drop]
  rw [h, List.length_append]
  omega
theorem rowT_len (wd : List UInt8) (l : List Int) : (rowT wd l).length = wd.length + (numsT l).length + 1 := by simp [rowT]; omega
/-- the library's table of powers of ten -/
def Pow (w : World) : Prop := Lib.TabIs Tryz.prog w "internal/strconv.uint64pow10" .u64 Lib.pow10Tab
theorem Pow.old {w w' : World} (h : Pow w) (hb : Below w.heap.size w w') : Pow w' := Lib.tabBelow_of_tabIs h w' hb
def I64 (x : Int) : Prop := -9223372036854775808 ≤ x ∧ x ≤ 9223372036854775807
theorem itoa_any (n : Int) (hn : I64 n) (w : World) (hp : Pow w) : Calls Tryz.prog 36 #[.int .i64 n] w fun e w' => e = .returned (.string ⟨(Lib.itoa n).toArray⟩) ∧ Below w.heap.size w w' :=
  (Tryz.strconv_Itoa n hn.1 hn.2 w hp).mono fun e w' h => by
    obtain ⟨he, k, os, rfl⟩ := h
    exact ⟨he, Lib.below_grow _ w (Nat.le_refl _) k os⟩

end Go.Proofs.YtkphgdkjjklajaaGreatDoor
