/-
  The reference: which words are numbers.
-/
import Derived.Test.YtkphgdkjjklajaaGreatDoorNumLaw
set_option linter.unusedVariables false
set_option linter.unusedSimpArgs false
namespace Go.Proofs.YtkphgdkjjklajaaGreatDoor
open Go.RowKit

def numE (x : List UInt8) : Value := match numT 6 x with
  | some n => .tuple #[.int .i64 n, .bool true]
  | none => .tuple #[.int .i64 0, .bool false]
theorem numE_none {x : List UInt8} (h : numT 6 x = none) : numE x = .tuple #[.int .i64 0, .bool false] := by unfold numE; rw [h]
theorem numE_some {x : List UInt8} {n : Nat} (h : numT 6 x = some n) : numE x = .tuple #[.int .i64 n, .bool true] := by unfold numE; rw [h]
theorem bytes_len (s : ByteArray) : s.data.toList.length = s.size := by rw [Array.length_toList]; rfl
theorem bytes_at (s : ByteArray) (k : Nat) (h : k < s.size) (h' : k < s.data.toList.length) : s.data.toList[k]'h' = s[k]'h := rfl

theorem digs_take (x : List UInt8) (k : Nat) (hk : k < x.length) : digs 0 (x.take (k + 1)) = 10 * digs 0 (x.take k) + (x[k].toNat - 48) := by
  rw [List.take_succ_eq_append_getElem hk, digs_snoc]
theorem all_take (x : List UInt8) (k : Nat) (hk : k < x.length) : (x.take (k + 1)).all isDig = ((x.take k).all isDig && isDig x[k]) := by
  rw [List.take_succ_eq_append_getElem hk, List.all_append]
  simp
theorem not_all {x : List UInt8} {k : Nat} (hk : k < x.length) (h : isDig x[k] = false) : ¬ x.all isDig = true := fun e => by
  rw [List.all_eq_true] at e
  rw [e _ (List.getElem_mem hk)] at h
  cases h

end Go.Proofs.YtkphgdkjjklajaaGreatDoor
