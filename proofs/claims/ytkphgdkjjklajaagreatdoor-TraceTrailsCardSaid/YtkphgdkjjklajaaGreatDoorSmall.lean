/-
  Small functions of the kit.
-/
import Derived.Test.YtkphgdkjjklajaaGreatDoorApp
import Derived.Deep.QuietTactic
import Derived.BigQuiet
set_option linter.unusedVariables false
set_option linter.unusedSimpArgs false
namespace Go.Proofs.YtkphgdkjjklajaaGreatDoor
open Go.RowKit

/-- a number brought into bounds -/
def bring (x n : Int) : Int := if n < 2 then 0 else x % n
theorem bring_bd {x n : Int} (h : 1 ≤ n) : 0 ≤ bring x n ∧ bring x n < n := by
  unfold bring
  split
  · omega
  · exact ⟨Int.emod_nonneg _ (by omega), Int.emod_lt_of_pos _ (by omega)⟩
theorem tmod_cases (x n : Int) (h : 2 ≤ n) : (x.tmod n < 0 → x.tmod n + n = x % n) ∧ (0 ≤ x.tmod n → x.tmod n = x % n) ∧ -n < x.tmod n ∧ x.tmod n < n := by
  have h1 := Int.emod_nonneg x (show n ≠ 0 by omega)
  have h2 := Int.emod_lt_of_pos x (show 0 < n by omega)
  have h3 := @Int.tmod_eq_emod x n
  split at h3
  · simp at h3
    rw [h3]
    omega
  · have : (n.natAbs : Int) = n := by omega
    rw [this] at h3
    rw [h3]
    refine ⟨by omega, fun h => ?_, by omega, by omega⟩
    omega

set_option maxHeartbeats 400000 in
theorem bring_any (x n : Int) (w : World) (h1 : -9223372036854775808 ≤ x) (h2 : x ≤ 9223372036854775807) (h3 : n ≤ 1000000000000) :
    Calls Tryz.prog 26 #[.int .i64 x, .int .i64 n] w fun e w' => e = .returned (.int .i64 (bring x n)) ∧ w = w' := by
  by_cases hn : n < 2
  · go_enter Tryz.func26, Tryz.ntmps26
    go_wp2
    go_ret
    exact ⟨ret_int (by simp [bring, hn]), rfl⟩
  · have hn2 : 2 ≤ n := by omega
    obtain ⟨t1, t2, t3, t4⟩ := tmod_cases x n hn2
    have T1 := Lib.hid t1
    have T2 := Lib.hid t2
    have HN := Lib.hid hn
    clear t1 t2 hn
    go_enter Tryz.func26, Tryz.ntmps26
    go_wp2
    all_goals go_ret
    · exact ⟨ret_int (by rw [T1.out ‹_›]; unfold bring; rw [if_neg (by omega)]), rfl⟩
    · exact ⟨ret_int (by rw [T2.out ‹_›]; unfold bring; rw [if_neg (by omega)]), rfl⟩

end Go.Proofs.YtkphgdkjjklajaaGreatDoor
