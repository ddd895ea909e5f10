/-
  Small functions of the reference of nets: within, node.
-/
import Derived.Test.YtkphgdkjjklajaaGreatDoorTrLaw
set_option linter.unusedVariables false
set_option linter.unusedSimpArgs false
namespace Go.Proofs.YtkphgdkjjklajaaGreatDoor
open Go.RowKit Go.Shelf Go.Sort

set_option maxHeartbeats 1000000 in
theorem qwithin_any (n lo hi : Int) (w : World) : Calls Tryz.prog 54 #[.int .i64 n, .int .i64 lo, .int .i64 hi] w fun e w' => e = .returned (.bool (decide (lo ≤ n) && decide (n ≤ hi))) ∧ w' = w := by
  by_cases h1 : lo ≤ n
  · by_cases h2 : n ≤ hi
    · go_enter Tryz.func54, Tryz.ntmps54
      go_wp2
      go_ret
      exact ⟨by simp [h1, h2], rfl⟩
    · go_enter Tryz.func54, Tryz.ntmps54
      go_wp2
      go_ret
      exact ⟨by simp [h1, h2], rfl⟩
  · go_enter Tryz.func54, Tryz.ntmps54
    go_wp2
    go_ret
    exact ⟨by rw [decide_eq_false (show ¬ lo ≤ n by omega)]; rfl, rfl⟩
set_option maxHeartbeats 1000000 in
theorem vast_any (nb cb nm cm : Nat) (Ab Am : Option Addr) (w : World) : Calls Tryz.prog 5 #[netV Ab Am nb cb nm cm] w fun e w' => e = .returned (.bool (decide (20 < nb) || decide (30 < nm))) ∧ Below w.heap.size w w' := by
  have hBn := Blk.new w 25 #[.slice Ab nb cb, .slice Am nm cm]
  have HB0 := Lib.hid (show Below w.heap.size w (w.alloc (.cells #[.slice Ab nb cb, .slice Am nm cm] 25)) from (Below.refl _ w).alloc (Nat.le_refl _) _)
  have c0 := hBn.cell 0
  have c1 := hBn.cell 1
  clear hBn
  by_cases h : 20 < nb
  · have h1 : decide ((20 : Int) < (nb : Int)) = true := by simp; omega
    have HR := Lib.hid (show (decide (20 < nb) || decide (30 < nm)) = true by simp [h])
    clear h
    go_enter Tryz.func5, Tryz.ntmps5
    go_wp2_with fail
    go_ret
    exact ⟨by rw [HR.out]; rfl, HB0.out⟩
  · have h1 : decide ((20 : Int) < (nb : Int)) = false := by simp; omega
    have HR := Lib.hid (show (decide (20 < nb) || decide (30 < nm)) = decide ((30 : Int) < (nm : Int)) by rw [decide_eq_false h, Bool.false_or, Bool.eq_iff_iff]; simp; omega)
    clear h
    go_enter Tryz.func5, Tryz.ntmps5
    go_wp2_with fail
    go_ret
    exact ⟨by rw [HR.out]; rfl, HB0.out⟩
end Go.Proofs.YtkphgdkjjklajaaGreatDoor
