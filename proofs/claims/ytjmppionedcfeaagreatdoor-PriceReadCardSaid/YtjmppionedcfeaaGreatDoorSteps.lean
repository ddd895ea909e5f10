/-
  The check of steps, of the program and of the reference.
-/
import Derived.Test.YtjmppionedcfeaaGreatDoorRChk
import Derived.Deep.QuietTactic
import Derived.BigQuiet
set_option linter.unusedVariables false
set_option linter.unusedSimpArgs false
namespace Go.Proofs.YtjmppionedcfeaaGreatDoor
open Go.RowKit

set_option maxRecDepth 100000 in
set_option maxHeartbeats 1000000 in
theorem checkSteps_any (b n c : Nat) (A : Option Addr) (l : List Step) (w : World) (hl : Sl encP 2 w b A n l) (hn : n ≤ 1000000000000) :
    Calls Tryz.prog 49 #[.slice A n c] w fun e w' => e = .returned (.int .i64 (chkSteps l)) ∧ Below w.heap.size w w' := by
  have HA := Lib.hid hl.len
  by_cases h0 : n = 0
  · subst h0
    have : l = [] := List.eq_nil_of_length_eq_zero HA.out.symm
    subst this
    go_enter Tryz.func49, Tryz.ntmps49
    go_wp2_with fail
    go_ret
    exact ⟨rfl, by go_grown⟩
  have h0' : ((n : Int) == 0) = false := by rw [beq_eq_false_iff_ne]; omega
  by_cases h5 : 5 < n
  · have h5' : decide (5 < (n : Int)) = true := by simp; omega
    have H5 := Lib.hid h5
    have H0 := Lib.hid h0
    clear h5 h0
    go_enter Tryz.func49, Tryz.ntmps49
    go_wp2_with fail
    go_ret
    refine ⟨ret_int ?_, by go_grown⟩
    have e1 := HA.out
    have e2 := H5.out
    unfold chkSteps
    rw [if_neg (by omega), if_pos (by omega)]
  have h5' : decide (5 < (n : Int)) = false := by simp; omega
  have HF := Lib.hid (show chkSteps l = stepsFrom none l from by have := HA.out; unfold chkSteps; rw [if_neg (by omega), if_neg (by omega)])
  have hn5 : n ≤ 5 := by omega
  have hn1 : 1 ≤ n := by omega
  have HL := Lib.hid hl
  clear hl h0 h5 hn
  go_enter Tryz.func49, Tryz.ntmps49
  go_wp2_with fail
  go_loopw [3, 15] (fun _ i wr => ∃ k : Nat, k ≤ n ∧ i = .int .i64 k ∧ stepsFrom (prevFr l k) (l.drop k) = chkSteps l ∧ Below w.heap.size w wr) (fun _ i _ => n - (intOf i).toNat)
  case atStart => exact ⟨0, Nat.zero_le _, rfl, HF.out.symm, by go_grown⟩
  case round =>
    obtain ⟨k, hk, rfl, hck, hB⟩ := hrel
    have HC := Lib.hid hck
    have HB := Lib.hid hB
    have hzz : w.heap.size ≤ wr.heap.size := hB.size
    clear hck hB
    by_cases hlt : k < n
    · obtain ⟨o, rfl, hbz, s0, s1⟩ := (HL.out.old HB.out).atP (k := k) (by have := HA.out; omega)
      have HD := Lib.hid (stepsFrom_drop (l := l) (k := k) (by have := HA.out; omega) (prevFr l k))
      have HE := Lib.hid (prevFr_succ (l := l) (k := k) (by have := HA.out; omega))
      generalize hS : l[k]'(by have := HA.out; omega) = s at s0 s1 HD HE
      have HS := Lib.hid hS
      clear hS
      have HB1 := Lib.hid (HB.out.alloc HB.out.size (.cells #[.int .i64 s.fr, .int .i64 s.sh] 98))
      cases t1 : inB s.fr 0 1000000000
      · go_wp2_with (go_at_call 40; refine (in_any _ _ _ _).mono ?_; rintro e w' ⟨rfl, rfl⟩)
        go_ret
        exact ⟨ret_int (by rw [← HC.out, HD.out]; simp [t1]), HB1.out⟩
      cases t2 : inB s.sh 0 1000
      · go_wp2_with (go_at_call 40; refine (in_any _ _ _ _).mono ?_; rintro e w' ⟨rfl, rfl⟩)
        go_ret
        exact ⟨ret_int (by rw [← HC.out, HD.out]; simp [t1, t2]), HB1.out⟩
      rcases k with _ | j
      · simp only [Nat.zero_mul, Nat.add_zero, Nat.zero_add] at s0 s1
        cases t3 : (s.fr != 0)
        all_goals
          go_wp2_with (go_at_call 40; refine (in_any _ _ _ _).mono ?_; rintro e w' ⟨rfl, rfl⟩)
        · go_quiet (fail)
          go_wp2_with fail
          go_roundw
          case rel => exact ⟨0 + 1, by omega, by go_num, by rw [← HC.out, HD.out, HE.out]; simp [t1, t2, t3, prevFr], below_drewN HB1.out _⟩
          case measure => simp [intOf]; omega
        · go_ret
          exact ⟨ret_int (by rw [← HC.out, HD.out]; simp [t1, t2, t3, prevFr]), HB1.out⟩
      · obtain ⟨o', ho', _, p0, _⟩ := (HL.out.old HB.out).atP (k := j) (by have := HA.out; omega)
        injection ho' with ho'
        injection ho' with _ ho'
        subst ho'
        have HQ := Lib.hid (prevFr_succ (l := l) (k := j) (by have := HA.out; omega))
        generalize hP : (l[j]'(by have := HA.out; omega)).fr = q at p0 HQ
        clear hP
        have j0 : ((j : Int) + 1 == 0) = false := by rw [beq_eq_false_iff_ne]; omega
        have j1 : decide (0 < (j : Int) + 1) = true := by rw [decide_eq_true_eq]; omega
        have j2 : (0 : Int) ≤ (j : Int) := by omega
        have j3 : (j : Int) < (n : Int) := by omega
        cases t3 : decide (s.fr ≤ q)
        all_goals
          go_wp2_with (go_at_call 40; refine (in_any _ _ _ _).mono ?_; rintro e w' ⟨rfl, rfl⟩)
          go_quiet (fail)
          go_wp2_with fail
        · go_roundw
          case rel => exact ⟨j + 1 + 1, by omega, by go_num, by rw [← HC.out, HD.out, HE.out, HQ.out]; simp at t3; simp [t1, t2]; intro h; omega, below_drewN HB1.out _⟩
          case measure => simp [intOf]; omega
        · go_ret
          exact ⟨ret_int (by rw [← HC.out, HD.out, HQ.out]; simp at t3; simp [t1, t2, t3]), below_drewN HB1.out _⟩
    · have hkn : n ≤ k := by omega
      have HK := Lib.hid hkn
      go_wp2_with fail
      go_ret
      exact ⟨ret_int (by rw [← HC.out, List.drop_eq_nil_of_le (by have := HA.out; have := HK.out; omega)]; unfold stepsFrom; rfl), HB.out⟩
end Go.Proofs.YtjmppionedcfeaaGreatDoor
