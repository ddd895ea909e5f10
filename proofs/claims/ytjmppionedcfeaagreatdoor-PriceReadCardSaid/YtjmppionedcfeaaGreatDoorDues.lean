/-
  Dues on a turnover, of the program and of the reference.
-/
import Derived.Test.YtjmppionedcfeaaGreatDoorSteps
set_option linter.unusedVariables false
set_option linter.unusedSimpArgs false
namespace Go.Proofs.YtjmppionedcfeaaGreatDoor
open Go.RowKit

set_option maxRecDepth 100000 in
set_option maxHeartbeats 1000000 in
theorem dues_any (b n c : Nat) (A : Option Addr) (l : List Step) (t : Int) (w : World) (hl : Sl encP 2 w b A n l) (hin : StepsIn l) (h0 : 0 ≤ t) (h1 : t ≤ 10000000000) :
    Calls Tryz.prog 51 #[.slice A n c, .int .i64 t] w fun e w' => e = .returned (.int .i64 (dues l t)) ∧ Below w.heap.size w w' := by
  have HA := Lib.hid hl.len
  have hn5 : n ≤ 5 := by have := hin.len; have := hl.len; omega
  have HL := Lib.hid hl
  have HI := Lib.hid hin
  clear hl hin
  go_enter Tryz.func51, Tryz.ntmps51
  go_wp2_with fail
  go_loopw [5, 6, 8, 11] (fun v _ _ i wr => ∃ (k : Nat) (a : Int), k ≤ n ∧ i = .int .i64 k ∧ v = .int .i64 a ∧ 0 ≤ a ∧ a ≤ k * 10000000000000 ∧ a + duesFrom t (l.drop k) = duesFrom t l ∧ Below w.heap.size w wr) (fun _ _ _ i _ => n - (intOf i).toNat)
  case atStart => exact ⟨0, 0, Nat.zero_le _, rfl, rfl, by omega, by omega, by simp, Below.refl _ _⟩
  case round =>
    obtain ⟨k, a, hk, rfl, rfl, ha0, ha1, hck, hB⟩ := hrel
    have HC := Lib.hid hck
    have HB := Lib.hid hB
    clear hck hB
    by_cases hlt : k < n
    · obtain ⟨o, rfl, hbz, s0, s1⟩ := (HL.out.old HB.out).atP (k := k) (by have := HA.out; omega)
      have hm : l[k]'(by have := HA.out; omega) ∈ l := List.getElem_mem _
      have e0 := HI.out.fr0 _ hm
      have e1 := HI.out.fr1 _ hm
      have e2 := HI.out.sh0 _ hm
      have e3 := HI.out.sh1 _ hm
      have ha2 : a ≤ 50000000000000 := by omega
      have HB1 := Lib.hid (HB.out.alloc HB.out.size (.cells #[.int .i64 (l[k]'(by have := HA.out; omega)).fr, .int .i64 (l[k]'(by have := HA.out; omega)).sh] 98))
      have hA1 := Lib.hid ha1
      clear hm ha1
      by_cases hlast : k + 1 < n
      · obtain ⟨o', ho', _, p0, _⟩ := (HL.out.old HB.out).atP (k := k + 1) (by have := HA.out; omega)
        injection ho' with ho'
        injection ho' with _ ho'
        subst ho'
        have HD := Lib.hid (duesFrom_mid t (l := l) (k := k) (by have := HA.out; omega))
        have hup := HI.out.up k (by have := HA.out; omega)
        generalize l[k + 1]'(by have := HA.out; omega) = s' at p0 HD hup
        generalize l[k]'(by have := HA.out; omega) = s at s0 s1 HD e0 e1 e2 e3 HB1 hup
        have j3 : (k : Int) + 1 < (n : Int) := by omega
        have j2 : (0 : Int) ≤ (k : Int) + 1 := by omega
        by_cases hq : t ≤ s'.fr
        · have HM := Lib.hid (show min t s'.fr = t by omega)
          by_cases hmx : 0 < t - s.fr
          · obtain ⟨m0, m1⟩ := mul_bd (a := t - s.fr) (b := s.sh) (by omega) (by omega) e2 e3
            have HV := Lib.hid (show max 0 (t - s.fr) = t - s.fr by omega)
            have e4 : 0 < t - s.fr := hmx
            go_wp2_with fail
            go_roundw
            case rel => exact ⟨k + 1, a + (t - s.fr) * s.sh, by omega, by go_num, rfl, by omega, by have := hA1.out; push_cast; omega, by rw [← HC.out, HD.out, HM.out, HV.out]; omega, HB1.out⟩
            case measure => simp [intOf]; omega
          · have HV := Lib.hid (show max 0 (t - s.fr) = 0 by omega)
            have e4 : t - s.fr ≤ 0 := by omega
            go_wp2_with fail
            go_roundw
            case rel => exact ⟨k + 1, a, by omega, by go_num, by simp, by omega, by have := hA1.out; push_cast; omega, by rw [← HC.out, HD.out, HM.out, HV.out]; omega, HB1.out⟩
            case measure => simp [intOf]; omega
        · have hq' : s'.fr < t := by omega
          have HM := Lib.hid (show min t s'.fr = s'.fr by omega)
          have e4 : 0 < s'.fr - s.fr := by omega
          have e5 : s'.fr ≤ 1000000000 ∨ True := .inr trivial
          obtain ⟨m0, m1⟩ := mul_bd (a := s'.fr - s.fr) (b := s.sh) (by omega) (by omega) e2 e3
          have HV := Lib.hid (show max 0 (s'.fr - s.fr) = s'.fr - s.fr by omega)
          clear e5 hq
          go_wp2_with fail
          go_roundw
          case rel => exact ⟨k + 1, a + (s'.fr - s.fr) * s.sh, by omega, by go_num, rfl, by omega, by have := hA1.out; push_cast; omega, by rw [← HC.out, HD.out, HM.out, HV.out]; omega, HB1.out⟩
          case measure => simp [intOf]; omega
      · have HD := Lib.hid (duesFrom_last t (l := l) (k := k) (by have := HA.out; omega) (by have := HA.out; omega))
        generalize l[k]'(by have := HA.out; omega) = s at s0 s1 HD e0 e1 e2 e3 HB1
        have j3 : (n : Int) ≤ (k : Int) + 1 := by omega
        by_cases hmx : 0 < t - s.fr
        · obtain ⟨m0, m1⟩ := mul_bd (a := t - s.fr) (b := s.sh) (by omega) (by omega) e2 e3
          have HV := Lib.hid (show max 0 (t - s.fr) = t - s.fr by omega)
          go_wp2_with fail
          go_roundw
          case rel => exact ⟨k + 1, a + (t - s.fr) * s.sh, by omega, by go_num, rfl, by omega, by have := hA1.out; push_cast; omega, by rw [← HC.out, HD.out, HV.out]; omega, HB1.out⟩
          case measure => simp [intOf]; omega
        · have HV := Lib.hid (show max 0 (t - s.fr) = 0 by omega)
          have e4 : t - s.fr ≤ 0 := by omega
          go_wp2_with fail
          go_roundw
          case rel => exact ⟨k + 1, a, by omega, by go_num, by simp, by omega, by have := hA1.out; push_cast; omega, by rw [← HC.out, HD.out, HV.out]; omega, HB1.out⟩
          case measure => simp [intOf]; omega
    · have hkn : n ≤ k := by omega
      have HK := Lib.hid hkn
      have ha2 : a ≤ 50000000000000 := by omega
      go_wp2_with fail
      go_ret
      refine ⟨ret_int ?_, HB.out⟩
      have := HC.out
      rw [List.drop_eq_nil_of_le (by have := HA.out; have := HK.out; omega)] at this
      simp only [duesFrom, Int.add_zero] at this
      unfold dues
      rw [← this]
end Go.Proofs.YtjmppionedcfeaaGreatDoor
