/-
  Dues on a turnover, of the reference.
-/
import Derived.Test.YtkcdknjgjidnnaaDues
set_option linter.unusedVariables false
set_option linter.unusedSimpArgs false
namespace Go.Proofs.Ytkcdknjgjidnnaa
open Go.RowKit

set_option maxRecDepth 100000 in
set_option maxHeartbeats 1000000 in
theorem rdue_any (b n c : Nat) (A : Option Addr) (l : List Step) (t : Int) (w : World) (hl : Sl encP 2 w b A n l) (hin : StepsIn l) (h0 : 0 ≤ t) (h1 : t ≤ 10000000000) :
    Calls Try.prog 38 #[.slice A n c, .int .i64 t] w fun e w' => e = .returned (.int .i64 (dues l t)) ∧ Below w.heap.size w w' := by
  have HA := Lib.hid hl.len
  have hn5 : n ≤ 5 := by have := hin.len; have := hl.len; omega
  have HL := Lib.hid hl
  have HI := Lib.hid hin
  clear hl hin
  go_enter Try.func38, Try.ntmps38
  go_wp2_with fail
  go_loopw [5, 6, 7] (fun v i _ wr => ∃ (k : Nat) (a : Int), k ≤ n ∧ i = .int .i64 k ∧ v = .int .i64 a ∧ 0 ≤ a ∧ a ≤ k * 10000000000000 ∧ a + duesFrom t (l.drop k) = duesFrom t l ∧ Below w.heap.size w wr) (fun _ i _ _ => n - (intOf i).toNat)
  case atStart => exact ⟨0, 0, Nat.zero_le _, rfl, rfl, by omega, by omega, by simp, Below.refl _ _⟩
  case round =>
    obtain ⟨k, a, hk, rfl, rfl, ha0, ha1, hck, hB⟩ := hrel
    have HC := Lib.hid hck
    have HB := Lib.hid hB
    have ha2 : a ≤ 50000000000000 := by omega
    have i0 : (0 : Int) ≤ (k : Int) := by omega
    clear hck hB
    by_cases hlt : k < n
    · obtain ⟨o, rfl, hbz, s0, s1⟩ := (HL.out.old HB.out).atP (k := k) (by have := HA.out; omega)
      have hm : l[k]'(by have := HA.out; omega) ∈ l := List.getElem_mem _
      have e0 := HI.out.fr0 _ hm
      have e1 := HI.out.fr1 _ hm
      have e2 := HI.out.sh0 _ hm
      have e3 := HI.out.sh1 _ hm
      have i1 : (k : Int) < (n : Int) := by omega
      have hd1 : decide ((k : Int) < (n : Int)) = true := by simpa using i1
      have hA1 := Lib.hid ha1
      clear hm ha1
      by_cases hft : (l[k]'(by have := HA.out; omega)).fr < t
      · by_cases hlast : k + 1 < n
        · obtain ⟨o', ho', _, p0, _⟩ := (HL.out.old HB.out).atP (k := k + 1) (by have := HA.out; omega)
          injection ho' with ho'
          injection ho' with _ ho'
          subst ho'
          have HD := Lib.hid (duesFrom_mid t (l := l) (k := k) (by have := HA.out; omega))
          have hup := HI.out.up k (by have := HA.out; omega)
          generalize l[k + 1]'(by have := HA.out; omega) = s' at p0 HD hup
          generalize l[k]'(by have := HA.out; omega) = s at s0 s1 HD e0 e1 e2 e3 hup hft
          have j3 : (k : Int) + 1 < (n : Int) := by omega
          have j2 : (0 : Int) ≤ (k : Int) + 1 := by omega
          have hd2 : decide (s.fr < t) = true := by simpa using hft
          by_cases hq : t ≤ s'.fr
          · have HM := Lib.hid (show min t s'.fr = t by omega)
            obtain ⟨m0, m1⟩ := mul_bd (a := t - s.fr) (b := s.sh) (by omega) (by omega) e2 e3
            have HV := Lib.hid (show max 0 (t - s.fr) = t - s.fr by omega)
            have e4 : 0 < t - s.fr := by omega
            go_wp2_with fail
            go_quiet (fail)
            go_wp2_with fail
            go_roundw
            case rel => exact ⟨k + 1, a + (t - s.fr) * s.sh, by omega, by go_num, rfl, by omega, by have := hA1.out; push_cast; omega, by rw [← HC.out, HD.out, HM.out, HV.out]; omega, by first | exact HB.out | exact below_drewN HB.out _⟩
            case measure => simp [intOf]; omega
          · have hq' : s'.fr < t := by omega
            have HM := Lib.hid (show min t s'.fr = s'.fr by omega)
            have e4 : 0 < s'.fr - s.fr := by omega
            obtain ⟨m0, m1⟩ := mul_bd (a := s'.fr - s.fr) (b := s.sh) (by omega) (by omega) e2 e3
            have HV := Lib.hid (show max 0 (s'.fr - s.fr) = s'.fr - s.fr by omega)
            clear hq
            go_wp2_with fail
            go_quiet (fail)
            go_wp2_with fail
            go_roundw
            case rel => exact ⟨k + 1, a + (s'.fr - s.fr) * s.sh, by omega, by go_num, rfl, by omega, by have := hA1.out; push_cast; omega, by rw [← HC.out, HD.out, HM.out, HV.out]; omega, by first | exact HB.out | exact below_drewN HB.out _⟩
            case measure => simp [intOf]; omega
        · have HD := Lib.hid (duesFrom_last t (l := l) (k := k) (by have := HA.out; omega) (by have := HA.out; omega))
          generalize l[k]'(by have := HA.out; omega) = s at s0 s1 HD e0 e1 e2 e3 hft
          have j3 : (n : Int) ≤ (k : Int) + 1 := by omega
          have hd2 : decide (s.fr < t) = true := by simpa using hft
          obtain ⟨m0, m1⟩ := mul_bd (a := t - s.fr) (b := s.sh) (by omega) (by omega) e2 e3
          have HV := Lib.hid (show max 0 (t - s.fr) = t - s.fr by omega)
          go_wp2_with fail
          go_quiet (fail)
          go_wp2_with fail
          go_roundw
          case rel => exact ⟨k + 1, a + (t - s.fr) * s.sh, by omega, by go_num, rfl, by omega, by have := hA1.out; push_cast; omega, by rw [← HC.out, HD.out, HV.out]; omega, by first | exact HB.out | exact below_drewN HB.out _⟩
          case measure => simp [intOf]; omega
      · have HD := Lib.hid (HI.out.beyond (t := t) (k := k) (by have := HA.out; omega) (by omega))
        generalize l[k]'(by have := HA.out; omega) = s at s0 s1 e0 e1 e2 e3 hft
        have hd2 : decide (s.fr < t) = false := by simp; omega
        go_wp2_with fail
        go_ret
        refine ⟨ret_int ?_, by first | exact HB.out | exact below_drewN HB.out _⟩
        have := HC.out
        rw [HD.out] at this
        unfold dues
        rw [← this]
        simp
    · have hkn : n ≤ k := by omega
      have HK := Lib.hid hkn
      have hd1 : decide ((k : Int) < (n : Int)) = false := by simp; omega
      go_wp2_with fail
      go_ret
      refine ⟨ret_int ?_, by first | exact HB.out | exact below_drewN HB.out _⟩
      have := HC.out
      rw [List.drop_eq_nil_of_le (by have := HA.out; have := HK.out; omega)] at this
      simp only [duesFrom, Int.add_zero] at this
      unfold dues
      rw [← this]
end Go.Proofs.Ytkcdknjgjidnnaa
