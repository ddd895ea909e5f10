/-
  Small functions of the kit.
-/
import Derived.Test.YtmoolcpogilgkaaApp
import Derived.Deep.QuietTactic
import Derived.BigQuiet
set_option linter.unusedVariables false
set_option linter.unusedSimpArgs false
namespace Go.Proofs.Ytmoolcpogilgkaa
open Go.RowKit

/-- a number brought into bounds -/
def bring (x n : Int) : Int := if n < 2 then 0 else x % n
theorem bring_bd {x n : Int} (h : 1 ≤ n) : 0 ≤ bring x n ∧ bring x n < n := by
  unfold bring
  split
  · omega
  · exact ⟨Int.emod_nonneg _ (by omega), Int.emod_lt_of_pos _ (by omega)⟩
theorem tmod_cases (x n : Int) (h : 2 ≤ n) : (x.tmod n < 0 → x.tmod n + n = x % n) ∧ (0 ≤ x.tmod n → x.tmod n = x % n) ∧ -n < x.tmod n ∧ x.tmod n < n := by
  have h1 := Int.emod_nonneg x (show n ≠ 0 by omega)
  have h2 := Int.emod_lt_of_pos x (show 0 < n by omega)
  have h3 := @Int.tmod_eq_emod x n
  split at h3
  · simp at h3
    rw [h3]
    omega
  · have : (n.natAbs : Int) = n := by omega
    rw [this] at h3
    rw [h3]
    refine ⟨by omega, fun h => ?_, by omega, by omega⟩
    omega

set_option maxHeartbeats 400000 in
theorem bring_any (x n : Int) (w : World) (h1 : -9223372036854775808 ≤ x) (h2 : x ≤ 9223372036854775807) (h3 : n ≤ 1000000000000) :
    Calls Try.prog 20 #[.int .i64 x, .int .i64 n] w fun e w' => e = .returned (.int .i64 (bring x n)) ∧ w = w' := by
  by_cases hn : n < 2
  · go_enter Try.func20, Try.ntmps20
    go_wp2
    go_ret
    exact ⟨ret_int (by simp [bring, hn]), rfl⟩
  · have hn2 : 2 ≤ n := by omega
    obtain ⟨t1, t2, t3, t4⟩ := tmod_cases x n hn2
    have T1 := Lib.hid t1
    have T2 := Lib.hid t2
    have HN := Lib.hid hn
    clear t1 t2 hn
    go_enter Try.func20, Try.ntmps20
    go_wp2
    all_goals go_ret
    · exact ⟨ret_int (by rw [T1.out ‹_›]; unfold bring; rw [if_neg (by omega)]), rfl⟩
    · exact ⟨ret_int (by rw [T2.out ‹_›]; unfold bring; rw [if_neg (by omega)]), rfl⟩

set_option maxHeartbeats 400000 in
theorem has_any (b n c : Nat) (A : Option Addr) (l : List Int) (x : Int) (w : World) (hl : Sl encI 1 w b A n l) (hn : n ≤ 1000000000000) :
    Calls Try.prog 12 #[.slice A n c, .int .i64 x] w fun e w' => e = .returned (.bool (decide (x ∈ l))) ∧ w = w' := by
  have HA := Lib.hid hl.len
  have HL := Lib.hid hl
  clear hl
  go_enter Try.func12, Try.ntmps12
  go_wp2_with fail
  go_loop [5] (fun i => ∃ k : Nat, k ≤ n ∧ i = .int .i64 k ∧ (decide (x ∈ l.drop k)) = decide (x ∈ l)) (fun i => n - (intOf i).toNat)
  case atStart => exact ⟨0, Nat.zero_le _, rfl, rfl⟩
  case round =>
    obtain ⟨k, hk, rfl, hd⟩ := hrel
    have HD := Lib.hid hd
    clear hd
    by_cases hlt : k < n
    · obtain ⟨o, rfl, hb, hc⟩ := HL.out.atI (k := k) (by have := HA.out; omega)
      have HE := Lib.hid (List.drop_eq_getElem_cons (l := l) (i := k) (by have := HA.out; omega))
      generalize hy : l[k]'(by have := HA.out; omega) = y at hc HE
      clear hy
      cases hyx : (y == x)
      · go_wp2_with fail
        go_round
        case rel =>
          refine ⟨k + 1, by omega, by go_num, ?_⟩
          rw [← HD.out, HE.out]
          simp at hyx
          simp [Ne.symm hyx]
        case measure => simp [intOf]; omega
      · go_wp2_with fail
        go_ret
        refine ⟨ret_bool ?_, rfl⟩
        rw [← HD.out, HE.out]
        simp at hyx
        simp [hyx]
    · have hkn : n ≤ k := by omega
      have HK := Lib.hid hkn
      go_wp2_with fail
      go_ret
      refine ⟨ret_bool ?_, rfl⟩
      rw [← HD.out, List.drop_eq_nil_of_le (by have := HA.out; have := HK.out; omega)]
      simp
end Go.Proofs.Ytmoolcpogilgkaa
