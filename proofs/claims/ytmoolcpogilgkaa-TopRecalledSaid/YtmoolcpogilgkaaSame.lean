/-
  Comparisons and copies of lists.
-/
import Derived.Test.YtmoolcpogilgkaaEnc
import Derived.Deep.QuietTactic
import Derived.BigQuiet
set_option linter.unusedVariables false
set_option linter.unusedSimpArgs false
namespace Go.Proofs.Ytmoolcpogilgkaa
open Go.RowKit

theorem drop_eq {α : Type} [DecidableEq α] {a b : List α} {k : Nat} (ha : k < a.length) (hb : k < b.length) :
    decide (a.drop k = b.drop k) = (decide (a[k] = b[k]) && decide (a.drop (k + 1) = b.drop (k + 1))) := by
  rw [Bool.eq_iff_iff]
  simp only [decide_eq_true_eq, Bool.and_eq_true]
  rw [List.drop_eq_getElem_cons ha, List.drop_eq_getElem_cons hb]
  simp only [List.cons.injEq]
theorem drop_all {α : Type} [DecidableEq α] {a b : List α} {k : Nat} (ha : a.length ≤ k) (hb : b.length ≤ k) : decide (a.drop k = b.drop k) = true := by
  rw [List.drop_eq_nil_of_le ha, List.drop_eq_nil_of_le hb]
  simp

set_option maxHeartbeats 400000 in
theorem sameInts_any (b1 b2 n1 n2 c1 c2 : Nat) (A1 A2 : Option Addr) (l1 l2 : List Int) (w : World) (h1 : Sl encI 1 w b1 A1 n1 l1) (h2 : Sl encI 1 w b2 A2 n2 l2) (hn : n1 ≤ 1000000000000) :
    Calls Try.prog 35 #[.slice A1 n1 c1, .slice A2 n2 c2] w fun e w' => e = .returned (.bool (decide (l1 = l2))) ∧ Below w.heap.size w w' := by
  have HA := Lib.hid h1.len
  have HB := Lib.hid h2.len
  have H1 := Lib.hid h1
  have H2 := Lib.hid h2
  clear h1 h2
  go_enter Try.func35, Try.ntmps35
  go_wp2_with fail
  go_loopw [5, 6] (fun v i wr => ∃ (k : Nat) (s : Bool), i = .int .i64 k ∧ v = .bool s ∧ k ≤ n1 ∧ (s = true → n1 = n2) ∧ (s && decide (l1.drop k = l2.drop k)) = decide (l1 = l2) ∧ Below w.heap.size w wr) (fun _ i _ => n1 - (intOf i).toNat)
  case atStart =>
    refine ⟨0, decide (n1 = n2), rfl, ?_, Nat.zero_le _, by simp, ?_, Below.refl _ _⟩
    · congr 1
      by_cases h : n1 = n2
      · simp [h]
      · simp only [h, decide_false, beq_eq_false_iff_ne]
        omega
    · by_cases h : n1 = n2
      · simp [h]
      · have : ¬ l1 = l2 := fun e => h (by rw [HA.out, HB.out, e])
        simp [h, this]
  case round =>
    obtain ⟨k, s, rfl, rfl, hk, hs, hd, hB⟩ := hrel
    have HD := Lib.hid hd
    clear hd
    cases s with
    | false =>
      go_wp2_with fail
      go_ret
      exact ⟨ret_bool (by rw [← HD.out]; rfl), hB⟩
    | true =>
      have hnn := hs rfl
      have HN := Lib.hid hnn
      clear hnn hs
      by_cases hlt : k < n1
      · have HLT := Lib.hid hlt
        obtain ⟨o1, rfl, hb1, q1⟩ := (H1.out.old hB).atI (k := k) (by have := HA.out; omega)
        obtain ⟨o2, rfl, hb2, q2⟩ := (H2.out.old hB).atI (k := k) (by have := HB.out; have := HN.out; omega)
        have hlt2 : (k : Int) < (n2 : Int) := by have := HN.out; omega
        have hlt1 : (k : Int) < (n1 : Int) := by omega
        have hk0 : (0 : Int) ≤ (k : Int) := by omega
        have hd1 : decide ((k : Int) < (n1 : Int)) = true := by simpa using hlt1
        generalize hx : l1[k]'(by have := HA.out; omega) = x at q1
        generalize hy : l2[k]'(by have := HB.out; have := HN.out; omega) = y at q2
        have HX := Lib.hid hx
        have HY := Lib.hid hy
        clear hx hy
        go_wp2_with fail
        go_quiet (fail)
        go_wp2_with fail
        go_roundw
        case rel =>
          refine ⟨k + 1, x == y, by go_num, rfl, by omega, fun _ => HN.out, ?_, below_drewN hB _⟩
          rw [← HD.out, drop_eq (a := l1) (b := l2) (k := k) (by have := HA.out; have := HLT.out; omega) (by have := HB.out; have := HN.out; have := HLT.out; omega), HX.out, HY.out]
          rw [show decide (x = y) = (x == y) from by rw [Bool.eq_iff_iff]; simp, Bool.true_and]
        case measure => simp [intOf]; omega
      · have HG := Lib.hid (show n1 ≤ k by omega)
        have hd1 : decide ((k : Int) < (n1 : Int)) = false := by simp; omega
        go_wp2_with fail
        go_ret
        refine ⟨ret_bool ?_, hB⟩
        rw [← HD.out, drop_all (a := l1) (b := l2) (k := k) (by have := HA.out; have := HG.out; omega) (by have := HB.out; have := HN.out; have := HG.out; omega)]
        rfl
end Go.Proofs.Ytmoolcpogilgkaa
