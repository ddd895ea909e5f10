/-
  Seal.
-/
import Derived.Test.YtkcdknjgjidnnaaSeal
set_option linter.unusedVariables false
set_option linter.unusedSimpArgs false
namespace Go.Proofs.Ytkcdknjgjidnnaa
open Go.RowKit

theorem results_pair {fn : Func} {t u : Tmp} (h : fn.results = #[.tmp t, .tmp u]) (tmps : Array Value) (P : Program) (w : World) :
    (results fn tmps).run P w = .ok (.tuple #[tmps.getD t undef, tmps.getD u undef]) w := by simp [results, h]

set_option maxRecDepth 100000 in
set_option maxHeartbeats 1000000 in
theorem sealTop_any (st gd : Int) (b n c : Nat) (A : Option Addr) (l : List Sale) (w : World) (hl : Sl encS 6 w b A n l) (hn : n ≤ 1000000000000) :
    Calls Try.prog 27 #[.agg #[.int .i64 st, .int .i64 gd, .slice A n c]] w fun e w' => e = .returned (.tuple #[.int .i64 (if check st gd l = 0 then sealOf st gd l else 0), .int .i64 (check st gd l)]) ∧ Below w.heap.size w w' := by
  have HL := Lib.hid hl
  have hO := OverBook.start w st gd A n c
  cases hc : (check st gd l != 0)
  · have hc0 : check st gd l = 0 := by simpa using hc
    have HC := Lib.hid hc0
    have hin := check_zero.1 hc0
    clear hc0
    go_enter Try.func27, Try.ntmps27
    go_wp2_with fail
    refine (check_any st gd b n c A l _ (hl.alloc _) hn).mono ?_
    rintro e w1 ⟨rfl, hb1⟩
    have hO1 := hO.below hb1
    have c0 := hO1.blk.cell 0
    have c1 := hO1.blk.cell 1
    have c2 := hO1.blk.cell 2
    have hl1 := HL.out.old hO1.low
    have HO1 := Lib.hid hO1
    have HL1 := Lib.hid hl1
    clear hl hb1 hO hO1 hl1
    go_wp2_with fail
    refine (sealOf_any st gd b n c A l _ HL1.out hin).mono ?_
    rintro e w2 ⟨rfl, hb2⟩
    go_wp2_with fail
    go_ret2
    refine ⟨?_, Below.step hb2 HO1.out.low (Nat.le_refl _)⟩
    simp [HC.out]
  · have hc0 : check st gd l ≠ 0 := by simpa using hc
    have HC := Lib.hid hc0
    clear hc0
    go_enter Try.func27, Try.ntmps27
    go_wp2_with fail
    refine (check_any st gd b n c A l _ (hl.alloc _) hn).mono ?_
    rintro e w1 ⟨rfl, hb1⟩
    have HO1 := Lib.hid (hO.below hb1)
    clear hl hb1 hO
    go_wp2_with fail
    go_ret2
    exact ⟨by simp [HC.out], HO1.out.low⟩
end Go.Proofs.Ytkcdknjgjidnnaa
