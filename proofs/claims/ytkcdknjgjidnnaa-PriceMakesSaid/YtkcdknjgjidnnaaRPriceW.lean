/-
  The day's price of the reference, whole.
-/
import Derived.Test.YtkcdknjgjidnnaaRPrice
set_option linter.unusedVariables false
set_option linter.unusedSimpArgs false
namespace Go.Proofs.Ytkcdknjgjidnnaa
open Go.RowKit

set_option maxRecDepth 100000 in
set_option maxHeartbeats 1000000 in
theorem rprice_any (st gd good : Int) (b n c : Nat) (A : Option Addr) (l : List Sale) (w : World) (hl : Sl encS 6 w b A n l) (hn : n ≤ 1000000000000) :
    Calls Try.prog 21 #[.agg #[.int .i64 st, .int .i64 gd, .slice A n c], .int .i64 good] w (PricePost (priceOut st gd good l) (priceErr st gd good l) w) := by
  by_cases hc0 : check st gd l = 0
  · by_cases hg : inB good 0 (gd - 1) = true
    · have he : priceErr st gd good l = 0 := by unfold priceErr; rw [if_neg (by simp [hc0]), if_pos hg]
      have ho : priceOut st gd good l = refMid (ofGood good l) := by unfold priceOut; rw [if_pos he, refMid_eq ((check_zero.1 hc0).good good)]
      rw [he, ho]
      exact rprice_main st gd good b n c A l w hl hn hc0 hg
    · have he : priceErr st gd good l = 3 := by unfold priceErr; rw [if_neg (by simp [hc0]), if_neg hg]
      have ho : priceOut st gd good l = (0, 0, 0) := by unfold priceOut; rw [if_neg (by rw [he]; decide)]
      rw [he, ho]
      have HG := Lib.hid (show inB good 0 (gd - 1) = false by simpa using hg)
      have HC := Lib.hid hc0
      have HIN := Lib.hid (check_zero.1 hc0)
      have hgd1 : 1 ≤ gd := HIN.out.gd0
      have hgd2 : gd ≤ 8 := HIN.out.gd1
      clear hg hc0 he ho
      have hR0 : RP w st gd A n c ((w.alloc (.cells #[.int .i64 st, .int .i64 gd, .slice A n c] 24)).alloc (.cells #[.int .i64 0, .int .i64 0] 26)) := by
        refine ⟨by go_grown, (Blk.new w 24 _).alloc _, ?_⟩
        have := Blk.new (w.alloc (.cells #[.int .i64 st, .int .i64 gd, .slice A n c] 24)) 26 #[.int .i64 0, .int .i64 0]
        simpa only [World.size_alloc] using this
      have HR0 := Lib.hid hR0
      have HL := Lib.hid hl
      clear hl hR0
      go_enter Try.func21, Try.ntmps21
      go_wp2_with fail
      refine (rcheck_any st gd b n c A l _ (HL.out.old HR0.out.low) hn).mono ?_
      rintro e w1 ⟨rfl, hb1⟩
      rw [HC.out]
      have HR1 := Lib.hid (HR0.out.below hb1)
      have k1 := HR1.out.bk.cell 1
      have f0 := HR1.out.sp.frozen 0
      have f1 := HR1.out.sp.frozen 1
      have e0 := HR1.out.sp.cell 0
      have e1 := HR1.out.sp.cell 1
      clear hb1
      go_wp2_with fail
      refine (within_any _ _ _ _).mono ?_
      rintro e w2 ⟨rfl, rfl⟩
      rw [HG.out]
      go_wp2_with fail
      have hX9 := (HR1.out.sp.set_ 0 (.int .i64 0)).set_ 1 (.int .i64 0)
      have hL9 := (HR1.out.low.setCell (p := ⟨w.heap.size + 1, 0, none⟩) (by show w.heap.size ≤ w.heap.size + 1; omega) (.int .i64 0)).setCell (p := ⟨w.heap.size + 1, 1, none⟩) (by show w.heap.size ≤ w.heap.size + 1; omega) (.int .i64 0)
      have d0 := hX9.cell 0
      have d1 := hX9.cell 1
      refine bodyPost_ret (v := .tuple #[.int .i64 0, .agg #[.int .i64 0, .int .i64 0], .int .i64 3]) (by simp [results, Try.f21, go_sem, d0, d1]) rfl ?_
      exact ⟨rfl, hL9⟩
  · have he : priceErr st gd good l = check st gd l := by unfold priceErr; rw [if_pos hc0]
    have ho : priceOut st gd good l = (0, 0, 0) := by unfold priceOut; rw [if_neg (by rw [he]; exact hc0)]
    rw [he, ho]
    have HC := Lib.hid (show decide (check st gd l ≠ 0) = true by simpa using hc0)
    have hR0 : RP w st gd A n c ((w.alloc (.cells #[.int .i64 st, .int .i64 gd, .slice A n c] 24)).alloc (.cells #[.int .i64 0, .int .i64 0] 26)) := by
      refine ⟨by go_grown, (Blk.new w 24 _).alloc _, ?_⟩
      have := Blk.new (w.alloc (.cells #[.int .i64 st, .int .i64 gd, .slice A n c] 24)) 26 #[.int .i64 0, .int .i64 0]
      simpa only [World.size_alloc] using this
    have HR0 := Lib.hid hR0
    have HL := Lib.hid hl
    clear hl hR0 he ho
    go_enter Try.func21, Try.ntmps21
    go_wp2_with fail
    refine (rcheck_any st gd b n c A l _ (HL.out.old HR0.out.low) hn).mono ?_
    rintro e w1 ⟨rfl, hb1⟩
    have HR1 := Lib.hid (HR0.out.below hb1)
    have f0 := HR1.out.sp.frozen 0
    have f1 := HR1.out.sp.frozen 1
    have e0 := HR1.out.sp.cell 0
    have e1 := HR1.out.sp.cell 1
    clear hb1
    generalize hq : check st gd l = q at hc0 HC ⊢
    have hqb : (q == 0) = false := by simpa using hc0
    go_wp2_with fail
    have hX9 := (HR1.out.sp.set_ 0 (.int .i64 0)).set_ 1 (.int .i64 0)
    have hL9 := (HR1.out.low.setCell (p := ⟨w.heap.size + 1, 0, none⟩) (by show w.heap.size ≤ w.heap.size + 1; omega) (.int .i64 0)).setCell (p := ⟨w.heap.size + 1, 1, none⟩) (by show w.heap.size ≤ w.heap.size + 1; omega) (.int .i64 0)
    have d0 := hX9.cell 0
    have d1 := hX9.cell 1
    refine bodyPost_ret (v := .tuple #[.int .i64 0, .agg #[.int .i64 0, .int .i64 0], .int .i64 q]) (by simp [results, Try.f21, go_sem, d0, d1]) rfl ?_
    exact ⟨by rw [hq], hL9⟩
end Go.Proofs.Ytkcdknjgjidnnaa
