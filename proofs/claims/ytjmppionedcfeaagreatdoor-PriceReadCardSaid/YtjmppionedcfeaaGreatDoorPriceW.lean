/-
  price.Price, whole.
-/
import Derived.Test.YtjmppionedcfeaaGreatDoorPrice
set_option linter.unusedVariables false
set_option linter.unusedSimpArgs false
namespace Go.Proofs.YtjmppionedcfeaaGreatDoor
open Go.RowKit

set_option maxRecDepth 100000 in
set_option maxHeartbeats 1000000 in
theorem price_any (st gd good : Int) (b n c : Nat) (A : Option Addr) (l : List Sale) (w : World) (hl : Sl encS 6 w b A n l) (hn : n ≤ 1000000000000) :
    Calls Tryz.prog 14 #[.agg #[.int .i64 st, .int .i64 gd, .slice A n c], .int .i64 good] w (PricePost (priceOut st gd good l) (priceErr st gd good l) w) := by
  by_cases hc0 : check st gd l = 0
  · by_cases hg : inB good 0 (gd - 1) = true
    · have he : priceErr st gd good l = 0 := by unfold priceErr; rw [if_neg (by simp [hc0]), if_pos hg]
      have ho : priceOut st gd good l = priceMid (ofGood good l) := by unfold priceOut; rw [if_pos he]
      rw [he, ho]
      exact price_main st gd good b n c A l w hl hn hc0 hg
    · have he : priceErr st gd good l = 3 := by unfold priceErr; rw [if_neg (by simp [hc0]), if_neg hg]
      have ho : priceOut st gd good l = (0, 0, 0) := by unfold priceOut; rw [if_neg (by rw [he]; decide)]
      rw [he, ho]
      have HG := Lib.hid (show inB good 0 (gd - 1) = false by simpa using hg)
      have HC := Lib.hid hc0
      have HIN := Lib.hid (check_zero.1 hc0)
      have hgd1 : 1 ≤ gd := HIN.out.gd0
      have hgd2 : gd ≤ 8 := HIN.out.gd1
      clear hg hc0 he ho
      have hb0 : Below w.heap.size w (((w.alloc (.cells #[.int .i64 st, .int .i64 gd, .slice A n c] 24)).alloc (.cells #[.int .i64 good] 3)).alloc (.cells #[.int .i64 0, .int .i64 0] 42)) := by go_grown
      have HB0 := Lib.hid hb0
      have hl0 := hl.old hb0
      have bk := ((Blk.new w 24 #[.int .i64 st, .int .i64 gd, .slice A n c]).alloc (.cells #[.int .i64 good] 3)).alloc (.cells #[.int .i64 0, .int .i64 0] 42)
      have bg := (Blk.new (w.alloc (.cells #[.int .i64 st, .int .i64 gd, .slice A n c] 24)) 3 #[.int .i64 good]).alloc (.cells #[.int .i64 0, .int .i64 0] 42)
      have bs := Blk.new ((w.alloc (.cells #[.int .i64 st, .int .i64 gd, .slice A n c] 24)).alloc (.cells #[.int .i64 good] 3)) 42 #[.int .i64 0, .int .i64 0]
      simp only [World.size_alloc] at bg bs
      clear hb0
      go_enter Tryz.func14, Tryz.ntmps14
      go_wp2_with fail
      refine (check_any st gd b n c A l _ hl0 hn).mono ?_
      rintro e w1 ⟨rfl, hb1⟩
      rw [HC.out]
      have HLow := Lib.hid (Below.step hb1 HB0.out (Nat.le_refl _))
      have k1 := (bk.below hb1 bk.lt).cell 1
      have g0 := (bg.below hb1 bg.lt).cell 0
      have HS := Lib.hid (bs.below hb1 bs.lt)
      have s0 := HS.out.cell 0
      have s1 := HS.out.cell 1
      have f0 := HS.out.frozen 0
      have f1 := HS.out.frozen 1
      clear hl hl0 bk bg bs hb1
      go_wp2_with fail
      refine (in_any _ _ _ _).mono ?_
      rintro e w2 ⟨rfl, rfl⟩
      rw [HG.out]
      go_wp2_with fail
      have hX9 := (HS.out.set_ 0 (.int .i64 0)).set_ 1 (.int .i64 0)
      have hL9 := (HLow.out.setCell (p := ⟨w.heap.size + 1 + 1, 0, none⟩) (by show w.heap.size ≤ w.heap.size + 1 + 1; omega) (.int .i64 0)).setCell (p := ⟨w.heap.size + 1 + 1, 1, none⟩) (by show w.heap.size ≤ w.heap.size + 1 + 1; omega) (.int .i64 0)
      have d0 := hX9.cell 0
      have d1 := hX9.cell 1
      refine bodyPost_ret (v := .tuple #[.int .i64 0, .agg #[.int .i64 0, .int .i64 0], .int .i64 3]) (by simp [results, Tryz.f14, go_sem, d0, d1]) rfl ?_
      exact ⟨rfl, hL9⟩
  · have he : priceErr st gd good l = check st gd l := by unfold priceErr; rw [if_pos hc0]
    have ho : priceOut st gd good l = (0, 0, 0) := by unfold priceOut; rw [if_neg (by rw [he]; exact hc0)]
    rw [he, ho]
    have HC := Lib.hid (show decide (check st gd l ≠ 0) = true by simpa using hc0)
    have hb0 : Below w.heap.size w (((w.alloc (.cells #[.int .i64 st, .int .i64 gd, .slice A n c] 24)).alloc (.cells #[.int .i64 good] 3)).alloc (.cells #[.int .i64 0, .int .i64 0] 42)) := by go_grown
    have HB0 := Lib.hid hb0
    have hl0 := hl.old hb0
    have bk := ((Blk.new w 24 #[.int .i64 st, .int .i64 gd, .slice A n c]).alloc (.cells #[.int .i64 good] 3)).alloc (.cells #[.int .i64 0, .int .i64 0] 42)
    have bs := Blk.new ((w.alloc (.cells #[.int .i64 st, .int .i64 gd, .slice A n c] 24)).alloc (.cells #[.int .i64 good] 3)) 42 #[.int .i64 0, .int .i64 0]
    simp only [World.size_alloc] at bs
    clear hb0
    go_enter Tryz.func14, Tryz.ntmps14
    go_wp2_with fail
    refine (check_any st gd b n c A l _ hl0 hn).mono ?_
    rintro e w1 ⟨rfl, hb1⟩
    have HLow := Lib.hid (Below.step hb1 HB0.out (Nat.le_refl _))
    have HS := Lib.hid (bs.below hb1 bs.lt)
    have s0 := HS.out.cell 0
    have s1 := HS.out.cell 1
    have f0 := HS.out.frozen 0
    have f1 := HS.out.frozen 1
    clear hl hl0 bk bs hb1
    go_wp2_with fail
    have hX9 := (HS.out.set_ 0 (.int .i64 0)).set_ 1 (.int .i64 0)
    have hL9 := (HLow.out.setCell (p := ⟨w.heap.size + 1 + 1, 0, none⟩) (by show w.heap.size ≤ w.heap.size + 1 + 1; omega) (.int .i64 0)).setCell (p := ⟨w.heap.size + 1 + 1, 1, none⟩) (by show w.heap.size ≤ w.heap.size + 1 + 1; omega) (.int .i64 0)
    have d0 := hX9.cell 0
    have d1 := hX9.cell 1
    refine bodyPost_ret (v := .tuple #[.int .i64 0, .agg #[.int .i64 0, .int .i64 0], .int .i64 (check st gd l)]) (by simp [results, Tryz.f14, go_sem, d0, d1]) rfl ?_
    exact ⟨rfl, hL9⟩
end Go.Proofs.YtjmppionedcfeaaGreatDoor
