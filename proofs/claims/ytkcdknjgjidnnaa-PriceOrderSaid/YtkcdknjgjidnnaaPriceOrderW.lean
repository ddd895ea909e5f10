/-
  The walk of the law PriceOrder.
-/
import Derived.Test.YtkcdknjgjidnnaaNums
import Derived.Test.YtkcdknjgjidnnaaAwake
import Derived.Test.YtkcdknjgjidnnaaOrderLaw
import Derived.Test.YtkcdknjgjidnnaaSealLaw
import Derived.Test.YtkcdknjgjidnnaaStepsOf
import Derived.Test.YtkcdknjgjidnnaaKit2
import Derived.Test.YtkcdknjgjidnnaaRows2
import Derived.Deep.QuietTactic
import Derived.BigQuiet
set_option linter.unusedVariables false
set_option linter.unusedSimpArgs false
namespace Go.Proofs.Ytkcdknjgjidnnaa
open Go.RowKit

set_option maxRecDepth 100000 in
set_option maxHeartbeats 2000000 in
theorem priceOrder_any (A : Option Addr) (n c : Nat) (w : World) (hN : Nums w A n) : Calls Try.prog 8 #[.slice A n c] w fun e w' => e = .returned (.bool true) ∧ Below w.heap.size w w' := by
  obtain ⟨b, l, hl, hw, hn⟩ := hN
  have HW := Lib.hid hw
  clear hw
  obtain ⟨i0, hi, iz0, iz1, iz2⟩ := info_parts info_sale'
  go_enter Try.func8, Try.ntmps8
  go_wp2_with fail
  refine (dieOf_any b n c A l _ hl hn HW.out).mono ?_
  rintro e w1 ⟨d, hd, rfl, hdie, hB1⟩
  have hz1 := hB1.size
  have HB1 := Lib.hid hB1
  clear hB1 hl
  go_wp2_with fail
  refine (bookOf_any d 3 3 12 _ hdie (by omega) (by omega) (by omega) (by omega) (by omega)).mono ?_
  rintro e w2 ⟨st, gd, b1, m, c1, A1, l1, ⟨hs1, hs2, hg1, hg2, hm1, hok1⟩, rfl, hb1, hb1d, hsl1, hd2, hgr2⟩
  obtain ⟨st, rfl⟩ := Int.eq_ofNat_of_zero_le (show 0 ≤ st by omega)
  have HL := Lib.hid hsl1.len
  have HI := Lib.hid (check_ok hs1 (by omega) hg1 (by omega) (by have := HL.out; omega) hok1)
  have HB2 := Lib.hid (Below.stepG hgr2 HB1.out (Nat.le_refl _) hd)
  have hz2 := hgr2.size
  have hdz := hd2.lt
  have S2 := Lib.hid (hsl1.alloc (.cells #[.int .i64 st, .int .i64 gd, .slice A1 m c1] 24))
  have K2 := Lib.hid (Blk.new w2 24 #[.int .i64 st, .int .i64 gd, .slice A1 m c1])
  have D2 := Lib.hid (hd2.alloc (.cells #[.int .i64 st, .int .i64 gd, .slice A1 m c1] 24))
  have L2 := Lib.hid (HB2.out.alloc (by omega) (.cells #[.int .i64 st, .int .i64 gd, .slice A1 m c1] 24))
  clear hok1 hgr2 HB1 hdie hsl1 hd2 HB2
  go_wp2_with fail
  refine (stepsOf_any d 4 _ D2.out (by omega) (by omega)).mono ?_
  rintro e w3 ⟨b3, m3, c3, A3, steps, hsi, hsl4, rfl, hb3, hb3d, hsl3, hd3, hg3⟩
  have K3 := Lib.hid (K2.out.grown hg3 (fun e => by injection e; omega))
  have S3 := Lib.hid (S2.out.grown hg3 (fun _ e => hb1d (by injection e)))
  have L3 := Lib.hid (Below.stepG hg3 L2.out (Nat.le_refl _) hd)
  have HSI := Lib.hid hsi
  have HCS := Lib.hid (chkSteps_ok hsi)
  have k32 := K3.out.cell 2
  have hz3 := hg3.size
  have hb3z := fun h => hsl3.lt h
  have P3 := Lib.hid hsl3
  have HBZ := Lib.hid hb3z
  simp only [World.size_alloc] at hz3 hb3
  clear hsi hsl3 hg3 K2 S2 D2 L2 hb3z
  go_wp2_with fail
  refine (shuffle_any d m _ hd3 (by omega)).mono ?_
  rintro e w4 ⟨b4, ord, rfl, hb4, hb4d, hrow, hlo, hord, hd4, hg4⟩
  have K4 := Lib.hid (K3.out.grown hg4 (fun e => by injection e; omega))
  have S4 := Lib.hid (S3.out.grown hg4 (fun _ e => hb1d (by injection e)))
  have P4 := Lib.hid (P3.out.grown hg4 (fun _ e => hb3d (by injection e)))
  have L4 := Lib.hid (Below.stepG hg4 L3.out (Nat.le_refl _) hd)
  have HORD := Lib.hid hord
  have HROW := Lib.hid hrow
  have HLO := Lib.hid hlo
  have k40 := K4.out.cell 0
  have k41 := K4.out.cell 1
  have hz4 := hg4.size
  clear hord hrow hlo hd3 hd4 hg4 k32 K3 S3 P3 L3
  go_wp2_with fail
  have K4a := Lib.hid (K4.out.alloc (.cells #[.int .i64 st, .int .i64 gd, .slice none 0 0] 24))
  have K7a := Lib.hid (Blk.new w4 24 #[.int .i64 st, .int .i64 gd, .slice none 0 0])
  have S4a := Lib.hid (S4.out.alloc (.cells #[.int .i64 st, .int .i64 gd, .slice none 0 0] 24))
  have P4a := Lib.hid (P4.out.alloc (.cells #[.int .i64 st, .int .i64 gd, .slice none 0 0] 24))
  have R4a := Lib.hid (HROW.out.keep (Below.heap_alloc w4 (.cells #[.int .i64 st, .int .i64 gd, .slice none 0 0] 24) _ HROW.out.lt))
  have L4a := Lib.hid (L4.out.alloc (by omega) (.cells #[.int .i64 st, .int .i64 gd, .slice none 0 0] 24))
  have hb4z := HROW.out.lt
  have HB1Z := Lib.hid (fun h => S4.out.lt h)
  have HB3Z := Lib.hid (fun h => P4.out.lt h)
  have hXz : (w4.alloc (.cells #[.int .i64 st, .int .i64 gd, .slice none 0 0] 24)).heap.size = w4.heap.size + 1 := by simp
  have HXZ := Lib.hid hXz
  clear hXz k40 k41 K4 S4 P4 L4 HROW HBZ
  generalize hX : w4.alloc (.cells #[.int .i64 st, .int .i64 gd, .slice none 0 0] 24) = X at K4a K7a S4a P4a R4a L4a HXZ ⊢
  clear hX
  go_loopw [8] (fun i wr => ∃ (k c7 : Nat) (A7 : Option Addr), k ≤ m ∧ i = .int .i64 k ∧ wr.ownsRow (w4.heap.size + 1) 28 6 (.slice A7 k c7) k (((ord.take k).map (pickS l1)).flatMap encS) ∧ Blk wr w4.heap.size 24 #[.int .i64 st, .int .i64 gd, .slice A7 k c7] ∧ X.grownBy wr (some w4.heap.size)) (fun i _ => m - (intOf i).toNat)
  case atStart => exact ⟨0, 0, none, by omega, rfl, World.ownsRow_nil _ _ _ _, K7a.out, only_refl _ _⟩
  case round =>
    obtain ⟨k, c7, A7, hk, rfl, hown, hk7, hG⟩ := hrel
    have HO := Lib.hid hown
    have HK7 := Lib.hid hk7
    have HG := Lib.hid hG
    have hzr : w4.heap.size + 1 ≤ wr.heap.size := by have := hG.size; have := HXZ.out; omega
    clear hown hk7 hG
    by_cases hlt : k < m
    · obtain ⟨j, hj, hjm⟩ := HORD.out.at (k := k) (by rw [HLO.out]; exact hlt)
      have hoc := (R4a.out.keep (HG.out.block b4 (by have := HXZ.out; omega) (fun e => by injection e; omega))).cell (k := k) (by rw [HLO.out]; exact hlt)
      rw [hj] at hoc
      obtain ⟨o1, rfl, hb1z, s0, s1, s2, s3, s4, s5⟩ := (S4a.out.grown HG.out (fun h e => by have := HB1Z.out h; injection e; omega)).atS (k := j) (by rw [← HL.out]; exact hjm)
      have hb1w := HB1Z.out (by omega)
      have HP := Lib.hid (show ((ord.take (k + 1)).map (pickS l1)).flatMap encS = ((ord.take k).map (pickS l1)).flatMap encS ++ encS (l1[j]'(by rw [← HL.out]; exact hjm)) by
        rw [take_snoc ord k (by rw [HLO.out]; exact hlt), List.map_append, List.flatMap_append, List.map_singleton, hj]
        simp [pickS, List.getD_eq_getElem?_getD, (show j < l1.length by rw [← HL.out]; exact hjm)])
      generalize hS : l1[j]'(by rw [← HL.out]; exact hjm) = s at s0 s1 s2 s3 s4 s5 HP
      have HJ := Lib.hid hj
      clear hS hj
      have k42 := (K4a.out.grown HG.out (fun e => by injection e; omega)).cell 2
      have hFF := Lib.hid (fun (w' : World) (hk : ∀ i, i < w4.heap.size + 1 → w'.heap[i]? = wr.heap[i]?) => (show w'.cell? ⟨w4.heap.size, 2, none⟩ = some (.slice A7 k c7) ∧ w'.cell? ⟨w2.heap.size, 2, none⟩ = some (.slice (some ⟨b1, o1, none⟩) m c1) ∧ w'.cell? ⟨b4, k, none⟩ = some (.int .i64 (j : Int)) ∧
        (w'.cell? ⟨b1, o1 + j * 6, none⟩ = some (.int .i64 s.st) ∧ w'.cell? ⟨b1, o1 + j * 6 + 1, none⟩ = some (.int .i64 s.gd) ∧ w'.cell? ⟨b1, o1 + j * 6 + 2, none⟩ = some (.int .i64 s.gl) ∧ w'.cell? ⟨b1, o1 + j * 6 + 3, none⟩ = some (.int .i64 s.gh) ∧ w'.cell? ⟨b1, o1 + j * 6 + 4, none⟩ = some (.int .i64 s.cl) ∧ w'.cell? ⟨b1, o1 + j * 6 + 5, none⟩ = some (.int .i64 s.ch)) from
        ⟨(World.cell?_of_block (w := wr) (hk _ (by show w4.heap.size < _; omega))).trans (HK7.out.cell 2), (World.cell?_of_block (w := wr) (hk _ (by show w2.heap.size < _; omega))).trans k42, (World.cell?_of_block (w := wr) (hk _ (by show b4 < _; omega))).trans hoc,
          (World.cell?_of_block (w := wr) (hk _ (by show b1 < _; omega))).trans s0, (World.cell?_of_block (w := wr) (hk _ (by show b1 < _; omega))).trans s1, (World.cell?_of_block (w := wr) (hk _ (by show b1 < _; omega))).trans s2, (World.cell?_of_block (w := wr) (hk _ (by show b1 < _; omega))).trans s3, (World.cell?_of_block (w := wr) (hk _ (by show b1 < _; omega))).trans s4, (World.cell?_of_block (w := wr) (hk _ (by show b1 < _; omega))).trans s5⟩))
      have hk0 : (0 : Int) ≤ (k : Int) := by omega
      have hk1 : (k : Int) < (m : Int) := by omega
      have hj0 : (0 : Int) ≤ (j : Int) := by omega
      have hj1 : (j : Int) < (m : Int) := by omega
      have hf7 := HK7.out.frozen 2
      clear hoc s0 s1 s2 s3 s4 s5 k42
      go_wp2_with fail
      refine wp_region_PL [1, 3, 7, 9] (fun w' => w'.cell? ⟨w4.heap.size, 2, none⟩ = some (.slice A7 k c7) ∧ w'.cell? ⟨w2.heap.size, 2, none⟩ = some (.slice (some ⟨b1, o1, none⟩) m c1) ∧ w'.cell? ⟨b4, k, none⟩ = some (.int .i64 (j : Int)) ∧ (w'.cell? ⟨b1, o1 + j * 6, none⟩ = some (.int .i64 s.st) ∧ w'.cell? ⟨b1, o1 + j * 6 + 1, none⟩ = some (.int .i64 s.gd) ∧ w'.cell? ⟨b1, o1 + j * 6 + 2, none⟩ = some (.int .i64 s.gl) ∧ w'.cell? ⟨b1, o1 + j * 6 + 3, none⟩ = some (.int .i64 s.gh) ∧ w'.cell? ⟨b1, o1 + j * 6 + 4, none⟩ = some (.int .i64 s.cl) ∧ w'.cell? ⟨b1, o1 + j * 6 + 5, none⟩ = some (.int .i64 s.ch))) rfl (by kernel_rfl) (hFF.out _ (fun _ _ => rfl)) (fun hF0 => ?_)
      (refine wpAnyP_takeL (i := 0) (v := ?_) rfl (by kernel_rfl) (by kernel_rfl) (by kernel_rfl) (fun _ _ _ h => h) (by rfl) ?_ ?_; rotate_left 1; focus (intro w; go_simp; try with_reducible rfl))
      try simp only [Act.put, List.setIfInBounds_toArray, List.set_cons_zero, List.set_cons_succ]
      (refine wpAnyP_loadL (i := 1) (v := ?_) rfl (by kernel_rfl) (by kernel_rfl) (by kernel_rfl) (by rfl) (fun _ _ _ h => h) hF0 (by rfl) ?_ ?_; rotate_left 1; focus (intro w hFw; (try dsimp only at hFw); go_split_ands; go_simp; try with_reducible rfl))
      try simp only [Act.put, List.setIfInBounds_toArray, List.set_cons_zero, List.set_cons_succ]
      (refine wpAnyP_takeL (i := 2) (v := ?_) rfl (by kernel_rfl) (by kernel_rfl) (by kernel_rfl) (fun _ _ _ h => h) (by rfl) ?_ ?_; rotate_left 1; focus (intro w; go_simp; try with_reducible rfl))
      try simp only [Act.put, List.setIfInBounds_toArray, List.set_cons_zero, List.set_cons_succ]
      (refine wpAnyP_loadL (i := 3) (v := ?_) rfl (by kernel_rfl) (by kernel_rfl) (by kernel_rfl) (by rfl) (fun _ _ _ h => h) hF0 (by rfl) ?_ ?_; rotate_left 1; focus (intro w hFw; (try dsimp only at hFw); go_split_ands; go_simp; try with_reducible rfl))
      try simp only [Act.put, List.setIfInBounds_toArray, List.set_cons_zero, List.set_cons_succ]
      (refine wpAnyP_takeL (i := 4) (v := ?_) rfl (by kernel_rfl) (by kernel_rfl) (by kernel_rfl) (fun _ _ _ h => h) (by rfl) ?_ ?_; rotate_left 1; focus (intro w; go_simp; try with_reducible rfl))
      try simp only [Act.put, List.setIfInBounds_toArray, List.set_cons_zero, List.set_cons_succ]
      (refine wpAnyP_takeL (i := 5) (v := ?_) rfl (by kernel_rfl) (by kernel_rfl) (by kernel_rfl) (fun _ _ _ h => h) (by rfl) ?_ ?_; rotate_left 1; focus (intro w; go_simp; try with_reducible rfl))
      try simp only [Act.put, List.setIfInBounds_toArray, List.set_cons_zero, List.set_cons_succ]
      (refine wpAnyP_takeL (i := 6) (v := ?_) rfl (by kernel_rfl) (by kernel_rfl) (by kernel_rfl) (fun _ _ _ h => h) (by rfl) ?_ ?_; rotate_left 1; focus (intro w; go_simp; try with_reducible rfl))
      try simp only [Act.put, List.setIfInBounds_toArray, List.set_cons_zero, List.set_cons_succ]
      (refine wpAnyP_loadL (i := 7) (v := ?_) rfl (by kernel_rfl) (by kernel_rfl) (by kernel_rfl) (by rfl) (fun _ _ _ h => h) hF0 (by rfl) ?_ ?_; rotate_left 1; focus (intro w hFw; (try dsimp only at hFw); go_split_ands; go_simp; try with_reducible rfl))
      try simp only [Act.put, List.setIfInBounds_toArray, List.set_cons_zero, List.set_cons_succ]
      (refine wpAnyP_takeL (i := 8) (v := ?_) rfl (by kernel_rfl) (by kernel_rfl) (by kernel_rfl) (fun _ _ _ h => h) (by rfl) ?_ ?_; rotate_left 1; focus (intro w; go_simp; try with_reducible rfl))
      try simp only [Act.put, List.setIfInBounds_toArray, List.set_cons_zero, List.set_cons_succ]
      (refine wpAnyP_loadL (i := 9) (v := ?_) rfl (by kernel_rfl) (by kernel_rfl) (by kernel_rfl) (by rfl) (fun _ _ _ h => h) hF0 (by rfl) ?_ ?_; rotate_left 1; focus (intro w hFw; (try dsimp only at hFw); go_split_ands; go_simp; try with_reducible rfl))
      try simp only [Act.put, List.setIfInBounds_toArray, List.set_cons_zero, List.set_cons_succ]
      refine wpAnyP_step (i := 10) rfl (by kernel_rfl) (by rfl) (fun K hK => ?_)
      go_simp
      (refine hK _ _ (hFF.out _ (fun i hi => Below.heap_alloc wr.drew _ i (Nat.lt_of_lt_of_le hi hzr))) (fun hF1 => ?_); clear hK K hF0)
      try simp only [Act.put, List.setIfInBounds_toArray, List.set_cons_zero, List.set_cons_succ]
      refine wpAnyP_step (i := 11) rfl (by kernel_rfl) (by rfl) (fun K hK => ?_)
      (refine wp_append_lies _ _ _ _ rfl (w4.heap.size + 1) 28 i0 _ 6 48 Try.underlying22 hi iz0 iz1 iz2 rfl (by omega) _ k _ (by rfl) ((ownsRow_drew HO.out).alloc _) ⟨wr.heap.size, 0, none⟩ 1 1 (encS s) (by rfl) (by rfl) (World.news_of_block (heap_alloc_new wr.drew _)) (oneS _) (by omega) (by unfold maxLen; omega) (by omega) (by simp; omega) (wr.heap.size + 1) (by simp) ?_; intro g' cap w6 hown6 hgrow hat hlt6; have hb6 : Blk w6 w4.heap.size 24 #[.int .i64 st, .int .i64 gd, .slice A7 k c7] := ((own_keeps ((ownsRow_drew HO.out).alloc _) hgrow (show w4.heap.size < w4.heap.size + 1 by omega) (by simp; omega)).trans (Below.heap_alloc wr.drew _ _ (Nat.lt_of_lt_of_le (show w4.heap.size < w4.heap.size + 1 by omega) hzr))).trans HK7.out; have hf6 := hb6.frozen 2; have hc6 := hb6.cell 2)
      (refine hK _ _ (hFF.out _ (fun i hi => (own_keeps ((ownsRow_drew HO.out).alloc _) hgrow hi (by simp; omega)).trans (Below.heap_alloc wr.drew _ i (Nat.lt_of_lt_of_le hi hzr)))) (fun hF2 => ?_); clear hK K hF1)
      try simp only [Act.put, List.setIfInBounds_toArray, List.set_cons_zero, List.set_cons_succ]
      (refine wpAnyP_takeL (i := 12) (v := ?_) rfl (by kernel_rfl) (by kernel_rfl) (by kernel_rfl) (fun _ _ _ h => h) (by rfl) ?_ ?_; rotate_left 1; focus (intro w; go_simp; try with_reducible rfl))
      try simp only [Act.put, List.setIfInBounds_toArray, List.set_cons_zero, List.set_cons_succ]
      refine wpAnyP_last (i := 13) rfl (by kernel_rfl) (by kernel_rfl) (by rfl) (fun K hK => ?_)
      go_simp
      (refine hK _ _ ?_; clear hK K)
      try simp only [Act.put, List.setIfInBounds_toArray, List.set_cons_zero, List.set_cons_succ]
      refine wpAnyP_done (by kernel_rfl) ?_ _
      have HX6 := Lib.hid (And.intro (hb6.set_ 2 (.slice (some ⟨g', 0, none⟩) (k + 1) cap)) (And.intro (ownsRow_setCell hown6 (p := ⟨w4.heap.size, 2, none⟩) (by show w4.heap.size < _; omega) (.slice (some ⟨g', 0, none⟩) (k + 1) cap)) (only_setCell (p := ⟨w4.heap.size, 2, none⟩) (only_own ((ownsRow_drew HO.out).alloc _) hgrow (only_alloc (only_drew HG.out) _) (by have := HXZ.out; omega)) (.inl rfl) (.slice (some ⟨g', 0, none⟩) (k + 1) cap))))
      clear hown6 hgrow hat hlt6 hb6 hf6 hc6
      go_wp2_with fail
      go_roundw
      case rel => exact ⟨k + 1, cap, _, by omega, by go_num, by rw [HP.out]; exact HX6.out.2.1, HX6.out.1, HX6.out.2.2⟩
      case measure => simp [intOf]; omega
    · obtain rfl : k = m := by omega
      have hperm := order_perm (l := l1) (order := ord) (by have := HORD.out; rw [HL.out] at this; exact this)
      have ho := HO.out
      rw [List.take_of_length_le (by have := HLO.out; omega)] at ho
      obtain ⟨b7, hb7, S7⟩ := Sl.of_own encS_len (by rw [List.length_map]; exact HLO.out.symm) ho
      have HPM := Lib.hid hperm
      have HI7 := Lib.hid (HI.out.perm hperm)
      have T7 := Lib.hid S7
      have T1 := Lib.hid (S4a.out.grown HG.out (fun h e => by have := HB1Z.out h; injection e; omega))
      have TP := Lib.hid (P4a.out.grown HG.out (fun h e => by have := HB3Z.out h; injection e; omega))
      have V4 := Lib.hid (K4a.out.grown HG.out (fun e => by injection e; omega))
      have LV := Lib.hid (Below.stepG HG.out L4a.out (Nat.le_refl _) (by omega))
      generalize ord.map (pickS l1) = l7 at HPM HI7 T7
      have v0 := V4.out.cell 0
      have v1 := V4.out.cell 1
      have v2 := V4.out.cell 2
      clear hperm ho S7 K4a K7a S4a P4a R4a L4a HG HO
      go_wp2_with fail
      refine (dues_ok st gd b1 k c1 b3 m3 c3 A1 A3 l1 steps _ T1.out TP.out HI.out HCS.out).mono ?_
      rintro e w8 ⟨A8, c8, b8, rfl, hs8, hB8⟩
      have P8 := Lib.hid hs8
      have Z8 := Lib.hid hB8
      have hz8 := hB8.size
      have v70 := (HK7.out.below hB8 HK7.out.lt).cell 0
      have v71 := (HK7.out.below hB8 HK7.out.lt).cell 1
      have v72 := (HK7.out.below hB8 HK7.out.lt).cell 2
      clear hs8 hB8 v0 v1 v2
      go_wp2_with fail
      refine (dues_ok st gd b7 k c7 b3 m3 c3 A7 A3 l7 steps _ (T7.out.old Z8.out) (TP.out.old Z8.out) HI7.out HCS.out).mono ?_
      rw [duesAll_perm HPM.out]
      rintro e w9 ⟨A9, c9, b9, rfl, hs9, hB9⟩
      have P9 := Lib.hid (P8.out.old hB9)
      have Q9 := Lib.hid hs9
      have Z9 := Lib.hid (Z8.out.trans (hB9.mono hz8))
      have hz9 := Z9.out.size
      clear hs9 hB9 v70 v71 v72
      go_wp2_with fail
      refine (sameSpans_any b8 b9 st st c8 c9 A8 A9 _ _ _ P9.out Q9.out (by omega)).mono ?_
      rw [decide_eq_true rfl]
      rintro e wa ⟨rfl, hBa⟩
      have Za := Lib.hid (Z9.out.trans (hBa.mono hz9))
      have hza := Za.out.size
      clear hBa
      have W4 := Lib.hid (V4.out.below Za.out V4.out.lt)
      have W7 := Lib.hid (HK7.out.below Za.out HK7.out.lt)
      have U1 := Lib.hid (T1.out.old Za.out)
      have U7 := Lib.hid (T7.out.old Za.out)
      have LA := Lib.hid (Below.step Za.out LV.out (Nat.le_refl _))
      have hwa : w.heap.size ≤ wa.heap.size := LA.out.size
      clear V4 HK7 T1 T7 TP P8 P9 Q9 Z8 Z9 Za LV
      go_wp2_with fail
      go_loopw [13] (fun i wr => ∃ g : Nat, (g : Int) ≤ gd ∧ i = .int .i64 g ∧ Below wa.heap.size wa wr) (fun i _ => gd.toNat - (intOf i).toNat)
      case atStart => exact ⟨0, by omega, rfl, Below.refl _ _⟩
      case round =>
        obtain ⟨g, hg, rfl, hB⟩ := hrel
        have HB := Lib.hid hB
        have hzr2 := hB.size
        have a0 := (W4.out.below hB W4.out.lt).cell 0
        have a1 := (W4.out.below hB W4.out.lt).cell 1
        have a2 := (W4.out.below hB W4.out.lt).cell 2
        clear hB
        by_cases hlt2 : (g : Int) < gd
        · go_wp2_with fail
          refine (price_ok st gd g b1 k c1 A1 l1 _ (U1.out.old HB.out) HI.out (by omega) hlt2).mono ?_
          have HPP := Lib.hid (priceMid_perm (ofGood_perm HPM.out.symm g) (HI.out.good g) (HI7.out.good g))
          rintro e wb ⟨rfl, hBb⟩
          have Hb := Lib.hid (HB.out.trans (hBb.mono hzr2))
          have hzb := hBb.size
          have d0 := (W7.out.below Hb.out W7.out.lt).cell 0
          have d1 := (W7.out.below Hb.out W7.out.lt).cell 1
          have d2 := (W7.out.below Hb.out W7.out.lt).cell 2
          have hk7 : w4.heap.size < wb.heap.size := by have := W7.out.lt; omega
          generalize hpm : priceMid (ofGood g l1) = x at HPP ⊢
          have ka := Blk.new wb 26 #[.int .i64 x.2.1, .int .i64 x.2.2]
          clear hBb a0 a1 a2 hpm
          go_wp2_with fail
          refine (price_ok st gd g b7 k c7 A7 l7 _ ((U7.out.old Hb.out).alloc _) HI7.out (by omega) hlt2).mono ?_
          rw [← HPP.out]
          rintro e wc ⟨rfl, hBc⟩
          have kc := ka.below hBc ka.lt
          have Hc := Lib.hid ((Hb.out.alloc (by omega) _).trans (hBc.mono (by simp; omega)))
          have x0 := kc.cell 0
          have x1 := kc.cell 1
          have hkc := kc.lt
          have hzc := hBc.size
          simp only [World.size_alloc] at hzc
          clear hBc d0 d1 d2 hk7 ka kc
          go_wp2_with fail
          go_roundw
          case rel => exact ⟨g + 1, by omega, by go_num, Hc.out.alloc (by omega) _⟩
          case measure => simp [intOf]; omega
        · have HGD := Lib.hid (show (g : Int) = gd by omega)
          have HW4 := Lib.hid (W4.out.below HB.out W4.out.lt)
          have HW7 := Lib.hid (W7.out.below HB.out W7.out.lt)
          have UU1 := Lib.hid (U1.out.old HB.out)
          have UU7 := Lib.hid (U7.out.old HB.out)
          have LR := Lib.hid (Below.step HB.out LA.out (Nat.le_refl _))
          have hwr : w.heap.size ≤ wr.heap.size := LR.out.size
          clear W4 W7 U1 U7 LA HB hzr2
          go_wp2_with fail
          go_loopw [20] (fun i ws => ∃ s : Nat, s ≤ st ∧ i = .int .i64 s ∧ Below wr.heap.size wr ws) (fun i _ => st - (intOf i).toNat)
          case atStart => exact ⟨0, by omega, rfl, Below.refl _ _⟩
          case round =>
            obtain ⟨s, hs, rfl, hB⟩ := hrel
            rename_i ws _
            have HB := Lib.hid hB
            have hzr2 := hB.size
            have a0 := (HW4.out.below hB HW4.out.lt).cell 0
            have a1 := (HW4.out.below hB HW4.out.lt).cell 1
            have a2 := (HW4.out.below hB HW4.out.lt).cell 2
            clear hB
            by_cases hlt2 : s < st
            · go_wp2_with fail
              refine (turnover_ok st gd s b1 k c1 A1 l1 _ (UU1.out.old HB.out) HI.out (by omega) (by omega)).mono ?_
              have HPP := Lib.hid (turn_perm HPM.out s)
              rintro e wb ⟨rfl, hBb⟩
              have Hb := Lib.hid (HB.out.trans (hBb.mono hzr2))
              have hzb := hBb.size
              have d0 := (HW7.out.below Hb.out HW7.out.lt).cell 0
              have d1 := (HW7.out.below Hb.out HW7.out.lt).cell 1
              have d2 := (HW7.out.below Hb.out HW7.out.lt).cell 2
              have hk7 : w4.heap.size < wb.heap.size := by have := HW7.out.lt; omega
              generalize hpm : turn l1 (s : Int) = x at HPP ⊢
              have ka := Blk.new wb 26 #[.int .i64 x.lo, .int .i64 x.hi]
              clear hBb a0 a1 a2 hpm
              go_wp2_with fail
              refine (turnover_ok st gd s b7 k c7 A7 l7 _ ((UU7.out.old Hb.out).alloc _) HI7.out (by omega) (by omega)).mono ?_
              rw [HPP.out]
              rintro e wc ⟨rfl, hBc⟩
              have kc := ka.below hBc ka.lt
              have Hc := Lib.hid ((Hb.out.alloc (by omega) _).trans (hBc.mono (by simp; omega)))
              have x0 := kc.cell 0
              have x1 := kc.cell 1
              have hkc := kc.lt
              have hzc := hBc.size
              simp only [World.size_alloc] at hzc
              clear hBc d0 d1 d2 hk7 ka kc
              go_wp2_with fail
              go_roundw
              case rel => exact ⟨s + 1, by omega, by go_num, Hc.out.alloc (by omega) _⟩
              case measure => simp [intOf]; omega
            · have HSD := Lib.hid (show s = st by omega)
              go_wp2_with fail
              refine (awake_any _).mono ?_
              rintro e wd ⟨rfl, hBd⟩
              have LD := Lib.hid (Below.step hBd (Below.step HB.out LR.out (Nat.le_refl _)) (Nat.le_refl _))
              clear hBd
              go_wp2_with fail
              go_ret
              exact ⟨rfl, LD.out⟩
end Go.Proofs.Ytkcdknjgjidnnaa
