/-
  The chapter's example net; that the chapter's examples hold, in plain words. The chapter's example net is made; the chapter's examples hold: the walk.
-/
import Derived.Test.YtkphgdkjjklajaaDoorTrSamW
import Derived.Test.YtkphgdkjjklajaaDoorSame
import Derived.Deep.QuietTactic
import Derived.BigQuiet
set_option linter.unusedVariables false
set_option linter.unusedSimpArgs false
namespace Go.Proofs.YtkphgdkjjklajaaDoor
open Go.RowKit Go.Shelf Go.Sort

def netB : List Int := [100, 50, 0, 20, 0, 0]
def netMv : List Mv := [⟨0, 2, 60⟩, ⟨1, 2, 30⟩, ⟨2, 4, 50⟩, ⟨3, 4, 10⟩, ⟨2, 5, 40⟩]
theorem netA_chk1 : chkO netB netMv [1] = 0 := by kernel_rfl
theorem netA_chk3 : chkO netB netMv [0, 1, 3] = 0 := by kernel_rfl
theorem netA_reach : reachT netB netMv [1] = [⟨0, 0⟩, ⟨20, 20⟩, ⟨0, 0⟩, ⟨0, 0⟩, ⟨0, 30⟩, ⟨0, 30⟩] := by kernel_rfl
theorem netA_recall : recallT netB netMv [1] = [1, 2, 4, 5] := by kernel_rfl
theorem netA_samples : samplesT netB netMv [0, 1, 3] = some [0, 1] := by kernel_rfl
end Go.Proofs.YtkphgdkjjklajaaDoor

namespace Go.Proofs.YtkphgdkjjklajaaDoor
open Go.RowKit Go.Shelf Go.Sort

theorem info_netA : (Tryd.prog.info? 25).map (·.size) = some 2 := by kernel_rfl
theorem kspan_any (lo hi : Int) (w : World) : Calls Tryd.prog 12 #[.int .i64 lo, .int .i64 hi] w fun e w' => e = .returned (.agg #[.int .i64 lo, .int .i64 hi]) ∧ Below w.heap.size w w' := by
  have b0 := (Blk.new w 40 #[.int .i64 0, .int .i64 0])
  have bR := ((b0.set_ 0 (.int .i64 lo)).set_ 1 (.int .i64 hi))
  have q0 := bR.cell 0
  have q1 := bR.cell 1
  clear b0 bR
  go_enter Tryd.func12, Tryd.ntmps12
  go_wp2
  refine bodyPost_ret (v := .agg #[.int .i64 lo, .int .i64 hi]) (by simp [results, Tryd.results12, go_sem, q0, q1]) rfl ?_
  exact ⟨rfl, by go_grown⟩

set_option maxRecDepth 100000 in
set_option maxHeartbeats 1000000 in
theorem net_any (w : World) : Calls Tryd.prog 4 #[] w fun e w' => ∃ b1 b2 A1 A2, e = .returned (netV A1 A2 6 6 5 5) ∧ NetM w' b1 b2 A1 A2 6 6 5 5 netB netMv ∧ w.heap.size ≤ b1 ∧ w.heap.size ≤ b2 ∧ Below w.heap.size w w' := by
  have b0 := Blk.new w 25 #[.slice none 0 0, .slice none 0 0]
  have f0 := b0.frozen 0
  go_enter Tryd.func4, Tryd.ntmps4
  go_wp2
  have hR := (((Blk.new w 25 #[.slice (some ⟨w.heap.size + 1, 0, none⟩) 6 6, .slice (some ⟨w.heap.size + 1 + 1, 0, none⟩) 5 5]).alloc (.cells (netB.flatMap encI).toArray 3)).alloc (.cells (netMv.flatMap encM).toArray 28))
  have h1 := (Sl.new encI_len (w.alloc (.cells #[.slice (some ⟨w.heap.size + 1, 0, none⟩) 6 6, .slice (some ⟨w.heap.size + 1 + 1, 0, none⟩) 5 5] 25)) netB 3 (netB.flatMap encI).toArray rfl).alloc (.cells (netMv.flatMap encM).toArray 28)
  have h2 := (Sl.new encM_len ((w.alloc (.cells #[.slice (some ⟨w.heap.size + 1, 0, none⟩) 6 6, .slice (some ⟨w.heap.size + 1 + 1, 0, none⟩) 5 5] 25)).alloc (.cells (netB.flatMap encI).toArray 3)) netMv 28 (netMv.flatMap encM).toArray rfl)
  rw [World.size_alloc] at h1 h2
  rw [World.size_alloc] at h2
  refine bodyPost_ret (v := netV (some ⟨w.heap.size + 1, 0, none⟩) (some ⟨w.heap.size + 1 + 1, 0, none⟩) 6 6 5 5) (results_cell_row rfl _ _ w.heap.size 25 #[.slice (some ⟨w.heap.size + 1, 0, none⟩) 6 6, .slice (some ⟨w.heap.size + 1 + 1, 0, none⟩) 5 5] (0, 0) _ rfl hR Tryd.underlying25 rfl info_netA) rfl ?_
  exact ⟨_, _, _, _, rfl, ⟨h1, h2, by omega, by omega⟩, by omega, by omega, (((Below.refl _ w).alloc (Nat.le_refl _) _).alloc (by simp) _).alloc (by simp; omega) _⟩

set_option maxRecDepth 100000 in
set_option maxHeartbeats 4000000 in
theorem kawake_any (w : World) : Calls Tryd.prog 5 #[] w fun e w' => e = .returned (.bool true) ∧ Below w.heap.size w w' := by
  go_enter Tryd.func5, Tryd.ntmps5
  go_wp2_with fail
  refine (net_any w).mono ?_
  rintro e w1 ⟨b1, b2, A1, A2, rfl, hN1, _, _, hB1⟩
  have HN1 := Lib.hid (hN1.old ((Below.refl _ w1).alloc (Nat.le_refl _) (.cells #[.int .i64 1] 3)))
  have HB1 := Lib.hid (hB1.alloc hB1.size (.cells #[.int .i64 1] 3))
  have HS1 := Lib.hid (Sl.newI w1 [1] 3)
  clear hN1 hB1
  go_wp2_with fail
  refine (Reach_ok b1 b2 w1.heap.size A1 A2 (some ⟨w1.heap.size, 0, none⟩) 6 6 5 5 1 1 netB netMv [1] _ HN1.out HS1.out netA_chk1).mono ?_
  rintro e w2 ⟨AR, cR, rfl, hoR, hB2⟩
  rw [netA_reach] at hoR
  obtain ⟨bR, _, hsR⟩ := Sl.of_own (enc := encR) encR_len (by rfl) hoR
  have HB2 := Lib.hid (HB1.out.trans (hB2.mono HB1.out.size))
  have HSR := Lib.hid hsR
  clear hoR hB2 hsR HN1 HS1
  go_wp2_with fail
  refine (net_any w2).mono ?_
  rintro e w3 ⟨b3, b4, A3, A4, rfl, hN3, _, _, hB3⟩
  have HN3 := Lib.hid (hN3.old ((Below.refl _ w3).alloc (Nat.le_refl _) (.cells #[.int .i64 1] 3)))
  have hb3 := hB3.alloc hB3.size (.cells #[.int .i64 1] 3)
  have HB3 := Lib.hid (HB2.out.trans (hb3.mono HB2.out.size))
  have HSR3 := Lib.hid (HSR.out.old hb3)
  have HS3 := Lib.hid (Sl.newI w3 [1] 3)
  clear hN3 hB3 hb3
  go_wp2_with fail
  refine (Recall_ok b3 b4 w3.heap.size A3 A4 (some ⟨w3.heap.size, 0, none⟩) 6 6 5 5 1 1 netB netMv [1] _ HN3.out HS3.out netA_chk1).mono ?_
  rintro e w4 ⟨AL, cL, rfl, hoL, hB4⟩
  rw [netA_recall] at hoL ⊢
  obtain ⟨bL, _, hsL⟩ := Sl.of_own (enc := encI) encI_len (by rfl) (by rw [flatI]; exact hoL)
  have HB4 := Lib.hid (HB3.out.trans (hB4.mono HB3.out.size))
  have HSR4 := Lib.hid (HSR3.out.old hB4)
  have HSL := Lib.hid hsL
  clear hoL hB4 hsL HN3 HS3
  go_wp2_with fail
  refine (net_any w4).mono ?_
  rintro e w5 ⟨b5, b6, A5, A6, rfl, hN5, _, _, hB5⟩
  have HN5 := Lib.hid (hN5.old ((Below.refl _ w5).alloc (Nat.le_refl _) (.cells #[.int .i64 0, .int .i64 1, .int .i64 3] 3)))
  have hb5 := hB5.alloc hB5.size (.cells #[.int .i64 0, .int .i64 1, .int .i64 3] 3)
  have HB5 := Lib.hid (HB4.out.trans (hb5.mono HB4.out.size))
  have HSR5 := Lib.hid (HSR4.out.old hb5)
  have HSL5 := Lib.hid (HSL.out.old hb5)
  have HS5 := Lib.hid (Sl.newI w5 [0, 1, 3] 3)
  clear hN5 hB5 hb5
  go_wp2_with fail
  refine (Samples_ok b5 b6 w5.heap.size A5 A6 (some ⟨w5.heap.size, 0, none⟩) 6 6 5 5 3 3 netB netMv [0, 1, 3] _ HN5.out HS5.out (by omega) netA_chk3).mono ?_
  rintro e w6 ⟨hS, hB6⟩
  rw [netA_samples] at hS
  rcases hS with ⟨xs, AX, cX, hx, rfl, hoX⟩ | ⟨hx, _⟩
  case inr => cases hx
  injection hx with hx
  subst hx
  obtain ⟨bX, _, hsX⟩ := Sl.of_own (enc := encI) encI_len (by rfl) hoX
  have HB6 := Lib.hid (HB5.out.trans (hB6.mono HB5.out.size))
  have HSR6 := Lib.hid (HSR5.out.old hB6)
  have HSL6 := Lib.hid (HSL5.out.old hB6)
  have HSX := Lib.hid hsX
  clear hoX hB6 hsX HN5 HS5
  go_wp2_with fail
  refine (kspan_any _ _ _).mono ?_
  rintro e w7 ⟨rfl, hB7⟩
  have HB7 := Lib.hid (HB6.out.trans (hB7.mono HB6.out.size))
  have HSR7 := Lib.hid (HSR6.out.old hB7)
  have HSL7 := Lib.hid (HSL6.out.old hB7)
  have HSX7 := Lib.hid (HSX.out.old hB7)
  clear hB7
  go_wp2_with fail
  refine (kspan_any _ _ _).mono ?_
  rintro e w8 ⟨rfl, hB8⟩
  have HB8 := Lib.hid (HB7.out.trans (hB8.mono HB7.out.size))
  have HSR8 := Lib.hid (HSR7.out.old hB8)
  have HSL8 := Lib.hid (HSL7.out.old hB8)
  have HSX8 := Lib.hid (HSX7.out.old hB8)
  clear hB8
  go_wp2_with fail
  refine (kspan_any _ _ _).mono ?_
  rintro e w9 ⟨rfl, hB9⟩
  have hb9 := hB9.alloc hB9.size (.cells ([⟨0, 0⟩, ⟨20, 20⟩, ⟨0, 0⟩, ⟨0, 0⟩, ⟨0, 30⟩, ⟨0, 30⟩].flatMap encR).toArray 40)
  have HB9 := Lib.hid (HB8.out.trans (hb9.mono HB8.out.size))
  have HSR9 := Lib.hid (HSR8.out.old hb9)
  have HSL9 := Lib.hid (HSL8.out.old hb9)
  have HSX9 := Lib.hid (HSX8.out.old hb9)
  have HSQ9 := Lib.hid (Sl.new encR_len w9 [⟨0, 0⟩, ⟨20, 20⟩, ⟨0, 0⟩, ⟨0, 0⟩, ⟨0, 30⟩, ⟨0, 30⟩] 40 _ rfl)
  clear hB9 hb9
  go_wp2_with fail
  refine (sameSpans_any bR w9.heap.size 6 6 cR 6 AR (some ⟨w9.heap.size, 0, none⟩) _ [⟨0, 0⟩, ⟨20, 20⟩, ⟨0, 0⟩, ⟨0, 0⟩, ⟨0, 30⟩, ⟨0, 30⟩] _ HSR9.out HSQ9.out (by omega)).mono ?_
  rintro e w10 ⟨rfl, hB10⟩
  have hb10 := hB10.alloc hB10.size (.cells #[.int .i64 1, .int .i64 2, .int .i64 4, .int .i64 5] 3)
  have HB10 := Lib.hid (HB9.out.trans (hb10.mono HB9.out.size))
  have HSL10 := Lib.hid (HSL9.out.old hb10)
  have HSX10 := Lib.hid (HSX9.out.old hb10)
  have HSQ10 := Lib.hid (Sl.newI w10 [1, 2, 4, 5] 3)
  clear hB10 hb10
  rw [decide_eq_true (by rfl : [⟨0, 0⟩, ⟨20, 20⟩, ⟨0, 0⟩, ⟨0, 0⟩, ⟨0, 30⟩, ⟨0, 30⟩] = ([⟨0, 0⟩, ⟨20, 20⟩, ⟨0, 0⟩, ⟨0, 0⟩, ⟨0, 30⟩, ⟨0, 30⟩] : List Span))]
  go_wp2_with fail
  refine (sameInts_any bL w10.heap.size 4 4 cL 4 AL (some ⟨w10.heap.size, 0, none⟩) _ [1, 2, 4, 5] _ HSL10.out HSQ10.out (by omega)).mono ?_
  rintro e w11 ⟨rfl, hB11⟩
  have hb11 := hB11.alloc hB11.size (.cells #[.int .i64 0, .int .i64 1] 3)
  have HB11 := Lib.hid (HB10.out.trans (hb11.mono HB10.out.size))
  have HSX11 := Lib.hid (HSX10.out.old hb11)
  have HSQ11 := Lib.hid (Sl.newI w11 [0, 1] 3)
  clear hB11 hb11
  rw [decide_eq_true (by rfl : [1, 2, 4, 5] = ([1, 2, 4, 5] : List Int))]
  go_wp2_with fail
  refine (sameInts_any bX w11.heap.size 2 2 cX 2 AX (some ⟨w11.heap.size, 0, none⟩) _ [0, 1] _ HSX11.out HSQ11.out (by omega)).mono ?_
  rintro e w12 ⟨rfl, hB12⟩
  have HB12 := Lib.hid (HB11.out.trans (hB12.mono HB11.out.size))
  clear hB12
  rw [decide_eq_true (by rfl : [0, 1] = ([0, 1] : List Int))]
  go_wp2_with fail
  go_ret
  exact ⟨rfl, HB12.out⟩
end Go.Proofs.YtkphgdkjjklajaaDoor
