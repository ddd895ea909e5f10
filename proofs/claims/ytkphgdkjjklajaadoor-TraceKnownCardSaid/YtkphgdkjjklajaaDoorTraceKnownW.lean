/-
  The walk of the law TraceKnown.
-/
import Derived.Test.YtkphgdkjjklajaaDoorTrAwk
import Derived.Test.YtkphgdkjjklajaaDoorTrOri
import Derived.Test.YtkphgdkjjklajaaDoorTrHol
import Derived.Test.YtkphgdkjjklajaaDoorTrWrite
set_option linter.unusedVariables false
set_option linter.unusedSimpArgs false
namespace Go.Proofs.YtkphgdkjjklajaaDoor
open Go.RowKit Go.Shelf Go.Sort

/-- the step of a region's first operation -/
theorem wpAnyP_step0 {P : Program} {Q : Exit → Act → World → Prop} {md : Region.Mode} {F : World → Prop} {L : List Nat} {r : List Oper} {oi : Oper} {fuel : Nat} {listed : Array Bool} {a : Act} {w : World} (hr : Region.ready md (oi :: r).toArray listed = [0])
    (hw : Region.wanted oi (yielded (oi :: r).toArray a.tmps) = true)
    (h : ∀ K : Act → World → Prop, (∀ a' w', F w' → (F w' → wpAnyP P md (oi :: r).toArray Q F L fuel (listed.setIfInBounds 0 true) a' w') → K a' w') → oi.wp P a w K Q) :
    wpAnyP P md (oi :: r).toArray Q F L (fuel + 1) listed a w := wpAnyP_step (l := oi :: r) (i := 0) rfl hr hw h
def farMv : List Mv := [⟨6, 2, 60⟩, ⟨1, 2, 30⟩, ⟨2, 4, 50⟩, ⟨3, 4, 10⟩, ⟨2, 5, 40⟩]
def muchMv : List Mv := [⟨0, 2, 101⟩, ⟨1, 2, 30⟩, ⟨2, 4, 50⟩, ⟨3, 4, 10⟩, ⟨2, 5, 40⟩]
def sameMv : List Mv := [⟨2, 2, 60⟩, ⟨1, 2, 30⟩, ⟨2, 4, 50⟩, ⟨3, 4, 10⟩, ⟨2, 5, 40⟩]
theorem kn_chk : chkNet netB netMv = 0 := by kernel_rfl
theorem kn_none : chkNet [] netMv = 7 := by kernel_rfl
theorem kn_far : chkNet netB farMv = 3 := by kernel_rfl
theorem kn_much : chkNet netB muchMv = 13 := by kernel_rfl
theorem kn_same : chkNet netB sameMv = 2 := by kernel_rfl
theorem kn_holds : holdsT netB netMv = [40, 20, 0, 10, 60, 40] := by kernel_rfl
theorem kn_c0 : chkO netB netMv [0] = 0 := by kernel_rfl
theorem kn_c3 : chkO netB netMv [3] = 0 := by kernel_rfl
theorem kn_c03 : chkO netB netMv [0, 3] = 0 := by kernel_rfl
theorem kn_c24 : chkO netB netMv [2, 4] = 0 := by kernel_rfl
theorem kn_reach : reachT netB netMv [0] = [⟨40, 40⟩, ⟨0, 0⟩, ⟨0, 0⟩, ⟨0, 0⟩, ⟨20, 50⟩, ⟨10, 40⟩] := by kernel_rfl
theorem kn_through : throughT netB netMv [0] = [⟨60, 60⟩, ⟨0, 0⟩, ⟨20, 50⟩, ⟨0, 0⟩, ⟨10, 40⟩] := by kernel_rfl
theorem kn_recall : recallT netB netMv [3] = [3, 4] := by kernel_rfl
theorem kn_or4 : originsT netB netMv 4 = [0, 1, 3] := by kernel_rfl
theorem kn_or5 : originsT netB netMv 5 = [0, 1] := by kernel_rfl
theorem kn_or2 : originsT netB netMv 2 = [] := by kernel_rfl
theorem kn_s03 : samplesT netB netMv [0, 3] = some [0] := by kernel_rfl
theorem kn_s0 : samplesT netB netMv [0] = some [] := by kernel_rfl
theorem kn_s24 : samplesT netB netMv [2, 4] = none := by kernel_rfl
theorem kn_trail : trailT netB netMv = [98, 97, 116, 99, 104, 32, 49, 48, 48, 10, 98, 97, 116, 99, 104, 32, 53, 48, 10, 98, 97, 116, 99, 104, 32, 48, 10, 98, 97, 116, 99, 104, 32, 50, 48, 10, 98, 97, 116, 99, 104, 32, 48, 10, 98, 97, 116, 99, 104, 32, 48, 10, 109, 111, 118, 101, 32, 48, 32, 50, 32, 54, 48, 10, 109, 111, 118, 101, 32, 49, 32, 50, 32, 51, 48, 10, 109, 111, 118, 101, 32, 50, 32, 52, 32, 53, 48, 10, 109, 111, 118, 101, 32, 51, 32, 52, 32, 49, 48, 10, 109, 111, 118, 101, 32, 50, 32, 53, 32, 52, 48, 10, 101, 110, 100, 32, 53, 10] := by kernel_rfl
theorem Sl.ofBlk {α : Type} {enc : α → List Value} {m : Nat} (hm : ∀ x, (enc x).length = m) {W : World} {g : Nat} {t : TypeId} {l : List α} (h : Blk W g t (l.flatMap enc).toArray) : Sl enc m W g (some ⟨g, 0, none⟩) l.length l := by
  refine ⟨rfl, fun hn => ⟨0, rfl, h.lt, fun k hk j u hu => ?_⟩⟩
  rw [h.cell, ← Array.getElem?_toList, show 0 + k * m + j = k * m + j from by omega]
  exact flat_at hm l k hk j u hu

set_option maxRecDepth 100000 in
set_option maxHeartbeats 1000000 in
theorem net2_any (w : World) : Calls Tryd.prog 4 #[] w fun e w' => e = .returned (netV (some ⟨w.heap.size + 1, 0, none⟩) (some ⟨w.heap.size + 1 + 1, 0, none⟩) 6 6 5 5) ∧ Blk w' (w.heap.size + 1) 3 (netB.flatMap encI).toArray ∧ Blk w' (w.heap.size + 1 + 1) 28 (netMv.flatMap encM).toArray ∧ w'.heap.size = w.heap.size + 3 ∧ Below w.heap.size w w' := by
  have b0 := Blk.new w 25 #[.slice none 0 0, .slice none 0 0]
  have f0 := b0.frozen 0
  go_enter Tryd.func4, Tryd.ntmps4
  go_wp2
  have hR := (((Blk.new w 25 #[.slice (some ⟨w.heap.size + 1, 0, none⟩) 6 6, .slice (some ⟨w.heap.size + 1 + 1, 0, none⟩) 5 5]).alloc (.cells (netB.flatMap encI).toArray 3)).alloc (.cells (netMv.flatMap encM).toArray 28))
  have h1 := (Blk.new (w.alloc (.cells #[.slice (some ⟨w.heap.size + 1, 0, none⟩) 6 6, .slice (some ⟨w.heap.size + 1 + 1, 0, none⟩) 5 5] 25)) 3 (netB.flatMap encI).toArray).alloc (.cells (netMv.flatMap encM).toArray 28)
  have h2 := Blk.new ((w.alloc (.cells #[.slice (some ⟨w.heap.size + 1, 0, none⟩) 6 6, .slice (some ⟨w.heap.size + 1 + 1, 0, none⟩) 5 5] 25)).alloc (.cells (netB.flatMap encI).toArray 3)) 28 (netMv.flatMap encM).toArray
  rw [World.size_alloc] at h1 h2
  rw [World.size_alloc] at h2
  refine bodyPost_ret (v := netV (some ⟨w.heap.size + 1, 0, none⟩) (some ⟨w.heap.size + 1 + 1, 0, none⟩) 6 6 5 5) (results_cell_row rfl _ _ w.heap.size 25 #[.slice (some ⟨w.heap.size + 1, 0, none⟩) 6 6, .slice (some ⟨w.heap.size + 1 + 1, 0, none⟩) 5 5] (0, 0) _ rfl hR Tryd.underlying25 rfl info_netA) rfl ?_
  exact ⟨rfl, h1, h2, by simp, (((Below.refl _ w).alloc (Nat.le_refl _) _).alloc (by simp) _).alloc (by simp; omega) _⟩

set_option maxRecDepth 100000 in
set_option maxHeartbeats 4000000 in
theorem traceKnown_any (w : World) (hp : Pow w) : Calls Tryd.prog 3 #[] w fun e w' => e = .returned (.bool true) ∧ Below w.heap.size w w' := by
  have HPW := Lib.hid hp
  clear hp
  go_enter Tryd.func3, Tryd.ntmps3
  go_wp2_with fail
  refine (net2_any _).mono ?_
  rintro e w1 ⟨rfl, hb, hm, hz1, hB⟩
  have hW := hB
  have hb1 := hb
  have hm1 := hm
  have HZ1 := Lib.hid hz1
  clear hb hm hB hz1
  have Hb1_1 := Lib.hid hb1
  have Hm1_1 := Lib.hid hm1
  have HW_1 := Lib.hid hW
  clear hW hb1 hm1
  go_wp2_with fail
  have hW := HW_1.out
  have hb1 := Hb1_1.out
  have hm1 := Hm1_1.out
  refine (net2_any _).mono ?_
  rintro e w2 ⟨rfl, hb, hm, hz2, hB⟩
  replace hb1 := hb1.below hB hb1.lt
  replace hm1 := hm1.below hB hm1.lt
  replace hW := hW.trans (hB.mono hW.size)
  have hb2 := hb
  have hm2 := hm
  have HZ2 := Lib.hid hz2
  clear hb hm hB hz2
  have Hb1_2 := Lib.hid hb1
  have Hm1_2 := Lib.hid hm1
  have Hb2_2 := Lib.hid hb2
  have Hm2_2 := Lib.hid hm2
  have HW_2 := Lib.hid hW
  clear hW hb1 hm1 hb2 hm2 HW_1 Hb1_1 Hm1_1
  go_wp2_with fail
  have hW := HW_2.out
  have hb1 := Hb1_2.out
  have hm1 := Hm1_2.out
  have hb2 := Hb2_2.out
  have hm2 := Hm2_2.out
  refine (net2_any _).mono ?_
  rintro e w3 ⟨rfl, hb, hm, hz3, hB⟩
  replace hb1 := hb1.below hB hb1.lt
  replace hm1 := hm1.below hB hm1.lt
  replace hb2 := hb2.below hB hb2.lt
  replace hm2 := hm2.below hB hm2.lt
  replace hW := hW.trans (hB.mono hW.size)
  have hb3 := hb
  have hm3 := hm
  have HZ3 := Lib.hid hz3
  clear hb hm hB hz3
  have Hb1_3 := Lib.hid hb1
  have Hm1_3 := Lib.hid hm1
  have Hb2_3 := Lib.hid hb2
  have Hm2_3 := Lib.hid hm2
  have Hb3_3 := Lib.hid hb3
  have Hm3_3 := Lib.hid hm3
  have HW_3 := Lib.hid hW
  clear hW hb1 hm1 hb2 hm2 hb3 hm3 HW_2 Hb1_2 Hm1_2 Hb2_2 Hm2_2
  go_wp2_with fail
  have hW := HW_3.out
  have hb1 := Hb1_3.out
  have hm1 := Hm1_3.out
  have hb2 := Hb2_3.out
  have hm2 := Hm2_3.out
  have hb3 := Hb3_3.out
  have hm3 := Hm3_3.out
  refine (net2_any _).mono ?_
  rintro e w4 ⟨rfl, hb, hm, hz4, hB⟩
  replace hb1 := hb1.below hB hb1.lt
  replace hm1 := hm1.below hB hm1.lt
  replace hb2 := hb2.below hB hb2.lt
  replace hm2 := hm2.below hB hm2.lt
  replace hb3 := hb3.below hB hb3.lt
  replace hm3 := hm3.below hB hm3.lt
  replace hW := hW.trans (hB.mono hW.size)
  have hb4 := hb
  have hm4 := hm
  have HZ4 := Lib.hid hz4
  clear hb hm hB hz4
  have Hb1_4 := Lib.hid hb1
  have Hm1_4 := Lib.hid hm1
  have Hb2_4 := Lib.hid hb2
  have Hm2_4 := Lib.hid hm2
  have Hb3_4 := Lib.hid hb3
  have Hm3_4 := Lib.hid hm3
  have Hb4_4 := Lib.hid hb4
  have Hm4_4 := Lib.hid hm4
  have HW_4 := Lib.hid hW
  clear hW hb1 hm1 hb2 hm2 hb3 hm3 hb4 hm4 HW_3 Hb1_3 Hm1_3 Hb2_3 Hm2_3 Hb3_3 Hm3_3
  go_upto_region 2 with fail
  obtain ⟨V, hV⟩ : ∃ V, ((((w4.alloc (.cells #[.slice (some ⟨w.heap.size + 1, 0, none⟩) 6 6, .slice (some ⟨w.heap.size + 1 + 1, 0, none⟩) 5 5] 25)).alloc (.cells #[.slice (some ⟨w1.heap.size + 1, 0, none⟩) 6 6, .slice (some ⟨w1.heap.size + 1 + 1, 0, none⟩) 5 5] 25)).alloc (.cells #[.slice (some ⟨w2.heap.size + 1, 0, none⟩) 6 6, .slice (some ⟨w2.heap.size + 1 + 1, 0, none⟩) 5 5] 25)).alloc (.cells #[.slice (some ⟨w3.heap.size + 1, 0, none⟩) 6 6, .slice (some ⟨w3.heap.size + 1 + 1, 0, none⟩) 5 5] 25)) = V := ⟨_, rfl⟩
  have hVB : Below w4.heap.size w4 V := by rw [← hV]; exact ((((Below.refl _ w4).alloc (Nat.le_refl _) _).alloc (by simp) _).alloc (by simp; omega) _).alloc (by simp; omega) _
  have hx1 : Blk V w4.heap.size 25 #[.slice (some ⟨w.heap.size + 1, 0, none⟩) 6 6, .slice (some ⟨w.heap.size + 1 + 1, 0, none⟩) 5 5] := by
    rw [← hV]
    have h := Blk.new w4 25 #[.slice (some ⟨w.heap.size + 1, 0, none⟩) 6 6, .slice (some ⟨w.heap.size + 1 + 1, 0, none⟩) 5 5]
    exact (((h.alloc _).alloc _).alloc _)
  have hx2 : Blk V (w4.heap.size + 1) 25 #[.slice (some ⟨w1.heap.size + 1, 0, none⟩) 6 6, .slice (some ⟨w1.heap.size + 1 + 1, 0, none⟩) 5 5] := by
    rw [← hV]
    have h := Blk.new (w4.alloc (.cells #[.slice (some ⟨w.heap.size + 1, 0, none⟩) 6 6, .slice (some ⟨w.heap.size + 1 + 1, 0, none⟩) 5 5] 25)) 25 #[.slice (some ⟨w1.heap.size + 1, 0, none⟩) 6 6, .slice (some ⟨w1.heap.size + 1 + 1, 0, none⟩) 5 5]
    simp only [World.size_alloc] at h
    exact ((h.alloc _).alloc _)
  have hx3 : Blk V (w4.heap.size + 1 + 1) 25 #[.slice (some ⟨w2.heap.size + 1, 0, none⟩) 6 6, .slice (some ⟨w2.heap.size + 1 + 1, 0, none⟩) 5 5] := by
    rw [← hV]
    have h := Blk.new ((w4.alloc (.cells #[.slice (some ⟨w.heap.size + 1, 0, none⟩) 6 6, .slice (some ⟨w.heap.size + 1 + 1, 0, none⟩) 5 5] 25)).alloc (.cells #[.slice (some ⟨w1.heap.size + 1, 0, none⟩) 6 6, .slice (some ⟨w1.heap.size + 1 + 1, 0, none⟩) 5 5] 25)) 25 #[.slice (some ⟨w2.heap.size + 1, 0, none⟩) 6 6, .slice (some ⟨w2.heap.size + 1 + 1, 0, none⟩) 5 5]
    simp only [World.size_alloc] at h
    exact (h.alloc _)
  have hx4 : Blk V (w4.heap.size + 1 + 1 + 1) 25 #[.slice (some ⟨w3.heap.size + 1, 0, none⟩) 6 6, .slice (some ⟨w3.heap.size + 1 + 1, 0, none⟩) 5 5] := by
    rw [← hV]
    have h := Blk.new (((w4.alloc (.cells #[.slice (some ⟨w.heap.size + 1, 0, none⟩) 6 6, .slice (some ⟨w.heap.size + 1 + 1, 0, none⟩) 5 5] 25)).alloc (.cells #[.slice (some ⟨w1.heap.size + 1, 0, none⟩) 6 6, .slice (some ⟨w1.heap.size + 1 + 1, 0, none⟩) 5 5] 25)).alloc (.cells #[.slice (some ⟨w2.heap.size + 1, 0, none⟩) 6 6, .slice (some ⟨w2.heap.size + 1 + 1, 0, none⟩) 5 5] 25)) 25 #[.slice (some ⟨w3.heap.size + 1, 0, none⟩) 6 6, .slice (some ⟨w3.heap.size + 1 + 1, 0, none⟩) 5 5]
    simp only [World.size_alloc] at h
    exact h
  have hz1 := HZ1.out
  have hz2 := HZ2.out
  have hz3 := HZ3.out
  have hz4 := HZ4.out
  have hz5 : V.heap.size = w4.heap.size + 4 := by rw [← hV]; simp
  rw [hV]
  clear hV
  have hb1 := Hb1_4.out.below hVB Hb1_4.out.lt
  have hm1 := Hm1_4.out.below hVB Hm1_4.out.lt
  have hb2 := Hb2_4.out.below hVB Hb2_4.out.lt
  have hm2 := Hm2_4.out.below hVB Hm2_4.out.lt
  have hb3 := Hb3_4.out.below hVB Hb3_4.out.lt
  have hm3 := Hm3_4.out.below hVB Hm3_4.out.lt
  have hb4 := Hb4_4.out.below hVB Hb4_4.out.lt
  have hm4 := Hm4_4.out.below hVB Hm4_4.out.lt
  have hW := HW_4.out.trans (hVB.mono HW_4.out.size)
  clear hVB HW_4 Hb1_4 Hm1_4 Hb2_4 Hm2_4 Hb3_4 Hm3_4 Hb4_4 Hm4_4
  obtain ⟨B1, eB1⟩ : ∃ b, b = w.heap.size + 1 := ⟨_, rfl⟩
  obtain ⟨M1, eM1⟩ : ∃ b, b = w.heap.size + 1 + 1 := ⟨_, rfl⟩
  obtain ⟨X1, eX1⟩ : ∃ b, b = w4.heap.size := ⟨_, rfl⟩
  rw [← eM1, ← eX1] at hx1
  rw [← eB1] at hx1 hb1
  rw [← eM1] at hm1
  obtain ⟨B2, eB2⟩ : ∃ b, b = w1.heap.size + 1 := ⟨_, rfl⟩
  obtain ⟨M2, eM2⟩ : ∃ b, b = w1.heap.size + 1 + 1 := ⟨_, rfl⟩
  obtain ⟨X2, eX2⟩ : ∃ b, b = (w4.heap.size + 1) := ⟨_, rfl⟩
  rw [← eM2, ← eX2] at hx2
  rw [← eB2] at hx2 hb2
  rw [← eM2] at hm2
  obtain ⟨B3, eB3⟩ : ∃ b, b = w2.heap.size + 1 := ⟨_, rfl⟩
  obtain ⟨M3, eM3⟩ : ∃ b, b = w2.heap.size + 1 + 1 := ⟨_, rfl⟩
  obtain ⟨X3, eX3⟩ : ∃ b, b = (w4.heap.size + 1 + 1) := ⟨_, rfl⟩
  rw [← eM3, ← eX3] at hx3
  rw [← eB3] at hx3 hb3
  rw [← eM3] at hm3
  obtain ⟨B4, eB4⟩ : ∃ b, b = w3.heap.size + 1 := ⟨_, rfl⟩
  obtain ⟨M4, eM4⟩ : ∃ b, b = w3.heap.size + 1 + 1 := ⟨_, rfl⟩
  obtain ⟨X4, eX4⟩ : ∃ b, b = (w4.heap.size + 1 + 1 + 1) := ⟨_, rfl⟩
  rw [← eM4, ← eX4] at hx4
  rw [← eB4] at hx4 hb4
  rw [← eM4] at hm4
  have hne : w.heap.size ≤ B1 ∧ B1 < M1 ∧ M1 < B2 ∧ B2 < M2 ∧ M2 < B3 ∧ B3 < M3 ∧ M3 < B4 ∧ B4 < M4 ∧ M4 < X1 ∧ X1 < X2 ∧ X2 < X3 ∧ X3 < X4 := by omega
  try rw [← eM1]
  try rw [← eB1]
  try rw [← eM2]
  try rw [← eB2]
  try rw [← eM3]
  try rw [← eB3]
  try rw [← eM4]
  try rw [← eB4]
  try rw [← eX4]
  try rw [← eX3]
  try rw [← eX2]
  try rw [← eX1]
  clear eB1 eM1 eX1 eB2 eM2 eX2 eB3 eM3 eX3 eB4 eM4 eX4 hz1 hz2 hz3 hz4 hz5
  obtain ⟨n0, n1, n2, n3, n4, n5, n6, n7, n8, n9, n10, n11⟩ := hne
  have hf := And.intro (hx1.frozen 0) (And.intro (hm2.frozen 0) (And.intro (hm3.frozen 2) (hm4.frozen 0)))
  have HF0 := Lib.hid (show V.drew.cell? ⟨X2, 1, none⟩ = some (.slice (some ⟨M2, 0, none⟩) 5 5) ∧ V.drew.cell? ⟨X3, 1, none⟩ = some (.slice (some ⟨M3, 0, none⟩) 5 5) ∧ V.drew.cell? ⟨X4, 1, none⟩ = some (.slice (some ⟨M4, 0, none⟩) 5 5) from ⟨hx2.cell 1, hx3.cell 1, hx4.cell 1⟩)
  have HE := Lib.hid (show V.cell? ⟨X1, 0, none⟩ = some (.slice (some ⟨B1, 0, none⟩) 6 6) ∧ V.cell? ⟨M2, 0, none⟩ = some (.int .i64 0) ∧ V.cell? ⟨M3, 2, none⟩ = some (.int .i64 60) ∧ V.cell? ⟨M4, 0, none⟩ = some (.int .i64 0) from ⟨hx1.cell 0, hm2.cell 0, hm3.cell 2, hm4.cell 0⟩)
  have HFZ := Lib.hid hf
  replace hx1 := Blk.set_ hx1 0 (.slice none 0 0)
  replace hx2 := Blk.far hx2 (p := ⟨X1, 0, none⟩) (by first | exact (fun e => by simp only at e; omega) | (show _ ≠ _; omega)) (.slice none 0 0)
  replace hx3 := Blk.far hx3 (p := ⟨X1, 0, none⟩) (by first | exact (fun e => by simp only at e; omega) | (show _ ≠ _; omega)) (.slice none 0 0)
  replace hx4 := Blk.far hx4 (p := ⟨X1, 0, none⟩) (by first | exact (fun e => by simp only at e; omega) | (show _ ≠ _; omega)) (.slice none 0 0)
  replace hb1 := Blk.far hb1 (p := ⟨X1, 0, none⟩) (by first | exact (fun e => by simp only at e; omega) | (show _ ≠ _; omega)) (.slice none 0 0)
  replace hb2 := Blk.far hb2 (p := ⟨X1, 0, none⟩) (by first | exact (fun e => by simp only at e; omega) | (show _ ≠ _; omega)) (.slice none 0 0)
  replace hb3 := Blk.far hb3 (p := ⟨X1, 0, none⟩) (by first | exact (fun e => by simp only at e; omega) | (show _ ≠ _; omega)) (.slice none 0 0)
  replace hb4 := Blk.far hb4 (p := ⟨X1, 0, none⟩) (by first | exact (fun e => by simp only at e; omega) | (show _ ≠ _; omega)) (.slice none 0 0)
  replace hm1 := Blk.far hm1 (p := ⟨X1, 0, none⟩) (by first | exact (fun e => by simp only at e; omega) | (show _ ≠ _; omega)) (.slice none 0 0)
  replace hm2 := Blk.far hm2 (p := ⟨X1, 0, none⟩) (by first | exact (fun e => by simp only at e; omega) | (show _ ≠ _; omega)) (.slice none 0 0)
  replace hm3 := Blk.far hm3 (p := ⟨X1, 0, none⟩) (by first | exact (fun e => by simp only at e; omega) | (show _ ≠ _; omega)) (.slice none 0 0)
  replace hm4 := Blk.far hm4 (p := ⟨X1, 0, none⟩) (by first | exact (fun e => by simp only at e; omega) | (show _ ≠ _; omega)) (.slice none 0 0)
  replace hW := hW.setCell (p := ⟨X1, 0, none⟩) (by show w.heap.size ≤ X1; omega) (.slice none 0 0)
  have HF1 := Lib.hid (And.intro (hx2.cell 1) (And.intro (hx3.cell 1) (hx4.cell 1)))
  replace hx1 := Blk.far hx1 (p := ⟨M2, 0, none⟩) (by first | exact (fun e => by simp only at e; omega) | (show _ ≠ _; omega)) (.int .i64 6)
  replace hx2 := Blk.far hx2 (p := ⟨M2, 0, none⟩) (by first | exact (fun e => by simp only at e; omega) | (show _ ≠ _; omega)) (.int .i64 6)
  replace hx3 := Blk.far hx3 (p := ⟨M2, 0, none⟩) (by first | exact (fun e => by simp only at e; omega) | (show _ ≠ _; omega)) (.int .i64 6)
  replace hx4 := Blk.far hx4 (p := ⟨M2, 0, none⟩) (by first | exact (fun e => by simp only at e; omega) | (show _ ≠ _; omega)) (.int .i64 6)
  replace hb1 := Blk.far hb1 (p := ⟨M2, 0, none⟩) (by first | exact (fun e => by simp only at e; omega) | (show _ ≠ _; omega)) (.int .i64 6)
  replace hb2 := Blk.far hb2 (p := ⟨M2, 0, none⟩) (by first | exact (fun e => by simp only at e; omega) | (show _ ≠ _; omega)) (.int .i64 6)
  replace hb3 := Blk.far hb3 (p := ⟨M2, 0, none⟩) (by first | exact (fun e => by simp only at e; omega) | (show _ ≠ _; omega)) (.int .i64 6)
  replace hb4 := Blk.far hb4 (p := ⟨M2, 0, none⟩) (by first | exact (fun e => by simp only at e; omega) | (show _ ≠ _; omega)) (.int .i64 6)
  replace hm1 := Blk.far hm1 (p := ⟨M2, 0, none⟩) (by first | exact (fun e => by simp only at e; omega) | (show _ ≠ _; omega)) (.int .i64 6)
  replace hm2 := Blk.set_ hm2 0 (.int .i64 6)
  replace hm3 := Blk.far hm3 (p := ⟨M2, 0, none⟩) (by first | exact (fun e => by simp only at e; omega) | (show _ ≠ _; omega)) (.int .i64 6)
  replace hm4 := Blk.far hm4 (p := ⟨M2, 0, none⟩) (by first | exact (fun e => by simp only at e; omega) | (show _ ≠ _; omega)) (.int .i64 6)
  replace hW := hW.setCell (p := ⟨M2, 0, none⟩) (by show w.heap.size ≤ M2; omega) (.int .i64 6)
  have HF2 := Lib.hid (And.intro (hx2.cell 1) (And.intro (hx3.cell 1) (hx4.cell 1)))
  replace hx1 := Blk.far hx1 (p := ⟨M3, 2, none⟩) (by first | exact (fun e => by simp only at e; omega) | (show _ ≠ _; omega)) (.int .i64 101)
  replace hx2 := Blk.far hx2 (p := ⟨M3, 2, none⟩) (by first | exact (fun e => by simp only at e; omega) | (show _ ≠ _; omega)) (.int .i64 101)
  replace hx3 := Blk.far hx3 (p := ⟨M3, 2, none⟩) (by first | exact (fun e => by simp only at e; omega) | (show _ ≠ _; omega)) (.int .i64 101)
  replace hx4 := Blk.far hx4 (p := ⟨M3, 2, none⟩) (by first | exact (fun e => by simp only at e; omega) | (show _ ≠ _; omega)) (.int .i64 101)
  replace hb1 := Blk.far hb1 (p := ⟨M3, 2, none⟩) (by first | exact (fun e => by simp only at e; omega) | (show _ ≠ _; omega)) (.int .i64 101)
  replace hb2 := Blk.far hb2 (p := ⟨M3, 2, none⟩) (by first | exact (fun e => by simp only at e; omega) | (show _ ≠ _; omega)) (.int .i64 101)
  replace hb3 := Blk.far hb3 (p := ⟨M3, 2, none⟩) (by first | exact (fun e => by simp only at e; omega) | (show _ ≠ _; omega)) (.int .i64 101)
  replace hb4 := Blk.far hb4 (p := ⟨M3, 2, none⟩) (by first | exact (fun e => by simp only at e; omega) | (show _ ≠ _; omega)) (.int .i64 101)
  replace hm1 := Blk.far hm1 (p := ⟨M3, 2, none⟩) (by first | exact (fun e => by simp only at e; omega) | (show _ ≠ _; omega)) (.int .i64 101)
  replace hm2 := Blk.far hm2 (p := ⟨M3, 2, none⟩) (by first | exact (fun e => by simp only at e; omega) | (show _ ≠ _; omega)) (.int .i64 101)
  replace hm3 := Blk.set_ hm3 2 (.int .i64 101)
  replace hm4 := Blk.far hm4 (p := ⟨M3, 2, none⟩) (by first | exact (fun e => by simp only at e; omega) | (show _ ≠ _; omega)) (.int .i64 101)
  replace hW := hW.setCell (p := ⟨M3, 2, none⟩) (by show w.heap.size ≤ M3; omega) (.int .i64 101)
  have HF3 := Lib.hid (And.intro (hx2.cell 1) (And.intro (hx3.cell 1) (hx4.cell 1)))
  replace hx1 := Blk.far hx1 (p := ⟨M4, 0, none⟩) (by first | exact (fun e => by simp only at e; omega) | (show _ ≠ _; omega)) (.int .i64 2)
  replace hx2 := Blk.far hx2 (p := ⟨M4, 0, none⟩) (by first | exact (fun e => by simp only at e; omega) | (show _ ≠ _; omega)) (.int .i64 2)
  replace hx3 := Blk.far hx3 (p := ⟨M4, 0, none⟩) (by first | exact (fun e => by simp only at e; omega) | (show _ ≠ _; omega)) (.int .i64 2)
  replace hx4 := Blk.far hx4 (p := ⟨M4, 0, none⟩) (by first | exact (fun e => by simp only at e; omega) | (show _ ≠ _; omega)) (.int .i64 2)
  replace hb1 := Blk.far hb1 (p := ⟨M4, 0, none⟩) (by first | exact (fun e => by simp only at e; omega) | (show _ ≠ _; omega)) (.int .i64 2)
  replace hb2 := Blk.far hb2 (p := ⟨M4, 0, none⟩) (by first | exact (fun e => by simp only at e; omega) | (show _ ≠ _; omega)) (.int .i64 2)
  replace hb3 := Blk.far hb3 (p := ⟨M4, 0, none⟩) (by first | exact (fun e => by simp only at e; omega) | (show _ ≠ _; omega)) (.int .i64 2)
  replace hb4 := Blk.far hb4 (p := ⟨M4, 0, none⟩) (by first | exact (fun e => by simp only at e; omega) | (show _ ≠ _; omega)) (.int .i64 2)
  replace hm1 := Blk.far hm1 (p := ⟨M4, 0, none⟩) (by first | exact (fun e => by simp only at e; omega) | (show _ ≠ _; omega)) (.int .i64 2)
  replace hm2 := Blk.far hm2 (p := ⟨M4, 0, none⟩) (by first | exact (fun e => by simp only at e; omega) | (show _ ≠ _; omega)) (.int .i64 2)
  replace hm3 := Blk.far hm3 (p := ⟨M4, 0, none⟩) (by first | exact (fun e => by simp only at e; omega) | (show _ ≠ _; omega)) (.int .i64 2)
  replace hm4 := Blk.set_ hm4 0 (.int .i64 2)
  replace hW := hW.setCell (p := ⟨M4, 0, none⟩) (by show w.heap.size ≤ M4; omega) (.int .i64 2)
  have Hx1 := Lib.hid hx1
  have Hx2 := Lib.hid hx2
  have Hx3 := Lib.hid hx3
  have Hx4 := Lib.hid hx4
  have Hb1 := Lib.hid hb1
  have Hb2 := Lib.hid hb2
  have Hb3 := Lib.hid hb3
  have Hb4 := Lib.hid hb4
  have Hm1 := Lib.hid hm1
  have Hm2 := Lib.hid hm2
  have Hm3 := Lib.hid hm3
  have Hm4 := Lib.hid hm4
  have HW := Lib.hid hW
  clear hW hf hx1 hx2 hx3 hx4 hb1 hb2 hb3 hb4 hm1 hm2 hm3 hm4
  refine wp_region_PL [1, 3, 5] (fun W => W.cell? ⟨X2, 1, none⟩ = some (.slice (some ⟨M2, 0, none⟩) 5 5) ∧ W.cell? ⟨X3, 1, none⟩ = some (.slice (some ⟨M3, 0, none⟩) 5 5) ∧ W.cell? ⟨X4, 1, none⟩ = some (.slice (some ⟨M4, 0, none⟩) 5 5)) rfl (by kernel_rfl) (HF0.out) (fun hF0 => ?_)
  (refine wpAnyP_takeL (i := 0) (v := ?_) rfl (by kernel_rfl) (by kernel_rfl) (by kernel_rfl) (fun _ _ _ h => h) (by rfl) ?_ ?_; rotate_left 1; focus (intro w; go_simp; try with_reducible rfl))
  try simp only [Act.put, List.setIfInBounds_toArray, List.set_cons_zero, List.set_cons_succ]
  (refine wpAnyP_loadL (i := 1) (v := ?_) rfl (by kernel_rfl) (by kernel_rfl) (by kernel_rfl) (by rfl) (fun _ _ _ h => h) hF0 (by rfl) ?_ ?_; rotate_left 1; focus (intro w hFw; (try dsimp only at hFw); go_split_ands; go_simp; try with_reducible rfl))
  try simp only [Act.put, List.setIfInBounds_toArray, List.set_cons_zero, List.set_cons_succ]
  (refine wpAnyP_takeL (i := 2) (v := ?_) rfl (by kernel_rfl) (by kernel_rfl) (by kernel_rfl) (fun _ _ _ h => h) (by rfl) ?_ ?_; rotate_left 1; focus (intro w; go_simp; try with_reducible rfl))
  try simp only [Act.put, List.setIfInBounds_toArray, List.set_cons_zero, List.set_cons_succ]
  (refine wpAnyP_loadL (i := 3) (v := ?_) rfl (by kernel_rfl) (by kernel_rfl) (by kernel_rfl) (by rfl) (fun _ _ _ h => h) hF0 (by rfl) ?_ ?_; rotate_left 1; focus (intro w hFw; (try dsimp only at hFw); go_split_ands; go_simp; try with_reducible rfl))
  try simp only [Act.put, List.setIfInBounds_toArray, List.set_cons_zero, List.set_cons_succ]
  (refine wpAnyP_takeL (i := 4) (v := ?_) rfl (by kernel_rfl) (by kernel_rfl) (by kernel_rfl) (fun _ _ _ h => h) (by rfl) ?_ ?_; rotate_left 1; focus (intro w; go_simp; try with_reducible rfl))
  try simp only [Act.put, List.setIfInBounds_toArray, List.set_cons_zero, List.set_cons_succ]
  (refine wpAnyP_loadL (i := 5) (v := ?_) rfl (by kernel_rfl) (by kernel_rfl) (by kernel_rfl) (by rfl) (fun _ _ _ h => h) hF0 (by rfl) ?_ ?_; rotate_left 1; focus (intro w hFw; (try dsimp only at hFw); go_split_ands; go_simp; try with_reducible rfl))
  try simp only [Act.put, List.setIfInBounds_toArray, List.set_cons_zero, List.set_cons_succ]
  (refine wpAnyP_takeL (i := 6) (v := ?_) rfl (by kernel_rfl) (by kernel_rfl) (by kernel_rfl) (fun _ _ _ h => h) (by rfl) ?_ ?_; rotate_left 1; focus (intro w; go_simp; try with_reducible rfl))
  try simp only [Act.put, List.setIfInBounds_toArray, List.set_cons_zero, List.set_cons_succ]
  refine wpAnyP_step (i := 7) rfl (by kernel_rfl) (by rfl) (fun K hK => ?_)
  go_simp
  (have q1 := HFZ.out.1; have q2 := HE.out.1; go_simp; clear q1 q2)
  (refine hK _ _ (HF1.out) (fun hF1 => ?_); clear hK K hF0)
  try simp only [Act.put, List.setIfInBounds_toArray, List.set_cons_zero, List.set_cons_succ]
  (refine wpAnyP_takeL (i := 8) (v := ?_) rfl (by kernel_rfl) (by kernel_rfl) (by kernel_rfl) (fun _ _ _ h => h) (by rfl) ?_ ?_; rotate_left 1; focus (intro w; go_simp; try with_reducible rfl))
  try simp only [Act.put, List.setIfInBounds_toArray, List.set_cons_zero, List.set_cons_succ]
  (refine wpAnyP_takeL (i := 9) (v := ?_) rfl (by kernel_rfl) (by kernel_rfl) (by kernel_rfl) (fun _ _ _ h => h) (by rfl) ?_ ?_; rotate_left 1; focus (intro w; go_simp; try with_reducible rfl))
  try simp only [Act.put, List.setIfInBounds_toArray, List.set_cons_zero, List.set_cons_succ]
  refine wpAnyP_step (i := 10) rfl (by kernel_rfl) (by rfl) (fun K hK => ?_)
  go_simp
  (have q1 := HFZ.out.2.1; have q2 := HE.out.2.1; go_simp; clear q1 q2)
  (refine hK _ _ (HF2.out) (fun hF2 => ?_); clear hK K hF1)
  try simp only [Act.put, List.setIfInBounds_toArray, List.set_cons_zero, List.set_cons_succ]
  (refine wpAnyP_takeL (i := 11) (v := ?_) rfl (by kernel_rfl) (by kernel_rfl) (by kernel_rfl) (fun _ _ _ h => h) (by rfl) ?_ ?_; rotate_left 1; focus (intro w; go_simp; try with_reducible rfl))
  try simp only [Act.put, List.setIfInBounds_toArray, List.set_cons_zero, List.set_cons_succ]
  (refine wpAnyP_takeL (i := 12) (v := ?_) rfl (by kernel_rfl) (by kernel_rfl) (by kernel_rfl) (fun _ _ _ h => h) (by rfl) ?_ ?_; rotate_left 1; focus (intro w; go_simp; try with_reducible rfl))
  try simp only [Act.put, List.setIfInBounds_toArray, List.set_cons_zero, List.set_cons_succ]
  refine wpAnyP_step (i := 13) rfl (by kernel_rfl) (by rfl) (fun K hK => ?_)
  go_simp
  (have q1 := HFZ.out.2.2.1; have q2 := HE.out.2.2.1; go_simp; clear q1 q2)
  (refine hK _ _ (HF3.out) (fun hF3 => ?_); clear hK K hF2)
  try simp only [Act.put, List.setIfInBounds_toArray, List.set_cons_zero, List.set_cons_succ]
  (refine wpAnyP_takeL (i := 14) (v := ?_) rfl (by kernel_rfl) (by kernel_rfl) (by kernel_rfl) (fun _ _ _ h => h) (by rfl) ?_ ?_; rotate_left 1; focus (intro w; go_simp; try with_reducible rfl))
  try simp only [Act.put, List.setIfInBounds_toArray, List.set_cons_zero, List.set_cons_succ]
  (refine wpAnyP_takeL (i := 15) (v := ?_) rfl (by kernel_rfl) (by kernel_rfl) (by kernel_rfl) (fun _ _ _ h => h) (by rfl) ?_ ?_; rotate_left 1; focus (intro w; go_simp; try with_reducible rfl))
  try simp only [Act.put, List.setIfInBounds_toArray, List.set_cons_zero, List.set_cons_succ]
  refine wpAnyP_last (i := 16) rfl (by kernel_rfl) (by kernel_rfl) (by rfl) (fun K hK => ?_)
  go_simp
  (have q1 := HFZ.out.2.2.2; have q2 := HE.out.2.2.2; go_simp; clear q1 q2)
  (refine hK _ _ ?_; clear hK K)
  try simp only [Act.put, List.setIfInBounds_toArray, List.set_cons_zero, List.set_cons_succ]
  refine wpAnyP_done (by kernel_rfl) ?_ _
  obtain ⟨V2, hV2⟩ : ∃ V2, ((((V.setCell ⟨X1, 0, none⟩ (.slice none 0 0)).setCell ⟨M2, 0, none⟩ (.int .i64 6)).setCell ⟨M3, 2, none⟩ (.int .i64 101)).setCell ⟨M4, 0, none⟩ (.int .i64 2)).drew = V2 := ⟨_, rfl⟩
  have Hlow_0 := Lib.hid (show Below w.heap.size w V2 from by rw [← hV2]; exact HW.out.drew)
  have Hk1_0 := Lib.hid (show Blk V2 X1 25 #[.slice none 0 0, .slice (some ⟨M1, 0, none⟩) 5 5] from by rw [← hV2]; exact Hx1.out)
  have Hk2_0 := Lib.hid (show Blk V2 X2 25 #[.slice (some ⟨B2, 0, none⟩) 6 6, .slice (some ⟨M2, 0, none⟩) 5 5] from by rw [← hV2]; exact Hx2.out)
  have Hk3_0 := Lib.hid (show Blk V2 X3 25 #[.slice (some ⟨B3, 0, none⟩) 6 6, .slice (some ⟨M3, 0, none⟩) 5 5] from by rw [← hV2]; exact Hx3.out)
  have Hk4_0 := Lib.hid (show Blk V2 X4 25 #[.slice (some ⟨B4, 0, none⟩) 6 6, .slice (some ⟨M4, 0, none⟩) 5 5] from by rw [← hV2]; exact Hx4.out)
  have Hn1_0 := Lib.hid (show NetM V2 0 M1 none (some ⟨M1, 0, none⟩) 0 0 5 5 [] netMv from by rw [← hV2]; exact ⟨Sl.nil _ _ _, Sl.ofBlk encM_len Hm1.out, by omega, by omega⟩)
  have Hn2_0 := Lib.hid (show NetM V2 B2 M2 (some ⟨B2, 0, none⟩) (some ⟨M2, 0, none⟩) 6 6 5 5 netB farMv from by rw [← hV2]; exact ⟨Sl.ofBlk encI_len Hb2.out, Sl.ofBlk encM_len (show Blk _ M2 28 (farMv.flatMap encM).toArray from Hm2.out), by omega, by omega⟩)
  have Hn3_0 := Lib.hid (show NetM V2 B3 M3 (some ⟨B3, 0, none⟩) (some ⟨M3, 0, none⟩) 6 6 5 5 netB muchMv from by rw [← hV2]; exact ⟨Sl.ofBlk encI_len Hb3.out, Sl.ofBlk encM_len (show Blk _ M3 28 (muchMv.flatMap encM).toArray from Hm3.out), by omega, by omega⟩)
  have Hn4_0 := Lib.hid (show NetM V2 B4 M4 (some ⟨B4, 0, none⟩) (some ⟨M4, 0, none⟩) 6 6 5 5 netB sameMv from by rw [← hV2]; exact ⟨Sl.ofBlk encI_len Hb4.out, Sl.ofBlk encM_len (show Blk _ M4 28 (sameMv.flatMap encM).toArray from Hm4.out), by omega, by omega⟩)
  have HPV_0 := Lib.hid (HPW.out.old Hlow_0.out)
  rw [hV2]
  clear hV2 HW HF0 HF1 HF2 HF3 HE HFZ HPW n0 n1 n2 n3 n4 n5 n6 n7 n8 n9 n10 n11 Hx1 Hb1 Hm1 Hx2 Hb2 Hm2 Hx3 Hb3 Hm3 Hx4 Hb4 Hm4
  go_wp2_with fail
  refine (kawake_any _).mono ?_
  rintro e y1 ⟨rfl, hB⟩
  have Hlow_1 := Lib.hid (Below.step hB Hlow_0.out (Nat.le_refl _))
  have Hk1_1 := Lib.hid (Hk1_0.out.below hB Hk1_0.out.lt)
  have Hk2_1 := Lib.hid (Hk2_0.out.below hB Hk2_0.out.lt)
  have Hk3_1 := Lib.hid (Hk3_0.out.below hB Hk3_0.out.lt)
  have Hk4_1 := Lib.hid (Hk4_0.out.below hB Hk4_0.out.lt)
  have Hn1_1 := Lib.hid (Hn1_0.out.old hB)
  have Hn2_1 := Lib.hid (Hn2_0.out.old hB)
  have Hn3_1 := Lib.hid (Hn3_0.out.old hB)
  have Hn4_1 := Lib.hid (Hn4_0.out.old hB)
  have Hpow_1 := Lib.hid (HPV_0.out.old hB)
  clear hB Hlow_0 Hk1_0 Hk2_0 Hk3_0 Hk4_0 Hn1_0 Hn2_0 Hn3_0 Hn4_0 HPV_0
  go_wp2_with fail
  refine (net_any _).mono ?_
  rintro e y2 ⟨nb1, nb2, nA1, nA2, rfl, hN, _, _, hB⟩
  have Hlow_2 := Lib.hid (Below.step hB Hlow_1.out (Nat.le_refl _))
  have Hk1_2 := Lib.hid (Hk1_1.out.below hB Hk1_1.out.lt)
  have Hk2_2 := Lib.hid (Hk2_1.out.below hB Hk2_1.out.lt)
  have Hk3_2 := Lib.hid (Hk3_1.out.below hB Hk3_1.out.lt)
  have Hk4_2 := Lib.hid (Hk4_1.out.below hB Hk4_1.out.lt)
  have Hn1_2 := Lib.hid (Hn1_1.out.old hB)
  have Hn2_2 := Lib.hid (Hn2_1.out.old hB)
  have Hn3_2 := Lib.hid (Hn3_1.out.old hB)
  have Hn4_2 := Lib.hid (Hn4_1.out.old hB)
  have Hpow_2 := Lib.hid (Hpow_1.out.old hB)
  have Hn0_2 := Lib.hid (hN)
  clear hB Hlow_1 Hk1_1 Hk2_1 Hk3_1 Hk4_1 Hn1_1 Hn2_1 Hn3_1 Hn4_1 Hpow_1
  clear hN
  go_wp2_with fail
  refine (check_any _ _ _ _ _ _ _ _ _ _ _ Hn0_2.out (by omega) (by omega)).mono ?_
  rw [kn_chk]
  rintro e y3 ⟨rfl, hB⟩
  have Hlow_3 := Lib.hid (Below.step hB Hlow_2.out (Nat.le_refl _))
  have Hk1_3 := Lib.hid (Hk1_2.out.below hB Hk1_2.out.lt)
  have Hk2_3 := Lib.hid (Hk2_2.out.below hB Hk2_2.out.lt)
  have Hk3_3 := Lib.hid (Hk3_2.out.below hB Hk3_2.out.lt)
  have Hk4_3 := Lib.hid (Hk4_2.out.below hB Hk4_2.out.lt)
  have Hn1_3 := Lib.hid (Hn1_2.out.old hB)
  have Hn2_3 := Lib.hid (Hn2_2.out.old hB)
  have Hn3_3 := Lib.hid (Hn3_2.out.old hB)
  have Hn4_3 := Lib.hid (Hn4_2.out.old hB)
  have Hpow_3 := Lib.hid (Hpow_2.out.old hB)
  have Hn0_3 := Lib.hid (Hn0_2.out.old hB)
  clear hB Hlow_2 Hk1_2 Hk2_2 Hk3_2 Hk4_2 Hn1_2 Hn2_2 Hn3_2 Hn4_2 Hpow_2 Hn0_2
  clear Hn0_3
  have c0 := Hk1_3.out.cell 0
  have c1 := Hk1_3.out.cell 1
  go_wp2_with fail
  refine (check_any _ _ _ _ _ _ _ _ _ _ _ Hn1_3.out (by omega) (by omega)).mono ?_
  rw [kn_none]
  rintro e y4 ⟨rfl, hB⟩
  have Hlow_4 := Lib.hid (Below.step hB Hlow_3.out (Nat.le_refl _))
  have Hk1_4 := Lib.hid (Hk1_3.out.below hB Hk1_3.out.lt)
  have Hk2_4 := Lib.hid (Hk2_3.out.below hB Hk2_3.out.lt)
  have Hk3_4 := Lib.hid (Hk3_3.out.below hB Hk3_3.out.lt)
  have Hk4_4 := Lib.hid (Hk4_3.out.below hB Hk4_3.out.lt)
  have Hn1_4 := Lib.hid (Hn1_3.out.old hB)
  have Hn2_4 := Lib.hid (Hn2_3.out.old hB)
  have Hn3_4 := Lib.hid (Hn3_3.out.old hB)
  have Hn4_4 := Lib.hid (Hn4_3.out.old hB)
  have Hpow_4 := Lib.hid (Hpow_3.out.old hB)
  clear hB Hlow_3 Hk1_3 Hk2_3 Hk3_3 Hk4_3 Hn1_3 Hn2_3 Hn3_3 Hn4_3 Hpow_3
  clear c0 c1
  clear Hk1_4
  clear Hn1_4
  have c0 := Hk2_4.out.cell 0
  have c1 := Hk2_4.out.cell 1
  go_wp2_with fail
  refine (check_any _ _ _ _ _ _ _ _ _ _ _ Hn2_4.out (by omega) (by omega)).mono ?_
  rw [kn_far]
  rintro e y5 ⟨rfl, hB⟩
  have Hlow_5 := Lib.hid (Below.step hB Hlow_4.out (Nat.le_refl _))
  have Hk2_5 := Lib.hid (Hk2_4.out.below hB Hk2_4.out.lt)
  have Hk3_5 := Lib.hid (Hk3_4.out.below hB Hk3_4.out.lt)
  have Hk4_5 := Lib.hid (Hk4_4.out.below hB Hk4_4.out.lt)
  have Hn2_5 := Lib.hid (Hn2_4.out.old hB)
  have Hn3_5 := Lib.hid (Hn3_4.out.old hB)
  have Hn4_5 := Lib.hid (Hn4_4.out.old hB)
  have Hpow_5 := Lib.hid (Hpow_4.out.old hB)
  clear hB Hlow_4 Hk2_4 Hk3_4 Hk4_4 Hn2_4 Hn3_4 Hn4_4 Hpow_4
  clear c0 c1
  clear Hk2_5
  clear Hn2_5
  have c0 := Hk3_5.out.cell 0
  have c1 := Hk3_5.out.cell 1
  go_wp2_with fail
  refine (check_any _ _ _ _ _ _ _ _ _ _ _ Hn3_5.out (by omega) (by omega)).mono ?_
  rw [kn_much]
  rintro e y6 ⟨rfl, hB⟩
  have Hlow_6 := Lib.hid (Below.step hB Hlow_5.out (Nat.le_refl _))
  have Hk3_6 := Lib.hid (Hk3_5.out.below hB Hk3_5.out.lt)
  have Hk4_6 := Lib.hid (Hk4_5.out.below hB Hk4_5.out.lt)
  have Hn3_6 := Lib.hid (Hn3_5.out.old hB)
  have Hn4_6 := Lib.hid (Hn4_5.out.old hB)
  have Hpow_6 := Lib.hid (Hpow_5.out.old hB)
  clear hB Hlow_5 Hk3_5 Hk4_5 Hn3_5 Hn4_5 Hpow_5
  clear c0 c1
  clear Hk3_6
  clear Hn3_6
  have c0 := Hk4_6.out.cell 0
  have c1 := Hk4_6.out.cell 1
  go_wp2_with fail
  refine (check_any _ _ _ _ _ _ _ _ _ _ _ Hn4_6.out (by omega) (by omega)).mono ?_
  rw [kn_same]
  rintro e y7 ⟨rfl, hB⟩
  have Hlow_7 := Lib.hid (Below.step hB Hlow_6.out (Nat.le_refl _))
  have Hk4_7 := Lib.hid (Hk4_6.out.below hB Hk4_6.out.lt)
  have Hn4_7 := Lib.hid (Hn4_6.out.old hB)
  have Hpow_7 := Lib.hid (Hpow_6.out.old hB)
  clear hB Hlow_6 Hk4_6 Hn4_6 Hpow_6
  clear c0 c1
  clear Hk4_7
  clear Hn4_7
  go_wp2_with fail
  refine (net_any _).mono ?_
  rintro e y8 ⟨nb1, nb2, nA1, nA2, rfl, hN, _, _, hB⟩
  have Hlow_8 := Lib.hid (Below.step hB Hlow_7.out (Nat.le_refl _))
  have Hpow_8 := Lib.hid (Hpow_7.out.old hB)
  have Hn0_8 := Lib.hid (hN)
  clear hB Hlow_7 Hpow_7
  clear hN
  go_wp2_with fail
  refine (Holds_ok _ _ _ _ _ _ _ _ _ _ _ Hn0_8.out kn_chk).mono ?_
  rintro e y9 ⟨gh, ch, rfl, ho, hB⟩
  have Hlow_9 := Lib.hid (Below.step hB Hlow_8.out (Nat.le_refl _))
  have Hpow_9 := Lib.hid (Hpow_8.out.old hB)
  have Hn0_9 := Lib.hid (Hn0_8.out.old hB)
  obtain ⟨bh, _, hsl⟩ := Sl.of_own (enc := encI) (l := [40, 20, 0, 10, 60, 40]) encI_len rfl (by rw [kn_holds] at ho; exact ho)
  have Hhh_9 := Lib.hid (hsl)
  clear hB Hlow_8 Hpow_8 Hn0_8
  clear ho hsl
  clear Hn0_9
  go_wp2_with fail
  refine (net_any _).mono ?_
  rintro e y10 ⟨nb1, nb2, nA1, nA2, rfl, hN, _, _, hB⟩
  have Hlow_10 := Lib.hid (Below.step hB Hlow_9.out (Nat.le_refl _))
  have Hpow_10 := Lib.hid (Hpow_9.out.old hB)
  have Hhh_10 := Lib.hid (Hhh_9.out.old hB)
  have Hn0_10 := Lib.hid (hN)
  clear hB Hlow_9 Hpow_9 Hhh_9
  clear hN
  have Hlow_11 := Lib.hid (Below.step ((Below.refl _ y10).alloc (Nat.le_refl _) (.cells #[.int .i64 0] 3)) Hlow_10.out (Nat.le_refl _))
  have Hpow_11 := Lib.hid (Hpow_10.out.old ((Below.refl _ y10).alloc (Nat.le_refl _) (.cells #[.int .i64 0] 3)))
  have Hhh_11 := Lib.hid (Hhh_10.out.old ((Below.refl _ y10).alloc (Nat.le_refl _) (.cells #[.int .i64 0] 3)))
  have Hn0_11 := Lib.hid (Hn0_10.out.old ((Below.refl _ y10).alloc (Nat.le_refl _) (.cells #[.int .i64 0] 3)))
  have Hll_11 := Lib.hid (Sl.newI y10 [0] 3)
  clear Hlow_10 Hpow_10 Hhh_10 Hn0_10
  go_wp2_with fail
  refine (Reach_ok _ _ _ _ _ _ 6 6 5 5 1 1 netB netMv [0] _ Hn0_11.out Hll_11.out kn_c0).mono ?_
  rintro e y11 ⟨ax, cx, rfl, ho, hB⟩
  have Hlow_12 := Lib.hid (Below.step hB Hlow_11.out (Nat.le_refl _))
  have Hpow_12 := Lib.hid (Hpow_11.out.old hB)
  have Hhh_12 := Lib.hid (Hhh_11.out.old hB)
  have Hn0_12 := Lib.hid (Hn0_11.out.old hB)
  have Hll_12 := Lib.hid (Hll_11.out.old hB)
  obtain ⟨bx, _, hsl⟩ := Sl.of_own (enc := encR) (l := [⟨40, 40⟩, ⟨0, 0⟩, ⟨0, 0⟩, ⟨0, 0⟩, ⟨20, 50⟩, ⟨10, 40⟩]) encR_len rfl (by rw [kn_reach] at ho; exact ho)
  have Hxx_12 := Lib.hid (hsl)
  clear hB Hlow_11 Hpow_11 Hhh_11 Hn0_11 Hll_11
  clear ho hsl
  clear Hn0_12
  clear Hll_12
  go_wp2_with fail
  refine (net_any _).mono ?_
  rintro e y12 ⟨nb1, nb2, nA1, nA2, rfl, hN, _, _, hB⟩
  have Hlow_13 := Lib.hid (Below.step hB Hlow_12.out (Nat.le_refl _))
  have Hpow_13 := Lib.hid (Hpow_12.out.old hB)
  have Hhh_13 := Lib.hid (Hhh_12.out.old hB)
  have Hxx_13 := Lib.hid (Hxx_12.out.old hB)
  have Hn0_13 := Lib.hid (hN)
  clear hB Hlow_12 Hpow_12 Hhh_12 Hxx_12
  clear hN
  have Hlow_14 := Lib.hid (Below.step ((Below.refl _ y12).alloc (Nat.le_refl _) (.cells #[.int .i64 0] 3)) Hlow_13.out (Nat.le_refl _))
  have Hpow_14 := Lib.hid (Hpow_13.out.old ((Below.refl _ y12).alloc (Nat.le_refl _) (.cells #[.int .i64 0] 3)))
  have Hhh_14 := Lib.hid (Hhh_13.out.old ((Below.refl _ y12).alloc (Nat.le_refl _) (.cells #[.int .i64 0] 3)))
  have Hxx_14 := Lib.hid (Hxx_13.out.old ((Below.refl _ y12).alloc (Nat.le_refl _) (.cells #[.int .i64 0] 3)))
  have Hn0_14 := Lib.hid (Hn0_13.out.old ((Below.refl _ y12).alloc (Nat.le_refl _) (.cells #[.int .i64 0] 3)))
  have Hll_14 := Lib.hid (Sl.newI y12 [0] 3)
  clear Hlow_13 Hpow_13 Hhh_13 Hxx_13 Hn0_13
  go_wp2_with fail
  refine (Through_ok _ _ _ _ _ _ 6 6 5 5 1 1 netB netMv [0] _ Hn0_14.out Hll_14.out kn_c0).mono ?_
  rintro e y13 ⟨ay, cy, rfl, ho, hB⟩
  have Hlow_15 := Lib.hid (Below.step hB Hlow_14.out (Nat.le_refl _))
  have Hpow_15 := Lib.hid (Hpow_14.out.old hB)
  have Hhh_15 := Lib.hid (Hhh_14.out.old hB)
  have Hxx_15 := Lib.hid (Hxx_14.out.old hB)
  have Hn0_15 := Lib.hid (Hn0_14.out.old hB)
  have Hll_15 := Lib.hid (Hll_14.out.old hB)
  obtain ⟨by', _, hsl⟩ := Sl.of_own (enc := encR) (l := [⟨60, 60⟩, ⟨0, 0⟩, ⟨20, 50⟩, ⟨0, 0⟩, ⟨10, 40⟩]) encR_len rfl (by rw [kn_through] at ho; exact ho)
  have Hyy_15 := Lib.hid (hsl)
  clear hB Hlow_14 Hpow_14 Hhh_14 Hxx_14 Hn0_14 Hll_14
  clear ho hsl
  clear Hn0_15
  clear Hll_15
  have Hlow_16 := Lib.hid (Below.step ((Below.refl _ y13).alloc (Nat.le_refl _) (.cells #[.int .i64 40, .int .i64 20, .int .i64 0, .int .i64 10, .int .i64 60, .int .i64 40] 3)) Hlow_15.out (Nat.le_refl _))
  have Hpow_16 := Lib.hid (Hpow_15.out.old ((Below.refl _ y13).alloc (Nat.le_refl _) (.cells #[.int .i64 40, .int .i64 20, .int .i64 0, .int .i64 10, .int .i64 60, .int .i64 40] 3)))
  have Hhh_16 := Lib.hid (Hhh_15.out.old ((Below.refl _ y13).alloc (Nat.le_refl _) (.cells #[.int .i64 40, .int .i64 20, .int .i64 0, .int .i64 10, .int .i64 60, .int .i64 40] 3)))
  have Hxx_16 := Lib.hid (Hxx_15.out.old ((Below.refl _ y13).alloc (Nat.le_refl _) (.cells #[.int .i64 40, .int .i64 20, .int .i64 0, .int .i64 10, .int .i64 60, .int .i64 40] 3)))
  have Hyy_16 := Lib.hid (Hyy_15.out.old ((Below.refl _ y13).alloc (Nat.le_refl _) (.cells #[.int .i64 40, .int .i64 20, .int .i64 0, .int .i64 10, .int .i64 60, .int .i64 40] 3)))
  have Hq_16 := Lib.hid (Sl.newI y13 [40, 20, 0, 10, 60, 40] 3)
  clear Hlow_15 Hpow_15 Hhh_15 Hxx_15 Hyy_15
  go_wp2_with fail
  refine (sameInts_any _ _ 6 6 _ _ _ _ _ _ _ Hhh_16.out Hq_16.out (by omega)).mono ?_
  rw [decide_eq_true rfl]
  rintro e y14 ⟨rfl, hB⟩
  have Hlow_17 := Lib.hid (Below.step hB Hlow_16.out (Nat.le_refl _))
  have Hpow_17 := Lib.hid (Hpow_16.out.old hB)
  have Hhh_17 := Lib.hid (Hhh_16.out.old hB)
  have Hxx_17 := Lib.hid (Hxx_16.out.old hB)
  have Hyy_17 := Lib.hid (Hyy_16.out.old hB)
  have Hq_17 := Lib.hid (Hq_16.out.old hB)
  clear hB Hlow_16 Hpow_16 Hhh_16 Hxx_16 Hyy_16 Hq_16
  clear Hq_17
  clear Hhh_17
  go_wp2_with fail
  refine (kspan_any _ _ _).mono ?_
  rintro e y15 ⟨rfl, hB⟩
  have Hlow_18 := Lib.hid (Below.step hB Hlow_17.out (Nat.le_refl _))
  have Hpow_18 := Lib.hid (Hpow_17.out.old hB)
  have Hxx_18 := Lib.hid (Hxx_17.out.old hB)
  have Hyy_18 := Lib.hid (Hyy_17.out.old hB)
  clear hB Hlow_17 Hpow_17 Hxx_17 Hyy_17
  go_wp2_with fail
  refine (kspan_any _ _ _).mono ?_
  rintro e y16 ⟨rfl, hB⟩
  have Hlow_19 := Lib.hid (Below.step hB Hlow_18.out (Nat.le_refl _))
  have Hpow_19 := Lib.hid (Hpow_18.out.old hB)
  have Hxx_19 := Lib.hid (Hxx_18.out.old hB)
  have Hyy_19 := Lib.hid (Hyy_18.out.old hB)
  clear hB Hlow_18 Hpow_18 Hxx_18 Hyy_18
  go_wp2_with fail
  refine (kspan_any _ _ _).mono ?_
  rintro e y17 ⟨rfl, hB⟩
  have Hlow_20 := Lib.hid (Below.step hB Hlow_19.out (Nat.le_refl _))
  have Hpow_20 := Lib.hid (Hpow_19.out.old hB)
  have Hxx_20 := Lib.hid (Hxx_19.out.old hB)
  have Hyy_20 := Lib.hid (Hyy_19.out.old hB)
  clear hB Hlow_19 Hpow_19 Hxx_19 Hyy_19
  have Hlow_21 := Lib.hid (Below.step ((Below.refl _ y17).alloc (Nat.le_refl _) (.cells (([⟨40, 40⟩, ⟨0, 0⟩, ⟨0, 0⟩, ⟨0, 0⟩, ⟨20, 50⟩, ⟨10, 40⟩] : List Span).flatMap encR).toArray 40)) Hlow_20.out (Nat.le_refl _))
  have Hpow_21 := Lib.hid (Hpow_20.out.old ((Below.refl _ y17).alloc (Nat.le_refl _) (.cells (([⟨40, 40⟩, ⟨0, 0⟩, ⟨0, 0⟩, ⟨0, 0⟩, ⟨20, 50⟩, ⟨10, 40⟩] : List Span).flatMap encR).toArray 40)))
  have Hxx_21 := Lib.hid (Hxx_20.out.old ((Below.refl _ y17).alloc (Nat.le_refl _) (.cells (([⟨40, 40⟩, ⟨0, 0⟩, ⟨0, 0⟩, ⟨0, 0⟩, ⟨20, 50⟩, ⟨10, 40⟩] : List Span).flatMap encR).toArray 40)))
  have Hyy_21 := Lib.hid (Hyy_20.out.old ((Below.refl _ y17).alloc (Nat.le_refl _) (.cells (([⟨40, 40⟩, ⟨0, 0⟩, ⟨0, 0⟩, ⟨0, 0⟩, ⟨20, 50⟩, ⟨10, 40⟩] : List Span).flatMap encR).toArray 40)))
  have Hq_21 := Lib.hid (Sl.new encR_len y17 ([⟨40, 40⟩, ⟨0, 0⟩, ⟨0, 0⟩, ⟨0, 0⟩, ⟨20, 50⟩, ⟨10, 40⟩] : List Span) 40 _ rfl)
  clear Hlow_20 Hpow_20 Hxx_20 Hyy_20
  go_wp2_with fail
  refine (sameSpans_any _ _ 6 6 _ _ _ _ _ _ _ Hxx_21.out Hq_21.out (by omega)).mono ?_
  rw [decide_eq_true rfl]
  rintro e y18 ⟨rfl, hB⟩
  have Hlow_22 := Lib.hid (Below.step hB Hlow_21.out (Nat.le_refl _))
  have Hpow_22 := Lib.hid (Hpow_21.out.old hB)
  have Hxx_22 := Lib.hid (Hxx_21.out.old hB)
  have Hyy_22 := Lib.hid (Hyy_21.out.old hB)
  have Hq_22 := Lib.hid (Hq_21.out.old hB)
  clear hB Hlow_21 Hpow_21 Hxx_21 Hyy_21 Hq_21
  clear Hq_22
  clear Hxx_22
  go_wp2_with fail
  refine (kspan_any _ _ _).mono ?_
  rintro e y19 ⟨rfl, hB⟩
  have Hlow_23 := Lib.hid (Below.step hB Hlow_22.out (Nat.le_refl _))
  have Hpow_23 := Lib.hid (Hpow_22.out.old hB)
  have Hyy_23 := Lib.hid (Hyy_22.out.old hB)
  clear hB Hlow_22 Hpow_22 Hyy_22
  go_wp2_with fail
  refine (kspan_any _ _ _).mono ?_
  rintro e y20 ⟨rfl, hB⟩
  have Hlow_24 := Lib.hid (Below.step hB Hlow_23.out (Nat.le_refl _))
  have Hpow_24 := Lib.hid (Hpow_23.out.old hB)
  have Hyy_24 := Lib.hid (Hyy_23.out.old hB)
  clear hB Hlow_23 Hpow_23 Hyy_23
  go_wp2_with fail
  refine (kspan_any _ _ _).mono ?_
  rintro e y21 ⟨rfl, hB⟩
  have Hlow_25 := Lib.hid (Below.step hB Hlow_24.out (Nat.le_refl _))
  have Hpow_25 := Lib.hid (Hpow_24.out.old hB)
  have Hyy_25 := Lib.hid (Hyy_24.out.old hB)
  clear hB Hlow_24 Hpow_24 Hyy_24
  have Hlow_26 := Lib.hid (Below.step ((Below.refl _ y21).alloc (Nat.le_refl _) (.cells (([⟨60, 60⟩, ⟨0, 0⟩, ⟨20, 50⟩, ⟨0, 0⟩, ⟨10, 40⟩] : List Span).flatMap encR).toArray 40)) Hlow_25.out (Nat.le_refl _))
  have Hpow_26 := Lib.hid (Hpow_25.out.old ((Below.refl _ y21).alloc (Nat.le_refl _) (.cells (([⟨60, 60⟩, ⟨0, 0⟩, ⟨20, 50⟩, ⟨0, 0⟩, ⟨10, 40⟩] : List Span).flatMap encR).toArray 40)))
  have Hyy_26 := Lib.hid (Hyy_25.out.old ((Below.refl _ y21).alloc (Nat.le_refl _) (.cells (([⟨60, 60⟩, ⟨0, 0⟩, ⟨20, 50⟩, ⟨0, 0⟩, ⟨10, 40⟩] : List Span).flatMap encR).toArray 40)))
  have Hq_26 := Lib.hid (Sl.new encR_len y21 ([⟨60, 60⟩, ⟨0, 0⟩, ⟨20, 50⟩, ⟨0, 0⟩, ⟨10, 40⟩] : List Span) 40 _ rfl)
  clear Hlow_25 Hpow_25 Hyy_25
  go_wp2_with fail
  refine (sameSpans_any _ _ 5 5 _ _ _ _ _ _ _ Hyy_26.out Hq_26.out (by omega)).mono ?_
  rw [decide_eq_true rfl]
  rintro e y22 ⟨rfl, hB⟩
  have Hlow_27 := Lib.hid (Below.step hB Hlow_26.out (Nat.le_refl _))
  have Hpow_27 := Lib.hid (Hpow_26.out.old hB)
  have Hyy_27 := Lib.hid (Hyy_26.out.old hB)
  have Hq_27 := Lib.hid (Hq_26.out.old hB)
  clear hB Hlow_26 Hpow_26 Hyy_26 Hq_26
  clear Hq_27
  clear Hyy_27
  go_wp2_with fail
  refine (net_any _).mono ?_
  rintro e y23 ⟨nb1, nb2, nA1, nA2, rfl, hN, _, _, hB⟩
  have Hlow_28 := Lib.hid (Below.step hB Hlow_27.out (Nat.le_refl _))
  have Hpow_28 := Lib.hid (Hpow_27.out.old hB)
  have Hn0_28 := Lib.hid (hN)
  clear hB Hlow_27 Hpow_27
  clear hN
  have Hlow_29 := Lib.hid (Below.step ((Below.refl _ y23).alloc (Nat.le_refl _) (.cells #[.int .i64 3] 3)) Hlow_28.out (Nat.le_refl _))
  have Hpow_29 := Lib.hid (Hpow_28.out.old ((Below.refl _ y23).alloc (Nat.le_refl _) (.cells #[.int .i64 3] 3)))
  have Hn0_29 := Lib.hid (Hn0_28.out.old ((Below.refl _ y23).alloc (Nat.le_refl _) (.cells #[.int .i64 3] 3)))
  have Hll_29 := Lib.hid (Sl.newI y23 [3] 3)
  clear Hlow_28 Hpow_28 Hn0_28
  go_wp2_with fail
  refine (Recall_ok _ _ _ _ _ _ 6 6 5 5 1 1 netB netMv [3] _ Hn0_29.out Hll_29.out kn_c3).mono ?_
  rw [kn_recall]
  rintro e y24 ⟨al, cl, rfl, ho, hB⟩
  have Hlow_30 := Lib.hid (Below.step hB Hlow_29.out (Nat.le_refl _))
  have Hpow_30 := Lib.hid (Hpow_29.out.old hB)
  have Hn0_30 := Lib.hid (Hn0_29.out.old hB)
  have Hll_30 := Lib.hid (Hll_29.out.old hB)
  obtain ⟨bl, _, hsl⟩ := Sl.of_own (enc := encI) (l := [3, 4]) encI_len rfl (by rw [flatI]; exact ho)
  have Hrr_30 := Lib.hid (hsl)
  clear hB Hlow_29 Hpow_29 Hn0_29 Hll_29
  clear ho hsl
  clear Hn0_30
  clear Hll_30
  have Hlow_31 := Lib.hid (Below.step ((Below.refl _ y24).alloc (Nat.le_refl _) (.cells #[.int .i64 4, .int .i64 5, .int .i64 2] 3)) Hlow_30.out (Nat.le_refl _))
  have Hpow_31 := Lib.hid (Hpow_30.out.old ((Below.refl _ y24).alloc (Nat.le_refl _) (.cells #[.int .i64 4, .int .i64 5, .int .i64 2] 3)))
  have Hrr_31 := Lib.hid (Hrr_30.out.old ((Below.refl _ y24).alloc (Nat.le_refl _) (.cells #[.int .i64 4, .int .i64 5, .int .i64 2] 3)))
  have Hbat_31 := Lib.hid (Sl.newI y24 [4, 5, 2] 3)
  clear Hlow_30 Hpow_30 Hrr_30
  have Hlow_32 := Lib.hid (Below.step ((Below.refl _ (y24.alloc (.cells #[.int .i64 4, .int .i64 5, .int .i64 2] 3))).alloc (Nat.le_refl _) (.cells #[.int .i64 0, .int .i64 1, .int .i64 3] 3)) Hlow_31.out (Nat.le_refl _))
  have Hpow_32 := Lib.hid (Hpow_31.out.old ((Below.refl _ (y24.alloc (.cells #[.int .i64 4, .int .i64 5, .int .i64 2] 3))).alloc (Nat.le_refl _) (.cells #[.int .i64 0, .int .i64 1, .int .i64 3] 3)))
  have Hrr_32 := Lib.hid (Hrr_31.out.old ((Below.refl _ (y24.alloc (.cells #[.int .i64 4, .int .i64 5, .int .i64 2] 3))).alloc (Nat.le_refl _) (.cells #[.int .i64 0, .int .i64 1, .int .i64 3] 3)))
  have Hbat_32 := Lib.hid (Hbat_31.out.old ((Below.refl _ (y24.alloc (.cells #[.int .i64 4, .int .i64 5, .int .i64 2] 3))).alloc (Nat.le_refl _) (.cells #[.int .i64 0, .int .i64 1, .int .i64 3] 3)))
  have Ho1_32 := Lib.hid (Sl.newI (y24.alloc (.cells #[.int .i64 4, .int .i64 5, .int .i64 2] 3)) [0, 1, 3] 3)
  clear Hlow_31 Hpow_31 Hrr_31 Hbat_31
  have Hlow_33 := Lib.hid (Below.step ((Below.refl _ ((y24.alloc (.cells #[.int .i64 4, .int .i64 5, .int .i64 2] 3)).alloc (.cells #[.int .i64 0, .int .i64 1, .int .i64 3] 3))).alloc (Nat.le_refl _) (.cells #[.int .i64 0, .int .i64 1] 3)) Hlow_32.out (Nat.le_refl _))
  have Hpow_33 := Lib.hid (Hpow_32.out.old ((Below.refl _ ((y24.alloc (.cells #[.int .i64 4, .int .i64 5, .int .i64 2] 3)).alloc (.cells #[.int .i64 0, .int .i64 1, .int .i64 3] 3))).alloc (Nat.le_refl _) (.cells #[.int .i64 0, .int .i64 1] 3)))
  have Hrr_33 := Lib.hid (Hrr_32.out.old ((Below.refl _ ((y24.alloc (.cells #[.int .i64 4, .int .i64 5, .int .i64 2] 3)).alloc (.cells #[.int .i64 0, .int .i64 1, .int .i64 3] 3))).alloc (Nat.le_refl _) (.cells #[.int .i64 0, .int .i64 1] 3)))
  have Hbat_33 := Lib.hid (Hbat_32.out.old ((Below.refl _ ((y24.alloc (.cells #[.int .i64 4, .int .i64 5, .int .i64 2] 3)).alloc (.cells #[.int .i64 0, .int .i64 1, .int .i64 3] 3))).alloc (Nat.le_refl _) (.cells #[.int .i64 0, .int .i64 1] 3)))
  have Ho1_33 := Lib.hid (Ho1_32.out.old ((Below.refl _ ((y24.alloc (.cells #[.int .i64 4, .int .i64 5, .int .i64 2] 3)).alloc (.cells #[.int .i64 0, .int .i64 1, .int .i64 3] 3))).alloc (Nat.le_refl _) (.cells #[.int .i64 0, .int .i64 1] 3)))
  have Ho2_33 := Lib.hid (Sl.newI ((y24.alloc (.cells #[.int .i64 4, .int .i64 5, .int .i64 2] 3)).alloc (.cells #[.int .i64 0, .int .i64 1, .int .i64 3] 3)) [0, 1] 3)
  clear Hlow_32 Hpow_32 Hrr_32 Hbat_32 Ho1_32
  have Hlow_34 := Lib.hid (Below.step ((Below.refl _ (((y24.alloc (.cells #[.int .i64 4, .int .i64 5, .int .i64 2] 3)).alloc (.cells #[.int .i64 0, .int .i64 1, .int .i64 3] 3)).alloc (.cells #[.int .i64 0, .int .i64 1] 3))).alloc (Nat.le_refl _) (.cells #[.slice (some ⟨y24.heap.size + 1, 0, none⟩) 3 3, .slice (some ⟨y24.heap.size + 1 + 1, 0, none⟩) 2 2, .slice none 0 0] 22)) Hlow_33.out (Nat.le_refl _))
  have Hpow_34 := Lib.hid (Hpow_33.out.old ((Below.refl _ (((y24.alloc (.cells #[.int .i64 4, .int .i64 5, .int .i64 2] 3)).alloc (.cells #[.int .i64 0, .int .i64 1, .int .i64 3] 3)).alloc (.cells #[.int .i64 0, .int .i64 1] 3))).alloc (Nat.le_refl _) (.cells #[.slice (some ⟨y24.heap.size + 1, 0, none⟩) 3 3, .slice (some ⟨y24.heap.size + 1 + 1, 0, none⟩) 2 2, .slice none 0 0] 22)))
  have Hrr_34 := Lib.hid (Hrr_33.out.old ((Below.refl _ (((y24.alloc (.cells #[.int .i64 4, .int .i64 5, .int .i64 2] 3)).alloc (.cells #[.int .i64 0, .int .i64 1, .int .i64 3] 3)).alloc (.cells #[.int .i64 0, .int .i64 1] 3))).alloc (Nat.le_refl _) (.cells #[.slice (some ⟨y24.heap.size + 1, 0, none⟩) 3 3, .slice (some ⟨y24.heap.size + 1 + 1, 0, none⟩) 2 2, .slice none 0 0] 22)))
  have Hbat_34 := Lib.hid (Hbat_33.out.old ((Below.refl _ (((y24.alloc (.cells #[.int .i64 4, .int .i64 5, .int .i64 2] 3)).alloc (.cells #[.int .i64 0, .int .i64 1, .int .i64 3] 3)).alloc (.cells #[.int .i64 0, .int .i64 1] 3))).alloc (Nat.le_refl _) (.cells #[.slice (some ⟨y24.heap.size + 1, 0, none⟩) 3 3, .slice (some ⟨y24.heap.size + 1 + 1, 0, none⟩) 2 2, .slice none 0 0] 22)))
  have Ho1_34 := Lib.hid (Ho1_33.out.old ((Below.refl _ (((y24.alloc (.cells #[.int .i64 4, .int .i64 5, .int .i64 2] 3)).alloc (.cells #[.int .i64 0, .int .i64 1, .int .i64 3] 3)).alloc (.cells #[.int .i64 0, .int .i64 1] 3))).alloc (Nat.le_refl _) (.cells #[.slice (some ⟨y24.heap.size + 1, 0, none⟩) 3 3, .slice (some ⟨y24.heap.size + 1 + 1, 0, none⟩) 2 2, .slice none 0 0] 22)))
  have Ho2_34 := Lib.hid (Ho2_33.out.old ((Below.refl _ (((y24.alloc (.cells #[.int .i64 4, .int .i64 5, .int .i64 2] 3)).alloc (.cells #[.int .i64 0, .int .i64 1, .int .i64 3] 3)).alloc (.cells #[.int .i64 0, .int .i64 1] 3))).alloc (Nat.le_refl _) (.cells #[.slice (some ⟨y24.heap.size + 1, 0, none⟩) 3 3, .slice (some ⟨y24.heap.size + 1 + 1, 0, none⟩) 2 2, .slice none 0 0] 22)))
  have Htb_34 := Lib.hid (Blk.new (((y24.alloc (.cells #[.int .i64 4, .int .i64 5, .int .i64 2] 3)).alloc (.cells #[.int .i64 0, .int .i64 1, .int .i64 3] 3)).alloc (.cells #[.int .i64 0, .int .i64 1] 3)) 22 #[.slice (some ⟨y24.heap.size + 1, 0, none⟩) 3 3, .slice (some ⟨y24.heap.size + 1 + 1, 0, none⟩) 2 2, .slice none 0 0])
  clear Hlow_33 Hpow_33 Hrr_33 Hbat_33 Ho1_33 Ho2_33
  try simp only [World.size_alloc] at Hbat_34
  try simp only [World.size_alloc] at Ho1_34
  try simp only [World.size_alloc] at Ho2_34
  try simp only [World.size_alloc] at Htb_34
  go_upto_region 12 with fail
  obtain ⟨wl, hwl⟩ : ∃ W, ((((y24.alloc (.cells #[.int .i64 4, .int .i64 5, .int .i64 2] 3)).alloc (.cells #[.int .i64 0, .int .i64 1, .int .i64 3] 3)).alloc (.cells #[.int .i64 0, .int .i64 1] 3)).alloc (.cells #[.slice (some ⟨y24.heap.size + 1, 0, none⟩) 3 3, .slice (some ⟨y24.heap.size + 1 + 1, 0, none⟩) 2 2, .slice none 0 0] 22)) = W := ⟨_, rfl⟩
  skip
  rw [hwl] at Hlow_34 Hpow_34 Hrr_34 Hbat_34 Ho1_34 Ho2_34 Htb_34 ⊢
  clear hwl
  go_wp2_with fail
  go_loopw [14] (fun i wr => ∃ k : Nat, k ≤ 3 ∧ i = .int .i64 (k : Int) ∧ Below wl.heap.size wl wr) (fun i _ => 3 - (intOf i).toNat)
  case atStart => exact ⟨0, by omega, rfl, Below.refl _ _⟩
  case round =>
    obtain ⟨k, hk, rfl, hB⟩ := hrel
    have HB := Lib.hid hB
    clear hB
    by_cases hlt : k < 3
    · obtain ⟨v, ex, A, b, n, hv, hex, hvc, hac, hsl⟩ : ∃ (v : Nat) (ex : List Int) (A : Option Addr) (b n : Nat), (v < 6 ∧ n ≤ 3) ∧ originsT netB netMv (v : Int) = ex ∧ (∀ W, Below wl.heap.size wl W → W.cell? ⟨y24.heap.size, k, none⟩ = some (.int .i64 (v : Int))) ∧ (∀ W, Below wl.heap.size wl W → W.cell? ⟨y24.heap.size + 1 + 1 + 1, k, none⟩ = some (.slice A n n)) ∧ Sl encI 1 wl b A n ex := by
        rcases (show k = 0 ∨ k = 1 ∨ k = 2 by omega) with rfl | rfl | rfl
        · exact ⟨4, [0, 1, 3], _, _, 3, ⟨by omega, by omega⟩, kn_or4, fun W hb => (by obtain ⟨o, ho, _, hc⟩ := (Hbat_34.out.old hb).atI (k := 0) (by simp); injection ho with ho; injection ho with h1 h2; rw [h1, h2]; exact hc), fun W hb => (Htb_34.out.below hb Htb_34.out.lt).cell 0, Ho1_34.out⟩
        · exact ⟨5, [0, 1], _, _, 2, ⟨by omega, by omega⟩, kn_or5, fun W hb => (by obtain ⟨o, ho, _, hc⟩ := (Hbat_34.out.old hb).atI (k := 1) (by simp); injection ho with ho; injection ho with h1 h2; rw [← h2] at hc; rw [h1]; simpa using hc), fun W hb => (Htb_34.out.below hb Htb_34.out.lt).cell 1, Ho2_34.out⟩
        · exact ⟨2, [], none, 0, 0, ⟨by omega, by omega⟩, kn_or2, fun W hb => (by obtain ⟨o, ho, _, hc⟩ := (Hbat_34.out.old hb).atI (k := 2) (by simp); injection ho with ho; injection ho with h1 h2; rw [← h2] at hc; rw [h1]; simpa using hc), fun W hb => (Htb_34.out.below hb Htb_34.out.lt).cell 2, Sl.nil _ _ _⟩
      have HVC := Lib.hid hvc
      have HAC := Lib.hid hac
      have HSL := Lib.hid hsl
      obtain ⟨hv, hn3⟩ := hv
      have k0 : (0 : Int) ≤ (k : Int) := by omega
      have k1 : (k : Int) < 3 := by omega
      have hbd : Below wl.heap.size wl wr.drew := HB.out.drew
      have hsl0 : Sl encI 1 wl b A n ex := hsl
      clear hvc hac hsl
      go_upto_region 15 with fail
      refine wp_region_PL [4] (fun W => W.cell? ⟨y24.heap.size, k, none⟩ = some (.int .i64 (v : Int))) rfl (by kernel_rfl) (HVC.out _ hbd) (fun hF0 => ?_)
      (refine wpAnyP_takeL (i := 1) (v := ?_) rfl (by kernel_rfl) (by kernel_rfl) (by kernel_rfl) (fun _ _ _ h => h) (by rfl) ?_ ?_; rotate_left 1; focus (intro w; go_simp; try with_reducible rfl))
      try simp only [Act.put, List.setIfInBounds_toArray, List.set_cons_zero, List.set_cons_succ]
      (refine wpAnyP_takeL (i := 2) (v := ?_) rfl (by kernel_rfl) (by kernel_rfl) (by kernel_rfl) (fun _ _ _ h => h) (by rfl) ?_ ?_; rotate_left 1; focus (intro w; go_simp; try with_reducible rfl))
      try simp only [Act.put, List.setIfInBounds_toArray, List.set_cons_zero, List.set_cons_succ]
      (refine wpAnyP_takeL (i := 3) (v := ?_) rfl (by kernel_rfl) (by kernel_rfl) (by kernel_rfl) (fun _ _ _ h => h) (by rfl) ?_ ?_; rotate_left 1; focus (intro w; go_simp; try with_reducible rfl))
      try simp only [Act.put, List.setIfInBounds_toArray, List.set_cons_zero, List.set_cons_succ]
      (refine wpAnyP_loadL (i := 4) (v := ?_) rfl (by kernel_rfl) (by kernel_rfl) (by kernel_rfl) (by rfl) (fun _ _ _ h => h) hF0 (by rfl) ?_ ?_; rotate_left 1; focus (intro w hFw; (try dsimp only at hFw); go_split_ands; go_simp; try with_reducible rfl))
      try simp only [Act.put, List.setIfInBounds_toArray, List.set_cons_zero, List.set_cons_succ]
      refine wpAnyP_step0 (by kernel_rfl) (by rfl) (fun K hK => ?_)
      go_simp
      (refine (net_any _).mono ?_; rintro e z1 ⟨nb1, nb2, nA1, nA2, rfl, hN, _, _, hz⟩; have HN := Lib.hid hN; have HB1 := Lib.hid (hbd.trans (hz.mono hbd.size)); clear hN hz)
      (refine hK _ _ (HVC.out _ HB1.out) (fun hF1 => ?_); clear hK K hF0)
      try simp only [Act.put, List.setIfInBounds_toArray, List.set_cons_zero, List.set_cons_succ]
      refine wpAnyP_last (i := 5) rfl (by kernel_rfl) (by kernel_rfl) (by rfl) (fun K hK => ?_)
      go_simp
      (refine (Origins_ok _ _ _ _ 6 6 5 5 netB netMv v _ HN.out kn_chk (show v < netB.length from hv)).mono ?_; rw [hex]; rintro e z2 ⟨ao, co, rfl, ho, hz⟩; have HB2 := Lib.hid (HB1.out.trans (hz.mono HB1.out.size)); have HOO := Lib.hid ho; clear ho hz)
      (refine hK _ _ ?_; clear hK K)
      try simp only [Act.put, List.setIfInBounds_toArray, List.set_cons_zero, List.set_cons_succ]
      (refine wpAnyP_takeL (i := 6) (v := ?_) rfl (by kernel_rfl) (by kernel_rfl) (by kernel_rfl) (fun _ _ _ h => h) (by rfl) ?_ ?_; rotate_left 1; focus (intro w; go_simp; try with_reducible rfl))
      try simp only [Act.put, List.setIfInBounds_toArray, List.set_cons_zero, List.set_cons_succ]
      (refine wpAnyP_takeL (i := 7) (v := ?_) rfl (by kernel_rfl) (by kernel_rfl) (by kernel_rfl) (fun _ _ _ h => h) (by rfl) ?_ ?_; rotate_left 1; focus (intro w; go_simp; try with_reducible rfl))
      try simp only [Act.put, List.setIfInBounds_toArray, List.set_cons_zero, List.set_cons_succ]
      (refine wpAnyP_takeL (i := 8) (v := ?_) rfl (by kernel_rfl) (by kernel_rfl) (by kernel_rfl) (fun _ _ _ h => h) (by rfl) ?_ ?_; rotate_left 1; focus (intro w; go_simp; try with_reducible rfl))
      try simp only [Act.put, List.setIfInBounds_toArray, List.set_cons_zero, List.set_cons_succ]
      (refine wpAnyP_takeL (i := 9) (v := ?_) rfl (by kernel_rfl) (by kernel_rfl) (by kernel_rfl) (fun _ _ _ h => h) (by rfl) ?_ ?_; rotate_left 1; focus (intro w; go_simp; try with_reducible rfl))
      try simp only [Act.put, List.setIfInBounds_toArray, List.set_cons_zero, List.set_cons_succ]
      (refine wpAnyP_takeL (i := 10) (v := ?_) rfl (by kernel_rfl) (by kernel_rfl) (by kernel_rfl) (fun _ _ _ h => h) (by rfl) ?_ ?_; rotate_left 1; focus (intro w; go_simp; try with_reducible rfl))
      try simp only [Act.put, List.setIfInBounds_toArray, List.set_cons_zero, List.set_cons_succ]
      refine wpAnyP_done (by kernel_rfl) ?_ _
      obtain ⟨bo, _, hso⟩ := Sl.of_own (enc := encI) encI_len rfl HOO.out
      have HSO := Lib.hid hso
      have t0 := HAC.out _ HB2.out
      have HLN := Lib.hid hsl0.len
      have hle : ex.length ≤ 3 := by have := HLN.out; omega
      clear hso hsl0 HOO
      go_wp2_with fail
      refine (sameInts_any bo b _ n co n ao A ex ex _ HSO.out (HSL.out.old HB2.out) (by omega)).mono ?_
      rw [decide_eq_true rfl]
      rintro e z3 ⟨rfl, hz⟩
      have HB3 := Lib.hid (HB2.out.trans (hz.mono HB2.out.size))
      clear hz
      go_wp2_with fail
      exact ⟨⟨k + 1, by omega, by go_num, HB3.out⟩, by simp [intOf]; omega⟩
    · obtain rfl : k = 3 := by omega
      obtain ⟨wm, rfl⟩ : ∃ W : World, W = wr := ⟨_, rfl⟩
      have Hlow_35 := Lib.hid (Below.step HB.out Hlow_34.out (Nat.le_refl _))
      have Hpow_35 := Lib.hid (Hpow_34.out.old HB.out)
      have Hrr_35 := Lib.hid (Hrr_34.out.old HB.out)
      have Hbat_35 := Lib.hid (Hbat_34.out.old HB.out)
      have Ho1_35 := Lib.hid (Ho1_34.out.old HB.out)
      have Ho2_35 := Lib.hid (Ho2_34.out.old HB.out)
      have Htb_35 := Lib.hid (Htb_34.out.below HB.out Htb_34.out.lt)
      clear HB Hlow_34 Hpow_34 Hrr_34 Hbat_34 Ho1_34 Ho2_34 Htb_34
      clear Hbat_35
      clear Ho1_35
      clear Ho2_35
      clear Htb_35
      go_wp2_with fail
      refine (net_any _).mono ?_
      rintro e y25 ⟨nb1, nb2, nA1, nA2, rfl, hN, _, _, hB⟩
      have Hlow_36 := Lib.hid (Below.step hB Hlow_35.out (Nat.le_refl _))
      have Hpow_36 := Lib.hid (Hpow_35.out.old hB)
      have Hrr_36 := Lib.hid (Hrr_35.out.old hB)
      have Hn0_36 := Lib.hid (hN)
      clear hB Hlow_35 Hpow_35 Hrr_35
      clear hN
      have Hlow_37 := Lib.hid (Below.step ((Below.refl _ y25).alloc (Nat.le_refl _) (.cells #[.int .i64 0, .int .i64 3] 3)) Hlow_36.out (Nat.le_refl _))
      have Hpow_37 := Lib.hid (Hpow_36.out.old ((Below.refl _ y25).alloc (Nat.le_refl _) (.cells #[.int .i64 0, .int .i64 3] 3)))
      have Hrr_37 := Lib.hid (Hrr_36.out.old ((Below.refl _ y25).alloc (Nat.le_refl _) (.cells #[.int .i64 0, .int .i64 3] 3)))
      have Hn0_37 := Lib.hid (Hn0_36.out.old ((Below.refl _ y25).alloc (Nat.le_refl _) (.cells #[.int .i64 0, .int .i64 3] 3)))
      have Hll_37 := Lib.hid (Sl.newI y25 [0, 3] 3)
      clear Hlow_36 Hpow_36 Hrr_36 Hn0_36
      go_wp2_with fail
      refine (Samples_ok _ _ _ _ _ _ 6 6 5 5 2 2 netB netMv [0, 3] _ Hn0_37.out Hll_37.out (by omega) kn_c03).mono ?_
      rintro e y26 ⟨hS, hB⟩
      have Hlow_38 := Lib.hid (Below.step hB Hlow_37.out (Nat.le_refl _))
      have Hpow_38 := Lib.hid (Hpow_37.out.old hB)
      have Hrr_38 := Lib.hid (Hrr_37.out.old hB)
      have Hn0_38 := Lib.hid (Hn0_37.out.old hB)
      have Hll_38 := Lib.hid (Hll_37.out.old hB)
      rw [kn_s03] at hS
      rcases hS with ⟨xs, AXsa, cXsa, hx, rfl, hoX⟩ | ⟨hx, _⟩
      case inr => cases hx
      injection hx with hx
      subst hx
      obtain ⟨bXsa, _, hsX⟩ := Sl.of_own (enc := encI) encI_len (by rfl) hoX
      have Hsa_38 := Lib.hid (hsX)
      clear hB Hlow_37 Hpow_37 Hrr_37 Hn0_37 Hll_37
      clear hoX hsX
      clear Hn0_38
      clear Hll_38
      go_wp2_with fail
      refine (net_any _).mono ?_
      rintro e y27 ⟨nb1, nb2, nA1, nA2, rfl, hN, _, _, hB⟩
      have Hlow_39 := Lib.hid (Below.step hB Hlow_38.out (Nat.le_refl _))
      have Hpow_39 := Lib.hid (Hpow_38.out.old hB)
      have Hrr_39 := Lib.hid (Hrr_38.out.old hB)
      have Hsa_39 := Lib.hid (Hsa_38.out.old hB)
      have Hn0_39 := Lib.hid (hN)
      clear hB Hlow_38 Hpow_38 Hrr_38 Hsa_38
      clear hN
      have Hlow_40 := Lib.hid (Below.step ((Below.refl _ y27).alloc (Nat.le_refl _) (.cells #[.int .i64 0] 3)) Hlow_39.out (Nat.le_refl _))
      have Hpow_40 := Lib.hid (Hpow_39.out.old ((Below.refl _ y27).alloc (Nat.le_refl _) (.cells #[.int .i64 0] 3)))
      have Hrr_40 := Lib.hid (Hrr_39.out.old ((Below.refl _ y27).alloc (Nat.le_refl _) (.cells #[.int .i64 0] 3)))
      have Hsa_40 := Lib.hid (Hsa_39.out.old ((Below.refl _ y27).alloc (Nat.le_refl _) (.cells #[.int .i64 0] 3)))
      have Hn0_40 := Lib.hid (Hn0_39.out.old ((Below.refl _ y27).alloc (Nat.le_refl _) (.cells #[.int .i64 0] 3)))
      have Hll_40 := Lib.hid (Sl.newI y27 [0] 3)
      clear Hlow_39 Hpow_39 Hrr_39 Hsa_39 Hn0_39
      go_wp2_with fail
      refine (Samples_ok _ _ _ _ _ _ 6 6 5 5 1 1 netB netMv [0] _ Hn0_40.out Hll_40.out (by omega) kn_c0).mono ?_
      rintro e y28 ⟨hS, hB⟩
      have Hlow_41 := Lib.hid (Below.step hB Hlow_40.out (Nat.le_refl _))
      have Hpow_41 := Lib.hid (Hpow_40.out.old hB)
      have Hrr_41 := Lib.hid (Hrr_40.out.old hB)
      have Hsa_41 := Lib.hid (Hsa_40.out.old hB)
      have Hn0_41 := Lib.hid (Hn0_40.out.old hB)
      have Hll_41 := Lib.hid (Hll_40.out.old hB)
      rw [kn_s0] at hS
      rcases hS with ⟨xs, AXsb, cXsb, hx, rfl, hoX⟩ | ⟨hx, _⟩
      case inr => cases hx
      injection hx with hx
      subst hx
      obtain ⟨bXsb, _, hsX⟩ := Sl.of_own (enc := encI) encI_len (by rfl) hoX
      have Hsb_41 := Lib.hid (hsX)
      clear hB Hlow_40 Hpow_40 Hrr_40 Hsa_40 Hn0_40 Hll_40
      clear hoX hsX
      clear Hn0_41
      clear Hll_41
      go_wp2_with fail
      refine (net_any _).mono ?_
      rintro e y29 ⟨nb1, nb2, nA1, nA2, rfl, hN, _, _, hB⟩
      have Hlow_42 := Lib.hid (Below.step hB Hlow_41.out (Nat.le_refl _))
      have Hpow_42 := Lib.hid (Hpow_41.out.old hB)
      have Hrr_42 := Lib.hid (Hrr_41.out.old hB)
      have Hsa_42 := Lib.hid (Hsa_41.out.old hB)
      have Hsb_42 := Lib.hid (Hsb_41.out.old hB)
      have Hn0_42 := Lib.hid (hN)
      clear hB Hlow_41 Hpow_41 Hrr_41 Hsa_41 Hsb_41
      clear hN
      have Hlow_43 := Lib.hid (Below.step ((Below.refl _ y29).alloc (Nat.le_refl _) (.cells #[.int .i64 2, .int .i64 4] 3)) Hlow_42.out (Nat.le_refl _))
      have Hpow_43 := Lib.hid (Hpow_42.out.old ((Below.refl _ y29).alloc (Nat.le_refl _) (.cells #[.int .i64 2, .int .i64 4] 3)))
      have Hrr_43 := Lib.hid (Hrr_42.out.old ((Below.refl _ y29).alloc (Nat.le_refl _) (.cells #[.int .i64 2, .int .i64 4] 3)))
      have Hsa_43 := Lib.hid (Hsa_42.out.old ((Below.refl _ y29).alloc (Nat.le_refl _) (.cells #[.int .i64 2, .int .i64 4] 3)))
      have Hsb_43 := Lib.hid (Hsb_42.out.old ((Below.refl _ y29).alloc (Nat.le_refl _) (.cells #[.int .i64 2, .int .i64 4] 3)))
      have Hn0_43 := Lib.hid (Hn0_42.out.old ((Below.refl _ y29).alloc (Nat.le_refl _) (.cells #[.int .i64 2, .int .i64 4] 3)))
      have Hll_43 := Lib.hid (Sl.newI y29 [2, 4] 3)
      clear Hlow_42 Hpow_42 Hrr_42 Hsa_42 Hsb_42 Hn0_42
      go_wp2_with fail
      refine (Samples_ok _ _ _ _ _ _ 6 6 5 5 2 2 netB netMv [2, 4] _ Hn0_43.out Hll_43.out (by omega) kn_c24).mono ?_
      rintro e y30 ⟨hS, hB⟩
      have Hlow_44 := Lib.hid (Below.step hB Hlow_43.out (Nat.le_refl _))
      have Hpow_44 := Lib.hid (Hpow_43.out.old hB)
      have Hrr_44 := Lib.hid (Hrr_43.out.old hB)
      have Hsa_44 := Lib.hid (Hsa_43.out.old hB)
      have Hsb_44 := Lib.hid (Hsb_43.out.old hB)
      have Hn0_44 := Lib.hid (Hn0_43.out.old hB)
      have Hll_44 := Lib.hid (Hll_43.out.old hB)
      rw [kn_s24] at hS
      rcases hS with ⟨xs, AX, cX, hx, _⟩ | ⟨_, rfl⟩
      case inl => cases hx
      clear hB Hlow_43 Hpow_43 Hrr_43 Hsa_43 Hsb_43 Hn0_43 Hll_43
      clear Hn0_44
      clear Hll_44
      go_wp2_with fail
      refine (net_any _).mono ?_
      rintro e y31 ⟨nb1, nb2, nA1, nA2, rfl, hN, _, _, hB⟩
      have Hlow_45 := Lib.hid (Below.step hB Hlow_44.out (Nat.le_refl _))
      have Hpow_45 := Lib.hid (Hpow_44.out.old hB)
      have Hrr_45 := Lib.hid (Hrr_44.out.old hB)
      have Hsa_45 := Lib.hid (Hsa_44.out.old hB)
      have Hsb_45 := Lib.hid (Hsb_44.out.old hB)
      have Hn0_45 := Lib.hid (hN)
      clear hB Hlow_44 Hpow_44 Hrr_44 Hsa_44 Hsb_44
      clear hN
      obtain ⟨sw, hsw⟩ : ∃ sw : ByteArray, sw = ⟨(trailT netB netMv).toArray⟩ := ⟨_, rfl⟩
      have hse : (sw.toList == [98, 97, 116, 99, 104, 32, 49, 48, 48, 10, 98, 97, 116, 99, 104, 32, 53, 48, 10, 98, 97, 116, 99, 104, 32, 48, 10, 98, 97, 116, 99, 104, 32, 50, 48, 10, 98, 97, 116, 99, 104, 32, 48, 10, 98, 97, 116, 99, 104, 32, 48, 10, 109, 111, 118, 101, 32, 48, 32, 50, 32, 54, 48, 10, 109, 111, 118, 101, 32, 49, 32, 50, 32, 51, 48, 10, 109, 111, 118, 101, 32, 50, 32, 52, 32, 53, 48, 10, 109, 111, 118, 101, 32, 51, 32, 52, 32, 49, 48, 10, 109, 111, 118, 101, 32, 50, 32, 53, 32, 52, 48, 10, 101, 110, 100, 32, 53, 10]) = true := by rw [hsw, kn_trail, ByteArray.toList_eq]; exact beq_self_eq_true _
      go_wp2_with fail
      refine (twrite_any _ _ _ _ _ _ _ _ _ _ _ Hn0_45.out (by omega) (by omega) Hpow_45.out).mono ?_
      rw [← hsw, kn_chk]
      rintro e y32 ⟨rfl, hB⟩
      have Hlow_46 := Lib.hid (Below.step hB Hlow_45.out (Nat.le_refl _))
      have Hpow_46 := Lib.hid (Hpow_45.out.old hB)
      have Hrr_46 := Lib.hid (Hrr_45.out.old hB)
      have Hsa_46 := Lib.hid (Hsa_45.out.old hB)
      have Hsb_46 := Lib.hid (Hsb_45.out.old hB)
      have Hn0_46 := Lib.hid (Hn0_45.out.old hB)
      clear hB Hlow_45 Hpow_45 Hrr_45 Hsa_45 Hsb_45 Hn0_45
      clear hsw
      clear Hn0_46
      have Hlow_47 := Lib.hid (Below.step ((Below.refl _ y32).alloc (Nat.le_refl _) (.cells #[.int .i64 3, .int .i64 4] 3)) Hlow_46.out (Nat.le_refl _))
      have Hpow_47 := Lib.hid (Hpow_46.out.old ((Below.refl _ y32).alloc (Nat.le_refl _) (.cells #[.int .i64 3, .int .i64 4] 3)))
      have Hrr_47 := Lib.hid (Hrr_46.out.old ((Below.refl _ y32).alloc (Nat.le_refl _) (.cells #[.int .i64 3, .int .i64 4] 3)))
      have Hsa_47 := Lib.hid (Hsa_46.out.old ((Below.refl _ y32).alloc (Nat.le_refl _) (.cells #[.int .i64 3, .int .i64 4] 3)))
      have Hsb_47 := Lib.hid (Hsb_46.out.old ((Below.refl _ y32).alloc (Nat.le_refl _) (.cells #[.int .i64 3, .int .i64 4] 3)))
      have Hq_47 := Lib.hid (Sl.newI y32 [3, 4] 3)
      clear Hlow_46 Hpow_46 Hrr_46 Hsa_46 Hsb_46
      go_wp2_with fail
      refine (sameInts_any _ _ 2 2 _ _ _ _ _ _ _ Hrr_47.out Hq_47.out (by omega)).mono ?_
      rw [decide_eq_true rfl]
      rintro e y33 ⟨rfl, hB⟩
      have Hlow_48 := Lib.hid (Below.step hB Hlow_47.out (Nat.le_refl _))
      have Hpow_48 := Lib.hid (Hpow_47.out.old hB)
      have Hrr_48 := Lib.hid (Hrr_47.out.old hB)
      have Hsa_48 := Lib.hid (Hsa_47.out.old hB)
      have Hsb_48 := Lib.hid (Hsb_47.out.old hB)
      have Hq_48 := Lib.hid (Hq_47.out.old hB)
      clear hB Hlow_47 Hpow_47 Hrr_47 Hsa_47 Hsb_47 Hq_47
      clear Hq_48
      have Hlow_49 := Lib.hid (Below.step ((Below.refl _ y33).alloc (Nat.le_refl _) (.cells #[.int .i64 0] 3)) Hlow_48.out (Nat.le_refl _))
      have Hpow_49 := Lib.hid (Hpow_48.out.old ((Below.refl _ y33).alloc (Nat.le_refl _) (.cells #[.int .i64 0] 3)))
      have Hrr_49 := Lib.hid (Hrr_48.out.old ((Below.refl _ y33).alloc (Nat.le_refl _) (.cells #[.int .i64 0] 3)))
      have Hsa_49 := Lib.hid (Hsa_48.out.old ((Below.refl _ y33).alloc (Nat.le_refl _) (.cells #[.int .i64 0] 3)))
      have Hsb_49 := Lib.hid (Hsb_48.out.old ((Below.refl _ y33).alloc (Nat.le_refl _) (.cells #[.int .i64 0] 3)))
      have Hq_49 := Lib.hid (Sl.newI y33 [0] 3)
      clear Hlow_48 Hpow_48 Hrr_48 Hsa_48 Hsb_48
      go_wp2_with fail
      refine (sameInts_any _ _ 1 1 _ _ _ _ _ _ _ Hsa_49.out Hq_49.out (by omega)).mono ?_
      rw [decide_eq_true rfl]
      rintro e y34 ⟨rfl, hB⟩
      have Hlow_50 := Lib.hid (Below.step hB Hlow_49.out (Nat.le_refl _))
      have Hpow_50 := Lib.hid (Hpow_49.out.old hB)
      have Hrr_50 := Lib.hid (Hrr_49.out.old hB)
      have Hsa_50 := Lib.hid (Hsa_49.out.old hB)
      have Hsb_50 := Lib.hid (Hsb_49.out.old hB)
      have Hq_50 := Lib.hid (Hq_49.out.old hB)
      clear hB Hlow_49 Hpow_49 Hrr_49 Hsa_49 Hsb_49 Hq_49
      clear Hq_50
      go_wp2_with fail
      go_ret
      exact ⟨rfl, Hlow_50.out⟩
end Go.Proofs.YtkphgdkjjklajaaDoor
