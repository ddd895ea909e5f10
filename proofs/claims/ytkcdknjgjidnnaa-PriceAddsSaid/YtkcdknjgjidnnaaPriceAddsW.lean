/-
  The walk of the law PriceAdds.
-/
import Derived.Test.YtkcdknjgjidnnaaNums
import Derived.Test.YtkcdknjgjidnnaaAwake
import Derived.Test.YtkcdknjgjidnnaaOk
import Derived.Test.YtkcdknjgjidnnaaSealLaw
import Derived.Test.YtkcdknjgjidnnaaStepsOf
import Derived.Test.YtkcdknjgjidnnaaKit2
import Derived.Test.YtkcdknjgjidnnaaRows2
import Derived.Deep.QuietTactic
import Derived.BigQuiet
set_option linter.unusedVariables false
set_option linter.unusedSimpArgs false
namespace Go.Proofs.Ytkcdknjgjidnnaa
open Go.RowKit

theorem SaleOk.widen {st gd st' gd' : Int} {s : Sale} (h : SaleOk st gd s) (h1 : st ≤ st') (h2 : gd ≤ gd') : SaleOk st' gd' s :=
  ⟨h.st0, by have := h.st1; omega, h.gd0, by have := h.gd1; omega, h.gl0, h.gl1, h.gh1, h.cl0, h.cl1, h.ch1⟩
theorem adds_spans {l1 l2 : List Sale} (h1 : BookIn 3 3 l1) (h2 : BookIn 3 3 l2) {steps : List Step} (hs : StepsIn steps) (k : Int) :
    (dueSpan steps (turn l1 k)).lo ≤ (dueSpan steps (turn (l1 ++ l2) k)).lo ∧ (dueSpan steps (turn (l1 ++ l2) k)).lo ≤ (dueSpan steps (turn l1 k)).lo + (turn l2 k).lo ∧
    (dueSpan steps (turn l1 k)).hi ≤ (dueSpan steps (turn (l1 ++ l2) k)).hi ∧ (dueSpan steps (turn (l1 ++ l2) k)).hi ≤ (dueSpan steps (turn l1 k)).hi + (turn l2 k).hi ∧
    0 ≤ (dueSpan steps (turn l1 k)).lo ∧ (dueSpan steps (turn l1 k)).lo ≤ 400000000 ∧ 0 ≤ (dueSpan steps (turn l1 k)).hi ∧ (dueSpan steps (turn l1 k)).hi ≤ 400000000 := by
  obtain ⟨a1, a2, a3⟩ := turn_bd h1.sales k
  obtain ⟨b1, b2, b3⟩ := turn_bd h2.sales k
  have := h1.len
  rw [turn_append]
  unfold dueSpan
  simp only
  have c1 := dues_mono (l := steps) hs.sh0 (show (turn l1 k).lo ≤ (turn l1 k).lo + (turn l2 k).lo by omega)
  have c2 := dues_lip hs (t := (turn l1 k).lo) (y := (turn l2 k).lo) (by omega)
  have c3 := dues_mono (l := steps) hs.sh0 (show (turn l1 k).hi ≤ (turn l1 k).hi + (turn l2 k).hi by omega)
  have c4 := dues_lip hs (t := (turn l1 k).hi) (y := (turn l2 k).hi) (by omega)
  have c5 := dues_bd hs (t := (turn l1 k).lo) (by omega)
  have c6 := dues_bd hs (t := (turn l1 k).hi) (by omega)
  omega

set_option maxRecDepth 100000 in
set_option maxHeartbeats 2000000 in
theorem priceAdds_any (A : Option Addr) (n c : Nat) (w : World) (hN : Nums w A n) : Calls Try.prog 9 #[.slice A n c] w fun e w' => e = .returned (.bool true) ∧ Below w.heap.size w w' := by
  obtain ⟨b, l, hl, hw, hn⟩ := hN
  have HW := Lib.hid hw
  clear hw
  obtain ⟨i0, hi, iz0, iz1, iz2⟩ := info_parts info_sale'
  go_enter Try.func9, Try.ntmps9
  go_wp2_with fail
  refine (dieOf_any b n c A l _ hl hn HW.out).mono ?_
  rintro e w1 ⟨d, hd, rfl, hdie, hB1⟩
  have hz1 := hB1.size
  have HB1 := Lib.hid hB1
  clear hB1 hl
  go_wp2_with fail
  refine (bookOf_any d 3 3 8 _ hdie (by omega) (by omega) (by omega) (by omega) (by omega)).mono ?_
  rintro e w2 ⟨st1, gd1, b1, m1, c1, A1, l1, ⟨hs1, hs2, hg1, hg2, hm1, hok1⟩, rfl, hb1, hb1d, hsl1, hd2, hgr2⟩
  have HL1 := Lib.hid hsl1.len
  have HI1 := Lib.hid (check_ok (st := 3) (gd := 3) (l := l1) (by omega) (by omega) (by omega) (by omega) (by have := HL1.out; omega) (fun s hs => (hok1 s hs).widen hs2 hg2))
  have HB2 := Lib.hid (Below.stepG hgr2 HB1.out (Nat.le_refl _) hd)
  have hz2 := hgr2.size
  clear hok1 hgr2 HB1 hdie
  go_wp2_with fail
  refine (bookOf_any d 3 3 8 _ hd2 (by omega) (by omega) (by omega) (by omega) (by omega)).mono ?_
  rintro e w3 ⟨st2, gd2, b2, m2, c2, A2, l2, ⟨ht1, ht2, hq1, hq2, hm2, hok2⟩, rfl, hb2, hb2d, hsl2, hd3, hgr3⟩
  have HL2 := Lib.hid hsl2.len
  have HI2 := Lib.hid (check_ok (st := 3) (gd := 3) (l := l2) (by omega) (by omega) (by omega) (by omega) (by have := HL2.out; omega) (fun s hs => (hok2 s hs).widen ht2 hq2))
  have HB3 := Lib.hid (Below.stepG hgr3 HB2.out (Nat.le_refl _) hd)
  have hz3 := hgr3.size
  have S1 := Lib.hid (hsl1.grown hgr3 (fun _ e => hb1d (by injection e)))
  have S2 := Lib.hid hsl2
  have hdz := hd3.lt
  have D3 := Lib.hid hd3
  clear hok2 hgr3 HB2 hd2 hsl1 hsl2 hd3
  go_wp2_with fail
  have S1a := (S1.out.alloc (.cells #[.int .i64 3, .int .i64 3, .slice A1 m1 c1] 24)).alloc (.cells #[.int .i64 3, .int .i64 3, .slice A2 m2 c2] 24)
  have S2a := (S2.out.alloc (.cells #[.int .i64 3, .int .i64 3, .slice A1 m1 c1] 24)).alloc (.cells #[.int .i64 3, .int .i64 3, .slice A2 m2 c2] 24)
  have K4a := (Blk.new w3 24 #[.int .i64 3, .int .i64 3, .slice A1 m1 c1]).alloc (.cells #[.int .i64 3, .int .i64 3, .slice A2 m2 c2] 24)
  have K5a := Blk.new (w3.alloc (.cells #[.int .i64 3, .int .i64 3, .slice A1 m1 c1] 24)) 24 #[.int .i64 3, .int .i64 3, .slice A2 m2 c2]
  have D3a := (D3.out.alloc (.cells #[.int .i64 3, .int .i64 3, .slice A1 m1 c1] 24)).alloc (.cells #[.int .i64 3, .int .i64 3, .slice A2 m2 c2] 24)
  have La := (HB3.out.alloc (by omega) (.cells #[.int .i64 3, .int .i64 3, .slice A1 m1 c1] 24)).alloc (by simp; omega) (.cells #[.int .i64 3, .int .i64 3, .slice A2 m2 c2] 24)
  rw [World.size_alloc] at K5a
  have HX := Lib.hid (And.intro S1a (And.intro S2a (And.intro K4a (And.intro K5a (And.intro D3a La)))))
  clear S1a S2a K4a K5a D3a La
  refine (copyBook_any 3 3 b1 m1 c1 A1 l1 _ HX.out.1 (by omega)).mono ?_
  rintro e w4 ⟨A4, c4, rfl, hown, hB4⟩
  obtain ⟨xS1, xS2, xK4, xK5, xD, xL⟩ := HX.out
  have hz4 := hB4.size
  simp only [World.size_alloc] at hz4
  have S14 := Lib.hid ((xS1.old hB4).alloc (.cells #[.int .i64 3, .int .i64 3, .slice A4 m1 c4] 24))
  have S24 := Lib.hid ((xS2.old hB4).alloc (.cells #[.int .i64 3, .int .i64 3, .slice A4 m1 c4] 24))
  have K44 := Lib.hid ((xK4.below hB4 xK4.lt).alloc (.cells #[.int .i64 3, .int .i64 3, .slice A4 m1 c4] 24))
  have K54 := Lib.hid ((xK5.below hB4 xK5.lt).alloc (.cells #[.int .i64 3, .int .i64 3, .slice A4 m1 c4] 24))
  have K64 := Lib.hid (Blk.new w4 24 #[.int .i64 3, .int .i64 3, .slice A4 m1 c4])
  have D4 := Lib.hid ((xD.keep (hB4.block d (by simp; omega))).alloc (.cells #[.int .i64 3, .int .i64 3, .slice A4 m1 c4] 24))
  have O4 := Lib.hid (hown.alloc (.cells #[.int .i64 3, .int .i64 3, .slice A4 m1 c4] 24))
  have L4 := Lib.hid ((Below.step hB4 xL (Nat.le_refl _)).alloc (by omega) (.cells #[.int .i64 3, .int .i64 3, .slice A4 m1 c4] 24))
  simp only [World.size_alloc] at hown
  clear xS1 xS2 xK4 xK5 xD xL hB4 hown HX
  have k52 := K54.out.cell 2
  have hbase : (((w3.alloc (.cells #[.int .i64 3, .int .i64 3, .slice A1 m1 c1] 24)).alloc (.cells #[.int .i64 3, .int .i64 3, .slice A2 m2 c2] 24)).heap.size) = w3.heap.size + 1 + 1 := by simp
  go_wp2_with (at_builtin; refine wpList_append_sl rfl (.tmp 32) (.tmp 34) _ rfl _ 28 i0 _ 48 Try.underlying22 hi iz0 iz1 iz2 rfl (by omega) encS_len _ m1 (l1.flatMap encS) rfl O4.out b2 _ m2 c2 l2 rfl S24.out oneS (by unfold maxLen; omega) (by omega) (by rw [hbase]; simp; omega) ?_; intro A5 c5 w5 hown5 hgrow hat; have k65 := K64.out.grown hgrow (own_ne (by decide) K64.out O4.out); have k0 := k65.cell 2; have f0 := k65.frozen 2; have K65 := Lib.hid k65; have HO5 := Lib.hid hown5; have HG5 := Lib.hid hgrow; clear k65 hown5 hgrow hat)
  have HO5 := HO5.out
  have HG5 := HG5.out
  rw [hbase] at HO5
  have O4b := O4.out
  rw [hbase] at O4b
  have hz5 := HG5.size
  simp only [World.size_alloc] at hz5
  have keep := fun (i : Nat) (hi : i < w3.heap.size + 1 + 1) => own_keeps O4b HG5 hi (by simp; omega)
  have K4 := Lib.hid ((show Blk w5 _ _ _ from (keep _ (by omega)).trans K44.out).far (p := ⟨w4.heap.size, 2, none⟩) (by show w3.heap.size ≠ w4.heap.size; omega) (.slice A5 (m1 + m2) c5))
  have K5 := Lib.hid ((show Blk w5 _ _ _ from (keep _ (by omega)).trans K54.out).far (p := ⟨w4.heap.size, 2, none⟩) (by show w3.heap.size + 1 ≠ w4.heap.size; omega) (.slice A5 (m1 + m2) c5))
  have K6 := Lib.hid (K65.out.set_ 2 (.slice A5 (m1 + m2) c5))
  have S1y := Lib.hid ((S14.out.keep (w' := w5) (fun h => keep _ (by have := S1.out.lt h; omega)) HG5.size).setCell (p := ⟨w4.heap.size, 2, none⟩) (fun h => by have := S1.out.lt h; show b1 ≠ w4.heap.size; omega) (.slice A5 (m1 + m2) c5))
  have S2y := Lib.hid ((S24.out.keep (w' := w5) (fun h => keep _ (by have := S2.out.lt h; omega)) HG5.size).setCell (p := ⟨w4.heap.size, 2, none⟩) (fun h => by have := S2.out.lt h; show b2 ≠ w4.heap.size; omega) (.slice A5 (m1 + m2) c5))
  have Dy := Lib.hid ((D4.out.keep (w' := w5) (keep d (by omega))).keep (w' := w5.setCell ⟨w4.heap.size, 2, none⟩ (.slice A5 (m1 + m2) c5)) (Below.heap_setCell _ _ _ _ (by show d ≠ w4.heap.size; omega)))
  have Ly := Lib.hid ((below_own O4b HG5 L4.out (by omega) (Nat.le_refl _)).setCell (p := ⟨w4.heap.size, 2, none⟩) (by show w.heap.size ≤ w4.heap.size; omega) (.slice A5 (m1 + m2) c5))
  rw [← List.flatMap_append] at HO5
  obtain ⟨b5, hb5, S5⟩ := Sl.of_own encS_len (l := l1 ++ l2) (by rw [List.length_append, HL1.out, HL2.out]) HO5
  have hb5e : 0 < m1 + m2 → b5 ≠ w4.heap.size := fun h e => by
    obtain ⟨o, ho, hlt, _⟩ := S5.2 h
    have := own_ne (by decide) K65.out HO5
    rw [ho] at this
    simp [Value.ownBlock] at this
    exact this e.symm
  have S3y := Lib.hid (S5.setCell (p := ⟨w4.heap.size, 2, none⟩) (fun h => hb5e h) (.slice A5 (m1 + m2) c5))
  have HI3 := Lib.hid (show BookIn 3 3 (l1 ++ l2) from ⟨by omega, by omega, by omega, by omega, by have := HL1.out; have := HL2.out; simp; omega, fun s hs => by
    rcases List.mem_append.1 hs with h | h
    · exact HI1.out.sales s h
    · exact HI2.out.sales s h⟩)
  have hdY : d < w5.heap.size := by omega
  have hb5d : 0 < m1 + m2 → b5 ≠ d := fun h e => by omega
  clear HO5 HG5 O4b keep S5 hb5e hz5 S14 S24 K44 K54 K64 D4 L4 K65 O4
  have HB5 := Lib.hid hb5d
  clear hb5d
  generalize hY : w5.setCell ⟨w4.heap.size, 2, none⟩ (.slice A5 (m1 + m2) c5) = Y at K4 K5 K6 S1y S2y S3y Dy Ly ⊢
  clear hY
  refine (stepsOf_any d 4 Y Dy.out (by omega) (by omega)).mono ?_
  rintro e w6 ⟨b6, m6, c6, A6, steps, hsi, hsl4, rfl, hb6, hb6d, hsl6, hd6, hg6⟩
  have Z4 := Lib.hid (K4.out.grown hg6 (fun e => by injection e; omega))
  have Z5 := Lib.hid (K5.out.grown hg6 (fun e => by injection e; omega))
  have Z6 := Lib.hid (K6.out.grown hg6 (fun e => by injection e; omega))
  have T1 := Lib.hid (S1y.out.grown hg6 (fun _ e => hb1d (by injection e)))
  have T2 := Lib.hid (S2y.out.grown hg6 (fun _ e => hb2d (by injection e)))
  have T3 := Lib.hid (S3y.out.grown hg6 (fun h e => HB5.out h (by injection e)))
  have TP := Lib.hid hsl6
  have LZ := Lib.hid (Below.stepG hg6 Ly.out (Nat.le_refl _) hd)
  have HSI := Lib.hid hsi
  have HCS := Lib.hid (chkSteps_ok hsi)
  have z40 := Z4.out.cell 0
  have z41 := Z4.out.cell 1
  have z42 := Z4.out.cell 2
  have hz6 := hg6.size
  clear K4 K5 K6 S1y S2y S3y Dy Ly hsl6 hd6 hg6 hsi HB5
  go_wp2_with fail
  refine (dues_ok 3 3 b1 m1 c1 b6 m6 c6 A1 A6 l1 steps _ T1.out TP.out HI1.out HCS.out).mono ?_
  rintro e w7 ⟨A7, c7, b7, rfl, hs7, hB7⟩
  have P7 := Lib.hid hs7
  have LZ7 := Lib.hid hB7
  have z60 := (Z6.out.below hB7 Z6.out.lt).cell 0
  have z61 := (Z6.out.below hB7 Z6.out.lt).cell 1
  have z62 := (Z6.out.below hB7 Z6.out.lt).cell 2
  have hz7 := hB7.size
  clear hs7 hB7 z40 z41 z42
  go_wp2_with fail
  refine (dues_ok 3 3 b5 (m1 + m2) c5 b6 m6 c6 A5 A6 (l1 ++ l2) steps _ (T3.out.old LZ7.out) (TP.out.old LZ7.out) HI3.out HCS.out).mono ?_
  rintro e w8 ⟨A8, c8, b8, rfl, hs8, hB8⟩
  have P8 := Lib.hid hs8
  have Q7 := Lib.hid (P7.out.old hB8)
  have LZ8 := Lib.hid (LZ7.out.trans (hB8.mono hz7))
  have hz8 := LZ8.out.size
  clear hs8 hB8 z60 z61 z62
  go_wp2_with fail
  have V4 := Lib.hid (Z4.out.below LZ8.out Z4.out.lt)
  have V5 := Lib.hid (Z5.out.below LZ8.out Z5.out.lt)
  have V6 := Lib.hid (Z6.out.below LZ8.out Z6.out.lt)
  have U1 := Lib.hid (T1.out.old LZ8.out)
  have U2 := Lib.hid (T2.out.old LZ8.out)
  have U3 := Lib.hid (T3.out.old LZ8.out)
  have LV := Lib.hid (Below.step LZ8.out LZ.out (Nat.le_refl _))
  have hw8 : w.heap.size ≤ w8.heap.size := LV.out.size
  clear Z4 Z5 Z6 T1 T2 T3 TP P7 LZ7 LZ8 LZ
  go_loopw [12] (fun i wr => ∃ k : Nat, k ≤ 3 ∧ i = .int .i64 k ∧ Below w8.heap.size w8 wr) (fun i _ => 3 - (intOf i).toNat)
  case atStart => exact ⟨0, by omega, rfl, Below.refl _ _⟩
  case round =>
    obtain ⟨k, hk, rfl, hB⟩ := hrel
    have HB := Lib.hid hB
    have hzr := hB.size
    clear hB
    by_cases hlt : k < 3
    · obtain ⟨p1, p2, p3, p4, p5, p6, p7, p8⟩ := adds_spans HI1.out HI2.out HSI.out (k : Int)
      obtain ⟨r1, r2, r3⟩ := turn_bd HI1.out.sales (k : Int)
      obtain ⟨r4, r5, r6⟩ := turn_bd HI2.out.sales (k : Int)
      have r7 : (turn l1 k).hi ≤ 80000000 := by have := HL1.out; omega
      have r8 : (turn l2 k).hi ≤ 80000000 := by have := HL2.out; omega
      have hz0 := turn_append l1 l2 (k : Int)
      generalize hd1 : dueSpan steps (turn l1 k) = q1 at p1 p2 p3 p4 p5 p6 p7 p8
      generalize hd2 : dueSpan steps (turn (l1 ++ l2) k) = q2 at p1 p2 p3 p4 p5 p6 p7 p8
      generalize ht1 : turn l1 (k : Int) = x at r1 r2 r3 r7 hz0
      generalize ht2 : turn l2 (k : Int) = y at r4 r5 r6 r8 hz0 p2 p4
      have HD1 := Lib.hid hd1
      have HD2 := Lib.hid hd2
      have HT1 := Lib.hid ht1
      have HT2 := Lib.hid ht2
      have HT3 := Lib.hid hz0
      clear hd1 hd2 ht1 ht2 hz0 r3 r6
      have a0 := (V4.out.below HB.out V4.out.lt).cell 0
      have a1 := (V4.out.below HB.out V4.out.lt).cell 1
      have a2 := (V4.out.below HB.out V4.out.lt).cell 2
      go_wp2_with fail
      refine (turnover_ok 3 3 k b1 m1 c1 A1 l1 _ (U1.out.old HB.out) HI1.out (by omega) (by omega)).mono ?_
      rw [HT1.out]
      rintro e wa ⟨rfl, hBa⟩
      have Ha := Lib.hid (HB.out.trans (hBa.mono hzr))
      have hza := hBa.size
      have b0' := (V5.out.below Ha.out V5.out.lt).cell 0
      have b1' := (V5.out.below Ha.out V5.out.lt).cell 1
      have b2' := (V5.out.below Ha.out V5.out.lt).cell 2
      have hk5 : w3.heap.size + 1 < wa.heap.size := by have := V5.out.lt; omega
      have ka := Blk.new wa 26 #[.int .i64 x.lo, .int .i64 x.hi]
      clear hBa a0 a1 a2
      go_wp2_with fail
      refine (turnover_ok 3 3 k b2 m2 c2 A2 l2 _ ((U2.out.old Ha.out).alloc _) HI2.out (by omega) (by omega)).mono ?_
      rw [HT2.out]
      rintro e wb ⟨rfl, hBb⟩
      have Kb := Lib.hid (ka.below hBb ka.lt)
      have Hb := Lib.hid ((Ha.out.alloc (by omega) _).trans (hBb.mono (by simp; omega)))
      have hzb := hBb.size
      simp only [World.size_alloc] at hzb
      have hk6 : w4.heap.size < wb.heap.size := by have := V6.out.lt; omega
      have kb := Blk.new wb 26 #[.int .i64 y.lo, .int .i64 y.hi]
      have d0 := (V6.out.below Hb.out V6.out.lt).cell 0
      have d1 := (V6.out.below Hb.out V6.out.lt).cell 1
      have d2 := (V6.out.below Hb.out V6.out.lt).cell 2
      clear hBb b0' b1' b2' ka hk5
      go_wp2_with fail
      refine (turnover_ok 3 3 k b5 (m1 + m2) c5 A5 (l1 ++ l2) _ ((U3.out.old Hb.out).alloc _) HI3.out (by omega) (by omega)).mono ?_
      rw [HT3.out]
      rintro e wc ⟨rfl, hBc⟩
      have kac := (Kb.out.alloc _).below hBc (by have := Kb.out.lt; simp; omega)
      have kbc := kb.below hBc kb.lt
      have Hc := Lib.hid ((Hb.out.alloc (by omega) _).trans (hBc.mono (by simp; omega)))
      have hzc := hBc.size
      simp only [World.size_alloc] at hzc
      have x0 := kac.cell 0
      have x1 := kac.cell 1
      have y0 := kbc.cell 0
      have y1 := kbc.cell 1
      have hkac := kac.lt
      have hkbc := kbc.lt
      clear hBc d0 d1 d2 kb hk6 kac kbc
      go_wp2_with fail
      have hq8 := (P8.out.old Hc.out).atR (k := k) (by rw [duesAll_len]; omega)
      have hq7 := (Q7.out.old Hc.out).atR (k := k) (by rw [duesAll_len]; omega)
      rw [duesAll_get, HD2.out] at hq8
      rw [duesAll_get, HD1.out] at hq7
      obtain ⟨o8, rfl, hbz8, e0, e1⟩ := hq8
      obtain ⟨o7, rfl, hbz7, f0, f1⟩ := hq7
      have g1 : decide (q2.lo < q1.lo) = false := by simp; omega
      have g2 : decide (q2.hi < q1.hi) = false := by simp; omega
      have g3 : decide (y.lo < q2.lo - q1.lo) = false := by simp; omega
      have g4 : decide (y.hi < q2.hi - q1.hi) = false := by simp; omega
      have i0' : (0 : Int) ≤ (k : Int) := by omega
      have i1' : (k : Int) < 3 := by omega
      go_quiet (fail)
      go_wp2_with fail
      go_roundw
      case rel => exact ⟨k + 1, by omega, by go_num, below_drewN (Hc.out.alloc (by omega) _) _⟩
      case measure => simp [intOf]; omega
    · obtain rfl : k = 3 := by omega
      go_wp2_with fail
      refine (awake_any _).mono ?_
      rintro e w9 ⟨rfl, hB9⟩
      have L9 := Lib.hid (Below.step hB9 (Below.step HB.out LV.out (Nat.le_refl _)) (Nat.le_refl _))
      clear hB9
      go_wp2_with fail
      go_ret
      exact ⟨rfl, L9.out⟩
end Go.Proofs.Ytkcdknjgjidnnaa
