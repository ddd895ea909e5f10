/-
  The walk of the law PriceFound.
-/
import Derived.Test.YtkcdknjgjidnnaaNums
import Derived.Test.YtkcdknjgjidnnaaAwake
import Derived.Test.YtkcdknjgjidnnaaAudRun
import Derived.Test.YtkcdknjgjidnnaaFindsOf
import Derived.Test.YtkcdknjgjidnnaaSmall
import Derived.Test.YtkcdknjgjidnnaaSealLaw
import Derived.Test.YtkcdknjgjidnnaaKit2
set_option linter.unusedVariables false
set_option linter.unusedSimpArgs false
namespace Go.Proofs.Ytkcdknjgjidnnaa
open Go.RowKit

theorem found_price {g' g : List Sale} (h : Narrow g' g) (hg : GoodIn g) (al : Bool) (hx : al = true → Exact g') :
    ((priceMid g').1 = 2 ∧ ((priceMid g).1 = 2 ∨ (priceMid g).1 = 3) ∧ (priceMid g').2.1 = (priceMid g').2.2) ∨
    (((priceMid g').1 = 1 ∧ ((priceMid g).1 = 1 ∨ (priceMid g).1 = 3) ∨ ((priceMid g').1 = 3 ∧ (priceMid g).1 = 3 ∧ al = false)) ∧
      (priceMid g).2.1 ≤ (priceMid g').2.1 ∧ (priceMid g').2.2 ≤ (priceMid g).2.2 ∧ (al = true → (priceMid g').2.1 = (priceMid g').2.2)) := by
  have hg' := h.good hg
  obtain ⟨a1, a2⟩ := grams_le h
  have b1 := grams_lohi hg
  have b2 := grams_lohi hg'
  rw [priceMid_eq hg, priceMid_eq hg']
  by_cases h' : gramsHi g' = 0
  · rw [if_pos h']
    refine .inl ⟨rfl, ?_, rfl⟩
    by_cases h0 : gramsHi g = 0
    · rw [if_pos h0]; exact .inl rfl
    · rw [if_neg h0, if_neg (by omega)]; exact .inr rfl
  · have h0 : gramsHi g ≠ 0 := by omega
    rw [if_neg h', if_neg h0]
    refine .inr ⟨?_, narrow_lo h hg h', narrow_hi h hg h', fun e => exact_lohi hg' (hx e) h'⟩
    by_cases p' : 0 < gramsLo g'
    · rw [if_pos p']
      refine .inl ⟨rfl, ?_⟩
      by_cases p : 0 < gramsLo g
      · rw [if_pos p]; exact .inl rfl
      · rw [if_neg p]; exact .inr rfl
    · rw [if_neg p', if_neg (by omega)]
      refine .inr ⟨rfl, rfl, ?_⟩
      cases al
      · rfl
      · have := exact_grams (hx rfl)
        omega
theorem found_turn {st gd : Int} {l' l : List Sale} (h : Narrow l' l) (hb : BookIn st gd l) {steps : List Step} (hs : StepsIn steps) (s : Int) (al : Bool) (hx : al = true → Exact l') :
    (turn l s).lo ≤ (turn l' s).lo ∧ (turn l' s).hi ≤ (turn l s).hi ∧ (dueSpan steps (turn l s)).lo ≤ (dueSpan steps (turn l' s)).lo ∧ (dueSpan steps (turn l' s)).hi ≤ (dueSpan steps (turn l s)).hi ∧
    (al = true → (turn l' s).lo = (turn l' s).hi ∧ (dueSpan steps (turn l' s)).lo = (dueSpan steps (turn l' s)).hi) := by
  obtain ⟨a1, a2⟩ := turn_narrow h (fun s hs => ⟨(hb.sales s hs).gl0, (hb.sales s hs).cl0⟩) s
  refine ⟨a1, a2, dues_mono hs.sh0 a1, dues_mono hs.sh0 a2, fun e => ?_⟩
  have := turn_exact (hx e) s
  exact ⟨this, by unfold dueSpan; rw [this]⟩

set_option maxRecDepth 100000 in
set_option maxHeartbeats 4000000 in
theorem priceFound_any (A : Option Addr) (n c : Nat) (w : World) (hN : Nums w A n) : Calls Try.prog 12 #[.slice A n c] w fun e w' => e = .returned (.bool true) ∧ Below w.heap.size w w' := by
  obtain ⟨b, l, hl, hw, hn⟩ := hN
  have HW := Lib.hid hw
  clear hw
  go_enter Try.func12, Try.ntmps12
  go_wp2_with fail
  refine (dieOf_any b n c A l _ hl hn HW.out).mono ?_
  rintro e w1 ⟨d, hd, rfl, hdie, hB1⟩
  have hz1 := hB1.size
  have HB1 := Lib.hid hB1
  clear hB1 hl
  go_wp2_with fail
  refine (bookOf_any d 3 3 8 _ hdie (by omega) (by omega) (by omega) (by omega) (by omega)).mono ?_
  rintro e w2 ⟨st, gd, b1, m, c1, A1, l1, ⟨hs1, hs2, hg1, hg2, hm1, hok1⟩, rfl, hb1, hb1d, hsl1, hd2, hgr2⟩
  obtain ⟨st, rfl⟩ := Int.eq_ofNat_of_zero_le (show 0 ≤ st by omega)
  have HL := Lib.hid hsl1.len
  have HOK := Lib.hid hok1
  have HI := Lib.hid (check_ok hs1 (by omega) hg1 (by omega) (by have := HL.out; omega) hok1)
  have HB2 := Lib.hid (Below.stepG hgr2 HB1.out (Nat.le_refl _) hd)
  have hz2 := hgr2.size
  have hdz := hd2.lt
  have S2 := Lib.hid (hsl1.alloc (.cells #[.int .i64 st, .int .i64 gd, .slice A1 m c1] 24))
  have K2 := Lib.hid (Blk.new w2 24 #[.int .i64 st, .int .i64 gd, .slice A1 m c1])
  have D2 := Lib.hid (hd2.alloc (.cells #[.int .i64 st, .int .i64 gd, .slice A1 m c1] 24))
  have L2 := Lib.hid (HB2.out.alloc (by omega) (.cells #[.int .i64 st, .int .i64 gd, .slice A1 m c1] 24))
  clear hok1 hgr2 HB1 hdie hsl1 hd2 HB2
  go_wp2_with fail
  refine (stepsOf_any d 4 _ D2.out (by omega) (by omega)).mono ?_
  rintro e w3 ⟨b3, m3, c3, A3, steps, hsi, hsl4, rfl, hb3, hb3d, hsl3, hd3, hg3⟩
  have K3 := Lib.hid (K2.out.grown hg3 (fun e => by injection e; omega))
  have S3 := Lib.hid (S2.out.grown hg3 (fun _ e => hb1d (by injection e)))
  have L3 := Lib.hid (Below.stepG hg3 L2.out (Nat.le_refl _) hd)
  have HSI := Lib.hid hsi
  have HCS := Lib.hid (chkSteps_ok hsi)
  have P3 := Lib.hid hsl3
  have k0 := K3.out.cell 0
  have k1 := K3.out.cell 1
  have k2 := K3.out.cell 2
  have hz3 := hg3.size
  simp only [World.size_alloc] at hz3 hb3
  clear hsi hsl3 hg3 K2 S2 D2 L2
  go_wp2_with fail
  refine (findsOf_any d st gd b1 m c1 A1 l1 _ hd3 S3.out hb1d HOK.out (by omega)).mono ?_
  rintro e w4 ⟨b4, m4, c4, A4, fs, hfi, hfall, hm4, rfl, hb4, hb4d, hsl4', hd4, hg4⟩
  have K4 := Lib.hid (K3.out.grown hg4 (fun e => by injection e; omega))
  have S4 := Lib.hid (S3.out.grown hg4 (fun _ e => hb1d (by injection e)))
  have P4 := Lib.hid (P3.out.grown hg4 (fun _ e => hb3d (by injection e)))
  have L4 := Lib.hid (Below.stepG hg4 L3.out (Nat.le_refl _) hd)
  have F4 := Lib.hid hsl4'
  have hfl : fs.length = m4 := hsl4'.len.symm
  have HNR := Lib.hid (applyF_narrow HI.out hfi)
  have HFI := Lib.hid hfi
  have HFL := Lib.hid hfl
  have hz4 := hg4.size
  have hall0 : ((m4 : Int) == (m : Int)) = true → Exact (applyF l1 fs) := fun e => applyF_exact hfi (hfall (by have h : (m4 : Int) = (m : Int) := (by simpa using e); omega))
  generalize hal : ((m4 : Int) == (m : Int)) = al at hall0
  have HALL := Lib.hid hall0
  have j0 := K4.out.cell 0
  have j1 := K4.out.cell 1
  have j2 := K4.out.cell 2
  clear hfi hfall hsl4' hd4 hg4 hd3 K3 S3 P3 L3 k0 k1 k2 hfl hall0
  go_wp2_with fail
  have HAL := Lib.hid hal
  clear hal
  refine (aud_ok st gd b1 m c1 b4 m4 c4 A1 A4 l1 fs _ S4.out F4.out HI.out HFI.out (by have := HFL.out; omega)).mono ?_
  rintro e w5 ⟨A5, c5, b5, rfl, hs5, hb5, hB5⟩
  have HIX := Lib.hid (HI.out.narrow HNR.out)
  have H5 := Lib.hid (hB5.alloc hB5.size (.cells #[.int .i64 st, .int .i64 gd, .slice A5 m c5] 24))
  have KX := Lib.hid (Blk.new w5 24 #[.int .i64 st, .int .i64 gd, .slice A5 m c5])
  have SX := Lib.hid (hs5.alloc (.cells #[.int .i64 st, .int .i64 gd, .slice A5 m c5] 24))
  have K5 := Lib.hid (K4.out.below H5.out K4.out.lt)
  have S5 := Lib.hid (S4.out.old H5.out)
  have P5 := Lib.hid (P4.out.old H5.out)
  have L5 := Lib.hid (Below.step H5.out L4.out (Nat.le_refl _))
  have hz5 := hB5.size
  have hk5 := K4.out.lt
  have e0 := (K4.out.below hB5 K4.out.lt).cell 0
  have e1 := (K4.out.below hB5 K4.out.lt).cell 1
  have e2 := (K4.out.below hB5 K4.out.lt).cell 2
  have hk5' : w2.heap.size < w5.heap.size := by omega
  clear hs5 hB5 j0 j1 j2 K4 S4 P4 H5
  generalize applyF l1 fs = X at HNR HALL HIX SX
  go_wp2_with fail
  generalize hV : w5.alloc (.cells #[.int .i64 st, .int .i64 gd, .slice A5 m c5] 24) = V at KX SX K5 S5 P5 L5 ⊢
  clear hV e0 e1 e2 hk5'
  refine (dues_ok st gd b1 m c1 b3 m3 c3 A1 A3 l1 steps _ S5.out P5.out HI.out HCS.out).mono ?_
  rintro e w6 ⟨A6, c6, b6, rfl, hs6, hB6⟩
  have Q6 := Lib.hid hs6
  have H6 := Lib.hid hB6
  have hz6 := hB6.size
  have i0' := (KX.out.below hB6 KX.out.lt).cell 0
  have i1' := (KX.out.below hB6 KX.out.lt).cell 1
  have i2' := (KX.out.below hB6 KX.out.lt).cell 2
  clear hs6 hB6
  go_wp2_with fail
  refine (dues_ok st gd b5 m c5 b3 m3 c3 A5 A3 X steps _ (SX.out.old H6.out) (P5.out.old H6.out) HIX.out HCS.out).mono ?_
  rintro e w7 ⟨A7, c7, b7, rfl, hs7, hB7⟩
  have Q7 := Lib.hid hs7
  have Q6 := Lib.hid (Q6.out.old hB7)
  have H7 := Lib.hid (H6.out.trans (hB7.mono hz6))
  have K7 := Lib.hid (K5.out.below H7.out K5.out.lt)
  have KY := Lib.hid (KX.out.below H7.out KX.out.lt)
  have S7 := Lib.hid (S5.out.old H7.out)
  have SY := Lib.hid (SX.out.old H7.out)
  have L7 := Lib.hid (Below.step H7.out L5.out (Nat.le_refl _))
  have hw7 : w.heap.size ≤ w7.heap.size := L7.out.size
  have a0 := K7.out.cell 0
  have hsz5 : w5.heap.size < w7.heap.size := KY.out.lt
  clear hs7 hB7 i0' i1' i2' K5 KX S5 SX P5 L5 H6
  go_wp2_with fail
  go_loopw [14] (fun i ws => ∃ g : Nat, (g : Int) ≤ gd ∧ i = .int .i64 g ∧ Below w7.heap.size w7 ws) (fun i _ => gd.toNat - (intOf i).toNat)
  case atStart => exact ⟨0, by omega, rfl, Below.refl _ _⟩
  case round =>
    clear a0
    obtain ⟨g, hg, rfl, hB⟩ := hrel
    have HB := Lib.hid hB
    have hzs := hB.size
    have a0 := (K7.out.below hB K7.out.lt).cell 0
    have a1 := (K7.out.below hB K7.out.lt).cell 1
    have a2 := (K7.out.below hB K7.out.lt).cell 2
    clear hB
    by_cases hlt : (g : Int) < gd
    · go_wp2_with fail
      refine (price_ok st gd g b1 m c1 A1 l1 _ (S7.out.old HB.out) HI.out (by omega) hlt).mono ?_
      rintro e wa ⟨rfl, hBa⟩
      have Ha := Lib.hid (HB.out.trans (hBa.mono hzs))
      have hza := hBa.size
      have HFP := Lib.hid (found_price (HNR.out.ofGood (g : Int)) (HI.out.good (g : Int)) al (fun e => (HALL.out e).good (g : Int)))
      have hk7 : w5.heap.size < wa.heap.size := by omega
      have d0 := (KY.out.below Ha.out KY.out.lt).cell 0
      have d1 := (KY.out.below Ha.out KY.out.lt).cell 1
      have d2 := (KY.out.below Ha.out KY.out.lt).cell 2
      generalize hpm : priceMid (ofGood g l1) = x at HFP ⊢
      have ka := Lib.hid (Blk.new wa 26 #[.int .i64 x.2.1, .int .i64 x.2.2])
      clear hBa a0 a1 a2 hpm
      go_wp2_with fail
      refine (price_ok st gd g b5 m c5 A5 X _ ((SY.out.old Ha.out).alloc _) HIX.out (by omega) hlt).mono ?_
      rintro e wb ⟨rfl, hBb⟩
      have hfp := HFP.out
      generalize hpy : priceMid (ofGood g X) = y at hfp ⊢
      have kab := Lib.hid ((ka.out.below hBb ka.out.lt).alloc (.cells #[.int .i64 y.2.1, .int .i64 y.2.2] 26))
      have kb := Lib.hid (Blk.new wb 26 #[.int .i64 y.2.1, .int .i64 y.2.2])
      have Hb := Lib.hid (((Ha.out.alloc (by omega) _).trans (hBb.mono (by simp; omega))).alloc (by have := hBb.size; simp at this; omega) (.cells #[.int .i64 y.2.1, .int .i64 y.2.2] 26))
      have hzb := hBb.size
      simp only [World.size_alloc] at hzb
      have x0 := (ka.out.below hBb ka.out.lt).cell 0
      have x1 := (ka.out.below hBb ka.out.lt).cell 1
      have hxa : wa.heap.size < wb.heap.size := by omega
      clear hBb d0 d1 d2 hk7 hpy HFP
      obtain ⟨x1', x2', x3'⟩ := x
      obtain ⟨y1', y2', y3'⟩ := y
      simp only at hfp x0 x1 ⊢
      rcases hfp with ⟨rfl, rfl | rfl, rfl⟩ | ⟨⟨rfl, rfl | rfl⟩ | ⟨rfl, rfl, rfl⟩, hw1, hw2, hw3⟩
      · cases al
        all_goals
          go_wp2_with fail
          go_roundw
          case rel => exact ⟨g + 1, by omega, by go_num, Hb.out⟩
          case measure => simp [intOf]; omega
      · cases al
        all_goals
          go_wp2_with fail
          go_roundw
          case rel => exact ⟨g + 1, by omega, by go_num, Hb.out⟩
          case measure => simp [intOf]; omega
      all_goals
        have HW12 := Lib.hid (show (decide (x2' ≤ y2') && decide (y3' ≤ x3')) = true by simp [hw1, hw2])
        have HW3 := Lib.hid hw3
        clear hw1 hw2 hw3
        go_wp2_with fail
        refine (withinSpan_any _ _ _ _ _).mono ?_
        rw [HW12.out]
        rintro e wc ⟨rfl, hBc⟩
        have Hc := Lib.hid (Hb.out.trans (hBc.mono Hb.out.size))
        have z0 := (kb.out.below hBc kb.out.lt).cell 0
        have z1 := (kb.out.below hBc kb.out.lt).cell 1
        clear hBc
      · cases al
        · go_wp2_with fail
          go_roundw
          case rel => exact ⟨g + 1, by omega, by go_num, Hc.out⟩
          case measure => simp [intOf]; omega
        · obtain rfl := HW3.out rfl
          go_wp2_with fail
          go_roundw
          case rel => exact ⟨g + 1, by omega, by go_num, Hc.out⟩
          case measure => simp [intOf]; omega
      · cases al
        · go_wp2_with fail
          go_roundw
          case rel => exact ⟨g + 1, by omega, by go_num, Hc.out⟩
          case measure => simp [intOf]; omega
        · obtain rfl := HW3.out rfl
          go_wp2_with fail
          go_roundw
          case rel => exact ⟨g + 1, by omega, by go_num, Hc.out⟩
          case measure => simp [intOf]; omega
      · go_wp2_with fail
        go_roundw
        case rel => exact ⟨g + 1, by omega, by go_num, Hc.out⟩
        case measure => simp [intOf]; omega
    · have HGD := Lib.hid (show (g : Int) = gd by omega)
      go_wp2_with fail
      obtain ⟨wo, rfl⟩ : ∃ wo : World, wo = wr := ⟨_, rfl⟩
      go_loopw [21] (fun i ws => ∃ s : Nat, s ≤ st ∧ i = .int .i64 s ∧ Below w7.heap.size w7 ws) (fun i _ => st - (intOf i).toNat)
      case atStart => exact ⟨0, by omega, rfl, HB.out⟩
      case round =>
        clear HB hzs a0 a1 a2
        obtain ⟨s, hs, rfl, hB⟩ := hrel
        have HB := Lib.hid hB
        have hzs := hB.size
        have a0 := (K7.out.below hB K7.out.lt).cell 0
        have a1 := (K7.out.below hB K7.out.lt).cell 1
        have a2 := (K7.out.below hB K7.out.lt).cell 2
        clear hB
        by_cases hlt3 : s < st
        · go_wp2_with fail
          refine (turnover_ok st gd s b1 m c1 A1 l1 _ (S7.out.old HB.out) HI.out (by omega) (by omega)).mono ?_
          rintro e wa ⟨rfl, hBa⟩
          have Ha := Lib.hid (HB.out.trans (hBa.mono hzs))
          have hza := hBa.size
          have hft := found_turn HNR.out HI.out HSI.out (s : Int) al HALL.out
          have hk7 : w5.heap.size < wa.heap.size := by omega
          have d0 := (KY.out.below Ha.out KY.out.lt).cell 0
          have d1 := (KY.out.below Ha.out KY.out.lt).cell 1
          have d2 := (KY.out.below Ha.out KY.out.lt).cell 2
          generalize hdx : dueSpan steps (turn l1 (s : Int)) = dx at hft
          generalize hdy : dueSpan steps (turn X (s : Int)) = dy at hft
          generalize hpm : turn l1 (s : Int) = x at hft hdx ⊢
          generalize hpy : turn X (s : Int) = y at hft hdy
          have HDX := Lib.hid (show dueSpan steps (turn l1 (s : Int)) = dx by rw [hpm, hdx])
          have HDY := Lib.hid (show dueSpan steps (turn X (s : Int)) = dy by rw [hpy, hdy])
          have HPY := Lib.hid hpy
          have HFT := Lib.hid hft
          have ka := Lib.hid (Blk.new wa 26 #[.int .i64 x.lo, .int .i64 x.hi])
          clear hBa a0 a1 a2 hpm hpy hdx hdy hft
          go_wp2_with fail
          refine (turnover_ok st gd s b5 m c5 A5 X _ ((SY.out.old Ha.out).alloc _) HIX.out (by omega) (by omega)).mono ?_
          rw [HPY.out]
          rintro e wb ⟨rfl, hBb⟩
          have kab := Lib.hid ((ka.out.below hBb ka.out.lt).alloc (.cells #[.int .i64 y.lo, .int .i64 y.hi] 26))
          have kb := Lib.hid (Blk.new wb 26 #[.int .i64 y.lo, .int .i64 y.hi])
          have Hb := Lib.hid (((Ha.out.alloc (by omega) _).trans (hBb.mono (by simp; omega))).alloc (by have := hBb.size; simp at this; omega) (.cells #[.int .i64 y.lo, .int .i64 y.hi] 26))
          clear hBb d0 d1 d2 hk7
          go_wp2_with fail
          generalize hV : wb.alloc (.cells #[.int .i64 y.lo, .int .i64 y.hi] 26) = V at kab kb Hb ⊢
          clear hV
          have hq8 := (Q6.out.old Hb.out).atR (k := s) (by rw [duesAll_len]; omega)
          rw [duesAll_get, HDX.out] at hq8
          obtain ⟨o8, rfl, hbz8, u0, u1⟩ := hq8
          have hq9 := (Q7.out.old Hb.out).atR (k := s) (by rw [duesAll_len]; omega)
          rw [duesAll_get, HDY.out] at hq9
          obtain ⟨o9, rfl, hbz9, v0, v1⟩ := hq9
          have HQ8 := Lib.hid (fun (W : World) (hW : Below V.heap.size V W) => (show (W.cell? ⟨wa.heap.size, 0, none⟩ = some (.int .i64 x.lo) ∧ W.cell? ⟨wa.heap.size, 1, none⟩ = some (.int .i64 x.hi)) ∧ (W.cell? ⟨wb.heap.size, 0, none⟩ = some (.int .i64 y.lo) ∧ W.cell? ⟨wb.heap.size, 1, none⟩ = some (.int .i64 y.hi)) ∧ (W.cell? ⟨b6, o8 + s * 2, none⟩ = some (.int .i64 dx.lo) ∧ W.cell? ⟨b6, o8 + s * 2 + 1, none⟩ = some (.int .i64 dx.hi)) ∧ (W.cell? ⟨b7, o9 + s * 2, none⟩ = some (.int .i64 dy.lo) ∧ W.cell? ⟨b7, o9 + s * 2 + 1, none⟩ = some (.int .i64 dy.hi)) from
            ⟨⟨(kab.out.below hW kab.out.lt).cell 0, (kab.out.below hW kab.out.lt).cell 1⟩, ⟨(kb.out.below hW kb.out.lt).cell 0, (kb.out.below hW kb.out.lt).cell 1⟩, ⟨(hW.cell (p := ⟨b6, o8 + s * 2, none⟩) hbz8).trans u0, (hW.cell (p := ⟨b6, o8 + s * 2 + 1, none⟩) hbz8).trans u1⟩, (hW.cell (p := ⟨b7, o9 + s * 2, none⟩) hbz9).trans v0, (hW.cell (p := ⟨b7, o9 + s * 2 + 1, none⟩) hbz9).trans v1⟩))
          have HH1 := Lib.hid (show (decide (x.lo ≤ y.lo) && decide (y.hi ≤ x.hi)) = true by simp [HFT.out.1, HFT.out.2.1])
          have HH2 := Lib.hid (show (decide (dx.lo ≤ dy.lo) && decide (dy.hi ≤ dx.hi)) = true by simp [HFT.out.2.2.1, HFT.out.2.2.2.1])
          have i0 : (0 : Int) ≤ (s : Int) := by omega
          have i1 : (s : Int) < (st : Int) := by omega
          have h5 := HFT.out.2.2.2.2
          clear u0 u1 v0 v1
          cases al
          · clear h5
            refine wp_region_PL [7, 8, 16, 20] (fun W => (W.cell? ⟨wa.heap.size, 0, none⟩ = some (.int .i64 x.lo) ∧ W.cell? ⟨wa.heap.size, 1, none⟩ = some (.int .i64 x.hi)) ∧ (W.cell? ⟨wb.heap.size, 0, none⟩ = some (.int .i64 y.lo) ∧ W.cell? ⟨wb.heap.size, 1, none⟩ = some (.int .i64 y.hi)) ∧ (W.cell? ⟨b6, o8 + s * 2, none⟩ = some (.int .i64 dx.lo) ∧ W.cell? ⟨b6, o8 + s * 2 + 1, none⟩ = some (.int .i64 dx.hi)) ∧ (W.cell? ⟨b7, o9 + s * 2, none⟩ = some (.int .i64 dy.lo) ∧ W.cell? ⟨b7, o9 + s * 2 + 1, none⟩ = some (.int .i64 dy.hi))) rfl (by kernel_rfl) (HQ8.out _ (Below.refl _ V).drew) (fun hF0 => ?_)
            (refine wpAnyP_takeL (i := 0) (v := ?_) rfl (by kernel_rfl) (by kernel_rfl) (by kernel_rfl) (fun _ _ _ h => h) (by rfl) ?_ ?_; rotate_left 1; focus (intro w; go_simp; try with_reducible rfl))
            try simp only [Act.put, List.setIfInBounds_toArray, List.set_cons_zero, List.set_cons_succ]
            (refine wpAnyP_takeL (i := 1) (v := ?_) rfl (by kernel_rfl) (by kernel_rfl) (by kernel_rfl) (fun _ _ _ h => h) (by rfl) ?_ ?_; rotate_left 1; focus (intro w; go_simp; try with_reducible rfl))
            try simp only [Act.put, List.setIfInBounds_toArray, List.set_cons_zero, List.set_cons_succ]
            (refine wpAnyP_takeL (i := 2) (v := ?_) rfl (by kernel_rfl) (by kernel_rfl) (by kernel_rfl) (fun _ _ _ h => h) (by rfl) ?_ ?_; rotate_left 1; focus (intro w; go_simp; try with_reducible rfl))
            try simp only [Act.put, List.setIfInBounds_toArray, List.set_cons_zero, List.set_cons_succ]
            (refine wpAnyP_takeL (i := 3) (v := ?_) rfl (by kernel_rfl) (by kernel_rfl) (by kernel_rfl) (fun _ _ _ h => h) (by rfl) ?_ ?_; rotate_left 1; focus (intro w; go_simp; try with_reducible rfl))
            try simp only [Act.put, List.setIfInBounds_toArray, List.set_cons_zero, List.set_cons_succ]
            (refine wpAnyP_takeL (i := 4) (v := ?_) rfl (by kernel_rfl) (by kernel_rfl) (by kernel_rfl) (fun _ _ _ h => h) (by rfl) ?_ ?_; rotate_left 1; focus (intro w; go_simp; try with_reducible rfl))
            try simp only [Act.put, List.setIfInBounds_toArray, List.set_cons_zero, List.set_cons_succ]
            (refine wpAnyP_takeL (i := 5) (v := ?_) rfl (by kernel_rfl) (by kernel_rfl) (by kernel_rfl) (fun _ _ _ h => h) (by rfl) ?_ ?_; rotate_left 1; focus (intro w; go_simp; try with_reducible rfl))
            try simp only [Act.put, List.setIfInBounds_toArray, List.set_cons_zero, List.set_cons_succ]
            (refine wpAnyP_takeL (i := 6) (v := ?_) rfl (by kernel_rfl) (by kernel_rfl) (by kernel_rfl) (fun _ _ _ h => h) (by rfl) ?_ ?_; rotate_left 1; focus (intro w; go_simp; try with_reducible rfl))
            try simp only [Act.put, List.setIfInBounds_toArray, List.set_cons_zero, List.set_cons_succ]
            (refine wpAnyP_loadL (i := 7) (v := ?_) rfl (by kernel_rfl) (by kernel_rfl) (by kernel_rfl) (by rfl) (fun _ _ _ h => h) hF0 (by rfl) ?_ ?_; rotate_left 1; focus (intro w hFw; (try dsimp only at hFw); go_split_ands; go_simp; try with_reducible rfl))
            try simp only [Act.put, List.setIfInBounds_toArray, List.set_cons_zero, List.set_cons_succ]
            (refine wpAnyP_loadL (i := 8) (v := ?_) rfl (by kernel_rfl) (by kernel_rfl) (by kernel_rfl) (by rfl) (fun _ _ _ h => h) hF0 (by rfl) ?_ ?_; rotate_left 1; focus (intro w hFw; (try dsimp only at hFw); go_split_ands; go_simp; try with_reducible rfl))
            try simp only [Act.put, List.setIfInBounds_toArray, List.set_cons_zero, List.set_cons_succ]
            refine wpAnyP_step (i := 9) rfl (by kernel_rfl) (by rfl) (fun K hK => ?_)
            go_simp
            (refine (withinSpan_any _ _ _ _ _).mono ?_; rw [HH1.out]; rintro e wc ⟨rfl, hBc⟩; have Hc := Lib.hid ((Below.refl V.heap.size V).drew.trans hBc); clear hBc)
            (refine hK _ _ (HQ8.out _ Hc.out) (fun hF1 => ?_); clear hK K hF0)
            try simp only [Act.put, List.setIfInBounds_toArray, List.set_cons_zero, List.set_cons_succ]
            (refine wpAnyP_takeL (i := 10) (v := ?_) rfl (by kernel_rfl) (by kernel_rfl) (by kernel_rfl) (fun _ _ _ h => h) (by rfl) ?_ ?_; rotate_left 1; focus (intro w; go_simp; try with_reducible rfl))
            try simp only [Act.put, List.setIfInBounds_toArray, List.set_cons_zero, List.set_cons_succ]
            (refine wpAnyP_takeL (i := 11) (v := ?_) rfl (by kernel_rfl) (by kernel_rfl) (by kernel_rfl) (fun _ _ _ h => h) (by rfl) ?_ ?_; rotate_left 1; focus (intro w; go_simp; try with_reducible rfl))
            try simp only [Act.put, List.setIfInBounds_toArray, List.set_cons_zero, List.set_cons_succ]
            (refine wpAnyP_takeL (i := 12) (v := ?_) rfl (by kernel_rfl) (by kernel_rfl) (by kernel_rfl) (fun _ _ _ h => h) (by rfl) ?_ ?_; rotate_left 1; focus (intro w; go_simp; try with_reducible rfl))
            try simp only [Act.put, List.setIfInBounds_toArray, List.set_cons_zero, List.set_cons_succ]
            (refine wpAnyP_takeL (i := 13) (v := ?_) rfl (by kernel_rfl) (by kernel_rfl) (by kernel_rfl) (fun _ _ _ h => h) (by rfl) ?_ ?_; rotate_left 1; focus (intro w; go_simp; try with_reducible rfl))
            try simp only [Act.put, List.setIfInBounds_toArray, List.set_cons_zero, List.set_cons_succ]
            (refine wpAnyP_takeL (i := 14) (v := ?_) rfl (by kernel_rfl) (by kernel_rfl) (by kernel_rfl) (fun _ _ _ h => h) (by rfl) ?_ ?_; rotate_left 1; focus (intro w; go_simp; try with_reducible rfl))
            try simp only [Act.put, List.setIfInBounds_toArray, List.set_cons_zero, List.set_cons_succ]
            (refine wpAnyP_takeL (i := 15) (v := ?_) rfl (by kernel_rfl) (by kernel_rfl) (by kernel_rfl) (fun _ _ _ h => h) (by rfl) ?_ ?_; rotate_left 1; focus (intro w; go_simp; try with_reducible rfl))
            try simp only [Act.put, List.setIfInBounds_toArray, List.set_cons_zero, List.set_cons_succ]
            (refine wpAnyP_loadL (i := 16) (v := ?_) rfl (by kernel_rfl) (by kernel_rfl) (by kernel_rfl) (by rfl) (fun _ _ _ h => h) hF1 (by rfl) ?_ ?_; rotate_left 1; focus (intro w hFw; (try dsimp only at hFw); go_split_ands; go_simp; try with_reducible rfl))
            try simp only [Act.put, List.setIfInBounds_toArray, List.set_cons_zero, List.set_cons_succ]
            (refine wpAnyP_takeL (i := 17) (v := ?_) rfl (by kernel_rfl) (by kernel_rfl) (by kernel_rfl) (fun _ _ _ h => h) (by rfl) ?_ ?_; rotate_left 1; focus (intro w; go_simp; try with_reducible rfl))
            try simp only [Act.put, List.setIfInBounds_toArray, List.set_cons_zero, List.set_cons_succ]
            (refine wpAnyP_takeL (i := 18) (v := ?_) rfl (by kernel_rfl) (by kernel_rfl) (by kernel_rfl) (fun _ _ _ h => h) (by rfl) ?_ ?_; rotate_left 1; focus (intro w; go_simp; try with_reducible rfl))
            try simp only [Act.put, List.setIfInBounds_toArray, List.set_cons_zero, List.set_cons_succ]
            (refine wpAnyP_takeL (i := 19) (v := ?_) rfl (by kernel_rfl) (by kernel_rfl) (by kernel_rfl) (fun _ _ _ h => h) (by rfl) ?_ ?_; rotate_left 1; focus (intro w; go_simp; try with_reducible rfl))
            try simp only [Act.put, List.setIfInBounds_toArray, List.set_cons_zero, List.set_cons_succ]
            (refine wpAnyP_loadL (i := 20) (v := ?_) rfl (by kernel_rfl) (by kernel_rfl) (by kernel_rfl) (by rfl) (fun _ _ _ h => h) hF1 (by rfl) ?_ ?_; rotate_left 1; focus (intro w hFw; (try dsimp only at hFw); go_split_ands; go_simp; try with_reducible rfl))
            try simp only [Act.put, List.setIfInBounds_toArray, List.set_cons_zero, List.set_cons_succ]
            refine wpAnyP_step (i := 21) rfl (by kernel_rfl) (by rfl) (fun K hK => ?_)
            go_simp
            (refine (withinSpan_any _ _ _ _ _).mono ?_; rw [HH2.out]; rintro e wd ⟨rfl, hBd⟩; have Hd := Lib.hid (Hc.out.trans (hBd.mono Hc.out.size)); clear hBd)
            (refine hK _ _ (HQ8.out _ Hd.out) (fun hF2 => ?_); clear hK K hF1)
            try simp only [Act.put, List.setIfInBounds_toArray, List.set_cons_zero, List.set_cons_succ]
            (refine wpAnyP_takeL (i := 22) (v := ?_) rfl (by kernel_rfl) (by kernel_rfl) (by kernel_rfl) (fun _ _ _ h => h) (by rfl) ?_ ?_; rotate_left 1; focus (intro w; go_simp; try with_reducible rfl))
            try simp only [Act.put, List.setIfInBounds_toArray, List.set_cons_zero, List.set_cons_succ]
            (refine wpAnyP_takeL (i := 23) (v := ?_) rfl (by kernel_rfl) (by kernel_rfl) (by kernel_rfl) (fun _ _ _ h => h) (by rfl) ?_ ?_; rotate_left 1; focus (intro w; go_simp; try with_reducible rfl))
            try simp only [Act.put, List.setIfInBounds_toArray, List.set_cons_zero, List.set_cons_succ]
            (refine wpAnyP_takeL (i := 24) (v := ?_) rfl (by kernel_rfl) (by kernel_rfl) (by kernel_rfl) (fun _ _ _ h => h) (by rfl) ?_ ?_; rotate_left 1; focus (intro w; go_simp; try with_reducible rfl))
            try simp only [Act.put, List.setIfInBounds_toArray, List.set_cons_zero, List.set_cons_succ]
            (refine wpAnyP_takeL (i := 25) (v := ?_) rfl (by kernel_rfl) (by kernel_rfl) (by kernel_rfl) (fun _ _ _ h => h) (by rfl) ?_ ?_; rotate_left 1; focus (intro w; go_simp; try with_reducible rfl))
            try simp only [Act.put, List.setIfInBounds_toArray, List.set_cons_zero, List.set_cons_succ]
            (refine wpAnyP_takeL (i := 26) (v := ?_) rfl (by kernel_rfl) (by kernel_rfl) (by kernel_rfl) (fun _ _ _ h => h) (by rfl) ?_ ?_; rotate_left 1; focus (intro w; go_simp; try with_reducible rfl))
            try simp only [Act.put, List.setIfInBounds_toArray, List.set_cons_zero, List.set_cons_succ]
            (refine wpAnyP_skipL (i := 27) rfl (by kernel_rfl) (by kernel_rfl) (by kernel_rfl) (fun _ _ _ h => h) (by rfl) ?_)
            try simp only [Act.put, List.setIfInBounds_toArray, List.set_cons_zero, List.set_cons_succ]
            (refine wpAnyP_skipL (i := 28) rfl (by kernel_rfl) (by kernel_rfl) (by kernel_rfl) (fun _ _ _ h => h) (by rfl) ?_)
            try simp only [Act.put, List.setIfInBounds_toArray, List.set_cons_zero, List.set_cons_succ]
            (refine wpAnyP_skipL (i := 29) rfl (by kernel_rfl) (by kernel_rfl) (by kernel_rfl) (fun _ _ _ h => h) (by rfl) ?_)
            try simp only [Act.put, List.setIfInBounds_toArray, List.set_cons_zero, List.set_cons_succ]
            (refine wpAnyP_skipL (i := 30) rfl (by kernel_rfl) (by kernel_rfl) (by kernel_rfl) (fun _ _ _ h => h) (by rfl) ?_)
            try simp only [Act.put, List.setIfInBounds_toArray, List.set_cons_zero, List.set_cons_succ]
            (refine wpAnyP_skipL (i := 31) rfl (by kernel_rfl) (by kernel_rfl) (by kernel_rfl) (fun _ _ _ h => h) (by rfl) ?_)
            try simp only [Act.put, List.setIfInBounds_toArray, List.set_cons_zero, List.set_cons_succ]
            (refine wpAnyP_skipL (i := 32) rfl (by kernel_rfl) (by kernel_rfl) (by kernel_rfl) (fun _ _ _ h => h) (by rfl) ?_)
            try simp only [Act.put, List.setIfInBounds_toArray, List.set_cons_zero, List.set_cons_succ]
            (refine wpAnyP_skipL (i := 33) rfl (by kernel_rfl) (by kernel_rfl) (by kernel_rfl) (fun _ _ _ h => h) (by rfl) ?_)
            try simp only [Act.put, List.setIfInBounds_toArray, List.set_cons_zero, List.set_cons_succ]
            (refine wpAnyP_skipL (i := 34) rfl (by kernel_rfl) (by kernel_rfl) (by kernel_rfl) (fun _ _ _ h => h) (by rfl) ?_)
            try simp only [Act.put, List.setIfInBounds_toArray, List.set_cons_zero, List.set_cons_succ]
            (refine wpAnyP_skipL (i := 35) rfl (by kernel_rfl) (by kernel_rfl) (by kernel_rfl) (fun _ _ _ h => h) (by rfl) ?_)
            try simp only [Act.put, List.setIfInBounds_toArray, List.set_cons_zero, List.set_cons_succ]
            (refine wpAnyP_skipL (i := 36) rfl (by kernel_rfl) (by kernel_rfl) (by kernel_rfl) (fun _ _ _ h => h) (by rfl) ?_)
            try simp only [Act.put, List.setIfInBounds_toArray, List.set_cons_zero, List.set_cons_succ]
            (refine wpAnyP_skipL (i := 37) rfl (by kernel_rfl) (by kernel_rfl) (by kernel_rfl) (fun _ _ _ h => h) (by rfl) ?_)
            try simp only [Act.put, List.setIfInBounds_toArray, List.set_cons_zero, List.set_cons_succ]
            (refine wpAnyP_skipL (i := 38) rfl (by kernel_rfl) (by kernel_rfl) (by kernel_rfl) (fun _ _ _ h => h) (by rfl) ?_)
            try simp only [Act.put, List.setIfInBounds_toArray, List.set_cons_zero, List.set_cons_succ]
            (refine wpAnyP_skipL (i := 39) rfl (by kernel_rfl) (by kernel_rfl) (by kernel_rfl) (fun _ _ _ h => h) (by rfl) ?_)
            try simp only [Act.put, List.setIfInBounds_toArray, List.set_cons_zero, List.set_cons_succ]
            (refine wpAnyP_skipL (i := 40) rfl (by kernel_rfl) (by kernel_rfl) (by kernel_rfl) (fun _ _ _ h => h) (by rfl) ?_)
            try simp only [Act.put, List.setIfInBounds_toArray, List.set_cons_zero, List.set_cons_succ]
            (refine wpAnyP_skipL (i := 41) rfl (by kernel_rfl) (by kernel_rfl) (by kernel_rfl) (fun _ _ _ h => h) (by rfl) ?_)
            try simp only [Act.put, List.setIfInBounds_toArray, List.set_cons_zero, List.set_cons_succ]
            (refine wpAnyP_skipL (i := 42) rfl (by kernel_rfl) (by kernel_rfl) (by kernel_rfl) (fun _ _ _ h => h) (by rfl) ?_)
            try simp only [Act.put, List.setIfInBounds_toArray, List.set_cons_zero, List.set_cons_succ]
            (refine wpAnyP_skipL (i := 43) rfl (by kernel_rfl) (by kernel_rfl) (by kernel_rfl) (fun _ _ _ h => h) (by rfl) ?_)
            try simp only [Act.put, List.setIfInBounds_toArray, List.set_cons_zero, List.set_cons_succ]
            (refine wpAnyP_skipL (i := 44) rfl (by kernel_rfl) (by kernel_rfl) (by kernel_rfl) (fun _ _ _ h => h) (by rfl) ?_)
            try simp only [Act.put, List.setIfInBounds_toArray, List.set_cons_zero, List.set_cons_succ]
            (refine wpAnyP_takeL (i := 45) (v := ?_) rfl (by kernel_rfl) (by kernel_rfl) (by kernel_rfl) (fun _ _ _ h => h) (by rfl) ?_ ?_; rotate_left 1; focus (intro w; go_simp; try with_reducible rfl))
            try simp only [Act.put, List.setIfInBounds_toArray, List.set_cons_zero, List.set_cons_succ]
            (refine wpAnyP_takeL (i := 46) (v := ?_) rfl (by kernel_rfl) (by kernel_rfl) (by kernel_rfl) (fun _ _ _ h => h) (by rfl) ?_ ?_; rotate_left 1; focus (intro w; go_simp; try with_reducible rfl))
            try simp only [Act.put, List.setIfInBounds_toArray, List.set_cons_zero, List.set_cons_succ]
            refine wpAnyP_done (by kernel_rfl) ?_ _
            go_wp2_with fail
            go_roundw
            case rel => exact ⟨s + 1, by omega, by go_num, Hb.out.trans (Hd.out.mono Hb.out.size)⟩
            case measure => simp [intOf]; omega
          · obtain ⟨h6, h7⟩ := h5 rfl
            have hb1' : (y.lo != y.hi) = false := by simpa using h6
            have hb2' : (dy.lo != dy.hi) = false := by simpa using h7
            clear h5 h6 h7
            refine wp_region_PL [7, 8, 16, 20, 28, 30, 37, 42] (fun W => (W.cell? ⟨wa.heap.size, 0, none⟩ = some (.int .i64 x.lo) ∧ W.cell? ⟨wa.heap.size, 1, none⟩ = some (.int .i64 x.hi)) ∧ (W.cell? ⟨wb.heap.size, 0, none⟩ = some (.int .i64 y.lo) ∧ W.cell? ⟨wb.heap.size, 1, none⟩ = some (.int .i64 y.hi)) ∧ (W.cell? ⟨b6, o8 + s * 2, none⟩ = some (.int .i64 dx.lo) ∧ W.cell? ⟨b6, o8 + s * 2 + 1, none⟩ = some (.int .i64 dx.hi)) ∧ (W.cell? ⟨b7, o9 + s * 2, none⟩ = some (.int .i64 dy.lo) ∧ W.cell? ⟨b7, o9 + s * 2 + 1, none⟩ = some (.int .i64 dy.hi))) rfl (by kernel_rfl) (HQ8.out _ (Below.refl _ V).drew) (fun hF0 => ?_)
            (refine wpAnyP_takeL (i := 0) (v := ?_) rfl (by kernel_rfl) (by kernel_rfl) (by kernel_rfl) (fun _ _ _ h => h) (by rfl) ?_ ?_; rotate_left 1; focus (intro w; go_simp; try with_reducible rfl))
            try simp only [Act.put, List.setIfInBounds_toArray, List.set_cons_zero, List.set_cons_succ]
            (refine wpAnyP_takeL (i := 1) (v := ?_) rfl (by kernel_rfl) (by kernel_rfl) (by kernel_rfl) (fun _ _ _ h => h) (by rfl) ?_ ?_; rotate_left 1; focus (intro w; go_simp; try with_reducible rfl))
            try simp only [Act.put, List.setIfInBounds_toArray, List.set_cons_zero, List.set_cons_succ]
            (refine wpAnyP_takeL (i := 2) (v := ?_) rfl (by kernel_rfl) (by kernel_rfl) (by kernel_rfl) (fun _ _ _ h => h) (by rfl) ?_ ?_; rotate_left 1; focus (intro w; go_simp; try with_reducible rfl))
            try simp only [Act.put, List.setIfInBounds_toArray, List.set_cons_zero, List.set_cons_succ]
            (refine wpAnyP_takeL (i := 3) (v := ?_) rfl (by kernel_rfl) (by kernel_rfl) (by kernel_rfl) (fun _ _ _ h => h) (by rfl) ?_ ?_; rotate_left 1; focus (intro w; go_simp; try with_reducible rfl))
            try simp only [Act.put, List.setIfInBounds_toArray, List.set_cons_zero, List.set_cons_succ]
            (refine wpAnyP_takeL (i := 4) (v := ?_) rfl (by kernel_rfl) (by kernel_rfl) (by kernel_rfl) (fun _ _ _ h => h) (by rfl) ?_ ?_; rotate_left 1; focus (intro w; go_simp; try with_reducible rfl))
            try simp only [Act.put, List.setIfInBounds_toArray, List.set_cons_zero, List.set_cons_succ]
            (refine wpAnyP_takeL (i := 5) (v := ?_) rfl (by kernel_rfl) (by kernel_rfl) (by kernel_rfl) (fun _ _ _ h => h) (by rfl) ?_ ?_; rotate_left 1; focus (intro w; go_simp; try with_reducible rfl))
            try simp only [Act.put, List.setIfInBounds_toArray, List.set_cons_zero, List.set_cons_succ]
            (refine wpAnyP_takeL (i := 6) (v := ?_) rfl (by kernel_rfl) (by kernel_rfl) (by kernel_rfl) (fun _ _ _ h => h) (by rfl) ?_ ?_; rotate_left 1; focus (intro w; go_simp; try with_reducible rfl))
            try simp only [Act.put, List.setIfInBounds_toArray, List.set_cons_zero, List.set_cons_succ]
            (refine wpAnyP_loadL (i := 7) (v := ?_) rfl (by kernel_rfl) (by kernel_rfl) (by kernel_rfl) (by rfl) (fun _ _ _ h => h) hF0 (by rfl) ?_ ?_; rotate_left 1; focus (intro w hFw; (try dsimp only at hFw); go_split_ands; go_simp; try with_reducible rfl))
            try simp only [Act.put, List.setIfInBounds_toArray, List.set_cons_zero, List.set_cons_succ]
            (refine wpAnyP_loadL (i := 8) (v := ?_) rfl (by kernel_rfl) (by kernel_rfl) (by kernel_rfl) (by rfl) (fun _ _ _ h => h) hF0 (by rfl) ?_ ?_; rotate_left 1; focus (intro w hFw; (try dsimp only at hFw); go_split_ands; go_simp; try with_reducible rfl))
            try simp only [Act.put, List.setIfInBounds_toArray, List.set_cons_zero, List.set_cons_succ]
            refine wpAnyP_step (i := 9) rfl (by kernel_rfl) (by rfl) (fun K hK => ?_)
            go_simp
            (refine (withinSpan_any _ _ _ _ _).mono ?_; rw [HH1.out]; rintro e wc ⟨rfl, hBc⟩; have Hc := Lib.hid ((Below.refl V.heap.size V).drew.trans hBc); clear hBc)
            (refine hK _ _ (HQ8.out _ Hc.out) (fun hF1 => ?_); clear hK K hF0)
            try simp only [Act.put, List.setIfInBounds_toArray, List.set_cons_zero, List.set_cons_succ]
            (refine wpAnyP_takeL (i := 10) (v := ?_) rfl (by kernel_rfl) (by kernel_rfl) (by kernel_rfl) (fun _ _ _ h => h) (by rfl) ?_ ?_; rotate_left 1; focus (intro w; go_simp; try with_reducible rfl))
            try simp only [Act.put, List.setIfInBounds_toArray, List.set_cons_zero, List.set_cons_succ]
            (refine wpAnyP_takeL (i := 11) (v := ?_) rfl (by kernel_rfl) (by kernel_rfl) (by kernel_rfl) (fun _ _ _ h => h) (by rfl) ?_ ?_; rotate_left 1; focus (intro w; go_simp; try with_reducible rfl))
            try simp only [Act.put, List.setIfInBounds_toArray, List.set_cons_zero, List.set_cons_succ]
            (refine wpAnyP_takeL (i := 12) (v := ?_) rfl (by kernel_rfl) (by kernel_rfl) (by kernel_rfl) (fun _ _ _ h => h) (by rfl) ?_ ?_; rotate_left 1; focus (intro w; go_simp; try with_reducible rfl))
            try simp only [Act.put, List.setIfInBounds_toArray, List.set_cons_zero, List.set_cons_succ]
            (refine wpAnyP_takeL (i := 13) (v := ?_) rfl (by kernel_rfl) (by kernel_rfl) (by kernel_rfl) (fun _ _ _ h => h) (by rfl) ?_ ?_; rotate_left 1; focus (intro w; go_simp; try with_reducible rfl))
            try simp only [Act.put, List.setIfInBounds_toArray, List.set_cons_zero, List.set_cons_succ]
            (refine wpAnyP_takeL (i := 14) (v := ?_) rfl (by kernel_rfl) (by kernel_rfl) (by kernel_rfl) (fun _ _ _ h => h) (by rfl) ?_ ?_; rotate_left 1; focus (intro w; go_simp; try with_reducible rfl))
            try simp only [Act.put, List.setIfInBounds_toArray, List.set_cons_zero, List.set_cons_succ]
            (refine wpAnyP_takeL (i := 15) (v := ?_) rfl (by kernel_rfl) (by kernel_rfl) (by kernel_rfl) (fun _ _ _ h => h) (by rfl) ?_ ?_; rotate_left 1; focus (intro w; go_simp; try with_reducible rfl))
            try simp only [Act.put, List.setIfInBounds_toArray, List.set_cons_zero, List.set_cons_succ]
            (refine wpAnyP_loadL (i := 16) (v := ?_) rfl (by kernel_rfl) (by kernel_rfl) (by kernel_rfl) (by rfl) (fun _ _ _ h => h) hF1 (by rfl) ?_ ?_; rotate_left 1; focus (intro w hFw; (try dsimp only at hFw); go_split_ands; go_simp; try with_reducible rfl))
            try simp only [Act.put, List.setIfInBounds_toArray, List.set_cons_zero, List.set_cons_succ]
            (refine wpAnyP_takeL (i := 17) (v := ?_) rfl (by kernel_rfl) (by kernel_rfl) (by kernel_rfl) (fun _ _ _ h => h) (by rfl) ?_ ?_; rotate_left 1; focus (intro w; go_simp; try with_reducible rfl))
            try simp only [Act.put, List.setIfInBounds_toArray, List.set_cons_zero, List.set_cons_succ]
            (refine wpAnyP_takeL (i := 18) (v := ?_) rfl (by kernel_rfl) (by kernel_rfl) (by kernel_rfl) (fun _ _ _ h => h) (by rfl) ?_ ?_; rotate_left 1; focus (intro w; go_simp; try with_reducible rfl))
            try simp only [Act.put, List.setIfInBounds_toArray, List.set_cons_zero, List.set_cons_succ]
            (refine wpAnyP_takeL (i := 19) (v := ?_) rfl (by kernel_rfl) (by kernel_rfl) (by kernel_rfl) (fun _ _ _ h => h) (by rfl) ?_ ?_; rotate_left 1; focus (intro w; go_simp; try with_reducible rfl))
            try simp only [Act.put, List.setIfInBounds_toArray, List.set_cons_zero, List.set_cons_succ]
            (refine wpAnyP_loadL (i := 20) (v := ?_) rfl (by kernel_rfl) (by kernel_rfl) (by kernel_rfl) (by rfl) (fun _ _ _ h => h) hF1 (by rfl) ?_ ?_; rotate_left 1; focus (intro w hFw; (try dsimp only at hFw); go_split_ands; go_simp; try with_reducible rfl))
            try simp only [Act.put, List.setIfInBounds_toArray, List.set_cons_zero, List.set_cons_succ]
            refine wpAnyP_step (i := 21) rfl (by kernel_rfl) (by rfl) (fun K hK => ?_)
            go_simp
            (refine (withinSpan_any _ _ _ _ _).mono ?_; rw [HH2.out]; rintro e wd ⟨rfl, hBd⟩; have Hd := Lib.hid (Hc.out.trans (hBd.mono Hc.out.size)); clear hBd)
            (refine hK _ _ (HQ8.out _ Hd.out) (fun hF2 => ?_); clear hK K hF1)
            try simp only [Act.put, List.setIfInBounds_toArray, List.set_cons_zero, List.set_cons_succ]
            (refine wpAnyP_takeL (i := 22) (v := ?_) rfl (by kernel_rfl) (by kernel_rfl) (by kernel_rfl) (fun _ _ _ h => h) (by rfl) ?_ ?_; rotate_left 1; focus (intro w; go_simp; try with_reducible rfl))
            try simp only [Act.put, List.setIfInBounds_toArray, List.set_cons_zero, List.set_cons_succ]
            (refine wpAnyP_takeL (i := 23) (v := ?_) rfl (by kernel_rfl) (by kernel_rfl) (by kernel_rfl) (fun _ _ _ h => h) (by rfl) ?_ ?_; rotate_left 1; focus (intro w; go_simp; try with_reducible rfl))
            try simp only [Act.put, List.setIfInBounds_toArray, List.set_cons_zero, List.set_cons_succ]
            (refine wpAnyP_takeL (i := 24) (v := ?_) rfl (by kernel_rfl) (by kernel_rfl) (by kernel_rfl) (fun _ _ _ h => h) (by rfl) ?_ ?_; rotate_left 1; focus (intro w; go_simp; try with_reducible rfl))
            try simp only [Act.put, List.setIfInBounds_toArray, List.set_cons_zero, List.set_cons_succ]
            (refine wpAnyP_takeL (i := 25) (v := ?_) rfl (by kernel_rfl) (by kernel_rfl) (by kernel_rfl) (fun _ _ _ h => h) (by rfl) ?_ ?_; rotate_left 1; focus (intro w; go_simp; try with_reducible rfl))
            try simp only [Act.put, List.setIfInBounds_toArray, List.set_cons_zero, List.set_cons_succ]
            (refine wpAnyP_takeL (i := 26) (v := ?_) rfl (by kernel_rfl) (by kernel_rfl) (by kernel_rfl) (fun _ _ _ h => h) (by rfl) ?_ ?_; rotate_left 1; focus (intro w; go_simp; try with_reducible rfl))
            try simp only [Act.put, List.setIfInBounds_toArray, List.set_cons_zero, List.set_cons_succ]
            (refine wpAnyP_takeL (i := 27) (v := ?_) rfl (by kernel_rfl) (by kernel_rfl) (by kernel_rfl) (fun _ _ _ h => h) (by rfl) ?_ ?_; rotate_left 1; focus (intro w; go_simp; try with_reducible rfl))
            try simp only [Act.put, List.setIfInBounds_toArray, List.set_cons_zero, List.set_cons_succ]
            (refine wpAnyP_loadL (i := 28) (v := ?_) rfl (by kernel_rfl) (by kernel_rfl) (by kernel_rfl) (by rfl) (fun _ _ _ h => h) hF2 (by rfl) ?_ ?_; rotate_left 1; focus (intro w hFw; (try dsimp only at hFw); go_split_ands; go_simp; try with_reducible rfl))
            try simp only [Act.put, List.setIfInBounds_toArray, List.set_cons_zero, List.set_cons_succ]
            (refine wpAnyP_takeL (i := 29) (v := ?_) rfl (by kernel_rfl) (by kernel_rfl) (by kernel_rfl) (fun _ _ _ h => h) (by rfl) ?_ ?_; rotate_left 1; focus (intro w; go_simp; try with_reducible rfl))
            try simp only [Act.put, List.setIfInBounds_toArray, List.set_cons_zero, List.set_cons_succ]
            (refine wpAnyP_loadL (i := 30) (v := ?_) rfl (by kernel_rfl) (by kernel_rfl) (by kernel_rfl) (by rfl) (fun _ _ _ h => h) hF2 (by rfl) ?_ ?_; rotate_left 1; focus (intro w hFw; (try dsimp only at hFw); go_split_ands; go_simp; try with_reducible rfl))
            try simp only [Act.put, List.setIfInBounds_toArray, List.set_cons_zero, List.set_cons_succ]
            (refine wpAnyP_takeL (i := 31) (v := ?_) rfl (by kernel_rfl) (by kernel_rfl) (by kernel_rfl) (fun _ _ _ h => h) (by rfl) ?_ ?_; rotate_left 1; focus (intro w; go_simp; try with_reducible rfl))
            try simp only [Act.put, List.setIfInBounds_toArray, List.set_cons_zero, List.set_cons_succ]
            (refine wpAnyP_takeL (i := 32) (v := ?_) rfl (by kernel_rfl) (by kernel_rfl) (by kernel_rfl) (fun _ _ _ h => h) (by rfl) ?_ ?_; rotate_left 1; focus (intro w; go_simp; try with_reducible rfl))
            try simp only [Act.put, List.setIfInBounds_toArray, List.set_cons_zero, List.set_cons_succ]
            (refine wpAnyP_takeL (i := 33) (v := ?_) rfl (by kernel_rfl) (by kernel_rfl) (by kernel_rfl) (fun _ _ _ h => h) (by rfl) ?_ ?_; rotate_left 1; focus (intro w; go_simp; try with_reducible rfl))
            try simp only [Act.put, List.setIfInBounds_toArray, List.set_cons_zero, List.set_cons_succ]
            (refine wpAnyP_takeL (i := 34) (v := ?_) rfl (by kernel_rfl) (by kernel_rfl) (by kernel_rfl) (fun _ _ _ h => h) (by rfl) ?_ ?_; rotate_left 1; focus (intro w; go_simp; try with_reducible rfl))
            try simp only [Act.put, List.setIfInBounds_toArray, List.set_cons_zero, List.set_cons_succ]
            (refine wpAnyP_takeL (i := 35) (v := ?_) rfl (by kernel_rfl) (by kernel_rfl) (by kernel_rfl) (fun _ _ _ h => h) (by rfl) ?_ ?_; rotate_left 1; focus (intro w; go_simp; try with_reducible rfl))
            try simp only [Act.put, List.setIfInBounds_toArray, List.set_cons_zero, List.set_cons_succ]
            (refine wpAnyP_takeL (i := 36) (v := ?_) rfl (by kernel_rfl) (by kernel_rfl) (by kernel_rfl) (fun _ _ _ h => h) (by rfl) ?_ ?_; rotate_left 1; focus (intro w; go_simp; try with_reducible rfl))
            try simp only [Act.put, List.setIfInBounds_toArray, List.set_cons_zero, List.set_cons_succ]
            (refine wpAnyP_loadL (i := 37) (v := ?_) rfl (by kernel_rfl) (by kernel_rfl) (by kernel_rfl) (by rfl) (fun _ _ _ h => h) hF2 (by rfl) ?_ ?_; rotate_left 1; focus (intro w hFw; (try dsimp only at hFw); go_split_ands; go_simp; try with_reducible rfl))
            try simp only [Act.put, List.setIfInBounds_toArray, List.set_cons_zero, List.set_cons_succ]
            (refine wpAnyP_takeL (i := 38) (v := ?_) rfl (by kernel_rfl) (by kernel_rfl) (by kernel_rfl) (fun _ _ _ h => h) (by rfl) ?_ ?_; rotate_left 1; focus (intro w; go_simp; try with_reducible rfl))
            try simp only [Act.put, List.setIfInBounds_toArray, List.set_cons_zero, List.set_cons_succ]
            (refine wpAnyP_takeL (i := 39) (v := ?_) rfl (by kernel_rfl) (by kernel_rfl) (by kernel_rfl) (fun _ _ _ h => h) (by rfl) ?_ ?_; rotate_left 1; focus (intro w; go_simp; try with_reducible rfl))
            try simp only [Act.put, List.setIfInBounds_toArray, List.set_cons_zero, List.set_cons_succ]
            (refine wpAnyP_takeL (i := 40) (v := ?_) rfl (by kernel_rfl) (by kernel_rfl) (by kernel_rfl) (fun _ _ _ h => h) (by rfl) ?_ ?_; rotate_left 1; focus (intro w; go_simp; try with_reducible rfl))
            try simp only [Act.put, List.setIfInBounds_toArray, List.set_cons_zero, List.set_cons_succ]
            (refine wpAnyP_takeL (i := 41) (v := ?_) rfl (by kernel_rfl) (by kernel_rfl) (by kernel_rfl) (fun _ _ _ h => h) (by rfl) ?_ ?_; rotate_left 1; focus (intro w; go_simp; try with_reducible rfl))
            try simp only [Act.put, List.setIfInBounds_toArray, List.set_cons_zero, List.set_cons_succ]
            (refine wpAnyP_loadL (i := 42) (v := ?_) rfl (by kernel_rfl) (by kernel_rfl) (by kernel_rfl) (by rfl) (fun _ _ _ h => h) hF2 (by rfl) ?_ ?_; rotate_left 1; focus (intro w hFw; (try dsimp only at hFw); go_split_ands; go_simp; try with_reducible rfl))
            try simp only [Act.put, List.setIfInBounds_toArray, List.set_cons_zero, List.set_cons_succ]
            (refine wpAnyP_takeL (i := 43) (v := ?_) rfl (by kernel_rfl) (by kernel_rfl) (by kernel_rfl) (fun _ _ _ h => h) (by rfl) ?_ ?_; rotate_left 1; focus (intro w; go_simp; try with_reducible rfl))
            try simp only [Act.put, List.setIfInBounds_toArray, List.set_cons_zero, List.set_cons_succ]
            (refine wpAnyP_takeL (i := 44) (v := ?_) rfl (by kernel_rfl) (by kernel_rfl) (by kernel_rfl) (fun _ _ _ h => h) (by rfl) ?_ ?_; rotate_left 1; focus (intro w; go_simp; try with_reducible rfl))
            try simp only [Act.put, List.setIfInBounds_toArray, List.set_cons_zero, List.set_cons_succ]
            (refine wpAnyP_takeL (i := 45) (v := ?_) rfl (by kernel_rfl) (by kernel_rfl) (by kernel_rfl) (fun _ _ _ h => h) (by rfl) ?_ ?_; rotate_left 1; focus (intro w; go_simp; try with_reducible rfl))
            try simp only [Act.put, List.setIfInBounds_toArray, List.set_cons_zero, List.set_cons_succ]
            (refine wpAnyP_takeL (i := 46) (v := ?_) rfl (by kernel_rfl) (by kernel_rfl) (by kernel_rfl) (fun _ _ _ h => h) (by rfl) ?_ ?_; rotate_left 1; focus (intro w; go_simp; try with_reducible rfl))
            try simp only [Act.put, List.setIfInBounds_toArray, List.set_cons_zero, List.set_cons_succ]
            refine wpAnyP_done (by kernel_rfl) ?_ _
            go_wp2_with fail
            go_roundw
            case rel => exact ⟨s + 1, by omega, by go_num, Hb.out.trans (Hd.out.mono Hb.out.size)⟩
            case measure => simp [intOf]; omega
        · have HSD := Lib.hid (show s = st by omega)
          go_wp2_with fail
          refine (awake_any _).mono ?_
          rintro e w9 ⟨rfl, hB9⟩
          have L9 := Lib.hid (Below.step hB9 (Below.step HB.out L7.out (Nat.le_refl _)) (Nat.le_refl _))
          clear hB9
          go_wp2_with fail
          go_ret
          exact ⟨rfl, L9.out⟩
end Go.Proofs.Ytkcdknjgjidnnaa
