/-
  The walk of the law PriceTrue.
-/
import Derived.Test.YtkcdknjgjidnnaaNums
import Derived.Test.YtkcdknjgjidnnaaAwake
import Derived.Test.YtkcdknjgjidnnaaFair
import Derived.Test.YtkcdknjgjidnnaaTruth
import Derived.Test.YtkcdknjgjidnnaaRDue
import Derived.Test.YtkcdknjgjidnnaaSmall
import Derived.Test.YtkcdknjgjidnnaaSealLaw
import Derived.Test.YtkcdknjgjidnnaaKit2
set_option linter.unusedVariables false
set_option linter.unusedSimpArgs false
namespace Go.Proofs.Ytkcdknjgjidnnaa
open Go.RowKit

theorem true_price {g' g : List Sale} (h : Narrow g' g) (hg : GoodIn g) (hx : Exact g') :
    ((fairOut g').2 = false ∧ (priceMid g).1 ≠ 1) ∨ ((fairOut g').2 = true ∧ (priceMid g).1 ≠ 2 ∧ (priceMid g).2.1 ≤ (fairOut g').1 ∧ (fairOut g').1 ≤ (priceMid g).2.2) := by
  have hg' := h.good hg
  obtain ⟨a1, a2⟩ := grams_le h
  have b1 := grams_lohi hg
  have b2 := grams_lohi hg'
  rw [priceMid_eq hg]
  unfold fairOut
  by_cases h' : gramsHi g' = 0
  · rw [if_pos h']
    refine .inl ⟨rfl, ?_⟩
    by_cases h0 : gramsHi g = 0
    · rw [if_pos h0]; decide
    · rw [if_neg h0, if_neg (by omega)]; simp
  · rw [if_neg h', if_neg (by omega)]
    refine .inr ⟨rfl, ?_, narrow_lo h hg h', ?_⟩
    · split <;> simp
    · have := narrow_hi h hg h'
      rw [exact_lohi hg' hx h']
      exact this
theorem ne_die {w : World} {d b n : Nat} {A : Option Addr} {l : List Span} (hd : IsDie w d) (h : Sl encR 2 w b A n l) (hn : 0 < n) : b ≠ d := by
  rintro rfl
  obtain ⟨f, _, hb⟩ := hd
  obtain ⟨o, _, _, h0, _⟩ := h.atR (k := 0) (by rw [← h.len]; exact hn)
  rw [hb.cell] at h0
  rcases o with _ | o <;> simp at h0
theorem true_turn {st gd : Int} {l : List Sale} {t : List Sold} (h : F2 SoldIn t l) (hb : BookIn st gd l) {steps : List Step} (hs : StepsIn steps) (s : Int) :
    (turn l s).lo ≤ (turn (exactS l t) s).lo ∧ (turn (exactS l t) s).lo ≤ (turn l s).hi ∧ (dueSpan steps (turn l s)).lo ≤ dues steps (turn (exactS l t) s).lo ∧ dues steps (turn (exactS l t) s).lo ≤ (dueSpan steps (turn l s)).hi ∧ 0 ≤ (turn (exactS l t) s).lo ∧ (turn (exactS l t) s).lo ≤ 400000000 := by
  obtain ⟨a1, a2⟩ := turn_narrow (narrow_exact h) (fun s hs => ⟨(hb.sales s hs).gl0, (hb.sales s hs).cl0⟩) s
  have a3 := turn_exact (exactS_exact l t) s
  obtain ⟨b1, b2, b3⟩ := turn_bd hb.sales s
  have := hb.len
  refine ⟨a1, by omega, dues_mono hs.sh0 a1, dues_mono hs.sh0 (by omega), by omega, by omega⟩
set_option maxRecDepth 100000 in
set_option maxHeartbeats 4000000 in
theorem priceTrue_any (A : Option Addr) (n c : Nat) (w : World) (hN : Nums w A n) : Calls Try.prog 6 #[.slice A n c] w fun e w' => e = .returned (.bool true) ∧ Below w.heap.size w w' := by
  obtain ⟨b, l, hl, hw, hn⟩ := hN
  have HW := Lib.hid hw
  clear hw
  go_enter Try.func6, Try.ntmps6
  go_wp2_with fail
  refine (dieOf_any b n c A l _ hl hn HW.out).mono ?_
  rintro e w1 ⟨d, hd, rfl, hdie, hB1⟩
  have hz1 := hB1.size
  have HB1 := Lib.hid hB1
  clear hB1 hl
  go_wp2_with fail
  refine (bookOf_any d 3 3 10 _ hdie (by omega) (by omega) (by omega) (by omega) (by omega)).mono ?_
  rintro e w2 ⟨st, gd, b1, m, c1, A1, l1, ⟨hs1, hs2, hg1, hg2, hm1, hok1⟩, rfl, hb1, hb1d, hsl1, hd2, hgr2⟩
  obtain ⟨st, rfl⟩ := Int.eq_ofNat_of_zero_le (show 0 ≤ st by omega)
  have HL := Lib.hid hsl1.len
  have HOK := Lib.hid hok1
  have HI := Lib.hid (check_ok hs1 (by omega) hg1 (by omega) (by have := HL.out; omega) hok1)
  have HB2 := Lib.hid (Below.stepG hgr2 HB1.out (Nat.le_refl _) hd)
  have hz2 := hgr2.size
  have hdz := hd2.lt
  have S2 := Lib.hid (hsl1.alloc (.cells #[.int .i64 st, .int .i64 gd, .slice A1 m c1] 24))
  have K2 := Lib.hid (Blk.new w2 24 #[.int .i64 st, .int .i64 gd, .slice A1 m c1])
  have D2 := Lib.hid (hd2.alloc (.cells #[.int .i64 st, .int .i64 gd, .slice A1 m c1] 24))
  have L2 := Lib.hid (HB2.out.alloc (by omega) (.cells #[.int .i64 st, .int .i64 gd, .slice A1 m c1] 24))
  clear hok1 hgr2 HB1 hdie hsl1 hd2 HB2
  go_wp2_with fail
  refine (stepsOf_any d 4 _ D2.out (by omega) (by omega)).mono ?_
  rintro e w3 ⟨b3, m3, c3, A3, steps, hsi, hsl4, rfl, hb3, hb3d, hsl3, hd3, hg3⟩
  have K3 := Lib.hid (K2.out.grown hg3 (fun e => by injection e; omega))
  have S3 := Lib.hid (S2.out.grown hg3 (fun _ e => hb1d (by injection e)))
  have L3 := Lib.hid (Below.stepG hg3 L2.out (Nat.le_refl _) hd)
  have HSI := Lib.hid hsi
  have HCS := Lib.hid (chkSteps_ok hsi)
  have P3 := Lib.hid hsl3
  have D3 := Lib.hid hd3
  have k0 := K3.out.cell 0
  have k1 := K3.out.cell 1
  have k2 := K3.out.cell 2
  have hz3 := hg3.size
  simp only [World.size_alloc] at hz3 hb3
  clear hsi hsl3 hg3 K2 S2 D2 L2 hd3
  go_wp2_with fail
  refine (dues_ok st gd b1 m c1 b3 m3 c3 A1 A3 l1 steps _ S3.out P3.out HI.out HCS.out).mono ?_
  rintro e w4 ⟨A4, c4, b4, rfl, hs4, hB4⟩
  have hb4d : b4 ≠ d := ne_die (D3.out.keep (hB4.block d D3.out.lt)) hs4 (by omega)
  have Q4 := Lib.hid hs4
  have K4 := Lib.hid (K3.out.below hB4 K3.out.lt)
  have S4 := Lib.hid (S3.out.old hB4)
  have P4 := Lib.hid (P3.out.old hB4)
  have D4 := Lib.hid (D3.out.keep (hB4.block d D3.out.lt))
  have L4 := Lib.hid (Below.step hB4 L3.out (Nat.le_refl _))
  have hz4 := hB4.size
  have j0 := K4.out.cell 0
  clear hs4 hB4 K3 S3 P3 D3 L3 k0 k1 k2
  go_wp2_with fail
  go_loopw [8] (fun i wr => ∃ r : Nat, r ≤ 6 ∧ i = .int .i64 r ∧ IsDie wr d ∧ w4.grownBy wr (some d)) (fun i _ => 6 - (intOf i).toNat)
  case atStart => exact ⟨0, by omega, rfl, D4.out, only_refl _ _⟩
  case round =>
    obtain ⟨r, hr, rfl, hdr, hG⟩ := hrel
    have HD := Lib.hid hdr
    have HG := Lib.hid hG
    have a0 := (K4.out.grown hG (fun e => by injection e; omega)).cell 0
    have a1 := (K4.out.grown hG (fun e => by injection e; omega)).cell 1
    have a2 := (K4.out.grown hG (fun e => by injection e; omega)).cell 2
    have hzr := hG.size
    clear hdr hG j0
    by_cases hlt : r < 6
    · go_wp2_with fail
      refine (truthOf_any d st gd b1 m c1 A1 l1 _ HD.out (S4.out.grown HG.out (fun _ e => hb1d (by injection e))) hb1d HOK.out (by omega)).mono ?_
      rintro e w5 ⟨b5, c5, A5, t, hF, rfl, hb5, hb5d, hsl5, hd5, hg5⟩
      have G5 := Lib.hid (only_trans HG.out hg5)
      have D5 := Lib.hid hd5
      have T5 := Lib.hid hsl5
      have HF := Lib.hid hF
      have hlt5 : t.length = l1.length := hF.length_eq
      have HLT := Lib.hid hlt5
      have K5 := Lib.hid (K4.out.grown G5.out (fun e => by injection e; omega))
      have S5 := Lib.hid (S4.out.grown G5.out (fun _ e => hb1d (by injection e)))
      have P5 := Lib.hid (P4.out.grown G5.out (fun _ e => hb3d (by injection e)))
      have Q5 := Lib.hid (Q4.out.grown G5.out (fun _ e => hb4d (by injection e)))
      have L5 := Lib.hid (Below.stepG G5.out L4.out (Nat.le_refl _) hd)
      have hz5 := hg5.size
      clear hsl5 hd5 hg5 hF hlt5 a0 a1 a2 HG HD
      go_wp2_with fail
      obtain ⟨wo, rfl⟩ : ∃ wo : World, wo = wr := ⟨_, rfl⟩
      go_loopw [10] (fun i ws => ∃ g : Nat, (g : Int) ≤ gd ∧ i = .int .i64 g ∧ Below w5.heap.size w5 ws) (fun i _ => gd.toNat - (intOf i).toNat)
      case atStart => exact ⟨0, by omega, rfl, Below.refl _ _⟩
      case round =>
        obtain ⟨g, hg, rfl, hB⟩ := hrel
        have HB := Lib.hid hB
        have hzs := hB.size
        have a0 := (K5.out.below hB K5.out.lt).cell 0
        have a1 := (K5.out.below hB K5.out.lt).cell 1
        have a2 := (K5.out.below hB K5.out.lt).cell 2
        clear hB
        by_cases hlt2 : (g : Int) < gd
        · go_wp2_with fail
          refine (price_ok st gd g b1 m c1 A1 l1 _ (S5.out.old HB.out) HI.out (by omega) hlt2).mono ?_
          rintro e wa ⟨rfl, hBa⟩
          have Ha := Lib.hid (HB.out.trans (hBa.mono hzs))
          have hza := hBa.size
          have HTP := true_price ((narrow_exact HF.out).ofGood g) (HI.out.good g) ((exactS_exact l1 t).good g)
          have HGE := Lib.hid (((narrow_exact HF.out).ofGood g).good (HI.out.good g))
          have d0 := (K5.out.below Ha.out K5.out.lt).cell 0
          have d1 := (K5.out.below Ha.out K5.out.lt).cell 1
          have d2 := (K5.out.below Ha.out K5.out.lt).cell 2
          have hk7 : w2.heap.size < wa.heap.size := by have := K5.out.lt; omega
          generalize hpm : priceMid (ofGood g l1) = x at HTP ⊢
          have ka := Lib.hid (Blk.new wa 26 #[.int .i64 x.2.1, .int .i64 x.2.2])
          have HTP := Lib.hid HTP
          clear hBa a0 a1 a2 hpm
          go_wp2_with fail
          refine (fair_any st gd g b1 m c1 b5 m c5 A1 A5 l1 t _ ((S5.out.old Ha.out).alloc _) ((T5.out.old Ha.out).alloc _) HLT.out HGE.out (by omega)).mono ?_
          have htp := HTP.out
          generalize fairOut (ofGood g (exactS l1 t)) = y at htp ⊢
          rintro e wb ⟨rfl, hBb⟩
          have kb := Lib.hid (ka.out.below hBb ka.out.lt)
          have Hb := Lib.hid ((Ha.out.alloc (by omega) _).trans (hBb.mono (by simp; omega)))
          have x0 := kb.out.cell 0
          have x1 := kb.out.cell 1
          have hkb := kb.out.lt
          have hzb := hBb.size
          simp only [World.size_alloc] at hzb
          clear hBb d0 d1 d2 hk7 HTP
          rcases htp with ⟨hy, hx⟩ | ⟨hy, hx, hlo, hhi⟩
          · have hv : (x.1 == 1) = false := by simpa using hx
            rw [hy]
            clear hx hy
            go_wp2_with fail
            all_goals
              go_roundw
              case rel => exact ⟨g + 1, by omega, by go_num, Hb.out⟩
              case measure => simp [intOf]; omega
          · have hv : (x.1 == 2) = false := by simpa using hx
            rw [hy]
            have hh1 : (decide (x.2.1 ≤ y.1) && decide (y.1 ≤ x.2.2)) = true := by simp [hlo, hhi]
            have HH1 := Lib.hid hh1
            clear hx hy hh1 hlo hhi
            go_wp2_with fail
            refine (holds_any _ _ _ _).mono ?_
            rw [HH1.out]
            rintro e wc ⟨rfl, hBc⟩
            have Hc := Lib.hid (Hb.out.trans (hBc.mono (by omega)))
            clear hBc
            go_wp2_with fail
            all_goals
              go_roundw
              case rel => exact ⟨g + 1, by omega, by go_num, Hc.out⟩
              case measure => simp [intOf]; omega
        · have HGD := Lib.hid (show (g : Int) = gd by omega)
          go_wp2_with fail
          obtain ⟨wp, rfl⟩ : ∃ wp : World, wp = wr := ⟨_, rfl⟩
          go_loopw [16] (fun i ws => ∃ s : Nat, s ≤ st ∧ i = .int .i64 s ∧ Below w5.heap.size w5 ws) (fun i _ => st - (intOf i).toNat)
          case atStart => exact ⟨0, by omega, rfl, HB.out⟩
          case round =>
            clear HB hzs a0 a1 a2
            obtain ⟨s, hs, rfl, hB⟩ := hrel
            have HB := Lib.hid hB
            have hzs := hB.size
            have a0 := (K5.out.below hB K5.out.lt).cell 0
            have a1 := (K5.out.below hB K5.out.lt).cell 1
            have a2 := (K5.out.below hB K5.out.lt).cell 2
            clear hB
            by_cases hlt3 : s < st
            · go_wp2_with fail
              refine (turnover_ok st gd s b1 m c1 A1 l1 _ (S5.out.old HB.out) HI.out (by omega) (by omega)).mono ?_
              obtain ⟨q1, q2, q3, q4, q5, q6⟩ := true_turn HF.out HI.out HSI.out (s : Int)
              rintro e wa ⟨rfl, hBa⟩
              have Ha := Lib.hid (HB.out.trans (hBa.mono hzs))
              have hza := hBa.size
              have d0 := (K5.out.below Ha.out K5.out.lt).cell 0
              have d1 := (K5.out.below Ha.out K5.out.lt).cell 1
              have d2 := (K5.out.below Ha.out K5.out.lt).cell 2
              have hk7 : w2.heap.size < wa.heap.size := by have := K5.out.lt; omega
              generalize hdx : dueSpan steps (turn l1 (s : Int)) = dx at q3 q4
              generalize hpm : turn l1 (s : Int) = x at q1 q2 ⊢
              have HDX := Lib.hid (show dueSpan steps (turn l1 (s : Int)) = dx by rw [hpm, ← hdx, hpm])
              have ka := Lib.hid (Blk.new wa 26 #[.int .i64 x.lo, .int .i64 x.hi])
              clear hBa a0 a1 a2 hpm hdx
              go_wp2_with fail
              refine (takings_any st gd s b1 m c1 b5 m c5 A1 A5 l1 t _ ((S5.out.old Ha.out).alloc _) ((T5.out.old Ha.out).alloc _) HLT.out (exact_in HF.out HI.out.sales) (by omega)).mono ?_
              rintro e wb ⟨rfl, hBb⟩
              have kb := Lib.hid (ka.out.below hBb ka.out.lt)
              have Hb := Lib.hid ((Ha.out.alloc (by omega) _).trans (hBb.mono (by simp; omega)))
              have hzb := hBb.size
              simp only [World.size_alloc] at hzb
              clear hBb d0 d1 d2 hk7
              have hq8 := (Q5.out.old Hb.out).atR (k := s) (by rw [duesAll_len]; omega)
              rw [duesAll_get, HDX.out] at hq8
              obtain ⟨o8, rfl, hbz8, e0, e1⟩ := hq8
              have HQ8 := Lib.hid (fun (W : World) (hW : Below wb.heap.size wb W) => (show W.cell? ⟨wa.heap.size, 0, none⟩ = some (.int .i64 x.lo) ∧ W.cell? ⟨wa.heap.size, 1, none⟩ = some (.int .i64 x.hi) ∧ W.cell? ⟨b4, o8 + s * 2, none⟩ = some (.int .i64 dx.lo) ∧ W.cell? ⟨b4, o8 + s * 2 + 1, none⟩ = some (.int .i64 dx.hi) from
                ⟨(kb.out.below hW kb.out.lt).cell 0, (kb.out.below hW kb.out.lt).cell 1, (hW.cell (p := ⟨b4, o8 + s * 2, none⟩) hbz8).trans e0, (hW.cell (p := ⟨b4, o8 + s * 2 + 1, none⟩) hbz8).trans e1⟩))
              generalize hn9 : (turn (exactS l1 t) (s : Int)).lo = nn at q1 q2 q3 q4 q5 q6 ⊢
              have HN9 := Lib.hid hn9
              have HH1 := Lib.hid (show (decide (x.lo ≤ nn) && decide (nn ≤ x.hi)) = true by simp [q1, q2])
              have HH2 := Lib.hid (show (decide (dx.lo ≤ dues steps nn) && decide (dues steps nn ≤ dx.hi)) = true by simp [q3, q4])
              have i0 : (0 : Int) ≤ (s : Int) := by omega
              have i1 : (s : Int) < (st : Int) := by omega
              clear e0 e1 hn9 q1 q2 q3 q4
              go_wp2_with fail
              refine wp_region_PL [3, 12] (fun W => W.cell? ⟨wa.heap.size, 0, none⟩ = some (.int .i64 x.lo) ∧ W.cell? ⟨wa.heap.size, 1, none⟩ = some (.int .i64 x.hi) ∧ W.cell? ⟨b4, o8 + s * 2, none⟩ = some (.int .i64 dx.lo) ∧ W.cell? ⟨b4, o8 + s * 2 + 1, none⟩ = some (.int .i64 dx.hi)) rfl (by kernel_rfl) (HQ8.out _ (Below.refl _ wb).drew) (fun hF0 => ?_)
              (refine wpAnyP_takeL (i := 0) (v := ?_) rfl (by kernel_rfl) (by kernel_rfl) (by kernel_rfl) (fun _ _ _ h => h) (by rfl) ?_ ?_; rotate_left 1; focus (intro w; go_simp; try with_reducible rfl))
              try simp only [Act.put, List.setIfInBounds_toArray, List.set_cons_zero, List.set_cons_succ]
              (refine wpAnyP_takeL (i := 1) (v := ?_) rfl (by kernel_rfl) (by kernel_rfl) (by kernel_rfl) (fun _ _ _ h => h) (by rfl) ?_ ?_; rotate_left 1; focus (intro w; go_simp; try with_reducible rfl))
              try simp only [Act.put, List.setIfInBounds_toArray, List.set_cons_zero, List.set_cons_succ]
              (refine wpAnyP_takeL (i := 2) (v := ?_) rfl (by kernel_rfl) (by kernel_rfl) (by kernel_rfl) (fun _ _ _ h => h) (by rfl) ?_ ?_; rotate_left 1; focus (intro w; go_simp; try with_reducible rfl))
              try simp only [Act.put, List.setIfInBounds_toArray, List.set_cons_zero, List.set_cons_succ]
              (refine wpAnyP_loadL (i := 3) (v := ?_) rfl (by kernel_rfl) (by kernel_rfl) (by kernel_rfl) (by rfl) (fun _ _ _ h => h) hF0 (by rfl) ?_ ?_; rotate_left 1; focus (intro w hFw; (try dsimp only at hFw); go_split_ands; go_simp; try with_reducible rfl))
              try simp only [Act.put, List.setIfInBounds_toArray, List.set_cons_zero, List.set_cons_succ]
              (refine wpAnyP_takeL (i := 4) (v := ?_) rfl (by kernel_rfl) (by kernel_rfl) (by kernel_rfl) (fun _ _ _ h => h) (by rfl) ?_ ?_; rotate_left 1; focus (intro w; go_simp; try with_reducible rfl))
              try simp only [Act.put, List.setIfInBounds_toArray, List.set_cons_zero, List.set_cons_succ]
              refine wpAnyP_step (i := 5) rfl (by kernel_rfl) (by rfl) (fun K hK => ?_)
              go_simp
              (refine (holds_any _ _ _ _).mono ?_; rw [HH1.out]; rintro e wc ⟨rfl, hBc⟩; have Hc := Lib.hid ((Below.refl wb.heap.size wb).drew.trans hBc); clear hBc)
              (refine hK _ _ (HQ8.out _ Hc.out) (fun hF1 => ?_); clear hK K hF0)
              try simp only [Act.put, List.setIfInBounds_toArray, List.set_cons_zero, List.set_cons_succ]
              (refine wpAnyP_takeL (i := 6) (v := ?_) rfl (by kernel_rfl) (by kernel_rfl) (by kernel_rfl) (fun _ _ _ h => h) (by rfl) ?_ ?_; rotate_left 1; focus (intro w; go_simp; try with_reducible rfl))
              try simp only [Act.put, List.setIfInBounds_toArray, List.set_cons_zero, List.set_cons_succ]
              (refine wpAnyP_takeL (i := 7) (v := ?_) rfl (by kernel_rfl) (by kernel_rfl) (by kernel_rfl) (fun _ _ _ h => h) (by rfl) ?_ ?_; rotate_left 1; focus (intro w; go_simp; try with_reducible rfl))
              try simp only [Act.put, List.setIfInBounds_toArray, List.set_cons_zero, List.set_cons_succ]
              (refine wpAnyP_takeL (i := 8) (v := ?_) rfl (by kernel_rfl) (by kernel_rfl) (by kernel_rfl) (fun _ _ _ h => h) (by rfl) ?_ ?_; rotate_left 1; focus (intro w; go_simp; try with_reducible rfl))
              try simp only [Act.put, List.setIfInBounds_toArray, List.set_cons_zero, List.set_cons_succ]
              (refine wpAnyP_takeL (i := 9) (v := ?_) rfl (by kernel_rfl) (by kernel_rfl) (by kernel_rfl) (fun _ _ _ h => h) (by rfl) ?_ ?_; rotate_left 1; focus (intro w; go_simp; try with_reducible rfl))
              try simp only [Act.put, List.setIfInBounds_toArray, List.set_cons_zero, List.set_cons_succ]
              (refine wpAnyP_takeL (i := 10) (v := ?_) rfl (by kernel_rfl) (by kernel_rfl) (by kernel_rfl) (fun _ _ _ h => h) (by rfl) ?_ ?_; rotate_left 1; focus (intro w; go_simp; try with_reducible rfl))
              try simp only [Act.put, List.setIfInBounds_toArray, List.set_cons_zero, List.set_cons_succ]
              (refine wpAnyP_takeL (i := 11) (v := ?_) rfl (by kernel_rfl) (by kernel_rfl) (by kernel_rfl) (fun _ _ _ h => h) (by rfl) ?_ ?_; rotate_left 1; focus (intro w; go_simp; try with_reducible rfl))
              try simp only [Act.put, List.setIfInBounds_toArray, List.set_cons_zero, List.set_cons_succ]
              (refine wpAnyP_loadL (i := 12) (v := ?_) rfl (by kernel_rfl) (by kernel_rfl) (by kernel_rfl) (by rfl) (fun _ _ _ h => h) hF1 (by rfl) ?_ ?_; rotate_left 1; focus (intro w hFw; (try dsimp only at hFw); go_split_ands; go_simp; try with_reducible rfl))
              try simp only [Act.put, List.setIfInBounds_toArray, List.set_cons_zero, List.set_cons_succ]
              (refine wpAnyP_takeL (i := 13) (v := ?_) rfl (by kernel_rfl) (by kernel_rfl) (by kernel_rfl) (fun _ _ _ h => h) (by rfl) ?_ ?_; rotate_left 1; focus (intro w; go_simp; try with_reducible rfl))
              try simp only [Act.put, List.setIfInBounds_toArray, List.set_cons_zero, List.set_cons_succ]
              (refine wpAnyP_takeL (i := 14) (v := ?_) rfl (by kernel_rfl) (by kernel_rfl) (by kernel_rfl) (fun _ _ _ h => h) (by rfl) ?_ ?_; rotate_left 1; focus (intro w; go_simp; try with_reducible rfl))
              try simp only [Act.put, List.setIfInBounds_toArray, List.set_cons_zero, List.set_cons_succ]
              refine wpAnyP_step (i := 15) rfl (by kernel_rfl) (by rfl) (fun K hK => ?_)
              go_simp
              (refine (rdue_any b3 m3 c3 A3 steps nn _ ((P5.out.old Hb.out).old Hc.out) HSI.out q5 (by omega)).mono ?_; rintro e wd ⟨rfl, hBd⟩; have Hd := Lib.hid (Hc.out.trans (hBd.mono Hc.out.size)); clear hBd)
              (refine hK _ _ (HQ8.out _ Hd.out) (fun hF2 => ?_); clear hK K hF1)
              try simp only [Act.put, List.setIfInBounds_toArray, List.set_cons_zero, List.set_cons_succ]
              refine wpAnyP_step (i := 16) rfl (by kernel_rfl) (by rfl) (fun K hK => ?_)
              go_simp
              (refine (holds_any _ _ _ _).mono ?_; rw [HH2.out]; rintro e we ⟨rfl, hBe⟩; have He := Lib.hid (Hd.out.trans (hBe.mono Hd.out.size)); clear hBe)
              (refine hK _ _ (HQ8.out _ He.out) (fun hF3 => ?_); clear hK K hF2)
              try simp only [Act.put, List.setIfInBounds_toArray, List.set_cons_zero, List.set_cons_succ]
              (refine wpAnyP_takeL (i := 17) (v := ?_) rfl (by kernel_rfl) (by kernel_rfl) (by kernel_rfl) (fun _ _ _ h => h) (by rfl) ?_ ?_; rotate_left 1; focus (intro w; go_simp; try with_reducible rfl))
              try simp only [Act.put, List.setIfInBounds_toArray, List.set_cons_zero, List.set_cons_succ]
              (refine wpAnyP_takeL (i := 18) (v := ?_) rfl (by kernel_rfl) (by kernel_rfl) (by kernel_rfl) (fun _ _ _ h => h) (by rfl) ?_ ?_; rotate_left 1; focus (intro w; go_simp; try with_reducible rfl))
              try simp only [Act.put, List.setIfInBounds_toArray, List.set_cons_zero, List.set_cons_succ]
              refine wpAnyP_done (by kernel_rfl) ?_ _
              go_wp2_with fail
              go_roundw
              case rel => exact ⟨s + 1, by omega, by go_num, Hb.out.trans (He.out.mono (by omega))⟩
              case measure => simp [intOf]; omega
            · have HSD := Lib.hid (show s = st by omega)
              go_wp2_with fail
              go_roundw
              case rel => exact ⟨r + 1, by omega, by go_num, D5.out.keep (HB.out.block d D5.out.lt), only_stepB HB.out G5.out⟩
              case measure => simp [intOf]; omega
    · obtain rfl : r = 6 := by omega
      go_wp2_with fail
      refine (awake_any _).mono ?_
      rintro e w9 ⟨rfl, hB9⟩
      have L9 := Lib.hid (Below.step hB9 (Below.stepG HG.out L4.out (Nat.le_refl _) hd) (Nat.le_refl _))
      clear hB9
      go_wp2_with fail
      go_ret
      exact ⟨rfl, L9.out⟩
end Go.Proofs.Ytkcdknjgjidnnaa
