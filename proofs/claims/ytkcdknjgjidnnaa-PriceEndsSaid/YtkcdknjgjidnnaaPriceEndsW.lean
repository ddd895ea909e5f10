/-
  The walk of the law PriceEnds.
-/
import Derived.Test.YtkcdknjgjidnnaaNums
import Derived.Test.YtkcdknjgjidnnaaAwake
import Derived.Test.YtkcdknjgjidnnaaFair
import Derived.Test.YtkcdknjgjidnnaaPush
import Derived.Test.YtkcdknjgjidnnaaEndsLaw
import Derived.Test.YtkcdknjgjidnnaaRDue
import Derived.Test.YtkcdknjgjidnnaaSealLaw
import Derived.Test.YtkcdknjgjidnnaaKit2
import Derived.Test.YtkcdknjgjidnnaaReg2
import Derived.Deep.Cut
import Derived.Deep.CutRange
set_option linter.unusedVariables false
set_option linter.unusedSimpArgs false
namespace Go.Proofs.Ytkcdknjgjidnnaa
open Go.RowKit

/-- a block of a span that was made behind V -/
def Alc (V W : World) (B : Nat) (x y : Int) : Prop := Blk W B 26 #[.int .i64 x, .int .i64 y] ∧ V.heap.size ≤ B
theorem Alc.new {V W : World} (h : Below V.heap.size V W) : Alc V (W.alloc (.cells #[.int .i64 0, .int .i64 0] 26)) W.heap.size 0 0 := ⟨Blk.new _ _ _, h.size⟩
theorem Alc.step {V W W' : World} {B : Nat} {x y : Int} (h : Alc V W B x y) (hb : Below W.heap.size W W') : Alc V W' B x y := ⟨h.1.below hb h.1.lt, h.2⟩
theorem Alc.store {V W : World} {B : Nat} {x y : Int} (h : Alc V W B x y) (hV : Below V.heap.size V W) (u v : Int) :
    Alc V ((W.setCell ⟨B, 0, none⟩ (.int .i64 u)).setCell ⟨B, 1, none⟩ (.int .i64 v)) B u v ∧ Below V.heap.size V ((W.setCell ⟨B, 0, none⟩ (.int .i64 u)).setCell ⟨B, 1, none⟩ (.int .i64 v)) :=
  ⟨⟨(h.1.set_ 0 _).set_ 1 _, h.2⟩, (hV.setCell (p := ⟨B, 0, none⟩) h.2 _).setCell (p := ⟨B, 1, none⟩) h.2 _⟩
theorem Alc.last {V W : World} (h : Below V.heap.size V W) (u v : Int) : Alc V (W.alloc (.cells #[.int .i64 u, .int .i64 v] 26)) W.heap.size u v ∧ Below V.heap.size V (W.alloc (.cells #[.int .i64 u, .int .i64 v] 26)) :=
  ⟨⟨Blk.new _ _ _, h.size⟩, h.alloc h.size _⟩

theorem ne_die {w : World} {d b n : Nat} {A : Option Addr} {l : List Span} (hd : IsDie w d) (h : Sl encR 2 w b A n l) (hn : 0 < n) : b ≠ d := by
  rintro rfl
  obtain ⟨f, _, hb⟩ := hd
  obtain ⟨o, _, _, h0, _⟩ := h.atR (k := 0) (by rw [← h.len]; exact hn)
  rw [hb.cell] at h0
  rcases o with _ | o <;> simp at h0

set_option maxRecDepth 100000 in
set_option maxHeartbeats 4000000 in
theorem priceEnds_any (A : Option Addr) (n c : Nat) (w : World) (hN : Nums w A n) : Calls Try.prog 7 #[.slice A n c] w fun e w' => e = .returned (.bool true) ∧ Below w.heap.size w w' := by
  obtain ⟨b, l, hl, hw, hn⟩ := hN
  have HW := Lib.hid hw
  clear hw
  go_enter Try.func7, Try.ntmps7
  go_wp2_with fail
  refine (dieOf_any b n c A l _ hl hn HW.out).mono ?_
  rintro e w1 ⟨d, hd, rfl, hdie, hB1⟩
  have hz1 := hB1.size
  have HB1 := Lib.hid hB1
  clear hB1 hl
  go_wp2_with fail
  refine (bookOf_any d 3 3 10 _ hdie (by omega) (by omega) (by omega) (by omega) (by omega)).mono ?_
  rintro e w2 ⟨st, gd, b1, m, c1, A1, l1, ⟨hs1, hs2, hg1, hg2, hm1, hok1⟩, rfl, hb1, hb1d, hsl1, hd2, hgr2⟩
  obtain ⟨st, rfl⟩ := Int.eq_ofNat_of_zero_le (show 0 ≤ st by omega)
  have HL := Lib.hid hsl1.len
  have HOK := Lib.hid hok1
  have HI := Lib.hid (check_ok hs1 (by omega) hg1 (by omega) (by have := HL.out; omega) hok1)
  have HB2 := Lib.hid (Below.stepG hgr2 HB1.out (Nat.le_refl _) hd)
  have hz2 := hgr2.size
  have hdz := hd2.lt
  have S2 := Lib.hid (hsl1.alloc (.cells #[.int .i64 st, .int .i64 gd, .slice A1 m c1] 24))
  have K2 := Lib.hid (Blk.new w2 24 #[.int .i64 st, .int .i64 gd, .slice A1 m c1])
  have D2 := Lib.hid (hd2.alloc (.cells #[.int .i64 st, .int .i64 gd, .slice A1 m c1] 24))
  have L2 := Lib.hid (HB2.out.alloc (by omega) (.cells #[.int .i64 st, .int .i64 gd, .slice A1 m c1] 24))
  clear hok1 hgr2 HB1 hdie hsl1 hd2 HB2
  go_wp2_with fail
  refine (stepsOf_any d 4 _ D2.out (by omega) (by omega)).mono ?_
  rintro e w3 ⟨b3, m3, c3, A3, steps, hsi, hsl4, rfl, hb3, hb3d, hsl3, hd3, hg3⟩
  have K3 := Lib.hid (K2.out.grown hg3 (fun e => by injection e; omega))
  have S3 := Lib.hid (S2.out.grown hg3 (fun _ e => hb1d (by injection e)))
  have L3 := Lib.hid (Below.stepG hg3 L2.out (Nat.le_refl _) hd)
  have HSI := Lib.hid hsi
  have HCS := Lib.hid (chkSteps_ok hsi)
  have P3 := Lib.hid hsl3
  have D3 := Lib.hid hd3
  have k0 := K3.out.cell 0
  have k1 := K3.out.cell 1
  have k2 := K3.out.cell 2
  have hz3 := hg3.size
  simp only [World.size_alloc] at hz3 hb3
  clear hsi hsl3 hg3 K2 S2 D2 L2 hd3
  go_wp2_with fail
  refine (dues_ok st gd b1 m c1 b3 m3 c3 A1 A3 l1 steps _ S3.out P3.out HI.out HCS.out).mono ?_
  rintro e w4 ⟨A4, c4, b4, rfl, hs4, hB4⟩
  have hb4d : b4 ≠ d := ne_die (D3.out.keep (hB4.block d D3.out.lt)) hs4 (by omega)
  have Q4 := Lib.hid hs4
  have K4 := Lib.hid (K3.out.below hB4 K3.out.lt)
  have S4 := Lib.hid (S3.out.old hB4)
  have P4 := Lib.hid (P3.out.old hB4)
  have D4 := Lib.hid (D3.out.keep (hB4.block d D3.out.lt))
  have L4 := Lib.hid (Below.step hB4 L3.out (Nat.le_refl _))
  have hz4 := hB4.size
  have j0 := K4.out.cell 0
  clear hs4 hB4 K3 S3 P3 D3 L3 k0 k1 k2
  go_wp2_with fail
  have hw4 : w.heap.size ≤ w4.heap.size := L4.out.size
  go_loopw [8] (fun i wr => ∃ g : Nat, (g : Int) ≤ gd ∧ i = .int .i64 g ∧ Below w4.heap.size w4 wr) (fun i _ => gd.toNat - (intOf i).toNat)
  case atStart => exact ⟨0, by omega, rfl, Below.refl _ _⟩
  case round =>
    obtain ⟨g, hg, rfl, hB⟩ := hrel
    have HB := Lib.hid hB
    have hzs := hB.size
    have a0 := (K4.out.below hB K4.out.lt).cell 0
    have a1 := (K4.out.below hB K4.out.lt).cell 1
    have a2 := (K4.out.below hB K4.out.lt).cell 2
    clear hB j0
    by_cases hlt : (g : Int) < gd
    · go_wp2_with fail
      refine (price_ok st gd g b1 m c1 A1 l1 _ (S4.out.old HB.out) HI.out (by omega) hlt).mono ?_
      rintro e wa ⟨rfl, hBa⟩
      have Ha := Lib.hid (HB.out.trans (hBa.mono hzs))
      have hza := hBa.size
      have HGG := Lib.hid (HI.out.good g)
      have HPM := Lib.hid (priceMid_eq HGG.out)
      have hk7 : w2.heap.size < wa.heap.size := by have := K4.out.lt; omega
      generalize hpm : priceMid (ofGood g l1) = x at HPM ⊢
      have ka := Lib.hid (Blk.new wa 26 #[.int .i64 x.2.1, .int .i64 x.2.2])
      have La := Lib.hid (Ha.out.alloc (by omega) (.cells #[.int .i64 x.2.1, .int .i64 x.2.2] 26))
      clear hBa a0 a1 a2 hpm
      go_wp2_with fail
      generalize hV : wa.alloc (.cells #[.int .i64 x.2.1, .int .i64 x.2.2] 26) = V at ka La ⊢
      have hVz : V.heap.size = wa.heap.size + 1 := by rw [← hV]; simp
      clear hV
      obtain ⟨wo, rfl⟩ : ∃ wo : World, wo = wr := ⟨_, rfl⟩
      go_loopw [12, 13, 14] (fun u v i ws => ∃ k : Nat, k ≤ m ∧ i = .int .i64 k ∧ u = .int .i64 (wsum allQ (·.gl) (ofGood g (l1.take k))) ∧ v = .int .i64 (wsum allQ (·.gh) (ofGood g (l1.take k))) ∧ Below V.heap.size V ws) (fun _ _ i _ => m - (intOf i).toNat)
      case atStart => exact ⟨0, by omega, rfl, rfl, rfl, Below.refl _ _⟩
      case round =>
        obtain ⟨k, hk, rfl, rfl, rfl, hB⟩ := hrel
        have HBs := Lib.hid hB
        have hzs2 := hB.size
        have a2 := ((K4.out.below La.out K4.out.lt).below hB (by have := K4.out.lt; have := La.out.size; omega)).cell 2
        clear hB
        by_cases hlt2 : k < m
        · have hk1 : k < l1.length := by have := HL.out; omega
          obtain ⟨o, rfl, hbz, s0, s1, s2, s3, s4, s5⟩ := ((S4.out.old La.out).old HBs.out).atS hk1
          have HQ := Lib.hid (ofGood_snoc g l1 k hk1)
          have hsal := HI.out.sales _ (List.getElem_mem hk1)
          have hgt := (HGG.out)
          have u1 := wsum_bd (q := allQ) (f := (·.gl)) (l := ofGood g (l1.take k)) (m := 100000) (fun s hs => by
            have h := HI.out.sales s (List.mem_of_mem_take (ofGood_sub g _ s hs).1)
            exact ⟨h.gl0, by have := h.gl1; have := h.gh1; omega⟩) (by omega)
          have u2 := wsum_bd (q := allQ) (f := (·.gh)) (l := ofGood g (l1.take k)) (m := 100000) (fun s hs => by
            have h := HI.out.sales s (List.mem_of_mem_take (ofGood_sub g _ s hs).1)
            exact ⟨by have := h.gl0; have := h.gl1; omega, h.gh1⟩) (by omega)
          have u3 : ((ofGood g (l1.take k)).length : Int) ≤ 40 := by have := ofGood_le g (l1.take k); simp at this; omega
          obtain ⟨u4, u5⟩ := u1
          obtain ⟨u6, u7⟩ := u2
          have u8 : wsum allQ (·.gl) (ofGood g (l1.take k)) ≤ 4000000 := by omega
          have u9 : wsum allQ (·.gh) (ofGood g (l1.take k)) ≤ 4000000 := by omega
          have g0 := hsal.gl0
          have g1 := hsal.gl1
          have g2 := hsal.gh1
          clear u3 u5 u7 hsal hgt
          generalize hu : wsum allQ (·.gl) (ofGood g (l1.take k)) = u at u4 u8 ⊢
          generalize hv : wsum allQ (·.gh) (ofGood g (l1.take k)) = v at u6 u9 ⊢
          have HU := Lib.hid hu
          have HV := Lib.hid hv
          clear hu hv
          generalize l1[k] = y at s0 s1 s2 s3 s4 s5 HQ g0 g1 g2
          have e0 : (0 : Int) ≤ (k : Int) := by omega
          have e1 : (k : Int) < (m : Int) := by omega
          by_cases hs : y.gd = g
          · have hsb : (y.gd == (g : Int)) = true := by simpa using hs
            have HS := Lib.hid hs
            clear hs
            go_wp2_with fail
            go_quiet (fail)
            go_wp2_with fail
            go_roundw
            case rel => exact ⟨k + 1, by omega, by go_num, by rw [HQ.out, if_pos HS.out, wsum_snoc, HU.out]; rfl, by rw [HQ.out, if_pos HS.out, wsum_snoc, HV.out]; rfl, below_drewN HBs.out _⟩
            case measure => simp [intOf]; omega
          · have hsb : (y.gd == (g : Int)) = false := by simpa using hs
            have HS := Lib.hid hs
            clear hs
            go_wp2_with fail
            go_roundw
            case rel => exact ⟨k + 1, by omega, by go_num, by rw [HQ.out, if_neg HS.out, HU.out], by rw [HQ.out, if_neg HS.out, HV.out], HBs.out⟩
            case measure => simp [intOf]; omega
        · have hkm : k = m := by omega
          have HTK := Lib.hid (show l1.take k = l1 from List.take_of_length_le (by have := HL.out; omega))
          have hlg := grams_lohi HGG.out
          rw [HTK.out, show wsum allQ (·.gl) (ofGood g l1) = gramsLo (ofGood g l1) from rfl, show wsum allQ (·.gh) (ofGood g l1) = gramsHi (ofGood g l1) from rfl]
          have HT := Lib.hid ((La.out).trans (HBs.out.mono La.out.size))
          have KB := Lib.hid (ka.out.below HBs.out ka.out.lt)
          clear HBs
          by_cases h0 : gramsHi (ofGood g l1) = 0
          · have hx := HPM.out
            rw [if_pos h0] at hx
            rw [h0, hx]
            have kb := KB.out
            rw [hx] at kb
            have KBx := Lib.hid kb
            clear hx h0 hlg kb
            go_wp2_with fail
            refine wp_region_PL [3] (fun W => W.cell? ⟨wa.heap.size, 0, none⟩ = some (.int .i64 0) ∧ W.cell? ⟨wa.heap.size, 1, none⟩ = some (.int .i64 0)) rfl (by kernel_rfl) (⟨KBx.out.cell 0, KBx.out.cell 1⟩) (fun hF0 => ?_)
            (refine wpAnyP_takeL (i := 0) (v := ?_) rfl (by kernel_rfl) (by kernel_rfl) (by kernel_rfl) (fun _ _ _ h => h) (by rfl) ?_ ?_; rotate_left 1; focus (intro w; go_simp; try with_reducible rfl))
            try simp only [Act.put, List.setIfInBounds_toArray, List.set_cons_zero, List.set_cons_succ]
            (refine wpAnyP_takeL (i := 1) (v := ?_) rfl (by kernel_rfl) (by kernel_rfl) (by kernel_rfl) (fun _ _ _ h => h) (by rfl) ?_ ?_; rotate_left 1; focus (intro w; go_simp; try with_reducible rfl))
            try simp only [Act.put, List.setIfInBounds_toArray, List.set_cons_zero, List.set_cons_succ]
            (refine wpAnyP_takeL (i := 2) (v := ?_) rfl (by kernel_rfl) (by kernel_rfl) (by kernel_rfl) (fun _ _ _ h => h) (by rfl) ?_ ?_; rotate_left 1; focus (intro w; go_simp; try with_reducible rfl))
            try simp only [Act.put, List.setIfInBounds_toArray, List.set_cons_zero, List.set_cons_succ]
            (refine wpAnyP_loadL (i := 3) (v := ?_) rfl (by kernel_rfl) (by kernel_rfl) (by kernel_rfl) (by rfl) (fun _ _ _ h => h) hF0 (by rfl) ?_ ?_; rotate_left 1; focus (intro w hFw; (try dsimp only at hFw); go_split_ands; go_simp; try with_reducible rfl))
            try simp only [Act.put, List.setIfInBounds_toArray, List.set_cons_zero, List.set_cons_succ]
            refine wpAnyP_step (i := 4) rfl (by kernel_rfl) (by rfl) (fun K hK => ?_)
            go_simp
            (refine (lone_any _ _).mono ?_; rintro e wb ⟨rfl, hBb⟩; have HBb := Lib.hid ((Below.refl wr.heap.size wr).drew.trans hBb); have KB2 := Lib.hid (KBx.out.below HBb.out KBx.out.lt); clear hBb)
            (refine hK _ _ (⟨KB2.out.cell 0, KB2.out.cell 1⟩) (fun hF1 => ?_); clear hK K hF0)
            try simp only [Act.put, List.setIfInBounds_toArray, List.set_cons_zero, List.set_cons_succ]
            (refine wpAnyP_takeL (i := 5) (v := ?_) rfl (by kernel_rfl) (by kernel_rfl) (by kernel_rfl) (fun _ _ _ h => h) (by rfl) ?_ ?_; rotate_left 1; focus (intro w; go_simp; try with_reducible rfl))
            try simp only [Act.put, List.setIfInBounds_toArray, List.set_cons_zero, List.set_cons_succ]
            (refine wpAnyP_takeL (i := 6) (v := ?_) rfl (by kernel_rfl) (by kernel_rfl) (by kernel_rfl) (fun _ _ _ h => h) (by rfl) ?_ ?_; rotate_left 1; focus (intro w; go_simp; try with_reducible rfl))
            try simp only [Act.put, List.setIfInBounds_toArray, List.set_cons_zero, List.set_cons_succ]
            refine wpAnyP_done (by kernel_rfl) ?_ _
            go_wp2_with fail
            go_roundw
            case rel => exact ⟨g + 1, by omega, by go_num, HT.out.trans (HBb.out.mono HT.out.size)⟩
            case measure => simp [intOf]; omega
          · have hx := HPM.out
            rw [if_neg h0] at hx
            have HEL := Lib.hid (ends_lo HGG.out h0)
            have HEH := Lib.hid (ends_hi HGG.out h0)
            have h0b : (gramsHi (ofGood g l1) == 0) = false := by simpa using h0
            have KBx := Lib.hid (KB.out)
            have hx2 : x.2.1 = loOf (ofGood g l1) := by rw [hx]
            have hx3 : x.2.2 = hiOf (ofGood g l1) := by rw [hx]
            rw [hx2, hx3] at KBx
            have hx1 : x.1 = if 0 < gramsLo (ofGood g l1) then 1 else 3 := by rw [hx]
            have HX1 := Lib.hid hx1
            generalize hgh : gramsHi (ofGood g l1) = gh at h0b hlg ⊢
            generalize hgl : gramsLo (ofGood g l1) = gl at HX1 hlg ⊢
            have hgl0 := hlg.1
            clear hx hx1 hx2 hx3 h0 hgh hgl hlg KB
            have K4w := Lib.hid (K4.out.below HT.out K4.out.lt)
            go_wp2_with fail
            have HFC := Lib.hid (fun (W : World) (hW : Below wr.heap.size wr W) => (show (W.cell? ⟨w2.heap.size, 0, none⟩ = some (.int .i64 (st : Int)) ∧ W.cell? ⟨w2.heap.size, 1, none⟩ = some (.int .i64 gd) ∧ W.cell? ⟨w2.heap.size, 2, none⟩ = some (.slice A1 m c1)) ∧ W.cell? ⟨wa.heap.size, 0, none⟩ = some (.int .i64 (loOf (ofGood g l1))) ∧ W.cell? ⟨wa.heap.size, 1, none⟩ = some (.int .i64 (hiOf (ofGood g l1))) from
              ⟨⟨(K4w.out.below hW K4w.out.lt).cell 0, (K4w.out.below hW K4w.out.lt).cell 1, (K4w.out.below hW K4w.out.lt).cell 2⟩, (KBx.out.below hW KBx.out.lt).cell 0, (KBx.out.below hW KBx.out.lt).cell 1⟩))
            clear a2
            refine wp_region_PL [0, 1, 3] (fun W => (W.cell? ⟨w2.heap.size, 0, none⟩ = some (.int .i64 (st : Int)) ∧ W.cell? ⟨w2.heap.size, 1, none⟩ = some (.int .i64 gd) ∧ W.cell? ⟨w2.heap.size, 2, none⟩ = some (.slice A1 m c1)) ∧ W.cell? ⟨wa.heap.size, 0, none⟩ = some (.int .i64 (loOf (ofGood g l1))) ∧ W.cell? ⟨wa.heap.size, 1, none⟩ = some (.int .i64 (hiOf (ofGood g l1)))) rfl (by kernel_rfl) (HFC.out _ (Below.refl wr.heap.size wr).drew) (fun hF0 => ?_)
            (refine wpAnyP_loadL (i := 0) (v := ?_) rfl (by kernel_rfl) (by kernel_rfl) (by kernel_rfl) (by rfl) (fun _ _ _ h => h) hF0 (by rfl) ?_ ?_; rotate_left 1; focus (intro w hFw; (try dsimp only at hFw); go_split_ands; go_simp; try with_reducible rfl))
            try simp only [Act.put, List.setIfInBounds_toArray, List.set_cons_zero, List.set_cons_succ]
            (refine wpAnyP_loadL (i := 1) (v := ?_) rfl (by kernel_rfl) (by kernel_rfl) (by kernel_rfl) (by rfl) (fun _ _ _ h => h) hF0 (by rfl) ?_ ?_; rotate_left 1; focus (intro w hFw; (try dsimp only at hFw); go_split_ands; go_simp; try with_reducible rfl))
            try simp only [Act.put, List.setIfInBounds_toArray, List.set_cons_zero, List.set_cons_succ]
            (refine wpAnyP_takeL (i := 2) (v := ?_) rfl (by kernel_rfl) (by kernel_rfl) (by kernel_rfl) (fun _ _ _ h => h) (by rfl) ?_ ?_; rotate_left 1; focus (intro w; go_simp; try with_reducible rfl))
            try simp only [Act.put, List.setIfInBounds_toArray, List.set_cons_zero, List.set_cons_succ]
            (refine wpAnyP_loadL (i := 3) (v := ?_) rfl (by kernel_rfl) (by kernel_rfl) (by kernel_rfl) (by rfl) (fun _ _ _ h => h) hF0 (by rfl) ?_ ?_; rotate_left 1; focus (intro w hFw; (try dsimp only at hFw); go_split_ands; go_simp; try with_reducible rfl))
            try simp only [Act.put, List.setIfInBounds_toArray, List.set_cons_zero, List.set_cons_succ]
            (refine wpAnyP_takeL (i := 5) (v := ?_) rfl (by kernel_rfl) (by kernel_rfl) (by kernel_rfl) (fun _ _ _ h => h) (by rfl) ?_ ?_; rotate_left 1; focus (intro w; go_simp; try with_reducible rfl))
            try simp only [Act.put, List.setIfInBounds_toArray, List.set_cons_zero, List.set_cons_succ]
            refine wpAnyP_step (i := 4) rfl (by kernel_rfl) (by rfl) (fun K hK => ?_)
            go_simp
            (refine (pushed_any true st gd (loOf (ofGood g l1)) b1 m c1 A1 l1 _ (S4.out.old (HT.out.trans (((Below.refl wr.heap.size wr).drew).mono HT.out.size))) (by omega)).mono ?_; rintro e wp22 ⟨bp22, cp22, Ap22, rfl, hsp22, hBp22⟩; have Hp22 := Lib.hid (((Below.refl wr.heap.size wr).drew).trans (hBp22.mono ((Below.refl wr.heap.size wr).drew).size)); have Pp22 := Lib.hid hsp22; clear hsp22 hBp22)
            (refine hK _ _ (HFC.out _ Hp22.out) (fun hF1 => ?_); clear hK K hF0)
            try simp only [Act.put, List.setIfInBounds_toArray, List.set_cons_zero, List.set_cons_succ]
            refine wpAnyP_step (i := 6) rfl (by kernel_rfl) (by rfl) (fun K hK => ?_)
            go_simp
            (refine (fair_any st gd g b1 m c1 bp22 m cp22 A1 Ap22 l1 (l1.map (pushS (loOf (ofGood g l1)) true)) _ (S4.out.old (HT.out.trans (Hp22.out.mono HT.out.size))) Pp22.out (by simp) (by rw [ofGood_push]; exact (narrow_push HGG.out _ _).good HGG.out) (by omega)).mono ?_; rw [ofGood_push, HEL.out]; rintro e wf22 ⟨rfl, hBf22⟩; have Hf22 := Lib.hid (Hp22.out.trans (hBf22.mono Hp22.out.size)); clear hBf22)
            (refine hK _ _ (HFC.out _ Hf22.out) (fun hF2 => ?_); clear hK K hF1)
            try simp only [Act.put, List.setIfInBounds_toArray, List.set_cons_zero, List.set_cons_succ]
            (refine wpAnyP_takeL (i := 7) (v := ?_) rfl (by kernel_rfl) (by kernel_rfl) (by kernel_rfl) (fun _ _ _ h => h) (by rfl) ?_ ?_; rotate_left 1; focus (intro w; go_simp; try with_reducible rfl))
            try simp only [Act.put, List.setIfInBounds_toArray, List.set_cons_zero, List.set_cons_succ]
            (refine wpAnyP_takeL (i := 8) (v := ?_) rfl (by kernel_rfl) (by kernel_rfl) (by kernel_rfl) (fun _ _ _ h => h) (by rfl) ?_ ?_; rotate_left 1; focus (intro w; go_simp; try with_reducible rfl))
            try simp only [Act.put, List.setIfInBounds_toArray, List.set_cons_zero, List.set_cons_succ]
            (refine wpAnyP_takeL (i := 9) (v := ?_) rfl (by kernel_rfl) (by kernel_rfl) (by kernel_rfl) (fun _ _ _ h => h) (by rfl) ?_ ?_; rotate_left 1; focus (intro w; go_simp; try with_reducible rfl))
            try simp only [Act.put, List.setIfInBounds_toArray, List.set_cons_zero, List.set_cons_succ]
            (refine wpAnyP_takeL (i := 10) (v := ?_) rfl (by kernel_rfl) (by kernel_rfl) (by kernel_rfl) (fun _ _ _ h => h) (by rfl) ?_ ?_; rotate_left 1; focus (intro w; go_simp; try with_reducible rfl))
            try simp only [Act.put, List.setIfInBounds_toArray, List.set_cons_zero, List.set_cons_succ]
            (refine wpAnyP_takeL (i := 11) (v := ?_) rfl (by kernel_rfl) (by kernel_rfl) (by kernel_rfl) (fun _ _ _ h => h) (by rfl) ?_ ?_; rotate_left 1; focus (intro w; go_simp; try with_reducible rfl))
            try simp only [Act.put, List.setIfInBounds_toArray, List.set_cons_zero, List.set_cons_succ]
            refine wpAnyP_done (by kernel_rfl) ?_ _
            go_wp2_with fail
            refine wp_region_PL [0, 1, 3] (fun W => (W.cell? ⟨w2.heap.size, 0, none⟩ = some (.int .i64 (st : Int)) ∧ W.cell? ⟨w2.heap.size, 1, none⟩ = some (.int .i64 gd) ∧ W.cell? ⟨w2.heap.size, 2, none⟩ = some (.slice A1 m c1)) ∧ W.cell? ⟨wa.heap.size, 0, none⟩ = some (.int .i64 (loOf (ofGood g l1))) ∧ W.cell? ⟨wa.heap.size, 1, none⟩ = some (.int .i64 (hiOf (ofGood g l1)))) rfl (by kernel_rfl) (HFC.out _ Hf22.out.drew) (fun hF0 => ?_)
            (refine wpAnyP_loadL (i := 0) (v := ?_) rfl (by kernel_rfl) (by kernel_rfl) (by kernel_rfl) (by rfl) (fun _ _ _ h => h) hF0 (by rfl) ?_ ?_; rotate_left 1; focus (intro w hFw; (try dsimp only at hFw); go_split_ands; go_simp; try with_reducible rfl))
            try simp only [Act.put, List.setIfInBounds_toArray, List.set_cons_zero, List.set_cons_succ]
            (refine wpAnyP_loadL (i := 1) (v := ?_) rfl (by kernel_rfl) (by kernel_rfl) (by kernel_rfl) (by rfl) (fun _ _ _ h => h) hF0 (by rfl) ?_ ?_; rotate_left 1; focus (intro w hFw; (try dsimp only at hFw); go_split_ands; go_simp; try with_reducible rfl))
            try simp only [Act.put, List.setIfInBounds_toArray, List.set_cons_zero, List.set_cons_succ]
            (refine wpAnyP_takeL (i := 2) (v := ?_) rfl (by kernel_rfl) (by kernel_rfl) (by kernel_rfl) (fun _ _ _ h => h) (by rfl) ?_ ?_; rotate_left 1; focus (intro w; go_simp; try with_reducible rfl))
            try simp only [Act.put, List.setIfInBounds_toArray, List.set_cons_zero, List.set_cons_succ]
            (refine wpAnyP_loadL (i := 3) (v := ?_) rfl (by kernel_rfl) (by kernel_rfl) (by kernel_rfl) (by rfl) (fun _ _ _ h => h) hF0 (by rfl) ?_ ?_; rotate_left 1; focus (intro w hFw; (try dsimp only at hFw); go_split_ands; go_simp; try with_reducible rfl))
            try simp only [Act.put, List.setIfInBounds_toArray, List.set_cons_zero, List.set_cons_succ]
            (refine wpAnyP_takeL (i := 5) (v := ?_) rfl (by kernel_rfl) (by kernel_rfl) (by kernel_rfl) (fun _ _ _ h => h) (by rfl) ?_ ?_; rotate_left 1; focus (intro w; go_simp; try with_reducible rfl))
            try simp only [Act.put, List.setIfInBounds_toArray, List.set_cons_zero, List.set_cons_succ]
            refine wpAnyP_step (i := 4) rfl (by kernel_rfl) (by rfl) (fun K hK => ?_)
            go_simp
            (refine (pushed_any false st gd (hiOf (ofGood g l1)) b1 m c1 A1 l1 _ (S4.out.old (HT.out.trans ((Hf22.out.drew).mono HT.out.size))) (by omega)).mono ?_; rintro e wp23 ⟨bp23, cp23, Ap23, rfl, hsp23, hBp23⟩; have Hp23 := Lib.hid ((Hf22.out.drew).trans (hBp23.mono (Hf22.out.drew).size)); have Pp23 := Lib.hid hsp23; clear hsp23 hBp23)
            (refine hK _ _ (HFC.out _ Hp23.out) (fun hF1 => ?_); clear hK K hF0)
            try simp only [Act.put, List.setIfInBounds_toArray, List.set_cons_zero, List.set_cons_succ]
            refine wpAnyP_step (i := 6) rfl (by kernel_rfl) (by rfl) (fun K hK => ?_)
            go_simp
            (refine (fair_any st gd g b1 m c1 bp23 m cp23 A1 Ap23 l1 (l1.map (pushS (hiOf (ofGood g l1)) false)) _ (S4.out.old (HT.out.trans (Hp23.out.mono HT.out.size))) Pp23.out (by simp) (by rw [ofGood_push]; exact (narrow_push HGG.out _ _).good HGG.out) (by omega)).mono ?_; rw [ofGood_push, HEH.out]; rintro e wf23 ⟨rfl, hBf23⟩; have Hf23 := Lib.hid (Hp23.out.trans (hBf23.mono Hp23.out.size)); clear hBf23)
            (refine hK _ _ (HFC.out _ Hf23.out) (fun hF2 => ?_); clear hK K hF1)
            try simp only [Act.put, List.setIfInBounds_toArray, List.set_cons_zero, List.set_cons_succ]
            (refine wpAnyP_takeL (i := 7) (v := ?_) rfl (by kernel_rfl) (by kernel_rfl) (by kernel_rfl) (fun _ _ _ h => h) (by rfl) ?_ ?_; rotate_left 1; focus (intro w; go_simp; try with_reducible rfl))
            try simp only [Act.put, List.setIfInBounds_toArray, List.set_cons_zero, List.set_cons_succ]
            (refine wpAnyP_takeL (i := 8) (v := ?_) rfl (by kernel_rfl) (by kernel_rfl) (by kernel_rfl) (fun _ _ _ h => h) (by rfl) ?_ ?_; rotate_left 1; focus (intro w; go_simp; try with_reducible rfl))
            try simp only [Act.put, List.setIfInBounds_toArray, List.set_cons_zero, List.set_cons_succ]
            (refine wpAnyP_takeL (i := 9) (v := ?_) rfl (by kernel_rfl) (by kernel_rfl) (by kernel_rfl) (fun _ _ _ h => h) (by rfl) ?_ ?_; rotate_left 1; focus (intro w; go_simp; try with_reducible rfl))
            try simp only [Act.put, List.setIfInBounds_toArray, List.set_cons_zero, List.set_cons_succ]
            (refine wpAnyP_takeL (i := 10) (v := ?_) rfl (by kernel_rfl) (by kernel_rfl) (by kernel_rfl) (fun _ _ _ h => h) (by rfl) ?_ ?_; rotate_left 1; focus (intro w; go_simp; try with_reducible rfl))
            try simp only [Act.put, List.setIfInBounds_toArray, List.set_cons_zero, List.set_cons_succ]
            (refine wpAnyP_takeL (i := 11) (v := ?_) rfl (by kernel_rfl) (by kernel_rfl) (by kernel_rfl) (fun _ _ _ h => h) (by rfl) ?_ ?_; rotate_left 1; focus (intro w; go_simp; try with_reducible rfl))
            try simp only [Act.put, List.setIfInBounds_toArray, List.set_cons_zero, List.set_cons_succ]
            refine wpAnyP_done (by kernel_rfl) ?_ _
            obtain ⟨⟨_, _, _⟩, y0, y1⟩ := HFC.out _ Hf23.out
            by_cases hgp : 0 < gl
            · have hv1 : x.1 = 1 := by rw [HX1.out, if_pos hgp]
              rw [hv1]
              clear hv1
              go_wp2_with fail
              go_roundw
              case rel => exact ⟨g + 1, by omega, by go_num, HT.out.trans (Hf23.out.mono HT.out.size)⟩
              case measure => simp [intOf]; omega
            · have hv1 : x.1 = 3 := by rw [HX1.out, if_neg hgp]
              rw [hv1]
              clear hv1
              go_wp2_with fail
              go_roundw
              case rel => exact ⟨g + 1, by omega, by go_num, HT.out.trans (Hf23.out.mono HT.out.size)⟩
              case measure => simp [intOf]; omega
    · have HGD := Lib.hid (show (g : Int) = gd by omega)
      have K5 := Lib.hid (K4.out.below HB.out K4.out.lt)
      have S5 := Lib.hid (S4.out.old HB.out)
      have P5 := Lib.hid (P4.out.old HB.out)
      have Q5 := Lib.hid (Q4.out.old HB.out)
      have L5 := Lib.hid (Below.step HB.out L4.out (Nat.le_refl _))
      have HFC := Lib.hid (fun (W : World) (hW : Below wr.heap.size wr W) => (show (W.cell? ⟨w2.heap.size, 0, none⟩ = some (.int .i64 (st : Int)) ∧ W.cell? ⟨w2.heap.size, 1, none⟩ = some (.int .i64 gd) ∧ W.cell? ⟨w2.heap.size, 2, none⟩ = some (.slice A1 m c1)) from
        ⟨(K5.out.below hW K5.out.lt).cell 0, (K5.out.below hW K5.out.lt).cell 1, (K5.out.below hW K5.out.lt).cell 2⟩))
      clear HB hzs a0 a2 K4 S4 P4 Q4 D4
      go_wp2_with fail
      refine wp_region_PL [0, 2] (fun W => W.cell? ⟨w2.heap.size, 0, none⟩ = some (.int .i64 (st : Int)) ∧ W.cell? ⟨w2.heap.size, 1, none⟩ = some (.int .i64 gd) ∧ W.cell? ⟨w2.heap.size, 2, none⟩ = some (.slice A1 m c1)) rfl (by kernel_rfl) (HFC.out _ (Below.refl wr.heap.size wr).drew) (fun hF0 => ?_)
      (refine wpAnyP_loadL (i := 0) (v := ?_) rfl (by kernel_rfl) (by kernel_rfl) (by kernel_rfl) (by rfl) (fun _ _ _ h => h) hF0 (by rfl) ?_ ?_; rotate_left 1; focus (intro w hFw; (try dsimp only at hFw); go_split_ands; go_simp; try with_reducible rfl))
      try simp only [Act.put, List.setIfInBounds_toArray, List.set_cons_zero, List.set_cons_succ]
      (refine wpAnyP_loadL (i := 2) (v := ?_) rfl (by kernel_rfl) (by kernel_rfl) (by kernel_rfl) (by rfl) (fun _ _ _ h => h) hF0 (by rfl) ?_ ?_; rotate_left 1; focus (intro w hFw; (try dsimp only at hFw); go_split_ands; go_simp; try with_reducible rfl))
      try simp only [Act.put, List.setIfInBounds_toArray, List.set_cons_zero, List.set_cons_succ]
      refine wpAnyP_step (i := 1) rfl (by kernel_rfl) (by rfl) (fun K hK => ?_)
      go_simp
      (refine (pushed_any true st gd (-1) b1 m c1 A1 l1 _ (S5.out.old (Below.refl wr.heap.size wr).drew) (by omega)).mono ?_; rintro e w6 ⟨b6, c6, A6, rfl, hs6, hB6⟩; have H6 := Lib.hid ((Below.refl wr.heap.size wr).drew.trans hB6); have P6 := Lib.hid hs6; clear hs6 hB6)
      (refine hK _ _ (HFC.out _ H6.out) (fun hF1 => ?_); clear hK K hF0)
      try simp only [Act.put, List.setIfInBounds_toArray, List.set_cons_zero, List.set_cons_succ]
      refine wpAnyP_step (i := 3) rfl (by kernel_rfl) (by rfl) (fun K hK => ?_)
      go_simp
      (refine (pushed_any false st gd (-1) b1 m c1 A1 l1 _ (S5.out.old H6.out) (by omega)).mono ?_; rintro e w7 ⟨b7, c7, A7, rfl, hs7, hB7⟩; have H7 := Lib.hid (H6.out.trans (hB7.mono H6.out.size)); have P7 := Lib.hid hs7; have P6 := Lib.hid (P6.out.old hB7); clear hs7 hB7)
      (refine hK _ _ (HFC.out _ H7.out) (fun hF2 => ?_); clear hK K hF1)
      try simp only [Act.put, List.setIfInBounds_toArray, List.set_cons_zero, List.set_cons_succ]
      (refine wpAnyP_takeL (i := 4) (v := ?_) rfl (by kernel_rfl) (by kernel_rfl) (by kernel_rfl) (fun _ _ _ h => h) (by rfl) ?_ ?_; rotate_left 1; focus (intro w; go_simp; try with_reducible rfl))
      try simp only [Act.put, List.setIfInBounds_toArray, List.set_cons_zero, List.set_cons_succ]
      (refine wpAnyP_takeL (i := 5) (v := ?_) rfl (by kernel_rfl) (by kernel_rfl) (by kernel_rfl) (fun _ _ _ h => h) (by rfl) ?_ ?_; rotate_left 1; focus (intro w; go_simp; try with_reducible rfl))
      try simp only [Act.put, List.setIfInBounds_toArray, List.set_cons_zero, List.set_cons_succ]
      refine wpAnyP_done (by kernel_rfl) ?_ _
      have K6 := Lib.hid (K5.out.below H7.out K5.out.lt)
      have S6 := Lib.hid (S5.out.old H7.out)
      have PP := Lib.hid (P5.out.old H7.out)
      have Q6 := Lib.hid (Q5.out.old H7.out)
      have L6 := Lib.hid (Below.step H7.out L5.out (Nat.le_refl _))
      have hw7 : w.heap.size ≤ w7.heap.size := L6.out.size
      clear K5 S5 P5 Q5 L5 HFC H6 H7
      go_wp2_with fail
      obtain ⟨wo, rfl⟩ : ∃ wo : World, wo = wr := ⟨_, rfl⟩
      go_loopw [21] (fun i ws => ∃ s : Nat, s ≤ st ∧ i = .int .i64 s ∧ Below w7.heap.size w7 ws) (fun i _ => st - (intOf i).toNat)
      case atStart => exact ⟨0, by omega, rfl, Below.refl _ _⟩
      case round =>
        obtain ⟨s, hs, rfl, hB⟩ := hrel
        have HB := Lib.hid hB
        have hzs := hB.size
        have a0 := (K6.out.below hB K6.out.lt).cell 0
        have a1 := (K6.out.below hB K6.out.lt).cell 1
        have a2 := (K6.out.below hB K6.out.lt).cell 2
        clear hB
        by_cases hlt3 : s < st
        · go_wp2_with fail
          refine (turnover_ok st gd s b1 m c1 A1 l1 _ (S6.out.old HB.out) HI.out (by omega) (by omega)).mono ?_
          rintro e wa ⟨rfl, hBa⟩
          have Ha := Lib.hid (HB.out.trans (hBa.mono hzs))
          have hza := hBa.size
          have hk7 : w2.heap.size < wa.heap.size := by have := K6.out.lt; omega
          obtain ⟨t1, t2⟩ := turn_push HI.out.sales (s : Int)
          obtain ⟨t3, t4, t5⟩ := turn_bd HI.out.sales (s : Int)
          have t6 : (turn l1 (s : Int)).hi ≤ 400000000 := by have := HI.out.len; omega
          have HT1 := Lib.hid t1
          have HT2 := Lib.hid t2
          have HDS := Lib.hid (show dueSpan steps (turn l1 (s : Int)) = ⟨dues steps (turn l1 (s : Int)).lo, dues steps (turn l1 (s : Int)).hi⟩ from rfl)
          generalize hpm : turn l1 (s : Int) = x at t3 t4 t6 HT1 HT2 HDS ⊢
          have HTX := Lib.hid hpm
          have ka := Lib.hid (Blk.new wa 26 #[.int .i64 x.lo, .int .i64 x.hi])
          have Hb := Lib.hid (Ha.out.alloc (by omega) (.cells #[.int .i64 x.lo, .int .i64 x.hi] 26))
          clear hBa a0 a1 a2 hpm t1 t2 t5
          go_wp2_with fail
          generalize hVV : wa.alloc (.cells #[.int .i64 x.lo, .int .i64 x.hi] 26) = V at ka Hb ⊢
          have HKV := Lib.hid (show V.heap.size = wa.heap.size + 1 by rw [← hVV]; simp)
          have HFC := Lib.hid (fun (W : World) (hW : Below V.heap.size V W) => (show W.cell? ⟨w2.heap.size, 0, none⟩ = some (.int .i64 (st : Int)) ∧ W.cell? ⟨w2.heap.size, 1, none⟩ = some (.int .i64 gd) ∧ W.cell? ⟨w2.heap.size, 2, none⟩ = some (.slice A1 m c1) from
            ⟨((K6.out.below Hb.out K6.out.lt).below hW (by have := HKV.out; omega)).cell 0, ((K6.out.below Hb.out K6.out.lt).below hW (by have := HKV.out; omega)).cell 1, ((K6.out.below Hb.out K6.out.lt).below hW (by have := HKV.out; omega)).cell 2⟩))
          have S7 := Lib.hid (S6.out.old Hb.out)
          have PA := Lib.hid (P6.out.old Hb.out)
          have PB := Lib.hid (P7.out.old Hb.out)
          clear hVV
          go_cut [24] from 160 to 203 (fun p wx => ∃ B : Nat, p = .pointer (some ⟨B, 0, none⟩) ∧ Alc V wx B x.lo x.hi ∧ Below V.heap.size V wx)
          case first =>
            have hV : Below V.heap.size V V.drew := (Below.refl _ V).drew
            refine wp_region_K2 [0, 4] [] (fun W => W.cell? ⟨w2.heap.size, 0, none⟩ = some (.int .i64 (st : Int)) ∧ W.cell? ⟨w2.heap.size, 1, none⟩ = some (.int .i64 gd) ∧ W.cell? ⟨w2.heap.size, 2, none⟩ = some (.slice A1 m c1)) (fun _ => True) rfl (by kernel_rfl) (HFC.out _ hV) (trivial) (fun hF0 hG0 => ?_)
            (refine wpAnyK_loadL Keep2.refl (i := 0) (v := ?_) rfl (Keep2.left (i := 0) (by rfl)) (by kernel_rfl) (by kernel_rfl) (by kernel_rfl) (fun _ _ _ h => h) hF0 (by rfl) ?_ ?_; rotate_left 1; focus (intro w hFw; (try dsimp only at hFw); go_split_ands; go_simp; try with_reducible rfl))
            try simp only [Act.put, List.setIfInBounds_toArray, List.set_cons_zero, List.set_cons_succ]
            (refine wpAnyK_takeL Keep2.refl (i := 1) (v := ?_) rfl (by kernel_rfl) (by kernel_rfl) (by kernel_rfl) (fun _ _ _ h => h) (by rfl) ?_ ?_; rotate_left 1; focus (intro w; go_simp; try with_reducible rfl))
            try simp only [Act.put, List.setIfInBounds_toArray, List.set_cons_zero, List.set_cons_succ]
            (refine wpAnyK_takeL Keep2.refl (i := 2) (v := ?_) rfl (by kernel_rfl) (by kernel_rfl) (by kernel_rfl) (fun _ _ _ h => h) (by rfl) ?_ ?_; rotate_left 1; focus (intro w; go_simp; try with_reducible rfl))
            try simp only [Act.put, List.setIfInBounds_toArray, List.set_cons_zero, List.set_cons_succ]
            (refine wpAnyK_loadL Keep2.refl (i := 4) (v := ?_) rfl (Keep2.left (i := 4) (by rfl)) (by kernel_rfl) (by kernel_rfl) (by kernel_rfl) (fun _ _ _ h => h) hF0 (by rfl) ?_ ?_; rotate_left 1; focus (intro w hFw; (try dsimp only at hFw); go_split_ands; go_simp; try with_reducible rfl))
            try simp only [Act.put, List.setIfInBounds_toArray, List.set_cons_zero, List.set_cons_succ]
            (refine wpAnyK_takeL Keep2.refl (i := 5) (v := ?_) rfl (by kernel_rfl) (by kernel_rfl) (by kernel_rfl) (fun _ _ _ h => h) (by rfl) ?_ ?_; rotate_left 1; focus (intro w; go_simp; try with_reducible rfl))
            try simp only [Act.put, List.setIfInBounds_toArray, List.set_cons_zero, List.set_cons_succ]
            (refine wpAnyK_takeL Keep2.refl (i := 6) (v := ?_) rfl (by kernel_rfl) (by kernel_rfl) (by kernel_rfl) (fun _ _ _ h => h) (by rfl) ?_ ?_; rotate_left 1; focus (intro w; go_simp; try with_reducible rfl))
            try simp only [Act.put, List.setIfInBounds_toArray, List.set_cons_zero, List.set_cons_succ]
            refine wpAnyK_all (rs := [3, 9]) (by kernel_rfl) (by simp) ?_
            refine List.forall_mem_cons.2 ⟨?_, List.forall_mem_cons.2 ⟨?_, fun _ h => absurd h List.not_mem_nil⟩⟩
            · refine wpOp_of rfl (by rfl) (fun K hK => ?_)
              go_simp
              (refine (takings_any st gd s b1 m c1 b6 m c6 A1 A6 l1 (l1.map (pushS (-1) true)) _ (S7.out.old hV) (PA.out.old hV) (by simp) (exact_in (push_F2 HI.out.sales (-1) true) HI.out.sales) (by omega)).mono ?_; rw [HT1.out]; rintro e w8 ⟨rfl, hB8⟩; (try replace hA := hA.step hB8); replace hV := hV.trans (hB8.mono hV.size))
              (refine hK _ _ ⟨⟨fun _ _ => HFC.out _ hV, fun h => absurd h (by decide)⟩, ?_⟩; clear hK K)
              (refine wpAnyK_with (F := fun W => W.cell? ⟨w2.heap.size, 0, none⟩ = some (.int .i64 (st : Int)) ∧ W.cell? ⟨w2.heap.size, 1, none⟩ = some (.int .i64 gd) ∧ W.cell? ⟨w2.heap.size, 2, none⟩ = some (.slice A1 m c1)) (HFC.out _ hV) (fun hF1 => ?_); clear hF0)
              try simp only [Act.put, List.setIfInBounds_toArray, List.set_cons_zero, List.set_cons_succ]
              refine wpAnyK_all (rs := [7, 9]) (by kernel_rfl) (by simp) ?_
              refine List.forall_mem_cons.2 ⟨?_, List.forall_mem_cons.2 ⟨?_, fun _ h => absurd h List.not_mem_nil⟩⟩
              · refine wpOp_of rfl (by rfl) (fun K hK => ?_)
                go_simp
                (refine (takings_any st gd s b1 m c1 b7 m c7 A1 A7 l1 (l1.map (pushS (-1) false)) _ (S7.out.old hV) (PB.out.old hV) (by simp) (exact_in (push_F2 HI.out.sales (-1) false) HI.out.sales) (by omega)).mono ?_; rw [HT2.out]; rintro e w9 ⟨rfl, hB9⟩; (try replace hA := hA.step hB9); replace hV := hV.trans (hB9.mono hV.size))
                (refine hK _ _ ⟨⟨fun _ _ => HFC.out _ hV, fun h => absurd h (by decide)⟩, ?_⟩; clear hK K)
                (refine wpAnyK_with (F := fun W => W.cell? ⟨w2.heap.size, 0, none⟩ = some (.int .i64 (st : Int)) ∧ W.cell? ⟨w2.heap.size, 1, none⟩ = some (.int .i64 gd) ∧ W.cell? ⟨w2.heap.size, 2, none⟩ = some (.slice A1 m c1)) (HFC.out _ hV) (fun hF2 => ?_); clear hF1)
                try simp only [Act.put, List.setIfInBounds_toArray, List.set_cons_zero, List.set_cons_succ]
                refine wpAnyK_all (rs := [8, 9]) (by kernel_rfl) (by simp) ?_
                refine List.forall_mem_cons.2 ⟨?_, List.forall_mem_cons.2 ⟨?_, fun _ h => absurd h List.not_mem_nil⟩⟩
                · refine wpOp_of rfl (by rfl) (fun K hK => ?_)
                  go_simp
                  (refine (span_any x.lo x.hi _).mono ?_; rintro e w10 ⟨rfl, hB10⟩; (try replace hA := hA.step hB10); replace hV := hV.trans (hB10.mono hV.size))
                  (refine hK _ _ ⟨⟨fun _ _ => HFC.out _ hV, fun h => absurd h (by decide)⟩, ?_⟩; clear hK K)
                  (refine wpAnyK_with (F := fun W => W.cell? ⟨w2.heap.size, 0, none⟩ = some (.int .i64 (st : Int)) ∧ W.cell? ⟨w2.heap.size, 1, none⟩ = some (.int .i64 gd) ∧ W.cell? ⟨w2.heap.size, 2, none⟩ = some (.slice A1 m c1)) (HFC.out _ hV) (fun hF3 => ?_); clear hF2)
                  try simp only [Act.put, List.setIfInBounds_toArray, List.set_cons_zero, List.set_cons_succ]
                  refine wpAnyK_step (i := 9) rfl (by kernel_rfl) (by rfl) (fun K hK => ?_)
                  go_simp
                  (have hA := Alc.new hV; (try simp only [World.size_drew] at hA); have hV0 := hV; replace hV := hV.alloc hV.size (.cells #[.int .i64 0, .int .i64 0] 26))
                  (refine hK _ _ (⟨fun _ _ => HFC.out _ hV, fun h => absurd h (by decide)⟩) ?_; clear hK K)
                  (refine wpAnyK_with (F := fun W => W.cell? ⟨w2.heap.size, 0, none⟩ = some (.int .i64 (st : Int)) ∧ W.cell? ⟨w2.heap.size, 1, none⟩ = some (.int .i64 gd) ∧ W.cell? ⟨w2.heap.size, 2, none⟩ = some (.slice A1 m c1)) (HFC.out _ hV) (fun hF4 => ?_); clear hF3)
                  try simp only [Act.put, List.setIfInBounds_toArray, List.set_cons_zero, List.set_cons_succ]
                  refine wpAnyK_step (i := 10) rfl (by kernel_rfl) (by rfl) (fun K hK => ?_)
                  go_simp
                  (have f0 := hA.1.frozen 0; have f1 := hA.1.frozen 1; have c0 := hA.1.cell 0; have c1 := hA.1.cell 1; go_simp)
                  (refine hK _ _ (Keep2.no (by kernel_rfl) (by kernel_rfl)) ?_; clear hK K)
                  try simp only [Act.put, List.setIfInBounds_toArray, List.set_cons_zero, List.set_cons_succ]
                  refine wpAnyK_done (by kernel_rfl) ?_ _
                  go_wp2_with fail
                  go_meet
                  first | exact ⟨_, rfl, (Alc.last hV0 _ _).1, (Alc.last hV0 _ _).2⟩ | exact ⟨_, rfl, (hA.store hV _ _).1, (hA.store hV _ _).2⟩
                · refine wpOp_of rfl (by rfl) (fun K hK => ?_)
                  go_simp
                  (have hA := Alc.new hV; (try simp only [World.size_drew] at hA); have hV0 := hV; replace hV := hV.alloc hV.size (.cells #[.int .i64 0, .int .i64 0] 26))
                  (refine hK _ _ ⟨⟨fun _ _ => HFC.out _ hV, fun h => absurd h (by decide)⟩, ?_⟩; clear hK K)
                  (refine wpAnyK_with (F := fun W => W.cell? ⟨w2.heap.size, 0, none⟩ = some (.int .i64 (st : Int)) ∧ W.cell? ⟨w2.heap.size, 1, none⟩ = some (.int .i64 gd) ∧ W.cell? ⟨w2.heap.size, 2, none⟩ = some (.slice A1 m c1)) (HFC.out _ hV) (fun hF6 => ?_); clear hF2)
                  try simp only [Act.put, List.setIfInBounds_toArray, List.set_cons_zero, List.set_cons_succ]
                  refine wpAnyK_step (i := 8) rfl (by kernel_rfl) (by rfl) (fun K hK => ?_)
                  go_simp
                  (refine (span_any x.lo x.hi _).mono ?_; rintro e w10 ⟨rfl, hB10⟩; (try replace hA := hA.step hB10); replace hV := hV.trans (hB10.mono hV.size))
                  (refine hK _ _ (⟨fun _ _ => HFC.out _ hV, fun h => absurd h (by decide)⟩) ?_; clear hK K)
                  (refine wpAnyK_with (F := fun W => W.cell? ⟨w2.heap.size, 0, none⟩ = some (.int .i64 (st : Int)) ∧ W.cell? ⟨w2.heap.size, 1, none⟩ = some (.int .i64 gd) ∧ W.cell? ⟨w2.heap.size, 2, none⟩ = some (.slice A1 m c1)) (HFC.out _ hV) (fun hF7 => ?_); clear hF6)
                  try simp only [Act.put, List.setIfInBounds_toArray, List.set_cons_zero, List.set_cons_succ]
                  refine wpAnyK_step (i := 10) rfl (by kernel_rfl) (by rfl) (fun K hK => ?_)
                  go_simp
                  (have f0 := hA.1.frozen 0; have f1 := hA.1.frozen 1; have c0 := hA.1.cell 0; have c1 := hA.1.cell 1; go_simp)
                  (refine hK _ _ (Keep2.no (by kernel_rfl) (by kernel_rfl)) ?_; clear hK K)
                  try simp only [Act.put, List.setIfInBounds_toArray, List.set_cons_zero, List.set_cons_succ]
                  refine wpAnyK_done (by kernel_rfl) ?_ _
                  go_wp2_with fail
                  go_meet
                  first | exact ⟨_, rfl, (Alc.last hV0 _ _).1, (Alc.last hV0 _ _).2⟩ | exact ⟨_, rfl, (hA.store hV _ _).1, (hA.store hV _ _).2⟩
              · refine wpOp_of rfl (by rfl) (fun K hK => ?_)
                go_simp
                (have hA := Alc.new hV; (try simp only [World.size_drew] at hA); have hV0 := hV; replace hV := hV.alloc hV.size (.cells #[.int .i64 0, .int .i64 0] 26))
                (refine hK _ _ ⟨⟨fun _ _ => HFC.out _ hV, fun h => absurd h (by decide)⟩, ?_⟩; clear hK K)
                (refine wpAnyK_with (F := fun W => W.cell? ⟨w2.heap.size, 0, none⟩ = some (.int .i64 (st : Int)) ∧ W.cell? ⟨w2.heap.size, 1, none⟩ = some (.int .i64 gd) ∧ W.cell? ⟨w2.heap.size, 2, none⟩ = some (.slice A1 m c1)) (HFC.out _ hV) (fun hF9 => ?_); clear hF1)
                try simp only [Act.put, List.setIfInBounds_toArray, List.set_cons_zero, List.set_cons_succ]
                refine wpAnyK_step (i := 7) rfl (by kernel_rfl) (by rfl) (fun K hK => ?_)
                go_simp
                (refine (takings_any st gd s b1 m c1 b7 m c7 A1 A7 l1 (l1.map (pushS (-1) false)) _ (S7.out.old hV) (PB.out.old hV) (by simp) (exact_in (push_F2 HI.out.sales (-1) false) HI.out.sales) (by omega)).mono ?_; rw [HT2.out]; rintro e w9 ⟨rfl, hB9⟩; (try replace hA := hA.step hB9); replace hV := hV.trans (hB9.mono hV.size))
                (refine hK _ _ (⟨fun _ _ => HFC.out _ hV, fun h => absurd h (by decide)⟩) ?_; clear hK K)
                (refine wpAnyK_with (F := fun W => W.cell? ⟨w2.heap.size, 0, none⟩ = some (.int .i64 (st : Int)) ∧ W.cell? ⟨w2.heap.size, 1, none⟩ = some (.int .i64 gd) ∧ W.cell? ⟨w2.heap.size, 2, none⟩ = some (.slice A1 m c1)) (HFC.out _ hV) (fun hF10 => ?_); clear hF9)
                try simp only [Act.put, List.setIfInBounds_toArray, List.set_cons_zero, List.set_cons_succ]
                refine wpAnyK_step (i := 8) rfl (by kernel_rfl) (by rfl) (fun K hK => ?_)
                go_simp
                (refine (span_any x.lo x.hi _).mono ?_; rintro e w10 ⟨rfl, hB10⟩; (try replace hA := hA.step hB10); replace hV := hV.trans (hB10.mono hV.size))
                (refine hK _ _ (⟨fun _ _ => HFC.out _ hV, fun h => absurd h (by decide)⟩) ?_; clear hK K)
                (refine wpAnyK_with (F := fun W => W.cell? ⟨w2.heap.size, 0, none⟩ = some (.int .i64 (st : Int)) ∧ W.cell? ⟨w2.heap.size, 1, none⟩ = some (.int .i64 gd) ∧ W.cell? ⟨w2.heap.size, 2, none⟩ = some (.slice A1 m c1)) (HFC.out _ hV) (fun hF11 => ?_); clear hF10)
                try simp only [Act.put, List.setIfInBounds_toArray, List.set_cons_zero, List.set_cons_succ]
                refine wpAnyK_step (i := 10) rfl (by kernel_rfl) (by rfl) (fun K hK => ?_)
                go_simp
                (have f0 := hA.1.frozen 0; have f1 := hA.1.frozen 1; have c0 := hA.1.cell 0; have c1 := hA.1.cell 1; go_simp)
                (refine hK _ _ (Keep2.no (by kernel_rfl) (by kernel_rfl)) ?_; clear hK K)
                try simp only [Act.put, List.setIfInBounds_toArray, List.set_cons_zero, List.set_cons_succ]
                refine wpAnyK_done (by kernel_rfl) ?_ _
                go_wp2_with fail
                go_meet
                first | exact ⟨_, rfl, (Alc.last hV0 _ _).1, (Alc.last hV0 _ _).2⟩ | exact ⟨_, rfl, (hA.store hV _ _).1, (hA.store hV _ _).2⟩
            · refine wpOp_of rfl (by rfl) (fun K hK => ?_)
              go_simp
              (have hA := Alc.new hV; (try simp only [World.size_drew] at hA); have hV0 := hV; replace hV := hV.alloc hV.size (.cells #[.int .i64 0, .int .i64 0] 26))
              (refine hK _ _ ⟨⟨fun _ _ => HFC.out _ hV, fun h => absurd h (by decide)⟩, ?_⟩; clear hK K)
              (refine wpAnyK_with (F := fun W => W.cell? ⟨w2.heap.size, 0, none⟩ = some (.int .i64 (st : Int)) ∧ W.cell? ⟨w2.heap.size, 1, none⟩ = some (.int .i64 gd) ∧ W.cell? ⟨w2.heap.size, 2, none⟩ = some (.slice A1 m c1)) (HFC.out _ hV) (fun hF13 => ?_); clear hF0)
              try simp only [Act.put, List.setIfInBounds_toArray, List.set_cons_zero, List.set_cons_succ]
              refine wpAnyK_step (i := 3) rfl (by kernel_rfl) (by rfl) (fun K hK => ?_)
              go_simp
              (refine (takings_any st gd s b1 m c1 b6 m c6 A1 A6 l1 (l1.map (pushS (-1) true)) _ (S7.out.old hV) (PA.out.old hV) (by simp) (exact_in (push_F2 HI.out.sales (-1) true) HI.out.sales) (by omega)).mono ?_; rw [HT1.out]; rintro e w8 ⟨rfl, hB8⟩; (try replace hA := hA.step hB8); replace hV := hV.trans (hB8.mono hV.size))
              (refine hK _ _ (⟨fun _ _ => HFC.out _ hV, fun h => absurd h (by decide)⟩) ?_; clear hK K)
              (refine wpAnyK_with (F := fun W => W.cell? ⟨w2.heap.size, 0, none⟩ = some (.int .i64 (st : Int)) ∧ W.cell? ⟨w2.heap.size, 1, none⟩ = some (.int .i64 gd) ∧ W.cell? ⟨w2.heap.size, 2, none⟩ = some (.slice A1 m c1)) (HFC.out _ hV) (fun hF14 => ?_); clear hF13)
              try simp only [Act.put, List.setIfInBounds_toArray, List.set_cons_zero, List.set_cons_succ]
              refine wpAnyK_step (i := 7) rfl (by kernel_rfl) (by rfl) (fun K hK => ?_)
              go_simp
              (refine (takings_any st gd s b1 m c1 b7 m c7 A1 A7 l1 (l1.map (pushS (-1) false)) _ (S7.out.old hV) (PB.out.old hV) (by simp) (exact_in (push_F2 HI.out.sales (-1) false) HI.out.sales) (by omega)).mono ?_; rw [HT2.out]; rintro e w9 ⟨rfl, hB9⟩; (try replace hA := hA.step hB9); replace hV := hV.trans (hB9.mono hV.size))
              (refine hK _ _ (⟨fun _ _ => HFC.out _ hV, fun h => absurd h (by decide)⟩) ?_; clear hK K)
              (refine wpAnyK_with (F := fun W => W.cell? ⟨w2.heap.size, 0, none⟩ = some (.int .i64 (st : Int)) ∧ W.cell? ⟨w2.heap.size, 1, none⟩ = some (.int .i64 gd) ∧ W.cell? ⟨w2.heap.size, 2, none⟩ = some (.slice A1 m c1)) (HFC.out _ hV) (fun hF15 => ?_); clear hF14)
              try simp only [Act.put, List.setIfInBounds_toArray, List.set_cons_zero, List.set_cons_succ]
              refine wpAnyK_step (i := 8) rfl (by kernel_rfl) (by rfl) (fun K hK => ?_)
              go_simp
              (refine (span_any x.lo x.hi _).mono ?_; rintro e w10 ⟨rfl, hB10⟩; (try replace hA := hA.step hB10); replace hV := hV.trans (hB10.mono hV.size))
              (refine hK _ _ (⟨fun _ _ => HFC.out _ hV, fun h => absurd h (by decide)⟩) ?_; clear hK K)
              (refine wpAnyK_with (F := fun W => W.cell? ⟨w2.heap.size, 0, none⟩ = some (.int .i64 (st : Int)) ∧ W.cell? ⟨w2.heap.size, 1, none⟩ = some (.int .i64 gd) ∧ W.cell? ⟨w2.heap.size, 2, none⟩ = some (.slice A1 m c1)) (HFC.out _ hV) (fun hF16 => ?_); clear hF15)
              try simp only [Act.put, List.setIfInBounds_toArray, List.set_cons_zero, List.set_cons_succ]
              refine wpAnyK_step (i := 10) rfl (by kernel_rfl) (by rfl) (fun K hK => ?_)
              go_simp
              (have f0 := hA.1.frozen 0; have f1 := hA.1.frozen 1; have c0 := hA.1.cell 0; have c1 := hA.1.cell 1; go_simp)
              (refine hK _ _ (Keep2.no (by kernel_rfl) (by kernel_rfl)) ?_; clear hK K)
              try simp only [Act.put, List.setIfInBounds_toArray, List.set_cons_zero, List.set_cons_succ]
              refine wpAnyK_done (by kernel_rfl) ?_ _
              go_wp2_with fail
              go_meet
              first | exact ⟨_, rfl, (Alc.last hV0 _ _).1, (Alc.last hV0 _ _).2⟩ | exact ⟨_, rfl, (hA.store hV _ _).1, (hA.store hV _ _).2⟩
          case rest =>
            obtain ⟨B, rfl, hA, hV⟩ := hcut
            have HA := Lib.hid hA
            have HVc := Lib.hid hV
            clear hA hV
            have kac := Lib.hid (ka.out.below HVc.out (by have := HKV.out; omega))
            have hq8 := ((Q6.out.old Hb.out).old HVc.out).atR (k := s) (by rw [duesAll_len]; omega)
            rw [duesAll_get, HTX.out, HDS.out] at hq8
            obtain ⟨o8, rfl, hbz8, e0, e1⟩ := hq8
            have e0 : wc.cell? ⟨b4, o8 + s * 2, none⟩ = some (.int .i64 (dues steps x.lo)) := e0
            have e1 : wc.cell? ⟨b4, o8 + s * 2 + 1, none⟩ = some (.int .i64 (dues steps x.hi)) := e1
            have HQ8 := Lib.hid (fun (W : World) (hW : Below wc.heap.size wc W) => (show (W.cell? ⟨wa.heap.size, 0, none⟩ = some (.int .i64 x.lo) ∧ W.cell? ⟨wa.heap.size, 1, none⟩ = some (.int .i64 x.hi)) ∧ (W.cell? ⟨B, 0, none⟩ = some (.int .i64 x.lo) ∧ W.cell? ⟨B, 1, none⟩ = some (.int .i64 x.hi)) ∧ W.cell? ⟨b4, o8 + s * 2, none⟩ = some (.int .i64 (dues steps x.lo)) ∧ W.cell? ⟨b4, o8 + s * 2 + 1, none⟩ = some (.int .i64 (dues steps x.hi)) from
              ⟨⟨(kac.out.below hW kac.out.lt).cell 0, (kac.out.below hW kac.out.lt).cell 1⟩, ⟨(HA.out.step hW).1.cell 0, (HA.out.step hW).1.cell 1⟩, (hW.cell (p := ⟨b4, o8 + s * 2, none⟩) hbz8).trans e0, (hW.cell (p := ⟨b4, o8 + s * 2 + 1, none⟩) hbz8).trans e1⟩))
            have PPc := Lib.hid (((PP.out.old Hb.out).old HVc.out))
            have i0 : (0 : Int) ≤ (s : Int) := by omega
            have i1 : (s : Int) < (st : Int) := by omega
            clear e0 e1
            go_wp2_with fail
            refine wp_region_PL [3, 4, 11, 14, 18] (fun W => (W.cell? ⟨wa.heap.size, 0, none⟩ = some (.int .i64 x.lo) ∧ W.cell? ⟨wa.heap.size, 1, none⟩ = some (.int .i64 x.hi)) ∧ (W.cell? ⟨B, 0, none⟩ = some (.int .i64 x.lo) ∧ W.cell? ⟨B, 1, none⟩ = some (.int .i64 x.hi)) ∧ W.cell? ⟨b4, o8 + s * 2, none⟩ = some (.int .i64 (dues steps x.lo)) ∧ W.cell? ⟨b4, o8 + s * 2 + 1, none⟩ = some (.int .i64 (dues steps x.hi))) rfl (by kernel_rfl) (HQ8.out _ (Below.refl _ wc).drew) (fun hF0 => ?_)
            (refine wpAnyP_takeL (i := 0) (v := ?_) rfl (by kernel_rfl) (by kernel_rfl) (by kernel_rfl) (fun _ _ _ h => h) (by rfl) ?_ ?_; rotate_left 1; focus (intro w; go_simp; try with_reducible rfl))
            try simp only [Act.put, List.setIfInBounds_toArray, List.set_cons_zero, List.set_cons_succ]
            (refine wpAnyP_takeL (i := 1) (v := ?_) rfl (by kernel_rfl) (by kernel_rfl) (by kernel_rfl) (fun _ _ _ h => h) (by rfl) ?_ ?_; rotate_left 1; focus (intro w; go_simp; try with_reducible rfl))
            try simp only [Act.put, List.setIfInBounds_toArray, List.set_cons_zero, List.set_cons_succ]
            (refine wpAnyP_takeL (i := 2) (v := ?_) rfl (by kernel_rfl) (by kernel_rfl) (by kernel_rfl) (fun _ _ _ h => h) (by rfl) ?_ ?_; rotate_left 1; focus (intro w; go_simp; try with_reducible rfl))
            try simp only [Act.put, List.setIfInBounds_toArray, List.set_cons_zero, List.set_cons_succ]
            (refine wpAnyP_loadL (i := 3) (v := ?_) rfl (by kernel_rfl) (by kernel_rfl) (by kernel_rfl) (by rfl) (fun _ _ _ h => h) hF0 (by rfl) ?_ ?_; rotate_left 1; focus (intro w hFw; (try dsimp only at hFw); go_split_ands; go_simp; try with_reducible rfl))
            try simp only [Act.put, List.setIfInBounds_toArray, List.set_cons_zero, List.set_cons_succ]
            (refine wpAnyP_loadL (i := 4) (v := ?_) rfl (by kernel_rfl) (by kernel_rfl) (by kernel_rfl) (by rfl) (fun _ _ _ h => h) hF0 (by rfl) ?_ ?_; rotate_left 1; focus (intro w hFw; (try dsimp only at hFw); go_split_ands; go_simp; try with_reducible rfl))
            try simp only [Act.put, List.setIfInBounds_toArray, List.set_cons_zero, List.set_cons_succ]
            (refine wpAnyP_takeL (i := 5) (v := ?_) rfl (by kernel_rfl) (by kernel_rfl) (by kernel_rfl) (fun _ _ _ h => h) (by rfl) ?_ ?_; rotate_left 1; focus (intro w; go_simp; try with_reducible rfl))
            try simp only [Act.put, List.setIfInBounds_toArray, List.set_cons_zero, List.set_cons_succ]
            (refine wpAnyP_takeL (i := 6) (v := ?_) rfl (by kernel_rfl) (by kernel_rfl) (by kernel_rfl) (fun _ _ _ h => h) (by rfl) ?_ ?_; rotate_left 1; focus (intro w; go_simp; try with_reducible rfl))
            try simp only [Act.put, List.setIfInBounds_toArray, List.set_cons_zero, List.set_cons_succ]
            (refine wpAnyP_takeL (i := 7) (v := ?_) rfl (by kernel_rfl) (by kernel_rfl) (by kernel_rfl) (fun _ _ _ h => h) (by rfl) ?_ ?_; rotate_left 1; focus (intro w; go_simp; try with_reducible rfl))
            try simp only [Act.put, List.setIfInBounds_toArray, List.set_cons_zero, List.set_cons_succ]
            (refine wpAnyP_takeL (i := 8) (v := ?_) rfl (by kernel_rfl) (by kernel_rfl) (by kernel_rfl) (fun _ _ _ h => h) (by rfl) ?_ ?_; rotate_left 1; focus (intro w; go_simp; try with_reducible rfl))
            try simp only [Act.put, List.setIfInBounds_toArray, List.set_cons_zero, List.set_cons_succ]
            (refine wpAnyP_takeL (i := 9) (v := ?_) rfl (by kernel_rfl) (by kernel_rfl) (by kernel_rfl) (fun _ _ _ h => h) (by rfl) ?_ ?_; rotate_left 1; focus (intro w; go_simp; try with_reducible rfl))
            try simp only [Act.put, List.setIfInBounds_toArray, List.set_cons_zero, List.set_cons_succ]
            (refine wpAnyP_takeL (i := 10) (v := ?_) rfl (by kernel_rfl) (by kernel_rfl) (by kernel_rfl) (fun _ _ _ h => h) (by rfl) ?_ ?_; rotate_left 1; focus (intro w; go_simp; try with_reducible rfl))
            try simp only [Act.put, List.setIfInBounds_toArray, List.set_cons_zero, List.set_cons_succ]
            (refine wpAnyP_loadL (i := 11) (v := ?_) rfl (by kernel_rfl) (by kernel_rfl) (by kernel_rfl) (by rfl) (fun _ _ _ h => h) hF0 (by rfl) ?_ ?_; rotate_left 1; focus (intro w hFw; (try dsimp only at hFw); go_split_ands; go_simp; try with_reducible rfl))
            try simp only [Act.put, List.setIfInBounds_toArray, List.set_cons_zero, List.set_cons_succ]
            (refine wpAnyP_takeL (i := 12) (v := ?_) rfl (by kernel_rfl) (by kernel_rfl) (by kernel_rfl) (fun _ _ _ h => h) (by rfl) ?_ ?_; rotate_left 1; focus (intro w; go_simp; try with_reducible rfl))
            try simp only [Act.put, List.setIfInBounds_toArray, List.set_cons_zero, List.set_cons_succ]
            (refine wpAnyP_takeL (i := 13) (v := ?_) rfl (by kernel_rfl) (by kernel_rfl) (by kernel_rfl) (fun _ _ _ h => h) (by rfl) ?_ ?_; rotate_left 1; focus (intro w; go_simp; try with_reducible rfl))
            try simp only [Act.put, List.setIfInBounds_toArray, List.set_cons_zero, List.set_cons_succ]
            (refine wpAnyP_loadL (i := 14) (v := ?_) rfl (by kernel_rfl) (by kernel_rfl) (by kernel_rfl) (by rfl) (fun _ _ _ h => h) hF0 (by rfl) ?_ ?_; rotate_left 1; focus (intro w hFw; (try dsimp only at hFw); go_split_ands; go_simp; try with_reducible rfl))
            try simp only [Act.put, List.setIfInBounds_toArray, List.set_cons_zero, List.set_cons_succ]
            (refine wpAnyP_takeL (i := 16) (v := ?_) rfl (by kernel_rfl) (by kernel_rfl) (by kernel_rfl) (fun _ _ _ h => h) (by rfl) ?_ ?_; rotate_left 1; focus (intro w; go_simp; try with_reducible rfl))
            try simp only [Act.put, List.setIfInBounds_toArray, List.set_cons_zero, List.set_cons_succ]
            (refine wpAnyP_takeL (i := 17) (v := ?_) rfl (by kernel_rfl) (by kernel_rfl) (by kernel_rfl) (fun _ _ _ h => h) (by rfl) ?_ ?_; rotate_left 1; focus (intro w; go_simp; try with_reducible rfl))
            try simp only [Act.put, List.setIfInBounds_toArray, List.set_cons_zero, List.set_cons_succ]
            (refine wpAnyP_loadL (i := 18) (v := ?_) rfl (by kernel_rfl) (by kernel_rfl) (by kernel_rfl) (by rfl) (fun _ _ _ h => h) hF0 (by rfl) ?_ ?_; rotate_left 1; focus (intro w hFw; (try dsimp only at hFw); go_split_ands; go_simp; try with_reducible rfl))
            try simp only [Act.put, List.setIfInBounds_toArray, List.set_cons_zero, List.set_cons_succ]
            refine wpAnyP_step (i := 15) rfl (by kernel_rfl) (by rfl) (fun K hK => ?_)
            go_simp
            (refine (rdue_any b3 m3 c3 A3 steps x.lo _ (PPc.out.old (Below.refl _ wc).drew) HSI.out t3 (by omega)).mono ?_; rintro e wd ⟨rfl, hBd⟩; have Hd := Lib.hid ((Below.refl wc.heap.size wc).drew.trans hBd); clear hBd)
            (refine hK _ _ (HQ8.out _ Hd.out) (fun hF1 => ?_); clear hK K hF0)
            try simp only [Act.put, List.setIfInBounds_toArray, List.set_cons_zero, List.set_cons_succ]
            refine wpAnyP_step (i := 19) rfl (by kernel_rfl) (by rfl) (fun K hK => ?_)
            go_simp
            (refine (rdue_any b3 m3 c3 A3 steps x.hi _ (PPc.out.old Hd.out) HSI.out (by omega) (by omega)).mono ?_; rintro e we ⟨rfl, hBe⟩; have He := Lib.hid (Hd.out.trans (hBe.mono Hd.out.size)); clear hBe)
            (refine hK _ _ (HQ8.out _ He.out) (fun hF2 => ?_); clear hK K hF1)
            try simp only [Act.put, List.setIfInBounds_toArray, List.set_cons_zero, List.set_cons_succ]
            refine wpAnyP_step (i := 20) rfl (by kernel_rfl) (by rfl) (fun K hK => ?_)
            go_simp
            (refine (span_any _ _ _).mono ?_; rintro e wf ⟨rfl, hBf⟩; have Hf := Lib.hid (He.out.trans (hBf.mono He.out.size)); clear hBf)
            (refine hK _ _ (HQ8.out _ Hf.out) (fun hF3 => ?_); clear hK K hF2)
            try simp only [Act.put, List.setIfInBounds_toArray, List.set_cons_zero, List.set_cons_succ]
            (refine wpAnyP_takeL (i := 21) (v := ?_) rfl (by kernel_rfl) (by kernel_rfl) (by kernel_rfl) (fun _ _ _ h => h) (by rfl) ?_ ?_; rotate_left 1; focus (intro w; go_simp; try with_reducible rfl))
            try simp only [Act.put, List.setIfInBounds_toArray, List.set_cons_zero, List.set_cons_succ]
            (refine wpAnyP_takeL (i := 22) (v := ?_) rfl (by kernel_rfl) (by kernel_rfl) (by kernel_rfl) (fun _ _ _ h => h) (by rfl) ?_ ?_; rotate_left 1; focus (intro w; go_simp; try with_reducible rfl))
            try simp only [Act.put, List.setIfInBounds_toArray, List.set_cons_zero, List.set_cons_succ]
            refine wpAnyP_done (by kernel_rfl) ?_ _
            go_wp2_with fail
            go_roundw
            case rel => exact ⟨s + 1, by omega, by go_num, (Hb.out.trans (HVc.out.mono Hb.out.size)).trans (Hf.out.mono (by have := Hb.out.size; have := HVc.out.size; omega))⟩
            case measure => simp [intOf]; omega
        · have HSD := Lib.hid (show s = st by omega)
          go_wp2_with fail
          refine (awake_any _).mono ?_
          rintro e w9 ⟨rfl, hB9⟩
          have L9 := Lib.hid (Below.step hB9 (Below.step HB.out L6.out (Nat.le_refl _)) (Nat.le_refl _))
          clear hB9
          go_wp2_with fail
          go_ret
          exact ⟨rfl, L9.out⟩
end Go.Proofs.Ytkcdknjgjidnnaa
