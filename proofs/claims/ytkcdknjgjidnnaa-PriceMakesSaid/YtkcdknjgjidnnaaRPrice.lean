/-
  The day's price, of the reference.
-/
import Derived.Test.YtkcdknjgjidnnaaRLow
import Derived.Test.YtkcdknjgjidnnaaRChk
import Derived.Deep.QuietTactic
import Derived.BigQuiet
set_option linter.unusedVariables false
set_option linter.unusedSimpArgs false
namespace Go.Proofs.Ytkcdknjgjidnnaa
open Go.RowKit

structure RP (w : World) (st gd : Int) (A : Option Addr) (n c : Nat) (wr : World) : Prop where
  low : Below w.heap.size w wr
  bk : Blk wr w.heap.size 24 #[.int .i64 st, .int .i64 gd, .slice A n c]
  sp : Blk wr (w.heap.size + 1) 26 #[.int .i64 0, .int .i64 0]
theorem RP.alloc {w wr : World} {st gd : Int} {A : Option Addr} {n c : Nat} (h : RP w st gd A n c wr) (o : Obj) : RP w st gd A n c (wr.alloc o) := ⟨h.low.alloc h.low.size _, h.bk.alloc _, h.sp.alloc _⟩
theorem RP.below {w wr w1 : World} {st gd : Int} {A : Option Addr} {n c : Nat} (h : RP w st gd A n c wr) (hb : Below wr.heap.size wr w1) : RP w st gd A n c w1 := ⟨Below.step hb h.low (Nat.le_refl _), h.bk.below hb h.bk.lt, h.sp.below hb h.sp.lt⟩
theorem RP.drewN {w wr : World} {st gd : Int} {A : Option Addr} {n c : Nat} (h : RP w st gd A n c wr) (m : Nat) : RP w st gd A n c (wr.drewN m) := ⟨below_drewN h.low _, h.bk, h.sp⟩
theorem RP.set {w wr : World} {st gd : Int} {A : Option Addr} {n c : Nat} (h : RP w st gd A n c wr) {p : Addr} (hp : w.heap.size + 1 < p.block) (v : Value) : RP w st gd A n c (wr.setCell p v) :=
  ⟨h.low.setCell (by omega) _, h.bk.far (by omega) _, h.sp.far (by omega) _⟩
/-- and the span that is sought -/
structure RPQ (w : World) (st gd : Int) (A : Option Addr) (n c q : Nat) (lo hi : Int) (wr : World) : Prop where
  rp : RP w st gd A n c wr
  ou : Blk wr q 26 #[.int .i64 lo, .int .i64 hi]
  lt : w.heap.size + 1 < q
theorem RPQ.alloc {w wr : World} {st gd : Int} {A : Option Addr} {n c q : Nat} {lo hi : Int} (h : RPQ w st gd A n c q lo hi wr) (o : Obj) : RPQ w st gd A n c q lo hi (wr.alloc o) := ⟨h.rp.alloc _, h.ou.alloc _, h.lt⟩
theorem RPQ.below {w wr w1 : World} {st gd : Int} {A : Option Addr} {n c q : Nat} {lo hi : Int} (h : RPQ w st gd A n c q lo hi wr) (hb : Below wr.heap.size wr w1) : RPQ w st gd A n c q lo hi w1 := ⟨h.rp.below hb, h.ou.below hb h.ou.lt, h.lt⟩
theorem RPQ.setLo {w wr : World} {st gd : Int} {A : Option Addr} {n c q : Nat} {lo hi : Int} (h : RPQ w st gd A n c q lo hi wr) (v : Int) : RPQ w st gd A n c q v hi (wr.setCell ⟨q, 0, none⟩ (.int .i64 v)) := ⟨h.rp.set h.lt _, h.ou.set_ 0 _, h.lt⟩
theorem RPQ.setHi {w wr : World} {st gd : Int} {A : Option Addr} {n c q : Nat} {lo hi : Int} (h : RPQ w st gd A n c q lo hi wr) (v : Int) : RPQ w st gd A n c q lo v (wr.setCell ⟨q, 1, none⟩ (.int .i64 v)) := ⟨h.rp.set h.lt _, h.ou.set_ 1 _, h.lt⟩

set_option maxRecDepth 100000 in
set_option maxHeartbeats 1000000 in
theorem rprice_main (st gd good : Int) (b n c : Nat) (A : Option Addr) (l : List Sale) (w : World) (hl : Sl encS 6 w b A n l) (hn : n ≤ 1000000000000) (hc0 : check st gd l = 0) (hg : inB good 0 (gd - 1) = true) :
    Calls Try.prog 21 #[.agg #[.int .i64 st, .int .i64 gd, .slice A n c], .int .i64 good] w (PricePost (refMid (ofGood good l)) 0 w) := by
  have HIN := Lib.hid (check_zero.1 hc0)
  have HG := Lib.hid hg
  have HC := Lib.hid hc0
  have HA := Lib.hid hl.len
  have HL := Lib.hid hl
  have hn40 : n ≤ 40 := by have := HIN.out.len; have := hl.len; omega
  have hgd1 : 1 ≤ gd := HIN.out.gd0
  have hgd2 : gd ≤ 8 := HIN.out.gd1
  have HGI := Lib.hid (HIN.out.good good)
  have hR0 : RP w st gd A n c ((w.alloc (.cells #[.int .i64 st, .int .i64 gd, .slice A n c] 24)).alloc (.cells #[.int .i64 0, .int .i64 0] 26)) := by
    refine ⟨by go_grown, (Blk.new w 24 _).alloc _, ?_⟩
    have := Blk.new (w.alloc (.cells #[.int .i64 st, .int .i64 gd, .slice A n c] 24)) 26 #[.int .i64 0, .int .i64 0]
    simpa only [World.size_alloc] using this
  have HR0 := Lib.hid hR0
  clear hl hc0 hg hR0
  go_enter Try.func21, Try.ntmps21
  go_wp2_with fail
  refine (rcheck_any st gd b n c A l _ (HL.out.old HR0.out.low) hn).mono ?_
  rintro e w1 ⟨rfl, hb1⟩
  rw [HC.out]
  have HR1 := Lib.hid (HR0.out.below hb1)
  have k1 := HR1.out.bk.cell 1
  clear hb1
  go_wp2_with fail
  refine (within_any _ _ _ _).mono ?_
  rintro e w2 ⟨rfl, rfl⟩
  rw [HG.out]
  clear k1
  go_wp2_with fail
  go_loopw [8, 9, 10] (fun u v i wr => ∃ k : Nat, k ≤ n ∧ i = .int .i64 k ∧ u = .int .i64 (wsum allQ (·.gl) (ofGood good (l.take k))) ∧ v = .int .i64 (wsum allQ (·.gh) (ofGood good (l.take k))) ∧ RP w st gd A n c wr) (fun _ _ i _ => n - (intOf i).toNat)
  case atStart => exact ⟨0, by omega, rfl, rfl, rfl, HR1.out⟩
  case round =>
    obtain ⟨k, hk, rfl, rfl, rfl, hO⟩ := hrel
    have HO := Lib.hid hO
    have c2' := hO.bk.cell 2
    have hz := hO.bk.lt
    clear hO
    by_cases hlt : k < n
    · have hk1 : k < l.length := by have := HA.out; omega
      obtain ⟨o, rfl, hbz, s0, s1, s2, s3, s4, s5⟩ := (HL.out.old HO.out.low).atS hk1
      have HQ := Lib.hid (ofGood_snoc good l k hk1)
      have hsal := HIN.out.sales _ (List.getElem_mem hk1)
      have u1 := wsum_bd (q := allQ) (f := (·.gl)) (l := ofGood good (l.take k)) (m := 100000) (fun s hs => by
        have h := HIN.out.sales s (List.mem_of_mem_take (ofGood_sub good _ s hs).1)
        have := h.gl0; have := h.gl1; have := h.gh1
        omega) (by omega)
      have u2 := wsum_bd (q := allQ) (f := (·.gh)) (l := ofGood good (l.take k)) (m := 100000) (fun s hs => by
        have h := HIN.out.sales s (List.mem_of_mem_take (ofGood_sub good _ s hs).1)
        have := h.gl0; have := h.gl1; have := h.gh1
        omega) (by omega)
      have u3 : ((ofGood good (l.take k)).length : Int) ≤ 40 := by have := ofGood_le good (l.take k); simp at this; omega
      obtain ⟨u4, u5⟩ := u1
      obtain ⟨u6, u7⟩ := u2
      have u8 : wsum allQ (·.gl) (ofGood good (l.take k)) ≤ 4000000 := by omega
      have u9 : wsum allQ (·.gh) (ofGood good (l.take k)) ≤ 4000000 := by omega
      have g0 := hsal.gl0
      have g1 := hsal.gl1
      have g2 := hsal.gh1
      clear u3 u5 u7 hsal
      generalize hu : wsum allQ (·.gl) (ofGood good (l.take k)) = u at u4 u8 ⊢
      generalize hv : wsum allQ (·.gh) (ofGood good (l.take k)) = v at u6 u9 ⊢
      have HU := Lib.hid hu
      have HV := Lib.hid hv
      clear hu hv
      generalize l[k] = y at s0 s1 s2 s3 s4 s5 HQ g0 g1 g2
      have e0 : (0 : Int) ≤ (k : Int) := by omega
      have e1 : (k : Int) < (n : Int) := by omega
      by_cases hs : y.gd = good
      · have hsb : (y.gd == good) = true := by simpa using hs
        have HQ2 := Lib.hid (show ofGood good (l.take (k + 1)) = ofGood good (l.take k) ++ [y] by rw [HQ.out, if_pos hs])
        clear hs
        have HU2 := Lib.hid (show wsum allQ (·.gl) (ofGood good (l.take (k + 1))) = u + y.gl by rw [HQ2.out, wsum_snoc, HU.out, if_pos (show allQ y = true from rfl)])
        have HV2 := Lib.hid (show wsum allQ (·.gh) (ofGood good (l.take (k + 1))) = v + y.gh by rw [HQ2.out, wsum_snoc, HV.out, if_pos (show allQ y = true from rfl)])
        go_wp2_with fail
        go_quiet (fail)
        go_wp2_with fail
        go_roundw
        case rel => exact ⟨k + 1, by omega, by go_num, by rw [HU2.out], by rw [HV2.out], HO.out.drewN _⟩
        case measure => simp [intOf]; omega
      · have hsb : (y.gd == good) = false := by simpa using hs
        have HS := Lib.hid hs
        clear hs
        go_wp2_with fail
        go_roundw
        case rel => exact ⟨k + 1, by omega, by go_num, by rw [HQ.out, if_neg HS.out, HU.out], by rw [HQ.out, if_neg HS.out, HV.out], HO.out⟩
        case measure => simp [intOf]; omega
    · have HK := Lib.hid (show n ≤ k by omega)
      have HTK := Lib.hid (show l.take k = l from List.take_of_length_le (by have := HA.out; omega))
      rw [HTK.out]
      generalize hgg : ofGood good l = g
      have HGG := Lib.hid hgg
      have HPM0 := Lib.hid (show refMid g = if wsum allQ (·.gh) g = 0 then (2, 0, 0) else (if 0 < wsum allQ (·.gl) g then 1 else 3, minBy (fun s => lowQ g s.cl) (·.cl) 100000 g, minBy (fun s => !highQ g s.ch) (·.ch) 100000 g) from rfl)
      generalize hu : wsum allQ (·.gl) g = u at HPM0
      generalize hv : wsum allQ (·.gh) g = v at HPM0
      clear hu hv hgg
      by_cases hz0 : v = 0
      · subst hz0
        have HPM := Lib.hid (show refMid g = (2, 0, 0) by rw [HPM0.out, if_pos rfl])
        have HS := Lib.hid HO.out.sp
        have f0 := HS.out.frozen 0
        have f1 := HS.out.frozen 1
        have e0 := HS.out.cell 0
        have e1 := HS.out.cell 1
        go_wp2_with fail
        have hX9 := (HS.out.set_ 0 (.int .i64 0)).set_ 1 (.int .i64 0)
        have hL9 := (HO.out.low.setCell (p := ⟨w.heap.size + 1, 0, none⟩) (by show w.heap.size ≤ w.heap.size + 1; omega) (.int .i64 0)).setCell (p := ⟨w.heap.size + 1, 1, none⟩) (by show w.heap.size ≤ w.heap.size + 1; omega) (.int .i64 0)
        have d0 := hX9.cell 0
        have d1 := hX9.cell 1
        refine bodyPost_ret (v := .tuple #[.int .i64 2, .agg #[.int .i64 0, .int .i64 0], .int .i64 0]) (by simp [results, Try.f21, go_sem, d0, d1]) rfl ?_
        rw [HGG.out, HPM.out]
        exact ⟨rfl, hL9⟩
      · have HPM := Lib.hid (show refMid g = (if 0 < u then 1 else 3, minBy (fun s => lowQ g s.cl) (·.cl) 100000 g, minBy (fun s => !highQ g s.ch) (·.ch) 100000 g) by rw [HPM0.out, if_neg hz0])
        have hzb : (v == 0) = false := by simpa using hz0
        clear hz0 HPM0
        have hz1 := HO.out.sp.lt
        have hQ0 : RPQ w st gd A n c wr.heap.size 100000 100000 (wr.alloc (.cells #[.int .i64 100000, .int .i64 100000] 26)) := ⟨HO.out.alloc _, Blk.new _ _ _, hz1⟩
        have HQ0 := Lib.hid hQ0
        clear hQ0
        go_wp2_with fail
        clear c2'
        obtain ⟨wo, rfl⟩ : ∃ wo : World, wo = wr := ⟨_, rfl⟩
        go_loopw [12] (fun i wr => ∃ j : Nat, j ≤ n ∧ i = .int .i64 j ∧ RPQ w st gd A n c wo.heap.size (minBy (fun s => lowQ g s.cl) (·.cl) 100000 (ofGood good (l.take j))) (minBy (fun s => !highQ g s.ch) (·.ch) 100000 (ofGood good (l.take j))) wr) (fun i _ => n - (intOf i).toNat)
        case atStart => exact ⟨0, by omega, rfl, HQ0.out⟩
        case round =>
          obtain ⟨j, hj, rfl, hO2⟩ := hrel
          generalize hlo : minBy (fun s => lowQ g s.cl) (·.cl) 100000 (ofGood good (l.take j)) = lo at hO2
          generalize hhi : minBy (fun s => !highQ g s.ch) (·.ch) 100000 (ofGood good (l.take j)) = hi at hO2
          have HLO := Lib.hid hlo
          have HHI := Lib.hid hhi
          clear hlo hhi
          have HO2 := Lib.hid hO2
          have c0' := hO2.rp.bk.cell 0
          have c1' := hO2.rp.bk.cell 1
          have c2' := hO2.rp.bk.cell 2
          have hbz1 := hO2.rp.bk.lt
          clear hO2
          by_cases hlt2 : j < n
          · have hj1 : j < l.length := by have := HA.out; omega
            obtain ⟨o, rfl, hbz, s0, s1, s2, s3, s4, s5⟩ := (HL.out.old HO2.out.rp.low).atS hj1
            have HQ := Lib.hid (ofGood_snoc good l j hj1)
            generalize l[j] = y at s0 s1 s2 s3 s4 s5 HQ
            have e0 : (0 : Int) ≤ (j : Int) := by omega
            have e1 : (j : Int) < (n : Int) := by omega
            have HBX := Lib.hid (Blk.new wr 28 #[.int .i64 y.st, .int .i64 y.gd, .int .i64 y.gl, .int .i64 y.gh, .int .i64 y.cl, .int .i64 y.ch])
            have HO3 := Lib.hid (HO2.out.alloc (.cells #[.int .i64 y.st, .int .i64 y.gd, .int .i64 y.gl, .int .i64 y.gh, .int .i64 y.cl, .int .i64 y.ch] 28))
            by_cases hs : y.gd = good
            · have hsb : (y.gd == good) = true := by simpa using hs
              have HQ2 := Lib.hid (show ofGood good (l.take (j + 1)) = ofGood good (l.take j) ++ [y] by rw [HQ.out, if_pos hs])
              have HLO2 := Lib.hid (show minBy (fun s => lowQ g s.cl) (·.cl) 100000 (ofGood good (l.take (j + 1))) = if lowQ g y.cl = true then min lo y.cl else lo by rw [HQ2.out, minBy_snoc, HLO.out])
              have HHI2 := Lib.hid (show minBy (fun s => !highQ g s.ch) (·.ch) 100000 (ofGood good (l.take (j + 1))) = if (!highQ g y.ch) = true then min hi y.ch else hi by rw [HQ2.out, minBy_snoc, HHI.out])
              clear hs
              go_wp2_with fail
              refine (rlow_any st gd good y.cl b n c _ l _ (HL.out.old HO3.out.rp.low) HIN.out).mono ?_
              rw [HGG.out]
              rintro e w3 ⟨rfl, hb3⟩
              have HO4 := Lib.hid (HO3.out.below hb3)
              have HB4 := Lib.hid (HBX.out.below hb3 (by simp))
              have hsz4 : wr.heap.size < w3.heap.size := HB4.out.lt
              clear hb3 s0 s1 s2 s3 s4 s5 c0' c1' c2'
              have b1 := HB4.out.cell 1
              have b4 := HB4.out.cell 4
              have b5 := HB4.out.cell 5
              have c0' := HO4.out.rp.bk.cell 0
              have c1' := HO4.out.rp.bk.cell 1
              have c2' := HO4.out.rp.bk.cell 2
              cases hq1 : lowQ g y.cl
              · have HLO3 := Lib.hid (show minBy (fun s => lowQ g s.cl) (·.cl) 100000 (ofGood good (l.take (j + 1))) = lo by rw [HLO2.out, if_neg (by simp [hq1])])
                clear hq1
                go_wp2_with fail
                refine (rhigh_any st gd good y.ch b n c _ l _ (HL.out.old HO4.out.rp.low) HIN.out).mono ?_
                rw [HGG.out]
                rintro e w4 ⟨rfl, hb4⟩
                have HO6 := Lib.hid (HO4.out.below hb4)
                have HB6 := Lib.hid (HB4.out.below hb4 HB4.out.lt)
                clear hb4
                cases hq2 : highQ g y.ch
                · have HHI3 := Lib.hid (show minBy (fun s => !highQ g s.ch) (·.ch) 100000 (ofGood good (l.take (j + 1))) = min hi y.ch by rw [HHI2.out, if_pos (by simp [hq2])])
                  clear hq2
                  have b5'' := HB6.out.cell 5
                  have r0 := HO6.out.ou.cell 0
                  have r1 := HO6.out.ou.cell 1
                  have rf := HO6.out.ou.frozen 1
                  have HO7 := Lib.hid (HO6.out.setHi (min hi y.ch))
                  go_wp2_with fail
                  go_roundw
                  case rel => exact ⟨j + 1, by omega, by go_num, by rw [HLO3.out, HHI3.out]; exact HO7.out⟩
                  case measure => simp [intOf]; omega
                · have HHI3 := Lib.hid (show minBy (fun s => !highQ g s.ch) (·.ch) 100000 (ofGood good (l.take (j + 1))) = hi by rw [HHI2.out, if_neg (by simp [hq2])])
                  clear hq2
                  go_wp2_with fail
                  go_roundw
                  case rel => exact ⟨j + 1, by omega, by go_num, by rw [HLO3.out, HHI3.out]; exact HO6.out⟩
                  case measure => simp [intOf]; omega
              · have HLO3 := Lib.hid (show minBy (fun s => lowQ g s.cl) (·.cl) 100000 (ofGood good (l.take (j + 1))) = min lo y.cl by rw [HLO2.out, if_pos hq1])
                clear hq1
                have q0 := HO4.out.ou.cell 0
                have q1 := HO4.out.ou.cell 1
                have qf := HO4.out.ou.frozen 0
                have hlt5 := HO4.out.lt
                have hneq : wr.heap.size ≠ wo.heap.size := by have := HO2.out.ou.lt; omega
                have HO5 := Lib.hid (HO4.out.setLo (min lo y.cl))
                have HB5 := Lib.hid (HB4.out.far (p := ⟨wo.heap.size, 0, none⟩) hneq (.int .i64 (min lo y.cl)))
                have b1' := HB5.out.cell 1
                have b5' := HB5.out.cell 5
                have c0'' := HO5.out.rp.bk.cell 0
                have c1'' := HO5.out.rp.bk.cell 1
                have c2'' := HO5.out.rp.bk.cell 2
                go_wp2_with fail
                refine (rhigh_any st gd good y.ch b n c _ l _ (HL.out.old HO5.out.rp.low) HIN.out).mono ?_
                rw [HGG.out]
                rintro e w4 ⟨rfl, hb4⟩
                have HO6 := Lib.hid (HO5.out.below hb4)
                have HB6 := Lib.hid (HB5.out.below hb4 HB5.out.lt)
                clear hb4
                cases hq2 : highQ g y.ch
                · have HHI3 := Lib.hid (show minBy (fun s => !highQ g s.ch) (·.ch) 100000 (ofGood good (l.take (j + 1))) = min hi y.ch by rw [HHI2.out, if_pos (by simp [hq2])])
                  clear hq2
                  have b5'' := HB6.out.cell 5
                  have r0 := HO6.out.ou.cell 0
                  have r1 := HO6.out.ou.cell 1
                  have rf := HO6.out.ou.frozen 1
                  have HO7 := Lib.hid (HO6.out.setHi (min hi y.ch))
                  go_wp2_with fail
                  go_roundw
                  case rel => exact ⟨j + 1, by omega, by go_num, by rw [HLO3.out, HHI3.out]; exact HO7.out⟩
                  case measure => simp [intOf]; omega
                · have HHI3 := Lib.hid (show minBy (fun s => !highQ g s.ch) (·.ch) 100000 (ofGood good (l.take (j + 1))) = hi by rw [HHI2.out, if_neg (by simp [hq2])])
                  clear hq2
                  go_wp2_with fail
                  go_roundw
                  case rel => exact ⟨j + 1, by omega, by go_num, by rw [HLO3.out, HHI3.out]; exact HO6.out⟩
                  case measure => simp [intOf]; omega
            · have hsb : (y.gd == good) = false := by simpa using hs
              have HS := Lib.hid hs
              clear hs
              go_wp2_with fail
              go_roundw
              case rel => exact ⟨j + 1, by omega, by go_num, by rw [HQ.out, if_neg HS.out, HLO.out, HHI.out]; exact HO3.out⟩
              case measure => simp [intOf]; omega
          · have HK2 := Lib.hid (show n ≤ j by omega)
            have HTK2 := Lib.hid (show l.take j = l from List.take_of_length_le (by have := HA.out; omega))
            rw [HTK2.out, HGG.out] at HLO HHI
            rw [HLO.out, HHI.out] at HPM
            have HSp := Lib.hid HO2.out.rp.sp
            have HOu := Lib.hid HO2.out.ou
            have HLow := Lib.hid HO2.out.rp.low
            by_cases hp : 0 < u
            · have HPM1 := Lib.hid (show refMid g = (1, lo, hi) by rw [HPM.out, if_pos hp])
              go_wp2_with fail
              refine wp_region_PL [0] (fun w' => w'.cell? ⟨wo.heap.size, 0, none⟩ = some (.int .i64 lo) ∧ w'.cell? ⟨wo.heap.size, 1, none⟩ = some (.int .i64 hi)) rfl (by kernel_rfl) (⟨HOu.out.drew.cell 0, HOu.out.drew.cell 1⟩) (fun hF0 => ?_)
              (refine wpAnyP_loadL (i := 0) (v := ?_) rfl (by kernel_rfl) (by kernel_rfl) (by kernel_rfl) (by rfl) (fun _ _ _ h => h) hF0 (by rfl) ?_ ?_; rotate_left 1; focus (intro w hFw; (try dsimp only at hFw); go_split_ands; go_simp; try with_reducible rfl))
              try simp only [Act.put, List.setIfInBounds_toArray, List.set_cons_zero, List.set_cons_succ]
              (refine wpAnyP_takeL (i := 1) (v := ?_) rfl (by kernel_rfl) (by kernel_rfl) (by kernel_rfl) (fun _ _ _ h => h) (by rfl) ?_ ?_; rotate_left 1; focus (intro w; go_simp; try with_reducible rfl))
              try simp only [Act.put, List.setIfInBounds_toArray, List.set_cons_zero, List.set_cons_succ]
              refine wpAnyP_last (i := 2) rfl (by kernel_rfl) (by kernel_rfl) (by rfl) (fun K hK => ?_)
              go_simp
              (have f0 := HSp.out.frozen 0; have f1 := HSp.out.frozen 1; have e0 := HSp.out.cell 0; have e1 := HSp.out.cell 1; go_simp; clear f0 f1 e0 e1)
              (refine hK _ _ ?_; clear hK K)
              try simp only [Act.put, List.setIfInBounds_toArray, List.set_cons_zero, List.set_cons_succ]
              (refine wpAnyP_takeL (i := 3) (v := ?_) rfl (by kernel_rfl) (by kernel_rfl) (by kernel_rfl) (fun _ _ _ h => h) (by rfl) ?_ ?_; rotate_left 1; focus (intro w; go_simp; try with_reducible rfl))
              try simp only [Act.put, List.setIfInBounds_toArray, List.set_cons_zero, List.set_cons_succ]
              refine wpAnyP_done (by kernel_rfl) ?_ _
              go_wp2_with fail
              have hX9 := ((HSp.out.set_ 0 (.int .i64 lo)).set_ 1 (.int .i64 hi)).drew
              have hL9 := ((HLow.out.setCell (p := ⟨w.heap.size + 1, 0, none⟩) (by show w.heap.size ≤ w.heap.size + 1; omega) (.int .i64 lo)).setCell (p := ⟨w.heap.size + 1, 1, none⟩) (by show w.heap.size ≤ w.heap.size + 1; omega) (.int .i64 hi)).drew
              have d0 := hX9.cell 0
              have d1 := hX9.cell 1
              refine bodyPost_ret (v := .tuple #[.int .i64 1, .agg #[.int .i64 lo, .int .i64 hi], .int .i64 0]) (by simp [results, Try.f21, go_sem, d0, d1]) rfl ?_
              rw [HGG.out, HPM1.out]
              exact ⟨rfl, hL9⟩
            · have HPM1 := Lib.hid (show refMid g = (3, lo, hi) by rw [HPM.out, if_neg hp])
              have hp' : u ≤ 0 := by omega
              go_wp2_with fail
              refine wp_region_PL [0] (fun w' => w'.cell? ⟨wo.heap.size, 0, none⟩ = some (.int .i64 lo) ∧ w'.cell? ⟨wo.heap.size, 1, none⟩ = some (.int .i64 hi)) rfl (by kernel_rfl) (⟨HOu.out.drew.cell 0, HOu.out.drew.cell 1⟩) (fun hF0 => ?_)
              (refine wpAnyP_loadL (i := 0) (v := ?_) rfl (by kernel_rfl) (by kernel_rfl) (by kernel_rfl) (by rfl) (fun _ _ _ h => h) hF0 (by rfl) ?_ ?_; rotate_left 1; focus (intro w hFw; (try dsimp only at hFw); go_split_ands; go_simp; try with_reducible rfl))
              try simp only [Act.put, List.setIfInBounds_toArray, List.set_cons_zero, List.set_cons_succ]
              (refine wpAnyP_takeL (i := 1) (v := ?_) rfl (by kernel_rfl) (by kernel_rfl) (by kernel_rfl) (fun _ _ _ h => h) (by rfl) ?_ ?_; rotate_left 1; focus (intro w; go_simp; try with_reducible rfl))
              try simp only [Act.put, List.setIfInBounds_toArray, List.set_cons_zero, List.set_cons_succ]
              refine wpAnyP_last (i := 2) rfl (by kernel_rfl) (by kernel_rfl) (by rfl) (fun K hK => ?_)
              go_simp
              (have f0 := HSp.out.frozen 0; have f1 := HSp.out.frozen 1; have e0 := HSp.out.cell 0; have e1 := HSp.out.cell 1; go_simp; clear f0 f1 e0 e1)
              (refine hK _ _ ?_; clear hK K)
              try simp only [Act.put, List.setIfInBounds_toArray, List.set_cons_zero, List.set_cons_succ]
              (refine wpAnyP_takeL (i := 3) (v := ?_) rfl (by kernel_rfl) (by kernel_rfl) (by kernel_rfl) (fun _ _ _ h => h) (by rfl) ?_ ?_; rotate_left 1; focus (intro w; go_simp; try with_reducible rfl))
              try simp only [Act.put, List.setIfInBounds_toArray, List.set_cons_zero, List.set_cons_succ]
              refine wpAnyP_done (by kernel_rfl) ?_ _
              go_wp2_with fail
              have hX9 := ((HSp.out.set_ 0 (.int .i64 lo)).set_ 1 (.int .i64 hi)).drew
              have hL9 := ((HLow.out.setCell (p := ⟨w.heap.size + 1, 0, none⟩) (by show w.heap.size ≤ w.heap.size + 1; omega) (.int .i64 lo)).setCell (p := ⟨w.heap.size + 1, 1, none⟩) (by show w.heap.size ≤ w.heap.size + 1; omega) (.int .i64 hi)).drew
              have d0 := hX9.cell 0
              have d1 := hX9.cell 1
              refine bodyPost_ret (v := .tuple #[.int .i64 3, .agg #[.int .i64 lo, .int .i64 hi], .int .i64 0]) (by simp [results, Try.f21, go_sem, d0, d1]) rfl ?_
              rw [HGG.out, HPM1.out]
              exact ⟨rfl, hL9⟩
end Go.Proofs.Ytkcdknjgjidnnaa
