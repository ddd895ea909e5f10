/-
  The walk of the law TraceParts.
-/
import Derived.Test.YtkphgdkjjklajaaTrLaw
import Derived.Deep.QuietTactic
import Derived.Deep.CutRange
import Derived.BigQuiet
set_option linter.unusedVariables false
set_option linter.unusedSimpArgs false
namespace Go.Proofs.Ytkphgdkjjklajaa
open Go.RowKit Go.Shelf Go.Sort

theorem parts_may {bs : List Int} {ms : List Mv} {l : List Int} (hl : OrgIn bs.length l) (b : Int) : (mayT bs l ms b).hi + (mayT bs (othersT bs.length l) ms b).lo = hasAt (bsF bs) ms b ∧ (mayT bs l ms b).lo + (mayT bs (othersT bs.length l) ms b).hi = hasAt (bsF bs) ms b := by
  unfold mayT
  simp only
  rw [others_others hl]
  omega
theorem parts_take {bs : List Int} {pre : List Mv} {m : Mv} {l : List Int} (hl : OrgIn bs.length l) : (takeT bs l pre m).hi + (takeT bs (othersT bs.length l) pre m).lo = m.g ∧ (takeT bs l pre m).lo + (takeT bs (othersT bs.length l) pre m).hi = m.g := by
  unfold takeT
  simp only
  rw [others_others hl]
  omega

set_option maxRecDepth 100000 in
set_option maxHeartbeats 2000000 in
theorem traceParts_any (A : Option Addr) (n c : Nat) (w : World) (hN : Nums w A n) : Calls Try.prog 11 #[.slice A n c] w fun e w' => e = .returned (.bool true) ∧ Below w.heap.size w w' := by
  go_enter Try.func11, Try.ntmps11
  obtain ⟨b, l0, hl0, hw0, hn0⟩ := hN
  go_wp2_with fail
  refine (dieOf_any b n c A l0 _ hl0 hn0 hw0).mono ?_
  rintro e w1 ⟨d, hd, rfl, hdie, hB1⟩
  have HB1 := Lib.hid hB1
  have hz1 := hB1.size
  clear hl0 hw0 hB1
  go_wp2_with fail
  refine (one_any d _ 3 3 _ [5, 60, 100000] _ (hdie.alloc _) (Sl.newI w1 [5, 60, 100000] 3) (by omega) (by omega) (by have := hdie.lt; omega)).mono ?_
  rintro e w2 ⟨g, hg, rfl, hd2, hg2⟩
  have hgb : 0 ≤ g ∧ g ≤ 1000000 := by simp at hg; omega
  have HG2 := Lib.hid (only_step hg2 (only_alloc (only_refl w1 d) _) (.inl rfl))
  clear hg hg2
  go_wp2_with fail
  refine (netOf_any d 6 9 g _ hd2 (by omega) (by omega) (by omega) hgb.1 hgb.2).mono ?_
  rintro e w3 ⟨bs, ms, b1, b2, Ab, Am, nb, cb, nm, cm, hNI, hnb, hnm, rfl, hNM, hb1, hb2, hd3, hg3⟩
  have hz2 := HG2.out.size
  have hg13 := only_trans HG2.out hg3
  have hz3 := hg3.size
  have hdz2 := hd2.lt
  have HB3 := Lib.hid (Below.stepG hg13 HB1.out (Nat.le_refl _) hd)
  have HS3 := Lib.hid (show LawSt w (w3.alloc (.cells #[.slice Ab nb cb, .slice Am nm cm] 25)) d w3.heap.size b1 b2 Ab Am nb cb nm cm bs ms from ⟨HB3.out.alloc HB3.out.size _, Blk.new w3 _ _, hNM.old ((Below.refl _ w3).alloc (Nat.le_refl _) _), hNI, hd3.alloc _, by omega, by omega, by omega, hd⟩)
  have hnb8 : nb ≤ 8 := by omega
  have hnm12 : nm ≤ 12 := by omega
  have HNB := Lib.hid HS3.out.nb_eq
  have HNMq := Lib.hid HS3.out.nm_eq
  clear hd2 hNM hNI hd3 hg3 hg13 hb1 hb2
  have c0 := HS3.out.blk.cell 0
  have c1 := HS3.out.blk.cell 1
  go_wp2_with fail
  refine (originsOf_any d nb cb nm cm Ab Am _ HS3.out.die (by omega)).mono ?_
  rintro e w4 ⟨l, Ao, co, hl, rfl, hol, hd4, hg4⟩
  rw [HNB.out] at hl
  obtain ⟨b3, hb3, hsl⟩ := Sl.of_own (enc := encI) encI_len rfl hol
  have hl8 : l.length ≤ 8 := by have := orig_len hl.nodup hl.rg HS3.out.ni.n1; omega
  have HS4 := Lib.hid (HS3.out.dieTo hd4 hg4)
  have HSL := Lib.hid hsl
  have HL := Lib.hid hl
  clear c0 c1
  have c0 := HS4.out.blk.cell 0
  have c1 := HS4.out.blk.cell 1
  clear hol hd4 hg4 hsl hl
  go_wp2_with fail
  refine (rothers_any nb cb nm cm b3 l.length co Ab Am Ao l _ HSL.out (by omega) (by omega)).mono ?_
  rintro e w5 ⟨A5, c5, rfl, ho5, hB5⟩
  obtain ⟨b5, _, hs5⟩ := Sl.of_own (enc := encI) encI_len rfl ho5
  have HS5 := Lib.hid (HS4.out.below hB5)
  have HSL5 := Lib.hid (HSL.out.old hB5)
  have HO5 := Lib.hid hs5
  have HOL := Lib.hid (show OrgIn bs.length (othersT nb l) from by rw [HNB.out]; exact others_in _ _)
  have hol8 := others_len nb l
  clear c0 c1
  have c0 := HS5.out.blk.cell 0
  have c1 := HS5.out.blk.cell 1
  clear ho5 hs5 hB5
  go_wp2_with fail
  refine (LawSt.holds HS5.out).mono ?_
  rintro e w46 ⟨A6, c6, b6, rfl, hs6, hB⟩
  have HS_6 := Lib.hid (HS5.out.below hB)
  have HL_6 := Lib.hid (HSL5.out.old hB)
  have HO_6 := Lib.hid (HO5.out.old hB)
  have HH_6 := Lib.hid (hs6)
  try clear c0
  try clear c1
  clear hB
  have c0 := HS_6.out.blk.cell 0
  have c1 := HS_6.out.blk.cell 1
  clear hs6
  go_wp2_with fail
  refine (LawSt.reach HS_6.out HL_6.out HL.out).mono ?_
  rintro e w47 ⟨A7, c7, b7, rfl, hs7, hB⟩
  have HS_7 := Lib.hid (HS_6.out.below hB)
  have HL_7 := Lib.hid (HL_6.out.old hB)
  have HO_7 := Lib.hid (HO_6.out.old hB)
  have HH_7 := Lib.hid (HH_6.out.old hB)
  have HA_7 := Lib.hid (hs7)
  try clear c0
  try clear c1
  clear hB
  have c0 := HS_7.out.blk.cell 0
  have c1 := HS_7.out.blk.cell 1
  clear hs7
  go_wp2_with fail
  refine (LawSt.reach HS_7.out HO_7.out HOL.out).mono ?_
  rintro e w48 ⟨A8, c8, b8, rfl, hs8, hB⟩
  have HS_8 := Lib.hid (HS_7.out.below hB)
  have HL_8 := Lib.hid (HL_7.out.old hB)
  have HO_8 := Lib.hid (HO_7.out.old hB)
  have HH_8 := Lib.hid (HH_7.out.old hB)
  have HA_8 := Lib.hid (HA_7.out.old hB)
  have HB_8 := Lib.hid (hs8)
  try clear c0
  try clear c1
  clear hB
  have c0 := HS_8.out.blk.cell 0
  have c1 := HS_8.out.blk.cell 1
  clear hs8
  go_wp2_with fail
  refine (LawSt.through HS_8.out HL_8.out HL.out).mono ?_
  rintro e w49 ⟨A9, c9, b9, rfl, hs9, hB⟩
  have HS_9 := Lib.hid (HS_8.out.below hB)
  have HL_9 := Lib.hid (HL_8.out.old hB)
  have HO_9 := Lib.hid (HO_8.out.old hB)
  have HH_9 := Lib.hid (HH_8.out.old hB)
  have HA_9 := Lib.hid (HA_8.out.old hB)
  have HB_9 := Lib.hid (HB_8.out.old hB)
  have HP_9 := Lib.hid (hs9)
  try clear c0
  try clear c1
  clear hB
  have c0 := HS_9.out.blk.cell 0
  have c1 := HS_9.out.blk.cell 1
  clear hs9
  go_wp2_with fail
  refine (LawSt.through HS_9.out HO_9.out HOL.out).mono ?_
  rintro e w50 ⟨A10, c10, b10, rfl, hs10, hB⟩
  have HS_10 := Lib.hid (HS_9.out.below hB)
  have HL_10 := Lib.hid (HL_9.out.old hB)
  have HO_10 := Lib.hid (HO_9.out.old hB)
  have HH_10 := Lib.hid (HH_9.out.old hB)
  have HA_10 := Lib.hid (HA_9.out.old hB)
  have HB_10 := Lib.hid (HB_9.out.old hB)
  have HP_10 := Lib.hid (HP_9.out.old hB)
  have HQ_10 := Lib.hid (hs10)
  try clear c0
  try clear c1
  clear hB
  have c0 := HS_10.out.blk.cell 0
  have c1 := HS_10.out.blk.cell 1
  clear hs10
  go_wp2_with fail
  go_loopw [17] (fun i wr => ∃ k : Nat, k ≤ nb ∧ i = .int .i64 k ∧ LawSt w wr d w3.heap.size b1 b2 Ab Am nb cb nm cm bs ms ∧ Sl encI 1 wr b6 A6 nb (holdsT bs ms) ∧ Sl encR 2 wr b7 A7 nb (reachT bs ms l) ∧ Sl encR 2 wr b8 A8 nb (reachT bs ms (othersT nb l)) ∧ Sl encR 2 wr b9 A9 nm (throughT bs ms l) ∧ Sl encR 2 wr b10 A10 nm (throughT bs ms (othersT nb l))) (fun i _ => nb - (intOf i).toNat)
  case atStart => exact ⟨0, Nat.zero_le _, rfl, HS_10.out, HH_10.out, HA_10.out, HB_10.out, HP_10.out, HQ_10.out⟩
  case round =>
    obtain ⟨k, hk, rfl, hS, hH, hA, hB, hP, hQ⟩ := hrel
    have HSk := Lib.hid hS
    have HHk := Lib.hid hH
    have HAk := Lib.hid hA
    have HBk := Lib.hid hB
    have HPk := Lib.hid hP
    have HQk := Lib.hid hQ
    by_cases hlt : k < nb
    · have hkb : k < bs.length := by have := HNB.out; omega
      obtain ⟨o6, rfl, _, z0⟩ := hH.atI (k := k) (by rw [holds_len]; exact hkb)
      obtain ⟨o7, rfl, _, x0, x1⟩ := hA.atR (k := k) (by rw [reach_len]; exact hkb)
      obtain ⟨o8, rfl, _, y0, y1⟩ := hB.atR (k := k) (by rw [reach_len]; exact hkb)
      rw [holds_get _ _ hkb] at z0
      rw [reach_get _ _ _ hkb] at x0 x1 y0 y1
      obtain ⟨m1, m2⟩ := parts_may (ms := ms) HL.out (k : Int)
      rw [← HNB.out] at m1 m2
      obtain ⟨p1, p2, p3, p4⟩ := may_bd HS3.out.ni l hkb
      obtain ⟨q1, q2, q3, q4⟩ := may_bd HS3.out.ni (othersT nb l) hkb
      generalize mayT bs l ms k = X at x0 x1 m1 m2 p1 p2 p3 p4
      generalize mayT bs (othersT nb l) ms k = Y at y0 y1 m1 m2 q1 q2 q3 q4
      generalize hasAt (bsF bs) ms k = Z at z0 m1 m2
      have t1 : (X.hi + Y.lo == Z) = true := by simp; omega
      have t2 : (X.lo + Y.hi == Z) = true := by simp; omega
      have t3 : (X.hi + Y.lo != Z) = false := by simp; omega
      have t4 : (X.lo + Y.hi != Z) = false := by simp; omega
      have k0 : (0 : Int) ≤ (k : Int) := by omega
      have k1 : (k : Int) < (nb : Int) := by omega
      clear hS hA hB hP hQ hH m1 m2
      go_wp2_with fail
      go_quiet (fail)
      go_wp2_with fail
      exact ⟨⟨k + 1, by omega, by go_num, HSk.out.below (below_drewN (Below.refl _ wr) _), HHk.out, HAk.out, HBk.out, HPk.out, HQk.out⟩, by simp [intOf]; omega⟩
    · obtain rfl : nb = k := by omega
      clear hS hA hB hP hQ hH
      go_wp2_with fail
      go_loopw [18] (fun i wr => ∃ k : Nat, k ≤ nm ∧ i = .int .i64 k ∧ LawSt w wr d w3.heap.size b1 b2 Ab Am nb cb nm cm bs ms ∧ Sl encR 2 wr b9 A9 nm (throughT bs ms l) ∧ Sl encR 2 wr b10 A10 nm (throughT bs ms (othersT nb l))) (fun i _ => nm - (intOf i).toNat)
      case atStart => exact ⟨0, Nat.zero_le _, rfl, HSk.out, HPk.out, HQk.out⟩
      case round =>
        obtain ⟨j, hj, rfl, hS, hP, hQ⟩ := hrel
        have HSj := Lib.hid hS
        have HPj := Lib.hid hP
        have HQj := Lib.hid hQ
        by_cases hlt2 : j < nm
        · have hjm : j < ms.length := by have := HNMq.out; omega
          obtain ⟨o9, rfl, _, x0, x1⟩ := hP.atR (k := j) (by rw [through_len]; exact hjm)
          obtain ⟨o10, rfl, _, y0, y1⟩ := hQ.atR (k := j) (by rw [through_len]; exact hjm)
          obtain ⟨o2, rfl, _, s0, s1, s2⟩ := hS.net.m.atM hjm
          rw [through_get _ _ _ hjm] at x0 x1 y0 y1
          obtain ⟨m1, m2⟩ := parts_take (pre := ms.take j) (m := ms[j]) HL.out
          rw [← HNB.out] at m1 m2
          obtain ⟨p1, p2, p3, p4⟩ := take_bd HS3.out.ni l hjm
          obtain ⟨q1, q2, q3, q4⟩ := take_bd HS3.out.ni (othersT nb l) hjm
          have c1 := hS.blk.cell 1
          generalize takeT bs l (ms.take j) ms[j] = X at x0 x1 m1 m2 p1 p2 p3 p4
          generalize takeT bs (othersT nb l) (ms.take j) ms[j] = Y at y0 y1 m1 m2 q1 q2 q3 q4
          generalize ms[j] = M at s0 s1 s2 m1 m2
          have t1 : (X.hi + Y.lo == M.g) = true := by simp; omega
          have t2 : (X.lo + Y.hi == M.g) = true := by simp; omega
          have t3 : (X.hi + Y.lo != M.g) = false := by simp; omega
          have t4 : (X.lo + Y.hi != M.g) = false := by simp; omega
          have j0 : (0 : Int) ≤ (j : Int) := by omega
          have j1 : (j : Int) < (nm : Int) := by omega
          clear hS hP hQ m1 m2
          go_wp2_with fail
          go_quiet (fail)
          go_wp2_with fail
          exact ⟨⟨j + 1, by omega, by go_num, HSj.out.below (below_drewN (Below.refl _ wr) _), HPj.out, HQj.out⟩, by simp [intOf]; omega⟩
        · obtain rfl : nm = j := by omega
          clear hS hP hQ
          go_wp2_with fail
          refine (kawake_any _).mono ?_
          rintro e w99 ⟨rfl, hB9⟩
          have HL9 := Lib.hid ((HSj.out.below hB9).low)
          clear hB9
          go_wp2_with fail
          go_ret
          exact ⟨rfl, HL9.out⟩
end Go.Proofs.Ytkphgdkjjklajaa
