/-
  Fair of the reference: the price if it is known what truly is sold.
-/
import Derived.Test.YtkcdknjgjidnnaaTrue1
set_option linter.unusedVariables false
set_option linter.unusedSimpArgs false
namespace Go.Proofs.Ytkcdknjgjidnnaa
open Go.RowKit

theorem upTo_bd {g : List Sale} (h : GoodIn g) (p : Int) : 0 ≤ upTo g p ∧ upTo g p ≤ 4000000 := by
  have := wsum_bd (q := leQ (·.cl) p) (f := (·.gl)) (l := g) (m := 100000) (fun s hs => ⟨h.gl0 s hs, by have := h.gl1 s hs; have := h.gh1 s hs; omega⟩) (by omega)
  have := h.len
  unfold upTo
  omega
theorem good_take {X : List Sale} {good : Int} (h : GoodIn (ofGood good X)) (k : Nat) : GoodIn (ofGood good (X.take k)) := by
  have hs : ∀ s ∈ ofGood good (X.take k), s ∈ ofGood good X := fun s hs => by
    unfold ofGood at hs ⊢
    rw [List.mem_filter] at hs ⊢
    exact ⟨List.mem_of_mem_take hs.1, hs.2⟩
  refine ⟨?_, fun s k => h.gl0 s (hs s k), fun s k => h.gl1 s (hs s k), fun s k => h.gh1 s (hs s k), fun s k => h.cl0 s (hs s k), fun s k => h.cl1 s (hs s k), fun s k => h.ch1 s (hs s k)⟩
  have : (ofGood good (X.take k)).length ≤ (ofGood good X).length := List.Sublist.length_le ((List.take_sublist k X).filter _)
  have := h.len
  omega

/-- what a round over a book and what truly is sold reads -/
structure RoundD (wr : World) (b1 o1 b2 o2 k : Nat) (y : Sale) (z : Sold) : Prop where
  gd : wr.cell? ⟨b1, o1 + k * 6 + 1, none⟩ = some (.int .i64 y.gd)
  gr : wr.cell? ⟨b2, o2 + k * 2, none⟩ = some (.int .i64 z.gr)
  ce : wr.cell? ⟨b2, o2 + k * 2 + 1, none⟩ = some (.int .i64 z.ce)

set_option maxRecDepth 100000 in
set_option maxHeartbeats 4000000 in
theorem fair_any (st gd good : Int) (b n c b2 n2 c2 : Nat) (A A2 : Option Addr) (l : List Sale) (t : List Sold) (w : World) (hl : Sl encS 6 w b A n l) (ht : Sl encD 2 w b2 A2 n2 t) (hlen : t.length = l.length)
    (hg : GoodIn (ofGood good (exactS l t))) (hn : n ≤ 40) :
    Calls Try.prog 35 #[.agg #[.int .i64 st, .int .i64 gd, .slice A n c], .slice A2 n2 c2, .int .i64 good] w fun e w' => e = .returned (.tuple #[.int .i64 (fairOut (ofGood good (exactS l t))).1, .bool (fairOut (ofGood good (exactS l t))).2]) ∧ Below w.heap.size w w' := by
  have HA := Lib.hid hl.len
  have HA2 := Lib.hid (show n2 = n by rw [ht.len, hl.len, hlen])
  have HL := Lib.hid hl
  have HT := Lib.hid ht
  have HLen := Lib.hid hlen
  have HG := Lib.hid hg
  have hn2 : n2 ≤ 40 := by have := HA2.out; omega
  have HXL := Lib.hid (exactS_len hlen)
  clear hl ht hlen hg
  go_enter Try.func35, Try.ntmps35
  go_wp2_with fail
  go_loopw [8, 11] (fun v i wr => ∃ k : Nat, k ≤ n2 ∧ i = .int .i64 k ∧ v = .int .i64 (wsum allQ (·.gl) (ofGood good ((exactS l t).take k))) ∧ OverBook w st gd A n c wr) (fun _ i _ => n2 - (intOf i).toNat)
  case atStart => exact ⟨0, by omega, rfl, rfl, OverBook.start w st gd A n c⟩
  case round =>
    obtain ⟨k, hk, rfl, rfl, hO⟩ := hrel
    have HO := Lib.hid hO
    have c2' := hO.blk.cell 2
    have hz := hO.blk.lt
    clear hO
    by_cases hlt : k < n2
    · have hk1 : k < l.length := by have := HA.out; have := HA2.out; omega
      have hk2 : k < t.length := by have := HLen.out; omega
      have hk3 : k < (exactS l t).length := by rw [HXL.out]; exact hk1
      obtain ⟨o, rfl, hbz, s0, s1, s2, s3, s4, s5⟩ := (HL.out.old HO.out.low).atS hk1
      obtain ⟨o2, rfl, hbz2, t0, t1⟩ := (HT.out.old HO.out.low).atD hk2
      have HQ := Lib.hid (ofGood_snoc good (exactS l t) k hk3)
      have hX := exactS_get hk1 hk2 hk3
      have hg1 := good_take HG.out (k + 1)
      have hg0 := good_take HG.out k
      rw [HQ.out, hX] at hg1
      rw [hX] at HQ
      have u1 := (wsum_bd (q := allQ) (f := (·.gl)) (l := ofGood good ((exactS l t).take k)) (m := 100000) (fun s hs => ⟨hg0.gl0 s hs, by have := hg0.gl1 s hs; have := hg0.gh1 s hs; omega⟩) (by omega))
      have u2 := hg0.len
      obtain ⟨u3, u4⟩ := u1
      have u5 : wsum allQ (·.gl) (ofGood good ((exactS l t).take k)) ≤ 4000000 := by omega
      have hgd : (exactOne l[k] t[k]).gd = l[k].gd := rfl
      have hgl : (exactOne l[k] t[k]).gl = t[k].gr := rfl
      have HGD := Lib.hid hgd
      have HGL := Lib.hid hgl
      have HG1 := Lib.hid hg1
      clear hX hg1 hg0 u2 u4 hgd hgl
      generalize exactOne l[k] t[k] = x at HQ HGD HGL HG1
      generalize hu : wsum allQ (·.gl) (ofGood good ((exactS l t).take k)) = u at u3 u5 ⊢
      have HU := Lib.hid hu
      clear hu
      generalize l[k] = y at s0 s1 s2 s3 s4 s5 HGD
      generalize t[k] = z at t0 t1 HGL
      have i0 : (0 : Int) ≤ (k : Int) := by omega
      have i1 : (k : Int) < (n : Int) := by have := HA2.out; omega
      have i2 : (k : Int) < (n2 : Int) := by omega
      by_cases hs : y.gd = good
      · have hsb : (y.gd == good) = true := by simpa using hs
        have hq := HQ.out
        have hg1 := HG1.out
        rw [if_pos (by rw [HGD.out]; exact hs)] at hq hg1
        have hz0 : 0 ≤ z.gr := by rw [← HGL.out]; exact hg1.gl0 x (by simp)
        have hz1 : z.gr ≤ 100000 := by rw [← HGL.out]; have := hg1.gl1 x (by simp); have := hg1.gh1 x (by simp); omega
        have HQ2 := Lib.hid hq
        clear hs hq hg1
        go_wp2_with fail
        go_roundw
        case rel => exact ⟨k + 1, by omega, by go_num, by rw [HQ2.out, wsum_snoc, HU.out, HGL.out]; rfl, HO.out⟩
        case measure => simp [intOf]; omega
      · have hsb : (y.gd == good) = false := by simpa using hs
        have HS := Lib.hid hs
        clear hs
        go_wp2_with fail
        go_roundw
        case rel => exact ⟨k + 1, by omega, by go_num, by rw [HQ.out, if_neg (by rw [HGD.out]; exact HS.out), HU.out], HO.out⟩
        case measure => simp [intOf]; omega
    · have HK := Lib.hid (show n2 ≤ k by omega)
      have HTK := Lib.hid (show (exactS l t).take k = exactS l t from List.take_of_length_le (by rw [HXL.out]; have := HA.out; have := HA2.out; have := HK.out; omega))
      rw [HTK.out]
      have HGR := Lib.hid (exact_grams ((exactS_exact l t).good good))
      have hall : wsum allQ (·.gl) (ofGood good (exactS l t)) = gramsHi (ofGood good (exactS l t)) := HGR.out
      rw [hall]
      have hgl := grams_lohi HG.out
      have hge : gramsHi (ofGood good (exactS l t)) ≤ 4000000 := by
        have := (wsum_bd (q := allQ) (f := (·.gh)) (l := ofGood good (exactS l t)) (m := 100000) (fun s hs => ⟨gh0 HG.out s hs, HG.out.gh1 s hs⟩) (by omega))
        have := HG.out.len
        unfold gramsHi
        omega
      by_cases hn0 : gramsHi (ofGood good (exactS l t)) = 0
      · have ho : fairOut (ofGood good (exactS l t)) = (0, false) := by unfold fairOut; rw [if_pos hn0]
        have HFO := Lib.hid ho
        rw [hn0]
        clear hn0 hall ho hgl hge
        go_wp2_with fail
        go_ret2
        exact ⟨by rw [HFO.out]; rfl, HO.out.low⟩
      · have ho : fairOut (ofGood good (exactS l t)) = (loOf (ofGood good (exactS l t)), true) := by unfold fairOut; rw [if_neg hn0]
        have HEnd := Lib.hid (fun best some h => fair_end (X := exactS l t) (good := good) (best := best) (some := some) HG.out (exactS_exact l t) hn0 h)
        have hn1 : (gramsHi (ofGood good (exactS l t)) == 0) = false := by simpa using hn0
        have ha0 : 0 ≤ gramsHi (ofGood good (exactS l t)) := by omega
        have HFO := Lib.hid ho
        generalize hall' : gramsHi (ofGood good (exactS l t)) = all at hn1 ha0 hge HEnd ⊢
        have HALL := Lib.hid hall'
        clear hn0 hall ho hgl hall'
        go_wp2_with fail
        go_loopw [9, 10, 12] (fun b s i wr => ∃ (k : Nat) (best : Int) (some : Bool), k ≤ n2 ∧ i = .int .i64 k ∧ b = .int .i64 best ∧ s = .bool some ∧ FairSt all (ofGood good (exactS l t)) good ((exactS l t).take k) best some ∧ OverBook w st gd A n c wr) (fun _ _ i _ => n2 - (intOf i).toNat)
        case atStart => exact ⟨0, 0, false, by omega, rfl, rfl, rfl, FairSt.nil, HO.out⟩
        case round =>
          clear HO HK HTK c2' hz
          obtain ⟨k, best, some, hk, rfl, rfl, rfl, hF, hO⟩ := hrel
          have HO := Lib.hid hO
          have HF := Lib.hid hF
          have c2' := hO.blk.cell 2
          have hz := hO.blk.lt
          clear hO hF
          by_cases hlt : k < n2
          · have hk1 : k < l.length := by have := HA.out; have := HA2.out; omega
            have hk2 : k < t.length := by have := HLen.out; omega
            have hk3 : k < (exactS l t).length := by rw [HXL.out]; exact hk1
            obtain ⟨o, rfl, hbz, s0, s1, s2, s3, s4, s5⟩ := (HL.out.old HO.out.low).atS hk1
            obtain ⟨o2, rfl, hbz2, t0, t1⟩ := (HT.out.old HO.out.low).atD hk2
            have HQ := Lib.hid (show (exactS l t).take (k + 1) = (exactS l t).take k ++ [(exactS l t)[k]] from take_snoc _ k hk3)
            have hX := exactS_get hk1 hk2 hk3
            rw [hX] at HQ
            have HGD := Lib.hid (show (exactOne l[k] t[k]).gd = l[k].gd from rfl)
            have HCL := Lib.hid (show (exactOne l[k] t[k]).cl = t[k].ce from rfl)
            clear hX
            generalize exactOne l[k] t[k] = x at HQ HGD HCL
            generalize l[k] = y at s0 s1 s2 s3 s4 s5 HGD
            generalize t[k] = z at t0 t1 HCL
            have i0 : (0 : Int) ≤ (k : Int) := by omega
            have i1 : (k : Int) < (n : Int) := by have := HA2.out; omega
            have i2 : (k : Int) < (n2 : Int) := by omega
            by_cases hs : y.gd = good
            · have hsb : (y.gd == good) = true := by simpa using hs
              have HS := Lib.hid hs
              have hnb : (y.gd != good) = false := by simpa using hs
              clear hs
              have hcase : (some = true ∧ best ≤ z.ce) ∨ some = false ∨ (some = true ∧ z.ce < best) := by
                cases some
                · exact .inr (.inl rfl)
                · by_cases h : best ≤ z.ce
                  · exact .inl ⟨rfl, h⟩
                  · exact .inr (.inr ⟨rfl, by omega⟩)
              rcases hcase with ⟨rfl, hb⟩ | rfl | ⟨rfl, hb⟩
              · have HB := Lib.hid hb
                go_wp2_with fail
                go_roundw
                case rel => exact ⟨k + 1, best, true, by omega, by go_num, rfl, rfl, by rw [HQ.out]; exact HF.out.skip (.inr (.inl ⟨rfl, by rw [HCL.out]; exact HB.out⟩)), HO.out⟩
                case measure => simp [intOf]; omega
              all_goals
                have HTk := Lib.hid (fun v => (show FairSt all (ofGood good (exactS l t)) good ((exactS l t).take k ++ [x]) z.ce true ∨ ¬ all ≤ 2 * upTo (ofGood good (exactS l t)) z.ce from by
                  by_cases ht : all ≤ 2 * upTo (ofGood good (exactS l t)) z.ce
                  · refine .inl ?_
                    have := HF.out.take (s := x) (by rw [HGD.out]; exact HS.out) (by first | (intro h; exact absurd h (by decide)) | (intro _; rw [HCL.out]; exact hb)) (by rw [HCL.out]; exact ht)
                    rw [HCL.out] at this
                    exact this
                  · exact .inr ht) : True → _)
                go_wp2_with fail
                obtain ⟨wo, rfl⟩ : ∃ wo : World, wo = wr := ⟨_, rfl⟩
                go_loopw [14, 15] (fun v i ws => ∃ k2 : Nat, k2 ≤ n2 ∧ i = .int .i64 k2 ∧ v = .int .i64 (wsum (leQ (·.cl) z.ce) (·.gl) (ofGood good ((exactS l t).take k2))) ∧ OverBook w st gd (some ⟨b, o, none⟩) n c ws) (fun _ i _ => n2 - (intOf i).toNat)
                case atStart => exact ⟨0, by omega, rfl, rfl, HO.out⟩
                case round =>
                  clear HO s0 s1 s2 s3 s4 s5 t0 t1 c2' hz hbz hbz2
                  obtain ⟨k2, hk', rfl, rfl, hO2⟩ := hrel
                  have HO2 := Lib.hid hO2
                  have c22 := hO2.blk.cell 2
                  have hz2 := hO2.blk.lt
                  clear hO2
                  by_cases hlt2 : k2 < n2
                  · have hj1 : k2 < l.length := by have := HA.out; have := HA2.out; omega
                    have hj2 : k2 < t.length := by have := HLen.out; omega
                    have hj3 : k2 < (exactS l t).length := by rw [HXL.out]; exact hj1
                    obtain ⟨p, hp1, hbp, p0, p1, p2, p3, p4, p5⟩ := (HL.out.old HO2.out.low).atS hj1
                    obtain ⟨q, hq1, hbq, q0, q1⟩ := (HT.out.old HO2.out.low).atD hj2
                    obtain rfl : o = p := by injection hp1 with h; injection h
                    obtain rfl : o2 = q := by injection hq1 with h; injection h
                    have HQ2 := Lib.hid (ofGood_snoc good (exactS l t) k2 hj3)
                    have hX := exactS_get hj1 hj2 hj3
                    have hg1 := good_take HG.out (k2 + 1)
                    have u1 := upTo_bd (good_take HG.out k2) z.ce
                    unfold upTo at u1
                    rw [HQ2.out, hX] at hg1
                    rw [hX] at HQ2
                    have HGD2 := Lib.hid (show (exactOne l[k2] t[k2]).gd = l[k2].gd from rfl)
                    have HCL2 := Lib.hid (show (exactOne l[k2] t[k2]).cl = t[k2].ce from rfl)
                    have HGL2 := Lib.hid (show (exactOne l[k2] t[k2]).gl = t[k2].gr from rfl)
                    have HG1 := Lib.hid hg1
                    clear hX hg1 hp1 hq1
                    obtain ⟨u2, u3⟩ := u1
                    generalize exactOne l[k2] t[k2] = x2 at HQ2 HGD2 HCL2 HGL2 HG1
                    generalize hu : wsum (leQ (·.cl) z.ce) (·.gl) (ofGood good ((exactS l t).take k2)) = u at u2 u3 ⊢
                    have HU := Lib.hid hu
                    clear hu
                    generalize l[k2] = y2 at p0 p1 p2 p3 p4 p5 HGD2
                    generalize t[k2] = z2 at q0 q1 HCL2 HGL2
                    have e0 : (0 : Int) ≤ (k2 : Int) := by omega
                    have e1 : (k2 : Int) < (n : Int) := by have := HA2.out; omega
                    have e2 : (k2 : Int) < (n2 : Int) := by omega
                    clear hsb hnb
                    by_cases hs2 : y2.gd = good
                    · have hsb2 : (y2.gd == good) = true := by simpa using hs2
                      have hq := HQ2.out
                      have hg1 := HG1.out
                      rw [if_pos (by rw [HGD2.out]; exact hs2)] at hq hg1
                      have hz0 : 0 ≤ z2.gr := by rw [← HGL2.out]; exact hg1.gl0 x2 (by simp)
                      have hz1 : z2.gr ≤ 100000 := by rw [← HGL2.out]; have := hg1.gl1 x2 (by simp); have := hg1.gh1 x2 (by simp); omega
                      have HQ3 := Lib.hid hq
                      clear hs2 hq hg1
                      by_cases hc2 : z2.ce ≤ z.ce
                      · have HC2 := Lib.hid (show leQ (·.cl) z.ce x2 = true by simp only [leQ, decide_eq_true_eq]; rw [HCL2.out]; exact hc2)
                        go_wp2_with fail
                        go_roundw
                        case rel => exact ⟨k2 + 1, by omega, by go_num, by rw [HQ3.out, wsum_snoc, HU.out, if_pos HC2.out, HGL2.out], HO2.out⟩
                        case measure => simp [intOf]; omega
                      · have HC2 := Lib.hid (show leQ (·.cl) z.ce x2 = false by simp only [leQ, decide_eq_false_iff_not]; rw [HCL2.out]; exact hc2)
                        go_wp2_with fail
                        go_roundw
                        case rel => exact ⟨k2 + 1, by omega, by go_num, by rw [HQ3.out, wsum_snoc, HU.out, HC2.out]; simp, HO2.out⟩
                        case measure => simp [intOf]; omega
                    · have hsb2 : (y2.gd == good) = false := by simpa using hs2
                      have HS2 := Lib.hid hs2
                      clear hs2
                      go_wp2_with fail
                      go_roundw
                      case rel => exact ⟨k2 + 1, by omega, by go_num, by rw [HQ2.out, if_neg (by rw [HGD2.out]; exact HS2.out), HU.out], HO2.out⟩
                      case measure => simp [intOf]; omega
                  · have HK2 := Lib.hid (show n2 ≤ k2 by omega)
                    have HTK2 := Lib.hid (show (exactS l t).take k2 = exactS l t from List.take_of_length_le (by rw [HXL.out]; have := HA.out; have := HA2.out; have := HK2.out; omega))
                    have u1 := upTo_bd HG.out z.ce
                    rw [HTK2.out]
                    have HTK := Lib.hid (HTk.out trivial)
                    generalize hu : wsum (leQ (·.cl) z.ce) (·.gl) (ofGood good (exactS l t)) = u
                    have hu2 : upTo (ofGood good (exactS l t)) z.ce = u := hu
                    rw [hu2] at u1
                    obtain ⟨u2, u3⟩ := u1
                    have HU := Lib.hid hu2
                    clear hu hu2 HTk
                    by_cases ht : all ≤ 2 * u
                    · have HF2 := Lib.hid (show FairSt all (ofGood good (exactS l t)) good ((exactS l t).take k ++ [x]) z.ce true from by
                        rcases HTK.out with h | h
                        · exact h
                        · exact absurd ht (by have h2 := h; rw [HU.out] at h2; omega))
                      go_wp2_with fail
                      go_roundw
                      case rel => exact ⟨k + 1, z.ce, true, by omega, by go_num, rfl, rfl, by rw [HQ.out]; exact HF2.out, HO2.out⟩
                      case measure => simp [intOf]; omega
                    · have HT3 := Lib.hid (show ¬ all ≤ 2 * upTo (ofGood good (exactS l t)) x.cl by rw [HCL.out, HU.out]; exact ht)
                      go_wp2_with fail
                      go_roundw
                      case rel => exact ⟨k + 1, best, _, by omega, by go_num, rfl, rfl, by rw [HQ.out]; exact HF.out.skip (.inr (.inr HT3.out)), HO2.out⟩
                      case measure => simp [intOf]; omega
            · have hsb : (y.gd == good) = false := by simpa using hs
              have hnb : (y.gd != good) = true := by simpa using hs
              have HS := Lib.hid hs
              clear hs
              go_wp2_with fail
              go_roundw
              case rel => exact ⟨k + 1, best, some, by omega, by go_num, rfl, rfl, by rw [HQ.out]; exact HF.out.skip (.inl (by rw [HGD.out]; exact HS.out)), HO.out⟩
              case measure => simp [intOf]; omega
          · have HK := Lib.hid (show n2 ≤ k by omega)
            have HTK := Lib.hid (show (exactS l t).take k = exactS l t from List.take_of_length_le (by rw [HXL.out]; have := HA.out; have := HA2.out; have := HK.out; omega))
            have hf := HF.out
            rw [HTK.out] at hf
            obtain ⟨rfl, rfl⟩ := HEnd.out _ _ hf
            clear hf
            go_wp2_with fail
            go_ret2
            exact ⟨by rw [HFO.out]; rfl, HO.out.low⟩
end Go.Proofs.Ytkcdknjgjidnnaa
