/-
  Which prices may be: low and high of the reference.
-/
import Derived.Test.YtkcdknjgjidnnaaPriceLaw
import Derived.Test.YtkcdknjgjidnnaaChk
import Derived.Test.YtkcdknjgjidnnaaApp
set_option linter.unusedVariables false
set_option linter.unusedSimpArgs false
namespace Go.Proofs.Ytkcdknjgjidnnaa
open Go.RowKit

set_option maxRecDepth 100000 in
set_option maxHeartbeats 1000000 in
theorem rlow_any (st gd good p : Int) (b n c : Nat) (A : Option Addr) (l : List Sale) (w : World) (hl : Sl encS 6 w b A n l) (hb : BookIn st gd l) :
    Calls Try.prog 67 #[.agg #[.int .i64 st, .int .i64 gd, .slice A n c], .int .i64 good, .int .i64 p] w fun e w' => e = .returned (.bool (lowQ (ofGood good l) p)) ∧ Below w.heap.size w w' := by
  have HA := Lib.hid hl.len
  have hn40 : n ≤ 40 := by have := hb.len; have := hl.len; omega
  have HL := Lib.hid hl
  have HB := Lib.hid hb
  clear hl hb
  go_enter Try.func67, Try.ntmps67
  go_wp2_with fail
  go_loopw [7, 8, 9] (fun u v i wr => ∃ k : Nat, k ≤ n ∧ i = .int .i64 k ∧ u = .int .i64 (wsum (leQ (·.cl) p) (·.gh) (ofGood good (l.take k))) ∧ v = .int .i64 (wsum (gtQ (·.cl) p) (·.gl) (ofGood good (l.take k))) ∧ OverBook w st gd A n c wr) (fun _ _ i _ => n - (intOf i).toNat)
  case atStart => exact ⟨0, by omega, rfl, rfl, rfl, OverBook.start w st gd A n c⟩
  case round =>
    obtain ⟨k, hk, rfl, rfl, rfl, hO⟩ := hrel
    have HO := Lib.hid hO
    have c2' := hO.blk.cell 2
    have hz := hO.blk.lt
    clear hO
    by_cases hlt : k < n
    · have hk1 : k < l.length := by have := HA.out; omega
      obtain ⟨o, rfl, hbz, s0, s1, s2, s3, s4, s5⟩ := (HL.out.old HO.out.low).atS hk1
      have HQ := Lib.hid (ofGood_snoc good l k hk1)
      have hsal := HB.out.sales _ (List.getElem_mem hk1)
      have u1 := wsum_bd (q := leQ (·.cl) p) (f := (·.gh)) (l := ofGood good (l.take k)) (m := 100000) (fun s hs => by
        have h := HB.out.sales s (List.mem_of_mem_take (ofGood_sub good _ s hs).1)
        have := h.gl0; have := h.gl1; have := h.gh1
        omega) (by omega)
      have u2 := wsum_bd (q := gtQ (·.cl) p) (f := (·.gl)) (l := ofGood good (l.take k)) (m := 100000) (fun s hs => by
        have h := HB.out.sales s (List.mem_of_mem_take (ofGood_sub good _ s hs).1)
        have := h.gl0; have := h.gl1; have := h.gh1
        omega) (by omega)
      have u3 : ((ofGood good (l.take k)).length : Int) ≤ 40 := by have := ofGood_le good (l.take k); simp at this; omega
      obtain ⟨u4, u5⟩ := u1
      obtain ⟨u6, u7⟩ := u2
      have u8 : wsum (leQ (·.cl) p) (·.gh) (ofGood good (l.take k)) ≤ 4000000 := by omega
      have u9 : wsum (gtQ (·.cl) p) (·.gl) (ofGood good (l.take k)) ≤ 4000000 := by omega
      have g0 := hsal.gl0
      have g1 := hsal.gl1
      have g2 := hsal.gh1
      clear u3 u5 u7 hsal
      generalize hu : wsum (leQ (·.cl) p) (·.gh) (ofGood good (l.take k)) = u at u4 u8 ⊢
      generalize hv : wsum (gtQ (·.cl) p) (·.gl) (ofGood good (l.take k)) = v at u6 u9 ⊢
      have HU := Lib.hid hu
      have HV := Lib.hid hv
      clear hu hv
      generalize l[k] = y at s0 s1 s2 s3 s4 s5 HQ g0 g1 g2
      have e0 : (0 : Int) ≤ (k : Int) := by omega
      have e1 : (k : Int) < (n : Int) := by omega
      by_cases hs : y.gd = good
      · have hsb : (y.gd == good) = true := by simpa using hs
        have HQ2 := Lib.hid (show ofGood good (l.take (k + 1)) = ofGood good (l.take k) ++ [y] by rw [HQ.out, if_pos hs])
        clear hs
        by_cases hc : y.cl ≤ p
        · have HU2 := Lib.hid (show wsum (leQ (·.cl) p) (·.gh) (ofGood good (l.take (k + 1))) = u + y.gh by rw [HQ2.out, wsum_snoc, HU.out, if_pos (by simp [leQ, hc])])
          have HV2 := Lib.hid (show wsum (gtQ (·.cl) p) (·.gl) (ofGood good (l.take (k + 1))) = v by rw [HQ2.out, wsum_snoc, HV.out, if_neg (by simp [gtQ, hc]), Int.add_zero])
          go_wp2_with fail
          go_roundw
          case rel => exact ⟨k + 1, by omega, by go_num, by rw [HU2.out], by rw [HV2.out], HO.out.alloc _⟩
          case measure => simp [intOf]; omega
        · have HU2 := Lib.hid (show wsum (leQ (·.cl) p) (·.gh) (ofGood good (l.take (k + 1))) = u by rw [HQ2.out, wsum_snoc, HU.out, if_neg (by simp [leQ, hc]), Int.add_zero])
          have HV2 := Lib.hid (show wsum (gtQ (·.cl) p) (·.gl) (ofGood good (l.take (k + 1))) = v + y.gl by rw [HQ2.out, wsum_snoc, HV.out, if_pos (by simp [gtQ]; omega)])
          go_wp2_with fail
          go_roundw
          case rel => exact ⟨k + 1, by omega, by go_num, by rw [HU2.out], by rw [HV2.out], HO.out.alloc _⟩
          case measure => simp [intOf]; omega
      · have hsb : (y.gd == good) = false := by simpa using hs
        have HS := Lib.hid hs
        clear hs
        go_wp2_with fail
        go_roundw
        case rel => exact ⟨k + 1, by omega, by go_num, by rw [HQ.out, if_neg HS.out, HU.out], by rw [HQ.out, if_neg HS.out, HV.out], HO.out.alloc _⟩
        case measure => simp [intOf]; omega
    · have HK := Lib.hid (show n ≤ k by omega)
      have HTK := Lib.hid (show l.take k = l from List.take_of_length_le (by have := HA.out; omega))
      rw [HTK.out]
      generalize hu : wsum (leQ (·.cl) p) (·.gh) (ofGood good l) = u
      generalize hv : wsum (gtQ (·.cl) p) (·.gl) (ofGood good l) = v
      have HR := Lib.hid (show lowQ (ofGood good l) p = (decide (0 < u) && decide (v ≤ u)) by unfold lowQ; rw [hu, hv])
      clear hu hv
      by_cases h0 : 0 < u
      · go_wp2_with fail
        go_ret
        exact ⟨ret_bool (by rw [HR.out]; simp [h0]), HO.out.low⟩
      · go_wp2_with fail
        go_ret
        exact ⟨ret_bool (by rw [HR.out]; simp; intros; omega), HO.out.low⟩

set_option maxRecDepth 100000 in
set_option maxHeartbeats 1000000 in
theorem rhigh_any (st gd good p : Int) (b n c : Nat) (A : Option Addr) (l : List Sale) (w : World) (hl : Sl encS 6 w b A n l) (hb : BookIn st gd l) :
    Calls Try.prog 68 #[.agg #[.int .i64 st, .int .i64 gd, .slice A n c], .int .i64 good, .int .i64 p] w fun e w' => e = .returned (.bool (highQ (ofGood good l) p)) ∧ Below w.heap.size w w' := by
  have HA := Lib.hid hl.len
  have hn40 : n ≤ 40 := by have := hb.len; have := hl.len; omega
  have HL := Lib.hid hl
  have HB := Lib.hid hb
  clear hl hb
  go_enter Try.func68, Try.ntmps68
  go_wp2_with fail
  go_loopw [7, 8, 9] (fun u v i wr => ∃ k : Nat, k ≤ n ∧ i = .int .i64 k ∧ u = .int .i64 (wsum (leQ (·.ch) p) (·.gl) (ofGood good (l.take k))) ∧ v = .int .i64 (wsum (gtQ (·.ch) p) (·.gh) (ofGood good (l.take k))) ∧ OverBook w st gd A n c wr) (fun _ _ i _ => n - (intOf i).toNat)
  case atStart => exact ⟨0, by omega, rfl, rfl, rfl, OverBook.start w st gd A n c⟩
  case round =>
    obtain ⟨k, hk, rfl, rfl, rfl, hO⟩ := hrel
    have HO := Lib.hid hO
    have c2' := hO.blk.cell 2
    have hz := hO.blk.lt
    clear hO
    by_cases hlt : k < n
    · have hk1 : k < l.length := by have := HA.out; omega
      obtain ⟨o, rfl, hbz, s0, s1, s2, s3, s4, s5⟩ := (HL.out.old HO.out.low).atS hk1
      have HQ := Lib.hid (ofGood_snoc good l k hk1)
      have hsal := HB.out.sales _ (List.getElem_mem hk1)
      have u1 := wsum_bd (q := leQ (·.ch) p) (f := (·.gl)) (l := ofGood good (l.take k)) (m := 100000) (fun s hs => by
        have h := HB.out.sales s (List.mem_of_mem_take (ofGood_sub good _ s hs).1)
        have := h.gl0; have := h.gl1; have := h.gh1
        omega) (by omega)
      have u2 := wsum_bd (q := gtQ (·.ch) p) (f := (·.gh)) (l := ofGood good (l.take k)) (m := 100000) (fun s hs => by
        have h := HB.out.sales s (List.mem_of_mem_take (ofGood_sub good _ s hs).1)
        have := h.gl0; have := h.gl1; have := h.gh1
        omega) (by omega)
      have u3 : ((ofGood good (l.take k)).length : Int) ≤ 40 := by have := ofGood_le good (l.take k); simp at this; omega
      obtain ⟨u4, u5⟩ := u1
      obtain ⟨u6, u7⟩ := u2
      have u8 : wsum (leQ (·.ch) p) (·.gl) (ofGood good (l.take k)) ≤ 4000000 := by omega
      have u9 : wsum (gtQ (·.ch) p) (·.gh) (ofGood good (l.take k)) ≤ 4000000 := by omega
      have g0 := hsal.gl0
      have g1 := hsal.gl1
      have g2 := hsal.gh1
      clear u3 u5 u7 hsal
      generalize hu : wsum (leQ (·.ch) p) (·.gl) (ofGood good (l.take k)) = u at u4 u8 ⊢
      generalize hv : wsum (gtQ (·.ch) p) (·.gh) (ofGood good (l.take k)) = v at u6 u9 ⊢
      have HU := Lib.hid hu
      have HV := Lib.hid hv
      clear hu hv
      generalize l[k] = y at s0 s1 s2 s3 s4 s5 HQ g0 g1 g2
      have e0 : (0 : Int) ≤ (k : Int) := by omega
      have e1 : (k : Int) < (n : Int) := by omega
      by_cases hs : y.gd = good
      · have hsb : (y.gd == good) = true := by simpa using hs
        have HQ2 := Lib.hid (show ofGood good (l.take (k + 1)) = ofGood good (l.take k) ++ [y] by rw [HQ.out, if_pos hs])
        clear hs
        by_cases hc : y.ch ≤ p
        · have HU2 := Lib.hid (show wsum (leQ (·.ch) p) (·.gl) (ofGood good (l.take (k + 1))) = u + y.gl by rw [HQ2.out, wsum_snoc, HU.out, if_pos (by simp [leQ, hc])])
          have HV2 := Lib.hid (show wsum (gtQ (·.ch) p) (·.gh) (ofGood good (l.take (k + 1))) = v by rw [HQ2.out, wsum_snoc, HV.out, if_neg (by simp [gtQ, hc]), Int.add_zero])
          go_wp2_with fail
          go_roundw
          case rel => exact ⟨k + 1, by omega, by go_num, by rw [HU2.out], by rw [HV2.out], HO.out.alloc _⟩
          case measure => simp [intOf]; omega
        · have HU2 := Lib.hid (show wsum (leQ (·.ch) p) (·.gl) (ofGood good (l.take (k + 1))) = u by rw [HQ2.out, wsum_snoc, HU.out, if_neg (by simp [leQ, hc]), Int.add_zero])
          have HV2 := Lib.hid (show wsum (gtQ (·.ch) p) (·.gh) (ofGood good (l.take (k + 1))) = v + y.gh by rw [HQ2.out, wsum_snoc, HV.out, if_pos (by simp [gtQ]; omega)])
          go_wp2_with fail
          go_roundw
          case rel => exact ⟨k + 1, by omega, by go_num, by rw [HU2.out], by rw [HV2.out], HO.out.alloc _⟩
          case measure => simp [intOf]; omega
      · have hsb : (y.gd == good) = false := by simpa using hs
        have HS := Lib.hid hs
        clear hs
        go_wp2_with fail
        go_roundw
        case rel => exact ⟨k + 1, by omega, by go_num, by rw [HQ.out, if_neg HS.out, HU.out], by rw [HQ.out, if_neg HS.out, HV.out], HO.out.alloc _⟩
        case measure => simp [intOf]; omega
    · have HK := Lib.hid (show n ≤ k by omega)
      have HTK := Lib.hid (show l.take k = l from List.take_of_length_le (by have := HA.out; omega))
      rw [HTK.out]
      generalize hu : wsum (leQ (·.ch) p) (·.gl) (ofGood good l) = u
      generalize hv : wsum (gtQ (·.ch) p) (·.gh) (ofGood good l) = v
      have HR := Lib.hid (show highQ (ofGood good l) p = decide (u < v) by unfold highQ; rw [hu, hv])
      clear hu hv
      go_wp2_with fail
      go_ret
      exact ⟨ret_bool (by rw [HR.out]), HO.out.low⟩

end Go.Proofs.Ytkcdknjgjidnnaa
