/-
  The walk of the law PriceHalf.
-/
import Derived.Test.YtkcdknjgjidnnaaNums
import Derived.Test.YtkcdknjgjidnnaaAwake
import Derived.Test.YtkcdknjgjidnnaaAud
import Derived.Test.YtkcdknjgjidnnaaAudOk
import Derived.Test.YtkcdknjgjidnnaaFair
import Derived.Test.YtkcdknjgjidnnaaTruth
import Derived.Test.YtkcdknjgjidnnaaSealLaw
import Derived.Test.YtkcdknjgjidnnaaKit2
set_option linter.unusedVariables false
set_option linter.unusedSimpArgs false
namespace Go.Proofs.Ytkcdknjgjidnnaa
open Go.RowKit

theorem aud_ok (st gd : Int) (b n c b2 m c2 : Nat) (A A2 : Option Addr) (l : List Sale) (fs : List Found) (w : World) (hl : Sl encS 6 w b A n l) (hf : Sl encF 3 w b2 A2 m fs) (hb : BookIn st gd l) (hi : FindsIn l fs) (h40 : fs.length ≤ 40) :
    Calls Try.prog 43 #[.agg #[.int .i64 st, .int .i64 gd, .slice A n c], .slice A2 m c2] w fun e w' => ∃ (A' : Option Addr) (c' b' : Nat), e = .returned (.tuple #[.agg #[.int .i64 st, .int .i64 gd, .slice A' n c'], .int .i64 0]) ∧ Sl encS 6 w' b' A' n (applyF l fs) ∧ w.heap.size ≤ b' ∧ Below w.heap.size w w' := by
  have h1 : n ≤ 1000000000000 := by have := hl.len; have := hb.len; omega
  have h2 : m ≤ 1000000000000 := by have := hf.len; omega
  refine (audited_any st gd b n c b2 m c2 A A2 l fs w hl hf h1 h2).mono ?_
  rw [audited_ok hb hi h40]
  rintro e w' ⟨A', m', c', b', rfl, hs, hb', hB⟩
  have : m' = n := by rw [hs.len, applyF_len, hl.len]
  subst this
  exact ⟨A', c', b', rfl, hs, hb', hB⟩
theorem BookIn.narrow {st gd : Int} {l l' : List Sale} (h : BookIn st gd l) (hN : Narrow l' l) : BookIn st gd l' := by
  refine ⟨h.st0, h.st1, h.gd0, h.gd1, by rw [hN.len]; exact h.len, ?_⟩
  have hs := h.sales
  clear h
  induction hN with
  | nil => simp
  | @cons a b l m hab _ ih =>
    intro s hs'
    rcases List.mem_cons.1 hs' with rfl | hs'
    · exact hab.in (hs b List.mem_cons_self)
    · exact ih (fun s hs'' => hs s (List.mem_cons_of_mem _ hs'')) s hs'

set_option maxRecDepth 100000 in
set_option maxHeartbeats 4000000 in
theorem priceHalf_any (A : Option Addr) (n c : Nat) (w : World) (hN : Nums w A n) : Calls Try.prog 10 #[.slice A n c] w fun e w' => e = .returned (.bool true) ∧ Below w.heap.size w w' := by
  obtain ⟨b, l, hl, hw, hn⟩ := hN
  have HW := Lib.hid hw
  clear hw
  obtain ⟨i0, hi, iz0, iz1, iz2⟩ := info_parts info_found
  go_enter Try.func10, Try.ntmps10
  go_wp2_with fail
  refine (dieOf_any b n c A l _ hl hn HW.out).mono ?_
  rintro e w1 ⟨d, hd, rfl, hdie, hB1⟩
  have hz1 := hB1.size
  have HB1 := Lib.hid hB1
  clear hB1 hl
  go_wp2_with fail
  refine (bookOf_any d 3 3 12 _ hdie (by omega) (by omega) (by omega) (by omega) (by omega)).mono ?_
  rintro e w2 ⟨st, gd, b1, m, c1, A1, l1, ⟨hs1, hs2, hg1, hg2, hm1, hok1⟩, rfl, hb1, hb1d, hsl1, hd2, hgr2⟩
  have HL := Lib.hid hsl1.len
  have HOK := Lib.hid hok1
  have HI := Lib.hid (check_ok hs1 (by omega) hg1 (by omega) (by have := HL.out; omega) hok1)
  have HB2 := Lib.hid (Below.stepG hgr2 HB1.out (Nat.le_refl _) hd)
  have hz2 := hgr2.size
  have hdz := hd2.lt
  have S2 := Lib.hid (hsl1.alloc (.cells #[.int .i64 st, .int .i64 gd, .slice A1 m c1] 24))
  have K2 := Lib.hid (Blk.new w2 24 #[.int .i64 st, .int .i64 gd, .slice A1 m c1])
  have D2 := Lib.hid (hd2.alloc (.cells #[.int .i64 st, .int .i64 gd, .slice A1 m c1] 24))
  have L2 := Lib.hid (HB2.out.alloc (by omega) (.cells #[.int .i64 st, .int .i64 gd, .slice A1 m c1] 24))
  clear hok1 hgr2 HB1 hdie hsl1 hd2 HB2
  go_wp2_with fail
  refine (truthOf_any d st gd b1 m c1 A1 l1 _ D2.out S2.out hb1d HOK.out (by omega)).mono ?_
  rintro e w3 ⟨b3, c3, A3, t, hF, rfl, hb3, hb3d, hsl3, hd3, hg3⟩
  have K3 := Lib.hid (K2.out.grown hg3 (fun e => by injection e; omega))
  have S3 := Lib.hid (S2.out.grown hg3 (fun _ e => hb1d (by injection e)))
  have L3 := Lib.hid (Below.stepG hg3 L2.out (Nat.le_refl _) hd)
  have T3 := Lib.hid hsl3
  have HF := Lib.hid hF
  have HLT := Lib.hid (show t.length = l1.length from hF.length_eq)
  have hz3 := hg3.size
  have hw3 : w.heap.size ≤ w3.heap.size := L3.out.size
  simp only [World.size_alloc] at hz3
  clear hsl3 hF hd3 hg3 K2 S2 D2 L2
  go_wp2_with fail
  go_loopw [6, 7] (fun v i wr => ∃ (k c' : Nat) (A' : Option Addr), k ≤ m ∧ i = .int .i64 k ∧ v = .slice A' k c' ∧ wr.ownsRow w3.heap.size 78 3 (.slice A' k c') k ((allFinds t k).flatMap encF) ∧ Below w3.heap.size w3 wr) (fun _ i _ => m - (intOf i).toNat)
  case atStart => exact ⟨0, 0, none, by omega, rfl, rfl, World.ownsRow_nil _ _ _ _, Below.refl _ _⟩
  case round =>
    obtain ⟨k, c', A', hk, rfl, rfl, hown, hB⟩ := hrel
    have HO := Lib.hid hown
    have HB := Lib.hid hB
    have hzr := hB.size
    clear hown hB
    by_cases hlt : k < m
    · have hk2 : k < t.length := by have := HLT.out; have := HL.out; omega
      obtain ⟨o3, rfl, hbz3, t0, t1⟩ := (T3.out.old HB.out).atD hk2
      have hb3w := T3.out.lt (by omega)
      have HP := Lib.hid (allFinds_succ t k)
      have hgd : t.getD k default = t[k] := by simp [List.getD_eq_getElem?_getD, hk2]
      rw [hgd] at HP
      generalize t[k] = z at t0 t1 HP
      clear hgd
      have i0' : (0 : Int) ≤ (k : Int) := by omega
      have i1' : (k : Int) < (m : Int) := by omega
      have hFF := Lib.hid (fun (w' : World) (hk : ∀ i, i < w3.heap.size → w'.heap[i]? = wr.heap[i]?) => (show w'.cell? ⟨b3, o3 + k * 2, none⟩ = some (.int .i64 z.gr) ∧ w'.cell? ⟨b3, o3 + k * 2 + 1, none⟩ = some (.int .i64 z.ce) from
        ⟨(World.cell?_of_block (w := wr) (hk _ (by show b3 < _; omega))).trans t0, (World.cell?_of_block (w := wr) (hk _ (by show b3 < _; omega))).trans t1⟩))
      clear t0 t1
      go_wp2_with fail
      refine wp_region_PL [6, 11] (fun W => W.cell? ⟨b3, o3 + k * 2, none⟩ = some (.int .i64 z.gr) ∧ W.cell? ⟨b3, o3 + k * 2 + 1, none⟩ = some (.int .i64 z.ce)) rfl (by kernel_rfl) (hFF.out _ (fun _ _ => rfl)) (fun hF0 => ?_)
      (refine wpAnyP_takeL (i := 0) (v := ?_) rfl (by kernel_rfl) (by kernel_rfl) (by kernel_rfl) (fun _ _ _ h => h) (by rfl) ?_ ?_; rotate_left 1; focus (intro w; go_simp; try with_reducible rfl))
      try simp only [Act.put, List.setIfInBounds_toArray, List.set_cons_zero, List.set_cons_succ]
      (refine wpAnyP_takeL (i := 1) (v := ?_) rfl (by kernel_rfl) (by kernel_rfl) (by kernel_rfl) (fun _ _ _ h => h) (by rfl) ?_ ?_; rotate_left 1; focus (intro w; go_simp; try with_reducible rfl))
      try simp only [Act.put, List.setIfInBounds_toArray, List.set_cons_zero, List.set_cons_succ]
      (refine wpAnyP_takeL (i := 2) (v := ?_) rfl (by kernel_rfl) (by kernel_rfl) (by kernel_rfl) (fun _ _ _ h => h) (by rfl) ?_ ?_; rotate_left 1; focus (intro w; go_simp; try with_reducible rfl))
      try simp only [Act.put, List.setIfInBounds_toArray, List.set_cons_zero, List.set_cons_succ]
      (refine wpAnyP_takeL (i := 3) (v := ?_) rfl (by kernel_rfl) (by kernel_rfl) (by kernel_rfl) (fun _ _ _ h => h) (by rfl) ?_ ?_; rotate_left 1; focus (intro w; go_simp; try with_reducible rfl))
      try simp only [Act.put, List.setIfInBounds_toArray, List.set_cons_zero, List.set_cons_succ]
      (refine wpAnyP_takeL (i := 4) (v := ?_) rfl (by kernel_rfl) (by kernel_rfl) (by kernel_rfl) (fun _ _ _ h => h) (by rfl) ?_ ?_; rotate_left 1; focus (intro w; go_simp; try with_reducible rfl))
      try simp only [Act.put, List.setIfInBounds_toArray, List.set_cons_zero, List.set_cons_succ]
      (refine wpAnyP_takeL (i := 5) (v := ?_) rfl (by kernel_rfl) (by kernel_rfl) (by kernel_rfl) (fun _ _ _ h => h) (by rfl) ?_ ?_; rotate_left 1; focus (intro w; go_simp; try with_reducible rfl))
      try simp only [Act.put, List.setIfInBounds_toArray, List.set_cons_zero, List.set_cons_succ]
      (refine wpAnyP_loadL (i := 6) (v := ?_) rfl (by kernel_rfl) (by kernel_rfl) (by kernel_rfl) (by rfl) (fun _ _ _ h => h) hF0 (by rfl) ?_ ?_; rotate_left 1; focus (intro w hFw; (try dsimp only at hFw); go_split_ands; go_simp; try with_reducible rfl))
      try simp only [Act.put, List.setIfInBounds_toArray, List.set_cons_zero, List.set_cons_succ]
      (refine wpAnyP_takeL (i := 7) (v := ?_) rfl (by kernel_rfl) (by kernel_rfl) (by kernel_rfl) (fun _ _ _ h => h) (by rfl) ?_ ?_; rotate_left 1; focus (intro w; go_simp; try with_reducible rfl))
      try simp only [Act.put, List.setIfInBounds_toArray, List.set_cons_zero, List.set_cons_succ]
      (refine wpAnyP_takeL (i := 8) (v := ?_) rfl (by kernel_rfl) (by kernel_rfl) (by kernel_rfl) (fun _ _ _ h => h) (by rfl) ?_ ?_; rotate_left 1; focus (intro w; go_simp; try with_reducible rfl))
      try simp only [Act.put, List.setIfInBounds_toArray, List.set_cons_zero, List.set_cons_succ]
      (refine wpAnyP_takeL (i := 9) (v := ?_) rfl (by kernel_rfl) (by kernel_rfl) (by kernel_rfl) (fun _ _ _ h => h) (by rfl) ?_ ?_; rotate_left 1; focus (intro w; go_simp; try with_reducible rfl))
      try simp only [Act.put, List.setIfInBounds_toArray, List.set_cons_zero, List.set_cons_succ]
      (refine wpAnyP_takeL (i := 10) (v := ?_) rfl (by kernel_rfl) (by kernel_rfl) (by kernel_rfl) (fun _ _ _ h => h) (by rfl) ?_ ?_; rotate_left 1; focus (intro w; go_simp; try with_reducible rfl))
      try simp only [Act.put, List.setIfInBounds_toArray, List.set_cons_zero, List.set_cons_succ]
      (refine wpAnyP_loadL (i := 11) (v := ?_) rfl (by kernel_rfl) (by kernel_rfl) (by kernel_rfl) (by rfl) (fun _ _ _ h => h) hF0 (by rfl) ?_ ?_; rotate_left 1; focus (intro w hFw; (try dsimp only at hFw); go_split_ands; go_simp; try with_reducible rfl))
      try simp only [Act.put, List.setIfInBounds_toArray, List.set_cons_zero, List.set_cons_succ]
      (refine wpAnyP_takeL (i := 12) (v := ?_) rfl (by kernel_rfl) (by kernel_rfl) (by kernel_rfl) (fun _ _ _ h => h) (by rfl) ?_ ?_; rotate_left 1; focus (intro w; go_simp; try with_reducible rfl))
      try simp only [Act.put, List.setIfInBounds_toArray, List.set_cons_zero, List.set_cons_succ]
      refine wpAnyP_step (i := 13) rfl (by kernel_rfl) (by rfl) (fun K hK => ?_)
      go_simp
      (refine hK _ _ (hFF.out _ (fun i hi => Below.heap_alloc wr.drew _ i (Nat.lt_of_lt_of_le hi hzr))) (fun hF1 => ?_); clear hK K hF0)
      try simp only [Act.put, List.setIfInBounds_toArray, List.set_cons_zero, List.set_cons_succ]
      refine wpAnyP_step (i := 14) rfl (by kernel_rfl) (by rfl) (fun K hK => ?_)
      (refine wp_append_lies _ _ _ _ rfl w3.heap.size 78 i0 _ 3 24 Try.underlying74 hi iz0 iz1 iz2 rfl (by omega) _ k _ (by rfl) ((ownsRow_drew HO.out).alloc _) ⟨wr.heap.size, 0, none⟩ 1 1 (encF ⟨(k : Int), z.gr, z.ce⟩) (by rfl) (by rfl) (World.news_of_block (heap_alloc_new wr.drew _)) (oneF _) (by omega) (by unfold maxLen; omega) (by omega) (by simp; omega) (wr.heap.size + 1) (by simp) ?_; intro g' cap w6 hown6 hgrow hat hlt6)
      (refine hK _ _ (hFF.out _ (fun i hi => (own_keeps ((ownsRow_drew HO.out).alloc _) hgrow hi (by simp; omega)).trans (Below.heap_alloc wr.drew _ i (Nat.lt_of_lt_of_le hi hzr)))) (fun hF2 => ?_); clear hK K hF1)
      try simp only [Act.put, List.setIfInBounds_toArray, List.set_cons_zero, List.set_cons_succ]
      (refine wpAnyP_takeL (i := 15) (v := ?_) rfl (by kernel_rfl) (by kernel_rfl) (by kernel_rfl) (fun _ _ _ h => h) (by rfl) ?_ ?_; rotate_left 1; focus (intro w; go_simp; try with_reducible rfl))
      try simp only [Act.put, List.setIfInBounds_toArray, List.set_cons_zero, List.set_cons_succ]
      refine wpAnyP_done (by kernel_rfl) ?_ _
      have HX6 := Lib.hid (And.intro hown6 (below_own ((ownsRow_drew HO.out).alloc _) hgrow (HB.out.drew.alloc hzr _) (Nat.le_refl _) (Nat.le_refl _)))
      clear hown6 hgrow hat hlt6
      go_wp2_with fail
      go_roundw
      case rel => exact ⟨k + 1, cap, _, by omega, by go_num, rfl, by rw [HP.out]; simpa using HX6.out.1, HX6.out.2⟩
      case measure => simp [intOf]; omega
    · have HK := Lib.hid (show k = m by omega)
      have hX := allFinds_apply HF.out
      have hXI := allFinds_in HF.out
      have ho := HO.out
      have hml : allFinds t k = allFinds t l1.length := by rw [HK.out, HL.out]
      rw [hml] at ho
      obtain ⟨b4, hb4, S4⟩ := Sl.of_own encF_len (by rw [allFinds_len]; have := HK.out; have := HL.out; omega) ho
      have SF := Lib.hid S4
      have K4 := Lib.hid (K3.out.below HB.out K3.out.lt)
      have HX := Lib.hid hX
      have HXI := Lib.hid hXI
      have a0 := K4.out.cell 0
      have a1 := K4.out.cell 1
      have a2 := K4.out.cell 2
      clear ho hml S4 hX hXI HO
      go_wp2_with fail
      refine (aud_ok st gd b1 m c1 b4 k c' A1 A' l1 _ _ (S3.out.old HB.out) SF.out HI.out HXI.out (by rw [allFinds_len]; exact HI.out.len)).mono ?_
      rw [HX.out]
      rintro e w5 ⟨A5, c5, b5, rfl, hs5, hb5, hB5⟩
      have K5 := Lib.hid (K4.out.below hB5 K4.out.lt)
      have H5 := Lib.hid (HB.out.trans (hB5.mono hzr))
      have f0 := K5.out.frozen 0
      have f1 := K5.out.frozen 1
      have f2 := K5.out.frozen 2
      have d0 := K5.out.cell 0
      have d1 := K5.out.cell 1
      have d2 := K5.out.cell 2
      have hk2w := K3.out.lt
      have SX := Lib.hid (((hs5.setCell (p := ⟨w2.heap.size, 0, none⟩) (fun _ => by show b5 ≠ w2.heap.size; omega) (.int .i64 st)).setCell (p := ⟨w2.heap.size, 1, none⟩) (fun _ => by show b5 ≠ w2.heap.size; omega) (.int .i64 gd)).setCell (p := ⟨w2.heap.size, 2, none⟩) (fun _ => by show b5 ≠ w2.heap.size; omega) (.slice A5 m c5))
      have KX := Lib.hid (((K5.out.set_ 0 (.int .i64 st)).set_ 1 (.int .i64 gd)).set_ 2 (.slice A5 m c5))
      have TX := Lib.hid ((((T3.out.old H5.out).setCell (p := ⟨w2.heap.size, 0, none⟩) (fun h => by show b3 ≠ w2.heap.size; simp at hb3; omega) (.int .i64 st)).setCell (p := ⟨w2.heap.size, 1, none⟩) (fun h => by show b3 ≠ w2.heap.size; simp at hb3; omega) (.int .i64 gd)).setCell (p := ⟨w2.heap.size, 2, none⟩) (fun h => by show b3 ≠ w2.heap.size; simp at hb3; omega) (.slice A5 m c5))
      have LX := Lib.hid ((((Below.step H5.out L3.out (Nat.le_refl _)).setCell (p := ⟨w2.heap.size, 0, none⟩) (by show w.heap.size ≤ w2.heap.size; omega) (.int .i64 st)).setCell (p := ⟨w2.heap.size, 1, none⟩) (by show w.heap.size ≤ w2.heap.size; omega) (.int .i64 gd)).setCell (p := ⟨w2.heap.size, 2, none⟩) (by show w.heap.size ≤ w2.heap.size; omega) (.slice A5 m c5))
      clear hs5 hB5 a0 a1 a2
      go_wp2_with fail
      have HIX := Lib.hid (HI.out.narrow (narrow_exact HF.out))
      have HEX := Lib.hid (exactS_exact l1 t)
      have HXL := Lib.hid (show (exactS l1 t).length = m by rw [exactS_len HLT.out]; exact HL.out.symm)
      have HTL := Lib.hid (show t.length = m by rw [HLT.out]; exact HL.out.symm)
      have HXT := Lib.hid (fun (k : Nat) (h1 : k < l1.length) (h2 : k < t.length) (h3 : k < (exactS l1 t).length) => exactS_get h1 h2 h3)
      obtain ⟨wo, rfl⟩ : ∃ wo : World, wo = wr := ⟨_, rfl⟩
      generalize hY : ((w5.setCell ⟨w2.heap.size, 0, none⟩ (.int .i64 st)).setCell ⟨w2.heap.size, 1, none⟩ (.int .i64 gd)).setCell ⟨w2.heap.size, 2, none⟩ (.slice A5 m c5) = Y at SX KX TX LX ⊢
      have hwY : w.heap.size ≤ Y.heap.size := LX.out.size
      clear hY f0 f1 f2 d0 d1 d2
      go_loopw [9] (fun i ws => ∃ g : Nat, (g : Int) ≤ gd ∧ i = .int .i64 g ∧ Below Y.heap.size Y ws) (fun i _ => gd.toNat - (intOf i).toNat)
      case atStart => exact ⟨0, by omega, rfl, Below.refl _ _⟩
      case round =>
        clear hlt HK HB hzr
        obtain ⟨g, hg, rfl, hB⟩ := hrel
        have HB := Lib.hid hB
        have hzs := hB.size
        have a0 := (KX.out.below hB KX.out.lt).cell 0
        have a1 := (KX.out.below hB KX.out.lt).cell 1
        have a2 := (KX.out.below hB KX.out.lt).cell 2
        clear hB
        by_cases hlt : (g : Int) < gd
        · go_wp2_with fail
          refine (price_ok st gd g b5 m c5 A5 (exactS l1 t) _ (SX.out.old HB.out) HIX.out (by omega) hlt).mono ?_
          rintro e wa ⟨rfl, hBa⟩
          have Ha := Lib.hid (HB.out.trans (hBa.mono hzs))
          have hza := hBa.size
          have HH := Lib.hid (half_law HIX.out HEX.out (g : Int))
          have HGG := Lib.hid (HIX.out.good (g : Int))
          have HGX := Lib.hid (exact_grams (HEX.out.good (g : Int)))
          have hk7 : w2.heap.size < wa.heap.size := by have := KX.out.lt; omega
          generalize hpm : priceMid (ofGood g (exactS l1 t)) = x at HH ⊢
          have ka := Lib.hid (Blk.new wa 26 #[.int .i64 x.2.1, .int .i64 x.2.2])
          have La := Lib.hid (Ha.out.alloc (by omega) (.cells #[.int .i64 x.2.1, .int .i64 x.2.2] 26))
          clear hBa a0 a1 a2 hpm
          go_wp2_with fail
          generalize hV : wa.alloc (.cells #[.int .i64 x.2.1, .int .i64 x.2.2] 26) = V at ka La ⊢
          have hVz := Lib.hid (show V.heap.size = wa.heap.size + 1 by rw [← hV]; simp)
          clear hV
          obtain ⟨wp, rfl⟩ : ∃ wp : World, wp = wr := ⟨_, rfl⟩
          go_loopw [13, 14, 15, 16] (fun u v y i ws => ∃ k : Nat, k ≤ m ∧ i = .int .i64 k ∧ u = .int .i64 (wsum allQ (·.gl) (ofGood g ((exactS l1 t).take k))) ∧ v = .int .i64 (upTo (ofGood g ((exactS l1 t).take k)) x.2.1) ∧ y = .int .i64 (upTo (ofGood g ((exactS l1 t).take k)) (x.2.1 - 1)) ∧ Below V.heap.size V ws) (fun _ _ _ i _ => m - (intOf i).toNat)
          case atStart => exact ⟨0, by omega, rfl, rfl, rfl, rfl, Below.refl _ _⟩
          case round =>
            obtain ⟨k, hk, rfl, rfl, rfl, rfl, hB⟩ := hrel
            have HBs := Lib.hid hB
            have HZ := Lib.hid (La.out.trans (hB.mono La.out.size))
            have a2 := ((KX.out.below La.out KX.out.lt).below hB (by have := KX.out.lt; have := La.out.size; omega)).cell 2
            have x0 := (ka.out.below hB ka.out.lt).cell 0
            have x1 := (ka.out.below hB ka.out.lt).cell 1
            clear hB
            by_cases hlt2 : k < m
            · have hk1 : k < l1.length := by have := HL.out; omega
              have hk2 : k < t.length := by have := HTL.out; omega
              have hk3 : k < (exactS l1 t).length := by have := HXL.out; omega
              obtain ⟨o, rfl, hbz, s0, s1, s2, s3, s4, s5⟩ := (SX.out.old HZ.out).atS hk3
              obtain ⟨o2, rfl, hbz2, t0, t1⟩ := (TX.out.old HZ.out).atD hk2
              have HQ := Lib.hid (ofGood_snoc g (exactS l1 t) k hk3)
              have hX := HXT.out k hk1 hk2 hk3
              have HG1 := Lib.hid (show (exactS l1 t)[k].gl = t[k].gr by rw [hX]; rfl)
              have HC1 := Lib.hid (show (exactS l1 t)[k].cl = t[k].ce by rw [hX]; rfl)
              have hgt := good_take HGG.out k
              have u1 := wsum_bd (q := allQ) (f := (·.gl)) (l := ofGood g ((exactS l1 t).take k)) (m := 100000) (fun s hs => ⟨hgt.gl0 s hs, by have := hgt.gl1 s hs; have := hgt.gh1 s hs; omega⟩) (by omega)
              have u2 := upTo_bd hgt x.2.1
              have u3 := upTo_bd hgt (x.2.1 - 1)
              have hsal := HIX.out.sales _ (List.getElem_mem hk3)
              have g0 := hsal.gl0
              have g1 : (exactS l1 t)[k].gl ≤ 100000 := by have := hsal.gl1; have := hsal.gh1; omega
              rw [HG1.out] at g0 g1
              have u0 : ((ofGood g ((exactS l1 t).take k)).length : Int) ≤ 40 := by have := hgt.len; omega
              obtain ⟨u4, u5⟩ := u1
              obtain ⟨u6, u7⟩ := u2
              obtain ⟨u8, u9⟩ := u3
              have ua : wsum allQ (·.gl) (ofGood g ((exactS l1 t).take k)) ≤ 4000000 := by omega
              clear u0 u5 hsal hgt hX
              generalize hu : wsum allQ (·.gl) (ofGood g ((exactS l1 t).take k)) = u at u4 ua ⊢
              generalize hv : upTo (ofGood g ((exactS l1 t).take k)) x.2.1 = v at u6 u7 ⊢
              generalize hy : upTo (ofGood g ((exactS l1 t).take k)) (x.2.1 - 1) = y at u8 u9 ⊢
              have HU := Lib.hid hu
              have HV := Lib.hid hv
              have HY := Lib.hid hy
              clear hu hv hy
              generalize (exactS l1 t)[k] = q at s0 s1 s2 s3 s4 s5 HQ HG1 HC1
              generalize t[k] = z at t0 t1 HG1 HC1 g0 g1
              have e0 : (0 : Int) ≤ (k : Int) := by omega
              have e1 : (k : Int) < (m : Int) := by omega
              by_cases hs : q.gd = g
              · have hsb : (q.gd != (g : Int)) = false := by simpa using hs
                have HS := Lib.hid hs
                have HQ2 := Lib.hid (show ofGood g ((exactS l1 t).take (k + 1)) = ofGood g ((exactS l1 t).take k) ++ [q] by rw [HQ.out, if_pos hs])
                have HAL := Lib.hid (show wsum allQ (·.gl) (ofGood g ((exactS l1 t).take (k + 1))) = u + z.gr by rw [HQ2.out, wsum_snoc, HU.out, HG1.out]; rfl)
                clear hs
                by_cases hc1 : z.ce < x.2.1
                · have hc2 : z.ce ≤ x.2.1 := by omega
                  have HUP := Lib.hid (show upTo (ofGood g ((exactS l1 t).take (k + 1))) x.2.1 = v + z.gr by
                    have hv := HV.out
                    unfold upTo at hv ⊢
                    rw [HQ2.out, wsum_snoc, hv, if_pos (by simp [leQ, HC1.out, hc2]), HG1.out])
                  have HLS := Lib.hid (show upTo (ofGood g ((exactS l1 t).take (k + 1))) (x.2.1 - 1) = y + z.gr by
                    have hv := HY.out
                    unfold upTo at hv ⊢
                    rw [HQ2.out, wsum_snoc, hv, if_pos (by simp [leQ, HC1.out]; omega), HG1.out])
                  go_wp2_with fail
                  go_quiet (fail)
                  go_wp2_with fail
                  go_quiet (fail)
                  go_wp2_with fail
                  go_roundw
                  case rel => exact ⟨k + 1, by omega, by go_num, by rw [HAL.out], by rw [HUP.out], by rw [HLS.out], below_drewN HBs.out _⟩
                  case measure => simp [intOf]; omega
                · have HLS := Lib.hid (show upTo (ofGood g ((exactS l1 t).take (k + 1))) (x.2.1 - 1) = y by
                    have hv := HY.out
                    unfold upTo at hv ⊢
                    rw [HQ2.out, wsum_snoc, hv, if_neg (by simp [leQ, HC1.out]; omega), Int.add_zero])
                  by_cases hc2 : z.ce ≤ x.2.1
                  · have HUP := Lib.hid (show upTo (ofGood g ((exactS l1 t).take (k + 1))) x.2.1 = v + z.gr by
                      have hv := HV.out
                      unfold upTo at hv ⊢
                      rw [HQ2.out, wsum_snoc, hv, if_pos (by simp [leQ, HC1.out, hc2]), HG1.out])
                    go_wp2_with fail
                    go_quiet (fail)
                    go_wp2_with fail
                    go_quiet (fail)
                    go_wp2_with fail
                    go_roundw
                    case rel => exact ⟨k + 1, by omega, by go_num, by rw [HAL.out], by rw [HUP.out], by rw [HLS.out], below_drewN HBs.out _⟩
                    case measure => simp [intOf]; omega
                  · have HUP := Lib.hid (show upTo (ofGood g ((exactS l1 t).take (k + 1))) x.2.1 = v by
                      have hv := HV.out
                      unfold upTo at hv ⊢
                      rw [HQ2.out, wsum_snoc, hv, if_neg (by simp [leQ, HC1.out]; omega), Int.add_zero])
                    go_wp2_with fail
                    go_quiet (fail)
                    go_wp2_with fail
                    go_quiet (fail)
                    go_wp2_with fail
                    go_roundw
                    case rel => exact ⟨k + 1, by omega, by go_num, by rw [HAL.out], by rw [HUP.out], by rw [HLS.out], below_drewN HBs.out _⟩
                    case measure => simp [intOf]; omega
              · have hsb : (q.gd != (g : Int)) = true := by simpa using hs
                have HS := Lib.hid hs
                clear hs
                go_wp2_with fail
                go_roundw
                case rel => exact ⟨k + 1, by omega, by go_num, by rw [HQ.out, if_neg HS.out, HU.out], by rw [HQ.out, if_neg HS.out, HV.out], by rw [HQ.out, if_neg HS.out, HY.out], HBs.out⟩
                case measure => simp [intOf]; omega
            · have HK2 := Lib.hid (show m ≤ k by omega)
              have HTK := Lib.hid (show (exactS l1 t).take k = exactS l1 t from List.take_of_length_le (by have := HXL.out; omega))
              rw [HTK.out, show wsum allQ (·.gl) (ofGood g (exactS l1 t)) = gramsHi (ofGood g (exactS l1 t)) from HGX.out]
              have up1 := upTo_bd HGG.out x.2.1
              have up2 := upTo_bd HGG.out (x.2.1 - 1)
              have hh := HH.out
              generalize gramsHi (ofGood g (exactS l1 t)) = al at hh ⊢
              generalize upTo (ofGood g (exactS l1 t)) x.2.1 = up at hh up1 ⊢
              generalize upTo (ofGood g (exactS l1 t)) (x.2.1 - 1) = ls at hh up2 ⊢
              obtain ⟨v1, v2, v3⟩ := x
              simp only at hh x0 x1 ⊢
              obtain ⟨q1, q2⟩ := up1
              obtain ⟨q3, q4⟩ := up2
              rcases hh with ⟨rfl, rfl, h3⟩ | ⟨rfl, h2, h3, rfl, h5, h6⟩
              · obtain ⟨rfl, rfl⟩ : v2 = 0 ∧ v3 = 0 := by simpa using h3
                clear h3
                go_wp2_with fail
                go_roundw
                case rel => exact ⟨g + 1, by omega, by go_num, HZ.out⟩
                case measure => simp [intOf]; omega
              · have hn0 : (al == 0) = false := by simpa using h2
                clear h2
                go_wp2_with fail
                go_roundw
                case rel => exact ⟨g + 1, by omega, by go_num, HZ.out⟩
                case measure => simp [intOf]; omega
        · have HGD := Lib.hid (show (g : Int) = gd by omega)
          go_wp2_with fail
          refine (awake_any _).mono ?_
          rintro e w9 ⟨rfl, hB9⟩
          have L9 := Lib.hid (Below.step hB9 (Below.step HB.out LX.out (Nat.le_refl _)) (Nat.le_refl _))
          clear hB9
          go_wp2_with fail
          go_ret
          exact ⟨rfl, L9.out⟩
end Go.Proofs.Ytkcdknjgjidnnaa
