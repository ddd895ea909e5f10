/-
  Turnover and Dues of the reference.
-/
import Derived.Test.YtkcdknjgjidnnaaRTurn
import Derived.Test.YtkcdknjgjidnnaaRDue
import Derived.Test.YtkcdknjgjidnnaaSteps
set_option linter.unusedVariables false
set_option linter.unusedSimpArgs false
namespace Go.Proofs.Ytkcdknjgjidnnaa
open Go.RowKit

set_option maxRecDepth 100000 in
set_option maxHeartbeats 1000000 in
theorem rturnover_any (st gd stall : Int) (b n c : Nat) (A : Option Addr) (l : List Sale) (w : World) (hl : Sl encS 6 w b A n l) (hn : n ≤ 1000000000000) :
    Calls Try.prog 30 #[.agg #[.int .i64 st, .int .i64 gd, .slice A n c], .int .i64 stall] w (SpanPost (turnOut st gd stall l) (turnErr st gd stall l) w) := by
  have hb0 : Below w.heap.size w ((w.alloc (.cells #[.int .i64 st, .int .i64 gd, .slice A n c] 24)).alloc (.cells #[.int .i64 0, .int .i64 0] 26)) := by go_grown
  have HB0 := Lib.hid hb0
  have HL := Lib.hid hl
  have hl0 := hl.old hb0
  have bk := (Blk.new w 24 #[.int .i64 st, .int .i64 gd, .slice A n c]).alloc (.cells #[.int .i64 0, .int .i64 0] 26)
  have bs := Blk.new (w.alloc (.cells #[.int .i64 st, .int .i64 gd, .slice A n c] 24)) 26 #[.int .i64 0, .int .i64 0]
  simp only [World.size_alloc] at bs
  clear hb0
  by_cases hc0 : check st gd l = 0
  · have HC := Lib.hid hc0
    have HIN := Lib.hid (check_zero.1 hc0)
    have hst1 : 1 ≤ st := HIN.out.st0
    have hst2 : st ≤ 8 := HIN.out.st1
    cases hg : inB stall 0 (st - 1)
    · have he : turnErr st gd stall l = 3 := by unfold turnErr; rw [if_neg (by simp [hc0]), hg]; rfl
      have ho : turnOut st gd stall l = ⟨0, 0⟩ := by unfold turnOut; rw [if_neg (by rw [he]; decide)]
      rw [he, ho]
      have HG := Lib.hid hg
      clear hg hc0 he ho
      go_enter Try.func30, Try.ntmps30
      go_wp2_with fail
      refine (rcheck_any st gd b n c A l _ hl0 hn).mono ?_
      rintro e w1 ⟨rfl, hb1⟩
      rw [HC.out]
      have HLow := Lib.hid (Below.step hb1 HB0.out (Nat.le_refl _))
      have k0 := (bk.below hb1 bk.lt).cell 0
      have HS := Lib.hid (bs.below hb1 bs.lt)
      have s0 := HS.out.cell 0
      have s1 := HS.out.cell 1
      have f0 := HS.out.frozen 0
      have f1 := HS.out.frozen 1
      clear hl hl0 bk bs hb1
      go_wp2_with fail
      refine (within_any _ _ _ _).mono ?_
      rintro e w2 ⟨rfl, rfl⟩
      rw [HG.out]
      go_wp2_with fail
      have hX9 := (HS.out.set_ 0 (.int .i64 0)).set_ 1 (.int .i64 0)
      have hL9 := (HLow.out.setCell (p := ⟨w.heap.size + 1, 0, none⟩) (by show w.heap.size ≤ w.heap.size + 1; omega) (.int .i64 0)).setCell (p := ⟨w.heap.size + 1, 1, none⟩) (by show w.heap.size ≤ w.heap.size + 1; omega) (.int .i64 0)
      have d0 := hX9.cell 0
      have d1 := hX9.cell 1
      refine bodyPost_ret (v := .tuple #[.agg #[.int .i64 0, .int .i64 0], .int .i64 3]) (by simp [results, Try.f30, go_sem, d0, d1]) rfl ?_
      exact ⟨rfl, hL9⟩
    · have he : turnErr st gd stall l = 0 := by unfold turnErr; rw [if_neg (by simp [hc0]), hg]; rfl
      have ho : turnOut st gd stall l = turn l stall := by unfold turnOut; rw [if_pos he]
      rw [he, ho]
      have HG := Lib.hid hg
      clear hg hc0 he ho
      go_enter Try.func30, Try.ntmps30
      go_wp2_with fail
      refine (rcheck_any st gd b n c A l _ hl0 hn).mono ?_
      rintro e w1 ⟨rfl, hb1⟩
      rw [HC.out]
      have HLow := Lib.hid (Below.step hb1 HB0.out (Nat.le_refl _))
      have HBK := Lib.hid (bk.below hb1 bk.lt)
      have k0 := HBK.out.cell 0
      have k1 := HBK.out.cell 1
      have k2 := HBK.out.cell 2
      have HS := Lib.hid (bs.below hb1 bs.lt)
      have HL1 := Lib.hid (HL.out.old HLow.out)
      clear hl hl0 bk bs hb1
      go_wp2_with fail
      refine (within_any _ _ _ _).mono ?_
      rintro e w2 ⟨rfl, rfl⟩
      rw [HG.out]
      go_wp2_with fail
      refine (rturn_any st gd stall b n c A l _ HL1.out HIN.out).mono ?_
      rintro e w3 ⟨rfl, hb3⟩
      have HLow3 := Lib.hid (Below.step hb3 HLow.out (Nat.le_refl _))
      have HS3 := Lib.hid (HS.out.below hb3 HS.out.lt)
      have s0 := HS3.out.cell 0
      have s1 := HS3.out.cell 1
      have f0 := HS3.out.frozen 0
      have f1 := HS3.out.frozen 1
      clear hb3 k0 k1 k2
      generalize htl : (turn l stall).lo = tl
      generalize hth : (turn l stall).hi = th
      have HT := Lib.hid (And.intro htl hth)
      clear htl hth
      go_wp2_with fail
      have hX9 := (HS3.out.set_ 0 (.int .i64 tl)).set_ 1 (.int .i64 th)
      have hL9 := (HLow3.out.setCell (p := ⟨w.heap.size + 1, 0, none⟩) (by show w.heap.size ≤ w.heap.size + 1; omega) (.int .i64 tl)).setCell (p := ⟨w.heap.size + 1, 1, none⟩) (by show w.heap.size ≤ w.heap.size + 1; omega) (.int .i64 th)
      have d0 := hX9.cell 0
      have d1 := hX9.cell 1
      refine bodyPost_ret (v := .tuple #[.agg #[.int .i64 tl, .int .i64 th], .int .i64 0]) (by simp [results, Try.f30, go_sem, d0, d1]) rfl ?_
      exact ⟨by rw [HT.out.1, HT.out.2], hL9⟩
  · have he : turnErr st gd stall l = check st gd l := by unfold turnErr; rw [if_pos hc0]
    have ho : turnOut st gd stall l = ⟨0, 0⟩ := by unfold turnOut; rw [if_neg (by rw [he]; exact hc0)]
    rw [he, ho]
    go_enter Try.func30, Try.ntmps30
    go_wp2_with fail
    refine (rcheck_any st gd b n c A l _ hl0 hn).mono ?_
    rintro e w1 ⟨rfl, hb1⟩
    have HLow := Lib.hid (Below.step hb1 HB0.out (Nat.le_refl _))
    have HS := Lib.hid (bs.below hb1 bs.lt)
    have s0 := HS.out.cell 0
    have s1 := HS.out.cell 1
    have f0 := HS.out.frozen 0
    have f1 := HS.out.frozen 1
    clear hl hl0 bk bs hb1
    go_wp2_with fail
    have hX9 := (HS.out.set_ 0 (.int .i64 0)).set_ 1 (.int .i64 0)
    have hL9 := (HLow.out.setCell (p := ⟨w.heap.size + 1, 0, none⟩) (by show w.heap.size ≤ w.heap.size + 1; omega) (.int .i64 0)).setCell (p := ⟨w.heap.size + 1, 1, none⟩) (by show w.heap.size ≤ w.heap.size + 1; omega) (.int .i64 0)
    have d0 := hX9.cell 0
    have d1 := hX9.cell 1
    refine bodyPost_ret (v := .tuple #[.agg #[.int .i64 0, .int .i64 0], .int .i64 (check st gd l)]) (by simp [results, Try.f30, go_sem, d0, d1]) rfl ?_
    exact ⟨rfl, hL9⟩

set_option maxRecDepth 100000 in
set_option maxHeartbeats 1000000 in
theorem rduesTop_any (st gd : Int) (b n c b2 n2 c2 : Nat) (A A2 : Option Addr) (l : List Sale) (steps : List Step) (w : World) (hl : Sl encS 6 w b A n l) (hp : Sl encP 2 w b2 A2 n2 steps) (hn : n ≤ 1000000000000) (hn2 : n2 ≤ 1000000000000) :
    Calls Try.prog 32 #[.agg #[.int .i64 st, .int .i64 gd, .slice A n c], .slice A2 n2 c2] w (DuesPost (duesOut st gd l steps) (duesErr st gd l steps) w) := by
  have HL := Lib.hid hl
  have HP := Lib.hid hp
  have HO := Lib.hid (OverBook.start w st gd A n c)
  clear hl hp
  cases hc : (check st gd l != 0)
  · have hc0 : check st gd l = 0 := by simpa using hc
    have HC := Lib.hid hc0
    have HIN := Lib.hid (check_zero.1 hc0)
    clear hc0
    cases hs : (chkSteps steps != 0)
    · have hs0 : chkSteps steps = 0 := by simpa using hs
      have HS := Lib.hid hs0
      have HSI := Lib.hid (chkSteps_zero hs0)
      have HE := Lib.hid (show duesErr st gd l steps = 0 from by unfold duesErr; rw [if_neg (by simp [HC.out]), hs0])
      have HD := Lib.hid (show duesOut st gd l steps = duesAll st.toNat l steps from by unfold duesOut; rw [if_pos HE.out])
      clear hs0
      obtain ⟨i0, hi, iz0, iz1, iz2⟩ := info_parts info_span
      go_enter Try.func32, Try.ntmps32
      go_wp2_with fail
      refine (rcheck_any st gd b n c A l _ (HL.out.alloc _) hn).mono ?_
      rintro e w1 ⟨rfl, hb1⟩
      have HO1 := Lib.hid (HO.out.below hb1)
      have HP1 := Lib.hid (HP.out.old HO1.out.low)
      clear hb1
      go_wp2_with fail
      refine (rcheckSteps_any b2 n2 c2 A2 steps _ HP1.out hn2).mono ?_
      rintro e w3 ⟨rfl, hb2⟩
      have HO3 := Lib.hid (HO1.out.below hb2)
      have hst1 := HIN.out.st0
      have hst2 := HIN.out.st1
      clear hb2
      go_wp2_with fail
      go_loopw [8, 9] (fun v i wr => ∃ (k c' : Nat) (A' : Option Addr), (k : Int) ≤ st ∧ i = .int .i64 k ∧ v = .slice A' k c' ∧ wr.ownsRow w3.heap.size 26 2 (.slice A' k c') k ((duesAll k l steps).flatMap encR) ∧ Below w3.heap.size w3 wr) (fun _ i _ => st.toNat - (intOf i).toNat)
      case atStart => exact ⟨0, 0, none, by omega, rfl, rfl, World.ownsRow_nil _ _ _ _, Below.refl _ _⟩
      case round =>
        obtain ⟨k, c', A', hk, rfl, rfl, hown, hB⟩ := hrel
        have HOWN := Lib.hid hown
        have HB := Lib.hid hB
        have hz : w3.heap.size ≤ wr.heap.size := hB.size
        have d0 := (HO3.out.blk.below hB HO3.out.blk.lt).cell 0
        have d1 := (HO3.out.blk.below hB HO3.out.blk.lt).cell 1
        have d2 := (HO3.out.blk.below hB HO3.out.blk.lt).cell 2
        clear hown hB
        by_cases hlt : (k : Int) < st
        · go_wp2_with fail
          refine (rturn_any st gd k b n c A l _ ((HL.out.old HO3.out.low).old HB.out) HIN.out).mono ?_
          rintro e wt ⟨rfl, hbt⟩
          obtain ⟨t1, t2, t3⟩ := turn_bd HIN.out.sales (k : Int)
          have t4 : (l.length : Int) ≤ 40 := by have := HIN.out.len; omega
          have t5 : (turn l (k : Int)).hi ≤ 400000000 := by omega
          have HBt := Lib.hid (HB.out.trans (hbt.mono hz))
          have hzt := hbt.size
          have HOt := Lib.hid (ownsRow_below HOWN.out hbt (Nat.le_refl _))
          clear hbt t3 t4 d0 d1 d2
          have HDS := Lib.hid (show dueSpan steps (turn l (k : Int)) = ⟨dues steps (turn l (k : Int)).lo, dues steps (turn l (k : Int)).hi⟩ from rfl)
          generalize hx : turn l (k : Int) = x at t1 t2 t5 HDS ⊢
          have HXX := Lib.hid hx
          clear hx
          go_wp2_with fail
          have HBa := Lib.hid (HBt.out.alloc (by omega) (.cells #[.int .i64 x.lo, .int .i64 x.hi] 26))
          have HOa := Lib.hid (HOt.out.alloc (.cells #[.int .i64 x.lo, .int .i64 x.hi] 26))
          have KX := Lib.hid (Blk.new wt 26 #[.int .i64 x.lo, .int .i64 x.hi])
          generalize hV : wt.alloc (.cells #[.int .i64 x.lo, .int .i64 x.hi] 26) = V at HBa HOa KX ⊢
          have hVz : V.heap.size = wt.heap.size + 1 := by rw [← hV]; simp
          have HVZ := Lib.hid hVz
          clear hV hVz
          have HPV := Lib.hid ((HP.out.old HO3.out.low).old HBa.out)
          have HBd := Lib.hid HBa.out.drew
          have HPd := Lib.hid HPV.out.drew
          have HOd := Lib.hid (ownsRow_drew HOa.out)
          have hVb : w3.heap.size ≤ V.heap.size := HBa.out.size
          refine wp_region_PL [3, 7] (fun w' => w'.cell? ⟨wt.heap.size, 0, none⟩ = some (.int .i64 x.lo) ∧ w'.cell? ⟨wt.heap.size, 1, none⟩ = some (.int .i64 x.hi)) rfl (by kernel_rfl) (⟨KX.out.drew.cell 0, KX.out.drew.cell 1⟩) (fun hF0 => ?_)
          (refine wpAnyP_takeL (i := 0) (v := ?_) rfl (by kernel_rfl) (by kernel_rfl) (by kernel_rfl) (fun _ _ _ h => h) (by rfl) ?_ ?_; rotate_left 1; focus (intro w; go_simp; try with_reducible rfl))
          try simp only [Act.put, List.setIfInBounds_toArray, List.set_cons_zero, List.set_cons_succ]
          (refine wpAnyP_takeL (i := 1) (v := ?_) rfl (by kernel_rfl) (by kernel_rfl) (by kernel_rfl) (fun _ _ _ h => h) (by rfl) ?_ ?_; rotate_left 1; focus (intro w; go_simp; try with_reducible rfl))
          try simp only [Act.put, List.setIfInBounds_toArray, List.set_cons_zero, List.set_cons_succ]
          (refine wpAnyP_takeL (i := 2) (v := ?_) rfl (by kernel_rfl) (by kernel_rfl) (by kernel_rfl) (fun _ _ _ h => h) (by rfl) ?_ ?_; rotate_left 1; focus (intro w; go_simp; try with_reducible rfl))
          try simp only [Act.put, List.setIfInBounds_toArray, List.set_cons_zero, List.set_cons_succ]
          (refine wpAnyP_loadL (i := 3) (v := ?_) rfl (by kernel_rfl) (by kernel_rfl) (by kernel_rfl) (by rfl) (fun _ _ _ h => h) hF0 (by rfl) ?_ ?_; rotate_left 1; focus (intro w hFw; (try dsimp only at hFw); go_split_ands; go_simp; try with_reducible rfl))
          try simp only [Act.put, List.setIfInBounds_toArray, List.set_cons_zero, List.set_cons_succ]
          (refine wpAnyP_takeL (i := 5) (v := ?_) rfl (by kernel_rfl) (by kernel_rfl) (by kernel_rfl) (fun _ _ _ h => h) (by rfl) ?_ ?_; rotate_left 1; focus (intro w; go_simp; try with_reducible rfl))
          try simp only [Act.put, List.setIfInBounds_toArray, List.set_cons_zero, List.set_cons_succ]
          (refine wpAnyP_takeL (i := 6) (v := ?_) rfl (by kernel_rfl) (by kernel_rfl) (by kernel_rfl) (fun _ _ _ h => h) (by rfl) ?_ ?_; rotate_left 1; focus (intro w; go_simp; try with_reducible rfl))
          try simp only [Act.put, List.setIfInBounds_toArray, List.set_cons_zero, List.set_cons_succ]
          (refine wpAnyP_loadL (i := 7) (v := ?_) rfl (by kernel_rfl) (by kernel_rfl) (by kernel_rfl) (by rfl) (fun _ _ _ h => h) hF0 (by rfl) ?_ ?_; rotate_left 1; focus (intro w hFw; (try dsimp only at hFw); go_split_ands; go_simp; try with_reducible rfl))
          try simp only [Act.put, List.setIfInBounds_toArray, List.set_cons_zero, List.set_cons_succ]
          refine wpAnyP_step (i := 4) rfl (by kernel_rfl) (by rfl) (fun K hK => ?_)
          go_simp
          (refine (rdue_any b2 n2 c2 A2 steps x.lo _ HPd.out HSI.out t1 (by omega)).mono ?_; rintro e w4 ⟨rfl, hb4⟩; have hz4 : V.heap.size ≤ w4.heap.size := hb4.size; have hP4 := Lib.hid (HPd.out.old hb4); have HB4 := Lib.hid (Below.step hb4 HBd.out (Nat.le_refl _)); have HW4 := Lib.hid (ownsRow_below HOd.out hb4 (Nat.le_refl _)); have KX4 := Lib.hid (KX.out.drew.below hb4 (show wt.heap.size < V.heap.size by have := HVZ.out; omega)); clear hb4)
          (refine hK _ _ (⟨KX4.out.cell 0, KX4.out.cell 1⟩) (fun hF1 => ?_); clear hK K hF0)
          try simp only [Act.put, List.setIfInBounds_toArray, List.set_cons_zero, List.set_cons_succ]
          refine wpAnyP_step (i := 8) rfl (by kernel_rfl) (by rfl) (fun K hK => ?_)
          go_simp
          (refine (rdue_any b2 n2 c2 A2 steps x.hi _ hP4.out HSI.out (by omega) (by omega)).mono ?_; rintro e w5 ⟨rfl, hb5⟩; have hz5 := hb5.size; have HB5 := Lib.hid (Below.step hb5 HB4.out (Nat.le_refl _)); have HW5 := Lib.hid (ownsRow_below HW4.out hb5 (Nat.le_refl _)); have KX5 := Lib.hid (KX4.out.below hb5 (by have := HVZ.out; omega)); clear hb5)
          (refine hK _ _ (⟨KX5.out.cell 0, KX5.out.cell 1⟩) (fun hF2 => ?_); clear hK K hF1)
          try simp only [Act.put, List.setIfInBounds_toArray, List.set_cons_zero, List.set_cons_succ]
          (refine wpAnyP_takeL (i := 9) (v := ?_) rfl (by kernel_rfl) (by kernel_rfl) (by kernel_rfl) (fun _ _ _ h => h) (by rfl) ?_ ?_; rotate_left 1; focus (intro w; go_simp; try with_reducible rfl))
          try simp only [Act.put, List.setIfInBounds_toArray, List.set_cons_zero, List.set_cons_succ]
          refine wpAnyP_step (i := 10) rfl (by kernel_rfl) (by rfl) (fun K hK => ?_)
          go_simp
          (refine hK _ _ (⟨(KX5.out.alloc _).cell 0, (KX5.out.alloc _).cell 1⟩) (fun hF3 => ?_); clear hK K hF2)
          try simp only [Act.put, List.setIfInBounds_toArray, List.set_cons_zero, List.set_cons_succ]
          refine wpAnyP_step (i := 11) rfl (by kernel_rfl) (by rfl) (fun K hK => ?_)
          (refine wp_append_lies _ _ _ _ rfl w3.heap.size 26 i0 _ 2 16 Try.underlying58 hi iz0 iz1 iz2 rfl (by omega) _ k _ (by rfl) (HW5.out.alloc _) ⟨w5.heap.size, 0, none⟩ 1 1 (encR (dueSpan steps x)) (by rfl) (by rfl) (World.news_of_block (heap_alloc_new w5 _)) (oneR _) (by omega) (by unfold maxLen; omega) (by omega) (by simp; omega) (w5.heap.size + 1) (by simp) ?_; intro g' cap w6 hown6 hgrow hat hlt6; have h9 := (KX5.out.alloc (.cells #[.int .i64 (dues steps x.lo), .int .i64 (dues steps x.hi)] 26)).grown hgrow (fun e => (by have := (HOWN.out.lt _ e.symm).2; omega)))
          (refine hK _ _ (⟨h9.cell 0, h9.cell 1⟩) (fun hF4 => ?_); clear hK K hF3)
          try simp only [Act.put, List.setIfInBounds_toArray, List.set_cons_zero, List.set_cons_succ]
          (refine wpAnyP_takeL (i := 12) (v := ?_) rfl (by kernel_rfl) (by kernel_rfl) (by kernel_rfl) (fun _ _ _ h => h) (by rfl) ?_ ?_; rotate_left 1; focus (intro w; go_simp; try with_reducible rfl))
          try simp only [Act.put, List.setIfInBounds_toArray, List.set_cons_zero, List.set_cons_succ]
          refine wpAnyP_done (by kernel_rfl) ?_ _
          have HW6 := Lib.hid hown6
          have HB6 := Lib.hid (below_own (HW5.out.alloc _) hgrow (HB5.out.alloc (by omega) _) (Nat.le_refl _) (Nat.le_refl _))
          clear hown6 hgrow hat hlt6
          go_wp2_with fail
          go_roundw
          case rel => exact ⟨k + 1, cap, _, by omega, by go_num, rfl, by rw [duesAll_succ, HXX.out]; simpa using HW6.out, HB6.out⟩
          case measure => simp [intOf]; omega
        · have hkn : st ≤ (k : Int) := by omega
          have HK := Lib.hid (show st.toNat = k by omega)
          go_wp2_with fail
          go_ret2
          obtain ⟨b', hb', hsl⟩ := Sl.of_own encR_len (duesAll_len k l steps).symm HOWN.out
          refine ⟨A', c', b', ?_, ?_, Below.step HB.out HO3.out.low (Nat.le_refl _)⟩
          · rw [HE.out, HD.out, HK.out, duesAll_len]
            rfl
          · rw [HD.out, HK.out, duesAll_len]
            exact hsl
    · have hs0 : chkSteps steps ≠ 0 := by simpa using hs
      have HE := Lib.hid (show duesErr st gd l steps = chkSteps steps from by unfold duesErr; rw [if_neg (by simp [HC.out])])
      have HD := Lib.hid (show duesOut st gd l steps = [] from by unfold duesOut; rw [if_neg (by rw [HE.out]; exact hs0)])
      clear hs0
      go_enter Try.func32, Try.ntmps32
      go_wp2_with fail
      refine (rcheck_any st gd b n c A l _ (HL.out.alloc _) hn).mono ?_
      rintro e w1 ⟨rfl, hb1⟩
      have HO1 := Lib.hid (HO.out.below hb1)
      have HP1 := Lib.hid (HP.out.old HO1.out.low)
      clear hb1
      go_wp2_with fail
      refine (rcheckSteps_any b2 n2 c2 A2 steps _ HP1.out hn2).mono ?_
      rintro e w2 ⟨rfl, hb2⟩
      have HO2 := Lib.hid (HO1.out.below hb2)
      clear hb2
      go_wp2_with fail
      go_ret2
      exact ⟨none, 0, 0, by rw [HE.out, HD.out]; rfl, by rw [HD.out]; exact Sl.nil _ _ _, HO2.out.low⟩
  · have hc0 : check st gd l ≠ 0 := by simpa using hc
    have HE := Lib.hid (show duesErr st gd l steps = check st gd l from by unfold duesErr; rw [if_pos hc0])
    have HD := Lib.hid (show duesOut st gd l steps = [] from by unfold duesOut; rw [if_neg (by rw [HE.out]; exact hc0)])
    clear hc0
    go_enter Try.func32, Try.ntmps32
    go_wp2_with fail
    refine (rcheck_any st gd b n c A l _ (HL.out.alloc _) hn).mono ?_
    rintro e w1 ⟨rfl, hb1⟩
    have HO1 := Lib.hid (HO.out.below hb1)
    clear hb1
    go_wp2_with fail
    go_ret2
    exact ⟨none, 0, 0, by rw [HE.out, HD.out]; rfl, by rw [HD.out]; exact Sl.nil _ _ _, HO1.out.low⟩
end Go.Proofs.Ytkcdknjgjidnnaa
