/-
  The walk of the law TraceBack.
-/
import Derived.Test.YtkphgdkjjklajaaTrLaw
import Derived.Test.YtkphgdkjjklajaaTrOri
import Derived.Deep.QuietTactic
import Derived.Deep.CutRange
import Derived.BigQuiet
set_option linter.unusedVariables false
set_option linter.unusedSimpArgs false
namespace Go.Proofs.Ytkphgdkjjklajaa
open Go.RowKit Go.Shelf Go.Sort

def backT (bs : List Int) (ms : List Mv) (batch : Int) (k : Nat) : List Int := (rg k).filter fun o => decide (0 < mostF bs.length (bsF bs) [o] ms batch)
theorem back_yes {bs : List Int} {ms : List Mv} {batch : Int} {k : Nat} (h : 0 < mostF bs.length (bsF bs) [(k : Int)] ms batch) : backT bs ms batch (k + 1) = backT bs ms batch k ++ [(k : Int)] := by
  unfold backT; rw [rg_take_snoc, List.filter_append]; simp [h]
theorem back_no {bs : List Int} {ms : List Mv} {batch : Int} {k : Nat} (h : ¬ 0 < mostF bs.length (bsF bs) [(k : Int)] ms batch) : backT bs ms batch (k + 1) = backT bs ms batch k := by
  unfold backT; rw [rg_take_snoc, List.filter_append]; simp [h]
theorem back_len (bs : List Int) (ms : List Mv) (batch : Int) (k : Nat) : (backT bs ms batch k).length ≤ k := by
  unfold backT
  have := List.length_filter_le (fun o => decide (0 < mostF bs.length (bsF bs) [o] ms batch)) (rg k)
  rwa [rg_length] at this
theorem back_in (bs : List Int) (ms : List Mv) (batch : Int) : OrgIn bs.length (originsT bs ms batch) :=
  ⟨fun _ ho => mem_rg.1 (List.mem_filter.1 ho).1, (rg_pairwise _).filter _⟩
theorem one_in {n : Nat} {o : Int} (h0 : 0 ≤ o) (h1 : o < n) : OrgIn n [o] := ⟨fun x hx => by rw [List.mem_singleton.1 hx]; exact ⟨h0, h1⟩, List.pairwise_singleton ..⟩
theorem back_all {bs : List Int} {ms : List Mv} (h : NetIn bs ms) {b : Int} (h0 : 0 ≤ b) (h1 : b < bs.length) : mayT bs (originsT bs ms b) ms b = ⟨hasAt (bsF bs) ms b, hasAt (bsF bs) ms b⟩ := by
  have h2 : mostF bs.length (bsF bs) (othersT bs.length (originsT bs ms b)) ms b ≤ 0 := by
    refine mostF_each h.pos h.ms fun o ho => ?_
    obtain ⟨h3, h4⟩ := mem_others.1 ho
    have h5 : ¬ (0 < mostF bs.length (bsF bs) [o] ms b) := fun h6 => h4 (List.mem_filter.2 ⟨mem_rg.2 h3, by simpa using h6⟩)
    omega
  have h3 := mostF_nonneg h.pos h.ms (othersT bs.length (originsT bs ms b)) b
  have h4 := mostF_le_has h.pos h.ms (originsT bs ms b) h0 h1
  have h5 := mostF_add h.pos h.ms (l := originsT bs ms b) (k := othersT bs.length (originsT bs ms b)) (j := rg bs.length) (fun x hx => by
    by_cases hm : x ∈ originsT bs ms b
    · exact .inl hm
    · exact .inr (mem_others.2 ⟨mem_rg.1 hx, hm⟩)) b
  rw [mostF_all h.ms (l := rg bs.length) (fun b b0 b1 => mem_rg.2 ⟨b0, b1⟩) h0 h1] at h5
  unfold mayT
  have e1 : mostF bs.length (bsF bs) (othersT bs.length (originsT bs ms b)) ms b = 0 := by omega
  have e2 : mostF bs.length (bsF bs) (originsT bs ms b) ms b = hasAt (bsF bs) ms b := by omega
  rw [e1, e2, Int.sub_zero]

set_option maxRecDepth 100000 in
set_option maxHeartbeats 2000000 in
theorem traceBack_any (A : Option Addr) (n c : Nat) (w : World) (hN : Nums w A n) : Calls Try.prog 12 #[.slice A n c] w fun e w' => e = .returned (.bool true) ∧ Below w.heap.size w w' := by
  obtain ⟨i0, hi, iz0, iz1, iz2⟩ := info_parts info_int
  go_enter Try.func12, Try.ntmps12
  obtain ⟨b, l0, hl0, hw0, hn0⟩ := hN
  go_wp2_with fail
  refine (dieOf_any b n c A l0 _ hl0 hn0 hw0).mono ?_
  rintro e w1 ⟨d, hd, rfl, hdie, hB1⟩
  have HB1 := Lib.hid hB1
  have hz1 := hB1.size
  clear hl0 hw0 hB1
  go_wp2_with fail
  refine (one_any d _ 2 2 _ [5, 60] _ (hdie.alloc _) (Sl.newI w1 [5, 60] 3) (by omega) (by omega) (by have := hdie.lt; omega)).mono ?_
  rintro e w2 ⟨g, hg, rfl, hd2, hg2⟩
  have hgb : 0 ≤ g ∧ g ≤ 1000000 := by simp at hg; omega
  have HG2 := Lib.hid (only_step hg2 (only_alloc (only_refl w1 d) _) (.inl rfl))
  clear hg hg2
  go_wp2_with fail
  refine (netOf_any d 6 8 g _ hd2 (by omega) (by omega) (by omega) hgb.1 hgb.2).mono ?_
  rintro e w3 ⟨bs, ms, b1, b2, Ab, Am, nb, cb, nm, cm, hNI, hnb, hnm, rfl, hNM, hb1, hb2, hd3, hg3⟩
  have hz2 := HG2.out.size
  have hg13 := only_trans HG2.out hg3
  have hz3 := hg3.size
  have hdz2 := hd2.lt
  have HB3 := Lib.hid (Below.stepG hg13 HB1.out (Nat.le_refl _) hd)
  have HS3 := Lib.hid (show LawSt w (w3.alloc (.cells #[.slice Ab nb cb, .slice Am nm cm] 25)) d w3.heap.size b1 b2 Ab Am nb cb nm cm bs ms from ⟨HB3.out.alloc HB3.out.size _, Blk.new w3 _ _, hNM.old ((Below.refl _ w3).alloc (Nat.le_refl _) _), hNI, hd3.alloc _, by omega, by omega, by omega, hd⟩)
  have hnb8 : nb ≤ 8 := by omega
  have hnm12 : nm ≤ 12 := by omega
  have HNB := Lib.hid HS3.out.nb_eq
  have HNMq := Lib.hid HS3.out.nm_eq
  clear hd2 hNM hNI hd3 hg3 hg13 hb1 hb2
  have hn0 : 0 < nb := by have := HNB.out; have := HS3.out.ni.n0; omega
  have c0 := HS3.out.blk.cell 0
  go_wp2_with fail
  refine (cast_any d (nb : Int) _ HS3.out.die (by omega)).mono ?_
  rintro e w4 ⟨bt, ⟨hbt0, hbt1, hbt2⟩, rfl, hd4, hg4⟩
  have hbt3 : bt < nb := by by_cases h : (nb : Int) < 2 <;> omega
  obtain ⟨bt, rfl⟩ := Int.eq_ofNat_of_zero_le hbt0
  have HS4 := Lib.hid (HS3.out.dieTo hd4 hg4)
  have hbb : bt < bs.length := by have := HNB.out; omega
  clear c0 hd4 hg4 hbt1 hbt2
  have c0 := HS4.out.blk.cell 0
  have c1 := HS4.out.blk.cell 1
  go_wp2_with fail
  refine (Origins_ok b1 b2 Ab Am nb cb nm cm bs ms bt _ HS4.out.net (chkNet_zero HS4.out.ni) hbb).mono ?_
  rintro e w5 ⟨A5, c5, rfl, ho5, hB5⟩
  obtain ⟨b5, _, hs5⟩ := Sl.of_own (enc := encI) encI_len rfl ho5
  have HS5 := Lib.hid (HS4.out.below hB5)
  have HO5 := Lib.hid hs5
  clear c0 c1 ho5 hs5 hB5
  have c0 := HS5.out.blk.cell 0
  go_wp2_with fail
  clear c0
  go_loopw [8, 9] (fun v i wr => ∃ (k cD : Nat) (AD : Option Addr), k ≤ nb ∧ i = .int .i64 k ∧ v = .slice AD (backT bs ms bt k).length cD ∧ wr.ownsRow w5.heap.size 3 1 (.slice AD (backT bs ms bt k).length cD) (backT bs ms bt k).length ((backT bs ms bt k).flatMap encI) ∧ LawSt w wr d w3.heap.size b1 b2 Ab Am nb cb nm cm bs ms ∧ Sl encI 1 wr b5 A5 (originsT bs ms bt).length (originsT bs ms bt) ∧ w5.heap.size ≤ wr.heap.size) (fun _ i _ => nb - (intOf i).toNat)
  case atStart => exact ⟨0, 0, none, Nat.zero_le _, rfl, rfl, World.ownsRow_nil _ _ _ _, HS5.out, HO5.out, Nat.le_refl _⟩
  case round =>
    obtain ⟨k, cD, AD, hk, rfl, rfl, hown, hS, hO, hz5⟩ := hrel
    have HOWN := Lib.hid hown
    have HS := Lib.hid hS
    have HO := Lib.hid hO
    have hbl := back_len bs ms bt k
    have c0 := hS.blk.cell 0
    have c1 := hS.blk.cell 1
    clear hown hS hO
    by_cases hlt : k < nb
    · have hkb : k < bs.length := by have := HNB.out; omega
      have HSa := Lib.hid (HS.out.alloc (.cells #[.int .i64 (k : Int)] 3))
      have HK1 := Lib.hid (Sl.newI wr [(k : Int)] 3)
      go_wp2_with fail
      refine (HSa.out.reach HK1.out (one_in (by omega) (by omega))).mono ?_
      rintro e w6 ⟨A6, c6, b6, rfl, hs6, hB6⟩
      have hb6 := ((Below.refl _ wr).alloc (Nat.le_refl _) (.cells #[.int .i64 (k : Int)] 3)).trans (hB6.mono (by simp))
      have HS6 := Lib.hid (HS.out.below hb6)
      have HO6 := Lib.hid (HO.out.old hb6)
      have HW6 := Lib.hid (ownsRow_below HOWN.out hb6 (Nat.le_refl _))
      have hz6 := hb6.size
      obtain ⟨o6, rfl, _, x0, x1⟩ := hs6.atR (k := bt) (by rw [reach_len]; exact hbb)
      rw [reach_get _ _ _ hbb] at x0 x1
      have hmx : (mayT bs [(k : Int)] ms bt).hi = mostF bs.length (bsF bs) [(k : Int)] ms bt := rfl
      rw [hmx] at x1
      have bt0 : (0 : Int) ≤ (bt : Int) := by omega
      clear c0 c1 hB6 hs6 hmx
      have c0 := HS6.out.blk.cell 0
      clear hb6
      by_cases hp : 0 < mostF bs.length (bsF bs) [(k : Int)] ms bt
      · have HM := Lib.hid (back_yes hp)
        generalize mostF bs.length (bsF bs) [(k : Int)] ms bt = X at x1 hp
        go_wp2_with (at_builtin; refine wpList_append_sl rfl _ _ 22 rfl w5.heap.size 3 i0 _ 8 Try.underlying22 hi iz0 iz1 iz2 rfl (by omega) encI_len _ (backT bs ms bt k).length _ rfl (HW6.out.alloc _) w6.heap.size _ 1 1 [(k : Int)] rfl (Sl.newI w6 [(k : Int)] 3) oneI (by unfold maxLen; omega) (by omega) (by simp only [World.size_alloc]; omega) ?_; intro A7 c7 w7 hO7 hg7 _; have HO7 := Lib.hid hO7; have hoA := HW6.out.alloc (.cells #[.int .i64 (k : Int)] 3); have HS7 := Lib.hid ((HS6.out.alloc (.cells #[.int .i64 (k : Int)] 3)).grownOn HS5.out hg7 (fun r e => (hoA.lt r e).1)); have HR7 := Lib.hid ((HO6.out.alloc (.cells #[.int .i64 (k : Int)] 3)).grown hg7 (fun hn e => by have := (hoA.lt b5 e.symm).1; have := HO5.out.lt hn; omega)); have hz7 := hg7.size; clear hO7 hg7 hoA)
        go_roundw
        case rel =>
          have e : (backT bs ms bt k).length + 1 = (backT bs ms bt (k + 1)).length := by rw [HM.out]; simp
          exact ⟨k + 1, c7, A7, by omega, by go_num, by rw [e], by rw [← e, HM.out, List.flatMap_append]; exact HO7.out, HS7.out, HR7.out, by simp at hz7; omega⟩
        case measure => simp [intOf]; omega
      · have HM := Lib.hid (back_no hp)
        generalize mostF bs.length (bsF bs) [(k : Int)] ms bt = X at x1 hp
        go_wp2_with fail
        go_roundw
        case rel => exact ⟨k + 1, cD, AD, by omega, by go_num, by rw [HM.out], by rw [HM.out]; exact HW6.out, HS6.out, HO6.out, by omega⟩
        case measure => simp [intOf]; omega
    · obtain rfl : nb = k := by omega
      have hbo : backT bs ms bt nb = originsT bs ms bt := by rw [HNB.out]; rfl
      have hw := HOWN.out
      rw [hbo] at hw ⊢
      obtain ⟨b6, _, hs6⟩ := Sl.of_own (enc := encI) encI_len rfl hw
      have HD := Lib.hid hs6
      have HIN := Lib.hid (back_in bs ms bt)
      have hol8 : (originsT bs ms bt).length ≤ 8 := by have := orig_len HIN.out.nodup HIN.out.rg HS.out.ni.n1; omega
      clear hw hs6 hbo
      go_wp2_with fail
      refine (LawSt.reach HS.out HD.out HIN.out).mono ?_
      rintro e w56 ⟨A16, c16, b16, rfl, hs16, hB⟩
      have HS_16 := Lib.hid (HS.out.below hB)
      have HD_16 := Lib.hid (HD.out.old hB)
      have HO_16 := Lib.hid (HO.out.old hB)
      have HA_16 := Lib.hid (hs16)
      try clear c0
      try clear c1
      clear hB
      have c0 := HS_16.out.blk.cell 0
      have c1 := HS_16.out.blk.cell 1
      clear hs16
      go_wp2_with fail
      refine (LawSt.holds HS_16.out).mono ?_
      rintro e w57 ⟨A17, c17, b17, rfl, hs17, hB⟩
      have HS_17 := Lib.hid (HS_16.out.below hB)
      have HD_17 := Lib.hid (HD_16.out.old hB)
      have HO_17 := Lib.hid (HO_16.out.old hB)
      have HA_17 := Lib.hid (HA_16.out.old hB)
      have HH_17 := Lib.hid (hs17)
      try clear c0
      try clear c1
      clear hB
      have c0 := HS_17.out.blk.cell 0
      have c1 := HS_17.out.blk.cell 1
      clear hs17
      go_wp2_with fail
      obtain ⟨o16, rfl, hz16, x0, x1⟩ := HA_17.out.atR (k := bt) (by rw [reach_len]; exact hbb)
      obtain ⟨o17, rfl, hz17, z0⟩ := HH_17.out.atI (k := bt) (by rw [holds_len]; exact hbb)
      rw [holds_get _ _ hbb] at z0
      rw [reach_get _ _ _ hbb, back_all HS3.out.ni (by omega) (by omega)] at x0 x1
      obtain ⟨zb0, zb1⟩ := HS3.out.ni.bd (bt : Int)
      generalize hasAt (bsF bs) ms bt = Z at z0 x0 x1 zb0 zb1
      simp only at x0 x1
      have k0 : (0 : Int) ≤ (bt : Int) := by omega
      have k1 : (bt : Int) < (nb : Int) := by omega
      have HF := Lib.hid (show ∀ W, Below w57.heap.size w57 W → W.cell? ⟨w3.heap.size, 0, none⟩ = some (.slice Ab nb cb) ∧ W.cell? ⟨b16, o16 + bt * 2, none⟩ = some (.int .i64 Z) ∧ W.cell? ⟨b16, o16 + bt * 2 + 1, none⟩ = some (.int .i64 Z) ∧ W.cell? ⟨b17, o17 + bt, none⟩ = some (.int .i64 Z) from fun W h =>
        ⟨(HS_17.out.below h).blk.cell 0, (h.cell (p := ⟨b16, o16 + bt * 2, none⟩) hz16).trans x0, (h.cell (p := ⟨b16, o16 + bt * 2 + 1, none⟩) hz16).trans x1, (h.cell (p := ⟨b17, o17 + bt, none⟩) hz17).trans z0⟩)
      clear x0 x1 z0 c0 c1
      have hM : Below w57.heap.size w57 w57.drew := (Below.refl _ w57).drew
      refine wp_region_PL [26, 34, 38, 42] (fun W => W.cell? ⟨w3.heap.size, 0, none⟩ = some (.slice Ab nb cb) ∧ W.cell? ⟨b16, o16 + bt * 2, none⟩ = some (.int .i64 Z) ∧ W.cell? ⟨b16, o16 + bt * 2 + 1, none⟩ = some (.int .i64 Z) ∧ W.cell? ⟨b17, o17 + bt, none⟩ = some (.int .i64 Z)) rfl (by kernel_rfl) (HF.out _ hM) (fun hF0 => ?_)
      (refine wpAnyP_takeL (i := 0) (v := ?_) rfl (by kernel_rfl) (by kernel_rfl) (by kernel_rfl) (fun _ _ _ h => h) (by rfl) ?_ ?_; rotate_left 1; focus (intro w; go_simp; try with_reducible rfl))
      try simp only [Act.put, List.setIfInBounds_toArray, List.set_cons_zero, List.set_cons_succ]
      (refine wpAnyP_takeL (i := 1) (v := ?_) rfl (by kernel_rfl) (by kernel_rfl) (by kernel_rfl) (fun _ _ _ h => h) (by rfl) ?_ ?_; rotate_left 1; focus (intro w; go_simp; try with_reducible rfl))
      try simp only [Act.put, List.setIfInBounds_toArray, List.set_cons_zero, List.set_cons_succ]
      (refine wpAnyP_takeL (i := 2) (v := ?_) rfl (by kernel_rfl) (by kernel_rfl) (by kernel_rfl) (fun _ _ _ h => h) (by rfl) ?_ ?_; rotate_left 1; focus (intro w; go_simp; try with_reducible rfl))
      try simp only [Act.put, List.setIfInBounds_toArray, List.set_cons_zero, List.set_cons_succ]
      (refine wpAnyP_takeL (i := 3) (v := ?_) rfl (by kernel_rfl) (by kernel_rfl) (by kernel_rfl) (fun _ _ _ h => h) (by rfl) ?_ ?_; rotate_left 1; focus (intro w; go_simp; try with_reducible rfl))
      try simp only [Act.put, List.setIfInBounds_toArray, List.set_cons_zero, List.set_cons_succ]
      (refine wpAnyP_takeL (i := 4) (v := ?_) rfl (by kernel_rfl) (by kernel_rfl) (by kernel_rfl) (fun _ _ _ h => h) (by rfl) ?_ ?_; rotate_left 1; focus (intro w; go_simp; try with_reducible rfl))
      try simp only [Act.put, List.setIfInBounds_toArray, List.set_cons_zero, List.set_cons_succ]
      (refine wpAnyP_takeL (i := 5) (v := ?_) rfl (by kernel_rfl) (by kernel_rfl) (by kernel_rfl) (fun _ _ _ h => h) (by rfl) ?_ ?_; rotate_left 1; focus (intro w; go_simp; try with_reducible rfl))
      try simp only [Act.put, List.setIfInBounds_toArray, List.set_cons_zero, List.set_cons_succ]
      (refine wpAnyP_takeL (i := 6) (v := ?_) rfl (by kernel_rfl) (by kernel_rfl) (by kernel_rfl) (fun _ _ _ h => h) (by rfl) ?_ ?_; rotate_left 1; focus (intro w; go_simp; try with_reducible rfl))
      try simp only [Act.put, List.setIfInBounds_toArray, List.set_cons_zero, List.set_cons_succ]
      (refine wpAnyP_takeL (i := 7) (v := ?_) rfl (by kernel_rfl) (by kernel_rfl) (by kernel_rfl) (fun _ _ _ h => h) (by rfl) ?_ ?_; rotate_left 1; focus (intro w; go_simp; try with_reducible rfl))
      try simp only [Act.put, List.setIfInBounds_toArray, List.set_cons_zero, List.set_cons_succ]
      (refine wpAnyP_takeL (i := 8) (v := ?_) rfl (by kernel_rfl) (by kernel_rfl) (by kernel_rfl) (fun _ _ _ h => h) (by rfl) ?_ ?_; rotate_left 1; focus (intro w; go_simp; try with_reducible rfl))
      try simp only [Act.put, List.setIfInBounds_toArray, List.set_cons_zero, List.set_cons_succ]
      (refine wpAnyP_takeL (i := 9) (v := ?_) rfl (by kernel_rfl) (by kernel_rfl) (by kernel_rfl) (fun _ _ _ h => h) (by rfl) ?_ ?_; rotate_left 1; focus (intro w; go_simp; try with_reducible rfl))
      try simp only [Act.put, List.setIfInBounds_toArray, List.set_cons_zero, List.set_cons_succ]
      (refine wpAnyP_takeL (i := 10) (v := ?_) rfl (by kernel_rfl) (by kernel_rfl) (by kernel_rfl) (fun _ _ _ h => h) (by rfl) ?_ ?_; rotate_left 1; focus (intro w; go_simp; try with_reducible rfl))
      try simp only [Act.put, List.setIfInBounds_toArray, List.set_cons_zero, List.set_cons_succ]
      (refine wpAnyP_takeL (i := 11) (v := ?_) rfl (by kernel_rfl) (by kernel_rfl) (by kernel_rfl) (fun _ _ _ h => h) (by rfl) ?_ ?_; rotate_left 1; focus (intro w; go_simp; try with_reducible rfl))
      try simp only [Act.put, List.setIfInBounds_toArray, List.set_cons_zero, List.set_cons_succ]
      (refine wpAnyP_takeL (i := 12) (v := ?_) rfl (by kernel_rfl) (by kernel_rfl) (by kernel_rfl) (fun _ _ _ h => h) (by rfl) ?_ ?_; rotate_left 1; focus (intro w; go_simp; try with_reducible rfl))
      try simp only [Act.put, List.setIfInBounds_toArray, List.set_cons_zero, List.set_cons_succ]
      refine wpAnyP_step (i := 13) rfl (by kernel_rfl) (by rfl) (fun K hK => ?_)
      go_simp
      (refine (sameInts_any b5 b6 _ _ c5 cD A5 AD _ _ _ (HO_17.out.old hM) (HD_17.out.old hM) (by omega)).mono ?_; rw [decide_eq_true rfl]; rintro e wa ⟨rfl, hBa⟩; have hM := hM.trans (hBa.mono hM.size))
      (refine hK _ _ (HF.out _ hM) (fun hF1 => ?_); clear hK K hF0)
      try simp only [Act.put, List.setIfInBounds_toArray, List.set_cons_zero, List.set_cons_succ]
      (refine wpAnyP_takeL (i := 14) (v := ?_) rfl (by kernel_rfl) (by kernel_rfl) (by kernel_rfl) (fun _ _ _ h => h) (by rfl) ?_ ?_; rotate_left 1; focus (intro w; go_simp; try with_reducible rfl))
      try simp only [Act.put, List.setIfInBounds_toArray, List.set_cons_zero, List.set_cons_succ]
      (refine wpAnyP_takeL (i := 15) (v := ?_) rfl (by kernel_rfl) (by kernel_rfl) (by kernel_rfl) (fun _ _ _ h => h) (by rfl) ?_ ?_; rotate_left 1; focus (intro w; go_simp; try with_reducible rfl))
      try simp only [Act.put, List.setIfInBounds_toArray, List.set_cons_zero, List.set_cons_succ]
      (refine wpAnyP_takeL (i := 16) (v := ?_) rfl (by kernel_rfl) (by kernel_rfl) (by kernel_rfl) (fun _ _ _ h => h) (by rfl) ?_ ?_; rotate_left 1; focus (intro w; go_simp; try with_reducible rfl))
      try simp only [Act.put, List.setIfInBounds_toArray, List.set_cons_zero, List.set_cons_succ]
      (refine wpAnyP_takeL (i := 17) (v := ?_) rfl (by kernel_rfl) (by kernel_rfl) (by kernel_rfl) (fun _ _ _ h => h) (by rfl) ?_ ?_; rotate_left 1; focus (intro w; go_simp; try with_reducible rfl))
      try simp only [Act.put, List.setIfInBounds_toArray, List.set_cons_zero, List.set_cons_succ]
      (refine wpAnyP_takeL (i := 18) (v := ?_) rfl (by kernel_rfl) (by kernel_rfl) (by kernel_rfl) (fun _ _ _ h => h) (by rfl) ?_ ?_; rotate_left 1; focus (intro w; go_simp; try with_reducible rfl))
      try simp only [Act.put, List.setIfInBounds_toArray, List.set_cons_zero, List.set_cons_succ]
      (refine wpAnyP_takeL (i := 19) (v := ?_) rfl (by kernel_rfl) (by kernel_rfl) (by kernel_rfl) (fun _ _ _ h => h) (by rfl) ?_ ?_; rotate_left 1; focus (intro w; go_simp; try with_reducible rfl))
      try simp only [Act.put, List.setIfInBounds_toArray, List.set_cons_zero, List.set_cons_succ]
      (refine wpAnyP_takeL (i := 20) (v := ?_) rfl (by kernel_rfl) (by kernel_rfl) (by kernel_rfl) (fun _ _ _ h => h) (by rfl) ?_ ?_; rotate_left 1; focus (intro w; go_simp; try with_reducible rfl))
      try simp only [Act.put, List.setIfInBounds_toArray, List.set_cons_zero, List.set_cons_succ]
      (refine wpAnyP_takeL (i := 21) (v := ?_) rfl (by kernel_rfl) (by kernel_rfl) (by kernel_rfl) (fun _ _ _ h => h) (by rfl) ?_ ?_; rotate_left 1; focus (intro w; go_simp; try with_reducible rfl))
      try simp only [Act.put, List.setIfInBounds_toArray, List.set_cons_zero, List.set_cons_succ]
      (refine wpAnyP_takeL (i := 22) (v := ?_) rfl (by kernel_rfl) (by kernel_rfl) (by kernel_rfl) (fun _ _ _ h => h) (by rfl) ?_ ?_; rotate_left 1; focus (intro w; go_simp; try with_reducible rfl))
      try simp only [Act.put, List.setIfInBounds_toArray, List.set_cons_zero, List.set_cons_succ]
      (refine wpAnyP_takeL (i := 23) (v := ?_) rfl (by kernel_rfl) (by kernel_rfl) (by kernel_rfl) (fun _ _ _ h => h) (by rfl) ?_ ?_; rotate_left 1; focus (intro w; go_simp; try with_reducible rfl))
      try simp only [Act.put, List.setIfInBounds_toArray, List.set_cons_zero, List.set_cons_succ]
      (refine wpAnyP_takeL (i := 24) (v := ?_) rfl (by kernel_rfl) (by kernel_rfl) (by kernel_rfl) (fun _ _ _ h => h) (by rfl) ?_ ?_; rotate_left 1; focus (intro w; go_simp; try with_reducible rfl))
      try simp only [Act.put, List.setIfInBounds_toArray, List.set_cons_zero, List.set_cons_succ]
      (refine wpAnyP_takeL (i := 25) (v := ?_) rfl (by kernel_rfl) (by kernel_rfl) (by kernel_rfl) (fun _ _ _ h => h) (by rfl) ?_ ?_; rotate_left 1; focus (intro w; go_simp; try with_reducible rfl))
      try simp only [Act.put, List.setIfInBounds_toArray, List.set_cons_zero, List.set_cons_succ]
      (refine wpAnyP_loadL (i := 26) (v := ?_) rfl (by kernel_rfl) (by kernel_rfl) (by kernel_rfl) (by rfl) (fun _ _ _ h => h) hF1 (by rfl) ?_ ?_; rotate_left 1; focus (intro w hFw; (try dsimp only at hFw); go_split_ands; go_simp; try with_reducible rfl))
      try simp only [Act.put, List.setIfInBounds_toArray, List.set_cons_zero, List.set_cons_succ]
      (refine wpAnyP_takeL (i := 27) (v := ?_) rfl (by kernel_rfl) (by kernel_rfl) (by kernel_rfl) (fun _ _ _ h => h) (by rfl) ?_ ?_; rotate_left 1; focus (intro w; go_simp; try with_reducible rfl))
      try simp only [Act.put, List.setIfInBounds_toArray, List.set_cons_zero, List.set_cons_succ]
      (refine wpAnyP_takeL (i := 28) (v := ?_) rfl (by kernel_rfl) (by kernel_rfl) (by kernel_rfl) (fun _ _ _ h => h) (by rfl) ?_ ?_; rotate_left 1; focus (intro w; go_simp; try with_reducible rfl))
      try simp only [Act.put, List.setIfInBounds_toArray, List.set_cons_zero, List.set_cons_succ]
      (refine wpAnyP_takeL (i := 29) (v := ?_) rfl (by kernel_rfl) (by kernel_rfl) (by kernel_rfl) (fun _ _ _ h => h) (by rfl) ?_ ?_; rotate_left 1; focus (intro w; go_simp; try with_reducible rfl))
      try simp only [Act.put, List.setIfInBounds_toArray, List.set_cons_zero, List.set_cons_succ]
      (refine wpAnyP_takeL (i := 30) (v := ?_) rfl (by kernel_rfl) (by kernel_rfl) (by kernel_rfl) (fun _ _ _ h => h) (by rfl) ?_ ?_; rotate_left 1; focus (intro w; go_simp; try with_reducible rfl))
      try simp only [Act.put, List.setIfInBounds_toArray, List.set_cons_zero, List.set_cons_succ]
      (refine wpAnyP_takeL (i := 31) (v := ?_) rfl (by kernel_rfl) (by kernel_rfl) (by kernel_rfl) (fun _ _ _ h => h) (by rfl) ?_ ?_; rotate_left 1; focus (intro w; go_simp; try with_reducible rfl))
      try simp only [Act.put, List.setIfInBounds_toArray, List.set_cons_zero, List.set_cons_succ]
      (refine wpAnyP_takeL (i := 32) (v := ?_) rfl (by kernel_rfl) (by kernel_rfl) (by kernel_rfl) (fun _ _ _ h => h) (by rfl) ?_ ?_; rotate_left 1; focus (intro w; go_simp; try with_reducible rfl))
      try simp only [Act.put, List.setIfInBounds_toArray, List.set_cons_zero, List.set_cons_succ]
      (refine wpAnyP_takeL (i := 33) (v := ?_) rfl (by kernel_rfl) (by kernel_rfl) (by kernel_rfl) (fun _ _ _ h => h) (by rfl) ?_ ?_; rotate_left 1; focus (intro w; go_simp; try with_reducible rfl))
      try simp only [Act.put, List.setIfInBounds_toArray, List.set_cons_zero, List.set_cons_succ]
      (refine wpAnyP_loadL (i := 34) (v := ?_) rfl (by kernel_rfl) (by kernel_rfl) (by kernel_rfl) (by rfl) (fun _ _ _ h => h) hF1 (by rfl) ?_ ?_; rotate_left 1; focus (intro w hFw; (try dsimp only at hFw); go_split_ands; go_simp; try with_reducible rfl))
      try simp only [Act.put, List.setIfInBounds_toArray, List.set_cons_zero, List.set_cons_succ]
      (refine wpAnyP_takeL (i := 35) (v := ?_) rfl (by kernel_rfl) (by kernel_rfl) (by kernel_rfl) (fun _ _ _ h => h) (by rfl) ?_ ?_; rotate_left 1; focus (intro w; go_simp; try with_reducible rfl))
      try simp only [Act.put, List.setIfInBounds_toArray, List.set_cons_zero, List.set_cons_succ]
      (refine wpAnyP_takeL (i := 36) (v := ?_) rfl (by kernel_rfl) (by kernel_rfl) (by kernel_rfl) (fun _ _ _ h => h) (by rfl) ?_ ?_; rotate_left 1; focus (intro w; go_simp; try with_reducible rfl))
      try simp only [Act.put, List.setIfInBounds_toArray, List.set_cons_zero, List.set_cons_succ]
      (refine wpAnyP_takeL (i := 37) (v := ?_) rfl (by kernel_rfl) (by kernel_rfl) (by kernel_rfl) (fun _ _ _ h => h) (by rfl) ?_ ?_; rotate_left 1; focus (intro w; go_simp; try with_reducible rfl))
      try simp only [Act.put, List.setIfInBounds_toArray, List.set_cons_zero, List.set_cons_succ]
      (refine wpAnyP_loadL (i := 38) (v := ?_) rfl (by kernel_rfl) (by kernel_rfl) (by kernel_rfl) (by rfl) (fun _ _ _ h => h) hF1 (by rfl) ?_ ?_; rotate_left 1; focus (intro w hFw; (try dsimp only at hFw); go_split_ands; go_simp; try with_reducible rfl))
      try simp only [Act.put, List.setIfInBounds_toArray, List.set_cons_zero, List.set_cons_succ]
      (refine wpAnyP_takeL (i := 39) (v := ?_) rfl (by kernel_rfl) (by kernel_rfl) (by kernel_rfl) (fun _ _ _ h => h) (by rfl) ?_ ?_; rotate_left 1; focus (intro w; go_simp; try with_reducible rfl))
      try simp only [Act.put, List.setIfInBounds_toArray, List.set_cons_zero, List.set_cons_succ]
      (refine wpAnyP_takeL (i := 40) (v := ?_) rfl (by kernel_rfl) (by kernel_rfl) (by kernel_rfl) (fun _ _ _ h => h) (by rfl) ?_ ?_; rotate_left 1; focus (intro w; go_simp; try with_reducible rfl))
      try simp only [Act.put, List.setIfInBounds_toArray, List.set_cons_zero, List.set_cons_succ]
      (refine wpAnyP_takeL (i := 41) (v := ?_) rfl (by kernel_rfl) (by kernel_rfl) (by kernel_rfl) (fun _ _ _ h => h) (by rfl) ?_ ?_; rotate_left 1; focus (intro w; go_simp; try with_reducible rfl))
      try simp only [Act.put, List.setIfInBounds_toArray, List.set_cons_zero, List.set_cons_succ]
      (refine wpAnyP_loadL (i := 42) (v := ?_) rfl (by kernel_rfl) (by kernel_rfl) (by kernel_rfl) (by rfl) (fun _ _ _ h => h) hF1 (by rfl) ?_ ?_; rotate_left 1; focus (intro w hFw; (try dsimp only at hFw); go_split_ands; go_simp; try with_reducible rfl))
      try simp only [Act.put, List.setIfInBounds_toArray, List.set_cons_zero, List.set_cons_succ]
      refine wpAnyP_step (i := 43) rfl (by kernel_rfl) (by rfl) (fun K hK => ?_)
      go_simp
      (refine (kspan_any _ _ _).mono ?_; rintro e wb ⟨rfl, hBb⟩; have hM := hM.trans (hBb.mono hM.size))
      (refine hK _ _ (HF.out _ hM) (fun hF2 => ?_); clear hK K hF1)
      try simp only [Act.put, List.setIfInBounds_toArray, List.set_cons_zero, List.set_cons_succ]
      (refine wpAnyP_takeL (i := 44) (v := ?_) rfl (by kernel_rfl) (by kernel_rfl) (by kernel_rfl) (fun _ _ _ h => h) (by rfl) ?_ ?_; rotate_left 1; focus (intro w; go_simp; try with_reducible rfl))
      try simp only [Act.put, List.setIfInBounds_toArray, List.set_cons_zero, List.set_cons_succ]
      (refine wpAnyP_takeL (i := 45) (v := ?_) rfl (by kernel_rfl) (by kernel_rfl) (by kernel_rfl) (fun _ _ _ h => h) (by rfl) ?_ ?_; rotate_left 1; focus (intro w; go_simp; try with_reducible rfl))
      try simp only [Act.put, List.setIfInBounds_toArray, List.set_cons_zero, List.set_cons_succ]
      (refine wpAnyP_takeL (i := 46) (v := ?_) rfl (by kernel_rfl) (by kernel_rfl) (by kernel_rfl) (fun _ _ _ h => h) (by rfl) ?_ ?_; rotate_left 1; focus (intro w; go_simp; try with_reducible rfl))
      try simp only [Act.put, List.setIfInBounds_toArray, List.set_cons_zero, List.set_cons_succ]
      refine wpAnyP_step (i := 47) rfl (by kernel_rfl) (by rfl) (fun K hK => ?_)
      go_simp
      (refine (kawake_any _).mono ?_; rintro e wc ⟨rfl, hBc⟩; have hM := hM.trans (hBc.mono hM.size))
      (refine hK _ _ (HF.out _ hM) (fun hF3 => ?_); clear hK K hF2)
      try simp only [Act.put, List.setIfInBounds_toArray, List.set_cons_zero, List.set_cons_succ]
      (refine wpAnyP_takeL (i := 48) (v := ?_) rfl (by kernel_rfl) (by kernel_rfl) (by kernel_rfl) (fun _ _ _ h => h) (by rfl) ?_ ?_; rotate_left 1; focus (intro w; go_simp; try with_reducible rfl))
      try simp only [Act.put, List.setIfInBounds_toArray, List.set_cons_zero, List.set_cons_succ]
      (refine wpAnyP_takeL (i := 49) (v := ?_) rfl (by kernel_rfl) (by kernel_rfl) (by kernel_rfl) (fun _ _ _ h => h) (by rfl) ?_ ?_; rotate_left 1; focus (intro w; go_simp; try with_reducible rfl))
      try simp only [Act.put, List.setIfInBounds_toArray, List.set_cons_zero, List.set_cons_succ]
      refine wpAnyP_done (by kernel_rfl) ?_ _
      have HM := Lib.hid hM
      clear hM
      go_wp2_with fail
      go_ret
      exact ⟨rfl, (HS_17.out.below HM.out).low⟩
end Go.Proofs.Ytkphgdkjjklajaa
