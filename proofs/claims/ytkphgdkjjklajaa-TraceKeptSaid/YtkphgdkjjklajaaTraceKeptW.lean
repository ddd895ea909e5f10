/-
  The walk of the law TraceKept.
-/
import Derived.Test.YtkphgdkjjklajaaTrLaw
import Derived.Deep.QuietTactic
import Derived.Deep.CutRange
import Derived.BigQuiet
set_option linter.unusedVariables false
set_option linter.unusedSimpArgs false
namespace Go.Proofs.Ytkphgdkjjklajaa
open Go.RowKit Go.Shelf Go.Sort

theorem orgIn_nil (n : Nat) : OrgIn n [] := ⟨fun o ho => (by cases ho), List.Pairwise.nil⟩
theorem others_nil (n : Nat) : othersT n [] = rg n := by unfold othersT; exact List.filter_eq_self.2 fun x _ => by simp
theorem kept_all {bs : List Int} {ms : List Mv} (h : NetIn bs ms) {k : Nat} (hk : k < bs.length) : mayT bs (othersT bs.length []) ms k = ⟨hasAt (bsF bs) ms k, hasAt (bsF bs) ms k⟩ := by
  unfold mayT
  rw [others_others (orgIn_nil _), mostF_none h.ms, mostF_all h.ms (fun b b0 b1 => by rw [others_nil]; exact mem_rg.2 ⟨b0, b1⟩) (by omega) (by omega)]
  simp
theorem kept_none {bs : List Int} {ms : List Mv} (h : NetIn bs ms) {k : Nat} (hk : k < bs.length) : mayT bs [] ms k = ⟨0, 0⟩ := by
  unfold mayT
  rw [others_nil, mostF_none h.ms, mostF_all h.ms (fun b b0 b1 => mem_rg.2 ⟨b0, b1⟩) (by omega) (by omega)]
  simp
theorem thr_none {bs : List Int} {ms pre : List Mv} (h : OkMs bs.length (bsF bs) (pre ++ ms)) : ∀ x ∈ thrT bs [] pre ms, x.hi ≤ 0 := by
  induction ms generalizing pre with
  | nil => intro x hx; cases hx
  | cons m ms ih =>
    intro x hx
    simp only [thrT] at hx
    rcases List.mem_cons.1 hx with rfl | h1
    · unfold takeT
      simp only
      rw [mostF_none (OkMs.append.1 h).1]
      omega
    · exact ih (pre := pre ++ [m]) (by rw [List.append_assoc]; exact h) x h1
theorem hit_none (b : Int) : ∀ (ms : List Mv) (xs : List Span), (∀ x ∈ xs, x.hi ≤ 0) → hitT b ms xs = false
  | [], _, _ => by simp [hitT]
  | _ :: _, [], _ => by simp [hitT]
  | m :: ms, x :: xs, h => by
    have h1 := h x (List.mem_cons_self ..)
    simp only [hitT, hit_none b ms xs fun y hy => h y (List.mem_cons_of_mem _ hy), Bool.or_false, Bool.and_eq_false_iff]
    exact .inr (by simp; omega)
theorem kept_recall {bs : List Int} {ms : List Mv} (h : NetIn bs ms) : recallT bs ms [] = [] := by
  unfold recallT
  rw [List.filter_eq_nil_iff]
  intro b _
  rw [hit_none b ms (throughT bs ms []) (thr_none (pre := []) h.ms)]
  simp
theorem holds_total {bs : List Int} {ms : List Mv} (h : NetIn bs ms) : totalT (holdsT bs ms) = totalT bs := by
  have h1 : totalT bs = sm (rg bs.length) (bsF bs) := by
    conv => lhs; rw [← has_start bs]
    unfold totalT
    rw [sm_map]
  rw [h1]
  unfold totalT holdsT
  rw [sm_map]
  exact sm_hasAt h.ms

set_option maxRecDepth 100000 in
set_option maxHeartbeats 2000000 in
theorem traceKept_any (A : Option Addr) (n c : Nat) (w : World) (hN : Nums w A n) : Calls Try.prog 8 #[.slice A n c] w fun e w' => e = .returned (.bool true) ∧ Below w.heap.size w w' := by
  go_enter Try.func8, Try.ntmps8
  obtain ⟨b, l0, hl0, hw0, hn0⟩ := hN
  go_wp2_with fail
  refine (dieOf_any b n c A l0 _ hl0 hn0 hw0).mono ?_
  rintro e w1 ⟨d, hd, rfl, hdie, hB1⟩
  have HB1 := Lib.hid hB1
  have hz1 := hB1.size
  clear hl0 hw0 hB1
  go_wp2_with fail
  refine (one_any d _ 3 3 _ [5, 60, 100000] _ (hdie.alloc _) (Sl.newI w1 [5, 60, 100000] 3) (by omega) (by omega) (by have := hdie.lt; omega)).mono ?_
  rintro e w2 ⟨g, hg, rfl, hd2, hg2⟩
  have hgb : 0 ≤ g ∧ g ≤ 1000000 := by simp at hg; omega
  have HG2 := Lib.hid (only_step hg2 (only_alloc (only_refl w1 d) _) (.inl rfl))
  clear hg hg2
  go_wp2_with fail
  refine (netOf_any d 8 12 g _ hd2 (by omega) (by omega) (by omega) hgb.1 hgb.2).mono ?_
  rintro e w3 ⟨bs, ms, b1, b2, Ab, Am, nb, cb, nm, cm, hNI, hnb, hnm, rfl, hNM, hb1, hb2, hd3, hg3⟩
  have hz2 := HG2.out.size
  have hg13 := only_trans HG2.out hg3
  have hz3 := hg3.size
  have hdz2 := hd2.lt
  have HB3 := Lib.hid (Below.stepG hg13 HB1.out (Nat.le_refl _) hd)
  have HS3 := Lib.hid (show LawSt w (w3.alloc (.cells #[.slice Ab nb cb, .slice Am nm cm] 25)) d w3.heap.size b1 b2 Ab Am nb cb nm cm bs ms from ⟨HB3.out.alloc HB3.out.size _, Blk.new w3 _ _, hNM.old ((Below.refl _ w3).alloc (Nat.le_refl _) _), hNI, hd3.alloc _, by omega, by omega, by omega, hd⟩)
  have hnb8 : nb ≤ 8 := by omega
  have hnm12 : nm ≤ 12 := by omega
  have HNB := Lib.hid HS3.out.nb_eq
  have HNMq := Lib.hid HS3.out.nm_eq
  clear hd2 hNM hNI hd3 hg3 hg13 hb1 hb2
  have c0 := HS3.out.blk.cell 0
  have c1 := HS3.out.blk.cell 1
  go_wp2_with fail
  refine (LawSt.holds HS3.out).mono ?_
  rintro e w46 ⟨A6, c6, b6, rfl, hs6, hB⟩
  have HS_6 := Lib.hid (HS3.out.below hB)
  have HH_6 := Lib.hid (hs6)
  try clear c0
  try clear c1
  clear hB
  have c0 := HS_6.out.blk.cell 0
  have c1 := HS_6.out.blk.cell 1
  clear hs6
  go_wp2_with fail
  have HSd := Lib.hid HS_6.out.drew
  clear c0 c1
  refine wp_region_PL [0, 1] (fun W => W.cell? ⟨w3.heap.size, 0, none⟩ = some (.slice Ab nb cb) ∧ W.cell? ⟨w3.heap.size, 1, none⟩ = some (.slice Am nm cm)) rfl (by kernel_rfl) (⟨HSd.out.blk.cell 0, HSd.out.blk.cell 1⟩) (fun hF0 => ?_)
  (refine wpAnyP_loadL (i := 0) (v := ?_) rfl (by kernel_rfl) (by kernel_rfl) (by kernel_rfl) (by rfl) (fun _ _ _ h => h) hF0 (by rfl) ?_ ?_; rotate_left 1; focus (intro w hFw; (try dsimp only at hFw); go_split_ands; go_simp; try with_reducible rfl))
  try simp only [Act.put, List.setIfInBounds_toArray, List.set_cons_zero, List.set_cons_succ]
  (refine wpAnyP_loadL (i := 1) (v := ?_) rfl (by kernel_rfl) (by kernel_rfl) (by kernel_rfl) (by rfl) (fun _ _ _ h => h) hF0 (by rfl) ?_ ?_; rotate_left 1; focus (intro w hFw; (try dsimp only at hFw); go_split_ands; go_simp; try with_reducible rfl))
  try simp only [Act.put, List.setIfInBounds_toArray, List.set_cons_zero, List.set_cons_succ]
  refine wpAnyP_step (i := 2) rfl (by kernel_rfl) (by rfl) (fun K hK => ?_)
  go_simp
  (refine (rothers_any nb cb nm cm 0 0 0 Ab Am none [] _ (Sl.nil _ _ _) (by omega) (by omega)).mono ?_; rintro e wA ⟨A7, c7, rfl, ho7, hB7⟩; obtain ⟨b7, _, hs7⟩ := Sl.of_own (enc := encI) encI_len rfl ho7; have HSA := Lib.hid (HSd.out.below hB7); have HHA := Lib.hid (HH_6.out.drew.old hB7); have HO7 := Lib.hid hs7; clear ho7 hs7 hB7)
  (refine hK _ _ (⟨HSA.out.blk.cell 0, HSA.out.blk.cell 1⟩) (fun hF1 => ?_); clear hK K hF0)
  try simp only [Act.put, List.setIfInBounds_toArray, List.set_cons_zero, List.set_cons_succ]
  refine wpAnyP_step (i := 3) rfl (by kernel_rfl) (by rfl) (fun K hK => ?_)
  go_simp
  (refine (HSA.out.reach HO7.out (by rw [HNB.out]; exact others_in _ _)).mono ?_; rintro e wB ⟨A8, c8, b8, rfl, hs8, hB8⟩; have HSB := Lib.hid (HSA.out.below hB8); have HHB := Lib.hid (HHA.out.old hB8); have HA8 := Lib.hid hs8; clear hs8 hB8)
  (refine hK _ _ (⟨HSB.out.blk.cell 0, HSB.out.blk.cell 1⟩) (fun hF2 => ?_); clear hK K hF1)
  try simp only [Act.put, List.setIfInBounds_toArray, List.set_cons_zero, List.set_cons_succ]
  (refine wpAnyP_takeL (i := 4) (v := ?_) rfl (by kernel_rfl) (by kernel_rfl) (by kernel_rfl) (fun _ _ _ h => h) (by rfl) ?_ ?_; rotate_left 1; focus (intro w; go_simp; try with_reducible rfl))
  try simp only [Act.put, List.setIfInBounds_toArray, List.set_cons_zero, List.set_cons_succ]
  (refine wpAnyP_takeL (i := 5) (v := ?_) rfl (by kernel_rfl) (by kernel_rfl) (by kernel_rfl) (fun _ _ _ h => h) (by rfl) ?_ ?_; rotate_left 1; focus (intro w; go_simp; try with_reducible rfl))
  try simp only [Act.put, List.setIfInBounds_toArray, List.set_cons_zero, List.set_cons_succ]
  (refine wpAnyP_takeL (i := 6) (v := ?_) rfl (by kernel_rfl) (by kernel_rfl) (by kernel_rfl) (fun _ _ _ h => h) (by rfl) ?_ ?_; rotate_left 1; focus (intro w; go_simp; try with_reducible rfl))
  try simp only [Act.put, List.setIfInBounds_toArray, List.set_cons_zero, List.set_cons_succ]
  (refine wpAnyP_takeL (i := 7) (v := ?_) rfl (by kernel_rfl) (by kernel_rfl) (by kernel_rfl) (fun _ _ _ h => h) (by rfl) ?_ ?_; rotate_left 1; focus (intro w; go_simp; try with_reducible rfl))
  try simp only [Act.put, List.setIfInBounds_toArray, List.set_cons_zero, List.set_cons_succ]
  (refine wpAnyP_takeL (i := 8) (v := ?_) rfl (by kernel_rfl) (by kernel_rfl) (by kernel_rfl) (fun _ _ _ h => h) (by rfl) ?_ ?_; rotate_left 1; focus (intro w; go_simp; try with_reducible rfl))
  try simp only [Act.put, List.setIfInBounds_toArray, List.set_cons_zero, List.set_cons_succ]
  refine wpAnyP_done (by kernel_rfl) ?_ _
  have c0 := HSB.out.blk.cell 0
  have c1 := HSB.out.blk.cell 1
  go_wp2_with fail
  refine (LawSt.reach HSB.out (Sl.nil _ 0 _) (orgIn_nil _)).mono ?_
  rintro e w61 ⟨A9, c9, b9, rfl, hs9, hB⟩
  have HS_21 := Lib.hid (HSB.out.below hB)
  have HH_21 := Lib.hid (HHB.out.old hB)
  have HA_21 := Lib.hid (HA8.out.old hB)
  have HB_21 := Lib.hid (hs9)
  try clear c0
  try clear c1
  clear hB
  have c0 := HS_21.out.blk.cell 0
  have c1 := HS_21.out.blk.cell 1
  clear hs9
  go_wp2_with fail
  refine (LawSt.recall HS_21.out (Sl.nil _ 0 _) (orgIn_nil _)).mono ?_
  rintro e w62 ⟨A10, c10, b10, rfl, hs10, hB⟩
  rw [show (recallT bs ms []).length = 0 from by rw [kept_recall HS3.out.ni]; rfl]; clear hs10
  have HS_22 := Lib.hid (HS_21.out.below hB)
  have HH_22 := Lib.hid (HH_21.out.old hB)
  have HA_22 := Lib.hid (HA_21.out.old hB)
  have HB_22 := Lib.hid (HB_21.out.old hB)
  try clear c0
  try clear c1
  clear hB
  have c0 := HS_22.out.blk.cell 0
  have c1 := HS_22.out.blk.cell 1
  go_wp2_with fail
  go_loopw [13] (fun i wr => ∃ k : Nat, k ≤ nb ∧ i = .int .i64 k ∧ LawSt w wr d w3.heap.size b1 b2 Ab Am nb cb nm cm bs ms ∧ Sl encI 1 wr b6 A6 nb (holdsT bs ms) ∧ Sl encR 2 wr b8 A8 nb (reachT bs ms (othersT nb [])) ∧ Sl encR 2 wr b9 A9 nb (reachT bs ms [])) (fun i _ => nb - (intOf i).toNat)
  case atStart => exact ⟨0, Nat.zero_le _, rfl, HS_22.out, HH_22.out, HA_22.out, HB_22.out⟩
  case round =>
    obtain ⟨k, hk, rfl, hS, hH, hA, hB⟩ := hrel
    have HSk := Lib.hid hS
    have HHk := Lib.hid hH
    have HAk := Lib.hid hA
    have HBk := Lib.hid hB
    by_cases hlt : k < nb
    · have hkb : k < bs.length := by have := HNB.out; omega
      obtain ⟨o6, rfl, hz6, z0⟩ := hH.atI (k := k) (by rw [holds_len]; exact hkb)
      obtain ⟨o8, rfl, hz8, x0, x1⟩ := hA.atR (k := k) (by rw [reach_len]; exact hkb)
      obtain ⟨o9, rfl, hz9, y0, y1⟩ := hB.atR (k := k) (by rw [reach_len]; exact hkb)
      rw [holds_get _ _ hkb] at z0
      rw [reach_get _ _ _ hkb] at x0 x1 y0 y1
      rw [HNB.out, kept_all HS3.out.ni hkb] at x0 x1
      rw [kept_none HS3.out.ni hkb] at y0 y1
      obtain ⟨zb0, zb1⟩ := HS3.out.ni.bd (k : Int)
      generalize hasAt (bsF bs) ms k = Z at z0 x0 x1 zb0 zb1
      simp only at x0 x1 y0 y1
      have t0 : decide (Z < 0) = false := by simp; omega
      have k0 : (0 : Int) ≤ (k : Int) := by omega
      have k1 : (k : Int) < (nb : Int) := by omega
      have HF := Lib.hid (show ∀ W, Below wr.heap.size wr W → W.cell? ⟨b6, o6 + k, none⟩ = some (.int .i64 Z) ∧ W.cell? ⟨b8, o8 + k * 2, none⟩ = some (.int .i64 Z) ∧ W.cell? ⟨b8, o8 + k * 2 + 1, none⟩ = some (.int .i64 Z) ∧ W.cell? ⟨b9, o9 + k * 2, none⟩ = some (.int .i64 0) ∧ W.cell? ⟨b9, o9 + k * 2 + 1, none⟩ = some (.int .i64 0) from fun W h =>
        ⟨(h.cell (p := ⟨b6, o6 + k, none⟩) hz6).trans z0, (h.cell (p := ⟨b8, o8 + k * 2, none⟩) hz8).trans x0, (h.cell (p := ⟨b8, o8 + k * 2 + 1, none⟩) hz8).trans x1, (h.cell (p := ⟨b9, o9 + k * 2, none⟩) hz9).trans y0, (h.cell (p := ⟨b9, o9 + k * 2 + 1, none⟩) hz9).trans y1⟩)
      clear hS hH hA hB z0 x0 x1 y0 y1
      go_upto_region 12 with fail
      have hM : Below wr.heap.size wr wr.drew := (Below.refl _ wr).drew
      refine wp_region_PL [3, 9, 13, 17, 25] (fun W => W.cell? ⟨b6, o6 + k, none⟩ = some (.int .i64 Z) ∧ W.cell? ⟨b8, o8 + k * 2, none⟩ = some (.int .i64 Z) ∧ W.cell? ⟨b8, o8 + k * 2 + 1, none⟩ = some (.int .i64 Z) ∧ W.cell? ⟨b9, o9 + k * 2, none⟩ = some (.int .i64 0) ∧ W.cell? ⟨b9, o9 + k * 2 + 1, none⟩ = some (.int .i64 0)) rfl (by kernel_rfl) (HF.out _ hM) (fun hF0 => ?_)
      (refine wpAnyP_takeL (i := 0) (v := ?_) rfl (by kernel_rfl) (by kernel_rfl) (by kernel_rfl) (fun _ _ _ h => h) (by rfl) ?_ ?_; rotate_left 1; focus (intro w; go_simp; try with_reducible rfl))
      try simp only [Act.put, List.setIfInBounds_toArray, List.set_cons_zero, List.set_cons_succ]
      (refine wpAnyP_takeL (i := 1) (v := ?_) rfl (by kernel_rfl) (by kernel_rfl) (by kernel_rfl) (fun _ _ _ h => h) (by rfl) ?_ ?_; rotate_left 1; focus (intro w; go_simp; try with_reducible rfl))
      try simp only [Act.put, List.setIfInBounds_toArray, List.set_cons_zero, List.set_cons_succ]
      (refine wpAnyP_takeL (i := 2) (v := ?_) rfl (by kernel_rfl) (by kernel_rfl) (by kernel_rfl) (fun _ _ _ h => h) (by rfl) ?_ ?_; rotate_left 1; focus (intro w; go_simp; try with_reducible rfl))
      try simp only [Act.put, List.setIfInBounds_toArray, List.set_cons_zero, List.set_cons_succ]
      (refine wpAnyP_loadL (i := 3) (v := ?_) rfl (by kernel_rfl) (by kernel_rfl) (by kernel_rfl) (by rfl) (fun _ _ _ h => h) hF0 (by rfl) ?_ ?_; rotate_left 1; focus (intro w hFw; (try dsimp only at hFw); go_split_ands; go_simp; try with_reducible rfl))
      try simp only [Act.put, List.setIfInBounds_toArray, List.set_cons_zero, List.set_cons_succ]
      (refine wpAnyP_takeL (i := 4) (v := ?_) rfl (by kernel_rfl) (by kernel_rfl) (by kernel_rfl) (fun _ _ _ h => h) (by rfl) ?_ ?_; rotate_left 1; focus (intro w; go_simp; try with_reducible rfl))
      try simp only [Act.put, List.setIfInBounds_toArray, List.set_cons_zero, List.set_cons_succ]
      (refine wpAnyP_takeL (i := 5) (v := ?_) rfl (by kernel_rfl) (by kernel_rfl) (by kernel_rfl) (fun _ _ _ h => h) (by rfl) ?_ ?_; rotate_left 1; focus (intro w; go_simp; try with_reducible rfl))
      try simp only [Act.put, List.setIfInBounds_toArray, List.set_cons_zero, List.set_cons_succ]
      (refine wpAnyP_takeL (i := 6) (v := ?_) rfl (by kernel_rfl) (by kernel_rfl) (by kernel_rfl) (fun _ _ _ h => h) (by rfl) ?_ ?_; rotate_left 1; focus (intro w; go_simp; try with_reducible rfl))
      try simp only [Act.put, List.setIfInBounds_toArray, List.set_cons_zero, List.set_cons_succ]
      (refine wpAnyP_takeL (i := 7) (v := ?_) rfl (by kernel_rfl) (by kernel_rfl) (by kernel_rfl) (fun _ _ _ h => h) (by rfl) ?_ ?_; rotate_left 1; focus (intro w; go_simp; try with_reducible rfl))
      try simp only [Act.put, List.setIfInBounds_toArray, List.set_cons_zero, List.set_cons_succ]
      (refine wpAnyP_takeL (i := 8) (v := ?_) rfl (by kernel_rfl) (by kernel_rfl) (by kernel_rfl) (fun _ _ _ h => h) (by rfl) ?_ ?_; rotate_left 1; focus (intro w; go_simp; try with_reducible rfl))
      try simp only [Act.put, List.setIfInBounds_toArray, List.set_cons_zero, List.set_cons_succ]
      (refine wpAnyP_loadL (i := 9) (v := ?_) rfl (by kernel_rfl) (by kernel_rfl) (by kernel_rfl) (by rfl) (fun _ _ _ h => h) hF0 (by rfl) ?_ ?_; rotate_left 1; focus (intro w hFw; (try dsimp only at hFw); go_split_ands; go_simp; try with_reducible rfl))
      try simp only [Act.put, List.setIfInBounds_toArray, List.set_cons_zero, List.set_cons_succ]
      (refine wpAnyP_takeL (i := 10) (v := ?_) rfl (by kernel_rfl) (by kernel_rfl) (by kernel_rfl) (fun _ _ _ h => h) (by rfl) ?_ ?_; rotate_left 1; focus (intro w; go_simp; try with_reducible rfl))
      try simp only [Act.put, List.setIfInBounds_toArray, List.set_cons_zero, List.set_cons_succ]
      (refine wpAnyP_takeL (i := 11) (v := ?_) rfl (by kernel_rfl) (by kernel_rfl) (by kernel_rfl) (fun _ _ _ h => h) (by rfl) ?_ ?_; rotate_left 1; focus (intro w; go_simp; try with_reducible rfl))
      try simp only [Act.put, List.setIfInBounds_toArray, List.set_cons_zero, List.set_cons_succ]
      (refine wpAnyP_takeL (i := 12) (v := ?_) rfl (by kernel_rfl) (by kernel_rfl) (by kernel_rfl) (fun _ _ _ h => h) (by rfl) ?_ ?_; rotate_left 1; focus (intro w; go_simp; try with_reducible rfl))
      try simp only [Act.put, List.setIfInBounds_toArray, List.set_cons_zero, List.set_cons_succ]
      (refine wpAnyP_loadL (i := 13) (v := ?_) rfl (by kernel_rfl) (by kernel_rfl) (by kernel_rfl) (by rfl) (fun _ _ _ h => h) hF0 (by rfl) ?_ ?_; rotate_left 1; focus (intro w hFw; (try dsimp only at hFw); go_split_ands; go_simp; try with_reducible rfl))
      try simp only [Act.put, List.setIfInBounds_toArray, List.set_cons_zero, List.set_cons_succ]
      (refine wpAnyP_takeL (i := 14) (v := ?_) rfl (by kernel_rfl) (by kernel_rfl) (by kernel_rfl) (fun _ _ _ h => h) (by rfl) ?_ ?_; rotate_left 1; focus (intro w; go_simp; try with_reducible rfl))
      try simp only [Act.put, List.setIfInBounds_toArray, List.set_cons_zero, List.set_cons_succ]
      (refine wpAnyP_takeL (i := 15) (v := ?_) rfl (by kernel_rfl) (by kernel_rfl) (by kernel_rfl) (fun _ _ _ h => h) (by rfl) ?_ ?_; rotate_left 1; focus (intro w; go_simp; try with_reducible rfl))
      try simp only [Act.put, List.setIfInBounds_toArray, List.set_cons_zero, List.set_cons_succ]
      (refine wpAnyP_takeL (i := 16) (v := ?_) rfl (by kernel_rfl) (by kernel_rfl) (by kernel_rfl) (fun _ _ _ h => h) (by rfl) ?_ ?_; rotate_left 1; focus (intro w; go_simp; try with_reducible rfl))
      try simp only [Act.put, List.setIfInBounds_toArray, List.set_cons_zero, List.set_cons_succ]
      (refine wpAnyP_loadL (i := 17) (v := ?_) rfl (by kernel_rfl) (by kernel_rfl) (by kernel_rfl) (by rfl) (fun _ _ _ h => h) hF0 (by rfl) ?_ ?_; rotate_left 1; focus (intro w hFw; (try dsimp only at hFw); go_split_ands; go_simp; try with_reducible rfl))
      try simp only [Act.put, List.setIfInBounds_toArray, List.set_cons_zero, List.set_cons_succ]
      refine wpAnyP_step (i := 18) rfl (by kernel_rfl) (by rfl) (fun K hK => ?_)
      go_simp
      (refine (kspan_any _ _ _).mono ?_; rintro e wa ⟨rfl, hBa⟩; have hM := hM.trans (hBa.mono hM.size))
      (refine hK _ _ (HF.out _ hM) (fun hF1 => ?_); clear hK K hF0)
      try simp only [Act.put, List.setIfInBounds_toArray, List.set_cons_zero, List.set_cons_succ]
      (refine wpAnyP_takeL (i := 19) (v := ?_) rfl (by kernel_rfl) (by kernel_rfl) (by kernel_rfl) (fun _ _ _ h => h) (by rfl) ?_ ?_; rotate_left 1; focus (intro w; go_simp; try with_reducible rfl))
      try simp only [Act.put, List.setIfInBounds_toArray, List.set_cons_zero, List.set_cons_succ]
      (refine wpAnyP_takeL (i := 20) (v := ?_) rfl (by kernel_rfl) (by kernel_rfl) (by kernel_rfl) (fun _ _ _ h => h) (by rfl) ?_ ?_; rotate_left 1; focus (intro w; go_simp; try with_reducible rfl))
      try simp only [Act.put, List.setIfInBounds_toArray, List.set_cons_zero, List.set_cons_succ]
      (refine wpAnyP_takeL (i := 21) (v := ?_) rfl (by kernel_rfl) (by kernel_rfl) (by kernel_rfl) (fun _ _ _ h => h) (by rfl) ?_ ?_; rotate_left 1; focus (intro w; go_simp; try with_reducible rfl))
      try simp only [Act.put, List.setIfInBounds_toArray, List.set_cons_zero, List.set_cons_succ]
      (refine wpAnyP_takeL (i := 22) (v := ?_) rfl (by kernel_rfl) (by kernel_rfl) (by kernel_rfl) (fun _ _ _ h => h) (by rfl) ?_ ?_; rotate_left 1; focus (intro w; go_simp; try with_reducible rfl))
      try simp only [Act.put, List.setIfInBounds_toArray, List.set_cons_zero, List.set_cons_succ]
      (refine wpAnyP_takeL (i := 23) (v := ?_) rfl (by kernel_rfl) (by kernel_rfl) (by kernel_rfl) (fun _ _ _ h => h) (by rfl) ?_ ?_; rotate_left 1; focus (intro w; go_simp; try with_reducible rfl))
      try simp only [Act.put, List.setIfInBounds_toArray, List.set_cons_zero, List.set_cons_succ]
      (refine wpAnyP_takeL (i := 24) (v := ?_) rfl (by kernel_rfl) (by kernel_rfl) (by kernel_rfl) (fun _ _ _ h => h) (by rfl) ?_ ?_; rotate_left 1; focus (intro w; go_simp; try with_reducible rfl))
      try simp only [Act.put, List.setIfInBounds_toArray, List.set_cons_zero, List.set_cons_succ]
      (refine wpAnyP_loadL (i := 25) (v := ?_) rfl (by kernel_rfl) (by kernel_rfl) (by kernel_rfl) (by rfl) (fun _ _ _ h => h) hF1 (by rfl) ?_ ?_; rotate_left 1; focus (intro w hFw; (try dsimp only at hFw); go_split_ands; go_simp; try with_reducible rfl))
      try simp only [Act.put, List.setIfInBounds_toArray, List.set_cons_zero, List.set_cons_succ]
      refine wpAnyP_step (i := 26) rfl (by kernel_rfl) (by rfl) (fun K hK => ?_)
      go_simp
      (refine (kspan_any _ _ _).mono ?_; rintro e wb ⟨rfl, hBb⟩; have hM := hM.trans (hBb.mono hM.size))
      (refine hK _ _ (HF.out _ hM) (fun hF2 => ?_); clear hK K hF1)
      try simp only [Act.put, List.setIfInBounds_toArray, List.set_cons_zero, List.set_cons_succ]
      (refine wpAnyP_takeL (i := 27) (v := ?_) rfl (by kernel_rfl) (by kernel_rfl) (by kernel_rfl) (fun _ _ _ h => h) (by rfl) ?_ ?_; rotate_left 1; focus (intro w; go_simp; try with_reducible rfl))
      try simp only [Act.put, List.setIfInBounds_toArray, List.set_cons_zero, List.set_cons_succ]
      (refine wpAnyP_takeL (i := 28) (v := ?_) rfl (by kernel_rfl) (by kernel_rfl) (by kernel_rfl) (fun _ _ _ h => h) (by rfl) ?_ ?_; rotate_left 1; focus (intro w; go_simp; try with_reducible rfl))
      try simp only [Act.put, List.setIfInBounds_toArray, List.set_cons_zero, List.set_cons_succ]
      refine wpAnyP_done (by kernel_rfl) ?_ _
      have HM := Lib.hid hM
      clear hM
      go_wp2_with fail
      exact ⟨⟨k + 1, by omega, by go_num, HSk.out.below HM.out, HHk.out.old HM.out, HAk.out.old HM.out, HBk.out.old HM.out⟩, by simp [intOf]; omega⟩
    · obtain rfl : nb = k := by omega
      clear hS hH hA hB
      have c0 := HSk.out.blk.cell 0
      have hh1 : ∀ x ∈ holdsT bs ms, 0 ≤ x ∧ x ≤ 100000000 := fun x hx => by
        unfold holdsT at hx
        obtain ⟨b, _, rfl⟩ := List.mem_map.1 hx
        have := HS3.out.ni.bd b
        omega
      have hh2 : ∀ x ∈ bs, 0 ≤ x ∧ x ≤ 100000000 := fun x hx => by have := HS3.out.ni.gr x hx; omega
      have HH1 := Lib.hid hh1
      have HH2 := Lib.hid hh2
      have HTO := Lib.hid (holds_total HS3.out.ni)
      clear hh1 hh2
      go_upto_region 14 with fail
      have HSd := Lib.hid HSk.out.drew
      have HHd := Lib.hid (show Sl encI 1 wr.drew b6 A6 nb (holdsT bs ms) from HHk.out)
      clear c0
      refine wp_region_PL [3] (fun W => W.cell? ⟨w3.heap.size, 0, none⟩ = some (.slice Ab nb cb)) rfl (by kernel_rfl) (HSd.out.blk.cell 0) (fun hF0 => ?_)
      (refine wpAnyP_takeL (i := 0) (v := ?_) rfl (by kernel_rfl) (by kernel_rfl) (by kernel_rfl) (fun _ _ _ h => h) (by rfl) ?_ ?_; rotate_left 1; focus (intro w; go_simp; try with_reducible rfl))
      try simp only [Act.put, List.setIfInBounds_toArray, List.set_cons_zero, List.set_cons_succ]
      (refine wpAnyP_takeL (i := 2) (v := ?_) rfl (by kernel_rfl) (by kernel_rfl) (by kernel_rfl) (fun _ _ _ h => h) (by rfl) ?_ ?_; rotate_left 1; focus (intro w; go_simp; try with_reducible rfl))
      try simp only [Act.put, List.setIfInBounds_toArray, List.set_cons_zero, List.set_cons_succ]
      (refine wpAnyP_loadL (i := 3) (v := ?_) rfl (by kernel_rfl) (by kernel_rfl) (by kernel_rfl) (by rfl) (fun _ _ _ h => h) hF0 (by rfl) ?_ ?_; rotate_left 1; focus (intro w hFw; (try dsimp only at hFw); go_split_ands; go_simp; try with_reducible rfl))
      try simp only [Act.put, List.setIfInBounds_toArray, List.set_cons_zero, List.set_cons_succ]
      refine wpAnyP_step (i := 1) rfl (by kernel_rfl) (by rfl) (fun K hK => ?_)
      go_simp
      (refine (total_any b6 nb c6 A6 _ _ HHd.out (by omega) HH1.out).mono ?_; rintro e wa ⟨rfl, rfl⟩; rw [HTO.out])
      (refine hK _ _ (HSd.out.blk.cell 0) (fun hF1 => ?_); clear hK K hF0)
      try simp only [Act.put, List.setIfInBounds_toArray, List.set_cons_zero, List.set_cons_succ]
      refine wpAnyP_last (i := 4) rfl (by kernel_rfl) (by kernel_rfl) (by rfl) (fun K hK => ?_)
      go_simp
      (refine (total_any b1 nb cb Ab _ _ HSd.out.net.b (by omega) HH2.out).mono ?_; rintro e wa ⟨rfl, rfl⟩)
      (refine hK _ _ ?_; clear hK K)
      try simp only [Act.put, List.setIfInBounds_toArray, List.set_cons_zero, List.set_cons_succ]
      (refine wpAnyP_takeL (i := 5) (v := ?_) rfl (by kernel_rfl) (by kernel_rfl) (by kernel_rfl) (fun _ _ _ h => h) (by rfl) ?_ ?_; rotate_left 1; focus (intro w; go_simp; try with_reducible rfl))
      try simp only [Act.put, List.setIfInBounds_toArray, List.set_cons_zero, List.set_cons_succ]
      (refine wpAnyP_takeL (i := 6) (v := ?_) rfl (by kernel_rfl) (by kernel_rfl) (by kernel_rfl) (fun _ _ _ h => h) (by rfl) ?_ ?_; rotate_left 1; focus (intro w; go_simp; try with_reducible rfl))
      try simp only [Act.put, List.setIfInBounds_toArray, List.set_cons_zero, List.set_cons_succ]
      refine wpAnyP_step (i := 7) rfl (by kernel_rfl) (by rfl) (fun K hK => ?_)
      go_simp
      (refine (kawake_any _).mono ?_; rintro e wc ⟨rfl, hBc⟩; have HL := Lib.hid (HSd.out.below hBc).low)
      (refine hK _ _ ((HSd.out.below hBc).blk.cell 0) (fun hF3 => ?_); clear hK K hF1)
      try simp only [Act.put, List.setIfInBounds_toArray, List.set_cons_zero, List.set_cons_succ]
      (refine wpAnyP_takeL (i := 8) (v := ?_) rfl (by kernel_rfl) (by kernel_rfl) (by kernel_rfl) (fun _ _ _ h => h) (by rfl) ?_ ?_; rotate_left 1; focus (intro w; go_simp; try with_reducible rfl))
      try simp only [Act.put, List.setIfInBounds_toArray, List.set_cons_zero, List.set_cons_succ]
      (refine wpAnyP_takeL (i := 9) (v := ?_) rfl (by kernel_rfl) (by kernel_rfl) (by kernel_rfl) (fun _ _ _ h => h) (by rfl) ?_ ?_; rotate_left 1; focus (intro w; go_simp; try with_reducible rfl))
      try simp only [Act.put, List.setIfInBounds_toArray, List.set_cons_zero, List.set_cons_succ]
      refine wpAnyP_done (by kernel_rfl) ?_ _
      go_wp2_with fail
      go_ret
      exact ⟨rfl, HL.out⟩
end Go.Proofs.Ytkphgdkjjklajaa
