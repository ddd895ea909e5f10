/-
  Small functions of the reference of nets: within, node.
-/
import Derived.Test.YtkphgdkjjklajaaTrLaw
set_option linter.unusedVariables false
set_option linter.unusedSimpArgs false
namespace Go.Proofs.Ytkphgdkjjklajaa
open Go.RowKit Go.Shelf Go.Sort

set_option maxHeartbeats 1000000 in
theorem qwithin_any (n lo hi : Int) (w : World) : Calls Try.prog 73 #[.int .i64 n, .int .i64 lo, .int .i64 hi] w fun e w' => e = .returned (.bool (decide (lo ≤ n) && decide (n ≤ hi))) ∧ w' = w := by
  by_cases h1 : lo ≤ n
  · by_cases h2 : n ≤ hi
    · go_enter Try.func73, Try.ntmps73
      go_wp2
      go_ret
      exact ⟨by simp [h1, h2], rfl⟩
    · go_enter Try.func73, Try.ntmps73
      go_wp2
      go_ret
      exact ⟨by simp [h1, h2], rfl⟩
  · go_enter Try.func73, Try.ntmps73
    go_wp2
    go_ret
    exact ⟨by rw [decide_eq_false (show ¬ lo ≤ n by omega)]; rfl, rfl⟩
set_option maxHeartbeats 1000000 in
theorem qnode_any (m b t : Nat) (w : World) (hm : m ≤ 1000) (hb : b ≤ 1000) (ht : t ≤ 1000) : Calls Try.prog 88 #[.int .i64 m, .int .i64 b, .int .i64 t] w fun e w' => e = .returned (.int .i64 ((1 + b * m + t : Nat) : Int)) ∧ w' = w := by
  have h1 : b * m ≤ 1000000 := Nat.mul_le_mul hb hm
  have h2 : ((b * m : Nat) : Int) = (b : Int) * (m : Int) := Int.natCast_mul _ _
  have h3 : 0 ≤ (b : Int) * (m : Int) ∧ (b : Int) * (m : Int) ≤ 1000000 := by rw [← h2]; omega
  obtain ⟨h4, h5⟩ := h3
  have H2 := Lib.hid h2
  clear h2
  go_enter Try.func88, Try.ntmps88
  go_wp2
  go_ret
  exact ⟨ret_int (by have := H2.out; omega), rfl⟩
set_option maxRecDepth 100000 in
set_option maxHeartbeats 1000000 in
theorem qheld_any (b1 b2 : Nat) (Ab Am : Option Addr) (nb cb nm cm T : Nat) (bs : List Int) (ms : List Mv) (w : World) (hM : NetM w b1 b2 Ab Am nb cb nm cm bs ms) (hN : NetIn bs ms) (hT : T ≤ ms.length) :
    Calls Try.prog 75 #[netV Ab Am nb cb nm cm, .int .i64 T] w fun e w' => ∃ g c, e = .returned (.slice (some ⟨g, 0, none⟩) nb c) ∧ w.heap.size ≤ g ∧ RowC w' g ((rg nb).map (hasAt (bsF bs) (ms.take T))) ∧ Below w.heap.size w w' := by
  obtain ⟨i0, hi, iz0, iz1, iz2⟩ := info_parts info_int
  have hBn := Blk.new w 25 #[.slice Ab nb cb, .slice Am nm cm]
  have hb0 : Below w.heap.size w (w.alloc (.cells #[.slice Ab nb cb, .slice Am nm cm] 25)) := (Below.refl _ w).alloc (Nat.le_refl _) _
  have c0 := hBn.cell 0
  have HNB := Lib.hid hM.b.len
  have HNM := Lib.hid hM.m.len
  have hnb8 : nb ≤ 8 := by have := hM.b.len; have := hN.n1; omega
  have hnb0 : 0 < nb := by have := hM.b.len; have := hN.n0; omega
  have hT12 : T ≤ 12 := by have := hN.m1; omega
  have HBN := Lib.hid hBn
  have HB0 := Lib.hid hb0
  have HM := Lib.hid hM
  have HN := Lib.hid hN
  have hown0 := own_empty (w.alloc (.cells #[.slice Ab nb cb, .slice Am nm cm] 25)) 3 1 (w.heap.size + 1) (w.heap.size + 1) (by simp) (Nat.le_refl _)
  have hsl := (hM.b.old hb0).alloc (.cells #[] 3)
  have HOW := Lib.hid hown0
  have HSL := Lib.hid hsl
  clear hBn hb0 hM hN hown0 hsl
  go_enter Try.func75, Try.ntmps75
  go_wp2_with (at_builtin; refine wpList_append_sl rfl _ _ 22 rfl (w.heap.size + 1) 3 i0 _ 8 Try.underlying22 hi iz0 iz1 iz2 rfl (by omega) encI_len _ 0 [] rfl HOW.out b1 _ nb cb bs rfl HSL.out oneI (by unfold maxLen; omega) (by omega) (by simp) ?_; intro A1 c1 w1 hown1 hgrow _; have HO1 := Lib.hid hown1; have HG1 := Lib.hid hgrow; clear hown1 hgrow)
  have ho := HO1.out
  simp only [Nat.zero_add, List.nil_append] at ho
  obtain ⟨Bh, rfl, hBh, hrow⟩ := RowC.of_own ho HNB.out hnb0
  have hz1 := HG1.out.size
  simp only [World.size_alloc] at hz1
  have HB1 := Lib.hid (below_own HOW.out HG1.out (HB0.out.alloc HB0.out.size (.cells #[] 3)) (by omega) (Nat.le_refl _))
  have HBN1 := Lib.hid (show Blk w1 w.heap.size 25 #[.slice Ab nb cb, .slice Am nm cm] from (own_keeps HOW.out HG1.out (b := w.heap.size) (by omega) (by simp; omega)).trans (HBN.out.alloc (.cells #[] 3)))
  have HR1 := Lib.hid (show RowC w1 Bh ((rg nb).map (hasAt (bsF bs) (ms.take 0))) from by
    have e : (rg nb).map (hasAt (bsF bs) (ms.take 0)) = bs := by rw [HNB.out]; exact has_start bs
    rw [e]; exact hrow)
  clear ho hrow c0
  go_loopw [6] (fun i wr => ∃ k : Nat, k ≤ T ∧ i = .int .i64 k ∧ RowC wr Bh ((rg nb).map (hasAt (bsF bs) (ms.take k))) ∧ Blk wr w.heap.size 25 #[.slice Ab nb cb, .slice Am nm cm] ∧ Below w.heap.size w wr ∧ Bh < wr.heap.size) (fun i _ => T - (intOf i).toNat)
  case atStart => exact ⟨0, Nat.zero_le _, rfl, HR1.out, HBN1.out, HB1.out, HR1.out.lt⟩
  case round =>
    obtain ⟨k, hk, rfl, hR, hBn, hB, hBz⟩ := hrel
    have HR := Lib.hid hR
    have HBNk := Lib.hid hBn
    have HB := Lib.hid hB
    by_cases hlt : k < T
    · have hkm : k < ms.length := by omega
      obtain ⟨o, rfl, hbz, s0, s1, s2⟩ := (HM.out.m.old hB).atM hkm
      have hOK := HN.out.at_ hkm
      have hbd := HN.out.has_bd k
      have HTK := Lib.hid (show hasAt (bsF bs) (ms.take (k + 1)) = mvd (hasAt (bsF bs) (ms.take k)) ms[k] from by rw [List.take_succ_eq_append_getElem hkm, hasAt_snoc])
      obtain ⟨gb0, gb1⟩ := HN.out.g_bd hkm
      generalize hmk : ms[k] = mv at s0 s1 s2 hOK HTK gb0 gb1
      clear hmk
      obtain ⟨mf, mt, g⟩ := mv
      have hf0 := hOK.f0; have hf1 := hOK.f1; have ht0 := hOK.t0; have ht1 := hOK.t1; have hne := hOK.ne
      simp only at s0 s1 s2 hf0 hf1 ht0 ht1 hne gb0 gb1
      obtain ⟨f, rfl⟩ := Int.eq_ofNat_of_zero_le hf0
      obtain ⟨t, rfl⟩ := Int.eq_ofNat_of_zero_le ht0
      rw [← HNB.out] at hf1 ht1
      have hlen := has_len nb (hasAt (bsF bs) (ms.take k))
      have c0 := hBn.cell 0
      have c1 := hBn.cell 1
      have km0 : (0 : Int) ≤ (k : Int) := by omega
      have km1 : (k : Int) < (nm : Int) := by have := HNM.out; omega
      obtain ⟨bf0, bf1⟩ := hbd (f : Int)
      obtain ⟨bt0, bt1⟩ := hbd (t : Int)
      obtain ⟨hf, hhf⟩ : ∃ x, x = hasAt (bsF bs) (ms.take k) f := ⟨_, rfl⟩
      obtain ⟨ht, hht⟩ : ∃ x, x = hasAt (bsF bs) (ms.take k) t := ⟨_, rfl⟩
      rw [← hhf] at bf0 bf1
      rw [← hht] at bt0 bt1
      have HHF := Lib.hid hhf
      have HHT := Lib.hid hht
      clear hR hBn hB hOK hbd hhf hht
      go_upto_region 6 with fail
      have hRa := HR.out.grown (World.grownBy_alloc wr (.cells #[.int .i64 f, .int .i64 t, .int .i64 g] 61) none) (by simp)
      have hMa := Blk.new wr 61 #[.int .i64 f, .int .i64 t, .int .i64 g]
      have hBa := HB.out.alloc HB.out.size (.cells #[.int .i64 f, .int .i64 t, .int .i64 g] 61)
      have hNa := HBNk.out.alloc (.cells #[.int .i64 f, .int .i64 t, .int .i64 g] 61)
      obtain ⟨B13, hB13⟩ : ∃ B, B = wr.heap.size := ⟨_, rfl⟩
      obtain ⟨W11, hW11⟩ : ∃ W11, wr.alloc (.cells #[.int .i64 f, .int .i64 t, .int .i64 g] 61) = W11 := ⟨_, rfl⟩
      rw [hW11] at hRa hMa hBa hNa ⊢
      rw [← hB13] at hMa ⊢
      have hneB : B13 ≠ Bh := by omega
      have HRa := Lib.hid hRa
      have HMa := Lib.hid hMa
      have HBa := Lib.hid hBa
      have HNa := Lib.hid hNa
      have hc1 := hRa.cell (k := f) (by rw [hlen]; omega)
      rw [has_get (by omega), ← HHF.out] at hc1
      have hc2 := hRa.cell (k := t) (by rw [hlen]; omega)
      rw [has_get (by omega), ← HHT.out] at hc2
      have hA := hRa.set_ (k := f) (by rw [hlen]; omega) (hf - g)
      have hMA := hMa.far (p := ⟨Bh, f, none⟩) hneB (.int .i64 (hf - g))
      have hB2 := hA.set_ (k := t) (by rw [List.length_set, hlen]; omega) (ht + g)
      have HMA := Lib.hid (show Blk (W11.drew.setCell ⟨Bh, f, none⟩ (.int .i64 (hf - g))) B13 61 _ from hMA)
      have HB2 := Lib.hid hB2
      have HC := Lib.hid (And.intro hc1 hc2)
      have HW1 := Lib.hid (show IntKind.i64.wrap (hf - g) = hf - g from IntWalk.i64_in _ (by omega))
      have HW2 := Lib.hid (show IntKind.i64.wrap (ht + g) = ht + g from IntWalk.i64_in _ (by omega))
      clear hRa hMa hBa hNa hA hMA hB2 hc1 hc2 hW11 s0 s1 s2 c0 c1 hB13
      refine wp_region_K2 [10, 18] [2, 5, 8, 12, 16, 20] (fun W => W.cell? ⟨Bh, f, none⟩ = some (.int .i64 hf) ∧ W.cell? ⟨Bh, t, none⟩ = some (.int .i64 ht)) (fun W => W.cell? ⟨B13, 0, none⟩ = some (.int .i64 f) ∧ W.cell? ⟨B13, 1, none⟩ = some (.int .i64 t) ∧ W.cell? ⟨B13, 2, none⟩ = some (.int .i64 g)) rfl (by kernel_rfl) (HC.out) (⟨HMa.out.cell 0, HMa.out.cell 1, HMa.out.cell 2⟩) (fun hF0 hG0 => ?_)
      (refine wpAnyK_takeL Keep2.refl (i := 0) (v := ?_) rfl (by kernel_rfl) (by kernel_rfl) (by kernel_rfl) (fun _ _ _ h => h) (by rfl) ?_ ?_; rotate_left 1; focus (intro w; go_simp; try with_reducible rfl))
      try simp only [Act.put, List.setIfInBounds_toArray, List.set_cons_zero, List.set_cons_succ]
      (refine wpAnyK_takeL Keep2.refl (i := 1) (v := ?_) rfl (by kernel_rfl) (by kernel_rfl) (by kernel_rfl) (fun _ _ _ h => h) (by rfl) ?_ ?_; rotate_left 1; focus (intro w; go_simp; try with_reducible rfl))
      try simp only [Act.put, List.setIfInBounds_toArray, List.set_cons_zero, List.set_cons_succ]
      (refine wpAnyK_loadL Keep2.refl (i := 2) (v := ?_) rfl (Keep2.right (i := 2) (by rfl)) (by kernel_rfl) (by kernel_rfl) (by kernel_rfl) (fun _ _ _ h => h) hG0 (by rfl) ?_ ?_; rotate_left 1; focus (intro w hFw; (try dsimp only at hFw); go_split_ands; go_simp; try with_reducible rfl))
      try simp only [Act.put, List.setIfInBounds_toArray, List.set_cons_zero, List.set_cons_succ]
      (refine wpAnyK_takeL Keep2.refl (i := 3) (v := ?_) rfl (by kernel_rfl) (by kernel_rfl) (by kernel_rfl) (fun _ _ _ h => h) (by rfl) ?_ ?_; rotate_left 1; focus (intro w; go_simp; try with_reducible rfl))
      try simp only [Act.put, List.setIfInBounds_toArray, List.set_cons_zero, List.set_cons_succ]
      (refine wpAnyK_takeL Keep2.refl (i := 4) (v := ?_) rfl (by kernel_rfl) (by kernel_rfl) (by kernel_rfl) (fun _ _ _ h => h) (by rfl) ?_ ?_; rotate_left 1; focus (intro w; go_simp; try with_reducible rfl))
      try simp only [Act.put, List.setIfInBounds_toArray, List.set_cons_zero, List.set_cons_succ]
      (refine wpAnyK_loadL Keep2.refl (i := 5) (v := ?_) rfl (Keep2.right (i := 5) (by rfl)) (by kernel_rfl) (by kernel_rfl) (by kernel_rfl) (fun _ _ _ h => h) hG0 (by rfl) ?_ ?_; rotate_left 1; focus (intro w hFw; (try dsimp only at hFw); go_split_ands; go_simp; try with_reducible rfl))
      try simp only [Act.put, List.setIfInBounds_toArray, List.set_cons_zero, List.set_cons_succ]
      (refine wpAnyK_takeL Keep2.refl (i := 6) (v := ?_) rfl (by kernel_rfl) (by kernel_rfl) (by kernel_rfl) (fun _ _ _ h => h) (by rfl) ?_ ?_; rotate_left 1; focus (intro w; go_simp; try with_reducible rfl))
      try simp only [Act.put, List.setIfInBounds_toArray, List.set_cons_zero, List.set_cons_succ]
      (refine wpAnyK_takeL Keep2.refl (i := 7) (v := ?_) rfl (by kernel_rfl) (by kernel_rfl) (by kernel_rfl) (fun _ _ _ h => h) (by rfl) ?_ ?_; rotate_left 1; focus (intro w; go_simp; try with_reducible rfl))
      try simp only [Act.put, List.setIfInBounds_toArray, List.set_cons_zero, List.set_cons_succ]
      (refine wpAnyK_loadL Keep2.refl (i := 8) (v := ?_) rfl (Keep2.right (i := 8) (by rfl)) (by kernel_rfl) (by kernel_rfl) (by kernel_rfl) (fun _ _ _ h => h) hG0 (by rfl) ?_ ?_; rotate_left 1; focus (intro w hFw; (try dsimp only at hFw); go_split_ands; go_simp; try with_reducible rfl))
      try simp only [Act.put, List.setIfInBounds_toArray, List.set_cons_zero, List.set_cons_succ]
      (refine wpAnyK_takeL Keep2.refl (i := 9) (v := ?_) rfl (by kernel_rfl) (by kernel_rfl) (by kernel_rfl) (fun _ _ _ h => h) (by rfl) ?_ ?_; rotate_left 1; focus (intro w; go_simp; try with_reducible rfl))
      try simp only [Act.put, List.setIfInBounds_toArray, List.set_cons_zero, List.set_cons_succ]
      (refine wpAnyK_loadL Keep2.refl (i := 10) (v := ?_) rfl (Keep2.left (i := 10) (by rfl)) (by kernel_rfl) (by kernel_rfl) (by kernel_rfl) (fun _ _ _ h => h) hF0 (by rfl) ?_ ?_; rotate_left 1; focus (intro w hFw; (try dsimp only at hFw); go_split_ands; go_simp; try with_reducible rfl))
      try simp only [Act.put, List.setIfInBounds_toArray, List.set_cons_zero, List.set_cons_succ]
      (refine wpAnyK_takeL Keep2.refl (i := 11) (v := ?_) rfl (by kernel_rfl) (by kernel_rfl) (by kernel_rfl) (fun _ _ _ h => h) (by rfl) ?_ ?_; rotate_left 1; focus (intro w; go_simp; try with_reducible rfl))
      try simp only [Act.put, List.setIfInBounds_toArray, List.set_cons_zero, List.set_cons_succ]
      (refine wpAnyK_loadL Keep2.refl (i := 12) (v := ?_) rfl (Keep2.right (i := 12) (by rfl)) (by kernel_rfl) (by kernel_rfl) (by kernel_rfl) (fun _ _ _ h => h) hG0 (by rfl) ?_ ?_; rotate_left 1; focus (intro w hFw; (try dsimp only at hFw); go_split_ands; go_simp; try with_reducible rfl))
      try simp only [Act.put, List.setIfInBounds_toArray, List.set_cons_zero, List.set_cons_succ]
      (refine wpAnyK_takeL Keep2.refl (i := 13) (v := ?_) rfl (by kernel_rfl) (by kernel_rfl) (by kernel_rfl) (fun _ _ _ h => h) (by rfl) ?_ ?_; rotate_left 1; focus (intro w; go_simp; (first | (rw [HW1.out]) | (with_reducible rfl))))
      try simp only [Act.put, List.setIfInBounds_toArray, List.set_cons_zero, List.set_cons_succ]
      (refine wpAnyK_takeL Keep2.refl (i := 14) (v := ?_) rfl (by kernel_rfl) (by kernel_rfl) (by kernel_rfl) (fun _ _ _ h => h) (by rfl) ?_ ?_; rotate_left 1; focus (intro w; go_simp; try with_reducible rfl))
      try simp only [Act.put, List.setIfInBounds_toArray, List.set_cons_zero, List.set_cons_succ]
      (refine wpAnyK_takeL Keep2.refl (i := 15) (v := ?_) rfl (by kernel_rfl) (by kernel_rfl) (by kernel_rfl) (fun _ _ _ h => h) (by rfl) ?_ ?_; rotate_left 1; focus (intro w; go_simp; try with_reducible rfl))
      try simp only [Act.put, List.setIfInBounds_toArray, List.set_cons_zero, List.set_cons_succ]
      (refine wpAnyK_loadL Keep2.refl (i := 16) (v := ?_) rfl (Keep2.right (i := 16) (by rfl)) (by kernel_rfl) (by kernel_rfl) (by kernel_rfl) (fun _ _ _ h => h) hG0 (by rfl) ?_ ?_; rotate_left 1; focus (intro w hFw; (try dsimp only at hFw); go_split_ands; go_simp; try with_reducible rfl))
      try simp only [Act.put, List.setIfInBounds_toArray, List.set_cons_zero, List.set_cons_succ]
      (refine wpAnyK_takeL Keep2.refl (i := 17) (v := ?_) rfl (by kernel_rfl) (by kernel_rfl) (by kernel_rfl) (fun _ _ _ h => h) (by rfl) ?_ ?_; rotate_left 1; focus (intro w; go_simp; try with_reducible rfl))
      try simp only [Act.put, List.setIfInBounds_toArray, List.set_cons_zero, List.set_cons_succ]
      (refine wpAnyK_loadL Keep2.refl (i := 18) (v := ?_) rfl (Keep2.left (i := 18) (by rfl)) (by kernel_rfl) (by kernel_rfl) (by kernel_rfl) (fun _ _ _ h => h) hF0 (by rfl) ?_ ?_; rotate_left 1; focus (intro w hFw; (try dsimp only at hFw); go_split_ands; go_simp; try with_reducible rfl))
      try simp only [Act.put, List.setIfInBounds_toArray, List.set_cons_zero, List.set_cons_succ]
      (refine wpAnyK_takeL Keep2.refl (i := 19) (v := ?_) rfl (by kernel_rfl) (by kernel_rfl) (by kernel_rfl) (fun _ _ _ h => h) (by rfl) ?_ ?_; rotate_left 1; focus (intro w; go_simp; try with_reducible rfl))
      try simp only [Act.put, List.setIfInBounds_toArray, List.set_cons_zero, List.set_cons_succ]
      (refine wpAnyK_loadL Keep2.refl (i := 20) (v := ?_) rfl (Keep2.right (i := 20) (by rfl)) (by kernel_rfl) (by kernel_rfl) (by kernel_rfl) (fun _ _ _ h => h) hG0 (by rfl) ?_ ?_; rotate_left 1; focus (intro w hFw; (try dsimp only at hFw); go_split_ands; go_simp; try with_reducible rfl))
      try simp only [Act.put, List.setIfInBounds_toArray, List.set_cons_zero, List.set_cons_succ]
      (refine wpAnyK_takeL Keep2.refl (i := 21) (v := ?_) rfl (by kernel_rfl) (by kernel_rfl) (by kernel_rfl) (fun _ _ _ h => h) (by rfl) ?_ ?_; rotate_left 1; focus (intro w; go_simp; (first | (rw [HW2.out]) | (with_reducible rfl))))
      try simp only [Act.put, List.setIfInBounds_toArray, List.set_cons_zero, List.set_cons_succ]
      (refine wpAnyK_takeL Keep2.refl (i := 22) (v := ?_) rfl (by kernel_rfl) (by kernel_rfl) (by kernel_rfl) (fun _ _ _ h => h) (by rfl) ?_ ?_; rotate_left 1; focus (intro w; go_simp; try with_reducible rfl))
      try simp only [Act.put, List.setIfInBounds_toArray, List.set_cons_zero, List.set_cons_succ]
      refine wpAnyK_step (i := 23) rfl (by kernel_rfl) (by rfl) (fun K hK => ?_)
      go_simp
      (have f1 := HRa.out.frozen f; have e1 := HC.out.1; go_simp; clear f1 e1)
      (refine hK _ _ (Keep2.no1 (by kernel_rfl) (fun _ => ⟨HMA.out.cell 0, HMA.out.cell 1, HMA.out.cell 2⟩)) ?_; clear hK K)
      (refine wpAnyK_with (F := fun W => W.cell? ⟨B13, 0, none⟩ = some (.int .i64 f) ∧ W.cell? ⟨B13, 1, none⟩ = some (.int .i64 t) ∧ W.cell? ⟨B13, 2, none⟩ = some (.int .i64 g)) (⟨HMA.out.cell 0, HMA.out.cell 1, HMA.out.cell 2⟩) (fun hG1 => ?_); clear hG0)
      try simp only [Act.put, List.setIfInBounds_toArray, List.set_cons_zero, List.set_cons_succ]
      (refine wpAnyK_takeL Keep2.refl (i := 24) (v := ?_) rfl (by kernel_rfl) (by kernel_rfl) (by kernel_rfl) (fun _ _ _ h => h) (by rfl) ?_ ?_; rotate_left 1; focus (intro w; go_simp; try with_reducible rfl))
      try simp only [Act.put, List.setIfInBounds_toArray, List.set_cons_zero, List.set_cons_succ]
      refine wpAnyK_step (i := 25) rfl (by kernel_rfl) (by rfl) (fun K hK => ?_)
      go_simp
      (have f1 := HRa.out.frozen t; have e1 := HC.out.2; go_simp; clear f1 e1)
      (refine hK _ _ (Keep2.no (by kernel_rfl) (by kernel_rfl)) ?_; clear hK K)
      try simp only [Act.put, List.setIfInBounds_toArray, List.set_cons_zero, List.set_cons_succ]
      refine wpAnyK_done (by kernel_rfl) ?_ _
      have HRF := Lib.hid (show RowC ((W11.setCell ⟨Bh, f, none⟩ (.int .i64 (hf - g))).setCell ⟨Bh, t, none⟩ (.int .i64 (ht + g))) Bh ((rg nb).map (hasAt (bsF bs) (ms.take (k + 1)))) from by
        have e : (((rg nb).map (hasAt (bsF bs) (ms.take k))).set f (hf - g)).set t (ht + g) = (rg nb).map (mvd (hasAt (bsF bs) (ms.take k)) ⟨f, t, g⟩) := by rw [HHF.out, HHT.out]; exact has_move (by omega) (by omega) (by omega) g
        rw [HTK.out, ← e]
        exact HB2.out)
      go_wp2_with fail
      refine ⟨⟨k + 1, by omega, by go_num, HRF.out, ?_, ?_, ?_⟩, by simp [intOf]; omega⟩
      · exact (HNa.out.far (p := ⟨Bh, f, none⟩) (by show w.heap.size ≠ Bh; omega) _).far (p := ⟨Bh, t, none⟩) (by show w.heap.size ≠ Bh; omega) _
      · exact ((HBa.out.setCell (p := ⟨Bh, f, none⟩) (by show w.heap.size ≤ Bh; omega) _).setCell (p := ⟨Bh, t, none⟩) (by show w.heap.size ≤ Bh; omega) _).drew
      · have := HRF.out.lt; simpa using this
    · obtain rfl : k = T := by omega
      clear hR hBn hB
      go_wp2_with fail
      go_ret
      exact ⟨Bh, c1, rfl, by omega, HR.out, HB.out⟩
set_option maxHeartbeats 1000000 in
theorem vast_any (nb cb nm cm : Nat) (Ab Am : Option Addr) (w : World) : Calls Try.prog 13 #[netV Ab Am nb cb nm cm] w fun e w' => e = .returned (.bool (decide (20 < nb) || decide (30 < nm))) ∧ Below w.heap.size w w' := by
  have hBn := Blk.new w 25 #[.slice Ab nb cb, .slice Am nm cm]
  have HB0 := Lib.hid (show Below w.heap.size w (w.alloc (.cells #[.slice Ab nb cb, .slice Am nm cm] 25)) from (Below.refl _ w).alloc (Nat.le_refl _) _)
  have c0 := hBn.cell 0
  have c1 := hBn.cell 1
  clear hBn
  by_cases h : 20 < nb
  · have h1 : decide ((20 : Int) < (nb : Int)) = true := by simp; omega
    have HR := Lib.hid (show (decide (20 < nb) || decide (30 < nm)) = true by simp [h])
    clear h
    go_enter Try.func13, Try.ntmps13
    go_wp2_with fail
    go_ret
    exact ⟨by rw [HR.out]; rfl, HB0.out⟩
  · have h1 : decide ((20 : Int) < (nb : Int)) = false := by simp; omega
    have HR := Lib.hid (show (decide (20 < nb) || decide (30 < nm)) = decide ((30 : Int) < (nm : Int)) by rw [decide_eq_false h, Bool.false_or, Bool.eq_iff_iff]; simp; omega)
    clear h
    go_enter Try.func13, Try.ntmps13
    go_wp2_with fail
    go_ret
    exact ⟨by rw [HR.out]; rfl, HB0.out⟩
end Go.Proofs.Ytkphgdkjjklajaa
