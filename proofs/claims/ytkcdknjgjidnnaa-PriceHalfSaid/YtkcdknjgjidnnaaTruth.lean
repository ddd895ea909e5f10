/-
  Truths: made of numbers, and pushed to an end.
-/
import Derived.Test.YtkcdknjgjidnnaaTrue1
set_option linter.unusedVariables false
set_option linter.unusedSimpArgs false
namespace Go.Proofs.Ytkcdknjgjidnnaa
open Go.RowKit

theorem info_sold : (Try.prog.info? 76).map (fun i => (i.zero, i.size, i.bytes)) = some (some (.agg #[.int .i64 0, .int .i64 0]), 2, 16) := by kernel_rfl

set_option maxRecDepth 100000 in
set_option maxHeartbeats 1000000 in
theorem truthOf_any (d : Nat) (st gd : Int) (b n c : Nat) (A : Option Addr) (l : List Sale) (w : World) (hd : IsDie w d) (hl : Sl encS 6 w b A n l) (hbd : b ≠ d) (hok : ∀ s ∈ l, SaleOk st gd s) (hn : n ≤ 40) :
    Calls Try.prog 34 #[.pointer (some ⟨d, 0, none⟩), .agg #[.int .i64 st, .int .i64 gd, .slice A n c]] w fun e w' => ∃ (b' c' : Nat) (A' : Option Addr) (t : List Sold), F2 SoldIn t l ∧ e = .returned (.slice A' n c') ∧ w.heap.size ≤ b' ∧ b' ≠ d ∧ Sl encD 2 w' b' A' n t ∧ DieTo d w w' := by
  have hz := hd.lt
  obtain ⟨i0, hi, iz0, iz1, iz2⟩ := info_parts info_sold
  have HA := Lib.hid hl.len
  have HOK := Lib.hid hok
  have X0 := Lib.hid (hl.alloc (.cells #[.int .i64 st, .int .i64 gd, .slice A n c] 24))
  have B0 := Lib.hid (Blk.new w 24 #[.int .i64 st, .int .i64 gd, .slice A n c])
  have D0 := Lib.hid (hd.alloc (.cells #[.int .i64 st, .int .i64 gd, .slice A n c] 24))
  have G0 := Lib.hid (only_alloc (only_refl w d) (.cells #[.int .i64 st, .int .i64 gd, .slice A n c] 24))
  have hXz : (w.alloc (.cells #[.int .i64 st, .int .i64 gd, .slice A n c] 24)).heap.size = w.heap.size + 1 := by simp
  have HXZ := Lib.hid hXz
  clear hl hok hd hXz
  go_enter Try.func34, Try.ntmps34
  go_wp2_with fail
  generalize hX : w.alloc (.cells #[.int .i64 st, .int .i64 gd, .slice A n c] 24) = X at X0 B0 D0 G0 HXZ ⊢
  clear hX
  go_loopw [5, 6] (fun v i wr => ∃ (k c' : Nat) (A' : Option Addr) (t : List Sold), k ≤ n ∧ i = .int .i64 k ∧ v = .slice A' k c' ∧ F2 SoldIn t (l.take k) ∧ RowSt X wr d X.heap.size 76 2 A' k c' (t.flatMap encD)) (fun _ i _ => n - (intOf i).toNat)
  case atStart => exact ⟨0, 0, none, [], by omega, rfl, rfl, .nil, ⟨D0.out, World.ownsRow_nil _ _ _ _, only_refl _ _, Nat.le_refl _, D0.out.lt, Nat.le_refl _⟩⟩
  case round =>
    obtain ⟨k, c', A', t, hk, rfl, rfl, hF, hS⟩ := hrel
    have HF := Lib.hid hF
    have HS := Lib.hid hS
    have k2 := (B0.out.grown hS.only (fun e => by injection e; omega)).cell 2
    clear hF hS
    by_cases hlt : k < n
    · have hk1 : k < l.length := by have := HA.out; omega
      have hsok := HOK.out _ (List.getElem_mem hk1)
      have HP := Lib.hid (take_snoc l k hk1)
      have hFF := Lib.hid (fun (W : World) (hG : X.grownBy W (some d)) => (X0.out.grown hG (fun _ e => hbd (by injection e))).atS hk1)
      have hFB := Lib.hid (fun (W : World) (hG : X.grownBy W (some d)) => (B0.out.grown hG (fun e => by injection e; omega)).cell 2)
      obtain ⟨o, rfl, hbz, s0, s1, s2, s3, s4, s5⟩ := X0.out.atS hk1
      have hFC := Lib.hid (fun (W : World) (hG : X.grownBy W (some d)) => (show W.cell? ⟨w.heap.size, 2, none⟩ = some (.slice (some ⟨b, o, none⟩) n c) ∧ W.cell? ⟨b, o + k * 6 + 2, none⟩ = some (.int .i64 l[k].gl) ∧ W.cell? ⟨b, o + k * 6 + 3, none⟩ = some (.int .i64 l[k].gh) ∧ W.cell? ⟨b, o + k * 6 + 4, none⟩ = some (.int .i64 l[k].cl) ∧ W.cell? ⟨b, o + k * 6 + 5, none⟩ = some (.int .i64 l[k].ch) from by
        obtain ⟨o', ho', _, r0, r1, r2, r3, r4, r5⟩ := hFF.out W hG
        obtain rfl : o = o' := by injection ho' with h; injection h
        exact ⟨hFB.out W hG, r2, r3, r4, r5⟩))
      have a1 := hsok.gl0
      have a2 := hsok.gl1
      have a3 := hsok.gh1
      have a4 := hsok.cl0
      have a5 := hsok.cl1
      have a6 := hsok.ch1
      clear hFF hFB s0 s1 s2 s3 s4 s5 hsok hbz
      generalize l[k] = s at HP hFC a1 a2 a3 a4 a5 a6
      have e0 : (0 : Int) ≤ (k : Int) := by omega
      have e1 : (k : Int) < (n : Int) := by omega
      have e3 : o + k * 6 + 2 + 1 = o + k * 6 + 3 := rfl
      go_wp2_with fail
      refine wp_region_PL [3, 7, 11, 15] (fun W => W.cell? ⟨w.heap.size, 2, none⟩ = some (.slice (some ⟨b, o, none⟩) n c) ∧ W.cell? ⟨b, o + k * 6 + 2, none⟩ = some (.int .i64 s.gl) ∧ W.cell? ⟨b, o + k * 6 + 3, none⟩ = some (.int .i64 s.gh) ∧ W.cell? ⟨b, o + k * 6 + 4, none⟩ = some (.int .i64 s.cl) ∧ W.cell? ⟨b, o + k * 6 + 5, none⟩ = some (.int .i64 s.ch)) rfl (by kernel_rfl) (hFC.out _ (only_drew HS.out.only)) (fun hF0 => ?_)
      (refine wpAnyP_takeL (i := 0) (v := ?_) rfl (by kernel_rfl) (by kernel_rfl) (by kernel_rfl) (fun _ _ _ h => h) (by rfl) ?_ ?_; rotate_left 1; focus (intro w; go_simp; try with_reducible rfl))
      try simp only [Act.put, List.setIfInBounds_toArray, List.set_cons_zero, List.set_cons_succ]
      (refine wpAnyP_takeL (i := 1) (v := ?_) rfl (by kernel_rfl) (by kernel_rfl) (by kernel_rfl) (fun _ _ _ h => h) (by rfl) ?_ ?_; rotate_left 1; focus (intro w; go_simp; try with_reducible rfl))
      try simp only [Act.put, List.setIfInBounds_toArray, List.set_cons_zero, List.set_cons_succ]
      (refine wpAnyP_takeL (i := 2) (v := ?_) rfl (by kernel_rfl) (by kernel_rfl) (by kernel_rfl) (fun _ _ _ h => h) (by rfl) ?_ ?_; rotate_left 1; focus (intro w; go_simp; try with_reducible rfl))
      try simp only [Act.put, List.setIfInBounds_toArray, List.set_cons_zero, List.set_cons_succ]
      (refine wpAnyP_loadL (i := 3) (v := ?_) rfl (by kernel_rfl) (by kernel_rfl) (by kernel_rfl) (by rfl) (fun _ _ _ h => h) hF0 (by rfl) ?_ ?_; rotate_left 1; focus (intro w hFw; (try dsimp only at hFw); go_split_ands; go_simp; try with_reducible rfl))
      try simp only [Act.put, List.setIfInBounds_toArray, List.set_cons_zero, List.set_cons_succ]
      (refine wpAnyP_takeL (i := 4) (v := ?_) rfl (by kernel_rfl) (by kernel_rfl) (by kernel_rfl) (fun _ _ _ h => h) (by rfl) ?_ ?_; rotate_left 1; focus (intro w; go_simp; try with_reducible rfl))
      try simp only [Act.put, List.setIfInBounds_toArray, List.set_cons_zero, List.set_cons_succ]
      (refine wpAnyP_takeL (i := 5) (v := ?_) rfl (by kernel_rfl) (by kernel_rfl) (by kernel_rfl) (fun _ _ _ h => h) (by rfl) ?_ ?_; rotate_left 1; focus (intro w; go_simp; try with_reducible rfl))
      try simp only [Act.put, List.setIfInBounds_toArray, List.set_cons_zero, List.set_cons_succ]
      (refine wpAnyP_takeL (i := 6) (v := ?_) rfl (by kernel_rfl) (by kernel_rfl) (by kernel_rfl) (fun _ _ _ h => h) (by rfl) ?_ ?_; rotate_left 1; focus (intro w; go_simp; try with_reducible rfl))
      try simp only [Act.put, List.setIfInBounds_toArray, List.set_cons_zero, List.set_cons_succ]
      (refine wpAnyP_loadL (i := 7) (v := ?_) rfl (by kernel_rfl) (by kernel_rfl) (by kernel_rfl) (by rfl) (fun _ _ _ h => h) hF0 (by rfl) ?_ ?_; rotate_left 1; focus (intro w hFw; (try dsimp only at hFw); go_split_ands; go_simp; try with_reducible rfl))
      try simp only [Act.put, List.setIfInBounds_toArray, List.set_cons_zero, List.set_cons_succ]
      (refine wpAnyP_takeL (i := 9) (v := ?_) rfl (by kernel_rfl) (by kernel_rfl) (by kernel_rfl) (fun _ _ _ h => h) (by rfl) ?_ ?_; rotate_left 1; focus (intro w; go_simp; try with_reducible rfl))
      try simp only [Act.put, List.setIfInBounds_toArray, List.set_cons_zero, List.set_cons_succ]
      (refine wpAnyP_takeL (i := 10) (v := ?_) rfl (by kernel_rfl) (by kernel_rfl) (by kernel_rfl) (fun _ _ _ h => h) (by rfl) ?_ ?_; rotate_left 1; focus (intro w; go_simp; try with_reducible rfl))
      try simp only [Act.put, List.setIfInBounds_toArray, List.set_cons_zero, List.set_cons_succ]
      (refine wpAnyP_loadL (i := 11) (v := ?_) rfl (by kernel_rfl) (by kernel_rfl) (by kernel_rfl) (by rfl) (fun _ _ _ h => h) hF0 (by rfl) ?_ ?_; rotate_left 1; focus (intro w hFw; (try dsimp only at hFw); go_split_ands; go_simp; try with_reducible rfl))
      try simp only [Act.put, List.setIfInBounds_toArray, List.set_cons_zero, List.set_cons_succ]
      (refine wpAnyP_takeL (i := 12) (v := ?_) rfl (by kernel_rfl) (by kernel_rfl) (by kernel_rfl) (fun _ _ _ h => h) (by rfl) ?_ ?_; rotate_left 1; focus (intro w; go_simp; try with_reducible rfl))
      try simp only [Act.put, List.setIfInBounds_toArray, List.set_cons_zero, List.set_cons_succ]
      (refine wpAnyP_takeL (i := 13) (v := ?_) rfl (by kernel_rfl) (by kernel_rfl) (by kernel_rfl) (fun _ _ _ h => h) (by rfl) ?_ ?_; rotate_left 1; focus (intro w; go_simp; try with_reducible rfl))
      try simp only [Act.put, List.setIfInBounds_toArray, List.set_cons_zero, List.set_cons_succ]
      (refine wpAnyP_takeL (i := 14) (v := ?_) rfl (by kernel_rfl) (by kernel_rfl) (by kernel_rfl) (fun _ _ _ h => h) (by rfl) ?_ ?_; rotate_left 1; focus (intro w; go_simp; try with_reducible rfl))
      try simp only [Act.put, List.setIfInBounds_toArray, List.set_cons_zero, List.set_cons_succ]
      (refine wpAnyP_loadL (i := 15) (v := ?_) rfl (by kernel_rfl) (by kernel_rfl) (by kernel_rfl) (by rfl) (fun _ _ _ h => h) hF0 (by rfl) ?_ ?_; rotate_left 1; focus (intro w hFw; (try dsimp only at hFw); go_split_ands; go_simp; try with_reducible rfl))
      try simp only [Act.put, List.setIfInBounds_toArray, List.set_cons_zero, List.set_cons_succ]
      refine wpAnyP_step (i := 8) rfl (by kernel_rfl) (by rfl) (fun K hK => ?_)
      go_simp
      (refine (true_any d s.gl s.gh _ HS.out.drew.die (by omega) (by omega) (by omega)).mono ?_; rintro e w1 ⟨g1, ⟨hg1, hg2⟩, rfl, hd1, hgr1⟩; have HS1 := Lib.hid (HS.out.drew.toDie hd1 hgr1); clear hd1 hgr1)
      (refine hK _ _ (hFC.out _ HS1.out.only) (fun hF1 => ?_); clear hK K hF0)
      try simp only [Act.put, List.setIfInBounds_toArray, List.set_cons_zero, List.set_cons_succ]
      refine wpAnyP_step (i := 16) rfl (by kernel_rfl) (by rfl) (fun K hK => ?_)
      go_simp
      (refine (true_any d s.cl s.ch _ HS1.out.die (by omega) (by omega) (by omega)).mono ?_; rintro e w2 ⟨g2, ⟨hh1, hh2⟩, rfl, hd2, hgr2⟩; have HS2 := Lib.hid (HS1.out.toDie hd2 hgr2); clear hd2 hgr2)
      (refine hK _ _ (hFC.out _ HS2.out.only) (fun hF2 => ?_); clear hK K hF1)
      try simp only [Act.put, List.setIfInBounds_toArray, List.set_cons_zero, List.set_cons_succ]
      (refine wpAnyP_takeL (i := 17) (v := ?_) rfl (by kernel_rfl) (by kernel_rfl) (by kernel_rfl) (fun _ _ _ h => h) (by rfl) ?_ ?_; rotate_left 1; focus (intro w; go_simp; try with_reducible rfl))
      try simp only [Act.put, List.setIfInBounds_toArray, List.set_cons_zero, List.set_cons_succ]
      refine wpAnyP_step (i := 18) rfl (by kernel_rfl) (by rfl) (fun K hK => ?_)
      go_simp
      (refine hK _ _ (hFC.out _ (HS2.out.alloc _).only) (fun hF3 => ?_); clear hK K hF2)
      try simp only [Act.put, List.setIfInBounds_toArray, List.set_cons_zero, List.set_cons_succ]
      refine wpAnyP_step (i := 19) rfl (by kernel_rfl) (by rfl) (fun K hK => ?_)
      (refine wp_append_lies _ _ _ _ rfl X.heap.size 76 i0 _ 2 16 Try.underlying63 hi iz0 iz1 iz2 rfl (by omega) _ k _ (by rfl) (HS2.out.alloc _).own ⟨w2.heap.size, 0, none⟩ 1 1 (encD ⟨g1, g2⟩) (by rfl) (by rfl) (World.news_of_block (heap_alloc_new w2 _)) (oneD _) (by omega) (by unfold maxLen; omega) (by omega) (HS2.out.alloc _).hz (w2.heap.size + 1) (by simp) ?_; intro g' cap w3 hown3 hgrow hat hlt3; have HS3 := Lib.hid ((HS2.out.alloc _).next hgrow hown3); clear hown3 hgrow hat)
      (refine hK _ _ (hFC.out _ HS3.out.only) (fun hF4 => ?_); clear hK K hF3)
      try simp only [Act.put, List.setIfInBounds_toArray, List.set_cons_zero, List.set_cons_succ]
      (refine wpAnyP_takeL (i := 20) (v := ?_) rfl (by kernel_rfl) (by kernel_rfl) (by kernel_rfl) (fun _ _ _ h => h) (by rfl) ?_ ?_; rotate_left 1; focus (intro w; go_simp; try with_reducible rfl))
      try simp only [Act.put, List.setIfInBounds_toArray, List.set_cons_zero, List.set_cons_succ]
      refine wpAnyP_done (by kernel_rfl) ?_ _
      go_wp2_with fail
      go_roundw
      case rel => exact ⟨k + 1, cap, _, t ++ [⟨g1, g2⟩], by omega, by go_num, rfl, by rw [HP.out]; exact HF.out.snoc ⟨hg1, hg2, hh1, hh2⟩, by simpa using HS3.out⟩
      case measure => simp [intOf]; omega
    · have HK := Lib.hid (show n ≤ k by omega)
      go_wp2_with fail
      go_ret
      have hF := HF.out
      have e : k = n := by have := HK.out; omega
      subst e
      rw [List.take_of_length_le (by have := HA.out; omega)] at hF
      obtain ⟨b', hb', hsl⟩ := Sl.of_own encD_len (l := t) (by have := hF.length_eq; have := HA.out; omega) HS.out.own
      exact ⟨b', c', A', t, hF, rfl, by have := HXZ.out; omega, by have := HXZ.out; omega, hsl, HS.out.die, only_trans G0.out HS.out.only⟩

end Go.Proofs.Ytkcdknjgjidnnaa
