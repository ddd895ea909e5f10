/-
  The reference's push: a way by the fewest steps, and as much as can be let flow on it.
-/
import Derived.Test.YtkphgdkjjklajaaTrMat
import Derived.Test.YtkphgdkjjklajaaKeepApp
set_option linter.unusedVariables false
set_option linter.unusedSimpArgs false
namespace Go.Proofs.Ytkphgdkjjklajaa
open Go.RowKit Go.Shelf Go.Sort

theorem RowC.made (w : World) (n : Nat) : RowC (w.alloc (.cells (Array.replicate n (Value.int .i64 0)) 3)) w.heap.size (List.replicate n 0) :=
  ⟨_, Blk.new w _ _, by simp, by simp⟩
theorem RowC.at0 {w : World} {g : Nat} {l : List Int} (h : RowC w g l) {k : Nat} (hk : k < l.length) : w.cell? ⟨g, k, none⟩ = some (.int .i64 (at0 l k)) := by
  rw [at0_get hk]; exact h.cell hk
theorem fill_step {N k : Nat} (h : k < N) : (List.replicate k (-1 : Int) ++ List.replicate (N - k) 0).set k (-1) = List.replicate (k + 1) (-1) ++ List.replicate (N - (k + 1)) 0 := by
  refine List.ext_getElem (by simp; omega) fun i h1 h2 => ?_
  simp only [List.getElem_set, List.getElem_append, List.length_replicate, List.getElem_replicate]
  by_cases e : k = i
  · subst e; rw [if_pos rfl, dif_pos (by omega)]
  · rw [if_neg e]
    by_cases e2 : i < k
    · rw [dif_pos e2, dif_pos (by omega)]
    · rw [dif_neg e2, dif_neg (by omega)]
theorem Way.lt {R : Int → Int → Int} {N : Nat} {fr p : List Int} {z : Int} (h : Way R N fr z p) {j : Nat} (hj : j < p.length) : ∃ a : Nat, p[j] = (a : Int) ∧ a < N := by
  have h1 := h.rg _ (List.getElem_mem hj)
  obtain ⟨a, ha⟩ := Int.eq_ofNat_of_zero_le h1.1
  exact ⟨a, ha, by omega⟩
theorem Way.more {R : Int → Int → Int} {N : Nat} {fr p : List Int} {z : Int} (h : Way R N fr z p) {j : Nat} (hj : j < p.length) : p[j] ≠ 0 ↔ j + 1 < p.length := by
  constructor
  · intro h1
    by_cases e : j + 1 < p.length
    · exact e
    · exfalso
      have h2 := h.lst
      have h3 : p.length - 1 = j := by omega
      simp only [h3] at h2
      exact h1 h2
  · exact fun h1 => (h.nx j h1).1

theorem own_cellI {w : World} {base A n c : Nat} {q : List Int} (h : w.ownsRow base 3 1 (.slice (some ⟨A, 0, none⟩) n c) n (q.flatMap encI)) {i : Nat} (hi : i < q.length) : w.cell? ⟨A, i, none⟩ = some (.int .i64 q[i]) := by
  have h1 := h.cells (g := A) rfl i (.int .i64 q[i]) (by have := flat_at encI_len q i hi 0 _ rfl; simpa using this)
  unfold Addr.add at h1
  split at h1
  · rename_i h0; subst h0; exact h1
  · simpa using h1
theorem flat_getI (q : List Int) {i : Nat} (hi : i < q.length) : (q.flatMap encI)[i]? = some (.int .i64 q[i]) := by have := flat_at encI_len q i hi 0 _ rfl; simpa using this
/-- while the ways out of one node are looked at -/
structure Out (R : Int → Int → Int) (N : Nat) (fr q : List Int) (i k : Nat) (u : Int) : Prop where
  bf : Bfs R N fr q
  hi : i < q.length
  at_ : q[i] = u
  cl : ∀ x ∈ q.take i, ∀ v : Int, 1 ≤ v → v < N → 0 < R x v → v ∈ q
  now : ∀ v : Int, 1 ≤ v → v < k → 0 < R u v → v ∈ q
theorem Out.skip {R : Int → Int → Int} {N : Nat} {fr q : List Int} {i k : Nat} {u : Int} (h : Out R N fr q i k u) (hk : 1 ≤ k) (hkN : k < N) (hc : ¬ 0 < R u k ∨ ¬ at0 fr k < 0) : Out R N fr q i (k + 1) u :=
  { h with
    now := fun v h1 h2 h3 => by
      by_cases e : v = (k : Int)
      · subst e
        rcases hc with hc | hc
        · exact absurd h3 hc
        · by_cases hm : (k : Int) ∈ q
          · exact hm
          · exact absurd ((h.bf.met h1 (by omega)).2 hm) hc
      · exact h.now v h1 (by omega) h3 }
theorem Out.push {R : Int → Int → Int} {N : Nat} {fr q : List Int} {i k : Nat} {u : Int} (h : Out R N fr q i k u) (hk : 1 ≤ k) (hkN : k < N) (h1 : 0 < R u k) (h2 : at0 fr k < 0) : Out R N (fr.set k u) (q ++ [(k : Int)]) i (k + 1) u := by
  have hm : (k : Int) ∉ q := (h.bf.met (by omega) (by omega)).1 h2
  have hb := h.bf.push h.hi hk hkN hm (by rw [h.at_]; exact h1)
  rw [h.at_] at hb
  refine ⟨hb, by rw [List.length_append]; have := h.hi; omega, by rw [List.getElem_append_left h.hi]; exact h.at_, fun x hx v a b c => ?_, fun v a b c => ?_⟩
  · rw [List.take_append_of_le_length (by have := h.hi; omega)] at hx
    exact List.mem_append_left _ (h.cl x hx v a b c)
  · by_cases e : v = (k : Int)
    · subst e; exact List.mem_append_right _ (List.mem_singleton.2 rfl)
    · exact List.mem_append_left _ (h.now v a (by omega) c)
theorem Out.next {R : Int → Int → Int} {N : Nat} {fr q : List Int} {i : Nat} {u : Int} (h : Out R N fr q i N u) : ∀ x ∈ q.take (i + 1), ∀ v : Int, 1 ≤ v → v < N → 0 < R x v → v ∈ q := fun x hx v a b c => by
  rw [List.take_succ_eq_append_getElem h.hi, h.at_] at hx
  rcases List.mem_append.1 hx with hx | hx
  · exact h.cl x hx v a b c
  · rw [List.mem_singleton.1 hx] at c; exact h.now v a b c

set_option maxRecDepth 100000 in
set_option maxHeartbeats 4000000 in
theorem qpush_any (lo Bo N c : Nat) (rb : Nat → Nat) (R : Int → Int → Int) (w : World) (hM : Mat w lo Bo rb N R) (hN : 2 ≤ N) (hN1 : N ≤ 1000) (hR : ∀ u v, 0 ≤ R u v ∧ R u v ≤ 4000000000) :
    Calls Try.prog 89 #[.slice (some ⟨Bo, 0, none⟩) N c] w fun e w' => ∃ (n : Int) (R' : Int → Int → Int), e = .returned (.int .i64 n) ∧ QPush N R R' n ∧ n ≤ 4000000000 ∧ Mat w' lo Bo rb N R' ∧ Below lo w w' := by
  obtain ⟨M, rfl⟩ : ∃ M, N = M + 1 := ⟨N - 1, by omega⟩
  have hmk : ∀ W : World, (Instr.makeSlice 22 (.int .i64 ((M : Int) + 1)) (.int .i64 ((M : Int) + 1))).run Try.prog W = .ok (.slice (some ⟨W.heap.size, 0, none⟩) (M + 1) (M + 1)) (W.alloc (.cells (Array.replicate (M + 1) (Value.int .i64 0)) 3)) := fun W => by simpa using make_ints (M + 1) (by omega) W
  have HM := Lib.hid hM
  have HRb := Lib.hid hR
  have HLO := Lib.hid (show lo ≤ w.heap.size from by have := hM.lob; have := hM.ltb; omega)
  clear hM hR
  go_enter Try.func89, Try.ntmps89
  go_wp2_with fail
  go_loopw [5] (fun i wr => ∃ k : Nat, k ≤ M + 1 ∧ i = .int .i64 k ∧ RowC wr w.heap.size (List.replicate k (-1) ++ List.replicate (M + 1 - k) 0) ∧ Below w.heap.size w wr) (fun i _ => M + 1 - (intOf i).toNat)
  case atStart => exact ⟨0, by omega, rfl, by simpa using RowC.made w (M + 1), (Below.refl _ w).alloc (Nat.le_refl _) _⟩
  case round =>
    obtain ⟨k, hk, rfl, hrow, hB⟩ := hrel
    have HB := Lib.hid hB
    clear hB
    by_cases hlt : k < M + 1
    · have ck := hrow.cell (k := k) (by simp; omega)
      have fk := hrow.frozen k
      have HR2 := Lib.hid (hrow.set_ (k := k) (by simp; omega) (-1))
      have k0 : (0 : Int) ≤ (k : Int) := by omega
      have k1 : (k : Int) < (M : Int) + 1 := by omega
      clear hrow
      go_wp2_with fail
      refine ⟨⟨k + 1, by omega, by go_num, ?_, ?_⟩, by simp [intOf]; omega⟩
      · have := HR2.out; rw [fill_step hlt] at this; exact this
      · exact HB.out.setCell (p := ⟨w.heap.size, k, none⟩) (Nat.le_refl _) _
    · obtain rfl : k = M + 1 := by omega
      have HROW := Lib.hid (show RowC wr w.heap.size (List.replicate (M + 1) (-1)) from by simpa using hrow)
      have hz := hrow.lt
      clear hrow
      go_wp2_with fail
      have hq0 := own_oneI wr 0
      have HQ0 := Lib.hid hq0
      have HROW1 := Lib.hid (HROW.out.grown (World.grownBy_alloc wr (.cells #[.int .i64 0] 3) none) (by simp))
      have HB1 := Lib.hid (HB.out.alloc HB.out.size (.cells #[.int .i64 0] 3))
      have hzz : w.heap.size < wr.heap.size := hz
      clear hq0
      go_loopw [6, 7] (fun qv iv ws => ∃ (i c : Nat) (q fr : List Int) (A : Nat), i ≤ q.length ∧ iv = .int .i64 i ∧ qv = .slice (some ⟨A, 0, none⟩) q.length c ∧ Bfs R (M + 1) fr q ∧ (∀ u ∈ q.take i, ∀ v : Int, 1 ≤ v → v < (M + 1 : Nat) → 0 < R u v → v ∈ q) ∧ RowC ws w.heap.size fr ∧ ws.ownsRow (w.heap.size + 1) 3 1 (.slice (some ⟨A, 0, none⟩) q.length c) q.length (q.flatMap encI) ∧ Below w.heap.size w ws) (fun _ iv _ => M + 2 - (intOf iv).toNat)
      case atStart => exact ⟨0, 1, [0], List.replicate (M + 1) (-1), wr.heap.size, by simp, rfl, rfl, Bfs.start R (by omega), fun u hu => by simp at hu, HROW1.out, ownsRow_base HQ0.out (by omega), HB1.out⟩
      case round =>
        obtain ⟨i, cq, q, fr, A, hi, rfl, rfl, hbf, hcl, hrw, hown, hB2⟩ := hrel
        have hfl := hbf.len
        have hql : q.length ≤ M + 1 := nodup_len_le hbf.nd hbf.rg
        have HFL := Lib.hid hfl
        have HBF := Lib.hid hbf
        have HCL := Lib.hid hcl
        have HRW := Lib.hid hrw
        have HOW := Lib.hid hown
        have HB2 := Lib.hid hB2
        have cM := hrw.at0 (k := M) (by omega)
        have M0 : (0 : Int) ≤ (M : Int) := by omega
        have M1 : (M : Int) < (M : Int) + 1 := by omega
        generalize hfM : at0 fr M = fM at cM
        have HFM := Lib.hid hfM
        clear hbf hcl hrw hown hB2 hfl hfM
        by_cases hneg : fM < 0
        · have d1 : decide (fM < 0) = true := decide_eq_true hneg
          by_cases hlt2 : i < q.length
          · have d2 : decide ((i : Int) < (q.length : Int)) = true := by simp; omega
            have hu := HBF.out.rg _ (List.getElem_mem hlt2)
            have HOUT := Lib.hid (show Out R (M + 1) fr q i 1 q[i] from ⟨HBF.out, hlt2, rfl, HCL.out, fun v a b => by omega⟩)
            generalize hqu : q[i] = u0 at hu HOUT
            have HQU := Lib.hid hqu
            obtain ⟨a, rfl⟩ := Int.eq_ofNat_of_zero_le hu.1
            have haM : a < M + 1 := by omega
            clear hu hqu
            go_wp2_with fail
            go_loopw [6, 8] (fun qv kv ws2 => ∃ (k c2 : Nat) (q2 fr2 : List Int) (A2 : Nat), 1 ≤ k ∧ k ≤ M + 1 ∧ kv = .int .i64 k ∧ qv = .slice (some ⟨A2, 0, none⟩) q2.length c2 ∧ Out R (M + 1) fr2 q2 i k a ∧ RowC ws2 w.heap.size fr2 ∧ ws2.ownsRow (w.heap.size + 1) 3 1 (.slice (some ⟨A2, 0, none⟩) q2.length c2) q2.length (q2.flatMap encI) ∧ Below w.heap.size w ws2) (fun _ kv _ => M + 2 - (intOf kv).toNat)
            case atStart => exact ⟨1, cq, q, fr, A, Nat.le_refl _, by omega, rfl, rfl, HOUT.out, HRW.out, HOW.out, HB2.out⟩
            case round =>
              obtain ⟨k, c2, q2, fr2, A2, hk1, hkM, rfl, rfl, hout, hrw2, hown2, hB3⟩ := hrel
              have hiq := hout.hi
              have hfl2 := hout.bf.len
              have hql2 : q2.length ≤ M + 1 := nodup_len_le hout.bf.nd hout.bf.rg
              have HOU2 := Lib.hid hout
              have HRW2 := Lib.hid hrw2
              have HOW2 := Lib.hid hown2
              have HB3 := Lib.hid hB3
              have HFL2 := Lib.hid hfl2
              have cq2 := own_cellI hown2 hiq
              rw [hout.at_] at cq2
              clear hout hrw2 hown2 hB3 hfl2
              by_cases hltk : k < M + 1
              · have d3 : decide ((k : Int) < (M : Int) + 1) = true := by simp; omega
                have hMW := HM.out.old HB3.out
                have cro := hMW.out a haM
                have crm := hMW.at_ haM hltk
                have cfk := HRW2.out.at0 (k := k) (by have := HFL2.out; omega)
                have k0 : (0 : Int) ≤ (k : Int) := by omega
                have k1 : (k : Int) < (M : Int) + 1 := by omega
                have a0 : (0 : Int) ≤ (a : Int) := by omega
                have a1 : (a : Int) < (M : Int) + 1 := by omega
                have i0' : (0 : Int) ≤ (i : Int) := by omega
                have i1' : (i : Int) < (q2.length : Int) := by omega
                generalize hr : R a k = r at crm
                generalize hf : at0 fr2 k = f at cfk
                have HR := Lib.hid hr
                have HF := Lib.hid hf
                clear hMW hr hf
                by_cases hr0 : 0 < r
                · have d4 : decide (0 < r) = true := decide_eq_true hr0
                  by_cases hf0 : f < 0
                  · have d5 : decide (f < 0) = true := decide_eq_true hf0
                    have HN := Lib.hid (HOU2.out.push hk1 hltk (by rw [HR.out]; exact hr0) (by rw [HF.out]; exact hf0))
                    have hA2 := HOW2.out.lt A2 rfl
                    have HOA := Lib.hid ((ownsRow_drew HOW2.out).alloc (.cells #[.int .i64 (k : Int)] 3))
                    have HCN := Lib.hid (show (wr.drew.alloc (.cells #[.int .i64 (k : Int)] 3)).cell? ⟨wr.heap.size, 0, none⟩ = some (.int .i64 (k : Int)) from (Blk.new wr.drew 3 #[.int .i64 (k : Int)]).cell 0)
                    have HCA := Lib.hid (show (wr.drew.alloc (.cells #[.int .i64 (k : Int)] 3)).cell? ⟨A2, i, none⟩ = some (.int .i64 (a : Int)) from (World.cell?_of_block (w := wr.drew) (a := ⟨A2, i, none⟩) (heap_alloc_old wr.drew _ hA2.2)).trans cq2)
                    have HFQ := Lib.hid (show (q2.flatMap encI)[i]? = some (.int .i64 (a : Int)) from by rw [flat_getI q2 hiq, HOU2.out.at_])
                    have HRA := Lib.hid (RowC.grown (W := wr.drew) HRW2.out (World.grownBy_alloc wr.drew (.cells #[.int .i64 (k : Int)] 3) none) (by simp))
                    have HBA := Lib.hid (HB3.out.drew.alloc HB3.out.size (.cells #[.int .i64 (k : Int)] 3))
                    go_wp2_with fail
                    refine wp_region_PL [5] (fun W => W.cell? ⟨A2, i, none⟩ = some (.int .i64 (a : Int))) rfl (by kernel_rfl) (cq2) (fun hF0 => ?_)
                    (refine wpAnyP_takeL (i := 0) (v := ?_) rfl (by kernel_rfl) (by kernel_rfl) (by kernel_rfl) (fun _ _ _ h => h) (by rfl) ?_ ?_; rotate_left 1; focus (intro w; go_simp; try with_reducible rfl))
                    try simp only [Act.put, List.setIfInBounds_toArray, List.set_cons_zero, List.set_cons_succ]
                    (refine wpAnyP_takeL (i := 1) (v := ?_) rfl (by kernel_rfl) (by kernel_rfl) (by kernel_rfl) (fun _ _ _ h => h) (by rfl) ?_ ?_; rotate_left 1; focus (intro w; go_simp; try with_reducible rfl))
                    try simp only [Act.put, List.setIfInBounds_toArray, List.set_cons_zero, List.set_cons_succ]
                    (refine wpAnyP_takeL (i := 2) (v := ?_) rfl (by kernel_rfl) (by kernel_rfl) (by kernel_rfl) (fun _ _ _ h => h) (by rfl) ?_ ?_; rotate_left 1; focus (intro w; go_simp; try with_reducible rfl))
                    try simp only [Act.put, List.setIfInBounds_toArray, List.set_cons_zero, List.set_cons_succ]
                    (refine wpAnyP_takeL (i := 3) (v := ?_) rfl (by kernel_rfl) (by kernel_rfl) (by kernel_rfl) (fun _ _ _ h => h) (by rfl) ?_ ?_; rotate_left 1; focus (intro w; go_simp; try with_reducible rfl))
                    try simp only [Act.put, List.setIfInBounds_toArray, List.set_cons_zero, List.set_cons_succ]
                    (refine wpAnyP_takeL (i := 4) (v := ?_) rfl (by kernel_rfl) (by kernel_rfl) (by kernel_rfl) (fun _ _ _ h => h) (by rfl) ?_ ?_; rotate_left 1; focus (intro w; go_simp; try with_reducible rfl))
                    try simp only [Act.put, List.setIfInBounds_toArray, List.set_cons_zero, List.set_cons_succ]
                    (refine wpAnyP_loadL (i := 5) (v := ?_) rfl (by kernel_rfl) (by kernel_rfl) (by kernel_rfl) (by rfl) (fun _ _ _ h => h) hF0 (by rfl) ?_ ?_; rotate_left 1; focus (intro w hFw; (try dsimp only at hFw); go_split_ands; go_simp; try with_reducible rfl))
                    try simp only [Act.put, List.setIfInBounds_toArray, List.set_cons_zero, List.set_cons_succ]
                    (refine wpAnyP_takeL (i := 6) (v := ?_) rfl (by kernel_rfl) (by kernel_rfl) (by kernel_rfl) (fun _ _ _ h => h) (by rfl) ?_ ?_; rotate_left 1; focus (intro w; go_simp; try with_reducible rfl))
                    try simp only [Act.put, List.setIfInBounds_toArray, List.set_cons_zero, List.set_cons_succ]
                    (refine wpAnyP_takeL (i := 7) (v := ?_) rfl (by kernel_rfl) (by kernel_rfl) (by kernel_rfl) (fun _ _ _ h => h) (by rfl) ?_ ?_; rotate_left 1; focus (intro w; go_simp; try with_reducible rfl))
                    try simp only [Act.put, List.setIfInBounds_toArray, List.set_cons_zero, List.set_cons_succ]
                    refine wpAnyP_step (i := 8) rfl (by kernel_rfl) (by rfl) (fun K hK => ?_)
                    go_simp
                    (refine hK _ _ (HCA.out) (fun hF1 => ?_); clear hK K hF0)
                    try simp only [Act.put, List.setIfInBounds_toArray, List.set_cons_zero, List.set_cons_succ]
                    refine wpAnyP_step (i := 9) rfl (by kernel_rfl) (by rfl) (fun K hK => ?_)
                    (refine wp_pushI (.tmp 71) (.tmp 73) rfl (w.heap.size + 1) A2 _ c2 q2 (by rfl) HOA.out wr.heap.size (k : Int) (by rfl) HCN.out (by omega) (by simp; omega) ?_; intro A9 c9 w9 hown9 hg9 hat9 hkeep9)
                    (refine hK _ _ (hkeep9 i _ HFQ.out) (fun hF2 => ?_); clear hK K hF1)
                    try simp only [Act.put, List.setIfInBounds_toArray, List.set_cons_zero, List.set_cons_succ]
                    (refine wpAnyP_takeL (i := 10) (v := ?_) rfl (by kernel_rfl) (by kernel_rfl) (by kernel_rfl) (fun _ _ _ h => h) (by rfl) ?_ ?_; rotate_left 1; focus (intro w; go_simp; try with_reducible rfl))
                    try simp only [Act.put, List.setIfInBounds_toArray, List.set_cons_zero, List.set_cons_succ]
                    refine wpAnyP_last (i := 11) rfl (by kernel_rfl) (by kernel_rfl) (by rfl) (fun K hK => ?_)
                    go_simp
                    (have hR9 := HRA.out.grown hg9 (fun e => by have := Option.some.inj e; omega); have f9 := hR9.frozen k; have e9 := hR9.cell (k := k) (by have := HFL2.out; omega); go_simp; clear f9 e9)
                    (refine hK _ _ ?_; clear hK K)
                    try simp only [Act.put, List.setIfInBounds_toArray, List.set_cons_zero, List.set_cons_succ]
                    (refine wpAnyP_takeL (i := 12) (v := ?_) rfl (by kernel_rfl) (by kernel_rfl) (by kernel_rfl) (fun _ _ _ h => h) (by rfl) ?_ ?_; rotate_left 1; focus (intro w; go_simp; try with_reducible rfl))
                    try simp only [Act.put, List.setIfInBounds_toArray, List.set_cons_zero, List.set_cons_succ]
                    refine wpAnyP_done (by kernel_rfl) ?_ _
                    have hR9 := Lib.hid (HRA.out.grown hg9 (fun e => by have := Option.some.inj e; omega))
                    have hO9 := Lib.hid hown9
                    have hB9 := Lib.hid (below_own HOA.out (show World.grownBy _ w9 (Value.ownBlock (.slice (some ⟨A2, 0, none⟩) q2.length c2)) from hg9) HBA.out (by omega) (Nat.le_refl _))
                    obtain ⟨A10, rfl⟩ : ∃ A10, A9 = some ⟨A10, 0, none⟩ := hat9.elim (fun e => ⟨_, e⟩) (fun e => ⟨_, e⟩)
                    clear hown9 hg9 hat9 hkeep9
                    go_wp2_with fail
                    go_roundw
                    case rel =>
                      have hrow10 := hR9.out.set_ (k := k) (by have := HFL2.out; omega) (a : Int)
                      have hown10 := ownsRow_setCell hO9.out (p := ⟨w.heap.size, k, none⟩) (by show w.heap.size < w.heap.size + 1; omega) (.int .i64 (a : Int))
                      have hb10 := hB9.out.setCell (p := ⟨w.heap.size, k, none⟩) (Nat.le_refl _) (.int .i64 (a : Int))
                      have hl10 : q2.length + 1 = (q2 ++ [(k : Int)]).length := by rw [List.length_append]; rfl
                      rw [hl10] at hown10 ⊢
                      repeat apply Exists.intro
                      exact ⟨⟨k + 1, c9, q2 ++ [(k : Int)], fr2.set k a, A10, by omega, by omega, by go_num, rfl, HN.out, hrow10, hown10, hb10⟩, rfl⟩
                    case measure => simp [intOf]; omega
                  · have d5 : decide (f < 0) = false := decide_eq_false hf0
                    have HN := Lib.hid (HOU2.out.skip hk1 hltk (.inr (by rw [HF.out]; exact hf0)))
                    go_wp2_with fail
                    exact ⟨⟨k + 1, c2, q2, fr2, A2, by omega, by omega, by go_num, rfl, HN.out, HRW2.out, HOW2.out, HB3.out⟩, by simp [intOf]; omega⟩
                · have d4 : decide (0 < r) = false := decide_eq_false hr0
                  have HN := Lib.hid (HOU2.out.skip hk1 hltk (.inl (by rw [HR.out]; exact hr0)))
                  go_wp2_with fail
                  exact ⟨⟨k + 1, c2, q2, fr2, A2, by omega, by omega, by go_num, rfl, HN.out, HRW2.out, HOW2.out, HB3.out⟩, by simp [intOf]; omega⟩
              · obtain rfl : k = M + 1 := by omega
                have HN := Lib.hid HOU2.out.next
                go_wp2_with fail
                exact ⟨⟨i + 1, c2, q2, fr2, A2, by omega, by go_num, rfl, HOU2.out.bf, HN.out, HRW2.out, HOW2.out, HB3.out⟩, by simp [intOf]; omega⟩
          · have d2 : decide ((i : Int) < (q.length : Int)) = false := by simp; omega
            have hqi : q.take i = q := List.take_of_length_le (by omega)
            have hcut := HBF.out.cut (cap := R) (by
              rw [show M + 1 - 1 = M by omega]
              exact (HBF.out.met (by omega) (by omega)).1 (by rw [HFM.out]; exact hneg)) (by
              have h := HCL.out
              rw [hqi] at h
              exact h) (fun u v => (HRb.out u v).1)
            have HCUT := Lib.hid hcut
            clear hcut hqi
            go_wp2_with fail
            go_ret
            exact ⟨0, R, rfl, ⟨Int.le_refl _, fun _ => ⟨rfl, HCUT.out⟩, fun h => absurd h (by decide)⟩, by decide, HM.out.old HB2.out, HB2.out.mono HLO.out⟩
        · have d1 : decide (fM < 0) = false := decide_eq_false hneg
          have hMq : (M : Int) ∈ q := by
            by_cases h : (M : Int) ∈ q
            · exact h
            · exact absurd ((HBF.out.met (by omega) (by omega)).2 h) (by rw [HFM.out]; exact hneg)
          obtain ⟨j0, hj0, hqj⟩ := List.getElem_of_mem hMq
          obtain ⟨p, hway, _⟩ := HBF.out.way j0 hj0
          rw [hqj] at hway
          have HW := Lib.hid hway
          have hp1 : 1 < p.length := (hway.more hway.pos).1 (by rw [hway.fst]; omega)
          have hp0 : at0 p 0 = (M : Int) := (at0_get (k := 0) hway.pos).trans hway.fst
          obtain ⟨b1, hb1, hb1M⟩ := hway.lt hp1
          have hfM : fM = (b1 : Int) := by
            rw [← hb1, ← (hway.nx 0 hp1).2.1, hway.fst, HFM.out]
          have hl0 : leastW R p 0 = R b1 M := by
            show R (at0 p 1) (at0 p 0) = _
            rw [hp0, show at0 p 1 = p[1] from at0_get (k := 1) hp1, hb1]
          have HL0 := Lib.hid hl0
          have HP0 := Lib.hid hp0
          have HB1' := Lib.hid hb1
          clear hway hMq hqj hl0 hp0 hb1
          rw [hfM] at cM d1
          have hMW := HM.out.old HB2.out
          have cro := hMW.out b1 hb1M
          have crm := hMW.at_ hb1M (Nat.lt_succ_self M)
          have b10 : (0 : Int) ≤ (b1 : Int) := by omega
          have b11 : (b1 : Int) < (M : Int) + 1 := by omega
          have HMW := Lib.hid hMW
          clear hMW hfM
          obtain ⟨bb, hbb⟩ : ∃ bb, decide ((i : Int) < (q.length : Int)) = bb := ⟨_, rfl⟩
          cases bb
          all_goals (go_wp2_with fail)
          all_goals (
            go_loopw [9, 10] (fun nv vv ws2 => ∃ (j : Nat), j < p.length ∧ vv = .int .i64 (at0 p j) ∧ nv = .int .i64 (leastW R p j) ∧ RowC ws2 w.heap.size fr ∧ Below w.heap.size w ws2) (fun _ vv _ => p.length - posOf p (intOf vv))
            case atStart => exact ⟨0, by omega, congrArg (Value.int .i64) HP0.out.symm, congrArg (Value.int .i64) HL0.out.symm, HRW.out, HB2.out⟩
            case round =>
              obtain ⟨j, hj, rfl, rfl, hrw2, hB3⟩ := hrel
              obtain ⟨a, ha, haM⟩ := HW.out.lt hj
              have hja : at0 p j = (a : Int) := (at0_get hj).trans ha
              have HJA := Lib.hid hja
              have HRW2 := Lib.hid hrw2
              have HB3 := Lib.hid hB3
              rw [hja]
              have HMO := Lib.hid (HW.out.more hj)
              have HJ := Lib.hid hj
              have a0 : (0 : Int) ≤ (a : Int) := by omega
              have a1 : (a : Int) < (M : Int) + 1 := by omega
              have HA := Lib.hid ha
              by_cases hlt3 : j + 1 < p.length
              · have hne : ¬ (a : Int) = 0 := by rw [← ha]; exact (HW.out.more hj).2 hlt3
                have e1 : ((a : Int) == 0) = false := by simpa using hne
                obtain ⟨b, hb, hbM⟩ := HW.out.lt hlt3
                have hnx := (HW.out.nx j hlt3).2.1
                rw [ha, hb] at hnx
                have cfa := hrw2.at0 (k := a) (by rw [HFL.out]; exact haM)
                rw [hnx] at cfa
                have hMW := HM.out.old hB3
                have cro2 := hMW.out b hbM
                have crm2 := hMW.at_ hbM haM
                have b0 : (0 : Int) ≤ (b : Int) := by omega
                have bM : (b : Int) < (M : Int) + 1 := by omega
                have HLN := Lib.hid (show leastW R p (j + 1) = min (leastW R p j) (R b a) from by
                  show min (leastW R p j) (R (at0 p (j + 1 : Nat)) (at0 p j)) = _
                  rw [at0_get hlt3, hb, hja])
                have HAN := Lib.hid (show at0 p (j + 1 : Nat) = (b : Int) from by rw [at0_get hlt3, hb])
                have HPO := Lib.hid (show posOf p (a : Int) = j ∧ posOf p (b : Int) = j + 1 from ⟨by rw [← ha]; exact posOf_get HW.out.nd hj, by rw [← hb]; exact posOf_get HW.out.nd hlt3⟩)
                clear hrw2 hB3 hMW hnx hb ha hja hne
                go_wp2_with fail
                refine ⟨⟨j + 1, hlt3, by rw [HAN.out], by rw [HLN.out], HRW2.out, HB3.out⟩, ?_⟩
                have := HPO.out
                simp only [intOf, this.1, this.2]
                omega
              · have hz0 : (a : Int) = 0 := by
                  rw [← ha]
                  by_cases e : p[j] = 0
                  · exact e
                  · exact absurd ((HW.out.more hj).1 e) hlt3
                obtain rfl : a = 0 := by omega
                have hjl : j + 1 = p.length := by omega
                obtain ⟨nn, hnn⟩ : ∃ x, x = leastW R p j := ⟨_, rfl⟩
                have hn0 : 0 < nn := by rw [hnn]; exact leastW_pos HW.out hp1 j hj
                have hnle : ∀ i, i + 1 < p.length → nn ≤ R (at0 p (i + 1 : Nat)) (at0 p i) := fun i hi => by rw [hnn]; exact leastW_le j (by omega)
                have hn9 : nn ≤ 4000000000 := by have := hnle 0 hp1; have := (HRb.out (at0 p (0 + 1 : Nat)) (at0 p (0 : Nat))).2; omega
                have HNLE := Lib.hid hnle
                have HMS := Lib.hid (HM.out.old HB3.out)
                have HBL := Lib.hid (HB3.out.mono HLO.out)
                rw [← hnn]
                clear hrw2 hB3 ha hja hz0 hnle hnn
                go_wp2_with fail
                go_loopw [11] (fun vv ws3 => ∃ (k : Nat), k < p.length ∧ vv = .int .i64 (at0 p k) ∧ RowC ws3 w.heap.size fr ∧ Mat ws3 lo Bo rb (M + 1) (flowR R p nn k) ∧ Below lo w ws3) (fun vv _ => p.length - posOf p (intOf vv))
                case atStart => exact ⟨0, by omega, congrArg (Value.int .i64) HP0.out.symm, HRW2.out, HMS.out, HBL.out⟩
                case round =>
                  obtain ⟨k, hk, rfl, hrw3, hM3, hB4⟩ := hrel
                  obtain ⟨a, ha, haM⟩ := HW.out.lt hk
                  have hja : at0 p k = (a : Int) := (at0_get hk).trans ha
                  have HRW3 := Lib.hid hrw3
                  have HM3 := Lib.hid hM3
                  have HB4 := Lib.hid hB4
                  rw [hja]
                  by_cases hlt3 : k + 1 < p.length
                  · have hne : ¬ (a : Int) = 0 := by rw [← ha]; exact (HW.out.more hk).2 hlt3
                    have e1 : ((a : Int) == 0) = false := by simpa using hne
                    obtain ⟨b, hb, hbM⟩ := HW.out.lt hlt3
                    have hjb : at0 p (k + 1 : Nat) = (b : Int) := (at0_get hlt3).trans hb
                    have hab : a ≠ b := fun e => by
                      have h1 : p[k] = p[k + 1] := by rw [ha, hb, e]
                      have := (List.getElem_inj HW.out.nd).1 h1
                      omega
                    have hnx := (HW.out.nx k hlt3).2.1
                    rw [ha, hb] at hnx
                    have cfa := hrw3.at0 (k := a) (by rw [HFL.out]; exact haM)
                    rw [hnx] at cfa
                    have crb := hM3.out b hbM
                    have cra := hM3.out a haM
                    have cba := hM3.at_ hbM haM
                    have cab := hM3.at_ haM hbM
                    have ffa : flowR R p nn k b a = R b a := by have := flow_same HW.out (n := nn) k (Nat.le_refl k) hlt3; rwa [hja, hjb] at this
                    have ffb : flowR R p nn k a b = R a b := by have := flow_rev HW.out (n := nn) k (Nat.le_refl k) hlt3; rwa [hja, hjb] at this
                    have hle1 : nn ≤ R b a := by have := HNLE.out k hlt3; rwa [hja, hjb] at this
                    have hra := HRb.out b a
                    have hrb := HRb.out a b
                    have hS1 := hM3.set_ hbM haM (flowR R p nn k b a - nn)
                    have hS2 := hS1.set_ haM hbM (flowR R p nn k a b + nn)
                    have c2 := hS1.at_ haM hbM
                    have f1 := hM3.frozen hbM a
                    have f2 := hS1.frozen haM b
                    have HNX := Lib.hid (show pushR (flowR R p nn k) b a nn = flowR R p nn (k + 1) from by
                      show _ = pushR (flowR R p nn k) (at0 p (k + 1 : Nat)) (at0 p k) nn
                      rw [hja, hjb])
                    rw [setR_push (flowR R p nn k) (by omega : (b : Int) ≠ (a : Int)) nn, HNX.out] at hS2
                    rw [ffa] at hS1 hS2 cba f2 c2
                    rw [ffb] at hS2 cab
                    have HS2 := Lib.hid hS2
                    have HC2 := Lib.hid c2
                    have HF12 := Lib.hid (And.intro f1 (hM3.frozen haM b))
                    have HPO := Lib.hid (show posOf p (a : Int) = k ∧ posOf p (b : Int) = k + 1 from ⟨by rw [← ha]; exact posOf_get HW.out.nd hk, by rw [← hb]; exact posOf_get HW.out.nd hlt3⟩)
                    have HBE := Lib.hid (hS1.lowSet (hM3.lowSet hB4 (Nat.le_refl _) hbM a (.int .i64 (R b a - nn))) (Nat.le_refl _) haM b (.int .i64 (R a b + nn)))
                    have HW1 := Lib.hid (show IntKind.i64.wrap (R b a - nn) = R b a - nn from IntWalk.i64_in _ (by omega))
                    have HW2 := Lib.hid (show IntKind.i64.wrap (R a b + nn) = R a b + nn from IntWalk.i64_in _ (by omega))
                    have a0 : (0 : Int) ≤ (a : Int) := by omega
                    have aM : (a : Int) < (M : Int) + 1 := by omega
                    have b0 : (0 : Int) ≤ (b : Int) := by omega
                    have bM : (b : Int) < (M : Int) + 1 := by omega
                    have HLD := Lib.hid (And.intro cfa (And.intro crb (And.intro cra (And.intro cba cab))))
                    have HK3 := Lib.hid hlt3
                    have HJB := Lib.hid hjb
                    have HJA3 := Lib.hid hja
                    have HRW4 := Lib.hid ((hrw3.far (p := ⟨rb b, a, none⟩) (fun e => by have := hM3.ltr hbM; have := HRW3.out.lt; have h9 := HM.out.ltr hbM; have h8 : w.heap.size = rb b := e; omega) (.int .i64 (R b a - nn))).far (p := ⟨rb a, b, none⟩) (fun e => by have h9 := HM.out.ltr haM; have h8 : w.heap.size = rb a := e; omega) (.int .i64 (R a b + nn)))
                    have HC9 := Lib.hid (show ((wr.setCell ⟨rb b, a, none⟩ (.int .i64 (R b a - nn))).setCell ⟨rb a, b, none⟩ (.int .i64 (R a b + nn))).cell? ⟨w.heap.size, a, none⟩ = some (.int .i64 (b : Int)) from by
                      have h := HRW4.out.at0 (k := a) (by rw [HFL.out]; exact haM)
                      rw [hnx] at h
                      exact h)
                    clear hrw3 hM3 hB4 hnx hb ha hja hjb hne hS1 hS2 c2 f1 f2 ffa ffb hle1 hra hrb cfa crb cra cba cab hlt3 hk hab
                    go_wp2_with fail
                    refine wp_region_PL [4, 6, 11, 15, 20, 22, 25, 31, 35, 37] (fun W => W.cell? ⟨w.heap.size, a, none⟩ = some (.int .i64 (b : Int)) ∧ W.cell? ⟨Bo, b, none⟩ = some (.slice (some ⟨rb b, 0, none⟩) (M + 1) (M + 1)) ∧ W.cell? ⟨Bo, a, none⟩ = some (.slice (some ⟨rb a, 0, none⟩) (M + 1) (M + 1)) ∧ W.cell? ⟨rb b, a, none⟩ = some (.int .i64 (R b a)) ∧ W.cell? ⟨rb a, b, none⟩ = some (.int .i64 (R a b))) rfl (by kernel_rfl) (HLD.out) (fun hF0 => ?_)
                    (refine wpAnyP_takeL (i := 0) (v := ?_) rfl (by kernel_rfl) (by kernel_rfl) (by kernel_rfl) (fun _ _ _ h => h) (by rfl) ?_ ?_; rotate_left 1; focus (intro w; go_simp; try with_reducible rfl))
                    try simp only [Act.put, List.setIfInBounds_toArray, List.set_cons_zero, List.set_cons_succ]
                    (refine wpAnyP_takeL (i := 1) (v := ?_) rfl (by kernel_rfl) (by kernel_rfl) (by kernel_rfl) (fun _ _ _ h => h) (by rfl) ?_ ?_; rotate_left 1; focus (intro w; go_simp; try with_reducible rfl))
                    try simp only [Act.put, List.setIfInBounds_toArray, List.set_cons_zero, List.set_cons_succ]
                    (refine wpAnyP_takeL (i := 2) (v := ?_) rfl (by kernel_rfl) (by kernel_rfl) (by kernel_rfl) (fun _ _ _ h => h) (by rfl) ?_ ?_; rotate_left 1; focus (intro w; go_simp; try with_reducible rfl))
                    try simp only [Act.put, List.setIfInBounds_toArray, List.set_cons_zero, List.set_cons_succ]
                    (refine wpAnyP_takeL (i := 3) (v := ?_) rfl (by kernel_rfl) (by kernel_rfl) (by kernel_rfl) (fun _ _ _ h => h) (by rfl) ?_ ?_; rotate_left 1; focus (intro w; go_simp; try with_reducible rfl))
                    try simp only [Act.put, List.setIfInBounds_toArray, List.set_cons_zero, List.set_cons_succ]
                    (refine wpAnyP_loadL (i := 4) (v := ?_) rfl (by kernel_rfl) (by kernel_rfl) (by kernel_rfl) (by rfl) (fun _ _ _ h => h) hF0 (by rfl) ?_ ?_; rotate_left 1; focus (intro w hFw; (try dsimp only at hFw); go_split_ands; go_simp; try with_reducible rfl))
                    try simp only [Act.put, List.setIfInBounds_toArray, List.set_cons_zero, List.set_cons_succ]
                    (refine wpAnyP_takeL (i := 5) (v := ?_) rfl (by kernel_rfl) (by kernel_rfl) (by kernel_rfl) (fun _ _ _ h => h) (by rfl) ?_ ?_; rotate_left 1; focus (intro w; go_simp; try with_reducible rfl))
                    try simp only [Act.put, List.setIfInBounds_toArray, List.set_cons_zero, List.set_cons_succ]
                    (refine wpAnyP_loadL (i := 6) (v := ?_) rfl (by kernel_rfl) (by kernel_rfl) (by kernel_rfl) (by rfl) (fun _ _ _ h => h) hF0 (by rfl) ?_ ?_; rotate_left 1; focus (intro w hFw; (try dsimp only at hFw); go_split_ands; go_simp; try with_reducible rfl))
                    try simp only [Act.put, List.setIfInBounds_toArray, List.set_cons_zero, List.set_cons_succ]
                    (refine wpAnyP_takeL (i := 7) (v := ?_) rfl (by kernel_rfl) (by kernel_rfl) (by kernel_rfl) (fun _ _ _ h => h) (by rfl) ?_ ?_; rotate_left 1; focus (intro w; go_simp; try with_reducible rfl))
                    try simp only [Act.put, List.setIfInBounds_toArray, List.set_cons_zero, List.set_cons_succ]
                    (refine wpAnyP_takeL (i := 8) (v := ?_) rfl (by kernel_rfl) (by kernel_rfl) (by kernel_rfl) (fun _ _ _ h => h) (by rfl) ?_ ?_; rotate_left 1; focus (intro w; go_simp; try with_reducible rfl))
                    try simp only [Act.put, List.setIfInBounds_toArray, List.set_cons_zero, List.set_cons_succ]
                    (refine wpAnyP_takeL (i := 9) (v := ?_) rfl (by kernel_rfl) (by kernel_rfl) (by kernel_rfl) (fun _ _ _ h => h) (by rfl) ?_ ?_; rotate_left 1; focus (intro w; go_simp; try with_reducible rfl))
                    try simp only [Act.put, List.setIfInBounds_toArray, List.set_cons_zero, List.set_cons_succ]
                    (refine wpAnyP_takeL (i := 10) (v := ?_) rfl (by kernel_rfl) (by kernel_rfl) (by kernel_rfl) (fun _ _ _ h => h) (by rfl) ?_ ?_; rotate_left 1; focus (intro w; go_simp; try with_reducible rfl))
                    try simp only [Act.put, List.setIfInBounds_toArray, List.set_cons_zero, List.set_cons_succ]
                    (refine wpAnyP_loadL (i := 11) (v := ?_) rfl (by kernel_rfl) (by kernel_rfl) (by kernel_rfl) (by rfl) (fun _ _ _ h => h) hF0 (by rfl) ?_ ?_; rotate_left 1; focus (intro w hFw; (try dsimp only at hFw); go_split_ands; go_simp; try with_reducible rfl))
                    try simp only [Act.put, List.setIfInBounds_toArray, List.set_cons_zero, List.set_cons_succ]
                    (refine wpAnyP_takeL (i := 12) (v := ?_) rfl (by kernel_rfl) (by kernel_rfl) (by kernel_rfl) (fun _ _ _ h => h) (by rfl) ?_ ?_; rotate_left 1; focus (intro w; go_simp; try with_reducible rfl))
                    try simp only [Act.put, List.setIfInBounds_toArray, List.set_cons_zero, List.set_cons_succ]
                    (refine wpAnyP_takeL (i := 13) (v := ?_) rfl (by kernel_rfl) (by kernel_rfl) (by kernel_rfl) (fun _ _ _ h => h) (by rfl) ?_ ?_; rotate_left 1; focus (intro w; go_simp; try with_reducible rfl))
                    try simp only [Act.put, List.setIfInBounds_toArray, List.set_cons_zero, List.set_cons_succ]
                    (refine wpAnyP_takeL (i := 14) (v := ?_) rfl (by kernel_rfl) (by kernel_rfl) (by kernel_rfl) (fun _ _ _ h => h) (by rfl) ?_ ?_; rotate_left 1; focus (intro w; go_simp; try with_reducible rfl))
                    try simp only [Act.put, List.setIfInBounds_toArray, List.set_cons_zero, List.set_cons_succ]
                    (refine wpAnyP_loadL (i := 15) (v := ?_) rfl (by kernel_rfl) (by kernel_rfl) (by kernel_rfl) (by rfl) (fun _ _ _ h => h) hF0 (by rfl) ?_ ?_; rotate_left 1; focus (intro w hFw; (try dsimp only at hFw); go_split_ands; go_simp; try with_reducible rfl))
                    try simp only [Act.put, List.setIfInBounds_toArray, List.set_cons_zero, List.set_cons_succ]
                    (refine wpAnyP_takeL (i := 16) (v := ?_) rfl (by kernel_rfl) (by kernel_rfl) (by kernel_rfl) (fun _ _ _ h => h) (by rfl) ?_ ?_; rotate_left 1; focus (intro w; go_simp; try with_reducible rfl))
                    try simp only [Act.put, List.setIfInBounds_toArray, List.set_cons_zero, List.set_cons_succ]
                    (refine wpAnyP_takeL (i := 17) (v := ?_) rfl (by kernel_rfl) (by kernel_rfl) (by kernel_rfl) (fun _ _ _ h => h) (by rfl) ?_ ?_; rotate_left 1; focus (intro w; go_simp; try with_reducible rfl))
                    try simp only [Act.put, List.setIfInBounds_toArray, List.set_cons_zero, List.set_cons_succ]
                    (refine wpAnyP_takeL (i := 18) (v := ?_) rfl (by kernel_rfl) (by kernel_rfl) (by kernel_rfl) (fun _ _ _ h => h) (by rfl) ?_ ?_; rotate_left 1; focus (intro w; go_simp; try with_reducible rfl))
                    try simp only [Act.put, List.setIfInBounds_toArray, List.set_cons_zero, List.set_cons_succ]
                    (refine wpAnyP_takeL (i := 19) (v := ?_) rfl (by kernel_rfl) (by kernel_rfl) (by kernel_rfl) (fun _ _ _ h => h) (by rfl) ?_ ?_; rotate_left 1; focus (intro w; go_simp; try with_reducible rfl))
                    try simp only [Act.put, List.setIfInBounds_toArray, List.set_cons_zero, List.set_cons_succ]
                    (refine wpAnyP_loadL (i := 20) (v := ?_) rfl (by kernel_rfl) (by kernel_rfl) (by kernel_rfl) (by rfl) (fun _ _ _ h => h) hF0 (by rfl) ?_ ?_; rotate_left 1; focus (intro w hFw; (try dsimp only at hFw); go_split_ands; go_simp; try with_reducible rfl))
                    try simp only [Act.put, List.setIfInBounds_toArray, List.set_cons_zero, List.set_cons_succ]
                    (refine wpAnyP_takeL (i := 21) (v := ?_) rfl (by kernel_rfl) (by kernel_rfl) (by kernel_rfl) (fun _ _ _ h => h) (by rfl) ?_ ?_; rotate_left 1; focus (intro w; go_simp; try with_reducible rfl))
                    try simp only [Act.put, List.setIfInBounds_toArray, List.set_cons_zero, List.set_cons_succ]
                    (refine wpAnyP_loadL (i := 22) (v := ?_) rfl (by kernel_rfl) (by kernel_rfl) (by kernel_rfl) (by rfl) (fun _ _ _ h => h) hF0 (by rfl) ?_ ?_; rotate_left 1; focus (intro w hFw; (try dsimp only at hFw); go_split_ands; go_simp; try with_reducible rfl))
                    try simp only [Act.put, List.setIfInBounds_toArray, List.set_cons_zero, List.set_cons_succ]
                    (refine wpAnyP_takeL (i := 23) (v := ?_) rfl (by kernel_rfl) (by kernel_rfl) (by kernel_rfl) (fun _ _ _ h => h) (by rfl) ?_ ?_; rotate_left 1; focus (intro w; go_simp; try with_reducible rfl))
                    try simp only [Act.put, List.setIfInBounds_toArray, List.set_cons_zero, List.set_cons_succ]
                    (refine wpAnyP_takeL (i := 24) (v := ?_) rfl (by kernel_rfl) (by kernel_rfl) (by kernel_rfl) (fun _ _ _ h => h) (by rfl) ?_ ?_; rotate_left 1; focus (intro w; go_simp; try with_reducible rfl))
                    try simp only [Act.put, List.setIfInBounds_toArray, List.set_cons_zero, List.set_cons_succ]
                    (refine wpAnyP_loadL (i := 25) (v := ?_) rfl (by kernel_rfl) (by kernel_rfl) (by kernel_rfl) (by rfl) (fun _ _ _ h => h) hF0 (by rfl) ?_ ?_; rotate_left 1; focus (intro w hFw; (try dsimp only at hFw); go_split_ands; go_simp; try with_reducible rfl))
                    try simp only [Act.put, List.setIfInBounds_toArray, List.set_cons_zero, List.set_cons_succ]
                    (refine wpAnyP_takeL (i := 26) (v := ?_) rfl (by kernel_rfl) (by kernel_rfl) (by kernel_rfl) (fun _ _ _ h => h) (by rfl) ?_ ?_; rotate_left 1; focus (intro w; go_simp; try with_reducible rfl))
                    try simp only [Act.put, List.setIfInBounds_toArray, List.set_cons_zero, List.set_cons_succ]
                    (refine wpAnyP_takeL (i := 27) (v := ?_) rfl (by kernel_rfl) (by kernel_rfl) (by kernel_rfl) (fun _ _ _ h => h) (by rfl) ?_ ?_; rotate_left 1; focus (intro w; go_simp; (first | (rw [HW1.out]) | (with_reducible rfl))))
                    try simp only [Act.put, List.setIfInBounds_toArray, List.set_cons_zero, List.set_cons_succ]
                    (refine wpAnyP_takeL (i := 28) (v := ?_) rfl (by kernel_rfl) (by kernel_rfl) (by kernel_rfl) (fun _ _ _ h => h) (by rfl) ?_ ?_; rotate_left 1; focus (intro w; go_simp; try with_reducible rfl))
                    try simp only [Act.put, List.setIfInBounds_toArray, List.set_cons_zero, List.set_cons_succ]
                    (refine wpAnyP_takeL (i := 29) (v := ?_) rfl (by kernel_rfl) (by kernel_rfl) (by kernel_rfl) (fun _ _ _ h => h) (by rfl) ?_ ?_; rotate_left 1; focus (intro w; go_simp; try with_reducible rfl))
                    try simp only [Act.put, List.setIfInBounds_toArray, List.set_cons_zero, List.set_cons_succ]
                    (refine wpAnyP_takeL (i := 30) (v := ?_) rfl (by kernel_rfl) (by kernel_rfl) (by kernel_rfl) (fun _ _ _ h => h) (by rfl) ?_ ?_; rotate_left 1; focus (intro w; go_simp; try with_reducible rfl))
                    try simp only [Act.put, List.setIfInBounds_toArray, List.set_cons_zero, List.set_cons_succ]
                    (refine wpAnyP_loadL (i := 31) (v := ?_) rfl (by kernel_rfl) (by kernel_rfl) (by kernel_rfl) (by rfl) (fun _ _ _ h => h) hF0 (by rfl) ?_ ?_; rotate_left 1; focus (intro w hFw; (try dsimp only at hFw); go_split_ands; go_simp; try with_reducible rfl))
                    try simp only [Act.put, List.setIfInBounds_toArray, List.set_cons_zero, List.set_cons_succ]
                    (refine wpAnyP_takeL (i := 32) (v := ?_) rfl (by kernel_rfl) (by kernel_rfl) (by kernel_rfl) (fun _ _ _ h => h) (by rfl) ?_ ?_; rotate_left 1; focus (intro w; go_simp; try with_reducible rfl))
                    try simp only [Act.put, List.setIfInBounds_toArray, List.set_cons_zero, List.set_cons_succ]
                    (refine wpAnyP_takeL (i := 33) (v := ?_) rfl (by kernel_rfl) (by kernel_rfl) (by kernel_rfl) (fun _ _ _ h => h) (by rfl) ?_ ?_; rotate_left 1; focus (intro w; go_simp; try with_reducible rfl))
                    try simp only [Act.put, List.setIfInBounds_toArray, List.set_cons_zero, List.set_cons_succ]
                    (refine wpAnyP_takeL (i := 34) (v := ?_) rfl (by kernel_rfl) (by kernel_rfl) (by kernel_rfl) (fun _ _ _ h => h) (by rfl) ?_ ?_; rotate_left 1; focus (intro w; go_simp; try with_reducible rfl))
                    try simp only [Act.put, List.setIfInBounds_toArray, List.set_cons_zero, List.set_cons_succ]
                    (refine wpAnyP_loadL (i := 35) (v := ?_) rfl (by kernel_rfl) (by kernel_rfl) (by kernel_rfl) (by rfl) (fun _ _ _ h => h) hF0 (by rfl) ?_ ?_; rotate_left 1; focus (intro w hFw; (try dsimp only at hFw); go_split_ands; go_simp; try with_reducible rfl))
                    try simp only [Act.put, List.setIfInBounds_toArray, List.set_cons_zero, List.set_cons_succ]
                    (refine wpAnyP_takeL (i := 36) (v := ?_) rfl (by kernel_rfl) (by kernel_rfl) (by kernel_rfl) (fun _ _ _ h => h) (by rfl) ?_ ?_; rotate_left 1; focus (intro w; go_simp; try with_reducible rfl))
                    try simp only [Act.put, List.setIfInBounds_toArray, List.set_cons_zero, List.set_cons_succ]
                    (refine wpAnyP_loadL (i := 37) (v := ?_) rfl (by kernel_rfl) (by kernel_rfl) (by kernel_rfl) (by rfl) (fun _ _ _ h => h) hF0 (by rfl) ?_ ?_; rotate_left 1; focus (intro w hFw; (try dsimp only at hFw); go_split_ands; go_simp; try with_reducible rfl))
                    try simp only [Act.put, List.setIfInBounds_toArray, List.set_cons_zero, List.set_cons_succ]
                    (refine wpAnyP_takeL (i := 38) (v := ?_) rfl (by kernel_rfl) (by kernel_rfl) (by kernel_rfl) (fun _ _ _ h => h) (by rfl) ?_ ?_; rotate_left 1; focus (intro w; go_simp; try with_reducible rfl))
                    try simp only [Act.put, List.setIfInBounds_toArray, List.set_cons_zero, List.set_cons_succ]
                    (refine wpAnyP_takeL (i := 39) (v := ?_) rfl (by kernel_rfl) (by kernel_rfl) (by kernel_rfl) (fun _ _ _ h => h) (by rfl) ?_ ?_; rotate_left 1; focus (intro w; go_simp; (first | (rw [HW2.out]) | (with_reducible rfl))))
                    try simp only [Act.put, List.setIfInBounds_toArray, List.set_cons_zero, List.set_cons_succ]
                    (refine wpAnyP_takeL (i := 40) (v := ?_) rfl (by kernel_rfl) (by kernel_rfl) (by kernel_rfl) (fun _ _ _ h => h) (by rfl) ?_ ?_; rotate_left 1; focus (intro w; go_simp; try with_reducible rfl))
                    try simp only [Act.put, List.setIfInBounds_toArray, List.set_cons_zero, List.set_cons_succ]
                    refine wpAnyP_last (i := 41) rfl (by kernel_rfl) (by kernel_rfl) (by rfl) (fun K hK => ?_)
                    go_simp
                    (have f1 := HF12.out.1; have e1 := HLD.out.2.2.2.1; go_simp; clear f1 e1)
                    (refine hK _ _ ?_; clear hK K)
                    try simp only [Act.put, List.setIfInBounds_toArray, List.set_cons_zero, List.set_cons_succ]
                    (refine wpAnyP_takeL (i := 42) (v := ?_) rfl (by kernel_rfl) (by kernel_rfl) (by kernel_rfl) (fun _ _ _ h => h) (by rfl) ?_ ?_; rotate_left 1; focus (intro w; go_simp; try with_reducible rfl))
                    try simp only [Act.put, List.setIfInBounds_toArray, List.set_cons_zero, List.set_cons_succ]
                    refine wpAnyP_last (i := 43) rfl (by kernel_rfl) (by kernel_rfl) (by rfl) (fun K hK => ?_)
                    go_simp
                    (have f2 := HF12.out.2; have e2 := HC2.out; go_simp; clear f2 e2)
                    (refine hK _ _ ?_; clear hK K)
                    try simp only [Act.put, List.setIfInBounds_toArray, List.set_cons_zero, List.set_cons_succ]
                    refine wpAnyP_done (by kernel_rfl) ?_ _
                    have c9 := HC9.out
                    go_wp2_with fail
                    have HBF9 := Lib.hid (show Below lo w (((wr.setCell ⟨rb b, a, none⟩ (.int .i64 (R b a - nn))).setCell ⟨rb a, b, none⟩ (.int .i64 (R a b + nn)))).drew from HBE.out.drew)
                    go_roundw
                    case rel => first
                      | exact ⟨k + 1, HK3.out, by rw [HJB.out], HRW4.out, HS2.out, HBE.out⟩
                      | exact ⟨k + 1, HK3.out, by rw [HJB.out], HRW4.out, HS2.out.drew, HBF9.out⟩
                      | ((repeat apply Exists.intro); exact ⟨⟨k + 1, HK3.out, by rw [HJB.out], HRW4.out, HS2.out.drew, HBF9.out⟩, rfl⟩)
                    case measure =>
                      have h1 := HPO.out.1
                      have h2 := HPO.out.2
                      have h3 := HK3.out
                      have h4 := HJA3.out
                      have h5 := HJB.out
                      show p.length - posOf p (b : Int) < p.length - posOf p (a : Int)
                      rw [h1, h2]
                      omega
                  · have hz0 : (a : Int) = 0 := by
                      rw [← ha]
                      by_cases e : p[k] = 0
                      · exact e
                      · exact absurd ((HW.out.more hk).1 e) hlt3
                    obtain rfl : a = 0 := by omega
                    have HKE := Lib.hid (show k = p.length - 1 from by omega)
                    clear hrw3 hM3 hB4 ha hja hz0
                    go_wp2_with fail
                    go_ret
                    refine ⟨nn, flowR R p nn k, rfl, ⟨Int.le_of_lt hn0, fun h => absurd hn0 (by omega), fun _ cap D hD => ?_⟩, hn9, HM3.out, HB4.out⟩
                    have h := flow_res HW.out (n := nn) (fun v h0 h1 => mem_rg.2 ⟨h0, h1⟩) (rg_nodup (M + 1)) (Int.le_of_lt hn0) HNLE.out hD k hk
                    have e0 : at0 p k = 0 := by
                      rw [at0_get hk]
                      have := HW.out.lst
                      simp only [← HKE.out] at this
                      exact this
                    rw [e0] at h
                    exact h)
end Go.Proofs.Ytkphgdkjjklajaa
