/-
  Finds made of numbers.
-/
import Derived.Test.YtkcdknjgjidnnaaAudOk
import Derived.Test.YtkcdknjgjidnnaaStepsOf
import Derived.Test.YtkcdknjgjidnnaaRows2
import Derived.Test.YtkcdknjgjidnnaaOrderLaw
set_option linter.unusedVariables false
set_option linter.unusedSimpArgs false
namespace Go.Proofs.Ytkcdknjgjidnnaa
open Go.RowKit

theorem info_found2 : (Try.prog.info? 78).map (fun i => (i.zero, i.size, i.bytes)) = some (some (.agg #[.int .i64 0, .int .i64 0, .int .i64 0]), 3, 24) := by kernel_rfl

/-- finds while they are made: of the first sales of an order -/
structure FindsUpTo (l : List Sale) (ord : List Int) (k : Nat) (fs : List Found) : Prop where
  sa : fs.map (·.sa) = ord.take k
  at_ : ∀ f ∈ fs, ∃ (j : Nat) (h : j < l.length), f.sa = (j : Int) ∧ SoldIn ⟨f.gr, f.ce⟩ l[j]
theorem FindsUpTo.nil (l : List Sale) (ord : List Int) : FindsUpTo l ord 0 [] := ⟨rfl, by simp⟩
theorem FindsUpTo.snoc {l : List Sale} {ord : List Int} {k j : Nat} {fs : List Found} {g1 g2 : Int} (h : FindsUpTo l ord k fs) (hk : k < ord.length) (hj : ord[k] = (j : Int)) (hjl : j < l.length) (hs : SoldIn ⟨g1, g2⟩ l[j]) : FindsUpTo l ord (k + 1) (fs ++ [⟨(j : Int), g1, g2⟩]) := by
  refine ⟨by rw [List.map_append, h.sa, take_snoc ord k hk, hj]; rfl, fun f hf => ?_⟩
  rcases List.mem_append.1 hf with hf | hf
  · exact h.at_ f hf
  · simp at hf
    subst hf
    exact ⟨j, hjl, rfl, hs⟩
theorem IsOrder.nodup {ord : List Int} {n : Nat} (h : IsOrder ord n) : ord.Nodup := by
  have : ((List.range n).map Int.ofNat).Nodup := List.Pairwise.map _ (fun a b hab e => hab (by injection e)) List.nodup_range
  exact h.symm.nodup this
theorem FindsUpTo.in {l : List Sale} {ord : List Int} {k n : Nat} {fs : List Found} (h : FindsUpTo l ord k fs) (ho : IsOrder ord n) : FindsIn l fs :=
  ⟨h.at_, by rw [h.sa]; exact ho.nodup.sublist (List.take_sublist _ _)⟩
theorem FindsUpTo.len {l : List Sale} {ord : List Int} {k : Nat} {fs : List Found} (h : FindsUpTo l ord k fs) (hk : k ≤ ord.length) : fs.length = k := by
  have := congrArg List.length h.sa
  simpa [hk] using this
theorem FindsUpTo.all {l : List Sale} {ord : List Int} {k n : Nat} {fs : List Found} (h : FindsUpTo l ord k fs) (ho : IsOrder ord n) (hk : k = n) (i : Nat) (hi : i < n) : ∃ f ∈ fs, f.sa = (i : Int) := by
  have hm : (i : Int) ∈ ord := (ho.mem_iff).2 (by simp; exact ⟨i, hi, rfl⟩)
  have e : ord.take k = ord := List.take_of_length_le (by rw [ho.len]; omega)
  rw [← e, ← h.sa, List.mem_map] at hm
  obtain ⟨f, hf, e'⟩ := hm
  exact ⟨f, hf, e'⟩

set_option maxRecDepth 100000 in
set_option maxHeartbeats 2000000 in
theorem findsOf_any (d : Nat) (st gd : Int) (b n c : Nat) (A : Option Addr) (l : List Sale) (w : World) (hd : IsDie w d) (hl : Sl encS 6 w b A n l) (hbd : b ≠ d) (hok : ∀ s ∈ l, SaleOk st gd s) (hn : n ≤ 40) :
    Calls Try.prog 47 #[.pointer (some ⟨d, 0, none⟩), .agg #[.int .i64 st, .int .i64 gd, .slice A n c]] w fun e w' => ∃ (b' m c' : Nat) (A' : Option Addr) (fs : List Found), FindsIn l fs ∧ (m = n → ∀ i : Nat, i < l.length → ∃ f ∈ fs, f.sa = (i : Int)) ∧ m ≤ 40 ∧ e = .returned (.slice A' m c') ∧ w.heap.size ≤ b' ∧ b' ≠ d ∧ Sl encF 3 w' b' A' m fs ∧ DieTo d w w' := by
  have hz := hd.lt
  obtain ⟨i0, hi, iz0, iz1, iz2⟩ := info_parts info_found2
  have HA := Lib.hid hl.len
  have HOK := Lib.hid hok
  have S0 := Lib.hid (hl.alloc (.cells #[.int .i64 st, .int .i64 gd, .slice A n c] 24))
  have B0 := Lib.hid (Blk.new w 24 #[.int .i64 st, .int .i64 gd, .slice A n c])
  have D0 := Lib.hid (hd.alloc (.cells #[.int .i64 st, .int .i64 gd, .slice A n c] 24))
  have G0 := Lib.hid (only_alloc (only_refl w d) (.cells #[.int .i64 st, .int .i64 gd, .slice A n c] 24))
  have HB0 := Lib.hid (fun h => hl.lt h)
  clear hl hok hd
  go_enter Try.func47, Try.ntmps47
  go_wp2_with fail
  refine (shuffle_any d n _ D0.out (by omega)).mono ?_
  rintro e w1 ⟨bo, ord, rfl, hbo, hbod, hrow, hlo, hord, hd1, hg1⟩
  simp only [World.size_alloc] at hbo
  have S1 := Lib.hid (S0.out.grown hg1 (fun _ e => hbd (by injection e)))
  have B1 := Lib.hid (B0.out.grown hg1 (fun e => by injection e; omega))
  have G1 := Lib.hid (only_step hg1 G0.out (.inl rfl))
  have R1 := Lib.hid hrow
  have HLO := Lib.hid hlo
  have HORD := Lib.hid hord
  have hz1 := hg1.size
  simp only [World.size_alloc] at hz1
  clear hrow hlo hord hg1
  go_wp2_with fail
  refine (cast_any d _ _ hd1 (by omega)).mono ?_
  rintro e w2 ⟨k1, ⟨hk1, hk2, hk3⟩, rfl, hd2, hg2⟩
  have hk4 : k1 ≤ n := by by_cases h : (n : Int) + 1 < 2 <;> omega
  have hz2 := hd2.lt
  have G2 := Lib.hid (only_trans G1.out hg2)
  have H2 := Lib.hid hg2
  clear hk2 hk3 hg2
  go_wp2_with fail
  refine (one_any d w2.heap.size 2 2 _ [(n : Int), k1] _ (hd2.alloc _) (Sl.newI w2 [(n : Int), k1] _) (by omega) (by omega) (by omega)).mono ?_
  rintro e w3 ⟨k0, hk0, rfl, hd3, hg3⟩
  have hk5 : 0 ≤ k0 ∧ k0 ≤ n := by simp at hk0; omega
  obtain ⟨hk6, hk7⟩ := hk5
  have H3 := Lib.hid (only_step hg3 (only_alloc H2.out _) (.inl rfl))
  have G3 := Lib.hid (only_step hg3 (only_alloc G2.out _) (.inl rfl))
  have D3 := Lib.hid hd3
  obtain ⟨k0, rfl⟩ := Int.eq_ofNat_of_zero_le hk6
  have S3 := Lib.hid (S1.out.grown H3.out (fun _ e => hbd (by injection e)))
  have B3 := Lib.hid (B1.out.grown H3.out (fun e => by injection e; omega))
  have R3 := Lib.hid (R1.out.keep (H3.out.block bo R1.out.lt (fun e => hbod (by injection e))))
  have hz3 := H3.out.size
  clear hk0 hg3 hd2 hd1 H2 H3 G1 G2 S1 B1 R1
  go_wp2_with fail
  have hd3z := D3.out.lt
  have hbo3 := R3.out.lt
  go_loopw [6, 7] (fun v i wr => ∃ (k c' : Nat) (A' : Option Addr) (fs : List Found), k ≤ k0 ∧ i = .int .i64 k ∧ v = .slice A' k c' ∧ FindsUpTo l ord k fs ∧ RowSt w3 wr d w3.heap.size 78 3 A' k c' (fs.flatMap encF)) (fun _ i _ => k0 - (intOf i).toNat)
  case atStart => exact ⟨0, 0, none, [], by omega, rfl, rfl, FindsUpTo.nil _ _, ⟨D3.out, World.ownsRow_nil _ _ _ _, only_refl _ _, Nat.le_refl _, hd3z, Nat.le_refl _⟩⟩
  case round =>
    obtain ⟨k, c', A', fs, hk, rfl, rfl, hF, hS⟩ := hrel
    have HF := Lib.hid hF
    have HS := Lib.hid hS
    have hzr := hS.hz
    clear hF hS
    by_cases hlt : k < k0
    · have hko : k < ord.length := by rw [HLO.out]; omega
      obtain ⟨j, hj, hjn⟩ := HORD.out.at hko
      have hjl : j < l.length := by have := HA.out; omega
      have HJ := Lib.hid hj
      have hsok := HOK.out _ (List.getElem_mem hjl)
      obtain ⟨o, rfl, hbz, _⟩ := S3.out.atS hjl
      have hFA := Lib.hid (fun (W : World) (hG : w3.grownBy W (some d)) => (show (W.cell? ⟨w.heap.size, 2, none⟩ = some (.slice (some ⟨b, o, none⟩) n c) ∧ W.cell? ⟨bo, k, none⟩ = some (.int .i64 (j : Int))) ∧ (W.cell? ⟨b, o + j * 6, none⟩ = some (.int .i64 l[j].st) ∧ W.cell? ⟨b, o + j * 6 + 1, none⟩ = some (.int .i64 l[j].gd) ∧ W.cell? ⟨b, o + j * 6 + 2, none⟩ = some (.int .i64 l[j].gl) ∧ W.cell? ⟨b, o + j * 6 + 3, none⟩ = some (.int .i64 l[j].gh) ∧ W.cell? ⟨b, o + j * 6 + 4, none⟩ = some (.int .i64 l[j].cl) ∧ W.cell? ⟨b, o + j * 6 + 5, none⟩ = some (.int .i64 l[j].ch)) from by
        obtain ⟨o', ho', _, r⟩ := (S3.out.grown hG (fun _ e => hbd (by injection e))).atS hjl
        obtain rfl : o = o' := by injection ho' with h; injection h
        exact ⟨⟨(B3.out.grown hG (fun e => by injection e; omega)).cell 2, by rw [(R3.out.keep (hG.block bo hbo3 (fun e => hbod (by injection e)))).cell hko, hj]⟩, r⟩))
      have a1 := hsok.gl0
      have a2 := hsok.gl1
      have a3 := hsok.gh1
      have a4 := hsok.cl0
      have a5 := hsok.cl1
      have a6 := hsok.ch1
      have HSI := Lib.hid (fun (g1 g2 : Int) (h : SoldIn ⟨g1, g2⟩ l[j]) => HF.out.snoc hko hj hjl h)
      clear hj hsok
      generalize l[j] = s at hFA a1 a2 a3 a4 a5 a6 HSI
      have e0 : (0 : Int) ≤ (k : Int) := by omega
      have e1 : (k : Int) < (k0 : Int) := by omega
      have e2 : (0 : Int) ≤ (j : Int) := by omega
      have e3 : (j : Int) < (n : Int) := by omega
      go_wp2_with fail
      refine wp_region_PL [1, 5, 7] (fun W => (W.cell? ⟨w.heap.size, 2, none⟩ = some (.slice (some ⟨b, o, none⟩) n c) ∧ W.cell? ⟨bo, k, none⟩ = some (.int .i64 (j : Int))) ∧ (W.cell? ⟨b, o + j * 6, none⟩ = some (.int .i64 s.st) ∧ W.cell? ⟨b, o + j * 6 + 1, none⟩ = some (.int .i64 s.gd) ∧ W.cell? ⟨b, o + j * 6 + 2, none⟩ = some (.int .i64 s.gl) ∧ W.cell? ⟨b, o + j * 6 + 3, none⟩ = some (.int .i64 s.gh) ∧ W.cell? ⟨b, o + j * 6 + 4, none⟩ = some (.int .i64 s.cl) ∧ W.cell? ⟨b, o + j * 6 + 5, none⟩ = some (.int .i64 s.ch))) rfl (by kernel_rfl) (hFA.out _ (only_drew HS.out.only)) (fun hF0 => ?_)
      (refine wpAnyP_takeL (i := 0) (v := ?_) rfl (by kernel_rfl) (by kernel_rfl) (by kernel_rfl) (fun _ _ _ h => h) (by rfl) ?_ ?_; rotate_left 1; focus (intro w; go_simp; try with_reducible rfl))
      try simp only [Act.put, List.setIfInBounds_toArray, List.set_cons_zero, List.set_cons_succ]
      (refine wpAnyP_loadL (i := 1) (v := ?_) rfl (by kernel_rfl) (by kernel_rfl) (by kernel_rfl) (by rfl) (fun _ _ _ h => h) hF0 (by rfl) ?_ ?_; rotate_left 1; focus (intro w hFw; (try dsimp only at hFw); go_split_ands; go_simp; try with_reducible rfl))
      try simp only [Act.put, List.setIfInBounds_toArray, List.set_cons_zero, List.set_cons_succ]
      (refine wpAnyP_takeL (i := 2) (v := ?_) rfl (by kernel_rfl) (by kernel_rfl) (by kernel_rfl) (fun _ _ _ h => h) (by rfl) ?_ ?_; rotate_left 1; focus (intro w; go_simp; try with_reducible rfl))
      try simp only [Act.put, List.setIfInBounds_toArray, List.set_cons_zero, List.set_cons_succ]
      (refine wpAnyP_takeL (i := 3) (v := ?_) rfl (by kernel_rfl) (by kernel_rfl) (by kernel_rfl) (fun _ _ _ h => h) (by rfl) ?_ ?_; rotate_left 1; focus (intro w; go_simp; try with_reducible rfl))
      try simp only [Act.put, List.setIfInBounds_toArray, List.set_cons_zero, List.set_cons_succ]
      (refine wpAnyP_takeL (i := 4) (v := ?_) rfl (by kernel_rfl) (by kernel_rfl) (by kernel_rfl) (fun _ _ _ h => h) (by rfl) ?_ ?_; rotate_left 1; focus (intro w; go_simp; try with_reducible rfl))
      try simp only [Act.put, List.setIfInBounds_toArray, List.set_cons_zero, List.set_cons_succ]
      (refine wpAnyP_loadL (i := 5) (v := ?_) rfl (by kernel_rfl) (by kernel_rfl) (by kernel_rfl) (by rfl) (fun _ _ _ h => h) hF0 (by rfl) ?_ ?_; rotate_left 1; focus (intro w hFw; (try dsimp only at hFw); go_split_ands; go_simp; try with_reducible rfl))
      try simp only [Act.put, List.setIfInBounds_toArray, List.set_cons_zero, List.set_cons_succ]
      (refine wpAnyP_takeL (i := 6) (v := ?_) rfl (by kernel_rfl) (by kernel_rfl) (by kernel_rfl) (fun _ _ _ h => h) (by rfl) ?_ ?_; rotate_left 1; focus (intro w; go_simp; try with_reducible rfl))
      try simp only [Act.put, List.setIfInBounds_toArray, List.set_cons_zero, List.set_cons_succ]
      (refine wpAnyP_loadL (i := 7) (v := ?_) rfl (by kernel_rfl) (by kernel_rfl) (by kernel_rfl) (by rfl) (fun _ _ _ h => h) hF0 (by rfl) ?_ ?_; rotate_left 1; focus (intro w hFw; (try dsimp only at hFw); go_split_ands; go_simp; try with_reducible rfl))
      try simp only [Act.put, List.setIfInBounds_toArray, List.set_cons_zero, List.set_cons_succ]
      refine wpAnyP_step (i := 8) rfl (by kernel_rfl) (by rfl) (fun K hK => ?_)
      go_simp
      (refine hK _ _ (hFA.out _ (HS.out.drew.alloc _).only) (fun hF1 => ?_); clear hK K hF0)
      try simp only [Act.put, List.setIfInBounds_toArray, List.set_cons_zero, List.set_cons_succ]
      refine wpAnyP_last (i := 9) rfl (by kernel_rfl) (by kernel_rfl) (by rfl) (fun K hK => ?_)
      go_simp
      (refine hK _ _ ?_; clear hK K)
      try simp only [Act.put, List.setIfInBounds_toArray, List.set_cons_zero, List.set_cons_succ]
      refine wpAnyP_done (by kernel_rfl) ?_ _
      go_wp2_with fail
      have HSV := Lib.hid ((HS.out.alloc (.cells #[.int .i64 s.st, .int .i64 s.gd, .int .i64 s.gl, .int .i64 s.gh, .int .i64 s.cl, .int .i64 s.ch] 28)).drew)
      have KTV := Lib.hid ((Blk.new wr 28 #[.int .i64 s.st, .int .i64 s.gd, .int .i64 s.gl, .int .i64 s.gh, .int .i64 s.cl, .int .i64 s.ch]).drew)
      have hFB := Lib.hid (fun (W : World) (hG : w3.grownBy W (some d)) (hK : Blk W wr.heap.size 28 #[.int .i64 s.st, .int .i64 s.gd, .int .i64 s.gl, .int .i64 s.gh, .int .i64 s.cl, .int .i64 s.ch]) => (show W.cell? ⟨bo, k, none⟩ = some (.int .i64 (j : Int)) ∧ (W.cell? ⟨wr.heap.size, 2, none⟩ = some (.int .i64 s.gl) ∧ W.cell? ⟨wr.heap.size, 3, none⟩ = some (.int .i64 s.gh) ∧ W.cell? ⟨wr.heap.size, 4, none⟩ = some (.int .i64 s.cl) ∧ W.cell? ⟨wr.heap.size, 5, none⟩ = some (.int .i64 s.ch)) from
        ⟨(hFA.out W hG).1.2, hK.cell 2, hK.cell 3, hK.cell 4, hK.cell 5⟩))
      have hdw : wr.heap.size ≠ d := by omega
      generalize hV : (wr.alloc (.cells #[.int .i64 s.st, .int .i64 s.gd, .int .i64 s.gl, .int .i64 s.gh, .int .i64 s.cl, .int .i64 s.ch] 28)).drew = V at HSV KTV ⊢
      clear hV
      refine wp_region_PL [4, 7, 11] (fun W => W.cell? ⟨bo, k, none⟩ = some (.int .i64 (j : Int)) ∧ (W.cell? ⟨wr.heap.size, 2, none⟩ = some (.int .i64 s.gl) ∧ W.cell? ⟨wr.heap.size, 3, none⟩ = some (.int .i64 s.gh) ∧ W.cell? ⟨wr.heap.size, 4, none⟩ = some (.int .i64 s.cl) ∧ W.cell? ⟨wr.heap.size, 5, none⟩ = some (.int .i64 s.ch))) rfl (by kernel_rfl) (hFB.out _ (only_drew HSV.out.only) KTV.out.drew) (fun hF0 => ?_)
      (refine wpAnyP_takeL (i := 0) (v := ?_) rfl (by kernel_rfl) (by kernel_rfl) (by kernel_rfl) (fun _ _ _ h => h) (by rfl) ?_ ?_; rotate_left 1; focus (intro w; go_simp; try with_reducible rfl))
      try simp only [Act.put, List.setIfInBounds_toArray, List.set_cons_zero, List.set_cons_succ]
      (refine wpAnyP_takeL (i := 1) (v := ?_) rfl (by kernel_rfl) (by kernel_rfl) (by kernel_rfl) (fun _ _ _ h => h) (by rfl) ?_ ?_; rotate_left 1; focus (intro w; go_simp; try with_reducible rfl))
      try simp only [Act.put, List.setIfInBounds_toArray, List.set_cons_zero, List.set_cons_succ]
      (refine wpAnyP_takeL (i := 2) (v := ?_) rfl (by kernel_rfl) (by kernel_rfl) (by kernel_rfl) (fun _ _ _ h => h) (by rfl) ?_ ?_; rotate_left 1; focus (intro w; go_simp; try with_reducible rfl))
      try simp only [Act.put, List.setIfInBounds_toArray, List.set_cons_zero, List.set_cons_succ]
      (refine wpAnyP_takeL (i := 3) (v := ?_) rfl (by kernel_rfl) (by kernel_rfl) (by kernel_rfl) (fun _ _ _ h => h) (by rfl) ?_ ?_; rotate_left 1; focus (intro w; go_simp; try with_reducible rfl))
      try simp only [Act.put, List.setIfInBounds_toArray, List.set_cons_zero, List.set_cons_succ]
      (refine wpAnyP_loadL (i := 4) (v := ?_) rfl (by kernel_rfl) (by kernel_rfl) (by kernel_rfl) (by rfl) (fun _ _ _ h => h) hF0 (by rfl) ?_ ?_; rotate_left 1; focus (intro w hFw; (try dsimp only at hFw); go_split_ands; go_simp; try with_reducible rfl))
      try simp only [Act.put, List.setIfInBounds_toArray, List.set_cons_zero, List.set_cons_succ]
      (refine wpAnyP_takeL (i := 5) (v := ?_) rfl (by kernel_rfl) (by kernel_rfl) (by kernel_rfl) (fun _ _ _ h => h) (by rfl) ?_ ?_; rotate_left 1; focus (intro w; go_simp; try with_reducible rfl))
      try simp only [Act.put, List.setIfInBounds_toArray, List.set_cons_zero, List.set_cons_succ]
      (refine wpAnyP_takeL (i := 6) (v := ?_) rfl (by kernel_rfl) (by kernel_rfl) (by kernel_rfl) (fun _ _ _ h => h) (by rfl) ?_ ?_; rotate_left 1; focus (intro w; go_simp; try with_reducible rfl))
      try simp only [Act.put, List.setIfInBounds_toArray, List.set_cons_zero, List.set_cons_succ]
      (refine wpAnyP_loadL (i := 7) (v := ?_) rfl (by kernel_rfl) (by kernel_rfl) (by kernel_rfl) (by rfl) (fun _ _ _ h => h) hF0 (by rfl) ?_ ?_; rotate_left 1; focus (intro w hFw; (try dsimp only at hFw); go_split_ands; go_simp; try with_reducible rfl))
      try simp only [Act.put, List.setIfInBounds_toArray, List.set_cons_zero, List.set_cons_succ]
      (refine wpAnyP_takeL (i := 9) (v := ?_) rfl (by kernel_rfl) (by kernel_rfl) (by kernel_rfl) (fun _ _ _ h => h) (by rfl) ?_ ?_; rotate_left 1; focus (intro w; go_simp; try with_reducible rfl))
      try simp only [Act.put, List.setIfInBounds_toArray, List.set_cons_zero, List.set_cons_succ]
      (refine wpAnyP_takeL (i := 10) (v := ?_) rfl (by kernel_rfl) (by kernel_rfl) (by kernel_rfl) (fun _ _ _ h => h) (by rfl) ?_ ?_; rotate_left 1; focus (intro w; go_simp; try with_reducible rfl))
      try simp only [Act.put, List.setIfInBounds_toArray, List.set_cons_zero, List.set_cons_succ]
      (refine wpAnyP_loadL (i := 11) (v := ?_) rfl (by kernel_rfl) (by kernel_rfl) (by kernel_rfl) (by rfl) (fun _ _ _ h => h) hF0 (by rfl) ?_ ?_; rotate_left 1; focus (intro w hFw; (try dsimp only at hFw); go_split_ands; go_simp; try with_reducible rfl))
      try simp only [Act.put, List.setIfInBounds_toArray, List.set_cons_zero, List.set_cons_succ]
      refine wpAnyP_step (i := 8) rfl (by kernel_rfl) (by rfl) (fun K hK => ?_)
      go_simp
      (refine (true_any d s.gl s.gh _ HSV.out.drew.die (by omega) (by omega) (by omega)).mono ?_; rintro e w5 ⟨g1, ⟨hg1, hg2⟩, rfl, hd5, hgr5⟩; have HS5 := Lib.hid (HSV.out.drew.toDie hd5 hgr5); have KT5 := Lib.hid (KTV.out.drew.grown hgr5 (fun e => hdw (by injection e))); clear hd5 hgr5)
      (refine hK _ _ (hFB.out _ HS5.out.only KT5.out) (fun hF1 => ?_); clear hK K hF0)
      try simp only [Act.put, List.setIfInBounds_toArray, List.set_cons_zero, List.set_cons_succ]
      refine wpAnyP_step (i := 12) rfl (by kernel_rfl) (by rfl) (fun K hK => ?_)
      go_simp
      (refine (true_any d s.cl s.ch _ HS5.out.die (by omega) (by omega) (by omega)).mono ?_; rintro e w6 ⟨g2, ⟨hh1, hh2⟩, rfl, hd6, hgr6⟩; have HS6 := Lib.hid (HS5.out.toDie hd6 hgr6); have KT6 := Lib.hid (KT5.out.grown hgr6 (fun e => hdw (by injection e))); clear hd6 hgr6)
      (refine hK _ _ (hFB.out _ HS6.out.only KT6.out) (fun hF2 => ?_); clear hK K hF1)
      try simp only [Act.put, List.setIfInBounds_toArray, List.set_cons_zero, List.set_cons_succ]
      (refine wpAnyP_takeL (i := 13) (v := ?_) rfl (by kernel_rfl) (by kernel_rfl) (by kernel_rfl) (fun _ _ _ h => h) (by rfl) ?_ ?_; rotate_left 1; focus (intro w; go_simp; try with_reducible rfl))
      try simp only [Act.put, List.setIfInBounds_toArray, List.set_cons_zero, List.set_cons_succ]
      refine wpAnyP_step (i := 14) rfl (by kernel_rfl) (by rfl) (fun K hK => ?_)
      go_simp
      (refine hK _ _ (hFB.out _ (HS6.out.alloc _).only (KT6.out.alloc _)) (fun hF3 => ?_); clear hK K hF2)
      try simp only [Act.put, List.setIfInBounds_toArray, List.set_cons_zero, List.set_cons_succ]
      refine wpAnyP_step (i := 15) rfl (by kernel_rfl) (by rfl) (fun K hK => ?_)
      (refine wp_append_lies _ _ _ _ rfl w3.heap.size 78 i0 _ 3 24 Try.underlying74 hi iz0 iz1 iz2 rfl (by omega) _ k _ (by rfl) (HS6.out.alloc _).own ⟨w6.heap.size, 0, none⟩ 1 1 (encF ⟨(j : Int), g1, g2⟩) (by rfl) (by rfl) (World.news_of_block (heap_alloc_new w6 _)) (oneF _) (by omega) (by unfold maxLen; omega) (by omega) (HS6.out.alloc _).hz (w6.heap.size + 1) (by simp) ?_; intro g' cap w7 hown7 hgrow hat hlt7; have HS7 := Lib.hid ((HS6.out.alloc _).next hgrow hown7); have KT7 := Lib.hid ((KT6.out.alloc (.cells #[.int .i64 (j : Int), .int .i64 g1, .int .i64 g2] 78)).grown hgrow (own_ne (by decide) (KT6.out.alloc (.cells #[.int .i64 (j : Int), .int .i64 g1, .int .i64 g2] 78)) (HS6.out.alloc (.cells #[.int .i64 (j : Int), .int .i64 g1, .int .i64 g2] 78)).own)); clear hown7 hgrow hat)
      (refine hK _ _ (hFB.out _ HS7.out.only KT7.out) (fun hF4 => ?_); clear hK K hF3)
      try simp only [Act.put, List.setIfInBounds_toArray, List.set_cons_zero, List.set_cons_succ]
      (refine wpAnyP_takeL (i := 16) (v := ?_) rfl (by kernel_rfl) (by kernel_rfl) (by kernel_rfl) (fun _ _ _ h => h) (by rfl) ?_ ?_; rotate_left 1; focus (intro w; go_simp; try with_reducible rfl))
      try simp only [Act.put, List.setIfInBounds_toArray, List.set_cons_zero, List.set_cons_succ]
      refine wpAnyP_done (by kernel_rfl) ?_ _
      go_wp2_with fail
      go_roundw
      case rel => exact ⟨k + 1, cap, _, fs ++ [⟨(j : Int), g1, g2⟩], by omega, by go_num, rfl, HSI.out g1 g2 ⟨hg1, hg2, hh1, hh2⟩, by simpa using HS7.out⟩
      case measure => simp [intOf]; omega
    · have HK := Lib.hid (show k = k0 by omega)
      go_wp2_with fail
      go_ret
      have hS := HS.out
      have hlen : fs.length = k := HF.out.len (by rw [HLO.out]; omega)
      obtain ⟨b', hb', hsl⟩ := Sl.of_own encF_len hlen.symm hS.own
      refine ⟨b', k, c', A', fs, HF.out.in HORD.out, fun e i hi => HF.out.all HORD.out e i (by have := HA.out; omega), by omega, rfl, by omega, by omega, hsl, hS.die, only_trans G3.out hS.only⟩
end Go.Proofs.Ytkcdknjgjidnnaa
