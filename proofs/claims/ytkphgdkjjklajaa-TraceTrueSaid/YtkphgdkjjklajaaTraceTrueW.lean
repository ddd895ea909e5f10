/-
  The walk of the law TraceTrue.
-/
import Derived.Test.YtkphgdkjjklajaaTrGo2
import Derived.Test.YtkphgdkjjklajaaSmall
import Derived.Deep.QuietTactic
import Derived.Deep.CutRange
import Derived.BigQuiet
set_option linter.unusedVariables false
set_option linter.unusedSimpArgs false
namespace Go.Proofs.Ytkphgdkjjklajaa
open Go.RowKit Go.Shelf Go.Sort

section
variable {w W W' : World} {d Bn b1 b2 nb cb nm cm : Nat} {Ab Am : Option Addr} {bs : List Int} {ms : List Mv}
theorem LawSt.reachZ (h : LawSt w W d Bn b1 b2 Ab Am nb cb nm cm bs ms) {b3 no co : Nat} {Ao : Option Addr} {l : List Int} (hO : Sl encI 1 W b3 Ao no l) (hl : OrgIn bs.length l) :
    Calls Try.prog 26 #[netV Ab Am nb cb nm cm, .slice Ao no co] W fun e W' => ∃ A c bR, e = .returned (.tuple #[.slice A nb c, .int .i64 0]) ∧ Sl encR 2 W' bR A nb (reachT bs ms l) ∧ W.heap.size ≤ bR ∧ Below W.heap.size W W' :=
  (Reach_ok b1 b2 b3 Ab Am Ao nb cb nm cm no co bs ms l W h.net hO (chkO_zero (chkNet_zero h.ni) hl)).mono fun e W' ⟨A, c, he, ho, hb⟩ => by
    obtain ⟨bR, hz, hs⟩ := Sl.of_own (enc := encR) encR_len (by unfold reachT; rw [List.length_map, rg_length]; exact h.net.b.len) ho
    exact ⟨A, c, bR, he, hs, hz, hb⟩
theorem LawSt.recallZ (h : LawSt w W d Bn b1 b2 Ab Am nb cb nm cm bs ms) {b3 no co : Nat} {Ao : Option Addr} {l : List Int} (hO : Sl encI 1 W b3 Ao no l) (hl : OrgIn bs.length l) :
    Calls Try.prog 27 #[netV Ab Am nb cb nm cm, .slice Ao no co] W fun e W' => ∃ A c bR, e = .returned (.tuple #[.slice A (recallT bs ms l).length c, .int .i64 0]) ∧ Sl encI 1 W' bR A (recallT bs ms l).length (recallT bs ms l) ∧ W.heap.size ≤ bR ∧ Below W.heap.size W W' :=
  (Recall_ok b1 b2 b3 Ab Am Ao nb cb nm cm no co bs ms l W h.net hO (chkO_zero (chkNet_zero h.ni) hl)).mono fun e W' ⟨A, c, he, ho, hb⟩ => by
    obtain ⟨bR, hz, hs⟩ := Sl.of_own (enc := encI) encI_len rfl (by rw [flatI]; exact ho)
    exact ⟨A, c, bR, he, hs, hz, hb⟩
theorem LawSt.throughZ (h : LawSt w W d Bn b1 b2 Ab Am nb cb nm cm bs ms) {b3 no co : Nat} {Ao : Option Addr} {l : List Int} (hO : Sl encI 1 W b3 Ao no l) (hl : OrgIn bs.length l) :
    Calls Try.prog 31 #[netV Ab Am nb cb nm cm, .slice Ao no co] W fun e W' => ∃ A c bR, e = .returned (.tuple #[.slice A nm c, .int .i64 0]) ∧ Sl encR 2 W' bR A nm (throughT bs ms l) ∧ W.heap.size ≤ bR ∧ Below W.heap.size W W' :=
  (Through_ok b1 b2 b3 Ab Am Ao nb cb nm cm no co bs ms l W h.net hO (chkO_zero (chkNet_zero h.ni) hl)).mono fun e W' ⟨A, c, he, ho, hb⟩ => by
    obtain ⟨bR, hz, hs⟩ := Sl.of_own (enc := encR) encR_len (by unfold throughT; rw [thrT_len]; exact h.net.m.len) ho
    exact ⟨A, c, bR, he, hs, hz, hb⟩
end
/-- a net, origins, and all that is said of them -/
structure TrueSt (w W : World) (d Bn b1 b2 b3 b5 b6 b7 : Nat) (Ab Am Ao A5 A6 A7 : Option Addr) (nb cb nm cm : Nat) (bs : List Int) (ms : List Mv) (l : List Int) : Prop where
  law : LawSt w W d Bn b1 b2 Ab Am nb cb nm cm bs ms
  org : Sl encI 1 W b3 Ao l.length l
  x : Sl encR 2 W b5 A5 nb (reachT bs ms l)
  y : Sl encR 2 W b6 A6 nm (throughT bs ms l)
  r : Sl encI 1 W b7 A7 (recallT bs ms l).length (recallT bs ms l)
  ne : b3 ≠ d ∧ b5 ≠ d ∧ b6 ≠ d ∧ b7 ≠ d
section
variable {w W W' : World} {d Bn b1 b2 b3 b5 b6 b7 nb cb nm cm : Nat} {Ab Am Ao A5 A6 A7 : Option Addr} {bs : List Int} {ms : List Mv} {l : List Int}
theorem TrueSt.below (h : TrueSt w W d Bn b1 b2 b3 b5 b6 b7 Ab Am Ao A5 A6 A7 nb cb nm cm bs ms l) (hb : Below W.heap.size W W') : TrueSt w W' d Bn b1 b2 b3 b5 b6 b7 Ab Am Ao A5 A6 A7 nb cb nm cm bs ms l :=
  ⟨h.law.below hb, h.org.old hb, h.x.old hb, h.y.old hb, h.r.old hb, h.ne⟩
theorem TrueSt.dieTo (h : TrueSt w W d Bn b1 b2 b3 b5 b6 b7 Ab Am Ao A5 A6 A7 nb cb nm cm bs ms l) (hd1 : IsDie W' d) (hg : W.grownBy W' (some d)) : TrueSt w W' d Bn b1 b2 b3 b5 b6 b7 Ab Am Ao A5 A6 A7 nb cb nm cm bs ms l :=
  ⟨h.law.dieTo hd1 hg, h.org.grown hg (fun _ e => h.ne.1 (by injection e)), h.x.grown hg (fun _ e => h.ne.2.1 (by injection e)), h.y.grown hg (fun _ e => h.ne.2.2.1 (by injection e)), h.r.grown hg (fun _ e => h.ne.2.2.2 (by injection e)), h.ne⟩
theorem TrueSt.drewN (h : TrueSt w W d Bn b1 b2 b3 b5 b6 b7 Ab Am Ao A5 A6 A7 nb cb nm cm bs ms l) (n : Nat) : TrueSt w (W.drewN n) d Bn b1 b2 b3 b5 b6 b7 Ab Am Ao A5 A6 A7 nb cb nm cm bs ms l := h.below (below_drewN (Below.refl _ W) n)
end
/-- how goods truly went, in memory -/
structure GoM (W : World) (Bg H D bT nb nm cT : Nat) (AT : Option Addr) (bs : List Int) (ms : List Mv) (l xs : List Int) : Prop where
  g : Blk W Bg 56 #[.slice AT nm cT, .slice (some ⟨H, 0, none⟩) nb nb, .slice (some ⟨D, 0, none⟩) nb nb]
  t : Sl encI 1 W bT AT nm xs
  h : RowC W H ((rg nb).map (ownAt (ownOf (bsF bs) l) ms xs))
  d : BRow W D nb (hadT bs ms l xs)
theorem GoM.below {W W' : World} {Bg H D bT nb nm cT : Nat} {AT : Option Addr} {bs : List Int} {ms : List Mv} {l xs : List Int} (h : GoM W Bg H D bT nb nm cT AT bs ms l xs) (hb : Below W.heap.size W W') : GoM W' Bg H D bT nb nm cT AT bs ms l xs :=
  ⟨h.g.below hb h.g.lt, h.t.old hb, h.h.oldG hb, h.d.old hb⟩
theorem inAll_get : ∀ {ss : List Span} {xs : List Int}, inAll ss xs → ∀ {k : Nat} (h1 : k < ss.length) (h2 : k < xs.length), Within ss[k] xs[k]
  | [], _, _, _, h1, _ => absurd h1 (by simp)
  | _ :: _, [], h, _, _, _ => h.elim
  | s :: ss, x :: xs, h, 0, _, _ => h.1
  | s :: ss, x :: xs, h, k + 1, h1, h2 => by
    simp only [List.getElem_cons_succ]
    exact inAll_get h.2 _ _

theorem cell_some_lt {W : World} {g i : Nat} {v : Value} (h : W.cell? ⟨g, i, none⟩ = some v) : g < W.heap.size := by
  rcases Nat.lt_or_ge g W.heap.size with h1 | h1
  · exact h1
  · simp [World.cell?, Array.getElem?_eq_none h1] at h
theorem cell_old {W W' : World} {g i : Nat} {v : Value} (h : W.cell? ⟨g, i, none⟩ = some v) (hb : Below W.heap.size W W') : W'.cell? ⟨g, i, none⟩ = some v :=
  (hb.cell (p := ⟨g, i, none⟩) (cell_some_lt h)).trans h

set_option maxRecDepth 100000 in
set_option maxHeartbeats 2000000 in
theorem traceTrue_any (A : Option Addr) (n c : Nat) (w : World) (hN : Nums w A n) : Calls Try.prog 6 #[.slice A n c] w fun e w' => e = .returned (.bool true) ∧ Below w.heap.size w w' := by
  go_enter Try.func6, Try.ntmps6
  obtain ⟨b, l0, hl0, hw0, hn0⟩ := hN
  go_wp2_with fail
  refine (dieOf_any b n c A l0 _ hl0 hn0 hw0).mono ?_
  rintro e w1 ⟨d, hd, rfl, hdie, hB1⟩
  have HB1 := Lib.hid hB1
  have hz1 := hB1.size
  clear hl0 hw0 hB1
  go_wp2_with fail
  refine (one_any d _ 3 3 _ [5, 60, 100000] _ (hdie.alloc _) (Sl.newI w1 [5, 60, 100000] 3) (by omega) (by omega) (by have := hdie.lt; omega)).mono ?_
  rintro e w2 ⟨g, hg, rfl, hd2, hg2⟩
  have hgb : 0 ≤ g ∧ g ≤ 1000000 := by simp at hg; omega
  have HG2 := Lib.hid (only_step hg2 (only_alloc (only_refl w1 d) _) (.inl rfl))
  clear hg hg2
  go_wp2_with fail
  refine (netOf_any d 6 9 g _ hd2 (by omega) (by omega) (by omega) hgb.1 hgb.2).mono ?_
  rintro e w3 ⟨bs, ms, b1, b2, Ab, Am, nb, cb, nm, cm, hNI, hnb, hnm, rfl, hNM, hb1, hb2, hd3, hg3⟩
  have hz2 := HG2.out.size
  have hg13 := only_trans HG2.out hg3
  have hz3 := hg3.size
  have hdz2 := hd2.lt
  have HB3 := Lib.hid (Below.stepG hg13 HB1.out (Nat.le_refl _) hd)
  have HS3 := Lib.hid (show LawSt w (w3.alloc (.cells #[.slice Ab nb cb, .slice Am nm cm] 25)) d w3.heap.size b1 b2 Ab Am nb cb nm cm bs ms from ⟨HB3.out.alloc HB3.out.size _, Blk.new w3 _ _, hNM.old ((Below.refl _ w3).alloc (Nat.le_refl _) _), hNI, hd3.alloc _, by omega, by omega, by omega, hd⟩)
  have hnb8 : nb ≤ 8 := by omega
  have hnm12 : nm ≤ 12 := by omega
  have HNB := Lib.hid HS3.out.nb_eq
  have HNMq := Lib.hid HS3.out.nm_eq
  clear hd2 hNM hNI hd3 hg3 hg13 hb1 hb2
  have c0 := HS3.out.blk.cell 0
  have c1 := HS3.out.blk.cell 1
  go_wp2_with fail
  refine (originsOf_any d nb cb nm cm Ab Am _ HS3.out.die (by omega)).mono ?_
  rintro e w4 ⟨l, Ao, co, hl, rfl, hol, hd4, hg4⟩
  rw [HNB.out] at hl
  obtain ⟨b3, hb3, hsl⟩ := Sl.of_own (enc := encI) encI_len rfl hol
  have hl8 : l.length ≤ 8 := by have := orig_len hl.nodup hl.rg HS3.out.ni.n1; omega
  have hzd := HS3.out.die.lt
  have HS4 := Lib.hid (HS3.out.dieTo hd4 hg4)
  have HSL := Lib.hid hsl
  have HL := Lib.hid hl
  have h3d : b3 ≠ d := by omega
  clear hol hd4 hg4 hsl hl c0 c1
  have c0 := HS4.out.blk.cell 0
  have c1 := HS4.out.blk.cell 1
  go_wp2_with fail
  refine (HS4.out.reachZ HSL.out HL.out).mono ?_
  rintro e w5 ⟨A5, c5, b5, rfl, hs5, hb5, hB5⟩
  have h5d : b5 ≠ d := by have := HS4.out.die.lt; omega
  have HS5 := Lib.hid (HS4.out.below hB5)
  have HA5 := Lib.hid hs5
  have HSL5 := Lib.hid (HSL.out.old hB5)
  clear c0 c1
  have c0 := HS5.out.blk.cell 0
  have c1 := HS5.out.blk.cell 1
  clear hs5 hB5
  go_wp2_with fail
  refine (HS5.out.throughZ HSL5.out HL.out).mono ?_
  rintro e w6 ⟨A6, c6, b6, rfl, hs6, hb6, hB6⟩
  have h6d : b6 ≠ d := by have := HS5.out.die.lt; omega
  have HS6 := Lib.hid (HS5.out.below hB6)
  have HA6 := Lib.hid (HA5.out.old hB6)
  have HB6 := Lib.hid hs6
  have HSL6 := Lib.hid (HSL5.out.old hB6)
  clear c0 c1
  have c0 := HS6.out.blk.cell 0
  have c1 := HS6.out.blk.cell 1
  clear hs6 hB6
  go_wp2_with fail
  refine (HS6.out.recallZ HSL6.out HL.out).mono ?_
  rintro e w7 ⟨A7, c7, b7, rfl, hs7, hb7, hB7⟩
  have h7d : b7 ≠ d := by have := HS6.out.die.lt; omega
  have HT := Lib.hid (show TrueSt w w7 d w3.heap.size b1 b2 b3 b5 b6 b7 Ab Am Ao A5 A6 A7 nb cb nm cm bs ms l from ⟨HS6.out.below hB7, HSL6.out.old hB7, HA6.out.old hB7, HB6.out.old hB7, hs7, h3d, h5d, h6d, h7d⟩)
  have hr7 : (recallT bs ms l).length ≤ 8 := by
    refine Nat.le_trans ?_ HS3.out.ni.n1
    unfold recallT
    refine Nat.le_trans (List.length_filter_le ..) ?_
    rw [rg_length]
    exact Nat.le_refl _
  clear c0 c1
  have c0 := HT.out.law.blk.cell 0
  have c1 := HT.out.law.blk.cell 1
  clear hs7 hB7 HS4 HS5 HS6 HSL HSL5 HSL6 HA5 HA6 HB6 hb3 hb5 hb6 hb7 hzd
  go_wp2_with fail
  clear c0 c1
  go_loopw [12] (fun i wr => ∃ k : Nat, k ≤ 6 ∧ i = .int .i64 k ∧ TrueSt w wr d w3.heap.size b1 b2 b3 b5 b6 b7 Ab Am Ao A5 A6 A7 nb cb nm cm bs ms l) (fun i _ => 6 - (intOf i).toNat)
  case atStart => exact ⟨0, Nat.zero_le _, rfl, HT.out⟩
  case round =>
    obtain ⟨k, hk, rfl, hT⟩ := hrel
    by_cases hlt : k < 6
    · have k6 : (k : Int) < 6 := by omega
      have c0 := hT.law.blk.cell 0
      have c1 := hT.law.blk.cell 1
      have HTk := Lib.hid hT
      clear hT
      go_wp2_with fail
      refine (goesOf_any d b1 b2 b3 Ab Am Ao nb cb nm cm l.length co bs ms l _ HTk.out.law.die HTk.out.law.ni HTk.out.law.net HTk.out.org HL.out HTk.out.law.ne.1 HTk.out.law.ne.2.1 HTk.out.ne.1).mono ?_
      rintro e w8 ⟨xs, AT, H, D, cT, bT, hway, rfl, hst, hrh, hrd, hzt, hzh, hzD, hd8, hg8⟩
      have HT8 := Lib.hid ((HTk.out.dieTo hd8 hg8).below ((Below.refl _ w8).alloc (Nat.le_refl _) (.cells #[.slice AT nm cT, .slice (some ⟨H, 0, none⟩) nb nb, .slice (some ⟨D, 0, none⟩) nb nb] 56)))
      have HG8 := Lib.hid (show GoM (w8.alloc (.cells #[.slice AT nm cT, .slice (some ⟨H, 0, none⟩) nb nb, .slice (some ⟨D, 0, none⟩) nb nb] 56)) w8.heap.size H D bT nb nm cT AT bs ms l xs from
        ⟨Blk.new w8 _ _, hst.alloc _, hrh.oldG ((Below.refl _ w8).alloc (Nat.le_refl _) _), hrd.old ((Below.refl _ w8).alloc (Nat.le_refl _) _)⟩)
      have HWY := Lib.hid hway
      have hxm : xs.length = nm := by rw [way_len hway]; exact HNMq.out.symm
      clear c0 c1 hst hrh hrd hzt hzh hzD hd8 hg8 hway
      go_wp2_with fail
      go_loopw [14] (fun i wr => ∃ j : Nat, j ≤ nb ∧ i = .int .i64 j ∧ TrueSt w wr d w3.heap.size b1 b2 b3 b5 b6 b7 Ab Am Ao A5 A6 A7 nb cb nm cm bs ms l ∧ GoM wr w8.heap.size H D bT nb nm cT AT bs ms l xs) (fun i _ => nb - (intOf i).toNat)
      case atStart => exact ⟨0, Nat.zero_le _, rfl, HT8.out, HG8.out⟩
      case round =>
        obtain ⟨j, hj, rfl, hT, hG⟩ := hrel
        by_cases hlt2 : j < nb
        · have hjb : j < bs.length := by have := HNB.out; omega
          obtain ⟨o5, rfl, _, x0, x1⟩ := hT.x.atR (k := j) (by rw [reach_len]; exact hjb)
          rw [reach_get _ _ _ hjb] at x0 x1
          have hin := way_own (n := 0) hT.law.ni l HWY.out (b := (j : Int)) (by omega) (by omega)
          have hhad := way_had hT.law.ni l HWY.out (b := (j : Int)) (by omega) (by omega)
          have z0 := hG.h.cell (k := j) (by rw [has_len]; exact hlt2)
          rw [has_get hlt2] at z0
          have z1 := hG.d.cell hlt2
          generalize mayT bs l ms j = X at x0 x1 hin
          obtain ⟨in1, in2⟩ := hin
          generalize ownAt (ownOf (bsF bs) l) ms xs (j : Int) = y at z0 in1 in2
          generalize hadT bs ms l xs (j : Int) = v at z1 hhad
          have g1 : wr.cell? ⟨w8.heap.size, 1, none⟩ = some (.slice (some ⟨H, 0, none⟩) nb nb) := hG.g.cell 1
          have g2 : wr.cell? ⟨w8.heap.size, 2, none⟩ = some (.slice (some ⟨D, 0, none⟩) nb nb) := hG.g.cell 2
          have HF := Lib.hid (fun (W : World) (hb : Below wr.heap.size wr W) => (show (W.cell? ⟨b5, o5 + j * 2, none⟩ = some (.int .i64 X.lo) ∧ W.cell? ⟨b5, o5 + j * 2 + 1, none⟩ = some (.int .i64 X.hi)) ∧ (W.cell? ⟨w8.heap.size, 1, none⟩ = some (.slice (some ⟨H, 0, none⟩) nb nb) ∧ W.cell? ⟨H, j, none⟩ = some (.int .i64 y)) ∧ W.cell? ⟨w8.heap.size, 2, none⟩ = some (.slice (some ⟨D, 0, none⟩) nb nb) ∧ W.cell? ⟨D, j, none⟩ = some (.bool v) from
            ⟨⟨cell_old x0 hb, cell_old x1 hb⟩, ⟨cell_old g1 hb, cell_old z0 hb⟩, cell_old g2 hb, cell_old z1 hb⟩))
          have j0 : (0 : Int) ≤ (j : Int) := by omega
          have j1 : (j : Int) < (nb : Int) := by omega
          have t1 : (decide (X.lo ≤ y) && decide (y ≤ X.hi)) = true := by simp; omega
          have HTj := Lib.hid hT
          have HGj := Lib.hid hG
          have HT1 := Lib.hid t1
          clear hT hG x0 x1 z0 z1 g1 g2 t1 in1 in2
          have hbd := (Below.refl wr.heap.size wr).drew
          cases v
          · go_upto_region 16 with fail
            refine wp_region_PL [3, 5, 8, 13, 16] (fun W => (W.cell? ⟨b5, o5 + j * 2, none⟩ = some (.int .i64 X.lo) ∧ W.cell? ⟨b5, o5 + j * 2 + 1, none⟩ = some (.int .i64 X.hi)) ∧ (W.cell? ⟨w8.heap.size, 1, none⟩ = some (.slice (some ⟨H, 0, none⟩) nb nb) ∧ W.cell? ⟨H, j, none⟩ = some (.int .i64 y)) ∧ W.cell? ⟨w8.heap.size, 2, none⟩ = some (.slice (some ⟨D, 0, none⟩) nb nb) ∧ W.cell? ⟨D, j, none⟩ = some (.bool false)) rfl (by kernel_rfl) (HF.out _ hbd) (fun hF0 => ?_)
            (refine wpAnyP_takeL (i := 0) (v := ?_) rfl (by kernel_rfl) (by kernel_rfl) (by kernel_rfl) (fun _ _ _ h => h) (by rfl) ?_ ?_; rotate_left 1; focus (intro w; go_simp; try with_reducible rfl))
            try simp only [Act.put, List.setIfInBounds_toArray, List.set_cons_zero, List.set_cons_succ]
            (refine wpAnyP_takeL (i := 1) (v := ?_) rfl (by kernel_rfl) (by kernel_rfl) (by kernel_rfl) (fun _ _ _ h => h) (by rfl) ?_ ?_; rotate_left 1; focus (intro w; go_simp; try with_reducible rfl))
            try simp only [Act.put, List.setIfInBounds_toArray, List.set_cons_zero, List.set_cons_succ]
            (refine wpAnyP_takeL (i := 2) (v := ?_) rfl (by kernel_rfl) (by kernel_rfl) (by kernel_rfl) (fun _ _ _ h => h) (by rfl) ?_ ?_; rotate_left 1; focus (intro w; go_simp; try with_reducible rfl))
            try simp only [Act.put, List.setIfInBounds_toArray, List.set_cons_zero, List.set_cons_succ]
            (refine wpAnyP_loadL (i := 3) (v := ?_) rfl (by kernel_rfl) (by kernel_rfl) (by kernel_rfl) (by rfl) (fun _ _ _ h => h) hF0 (by rfl) ?_ ?_; rotate_left 1; focus (intro w hFw; (try dsimp only at hFw); go_split_ands; go_simp; try with_reducible rfl))
            try simp only [Act.put, List.setIfInBounds_toArray, List.set_cons_zero, List.set_cons_succ]
            (refine wpAnyP_takeL (i := 4) (v := ?_) rfl (by kernel_rfl) (by kernel_rfl) (by kernel_rfl) (fun _ _ _ h => h) (by rfl) ?_ ?_; rotate_left 1; focus (intro w; go_simp; try with_reducible rfl))
            try simp only [Act.put, List.setIfInBounds_toArray, List.set_cons_zero, List.set_cons_succ]
            (refine wpAnyP_loadL (i := 5) (v := ?_) rfl (by kernel_rfl) (by kernel_rfl) (by kernel_rfl) (by rfl) (fun _ _ _ h => h) hF0 (by rfl) ?_ ?_; rotate_left 1; focus (intro w hFw; (try dsimp only at hFw); go_split_ands; go_simp; try with_reducible rfl))
            try simp only [Act.put, List.setIfInBounds_toArray, List.set_cons_zero, List.set_cons_succ]
            (refine wpAnyP_takeL (i := 6) (v := ?_) rfl (by kernel_rfl) (by kernel_rfl) (by kernel_rfl) (fun _ _ _ h => h) (by rfl) ?_ ?_; rotate_left 1; focus (intro w; go_simp; try with_reducible rfl))
            try simp only [Act.put, List.setIfInBounds_toArray, List.set_cons_zero, List.set_cons_succ]
            (refine wpAnyP_takeL (i := 7) (v := ?_) rfl (by kernel_rfl) (by kernel_rfl) (by kernel_rfl) (fun _ _ _ h => h) (by rfl) ?_ ?_; rotate_left 1; focus (intro w; go_simp; try with_reducible rfl))
            try simp only [Act.put, List.setIfInBounds_toArray, List.set_cons_zero, List.set_cons_succ]
            (refine wpAnyP_loadL (i := 8) (v := ?_) rfl (by kernel_rfl) (by kernel_rfl) (by kernel_rfl) (by rfl) (fun _ _ _ h => h) hF0 (by rfl) ?_ ?_; rotate_left 1; focus (intro w hFw; (try dsimp only at hFw); go_split_ands; go_simp; try with_reducible rfl))
            try simp only [Act.put, List.setIfInBounds_toArray, List.set_cons_zero, List.set_cons_succ]
            refine wpAnyP_step (i := 9) rfl (by kernel_rfl) (by rfl) (fun K hK => ?_)
            go_simp
            (refine (holds_any X.lo X.hi y _).mono ?_; rw [HT1.out]; rintro e w10 ⟨rfl, hb10⟩; have HB10 := Lib.hid (hbd.trans hb10))
            (refine hK _ _ (HF.out _ HB10.out) (fun hF1 => ?_); clear hK K hF0)
            try simp only [Act.put, List.setIfInBounds_toArray, List.set_cons_zero, List.set_cons_succ]
            (refine wpAnyP_takeL (i := 10) (v := ?_) rfl (by kernel_rfl) (by kernel_rfl) (by kernel_rfl) (fun _ _ _ h => h) (by rfl) ?_ ?_; rotate_left 1; focus (intro w; go_simp; try with_reducible rfl))
            try simp only [Act.put, List.setIfInBounds_toArray, List.set_cons_zero, List.set_cons_succ]
            (refine wpAnyP_takeL (i := 11) (v := ?_) rfl (by kernel_rfl) (by kernel_rfl) (by kernel_rfl) (fun _ _ _ h => h) (by rfl) ?_ ?_; rotate_left 1; focus (intro w; go_simp; try with_reducible rfl))
            try simp only [Act.put, List.setIfInBounds_toArray, List.set_cons_zero, List.set_cons_succ]
            (refine wpAnyP_takeL (i := 12) (v := ?_) rfl (by kernel_rfl) (by kernel_rfl) (by kernel_rfl) (fun _ _ _ h => h) (by rfl) ?_ ?_; rotate_left 1; focus (intro w; go_simp; try with_reducible rfl))
            try simp only [Act.put, List.setIfInBounds_toArray, List.set_cons_zero, List.set_cons_succ]
            (refine wpAnyP_loadL (i := 13) (v := ?_) rfl (by kernel_rfl) (by kernel_rfl) (by kernel_rfl) (by rfl) (fun _ _ _ h => h) hF1 (by rfl) ?_ ?_; rotate_left 1; focus (intro w hFw; (try dsimp only at hFw); go_split_ands; go_simp; try with_reducible rfl))
            try simp only [Act.put, List.setIfInBounds_toArray, List.set_cons_zero, List.set_cons_succ]
            (refine wpAnyP_takeL (i := 14) (v := ?_) rfl (by kernel_rfl) (by kernel_rfl) (by kernel_rfl) (fun _ _ _ h => h) (by rfl) ?_ ?_; rotate_left 1; focus (intro w; go_simp; try with_reducible rfl))
            try simp only [Act.put, List.setIfInBounds_toArray, List.set_cons_zero, List.set_cons_succ]
            (refine wpAnyP_takeL (i := 15) (v := ?_) rfl (by kernel_rfl) (by kernel_rfl) (by kernel_rfl) (fun _ _ _ h => h) (by rfl) ?_ ?_; rotate_left 1; focus (intro w; go_simp; try with_reducible rfl))
            try simp only [Act.put, List.setIfInBounds_toArray, List.set_cons_zero, List.set_cons_succ]
            (refine wpAnyP_loadL (i := 16) (v := ?_) rfl (by kernel_rfl) (by kernel_rfl) (by kernel_rfl) (by rfl) (fun _ _ _ h => h) hF1 (by rfl) ?_ ?_; rotate_left 1; focus (intro w hFw; (try dsimp only at hFw); go_split_ands; go_simp; try with_reducible rfl))
            try simp only [Act.put, List.setIfInBounds_toArray, List.set_cons_zero, List.set_cons_succ]
            (refine wpAnyP_takeL (i := 17) (v := ?_) rfl (by kernel_rfl) (by kernel_rfl) (by kernel_rfl) (fun _ _ _ h => h) (by rfl) ?_ ?_; rotate_left 1; focus (intro w; go_simp; try with_reducible rfl))
            try simp only [Act.put, List.setIfInBounds_toArray, List.set_cons_zero, List.set_cons_succ]
            (refine wpAnyP_skipL (i := 18) rfl (by kernel_rfl) (by kernel_rfl) (by kernel_rfl) (fun _ _ _ h => h) (by rfl) ?_)
            try simp only [Act.put, List.setIfInBounds_toArray, List.set_cons_zero, List.set_cons_succ]
            (refine wpAnyP_skipL (i := 19) rfl (by kernel_rfl) (by kernel_rfl) (by kernel_rfl) (fun _ _ _ h => h) (by rfl) ?_)
            try simp only [Act.put, List.setIfInBounds_toArray, List.set_cons_zero, List.set_cons_succ]
            (refine wpAnyP_skipL (i := 20) rfl (by kernel_rfl) (by kernel_rfl) (by kernel_rfl) (fun _ _ _ h => h) (by rfl) ?_)
            try simp only [Act.put, List.setIfInBounds_toArray, List.set_cons_zero, List.set_cons_succ]
            (refine wpAnyP_skipL (i := 21) rfl (by kernel_rfl) (by kernel_rfl) (by kernel_rfl) (fun _ _ _ h => h) (by rfl) ?_)
            try simp only [Act.put, List.setIfInBounds_toArray, List.set_cons_zero, List.set_cons_succ]
            (refine wpAnyP_takeL (i := 22) (v := ?_) rfl (by kernel_rfl) (by kernel_rfl) (by kernel_rfl) (fun _ _ _ h => h) (by rfl) ?_ ?_; rotate_left 1; focus (intro w; go_simp; try with_reducible rfl))
            try simp only [Act.put, List.setIfInBounds_toArray, List.set_cons_zero, List.set_cons_succ]
            (refine wpAnyP_takeL (i := 23) (v := ?_) rfl (by kernel_rfl) (by kernel_rfl) (by kernel_rfl) (fun _ _ _ h => h) (by rfl) ?_ ?_; rotate_left 1; focus (intro w; go_simp; try with_reducible rfl))
            try simp only [Act.put, List.setIfInBounds_toArray, List.set_cons_zero, List.set_cons_succ]
            refine wpAnyP_done (by kernel_rfl) ?_ _
            go_wp2_with fail
            exact ⟨⟨j + 1, by omega, by go_num, HTj.out.below HB10.out, HGj.out.below HB10.out⟩, by simp [intOf]; omega⟩
          · have HRM := Lib.hid (decide_eq_true (hhad rfl))
            go_upto_region 16 with fail
            refine wp_region_PL [3, 5, 8, 13, 16] (fun W => (W.cell? ⟨b5, o5 + j * 2, none⟩ = some (.int .i64 X.lo) ∧ W.cell? ⟨b5, o5 + j * 2 + 1, none⟩ = some (.int .i64 X.hi)) ∧ (W.cell? ⟨w8.heap.size, 1, none⟩ = some (.slice (some ⟨H, 0, none⟩) nb nb) ∧ W.cell? ⟨H, j, none⟩ = some (.int .i64 y)) ∧ W.cell? ⟨w8.heap.size, 2, none⟩ = some (.slice (some ⟨D, 0, none⟩) nb nb) ∧ W.cell? ⟨D, j, none⟩ = some (.bool true)) rfl (by kernel_rfl) (HF.out _ hbd) (fun hF0 => ?_)
            (refine wpAnyP_takeL (i := 0) (v := ?_) rfl (by kernel_rfl) (by kernel_rfl) (by kernel_rfl) (fun _ _ _ h => h) (by rfl) ?_ ?_; rotate_left 1; focus (intro w; go_simp; try with_reducible rfl))
            try simp only [Act.put, List.setIfInBounds_toArray, List.set_cons_zero, List.set_cons_succ]
            (refine wpAnyP_takeL (i := 1) (v := ?_) rfl (by kernel_rfl) (by kernel_rfl) (by kernel_rfl) (fun _ _ _ h => h) (by rfl) ?_ ?_; rotate_left 1; focus (intro w; go_simp; try with_reducible rfl))
            try simp only [Act.put, List.setIfInBounds_toArray, List.set_cons_zero, List.set_cons_succ]
            (refine wpAnyP_takeL (i := 2) (v := ?_) rfl (by kernel_rfl) (by kernel_rfl) (by kernel_rfl) (fun _ _ _ h => h) (by rfl) ?_ ?_; rotate_left 1; focus (intro w; go_simp; try with_reducible rfl))
            try simp only [Act.put, List.setIfInBounds_toArray, List.set_cons_zero, List.set_cons_succ]
            (refine wpAnyP_loadL (i := 3) (v := ?_) rfl (by kernel_rfl) (by kernel_rfl) (by kernel_rfl) (by rfl) (fun _ _ _ h => h) hF0 (by rfl) ?_ ?_; rotate_left 1; focus (intro w hFw; (try dsimp only at hFw); go_split_ands; go_simp; try with_reducible rfl))
            try simp only [Act.put, List.setIfInBounds_toArray, List.set_cons_zero, List.set_cons_succ]
            (refine wpAnyP_takeL (i := 4) (v := ?_) rfl (by kernel_rfl) (by kernel_rfl) (by kernel_rfl) (fun _ _ _ h => h) (by rfl) ?_ ?_; rotate_left 1; focus (intro w; go_simp; try with_reducible rfl))
            try simp only [Act.put, List.setIfInBounds_toArray, List.set_cons_zero, List.set_cons_succ]
            (refine wpAnyP_loadL (i := 5) (v := ?_) rfl (by kernel_rfl) (by kernel_rfl) (by kernel_rfl) (by rfl) (fun _ _ _ h => h) hF0 (by rfl) ?_ ?_; rotate_left 1; focus (intro w hFw; (try dsimp only at hFw); go_split_ands; go_simp; try with_reducible rfl))
            try simp only [Act.put, List.setIfInBounds_toArray, List.set_cons_zero, List.set_cons_succ]
            (refine wpAnyP_takeL (i := 6) (v := ?_) rfl (by kernel_rfl) (by kernel_rfl) (by kernel_rfl) (fun _ _ _ h => h) (by rfl) ?_ ?_; rotate_left 1; focus (intro w; go_simp; try with_reducible rfl))
            try simp only [Act.put, List.setIfInBounds_toArray, List.set_cons_zero, List.set_cons_succ]
            (refine wpAnyP_takeL (i := 7) (v := ?_) rfl (by kernel_rfl) (by kernel_rfl) (by kernel_rfl) (fun _ _ _ h => h) (by rfl) ?_ ?_; rotate_left 1; focus (intro w; go_simp; try with_reducible rfl))
            try simp only [Act.put, List.setIfInBounds_toArray, List.set_cons_zero, List.set_cons_succ]
            (refine wpAnyP_loadL (i := 8) (v := ?_) rfl (by kernel_rfl) (by kernel_rfl) (by kernel_rfl) (by rfl) (fun _ _ _ h => h) hF0 (by rfl) ?_ ?_; rotate_left 1; focus (intro w hFw; (try dsimp only at hFw); go_split_ands; go_simp; try with_reducible rfl))
            try simp only [Act.put, List.setIfInBounds_toArray, List.set_cons_zero, List.set_cons_succ]
            refine wpAnyP_step (i := 9) rfl (by kernel_rfl) (by rfl) (fun K hK => ?_)
            go_simp
            (refine (holds_any X.lo X.hi y _).mono ?_; rw [HT1.out]; rintro e w10 ⟨rfl, hb10⟩; have HB10 := Lib.hid (hbd.trans hb10))
            (refine hK _ _ (HF.out _ HB10.out) (fun hF1 => ?_); clear hK K hF0)
            try simp only [Act.put, List.setIfInBounds_toArray, List.set_cons_zero, List.set_cons_succ]
            (refine wpAnyP_takeL (i := 10) (v := ?_) rfl (by kernel_rfl) (by kernel_rfl) (by kernel_rfl) (fun _ _ _ h => h) (by rfl) ?_ ?_; rotate_left 1; focus (intro w; go_simp; try with_reducible rfl))
            try simp only [Act.put, List.setIfInBounds_toArray, List.set_cons_zero, List.set_cons_succ]
            (refine wpAnyP_takeL (i := 11) (v := ?_) rfl (by kernel_rfl) (by kernel_rfl) (by kernel_rfl) (fun _ _ _ h => h) (by rfl) ?_ ?_; rotate_left 1; focus (intro w; go_simp; try with_reducible rfl))
            try simp only [Act.put, List.setIfInBounds_toArray, List.set_cons_zero, List.set_cons_succ]
            (refine wpAnyP_takeL (i := 12) (v := ?_) rfl (by kernel_rfl) (by kernel_rfl) (by kernel_rfl) (fun _ _ _ h => h) (by rfl) ?_ ?_; rotate_left 1; focus (intro w; go_simp; try with_reducible rfl))
            try simp only [Act.put, List.setIfInBounds_toArray, List.set_cons_zero, List.set_cons_succ]
            (refine wpAnyP_loadL (i := 13) (v := ?_) rfl (by kernel_rfl) (by kernel_rfl) (by kernel_rfl) (by rfl) (fun _ _ _ h => h) hF1 (by rfl) ?_ ?_; rotate_left 1; focus (intro w hFw; (try dsimp only at hFw); go_split_ands; go_simp; try with_reducible rfl))
            try simp only [Act.put, List.setIfInBounds_toArray, List.set_cons_zero, List.set_cons_succ]
            (refine wpAnyP_takeL (i := 14) (v := ?_) rfl (by kernel_rfl) (by kernel_rfl) (by kernel_rfl) (fun _ _ _ h => h) (by rfl) ?_ ?_; rotate_left 1; focus (intro w; go_simp; try with_reducible rfl))
            try simp only [Act.put, List.setIfInBounds_toArray, List.set_cons_zero, List.set_cons_succ]
            (refine wpAnyP_takeL (i := 15) (v := ?_) rfl (by kernel_rfl) (by kernel_rfl) (by kernel_rfl) (fun _ _ _ h => h) (by rfl) ?_ ?_; rotate_left 1; focus (intro w; go_simp; try with_reducible rfl))
            try simp only [Act.put, List.setIfInBounds_toArray, List.set_cons_zero, List.set_cons_succ]
            (refine wpAnyP_loadL (i := 16) (v := ?_) rfl (by kernel_rfl) (by kernel_rfl) (by kernel_rfl) (by rfl) (fun _ _ _ h => h) hF1 (by rfl) ?_ ?_; rotate_left 1; focus (intro w hFw; (try dsimp only at hFw); go_split_ands; go_simp; try with_reducible rfl))
            try simp only [Act.put, List.setIfInBounds_toArray, List.set_cons_zero, List.set_cons_succ]
            (refine wpAnyP_takeL (i := 17) (v := ?_) rfl (by kernel_rfl) (by kernel_rfl) (by kernel_rfl) (fun _ _ _ h => h) (by rfl) ?_ ?_; rotate_left 1; focus (intro w; go_simp; try with_reducible rfl))
            try simp only [Act.put, List.setIfInBounds_toArray, List.set_cons_zero, List.set_cons_succ]
            (refine wpAnyP_takeL (i := 18) (v := ?_) rfl (by kernel_rfl) (by kernel_rfl) (by kernel_rfl) (fun _ _ _ h => h) (by rfl) ?_ ?_; rotate_left 1; focus (intro w; go_simp; try with_reducible rfl))
            try simp only [Act.put, List.setIfInBounds_toArray, List.set_cons_zero, List.set_cons_succ]
            (refine wpAnyP_takeL (i := 19) (v := ?_) rfl (by kernel_rfl) (by kernel_rfl) (by kernel_rfl) (fun _ _ _ h => h) (by rfl) ?_ ?_; rotate_left 1; focus (intro w; go_simp; try with_reducible rfl))
            try simp only [Act.put, List.setIfInBounds_toArray, List.set_cons_zero, List.set_cons_succ]
            refine wpAnyP_step (i := 20) rfl (by kernel_rfl) (by rfl) (fun K hK => ?_)
            go_simp
            (refine (has_any b7 _ c7 A7 _ (j : Int) _ (HTj.out.below HB10.out).r (by omega)).mono ?_; rw [HRM.out]; rintro e w11 ⟨rfl, rfl⟩)
            (refine hK _ _ (HF.out _ HB10.out) (fun hF2 => ?_); clear hK K hF1)
            try simp only [Act.put, List.setIfInBounds_toArray, List.set_cons_zero, List.set_cons_succ]
            (refine wpAnyP_takeL (i := 21) (v := ?_) rfl (by kernel_rfl) (by kernel_rfl) (by kernel_rfl) (fun _ _ _ h => h) (by rfl) ?_ ?_; rotate_left 1; focus (intro w; go_simp; try with_reducible rfl))
            try simp only [Act.put, List.setIfInBounds_toArray, List.set_cons_zero, List.set_cons_succ]
            (refine wpAnyP_takeL (i := 22) (v := ?_) rfl (by kernel_rfl) (by kernel_rfl) (by kernel_rfl) (fun _ _ _ h => h) (by rfl) ?_ ?_; rotate_left 1; focus (intro w; go_simp; try with_reducible rfl))
            try simp only [Act.put, List.setIfInBounds_toArray, List.set_cons_zero, List.set_cons_succ]
            (refine wpAnyP_takeL (i := 23) (v := ?_) rfl (by kernel_rfl) (by kernel_rfl) (by kernel_rfl) (fun _ _ _ h => h) (by rfl) ?_ ?_; rotate_left 1; focus (intro w; go_simp; try with_reducible rfl))
            try simp only [Act.put, List.setIfInBounds_toArray, List.set_cons_zero, List.set_cons_succ]
            refine wpAnyP_done (by kernel_rfl) ?_ _
            go_wp2_with fail
            exact ⟨⟨j + 1, by omega, by go_num, HTj.out.below HB10.out, HGj.out.below HB10.out⟩, by simp [intOf]; omega⟩
        · obtain rfl : nb = j := by omega
          have HTq := Lib.hid hT
          have HGq := Lib.hid hG
          clear hT hG
          obtain ⟨wq, rfl⟩ : ∃ wq : World, wq = wr := ⟨_, rfl⟩
          go_wp2_with fail
          go_loopw [15] (fun i wr => ∃ j : Nat, j ≤ nm ∧ i = .int .i64 j ∧ TrueSt w wr d w3.heap.size b1 b2 b3 b5 b6 b7 Ab Am Ao A5 A6 A7 nb cb nm cm bs ms l ∧ GoM wr w8.heap.size H D bT nb nm cT AT bs ms l xs) (fun i _ => nm - (intOf i).toNat)
          case atStart => exact ⟨0, Nat.zero_le _, rfl, HTq.out, HGq.out⟩
          case round =>
            obtain ⟨j, hj, rfl, hT, hG⟩ := hrel
            by_cases hlt3 : j < nm
            · have hjm : j < ms.length := by have := HNMq.out; omega
              have hjt : j < (throughT bs ms l).length := by rw [through_len]; exact hjm
              have hjx : j < xs.length := by omega
              obtain ⟨o6, rfl, _, x0, x1⟩ := hT.y.atR (k := j) hjt
              obtain ⟨oT, rfl, _, z0⟩ := hG.t.atI (k := j) hjx
              have hin := inAll_get (way_through hT.law.ni l HWY.out) (k := j) hjt hjx
              generalize (throughT bs ms l)[j]'hjt = X at x0 x1 hin
              obtain ⟨in1, in2⟩ := hin
              generalize xs[j]'hjx = y at z0 in1 in2
              have g0 : wr.cell? ⟨w8.heap.size, 0, none⟩ = some (.slice (some ⟨bT, oT, none⟩) nm cT) := hG.g.cell 0
              have HF := Lib.hid (fun (W : World) (hb : Below wr.heap.size wr W) => (show (W.cell? ⟨b6, o6 + j * 2, none⟩ = some (.int .i64 X.lo) ∧ W.cell? ⟨b6, o6 + j * 2 + 1, none⟩ = some (.int .i64 X.hi)) ∧ W.cell? ⟨w8.heap.size, 0, none⟩ = some (.slice (some ⟨bT, oT, none⟩) nm cT) ∧ W.cell? ⟨bT, oT + j, none⟩ = some (.int .i64 y) from ⟨⟨cell_old x0 hb, cell_old x1 hb⟩, cell_old g0 hb, cell_old z0 hb⟩))
              have j0 : (0 : Int) ≤ (j : Int) := by omega
              have j1 : (j : Int) < (nm : Int) := by omega
              have t1 : (decide (X.lo ≤ y) && decide (y ≤ X.hi)) = true := by simp; omega
              have HTj := Lib.hid hT
              have HGj := Lib.hid hG
              have HT1 := Lib.hid t1
              clear hT hG x0 x1 z0 g0 t1 in1 in2
              have hbd := (Below.refl wr.heap.size wr).drew
              go_upto_region 21 with fail
              refine wp_region_PL [3, 5, 8] (fun W => (W.cell? ⟨b6, o6 + j * 2, none⟩ = some (.int .i64 X.lo) ∧ W.cell? ⟨b6, o6 + j * 2 + 1, none⟩ = some (.int .i64 X.hi)) ∧ W.cell? ⟨w8.heap.size, 0, none⟩ = some (.slice (some ⟨bT, oT, none⟩) nm cT) ∧ W.cell? ⟨bT, oT + j, none⟩ = some (.int .i64 y)) rfl (by kernel_rfl) (HF.out _ hbd) (fun hF0 => ?_)
              (refine wpAnyP_takeL (i := 0) (v := ?_) rfl (by kernel_rfl) (by kernel_rfl) (by kernel_rfl) (fun _ _ _ h => h) (by rfl) ?_ ?_; rotate_left 1; focus (intro w; go_simp; try with_reducible rfl))
              try simp only [Act.put, List.setIfInBounds_toArray, List.set_cons_zero, List.set_cons_succ]
              (refine wpAnyP_takeL (i := 1) (v := ?_) rfl (by kernel_rfl) (by kernel_rfl) (by kernel_rfl) (fun _ _ _ h => h) (by rfl) ?_ ?_; rotate_left 1; focus (intro w; go_simp; try with_reducible rfl))
              try simp only [Act.put, List.setIfInBounds_toArray, List.set_cons_zero, List.set_cons_succ]
              (refine wpAnyP_takeL (i := 2) (v := ?_) rfl (by kernel_rfl) (by kernel_rfl) (by kernel_rfl) (fun _ _ _ h => h) (by rfl) ?_ ?_; rotate_left 1; focus (intro w; go_simp; try with_reducible rfl))
              try simp only [Act.put, List.setIfInBounds_toArray, List.set_cons_zero, List.set_cons_succ]
              (refine wpAnyP_loadL (i := 3) (v := ?_) rfl (by kernel_rfl) (by kernel_rfl) (by kernel_rfl) (by rfl) (fun _ _ _ h => h) hF0 (by rfl) ?_ ?_; rotate_left 1; focus (intro w hFw; (try dsimp only at hFw); go_split_ands; go_simp; try with_reducible rfl))
              try simp only [Act.put, List.setIfInBounds_toArray, List.set_cons_zero, List.set_cons_succ]
              (refine wpAnyP_takeL (i := 4) (v := ?_) rfl (by kernel_rfl) (by kernel_rfl) (by kernel_rfl) (fun _ _ _ h => h) (by rfl) ?_ ?_; rotate_left 1; focus (intro w; go_simp; try with_reducible rfl))
              try simp only [Act.put, List.setIfInBounds_toArray, List.set_cons_zero, List.set_cons_succ]
              (refine wpAnyP_loadL (i := 5) (v := ?_) rfl (by kernel_rfl) (by kernel_rfl) (by kernel_rfl) (by rfl) (fun _ _ _ h => h) hF0 (by rfl) ?_ ?_; rotate_left 1; focus (intro w hFw; (try dsimp only at hFw); go_split_ands; go_simp; try with_reducible rfl))
              try simp only [Act.put, List.setIfInBounds_toArray, List.set_cons_zero, List.set_cons_succ]
              (refine wpAnyP_takeL (i := 6) (v := ?_) rfl (by kernel_rfl) (by kernel_rfl) (by kernel_rfl) (fun _ _ _ h => h) (by rfl) ?_ ?_; rotate_left 1; focus (intro w; go_simp; try with_reducible rfl))
              try simp only [Act.put, List.setIfInBounds_toArray, List.set_cons_zero, List.set_cons_succ]
              (refine wpAnyP_takeL (i := 7) (v := ?_) rfl (by kernel_rfl) (by kernel_rfl) (by kernel_rfl) (fun _ _ _ h => h) (by rfl) ?_ ?_; rotate_left 1; focus (intro w; go_simp; try with_reducible rfl))
              try simp only [Act.put, List.setIfInBounds_toArray, List.set_cons_zero, List.set_cons_succ]
              (refine wpAnyP_loadL (i := 8) (v := ?_) rfl (by kernel_rfl) (by kernel_rfl) (by kernel_rfl) (by rfl) (fun _ _ _ h => h) hF0 (by rfl) ?_ ?_; rotate_left 1; focus (intro w hFw; (try dsimp only at hFw); go_split_ands; go_simp; try with_reducible rfl))
              try simp only [Act.put, List.setIfInBounds_toArray, List.set_cons_zero, List.set_cons_succ]
              refine wpAnyP_step (i := 9) rfl (by kernel_rfl) (by rfl) (fun K hK => ?_)
              go_simp
              (refine (holds_any X.lo X.hi y _).mono ?_; rw [HT1.out]; rintro e w10 ⟨rfl, hb10⟩; have HB10 := Lib.hid (hbd.trans hb10))
              (refine hK _ _ (HF.out _ HB10.out) (fun hF1 => ?_); clear hK K hF0)
              try simp only [Act.put, List.setIfInBounds_toArray, List.set_cons_zero, List.set_cons_succ]
              (refine wpAnyP_takeL (i := 10) (v := ?_) rfl (by kernel_rfl) (by kernel_rfl) (by kernel_rfl) (fun _ _ _ h => h) (by rfl) ?_ ?_; rotate_left 1; focus (intro w; go_simp; try with_reducible rfl))
              try simp only [Act.put, List.setIfInBounds_toArray, List.set_cons_zero, List.set_cons_succ]
              refine wpAnyP_done (by kernel_rfl) ?_ _
              go_wp2_with fail
              exact ⟨⟨j + 1, by omega, by go_num, HTj.out.below HB10.out, HGj.out.below HB10.out⟩, by simp [intOf]; omega⟩
            · obtain rfl : nm = j := by omega
              have HTz := Lib.hid hT
              clear hT hG
              go_wp2_with fail
              exact ⟨⟨k + 1, by omega, by go_num, HTz.out⟩, by simp [intOf]; omega⟩
    · obtain rfl : k = 6 := by omega
      have HTk := Lib.hid hT
      clear hT
      go_wp2_with fail
      refine (kawake_any _).mono ?_
      rintro e w9 ⟨rfl, hB9⟩
      have HL9 := Lib.hid ((HTk.out.law.below hB9).low)
      clear hB9
      go_wp2_with fail
      go_ret
      exact ⟨rfl, HL9.out⟩
end Go.Proofs.Ytkphgdkjjklajaa
