/-
  The walk of the law TraceTells.
-/
import Derived.Test.YtkphgdkjjklajaaTrRCh
import Derived.Deep.CutRange
set_option linter.unusedVariables false
set_option linter.unusedSimpArgs false
namespace Go.Proofs.Ytkphgdkjjklajaa
open Go.RowKit Go.Shelf Go.Sort

theorem Sl.sub1 {W : World} {b n : Nat} {A : Option Addr} {l : List Int} (h : Sl encI 1 W b A n l) {k : Nat} (hk : k < l.length) : ∃ o, A = some ⟨b, o, none⟩ ∧ Sl encI 1 W b (some ⟨b, o + k, none⟩) 1 [l[k]] := by
  obtain ⟨o, rfl, hz, hc⟩ := h.atI hk
  refine ⟨o, rfl, rfl, fun _ => ⟨o + k, rfl, hz, fun j hj i u hu => ?_⟩⟩
  obtain rfl : j = 0 := by simp at hj; omega
  obtain rfl : i = 0 := by
    rcases Nat.eq_zero_or_pos i with h | h
    · exact h
    · rw [List.getElem?_eq_none (by simp [encI]; omega)] at hu; cases hu
  simpa [encI, hc] using hu
theorem info_spansE : (Try.prog.info? 44).map (fun i => (i.zero, i.size, i.bytes)) = some (some (.slice none 0 0), 1, 24) := by kernel_rfl
theorem samp_one {n : Nat} {known : List (List Span)} {r : Option (List Int)} (hr : sampT n known = r) {many : Nat} (hm : many ≤ n) (h : ∀ j, j < many → ∀ y ∈ choT n j 0, apartT known y = false) {pre rest : List (List Int)} {x : List Int} (hx : choT n many 0 = pre ++ x :: rest)
    (hp : ∀ y ∈ pre, apartT known y = false) (ha : apartT known x = true) : r = some x := by rw [← hr]; exact samp_hit hm h hx hp ha

theorem LawSt.reach2 {w W : World} {d Bn b1 b2 nb cb nm cm : Nat} {Ab Am : Option Addr} {bs : List Int} {ms : List Mv} (h : LawSt w W d Bn b1 b2 Ab Am nb cb nm cm bs ms) {b3 no co : Nat} {Ao : Option Addr} {l : List Int} (hO : Sl encI 1 W b3 Ao no l) (hl : OrgIn bs.length l) :
    Calls Try.prog 26 #[netV Ab Am nb cb nm cm, .slice Ao no co] W fun e W' => ∃ A c bR, e = .returned (.tuple #[.slice A nb c, .int .i64 0]) ∧ Sl encR 2 W' bR A nb (reachT bs ms l) ∧ W.heap.size ≤ bR ∧ Below W.heap.size W W' :=
  (Reach_ok b1 b2 b3 Ab Am Ao nb cb nm cm no co bs ms l W h.net hO (chkO_zero (chkNet_zero h.ni) hl)).mono fun e W' ⟨A, c, he, ho, hb⟩ => by
    obtain ⟨bR, hbR, hs⟩ := Sl.of_own (enc := encR) encR_len (by unfold reachT; rw [List.length_map, rg_length]; exact h.net.b.len) ho
    exact ⟨A, c, bR, he, hs, hbR, hb⟩
/-- what Samples answered -/
def SamAns (bs : List Int) (ms : List Mv) (l : List Int) (W : World) (A : Option Addr) (n b : Nat) (er : Int) : Prop :=
  (er = 0 ∧ ∃ xs, samplesT bs ms l = some xs ∧ n = xs.length ∧ Sl encI 1 W b A n xs) ∨ (er = 3 ∧ samplesT bs ms l = none ∧ n = 0)
theorem SamPost.ans {bs : List Int} {ms : List Mv} {l : List Int} {w : World} {e : Ending} {w' : World} (h : SamPost bs ms l w e w') : ∃ A n c b er, e = .returned (.tuple #[.slice A n c, .int .i64 er]) ∧ SamAns bs ms l w' A n b er ∧ Below w.heap.size w w' := by
  obtain ⟨h1 | h1, hB⟩ := h
  · obtain ⟨xs, A, c, h2, h3, h4⟩ := h1
    obtain ⟨b, _, hs⟩ := Sl.of_own (enc := encI) encI_len rfl h4
    exact ⟨A, xs.length, c, b, 0, h3, .inl ⟨rfl, xs, h2, rfl, hs⟩, hB⟩
  · exact ⟨none, 0, 0, 0, 3, h1.2, .inr ⟨rfl, h1.1, rfl⟩, hB⟩
theorem SamAns.old {bs : List Int} {ms : List Mv} {l : List Int} {W W' : World} {A : Option Addr} {n b : Nat} {er : Int} (h : SamAns bs ms l W A n b er) (hb : Below W.heap.size W W') : SamAns bs ms l W' A n b er := by
  rcases h with ⟨h1, xs, h2, h3, h4⟩ | h1
  · exact .inl ⟨h1, xs, h2, h3, h4.old hb⟩
  · exact .inr h1
theorem SamAns.grownOn {bs : List Int} {ms : List Mv} {l : List Int} {W W' W0 : World} {A : Option Addr} {n b : Nat} {er : Int} (h : SamAns bs ms l W A n b er) (h0 : SamAns bs ms l W0 A n b er) {row : Option Nat} (hg : W.grownBy W' row) (hr : ∀ r, row = some r → W0.heap.size ≤ r) : SamAns bs ms l W' A n b er := by
  rcases h with ⟨h1, xs, h2, h3, h4⟩ | h1
  · rcases h0 with ⟨_, ys, _, _, k4⟩ | ⟨k1, _⟩
    · exact .inl ⟨h1, xs, h2, h3, h4.grown hg fun hn e => by have := k4.lt hn; have := hr _ e.symm; omega⟩
    · omega
  · exact .inr h1
/-- what is known so far, as it lies, away from the row itself -/
def Spans (W : World) (v : Value) (nb : Nat) (ks : List (SlE Span)) : Prop := ∀ x ∈ ks, Sl encR 2 W x.b x.A x.n x.l ∧ x.n = nb ∧ ∀ g, v.ownBlock = some g → g ≠ x.b
theorem Spans.old {W W' : World} {v : Value} {nb : Nat} {ks : List (SlE Span)} (h : Spans W v nb ks) (hb : Below W.heap.size W W') : Spans W' v nb ks := fun x hx => ⟨(h x hx).1.old hb, (h x hx).2⟩
theorem Spans.turn {W W' : World} {v v' : Value} {nb : Nat} {ks : List (SlE Span)} (h : Spans W v nb ks) (hn : 0 < nb) (hg : W.grownBy W' v.ownBlock) (hat : v'.ownBlock = v.ownBlock ∨ v'.ownBlock = some W.heap.size) : Spans W' v' nb ks := fun x hx => by
  obtain ⟨h1, h2, h3⟩ := h x hx
  refine ⟨h1.grown hg fun _ e => h3 _ e.symm rfl, h2, fun g hgv => ?_⟩
  rcases hat with e | e
  · exact h3 g (by rw [← e]; exact hgv)
  · rw [e] at hgv
    injection hgv with hgv
    have := h1.lt (by omega)
    omega

set_option maxRecDepth 100000 in
set_option maxHeartbeats 2000000 in
theorem traceTells_any (A : Option Addr) (n c : Nat) (w : World) (hN : Nums w A n) : Calls Try.prog 5 #[.slice A n c] w fun e w' => e = .returned (.bool true) ∧ Below w.heap.size w w' := by
  obtain ⟨i1, hi1, jz0, jz1, jz2⟩ := info_parts info_spansE
  go_enter Try.func5, Try.ntmps5
  obtain ⟨b, l0, hl0, hw0, hn0⟩ := hN
  go_wp2_with fail
  refine (dieOf_any b n c A l0 _ hl0 hn0 hw0).mono ?_
  rintro e w1 ⟨d, hd, rfl, hdie, hB1⟩
  have HB1 := Lib.hid hB1
  have hz1 := hB1.size
  clear hl0 hw0 hB1
  go_wp2_with fail
  refine (one_any d _ 2 2 _ [3, 60] _ (hdie.alloc _) (Sl.newI w1 [3, 60] 3) (by omega) (by omega) (by have := hdie.lt; omega)).mono ?_
  rintro e w2 ⟨g, hg, rfl, hd2, hg2⟩
  have hgb : 0 ≤ g ∧ g ≤ 1000000 := by simp at hg; omega
  have HG2 := Lib.hid (only_step hg2 (only_alloc (only_refl w1 d) _) (.inl rfl))
  clear hg hg2
  go_wp2_with fail
  refine (netOf_any d 5 6 g _ hd2 (by omega) (by omega) (by omega) hgb.1 hgb.2).mono ?_
  rintro e w3 ⟨bs, ms, b1, b2, Ab, Am, nb, cb, nm, cm, hNI, hnb, hnm, rfl, hNM, hb1, hb2, hd3, hg3⟩
  have hz2 := HG2.out.size
  have hg13 := only_trans HG2.out hg3
  have hz3 := hg3.size
  have hdz2 := hd2.lt
  have HB3 := Lib.hid (Below.stepG hg13 HB1.out (Nat.le_refl _) hd)
  have HS3 := Lib.hid (show LawSt w (w3.alloc (.cells #[.slice Ab nb cb, .slice Am nm cm] 25)) d w3.heap.size b1 b2 Ab Am nb cb nm cm bs ms from ⟨HB3.out.alloc HB3.out.size _, Blk.new w3 _ _, hNM.old ((Below.refl _ w3).alloc (Nat.le_refl _) _), hNI, hd3.alloc _, by omega, by omega, by omega, hd⟩)
  have hnb8 : nb ≤ 8 := by omega
  have hnm12 : nm ≤ 12 := by omega
  have HNB := Lib.hid HS3.out.nb_eq
  have HNMq := Lib.hid HS3.out.nm_eq
  clear hd2 hNM hNI hd3 hg3 hg13 hb1 hb2
  have c0 := HS3.out.blk.cell 0
  have c1 := HS3.out.blk.cell 1
  go_wp2_with fail
  refine (originsOf_any d nb cb nm cm Ab Am _ HS3.out.die (by omega)).mono ?_
  rintro e w4 ⟨l, Ao, co, hl, rfl, hol, hd4, hg4⟩
  rw [HNB.out] at hl
  have hco : l.length ≤ co := own_cap hol
  obtain ⟨b3, hb3, hsl⟩ := Sl.of_own (enc := encI) encI_len rfl hol
  have hl8 : l.length ≤ 8 := by have := orig_len hl.nodup hl.rg HS3.out.ni.n1; omega
  have HS4 := Lib.hid (HS3.out.dieTo hd4 hg4)
  have HSL := Lib.hid hsl
  have HL := Lib.hid hl
  clear c0 c1
  have c0 := HS4.out.blk.cell 0
  have c1 := HS4.out.blk.cell 1
  clear hol hd4 hg4 hsl hl
  go_wp2_with fail
  refine (Samples_ok b1 b2 b3 Ab Am Ao nb cb nm cm l.length co bs ms l _ HS4.out.net HSL.out hco (chkO_zero (chkNet_zero HS4.out.ni) HL.out)).mono ?_
  intro e w5 hpost
  obtain ⟨AX, nX, cX, bX, er, rfl, hans, hB5⟩ := hpost.ans
  have HS5 := Lib.hid (HS4.out.below hB5)
  have HSL5 := Lib.hid (HSL.out.old hB5)
  have HAN5 := Lib.hid hans
  clear hpost hans hB5 c0 c1
  have hn0 : 0 < nb := by have := HNB.out; have := HS3.out.ni.n0; omega
  go_wp2_with fail
  go_loopw [8, 9] (fun v i wr => ∃ (k c : Nat) (A : Option Addr) (ks : List (SlE Span)), k ≤ l.length ∧ i = .int .i64 k ∧ v = .slice A ks.length c ∧ ks.length = k ∧ ks.map (·.l) = (l.take k).map (fun s => reachT bs ms [s]) ∧ wr.ownsRow w5.heap.size 44 1 (.slice A ks.length c) ks.length (ks.flatMap encE) ∧ Spans wr (.slice A ks.length c) nb ks ∧ LawSt w wr d w3.heap.size b1 b2 Ab Am nb cb nm cm bs ms ∧ Sl encI 1 wr b3 Ao l.length l ∧ SamAns bs ms l wr AX nX bX er ∧ w5.heap.size ≤ wr.heap.size) (fun _ i _ => l.length - (intOf i).toNat)
  case atStart => exact ⟨0, 0, none, [], Nat.zero_le _, rfl, rfl, rfl, rfl, World.ownsRow_nil _ _ _ _, fun x hx => (by cases hx), HS5.out, HSL5.out, HAN5.out, Nat.le_refl _⟩
  case round =>
    obtain ⟨k, cK, AK, ks, hk, rfl, rfl, hkl, hks, hown, hsp, hS, hsl, han, hz5⟩ := hrel
    have HKL := Lib.hid hkl
    have HKS := Lib.hid hks
    have HOWN := Lib.hid hown
    have HSP := Lib.hid hsp
    have HS := Lib.hid hS
    have HSLk := Lib.hid hsl
    have HAN := Lib.hid han
    have hkl8 : ks.length ≤ 8 := by omega
    by_cases hlt : k < l.length
    · as_aux_lemma =>
      obtain ⟨o, rfl, hsub⟩ := hsl.sub1 hlt
      have HTK := Lib.hid (List.take_succ_eq_append_getElem hlt)
      have hrg := HL.out.rg _ (List.getElem_mem hlt)
      generalize l[k] = x at hsub HTK hrg
      have HSUB := Lib.hid hsub
      have HONE := Lib.hid (show OrgIn bs.length [x] from ⟨fun y hy => by rw [List.mem_singleton.1 hy]; exact hrg, List.pairwise_singleton ..⟩)
      have k0 : (0 : Int) ≤ (k : Int) := by omega
      have k1 : (k : Int) ≤ (k : Int) + 1 := by omega
      have k2 : (k : Int) + 1 ≤ (co : Int) := by omega
      have k3 : k ≤ k + 1 := by omega
      have k4 : k + 1 ≤ co := by omega
      clear hkl hks hown hsp hS hsl han hsub
      go_upto_region 9 with fail
      have HSd := Lib.hid HS.out.drew
      have HKW := Lib.hid (show IntKind.i64.wrap ((k : Int) + 1) = (k : Int) + 1 from IntWalk.i64_in _ (by omega))
      have HCK := Lib.hid (show ¬ co = k by omega)
      have HT1 := Lib.hid (show ((k : Int) + 1).toNat - k = 1 by omega)
      refine wp_region_PL [0] (fun W => W.cell? ⟨w3.heap.size, 0, none⟩ = some (.slice Ab nb cb) ∧ W.cell? ⟨w3.heap.size, 1, none⟩ = some (.slice Am nm cm)) rfl (by kernel_rfl) (⟨HSd.out.blk.cell 0, HSd.out.blk.cell 1⟩) (fun hF0 => ?_)
      (refine wpAnyP_loadL (i := 0) (v := ?_) rfl (by kernel_rfl) (by kernel_rfl) (by kernel_rfl) (by rfl) (fun _ _ _ h => h) hF0 (by rfl) ?_ ?_; rotate_left 1; focus (intro w hFw; (try dsimp only at hFw); go_split_ands; go_simp; try with_reducible rfl))
      try simp only [Act.put, List.setIfInBounds_toArray, List.set_cons_zero, List.set_cons_succ]
      (refine wpAnyP_takeL (i := 1) (v := ?_) rfl (by kernel_rfl) (by kernel_rfl) (by kernel_rfl) (fun _ _ _ h => h) (by rfl) ?_ ?_; rotate_left 1; focus (intro w; go_simp; try with_reducible rfl))
      try simp only [Act.put, List.setIfInBounds_toArray, List.set_cons_zero, List.set_cons_succ]
      (refine wpAnyP_takeL (i := 2) (v := ?_) rfl (by kernel_rfl) (by kernel_rfl) (by kernel_rfl) (fun _ _ _ h => h) (by rfl) ?_ ?_; rotate_left 1; focus (intro w; go_simp; try with_reducible rfl))
      try simp only [Act.put, List.setIfInBounds_toArray, List.set_cons_zero, List.set_cons_succ]
      (refine wpAnyP_takeL (i := 3) (v := ?_) rfl (by kernel_rfl) (by kernel_rfl) (by kernel_rfl) (fun _ _ _ h => h) (by rfl) ?_ ?_; rotate_left 1; focus (intro w; go_simp; try with_reducible rfl))
      try simp only [Act.put, List.setIfInBounds_toArray, List.set_cons_zero, List.set_cons_succ]
      (refine wpAnyP_takeL (i := 4) (v := ?_) rfl (by kernel_rfl) (by kernel_rfl) (by kernel_rfl) (fun _ _ _ h => h) (by rfl) ?_ ?_; rotate_left 1; focus (intro w; go_simp; (rw [HKW.out])))
      try simp only [Act.put, List.setIfInBounds_toArray, List.set_cons_zero, List.set_cons_succ]
      (refine wpAnyP_takeL (i := 5) (v := ?_) rfl (by kernel_rfl) (by kernel_rfl) (by kernel_rfl) (fun _ _ _ h => h) (by rfl) ?_ ?_; rotate_left 1; focus (intro w; go_simp; (rw [if_neg HCK.out])))
      try simp only [Act.put, List.setIfInBounds_toArray, List.set_cons_zero, List.set_cons_succ]
      refine wpAnyP_last (i := 6) rfl (by kernel_rfl) (by kernel_rfl) (by rfl) (fun K hK => ?_)
      go_simp
      (refine (HSd.out.reach2 HSUB.out.drew HONE.out).mono ?_; rintro e w6 ⟨A6, c6, b6, rfl, hs6, hb6z, hB6⟩; have HB6Z := Lib.hid (show wr.heap.size ≤ b6 from hb6z); clear hb6z; have hb6 := (show Below wr.heap.size wr wr.drew from (Below.refl _ wr).drew).trans hB6; have HS6 := Lib.hid (HS.out.below hb6); have HA6 := Lib.hid hs6; have HB6 := Lib.hid hb6; clear hb6 hB6 hs6)
      (refine hK _ _ ?_; clear hK K)
      try simp only [Act.put, List.setIfInBounds_toArray, List.set_cons_zero, List.set_cons_succ]
      (refine wpAnyP_takeL (i := 7) (v := ?_) rfl (by kernel_rfl) (by kernel_rfl) (by kernel_rfl) (fun _ _ _ h => h) (by rfl) ?_ ?_; rotate_left 1; focus (intro w; go_simp; try with_reducible rfl))
      try simp only [Act.put, List.setIfInBounds_toArray, List.set_cons_zero, List.set_cons_succ]
      (refine wpAnyP_takeL (i := 8) (v := ?_) rfl (by kernel_rfl) (by kernel_rfl) (by kernel_rfl) (fun _ _ _ h => h) (by rfl) ?_ ?_; rotate_left 1; focus (intro w; go_simp; try with_reducible rfl))
      try simp only [Act.put, List.setIfInBounds_toArray, List.set_cons_zero, List.set_cons_succ]
      (refine wpAnyP_takeL (i := 9) (v := ?_) rfl (by kernel_rfl) (by kernel_rfl) (by kernel_rfl) (fun _ _ _ h => h) (by rfl) ?_ ?_; rotate_left 1; focus (intro w; go_simp; try with_reducible rfl))
      try simp only [Act.put, List.setIfInBounds_toArray, List.set_cons_zero, List.set_cons_succ]
      (refine wpAnyP_takeL (i := 10) (v := ?_) rfl (by kernel_rfl) (by kernel_rfl) (by kernel_rfl) (fun _ _ _ h => h) (by rfl) ?_ ?_; rotate_left 1; focus (intro w; go_simp; try with_reducible rfl))
      try simp only [Act.put, List.setIfInBounds_toArray, List.set_cons_zero, List.set_cons_succ]
      (refine wpAnyP_takeL (i := 11) (v := ?_) rfl (by kernel_rfl) (by kernel_rfl) (by kernel_rfl) (fun _ _ _ h => h) (by rfl) ?_ ?_; rotate_left 1; focus (intro w; go_simp; try with_reducible rfl))
      try simp only [Act.put, List.setIfInBounds_toArray, List.set_cons_zero, List.set_cons_succ]
      refine wpAnyP_done (by kernel_rfl) ?_ _
      have c0 := HS6.out.blk.cell 0
      have hz6 : wr.heap.size ≤ w6.heap.size := HB6.out.size
      have HOA := Lib.hid ((ownsRow_below HOWN.out HB6.out (Nat.le_refl _)).alloc (.cells #[.slice A6 nb c6] 44))
      go_wp2_with (at_builtin; refine wpList_append_sl rfl _ _ 51 rfl w5.heap.size 44 i1 _ 24 Try.underlying51 hi1 jz0 jz1 jz2 rfl (by omega) encE_len _ ks.length _ rfl HOA.out w6.heap.size _ 1 1 [(⟨A6, nb, c6, b6, reachT bs ms [x]⟩ : SlE Span)] rfl (Sl.new encE_len w6 [(⟨A6, nb, c6, b6, reachT bs ms [x]⟩ : SlE Span)] 44 _ rfl) oneE (by unfold maxLen; omega) (by omega) (by simp only [World.size_alloc]; omega) ?_; intro A7 c7 w7 hO7 hg7 hat; have HO7 := Lib.hid hO7; have HG7 := Lib.hid hg7; have HAT := Lib.hid hat; clear hO7 hg7 hat)
      have hb7 : Below w6.heap.size w6 (w6.alloc (.cells #[.slice A6 nb c6] 44)) := (Below.refl _ w6).alloc (Nat.le_refl _) _
      have hownz : ∀ g, (Value.slice AK ks.length cK).ownBlock = some g → w5.heap.size ≤ g ∧ g < wr.heap.size := fun g e => HOWN.out.lt g e
      have hL0 : Spans (w6.alloc (.cells #[.slice A6 nb c6] 44)) (.slice AK ks.length cK) nb (ks ++ [⟨A6, nb, c6, b6, reachT bs ms [x]⟩]) := fun y hy => by
        rcases List.mem_append.1 hy with h | h
        · exact (HSP.out.old HB6.out).old hb7 y h
        · rw [List.mem_singleton.1 h]
          exact ⟨HA6.out.old hb7, rfl, fun g e => by have := hownz g e; have := HB6Z.out; show g ≠ b6; omega⟩
      have HSF := Lib.hid (hL0.turn hn0 HG7.out HAT.out)
      have hwl : ∀ r, (Value.slice AK ks.length cK).ownBlock = some r → w5.heap.size ≤ r := fun r e => (hownz r e).1
      have HS7 := Lib.hid ((HS6.out.below hb7).grownOn HS5.out HG7.out hwl)
      have HSL7 := Lib.hid (((HSLk.out.old HB6.out).old hb7).grown HG7.out (fun hn e => by have := hwl b3 e.symm; have := HSL5.out.lt hn; omega))
      have HAN7 := Lib.hid (((HAN.out.old HB6.out).old hb7).grownOn HAN5.out HG7.out hwl)
      have hz7 := HG7.out.size
      simp only [World.size_alloc] at hz7
      go_roundw
      case rel =>
        have e : ks.length + 1 = (ks ++ [(⟨A6, nb, c6, b6, reachT bs ms [x]⟩ : SlE Span)]).length := by simp
        refine ⟨k + 1, c7, A7, ks ++ [⟨A6, nb, c6, b6, reachT bs ms [x]⟩], by omega, by go_num, by rw [e], by have := HKL.out; simp; omega, ?_, ?_, by rw [← e]; exact HSF.out, HS7.out, HSL7.out, HAN7.out, by omega⟩
        · rw [List.map_append, HKS.out, HTK.out, List.map_append]; rfl
        · rw [← e, List.flatMap_append]; exact HO7.out
      case measure => simp [intOf]; omega
    · obtain rfl : k = l.length := by omega
      have hks2 : ks.map (·.l) = knownT bs ms l := by rw [hks, List.take_length]; rfl
      obtain ⟨bK, _, hsK⟩ := Sl.of_own (enc := encE) encE_len rfl hown
      have HKN := Lib.hid (show KnownAt wr bK ks.length nb AK ks from ⟨hsK, fun x hx => ⟨(hsp x hx).1, (hsp x hx).2.1⟩⟩)
      have HK2 := Lib.hid hks2
      have c0 := hS.blk.cell 0
      clear hkl hks hown hsp hS hsl han hks2 hsK
      go_wp2_with fail
      have hsamp : samplesT bs ms l = sampT nb (knownT bs ms l) := by unfold samplesT; rw [HNB.out]
      have HSA := Lib.hid hsamp
      clear hsamp
      go_loopw [12] (fun i wr => ∃ many : Nat, many ≤ nb + 1 ∧ i = .int .i64 many ∧ KnownAt wr bK ks.length nb AK ks ∧ LawSt w wr d w3.heap.size b1 b2 Ab Am nb cb nm cm bs ms ∧ SamAns bs ms l wr AX nX bX er ∧ ∀ j, j < many → ∀ y ∈ choT nb j 0, apartT (knownT bs ms l) y = false) (fun i _ => nb + 1 - (intOf i).toNat)
      case atStart => exact ⟨0, Nat.zero_le _, rfl, HKN.out, HS.out, HAN.out, fun j hj => absurd hj (Nat.not_lt_zero _)⟩
      case round =>
        obtain ⟨many, hmany, rfl, hKN, hS, hAN, hno⟩ := hrel
        have HKm := Lib.hid hKN
        have HSm := Lib.hid hS
        have HAm := Lib.hid hAN
        have HNO := Lib.hid hno
        have c0 := hS.blk.cell 0
        clear hKN hS hAN hno
        by_cases hle : many ≤ nb
        · have hle2 : (many : Int) ≤ (nb : Int) := by omega
          go_wp2_with fail
          refine (rchoices_any nb hnb8 many 0 _ (by omega) (Nat.zero_le _)).mono ?_
          rintro e w8 ⟨A8, c8, b8, cs, rfl, hs8, _, hcs, hcr, hB8⟩
          have HS8 := Lib.hid (HSm.out.below hB8)
          have HK8 := Lib.hid (HKm.out.old hB8)
          have HA8 := Lib.hid (HAm.out.old hB8)
          have HC8 := Lib.hid hs8
          have HCS := Lib.hid (show cs.map (·.l) = choT nb many 0 from hcs)
          have HCR := Lib.hid (show ∀ x ∈ cs, Sl encI 1 w8 x.b x.A x.n x.l from fun x hx => (hcr x hx).1)
          have hcsl : cs.length ≤ 16777216 := by have := choT_small hnb8 (show many ≤ 8 by omega) 0; rw [← show cs.map (·.l) = choT nb many 0 from hcs, List.length_map] at this; exact this
          clear hs8 hcs hcr hB8 c0
          go_wp2_with fail
          go_loopw [14] (fun i wi => ∃ j : Nat, j ≤ cs.length ∧ i = .int .i64 j ∧ KnownAt wi bK ks.length nb AK ks ∧ LawSt w wi d w3.heap.size b1 b2 Ab Am nb cb nm cm bs ms ∧ SamAns bs ms l wi AX nX bX er ∧ Sl encE 1 wi b8 A8 cs.length cs ∧ (∀ x ∈ cs, Sl encI 1 wi x.b x.A x.n x.l) ∧ ∀ y ∈ (choT nb many 0).take j, apartT (knownT bs ms l) y = false) (fun i _ => cs.length - (intOf i).toNat)
          case atStart => exact ⟨0, Nat.zero_le _, rfl, HK8.out, HS8.out, HA8.out, HC8.out, HCR.out, fun y hy => (by cases hy)⟩
          case round =>
            obtain ⟨j, hj, rfl, hKN, hS, hAN, hC, hR, hnj⟩ := hrel
            have HKj := Lib.hid hKN
            have HSj := Lib.hid hS
            have HAj := Lib.hid hAN
            have HCj := Lib.hid hC
            have HRj := Lib.hid hR
            have HNJ := Lib.hid hnj
            by_cases hlt2 : j < cs.length
            · as_aux_lemma =>
              obtain ⟨o, rfl, hbz, s0⟩ := hC.atE hlt2
              have hR2 := hR cs[j] (List.getElem_mem hlt2)
              have hlen : (choT nb many 0).length = cs.length := by rw [← HCS.out, List.length_map]
              have hel : (choT nb many 0)[j]'(by omega) = (cs[j]).l := by
                have h1 := HCS.out
                have h2 : (cs.map (·.l))[j]'(by rw [List.length_map]; exact hlt2) = (cs[j]).l := by simp
                rw [← h2]
                exact (List.getElem_of_eq h1 _).symm
              have hxm : (cs[j]).l ∈ choT nb many 0 := by rw [← hel]; exact List.getElem_mem _
              have hmem := choT_mem hxm
              have hcl := choT_len hxm
              have hsplit : choT nb many 0 = (choT nb many 0).take j ++ (cs[j]).l :: (choT nb many 0).drop (j + 1) := by
                rw [← hel, ← List.drop_eq_getElem_cons, List.take_append_drop]
              have htk : (choT nb many 0).take (j + 1) = (choT nb many 0).take j ++ [(cs[j]).l] := by
                rw [List.take_succ_eq_append_getElem (by omega), hel]
              generalize cs[j] = x at s0 hR2 hmem hcl hsplit htk
              obtain ⟨xA, xn, xc, xb, xl⟩ := x
              simp only at s0 hR2 hmem hcl hsplit htk
              have hxn : xn ≤ 8 := by have := hR2.len; omega
              have HR2 := Lib.hid hR2
              have HSP := Lib.hid hsplit
              have HTK := Lib.hid htk
              have HMM := Lib.hid hmem
              have j0 : (0 : Int) ≤ (j : Int) := by omega
              have j1 : (j : Int) < (cs.length : Int) := by omega
              clear hKN hS hAN hC hR hnj hR2 hlen hel hxm hsplit htk hmem
              go_wp2_with fail
              refine (rapart_any bK ks.length cK nb xb xn xc AK xA ks xl _ HKj.out HR2.out (by omega) (by omega) (by omega) HMM.out).mono ?_
              rw [HK2.out]
              rintro e w9 ⟨rfl, hB9⟩
              have HS9 := Lib.hid (HSj.out.below hB9)
              have HK9 := Lib.hid (HKj.out.old hB9)
              have HA9 := Lib.hid (HAj.out.old hB9)
              have HC9 := Lib.hid (HCj.out.old hB9)
              have HX9 := Lib.hid (HR2.out.old hB9)
              have HR9 := Lib.hid (show ∀ x ∈ cs, Sl encI 1 w9 x.b x.A x.n x.l from fun x hx => (HRj.out x hx).old hB9)
              have s9 : w9.cell? ⟨b8, o + j, none⟩ = some (.slice xA xn xc) := (hB9.cell (p := ⟨b8, o + j, none⟩) hbz).trans s0
              clear hB9 s0
              cases hap : apartT (knownT bs ms l) xl with
              | true =>
                have hone := samp_one HSA.out.symm hle HNO.out HSP.out HNJ.out hap
                have hA9 := HA9.out
                rcases hA9 with ⟨he, ys, h1, h2, h3⟩ | ⟨_, h1, _⟩
                case inr => rw [hone] at h1; cases h1
                rw [hone] at h1
                injection h1 with h1
                subst h1
                subst he
                have HX3 := Lib.hid h3
                have hnx : nX ≤ 8 := by omega
                have hnm2 : nX = many := by omega
                clear h2 hcl h3 hone hap
                subst hnm2
                go_wp2_with fail
                refine (sameInts_any bX xb _ _ cX xc AX xA _ _ _ HX3.out HX9.out (by omega)).mono ?_
                rw [decide_eq_true rfl]
                rintro e w10 ⟨rfl, hB10⟩
                have HS10 := Lib.hid (HS9.out.below hB10)
                clear hB10
                go_wp2_with fail
                refine (kawake_any _).mono ?_
                rintro e w11 ⟨rfl, hB11⟩
                have HL11 := Lib.hid (HS10.out.below hB11).low
                clear hB11
                go_wp2_with fail
                go_ret
                exact ⟨rfl, HL11.out⟩
              | false =>
                have HAP := Lib.hid hap
                clear hap
                go_wp2_with fail
                refine ⟨⟨j + 1, by omega, by go_num, HK9.out, HS9.out, HA9.out, HC9.out, HR9.out, fun y hy => ?_⟩, by simp [intOf]; omega⟩
                rw [HTK.out] at hy
                rcases List.mem_append.1 hy with h | h
                · exact HNJ.out y h
                · rw [List.mem_singleton.1 h]; exact HAP.out
            · obtain rfl : j = cs.length := by omega
              have hlen : (choT nb many 0).length = cs.length := by rw [← HCS.out, List.length_map]
              have hall : ∀ y ∈ choT nb many 0, apartT (knownT bs ms l) y = false := fun y hy => hnj y (by rw [← hlen, List.take_length]; exact hy)
              have HALL := Lib.hid hall
              clear hKN hS hAN hC hR hnj hlen hall
              go_wp2_with fail
              refine ⟨⟨many + 1, by omega, by go_num, HKj.out, HSj.out, HAj.out, fun j' hj' y hy => ?_⟩, by simp [intOf]; omega⟩
              by_cases hjm : j' = many
              · subst hjm; exact HALL.out y hy
              · exact HNO.out j' (by omega) y hy
        · as_aux_lemma =>
          have hle2 : ¬ (many : Int) ≤ (nb : Int) := by omega
          have hmn : many = nb + 1 := by omega
          have hnone : samplesT bs ms l = none := by rw [HSA.out]; exact samp_none fun j hj => HNO.out j (by omega)
          have hA9 := HAm.out
          rcases hA9 with ⟨_, ys, h1, _⟩ | ⟨he, _, hn0⟩
          case inl => rw [hnone] at h1; cases h1
          subst he
          subst hn0
          clear hnone
          go_wp2_with fail
          refine (kawake_any _).mono ?_
          rintro e w11 ⟨rfl, hB11⟩
          have HL11 := Lib.hid (HSm.out.below hB11).low
          clear hB11
          go_wp2_with fail
          go_ret
          exact ⟨rfl, HL11.out⟩
end Go.Proofs.Ytkphgdkjjklajaa
