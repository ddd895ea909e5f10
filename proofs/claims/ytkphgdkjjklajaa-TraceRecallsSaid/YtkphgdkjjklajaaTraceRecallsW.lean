/-
  Rows of truths, as they lie and as they are written in place. The reference's Recall. The reference's Origins; what Recall and Origins answer of any net, in one form: the program's and the reference's. Nets and origins as they lie, for the laws that compare the program with the reference (the same words stand in TraceNetsW). The walk of the law TraceRecalls.
-/
import Derived.Test.YtkphgdkjjklajaaTrNetL
import Derived.Test.YtkphgdkjjklajaaNetU
import Derived.Test.YtkphgdkjjklajaaTrOri
import Derived.Test.YtkphgdkjjklajaaOpenNet
import Derived.Deep.CutRange
set_option linter.unusedVariables false
set_option linter.unusedSimpArgs false
namespace Go.Proofs.Ytkphgdkjjklajaa
open Go.RowKit Go.Shelf Go.Sort

theorem rg_atB {N k : Nat} (h : k < N) : (rg N)[k]'(by rw [rg_length]; exact h) = (k : Int) := by simp [rg]
/-- a row of truths -/
def BRow (W : World) (g N : Nat) (f : Int → Bool) : Prop := Blk W g 4 ((rg N).map fun b => Value.bool (f b)).toArray
section
variable {W W' : World} {g N : Nat} {f : Int → Bool}
theorem BRow.lt (h : BRow W g N f) : g < W.heap.size := Blk.lt h
theorem BRow.old (h : BRow W g N f) (hb : Below W.heap.size W W') : BRow W' g N f := Blk.below h hb (Blk.lt h)
theorem BRow.grown (h : BRow W g N f) {row : Option Nat} (hg : W.grownBy W' row) (hne : some g ≠ row) : BRow W' g N f := Blk.grown h hg hne
theorem BRow.cell (h : BRow W g N f) {k : Nat} (hk : k < N) : W.cell? ⟨g, k, none⟩ = some (.bool (f k)) := by
  rw [Blk.cell h]
  simp [rg, hk]
theorem BRow.frozen (h : BRow W g N f) (k : Nat) : W.frozen? ⟨g, k, none⟩ = false := Blk.frozen h k
theorem BRow.set_ (h : BRow W g N f) {k : Nat} (hk : k < N) (x : Bool) : BRow (W.setCell ⟨g, k, none⟩ (.bool x)) g N (fun b : Int => if b = (k : Int) then x else f b) := by
  have h1 := Blk.set_ h k (.bool x)
  have e : (((rg N).map fun b => Value.bool (f b)).toArray).setIfInBounds k (.bool x) = ((rg N).map fun b : Int => Value.bool (if b = (k : Int) then x else f b)).toArray := by
    apply Array.toList_inj.1
    rw [Array.toList_setIfInBounds]
    refine List.ext_getElem (by simp) fun i h2 h3 => ?_
    simp only [List.length_map, rg_length] at h3
    rw [List.getElem_set, List.getElem_map, List.getElem_map, rg_atB h3]
    by_cases e : k = i
    · subst e; simp
    · rw [if_neg e, if_neg (fun h => e (by omega))]
  unfold BRow
  rw [← e]; exact h1
theorem BRow.congr (h : BRow W g N f) {f' : Int → Bool} (hf : ∀ b : Int, 0 ≤ b → b < N → f b = f' b) : BRow W g N f' := by
  have e : ((rg N).map fun b => Value.bool (f b)) = ((rg N).map fun b => Value.bool (f' b)) := List.map_congr_left fun b hb => by have := mem_rg.1 hb; rw [hf b this.1 this.2]
  unfold BRow
  rw [← e]; exact h
end
theorem info_boolQ : (Try.prog.info? 4).map (fun i => (i.zero, i.size, i.bytes)) = some (some (.bool false), 1, 1) := by kernel_rfl
theorem make_bools (n : Nat) (hn : n ≤ 1000000000) (W : World) : (Instr.makeSlice 54 (.int .i64 (n : Int)) (.int .i64 (n : Int))).run Try.prog W = .ok (.slice (some ⟨W.heap.size, 0, none⟩) n n) (W.alloc (.cells (Array.replicate n (Value.bool false)) 4)) := by
  have h := run_make_row' (P := Try.prog) 54 4 (.bool false) 1 Try.underlying54 info_boolQ rfl .i64 .i64 n (by omega) (by omega) W
  rw [h]
  have e : madeCells #[Value.bool false] n = Array.replicate n (Value.bool false) := by
    apply Array.toList_inj.1
    rw [toList_madeCells_one]
    simp
  rw [e]
theorem BRow.made (W : World) (n : Nat) : BRow (W.alloc (.cells (Array.replicate n (Value.bool false)) 4)) W.heap.size n (fun _ => false) := by
  have h := Blk.new W 4 (Array.replicate n (Value.bool false))
  have e : ((rg n).map fun _ => Value.bool false).toArray = Array.replicate n (Value.bool false) := by
    apply Array.toList_inj.1
    rw [List.map_const', rg_length, Array.toList_replicate]
  unfold BRow
  rw [e]; exact h
end Go.Proofs.Ytkphgdkjjklajaa

namespace Go.Proofs.Ytkphgdkjjklajaa
open Go.RowKit Go.Shelf Go.Sort

theorem filter_snocR (f : Int → Bool) (k : Nat) : (rg (k + 1)).filter f = (rg k).filter f ++ (if f k then [(k : Int)] else []) := by
  rw [rg_snoc, List.filter_append]
  by_cases h : f k = true
  · simp [h]
  · simp [h]
theorem filter_lenR (f : Int → Bool) (k : Nat) : ((rg k).filter f).length ≤ k := by
  refine Nat.le_trans (List.length_filter_le ..) ?_; rw [rg_length]; exact Nat.le_refl _
def isR (bs l : List Int) (ms : List Mv) (xs : List Span) (j k : Nat) : Int → Bool := fun b => decide (b ∈ hitO bs l j) || decide (b ∈ hitL ms xs k)
theorem isR_end {bs l : List Int} {ms : List Mv} {xs : List Span} (hx : xs = throughT bs ms l) (hlen : xs.length = ms.length) : (rg bs.length).filter (isR bs l ms xs l.length ms.length) = recallT bs ms l := by
  subst hx
  unfold recallT
  refine List.filter_congr fun b _ => ?_
  unfold isR
  have e1 : decide (b ∈ hitO bs l l.length) = (decide (b ∈ l) && decide (0 < bsF bs b)) := by
    rw [Bool.eq_iff_iff]; simp [hitO]
  have e2 : decide (b ∈ hitL ms (throughT bs ms l) ms.length) = hitT b ms (throughT bs ms l) := by
    rw [Bool.eq_iff_iff, decide_eq_true_eq]; exact mem_hitL hlen b
  rw [e1, e2]
theorem isR_src {bs l : List Int} {ms : List Mv} {xs : List Span} {j : Nat} (hj : j < l.length) (hn : l.Nodup) (b : Int) : (if b = l[j] then decide (0 < bsF bs l[j]) else isR bs l ms xs j 0 b) = isR bs l ms xs (j + 1) 0 b := by
  have h0 : hitL ms xs 0 = [] := by simp [hitL]
  unfold isR
  rw [h0]
  have hnew : l[j] ∉ l.take j := fun h => by
    obtain ⟨i, hi, e⟩ := List.getElem_of_mem h
    rw [List.getElem_take] at e
    have := (List.getElem_inj hn).1 e
    rw [List.length_take] at hi
    omega
  have hno : l[j] ∉ hitO bs l j := fun h => hnew (List.mem_filter.1 h).1
  by_cases hp : 0 < bsF bs l[j]
  · rw [hitO_yes hj hp]
    by_cases e : b = l[j]
    · rw [if_pos e, e]; simp [hp]
    · rw [if_neg e]; simp [e]
  · rw [hitO_no hj hp]
    by_cases e : b = l[j]
    · rw [if_pos e, e]; simp [hp, hno]
    · rw [if_neg e]
theorem isR_mv {bs l : List Int} {ms : List Mv} {xs : List Span} {j k : Nat} (hk : k < ms.length) (hx : k < xs.length) (b : Int) : (if b = ms[k].to then (isR bs l ms xs j k ms[k].to || decide (0 < xs[k].hi)) else isR bs l ms xs j k b) = isR bs l ms xs j (k + 1) b := by
  unfold isR
  by_cases hp : 0 < xs[k].hi
  · rw [hitL_yes hk hx hp]
    by_cases e : b = ms[k].to
    · rw [if_pos e, e]; simp [hp]
    · rw [if_neg e]; simp [e]
  · rw [hitL_no hk hx hp]
    by_cases e : b = ms[k].to
    · rw [if_pos e, e]; simp [hp]
    · rw [if_neg e]
set_option maxHeartbeats 1000000 in
theorem qRecall_err (b1 b2 b3 : Nat) (Ab Am Ao : Option Addr) (nb cb nm cm no co : Nat) (bs : List Int) (ms : List Mv) (l : List Int) (w : World) (hM : NetM w b1 b2 Ab Am nb cb nm cm bs ms) (hnb : nb ≤ 100000) (hnm : nm ≤ 100000) (hO : Sl encI 1 w b3 Ao no l) (hno : no ≤ 100000) (hc : chkO bs ms l ≠ 0) :
    Calls Try.prog 41 #[netV Ab Am nb cb nm cm, .slice Ao no co] w fun e w' => e = .returned (.tuple #[.slice none 0 0, .int .i64 (chkO bs ms l)]) ∧ Below w.heap.size w w' := by
  have hBn := Blk.new w 25 #[.slice Ab nb cb, .slice Am nm cm]
  have c0 := hBn.cell 0
  have c1 := hBn.cell 1
  have hb0 : Below w.heap.size w (w.alloc (.cells #[.slice Ab nb cb, .slice Am nm cm] 25)) := (Below.refl _ w).alloc (Nat.le_refl _) _
  have hcon := qThrough_err b1 b2 b3 Ab Am Ao nb cb nm cm no co bs ms l _ (hM.old hb0) hnb hnm (hO.old hb0) hno hc
  obtain ⟨x, hx⟩ : ∃ x, x = chkO bs ms l := ⟨_, rfl⟩
  rw [← hx] at hcon hc ⊢
  have hxx : (x == 0) = false := by simp [hc]
  have hxx2 : (x != 0) = true := by simp [hc]
  have HC := Lib.hid hcon
  have HB0 := Lib.hid hb0
  clear hcon hx hc hBn hM hO hb0
  go_enter Try.func41, Try.ntmps41
  go_wp2_with (go_at_call 46; refine HC.out.mono ?_; rintro e w1 ⟨rfl, hb1⟩; have HB1 := Lib.hid hb1; clear hb1)
  go_ret2
  exact ⟨rfl, HB0.out.trans (HB1.out.mono (by simp))⟩
set_option maxRecDepth 100000 in
set_option maxHeartbeats 2000000 in
theorem qRecall_ok (b1 b2 b3 : Nat) (Ab Am Ao : Option Addr) (nb cb nm cm no co : Nat) (bs : List Int) (ms : List Mv) (l : List Int) (w : World) (hM : NetM w b1 b2 Ab Am nb cb nm cm bs ms) (hO : Sl encI 1 w b3 Ao no l) (hc : chkO bs ms l = 0) :
    Calls Try.prog 41 #[netV Ab Am nb cb nm cm, .slice Ao no co] w fun e w' => ∃ A c bR, e = .returned (.tuple #[.slice A (recallT bs ms l).length c, .int .i64 0]) ∧ Sl encI 1 w' bR A (recallT bs ms l).length (recallT bs ms l) ∧ Below w.heap.size w w' := by
  obtain ⟨i0, hi, iz0, iz1, iz2⟩ := info_parts info_int
  obtain ⟨hN, hl⟩ := chkO_in hc
  have hBn := Blk.new w 25 #[.slice Ab nb cb, .slice Am nm cm]
  have c0 := hBn.cell 0
  have c1 := hBn.cell 1
  have hb0 : Below w.heap.size w (w.alloc (.cells #[.slice Ab nb cb, .slice Am nm cm] 25)) := (Below.refl _ w).alloc (Nat.le_refl _) _
  have hnb := hM.b.len
  have hnm := hM.m.len
  have hnb8 : nb ≤ 8 := by have := hN.n1; omega
  have hnm12 : nm ≤ 12 := by have := hN.m1; omega
  have hno8 : no ≤ 8 := by have := hO.len; have := orig_len hl.nodup hl.rg hN.n1; omega
  have hcon := qThrough_ok b1 b2 b3 Ab Am Ao nb cb nm cm no co bs ms l _ (hM.old hb0) (hO.old hb0) hc
  have hmk := make_bools nb (by omega)
  have hxl : (throughT bs ms l).length = ms.length := by unfold throughT; rw [thrT_len]
  obtain ⟨xs, hxs⟩ : ∃ xs, xs = throughT bs ms l := ⟨_, rfl⟩
  rw [← hxs] at hcon hxl
  have HXS := Lib.hid hxs
  have HXL := Lib.hid hxl
  have HC := Lib.hid hcon
  have HB0 := Lib.hid hb0
  have HBN := Lib.hid hBn
  have HM := Lib.hid hM
  have HO := Lib.hid hO
  have HN := Lib.hid hN
  have HL := Lib.hid hl
  have HNB := Lib.hid hnb
  have HNM := Lib.hid hnm
  clear hcon hBn hM hO hb0 hN hnb hnm hc hxs hxl
  go_enter Try.func41, Try.ntmps41
  go_upto_region 4 with (go_at_call 46; refine HC.out.mono ?_; rintro e w1 ⟨Ax, cx, bx, rfl, hsx, _, hb1⟩; have HB1 := Lib.hid hb1; have HSX := Lib.hid hsx; clear hb1 hsx)
  have HBW := Lib.hid (HB0.out.trans (HB1.out.mono (by simp)))
  have HBN1 := Lib.hid (HBN.out.below HB1.out HBN.out.lt)
  clear c0 c1
  have c0 := HBN1.out.cell 0
  have hz1 := HBN1.out.lt
  go_wp2_with fail
  clear c0 hmk
  have HMK := Lib.hid (BRow.made w1 nb)
  have HBA := Lib.hid (show Below w1.heap.size w1 (w1.alloc (.cells (Array.replicate nb (Value.bool false)) 4)) from (Below.refl _ w1).alloc (Nat.le_refl _) _)
  go_loopw [9] (fun iv wr => ∃ j : Nat, j ≤ no ∧ iv = .int .i64 j ∧ BRow wr w1.heap.size nb (isR bs l ms xs j 0) ∧ Below w1.heap.size w1 wr) (fun iv _ => no - (intOf iv).toNat)
  case atStart => exact ⟨0, Nat.zero_le _, rfl, HMK.out.congr fun b _ _ => by simp [isR, hitO, hitL], HBA.out⟩
  case round =>
    obtain ⟨j, hj, rfl, hrow, hB⟩ := hrel
    have HROW := Lib.hid hrow
    have HB := Lib.hid hB
    have HWW := Lib.hid (HBW.out.trans (hB.mono HBW.out.size))
    clear hrow hB
    by_cases hlt : j < no
    · have hjl : j < l.length := by have := HO.out.len; omega
      obtain ⟨o, rfl, hoz, so⟩ := (HO.out.old HWW.out).atI hjl
      have hor := HL.out.rg _ (List.getElem_mem hjl)
      have HSR := Lib.hid (fun b => isR_src (bs := bs) (ms := ms) (xs := xs) hjl HL.out.nodup b)
      generalize l[j] = x at so hor HSR
      obtain ⟨a, rfl⟩ := Int.eq_ofNat_of_zero_le hor.1
      have hab : a < nb := by have := HNB.out; omega
      obtain ⟨ob, rfl, hobz, sb⟩ := (HM.out.b.old HWW.out).atI (k := a) (by have := HNB.out; omega)
      have hbsa : bsF bs a = bs[a]'(by have := HNB.out; omega) := bsF_get (by have := HNB.out; omega)
      rw [← hbsa] at sb
      have n0 := (HBN1.out.below HB.out HBN1.out.lt).cell 0
      have HF := Lib.hid (And.intro so (And.intro n0 sb))
      have HCF := Lib.hid (And.intro (HROW.out.cell hab) (HROW.out.frozen a))
      have HRS := Lib.hid (HROW.out.set_ hab (decide (0 < bsF bs a)))
      have HBS := Lib.hid (HB.out.setCell (p := ⟨w1.heap.size, a, none⟩) (Nat.le_refl _) (.bool (decide (0 < bsF bs a))))
      generalize bsF bs a = g at sb HF HRS HBS HSR
      have j0 : (0 : Int) ≤ (j : Int) := by omega
      have j1 : (j : Int) < (no : Int) := by omega
      have a0 : (0 : Int) ≤ (a : Int) := by omega
      have a1 : (a : Int) < (nb : Int) := by omega
      clear hor hbsa n0 so sb
      go_wp2_with fail
      refine wp_region_PL [4, 6, 10, 12] (fun W => W.cell? ⟨b3, o + j, none⟩ = some (.int .i64 (a : Int)) ∧ W.cell? ⟨w.heap.size, 0, none⟩ = some (.slice (some ⟨b1, ob, none⟩) nb cb) ∧ W.cell? ⟨b1, ob + a, none⟩ = some (.int .i64 g)) rfl (by kernel_rfl) (HF.out) (fun hF0 => ?_)
      (refine wpAnyP_takeL (i := 0) (v := ?_) rfl (by kernel_rfl) (by kernel_rfl) (by kernel_rfl) (fun _ _ _ h => h) (by rfl) ?_ ?_; rotate_left 1; focus (intro w; go_simp; try with_reducible rfl))
      try simp only [Act.put, List.setIfInBounds_toArray, List.set_cons_zero, List.set_cons_succ]
      (refine wpAnyP_takeL (i := 1) (v := ?_) rfl (by kernel_rfl) (by kernel_rfl) (by kernel_rfl) (fun _ _ _ h => h) (by rfl) ?_ ?_; rotate_left 1; focus (intro w; go_simp; try with_reducible rfl))
      try simp only [Act.put, List.setIfInBounds_toArray, List.set_cons_zero, List.set_cons_succ]
      (refine wpAnyP_takeL (i := 2) (v := ?_) rfl (by kernel_rfl) (by kernel_rfl) (by kernel_rfl) (fun _ _ _ h => h) (by rfl) ?_ ?_; rotate_left 1; focus (intro w; go_simp; try with_reducible rfl))
      try simp only [Act.put, List.setIfInBounds_toArray, List.set_cons_zero, List.set_cons_succ]
      (refine wpAnyP_takeL (i := 3) (v := ?_) rfl (by kernel_rfl) (by kernel_rfl) (by kernel_rfl) (fun _ _ _ h => h) (by rfl) ?_ ?_; rotate_left 1; focus (intro w; go_simp; try with_reducible rfl))
      try simp only [Act.put, List.setIfInBounds_toArray, List.set_cons_zero, List.set_cons_succ]
      (refine wpAnyP_loadL (i := 4) (v := ?_) rfl (by kernel_rfl) (by kernel_rfl) (by kernel_rfl) (by rfl) (fun _ _ _ h => h) hF0 (by rfl) ?_ ?_; rotate_left 1; focus (intro w hFw; (try dsimp only at hFw); go_split_ands; go_simp; try with_reducible rfl))
      try simp only [Act.put, List.setIfInBounds_toArray, List.set_cons_zero, List.set_cons_succ]
      (refine wpAnyP_takeL (i := 5) (v := ?_) rfl (by kernel_rfl) (by kernel_rfl) (by kernel_rfl) (fun _ _ _ h => h) (by rfl) ?_ ?_; rotate_left 1; focus (intro w; go_simp; try with_reducible rfl))
      try simp only [Act.put, List.setIfInBounds_toArray, List.set_cons_zero, List.set_cons_succ]
      (refine wpAnyP_loadL (i := 6) (v := ?_) rfl (by kernel_rfl) (by kernel_rfl) (by kernel_rfl) (by rfl) (fun _ _ _ h => h) hF0 (by rfl) ?_ ?_; rotate_left 1; focus (intro w hFw; (try dsimp only at hFw); go_split_ands; go_simp; try with_reducible rfl))
      try simp only [Act.put, List.setIfInBounds_toArray, List.set_cons_zero, List.set_cons_succ]
      (refine wpAnyP_takeL (i := 7) (v := ?_) rfl (by kernel_rfl) (by kernel_rfl) (by kernel_rfl) (fun _ _ _ h => h) (by rfl) ?_ ?_; rotate_left 1; focus (intro w; go_simp; try with_reducible rfl))
      try simp only [Act.put, List.setIfInBounds_toArray, List.set_cons_zero, List.set_cons_succ]
      (refine wpAnyP_takeL (i := 8) (v := ?_) rfl (by kernel_rfl) (by kernel_rfl) (by kernel_rfl) (fun _ _ _ h => h) (by rfl) ?_ ?_; rotate_left 1; focus (intro w; go_simp; try with_reducible rfl))
      try simp only [Act.put, List.setIfInBounds_toArray, List.set_cons_zero, List.set_cons_succ]
      (refine wpAnyP_takeL (i := 9) (v := ?_) rfl (by kernel_rfl) (by kernel_rfl) (by kernel_rfl) (fun _ _ _ h => h) (by rfl) ?_ ?_; rotate_left 1; focus (intro w; go_simp; try with_reducible rfl))
      try simp only [Act.put, List.setIfInBounds_toArray, List.set_cons_zero, List.set_cons_succ]
      (refine wpAnyP_loadL (i := 10) (v := ?_) rfl (by kernel_rfl) (by kernel_rfl) (by kernel_rfl) (by rfl) (fun _ _ _ h => h) hF0 (by rfl) ?_ ?_; rotate_left 1; focus (intro w hFw; (try dsimp only at hFw); go_split_ands; go_simp; try with_reducible rfl))
      try simp only [Act.put, List.setIfInBounds_toArray, List.set_cons_zero, List.set_cons_succ]
      (refine wpAnyP_takeL (i := 11) (v := ?_) rfl (by kernel_rfl) (by kernel_rfl) (by kernel_rfl) (fun _ _ _ h => h) (by rfl) ?_ ?_; rotate_left 1; focus (intro w; go_simp; try with_reducible rfl))
      try simp only [Act.put, List.setIfInBounds_toArray, List.set_cons_zero, List.set_cons_succ]
      (refine wpAnyP_loadL (i := 12) (v := ?_) rfl (by kernel_rfl) (by kernel_rfl) (by kernel_rfl) (by rfl) (fun _ _ _ h => h) hF0 (by rfl) ?_ ?_; rotate_left 1; focus (intro w hFw; (try dsimp only at hFw); go_split_ands; go_simp; try with_reducible rfl))
      try simp only [Act.put, List.setIfInBounds_toArray, List.set_cons_zero, List.set_cons_succ]
      (refine wpAnyP_takeL (i := 13) (v := ?_) rfl (by kernel_rfl) (by kernel_rfl) (by kernel_rfl) (fun _ _ _ h => h) (by rfl) ?_ ?_; rotate_left 1; focus (intro w; go_simp; try with_reducible rfl))
      try simp only [Act.put, List.setIfInBounds_toArray, List.set_cons_zero, List.set_cons_succ]
      (refine wpAnyP_takeL (i := 14) (v := ?_) rfl (by kernel_rfl) (by kernel_rfl) (by kernel_rfl) (fun _ _ _ h => h) (by rfl) ?_ ?_; rotate_left 1; focus (intro w; go_simp; try with_reducible rfl))
      try simp only [Act.put, List.setIfInBounds_toArray, List.set_cons_zero, List.set_cons_succ]
      refine wpAnyP_last (i := 15) rfl (by kernel_rfl) (by kernel_rfl) (by rfl) (fun K hK => ?_)
      go_simp
      (have f1 := HCF.out.2; have e1 := HCF.out.1; go_simp; clear f1 e1)
      (refine hK _ _ ?_; clear hK K)
      try simp only [Act.put, List.setIfInBounds_toArray, List.set_cons_zero, List.set_cons_succ]
      refine wpAnyP_done (by kernel_rfl) ?_ _
      go_wp2_with fail
      have HRN := Lib.hid (HRS.out.congr fun b _ _ => HSR.out b)
      first
        | exact ⟨⟨j + 1, by omega, by go_num, HRN.out, HBS.out⟩, by simp [intOf]; omega⟩
        | exact ⟨⟨j + 1, by omega, by go_num, HRN.out, HBS.out.drew⟩, by simp [intOf]; omega⟩
    · obtain rfl : j = no := by omega
      have HR1 := Lib.hid (show BRow wr w1.heap.size nb (isR bs l ms xs l.length 0) from by have h := HROW.out; rw [HO.out.len] at h; exact h)
      clear HROW
      obtain ⟨wp, rfl⟩ : ∃ wp : World, wp = wr := ⟨_, rfl⟩
      go_wp2_with fail
      go_loopw [10] (fun iv wr => ∃ k : Nat, k ≤ nm ∧ iv = .int .i64 k ∧ BRow wr w1.heap.size nb (isR bs l ms xs l.length k) ∧ Below w1.heap.size w1 wr) (fun iv _ => nm - (intOf iv).toNat)
      case atStart => exact ⟨0, Nat.zero_le _, rfl, HR1.out, HB.out⟩
      case round =>
        obtain ⟨k, hk, rfl, hrow, hB⟩ := hrel
        have HROW := Lib.hid hrow
        have HB2 := Lib.hid hB
        have HWW2 := Lib.hid (HBW.out.trans (hB.mono HBW.out.size))
        clear hrow hB
        by_cases hlt2 : k < nm
        · have hkm : k < ms.length := by have := HNM.out; omega
          have hkx : k < xs.length := by have := HXL.out; omega
          obtain ⟨om, rfl, hbz, s0, s1, s2⟩ := (HM.out.m.old HWW2.out).atM hkm
          obtain ⟨ox, rfl, _, x0, x1⟩ := (HSX.out.old HB2.out).atR hkx
          have hOK := HN.out.at_ hkm
          have HSR := Lib.hid (fun b => isR_mv (bs := bs) (l := l) (j := l.length) hkm hkx b)
          have ht0 := hOK.t0
          have ht1 := hOK.t1
          generalize ms[k].to = mt at s1 ht0 ht1 HSR
          obtain ⟨t, rfl⟩ := Int.eq_ofNat_of_zero_le ht0
          have htb : t < nb := by have := HNB.out; omega
          have n1 := (HBN1.out.below HB2.out HBN1.out.lt).cell 1
          have cis := HROW.out.cell htb
          have HCF := Lib.hid (And.intro cis (HROW.out.frozen t))
          generalize xs[k].hi = h at x1 HSR
          have HSET := Lib.hid (fun v : Bool => And.intro (HROW.out.set_ htb v) (HB2.out.setCell (p := ⟨w1.heap.size, t, none⟩) (Nat.le_refl _) (.bool v)))
          have HF := Lib.hid (And.intro n1 (And.intro s1 cis))
          have k0 : (0 : Int) ≤ (k : Int) := by omega
          have k1 : (k : Int) < (nm : Int) := by omega
          have t0' : (0 : Int) ≤ (t : Int) := by omega
          have t1' : (t : Int) < (nb : Int) := by omega
          have HX1 := Lib.hid x1
          clear hOK ht0 ht1 n1 s0 s1 s2 x0 x1 cis
          generalize hv : isR bs l ms xs l.length k t = v at HF HCF HSR
          clear hv
          go_wp2_with fail
          cases v
          · skip
            refine wp_region_PL [2, 6, 9, 13, 15, 21] (fun W => (W.cell? ⟨w.heap.size, 1, none⟩ = some (.slice (some ⟨b2, om, none⟩) nm cm) ∧ W.cell? ⟨b2, om + k * 3 + 1, none⟩ = some (.int .i64 (t : Int)) ∧ W.cell? ⟨w1.heap.size, t, none⟩ = some (.bool false)) ∧ W.cell? ⟨bx, ox + k * 2 + 1, none⟩ = some (.int .i64 h)) rfl (by kernel_rfl) (And.intro HF.out HX1.out) (fun hF0 => ?_)
            (refine wpAnyP_takeL (i := 0) (v := ?_) rfl (by kernel_rfl) (by kernel_rfl) (by kernel_rfl) (fun _ _ _ h => h) (by rfl) ?_ ?_; rotate_left 1; focus (intro w; go_simp; try with_reducible rfl))
            try simp only [Act.put, List.setIfInBounds_toArray, List.set_cons_zero, List.set_cons_succ]
            (refine wpAnyP_takeL (i := 1) (v := ?_) rfl (by kernel_rfl) (by kernel_rfl) (by kernel_rfl) (fun _ _ _ h => h) (by rfl) ?_ ?_; rotate_left 1; focus (intro w; go_simp; try with_reducible rfl))
            try simp only [Act.put, List.setIfInBounds_toArray, List.set_cons_zero, List.set_cons_succ]
            (refine wpAnyP_loadL (i := 2) (v := ?_) rfl (by kernel_rfl) (by kernel_rfl) (by kernel_rfl) (by rfl) (fun _ _ _ h => h) hF0 (by rfl) ?_ ?_; rotate_left 1; focus (intro w hFw; (try dsimp only at hFw); go_split_ands; go_simp; try with_reducible rfl))
            try simp only [Act.put, List.setIfInBounds_toArray, List.set_cons_zero, List.set_cons_succ]
            (refine wpAnyP_takeL (i := 3) (v := ?_) rfl (by kernel_rfl) (by kernel_rfl) (by kernel_rfl) (fun _ _ _ h => h) (by rfl) ?_ ?_; rotate_left 1; focus (intro w; go_simp; try with_reducible rfl))
            try simp only [Act.put, List.setIfInBounds_toArray, List.set_cons_zero, List.set_cons_succ]
            (refine wpAnyP_takeL (i := 4) (v := ?_) rfl (by kernel_rfl) (by kernel_rfl) (by kernel_rfl) (fun _ _ _ h => h) (by rfl) ?_ ?_; rotate_left 1; focus (intro w; go_simp; try with_reducible rfl))
            try simp only [Act.put, List.setIfInBounds_toArray, List.set_cons_zero, List.set_cons_succ]
            (refine wpAnyP_takeL (i := 5) (v := ?_) rfl (by kernel_rfl) (by kernel_rfl) (by kernel_rfl) (fun _ _ _ h => h) (by rfl) ?_ ?_; rotate_left 1; focus (intro w; go_simp; try with_reducible rfl))
            try simp only [Act.put, List.setIfInBounds_toArray, List.set_cons_zero, List.set_cons_succ]
            (refine wpAnyP_loadL (i := 6) (v := ?_) rfl (by kernel_rfl) (by kernel_rfl) (by kernel_rfl) (by rfl) (fun _ _ _ h => h) hF0 (by rfl) ?_ ?_; rotate_left 1; focus (intro w hFw; (try dsimp only at hFw); go_split_ands; go_simp; try with_reducible rfl))
            try simp only [Act.put, List.setIfInBounds_toArray, List.set_cons_zero, List.set_cons_succ]
            (refine wpAnyP_takeL (i := 7) (v := ?_) rfl (by kernel_rfl) (by kernel_rfl) (by kernel_rfl) (fun _ _ _ h => h) (by rfl) ?_ ?_; rotate_left 1; focus (intro w; go_simp; try with_reducible rfl))
            try simp only [Act.put, List.setIfInBounds_toArray, List.set_cons_zero, List.set_cons_succ]
            (refine wpAnyP_takeL (i := 8) (v := ?_) rfl (by kernel_rfl) (by kernel_rfl) (by kernel_rfl) (fun _ _ _ h => h) (by rfl) ?_ ?_; rotate_left 1; focus (intro w; go_simp; try with_reducible rfl))
            try simp only [Act.put, List.setIfInBounds_toArray, List.set_cons_zero, List.set_cons_succ]
            (refine wpAnyP_loadL (i := 9) (v := ?_) rfl (by kernel_rfl) (by kernel_rfl) (by kernel_rfl) (by rfl) (fun _ _ _ h => h) hF0 (by rfl) ?_ ?_; rotate_left 1; focus (intro w hFw; (try dsimp only at hFw); go_split_ands; go_simp; try with_reducible rfl))
            try simp only [Act.put, List.setIfInBounds_toArray, List.set_cons_zero, List.set_cons_succ]
            (refine wpAnyP_takeL (i := 10) (v := ?_) rfl (by kernel_rfl) (by kernel_rfl) (by kernel_rfl) (fun _ _ _ h => h) (by rfl) ?_ ?_; rotate_left 1; focus (intro w; go_simp; try with_reducible rfl))
            try simp only [Act.put, List.setIfInBounds_toArray, List.set_cons_zero, List.set_cons_succ]
            (refine wpAnyP_takeL (i := 11) (v := ?_) rfl (by kernel_rfl) (by kernel_rfl) (by kernel_rfl) (fun _ _ _ h => h) (by rfl) ?_ ?_; rotate_left 1; focus (intro w; go_simp; try with_reducible rfl))
            try simp only [Act.put, List.setIfInBounds_toArray, List.set_cons_zero, List.set_cons_succ]
            (refine wpAnyP_takeL (i := 12) (v := ?_) rfl (by kernel_rfl) (by kernel_rfl) (by kernel_rfl) (fun _ _ _ h => h) (by rfl) ?_ ?_; rotate_left 1; focus (intro w; go_simp; try with_reducible rfl))
            try simp only [Act.put, List.setIfInBounds_toArray, List.set_cons_zero, List.set_cons_succ]
            (refine wpAnyP_loadL (i := 13) (v := ?_) rfl (by kernel_rfl) (by kernel_rfl) (by kernel_rfl) (by rfl) (fun _ _ _ h => h) hF0 (by rfl) ?_ ?_; rotate_left 1; focus (intro w hFw; (try dsimp only at hFw); go_split_ands; go_simp; try with_reducible rfl))
            try simp only [Act.put, List.setIfInBounds_toArray, List.set_cons_zero, List.set_cons_succ]
            (refine wpAnyP_takeL (i := 14) (v := ?_) rfl (by kernel_rfl) (by kernel_rfl) (by kernel_rfl) (fun _ _ _ h => h) (by rfl) ?_ ?_; rotate_left 1; focus (intro w; go_simp; try with_reducible rfl))
            try simp only [Act.put, List.setIfInBounds_toArray, List.set_cons_zero, List.set_cons_succ]
            (refine wpAnyP_loadL (i := 15) (v := ?_) rfl (by kernel_rfl) (by kernel_rfl) (by kernel_rfl) (by rfl) (fun _ _ _ h => h) hF0 (by rfl) ?_ ?_; rotate_left 1; focus (intro w hFw; (try dsimp only at hFw); go_split_ands; go_simp; try with_reducible rfl))
            try simp only [Act.put, List.setIfInBounds_toArray, List.set_cons_zero, List.set_cons_succ]
            (refine wpAnyP_takeL (i := 16) (v := ?_) rfl (by kernel_rfl) (by kernel_rfl) (by kernel_rfl) (fun _ _ _ h => h) (by rfl) ?_ ?_; rotate_left 1; focus (intro w; go_simp; try with_reducible rfl))
            try simp only [Act.put, List.setIfInBounds_toArray, List.set_cons_zero, List.set_cons_succ]
            (refine wpAnyP_takeL (i := 17) (v := ?_) rfl (by kernel_rfl) (by kernel_rfl) (by kernel_rfl) (fun _ _ _ h => h) (by rfl) ?_ ?_; rotate_left 1; focus (intro w; go_simp; try with_reducible rfl))
            try simp only [Act.put, List.setIfInBounds_toArray, List.set_cons_zero, List.set_cons_succ]
            (refine wpAnyP_takeL (i := 18) (v := ?_) rfl (by kernel_rfl) (by kernel_rfl) (by kernel_rfl) (fun _ _ _ h => h) (by rfl) ?_ ?_; rotate_left 1; focus (intro w; go_simp; try with_reducible rfl))
            try simp only [Act.put, List.setIfInBounds_toArray, List.set_cons_zero, List.set_cons_succ]
            (refine wpAnyP_takeL (i := 19) (v := ?_) rfl (by kernel_rfl) (by kernel_rfl) (by kernel_rfl) (fun _ _ _ h => h) (by rfl) ?_ ?_; rotate_left 1; focus (intro w; go_simp; try with_reducible rfl))
            try simp only [Act.put, List.setIfInBounds_toArray, List.set_cons_zero, List.set_cons_succ]
            (refine wpAnyP_takeL (i := 20) (v := ?_) rfl (by kernel_rfl) (by kernel_rfl) (by kernel_rfl) (fun _ _ _ h => h) (by rfl) ?_ ?_; rotate_left 1; focus (intro w; go_simp; try with_reducible rfl))
            try simp only [Act.put, List.setIfInBounds_toArray, List.set_cons_zero, List.set_cons_succ]
            (refine wpAnyP_loadL (i := 21) (v := ?_) rfl (by kernel_rfl) (by kernel_rfl) (by kernel_rfl) (by rfl) (fun _ _ _ h => h) hF0 (by rfl) ?_ ?_; rotate_left 1; focus (intro w hFw; (try dsimp only at hFw); go_split_ands; go_simp; try with_reducible rfl))
            try simp only [Act.put, List.setIfInBounds_toArray, List.set_cons_zero, List.set_cons_succ]
            (refine wpAnyP_takeL (i := 22) (v := ?_) rfl (by kernel_rfl) (by kernel_rfl) (by kernel_rfl) (fun _ _ _ h => h) (by rfl) ?_ ?_; rotate_left 1; focus (intro w; go_simp; try with_reducible rfl))
            try simp only [Act.put, List.setIfInBounds_toArray, List.set_cons_zero, List.set_cons_succ]
            (refine wpAnyP_takeL (i := 23) (v := ?_) rfl (by kernel_rfl) (by kernel_rfl) (by kernel_rfl) (fun _ _ _ h => h) (by rfl) ?_ ?_; rotate_left 1; focus (intro w; go_simp; try with_reducible rfl))
            try simp only [Act.put, List.setIfInBounds_toArray, List.set_cons_zero, List.set_cons_succ]
            (refine wpAnyP_takeL (i := 24) (v := ?_) rfl (by kernel_rfl) (by kernel_rfl) (by kernel_rfl) (fun _ _ _ h => h) (by rfl) ?_ ?_; rotate_left 1; focus (intro w; go_simp; try with_reducible rfl))
            try simp only [Act.put, List.setIfInBounds_toArray, List.set_cons_zero, List.set_cons_succ]
            refine wpAnyP_last (i := 25) rfl (by kernel_rfl) (by kernel_rfl) (by rfl) (fun K hK => ?_)
            go_simp
            (have f1 := HCF.out.2; have e1 := HCF.out.1; go_simp; clear f1 e1)
            (refine hK _ _ ?_; clear hK K)
            try simp only [Act.put, List.setIfInBounds_toArray, List.set_cons_zero, List.set_cons_succ]
            refine wpAnyP_done (by kernel_rfl) ?_ _
            go_wp2_with fail
            obtain ⟨hs1, hs2⟩ := HSET.out (decide (0 < h))
            have hs3 : BRow (wr.setCell ⟨w1.heap.size, t, none⟩ (.bool (decide (0 < h)))) w1.heap.size nb (isR bs l ms xs l.length (k + 1)) := hs1.congr fun b _ _ => (by have h9 := HSR.out b; rw [Bool.false_or] at h9; exact h9)
            first
              | exact ⟨⟨k + 1, by omega, by go_num, hs3, hs2⟩, by simp [intOf]; omega⟩
              | exact ⟨⟨k + 1, by omega, by go_num, hs3, hs2.drew⟩, by simp [intOf]; omega⟩
          · skip
            refine wp_region_PL [2, 6, 9, 13, 15] (fun W => (W.cell? ⟨w.heap.size, 1, none⟩ = some (.slice (some ⟨b2, om, none⟩) nm cm) ∧ W.cell? ⟨b2, om + k * 3 + 1, none⟩ = some (.int .i64 (t : Int)) ∧ W.cell? ⟨w1.heap.size, t, none⟩ = some (.bool true)) ∧ W.cell? ⟨bx, ox + k * 2 + 1, none⟩ = some (.int .i64 h)) rfl (by kernel_rfl) (And.intro HF.out HX1.out) (fun hF0 => ?_)
            (refine wpAnyP_takeL (i := 0) (v := ?_) rfl (by kernel_rfl) (by kernel_rfl) (by kernel_rfl) (fun _ _ _ h => h) (by rfl) ?_ ?_; rotate_left 1; focus (intro w; go_simp; try with_reducible rfl))
            try simp only [Act.put, List.setIfInBounds_toArray, List.set_cons_zero, List.set_cons_succ]
            (refine wpAnyP_takeL (i := 1) (v := ?_) rfl (by kernel_rfl) (by kernel_rfl) (by kernel_rfl) (fun _ _ _ h => h) (by rfl) ?_ ?_; rotate_left 1; focus (intro w; go_simp; try with_reducible rfl))
            try simp only [Act.put, List.setIfInBounds_toArray, List.set_cons_zero, List.set_cons_succ]
            (refine wpAnyP_loadL (i := 2) (v := ?_) rfl (by kernel_rfl) (by kernel_rfl) (by kernel_rfl) (by rfl) (fun _ _ _ h => h) hF0 (by rfl) ?_ ?_; rotate_left 1; focus (intro w hFw; (try dsimp only at hFw); go_split_ands; go_simp; try with_reducible rfl))
            try simp only [Act.put, List.setIfInBounds_toArray, List.set_cons_zero, List.set_cons_succ]
            (refine wpAnyP_takeL (i := 3) (v := ?_) rfl (by kernel_rfl) (by kernel_rfl) (by kernel_rfl) (fun _ _ _ h => h) (by rfl) ?_ ?_; rotate_left 1; focus (intro w; go_simp; try with_reducible rfl))
            try simp only [Act.put, List.setIfInBounds_toArray, List.set_cons_zero, List.set_cons_succ]
            (refine wpAnyP_takeL (i := 4) (v := ?_) rfl (by kernel_rfl) (by kernel_rfl) (by kernel_rfl) (fun _ _ _ h => h) (by rfl) ?_ ?_; rotate_left 1; focus (intro w; go_simp; try with_reducible rfl))
            try simp only [Act.put, List.setIfInBounds_toArray, List.set_cons_zero, List.set_cons_succ]
            (refine wpAnyP_takeL (i := 5) (v := ?_) rfl (by kernel_rfl) (by kernel_rfl) (by kernel_rfl) (fun _ _ _ h => h) (by rfl) ?_ ?_; rotate_left 1; focus (intro w; go_simp; try with_reducible rfl))
            try simp only [Act.put, List.setIfInBounds_toArray, List.set_cons_zero, List.set_cons_succ]
            (refine wpAnyP_loadL (i := 6) (v := ?_) rfl (by kernel_rfl) (by kernel_rfl) (by kernel_rfl) (by rfl) (fun _ _ _ h => h) hF0 (by rfl) ?_ ?_; rotate_left 1; focus (intro w hFw; (try dsimp only at hFw); go_split_ands; go_simp; try with_reducible rfl))
            try simp only [Act.put, List.setIfInBounds_toArray, List.set_cons_zero, List.set_cons_succ]
            (refine wpAnyP_takeL (i := 7) (v := ?_) rfl (by kernel_rfl) (by kernel_rfl) (by kernel_rfl) (fun _ _ _ h => h) (by rfl) ?_ ?_; rotate_left 1; focus (intro w; go_simp; try with_reducible rfl))
            try simp only [Act.put, List.setIfInBounds_toArray, List.set_cons_zero, List.set_cons_succ]
            (refine wpAnyP_takeL (i := 8) (v := ?_) rfl (by kernel_rfl) (by kernel_rfl) (by kernel_rfl) (fun _ _ _ h => h) (by rfl) ?_ ?_; rotate_left 1; focus (intro w; go_simp; try with_reducible rfl))
            try simp only [Act.put, List.setIfInBounds_toArray, List.set_cons_zero, List.set_cons_succ]
            (refine wpAnyP_loadL (i := 9) (v := ?_) rfl (by kernel_rfl) (by kernel_rfl) (by kernel_rfl) (by rfl) (fun _ _ _ h => h) hF0 (by rfl) ?_ ?_; rotate_left 1; focus (intro w hFw; (try dsimp only at hFw); go_split_ands; go_simp; try with_reducible rfl))
            try simp only [Act.put, List.setIfInBounds_toArray, List.set_cons_zero, List.set_cons_succ]
            (refine wpAnyP_takeL (i := 10) (v := ?_) rfl (by kernel_rfl) (by kernel_rfl) (by kernel_rfl) (fun _ _ _ h => h) (by rfl) ?_ ?_; rotate_left 1; focus (intro w; go_simp; try with_reducible rfl))
            try simp only [Act.put, List.setIfInBounds_toArray, List.set_cons_zero, List.set_cons_succ]
            (refine wpAnyP_takeL (i := 11) (v := ?_) rfl (by kernel_rfl) (by kernel_rfl) (by kernel_rfl) (fun _ _ _ h => h) (by rfl) ?_ ?_; rotate_left 1; focus (intro w; go_simp; try with_reducible rfl))
            try simp only [Act.put, List.setIfInBounds_toArray, List.set_cons_zero, List.set_cons_succ]
            (refine wpAnyP_takeL (i := 12) (v := ?_) rfl (by kernel_rfl) (by kernel_rfl) (by kernel_rfl) (fun _ _ _ h => h) (by rfl) ?_ ?_; rotate_left 1; focus (intro w; go_simp; try with_reducible rfl))
            try simp only [Act.put, List.setIfInBounds_toArray, List.set_cons_zero, List.set_cons_succ]
            (refine wpAnyP_loadL (i := 13) (v := ?_) rfl (by kernel_rfl) (by kernel_rfl) (by kernel_rfl) (by rfl) (fun _ _ _ h => h) hF0 (by rfl) ?_ ?_; rotate_left 1; focus (intro w hFw; (try dsimp only at hFw); go_split_ands; go_simp; try with_reducible rfl))
            try simp only [Act.put, List.setIfInBounds_toArray, List.set_cons_zero, List.set_cons_succ]
            (refine wpAnyP_takeL (i := 14) (v := ?_) rfl (by kernel_rfl) (by kernel_rfl) (by kernel_rfl) (fun _ _ _ h => h) (by rfl) ?_ ?_; rotate_left 1; focus (intro w; go_simp; try with_reducible rfl))
            try simp only [Act.put, List.setIfInBounds_toArray, List.set_cons_zero, List.set_cons_succ]
            (refine wpAnyP_loadL (i := 15) (v := ?_) rfl (by kernel_rfl) (by kernel_rfl) (by kernel_rfl) (by rfl) (fun _ _ _ h => h) hF0 (by rfl) ?_ ?_; rotate_left 1; focus (intro w hFw; (try dsimp only at hFw); go_split_ands; go_simp; try with_reducible rfl))
            try simp only [Act.put, List.setIfInBounds_toArray, List.set_cons_zero, List.set_cons_succ]
            (refine wpAnyP_takeL (i := 16) (v := ?_) rfl (by kernel_rfl) (by kernel_rfl) (by kernel_rfl) (fun _ _ _ h => h) (by rfl) ?_ ?_; rotate_left 1; focus (intro w; go_simp; try with_reducible rfl))
            try simp only [Act.put, List.setIfInBounds_toArray, List.set_cons_zero, List.set_cons_succ]
            (refine wpAnyP_skipL (i := 17) rfl (by kernel_rfl) (by kernel_rfl) (by kernel_rfl) (fun _ _ _ h => h) (by rfl) ?_)
            try simp only [Act.put, List.setIfInBounds_toArray, List.set_cons_zero, List.set_cons_succ]
            (refine wpAnyP_skipL (i := 18) rfl (by kernel_rfl) (by kernel_rfl) (by kernel_rfl) (fun _ _ _ h => h) (by rfl) ?_)
            try simp only [Act.put, List.setIfInBounds_toArray, List.set_cons_zero, List.set_cons_succ]
            (refine wpAnyP_skipL (i := 19) rfl (by kernel_rfl) (by kernel_rfl) (by kernel_rfl) (fun _ _ _ h => h) (by rfl) ?_)
            try simp only [Act.put, List.setIfInBounds_toArray, List.set_cons_zero, List.set_cons_succ]
            (refine wpAnyP_skipL (i := 20) rfl (by kernel_rfl) (by kernel_rfl) (by kernel_rfl) (fun _ _ _ h => h) (by rfl) ?_)
            try simp only [Act.put, List.setIfInBounds_toArray, List.set_cons_zero, List.set_cons_succ]
            (refine wpAnyP_skipL (i := 21) rfl (by kernel_rfl) (by kernel_rfl) (by kernel_rfl) (fun _ _ _ h => h) (by rfl) ?_)
            try simp only [Act.put, List.setIfInBounds_toArray, List.set_cons_zero, List.set_cons_succ]
            (refine wpAnyP_skipL (i := 22) rfl (by kernel_rfl) (by kernel_rfl) (by kernel_rfl) (fun _ _ _ h => h) (by rfl) ?_)
            try simp only [Act.put, List.setIfInBounds_toArray, List.set_cons_zero, List.set_cons_succ]
            (refine wpAnyP_takeL (i := 23) (v := ?_) rfl (by kernel_rfl) (by kernel_rfl) (by kernel_rfl) (fun _ _ _ h => h) (by rfl) ?_ ?_; rotate_left 1; focus (intro w; go_simp; try with_reducible rfl))
            try simp only [Act.put, List.setIfInBounds_toArray, List.set_cons_zero, List.set_cons_succ]
            (refine wpAnyP_takeL (i := 24) (v := ?_) rfl (by kernel_rfl) (by kernel_rfl) (by kernel_rfl) (fun _ _ _ h => h) (by rfl) ?_ ?_; rotate_left 1; focus (intro w; go_simp; try with_reducible rfl))
            try simp only [Act.put, List.setIfInBounds_toArray, List.set_cons_zero, List.set_cons_succ]
            refine wpAnyP_last (i := 25) rfl (by kernel_rfl) (by kernel_rfl) (by rfl) (fun K hK => ?_)
            go_simp
            (have f1 := HCF.out.2; have e1 := HCF.out.1; go_simp; clear f1 e1)
            (refine hK _ _ ?_; clear hK K)
            try simp only [Act.put, List.setIfInBounds_toArray, List.set_cons_zero, List.set_cons_succ]
            refine wpAnyP_done (by kernel_rfl) ?_ _
            go_wp2_with fail
            obtain ⟨hs1, hs2⟩ := HSET.out true
            have hs3 : BRow (wr.setCell ⟨w1.heap.size, t, none⟩ (.bool true)) w1.heap.size nb (isR bs l ms xs l.length (k + 1)) := hs1.congr fun b _ _ => (by have h9 := HSR.out b; rw [Bool.true_or] at h9; exact h9)
            first
              | exact ⟨⟨k + 1, by omega, by go_num, hs3, hs2⟩, by simp [intOf]; omega⟩
              | exact ⟨⟨k + 1, by omega, by go_num, hs3, hs2.drew⟩, by simp [intOf]; omega⟩
        · obtain rfl : k = nm := by omega
          have HR2 := Lib.hid (show BRow wr w1.heap.size nb (isR bs l ms xs l.length ms.length) from by have h := HROW.out; rw [HNM.out] at h; exact h)
          clear HROW
          obtain ⟨wq, rfl⟩ : ∃ wq : World, wq = wr := ⟨_, rfl⟩
          go_wp2_with fail
          go_loopw [11, 12] (fun ov iv wr => ∃ (a c : Nat) (A : Option Addr), a ≤ nb ∧ iv = .int .i64 a ∧ ov = .slice A ((rg a).filter (isR bs l ms xs l.length ms.length)).length c ∧ wr.ownsRow wq.heap.size 3 1 (.slice A ((rg a).filter (isR bs l ms xs l.length ms.length)).length c) ((rg a).filter (isR bs l ms xs l.length ms.length)).length (((rg a).filter (isR bs l ms xs l.length ms.length)).flatMap encI) ∧ Below wq.heap.size wq wr) (fun _ iv _ => nb - (intOf iv).toNat)
          case atStart => exact ⟨0, 0, none, Nat.zero_le _, rfl, rfl, World.ownsRow_nil _ _ _ _, Below.refl _ _⟩
          case round =>
            obtain ⟨a, c, A, ha, rfl, rfl, hown, hB⟩ := hrel
            have HOWN := Lib.hid hown
            have HB3 := Lib.hid hB
            have hle := filter_lenR (isR bs l ms xs l.length ms.length) a
            have HSN := Lib.hid (filter_snocR (isR bs l ms xs l.length ms.length) a)
            clear hown hB
            by_cases hlt3 : a < nb
            · have cis := (HR2.out.old HB3.out).cell hlt3
              have a0 : (0 : Int) ≤ (a : Int) := by omega
              have a1 : (a : Int) < (nb : Int) := by omega
              generalize hv : isR bs l ms xs l.length ms.length (a : Int) = v at cis HSN
              clear hv
              generalize hfl : (rg a).filter (isR bs l ms xs l.length ms.length) = fl at HOWN HSN hle ⊢
              clear hfl
              cases v
              · go_wp2_with fail
                have hsn := HSN.out
                rw [if_neg (by decide), List.append_nil] at hsn
                first
                  | exact ⟨⟨a + 1, c, A, by omega, by go_num, by rw [hsn], by rw [hsn]; exact HOWN.out, HB3.out⟩, by simp [intOf]; omega⟩
                  | exact ⟨⟨a + 1, c, A, by omega, by go_num, by rw [hsn], by rw [hsn]; exact HOWN.out, HB3.out.drew⟩, by simp [intOf]; omega⟩
              · have hzq := HB3.out.size
                go_wp2_with (at_builtin; refine wpList_append_sl rfl _ _ 22 rfl wq.heap.size 3 i0 _ 8 Try.underlying22 hi iz0 iz1 iz2 rfl (by omega) encI_len _ fl.length _ rfl (HOWN.out.alloc (.cells #[.int .i64 (a : Int)] 3)) wr.heap.size _ 1 1 [(a : Int)] rfl (Sl.newI wr [(a : Int)] 3) oneI (by unfold maxLen; omega) (by omega) (by simp only [World.size_alloc]; omega) ?_; intro A6 c6 w6 hO6 hg6 _; have HO6 := Lib.hid hO6; have HB6 := Lib.hid (below_own (HOWN.out.alloc (.cells #[.int .i64 (a : Int)] 3)) hg6 (HB3.out.alloc HB3.out.size (.cells #[.int .i64 (a : Int)] 3)) (Nat.le_refl _) (Nat.le_refl _)); clear hO6 hg6)
                have hsn := HSN.out
                rw [if_pos rfl] at hsn
                have hO6 := HO6.out
                rw [← List.flatMap_append, ← hsn] at hO6
                have hl6 : fl.length + 1 = ((rg (a + 1)).filter (isR bs l ms xs l.length ms.length)).length := by rw [hsn, List.length_append]; rfl
                rw [hl6] at hO6 ⊢
                first
                  | exact ⟨⟨a + 1, c6, A6, by omega, by go_num, rfl, hO6, HB6.out⟩, by simp [intOf]; omega⟩
                  | (go_roundw; exact ⟨a + 1, c6, A6, by omega, by go_num, rfl, hO6, HB6.out⟩; (simp [intOf]; omega))
            · obtain rfl : a = nb := by omega
              have HEQ := Lib.hid (show (rg a).filter (isR bs l ms xs l.length ms.length) = recallT bs ms l from by rw [HNB.out]; exact isR_end HXS.out HXL.out)
              rw [HEQ.out] at HOWN ⊢
              obtain ⟨bR, hbR, hS⟩ := Sl.of_own (enc := encI) encI_len rfl HOWN.out
              have HS := Lib.hid hS
              clear hS
              go_wp2_with fail
              go_ret2
              exact ⟨A, c, bR, rfl, HS.out, HWW2.out.trans (HB3.out.mono HWW2.out.size)⟩
end Go.Proofs.Ytkphgdkjjklajaa

namespace Go.Proofs.Ytkphgdkjjklajaa
open Go.RowKit Go.Shelf Go.Sort

set_option maxRecDepth 100000 in
set_option maxHeartbeats 4000000 in
theorem qOrigins_ok (b1 b2 : Nat) (Ab Am : Option Addr) (nb cb nm cm : Nat) (bs : List Int) (ms : List Mv) (batch : Nat) (w : World) (hM : NetM w b1 b2 Ab Am nb cb nm cm bs ms) (hc : chkNet bs ms = 0) (hb : batch < bs.length) :
    Calls Try.prog 43 #[netV Ab Am nb cb nm cm, .int .i64 batch] w fun e w' => ∃ A c, e = .returned (.tuple #[.slice A (originsT bs ms batch).length c, .int .i64 0]) ∧ w'.ownsRow w.heap.size 3 1 (.slice A (originsT bs ms batch).length c) (originsT bs ms batch).length ((originsT bs ms batch).flatMap encI) ∧ Below w.heap.size w w' := by
  have hN := netIn_of hc
  obtain ⟨i0, hi, iz0, iz1, iz2⟩ := info_parts info_int
  have hBn := Blk.new w 25 #[.slice Ab nb cb, .slice Am nm cm]
  have c0 := hBn.cell 0
  have c1 := hBn.cell 1
  have hb0 : Below w.heap.size w (w.alloc (.cells #[.slice Ab nb cb, .slice Am nm cm] 25)) := (Below.refl _ w).alloc (Nat.le_refl _) _
  have hm12 := hN.m1
  have hb8 := hN.n1
  have hnb := hM.b.len
  have hnm := hM.m.len
  have hcon := qcheck_any b1 b2 Ab Am nb cb nm cm bs ms _ (hM.old hb0) (by omega) (by omega)
  rw [hc] at hcon
  have hnb8 : nb ≤ 8 := by omega
  have HNB := Lib.hid hnb
  have HNM := Lib.hid hnm
  have hbn : batch < nb := by omega
  have HBN := Lib.hid hBn
  have HB0 := Lib.hid hb0
  have HC := Lib.hid hcon
  have HMO := Lib.hid (fun (k : Nat) (hk : k < nb) (W : World) (hW : Below w.heap.size w W) => show Calls Try.prog 74 #[netV Ab Am nb cb nm cm, .slice (some ⟨W.heap.size, 0, none⟩) 1 1, .int .i64 batch, .int .i64 (-1)] (W.alloc (.cells #[.int .i64 (k : Int)] 3)) fun e w' => e = .returned (.int .i64 (mostF bs.length (bsF bs) [(k : Int)] ms batch)) ∧ Below (W.alloc (.cells #[.int .i64 (k : Int)] 3)).heap.size (W.alloc (.cells #[.int .i64 (k : Int)] 3)) w' from
    qmostB b1 b2 W.heap.size Ab Am (some ⟨W.heap.size, 0, none⟩) nb cb nm cm 1 1 bs ms [(k : Int)] batch (W.alloc (.cells #[.int .i64 (k : Int)] 3)) hN ((hM.old hW).old ((Below.refl _ W).alloc (Nat.le_refl _) _)) (oneCellNew W k) (by simp; omega) (by simp) hb)
  clear hBn hb0 hcon hM hN hc hnb hnm hb hb8 hm12
  go_enter Try.func43, Try.ntmps43
  go_upto_region 4 with (go_at_call 48; refine HC.out.mono ?_; rintro e w1 ⟨rfl, hb1⟩; have HB1 := Lib.hid hb1; clear hb1)
  have hbw := HB0.out.trans (HB1.out.mono (by simp))
  have hbn1 := HBN.out.below HB1.out HBN.out.lt
  have HBW := Lib.hid hbw
  have HBN1 := Lib.hid hbn1
  have hw1 := hbn1.lt
  have d0 := hbn1.cell 0
  have d1 := hbn1.cell 1
  clear c0 c1 hbn1 hbw
  have hin := fun (W : World) => qin_t (batch : Int) 0 ((nb : Int) - 1) (by omega) W
  have HIN := Lib.hid hin
  clear hin
  go_wp2_with (go_at_call 73; refine (HIN.out _).mono ?_; rintro e w2 ⟨rfl, rfl⟩)
  go_loopw [7, 8] (fun v i wr => ∃ (k c : Nat) (A : Option Addr), k ≤ nb ∧ i = .int .i64 k ∧ v = .slice A (oriT bs ms batch k).length c ∧ wr.ownsRow w1.heap.size 3 1 (.slice A (oriT bs ms batch k).length c) (oriT bs ms batch k).length ((oriT bs ms batch k).flatMap encI) ∧ Below w1.heap.size w1 wr) (fun _ i _ => nb - (intOf i).toNat)
  case atStart => exact ⟨0, 0, none, Nat.zero_le _, rfl, rfl, World.ownsRow_nil _ _ _ _, Below.refl _ _⟩
  case round =>
    obtain ⟨k, c, A, hk, rfl, rfl, hown, hB⟩ := hrel
    clear d0 d1
    have hz := hB.size
    have hBn := HBN1.out.below hB hw1
    have HB := Lib.hid hB
    have HOWN := Lib.hid hown
    have hBW := HBW.out.trans (hB.mono HBW.out.size)
    by_cases hlt : k < nb
    · as_aux_lemma =>
      have d0 := hBn.cell 0
      have d1 := hBn.cell 1
      have hwr := hBn.lt
      have HMR := Lib.hid (HMO.out k hlt wr hBW)
      have hY := @oriT_yes bs ms batch k
      have hY2 := @oriT_no bs ms batch k
      have hlen := oriT_len bs ms batch k
      obtain ⟨y, hy⟩ : ∃ y, y = mostF bs.length (bsF bs) [(k : Int)] ms batch := ⟨_, rfl⟩
      rw [← hy] at hY hY2
      have HYE := Lib.hid hy
      obtain ⟨hn, hhn⟩ : ∃ hn, hn = (oriT bs ms batch k).length := ⟨_, rfl⟩
      rw [← hhn] at hlen
      have HOWN3 := Lib.hid (show wr.ownsRow w1.heap.size 3 1 (.slice A hn c) hn ((oriT bs ms batch k).flatMap encI) from by rw [hhn]; exact HOWN.out)
      rw [← hhn]
      have HHN := Lib.hid hhn
      by_cases hy0 : 0 < y
      · have HY := Lib.hid (hY hy0)
        clear hB hown hBn hBW hY hY2 hhn hy
        go_wp2_with (first
          | (go_at_call 74; refine HMR.out.mono ?_; rintro e w3 ⟨he, hb3⟩; rw [← HYE.out] at he; subst he; have HB3 := Lib.hid hb3; have hz3 := hb3.size; simp only [World.size_alloc] at hz3; have HOW3 := Lib.hid ((ownsRow_below (HOWN3.out.alloc _) hb3 (Nat.le_refl _)).alloc (.cells #[.int .i64 (k : Int)] 3)); have HB4 := Lib.hid (((HB.out.alloc hz _).trans (hb3.mono (by simp; omega))).alloc (by omega) (.cells #[.int .i64 (k : Int)] 3)); clear hb3)
          | (at_builtin; refine wpList_append_sl rfl _ _ 22 rfl w1.heap.size 3 i0 _ 8 Try.underlying22 hi iz0 iz1 iz2 rfl (by omega) encI_len _ hn _ rfl HOW3.out w3.heap.size _ 1 1 [(k : Int)] rfl (oneCellNew w3 k) oneI (by unfold maxLen; omega) (by omega) (by simp; omega) ?_; intro A1 c1 w4 hown1 hgrow _; have HO1 := Lib.hid hown1; have HB5 := Lib.hid (below_own HOW3.out hgrow HB4.out (Nat.le_refl _) (Nat.le_refl _)); clear hown1 hgrow))
        have e : (oriT bs ms batch (k + 1)).length = hn + 1 := by rw [HY.out, List.length_append, ← HHN.out]; rfl
        go_roundw
        case rel => exact ⟨k + 1, c1, A1, by omega, by go_num, by rw [e], by rw [e, HY.out, List.flatMap_append]; simpa using HO1.out, HB5.out⟩
        case measure => simp [intOf]; omega
      · have HY := Lib.hid (hY2 hy0)
        clear hB hown hBn hBW hY hY2 hhn hy
        go_wp2_with (go_at_call 74; refine HMR.out.mono ?_; rintro e w3 ⟨he, hb3⟩; rw [← HYE.out] at he; subst he; have HB3 := Lib.hid hb3; have hz3 := hb3.size; simp only [World.size_alloc] at hz3; have HOW3 := Lib.hid (ownsRow_below (HOWN3.out.alloc _) hb3 (Nat.le_refl _)); have HB4 := Lib.hid ((HB.out.alloc hz _).trans (hb3.mono (by simp; omega))); clear hb3)
        go_roundw
        case rel => exact ⟨k + 1, c, A, by omega, by go_num, by rw [HY.out, HHN.out], by rw [HY.out, ← HHN.out]; exact HOW3.out, HB4.out⟩
        case measure => simp [intOf]; omega
    · obtain rfl : k = nb := by omega
      have d0 := hBn.cell 0
      have d1 := hBn.cell 1
      clear hown hB hBn
      go_wp2_with fail
      go_ret2
      have e : oriT bs ms batch k = originsT bs ms batch := by unfold oriT originsT; rw [HNB.out]
      have h := HOWN.out
      rw [e] at h
      exact ⟨A, c, by rw [e]; rfl, ownsRow_base h HBW.out.size, hBW⟩
/-- the error of a net and a batch -/
def chkB (bs : List Int) (ms : List Mv) (batch : Int) : Int := if chkNet bs ms = 0 then (if 0 ≤ batch ∧ batch < bs.length then 0 else 3) else chkNet bs ms
theorem recall_lenU (bs : List Int) (ms : List Mv) (l : List Int) : (recallT bs ms l).length ≤ bs.length := by unfold recallT; exact filter_lenR _ _
theorem origins_lenU (bs : List Int) (ms : List Mv) (b : Int) : (originsT bs ms b).length ≤ bs.length := by unfold originsT; exact filter_lenR _ _
section
variable {b1 b2 b3 nb cb nm cm no co : Nat} {Ab Am Ao : Option Addr} {bs : List Int} {ms : List Mv} {l : List Int} {w : World}
set_option maxHeartbeats 1000000 in
theorem Origins_err1 (hM : NetM w b1 b2 Ab Am nb cb nm cm bs ms) (hnb : nb ≤ 100000) (hnm : nm ≤ 100000) (batch : Int) (hc : chkNet bs ms ≠ 0) :
    Calls Try.prog 42 #[netV Ab Am nb cb nm cm, .int .i64 batch] w fun e w' => e = .returned (.tuple #[.slice none 0 0, .int .i64 (chkNet bs ms)]) ∧ Below w.heap.size w w' := by
  have hBn := Blk.new w 25 #[.slice Ab nb cb, .slice Am nm cm]
  have c0 := hBn.cell 0
  have c1 := hBn.cell 1
  have hb0 : Below w.heap.size w (w.alloc (.cells #[.slice Ab nb cb, .slice Am nm cm] 25)) := (Below.refl _ w).alloc (Nat.le_refl _) _
  have hcon := check_any b1 b2 Ab Am nb cb nm cm bs ms _ (hM.old hb0) hnb hnm
  obtain ⟨x, hx⟩ : ∃ x, x = chkNet bs ms := ⟨_, rfl⟩
  rw [← hx] at hcon hc ⊢
  have hxx : (x == 0) = false := by simp [hc]
  have hxx2 : (x != 0) = true := by simp [hc]
  have HC := Lib.hid hcon
  have HB0 := Lib.hid hb0
  clear hcon hx hc hBn hM hb0
  go_enter Try.func42, Try.ntmps42
  go_wp2_with (go_at_call 47; refine HC.out.mono ?_; rintro e w1 ⟨rfl, hb1⟩; have HB1 := Lib.hid hb1; clear hb1)
  go_ret2
  exact ⟨rfl, HB0.out.trans (HB1.out.mono (by simp))⟩
set_option maxHeartbeats 1000000 in
theorem Origins_err2 (hM : NetM w b1 b2 Ab Am nb cb nm cm bs ms) (batch : Int) (hc : chkNet bs ms = 0) (hb : ¬ (0 ≤ batch ∧ batch < bs.length)) :
    Calls Try.prog 42 #[netV Ab Am nb cb nm cm, .int .i64 batch] w fun e w' => e = .returned (.tuple #[.slice none 0 0, .int .i64 3]) ∧ Below w.heap.size w w' := by
  have hBn := Blk.new w 25 #[.slice Ab nb cb, .slice Am nm cm]
  have c0 := hBn.cell 0
  have c1 := hBn.cell 1
  have hb0 : Below w.heap.size w (w.alloc (.cells #[.slice Ab nb cb, .slice Am nm cm] 25)) := (Below.refl _ w).alloc (Nat.le_refl _) _
  have hN := netIn_of hc
  have hnb8 : nb ≤ 8 := by have := hM.b.len; have := hN.n1; omega
  have hcon := check_any b1 b2 Ab Am nb cb nm cm bs ms _ (hM.old hb0) (by omega) (by have := hM.m.len; have := hN.m1; omega)
  rw [hc] at hcon
  have hbb : ¬ (0 ≤ batch ∧ batch ≤ (nb : Int) - 1) := by have := hM.b.len; omega
  have HIN := Lib.hid (fun W => tin_f batch 0 ((nb : Int) - 1) hbb W)
  have HC := Lib.hid hcon
  have HB0 := Lib.hid hb0
  have HBN := Lib.hid hBn
  clear hcon hc hBn hM hb0 hN hbb hb
  go_enter Try.func42, Try.ntmps42
  go_upto_region 4 with (go_at_call 47; refine HC.out.mono ?_; rintro e w1 ⟨rfl, hb1⟩; have HB1 := Lib.hid hb1; clear hb1)
  clear c0 c1
  have c0 := (HBN.out.below HB1.out HBN.out.lt).cell 0
  go_wp2_with (go_at_call 71; with_reducible refine (HIN.out _).mono ?_; rintro e w' ⟨rfl, rfl⟩)
  go_ret2
  exact ⟨rfl, HB0.out.trans (HB1.out.mono (by simp))⟩
set_option maxHeartbeats 1000000 in
theorem qOrigins_err1 (hM : NetM w b1 b2 Ab Am nb cb nm cm bs ms) (hnb : nb ≤ 100000) (hnm : nm ≤ 100000) (batch : Int) (hc : chkNet bs ms ≠ 0) :
    Calls Try.prog 43 #[netV Ab Am nb cb nm cm, .int .i64 batch] w fun e w' => e = .returned (.tuple #[.slice none 0 0, .int .i64 (chkNet bs ms)]) ∧ Below w.heap.size w w' := by
  have hBn := Blk.new w 25 #[.slice Ab nb cb, .slice Am nm cm]
  have c0 := hBn.cell 0
  have c1 := hBn.cell 1
  have hb0 : Below w.heap.size w (w.alloc (.cells #[.slice Ab nb cb, .slice Am nm cm] 25)) := (Below.refl _ w).alloc (Nat.le_refl _) _
  have hcon := qcheck_any b1 b2 Ab Am nb cb nm cm bs ms _ (hM.old hb0) hnb hnm
  obtain ⟨x, hx⟩ : ∃ x, x = chkNet bs ms := ⟨_, rfl⟩
  rw [← hx] at hcon hc ⊢
  have hxx : (x == 0) = false := by simp [hc]
  have hxx2 : (x != 0) = true := by simp [hc]
  have HC := Lib.hid hcon
  have HB0 := Lib.hid hb0
  clear hcon hx hc hBn hM hb0
  go_enter Try.func43, Try.ntmps43
  go_wp2_with (go_at_call 48; refine HC.out.mono ?_; rintro e w1 ⟨rfl, hb1⟩; have HB1 := Lib.hid hb1; clear hb1)
  go_ret2
  exact ⟨rfl, HB0.out.trans (HB1.out.mono (by simp))⟩
set_option maxHeartbeats 1000000 in
theorem qOrigins_err2 (hM : NetM w b1 b2 Ab Am nb cb nm cm bs ms) (batch : Int) (hc : chkNet bs ms = 0) (hb : ¬ (0 ≤ batch ∧ batch < bs.length)) :
    Calls Try.prog 43 #[netV Ab Am nb cb nm cm, .int .i64 batch] w fun e w' => e = .returned (.tuple #[.slice none 0 0, .int .i64 3]) ∧ Below w.heap.size w w' := by
  have hBn := Blk.new w 25 #[.slice Ab nb cb, .slice Am nm cm]
  have c0 := hBn.cell 0
  have c1 := hBn.cell 1
  have hb0 : Below w.heap.size w (w.alloc (.cells #[.slice Ab nb cb, .slice Am nm cm] 25)) := (Below.refl _ w).alloc (Nat.le_refl _) _
  have hN := netIn_of hc
  have hnb8 : nb ≤ 8 := by have := hM.b.len; have := hN.n1; omega
  have hcon := qcheck_any b1 b2 Ab Am nb cb nm cm bs ms _ (hM.old hb0) (by omega) (by have := hM.m.len; have := hN.m1; omega)
  rw [hc] at hcon
  have hbb : ¬ (0 ≤ batch ∧ batch ≤ (nb : Int) - 1) := by have := hM.b.len; omega
  have HIN := Lib.hid (fun W => qin_f batch 0 ((nb : Int) - 1) hbb W)
  have HC := Lib.hid hcon
  have HB0 := Lib.hid hb0
  have HBN := Lib.hid hBn
  clear hcon hc hBn hM hb0 hN hbb hb
  go_enter Try.func43, Try.ntmps43
  go_upto_region 4 with (go_at_call 48; refine HC.out.mono ?_; rintro e w1 ⟨rfl, hb1⟩; have HB1 := Lib.hid hb1; clear hb1)
  clear c0 c1
  have c0 := (HBN.out.below HB1.out HBN.out.lt).cell 0
  go_wp2_with (go_at_call 73; with_reducible refine (HIN.out _).mono ?_; rintro e w' ⟨rfl, rfl⟩)
  go_ret2
  exact ⟨rfl, HB0.out.trans (HB1.out.mono (by simp))⟩
theorem originsU (hM : NetM w b1 b2 Ab Am nb cb nm cm bs ms) (hnb : nb ≤ 100000) (hnm : nm ≤ 100000) (batch : Int) : Calls Try.prog 42 #[netV Ab Am nb cb nm cm, .int .i64 batch] w (AnsI (chkB bs ms batch) (originsT bs ms batch) w) := by
  by_cases hc : chkNet bs ms = 0
  · by_cases hb : 0 ≤ batch ∧ batch < bs.length
    · have e : chkB bs ms batch = 0 := by unfold chkB; rw [if_pos hc, if_pos hb]
      rw [e]
      obtain ⟨bt, rfl⟩ := Int.eq_ofNat_of_zero_le hb.1
      refine (Origins_ok b1 b2 Ab Am nb cb nm cm bs ms bt w hM hc (by omega)).mono fun e w' ⟨A, c, he, ho, hb⟩ => ?_
      obtain ⟨bR, _, hs⟩ := Sl.of_own (enc := encI) encI_len rfl ho
      exact ⟨A, _, c, bR, he, by rw [if_pos rfl]; exact hs, by have := origins_lenU bs ms bt; have := (netIn_of hc).n1; omega, hb⟩
    · have e : chkB bs ms batch = 3 := by unfold chkB; rw [if_pos hc, if_neg hb]
      rw [e]
      exact (Origins_err2 hM batch hc hb).mono fun e w' h => AnsI.err (by decide) h
  · have e : chkB bs ms batch = chkNet bs ms := by unfold chkB; rw [if_neg hc]
    rw [e]
    exact (Origins_err1 hM hnb hnm batch hc).mono fun e w' h => AnsI.err hc h
theorem qoriginsU (hM : NetM w b1 b2 Ab Am nb cb nm cm bs ms) (hnb : nb ≤ 100000) (hnm : nm ≤ 100000) (batch : Int) : Calls Try.prog 43 #[netV Ab Am nb cb nm cm, .int .i64 batch] w (AnsI (chkB bs ms batch) (originsT bs ms batch) w) := by
  by_cases hc : chkNet bs ms = 0
  · by_cases hb : 0 ≤ batch ∧ batch < bs.length
    · have e : chkB bs ms batch = 0 := by unfold chkB; rw [if_pos hc, if_pos hb]
      rw [e]
      obtain ⟨bt, rfl⟩ := Int.eq_ofNat_of_zero_le hb.1
      refine (qOrigins_ok b1 b2 Ab Am nb cb nm cm bs ms bt w hM hc (by omega)).mono fun e w' ⟨A, c, he, ho, hb⟩ => ?_
      obtain ⟨bR, _, hs⟩ := Sl.of_own (enc := encI) encI_len rfl ho
      exact ⟨A, _, c, bR, he, by rw [if_pos rfl]; exact hs, by have := origins_lenU bs ms bt; have := (netIn_of hc).n1; omega, hb⟩
    · have e : chkB bs ms batch = 3 := by unfold chkB; rw [if_pos hc, if_neg hb]
      rw [e]
      exact (qOrigins_err2 hM batch hc hb).mono fun e w' h => AnsI.err (by decide) h
  · have e : chkB bs ms batch = chkNet bs ms := by unfold chkB; rw [if_neg hc]
    rw [e]
    exact (qOrigins_err1 hM hnb hnm batch hc).mono fun e w' h => AnsI.err hc h
theorem recallU (hM : NetM w b1 b2 Ab Am nb cb nm cm bs ms) (hnb : nb ≤ 100000) (hnm : nm ≤ 100000) (hO : Sl encI 1 w b3 Ao no l) (hno : no ≤ 100000) : Calls Try.prog 27 #[netV Ab Am nb cb nm cm, .slice Ao no co] w (AnsI (chkO bs ms l) (recallT bs ms l) w) := by
  by_cases hc : chkO bs ms l = 0
  · rw [hc]
    refine (Recall_ok b1 b2 b3 Ab Am Ao nb cb nm cm no co bs ms l w hM hO hc).mono fun e w' ⟨A, c, he, ho, hb⟩ => ?_
    obtain ⟨bR, _, hs⟩ := Sl.of_own (enc := encI) encI_len rfl (by rw [flatI]; exact ho)
    exact ⟨A, _, c, bR, he, by rw [if_pos rfl]; exact hs, by have := recall_lenU bs ms l; have := (chkO_in hc).1.n1; omega, hb⟩
  · exact (Recall_err b1 b2 b3 Ab Am Ao nb cb nm cm no co bs ms l w hM hnb hnm hO hno hc).mono fun e w' h => AnsI.err hc h
theorem qrecallU (hM : NetM w b1 b2 Ab Am nb cb nm cm bs ms) (hnb : nb ≤ 100000) (hnm : nm ≤ 100000) (hO : Sl encI 1 w b3 Ao no l) (hno : no ≤ 100000) : Calls Try.prog 41 #[netV Ab Am nb cb nm cm, .slice Ao no co] w (AnsI (chkO bs ms l) (recallT bs ms l) w) := by
  by_cases hc : chkO bs ms l = 0
  · rw [hc]
    refine (qRecall_ok b1 b2 b3 Ab Am Ao nb cb nm cm no co bs ms l w hM hO hc).mono fun e w' ⟨A, c, bR, he, hs, hb⟩ => ?_
    exact ⟨A, _, c, bR, he, by rw [if_pos rfl]; exact hs, by have := recall_lenU bs ms l; have := (chkO_in hc).1.n1; omega, hb⟩
  · exact (qRecall_err b1 b2 b3 Ab Am Ao nb cb nm cm no co bs ms l w hM hnb hnm hO hno hc).mono fun e w' h => AnsI.err hc h
end
end Go.Proofs.Ytkphgdkjjklajaa

namespace Go.Proofs.Ytkphgdkjjklajaa
open Go.RowKit Go.Shelf Go.Sort

/-- a net and origins, as they lie -/
structure NArg where
  b1 : Nat
  b2 : Nat
  b3 : Nat
  Ab : Option Addr
  Am : Option Addr
  Ao : Option Addr
  nb : Nat
  cb : Nat
  nm : Nat
  cm : Nat
  no : Nat
  co : Nat
  bs : List Int
  ms : List Mv
  l : List Int
structure NArg.Ok (x : NArg) (W : World) : Prop where
  m : NetM W x.b1 x.b2 x.Ab x.Am x.nb x.cb x.nm x.cm x.bs x.ms
  o : Sl encI 1 W x.b3 x.Ao x.no x.l
  nb : x.nb ≤ 100
  nm : x.nm ≤ 100
  no : x.no ≤ 100
  co : x.no ≤ x.co
theorem NArg.Ok.old {x : NArg} {W W' : World} (h : x.Ok W) (hb : Below W.heap.size W W') : x.Ok W' := ⟨h.m.old hb, h.o.old hb, h.nb, h.nm, h.no, h.co⟩
theorem vast_no {nb nm : Nat} (h : nb ≤ 20 ∧ nm ≤ 30) : (decide (20 < nb) || decide (30 < nm)) = false := by
  rw [decide_eq_false (by omega), decide_eq_false (by omega)]; rfl
theorem vast_yes {nb nm : Nat} (h : ¬ (nb ≤ 20 ∧ nm ≤ 30)) : (decide (20 < nb) || decide (30 < nm)) = true := by
  by_cases h1 : 20 < nb
  · rw [decide_eq_true h1]; rfl
  · rw [decide_eq_true (show 30 < nm by omega)]; simp

/-- a net's own block -/
def NtB (V W : World) (B : Nat) (cs : Array Value) : Prop := Blk W B 25 cs ∧ V.heap.size ≤ B
theorem NtB.newE {V W : World} (h : Below V.heap.size V W) : ∃ B, B = W.heap.size ∧ NtB V (W.alloc (.cells #[.slice none 0 0, .slice none 0 0] 25)) B #[.slice none 0 0, .slice none 0 0] := ⟨_, rfl, Blk.new _ _ _, h.size⟩
theorem NtB.old {V W W' : World} {B : Nat} {cs : Array Value} (h : NtB V W B cs) (hb : Below W.heap.size W W') : NtB V W' B cs := ⟨h.1.below hb h.1.lt, h.2⟩
theorem NtB.store {V W : World} {B : Nat} (u v : Value) (h : NtB V W B #[.slice none 0 0, .slice none 0 0]) (hV : Below V.heap.size V W) :
    NtB V ((W.setCell ⟨B, 0, none⟩ u).setCell ⟨B, 1, none⟩ v) B #[u, v] ∧ Below V.heap.size V ((W.setCell ⟨B, 0, none⟩ u).setCell ⟨B, 1, none⟩ v) :=
  ⟨⟨(h.1.set_ 0 u).set_ 1 v, h.2⟩, (hV.setCell (p := ⟨B, 0, none⟩) h.2 _).setCell (p := ⟨B, 1, none⟩) h.2 _⟩
theorem NtB.last {V W : World} (h : Below V.heap.size V W) (u v : Value) : NtB V (W.alloc (.cells #[u, v] 25)) W.heap.size #[u, v] ∧ Below V.heap.size V (W.alloc (.cells #[u, v] 25)) := ⟨⟨Blk.new _ _ _, h.size⟩, h.alloc h.size _⟩
theorem Sl.store2 {α : Type} {en : α → List Value} {q : Nat} {W : World} {b B n : Nat} {A : Option Addr} {l : List α} (h : Sl en q W b A n l) (hne : 0 < n → b ≠ B) (u v : Value) : Sl en q ((W.setCell ⟨B, 0, none⟩ u).setCell ⟨B, 1, none⟩ v) b A n l :=
  (h.setCell (p := ⟨B, 0, none⟩) hne u).setCell (p := ⟨B, 1, none⟩) hne v
theorem NetM.store2 {W : World} {b1 b2 B nb cb nm cm : Nat} {Ab Am : Option Addr} {bs : List Int} {ms : List Mv} (h : NetM W b1 b2 Ab Am nb cb nm cm bs ms) (h1 : (0 < nb → b1 ≠ B) ∧ (0 < nm → b2 ≠ B)) (u v : Value) : NetM ((W.setCell ⟨B, 0, none⟩ u).setCell ⟨B, 1, none⟩ v) b1 b2 Ab Am nb cb nm cm bs ms :=
  ⟨h.b.store2 h1.1 u v, h.m.store2 h1.2 u v, h.cb, h.cm⟩
theorem NetM.allocN {W : World} {b1 b2 nb cb nm cm : Nat} {Ab Am : Option Addr} {bs : List Int} {ms : List Mv} (h : NetM W b1 b2 Ab Am nb cb nm cm bs ms) (o : Obj) : NetM (W.alloc o) b1 b2 Ab Am nb cb nm cm bs ms := ⟨h.b.alloc o, h.m.alloc o, h.cb, h.cm⟩
theorem CopyPost.open {nb nm : Nat} {bs : List Int} {ms : List Mv} {w w' : World} {e : Ending} (h : CopyPost nb nm bs ms w e w') (hb : nb = bs.length) (hm : nm = ms.length) :
    ∃ (Ab Am : Option Addr) (cb cm b1 b2 : Nat), e = .returned (netV Ab Am nb cb nm cm) ∧ NetM w' b1 b2 Ab Am nb cb nm cm bs ms ∧ w.heap.size ≤ b1 ∧ w.heap.size ≤ b2 ∧ Below w.heap.size w w' := by
  obtain ⟨Ab, Am, cb, cm, rfl, h1, h2, _, h3⟩ := h
  obtain ⟨b1, k1, s1⟩ := Sl.of_own (enc := encI) encI_len hb h1
  obtain ⟨b2, k2, s2⟩ := Sl.of_own (enc := encM) encM_len hm h2
  exact ⟨Ab, Am, cb, cm, b1, b2, rfl, ⟨s1, s2, own_capN h1, own_capN h2⟩, k1, k2, h3⟩

theorem NArg.Ok.dieTo {x : NArg} {W W' : World} {d : Nat} (h : x.Ok W) (hg : W.grownBy W' (some d)) (h1 : 0 < x.nb → x.b1 ≠ d) (h2 : 0 < x.nm → x.b2 ≠ d) (h3 : 0 < x.no → x.b3 ≠ d) : x.Ok W' :=
  ⟨⟨h.m.b.grown hg fun hn e => h1 hn (by injection e), h.m.m.grown hg fun hn e => h2 hn (by injection e), h.m.cb, h.m.cm⟩, h.o.grown hg fun hn e => h3 hn (by injection e), h.nb, h.nm, h.no, h.co⟩
/-- while a row is laid and the die is cast -/
structure Md (V W : World) (d : Nat) : Prop where
  g : V.grownBy W (some d)
  d : IsDie W d
theorem Md.alloc {V W : World} {d : Nat} (h : Md V W d) (o : Obj) : Md V (W.alloc o) d := ⟨only_alloc h.g o, h.d.alloc o⟩
theorem Md.cast {V W W' : World} {d : Nat} (h : Md V W d) (hd : IsDie W' d) (hg : W.grownBy W' (some d)) : Md V W' d := ⟨only_trans h.g hg, hd⟩
def Rw (d : Nat) (W : World) (X : Nat) (t : TypeId) (cs : Array Value) : Prop := Blk W X t cs ∧ X ≠ d
theorem Rw.new {W : World} {d : Nat} (h : d < W.heap.size) (t : TypeId) (cs : Array Value) : Rw d (W.alloc (.cells cs t)) W.heap.size t cs := ⟨Blk.new _ _ _, by omega⟩
theorem Rw.alloc {W : World} {d X : Nat} {t : TypeId} {cs : Array Value} (h : Rw d W X t cs) (o : Obj) : Rw d (W.alloc o) X t cs := ⟨h.1.alloc o, h.2⟩
theorem Rw.die {W W' : World} {d X : Nat} {t : TypeId} {cs : Array Value} (h : Rw d W X t cs) (hg : W.grownBy W' (some d)) : Rw d W' X t cs := ⟨h.1.grown hg (fun e => h.2 (by injection e)), h.2⟩

end Go.Proofs.Ytkphgdkjjklajaa

namespace Go.Proofs.Ytkphgdkjjklajaa
open Go.RowKit Go.Shelf Go.Sort

set_option maxRecDepth 100000 in
set_option maxHeartbeats 4000000 in
theorem traceRecalls_any (Ab Am : Option Addr) (nb cb nm cm b1 b2 : Nat) (bs : List Int) (ms : List Mv) (Ao : Option Addr) (no co b3 : Nat) (l : List Int) (bat : Int) (A : Option Addr) (n c : Nat) (w : World) (hM : NetM w b1 b2 Ab Am nb cb nm cm bs ms) (hO : Sl encI 1 w b3 Ao no l) (hco : no ≤ co) (_ : (Lit.int .i64 bat).wf = true) (hN : Nums w A n) :
    Calls Try.prog 9 #[netV Ab Am nb cb nm cm, .slice Ao no co, .int .i64 bat, .slice A n c] w fun e w' => e = .returned (.bool true) ∧ Below w.heap.size w w' := by
  have hBx := Blk.new w 25 #[.slice Ab nb cb, .slice Am nm cm]
  have hb0 : Below w.heap.size w (w.alloc (.cells #[.slice Ab nb cb, .slice Am nm cm] 25)) := (Below.refl _ w).alloc (Nat.le_refl _) _
  have HB0 := Lib.hid hb0
  have HBX := Lib.hid hBx
  have HM := Lib.hid hM
  have HO := Lib.hid hO
  have HNU := Lib.hid hN
  have c0 := hBx.cell 0
  have c1 := hBx.cell 1
  have hva := fun W => vast_any nb cb nm cm Ab Am W
  clear hb0 hBx hM hO hN
  by_cases hv : nb ≤ 20 ∧ nm ≤ 30
  · rw [vast_no hv] at hva
    have HVA := Lib.hid hva
    have HV := Lib.hid hv
    clear hva hv
    by_cases hno : no ≤ 20
    · have dno : decide ((20 : Int) < (no : Int)) = false := by simp; omega
      go_enter Try.func9, Try.ntmps9
      go_upto_region 3 with (go_at_call 13; refine (HVA.out _).mono ?_; rintro e w1 ⟨rfl, hb1⟩; have HB1 := Lib.hid hb1; clear hb1)
      have HW1 := Lib.hid (HB0.out.trans (HB1.out.mono (by simp)))
      have HBX1 := Lib.hid (HBX.out.below HB1.out HBX.out.lt)
      clear c0 c1
      obtain ⟨wv, rfl⟩ : ∃ wv : World, wv = w1 := ⟨_, rfl⟩
      obtain ⟨bN, l0, hl0, hw0, hn0⟩ := HNU.out
      go_wp2_with fail
      refine (dieOf_any bN n c A l0 _ (hl0.old HW1.out) hn0 hw0).mono ?_
      rintro e w1 ⟨d, hd, rfl, hdie, hB1⟩
      have HBD := Lib.hid hB1
      have hz1 := hB1.size
      clear hl0 hw0 hB1
      go_wp2_with fail
      refine (one_any d _ 2 2 _ [5, 60] _ (hdie.alloc _) (Sl.newI w1 [5, 60] 3) (by omega) (by omega) (by have := hdie.lt; omega)).mono ?_
      rintro e w2 ⟨g, hg, rfl, hd2, hg2⟩
      have hgb : 0 ≤ g ∧ g ≤ 1000000 := by simp at hg; omega
      have HG2 := Lib.hid (only_step hg2 (only_alloc (only_refl w1 d) _) (.inl rfl))
      clear hg hg2
      go_wp2_with fail
      refine (netOf_any d 6 7 g _ hd2 (by omega) (by omega) (by omega) hgb.1 hgb.2).mono ?_
      rintro e w3 ⟨es, hs, e1, e2, Ae, Ah, ne, ce, nh, ch, hNI, hne, hnh, rfl, hNM, he1, he2, hd3, hg3⟩
      have hz2 := HG2.out.size
      have hdz2 := hd2.lt
      have hg13 := only_trans HG2.out hg3
      have hz3 := hg3.size
      have HB3 := Lib.hid (Below.stepG hg13 HBD.out (Nat.le_refl _) hd)
      have hnm3 := hNM.old ((Below.refl _ w3).alloc (Nat.le_refl _) (.cells #[.slice Ae ne ce, .slice Ah nh ch] 25))
      have hbk3 := Blk.new w3 25 #[.slice Ae ne ce, .slice Ah nh ch]
      have HNB := Lib.hid hNM.b.len
      have HNH := Lib.hid hNM.m.len
      have HNI := Lib.hid hNI
      have c0 := hbk3.cell 0
      have c1 := hbk3.cell 1
      have hd3lt : d < w3.heap.size := hd3.lt
      have HD3 := Lib.hid (hd3.alloc (.cells #[.slice Ae ne ce, .slice Ah nh ch] 25))
      have HBK3 := Lib.hid hbk3
      have HNM3 := Lib.hid hnm3
      have HEN := Lib.hid (show (0 < ne → e1 ≠ d) ∧ (0 < nh → e2 ≠ d) from ⟨fun _ e => by omega, fun _ e => by omega⟩)
      clear hd2 hNM hNI hd3 hg3 hg13 hnm3 hbk3 hdie
      go_wp2_with fail
      refine (originsOf_any d ne ce nh ch Ae Ah _ HD3.out (by omega)).mono ?_
      rintro e w4 ⟨k, Ak, ck, hk, rfl, hok, hd4, hg4⟩
      have hz4 := hg4.size
      simp only [World.size_alloc] at hz4
      obtain ⟨b4, hb4, hsk⟩ := Sl.of_own (enc := encI) encI_len rfl hok
      have hb4d : b4 ≠ d := by simp only [World.size_alloc] at hb4; omega
      have hck := own_capN hok
      have hk8 : k.length ≤ 8 := by have := orig_len hk.nodup hk.rg (by omega); omega
      have HB4 := Lib.hid ((HB3.out.alloc HB3.out.size (.cells #[.slice Ae ne ce, .slice Ah nh ch] 25)).grown hg4 (by have := HB3.out.size; simp; omega) (fun j e => by cases e; exact hd))
      have HBK4 := Lib.hid (HBK3.out.grown hg4 (fun e => by have := hd3lt; injection e with e; omega))
      have HNM4 := Lib.hid (show NetM w4 e1 e2 Ae Ah ne ce nh ch es hs from ⟨HNM3.out.b.grown hg4 (fun h e => HEN.out.1 h (by injection e)), HNM3.out.m.grown hg4 (fun h e => HEN.out.2 h (by injection e)), HNM3.out.cb, HNM3.out.cm⟩)
      have HSK := Lib.hid hsk
      have HD4 := Lib.hid hd4
      have HB4W := Lib.hid (show Below w.heap.size w w4 from HW1.out.trans (HB4.out.mono HW1.out.size))
      have HX4 := Lib.hid (HBX1.out.below HB4.out HBX1.out.lt)
      have hd4lt := hd4.lt
      have HXA := Lib.hid (show NArg.Ok ⟨b1, b2, b3, Ab, Am, Ao, nb, cb, nm, cm, no, co, bs, ms, l⟩ w4 from
        ⟨HM.out.old HB4W.out, HO.out.old HB4W.out, by have := HV.out; show nb ≤ 100; omega, by have := HV.out; show nm ≤ 100; omega, by show no ≤ 100; omega, hco⟩)
      have HYA := Lib.hid (show NArg.Ok ⟨e1, e2, b4, Ae, Ah, Ak, ne, ce, nh, ch, k.length, ck, es, hs, k⟩ w4 from
        ⟨HNM4.out, HSK.out, by show ne ≤ 100; omega, by show nh ≤ 100; omega, by show k.length ≤ 100; omega, hck⟩)
      have hwd : w.heap.size ≤ d := by have := HW1.out.size; omega
      have HXD := Lib.hid (fun (W : World) (hW : w4.grownBy W (some d)) => HXA.out.dieTo hW (fun h => by have := HM.out.b.lt h; show b1 ≠ d; omega) (fun h => by have := HM.out.m.lt h; show b2 ≠ d; omega) (fun h => by have := HO.out.lt h; show b3 ≠ d; omega))
      have HYD := Lib.hid (fun (W : World) (hW : w4.grownBy W (some d)) => HYA.out.dieTo hW (fun h => HEN.out.1 h) (fun h => HEN.out.2 h) (fun _ => hb4d))
      have HF := Lib.hid (fun (W : World) (hW : Md w4 W d) => (show (W.cell? ⟨w.heap.size, 0, none⟩ = some (.slice Ab nb cb) ∧ W.cell? ⟨w.heap.size, 1, none⟩ = some (.slice Am nm cm)) ∧ (W.cell? ⟨w3.heap.size, 0, none⟩ = some (.slice Ae ne ce) ∧ W.cell? ⟨w3.heap.size, 1, none⟩ = some (.slice Ah nh ch)) from by
        have h1 := HX4.out.grown hW.g (fun e => by injection e with e; have := HBX1.out.lt; omega)
        have h2 := HBK4.out.grown hW.g (fun e => by have := hd3lt; injection e with e; omega)
        exact ⟨⟨h1.cell 0, h1.cell 1⟩, ⟨h2.cell 0, h2.cell 1⟩⟩))
      clear hok hd4 hg4 hsk hk c0 c1
      go_upto_region 6 with fail
      go_cut [12, 13, 14] from 44 to 59 (fun p q r wx => ∃ (X Y Z : Nat) (v : Int), p = .slice (some ⟨X, 0, none⟩) 3 3 ∧ q = .slice (some ⟨Y, 0, none⟩) 3 3 ∧ r = .slice (some ⟨Z, 0, none⟩) 3 3 ∧ Rw d wx X 25 #[.slice Ab nb cb, .slice Am nm cm, .slice Ae ne ce, .slice Ah nh ch, .slice Ae ne ce, .slice Ah nh ch] ∧ Rw d wx Y 22 #[.slice Ao no co, .slice Ak k.length ck, .slice Ao no co] ∧ Rw d wx Z 3 #[.int .i64 bat, .int .i64 v, .int .i64 bat] ∧ Md w4 wx d)
      case first =>
        have hM : Md w4 w4.drew d := ⟨only_drew (only_refl w4 d), HD4.out⟩
        refine wp_region_K2 [0, 1, 2, 11] [] (fun W => (W.cell? ⟨w.heap.size, 0, none⟩ = some (.slice Ab nb cb) ∧ W.cell? ⟨w.heap.size, 1, none⟩ = some (.slice Am nm cm)) ∧ (W.cell? ⟨w3.heap.size, 0, none⟩ = some (.slice Ae ne ce) ∧ W.cell? ⟨w3.heap.size, 1, none⟩ = some (.slice Ah nh ch))) (fun _ => True) rfl (by kernel_rfl) (HF.out _ hM) (trivial) (fun hF0 hG0 => ?_)
        (refine wpAnyK_loadL Keep2.refl (i := 0) (v := ?_) rfl (Keep2.left (i := 0) (by rfl)) (by kernel_rfl) (by kernel_rfl) (by kernel_rfl) (fun _ _ _ h => h) hF0 (by rfl) ?_ ?_; rotate_left 1; focus (intro w hFw; (try dsimp only at hFw); go_split_ands; go_simp; try with_reducible rfl))
        try simp only [Act.put, List.setIfInBounds_toArray, List.set_cons_zero, List.set_cons_succ]
        (refine wpAnyK_loadL Keep2.refl (i := 1) (v := ?_) rfl (Keep2.left (i := 1) (by rfl)) (by kernel_rfl) (by kernel_rfl) (by kernel_rfl) (fun _ _ _ h => h) hF0 (by rfl) ?_ ?_; rotate_left 1; focus (intro w hFw; (try dsimp only at hFw); go_split_ands; go_simp; try with_reducible rfl))
        try simp only [Act.put, List.setIfInBounds_toArray, List.set_cons_zero, List.set_cons_succ]
        (refine wpAnyK_loadL Keep2.refl (i := 2) (v := ?_) rfl (Keep2.left (i := 2) (by rfl)) (by kernel_rfl) (by kernel_rfl) (by kernel_rfl) (fun _ _ _ h => h) hF0 (by rfl) ?_ ?_; rotate_left 1; focus (intro w hFw; (try dsimp only at hFw); go_split_ands; go_simp; try with_reducible rfl))
        try simp only [Act.put, List.setIfInBounds_toArray, List.set_cons_zero, List.set_cons_succ]
        (refine wpAnyK_takeL Keep2.refl (i := 4) (v := ?_) rfl (by kernel_rfl) (by kernel_rfl) (by kernel_rfl) (fun _ _ _ h => h) (by rfl) ?_ ?_; rotate_left 1; focus (intro w; go_simp; try with_reducible rfl))
        try simp only [Act.put, List.setIfInBounds_toArray, List.set_cons_zero, List.set_cons_succ]
        (refine wpAnyK_takeL Keep2.refl (i := 5) (v := ?_) rfl (by kernel_rfl) (by kernel_rfl) (by kernel_rfl) (fun _ _ _ h => h) (by rfl) ?_ ?_; rotate_left 1; focus (intro w; go_simp; try with_reducible rfl))
        try simp only [Act.put, List.setIfInBounds_toArray, List.set_cons_zero, List.set_cons_succ]
        (refine wpAnyK_takeL Keep2.refl (i := 6) (v := ?_) rfl (by kernel_rfl) (by kernel_rfl) (by kernel_rfl) (fun _ _ _ h => h) (by rfl) ?_ ?_; rotate_left 1; focus (intro w; go_simp; try with_reducible rfl))
        try simp only [Act.put, List.setIfInBounds_toArray, List.set_cons_zero, List.set_cons_succ]
        (refine wpAnyK_takeL Keep2.refl (i := 8) (v := ?_) rfl (by kernel_rfl) (by kernel_rfl) (by kernel_rfl) (fun _ _ _ h => h) (by rfl) ?_ ?_; rotate_left 1; focus (intro w; go_simp; try with_reducible rfl))
        try simp only [Act.put, List.setIfInBounds_toArray, List.set_cons_zero, List.set_cons_succ]
        (refine wpAnyK_takeL Keep2.refl (i := 9) (v := ?_) rfl (by kernel_rfl) (by kernel_rfl) (by kernel_rfl) (fun _ _ _ h => h) (by rfl) ?_ ?_; rotate_left 1; focus (intro w; go_simp; try with_reducible rfl))
        try simp only [Act.put, List.setIfInBounds_toArray, List.set_cons_zero, List.set_cons_succ]
        (refine wpAnyK_takeL Keep2.refl (i := 10) (v := ?_) rfl (by kernel_rfl) (by kernel_rfl) (by kernel_rfl) (fun _ _ _ h => h) (by rfl) ?_ ?_; rotate_left 1; focus (intro w; go_simp; try with_reducible rfl))
        try simp only [Act.put, List.setIfInBounds_toArray, List.set_cons_zero, List.set_cons_succ]
        (refine wpAnyK_loadL Keep2.refl (i := 11) (v := ?_) rfl (Keep2.left (i := 11) (by rfl)) (by kernel_rfl) (by kernel_rfl) (by kernel_rfl) (fun _ _ _ h => h) hF0 (by rfl) ?_ ?_; rotate_left 1; focus (intro w hFw; (try dsimp only at hFw); go_split_ands; go_simp; try with_reducible rfl))
        try simp only [Act.put, List.setIfInBounds_toArray, List.set_cons_zero, List.set_cons_succ]
        (refine wpAnyK_takeL Keep2.refl (i := 12) (v := ?_) rfl (by kernel_rfl) (by kernel_rfl) (by kernel_rfl) (fun _ _ _ h => h) (by rfl) ?_ ?_; rotate_left 1; focus (intro w; go_simp; try with_reducible rfl))
        try simp only [Act.put, List.setIfInBounds_toArray, List.set_cons_zero, List.set_cons_succ]
        (refine wpAnyK_takeL Keep2.refl (i := 14) (v := ?_) rfl (by kernel_rfl) (by kernel_rfl) (by kernel_rfl) (fun _ _ _ h => h) (by rfl) ?_ ?_; rotate_left 1; focus (intro w; go_simp; try with_reducible rfl))
        try simp only [Act.put, List.setIfInBounds_toArray, List.set_cons_zero, List.set_cons_succ]
        refine wpAnyK_all (rs := [3, 7, 13]) (by kernel_rfl) (by simp) ?_
        refine List.forall_mem_cons.2 ⟨?_, List.forall_mem_cons.2 ⟨?_, List.forall_mem_cons.2 ⟨?_, fun _ h => absurd h List.not_mem_nil⟩⟩⟩
        · refine wpOp_of rfl (by rfl) (fun K hK => ?_)
          go_simp
          (have hX := Rw.new hM.d.lt 25 #[.slice Ab nb cb, .slice Am nm cm, .slice Ae ne ce, .slice Ah nh ch, .slice Ae ne ce, .slice Ah nh ch]; (try simp only [World.size_drew, World.size_alloc] at hX); (try replace hY := hY.alloc (.cells #[.slice Ab nb cb, .slice Am nm cm, .slice Ae ne ce, .slice Ah nh ch, .slice Ae ne ce, .slice Ah nh ch] 25)); (try replace hZ := hZ.alloc (.cells #[.slice Ab nb cb, .slice Am nm cm, .slice Ae ne ce, .slice Ah nh ch, .slice Ae ne ce, .slice Ah nh ch] 25)); replace hM := hM.alloc (.cells #[.slice Ab nb cb, .slice Am nm cm, .slice Ae ne ce, .slice Ah nh ch, .slice Ae ne ce, .slice Ah nh ch] 25))
          (refine hK _ _ ⟨⟨fun _ _ => HF.out _ hM, fun h => absurd h (by decide)⟩, ?_⟩; clear hK K)
          (refine wpAnyK_with (F := fun W => (W.cell? ⟨w.heap.size, 0, none⟩ = some (.slice Ab nb cb) ∧ W.cell? ⟨w.heap.size, 1, none⟩ = some (.slice Am nm cm)) ∧ (W.cell? ⟨w3.heap.size, 0, none⟩ = some (.slice Ae ne ce) ∧ W.cell? ⟨w3.heap.size, 1, none⟩ = some (.slice Ah nh ch))) (HF.out _ hM) (fun hF1 => ?_); clear hF0)
          try simp only [Act.put, List.setIfInBounds_toArray, List.set_cons_zero, List.set_cons_succ]
          refine wpAnyK_all (rs := [7, 13]) (by kernel_rfl) (by simp) ?_
          refine List.forall_mem_cons.2 ⟨?_, List.forall_mem_cons.2 ⟨?_, fun _ h => absurd h List.not_mem_nil⟩⟩
          · refine wpOp_of rfl (by rfl) (fun K hK => ?_)
            go_simp
            (have hY := Rw.new hM.d.lt 22 #[.slice Ao no co, .slice Ak k.length ck, .slice Ao no co]; (try simp only [World.size_drew, World.size_alloc] at hY); (try replace hX := hX.alloc (.cells #[.slice Ao no co, .slice Ak k.length ck, .slice Ao no co] 22)); (try replace hZ := hZ.alloc (.cells #[.slice Ao no co, .slice Ak k.length ck, .slice Ao no co] 22)); replace hM := hM.alloc (.cells #[.slice Ao no co, .slice Ak k.length ck, .slice Ao no co] 22))
            (refine hK _ _ ⟨⟨fun _ _ => HF.out _ hM, fun h => absurd h (by decide)⟩, ?_⟩; clear hK K)
            (refine wpAnyK_with (F := fun W => (W.cell? ⟨w.heap.size, 0, none⟩ = some (.slice Ab nb cb) ∧ W.cell? ⟨w.heap.size, 1, none⟩ = some (.slice Am nm cm)) ∧ (W.cell? ⟨w3.heap.size, 0, none⟩ = some (.slice Ae ne ce) ∧ W.cell? ⟨w3.heap.size, 1, none⟩ = some (.slice Ah nh ch))) (HF.out _ hM) (fun hF2 => ?_); clear hF1)
            try simp only [Act.put, List.setIfInBounds_toArray, List.set_cons_zero, List.set_cons_succ]
            refine wpAnyK_step (i := 13) rfl (by kernel_rfl) (by rfl) (fun K hK => ?_)
            go_simp
            (refine (cast_any d _ _ hM.d (by omega)).mono ?_; rintro e w7 ⟨v1, _, rfl, hd7, hg7⟩; (try replace hX := hX.die hg7); (try replace hY := hY.die hg7); replace hM := hM.cast hd7 hg7; clear hg7 hd7)
            (refine hK _ _ (⟨fun _ _ => HF.out _ hM, fun h => absurd h (by decide)⟩) ?_; clear hK K)
            (refine wpAnyK_with (F := fun W => (W.cell? ⟨w.heap.size, 0, none⟩ = some (.slice Ab nb cb) ∧ W.cell? ⟨w.heap.size, 1, none⟩ = some (.slice Am nm cm)) ∧ (W.cell? ⟨w3.heap.size, 0, none⟩ = some (.slice Ae ne ce) ∧ W.cell? ⟨w3.heap.size, 1, none⟩ = some (.slice Ah nh ch))) (HF.out _ hM) (fun hF3 => ?_); clear hF2)
            try simp only [Act.put, List.setIfInBounds_toArray, List.set_cons_zero, List.set_cons_succ]
            (refine wpAnyK_takeL Keep2.refl (i := 16) (v := ?_) rfl (by kernel_rfl) (by kernel_rfl) (by kernel_rfl) (fun _ _ _ h => h) (by rfl) ?_ ?_; rotate_left 1; focus (intro w; go_simp; try with_reducible rfl))
            try simp only [Act.put, List.setIfInBounds_toArray, List.set_cons_zero, List.set_cons_succ]
            (refine wpAnyK_takeL Keep2.refl (i := 17) (v := ?_) rfl (by kernel_rfl) (by kernel_rfl) (by kernel_rfl) (fun _ _ _ h => h) (by rfl) ?_ ?_; rotate_left 1; focus (intro w; go_simp; try with_reducible rfl))
            try simp only [Act.put, List.setIfInBounds_toArray, List.set_cons_zero, List.set_cons_succ]
            refine wpAnyK_step (i := 15) rfl (by kernel_rfl) (by rfl) (fun K hK => ?_)
            go_simp
            (have hZ := Rw.new hM.d.lt 3 #[.int .i64 bat, .int .i64 v1, .int .i64 bat]; (try simp only [World.size_drew, World.size_alloc] at hZ); (try replace hX := hX.alloc (.cells #[.int .i64 bat, .int .i64 v1, .int .i64 bat] 3)); (try replace hY := hY.alloc (.cells #[.int .i64 bat, .int .i64 v1, .int .i64 bat] 3)); replace hM := hM.alloc (.cells #[.int .i64 bat, .int .i64 v1, .int .i64 bat] 3))
            (refine hK _ _ (⟨fun _ _ => HF.out _ hM, fun h => absurd h (by decide)⟩) ?_; clear hK K)
            (refine wpAnyK_with (F := fun W => (W.cell? ⟨w.heap.size, 0, none⟩ = some (.slice Ab nb cb) ∧ W.cell? ⟨w.heap.size, 1, none⟩ = some (.slice Am nm cm)) ∧ (W.cell? ⟨w3.heap.size, 0, none⟩ = some (.slice Ae ne ce) ∧ W.cell? ⟨w3.heap.size, 1, none⟩ = some (.slice Ah nh ch))) (HF.out _ hM) (fun hF4 => ?_); clear hF3)
            try simp only [Act.put, List.setIfInBounds_toArray, List.set_cons_zero, List.set_cons_succ]
            (refine wpAnyK_takeL Keep2.refl (i := 18) (v := ?_) rfl (by kernel_rfl) (by kernel_rfl) (by kernel_rfl) (fun _ _ _ h => h) (by rfl) ?_ ?_; rotate_left 1; focus (intro w; go_simp; try with_reducible rfl))
            try simp only [Act.put, List.setIfInBounds_toArray, List.set_cons_zero, List.set_cons_succ]
            refine wpAnyK_done (by kernel_rfl) ?_ _
            go_wp2_with fail
            go_meet
            exact ⟨_, _, _, v1, rfl, rfl, rfl, hX, hY, hZ, hM⟩
          · refine wpOp_of rfl (by rfl) (fun K hK => ?_)
            go_simp
            (refine (cast_any d _ _ hM.d (by omega)).mono ?_; rintro e w7 ⟨v1, _, rfl, hd7, hg7⟩; (try replace hX := hX.die hg7); (try replace hY := hY.die hg7); replace hM := hM.cast hd7 hg7; clear hg7 hd7)
            (refine hK _ _ ⟨⟨fun _ _ => HF.out _ hM, fun h => absurd h (by decide)⟩, ?_⟩; clear hK K)
            (refine wpAnyK_with (F := fun W => (W.cell? ⟨w.heap.size, 0, none⟩ = some (.slice Ab nb cb) ∧ W.cell? ⟨w.heap.size, 1, none⟩ = some (.slice Am nm cm)) ∧ (W.cell? ⟨w3.heap.size, 0, none⟩ = some (.slice Ae ne ce) ∧ W.cell? ⟨w3.heap.size, 1, none⟩ = some (.slice Ah nh ch))) (HF.out _ hM) (fun hF5 => ?_); clear hF1)
            try simp only [Act.put, List.setIfInBounds_toArray, List.set_cons_zero, List.set_cons_succ]
            (refine wpAnyK_takeL Keep2.refl (i := 16) (v := ?_) rfl (by kernel_rfl) (by kernel_rfl) (by kernel_rfl) (fun _ _ _ h => h) (by rfl) ?_ ?_; rotate_left 1; focus (intro w; go_simp; try with_reducible rfl))
            try simp only [Act.put, List.setIfInBounds_toArray, List.set_cons_zero, List.set_cons_succ]
            refine wpAnyK_all (rs := [7, 15]) (by kernel_rfl) (by simp) ?_
            refine List.forall_mem_cons.2 ⟨?_, List.forall_mem_cons.2 ⟨?_, fun _ h => absurd h List.not_mem_nil⟩⟩
            · refine wpOp_of rfl (by rfl) (fun K hK => ?_)
              go_simp
              (have hY := Rw.new hM.d.lt 22 #[.slice Ao no co, .slice Ak k.length ck, .slice Ao no co]; (try simp only [World.size_drew, World.size_alloc] at hY); (try replace hX := hX.alloc (.cells #[.slice Ao no co, .slice Ak k.length ck, .slice Ao no co] 22)); (try replace hZ := hZ.alloc (.cells #[.slice Ao no co, .slice Ak k.length ck, .slice Ao no co] 22)); replace hM := hM.alloc (.cells #[.slice Ao no co, .slice Ak k.length ck, .slice Ao no co] 22))
              (refine hK _ _ ⟨⟨fun _ _ => HF.out _ hM, fun h => absurd h (by decide)⟩, ?_⟩; clear hK K)
              (refine wpAnyK_with (F := fun W => (W.cell? ⟨w.heap.size, 0, none⟩ = some (.slice Ab nb cb) ∧ W.cell? ⟨w.heap.size, 1, none⟩ = some (.slice Am nm cm)) ∧ (W.cell? ⟨w3.heap.size, 0, none⟩ = some (.slice Ae ne ce) ∧ W.cell? ⟨w3.heap.size, 1, none⟩ = some (.slice Ah nh ch))) (HF.out _ hM) (fun hF6 => ?_); clear hF5)
              try simp only [Act.put, List.setIfInBounds_toArray, List.set_cons_zero, List.set_cons_succ]
              (refine wpAnyK_takeL Keep2.refl (i := 17) (v := ?_) rfl (by kernel_rfl) (by kernel_rfl) (by kernel_rfl) (fun _ _ _ h => h) (by rfl) ?_ ?_; rotate_left 1; focus (intro w; go_simp; try with_reducible rfl))
              try simp only [Act.put, List.setIfInBounds_toArray, List.set_cons_zero, List.set_cons_succ]
              refine wpAnyK_step (i := 15) rfl (by kernel_rfl) (by rfl) (fun K hK => ?_)
              go_simp
              (have hZ := Rw.new hM.d.lt 3 #[.int .i64 bat, .int .i64 v1, .int .i64 bat]; (try simp only [World.size_drew, World.size_alloc] at hZ); (try replace hX := hX.alloc (.cells #[.int .i64 bat, .int .i64 v1, .int .i64 bat] 3)); (try replace hY := hY.alloc (.cells #[.int .i64 bat, .int .i64 v1, .int .i64 bat] 3)); replace hM := hM.alloc (.cells #[.int .i64 bat, .int .i64 v1, .int .i64 bat] 3))
              (refine hK _ _ (⟨fun _ _ => HF.out _ hM, fun h => absurd h (by decide)⟩) ?_; clear hK K)
              (refine wpAnyK_with (F := fun W => (W.cell? ⟨w.heap.size, 0, none⟩ = some (.slice Ab nb cb) ∧ W.cell? ⟨w.heap.size, 1, none⟩ = some (.slice Am nm cm)) ∧ (W.cell? ⟨w3.heap.size, 0, none⟩ = some (.slice Ae ne ce) ∧ W.cell? ⟨w3.heap.size, 1, none⟩ = some (.slice Ah nh ch))) (HF.out _ hM) (fun hF7 => ?_); clear hF6)
              try simp only [Act.put, List.setIfInBounds_toArray, List.set_cons_zero, List.set_cons_succ]
              (refine wpAnyK_takeL Keep2.refl (i := 18) (v := ?_) rfl (by kernel_rfl) (by kernel_rfl) (by kernel_rfl) (fun _ _ _ h => h) (by rfl) ?_ ?_; rotate_left 1; focus (intro w; go_simp; try with_reducible rfl))
              try simp only [Act.put, List.setIfInBounds_toArray, List.set_cons_zero, List.set_cons_succ]
              refine wpAnyK_done (by kernel_rfl) ?_ _
              go_wp2_with fail
              go_meet
              exact ⟨_, _, _, v1, rfl, rfl, rfl, hX, hY, hZ, hM⟩
            · refine wpOp_of rfl (by rfl) (fun K hK => ?_)
              go_simp
              (have hZ := Rw.new hM.d.lt 3 #[.int .i64 bat, .int .i64 v1, .int .i64 bat]; (try simp only [World.size_drew, World.size_alloc] at hZ); (try replace hX := hX.alloc (.cells #[.int .i64 bat, .int .i64 v1, .int .i64 bat] 3)); (try replace hY := hY.alloc (.cells #[.int .i64 bat, .int .i64 v1, .int .i64 bat] 3)); replace hM := hM.alloc (.cells #[.int .i64 bat, .int .i64 v1, .int .i64 bat] 3))
              (refine hK _ _ ⟨⟨fun _ _ => HF.out _ hM, fun h => absurd h (by decide)⟩, ?_⟩; clear hK K)
              (refine wpAnyK_with (F := fun W => (W.cell? ⟨w.heap.size, 0, none⟩ = some (.slice Ab nb cb) ∧ W.cell? ⟨w.heap.size, 1, none⟩ = some (.slice Am nm cm)) ∧ (W.cell? ⟨w3.heap.size, 0, none⟩ = some (.slice Ae ne ce) ∧ W.cell? ⟨w3.heap.size, 1, none⟩ = some (.slice Ah nh ch))) (HF.out _ hM) (fun hF8 => ?_); clear hF5)
              try simp only [Act.put, List.setIfInBounds_toArray, List.set_cons_zero, List.set_cons_succ]
              refine wpAnyK_step (i := 7) rfl (by kernel_rfl) (by rfl) (fun K hK => ?_)
              go_simp
              (have hY := Rw.new hM.d.lt 22 #[.slice Ao no co, .slice Ak k.length ck, .slice Ao no co]; (try simp only [World.size_drew, World.size_alloc] at hY); (try replace hX := hX.alloc (.cells #[.slice Ao no co, .slice Ak k.length ck, .slice Ao no co] 22)); (try replace hZ := hZ.alloc (.cells #[.slice Ao no co, .slice Ak k.length ck, .slice Ao no co] 22)); replace hM := hM.alloc (.cells #[.slice Ao no co, .slice Ak k.length ck, .slice Ao no co] 22))
              (refine hK _ _ (⟨fun _ _ => HF.out _ hM, fun h => absurd h (by decide)⟩) ?_; clear hK K)
              (refine wpAnyK_with (F := fun W => (W.cell? ⟨w.heap.size, 0, none⟩ = some (.slice Ab nb cb) ∧ W.cell? ⟨w.heap.size, 1, none⟩ = some (.slice Am nm cm)) ∧ (W.cell? ⟨w3.heap.size, 0, none⟩ = some (.slice Ae ne ce) ∧ W.cell? ⟨w3.heap.size, 1, none⟩ = some (.slice Ah nh ch))) (HF.out _ hM) (fun hF9 => ?_); clear hF8)
              try simp only [Act.put, List.setIfInBounds_toArray, List.set_cons_zero, List.set_cons_succ]
              (refine wpAnyK_takeL Keep2.refl (i := 17) (v := ?_) rfl (by kernel_rfl) (by kernel_rfl) (by kernel_rfl) (fun _ _ _ h => h) (by rfl) ?_ ?_; rotate_left 1; focus (intro w; go_simp; try with_reducible rfl))
              try simp only [Act.put, List.setIfInBounds_toArray, List.set_cons_zero, List.set_cons_succ]
              (refine wpAnyK_takeL Keep2.refl (i := 18) (v := ?_) rfl (by kernel_rfl) (by kernel_rfl) (by kernel_rfl) (fun _ _ _ h => h) (by rfl) ?_ ?_; rotate_left 1; focus (intro w; go_simp; try with_reducible rfl))
              try simp only [Act.put, List.setIfInBounds_toArray, List.set_cons_zero, List.set_cons_succ]
              refine wpAnyK_done (by kernel_rfl) ?_ _
              go_wp2_with fail
              go_meet
              exact ⟨_, _, _, v1, rfl, rfl, rfl, hX, hY, hZ, hM⟩
        · refine wpOp_of rfl (by rfl) (fun K hK => ?_)
          go_simp
          (have hY := Rw.new hM.d.lt 22 #[.slice Ao no co, .slice Ak k.length ck, .slice Ao no co]; (try simp only [World.size_drew, World.size_alloc] at hY); (try replace hX := hX.alloc (.cells #[.slice Ao no co, .slice Ak k.length ck, .slice Ao no co] 22)); (try replace hZ := hZ.alloc (.cells #[.slice Ao no co, .slice Ak k.length ck, .slice Ao no co] 22)); replace hM := hM.alloc (.cells #[.slice Ao no co, .slice Ak k.length ck, .slice Ao no co] 22))
          (refine hK _ _ ⟨⟨fun _ _ => HF.out _ hM, fun h => absurd h (by decide)⟩, ?_⟩; clear hK K)
          (refine wpAnyK_with (F := fun W => (W.cell? ⟨w.heap.size, 0, none⟩ = some (.slice Ab nb cb) ∧ W.cell? ⟨w.heap.size, 1, none⟩ = some (.slice Am nm cm)) ∧ (W.cell? ⟨w3.heap.size, 0, none⟩ = some (.slice Ae ne ce) ∧ W.cell? ⟨w3.heap.size, 1, none⟩ = some (.slice Ah nh ch))) (HF.out _ hM) (fun hF10 => ?_); clear hF0)
          try simp only [Act.put, List.setIfInBounds_toArray, List.set_cons_zero, List.set_cons_succ]
          refine wpAnyK_all (rs := [3, 13]) (by kernel_rfl) (by simp) ?_
          refine List.forall_mem_cons.2 ⟨?_, List.forall_mem_cons.2 ⟨?_, fun _ h => absurd h List.not_mem_nil⟩⟩
          · refine wpOp_of rfl (by rfl) (fun K hK => ?_)
            go_simp
            (have hX := Rw.new hM.d.lt 25 #[.slice Ab nb cb, .slice Am nm cm, .slice Ae ne ce, .slice Ah nh ch, .slice Ae ne ce, .slice Ah nh ch]; (try simp only [World.size_drew, World.size_alloc] at hX); (try replace hY := hY.alloc (.cells #[.slice Ab nb cb, .slice Am nm cm, .slice Ae ne ce, .slice Ah nh ch, .slice Ae ne ce, .slice Ah nh ch] 25)); (try replace hZ := hZ.alloc (.cells #[.slice Ab nb cb, .slice Am nm cm, .slice Ae ne ce, .slice Ah nh ch, .slice Ae ne ce, .slice Ah nh ch] 25)); replace hM := hM.alloc (.cells #[.slice Ab nb cb, .slice Am nm cm, .slice Ae ne ce, .slice Ah nh ch, .slice Ae ne ce, .slice Ah nh ch] 25))
            (refine hK _ _ ⟨⟨fun _ _ => HF.out _ hM, fun h => absurd h (by decide)⟩, ?_⟩; clear hK K)
            (refine wpAnyK_with (F := fun W => (W.cell? ⟨w.heap.size, 0, none⟩ = some (.slice Ab nb cb) ∧ W.cell? ⟨w.heap.size, 1, none⟩ = some (.slice Am nm cm)) ∧ (W.cell? ⟨w3.heap.size, 0, none⟩ = some (.slice Ae ne ce) ∧ W.cell? ⟨w3.heap.size, 1, none⟩ = some (.slice Ah nh ch))) (HF.out _ hM) (fun hF11 => ?_); clear hF10)
            try simp only [Act.put, List.setIfInBounds_toArray, List.set_cons_zero, List.set_cons_succ]
            refine wpAnyK_step (i := 13) rfl (by kernel_rfl) (by rfl) (fun K hK => ?_)
            go_simp
            (refine (cast_any d _ _ hM.d (by omega)).mono ?_; rintro e w7 ⟨v1, _, rfl, hd7, hg7⟩; (try replace hX := hX.die hg7); (try replace hY := hY.die hg7); replace hM := hM.cast hd7 hg7; clear hg7 hd7)
            (refine hK _ _ (⟨fun _ _ => HF.out _ hM, fun h => absurd h (by decide)⟩) ?_; clear hK K)
            (refine wpAnyK_with (F := fun W => (W.cell? ⟨w.heap.size, 0, none⟩ = some (.slice Ab nb cb) ∧ W.cell? ⟨w.heap.size, 1, none⟩ = some (.slice Am nm cm)) ∧ (W.cell? ⟨w3.heap.size, 0, none⟩ = some (.slice Ae ne ce) ∧ W.cell? ⟨w3.heap.size, 1, none⟩ = some (.slice Ah nh ch))) (HF.out _ hM) (fun hF12 => ?_); clear hF11)
            try simp only [Act.put, List.setIfInBounds_toArray, List.set_cons_zero, List.set_cons_succ]
            (refine wpAnyK_takeL Keep2.refl (i := 16) (v := ?_) rfl (by kernel_rfl) (by kernel_rfl) (by kernel_rfl) (fun _ _ _ h => h) (by rfl) ?_ ?_; rotate_left 1; focus (intro w; go_simp; try with_reducible rfl))
            try simp only [Act.put, List.setIfInBounds_toArray, List.set_cons_zero, List.set_cons_succ]
            (refine wpAnyK_takeL Keep2.refl (i := 17) (v := ?_) rfl (by kernel_rfl) (by kernel_rfl) (by kernel_rfl) (fun _ _ _ h => h) (by rfl) ?_ ?_; rotate_left 1; focus (intro w; go_simp; try with_reducible rfl))
            try simp only [Act.put, List.setIfInBounds_toArray, List.set_cons_zero, List.set_cons_succ]
            refine wpAnyK_step (i := 15) rfl (by kernel_rfl) (by rfl) (fun K hK => ?_)
            go_simp
            (have hZ := Rw.new hM.d.lt 3 #[.int .i64 bat, .int .i64 v1, .int .i64 bat]; (try simp only [World.size_drew, World.size_alloc] at hZ); (try replace hX := hX.alloc (.cells #[.int .i64 bat, .int .i64 v1, .int .i64 bat] 3)); (try replace hY := hY.alloc (.cells #[.int .i64 bat, .int .i64 v1, .int .i64 bat] 3)); replace hM := hM.alloc (.cells #[.int .i64 bat, .int .i64 v1, .int .i64 bat] 3))
            (refine hK _ _ (⟨fun _ _ => HF.out _ hM, fun h => absurd h (by decide)⟩) ?_; clear hK K)
            (refine wpAnyK_with (F := fun W => (W.cell? ⟨w.heap.size, 0, none⟩ = some (.slice Ab nb cb) ∧ W.cell? ⟨w.heap.size, 1, none⟩ = some (.slice Am nm cm)) ∧ (W.cell? ⟨w3.heap.size, 0, none⟩ = some (.slice Ae ne ce) ∧ W.cell? ⟨w3.heap.size, 1, none⟩ = some (.slice Ah nh ch))) (HF.out _ hM) (fun hF13 => ?_); clear hF12)
            try simp only [Act.put, List.setIfInBounds_toArray, List.set_cons_zero, List.set_cons_succ]
            (refine wpAnyK_takeL Keep2.refl (i := 18) (v := ?_) rfl (by kernel_rfl) (by kernel_rfl) (by kernel_rfl) (fun _ _ _ h => h) (by rfl) ?_ ?_; rotate_left 1; focus (intro w; go_simp; try with_reducible rfl))
            try simp only [Act.put, List.setIfInBounds_toArray, List.set_cons_zero, List.set_cons_succ]
            refine wpAnyK_done (by kernel_rfl) ?_ _
            go_wp2_with fail
            go_meet
            exact ⟨_, _, _, v1, rfl, rfl, rfl, hX, hY, hZ, hM⟩
          · refine wpOp_of rfl (by rfl) (fun K hK => ?_)
            go_simp
            (refine (cast_any d _ _ hM.d (by omega)).mono ?_; rintro e w7 ⟨v1, _, rfl, hd7, hg7⟩; (try replace hX := hX.die hg7); (try replace hY := hY.die hg7); replace hM := hM.cast hd7 hg7; clear hg7 hd7)
            (refine hK _ _ ⟨⟨fun _ _ => HF.out _ hM, fun h => absurd h (by decide)⟩, ?_⟩; clear hK K)
            (refine wpAnyK_with (F := fun W => (W.cell? ⟨w.heap.size, 0, none⟩ = some (.slice Ab nb cb) ∧ W.cell? ⟨w.heap.size, 1, none⟩ = some (.slice Am nm cm)) ∧ (W.cell? ⟨w3.heap.size, 0, none⟩ = some (.slice Ae ne ce) ∧ W.cell? ⟨w3.heap.size, 1, none⟩ = some (.slice Ah nh ch))) (HF.out _ hM) (fun hF14 => ?_); clear hF10)
            try simp only [Act.put, List.setIfInBounds_toArray, List.set_cons_zero, List.set_cons_succ]
            refine wpAnyK_all (rs := [3, 15]) (by kernel_rfl) (by simp) ?_
            refine List.forall_mem_cons.2 ⟨?_, List.forall_mem_cons.2 ⟨?_, fun _ h => absurd h List.not_mem_nil⟩⟩
            · refine wpOp_of rfl (by rfl) (fun K hK => ?_)
              go_simp
              (have hX := Rw.new hM.d.lt 25 #[.slice Ab nb cb, .slice Am nm cm, .slice Ae ne ce, .slice Ah nh ch, .slice Ae ne ce, .slice Ah nh ch]; (try simp only [World.size_drew, World.size_alloc] at hX); (try replace hY := hY.alloc (.cells #[.slice Ab nb cb, .slice Am nm cm, .slice Ae ne ce, .slice Ah nh ch, .slice Ae ne ce, .slice Ah nh ch] 25)); (try replace hZ := hZ.alloc (.cells #[.slice Ab nb cb, .slice Am nm cm, .slice Ae ne ce, .slice Ah nh ch, .slice Ae ne ce, .slice Ah nh ch] 25)); replace hM := hM.alloc (.cells #[.slice Ab nb cb, .slice Am nm cm, .slice Ae ne ce, .slice Ah nh ch, .slice Ae ne ce, .slice Ah nh ch] 25))
              (refine hK _ _ ⟨⟨fun _ _ => HF.out _ hM, fun h => absurd h (by decide)⟩, ?_⟩; clear hK K)
              (refine wpAnyK_with (F := fun W => (W.cell? ⟨w.heap.size, 0, none⟩ = some (.slice Ab nb cb) ∧ W.cell? ⟨w.heap.size, 1, none⟩ = some (.slice Am nm cm)) ∧ (W.cell? ⟨w3.heap.size, 0, none⟩ = some (.slice Ae ne ce) ∧ W.cell? ⟨w3.heap.size, 1, none⟩ = some (.slice Ah nh ch))) (HF.out _ hM) (fun hF15 => ?_); clear hF14)
              try simp only [Act.put, List.setIfInBounds_toArray, List.set_cons_zero, List.set_cons_succ]
              (refine wpAnyK_takeL Keep2.refl (i := 16) (v := ?_) rfl (by kernel_rfl) (by kernel_rfl) (by kernel_rfl) (fun _ _ _ h => h) (by rfl) ?_ ?_; rotate_left 1; focus (intro w; go_simp; try with_reducible rfl))
              try simp only [Act.put, List.setIfInBounds_toArray, List.set_cons_zero, List.set_cons_succ]
              (refine wpAnyK_takeL Keep2.refl (i := 17) (v := ?_) rfl (by kernel_rfl) (by kernel_rfl) (by kernel_rfl) (fun _ _ _ h => h) (by rfl) ?_ ?_; rotate_left 1; focus (intro w; go_simp; try with_reducible rfl))
              try simp only [Act.put, List.setIfInBounds_toArray, List.set_cons_zero, List.set_cons_succ]
              refine wpAnyK_step (i := 15) rfl (by kernel_rfl) (by rfl) (fun K hK => ?_)
              go_simp
              (have hZ := Rw.new hM.d.lt 3 #[.int .i64 bat, .int .i64 v1, .int .i64 bat]; (try simp only [World.size_drew, World.size_alloc] at hZ); (try replace hX := hX.alloc (.cells #[.int .i64 bat, .int .i64 v1, .int .i64 bat] 3)); (try replace hY := hY.alloc (.cells #[.int .i64 bat, .int .i64 v1, .int .i64 bat] 3)); replace hM := hM.alloc (.cells #[.int .i64 bat, .int .i64 v1, .int .i64 bat] 3))
              (refine hK _ _ (⟨fun _ _ => HF.out _ hM, fun h => absurd h (by decide)⟩) ?_; clear hK K)
              (refine wpAnyK_with (F := fun W => (W.cell? ⟨w.heap.size, 0, none⟩ = some (.slice Ab nb cb) ∧ W.cell? ⟨w.heap.size, 1, none⟩ = some (.slice Am nm cm)) ∧ (W.cell? ⟨w3.heap.size, 0, none⟩ = some (.slice Ae ne ce) ∧ W.cell? ⟨w3.heap.size, 1, none⟩ = some (.slice Ah nh ch))) (HF.out _ hM) (fun hF16 => ?_); clear hF15)
              try simp only [Act.put, List.setIfInBounds_toArray, List.set_cons_zero, List.set_cons_succ]
              (refine wpAnyK_takeL Keep2.refl (i := 18) (v := ?_) rfl (by kernel_rfl) (by kernel_rfl) (by kernel_rfl) (fun _ _ _ h => h) (by rfl) ?_ ?_; rotate_left 1; focus (intro w; go_simp; try with_reducible rfl))
              try simp only [Act.put, List.setIfInBounds_toArray, List.set_cons_zero, List.set_cons_succ]
              refine wpAnyK_done (by kernel_rfl) ?_ _
              go_wp2_with fail
              go_meet
              exact ⟨_, _, _, v1, rfl, rfl, rfl, hX, hY, hZ, hM⟩
            · refine wpOp_of rfl (by rfl) (fun K hK => ?_)
              go_simp
              (have hZ := Rw.new hM.d.lt 3 #[.int .i64 bat, .int .i64 v1, .int .i64 bat]; (try simp only [World.size_drew, World.size_alloc] at hZ); (try replace hX := hX.alloc (.cells #[.int .i64 bat, .int .i64 v1, .int .i64 bat] 3)); (try replace hY := hY.alloc (.cells #[.int .i64 bat, .int .i64 v1, .int .i64 bat] 3)); replace hM := hM.alloc (.cells #[.int .i64 bat, .int .i64 v1, .int .i64 bat] 3))
              (refine hK _ _ ⟨⟨fun _ _ => HF.out _ hM, fun h => absurd h (by decide)⟩, ?_⟩; clear hK K)
              (refine wpAnyK_with (F := fun W => (W.cell? ⟨w.heap.size, 0, none⟩ = some (.slice Ab nb cb) ∧ W.cell? ⟨w.heap.size, 1, none⟩ = some (.slice Am nm cm)) ∧ (W.cell? ⟨w3.heap.size, 0, none⟩ = some (.slice Ae ne ce) ∧ W.cell? ⟨w3.heap.size, 1, none⟩ = some (.slice Ah nh ch))) (HF.out _ hM) (fun hF17 => ?_); clear hF14)
              try simp only [Act.put, List.setIfInBounds_toArray, List.set_cons_zero, List.set_cons_succ]
              refine wpAnyK_step (i := 3) rfl (by kernel_rfl) (by rfl) (fun K hK => ?_)
              go_simp
              (have hX := Rw.new hM.d.lt 25 #[.slice Ab nb cb, .slice Am nm cm, .slice Ae ne ce, .slice Ah nh ch, .slice Ae ne ce, .slice Ah nh ch]; (try simp only [World.size_drew, World.size_alloc] at hX); (try replace hY := hY.alloc (.cells #[.slice Ab nb cb, .slice Am nm cm, .slice Ae ne ce, .slice Ah nh ch, .slice Ae ne ce, .slice Ah nh ch] 25)); (try replace hZ := hZ.alloc (.cells #[.slice Ab nb cb, .slice Am nm cm, .slice Ae ne ce, .slice Ah nh ch, .slice Ae ne ce, .slice Ah nh ch] 25)); replace hM := hM.alloc (.cells #[.slice Ab nb cb, .slice Am nm cm, .slice Ae ne ce, .slice Ah nh ch, .slice Ae ne ce, .slice Ah nh ch] 25))
              (refine hK _ _ (⟨fun _ _ => HF.out _ hM, fun h => absurd h (by decide)⟩) ?_; clear hK K)
              (refine wpAnyK_with (F := fun W => (W.cell? ⟨w.heap.size, 0, none⟩ = some (.slice Ab nb cb) ∧ W.cell? ⟨w.heap.size, 1, none⟩ = some (.slice Am nm cm)) ∧ (W.cell? ⟨w3.heap.size, 0, none⟩ = some (.slice Ae ne ce) ∧ W.cell? ⟨w3.heap.size, 1, none⟩ = some (.slice Ah nh ch))) (HF.out _ hM) (fun hF18 => ?_); clear hF17)
              try simp only [Act.put, List.setIfInBounds_toArray, List.set_cons_zero, List.set_cons_succ]
              (refine wpAnyK_takeL Keep2.refl (i := 16) (v := ?_) rfl (by kernel_rfl) (by kernel_rfl) (by kernel_rfl) (fun _ _ _ h => h) (by rfl) ?_ ?_; rotate_left 1; focus (intro w; go_simp; try with_reducible rfl))
              try simp only [Act.put, List.setIfInBounds_toArray, List.set_cons_zero, List.set_cons_succ]
              (refine wpAnyK_takeL Keep2.refl (i := 17) (v := ?_) rfl (by kernel_rfl) (by kernel_rfl) (by kernel_rfl) (fun _ _ _ h => h) (by rfl) ?_ ?_; rotate_left 1; focus (intro w; go_simp; try with_reducible rfl))
              try simp only [Act.put, List.setIfInBounds_toArray, List.set_cons_zero, List.set_cons_succ]
              (refine wpAnyK_takeL Keep2.refl (i := 18) (v := ?_) rfl (by kernel_rfl) (by kernel_rfl) (by kernel_rfl) (fun _ _ _ h => h) (by rfl) ?_ ?_; rotate_left 1; focus (intro w; go_simp; try with_reducible rfl))
              try simp only [Act.put, List.setIfInBounds_toArray, List.set_cons_zero, List.set_cons_succ]
              refine wpAnyK_done (by kernel_rfl) ?_ _
              go_wp2_with fail
              go_meet
              exact ⟨_, _, _, v1, rfl, rfl, rfl, hX, hY, hZ, hM⟩
        · refine wpOp_of rfl (by rfl) (fun K hK => ?_)
          go_simp
          (refine (cast_any d _ _ hM.d (by omega)).mono ?_; rintro e w7 ⟨v1, _, rfl, hd7, hg7⟩; (try replace hX := hX.die hg7); (try replace hY := hY.die hg7); replace hM := hM.cast hd7 hg7; clear hg7 hd7)
          (refine hK _ _ ⟨⟨fun _ _ => HF.out _ hM, fun h => absurd h (by decide)⟩, ?_⟩; clear hK K)
          (refine wpAnyK_with (F := fun W => (W.cell? ⟨w.heap.size, 0, none⟩ = some (.slice Ab nb cb) ∧ W.cell? ⟨w.heap.size, 1, none⟩ = some (.slice Am nm cm)) ∧ (W.cell? ⟨w3.heap.size, 0, none⟩ = some (.slice Ae ne ce) ∧ W.cell? ⟨w3.heap.size, 1, none⟩ = some (.slice Ah nh ch))) (HF.out _ hM) (fun hF19 => ?_); clear hF0)
          try simp only [Act.put, List.setIfInBounds_toArray, List.set_cons_zero, List.set_cons_succ]
          refine wpAnyK_all (rs := [3, 7, 15]) (by kernel_rfl) (by simp) ?_
          refine List.forall_mem_cons.2 ⟨?_, List.forall_mem_cons.2 ⟨?_, List.forall_mem_cons.2 ⟨?_, fun _ h => absurd h List.not_mem_nil⟩⟩⟩
          · refine wpOp_of rfl (by rfl) (fun K hK => ?_)
            go_simp
            (have hX := Rw.new hM.d.lt 25 #[.slice Ab nb cb, .slice Am nm cm, .slice Ae ne ce, .slice Ah nh ch, .slice Ae ne ce, .slice Ah nh ch]; (try simp only [World.size_drew, World.size_alloc] at hX); (try replace hY := hY.alloc (.cells #[.slice Ab nb cb, .slice Am nm cm, .slice Ae ne ce, .slice Ah nh ch, .slice Ae ne ce, .slice Ah nh ch] 25)); (try replace hZ := hZ.alloc (.cells #[.slice Ab nb cb, .slice Am nm cm, .slice Ae ne ce, .slice Ah nh ch, .slice Ae ne ce, .slice Ah nh ch] 25)); replace hM := hM.alloc (.cells #[.slice Ab nb cb, .slice Am nm cm, .slice Ae ne ce, .slice Ah nh ch, .slice Ae ne ce, .slice Ah nh ch] 25))
            (refine hK _ _ ⟨⟨fun _ _ => HF.out _ hM, fun h => absurd h (by decide)⟩, ?_⟩; clear hK K)
            (refine wpAnyK_with (F := fun W => (W.cell? ⟨w.heap.size, 0, none⟩ = some (.slice Ab nb cb) ∧ W.cell? ⟨w.heap.size, 1, none⟩ = some (.slice Am nm cm)) ∧ (W.cell? ⟨w3.heap.size, 0, none⟩ = some (.slice Ae ne ce) ∧ W.cell? ⟨w3.heap.size, 1, none⟩ = some (.slice Ah nh ch))) (HF.out _ hM) (fun hF20 => ?_); clear hF19)
            try simp only [Act.put, List.setIfInBounds_toArray, List.set_cons_zero, List.set_cons_succ]
            (refine wpAnyK_takeL Keep2.refl (i := 16) (v := ?_) rfl (by kernel_rfl) (by kernel_rfl) (by kernel_rfl) (fun _ _ _ h => h) (by rfl) ?_ ?_; rotate_left 1; focus (intro w; go_simp; try with_reducible rfl))
            try simp only [Act.put, List.setIfInBounds_toArray, List.set_cons_zero, List.set_cons_succ]
            refine wpAnyK_all (rs := [7, 15]) (by kernel_rfl) (by simp) ?_
            refine List.forall_mem_cons.2 ⟨?_, List.forall_mem_cons.2 ⟨?_, fun _ h => absurd h List.not_mem_nil⟩⟩
            · refine wpOp_of rfl (by rfl) (fun K hK => ?_)
              go_simp
              (have hY := Rw.new hM.d.lt 22 #[.slice Ao no co, .slice Ak k.length ck, .slice Ao no co]; (try simp only [World.size_drew, World.size_alloc] at hY); (try replace hX := hX.alloc (.cells #[.slice Ao no co, .slice Ak k.length ck, .slice Ao no co] 22)); (try replace hZ := hZ.alloc (.cells #[.slice Ao no co, .slice Ak k.length ck, .slice Ao no co] 22)); replace hM := hM.alloc (.cells #[.slice Ao no co, .slice Ak k.length ck, .slice Ao no co] 22))
              (refine hK _ _ ⟨⟨fun _ _ => HF.out _ hM, fun h => absurd h (by decide)⟩, ?_⟩; clear hK K)
              (refine wpAnyK_with (F := fun W => (W.cell? ⟨w.heap.size, 0, none⟩ = some (.slice Ab nb cb) ∧ W.cell? ⟨w.heap.size, 1, none⟩ = some (.slice Am nm cm)) ∧ (W.cell? ⟨w3.heap.size, 0, none⟩ = some (.slice Ae ne ce) ∧ W.cell? ⟨w3.heap.size, 1, none⟩ = some (.slice Ah nh ch))) (HF.out _ hM) (fun hF21 => ?_); clear hF20)
              try simp only [Act.put, List.setIfInBounds_toArray, List.set_cons_zero, List.set_cons_succ]
              (refine wpAnyK_takeL Keep2.refl (i := 17) (v := ?_) rfl (by kernel_rfl) (by kernel_rfl) (by kernel_rfl) (fun _ _ _ h => h) (by rfl) ?_ ?_; rotate_left 1; focus (intro w; go_simp; try with_reducible rfl))
              try simp only [Act.put, List.setIfInBounds_toArray, List.set_cons_zero, List.set_cons_succ]
              refine wpAnyK_step (i := 15) rfl (by kernel_rfl) (by rfl) (fun K hK => ?_)
              go_simp
              (have hZ := Rw.new hM.d.lt 3 #[.int .i64 bat, .int .i64 v1, .int .i64 bat]; (try simp only [World.size_drew, World.size_alloc] at hZ); (try replace hX := hX.alloc (.cells #[.int .i64 bat, .int .i64 v1, .int .i64 bat] 3)); (try replace hY := hY.alloc (.cells #[.int .i64 bat, .int .i64 v1, .int .i64 bat] 3)); replace hM := hM.alloc (.cells #[.int .i64 bat, .int .i64 v1, .int .i64 bat] 3))
              (refine hK _ _ (⟨fun _ _ => HF.out _ hM, fun h => absurd h (by decide)⟩) ?_; clear hK K)
              (refine wpAnyK_with (F := fun W => (W.cell? ⟨w.heap.size, 0, none⟩ = some (.slice Ab nb cb) ∧ W.cell? ⟨w.heap.size, 1, none⟩ = some (.slice Am nm cm)) ∧ (W.cell? ⟨w3.heap.size, 0, none⟩ = some (.slice Ae ne ce) ∧ W.cell? ⟨w3.heap.size, 1, none⟩ = some (.slice Ah nh ch))) (HF.out _ hM) (fun hF22 => ?_); clear hF21)
              try simp only [Act.put, List.setIfInBounds_toArray, List.set_cons_zero, List.set_cons_succ]
              (refine wpAnyK_takeL Keep2.refl (i := 18) (v := ?_) rfl (by kernel_rfl) (by kernel_rfl) (by kernel_rfl) (fun _ _ _ h => h) (by rfl) ?_ ?_; rotate_left 1; focus (intro w; go_simp; try with_reducible rfl))
              try simp only [Act.put, List.setIfInBounds_toArray, List.set_cons_zero, List.set_cons_succ]
              refine wpAnyK_done (by kernel_rfl) ?_ _
              go_wp2_with fail
              go_meet
              exact ⟨_, _, _, v1, rfl, rfl, rfl, hX, hY, hZ, hM⟩
            · refine wpOp_of rfl (by rfl) (fun K hK => ?_)
              go_simp
              (have hZ := Rw.new hM.d.lt 3 #[.int .i64 bat, .int .i64 v1, .int .i64 bat]; (try simp only [World.size_drew, World.size_alloc] at hZ); (try replace hX := hX.alloc (.cells #[.int .i64 bat, .int .i64 v1, .int .i64 bat] 3)); (try replace hY := hY.alloc (.cells #[.int .i64 bat, .int .i64 v1, .int .i64 bat] 3)); replace hM := hM.alloc (.cells #[.int .i64 bat, .int .i64 v1, .int .i64 bat] 3))
              (refine hK _ _ ⟨⟨fun _ _ => HF.out _ hM, fun h => absurd h (by decide)⟩, ?_⟩; clear hK K)
              (refine wpAnyK_with (F := fun W => (W.cell? ⟨w.heap.size, 0, none⟩ = some (.slice Ab nb cb) ∧ W.cell? ⟨w.heap.size, 1, none⟩ = some (.slice Am nm cm)) ∧ (W.cell? ⟨w3.heap.size, 0, none⟩ = some (.slice Ae ne ce) ∧ W.cell? ⟨w3.heap.size, 1, none⟩ = some (.slice Ah nh ch))) (HF.out _ hM) (fun hF23 => ?_); clear hF20)
              try simp only [Act.put, List.setIfInBounds_toArray, List.set_cons_zero, List.set_cons_succ]
              refine wpAnyK_step (i := 7) rfl (by kernel_rfl) (by rfl) (fun K hK => ?_)
              go_simp
              (have hY := Rw.new hM.d.lt 22 #[.slice Ao no co, .slice Ak k.length ck, .slice Ao no co]; (try simp only [World.size_drew, World.size_alloc] at hY); (try replace hX := hX.alloc (.cells #[.slice Ao no co, .slice Ak k.length ck, .slice Ao no co] 22)); (try replace hZ := hZ.alloc (.cells #[.slice Ao no co, .slice Ak k.length ck, .slice Ao no co] 22)); replace hM := hM.alloc (.cells #[.slice Ao no co, .slice Ak k.length ck, .slice Ao no co] 22))
              (refine hK _ _ (⟨fun _ _ => HF.out _ hM, fun h => absurd h (by decide)⟩) ?_; clear hK K)
              (refine wpAnyK_with (F := fun W => (W.cell? ⟨w.heap.size, 0, none⟩ = some (.slice Ab nb cb) ∧ W.cell? ⟨w.heap.size, 1, none⟩ = some (.slice Am nm cm)) ∧ (W.cell? ⟨w3.heap.size, 0, none⟩ = some (.slice Ae ne ce) ∧ W.cell? ⟨w3.heap.size, 1, none⟩ = some (.slice Ah nh ch))) (HF.out _ hM) (fun hF24 => ?_); clear hF23)
              try simp only [Act.put, List.setIfInBounds_toArray, List.set_cons_zero, List.set_cons_succ]
              (refine wpAnyK_takeL Keep2.refl (i := 17) (v := ?_) rfl (by kernel_rfl) (by kernel_rfl) (by kernel_rfl) (fun _ _ _ h => h) (by rfl) ?_ ?_; rotate_left 1; focus (intro w; go_simp; try with_reducible rfl))
              try simp only [Act.put, List.setIfInBounds_toArray, List.set_cons_zero, List.set_cons_succ]
              (refine wpAnyK_takeL Keep2.refl (i := 18) (v := ?_) rfl (by kernel_rfl) (by kernel_rfl) (by kernel_rfl) (fun _ _ _ h => h) (by rfl) ?_ ?_; rotate_left 1; focus (intro w; go_simp; try with_reducible rfl))
              try simp only [Act.put, List.setIfInBounds_toArray, List.set_cons_zero, List.set_cons_succ]
              refine wpAnyK_done (by kernel_rfl) ?_ _
              go_wp2_with fail
              go_meet
              exact ⟨_, _, _, v1, rfl, rfl, rfl, hX, hY, hZ, hM⟩
          · refine wpOp_of rfl (by rfl) (fun K hK => ?_)
            go_simp
            (have hY := Rw.new hM.d.lt 22 #[.slice Ao no co, .slice Ak k.length ck, .slice Ao no co]; (try simp only [World.size_drew, World.size_alloc] at hY); (try replace hX := hX.alloc (.cells #[.slice Ao no co, .slice Ak k.length ck, .slice Ao no co] 22)); (try replace hZ := hZ.alloc (.cells #[.slice Ao no co, .slice Ak k.length ck, .slice Ao no co] 22)); replace hM := hM.alloc (.cells #[.slice Ao no co, .slice Ak k.length ck, .slice Ao no co] 22))
            (refine hK _ _ ⟨⟨fun _ _ => HF.out _ hM, fun h => absurd h (by decide)⟩, ?_⟩; clear hK K)
            (refine wpAnyK_with (F := fun W => (W.cell? ⟨w.heap.size, 0, none⟩ = some (.slice Ab nb cb) ∧ W.cell? ⟨w.heap.size, 1, none⟩ = some (.slice Am nm cm)) ∧ (W.cell? ⟨w3.heap.size, 0, none⟩ = some (.slice Ae ne ce) ∧ W.cell? ⟨w3.heap.size, 1, none⟩ = some (.slice Ah nh ch))) (HF.out _ hM) (fun hF25 => ?_); clear hF19)
            try simp only [Act.put, List.setIfInBounds_toArray, List.set_cons_zero, List.set_cons_succ]
            refine wpAnyK_all (rs := [3, 15]) (by kernel_rfl) (by simp) ?_
            refine List.forall_mem_cons.2 ⟨?_, List.forall_mem_cons.2 ⟨?_, fun _ h => absurd h List.not_mem_nil⟩⟩
            · refine wpOp_of rfl (by rfl) (fun K hK => ?_)
              go_simp
              (have hX := Rw.new hM.d.lt 25 #[.slice Ab nb cb, .slice Am nm cm, .slice Ae ne ce, .slice Ah nh ch, .slice Ae ne ce, .slice Ah nh ch]; (try simp only [World.size_drew, World.size_alloc] at hX); (try replace hY := hY.alloc (.cells #[.slice Ab nb cb, .slice Am nm cm, .slice Ae ne ce, .slice Ah nh ch, .slice Ae ne ce, .slice Ah nh ch] 25)); (try replace hZ := hZ.alloc (.cells #[.slice Ab nb cb, .slice Am nm cm, .slice Ae ne ce, .slice Ah nh ch, .slice Ae ne ce, .slice Ah nh ch] 25)); replace hM := hM.alloc (.cells #[.slice Ab nb cb, .slice Am nm cm, .slice Ae ne ce, .slice Ah nh ch, .slice Ae ne ce, .slice Ah nh ch] 25))
              (refine hK _ _ ⟨⟨fun _ _ => HF.out _ hM, fun h => absurd h (by decide)⟩, ?_⟩; clear hK K)
              (refine wpAnyK_with (F := fun W => (W.cell? ⟨w.heap.size, 0, none⟩ = some (.slice Ab nb cb) ∧ W.cell? ⟨w.heap.size, 1, none⟩ = some (.slice Am nm cm)) ∧ (W.cell? ⟨w3.heap.size, 0, none⟩ = some (.slice Ae ne ce) ∧ W.cell? ⟨w3.heap.size, 1, none⟩ = some (.slice Ah nh ch))) (HF.out _ hM) (fun hF26 => ?_); clear hF25)
              try simp only [Act.put, List.setIfInBounds_toArray, List.set_cons_zero, List.set_cons_succ]
              (refine wpAnyK_takeL Keep2.refl (i := 16) (v := ?_) rfl (by kernel_rfl) (by kernel_rfl) (by kernel_rfl) (fun _ _ _ h => h) (by rfl) ?_ ?_; rotate_left 1; focus (intro w; go_simp; try with_reducible rfl))
              try simp only [Act.put, List.setIfInBounds_toArray, List.set_cons_zero, List.set_cons_succ]
              (refine wpAnyK_takeL Keep2.refl (i := 17) (v := ?_) rfl (by kernel_rfl) (by kernel_rfl) (by kernel_rfl) (fun _ _ _ h => h) (by rfl) ?_ ?_; rotate_left 1; focus (intro w; go_simp; try with_reducible rfl))
              try simp only [Act.put, List.setIfInBounds_toArray, List.set_cons_zero, List.set_cons_succ]
              refine wpAnyK_step (i := 15) rfl (by kernel_rfl) (by rfl) (fun K hK => ?_)
              go_simp
              (have hZ := Rw.new hM.d.lt 3 #[.int .i64 bat, .int .i64 v1, .int .i64 bat]; (try simp only [World.size_drew, World.size_alloc] at hZ); (try replace hX := hX.alloc (.cells #[.int .i64 bat, .int .i64 v1, .int .i64 bat] 3)); (try replace hY := hY.alloc (.cells #[.int .i64 bat, .int .i64 v1, .int .i64 bat] 3)); replace hM := hM.alloc (.cells #[.int .i64 bat, .int .i64 v1, .int .i64 bat] 3))
              (refine hK _ _ (⟨fun _ _ => HF.out _ hM, fun h => absurd h (by decide)⟩) ?_; clear hK K)
              (refine wpAnyK_with (F := fun W => (W.cell? ⟨w.heap.size, 0, none⟩ = some (.slice Ab nb cb) ∧ W.cell? ⟨w.heap.size, 1, none⟩ = some (.slice Am nm cm)) ∧ (W.cell? ⟨w3.heap.size, 0, none⟩ = some (.slice Ae ne ce) ∧ W.cell? ⟨w3.heap.size, 1, none⟩ = some (.slice Ah nh ch))) (HF.out _ hM) (fun hF27 => ?_); clear hF26)
              try simp only [Act.put, List.setIfInBounds_toArray, List.set_cons_zero, List.set_cons_succ]
              (refine wpAnyK_takeL Keep2.refl (i := 18) (v := ?_) rfl (by kernel_rfl) (by kernel_rfl) (by kernel_rfl) (fun _ _ _ h => h) (by rfl) ?_ ?_; rotate_left 1; focus (intro w; go_simp; try with_reducible rfl))
              try simp only [Act.put, List.setIfInBounds_toArray, List.set_cons_zero, List.set_cons_succ]
              refine wpAnyK_done (by kernel_rfl) ?_ _
              go_wp2_with fail
              go_meet
              exact ⟨_, _, _, v1, rfl, rfl, rfl, hX, hY, hZ, hM⟩
            · refine wpOp_of rfl (by rfl) (fun K hK => ?_)
              go_simp
              (have hZ := Rw.new hM.d.lt 3 #[.int .i64 bat, .int .i64 v1, .int .i64 bat]; (try simp only [World.size_drew, World.size_alloc] at hZ); (try replace hX := hX.alloc (.cells #[.int .i64 bat, .int .i64 v1, .int .i64 bat] 3)); (try replace hY := hY.alloc (.cells #[.int .i64 bat, .int .i64 v1, .int .i64 bat] 3)); replace hM := hM.alloc (.cells #[.int .i64 bat, .int .i64 v1, .int .i64 bat] 3))
              (refine hK _ _ ⟨⟨fun _ _ => HF.out _ hM, fun h => absurd h (by decide)⟩, ?_⟩; clear hK K)
              (refine wpAnyK_with (F := fun W => (W.cell? ⟨w.heap.size, 0, none⟩ = some (.slice Ab nb cb) ∧ W.cell? ⟨w.heap.size, 1, none⟩ = some (.slice Am nm cm)) ∧ (W.cell? ⟨w3.heap.size, 0, none⟩ = some (.slice Ae ne ce) ∧ W.cell? ⟨w3.heap.size, 1, none⟩ = some (.slice Ah nh ch))) (HF.out _ hM) (fun hF28 => ?_); clear hF25)
              try simp only [Act.put, List.setIfInBounds_toArray, List.set_cons_zero, List.set_cons_succ]
              refine wpAnyK_step (i := 3) rfl (by kernel_rfl) (by rfl) (fun K hK => ?_)
              go_simp
              (have hX := Rw.new hM.d.lt 25 #[.slice Ab nb cb, .slice Am nm cm, .slice Ae ne ce, .slice Ah nh ch, .slice Ae ne ce, .slice Ah nh ch]; (try simp only [World.size_drew, World.size_alloc] at hX); (try replace hY := hY.alloc (.cells #[.slice Ab nb cb, .slice Am nm cm, .slice Ae ne ce, .slice Ah nh ch, .slice Ae ne ce, .slice Ah nh ch] 25)); (try replace hZ := hZ.alloc (.cells #[.slice Ab nb cb, .slice Am nm cm, .slice Ae ne ce, .slice Ah nh ch, .slice Ae ne ce, .slice Ah nh ch] 25)); replace hM := hM.alloc (.cells #[.slice Ab nb cb, .slice Am nm cm, .slice Ae ne ce, .slice Ah nh ch, .slice Ae ne ce, .slice Ah nh ch] 25))
              (refine hK _ _ (⟨fun _ _ => HF.out _ hM, fun h => absurd h (by decide)⟩) ?_; clear hK K)
              (refine wpAnyK_with (F := fun W => (W.cell? ⟨w.heap.size, 0, none⟩ = some (.slice Ab nb cb) ∧ W.cell? ⟨w.heap.size, 1, none⟩ = some (.slice Am nm cm)) ∧ (W.cell? ⟨w3.heap.size, 0, none⟩ = some (.slice Ae ne ce) ∧ W.cell? ⟨w3.heap.size, 1, none⟩ = some (.slice Ah nh ch))) (HF.out _ hM) (fun hF29 => ?_); clear hF28)
              try simp only [Act.put, List.setIfInBounds_toArray, List.set_cons_zero, List.set_cons_succ]
              (refine wpAnyK_takeL Keep2.refl (i := 16) (v := ?_) rfl (by kernel_rfl) (by kernel_rfl) (by kernel_rfl) (fun _ _ _ h => h) (by rfl) ?_ ?_; rotate_left 1; focus (intro w; go_simp; try with_reducible rfl))
              try simp only [Act.put, List.setIfInBounds_toArray, List.set_cons_zero, List.set_cons_succ]
              (refine wpAnyK_takeL Keep2.refl (i := 17) (v := ?_) rfl (by kernel_rfl) (by kernel_rfl) (by kernel_rfl) (fun _ _ _ h => h) (by rfl) ?_ ?_; rotate_left 1; focus (intro w; go_simp; try with_reducible rfl))
              try simp only [Act.put, List.setIfInBounds_toArray, List.set_cons_zero, List.set_cons_succ]
              (refine wpAnyK_takeL Keep2.refl (i := 18) (v := ?_) rfl (by kernel_rfl) (by kernel_rfl) (by kernel_rfl) (fun _ _ _ h => h) (by rfl) ?_ ?_; rotate_left 1; focus (intro w; go_simp; try with_reducible rfl))
              try simp only [Act.put, List.setIfInBounds_toArray, List.set_cons_zero, List.set_cons_succ]
              refine wpAnyK_done (by kernel_rfl) ?_ _
              go_wp2_with fail
              go_meet
              exact ⟨_, _, _, v1, rfl, rfl, rfl, hX, hY, hZ, hM⟩
          · refine wpOp_of rfl (by rfl) (fun K hK => ?_)
            go_simp
            (have hZ := Rw.new hM.d.lt 3 #[.int .i64 bat, .int .i64 v1, .int .i64 bat]; (try simp only [World.size_drew, World.size_alloc] at hZ); (try replace hX := hX.alloc (.cells #[.int .i64 bat, .int .i64 v1, .int .i64 bat] 3)); (try replace hY := hY.alloc (.cells #[.int .i64 bat, .int .i64 v1, .int .i64 bat] 3)); replace hM := hM.alloc (.cells #[.int .i64 bat, .int .i64 v1, .int .i64 bat] 3))
            (refine hK _ _ ⟨⟨fun _ _ => HF.out _ hM, fun h => absurd h (by decide)⟩, ?_⟩; clear hK K)
            (refine wpAnyK_with (F := fun W => (W.cell? ⟨w.heap.size, 0, none⟩ = some (.slice Ab nb cb) ∧ W.cell? ⟨w.heap.size, 1, none⟩ = some (.slice Am nm cm)) ∧ (W.cell? ⟨w3.heap.size, 0, none⟩ = some (.slice Ae ne ce) ∧ W.cell? ⟨w3.heap.size, 1, none⟩ = some (.slice Ah nh ch))) (HF.out _ hM) (fun hF30 => ?_); clear hF19)
            try simp only [Act.put, List.setIfInBounds_toArray, List.set_cons_zero, List.set_cons_succ]
            refine wpAnyK_all (rs := [3, 7]) (by kernel_rfl) (by simp) ?_
            refine List.forall_mem_cons.2 ⟨?_, List.forall_mem_cons.2 ⟨?_, fun _ h => absurd h List.not_mem_nil⟩⟩
            · refine wpOp_of rfl (by rfl) (fun K hK => ?_)
              go_simp
              (have hX := Rw.new hM.d.lt 25 #[.slice Ab nb cb, .slice Am nm cm, .slice Ae ne ce, .slice Ah nh ch, .slice Ae ne ce, .slice Ah nh ch]; (try simp only [World.size_drew, World.size_alloc] at hX); (try replace hY := hY.alloc (.cells #[.slice Ab nb cb, .slice Am nm cm, .slice Ae ne ce, .slice Ah nh ch, .slice Ae ne ce, .slice Ah nh ch] 25)); (try replace hZ := hZ.alloc (.cells #[.slice Ab nb cb, .slice Am nm cm, .slice Ae ne ce, .slice Ah nh ch, .slice Ae ne ce, .slice Ah nh ch] 25)); replace hM := hM.alloc (.cells #[.slice Ab nb cb, .slice Am nm cm, .slice Ae ne ce, .slice Ah nh ch, .slice Ae ne ce, .slice Ah nh ch] 25))
              (refine hK _ _ ⟨⟨fun _ _ => HF.out _ hM, fun h => absurd h (by decide)⟩, ?_⟩; clear hK K)
              (refine wpAnyK_with (F := fun W => (W.cell? ⟨w.heap.size, 0, none⟩ = some (.slice Ab nb cb) ∧ W.cell? ⟨w.heap.size, 1, none⟩ = some (.slice Am nm cm)) ∧ (W.cell? ⟨w3.heap.size, 0, none⟩ = some (.slice Ae ne ce) ∧ W.cell? ⟨w3.heap.size, 1, none⟩ = some (.slice Ah nh ch))) (HF.out _ hM) (fun hF31 => ?_); clear hF30)
              try simp only [Act.put, List.setIfInBounds_toArray, List.set_cons_zero, List.set_cons_succ]
              (refine wpAnyK_takeL Keep2.refl (i := 16) (v := ?_) rfl (by kernel_rfl) (by kernel_rfl) (by kernel_rfl) (fun _ _ _ h => h) (by rfl) ?_ ?_; rotate_left 1; focus (intro w; go_simp; try with_reducible rfl))
              try simp only [Act.put, List.setIfInBounds_toArray, List.set_cons_zero, List.set_cons_succ]
              refine wpAnyK_step (i := 7) rfl (by kernel_rfl) (by rfl) (fun K hK => ?_)
              go_simp
              (have hY := Rw.new hM.d.lt 22 #[.slice Ao no co, .slice Ak k.length ck, .slice Ao no co]; (try simp only [World.size_drew, World.size_alloc] at hY); (try replace hX := hX.alloc (.cells #[.slice Ao no co, .slice Ak k.length ck, .slice Ao no co] 22)); (try replace hZ := hZ.alloc (.cells #[.slice Ao no co, .slice Ak k.length ck, .slice Ao no co] 22)); replace hM := hM.alloc (.cells #[.slice Ao no co, .slice Ak k.length ck, .slice Ao no co] 22))
              (refine hK _ _ (⟨fun _ _ => HF.out _ hM, fun h => absurd h (by decide)⟩) ?_; clear hK K)
              (refine wpAnyK_with (F := fun W => (W.cell? ⟨w.heap.size, 0, none⟩ = some (.slice Ab nb cb) ∧ W.cell? ⟨w.heap.size, 1, none⟩ = some (.slice Am nm cm)) ∧ (W.cell? ⟨w3.heap.size, 0, none⟩ = some (.slice Ae ne ce) ∧ W.cell? ⟨w3.heap.size, 1, none⟩ = some (.slice Ah nh ch))) (HF.out _ hM) (fun hF32 => ?_); clear hF31)
              try simp only [Act.put, List.setIfInBounds_toArray, List.set_cons_zero, List.set_cons_succ]
              (refine wpAnyK_takeL Keep2.refl (i := 17) (v := ?_) rfl (by kernel_rfl) (by kernel_rfl) (by kernel_rfl) (fun _ _ _ h => h) (by rfl) ?_ ?_; rotate_left 1; focus (intro w; go_simp; try with_reducible rfl))
              try simp only [Act.put, List.setIfInBounds_toArray, List.set_cons_zero, List.set_cons_succ]
              (refine wpAnyK_takeL Keep2.refl (i := 18) (v := ?_) rfl (by kernel_rfl) (by kernel_rfl) (by kernel_rfl) (fun _ _ _ h => h) (by rfl) ?_ ?_; rotate_left 1; focus (intro w; go_simp; try with_reducible rfl))
              try simp only [Act.put, List.setIfInBounds_toArray, List.set_cons_zero, List.set_cons_succ]
              refine wpAnyK_done (by kernel_rfl) ?_ _
              go_wp2_with fail
              go_meet
              exact ⟨_, _, _, v1, rfl, rfl, rfl, hX, hY, hZ, hM⟩
            · refine wpOp_of rfl (by rfl) (fun K hK => ?_)
              go_simp
              (have hY := Rw.new hM.d.lt 22 #[.slice Ao no co, .slice Ak k.length ck, .slice Ao no co]; (try simp only [World.size_drew, World.size_alloc] at hY); (try replace hX := hX.alloc (.cells #[.slice Ao no co, .slice Ak k.length ck, .slice Ao no co] 22)); (try replace hZ := hZ.alloc (.cells #[.slice Ao no co, .slice Ak k.length ck, .slice Ao no co] 22)); replace hM := hM.alloc (.cells #[.slice Ao no co, .slice Ak k.length ck, .slice Ao no co] 22))
              (refine hK _ _ ⟨⟨fun _ _ => HF.out _ hM, fun h => absurd h (by decide)⟩, ?_⟩; clear hK K)
              (refine wpAnyK_with (F := fun W => (W.cell? ⟨w.heap.size, 0, none⟩ = some (.slice Ab nb cb) ∧ W.cell? ⟨w.heap.size, 1, none⟩ = some (.slice Am nm cm)) ∧ (W.cell? ⟨w3.heap.size, 0, none⟩ = some (.slice Ae ne ce) ∧ W.cell? ⟨w3.heap.size, 1, none⟩ = some (.slice Ah nh ch))) (HF.out _ hM) (fun hF33 => ?_); clear hF30)
              try simp only [Act.put, List.setIfInBounds_toArray, List.set_cons_zero, List.set_cons_succ]
              refine wpAnyK_step (i := 3) rfl (by kernel_rfl) (by rfl) (fun K hK => ?_)
              go_simp
              (have hX := Rw.new hM.d.lt 25 #[.slice Ab nb cb, .slice Am nm cm, .slice Ae ne ce, .slice Ah nh ch, .slice Ae ne ce, .slice Ah nh ch]; (try simp only [World.size_drew, World.size_alloc] at hX); (try replace hY := hY.alloc (.cells #[.slice Ab nb cb, .slice Am nm cm, .slice Ae ne ce, .slice Ah nh ch, .slice Ae ne ce, .slice Ah nh ch] 25)); (try replace hZ := hZ.alloc (.cells #[.slice Ab nb cb, .slice Am nm cm, .slice Ae ne ce, .slice Ah nh ch, .slice Ae ne ce, .slice Ah nh ch] 25)); replace hM := hM.alloc (.cells #[.slice Ab nb cb, .slice Am nm cm, .slice Ae ne ce, .slice Ah nh ch, .slice Ae ne ce, .slice Ah nh ch] 25))
              (refine hK _ _ (⟨fun _ _ => HF.out _ hM, fun h => absurd h (by decide)⟩) ?_; clear hK K)
              (refine wpAnyK_with (F := fun W => (W.cell? ⟨w.heap.size, 0, none⟩ = some (.slice Ab nb cb) ∧ W.cell? ⟨w.heap.size, 1, none⟩ = some (.slice Am nm cm)) ∧ (W.cell? ⟨w3.heap.size, 0, none⟩ = some (.slice Ae ne ce) ∧ W.cell? ⟨w3.heap.size, 1, none⟩ = some (.slice Ah nh ch))) (HF.out _ hM) (fun hF34 => ?_); clear hF33)
              try simp only [Act.put, List.setIfInBounds_toArray, List.set_cons_zero, List.set_cons_succ]
              (refine wpAnyK_takeL Keep2.refl (i := 16) (v := ?_) rfl (by kernel_rfl) (by kernel_rfl) (by kernel_rfl) (fun _ _ _ h => h) (by rfl) ?_ ?_; rotate_left 1; focus (intro w; go_simp; try with_reducible rfl))
              try simp only [Act.put, List.setIfInBounds_toArray, List.set_cons_zero, List.set_cons_succ]
              (refine wpAnyK_takeL Keep2.refl (i := 17) (v := ?_) rfl (by kernel_rfl) (by kernel_rfl) (by kernel_rfl) (fun _ _ _ h => h) (by rfl) ?_ ?_; rotate_left 1; focus (intro w; go_simp; try with_reducible rfl))
              try simp only [Act.put, List.setIfInBounds_toArray, List.set_cons_zero, List.set_cons_succ]
              (refine wpAnyK_takeL Keep2.refl (i := 18) (v := ?_) rfl (by kernel_rfl) (by kernel_rfl) (by kernel_rfl) (fun _ _ _ h => h) (by rfl) ?_ ?_; rotate_left 1; focus (intro w; go_simp; try with_reducible rfl))
              try simp only [Act.put, List.setIfInBounds_toArray, List.set_cons_zero, List.set_cons_succ]
              refine wpAnyK_done (by kernel_rfl) ?_ _
              go_wp2_with fail
              go_meet
              exact ⟨_, _, _, v1, rfl, rfl, rfl, hX, hY, hZ, hM⟩
      case rest =>
        obtain ⟨X, Y, Z, v1, rfl, rfl, rfl, hX, hY, hZ, hM2⟩ := hcut
        obtain ⟨WL, rfl⟩ : ∃ WL : World, WL = wc := ⟨_, rfl⟩
        have HX0 := Lib.hid (HXD.out WL hM2.g)
        have HY0 := Lib.hid (HYD.out WL hM2.g)
        have HSEL := Lib.hid (show ∀ i : Nat, i < 3 → ∃ (x : NArg) (bt : Int), ∀ W, Below WL.heap.size WL W → x.Ok W ∧ W.cell? ⟨X, i * 2, none⟩ = some (.slice x.Ab x.nb x.cb) ∧ W.cell? ⟨X, i * 2 + 1, none⟩ = some (.slice x.Am x.nm x.cm) ∧ W.cell? ⟨Y, i, none⟩ = some (.slice x.Ao x.no x.co) ∧ W.cell? ⟨Z, i, none⟩ = some (.int .i64 bt) from by
          intro i hi
          have kx := fun W (hW : Below WL.heap.size WL W) => hX.1.below hW hX.1.lt
          have ky := fun W (hW : Below WL.heap.size WL W) => hY.1.below hW hY.1.lt
          have kz := fun W (hW : Below WL.heap.size WL W) => hZ.1.below hW hZ.1.lt
          match i, hi with
          | 0, _ => exact ⟨_, _, fun W hW => ⟨HX0.out.old hW, (kx W hW).cell 0, (kx W hW).cell 1, (ky W hW).cell 0, (kz W hW).cell 0⟩⟩
          | 1, _ => exact ⟨_, _, fun W hW => ⟨HY0.out.old hW, (kx W hW).cell 2, (kx W hW).cell 3, (ky W hW).cell 1, (kz W hW).cell 1⟩⟩
          | 2, _ => exact ⟨⟨e1, e2, b3, Ae, Ah, Ao, ne, ce, nh, ch, no, co, es, hs, l⟩, _, fun W hW => ⟨⟨(HY0.out.old hW).m, (HX0.out.old hW).o, HY0.out.nb, HY0.out.nm, HX0.out.no, HX0.out.co⟩, (kx W hW).cell 4, (kx W hW).cell 5, (ky W hW).cell 2, (kz W hW).cell 2⟩⟩)
        have HWL := Lib.hid (HB4W.out.grown hM2.g HB4W.out.size (fun j e => by cases e; exact hwd))
        clear hX hY hZ hM2 HX0 HY0
        go_wp2_with fail
        go_loopw [15] (fun iv wr => ∃ i : Nat, i ≤ 3 ∧ iv = .int .i64 i ∧ Below WL.heap.size WL wr) (fun iv _ => 3 - (intOf iv).toNat)
        case atStart => exact ⟨0, by omega, rfl, Below.refl _ _⟩
        case round =>
          obtain ⟨i, hi4, rfl, hB⟩ := hrel
          have HBR := Lib.hid hB
          by_cases hlt : i < 3
          · obtain ⟨x, bt, hx⟩ := HSEL.out i hlt
            have HXR := Lib.hid (fun (W : World) (hW : Below wr.heap.size wr W) => hx W (HBR.out.trans (hW.mono HBR.out.size)))
            obtain ⟨p1, p2, p3, Pb, Pm, Po, pn, pc, pm, pd, po, pe, ps, qs, os⟩ := x
            simp only at HXR
            obtain ⟨hok, k0, k1, k2, k3⟩ := HXR.out wr (Below.refl _ wr)
            have HPN := Lib.hid hok.m.b.len
            have HPM := Lib.hid hok.m.m.len
            have hpn : pn ≤ 100 := hok.nb
            have hpm : pm ≤ 100 := hok.nm
            have hpo : po ≤ 100 := hok.no
            have HPO := Lib.hid hok.o.len
            clear hx hok hB
            have i0' : (0 : Int) ≤ (i : Int) := by omega
            have i1' : (i : Int) < 3 := by omega
            go_upto_region 10 with fail
            go_cut [16, 17] from 66 to 75 (fun u v wx => ∃ (Bo bb bm bo cc cd ci : Nat) (Ac Ad Ai : Option Addr), u = .pointer (some ⟨Bo, 0, none⟩) ∧ v = .slice Ai po ci ∧ NtB wr wx Bo #[.slice Ac pn cc, .slice Ad pm cd] ∧ NetM wx bb bm Ac Ad pn cc pm cd ps qs ∧ Sl encI 1 wx bo Ai po os ∧ po ≤ ci ∧ Below wr.heap.size wr wx)
            case first =>
              have hV : Below wr.heap.size wr wr.drew := (Below.refl _ wr).drew
              have HFC := Lib.hid (fun (W : World) (hW : Below wr.heap.size wr W) => (show W.cell? ⟨X, i * 2, none⟩ = some (.slice Pb pn pc) ∧ W.cell? ⟨X, i * 2 + 1, none⟩ = some (.slice Pm pm pd) ∧ W.cell? ⟨Y, i, none⟩ = some (.slice Po po pe) from by obtain ⟨_, h1, h2, h3, _⟩ := HXR.out W hW; exact ⟨h1, h2, h3⟩))
              clear k0 k1 k2 k3
              refine wp_region_K2 [3, 8] [] (fun W => W.cell? ⟨X, i * 2, none⟩ = some (.slice Pb pn pc) ∧ W.cell? ⟨X, i * 2 + 1, none⟩ = some (.slice Pm pm pd) ∧ W.cell? ⟨Y, i, none⟩ = some (.slice Po po pe)) (fun _ => True) rfl (by kernel_rfl) (HFC.out _ hV) (trivial) (fun hF0 hG0 => ?_)
              (refine wpAnyK_takeL Keep2.refl (i := 0) (v := ?_) rfl (by kernel_rfl) (by kernel_rfl) (by kernel_rfl) (fun _ _ _ h => h) (by rfl) ?_ ?_; rotate_left 1; focus (intro w; go_simp; try with_reducible rfl))
              try simp only [Act.put, List.setIfInBounds_toArray, List.set_cons_zero, List.set_cons_succ]
              (refine wpAnyK_takeL Keep2.refl (i := 1) (v := ?_) rfl (by kernel_rfl) (by kernel_rfl) (by kernel_rfl) (fun _ _ _ h => h) (by rfl) ?_ ?_; rotate_left 1; focus (intro w; go_simp; try with_reducible rfl))
              try simp only [Act.put, List.setIfInBounds_toArray, List.set_cons_zero, List.set_cons_succ]
              (refine wpAnyK_takeL Keep2.refl (i := 2) (v := ?_) rfl (by kernel_rfl) (by kernel_rfl) (by kernel_rfl) (fun _ _ _ h => h) (by rfl) ?_ ?_; rotate_left 1; focus (intro w; go_simp; try with_reducible rfl))
              try simp only [Act.put, List.setIfInBounds_toArray, List.set_cons_zero, List.set_cons_succ]
              (refine wpAnyK_loadL Keep2.refl (i := 3) (v := ?_) rfl (Keep2.left (i := 3) (by rfl)) (by kernel_rfl) (by kernel_rfl) (by kernel_rfl) (fun _ _ _ h => h) hF0 (by rfl) ?_ ?_; rotate_left 1; focus (intro w hFw; (try dsimp only at hFw); go_split_ands; go_simp; try with_reducible rfl))
              try simp only [Act.put, List.setIfInBounds_toArray, List.set_cons_zero, List.set_cons_succ]
              (refine wpAnyK_takeL Keep2.refl (i := 5) (v := ?_) rfl (by kernel_rfl) (by kernel_rfl) (by kernel_rfl) (fun _ _ _ h => h) (by rfl) ?_ ?_; rotate_left 1; focus (intro w; go_simp; try with_reducible rfl))
              try simp only [Act.put, List.setIfInBounds_toArray, List.set_cons_zero, List.set_cons_succ]
              (refine wpAnyK_takeL Keep2.refl (i := 6) (v := ?_) rfl (by kernel_rfl) (by kernel_rfl) (by kernel_rfl) (fun _ _ _ h => h) (by rfl) ?_ ?_; rotate_left 1; focus (intro w; go_simp; try with_reducible rfl))
              try simp only [Act.put, List.setIfInBounds_toArray, List.set_cons_zero, List.set_cons_succ]
              (refine wpAnyK_takeL Keep2.refl (i := 7) (v := ?_) rfl (by kernel_rfl) (by kernel_rfl) (by kernel_rfl) (fun _ _ _ h => h) (by rfl) ?_ ?_; rotate_left 1; focus (intro w; go_simp; try with_reducible rfl))
              try simp only [Act.put, List.setIfInBounds_toArray, List.set_cons_zero, List.set_cons_succ]
              (refine wpAnyK_loadL Keep2.refl (i := 8) (v := ?_) rfl (Keep2.left (i := 8) (by rfl)) (by kernel_rfl) (by kernel_rfl) (by kernel_rfl) (fun _ _ _ h => h) hF0 (by rfl) ?_ ?_; rotate_left 1; focus (intro w hFw; (try dsimp only at hFw); go_split_ands; go_simp; try with_reducible rfl))
              try simp only [Act.put, List.setIfInBounds_toArray, List.set_cons_zero, List.set_cons_succ]
              refine wpAnyK_all (rs := [4, 10]) (by kernel_rfl) (by simp) ?_
              refine List.forall_mem_cons.2 ⟨?_, List.forall_mem_cons.2 ⟨?_, fun _ h => absurd h List.not_mem_nil⟩⟩
              · refine wpOp_of rfl (by rfl) (fun K hK => ?_)
                go_simp
                (refine (copyNet_any p1 p2 Pb Pm pn pc pm pd ps qs _ (HXR.out _ hV).1.m (by omega) (by omega)).mono ?_; rintro e w7 hcp; obtain ⟨Ac, Ad, cc, cd, bb, bm, rfl, hNM, hk1, hk2, hB7⟩ := hcp.open HPN.out HPM.out; (try have hNB : (0 < pn → bb ≠ B) ∧ (0 < pm → bm ≠ B) := ⟨fun _ => Ne.symm (Nat.ne_of_lt (Nat.lt_of_lt_of_le hA.1.lt hk1)), fun _ => Ne.symm (Nat.ne_of_lt (Nat.lt_of_lt_of_le hA.1.lt hk2))⟩); (try replace hA := hA.old hB7); replace hV := hV.trans (hB7.mono hV.size); clear hcp hk1 hk2 hB7)
                (refine hK _ _ ⟨⟨fun _ _ => HFC.out _ hV, fun h => absurd h (by decide)⟩, ?_⟩; clear hK K)
                (refine wpAnyK_with (F := fun W => W.cell? ⟨X, i * 2, none⟩ = some (.slice Pb pn pc) ∧ W.cell? ⟨X, i * 2 + 1, none⟩ = some (.slice Pm pm pd) ∧ W.cell? ⟨Y, i, none⟩ = some (.slice Po po pe)) (HFC.out _ hV) (fun hF1 => ?_); clear hF0)
                try simp only [Act.put, List.setIfInBounds_toArray, List.set_cons_zero, List.set_cons_succ]
                refine wpAnyK_all (rs := [9, 10]) (by kernel_rfl) (by simp) ?_
                refine List.forall_mem_cons.2 ⟨?_, List.forall_mem_cons.2 ⟨?_, fun _ h => absurd h List.not_mem_nil⟩⟩
                · refine wpOp_of rfl (by rfl) (fun K hK => ?_)
                  go_simp
                  (refine (copyInts_any p3 po pe Po os _ (HXR.out _ hV).1.o (by omega)).mono ?_; rintro e w8 ⟨Ai, ci, rfl, hown, hB8⟩; obtain ⟨bo, hk3, hSO⟩ := Sl.of_own (enc := encI) encI_len HPO.out hown; have hci := own_capN hown; (try have hSB : 0 < po → bo ≠ B := fun _ => Ne.symm (Nat.ne_of_lt (Nat.lt_of_lt_of_le hA.1.lt hk3))); (try replace hA := hA.old hB8); replace hNM := hNM.old hB8; replace hV := hV.trans (hB8.mono hV.size); clear hown hk3 hB8)
                  (refine hK _ _ ⟨⟨fun _ _ => HFC.out _ hV, fun h => absurd h (by decide)⟩, ?_⟩; clear hK K)
                  (refine wpAnyK_with (F := fun W => W.cell? ⟨X, i * 2, none⟩ = some (.slice Pb pn pc) ∧ W.cell? ⟨X, i * 2 + 1, none⟩ = some (.slice Pm pm pd) ∧ W.cell? ⟨Y, i, none⟩ = some (.slice Po po pe)) (HFC.out _ hV) (fun hF2 => ?_); clear hF1)
                  try simp only [Act.put, List.setIfInBounds_toArray, List.set_cons_zero, List.set_cons_succ]
                  refine wpAnyK_step (i := 10) rfl (by kernel_rfl) (by rfl) (fun K hK => ?_)
                  go_simp
                  (obtain ⟨B, hBe, hA⟩ := NtB.newE hV; (try have hNB : (0 < pn → bb ≠ B) ∧ (0 < pm → bm ≠ B) := (by rw [hBe]; exact ⟨fun h => Nat.ne_of_lt (hNM.b.lt h), fun h => Nat.ne_of_lt (hNM.m.lt h)⟩)); (try have hSB : 0 < po → bo ≠ B := (by rw [hBe]; exact fun h => Nat.ne_of_lt (hSO.lt h))); (try have hNM0 := hNM); (try have hSO0 := hSO); have hV0 := hV; (try replace hNM := hNM.allocN (.cells #[.slice none 0 0, .slice none 0 0] 25)); (try replace hSO := hSO.alloc (.cells #[.slice none 0 0, .slice none 0 0] 25)); replace hV := hV.alloc hV.size (.cells #[.slice none 0 0, .slice none 0 0] 25))
                  (refine hK _ _ (⟨fun _ _ => HFC.out _ hV, fun h => absurd h (by decide)⟩) ?_; clear hK K)
                  (refine wpAnyK_with (F := fun W => W.cell? ⟨X, i * 2, none⟩ = some (.slice Pb pn pc) ∧ W.cell? ⟨X, i * 2 + 1, none⟩ = some (.slice Pm pm pd) ∧ W.cell? ⟨Y, i, none⟩ = some (.slice Po po pe)) (HFC.out _ hV) (fun hF3 => ?_); clear hF2)
                  try simp only [Act.put, List.setIfInBounds_toArray, List.set_cons_zero, List.set_cons_succ]
                  refine wpAnyK_step (i := 11) rfl (by kernel_rfl) (by rfl) (fun K hK => ?_)
                  go_simp
                  (have f0 := hA.1.frozen 0; have f1 := hA.1.frozen 1; have c0 := hA.1.cell 0; have c1 := hA.1.cell 1; (try simp only [World.size_alloc, World.size_drew] at hBe); subst hBe; obtain ⟨hq1, hq2⟩ := hA.store (.slice Ac pn cc) (.slice Ad pm cd) hV; have hN1 := hNM.store2 hNB (.slice Ac pn cc) (.slice Ad pm cd); have hS1 := hSO.store2 hSB (.slice Ac pn cc) (.slice Ad pm cd); obtain ⟨hq3, hq4⟩ := NtB.last hV0 (.slice Ac pn cc) (.slice Ad pm cd); (try have hN3 := hNM0.allocN (.cells #[.slice Ac pn cc, .slice Ad pm cd] 25)); (try have hS3 := hSO0.alloc (.cells #[.slice Ac pn cc, .slice Ad pm cd] 25)); (try simp only [World.size_alloc, World.size_drew] at hq3); go_simp)
                  (refine hK _ _ (⟨fun _ _ => (by first | with_reducible exact HFC.out _ hq2 | with_reducible exact HFC.out _ hq4), fun h => absurd h (by decide)⟩) ?_; clear hK K)
                  (refine wpAnyK_with (F := fun W => W.cell? ⟨X, i * 2, none⟩ = some (.slice Pb pn pc) ∧ W.cell? ⟨X, i * 2 + 1, none⟩ = some (.slice Pm pm pd) ∧ W.cell? ⟨Y, i, none⟩ = some (.slice Po po pe)) ((by first | with_reducible exact HFC.out _ hq2 | with_reducible exact HFC.out _ hq4)) (fun hF4 => ?_); clear hF3)
                  try simp only [Act.put, List.setIfInBounds_toArray, List.set_cons_zero, List.set_cons_succ]
                  (refine wpAnyK_takeL Keep2.refl (i := 12) (v := ?_) rfl (by kernel_rfl) (by kernel_rfl) (by kernel_rfl) (fun _ _ _ h => h) (by rfl) ?_ ?_; rotate_left 1; focus (intro w; go_simp; try with_reducible rfl))
                  try simp only [Act.put, List.setIfInBounds_toArray, List.set_cons_zero, List.set_cons_succ]
                  refine wpAnyK_done (by kernel_rfl) ?_ _
                  go_wp2_with fail
                  go_meet
                  refine ⟨_, bb, bm, bo, cc, cd, ci, Ac, Ad, Ai, rfl, rfl, ?_, ?_, ?_, hci, ?_⟩ <;> with_reducible assumption
                · refine wpOp_of rfl (by rfl) (fun K hK => ?_)
                  go_simp
                  (obtain ⟨B, hBe, hA⟩ := NtB.newE hV; (try have hNB : (0 < pn → bb ≠ B) ∧ (0 < pm → bm ≠ B) := (by rw [hBe]; exact ⟨fun h => Nat.ne_of_lt (hNM.b.lt h), fun h => Nat.ne_of_lt (hNM.m.lt h)⟩)); (try have hSB : 0 < po → bo ≠ B := (by rw [hBe]; exact fun h => Nat.ne_of_lt (hSO.lt h))); (try have hNM0 := hNM); (try have hSO0 := hSO); have hV0 := hV; (try replace hNM := hNM.allocN (.cells #[.slice none 0 0, .slice none 0 0] 25)); (try replace hSO := hSO.alloc (.cells #[.slice none 0 0, .slice none 0 0] 25)); replace hV := hV.alloc hV.size (.cells #[.slice none 0 0, .slice none 0 0] 25))
                  (refine hK _ _ ⟨⟨fun _ _ => HFC.out _ hV, fun h => absurd h (by decide)⟩, ?_⟩; clear hK K)
                  (refine wpAnyK_with (F := fun W => W.cell? ⟨X, i * 2, none⟩ = some (.slice Pb pn pc) ∧ W.cell? ⟨X, i * 2 + 1, none⟩ = some (.slice Pm pm pd) ∧ W.cell? ⟨Y, i, none⟩ = some (.slice Po po pe)) (HFC.out _ hV) (fun hF5 => ?_); clear hF1)
                  try simp only [Act.put, List.setIfInBounds_toArray, List.set_cons_zero, List.set_cons_succ]
                  refine wpAnyK_step (i := 9) rfl (by kernel_rfl) (by rfl) (fun K hK => ?_)
                  go_simp
                  (refine (copyInts_any p3 po pe Po os _ (HXR.out _ hV).1.o (by omega)).mono ?_; rintro e w8 ⟨Ai, ci, rfl, hown, hB8⟩; obtain ⟨bo, hk3, hSO⟩ := Sl.of_own (enc := encI) encI_len HPO.out hown; have hci := own_capN hown; (try have hSB : 0 < po → bo ≠ B := fun _ => Ne.symm (Nat.ne_of_lt (Nat.lt_of_lt_of_le hA.1.lt hk3))); (try replace hA := hA.old hB8); replace hNM := hNM.old hB8; replace hV := hV.trans (hB8.mono hV.size); clear hown hk3 hB8)
                  (refine hK _ _ (⟨fun _ _ => HFC.out _ hV, fun h => absurd h (by decide)⟩) ?_; clear hK K)
                  (refine wpAnyK_with (F := fun W => W.cell? ⟨X, i * 2, none⟩ = some (.slice Pb pn pc) ∧ W.cell? ⟨X, i * 2 + 1, none⟩ = some (.slice Pm pm pd) ∧ W.cell? ⟨Y, i, none⟩ = some (.slice Po po pe)) (HFC.out _ hV) (fun hF6 => ?_); clear hF5)
                  try simp only [Act.put, List.setIfInBounds_toArray, List.set_cons_zero, List.set_cons_succ]
                  refine wpAnyK_step (i := 11) rfl (by kernel_rfl) (by rfl) (fun K hK => ?_)
                  go_simp
                  (have f0 := hA.1.frozen 0; have f1 := hA.1.frozen 1; have c0 := hA.1.cell 0; have c1 := hA.1.cell 1; (try simp only [World.size_alloc, World.size_drew] at hBe); subst hBe; obtain ⟨hq1, hq2⟩ := hA.store (.slice Ac pn cc) (.slice Ad pm cd) hV; have hN1 := hNM.store2 hNB (.slice Ac pn cc) (.slice Ad pm cd); have hS1 := hSO.store2 hSB (.slice Ac pn cc) (.slice Ad pm cd); obtain ⟨hq3, hq4⟩ := NtB.last hV0 (.slice Ac pn cc) (.slice Ad pm cd); (try have hN3 := hNM0.allocN (.cells #[.slice Ac pn cc, .slice Ad pm cd] 25)); (try have hS3 := hSO0.alloc (.cells #[.slice Ac pn cc, .slice Ad pm cd] 25)); (try simp only [World.size_alloc, World.size_drew] at hq3); go_simp)
                  (refine hK _ _ (⟨fun _ _ => (by first | with_reducible exact HFC.out _ hq2 | with_reducible exact HFC.out _ hq4), fun h => absurd h (by decide)⟩) ?_; clear hK K)
                  (refine wpAnyK_with (F := fun W => W.cell? ⟨X, i * 2, none⟩ = some (.slice Pb pn pc) ∧ W.cell? ⟨X, i * 2 + 1, none⟩ = some (.slice Pm pm pd) ∧ W.cell? ⟨Y, i, none⟩ = some (.slice Po po pe)) ((by first | with_reducible exact HFC.out _ hq2 | with_reducible exact HFC.out _ hq4)) (fun hF7 => ?_); clear hF6)
                  try simp only [Act.put, List.setIfInBounds_toArray, List.set_cons_zero, List.set_cons_succ]
                  (refine wpAnyK_takeL Keep2.refl (i := 12) (v := ?_) rfl (by kernel_rfl) (by kernel_rfl) (by kernel_rfl) (fun _ _ _ h => h) (by rfl) ?_ ?_; rotate_left 1; focus (intro w; go_simp; try with_reducible rfl))
                  try simp only [Act.put, List.setIfInBounds_toArray, List.set_cons_zero, List.set_cons_succ]
                  refine wpAnyK_done (by kernel_rfl) ?_ _
                  go_wp2_with fail
                  go_meet
                  refine ⟨_, bb, bm, bo, cc, cd, ci, Ac, Ad, Ai, rfl, rfl, ?_, ?_, ?_, hci, ?_⟩ <;> with_reducible assumption
              · refine wpOp_of rfl (by rfl) (fun K hK => ?_)
                go_simp
                (obtain ⟨B, hBe, hA⟩ := NtB.newE hV; (try have hNB : (0 < pn → bb ≠ B) ∧ (0 < pm → bm ≠ B) := (by rw [hBe]; exact ⟨fun h => Nat.ne_of_lt (hNM.b.lt h), fun h => Nat.ne_of_lt (hNM.m.lt h)⟩)); (try have hSB : 0 < po → bo ≠ B := (by rw [hBe]; exact fun h => Nat.ne_of_lt (hSO.lt h))); (try have hNM0 := hNM); (try have hSO0 := hSO); have hV0 := hV; (try replace hNM := hNM.allocN (.cells #[.slice none 0 0, .slice none 0 0] 25)); (try replace hSO := hSO.alloc (.cells #[.slice none 0 0, .slice none 0 0] 25)); replace hV := hV.alloc hV.size (.cells #[.slice none 0 0, .slice none 0 0] 25))
                (refine hK _ _ ⟨⟨fun _ _ => HFC.out _ hV, fun h => absurd h (by decide)⟩, ?_⟩; clear hK K)
                (refine wpAnyK_with (F := fun W => W.cell? ⟨X, i * 2, none⟩ = some (.slice Pb pn pc) ∧ W.cell? ⟨X, i * 2 + 1, none⟩ = some (.slice Pm pm pd) ∧ W.cell? ⟨Y, i, none⟩ = some (.slice Po po pe)) (HFC.out _ hV) (fun hF8 => ?_); clear hF0)
                try simp only [Act.put, List.setIfInBounds_toArray, List.set_cons_zero, List.set_cons_succ]
                refine wpAnyK_step (i := 4) rfl (by kernel_rfl) (by rfl) (fun K hK => ?_)
                go_simp
                (refine (copyNet_any p1 p2 Pb Pm pn pc pm pd ps qs _ (HXR.out _ hV).1.m (by omega) (by omega)).mono ?_; rintro e w7 hcp; obtain ⟨Ac, Ad, cc, cd, bb, bm, rfl, hNM, hk1, hk2, hB7⟩ := hcp.open HPN.out HPM.out; (try have hNB : (0 < pn → bb ≠ B) ∧ (0 < pm → bm ≠ B) := ⟨fun _ => Ne.symm (Nat.ne_of_lt (Nat.lt_of_lt_of_le hA.1.lt hk1)), fun _ => Ne.symm (Nat.ne_of_lt (Nat.lt_of_lt_of_le hA.1.lt hk2))⟩); (try replace hA := hA.old hB7); replace hV := hV.trans (hB7.mono hV.size); clear hcp hk1 hk2 hB7)
                (refine hK _ _ (⟨fun _ _ => HFC.out _ hV, fun h => absurd h (by decide)⟩) ?_; clear hK K)
                (refine wpAnyK_with (F := fun W => W.cell? ⟨X, i * 2, none⟩ = some (.slice Pb pn pc) ∧ W.cell? ⟨X, i * 2 + 1, none⟩ = some (.slice Pm pm pd) ∧ W.cell? ⟨Y, i, none⟩ = some (.slice Po po pe)) (HFC.out _ hV) (fun hF9 => ?_); clear hF8)
                try simp only [Act.put, List.setIfInBounds_toArray, List.set_cons_zero, List.set_cons_succ]
                refine wpAnyK_step (i := 9) rfl (by kernel_rfl) (by rfl) (fun K hK => ?_)
                go_simp
                (refine (copyInts_any p3 po pe Po os _ (HXR.out _ hV).1.o (by omega)).mono ?_; rintro e w8 ⟨Ai, ci, rfl, hown, hB8⟩; obtain ⟨bo, hk3, hSO⟩ := Sl.of_own (enc := encI) encI_len HPO.out hown; have hci := own_capN hown; (try have hSB : 0 < po → bo ≠ B := fun _ => Ne.symm (Nat.ne_of_lt (Nat.lt_of_lt_of_le hA.1.lt hk3))); (try replace hA := hA.old hB8); replace hNM := hNM.old hB8; replace hV := hV.trans (hB8.mono hV.size); clear hown hk3 hB8)
                (refine hK _ _ (⟨fun _ _ => HFC.out _ hV, fun h => absurd h (by decide)⟩) ?_; clear hK K)
                (refine wpAnyK_with (F := fun W => W.cell? ⟨X, i * 2, none⟩ = some (.slice Pb pn pc) ∧ W.cell? ⟨X, i * 2 + 1, none⟩ = some (.slice Pm pm pd) ∧ W.cell? ⟨Y, i, none⟩ = some (.slice Po po pe)) (HFC.out _ hV) (fun hF10 => ?_); clear hF9)
                try simp only [Act.put, List.setIfInBounds_toArray, List.set_cons_zero, List.set_cons_succ]
                refine wpAnyK_step (i := 11) rfl (by kernel_rfl) (by rfl) (fun K hK => ?_)
                go_simp
                (have f0 := hA.1.frozen 0; have f1 := hA.1.frozen 1; have c0 := hA.1.cell 0; have c1 := hA.1.cell 1; (try simp only [World.size_alloc, World.size_drew] at hBe); subst hBe; obtain ⟨hq1, hq2⟩ := hA.store (.slice Ac pn cc) (.slice Ad pm cd) hV; have hN1 := hNM.store2 hNB (.slice Ac pn cc) (.slice Ad pm cd); have hS1 := hSO.store2 hSB (.slice Ac pn cc) (.slice Ad pm cd); obtain ⟨hq3, hq4⟩ := NtB.last hV0 (.slice Ac pn cc) (.slice Ad pm cd); (try have hN3 := hNM0.allocN (.cells #[.slice Ac pn cc, .slice Ad pm cd] 25)); (try have hS3 := hSO0.alloc (.cells #[.slice Ac pn cc, .slice Ad pm cd] 25)); (try simp only [World.size_alloc, World.size_drew] at hq3); go_simp)
                (refine hK _ _ (⟨fun _ _ => (by first | with_reducible exact HFC.out _ hq2 | with_reducible exact HFC.out _ hq4), fun h => absurd h (by decide)⟩) ?_; clear hK K)
                (refine wpAnyK_with (F := fun W => W.cell? ⟨X, i * 2, none⟩ = some (.slice Pb pn pc) ∧ W.cell? ⟨X, i * 2 + 1, none⟩ = some (.slice Pm pm pd) ∧ W.cell? ⟨Y, i, none⟩ = some (.slice Po po pe)) ((by first | with_reducible exact HFC.out _ hq2 | with_reducible exact HFC.out _ hq4)) (fun hF11 => ?_); clear hF10)
                try simp only [Act.put, List.setIfInBounds_toArray, List.set_cons_zero, List.set_cons_succ]
                (refine wpAnyK_takeL Keep2.refl (i := 12) (v := ?_) rfl (by kernel_rfl) (by kernel_rfl) (by kernel_rfl) (fun _ _ _ h => h) (by rfl) ?_ ?_; rotate_left 1; focus (intro w; go_simp; try with_reducible rfl))
                try simp only [Act.put, List.setIfInBounds_toArray, List.set_cons_zero, List.set_cons_succ]
                refine wpAnyK_done (by kernel_rfl) ?_ _
                go_wp2_with fail
                go_meet
                refine ⟨_, bb, bm, bo, cc, cd, ci, Ac, Ad, Ai, rfl, rfl, ?_, ?_, ?_, hci, ?_⟩ <;> with_reducible assumption
            case rest =>
              obtain ⟨Bo, bb, bm, bo, cc, cd, ci, Ac, Ad, Ai, rfl, rfl, hNt, hNM, hSO, hci, hVc⟩ := hcut
              obtain ⟨wo, rfl⟩ : ∃ wo : World, wo = wc := ⟨_, rfl⟩
              have HNt := Lib.hid hNt.1
              have HVC := Lib.hid hVc
              have HNM := Lib.hid hNM
              have HSO := Lib.hid hSO
              have HCL := Lib.hid (fun (W : World) (hW : Below wo.heap.size wo W) => (show (W.cell? ⟨Bo, 0, none⟩ = some (.slice Ac pn cc) ∧ W.cell? ⟨Bo, 1, none⟩ = some (.slice Ad pm cd)) ∧ (W.cell? ⟨X, i * 2, none⟩ = some (.slice Pb pn pc) ∧ W.cell? ⟨X, i * 2 + 1, none⟩ = some (.slice Pm pm pd) ∧ W.cell? ⟨Y, i, none⟩ = some (.slice Po po pe) ∧ W.cell? ⟨Z, i, none⟩ = some (.int .i64 bt)) from
                ⟨⟨(HNt.out.below hW HNt.out.lt).cell 0, (HNt.out.below hW HNt.out.lt).cell 1⟩, (HXR.out W (HVC.out.trans (hW.mono HVC.out.size))).2⟩))
              have HXO := Lib.hid (fun (W : World) (hW : Below wo.heap.size wo W) => (HXR.out W (HVC.out.trans (hW.mono HVC.out.size))).1)
              have HC1 := Lib.hid (fun (W : World) (hW : Below wo.heap.size wo W) => recallU (w := W) (co := ci) (HNM.out.old hW) (by omega) (by omega) (HSO.out.old hW) (by omega))
              have HC2 := Lib.hid (fun (W : World) (hW : Below wo.heap.size wo W) => qrecallU (w := W) (co := pe) (HXO.out W hW).m (by show pn ≤ _; omega) (by show pm ≤ _; omega) (HXO.out W hW).o (by show po ≤ _; omega))
              have HC3 := Lib.hid (fun (W : World) (hW : Below wo.heap.size wo W) => originsU (w := W) (HNM.out.old hW) (by omega) (by omega) bt)
              have HC4 := Lib.hid (fun (W : World) (hW : Below wo.heap.size wo W) => qoriginsU (w := W) (HXO.out W hW).m (by show pn ≤ _; omega) (by show pm ≤ _; omega) bt)
              clear hNt hVc hNM hSO k0 k1 k2 k3
              generalize hck : chkB ps qs bt = ck at HC3 HC4
              generalize hco9 : chkO ps qs os = cq at HC1 HC2
              clear hck hco9
              obtain ⟨⟨d0, d1⟩, k0, k1, k2, k3⟩ := HCL.out wo (Below.refl _ _)
              go_upto_region 12 with (go_at_call 27; refine (HC1.out _ (Below.refl _ _)).mono ?_; rintro e v1 ⟨A1, n1, c1, r1, rfl, hs1, hn1, hb1⟩; have HS1 := Lib.hid hs1; have HB1 := Lib.hid hb1; clear hs1 hb1)
              clear d0 d1 k0 k1 k2 k3
              have hM : Below wo.heap.size wo v1.drew := HB1.out.drew
              refine wp_region_PL [3, 7] (fun W => (W.cell? ⟨Bo, 0, none⟩ = some (.slice Ac pn cc) ∧ W.cell? ⟨Bo, 1, none⟩ = some (.slice Ad pm cd)) ∧ (W.cell? ⟨X, i * 2, none⟩ = some (.slice Pb pn pc) ∧ W.cell? ⟨X, i * 2 + 1, none⟩ = some (.slice Pm pm pd) ∧ W.cell? ⟨Y, i, none⟩ = some (.slice Po po pe) ∧ W.cell? ⟨Z, i, none⟩ = some (.int .i64 bt))) rfl (by kernel_rfl) (HCL.out _ hM) (fun hF0 => ?_)
              (refine wpAnyP_takeL (i := 0) (v := ?_) rfl (by kernel_rfl) (by kernel_rfl) (by kernel_rfl) (fun _ _ _ h => h) (by rfl) ?_ ?_; rotate_left 1; focus (intro w; go_simp; try with_reducible rfl))
              try simp only [Act.put, List.setIfInBounds_toArray, List.set_cons_zero, List.set_cons_succ]
              (refine wpAnyP_takeL (i := 1) (v := ?_) rfl (by kernel_rfl) (by kernel_rfl) (by kernel_rfl) (fun _ _ _ h => h) (by rfl) ?_ ?_; rotate_left 1; focus (intro w; go_simp; try with_reducible rfl))
              try simp only [Act.put, List.setIfInBounds_toArray, List.set_cons_zero, List.set_cons_succ]
              (refine wpAnyP_takeL (i := 2) (v := ?_) rfl (by kernel_rfl) (by kernel_rfl) (by kernel_rfl) (fun _ _ _ h => h) (by rfl) ?_ ?_; rotate_left 1; focus (intro w; go_simp; try with_reducible rfl))
              try simp only [Act.put, List.setIfInBounds_toArray, List.set_cons_zero, List.set_cons_succ]
              (refine wpAnyP_loadL (i := 3) (v := ?_) rfl (by kernel_rfl) (by kernel_rfl) (by kernel_rfl) (by rfl) (fun _ _ _ h => h) hF0 (by rfl) ?_ ?_; rotate_left 1; focus (intro w hFw; (try dsimp only at hFw); go_split_ands; go_simp; try with_reducible rfl))
              try simp only [Act.put, List.setIfInBounds_toArray, List.set_cons_zero, List.set_cons_succ]
              (refine wpAnyP_takeL (i := 4) (v := ?_) rfl (by kernel_rfl) (by kernel_rfl) (by kernel_rfl) (fun _ _ _ h => h) (by rfl) ?_ ?_; rotate_left 1; focus (intro w; go_simp; try with_reducible rfl))
              try simp only [Act.put, List.setIfInBounds_toArray, List.set_cons_zero, List.set_cons_succ]
              (refine wpAnyP_takeL (i := 5) (v := ?_) rfl (by kernel_rfl) (by kernel_rfl) (by kernel_rfl) (fun _ _ _ h => h) (by rfl) ?_ ?_; rotate_left 1; focus (intro w; go_simp; try with_reducible rfl))
              try simp only [Act.put, List.setIfInBounds_toArray, List.set_cons_zero, List.set_cons_succ]
              (refine wpAnyP_takeL (i := 6) (v := ?_) rfl (by kernel_rfl) (by kernel_rfl) (by kernel_rfl) (fun _ _ _ h => h) (by rfl) ?_ ?_; rotate_left 1; focus (intro w; go_simp; try with_reducible rfl))
              try simp only [Act.put, List.setIfInBounds_toArray, List.set_cons_zero, List.set_cons_succ]
              (refine wpAnyP_loadL (i := 7) (v := ?_) rfl (by kernel_rfl) (by kernel_rfl) (by kernel_rfl) (by rfl) (fun _ _ _ h => h) hF0 (by rfl) ?_ ?_; rotate_left 1; focus (intro w hFw; (try dsimp only at hFw); go_split_ands; go_simp; try with_reducible rfl))
              try simp only [Act.put, List.setIfInBounds_toArray, List.set_cons_zero, List.set_cons_succ]
              refine wpAnyP_last (i := 8) rfl (by kernel_rfl) (by kernel_rfl) (by rfl) (fun K hK => ?_)
              go_simp
              (refine (HC2.out _ hM).mono ?_; rintro e v2 ⟨A2, n2, c2, r2, rfl, hs2, hn2, hb2⟩)
              (refine hK _ _ ?_; clear hK K)
              try simp only [Act.put, List.setIfInBounds_toArray, List.set_cons_zero, List.set_cons_succ]
              (refine wpAnyP_takeL (i := 9) (v := ?_) rfl (by kernel_rfl) (by kernel_rfl) (by kernel_rfl) (fun _ _ _ h => h) (by rfl) ?_ ?_; rotate_left 1; focus (intro w; go_simp; try with_reducible rfl))
              try simp only [Act.put, List.setIfInBounds_toArray, List.set_cons_zero, List.set_cons_succ]
              (refine wpAnyP_takeL (i := 10) (v := ?_) rfl (by kernel_rfl) (by kernel_rfl) (by kernel_rfl) (fun _ _ _ h => h) (by rfl) ?_ ?_; rotate_left 1; focus (intro w; go_simp; try with_reducible rfl))
              try simp only [Act.put, List.setIfInBounds_toArray, List.set_cons_zero, List.set_cons_succ]
              (refine wpAnyP_takeL (i := 11) (v := ?_) rfl (by kernel_rfl) (by kernel_rfl) (by kernel_rfl) (fun _ _ _ h => h) (by rfl) ?_ ?_; rotate_left 1; focus (intro w; go_simp; try with_reducible rfl))
              try simp only [Act.put, List.setIfInBounds_toArray, List.set_cons_zero, List.set_cons_succ]
              (refine wpAnyP_takeL (i := 12) (v := ?_) rfl (by kernel_rfl) (by kernel_rfl) (by kernel_rfl) (fun _ _ _ h => h) (by rfl) ?_ ?_; rotate_left 1; focus (intro w; go_simp; try with_reducible rfl))
              try simp only [Act.put, List.setIfInBounds_toArray, List.set_cons_zero, List.set_cons_succ]
              (refine wpAnyP_takeL (i := 13) (v := ?_) rfl (by kernel_rfl) (by kernel_rfl) (by kernel_rfl) (fun _ _ _ h => h) (by rfl) ?_ ?_; rotate_left 1; focus (intro w; go_simp; try with_reducible rfl))
              try simp only [Act.put, List.setIfInBounds_toArray, List.set_cons_zero, List.set_cons_succ]
              refine wpAnyP_done (by kernel_rfl) ?_ _
              have hb2 := ((Below.refl v1.heap.size v1).drew).trans hb2
              have HS2 := Lib.hid hs2
              have HT1 := Lib.hid (HS1.out.old hb2)
              have HB2 := Lib.hid (HB1.out.trans (hb2.mono HB1.out.size))
              clear hs2 hb2 hM
              go_upto_region 13 with fail
              have hM : Below wo.heap.size wo v2.drew := HB2.out.drew
              refine wp_region_PL [0, 4] (fun W => (W.cell? ⟨Bo, 0, none⟩ = some (.slice Ac pn cc) ∧ W.cell? ⟨Bo, 1, none⟩ = some (.slice Ad pm cd)) ∧ (W.cell? ⟨X, i * 2, none⟩ = some (.slice Pb pn pc) ∧ W.cell? ⟨X, i * 2 + 1, none⟩ = some (.slice Pm pm pd) ∧ W.cell? ⟨Y, i, none⟩ = some (.slice Po po pe) ∧ W.cell? ⟨Z, i, none⟩ = some (.int .i64 bt))) rfl (by kernel_rfl) (HCL.out _ hM) (fun hF0 => ?_)
              (refine wpAnyP_loadL (i := 0) (v := ?_) rfl (by kernel_rfl) (by kernel_rfl) (by kernel_rfl) (by rfl) (fun _ _ _ h => h) hF0 (by rfl) ?_ ?_; rotate_left 1; focus (intro w hFw; (try dsimp only at hFw); go_split_ands; go_simp; try with_reducible rfl))
              try simp only [Act.put, List.setIfInBounds_toArray, List.set_cons_zero, List.set_cons_succ]
              (refine wpAnyP_takeL (i := 1) (v := ?_) rfl (by kernel_rfl) (by kernel_rfl) (by kernel_rfl) (fun _ _ _ h => h) (by rfl) ?_ ?_; rotate_left 1; focus (intro w; go_simp; try with_reducible rfl))
              try simp only [Act.put, List.setIfInBounds_toArray, List.set_cons_zero, List.set_cons_succ]
              (refine wpAnyP_takeL (i := 2) (v := ?_) rfl (by kernel_rfl) (by kernel_rfl) (by kernel_rfl) (fun _ _ _ h => h) (by rfl) ?_ ?_; rotate_left 1; focus (intro w; go_simp; try with_reducible rfl))
              try simp only [Act.put, List.setIfInBounds_toArray, List.set_cons_zero, List.set_cons_succ]
              (refine wpAnyP_takeL (i := 3) (v := ?_) rfl (by kernel_rfl) (by kernel_rfl) (by kernel_rfl) (fun _ _ _ h => h) (by rfl) ?_ ?_; rotate_left 1; focus (intro w; go_simp; try with_reducible rfl))
              try simp only [Act.put, List.setIfInBounds_toArray, List.set_cons_zero, List.set_cons_succ]
              (refine wpAnyP_loadL (i := 4) (v := ?_) rfl (by kernel_rfl) (by kernel_rfl) (by kernel_rfl) (by rfl) (fun _ _ _ h => h) hF0 (by rfl) ?_ ?_; rotate_left 1; focus (intro w hFw; (try dsimp only at hFw); go_split_ands; go_simp; try with_reducible rfl))
              try simp only [Act.put, List.setIfInBounds_toArray, List.set_cons_zero, List.set_cons_succ]
              refine wpAnyP_last (i := 5) rfl (by kernel_rfl) (by kernel_rfl) (by rfl) (fun K hK => ?_)
              go_simp
              (refine (HC3.out _ hM).mono ?_; rintro e v3 ⟨A3, n3, c3, r3, rfl, hs3, hn3, hb3⟩)
              (refine hK _ _ ?_; clear hK K)
              try simp only [Act.put, List.setIfInBounds_toArray, List.set_cons_zero, List.set_cons_succ]
              (refine wpAnyP_takeL (i := 6) (v := ?_) rfl (by kernel_rfl) (by kernel_rfl) (by kernel_rfl) (fun _ _ _ h => h) (by rfl) ?_ ?_; rotate_left 1; focus (intro w; go_simp; try with_reducible rfl))
              try simp only [Act.put, List.setIfInBounds_toArray, List.set_cons_zero, List.set_cons_succ]
              (refine wpAnyP_takeL (i := 7) (v := ?_) rfl (by kernel_rfl) (by kernel_rfl) (by kernel_rfl) (fun _ _ _ h => h) (by rfl) ?_ ?_; rotate_left 1; focus (intro w; go_simp; try with_reducible rfl))
              try simp only [Act.put, List.setIfInBounds_toArray, List.set_cons_zero, List.set_cons_succ]
              (refine wpAnyP_takeL (i := 8) (v := ?_) rfl (by kernel_rfl) (by kernel_rfl) (by kernel_rfl) (fun _ _ _ h => h) (by rfl) ?_ ?_; rotate_left 1; focus (intro w; go_simp; try with_reducible rfl))
              try simp only [Act.put, List.setIfInBounds_toArray, List.set_cons_zero, List.set_cons_succ]
              (refine wpAnyP_takeL (i := 9) (v := ?_) rfl (by kernel_rfl) (by kernel_rfl) (by kernel_rfl) (fun _ _ _ h => h) (by rfl) ?_ ?_; rotate_left 1; focus (intro w; go_simp; try with_reducible rfl))
              try simp only [Act.put, List.setIfInBounds_toArray, List.set_cons_zero, List.set_cons_succ]
              (refine wpAnyP_takeL (i := 10) (v := ?_) rfl (by kernel_rfl) (by kernel_rfl) (by kernel_rfl) (fun _ _ _ h => h) (by rfl) ?_ ?_; rotate_left 1; focus (intro w; go_simp; try with_reducible rfl))
              try simp only [Act.put, List.setIfInBounds_toArray, List.set_cons_zero, List.set_cons_succ]
              refine wpAnyP_done (by kernel_rfl) ?_ _
              have hb3 := ((Below.refl v2.heap.size v2).drew).trans hb3
              have HS3 := Lib.hid hs3
              have HT2 := Lib.hid (And.intro (HT1.out.old hb3) (HS2.out.old hb3))
              have HB3' := Lib.hid (HB2.out.trans (hb3.mono HB2.out.size))
              clear hs3 hb3 hM
              go_upto_region 14 with fail
              have hM : Below wo.heap.size wo v3.drew := HB3'.out.drew
              refine wp_region_PL [3, 7] (fun W => (W.cell? ⟨Bo, 0, none⟩ = some (.slice Ac pn cc) ∧ W.cell? ⟨Bo, 1, none⟩ = some (.slice Ad pm cd)) ∧ (W.cell? ⟨X, i * 2, none⟩ = some (.slice Pb pn pc) ∧ W.cell? ⟨X, i * 2 + 1, none⟩ = some (.slice Pm pm pd) ∧ W.cell? ⟨Y, i, none⟩ = some (.slice Po po pe) ∧ W.cell? ⟨Z, i, none⟩ = some (.int .i64 bt))) rfl (by kernel_rfl) (HCL.out _ hM) (fun hF0 => ?_)
              (refine wpAnyP_takeL (i := 0) (v := ?_) rfl (by kernel_rfl) (by kernel_rfl) (by kernel_rfl) (fun _ _ _ h => h) (by rfl) ?_ ?_; rotate_left 1; focus (intro w; go_simp; try with_reducible rfl))
              try simp only [Act.put, List.setIfInBounds_toArray, List.set_cons_zero, List.set_cons_succ]
              (refine wpAnyP_takeL (i := 1) (v := ?_) rfl (by kernel_rfl) (by kernel_rfl) (by kernel_rfl) (fun _ _ _ h => h) (by rfl) ?_ ?_; rotate_left 1; focus (intro w; go_simp; try with_reducible rfl))
              try simp only [Act.put, List.setIfInBounds_toArray, List.set_cons_zero, List.set_cons_succ]
              (refine wpAnyP_takeL (i := 2) (v := ?_) rfl (by kernel_rfl) (by kernel_rfl) (by kernel_rfl) (fun _ _ _ h => h) (by rfl) ?_ ?_; rotate_left 1; focus (intro w; go_simp; try with_reducible rfl))
              try simp only [Act.put, List.setIfInBounds_toArray, List.set_cons_zero, List.set_cons_succ]
              (refine wpAnyP_loadL (i := 3) (v := ?_) rfl (by kernel_rfl) (by kernel_rfl) (by kernel_rfl) (by rfl) (fun _ _ _ h => h) hF0 (by rfl) ?_ ?_; rotate_left 1; focus (intro w hFw; (try dsimp only at hFw); go_split_ands; go_simp; try with_reducible rfl))
              try simp only [Act.put, List.setIfInBounds_toArray, List.set_cons_zero, List.set_cons_succ]
              (refine wpAnyP_takeL (i := 4) (v := ?_) rfl (by kernel_rfl) (by kernel_rfl) (by kernel_rfl) (fun _ _ _ h => h) (by rfl) ?_ ?_; rotate_left 1; focus (intro w; go_simp; try with_reducible rfl))
              try simp only [Act.put, List.setIfInBounds_toArray, List.set_cons_zero, List.set_cons_succ]
              (refine wpAnyP_takeL (i := 5) (v := ?_) rfl (by kernel_rfl) (by kernel_rfl) (by kernel_rfl) (fun _ _ _ h => h) (by rfl) ?_ ?_; rotate_left 1; focus (intro w; go_simp; try with_reducible rfl))
              try simp only [Act.put, List.setIfInBounds_toArray, List.set_cons_zero, List.set_cons_succ]
              (refine wpAnyP_takeL (i := 6) (v := ?_) rfl (by kernel_rfl) (by kernel_rfl) (by kernel_rfl) (fun _ _ _ h => h) (by rfl) ?_ ?_; rotate_left 1; focus (intro w; go_simp; try with_reducible rfl))
              try simp only [Act.put, List.setIfInBounds_toArray, List.set_cons_zero, List.set_cons_succ]
              (refine wpAnyP_loadL (i := 7) (v := ?_) rfl (by kernel_rfl) (by kernel_rfl) (by kernel_rfl) (by rfl) (fun _ _ _ h => h) hF0 (by rfl) ?_ ?_; rotate_left 1; focus (intro w hFw; (try dsimp only at hFw); go_split_ands; go_simp; try with_reducible rfl))
              try simp only [Act.put, List.setIfInBounds_toArray, List.set_cons_zero, List.set_cons_succ]
              refine wpAnyP_last (i := 8) rfl (by kernel_rfl) (by kernel_rfl) (by rfl) (fun K hK => ?_)
              go_simp
              (refine (HC4.out _ hM).mono ?_; rintro e v4 ⟨A4, n4, c4, r4, rfl, hs4, hn4, hb4'⟩)
              (refine hK _ _ ?_; clear hK K)
              try simp only [Act.put, List.setIfInBounds_toArray, List.set_cons_zero, List.set_cons_succ]
              (refine wpAnyP_takeL (i := 9) (v := ?_) rfl (by kernel_rfl) (by kernel_rfl) (by kernel_rfl) (fun _ _ _ h => h) (by rfl) ?_ ?_; rotate_left 1; focus (intro w; go_simp; try with_reducible rfl))
              try simp only [Act.put, List.setIfInBounds_toArray, List.set_cons_zero, List.set_cons_succ]
              (refine wpAnyP_takeL (i := 10) (v := ?_) rfl (by kernel_rfl) (by kernel_rfl) (by kernel_rfl) (fun _ _ _ h => h) (by rfl) ?_ ?_; rotate_left 1; focus (intro w; go_simp; try with_reducible rfl))
              try simp only [Act.put, List.setIfInBounds_toArray, List.set_cons_zero, List.set_cons_succ]
              (refine wpAnyP_takeL (i := 11) (v := ?_) rfl (by kernel_rfl) (by kernel_rfl) (by kernel_rfl) (fun _ _ _ h => h) (by rfl) ?_ ?_; rotate_left 1; focus (intro w; go_simp; try with_reducible rfl))
              try simp only [Act.put, List.setIfInBounds_toArray, List.set_cons_zero, List.set_cons_succ]
              (refine wpAnyP_takeL (i := 12) (v := ?_) rfl (by kernel_rfl) (by kernel_rfl) (by kernel_rfl) (fun _ _ _ h => h) (by rfl) ?_ ?_; rotate_left 1; focus (intro w; go_simp; try with_reducible rfl))
              try simp only [Act.put, List.setIfInBounds_toArray, List.set_cons_zero, List.set_cons_succ]
              (refine wpAnyP_takeL (i := 13) (v := ?_) rfl (by kernel_rfl) (by kernel_rfl) (by kernel_rfl) (fun _ _ _ h => h) (by rfl) ?_ ?_; rotate_left 1; focus (intro w; go_simp; try with_reducible rfl))
              try simp only [Act.put, List.setIfInBounds_toArray, List.set_cons_zero, List.set_cons_succ]
              refine wpAnyP_done (by kernel_rfl) ?_ _
              have hb4' := ((Below.refl v3.heap.size v3).drew).trans hb4'
              have HT3 := Lib.hid (And.intro (And.intro (HT2.out.1.old hb4') (HT2.out.2.old hb4')) (And.intro (HS3.out.old hb4') hs4))
              have HB4' := Lib.hid (HB3'.out.trans (hb4'.mono HB3'.out.size))
              clear hs4 hb4' hM
              go_upto_region 15 with fail
              have hM : Below wo.heap.size wo v4.drew := HB4'.out.drew
              have hV6 : Below v4.heap.size v4 v4.drew := (Below.refl _ v4).drew
              refine wp_region_PL [21, 25, 34] (fun W => (W.cell? ⟨Bo, 0, none⟩ = some (.slice Ac pn cc) ∧ W.cell? ⟨Bo, 1, none⟩ = some (.slice Ad pm cd)) ∧ (W.cell? ⟨X, i * 2, none⟩ = some (.slice Pb pn pc) ∧ W.cell? ⟨X, i * 2 + 1, none⟩ = some (.slice Pm pm pd) ∧ W.cell? ⟨Y, i, none⟩ = some (.slice Po po pe) ∧ W.cell? ⟨Z, i, none⟩ = some (.int .i64 bt))) rfl (by kernel_rfl) (HCL.out _ hM) (fun hF0 => ?_)
              (refine wpAnyP_takeL (i := 0) (v := ?_) rfl (by kernel_rfl) (by kernel_rfl) (by kernel_rfl) (fun _ _ _ h => h) (by rfl) ?_ ?_; rotate_left 1; focus (intro w; go_simp; try with_reducible rfl))
              try simp only [Act.put, List.setIfInBounds_toArray, List.set_cons_zero, List.set_cons_succ]
              (refine wpAnyP_takeL (i := 1) (v := ?_) rfl (by kernel_rfl) (by kernel_rfl) (by kernel_rfl) (fun _ _ _ h => h) (by rfl) ?_ ?_; rotate_left 1; focus (intro w; go_simp; try with_reducible rfl))
              try simp only [Act.put, List.setIfInBounds_toArray, List.set_cons_zero, List.set_cons_succ]
              (refine wpAnyP_takeL (i := 2) (v := ?_) rfl (by kernel_rfl) (by kernel_rfl) (by kernel_rfl) (fun _ _ _ h => h) (by rfl) ?_ ?_; rotate_left 1; focus (intro w; go_simp; try with_reducible rfl))
              try simp only [Act.put, List.setIfInBounds_toArray, List.set_cons_zero, List.set_cons_succ]
              (refine wpAnyP_takeL (i := 3) (v := ?_) rfl (by kernel_rfl) (by kernel_rfl) (by kernel_rfl) (fun _ _ _ h => h) (by rfl) ?_ ?_; rotate_left 1; focus (intro w; go_simp; try with_reducible rfl))
              try simp only [Act.put, List.setIfInBounds_toArray, List.set_cons_zero, List.set_cons_succ]
              (refine wpAnyP_takeL (i := 4) (v := ?_) rfl (by kernel_rfl) (by kernel_rfl) (by kernel_rfl) (fun _ _ _ h => h) (by rfl) ?_ ?_; rotate_left 1; focus (intro w; go_simp; try with_reducible rfl))
              try simp only [Act.put, List.setIfInBounds_toArray, List.set_cons_zero, List.set_cons_succ]
              (refine wpAnyP_takeL (i := 5) (v := ?_) rfl (by kernel_rfl) (by kernel_rfl) (by kernel_rfl) (fun _ _ _ h => h) (by rfl) ?_ ?_; rotate_left 1; focus (intro w; go_simp; try with_reducible rfl))
              try simp only [Act.put, List.setIfInBounds_toArray, List.set_cons_zero, List.set_cons_succ]
              (refine wpAnyP_takeL (i := 6) (v := ?_) rfl (by kernel_rfl) (by kernel_rfl) (by kernel_rfl) (fun _ _ _ h => h) (by rfl) ?_ ?_; rotate_left 1; focus (intro w; go_simp; try with_reducible rfl))
              try simp only [Act.put, List.setIfInBounds_toArray, List.set_cons_zero, List.set_cons_succ]
              (refine wpAnyP_takeL (i := 7) (v := ?_) rfl (by kernel_rfl) (by kernel_rfl) (by kernel_rfl) (fun _ _ _ h => h) (by rfl) ?_ ?_; rotate_left 1; focus (intro w; go_simp; try with_reducible rfl))
              try simp only [Act.put, List.setIfInBounds_toArray, List.set_cons_zero, List.set_cons_succ]
              (refine wpAnyP_takeL (i := 8) (v := ?_) rfl (by kernel_rfl) (by kernel_rfl) (by kernel_rfl) (fun _ _ _ h => h) (by rfl) ?_ ?_; rotate_left 1; focus (intro w; go_simp; try with_reducible rfl))
              try simp only [Act.put, List.setIfInBounds_toArray, List.set_cons_zero, List.set_cons_succ]
              (refine wpAnyP_takeL (i := 9) (v := ?_) rfl (by kernel_rfl) (by kernel_rfl) (by kernel_rfl) (fun _ _ _ h => h) (by rfl) ?_ ?_; rotate_left 1; focus (intro w; go_simp; try with_reducible rfl))
              try simp only [Act.put, List.setIfInBounds_toArray, List.set_cons_zero, List.set_cons_succ]
              (refine wpAnyP_takeL (i := 10) (v := ?_) rfl (by kernel_rfl) (by kernel_rfl) (by kernel_rfl) (fun _ _ _ h => h) (by rfl) ?_ ?_; rotate_left 1; focus (intro w; go_simp; try with_reducible rfl))
              try simp only [Act.put, List.setIfInBounds_toArray, List.set_cons_zero, List.set_cons_succ]
              refine wpAnyP_step (i := 11) rfl (by kernel_rfl) (by rfl) (fun K hK => ?_)
              go_simp
              (refine (sameInts_any r1 r2 n1 n2 c1 c2 A1 A2 _ _ _ (HT3.out.1.1.old hV6) (HT3.out.1.2.old hV6) (by omega)).mono ?_; rw [decide_eq_true rfl]; rintro e v9 ⟨rfl, hb9⟩; have hM := hM.trans (hb9.mono hM.size); have hV6 := hV6.trans (hb9.mono hV6.size); clear hb9)
              (refine hK _ _ (HCL.out _ hM) (fun hF1 => ?_); clear hK K hF0)
              try simp only [Act.put, List.setIfInBounds_toArray, List.set_cons_zero, List.set_cons_succ]
              (refine wpAnyP_takeL (i := 12) (v := ?_) rfl (by kernel_rfl) (by kernel_rfl) (by kernel_rfl) (fun _ _ _ h => h) (by rfl) ?_ ?_; rotate_left 1; focus (intro w; go_simp; try with_reducible rfl))
              try simp only [Act.put, List.setIfInBounds_toArray, List.set_cons_zero, List.set_cons_succ]
              (refine wpAnyP_takeL (i := 13) (v := ?_) rfl (by kernel_rfl) (by kernel_rfl) (by kernel_rfl) (fun _ _ _ h => h) (by rfl) ?_ ?_; rotate_left 1; focus (intro w; go_simp; try with_reducible rfl))
              try simp only [Act.put, List.setIfInBounds_toArray, List.set_cons_zero, List.set_cons_succ]
              (refine wpAnyP_takeL (i := 14) (v := ?_) rfl (by kernel_rfl) (by kernel_rfl) (by kernel_rfl) (fun _ _ _ h => h) (by rfl) ?_ ?_; rotate_left 1; focus (intro w; go_simp; try with_reducible rfl))
              try simp only [Act.put, List.setIfInBounds_toArray, List.set_cons_zero, List.set_cons_succ]
              (refine wpAnyP_takeL (i := 15) (v := ?_) rfl (by kernel_rfl) (by kernel_rfl) (by kernel_rfl) (fun _ _ _ h => h) (by rfl) ?_ ?_; rotate_left 1; focus (intro w; go_simp; try with_reducible rfl))
              try simp only [Act.put, List.setIfInBounds_toArray, List.set_cons_zero, List.set_cons_succ]
              (refine wpAnyP_takeL (i := 16) (v := ?_) rfl (by kernel_rfl) (by kernel_rfl) (by kernel_rfl) (fun _ _ _ h => h) (by rfl) ?_ ?_; rotate_left 1; focus (intro w; go_simp; try with_reducible rfl))
              try simp only [Act.put, List.setIfInBounds_toArray, List.set_cons_zero, List.set_cons_succ]
              refine wpAnyP_step (i := 17) rfl (by kernel_rfl) (by rfl) (fun K hK => ?_)
              go_simp
              (refine (sameInts_any r3 r4 n3 n4 c3 c4 A3 A4 _ _ _ (HT3.out.2.1.old hV6) (HT3.out.2.2.old hV6) (by omega)).mono ?_; rw [decide_eq_true rfl]; rintro e v10 ⟨rfl, hb10⟩; have hM := hM.trans (hb10.mono hM.size); clear hb10 hV6)
              (refine hK _ _ (HCL.out _ hM) (fun hF2 => ?_); clear hK K hF1)
              try simp only [Act.put, List.setIfInBounds_toArray, List.set_cons_zero, List.set_cons_succ]
              (refine wpAnyP_takeL (i := 18) (v := ?_) rfl (by kernel_rfl) (by kernel_rfl) (by kernel_rfl) (fun _ _ _ h => h) (by rfl) ?_ ?_; rotate_left 1; focus (intro w; go_simp; try with_reducible rfl))
              try simp only [Act.put, List.setIfInBounds_toArray, List.set_cons_zero, List.set_cons_succ]
              (refine wpAnyP_takeL (i := 19) (v := ?_) rfl (by kernel_rfl) (by kernel_rfl) (by kernel_rfl) (fun _ _ _ h => h) (by rfl) ?_ ?_; rotate_left 1; focus (intro w; go_simp; try with_reducible rfl))
              try simp only [Act.put, List.setIfInBounds_toArray, List.set_cons_zero, List.set_cons_succ]
              (refine wpAnyP_takeL (i := 20) (v := ?_) rfl (by kernel_rfl) (by kernel_rfl) (by kernel_rfl) (fun _ _ _ h => h) (by rfl) ?_ ?_; rotate_left 1; focus (intro w; go_simp; try with_reducible rfl))
              try simp only [Act.put, List.setIfInBounds_toArray, List.set_cons_zero, List.set_cons_succ]
              (refine wpAnyP_loadL (i := 21) (v := ?_) rfl (by kernel_rfl) (by kernel_rfl) (by kernel_rfl) (by rfl) (fun _ _ _ h => h) hF2 (by rfl) ?_ ?_; rotate_left 1; focus (intro w hFw; (try dsimp only at hFw); go_split_ands; go_simp; try with_reducible rfl))
              try simp only [Act.put, List.setIfInBounds_toArray, List.set_cons_zero, List.set_cons_succ]
              (refine wpAnyP_takeL (i := 22) (v := ?_) rfl (by kernel_rfl) (by kernel_rfl) (by kernel_rfl) (fun _ _ _ h => h) (by rfl) ?_ ?_; rotate_left 1; focus (intro w; go_simp; try with_reducible rfl))
              try simp only [Act.put, List.setIfInBounds_toArray, List.set_cons_zero, List.set_cons_succ]
              (refine wpAnyP_takeL (i := 23) (v := ?_) rfl (by kernel_rfl) (by kernel_rfl) (by kernel_rfl) (fun _ _ _ h => h) (by rfl) ?_ ?_; rotate_left 1; focus (intro w; go_simp; try with_reducible rfl))
              try simp only [Act.put, List.setIfInBounds_toArray, List.set_cons_zero, List.set_cons_succ]
              (refine wpAnyP_takeL (i := 24) (v := ?_) rfl (by kernel_rfl) (by kernel_rfl) (by kernel_rfl) (fun _ _ _ h => h) (by rfl) ?_ ?_; rotate_left 1; focus (intro w; go_simp; try with_reducible rfl))
              try simp only [Act.put, List.setIfInBounds_toArray, List.set_cons_zero, List.set_cons_succ]
              (refine wpAnyP_loadL (i := 25) (v := ?_) rfl (by kernel_rfl) (by kernel_rfl) (by kernel_rfl) (by rfl) (fun _ _ _ h => h) hF2 (by rfl) ?_ ?_; rotate_left 1; focus (intro w hFw; (try dsimp only at hFw); go_split_ands; go_simp; try with_reducible rfl))
              try simp only [Act.put, List.setIfInBounds_toArray, List.set_cons_zero, List.set_cons_succ]
              refine wpAnyP_step (i := 26) rfl (by kernel_rfl) (by rfl) (fun K hK => ?_)
              go_simp
              (refine (sameNets_any bb bm p1 p2 Ac Ad Pb Pm pn cc pm cd pn pc pm pd ps ps qs qs _ (HNM.out.old hM) (HXO.out _ hM).m (by omega) (by omega)).mono ?_; rw [decide_eq_true rfl, decide_eq_true rfl]; rintro e v12 ⟨rfl, hb12⟩; have hM := hM.trans (hb12.mono hM.size); clear hb12)
              (refine hK _ _ (HCL.out _ hM) (fun hF3 => ?_); clear hK K hF2)
              try simp only [Act.put, List.setIfInBounds_toArray, List.set_cons_zero, List.set_cons_succ]
              (refine wpAnyP_takeL (i := 27) (v := ?_) rfl (by kernel_rfl) (by kernel_rfl) (by kernel_rfl) (fun _ _ _ h => h) (by rfl) ?_ ?_; rotate_left 1; focus (intro w; go_simp; try with_reducible rfl))
              try simp only [Act.put, List.setIfInBounds_toArray, List.set_cons_zero, List.set_cons_succ]
              (refine wpAnyP_takeL (i := 28) (v := ?_) rfl (by kernel_rfl) (by kernel_rfl) (by kernel_rfl) (fun _ _ _ h => h) (by rfl) ?_ ?_; rotate_left 1; focus (intro w; go_simp; try with_reducible rfl))
              try simp only [Act.put, List.setIfInBounds_toArray, List.set_cons_zero, List.set_cons_succ]
              (refine wpAnyP_takeL (i := 29) (v := ?_) rfl (by kernel_rfl) (by kernel_rfl) (by kernel_rfl) (fun _ _ _ h => h) (by rfl) ?_ ?_; rotate_left 1; focus (intro w; go_simp; try with_reducible rfl))
              try simp only [Act.put, List.setIfInBounds_toArray, List.set_cons_zero, List.set_cons_succ]
              (refine wpAnyP_takeL (i := 30) (v := ?_) rfl (by kernel_rfl) (by kernel_rfl) (by kernel_rfl) (fun _ _ _ h => h) (by rfl) ?_ ?_; rotate_left 1; focus (intro w; go_simp; try with_reducible rfl))
              try simp only [Act.put, List.setIfInBounds_toArray, List.set_cons_zero, List.set_cons_succ]
              (refine wpAnyP_takeL (i := 31) (v := ?_) rfl (by kernel_rfl) (by kernel_rfl) (by kernel_rfl) (fun _ _ _ h => h) (by rfl) ?_ ?_; rotate_left 1; focus (intro w; go_simp; try with_reducible rfl))
              try simp only [Act.put, List.setIfInBounds_toArray, List.set_cons_zero, List.set_cons_succ]
              (refine wpAnyP_takeL (i := 32) (v := ?_) rfl (by kernel_rfl) (by kernel_rfl) (by kernel_rfl) (fun _ _ _ h => h) (by rfl) ?_ ?_; rotate_left 1; focus (intro w; go_simp; try with_reducible rfl))
              try simp only [Act.put, List.setIfInBounds_toArray, List.set_cons_zero, List.set_cons_succ]
              (refine wpAnyP_takeL (i := 33) (v := ?_) rfl (by kernel_rfl) (by kernel_rfl) (by kernel_rfl) (fun _ _ _ h => h) (by rfl) ?_ ?_; rotate_left 1; focus (intro w; go_simp; try with_reducible rfl))
              try simp only [Act.put, List.setIfInBounds_toArray, List.set_cons_zero, List.set_cons_succ]
              (refine wpAnyP_loadL (i := 34) (v := ?_) rfl (by kernel_rfl) (by kernel_rfl) (by kernel_rfl) (by rfl) (fun _ _ _ h => h) hF3 (by rfl) ?_ ?_; rotate_left 1; focus (intro w hFw; (try dsimp only at hFw); go_split_ands; go_simp; try with_reducible rfl))
              try simp only [Act.put, List.setIfInBounds_toArray, List.set_cons_zero, List.set_cons_succ]
              refine wpAnyP_step (i := 35) rfl (by kernel_rfl) (by rfl) (fun K hK => ?_)
              go_simp
              (refine (sameInts_any bo p3 po po ci pe Ai Po os os _ (HSO.out.old hM) (HXO.out _ hM).o (by omega)).mono ?_; rw [decide_eq_true rfl]; rintro e v13 ⟨rfl, hb13⟩; have hM := hM.trans (hb13.mono hM.size); clear hb13)
              (refine hK _ _ (HCL.out _ hM) (fun hF4 => ?_); clear hK K hF3)
              try simp only [Act.put, List.setIfInBounds_toArray, List.set_cons_zero, List.set_cons_succ]
              (refine wpAnyP_takeL (i := 36) (v := ?_) rfl (by kernel_rfl) (by kernel_rfl) (by kernel_rfl) (fun _ _ _ h => h) (by rfl) ?_ ?_; rotate_left 1; focus (intro w; go_simp; try with_reducible rfl))
              try simp only [Act.put, List.setIfInBounds_toArray, List.set_cons_zero, List.set_cons_succ]
              (refine wpAnyP_takeL (i := 37) (v := ?_) rfl (by kernel_rfl) (by kernel_rfl) (by kernel_rfl) (fun _ _ _ h => h) (by rfl) ?_ ?_; rotate_left 1; focus (intro w; go_simp; try with_reducible rfl))
              try simp only [Act.put, List.setIfInBounds_toArray, List.set_cons_zero, List.set_cons_succ]
              refine wpAnyP_done (by kernel_rfl) ?_ _
              have HBE := Lib.hid (HBR.out.trans ((HVC.out.trans (hM.mono HVC.out.size)).mono HBR.out.size))
              clear hM
              go_wp2_with fail
              go_roundw
              case rel => exact ⟨i + 1, by omega, by go_num, HBE.out⟩
              case measure => simp [intOf]; omega
          · obtain rfl : i = 3 := by omega
            go_wp2_with fail
            refine (kawake_any _).mono ?_
            rintro e w9 ⟨rfl, hB9⟩
            have HB9 := Lib.hid hB9
            clear hB9
            go_wp2_with fail
            go_ret
            have h1 := HWL.out.trans (HBR.out.mono HWL.out.size)
            exact ⟨rfl, h1.trans (HB9.out.mono h1.size)⟩
    · have dno : decide ((20 : Int) < (no : Int)) = true := by simp; omega
      go_enter Try.func9, Try.ntmps9
      go_wp2_with (first | (go_at_call 13; refine (HVA.out _).mono ?_; rintro e w1 ⟨rfl, hb1⟩; have HB1 := Lib.hid hb1; clear hb1) | (go_at_call 14; refine (kawake_any _).mono ?_; rintro e w2 ⟨rfl, hb2⟩; have HB2 := Lib.hid hb2; clear hb2))
      go_ret
      exact ⟨rfl, HB0.out.trans ((HB1.out.trans (HB2.out.mono HB1.out.size)).mono (by simp))⟩
  · rw [vast_yes hv] at hva
    have HVA := Lib.hid hva
    clear hva hv
    go_enter Try.func9, Try.ntmps9
    go_wp2_with (first | (go_at_call 13; refine (HVA.out _).mono ?_; rintro e w1 ⟨rfl, hb1⟩; have HB1 := Lib.hid hb1; clear hb1) | (go_at_call 14; refine (kawake_any _).mono ?_; rintro e w2 ⟨rfl, hb2⟩; have HB2 := Lib.hid hb2; clear hb2))
    go_ret
    exact ⟨rfl, HB0.out.trans ((HB1.out.trans (HB2.out.mono HB1.out.size)).mono (by simp))⟩
end Go.Proofs.Ytkphgdkjjklajaa
