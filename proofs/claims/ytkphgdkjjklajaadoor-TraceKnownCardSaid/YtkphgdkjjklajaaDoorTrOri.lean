/-
  trace.Origins: the origins of which a batch may hold some.
-/
import Derived.Test.YtkphgdkjjklajaaDoorTrRec
set_option linter.unusedVariables false
set_option linter.unusedSimpArgs false
namespace Go.Proofs.YtkphgdkjjklajaaDoor
open Go.RowKit Go.Shelf Go.Sort

def oriT (bs : List Int) (ms : List Mv) (batch : Int) (k : Nat) : List Int := (rg k).filter fun o => decide (0 < mostF bs.length (bsF bs) [o] ms batch)
theorem oriT_yes {bs : List Int} {ms : List Mv} {batch : Int} {k : Nat} (h : 0 < mostF bs.length (bsF bs) [(k : Int)] ms batch) : oriT bs ms batch (k + 1) = oriT bs ms batch k ++ [(k : Int)] := by
  unfold oriT; rw [rg_snoc, List.filter_append]; simp [h]
theorem oriT_no {bs : List Int} {ms : List Mv} {batch : Int} {k : Nat} (h : ¬ 0 < mostF bs.length (bsF bs) [(k : Int)] ms batch) : oriT bs ms batch (k + 1) = oriT bs ms batch k := by
  unfold oriT; rw [rg_snoc, List.filter_append]; simp [h]
theorem oriT_len (bs : List Int) (ms : List Mv) (batch : Int) (k : Nat) : (oriT bs ms batch k).length ≤ k := by
  unfold oriT
  refine Nat.le_trans (List.length_filter_le ..) ?_
  rw [rg_length]; exact Nat.le_refl _

set_option maxRecDepth 100000 in
set_option maxHeartbeats 4000000 in
theorem Origins_ok (b1 b2 : Nat) (Ab Am : Option Addr) (nb cb nm cm : Nat) (bs : List Int) (ms : List Mv) (batch : Nat) (w : World) (hM : NetM w b1 b2 Ab Am nb cb nm cm bs ms) (hc : chkNet bs ms = 0) (hb : batch < bs.length) :
    Calls Tryd.prog 14 #[netV Ab Am nb cb nm cm, .int .i64 batch] w fun e w' => ∃ A c, e = .returned (.tuple #[.slice A (originsT bs ms batch).length c, .int .i64 0]) ∧ w'.ownsRow w.heap.size 3 1 (.slice A (originsT bs ms batch).length c) (originsT bs ms batch).length ((originsT bs ms batch).flatMap encI) ∧ Below w.heap.size w w' := by
  have hN := netIn_of hc
  obtain ⟨i0, hi, iz0, iz1, iz2⟩ := info_parts info_int
  have hBn := Blk.new w 25 #[.slice Ab nb cb, .slice Am nm cm]
  have c0 := hBn.cell 0
  have c1 := hBn.cell 1
  have hb0 : Below w.heap.size w (w.alloc (.cells #[.slice Ab nb cb, .slice Am nm cm] 25)) := (Below.refl _ w).alloc (Nat.le_refl _) _
  have hm12 := hN.m1
  have hb8 := hN.n1
  have hnb := hM.b.len
  have hnm := hM.m.len
  have hcon := check_any b1 b2 Ab Am nb cb nm cm bs ms _ (hM.old hb0) (by omega) (by omega)
  rw [hc] at hcon
  have hnb8 : nb ≤ 8 := by omega
  have HNB := Lib.hid hnb
  have HNM := Lib.hid hnm
  have hbn : batch < nb := by omega
  have HBN := Lib.hid hBn
  have HB0 := Lib.hid hb0
  have HC := Lib.hid hcon
  have HMO := Lib.hid (fun (k : Nat) (hk : k < nb) (W : World) (hW : Below w.heap.size w W) => show Calls Tryd.prog 29 #[netV Ab Am nb cb nm cm, .slice (some ⟨W.heap.size, 0, none⟩) 1 1, .int .i64 batch, .int .i64 nm] (W.alloc (.cells #[.int .i64 (k : Int)] 3)) fun e w' => e = .returned (.int .i64 (mostF bs.length (bsF bs) [(k : Int)] ms batch)) ∧ Below (W.alloc (.cells #[.int .i64 (k : Int)] 3)).heap.size (W.alloc (.cells #[.int .i64 (k : Int)] 3)) w' from by
    have h := most_any b1 b2 W.heap.size Ab Am (some ⟨W.heap.size, 0, none⟩) nb cb nm cm 1 1 nm bs ms [(k : Int)] batch (W.alloc (.cells #[.int .i64 (k : Int)] 3)) hN ((hM.old hW).old ((Below.refl _ W).alloc (Nat.le_refl _) _)) (by omega) (oneCellNew W k) (by simp; omega) (by simp) hb
    rwa [hnm, List.take_length, ← hnm] at h)
  clear hBn hb0 hcon hM hN hc hnb hnm hb hb8 hm12
  go_enter Tryd.func14, Tryd.ntmps14
  go_upto_region 4 with (go_at_call 6; refine HC.out.mono ?_; rintro e w1 ⟨rfl, hb1⟩; have HB1 := Lib.hid hb1; clear hb1)
  have hbw := HB0.out.trans (HB1.out.mono (by simp))
  have hbn1 := HBN.out.below HB1.out HBN.out.lt
  have HBW := Lib.hid hbw
  have HBN1 := Lib.hid hbn1
  have hw1 := hbn1.lt
  have d0 := hbn1.cell 0
  have d1 := hbn1.cell 1
  clear c0 c1 hbn1 hbw
  have hin := fun (W : World) => tin_t (batch : Int) 0 ((nb : Int) - 1) (by omega) W
  have HIN := Lib.hid hin
  clear hin
  go_wp2_with (go_at_call 19; refine (HIN.out _).mono ?_; rintro e w2 ⟨rfl, rfl⟩)
  go_loopw [7, 24] (fun v i wr => ∃ (k c : Nat) (A : Option Addr), k ≤ nb ∧ i = .int .i64 k ∧ v = .slice A (oriT bs ms batch k).length c ∧ wr.ownsRow w1.heap.size 3 1 (.slice A (oriT bs ms batch k).length c) (oriT bs ms batch k).length ((oriT bs ms batch k).flatMap encI) ∧ Below w1.heap.size w1 wr) (fun _ i _ => nb - (intOf i).toNat)
  case atStart => exact ⟨0, 0, none, Nat.zero_le _, rfl, rfl, World.ownsRow_nil _ _ _ _, Below.refl _ _⟩
  case round =>
    obtain ⟨k, c, A, hk, rfl, rfl, hown, hB⟩ := hrel
    clear d0 d1
    have hz := hB.size
    have hBn := HBN1.out.below hB hw1
    have HB := Lib.hid hB
    have HOWN := Lib.hid hown
    have hBW := HBW.out.trans (hB.mono HBW.out.size)
    by_cases hlt : k < nb
    · as_aux_lemma =>
      have d0 := hBn.cell 0
      have d1 := hBn.cell 1
      have hwr := hBn.lt
      have HMR := Lib.hid (HMO.out k hlt wr hBW)
      have hY := @oriT_yes bs ms batch k
      have hY2 := @oriT_no bs ms batch k
      have hlen := oriT_len bs ms batch k
      obtain ⟨y, hy⟩ : ∃ y, y = mostF bs.length (bsF bs) [(k : Int)] ms batch := ⟨_, rfl⟩
      rw [← hy] at hY hY2
      have HYE := Lib.hid hy
      obtain ⟨hn, hhn⟩ : ∃ hn, hn = (oriT bs ms batch k).length := ⟨_, rfl⟩
      rw [← hhn] at hlen
      have HOWN3 := Lib.hid (show wr.ownsRow w1.heap.size 3 1 (.slice A hn c) hn ((oriT bs ms batch k).flatMap encI) from by rw [hhn]; exact HOWN.out)
      rw [← hhn]
      have HHN := Lib.hid hhn
      by_cases hy0 : 0 < y
      · have HY := Lib.hid (hY hy0)
        clear hB hown hBn hBW hY hY2 hhn hy
        go_wp2_with (first
          | (go_at_call 29; refine HMR.out.mono ?_; rintro e w3 ⟨he, hb3⟩; rw [← HYE.out] at he; subst he; have HB3 := Lib.hid hb3; have hz3 := hb3.size; simp only [World.size_alloc] at hz3; have HOW3 := Lib.hid ((ownsRow_below (HOWN3.out.alloc _) hb3 (Nat.le_refl _)).alloc (.cells #[.int .i64 (k : Int)] 3)); have HB4 := Lib.hid (((HB.out.alloc hz _).trans (hb3.mono (by simp; omega))).alloc (by omega) (.cells #[.int .i64 (k : Int)] 3)); clear hb3)
          | (at_builtin; refine wpList_append_sl rfl _ _ 22 rfl w1.heap.size 3 i0 _ 8 Tryd.underlying22 hi iz0 iz1 iz2 rfl (by omega) encI_len _ hn _ rfl HOW3.out w3.heap.size _ 1 1 [(k : Int)] rfl (oneCellNew w3 k) oneI (by unfold maxLen; omega) (by omega) (by simp; omega) ?_; intro A1 c1 w4 hown1 hgrow _; have HO1 := Lib.hid hown1; have HB5 := Lib.hid (below_own HOW3.out hgrow HB4.out (Nat.le_refl _) (Nat.le_refl _)); clear hown1 hgrow))
        have e : (oriT bs ms batch (k + 1)).length = hn + 1 := by rw [HY.out, List.length_append, ← HHN.out]; rfl
        go_roundw
        case rel => exact ⟨k + 1, c1, A1, by omega, by go_num, by rw [e], by rw [e, HY.out, List.flatMap_append]; simpa using HO1.out, HB5.out⟩
        case measure => simp [intOf]; omega
      · have HY := Lib.hid (hY2 hy0)
        clear hB hown hBn hBW hY hY2 hhn hy
        go_wp2_with (go_at_call 29; refine HMR.out.mono ?_; rintro e w3 ⟨he, hb3⟩; rw [← HYE.out] at he; subst he; have HB3 := Lib.hid hb3; have hz3 := hb3.size; simp only [World.size_alloc] at hz3; have HOW3 := Lib.hid (ownsRow_below (HOWN3.out.alloc _) hb3 (Nat.le_refl _)); have HB4 := Lib.hid ((HB.out.alloc hz _).trans (hb3.mono (by simp; omega))); clear hb3)
        go_roundw
        case rel => exact ⟨k + 1, c, A, by omega, by go_num, by rw [HY.out, HHN.out], by rw [HY.out, ← HHN.out]; exact HOW3.out, HB4.out⟩
        case measure => simp [intOf]; omega
    · obtain rfl : k = nb := by omega
      clear hown hB hBn
      go_wp2_with fail
      go_ret2
      have e : oriT bs ms batch k = originsT bs ms batch := by unfold oriT originsT; rw [HNB.out]
      have h := HOWN.out
      rw [e] at h
      exact ⟨A, c, by rw [e]; rfl, ownsRow_base h HBW.out.size, hBW⟩
end Go.Proofs.YtkphgdkjjklajaaDoor
