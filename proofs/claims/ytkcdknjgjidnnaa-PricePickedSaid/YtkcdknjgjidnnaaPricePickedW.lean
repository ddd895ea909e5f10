/-
  The walk of the law PricePicked.
-/
import Derived.Test.YtkcdknjgjidnnaaNums
import Derived.Test.YtkcdknjgjidnnaaAwake
import Derived.Test.YtkcdknjgjidnnaaPickW
import Derived.Test.YtkcdknjgjidnnaaSealLaw
import Derived.Test.YtkcdknjgjidnnaaSmall
import Derived.Test.YtkcdknjgjidnnaaSame
import Derived.Test.YtkcdknjgjidnnaaBooks
import Derived.Test.YtkcdknjgjidnnaaBook
import Derived.Deep.QuietTactic
import Derived.Deep.CutRange
import Derived.BigQuiet
set_option linter.unusedVariables false
set_option linter.unusedSimpArgs false
namespace Go.Proofs.Ytkcdknjgjidnnaa
open Go.RowKit

theorem wup_le {n : Nat} (hn : n ≤ 5) (i : Nat) : wup n i ≤ 5 ^ i := by
  induction i with
  | zero => exact Nat.le_refl _
  | succ i ih =>
    rw [wup, Nat.pow_succ]
    exact Nat.mul_le_mul ih (by omega)
theorem wup_bd {n i : Nat} (hn : n ≤ 5) (hi : i ≤ 3) : wup n i ≤ 125 := by
  have h1 := wup_le hn i
  have h2 : 5 ^ i ≤ 5 ^ 3 := Nat.pow_le_pow_right (by omega) hi
  omega
theorem encLI_len (x : SlD Int) : (encL x).length = 1 := rfl
theorem oneL (x : SlD Int) : ∀ u ∈ encL x, u.oneCell' = true := by simp [encL, Value.oneCell']
theorem info_ints : (Try.prog.info? 29).map (fun i => (i.zero, i.size, i.bytes)) = some (some (.slice none 0 0), 1, 24) := by kernel_rfl
/-- a list that was picked, as it lies, away from block G -/
def Met (many n : Nat) (f : Int) (W : World) (Am : Option Addr) (i c : Nat) (j : Nat) (x : SlD Int) : Prop :=
  x.l = pickL many (f + j) (places n) ∧ Sl encI 1 W x.b x.A x.n x.l ∧ (0 < x.n → ∀ g, Value.ownBlock (.slice Am i c) = some g → g ≠ x.b)

set_option maxRecDepth 100000 in
set_option maxHeartbeats 4000000 in
theorem pricePicked_any (A : Option Addr) (n c : Nat) (w : World) (hN : Nums w A n) : Calls Try.prog 11 #[.slice A n c] w fun e w' => e = .returned (.bool true) ∧ Below w.heap.size w w' := by
  obtain ⟨b, l, hl, hw, hn⟩ := hN
  have HW := Lib.hid hw
  clear hw
  obtain ⟨i0, hi, iz0, iz1, iz2⟩ := info_parts info_ints
  go_enter Try.func11, Try.ntmps11
  go_wp2_with fail
  refine (dieOf_any b n c A l _ hl hn HW.out).mono ?_
  rintro e w1 ⟨d, hd, rfl, hdie, hB1⟩
  have hz1 := hB1.size
  have HB1 := Lib.hid hB1
  clear hB1 hl
  go_wp2_with fail
  refine (bookOf_any d 3 3 5 _ hdie (by omega) (by omega) (by omega) (by omega) (by omega)).mono ?_
  rintro e w2 ⟨st, gd, b1, m, c1, A1, l1, ⟨hs1, hs2, hg1, hg2, hm1, hok1⟩, rfl, hb1, hb1d, hsl1, hd2, hgr2⟩
  have HL := Lib.hid hsl1.len
  have HI := Lib.hid (check_ok hs1 (by omega) hg1 (by omega) (by have := HL.out; omega) hok1)
  have HB2 := Lib.hid (Below.stepG hgr2 HB1.out (Nat.le_refl _) hd)
  have hz2 := hgr2.size
  have hdz := hd2.lt
  have S2 := Lib.hid (hsl1.alloc (.cells #[.int .i64 st, .int .i64 gd, .slice A1 m c1] 24))
  have K2 := Lib.hid (Blk.new w2 24 #[.int .i64 st, .int .i64 gd, .slice A1 m c1])
  have D2 := Lib.hid (hd2.alloc (.cells #[.int .i64 st, .int .i64 gd, .slice A1 m c1] 24))
  have L2 := Lib.hid (HB2.out.alloc (by omega) (.cells #[.int .i64 st, .int .i64 gd, .slice A1 m c1] 24))
  have k2 := K2.out.cell 2
  clear hok1 hgr2 HB1 hdie hsl1 hd2 HB2
  go_wp2_with fail
  refine (cast_any d (min 3 (m : Int) + 1) _ D2.out (by omega)).mono ?_
  rintro e w3 ⟨many, ⟨hy0, hy1, hy2⟩, rfl, hd3, hg3⟩
  obtain ⟨many, rfl⟩ := Int.eq_ofNat_of_zero_le hy0
  have hmany : many ≤ m ∧ many ≤ 3 := by by_cases h : (min 3 (m : Int) + 1) < 2 <;> omega
  obtain ⟨hmm, hm3⟩ := hmany
  have hz3 := hg3.size
  simp only [World.size_alloc] at hz3
  have S3 := Lib.hid (S2.out.grown hg3 (fun _ e => hb1d (by injection e)))
  have K3 := Lib.hid (K2.out.grown hg3 (fun e => by injection e; omega))
  have D3 := Lib.hid hd3
  have L3 := Lib.hid (Below.stepG hg3 L2.out (Nat.le_refl _) hd)
  have k3 := K3.out.cell 2
  clear hy0 hy1 hy2 hd3 hg3 S2 K2 D2 L2 k2
  go_wp2_with fail
  go_loop [6, 7] (fun u i => ∃ j : Nat, j ≤ many ∧ i = .int .i64 j ∧ u = .int .i64 (wup m j)) (fun _ i => many - (intOf i).toNat)
  case atStart => exact ⟨0, by omega, rfl, rfl⟩
  case round =>
    obtain ⟨j, hj, rfl, rfl⟩ := hrel
    by_cases hlt : j < many
    · have hb1' := wup_bd (n := m) (i := j) (by omega) (by omega)
      have hb2' := wup_bd (n := m) (i := j + 1) (by omega) (by omega)
      have HWP := Lib.hid (show ((wup m (j + 1) : Nat) : Int) = (wup m j : Int) * ((m : Int) - (j : Int)) by
        rw [wup, Int.natCast_mul, Int.ofNat_sub (by omega)])
      have hwp : (wup m j : Int) * ((m : Int) - (j : Int)) ≤ 125 := by rw [← HWP.out]; omega
      have hwp0 : 0 ≤ (wup m j : Int) * ((m : Int) - (j : Int)) := by rw [← HWP.out]; omega
      go_wp2_with fail
      go_round
      case rel => exact ⟨j + 1, by omega, by go_num, by rw [HWP.out]⟩
      case measure => simp [intOf]; omega
    · obtain rfl : many = j := by omega
      have hwb := wup_bd (n := m) (i := many) (by omega) (by omega)
      have HWE := Lib.hid (show ∀ i j : Nat, i < j → j < wup m many → ∀ f : Int, pickL many (f + i) (places m) ≠ pickL many (f + j) (places m) from fun i j h1 h2 f => pickL_ne (places_len m) (places_nodup m) hmm h1 h2)
      generalize wup m many = W9 at hwb HWE
      go_wp2_with fail
      refine (cast_any d (1000000000 - (W9 : Int)) _ D3.out (by omega)).mono ?_
      rintro e w4 ⟨f, ⟨hf0, _, hf2⟩, rfl, hd4, hg4⟩
      have hf1 := hf2 (by omega)
      have hz4 := hg4.size
      have S4 := Lib.hid (S3.out.grown hg4 (fun _ e => hb1d (by injection e)))
      have K4 := Lib.hid (K3.out.grown hg4 (fun e => by injection e; omega))
      have L4 := Lib.hid (Below.stepG hg4 L3.out (Nat.le_refl _) hd)
      have hk4 := K4.out.lt
      clear hf2 hd4 hg4 S3 K3 D3 L3 k3
      go_wp2_with fail
      go_loopw [9, 10] (fun v i wr => ∃ (k cm : Nat) (Am : Option Addr) (ms : List (SlD Int)), k ≤ W9 ∧ i = .int .i64 k ∧ v = .slice Am k cm ∧ ms.length = k ∧ wr.ownsRow w4.heap.size 29 1 (.slice Am k cm) k (ms.flatMap encL) ∧ (∀ (j : Nat) (hj : j < ms.length), Met many m f wr Am k cm j ms[j]) ∧ Below w4.heap.size w4 wr) (fun _ i _ => W9 - (intOf i).toNat)
      case atStart => exact ⟨0, 0, none, [], by omega, rfl, rfl, rfl, World.ownsRow_nil _ _ _ _, fun j hj => by simp at hj, Below.refl _ _⟩
      case round =>
        obtain ⟨k, cm, Am, ms, hk, rfl, rfl, hml, hown, hms, hB⟩ := hrel
        have HML := Lib.hid hml
        have HOW := Lib.hid hown
        have HMS := Lib.hid hms
        have HB := Lib.hid hB
        have hz := hB.size
        have k0 := (K4.out.below hB K4.out.lt).cell 0
        have k1 := (K4.out.below hB K4.out.lt).cell 1
        have k2 := (K4.out.below hB K4.out.lt).cell 2
        clear hml hown hms hB
        by_cases hlt2 : k < W9
        · have hp := pick_good (st := st) (gd := gd) (l := l1) (x := f + (k : Int)) (m := (many : Int)) (check_zero.2 HI.out) (inB_iff.2 ⟨by omega, by omega⟩) (inB_iff.2 ⟨by omega, by have := HL.out; omega⟩)
          have HP := Lib.hid hp
          clear hp
          go_wp2_with fail
          refine (pick_any st gd (f + (k : Int)) (many : Int) b1 m c1 A1 l1 _ (S4.out.old HB.out) (by omega)).mono ?_
          rw [HP.out.1, HP.out.2, show ((many : Int)).toNat = many by omega, ← HL.out]
          rintro e w5 ⟨A5, c5, b5, rfl, hs5, hc5, hb5, hB5⟩
          rw [pickL_len] at hs5 hc5 ⊢
          have Q5 := Lib.hid hs5
          have HB5 := Lib.hid (HB.out.trans (hB5.mono hz))
          have hz5 := hB5.size
          have HOW5 := Lib.hid (ownsRow_below HOW.out hB5 (Nat.le_refl _))
          have HMS5 := Lib.hid (fun (j : Nat) (hj : j < ms.length) => (show Met many m f w5 Am k cm j ms[j] from ⟨(HMS.out j hj).1, (HMS.out j hj).2.1.old hB5, (HMS.out j hj).2.2⟩))
          have HOZ := Lib.hid (fun (g : Nat) (e : Value.ownBlock (.slice Am k cm) = some g) => (HOW.out.lt g e).2)
          have HND := Lib.hid (pickL_nodup (m := many) (x := f + (k : Int)) (places_nodup m) (by rw [places_len]; exact hmm))
          have HMEM := Lib.hid (fun y hy => places_mem (pickL_mem (m := many) (x := f + (k : Int)) (r := places m) (by rw [places_len]; exact hmm) y hy))
          have HLEN := Lib.hid (pickL_len many (f + (k : Int)) (places m))
          have HNE := Lib.hid (fun (j : Nat) (hj : j < k) => HWE.out j k hj hlt2 f)
          generalize hL : pickL many (f + (k : Int)) (places m) = L at Q5 HND HMEM HLEN HNE
          have HLL := Lib.hid hL
          clear hL hs5 hB5 k0 k1 k2
          go_wp2_with fail
          go_loopw [13] (fun i ws => ∃ j : Nat, j ≤ many ∧ i = .int .i64 j ∧ Below w5.heap.size w5 ws) (fun i _ => many - (intOf i).toNat)
          case atStart => exact ⟨0, by omega, rfl, Below.refl _ _⟩
          case round =>
            obtain ⟨j, hj, rfl, hBj⟩ := hrel
            have HBj := Lib.hid hBj
            have hzj := hBj.size
            clear hBj
            by_cases hlt3 : j < many
            · have hjl : j < L.length := by have := HLEN.out; omega
              obtain ⟨o5, rfl, hbz5, q5⟩ := (Q5.out.old HBj.out).atI hjl
              have hmem := HMEM.out L[j] (List.getElem_mem hjl)
              have hnot : decide (L[j] ∈ L.take j) = false := by
                rw [decide_eq_false_iff_not]
                intro hin
                obtain ⟨i, hi, e⟩ := List.mem_iff_getElem.1 hin
                rw [List.getElem_take] at e
                have := (List.getElem_inj HND.out).1 e
                simp at hi
                omega
              generalize L[j] = v at q5 hmem hnot
              obtain ⟨v0, v1⟩ := hmem
              have HNOT := Lib.hid hnot
              have QT := Lib.hid ((Q5.out.old HBj.out).takeI j (by omega))
              have k2 := ((K4.out.below HB5.out K4.out.lt).below HBj.out (by have := HB5.out.size; omega)).cell 2
              have v2 : decide (v < 0) = false := by simp; omega
              have v3 : decide ((m : Int) ≤ v) = false := by simp; omega
              have i0' : (0 : Int) ≤ (j : Int) := by omega
              have i1' : (j : Int) < (many : Int) := by omega
              have i2' : j ≤ c5 := by omega
              clear hnot hjl
              go_upto_region 20 with fail
              refine wp_region_PL [3, 9, 11, 22] (fun W => W.cell? ⟨b5, o5 + j, none⟩ = some (.int .i64 v) ∧ W.cell? ⟨w2.heap.size, 2, none⟩ = some (.slice A1 m c1)) rfl (by kernel_rfl) (⟨q5, k2⟩) (fun hF0 => ?_)
              (refine wpAnyP_takeL (i := 0) (v := ?_) rfl (by kernel_rfl) (by kernel_rfl) (by kernel_rfl) (fun _ _ _ h => h) (by rfl) ?_ ?_; rotate_left 1; focus (intro w; go_simp; try with_reducible rfl))
              try simp only [Act.put, List.setIfInBounds_toArray, List.set_cons_zero, List.set_cons_succ]
              (refine wpAnyP_takeL (i := 1) (v := ?_) rfl (by kernel_rfl) (by kernel_rfl) (by kernel_rfl) (fun _ _ _ h => h) (by rfl) ?_ ?_; rotate_left 1; focus (intro w; go_simp; try with_reducible rfl))
              try simp only [Act.put, List.setIfInBounds_toArray, List.set_cons_zero, List.set_cons_succ]
              (refine wpAnyP_takeL (i := 2) (v := ?_) rfl (by kernel_rfl) (by kernel_rfl) (by kernel_rfl) (fun _ _ _ h => h) (by rfl) ?_ ?_; rotate_left 1; focus (intro w; go_simp; try with_reducible rfl))
              try simp only [Act.put, List.setIfInBounds_toArray, List.set_cons_zero, List.set_cons_succ]
              (refine wpAnyP_loadL (i := 3) (v := ?_) rfl (by kernel_rfl) (by kernel_rfl) (by kernel_rfl) (by rfl) (fun _ _ _ h => h) hF0 (by rfl) ?_ ?_; rotate_left 1; focus (intro w hFw; (try dsimp only at hFw); go_split_ands; go_simp; try with_reducible rfl))
              try simp only [Act.put, List.setIfInBounds_toArray, List.set_cons_zero, List.set_cons_succ]
              (refine wpAnyP_takeL (i := 4) (v := ?_) rfl (by kernel_rfl) (by kernel_rfl) (by kernel_rfl) (fun _ _ _ h => h) (by rfl) ?_ ?_; rotate_left 1; focus (intro w; go_simp; try with_reducible rfl))
              try simp only [Act.put, List.setIfInBounds_toArray, List.set_cons_zero, List.set_cons_succ]
              (refine wpAnyP_takeL (i := 5) (v := ?_) rfl (by kernel_rfl) (by kernel_rfl) (by kernel_rfl) (fun _ _ _ h => h) (by rfl) ?_ ?_; rotate_left 1; focus (intro w; go_simp; try with_reducible rfl))
              try simp only [Act.put, List.setIfInBounds_toArray, List.set_cons_zero, List.set_cons_succ]
              (refine wpAnyP_takeL (i := 6) (v := ?_) rfl (by kernel_rfl) (by kernel_rfl) (by kernel_rfl) (fun _ _ _ h => h) (by rfl) ?_ ?_; rotate_left 1; focus (intro w; go_simp; try with_reducible rfl))
              try simp only [Act.put, List.setIfInBounds_toArray, List.set_cons_zero, List.set_cons_succ]
              (refine wpAnyP_takeL (i := 7) (v := ?_) rfl (by kernel_rfl) (by kernel_rfl) (by kernel_rfl) (fun _ _ _ h => h) (by rfl) ?_ ?_; rotate_left 1; focus (intro w; go_simp; try with_reducible rfl))
              try simp only [Act.put, List.setIfInBounds_toArray, List.set_cons_zero, List.set_cons_succ]
              (refine wpAnyP_takeL (i := 8) (v := ?_) rfl (by kernel_rfl) (by kernel_rfl) (by kernel_rfl) (fun _ _ _ h => h) (by rfl) ?_ ?_; rotate_left 1; focus (intro w; go_simp; try with_reducible rfl))
              try simp only [Act.put, List.setIfInBounds_toArray, List.set_cons_zero, List.set_cons_succ]
              (refine wpAnyP_loadL (i := 9) (v := ?_) rfl (by kernel_rfl) (by kernel_rfl) (by kernel_rfl) (by rfl) (fun _ _ _ h => h) hF0 (by rfl) ?_ ?_; rotate_left 1; focus (intro w hFw; (try dsimp only at hFw); go_split_ands; go_simp; try with_reducible rfl))
              try simp only [Act.put, List.setIfInBounds_toArray, List.set_cons_zero, List.set_cons_succ]
              (refine wpAnyP_takeL (i := 10) (v := ?_) rfl (by kernel_rfl) (by kernel_rfl) (by kernel_rfl) (fun _ _ _ h => h) (by rfl) ?_ ?_; rotate_left 1; focus (intro w; go_simp; try with_reducible rfl))
              try simp only [Act.put, List.setIfInBounds_toArray, List.set_cons_zero, List.set_cons_succ]
              (refine wpAnyP_loadL (i := 11) (v := ?_) rfl (by kernel_rfl) (by kernel_rfl) (by kernel_rfl) (by rfl) (fun _ _ _ h => h) hF0 (by rfl) ?_ ?_; rotate_left 1; focus (intro w hFw; (try dsimp only at hFw); go_split_ands; go_simp; try with_reducible rfl))
              try simp only [Act.put, List.setIfInBounds_toArray, List.set_cons_zero, List.set_cons_succ]
              (refine wpAnyP_takeL (i := 12) (v := ?_) rfl (by kernel_rfl) (by kernel_rfl) (by kernel_rfl) (fun _ _ _ h => h) (by rfl) ?_ ?_; rotate_left 1; focus (intro w; go_simp; try with_reducible rfl))
              try simp only [Act.put, List.setIfInBounds_toArray, List.set_cons_zero, List.set_cons_succ]
              (refine wpAnyP_takeL (i := 13) (v := ?_) rfl (by kernel_rfl) (by kernel_rfl) (by kernel_rfl) (fun _ _ _ h => h) (by rfl) ?_ ?_; rotate_left 1; focus (intro w; go_simp; try with_reducible rfl))
              try simp only [Act.put, List.setIfInBounds_toArray, List.set_cons_zero, List.set_cons_succ]
              (refine wpAnyP_takeL (i := 14) (v := ?_) rfl (by kernel_rfl) (by kernel_rfl) (by kernel_rfl) (fun _ _ _ h => h) (by rfl) ?_ ?_; rotate_left 1; focus (intro w; go_simp; try with_reducible rfl))
              try simp only [Act.put, List.setIfInBounds_toArray, List.set_cons_zero, List.set_cons_succ]
              (refine wpAnyP_takeL (i := 15) (v := ?_) rfl (by kernel_rfl) (by kernel_rfl) (by kernel_rfl) (fun _ _ _ h => h) (by rfl) ?_ ?_; rotate_left 1; focus (intro w; go_simp; try with_reducible rfl))
              try simp only [Act.put, List.setIfInBounds_toArray, List.set_cons_zero, List.set_cons_succ]
              (refine wpAnyP_takeL (i := 16) (v := ?_) rfl (by kernel_rfl) (by kernel_rfl) (by kernel_rfl) (fun _ _ _ h => h) (by rfl) ?_ ?_; rotate_left 1; focus (intro w; go_simp; try with_reducible rfl))
              try simp only [Act.put, List.setIfInBounds_toArray, List.set_cons_zero, List.set_cons_succ]
              (refine wpAnyP_takeL (i := 17) (v := ?_) rfl (by kernel_rfl) (by kernel_rfl) (by kernel_rfl) (fun _ _ _ h => h) (by rfl) ?_ ?_; rotate_left 1; focus (intro w; go_simp; try with_reducible rfl))
              try simp only [Act.put, List.setIfInBounds_toArray, List.set_cons_zero, List.set_cons_succ]
              (refine wpAnyP_takeL (i := 18) (v := ?_) rfl (by kernel_rfl) (by kernel_rfl) (by kernel_rfl) (fun _ _ _ h => h) (by rfl) ?_ ?_; rotate_left 1; focus (intro w; go_simp; try with_reducible rfl))
              try simp only [Act.put, List.setIfInBounds_toArray, List.set_cons_zero, List.set_cons_succ]
              (refine wpAnyP_takeL (i := 19) (v := ?_) rfl (by kernel_rfl) (by kernel_rfl) (by kernel_rfl) (fun _ _ _ h => h) (by rfl) ?_ ?_; rotate_left 1; focus (intro w; go_simp; try with_reducible rfl))
              try simp only [Act.put, List.setIfInBounds_toArray, List.set_cons_zero, List.set_cons_succ]
              (refine wpAnyP_takeL (i := 20) (v := ?_) rfl (by kernel_rfl) (by kernel_rfl) (by kernel_rfl) (fun _ _ _ h => h) (by rfl) ?_ ?_; rotate_left 1; focus (intro w; go_simp; try with_reducible rfl))
              try simp only [Act.put, List.setIfInBounds_toArray, List.set_cons_zero, List.set_cons_succ]
              (refine wpAnyP_takeL (i := 21) (v := ?_) rfl (by kernel_rfl) (by kernel_rfl) (by kernel_rfl) (fun _ _ _ h => h) (by rfl) ?_ ?_; rotate_left 1; focus (intro w; go_simp; try with_reducible rfl))
              try simp only [Act.put, List.setIfInBounds_toArray, List.set_cons_zero, List.set_cons_succ]
              (refine wpAnyP_loadL (i := 22) (v := ?_) rfl (by kernel_rfl) (by kernel_rfl) (by kernel_rfl) (by rfl) (fun _ _ _ h => h) hF0 (by rfl) ?_ ?_; rotate_left 1; focus (intro w hFw; (try dsimp only at hFw); go_split_ands; go_simp; try with_reducible rfl))
              try simp only [Act.put, List.setIfInBounds_toArray, List.set_cons_zero, List.set_cons_succ]
              refine wpAnyP_step (i := 23) rfl (by kernel_rfl) (by rfl) (fun K hK => ?_)
              go_simp
              (refine (has_any b5 j _ _ (L.take j) v _ QT.out.drew (by omega)).mono ?_; rw [HNOT.out]; rintro e wx ⟨rfl, rfl⟩)
              (refine hK _ _ (⟨q5, k2⟩) (fun hF1 => ?_); clear hK K hF0)
              try simp only [Act.put, List.setIfInBounds_toArray, List.set_cons_zero, List.set_cons_succ]
              (refine wpAnyP_takeL (i := 24) (v := ?_) rfl (by kernel_rfl) (by kernel_rfl) (by kernel_rfl) (fun _ _ _ h => h) (by rfl) ?_ ?_; rotate_left 1; focus (intro w; go_simp; try with_reducible rfl))
              try simp only [Act.put, List.setIfInBounds_toArray, List.set_cons_zero, List.set_cons_succ]
              refine wpAnyP_done (by kernel_rfl) ?_ _
              go_wp2_with fail
              go_roundw
              case rel => exact ⟨j + 1, by omega, by go_num, HBj.out.drew⟩
              case measure => simp [intOf]; omega
            · have HJ := Lib.hid (show many ≤ j by omega)
              have Q6 := Lib.hid (Q5.out.old HBj.out)
              have HB6 := Lib.hid (HB5.out.trans (HBj.out.mono HB5.out.size))
              have HOW6 := Lib.hid (ownsRow_below HOW5.out HBj.out (Nat.le_refl _))
              have HMS6 := Lib.hid (fun (j : Nat) (hj : j < ms.length) => (show Met many m f wr Am k cm j ms[j] from ⟨(HMS5.out j hj).1, (HMS5.out j hj).2.1.old HBj.out, (HMS5.out j hj).2.2⟩))
              have hz6 := HB6.out.size
              go_wp2_with fail
              obtain ⟨w6, rfl⟩ : ∃ w6 : World, w6 = wr := ⟨_, rfl⟩
              go_loopw [14] (fun i ws => ∃ j : Nat, j ≤ k ∧ i = .int .i64 j ∧ Below w6.heap.size w6 ws) (fun i _ => k - (intOf i).toNat)
              case atStart => exact ⟨0, by omega, rfl, Below.refl _ _⟩
              case round =>
                obtain ⟨j, hj, rfl, hBj2⟩ := hrel
                have HBj2 := Lib.hid hBj2
                have hzj2 := hBj2.size
                clear hBj2
                by_cases hlt4 : j < k
                · have hjm : j < ms.length := by have := HML.out; omega
                  obtain ⟨gm, rfl, hgm1, hgm2⟩ := own_some1 HOW6.out (by omega)
                  have hc6 := (ownsRow_below HOW6.out HBj2.out (Nat.le_refl _)).cellAt j (by omega)
                  have hfa := flat_at encLI_len ms j hjm 0 _ rfl
                  rw [Nat.mul_one, Nat.add_zero] at hfa
                  rw [hfa] at hc6
                  have hmj := HMS6.out j hjm
                  have hne := HNE.out j hlt4
                  rw [← hmj.1] at hne
                  have SX := Lib.hid (hmj.2.1.old HBj2.out)
                  generalize ms[j] = x at hc6 hne SX hmj
                  have HNQ := Lib.hid (show decide (x.l = L) = false from decide_eq_false hne)
                  have hxn := SX.out.len
                  have hxl : x.l.length = many := by rw [hmj.1, pickL_len]
                  have hxn' : x.n ≤ 3 := by omega
                  have i0' : (0 : Int) ≤ (j : Int) := by omega
                  have i1' : (j : Int) < (k : Int) := by omega
                  clear hfa hmj hne hxn hxl hjm
                  go_wp2_with fail
                  refine (sameInts_any x.b b5 x.n many x.c c5 x.A A5 x.l L _ SX.out (Q6.out.old HBj2.out) (by omega)).mono ?_
                  rw [HNQ.out]
                  rintro e w7 ⟨rfl, hB7⟩
                  have HB7 := Lib.hid (HBj2.out.trans (hB7.mono hzj2))
                  clear hB7
                  go_wp2_with fail
                  go_roundw
                  case rel => exact ⟨j + 1, by omega, by go_num, HB7.out⟩
                  case measure => simp [intOf]; omega
                · have HJ2 := Lib.hid (show k ≤ j by omega)
                  have HOW7 := Lib.hid (ownsRow_below HOW6.out HBj2.out (Nat.le_refl _))
                  have HB8 := Lib.hid (HB6.out.trans (HBj2.out.mono hz6))
                  have hz8 := HB8.out.size
                  have hz56 : w5.heap.size ≤ wr.heap.size := by omega
                  have Q8 := Lib.hid ((Q6.out.old HBj2.out).alloc (.cells #[.slice A5 many c5] 29))
                  have HMS8 := Lib.hid (fun (j : Nat) (hj : j < ms.length) => (show Met many m f (wr.alloc (.cells #[.slice A5 many c5] 29)) Am k cm j ms[j] from ⟨(HMS6.out j hj).1, ((HMS6.out j hj).2.1.old HBj2.out).alloc _, (HMS6.out j hj).2.2⟩))
                  go_wp2_with (at_builtin; refine wpList_append_lies _ rfl _ _ 81 rfl w4.heap.size 29 i0 _ 1 24 Try.underlying81 hi iz0 iz1 iz2 rfl (by omega) _ k _ (by rfl) (HOW7.out.alloc _) ⟨wr.heap.size, 0, none⟩ 1 1 (encL (⟨A5, many, c5, b5, L⟩ : SlD Int)) (by rfl) (by rfl) (World.news_of_block (heap_alloc_new wr _)) (oneL _) (by omega) (by unfold maxLen; omega) (by omega) (by simp; omega) (wr.heap.size + 1) (by simp) ?_; intro g' cap w9 hown9 hgrow hat hlt9; have HW9 := Lib.hid hown9; have HB9 := Lib.hid (below_own (HOW7.out.alloc (.cells #[.slice A5 many c5] 29)) hgrow (HB8.out.alloc hz8 _) (Nat.le_refl _) (Nat.le_refl _)); have HG9 := Lib.hid hgrow; have HAT := Lib.hid hat; clear hown9 hgrow hat)
                  go_roundw
                  case rel =>
                    refine ⟨k + 1, cap, _, ms ++ [⟨A5, many, c5, b5, L⟩], by omega, by go_num, rfl, by rw [List.length_append, HML.out]; rfl, by simpa using HW9.out, ?_, HB9.out⟩
                    intro j9 hj9
                    by_cases hlast : j9 < ms.length
                    · rw [List.getElem_append_left hlast]
                      obtain ⟨t1, t2, t3⟩ := HMS8.out j9 hlast
                      refine ⟨t1, t2.grown HG9.out (fun hn e => t3 hn _ e.symm rfl), fun hn g hg => ?_⟩
                      have hgg : g' = g := Option.some.inj hg
                      rcases HAT.out with e | e
                      · exact hgg ▸ t3 hn g' e
                      · have := t2.lt hn
                        simp at this
                        have h5 := ((HMS6.out j9 hlast).2.1.old HBj2.out).lt hn
                        omega
                    · have hj10 : j9 = ms.length := by simp at hj9; omega
                      subst hj10
                      rw [List.getElem_append_right (Nat.le_refl _)]
                      simp only [Nat.sub_self, List.getElem_cons_zero]
                      have hbz : 0 < many → b5 < wr.heap.size := fun hn => (Q6.out.old HBj2.out).lt hn
                      refine ⟨by rw [← HLL.out, HML.out], Q8.out.grown HG9.out (fun hn e => by have h1 := HOZ.out b5 e.symm; omega), fun hn g hg => ?_⟩
                      have hgg : g' = g := Option.some.inj hg
                      have h2 := hbz hn
                      rcases HAT.out with e | e
                      · have h1 := HOZ.out g' e
                        show g ≠ b5
                        omega
                      · show g ≠ b5
                        omega
                  case measure => simp [intOf]; omega
        · have HK := Lib.hid (show W9 ≤ k by omega)
          go_wp2_with fail
          refine (awake_any _).mono ?_
          rintro e w9 ⟨rfl, hB9⟩
          have L9 := Lib.hid (Below.step hB9 (Below.step HB.out L4.out (Nat.le_refl _)) (Nat.le_refl _))
          clear hB9
          go_wp2_with fail
          go_ret
          exact ⟨rfl, L9.out⟩
end Go.Proofs.Ytkcdknjgjidnnaa
