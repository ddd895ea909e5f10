/-
  The walk of the law PriceSealed.
-/
import Derived.Test.YtkcdknjgjidnnaaNums
import Derived.Test.YtkcdknjgjidnnaaAwake
import Derived.Test.YtkcdknjgjidnnaaSealLaw
import Derived.Test.YtkcdknjgjidnnaaDie2
import Derived.Test.YtkcdknjgjidnnaaBook
import Derived.Test.YtkcdknjgjidnnaaKit2
set_option linter.unusedVariables false
set_option linter.unusedSimpArgs false
namespace Go.Proofs.Ytkcdknjgjidnnaa
open Go.RowKit

theorem numberAt_any (b o j : Nat) (hj : j < 4) (w : World) : Calls Try.prog 25 #[.pointer (some ⟨b, o, none⟩), .int .i64 j] w fun e w' => e = .returned (.pointer (some ⟨b, o + 2 + j, none⟩)) ∧ w = w' := by
  match j, hj with
  | 0, _ => go_enter Try.func25, Try.ntmps25; go_wp2; go_ret; exact ⟨rfl, rfl⟩
  | 1, _ => go_enter Try.func25, Try.ntmps25; go_wp2; go_ret; exact ⟨rfl, rfl⟩
  | 2, _ => go_enter Try.func25, Try.ntmps25; go_wp2; go_ret; exact ⟨rfl, rfl⟩
  | 3, _ => go_enter Try.func25, Try.ntmps25; go_wp2; go_ret; exact ⟨rfl, rfl⟩

theorem flat_set {α : Type} {enc : α → List Value} {m : Nat} (hm : ∀ x, (enc x).length = m) (l : List α) (k : Nat) (hk : k < l.length) (j : Nat) (hj : j < m) (x' : α) (u : Value) (h : enc x' = (enc l[k]).set j u) :
    (l.flatMap enc).set (k * m + j) u = (l.set k x').flatMap enc := by
  induction l generalizing k with
  | nil => simp at hk
  | cons s r ih =>
    cases k with
    | zero =>
      simp only [List.flatMap_cons, List.getElem_cons_zero, Nat.zero_mul, Nat.zero_add, List.set_cons_zero] at h ⊢
      rw [List.set_append_left _ _ (by rw [hm]; exact hj), h]
    | succ k =>
      simp only [List.flatMap_cons, List.getElem_cons_succ, List.set_cons_succ] at h ⊢
      rw [List.set_append_right _ _ (by rw [hm, Nat.succ_mul]; omega), hm, show (k + 1) * m + j - m = k * m + j from by rw [Nat.succ_mul]; omega, ih k (by simpa using hk) h]
theorem encS_setNum (s : Sale) (j : Nat) (hj : j < 4) (v : Int) : encS (setNum s j v) = (encS s).set (2 + j) (.int .i64 v) := by
  match j, hj with
  | 0, _ => rfl
  | 1, _ => rfl
  | 2, _ => rfl
  | 3, _ => rfl
theorem encS_getNum (s : Sale) (j : Nat) (hj : j < 4) : (encS s)[2 + j]? = some (.int .i64 (getNum s j)) := by
  match j, hj with
  | 0, _ => rfl
  | 1, _ => rfl
  | 2, _ => rfl
  | 3, _ => rfl

theorem own_some {W : World} {base m c sz : Nat} {e : TypeId} {A : Option Addr} {xs : List Value} (h : W.ownsRow base e sz (.slice A m c) m xs) (hm : 0 < m) : ∃ g, A = some ⟨g, 0, none⟩ ∧ base ≤ g ∧ g < W.heap.size := by
  rcases h.2 with ⟨hv, _⟩ | ⟨g, cap, cur, hv, hbg, hh, _⟩
  · injection hv with h1 h2 h3
    omega
  · injection hv with h1 h2 h3
    subst h1
    exact ⟨g, rfl, hbg, (h.lt g rfl).2⟩

set_option maxRecDepth 100000 in
set_option maxHeartbeats 2000000 in
theorem priceSealed_any (A : Option Addr) (n c : Nat) (w : World) (hN : Nums w A n) : Calls Try.prog 4 #[.slice A n c] w fun e w' => e = .returned (.bool true) ∧ Below w.heap.size w w' := by
  obtain ⟨b, l, hl, hw, hn⟩ := hN
  have HW := Lib.hid hw
  clear hw
  go_enter Try.func4, Try.ntmps4
  go_wp2_with fail
  refine (dieOf_any b n c A l _ hl hn HW.out).mono ?_
  rintro e w1 ⟨d, hd, rfl, hdie, hB1⟩
  have hz1 := hB1.size
  have HB1 := Lib.hid hB1
  clear hB1 hl
  go_wp2_with fail
  refine (bookOf_any d 3 3 8 _ hdie (by omega) (by omega) (by omega) (by omega) (by omega)).mono ?_
  rintro e w2 ⟨st, gd, b2, m, c2, A2, l2, ⟨hs1, hs2, hg1, hg2, hm, hok⟩, rfl, hb2, hb2d, hsl, hd2, hgr2⟩
  have HOK := Lib.hid hok
  have hlen := hsl.len
  have HLen := Lib.hid hlen
  have HB2 := Lib.hid (Below.stepG hgr2 HB1.out (Nat.le_refl _) hd)
  have hz2 := hgr2.size
  have hdz2 := hd2.lt
  clear hok hgr2 HB1 hlen hdie
  by_cases h0 : m = 0
  · subst h0
    go_wp2_with fail
    refine (awake_any _).mono ?_
    rintro e w3 ⟨rfl, hB3⟩
    have HB3 := Lib.hid (Below.step hB3 (HB2.out.alloc (by omega) _) (Nat.le_refl _))
    clear hB3
    go_wp2_with fail
    go_ret
    exact ⟨rfl, HB3.out⟩
  · have hm0 : 0 < m := by omega
    have hf0 : ((m : Int) == 0) = false := by simpa using h0
    clear h0
    go_wp2_with fail
    refine (copyBook_any st gd b2 m c2 A2 l2 _ (hsl.alloc _) (by omega)).mono ?_
    rintro e w3 ⟨A3, c3, rfl, hown, hB3⟩
    obtain ⟨g3, rfl, hg3, hg3z⟩ := own_some hown hm0
    simp only [World.size_alloc] at hg3
    have k4 := (Blk.new w2 24 #[.int .i64 st, .int .i64 gd, .slice A2 m c2]).below hB3 (by simp)
    have s3 := (hsl.alloc (.cells #[.int .i64 st, .int .i64 gd, .slice A2 m c2] 24)).old hB3
    have d3 := (hd2.alloc (.cells #[.int .i64 st, .int .i64 gd, .slice A2 m c2] 24)).keep (hB3.block d (by simp; omega))
    have HB3 := Lib.hid (Below.step hB3 (HB2.out.alloc (by omega) _) (Nat.le_refl _))
    have hz3 := hB3.size
    have hb2z := hsl.lt hm0
    clear hB3 hsl hd2
    go_wp2_with fail
    have K4 := Lib.hid (k4.alloc (.cells #[.int .i64 st, .int .i64 gd, .slice (some ⟨g3, 0, none⟩) m c3] 24))
    have K5 := Lib.hid (Blk.new w3 24 #[.int .i64 st, .int .i64 gd, .slice (some ⟨g3, 0, none⟩) m c3])
    have S3 := Lib.hid (s3.alloc (.cells #[.int .i64 st, .int .i64 gd, .slice (some ⟨g3, 0, none⟩) m c3] 24))
    have O3 := Lib.hid (hown.alloc (.cells #[.int .i64 st, .int .i64 gd, .slice (some ⟨g3, 0, none⟩) m c3] 24))
    have D3 := Lib.hid (d3.alloc (.cells #[.int .i64 st, .int .i64 gd, .slice (some ⟨g3, 0, none⟩) m c3] 24))
    have L3 := Lib.hid (HB3.out.alloc (by omega) (.cells #[.int .i64 st, .int .i64 gd, .slice (some ⟨g3, 0, none⟩) m c3] 24))
    simp only [World.size_alloc] at hz3
    have hd4 : d ≠ w2.heap.size := by omega
    have hd5 : d ≠ w3.heap.size := by omega
    clear k4 s3 hown d3
    generalize hX : w3.alloc (.cells #[.int .i64 st, .int .i64 gd, .slice (some ⟨g3, 0, none⟩) m c3] 24) = X at K4 K5 S3 O3 D3 L3 ⊢
    have HX := Lib.hid hX
    clear hX
    refine wp_region_PL [1, 4] (fun w' => w'.cell? ⟨w2.heap.size, 2, none⟩ = some (.slice A2 m c2) ∧ w'.cell? ⟨w3.heap.size, 2, none⟩ = some (.slice (some ⟨g3, 0, none⟩) m c3)) rfl (by kernel_rfl) (⟨K4.out.cell 2, K5.out.cell 2⟩) (fun hF0 => ?_)
    (refine wpAnyP_takeL (i := 0) (v := ?_) rfl (by kernel_rfl) (by kernel_rfl) (by kernel_rfl) (fun _ _ _ h => h) (by rfl) ?_ ?_; rotate_left 1; focus (intro w; go_simp; try with_reducible rfl))
    try simp only [Act.put, List.setIfInBounds_toArray, List.set_cons_zero, List.set_cons_succ]
    (refine wpAnyP_loadL (i := 1) (v := ?_) rfl (by kernel_rfl) (by kernel_rfl) (by kernel_rfl) (by rfl) (fun _ _ _ h => h) hF0 (by rfl) ?_ ?_; rotate_left 1; focus (intro w hFw; (try dsimp only at hFw); go_split_ands; go_simp; try with_reducible rfl))
    try simp only [Act.put, List.setIfInBounds_toArray, List.set_cons_zero, List.set_cons_succ]
    (refine wpAnyP_takeL (i := 2) (v := ?_) rfl (by kernel_rfl) (by kernel_rfl) (by kernel_rfl) (fun _ _ _ h => h) (by rfl) ?_ ?_; rotate_left 1; focus (intro w; go_simp; try with_reducible rfl))
    try simp only [Act.put, List.setIfInBounds_toArray, List.set_cons_zero, List.set_cons_succ]
    (refine wpAnyP_takeL (i := 3) (v := ?_) rfl (by kernel_rfl) (by kernel_rfl) (by kernel_rfl) (fun _ _ _ h => h) (by rfl) ?_ ?_; rotate_left 1; focus (intro w; go_simp; try with_reducible rfl))
    try simp only [Act.put, List.setIfInBounds_toArray, List.set_cons_zero, List.set_cons_succ]
    (refine wpAnyP_loadL (i := 4) (v := ?_) rfl (by kernel_rfl) (by kernel_rfl) (by kernel_rfl) (by rfl) (fun _ _ _ h => h) hF0 (by rfl) ?_ ?_; rotate_left 1; focus (intro w hFw; (try dsimp only at hFw); go_split_ands; go_simp; try with_reducible rfl))
    try simp only [Act.put, List.setIfInBounds_toArray, List.set_cons_zero, List.set_cons_succ]
    (refine wpAnyP_takeL (i := 5) (v := ?_) rfl (by kernel_rfl) (by kernel_rfl) (by kernel_rfl) (fun _ _ _ h => h) (by rfl) ?_ ?_; rotate_left 1; focus (intro w; go_simp; try with_reducible rfl))
    try simp only [Act.put, List.setIfInBounds_toArray, List.set_cons_zero, List.set_cons_succ]
    (refine wpAnyP_takeL (i := 8) (v := ?_) rfl (by kernel_rfl) (by kernel_rfl) (by kernel_rfl) (fun _ _ _ h => h) (by rfl) ?_ ?_; rotate_left 1; focus (intro w; go_simp; try with_reducible rfl))
    try simp only [Act.put, List.setIfInBounds_toArray, List.set_cons_zero, List.set_cons_succ]
    refine wpAnyP_step (i := 6) rfl (by kernel_rfl) (by rfl) (fun K hK => ?_)
    go_simp
    (refine (cast_any d m _ (show IsDie X.drew d from D3.out) (by omega)).mono ?_; rintro e w4 ⟨k1, ⟨hk1, hk2, hk3⟩, rfl, hd4', hg4⟩; have G4 := Lib.hid (only_trans (only_drew (only_refl X d)) hg4); obtain ⟨k1, rfl⟩ := Int.eq_ofNat_of_zero_le hk1; have hkm : k1 < m := (by by_cases h : (m : Int) < 2 <;> omega); clear hk2 hk3 hg4)
    (refine hK _ _ (⟨(K4.out.grown G4.out (fun e => hd4 (by injection e with e; exact e.symm))).cell 2, (K5.out.grown G4.out (fun e => hd5 (by injection e with e; exact e.symm))).cell 2⟩) (fun hF1 => ?_); clear hK K hF0)
    try simp only [Act.put, List.setIfInBounds_toArray, List.set_cons_zero, List.set_cons_succ]
    (refine wpAnyP_takeL (i := 7) (v := ?_) rfl (by kernel_rfl) (by kernel_rfl) (by kernel_rfl) (fun _ _ _ h => h) (by rfl) ?_ ?_; rotate_left 1; focus (intro w; go_simp; try with_reducible rfl))
    try simp only [Act.put, List.setIfInBounds_toArray, List.set_cons_zero, List.set_cons_succ]
    refine wpAnyP_step (i := 9) rfl (by kernel_rfl) (by rfl) (fun K hK => ?_)
    go_simp
    (refine (cast_any d 4 _ hd4' (by omega)).mono ?_; rintro e w5 ⟨k2, ⟨hj1, hj2, hj3⟩, rfl, hd5', hg5⟩; have G5 := Lib.hid (only_trans G4.out hg5); obtain ⟨j1, rfl⟩ := Int.eq_ofNat_of_zero_le hj1; have hjm : j1 < 4 := (by omega); clear hj2 hj3 hg5)
    (refine hK _ _ (⟨(K4.out.grown G5.out (fun e => hd4 (by injection e with e; exact e.symm))).cell 2, (K5.out.grown G5.out (fun e => hd5 (by injection e with e; exact e.symm))).cell 2⟩) (fun hF2 => ?_); clear hK K hF1)
    try simp only [Act.put, List.setIfInBounds_toArray, List.set_cons_zero, List.set_cons_succ]
    refine wpAnyP_step (i := 10) rfl (by kernel_rfl) (by rfl) (fun K hK => ?_)
    go_simp
    (refine (numberAt_any g3 _ j1 hjm _).mono ?_; rintro e w6 ⟨rfl, rfl⟩)
    (refine hK _ _ (⟨(K4.out.grown G5.out (fun e => hd4 (by injection e with e; exact e.symm))).cell 2, (K5.out.grown G5.out (fun e => hd5 (by injection e with e; exact e.symm))).cell 2⟩) (fun hF3 => ?_); clear hK K hF2)
    try simp only [Act.put, List.setIfInBounds_toArray, List.set_cons_zero, List.set_cons_succ]
    (refine wpAnyP_takeL (i := 11) (v := ?_) rfl (by kernel_rfl) (by kernel_rfl) (by kernel_rfl) (fun _ _ _ h => h) (by rfl) ?_ ?_; rotate_left 1; focus (intro w; go_simp; try with_reducible rfl))
    try simp only [Act.put, List.setIfInBounds_toArray, List.set_cons_zero, List.set_cons_succ]
    refine wpAnyP_done (by kernel_rfl) ?_ _
    have hkl : k1 < l2.length := by rw [← HLen.out]; exact hkm
    have hkm6 : k1 * 6 + (2 + j1) < m * 6 := by omega
    have O5 := Lib.hid (ownsRow_die O3.out G5.out (by simp; omega))
    have hc5 := (O5.out.cellAt (k1 * 6 + (2 + j1)) hkm6).trans (flat_at encS_len l2 k1 hkl (2 + j1) _ (encS_getNum _ j1 hjm))
    have hf5 := O5.out.frozenAt (k1 * 6 + (2 + j1))
    rw [← Nat.add_assoc] at hc5 hf5
    have hbd := (HOK.out l2[k1] (List.getElem_mem _)).bd
    have hwas : 0 ≤ getNum l2[k1] j1 ∧ getNum l2[k1] j1 ≤ 5000 := by
      have h1 := HOK.out l2[k1] (List.getElem_mem _)
      have := h1.gl0
      have := h1.gl1
      have := h1.gh1
      have := h1.cl0
      have := h1.cl1
      have := h1.ch1
      match j1, hjm with
      | 0, _ => show 0 ≤ l2[k1].gl ∧ l2[k1].gl ≤ 5000; omega
      | 1, _ => show 0 ≤ l2[k1].gh ∧ l2[k1].gh ≤ 5000; omega
      | 2, _ => show 0 ≤ l2[k1].cl ∧ l2[k1].cl ≤ 5000; omega
      | 3, _ => show 0 ≤ l2[k1].ch ∧ l2[k1].ch ≤ 5000; omega
    obtain ⟨hw0, hw1⟩ := hwas
    generalize hv : getNum l2[k1] j1 = was at hc5 hw0 hw1
    have HV := Lib.hid hv
    clear hv hbd
    go_wp2_with fail
    refine (cast_any d 100001 _ hd5' (by omega)).mono ?_
    rintro e w6 ⟨v3, ⟨hv1, _, hv3⟩, rfl, hd6, hg6⟩
    have hv3 := hv3 (by omega)
    have G6 := Lib.hid (only_trans G5.out hg6)
    have hd6z := hd6.lt
    clear hg6
    go_wp2_with fail
    refine (one_any d w6.heap.size 3 3 _ [was + 1, _, v3] _ (hd6.alloc _) (Sl.newI w6 [was + 1, _, v3] _) (by omega) (by omega) (by omega)).mono ?_
    rintro e w7 ⟨v, hv, rfl, hd7, hg7⟩
    have hvb : 0 ≤ v ∧ v ≤ 100000 := by simp at hv; omega
    obtain ⟨hvb0, hvb1⟩ := hvb
    have G7 := Lib.hid (only_step hg7 (only_alloc G6.out _) (.inl rfl))
    clear hg7 hv hd6
    have O7 := Lib.hid (ownsRow_die O3.out G7.out (by simp; omega))
    have hc7 := (O7.out.cellAt (k1 * 6 + (2 + j1)) hkm6).trans (flat_at encS_len l2 k1 hkl (2 + j1) _ (encS_getNum _ j1 hjm))
    have hf7 := O7.out.frozenAt (k1 * 6 + (2 + j1))
    have hst := (O7.out.stored (k1 * 6 + (2 + j1)) (.int .i64 v)).1
    rw [flat_set encS_len l2 k1 hkl (2 + j1) (by omega) (setNum l2[k1] j1 v) (.int .i64 v) (encS_setNum _ j1 hjm v)] at hst
    rw [← Nat.add_assoc] at hc7 hf7 hst
    have k47 := K4.out.grown G7.out (fun e => hd4 (by injection e with e; exact e.symm))
    have k57 := K5.out.grown G7.out (fun e => hd5 (by injection e with e; exact e.symm))
    have a0 := k47.cell 0
    have a1 := k47.cell 1
    have a2 := k47.cell 2
    have KY4 := Lib.hid (k47.far (p := ⟨g3, k1 * 6 + 2 + j1, none⟩) (by show w2.heap.size ≠ g3; omega) (.int .i64 v))
    have KY5 := Lib.hid (k57.far (p := ⟨g3, k1 * 6 + 2 + j1, none⟩) (by show w3.heap.size ≠ g3; omega) (.int .i64 v))
    have SY := Lib.hid ((S3.out.grown G7.out (fun _ e => hb2d (by injection e))).setCell (p := ⟨g3, k1 * 6 + 2 + j1, none⟩) (fun _ => by show b2 ≠ g3; omega) (.int .i64 v))
    have LY := Lib.hid ((Below.stepG G7.out L3.out (Nat.le_refl _) hd).setCell (p := ⟨g3, k1 * 6 + 2 + j1, none⟩) (by show w.heap.size ≤ g3; omega) (.int .i64 v))
    have HST := Lib.hid hst
    rw [HV.out] at hc7
    clear hst k47 k57 hc5 hf5
    obtain ⟨hck, hcy⟩ := sealed_law hs1 (by omega) hg1 (by omega) (by have := HLen.out; omega) HOK.out k1 hkl j1 hvb0 hvb1
    have hsl := (seal_other st gd l2 k1 hkl j1 v)
    rw [HV.out] at hsl
    have hmod : (v - was) % 9973 = 0 ↔ (v - was).tmod 9973 = 0 := by rw [← Int.dvd_iff_tmod_eq_zero, ← Int.dvd_iff_emod_eq_zero]
    rw [hmod] at hsl
    have HSL := Lib.hid hsl
    have HCK := Lib.hid hck
    have HCY := Lib.hid hcy
    clear hsl hck hcy hmod
    go_wp2_with fail
    refine (sealTop_any st gd b2 m c2 A2 l2 _ SY.out (by omega)).mono ?_
    rw [HCK.out, if_pos rfl]
    rintro e w8 ⟨rfl, hB8⟩
    have k58 := KY5.out.below hB8 KY5.out.lt
    have e0 := k58.cell 0
    have e1 := k58.cell 1
    have e2 := k58.cell 2
    have O8 := Lib.hid (ownsRow_below HST.out hB8 (Nat.le_refl _))
    have L8 := Lib.hid (Below.step hB8 LY.out (Nat.le_refl _))
    obtain ⟨x0, x1⟩ := press_bd (s := 7) (by omega) (by omega) ([st, gd] ++ l2.flatMap nums)
    have hx : press 7 ([st, gd] ++ l2.flatMap nums) = sealOf st gd l2 := rfl
    rw [hx] at x0 x1
    have HSL2 := Lib.hid HSL.out
    generalize sealOf st gd l2 = x at HSL2 x0 x1 ⊢
    clear k58 hB8 hx a0 a1 a2 hc7 hf7 HSL
    go_wp2_with fail
    obtain ⟨b5, hb5, S5⟩ := Sl.of_own encS_len (by simpa using HLen.out) O8.out
    refine (sealTop_any st gd b5 m c3 _ _ _ S5 (by omega)).mono ?_
    rintro e w9 ⟨rfl, hB9⟩
    have L9 := Lib.hid (Below.step hB9 L8.out (Nat.le_refl _))
    have O9 := Lib.hid (ownsRow_below O8.out hB9 (Nat.le_refl _))
    have hc9 := (O9.out.cellAt (k1 * 6 + (2 + j1)) hkm6).trans (flat_at encS_len _ k1 (by simpa using hkl) (2 + j1) _ (encS_getNum _ j1 hjm))
    rw [List.getElem_set_self] at hc9
    have hgn : getNum (setNum l2[k1] j1 v) j1 = v := by
      match j1, hjm with
      | 0, _ => rfl
      | 1, _ => rfl
      | 2, _ => rfl
      | 3, _ => rfl
    rw [hgn, ← Nat.add_assoc] at hc9
    clear hB9 S5 hb5 hgn e0 e1 e2
    rcases HCY.out with hy | hy
    · rw [hy, if_pos rfl]
      generalize sealOf st gd (l2.set k1 (setNum l2[k1] j1 v)) = y at HSL2 ⊢
      have hxy : (x == y) = ((v - was).tmod 9973 == 0) := by
        rw [Bool.eq_iff_iff]
        simpa using HSL2.out
      have HXY := Lib.hid hxy
      clear hxy
      go_wp2_with fail
      refine (awake_any _).mono ?_
      rintro e wa ⟨rfl, hBa⟩
      have La := Lib.hid (Below.step hBa L9.out (Nat.le_refl _))
      clear hBa
      go_wp2_with fail
      go_ret
      exact ⟨rfl, La.out⟩
    · rw [hy, if_neg (by decide)]
      go_wp2_with fail
      refine (awake_any _).mono ?_
      rintro e wa ⟨rfl, hBa⟩
      have La := Lib.hid (Below.step hBa L9.out (Nat.le_refl _))
      clear hBa
      go_wp2_with fail
      go_ret
      exact ⟨rfl, La.out⟩
end Go.Proofs.Ytkcdknjgjidnnaa
