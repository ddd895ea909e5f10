/-
  price.Pick: the walk.
-/
import Derived.Test.YtkcdknjgjidnnaaPick
import Derived.Deep.CutRange
set_option linter.unusedVariables false
set_option linter.unusedSimpArgs false
namespace Go.Proofs.Ytkcdknjgjidnnaa
open Go.RowKit

theorem pick_bad1 {st gd : Int} {l : List Sale} {x m : Int} (hc : check st gd l = 0) (h : inB x 0 1000000000 = false ∨ inB m 0 (min 10 (l.length : Int)) = false) : pickErr st gd l x m = 1 ∧ pickOut st gd l x m = [] := by
  have h1 : pickErr st gd l x m = 1 := by
    unfold pickErr
    rw [if_neg (by simp [hc])]
    rcases h with h | h <;> simp [h]
  exact ⟨h1, by unfold pickOut; rw [if_neg (by rw [h1]; decide)]⟩
theorem pick_bad0 {st gd : Int} {l : List Sale} {x m : Int} (hc : check st gd l ≠ 0) : pickErr st gd l x m = check st gd l ∧ pickOut st gd l x m = [] := by
  have h1 : pickErr st gd l x m = check st gd l := by unfold pickErr; rw [if_pos hc]
  exact ⟨h1, by unfold pickOut; rw [if_neg (by rw [h1]; exact hc)]⟩
theorem pick_good {st gd : Int} {l : List Sale} {x m : Int} (hc : check st gd l = 0) (h1 : inB x 0 1000000000 = true) (h2 : inB m 0 (min 10 (l.length : Int)) = true) : pickErr st gd l x m = 0 ∧ pickOut st gd l x m = pickL m.toNat x (places l.length) := by
  have h0 : pickErr st gd l x m = 0 := by
    unfold pickErr
    rw [if_neg (by simp [hc]), h1, h2]
    rfl
  exact ⟨h0, by unfold pickOut; rw [if_pos h0]⟩

theorem own_some2 {W : World} {base m c sz : Nat} {e : TypeId} {A : Option Addr} {xs : List Value} (h : W.ownsRow base e sz (.slice A m c) m xs) (hm : 0 < m) : ∃ g, A = some ⟨g, 0, none⟩ ∧ base ≤ g ∧ g < W.heap.size := by
  rcases h.2 with ⟨hv, _⟩ | ⟨g, cap, cur, hv, hbg, hh, _⟩
  · injection hv with h1 h2 h3
    omega
  · injection hv with h1 h2 h3
    subst h1
    exact ⟨g, rfl, hbg, (h.lt g rfl).2⟩

set_option maxRecDepth 100000 in
set_option maxHeartbeats 1000000 in
theorem pick_any (st gd x m : Int) (b n c : Nat) (A : Option Addr) (l : List Sale) (w : World) (hl : Sl encS 6 w b A n l) (hn : n ≤ 1000000000000) :
    Calls Try.prog 44 #[.agg #[.int .i64 st, .int .i64 gd, .slice A n c], .int .i64 x, .int .i64 m] w (IntsPost (pickOut st gd l x m) (pickErr st gd l x m) w) := by
  have HL := Lib.hid hl
  have HA := Lib.hid hl.len
  have HO := Lib.hid (OverBook.start w st gd A n c)
  clear hl
  by_cases hc : check st gd l = 0
  · have HC := Lib.hid hc
    have HIN := Lib.hid (check_zero.1 hc)
    have hn40 : n ≤ 40 := by have := HIN.out.len; have := HA.out; omega
    have hmn : min (10 : Int) (n : Int) = min 10 (l.length : Int) := by rw [HA.out]
    have HMN := Lib.hid hmn
    clear hmn
    cases h1 : inB x 0 1000000000
    · obtain ⟨p1, p2⟩ := pick_bad1 (st := st) (gd := gd) (l := l) (x := x) (m := m) hc (.inl h1)
      have HP := Lib.hid (And.intro p1 p2)
      have HX := Lib.hid h1
      clear p1 p2 h1 hc
      go_enter Try.func44, Try.ntmps44
      go_wp2_with fail
      refine (check_any st gd b n c A l _ (HL.out.alloc _) hn).mono ?_
      rw [HC.out]
      rintro e w1 ⟨rfl, hb1⟩
      have HO1 := Lib.hid (HO.out.below hb1)
      clear hb1
      go_wp2_with fail
      refine (in_any _ _ _ _).mono ?_
      rw [HX.out]
      rintro e w2 ⟨rfl, rfl⟩
      go_wp2_with fail
      go_ret2
      exact ⟨none, 0, w.heap.size, by rw [HP.out.1, HP.out.2]; rfl, by rw [HP.out.2]; exact Sl.nil _ _ _, by rw [HP.out.2]; exact Nat.le_refl _, Nat.le_refl _, HO1.out.low⟩
    cases h2 : inB m 0 (min 10 (n : Int))
    · obtain ⟨p1, p2⟩ := pick_bad1 (st := st) (gd := gd) (l := l) (x := x) (m := m) hc (.inr (by rw [← HMN.out]; exact h2))
      have HP := Lib.hid (And.intro p1 p2)
      have HX := Lib.hid h1
      have HM := Lib.hid h2
      clear p1 p2 h1 h2 hc
      go_enter Try.func44, Try.ntmps44
      go_wp2_with fail
      refine (check_any st gd b n c A l _ (HL.out.alloc _) hn).mono ?_
      rw [HC.out]
      rintro e w1 ⟨rfl, hb1⟩
      have HO1 := Lib.hid (HO.out.below hb1)
      have c2' := HO1.out.blk.cell 2
      clear hb1
      go_wp2_with fail
      refine (in_any _ _ _ _).mono ?_
      rw [HX.out]
      rintro e w2 ⟨rfl, rfl⟩
      go_wp2_with fail
      refine (in_any _ _ _ _).mono ?_
      rw [HM.out]
      rintro e w3 ⟨rfl, rfl⟩
      go_wp2_with fail
      go_ret2
      exact ⟨none, 0, w.heap.size, by rw [HP.out.1, HP.out.2]; rfl, by rw [HP.out.2]; exact Sl.nil _ _ _, by rw [HP.out.2]; exact Nat.le_refl _, Nat.le_refl _, HO1.out.low⟩
    obtain ⟨p1, p2⟩ := pick_good (x := x) (m := m) hc h1 (by rw [← HMN.out]; exact h2)
    obtain ⟨x0, x1⟩ := inB_iff.1 h1
    obtain ⟨m0, m1⟩ := inB_iff.1 h2
    obtain ⟨m, rfl⟩ := Int.eq_ofNat_of_zero_le m0
    have hmn : m ≤ n := by omega
    have hm10 : m ≤ 10 := by omega
    rw [show (m : Int).toNat = m by omega] at p2
    have HP := Lib.hid (And.intro p1 p2)
    have HX := Lib.hid h1
    have HM := Lib.hid h2
    obtain ⟨i0, hi, iz0, iz1, iz2⟩ := info_parts info_int'
    clear p1 p2 h1 h2 hc m0 m1
    go_enter Try.func44, Try.ntmps44
    go_wp2_with fail
    refine (check_any st gd b n c A l _ (HL.out.alloc _) hn).mono ?_
    rw [HC.out]
    rintro e w1 ⟨rfl, hb1⟩
    have HO1 := Lib.hid (HO.out.below hb1)
    have c2' := HO1.out.blk.cell 2
    clear hb1
    go_wp2_with fail
    refine (in_any _ _ _ _).mono ?_
    rw [HX.out]
    rintro e w2 ⟨rfl, rfl⟩
    go_wp2_with fail
    refine (in_any _ _ _ _).mono ?_
    rw [HM.out]
    rintro e w3 ⟨rfl, rfl⟩
    go_wp2_with fail
    go_loopw [9, 33] (fun v i wr => ∃ (k c' : Nat) (A' : Option Addr), k ≤ n ∧ i = .int .i64 k ∧ v = .slice A' k c' ∧ wr.ownsRow w1.heap.size 3 1 (.slice A' k c') k ((places k).flatMap encI) ∧ Below w1.heap.size w1 wr) (fun _ i _ => n - (intOf i).toNat)
    case atStart => exact ⟨0, 0, none, by omega, rfl, rfl, World.ownsRow_nil _ _ _ _, Below.refl _ _⟩
    case round =>
      clear c2'
      obtain ⟨k, c', A', hk, rfl, rfl, hown, hB⟩ := hrel
      have HOWN := Lib.hid hown
      have HB := Lib.hid hB
      have hz : w1.heap.size ≤ wr.heap.size := hB.size
      clear hown hB
      by_cases hlt : k < n
      · go_wp2_with (at_builtin; refine wpList_append_lies _ rfl _ _ 29 rfl w1.heap.size 3 i0 _ 1 8 Try.underlying29 hi iz0 iz1 iz2 rfl (by omega) _ k _ (by rfl) (HOWN.out.alloc _) ⟨wr.heap.size, 0, none⟩ 1 1 (encI (k : Int)) (by rfl) (by rfl) (World.news_of_block (heap_alloc_new wr _)) (oneI _) (by omega) (by unfold maxLen; omega) (by omega) (by simp; omega) (wr.heap.size + 1) (by simp) ?_; intro g' cap w6 hown6 hgrow hat hlt6; have HW6 := Lib.hid hown6; have HB6 := Lib.hid (below_own (HOWN.out.alloc (.cells #[.int .i64 (k : Int)] 3)) hgrow (HB.out.alloc hz _) (Nat.le_refl _) (Nat.le_refl _)); clear hown6 hgrow hat hlt6)
        go_roundw
        case rel => exact ⟨k + 1, cap, _, by omega, by go_num, rfl, by rw [places_succ]; simpa using HW6.out, HB6.out⟩
        case measure => simp [intOf]; omega
      · obtain rfl : n = k := by omega
        have hwr : w1.heap.size ≤ wr.heap.size := hz
        -- the row of places: where it lies, if there is one
        obtain ⟨g, hG⟩ : ∃ g : Nat, 0 < n → A' = some ⟨g, 0, none⟩ ∧ w1.heap.size ≤ g ∧ g < wr.heap.size ∧ HoldsI wr g (places n) ∧ n ≤ c' ∧ c' ≤ 9223372036854775807 := by
          by_cases h0 : 0 < n
          · obtain ⟨g, rfl, hg1, hg2⟩ := own_some2 HOWN.out h0
            obtain ⟨q1, q2, q3⟩ := holds_own HOWN.out (places_len n).symm
            exact ⟨g, fun _ => ⟨rfl, hg1, hg2, q1, q2, q3⟩⟩
          · exact ⟨0, fun h => absurd h h0⟩
        have HG := Lib.hid hG
        clear hG
        obtain ⟨wo, rfl⟩ : ∃ wo : World, wo = wr := ⟨_, rfl⟩
        go_wp2_with fail
        go_loopw [1, 9, 10, 42] (fun xv lv ov i wr => ∃ (k cc : Nat) (y : Int) (r o : List Int) (Ao : Option Addr), k ≤ m ∧ i = .int .i64 k ∧ xv = .int .i64 y ∧ lv = .slice A' r.length c' ∧ ov = .slice Ao k cc ∧ 0 ≤ y ∧ y ≤ 1000000000 ∧ o.length = k ∧ o ++ pickL (m - k) y r = pickL m x (places n) ∧ m - k ≤ r.length ∧ r.length ≤ n ∧ (0 < n → HoldsI wr g r) ∧
            wr.ownsRow wo.heap.size 3 1 (.slice Ao k cc) k (o.flatMap encI) ∧ Below w1.heap.size w1 wr ∧ wo.heap.size ≤ wr.heap.size) (fun _ _ _ i _ => m - (intOf i).toNat)
        case atStart => exact ⟨0, 0, x, places n, [], none, by omega, rfl, rfl, by rw [places_len], rfl, x0, x1, rfl, rfl, by rw [places_len]; omega, by rw [places_len]; omega, fun h => (HG.out h).2.2.2.1, World.ownsRow_nil _ _ _ _, HB.out, Nat.le_refl _⟩
        case round =>
          obtain ⟨k, cc, y, r, o, Ao, hk, rfl, rfl, rfl, rfl, y0, y1, hol, hpick, hmr, hrn, hH, hown, hB, hzo⟩ := hrel
          have HOL := Lib.hid hol
          have HPK := Lib.hid hpick
          have HH := Lib.hid hH
          have HOW := Lib.hid hown
          have HBB := Lib.hid hB
          have hzb := hB.size
          clear hol hpick hH hown hB
          by_cases hlt : k < m
          · obtain ⟨rfl, hg1, hg2, _, hnc, hcm⟩ := HG.out (by omega)
            have hHr := HH.out (by omega)
            have hr0 : 0 < r.length := by omega
            have hb1 := Int.emod_nonneg y (show (r.length : Int) ≠ 0 by omega)
            have hb2 := Int.emod_lt_of_pos y (show (0 : Int) < (r.length : Int) by omega)
            obtain ⟨kk, hkk⟩ := Int.eq_ofNat_of_zero_le hb1
            have hkr : kk < r.length := by omega
            have HPS := Lib.hid (show pickL (m - k) y r = r[kk] :: pickL (m - (k + 1)) (y / (r.length : Int)) (r.eraseIdx kk) by
              rw [show m - k = (m - (k + 1)) + 1 by omega, pickL, hkk]
              simp [hkr])
            have HKK := Lib.hid (show y % (r.length : Int) = (kk : Int) from hkk)
            have hd0 : 0 ≤ y / (r.length : Int) := Int.ediv_nonneg y0 (by omega)
            have hd1 : y / (r.length : Int) ≤ y := Int.ediv_le_self _ y0
            obtain ⟨y', hy'⟩ : ∃ y', y / (r.length : Int) = y' := ⟨_, rfl⟩
            have HDD := Lib.hid hy'
            rw [hy'] at hd0 hd1
            clear hy'
            have hck := hHr.cell hkr
            have HHR := Lib.hid hHr
            generalize hv : r[kk] = v at hck HPS
            have i0' : (0 : Int) ≤ (kk : Int) := by omega
            have i1' : (kk : Int) < (r.length : Int) := by omega
            have hrl : ((r.length : Int) == 0) = false := by rw [beq_eq_false_iff_ne]; omega
            have HKR := Lib.hid hkr
            clear hkk hb1 hb2 hHr hv hkr
            go_upto_region 16 with fail
            rw [HKK.out, HDD.out]
            go_wp2_with (at_builtin; refine wpList_append_lies _ rfl _ _ 29 rfl wo.heap.size 3 i0 _ 1 8 Try.underlying29 hi iz0 iz1 iz2 rfl (by omega) _ k _ (by rfl) (HOW.out.alloc _) ⟨wr.heap.size, 0, none⟩ 1 1 (encI v) (by rfl) (by rfl) (World.news_of_block (heap_alloc_new wr _)) (oneI _) (by omega) (by unfold maxLen; omega) (by omega) (by simp; omega) (wr.heap.size + 1) (by simp) ?_; intro g' cap w6 hown6 hgrow hat hlt6; have HW6 := Lib.hid hown6; have HB6 := Lib.hid (below_own (HOW.out.alloc (.cells #[.int .i64 v] 3)) hgrow (HBB.out.alloc hzb _) (by omega) (Nat.le_refl _)); have H6 := Lib.hid (HHR.out.keep ((own_keeps (HOW.out.alloc (.cells #[.int .i64 v] 3)) hgrow (b := g) (by omega) (by simp; omega)).trans (Below.heap_alloc wr _ g (by omega)))); clear hown6 hgrow hat hlt6)
            refine (delete_any g c' r kk w6 H6.out (by omega) hcm HKR.out).mono ?_
            rintro e w7 ⟨rfl, hH7, hg7⟩
            have hz6 := HB6.out.size
            have HB7 := Lib.hid (Below.stepG hg7 HB6.out (Nat.le_refl _) hg1)
            have HW7 := Lib.hid (ownsRow_die HW6.out hg7 hg2)
            have HH7 := Lib.hid hH7
            have hz7 := hg7.size
            have hz66 : wo.heap.size ≤ w6.heap.size := by have := (HW6.out.lt g' rfl); omega
            clear hH7 hg7 hck
            have hlen := List.length_eraseIdx_of_lt HKR.out
            have HLN := Lib.hid hlen
            have hl1 : m - (k + 1) ≤ (r.eraseIdx kk).length := by omega
            have hl2 : (r.eraseIdx kk).length ≤ n := by omega
            clear hlen
            go_wp2_with fail
            go_roundw
            case rel => exact ⟨k + 1, cap, y', r.eraseIdx kk, o ++ [v], _, by omega, by go_num, rfl, rfl, rfl, hd0, by omega, by rw [List.length_append, HOL.out]; rfl, by rw [← HPK.out, HPS.out, HDD.out, List.append_assoc]; rfl, hl1, hl2, fun _ => HH7.out, by simpa using HW7.out, HB7.out, by omega⟩
            case measure => simp [intOf]; omega
          · obtain rfl : k = m := by omega
            have HPE := Lib.hid (show o = pickL k x (places n) by have := HPK.out; rw [Nat.sub_self] at this; simpa [pickL] using this)
            go_wp2_with fail
            go_ret2
            obtain ⟨b', hb', hsl⟩ := Sl.of_own encI_len HOL.out.symm HOW.out
            have hpl : pickOut st gd l x k = o := by rw [HP.out.2, HPE.out, HA.out]
            refine ⟨Ao, cc, b', ?_, ?_, by rw [hpl, HOL.out]; exact (own_cap HOW.out).1, by have := HO1.out.low.size; omega, Below.step HBB.out HO1.out.low (Nat.le_refl _)⟩
            · rw [HP.out.1, hpl, HOL.out]
              rfl
            · rw [hpl, HOL.out]
              exact hsl
  · obtain ⟨p1, p2⟩ := pick_bad0 (x := x) (m := m) hc
    have HP := Lib.hid (And.intro p1 p2)
    clear p1 p2
    go_enter Try.func44, Try.ntmps44
    go_wp2_with fail
    refine (check_any st gd b n c A l _ (HL.out.alloc _) hn).mono ?_
    rintro e w1 ⟨rfl, hb1⟩
    have HO1 := Lib.hid (HO.out.below hb1)
    clear hb1
    go_wp2_with fail
    go_ret2
    exact ⟨none, 0, w.heap.size, by rw [HP.out.1, HP.out.2]; rfl, by rw [HP.out.2]; exact Sl.nil _ _ _, by rw [HP.out.2]; exact Nat.le_refl _, Nat.le_refl _, HO1.out.low⟩
end Go.Proofs.Ytkcdknjgjidnnaa
