/-
  Pick of the reference: the walk.
-/
import Derived.Test.YtkcdknjgjidnnaaPickW
import Derived.Test.YtkcdknjgjidnnaaRChk
import Derived.Test.YtkcdknjgjidnnaaReg2
import Derived.Test.YtkcdknjgjidnnaaBooks
set_option linter.unusedVariables false
set_option linter.unusedSimpArgs false
namespace Go.Proofs.Ytkcdknjgjidnnaa
open Go.RowKit

theorem wrap_in' {x : Int} (h0 : -9223372036854775808 ≤ x) (h1 : x ≤ 9223372036854775807) : IntKind.i64.wrap x = x := by
  simp [IntKind.wrap, IntKind.bits, IntKind.signed]
  omega
def vlen : Value → Nat
  | .slice _ n _ => n
  | _ => 0
theorem Sl.dropI {w : World} {b o n : Nat} {l : List Int} (h : Sl encI 1 w b (some ⟨b, o, none⟩) n l) (k m : Nat) (hm : m = n - k) : Sl encI 1 w b (some ⟨b, o + k, none⟩) m (l.drop k) := by
  have hl := h.1
  refine ⟨by simp; omega, fun hpos => ?_⟩
  obtain ⟨o', h1, h2, h3⟩ := h.2 (by omega)
  obtain rfl : o = o' := by injection h1 with h1; injection h1
  refine ⟨o + k, rfl, h2, fun j hj i u hu => ?_⟩
  have hj' : k + j < l.length := by simp at hj; omega
  have := h3 (k + j) hj' i u (by rw [List.getElem_drop] at hu; exact hu)
  rw [show o + k + j * 1 + i = o + (k + j) * 1 + i by omega]
  exact this

theorem Sl.tailI {w : World} {b o n cR kk : Nat} {l : List Int} (h : Sl encI 1 w b (some ⟨b, o, none⟩) n l) (hc : n ≤ cR) : Sl encI 1 w b (if cR = kk + 1 then some ⟨b, o, none⟩ else some ⟨b, o + (kk + 1), none⟩) (n - (kk + 1)) (l.drop (kk + 1)) := by
  have := h.1
  by_cases hq : cR = kk + 1
  · rw [if_pos hq]
    exact ⟨by simp; omega, fun h => by omega⟩
  · rw [if_neg hq]
    exact h.dropI _ _ rfl
set_option maxRecDepth 100000 in
set_option maxHeartbeats 1000000 in
theorem rpick_any (st gd x m : Int) (b n c : Nat) (A : Option Addr) (l : List Sale) (w : World) (hl : Sl encS 6 w b A n l) (hn : n ≤ 1000000000000) :
    Calls Try.prog 50 #[.agg #[.int .i64 st, .int .i64 gd, .slice A n c], .int .i64 x, .int .i64 m] w (IntsPost (pickOut st gd l x m) (pickErr st gd l x m) w) := by
  have HL := Lib.hid hl
  have HA := Lib.hid hl.len
  have HO := Lib.hid (OverBook.start w st gd A n c)
  clear hl
  by_cases hc : check st gd l = 0
  · have HC := Lib.hid hc
    have HIN := Lib.hid (check_zero.1 hc)
    have hn40 : n ≤ 40 := by have := HIN.out.len; have := HA.out; omega
    have hmn : min (10 : Int) (n : Int) = min 10 (l.length : Int) := by rw [HA.out]
    have HMN := Lib.hid hmn
    clear hmn
    cases h1 : inB x 0 1000000000
    · obtain ⟨p1, p2⟩ := pick_bad1 (st := st) (gd := gd) (l := l) (x := x) (m := m) hc (.inl h1)
      have HP := Lib.hid (And.intro p1 p2)
      have HX := Lib.hid h1
      clear p1 p2 h1 hc
      go_enter Try.func50, Try.ntmps50
      go_wp2_with fail
      refine (rcheck_any st gd b n c A l _ (HL.out.alloc _) hn).mono ?_
      rw [HC.out]
      rintro e w1 ⟨rfl, hb1⟩
      have HO1 := Lib.hid (HO.out.below hb1)
      clear hb1
      go_wp2_with fail
      refine (within_any _ _ _ _).mono ?_
      rw [HX.out]
      rintro e w2 ⟨rfl, rfl⟩
      go_wp2_with fail
      go_ret2
      exact ⟨none, 0, w.heap.size, by rw [HP.out.1, HP.out.2]; rfl, by rw [HP.out.2]; exact Sl.nil _ _ _, by rw [HP.out.2]; exact Nat.le_refl _, Nat.le_refl _, HO1.out.low⟩
    cases h2 : inB m 0 (min 10 (n : Int))
    · obtain ⟨p1, p2⟩ := pick_bad1 (st := st) (gd := gd) (l := l) (x := x) (m := m) hc (.inr (by rw [← HMN.out]; exact h2))
      have HP := Lib.hid (And.intro p1 p2)
      have HX := Lib.hid h1
      have HM := Lib.hid h2
      clear p1 p2 h1 h2 hc
      go_enter Try.func50, Try.ntmps50
      go_wp2_with fail
      refine (rcheck_any st gd b n c A l _ (HL.out.alloc _) hn).mono ?_
      rw [HC.out]
      rintro e w1 ⟨rfl, hb1⟩
      have HO1 := Lib.hid (HO.out.below hb1)
      have c2' := HO1.out.blk.cell 2
      clear hb1
      go_wp2_with fail
      refine (within_any _ _ _ _).mono ?_
      rw [HX.out]
      rintro e w2 ⟨rfl, rfl⟩
      go_wp2_with fail
      refine (within_any _ _ _ _).mono ?_
      rw [HM.out]
      rintro e w3 ⟨rfl, rfl⟩
      go_wp2_with fail
      go_ret2
      exact ⟨none, 0, w.heap.size, by rw [HP.out.1, HP.out.2]; rfl, by rw [HP.out.2]; exact Sl.nil _ _ _, by rw [HP.out.2]; exact Nat.le_refl _, Nat.le_refl _, HO1.out.low⟩
    obtain ⟨p1, p2⟩ := pick_good (x := x) (m := m) hc h1 (by rw [← HMN.out]; exact h2)
    obtain ⟨x0, x1⟩ := inB_iff.1 h1
    obtain ⟨m0, m1⟩ := inB_iff.1 h2
    obtain ⟨m, rfl⟩ := Int.eq_ofNat_of_zero_le m0
    have hmn : m ≤ n := by omega
    have hm10 : m ≤ 10 := by omega
    rw [show (m : Int).toNat = m by omega] at p2
    have HP := Lib.hid (And.intro p1 p2)
    have HX := Lib.hid h1
    have HM := Lib.hid h2
    obtain ⟨i0, hi, iz0, iz1, iz2⟩ := info_parts info_int'
    clear p1 p2 h1 h2 hc m0 m1
    go_enter Try.func50, Try.ntmps50
    go_wp2_with fail
    refine (rcheck_any st gd b n c A l _ (HL.out.alloc _) hn).mono ?_
    rw [HC.out]
    rintro e w1 ⟨rfl, hb1⟩
    have HO1 := Lib.hid (HO.out.below hb1)
    have c2' := HO1.out.blk.cell 2
    clear hb1
    go_wp2_with fail
    refine (within_any _ _ _ _).mono ?_
    rw [HX.out]
    rintro e w2 ⟨rfl, rfl⟩
    go_wp2_with fail
    refine (within_any _ _ _ _).mono ?_
    rw [HM.out]
    rintro e w3 ⟨rfl, rfl⟩
    go_wp2_with fail
    go_loopw [9, 11] (fun v i wr => ∃ (k c' : Nat) (A' : Option Addr), k ≤ n ∧ i = .int .i64 k ∧ v = .slice A' k c' ∧ wr.ownsRow w1.heap.size 3 1 (.slice A' k c') k ((places k).flatMap encI) ∧ Below w1.heap.size w1 wr) (fun _ i _ => n - (intOf i).toNat)
    case atStart => exact ⟨0, 0, none, by omega, rfl, rfl, World.ownsRow_nil _ _ _ _, Below.refl _ _⟩
    case round =>
      clear c2'
      obtain ⟨k, c', A', hk, rfl, rfl, hown, hB⟩ := hrel
      have HOWN := Lib.hid hown
      have HB := Lib.hid hB
      have hz : w1.heap.size ≤ wr.heap.size := hB.size
      have c2' := (HO1.out.blk.below hB HO1.out.blk.lt).cell 2
      clear hown hB
      by_cases hlt : k < n
      · go_wp2_with (at_builtin; refine wpList_append_lies _ rfl _ _ 29 rfl w1.heap.size 3 i0 _ 1 8 Try.underlying29 hi iz0 iz1 iz2 rfl (by omega) _ k _ (by rfl) (HOWN.out.alloc _) ⟨wr.heap.size, 0, none⟩ 1 1 (encI (k : Int)) (by rfl) (by rfl) (World.news_of_block (heap_alloc_new wr _)) (oneI _) (by omega) (by unfold maxLen; omega) (by omega) (by simp; omega) (wr.heap.size + 1) (by simp) ?_; intro g' cap w6 hown6 hgrow hat hlt6; have HW6 := Lib.hid hown6; have HB6 := Lib.hid (below_own (HOWN.out.alloc (.cells #[.int .i64 (k : Int)] 3)) hgrow (HB.out.alloc hz _) (Nat.le_refl _) (Nat.le_refl _)); clear hown6 hgrow hat hlt6)
        go_roundw
        case rel => exact ⟨k + 1, cap, _, by omega, by go_num, rfl, by rw [places_succ]; simpa using HW6.out, HB6.out⟩
        case measure => simp [intOf]; omega
      · obtain rfl : n = k := by omega
        have hwr : w1.heap.size ≤ wr.heap.size := hz
        -- the row of places: where it lies
        obtain ⟨g, hg1, hS⟩ := Sl.of_own encI_len (places_len n).symm HOWN.out
        have hcap : n ≤ c' ∧ c' ≤ 9223372036854775807 := own_cap HOWN.out
        have HS := Lib.hid hS
        have HGZ := Lib.hid (fun h : 0 < n => hS.lt h)
        have HCP := Lib.hid hcap
        clear hS hcap
        obtain ⟨wo, rfl⟩ : ∃ wo : World, wo = wr := ⟨_, rfl⟩
        go_wp2_with fail
        clear c2'
        go_loopw [1, 9, 10] (fun xv lv ov wr => ∃ (k cc bR cR : Nat) (y : Int) (r o : List Int) (Ao AR : Option Addr), k ≤ m ∧ xv = .int .i64 y ∧ lv = .slice AR r.length cR ∧ ov = .slice Ao k cc ∧ 0 ≤ y ∧ y ≤ 1000000000 ∧ o.length = k ∧ o ++ pickL (m - k) y r = pickL m x (places n) ∧ m - k ≤ r.length ∧ r.length ≤ n ∧ r.length ≤ cR ∧ cR ≤ 9223372036854775807 ∧ Sl encI 1 wr bR AR r.length r ∧ w1.heap.size ≤ bR ∧
            (0 < r.length → ∀ j, Value.ownBlock (.slice Ao k cc) = some j → j ≠ bR) ∧ wr.ownsRow wo.heap.size 3 1 (.slice Ao k cc) k (o.flatMap encI) ∧ Below w1.heap.size w1 wr ∧ wo.heap.size ≤ wr.heap.size) (fun _ _ ov _ => m - vlen ov)
        case atStart => exact ⟨0, 0, g, c', x, places n, [], none, A', by omega, rfl, by rw [places_len], rfl, x0, x1, rfl, rfl, by rw [places_len]; omega, by rw [places_len]; omega, by rw [places_len]; exact HCP.out.1, HCP.out.2, by rw [places_len]; exact HS.out, hg1, fun _ j hj => (by simp [Value.ownBlock] at hj), World.ownsRow_nil _ _ _ _, HB.out, Nat.le_refl _⟩
        case round =>
          obtain ⟨k, cc, bR, cR, y, r, o, Ao, AR, hk, rfl, rfl, rfl, y0, y1, hol, hpick, hmr, hrn, hrc, hcR, hH, hbR, hsep, hown, hB, hzo⟩ := hrel
          have HOL := Lib.hid hol
          have HPK := Lib.hid hpick
          have HH := Lib.hid hH
          have HOW := Lib.hid hown
          have HBB := Lib.hid hB
          have HSEP := Lib.hid hsep
          have hzb := hB.size
          clear hol hpick hH hown hB hsep
          by_cases hlt : k < m
          · have hr0 : 0 < r.length := by omega
            have hb1 := Int.emod_nonneg y (show (r.length : Int) ≠ 0 by omega)
            have hb2 := Int.emod_lt_of_pos y (show (0 : Int) < (r.length : Int) by omega)
            obtain ⟨kk, hkk⟩ := Int.eq_ofNat_of_zero_le hb1
            have hkr : kk < r.length := by omega
            have HPS := Lib.hid (show pickL (m - k) y r = r[kk] :: pickL (m - (k + 1)) (y / (r.length : Int)) (r.eraseIdx kk) by
              rw [show m - k = (m - (k + 1)) + 1 by omega, pickL, hkk]
              simp [hkr])
            have HKK := Lib.hid (show y % (r.length : Int) = (kk : Int) from hkk)
            have hd0 : 0 ≤ y / (r.length : Int) := Int.ediv_nonneg y0 (by omega)
            have hd1 : y / (r.length : Int) ≤ y := Int.ediv_le_self _ y0
            obtain ⟨y', hy'⟩ : ∃ y', y / (r.length : Int) = y' := ⟨_, rfl⟩
            have HDD := Lib.hid hy'
            rw [hy'] at hd0 hd1
            clear hy'
            obtain ⟨oR, rfl, hbz, hck⟩ := HH.out.atI hkr
            generalize hv : r[kk] = v at hck HPS
            have i0' : (0 : Int) ≤ (kk : Int) := by omega
            have i1' : (kk : Int) < (r.length : Int) := by omega
            have hrl : ((r.length : Int) == 0) = false := by rw [beq_eq_false_iff_ne]; omega
            have HKR := Lib.hid hkr
            clear hkk hb1 hb2 hv hkr
            go_upto_region 14 with fail
            rw [HKK.out, HDD.out]
            go_wp2_with (at_builtin; refine wpList_append_lies _ rfl _ _ 29 rfl wo.heap.size 3 i0 _ 1 8 Try.underlying29 hi iz0 iz1 iz2 rfl (by omega) _ k _ (by rfl) (HOW.out.alloc _) ⟨wr.heap.size, 0, none⟩ 1 1 (encI v) (by rfl) (by rfl) (World.news_of_block (heap_alloc_new wr _)) (oneI _) (by omega) (by unfold maxLen; omega) (by omega) (by simp; omega) (wr.heap.size + 1) (by simp) ?_; intro g' cap w6 hown6 hgrow hat hlt6; have HW6 := Lib.hid hown6; have HB6 := Lib.hid (below_own (HOW.out.alloc (.cells #[.int .i64 v] 3)) hgrow (HBB.out.alloc hzb _) (by omega) (Nat.le_refl _)); have H6 := Lib.hid ((HH.out.alloc (.cells #[.int .i64 v] 3)).grown hgrow (fun h0 e => HSEP.out h0 _ e.symm rfl)); have HG6 := Lib.hid hlt6; clear hown6 hgrow hat hlt6)
            have hz6 := HB6.out.size
            have hz66 : wo.heap.size ≤ w6.heap.size := by have := (HW6.out.lt g' rfl); have := HG6.out; omega
            clear hck
            have i2' : kk ≤ cR := by have := HKR.out; omega
            have i3' : kk + 1 ≤ r.length := by have := HKR.out; omega
            have i4' : (kk : Int) + 1 ≤ (r.length : Int) := by omega
            have HWR := Lib.hid (show IntKind.i64.wrap ((kk : Int) + 1) = ((kk + 1 : Nat) : Int) by rw [wrap_in' (by omega) (by omega)]; omega)
            refine wp_region_PL [] (fun _ => True) rfl (by kernel_rfl) (trivial) (fun hF0 => ?_)
            (refine wpAnyP_takeL (i := 1) (v := ?_) rfl (by kernel_rfl) (by kernel_rfl) (by kernel_rfl) (fun _ _ _ h => h) (by rfl) ?_ ?_; rotate_left 1; focus (intro w; go_simp; try with_reducible rfl))
            try simp only [Act.put, List.setIfInBounds_toArray, List.set_cons_zero, List.set_cons_succ]
            (refine wpAnyP_takeL (i := 2) (v := ?_) rfl (by kernel_rfl) (by kernel_rfl) (by kernel_rfl) (fun _ _ _ h => h) (by rfl) ?_ ?_; rotate_left 1; focus (intro w; go_simp; try with_reducible rfl))
            try simp only [Act.put, List.setIfInBounds_toArray, List.set_cons_zero, List.set_cons_succ]
            (refine wpAnyP_takeL (i := 3) (v := ?_) rfl (by kernel_rfl) (by kernel_rfl) (by kernel_rfl) (fun _ _ _ h => h) (by rfl) ?_ ?_; rotate_left 1; focus (intro w; go_simp; try with_reducible rfl))
            try simp only [Act.put, List.setIfInBounds_toArray, List.set_cons_zero, List.set_cons_succ]
            (refine wpAnyP_takeL (i := 5) (v := ?_) rfl (by kernel_rfl) (by kernel_rfl) (by kernel_rfl) (fun _ _ _ h => h) (by rfl) ?_ ?_; rotate_left 1; focus (intro w; go_simp; try with_reducible rfl))
            try simp only [Act.put, List.setIfInBounds_toArray, List.set_cons_zero, List.set_cons_succ]
            (refine wpAnyP_takeL (i := 6) (v := ?_) rfl (by kernel_rfl) (by kernel_rfl) (by kernel_rfl) (fun _ _ _ h => h) (by rfl) ?_ ?_; rotate_left 1; focus (intro w; go_simp; try with_reducible rfl))
            try simp only [Act.put, List.setIfInBounds_toArray, List.set_cons_zero, List.set_cons_succ]
            (refine wpAnyP_takeL (i := 7) (v := ?_) rfl (by kernel_rfl) (by kernel_rfl) (by kernel_rfl) (fun _ _ _ h => h) (by rfl) ?_ ?_; rotate_left 1; focus (intro w; go_simp; (rw [HWR.out])))
            try simp only [Act.put, List.setIfInBounds_toArray, List.set_cons_zero, List.set_cons_succ]
            (refine wpAnyP_takeL (i := 8) (v := ?_) rfl (by kernel_rfl) (by kernel_rfl) (by kernel_rfl) (fun _ _ _ h => h) (by rfl) ?_ ?_; rotate_left 1; focus (intro w; go_simp; (rw [if_pos (by omega)])))
            try simp only [Act.put, List.setIfInBounds_toArray, List.set_cons_zero, List.set_cons_succ]
            refine wpAnyP_last (i := 0) rfl (by kernel_rfl) (by kernel_rfl) (by rfl) (fun K hK => ?_)
            go_simp
            (have hE := own_empty w6.drew 3 1 w6.heap.size w6.heap.size rfl (Nat.le_refl _); have hT := (H6.out.drew.alloc (.cells #[] 3)))
            (refine hK _ _ ?_; clear hK K)
            try simp only [Act.put, List.setIfInBounds_toArray, List.set_cons_zero, List.set_cons_succ]
            refine wpAnyP_last (i := 4) rfl (by kernel_rfl) (by kernel_rfl) (by rfl) (fun K hK => ?_)
            (refine wp_append_sl _ _ _ rfl w6.heap.size 3 i0 _ 8 Try.underlying29 hi iz0 iz1 iz2 rfl (by omega) encI_len _ 0 [] (by rfl) hE bR _ kk _ (r.take kk) (by rfl) (hT.takeI kk (by omega)) oneI (by unfold maxLen; omega) (by omega) (by simp) ?_; intro A8 c8 w8 hown8 hgrow8 hat8; have hT8 := hT.grown hgrow8 (fun h0 e => Nat.ne_of_lt (H6.out.lt h0) (Option.some.inj e)); have hSD := hT8.tailI (cR := cR) (kk := kk) hrc; have hB8 := below_own hE hgrow8 ((Below.refl w6.heap.size w6.drew).alloc (Nat.le_refl _) (.cells #[] 3)) (Nat.le_refl _) (Nat.le_refl _))
            (refine hK _ _ ?_; clear hK K)
            try simp only [Act.put, List.setIfInBounds_toArray, List.set_cons_zero, List.set_cons_succ]
            refine wpAnyP_last (i := 9) rfl (by kernel_rfl) (by kernel_rfl) (by rfl) (fun K hK => ?_)
            (refine wp_append_sl _ _ _ rfl w6.heap.size 3 i0 _ 8 Try.underlying29 hi iz0 iz1 iz2 rfl (by omega) encI_len _ (0 + kk) _ (by rfl) hown8 bR _ (r.length - (kk + 1)) _ (r.drop (kk + 1)) (by rfl) hSD oneI (by unfold maxLen; omega) (by omega) hB8.size ?_; intro A9' c9' w9 hown9 hgrow9 hat9; have hB9 := below_own hown8 hgrow9 hB8 (Nat.le_refl _) (Nat.le_refl _); have HB9 := Lib.hid (show Below w6.heap.size w6 w9 from (Below.refl w6.heap.size w6).drew.trans hB9); have HO9 := Lib.hid hown9; clear hE hT hown8 hgrow8 hat8 hT8 hSD hB8 hown9 hgrow9 hat9 hB9)
            (refine hK _ _ ?_; clear hK K)
            try simp only [Act.put, List.setIfInBounds_toArray, List.set_cons_zero, List.set_cons_succ]
            (refine wpAnyP_takeL (i := 10) (v := ?_) rfl (by kernel_rfl) (by kernel_rfl) (by kernel_rfl) (fun _ _ _ h => h) (by rfl) ?_ ?_; rotate_left 1; focus (intro w; go_simp; try with_reducible rfl))
            try simp only [Act.put, List.setIfInBounds_toArray, List.set_cons_zero, List.set_cons_succ]
            refine wpAnyP_done (by kernel_rfl) ?_ _
            have hlen := List.length_eraseIdx_of_lt HKR.out
            have hnn : 0 + kk + (r.length - (kk + 1)) = (r.eraseIdx kk).length := by omega
            have ho9 := HO9.out
            have hfl : ([] ++ (r.take kk).flatMap encI) ++ (r.drop (kk + 1)).flatMap encI = (r.eraseIdx kk).flatMap encI := by
              rw [List.nil_append, ← List.flatMap_append, List.eraseIdx_eq_take_drop_succ]
            rw [hfl, hnn] at ho9
            rw [hnn]
            obtain ⟨b9', hb9, hS9⟩ := Sl.of_own encI_len rfl ho9
            have hc9 := own_cap ho9
            have hz9 := HB9.out.size
            have HB7 := Lib.hid (Below.step HB9.out HB6.out (Nat.le_refl _))
            have HW7 := Lib.hid (ownsRow_below HW6.out HB9.out (Nat.le_refl _))
            have HS9 := Lib.hid hS9
            have HC9 := Lib.hid hc9
            have HLN := Lib.hid hlen
            have hl1 : m - (k + 1) ≤ (r.eraseIdx kk).length := by omega
            have hl2 : (r.eraseIdx kk).length ≤ n := by omega
            clear hlen hnn ho9 hfl hS9 hc9
            go_wp2_with fail
            go_roundw
            case rel => exact ⟨k + 1, cap, b9', c9', y', r.eraseIdx kk, o ++ [v], _, A9', by omega, rfl, by first | rfl | rw [show kk + (r.length - (kk + 1)) = (r.eraseIdx kk).length by have := HLN.out; have := HKR.out; omega], rfl, hd0, by omega, by rw [List.length_append, HOL.out]; rfl, by rw [← HPK.out, HPS.out, HDD.out, List.append_assoc]; rfl, hl1, hl2, HC9.out.1, HC9.out.2, HS9.out, by omega, fun _ j hj => by have h1 : g' = j := Option.some.inj hj; have h2 := HG6.out; omega, by simpa using HW7.out, HB7.out, by omega⟩
            case measure => simp [vlen]; omega
          · obtain rfl : k = m := by omega
            have HPE := Lib.hid (show o = pickL k x (places n) by have := HPK.out; rw [Nat.sub_self] at this; simpa [pickL] using this)
            go_wp2_with fail
            go_ret2
            obtain ⟨b', hb', hsl⟩ := Sl.of_own encI_len HOL.out.symm HOW.out
            have hpl : pickOut st gd l x k = o := by rw [HP.out.2, HPE.out, HA.out]
            refine ⟨Ao, cc, b', ?_, ?_, by rw [hpl, HOL.out]; exact (own_cap HOW.out).1, by have := HO1.out.low.size; omega, Below.step HBB.out HO1.out.low (Nat.le_refl _)⟩
            · rw [HP.out.1, hpl, HOL.out]
              rfl
            · rw [hpl, HOL.out]
              exact hsl
  · obtain ⟨p1, p2⟩ := pick_bad0 (x := x) (m := m) hc
    have HP := Lib.hid (And.intro p1 p2)
    clear p1 p2
    go_enter Try.func50, Try.ntmps50
    go_wp2_with fail
    refine (rcheck_any st gd b n c A l _ (HL.out.alloc _) hn).mono ?_
    rintro e w1 ⟨rfl, hb1⟩
    have HO1 := Lib.hid (HO.out.below hb1)
    clear hb1
    go_wp2_with fail
    go_ret2
    exact ⟨none, 0, w.heap.size, by rw [HP.out.1, HP.out.2]; rfl, by rw [HP.out.2]; exact Sl.nil _ _ _, by rw [HP.out.2]; exact Nat.le_refl _, Nat.le_refl _, HO1.out.low⟩
end Go.Proofs.Ytkcdknjgjidnnaa
