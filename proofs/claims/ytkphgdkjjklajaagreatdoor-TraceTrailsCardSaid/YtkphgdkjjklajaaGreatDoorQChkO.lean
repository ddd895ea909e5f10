/-
  The reference's Check, Holds, CheckOrigins: which nets are valid, and which origins. The reference's CheckOrigins, Holds: which origins are valid.
-/
import Derived.Test.YtkphgdkjjklajaaGreatDoorTrRef
import Derived.Test.YtkphgdkjjklajaaGreatDoorTrMay
set_option linter.unusedVariables false
set_option linter.unusedSimpArgs false
namespace Go.Proofs.YtkphgdkjjklajaaGreatDoor
open Go.RowKit Go.Shelf Go.Sort

theorem qin_t (n lo hi : Int) (h : lo ≤ n ∧ n ≤ hi) (w : World) : Calls Tryz.prog 54 #[.int .i64 n, .int .i64 lo, .int .i64 hi] w fun e w' => e = .returned (.bool true) ∧ w = w' :=
  (qwithin_any n lo hi w).mono fun e w' ⟨h1, h2⟩ => ⟨by rw [h1, decide_eq_true h.1, decide_eq_true h.2]; rfl, h2.symm⟩
theorem qin_f (n lo hi : Int) (h : ¬ (lo ≤ n ∧ n ≤ hi)) (w : World) : Calls Tryz.prog 54 #[.int .i64 n, .int .i64 lo, .int .i64 hi] w fun e w' => e = .returned (.bool false) ∧ w = w' :=
  (qwithin_any n lo hi w).mono fun e w' ⟨h1, h2⟩ => ⟨by
    rw [h1]
    by_cases h3 : lo ≤ n
    · rw [decide_eq_true h3, decide_eq_false (fun h4 => h ⟨h3, h4⟩)]; rfl
    · rw [decide_eq_false h3]; rfl, h2.symm⟩
/-- between two rounds of the reference's Check -/
structure QChk (bs : List Int) (ms : List Mv) (w : World) (nb : Nat) (Bh : Nat) (Ab Am : Option Addr) (cb nm cm : Nat) (k : Nat) (wr : World) : Prop where
  r : RowC wr Bh ((rg nb).map (hasAt (bsF bs) (ms.take k)))
  n : Blk wr w.heap.size 25 #[.slice Ab nb cb, .slice Am nm cm]
  b : Below w.heap.size w wr
  ok : OkMs bs.length (bsF bs) (ms.take k)
  g : ∀ m ∈ ms.take k, m.g ≤ 8000000
set_option maxRecDepth 100000 in
set_option maxHeartbeats 4000000 in
theorem qcheck_any (b1 b2 : Nat) (Ab Am : Option Addr) (nb cb nm cm : Nat) (bs : List Int) (ms : List Mv) (w : World) (hM : NetM w b1 b2 Ab Am nb cb nm cm bs ms) (hnb : nb ≤ 100000) (hnm : nm ≤ 100000) :
    Calls Tryz.prog 32 #[netV Ab Am nb cb nm cm] w fun e w' => e = .returned (.int .i64 (chkNet bs ms)) ∧ Below w.heap.size w w' := by
  obtain ⟨i0, hi, iz0, iz1, iz2⟩ := info_parts info_int
  have hBn := Blk.new w 25 #[.slice Ab nb cb, .slice Am nm cm]
  have c0 := hBn.cell 0
  have c1 := hBn.cell 1
  have hb0 : Below w.heap.size w (w.alloc (.cells #[.slice Ab nb cb, .slice Am nm cm] 25)) := (Below.refl _ w).alloc (Nat.le_refl _) _
  have HBN := Lib.hid hBn
  have HNB := Lib.hid hM.b.len
  have HNM := Lib.hid hM.m.len
  have HM := Lib.hid hM
  clear hM hBn
  by_cases h0 : nb = 0
  · have hc : chkNet bs ms = 7 := by unfold chkNet; rw [if_pos (by have := HNB.out; omega)]
    subst h0
    rw [hc]
    clear hc
    go_enter Tryz.func32, Tryz.ntmps32
    go_wp2_with fail
    go_ret
    exact ⟨rfl, hb0⟩
  have hq0 : ¬ ((nb : Int) = 0) := by omega
  have hq1 : ((nb : Int) == 0) = false := by simpa using hq0
  by_cases h8 : 8 < nb
  · have hc : chkNet bs ms = 6 := by unfold chkNet; rw [if_neg (by have := HNB.out; omega), if_pos (by have := HNB.out; omega)]
    rw [hc]
    clear hc
    go_enter Tryz.func32, Tryz.ntmps32
    go_wp2_with fail
    go_ret
    exact ⟨rfl, hb0⟩
  have hnb8 : nb ≤ 8 := by omega
  have hd8 : decide ((8 : Int) < (nb : Int)) = false := by simp; omega
  have HB0 := Lib.hid hb0
  have HMV := Lib.hid (HM.out.old hb0)
  have hnb0 : 0 < nb := by omega
  clear hb0 h0 h8
  go_enter Tryz.func32, Tryz.ntmps32
  go_wp2_with fail
  clear c0 c1
  go_loopw [3] (fun i wr => ∃ k : Nat, k ≤ nb ∧ i = .int .i64 k ∧ (∀ g ∈ bs.take k, 0 ≤ g ∧ g ≤ 1000000) ∧ wr = w.alloc (.cells #[.slice Ab nb cb, .slice Am nm cm] 25)) (fun i _ => nb - (intOf i).toNat)
  case atStart => exact ⟨0, Nat.zero_le _, rfl, by simp, rfl⟩
  case round =>
    obtain ⟨k, hk, rfl, hgd, rfl⟩ := hrel
    have c0 := HBN.out.cell 0
    have c1 := HBN.out.cell 1
    have HGD := Lib.hid hgd
    clear hgd
    by_cases hlt : k < nb
    · have hkb : k < bs.length := by have := HNB.out; omega
      obtain ⟨o, rfl, hbz, s0⟩ := HMV.out.b.atI hkb
      have HTK := Lib.hid (List.take_succ_eq_append_getElem hkb)
      have HMEM := Lib.hid (List.getElem_mem hkb)
      generalize bs[k] = g at s0 HTK HMEM
      have k0 : (0 : Int) ≤ (k : Int) := by omega
      have k1 : (k : Int) < (nb : Int) := by omega
      by_cases hg : 0 ≤ g ∧ g ≤ 1000000
      · go_wp2_with (go_at_call 54; with_reducible refine (qin_t g 0 1000000 hg _).mono ?_; rintro e w' ⟨rfl, rfl⟩)
        refine ⟨⟨k + 1, by omega, by go_num, ?_, trivial⟩, by simp [intOf]; omega⟩
        rw [HTK.out]
        intro x hx
        rcases List.mem_append.1 hx with h | h
        · exact HGD.out x h
        · rw [List.mem_singleton.1 h]; exact hg
      · have HE := Lib.hid (show (1 : Int) = chkNet bs ms by
          unfold chkNet
          rw [if_neg (by have := HNB.out; omega), if_neg (by have := HNB.out; omega), if_pos (fun h => hg (h g HMEM.out))])
        go_wp2_with (go_at_call 54; with_reducible refine (qin_f g 0 1000000 hg _).mono ?_; rintro e w' ⟨rfl, rfl⟩)
        go_ret
        exact ⟨ret_int HE.out, HB0.out⟩
    · obtain rfl : k = nb := by omega
      have hgr : ∀ g ∈ bs, 0 ≤ g ∧ g ≤ 1000000 := by
        have h := HGD.out
        rw [List.take_of_length_le (by have := HNB.out; omega)] at h
        exact h
      have HGR := Lib.hid hgr
      clear hgr
      by_cases h12 : 12 < nm
      · have HE := Lib.hid (show (6 : Int) = chkNet bs ms by
          unfold chkNet; rw [if_neg (by have := HNB.out; omega), if_neg (by have := HNB.out; omega), if_neg (fun h => h HGR.out), if_pos (by have := HNM.out; omega)])
        go_wp2_with fail
        go_ret
        exact ⟨ret_int HE.out, HB0.out⟩
      have HCH := Lib.hid (show chkNet bs ms = chkMs bs.length (bsF bs) ms by unfold chkNet; rw [if_neg (by have := HNB.out; omega), if_neg (by have := HNB.out; omega), if_neg (fun h => h HGR.out), if_neg (by have := HNM.out; omega)])
      have hnm12 : nm ≤ 12 := by omega
      have hd12 : decide ((12 : Int) < (nm : Int)) = false := by simp; omega
      have hown0 := own_empty (w.alloc (.cells #[.slice Ab k cb, .slice Am nm cm] 25)) 3 1 (w.heap.size + 1) (w.heap.size + 1) (by simp) (Nat.le_refl _)
      have HOW := Lib.hid hown0
      have HSL := Lib.hid (HMV.out.b.alloc (.cells #[] 3))
      clear hown0 h12
      go_wp2_with (at_builtin; refine wpList_append_sl rfl _ _ 22 rfl (w.heap.size + 1) 3 i0 _ 8 Tryz.underlying22 hi iz0 iz1 iz2 rfl (by omega) encI_len _ 0 [] rfl HOW.out b1 _ k cb bs rfl HSL.out oneI (by unfold maxLen; omega) (by omega) (by simp) ?_; intro A1 cc1 w1 hown1 hgrow _; have HO1 := Lib.hid hown1; have HG1 := Lib.hid hgrow; clear hown1 hgrow)
      have ho := HO1.out
      simp only [Nat.zero_add, List.nil_append] at ho
      obtain ⟨Bh, rfl, hBh, hrow⟩ := RowC.of_own ho HNB.out hnb0
      have hz1 := HG1.out.size
      simp only [World.size_alloc] at hz1
      have HS1 := Lib.hid (show QChk bs ms w k Bh Ab Am cb nm cm 0 w1 from ⟨by
        have e : (rg k).map (hasAt (bsF bs) (ms.take 0)) = bs := by rw [HNB.out]; exact has_start bs
        rw [e]; exact hrow, (own_keeps HOW.out HG1.out (b := w.heap.size) (by omega) (by simp; omega)).trans (HBN.out.alloc (.cells #[] 3)), below_own HOW.out HG1.out (HB0.out.alloc HB0.out.size (.cells #[] 3)) (by omega) (Nat.le_refl _), trivial, by simp⟩)
      clear ho hrow c0 c1
      obtain ⟨wo, rfl⟩ : ∃ wo : World, wo = w1 := ⟨_, rfl⟩
      go_loopw [5] (fun i wr => ∃ j : Nat, j ≤ nm ∧ i = .int .i64 j ∧ QChk bs ms w k Bh Ab Am cb nm cm j wr) (fun i _ => nm - (intOf i).toNat)
      case atStart => exact ⟨0, Nat.zero_le _, rfl, HS1.out⟩
      case round =>
        obtain ⟨j, hj, rfl, hS⟩ := hrel
        have HS := Lib.hid hS
        have c1 := hS.n.cell 1
        clear hS
        by_cases hlt : j < nm
        · have hkm : j < ms.length := by have := HNM.out; omega
          obtain ⟨o, rfl, hbz, s0, s1, s2⟩ := (HM.out.m.old HS.out.b).atM hkm
          have HD := Lib.hid (show chkNet bs ms = chkMs bs.length (hasAt (bsF bs) (ms.take j)) (ms[j] :: ms.drop (j + 1)) by rw [HCH.out, chkMs_drop j HS.out.ok HS.out.g, List.getElem_cons_drop])
          have HTK := Lib.hid (List.take_succ_eq_append_getElem hkm)
          obtain ⟨mf, mt, g, hmk⟩ : ∃ a b c, ms[j] = Mv.mk a b c := ⟨_, _, _, rfl⟩
          rw [hmk] at s0 s1 s2 HD HTK
          dsimp only at s0 s1 s2
          clear hmk
          have hX := Blk.new wr 58 #[.int .i64 mf, .int .i64 mt, .int .i64 g]
          have m0 := hX.cell 0
          have m1 := hX.cell 1
          have m2 := hX.cell 2
          have HX := Lib.hid hX
          have HBX := Lib.hid (HS.out.b.alloc HS.out.b.size (.cells #[.int .i64 mf, .int .i64 mt, .int .i64 g] 58))
          have km0 : (0 : Int) ≤ (j : Int) := by omega
          have km1 : (j : Int) < (nm : Int) := by omega
          clear hX
          by_cases hf : 0 ≤ mf ∧ mf ≤ (k : Int) - 1
          · by_cases ht : 0 ≤ mt ∧ mt ≤ (k : Int) - 1
            · have HIN := Lib.hid (show ¬ ¬ (inR bs.length mf = true ∧ inR bs.length mt = true) by rw [inR_iff, inR_iff]; have := HNB.out; omega)
              go_upto_region 17 with fail
              go_upto_region 19 with (first | (go_at_call 54; with_reducible refine (qin_t mf 0 ((k : Int) - 1) hf _).mono ?_; rintro e w' ⟨rfl, rfl⟩) | (go_at_call 54; with_reducible refine (qin_t mt 0 ((k : Int) - 1) ht _).mono ?_; rintro e w' ⟨rfl, rfl⟩))
              by_cases hne : mf = mt
              · have HE := Lib.hid (show (2 : Int) = chkNet bs ms by
                  rw [HD.out]; simp only [chkMs]; rw [if_neg HIN.out, if_pos hne])
                have hbt : (mf == mt) = true := by simp [hne]
                clear hne
                go_wp2_with fail
                go_ret
                exact ⟨ret_int HE.out, HBX.out⟩
              · have hbt : (mf == mt) = false := by simp [hne]
                have HNE := Lib.hid hne
                clear hne
                go_upto_region 21 with fail
                by_cases hg : 1 ≤ g ∧ g ≤ 8000000
                · go_upto_region 23 with (go_at_call 54; with_reducible refine (qin_t g 1 8000000 hg _).mono ?_; rintro e w' ⟨rfl, rfl⟩)
                  obtain ⟨f, rfl⟩ := Int.eq_ofNat_of_zero_le hf.1
                  obtain ⟨t, rfl⟩ := Int.eq_ofNat_of_zero_le ht.1
                  have hfk : f < k := by have := hf.2; omega
                  have htk : t < k := by have := ht.2; omega
                  have hni : NetIn bs (ms.take j) := ⟨by have := HNB.out; omega, by have := HNB.out; omega, HGR.out, by rw [List.length_take]; have := HNM.out; omega, HS.out.ok⟩
                  have hbd := hni.has_bd j
                  rw [List.take_take, Nat.min_self] at hbd
                  obtain ⟨bf0, bf1⟩ := hbd (f : Int)
                  obtain ⟨bt0, bt1⟩ := hbd (t : Int)
                  have hlen := has_len k (hasAt (bsF bs) (ms.take j))
                  obtain ⟨x, hx⟩ : ∃ x, x = hasAt (bsF bs) (ms.take j) (f : Int) := ⟨_, rfl⟩
                  obtain ⟨y, hy⟩ : ∃ y, y = hasAt (bsF bs) (ms.take j) (t : Int) := ⟨_, rfl⟩
                  rw [← hx] at bf0 bf1
                  rw [← hy] at bt0 bt1
                  have HXX := Lib.hid hx
                  have HYY := Lib.hid hy
                  have hRa := HS.out.r.grown (World.grownBy_alloc wr (.cells #[.int .i64 (f : Int), .int .i64 (t : Int), .int .i64 g] 58) none) (by simp)
                  have ax := hRa.cell (k := f) (by rw [hlen]; omega)
                  rw [has_get hfk, ← HXX.out] at ax
                  have ay := hRa.cell (k := t) (by rw [hlen]; omega)
                  rw [has_get htk, ← HYY.out] at ay
                  have HRa := Lib.hid hRa
                  have hf0 : (0 : Int) ≤ (f : Int) := by omega
                  have hf9 : (f : Int) < (k : Int) := by omega
                  have ht0 : (0 : Int) ≤ (t : Int) := by omega
                  have ht9 : (t : Int) < (k : Int) := by omega
                  clear hx hy hbd hni hRa
                  refine wp_region_PL [1, 4, 6] (fun W => W.cell? ⟨wr.heap.size, 0, none⟩ = some (.int .i64 (f : Int)) ∧ W.cell? ⟨wr.heap.size, 2, none⟩ = some (.int .i64 g) ∧ W.cell? ⟨Bh, f, none⟩ = some (.int .i64 x)) rfl (by kernel_rfl) (⟨m0, m2, ax⟩) (fun hF0 => ?_)
                  (refine wpAnyP_takeL (i := 0) (v := ?_) rfl (by kernel_rfl) (by kernel_rfl) (by kernel_rfl) (fun _ _ _ h => h) (by rfl) ?_ ?_; rotate_left 1; focus (intro w; go_simp; try with_reducible rfl))
                  try simp only [Act.put, List.setIfInBounds_toArray, List.set_cons_zero, List.set_cons_succ]
                  (refine wpAnyP_loadL (i := 1) (v := ?_) rfl (by kernel_rfl) (by kernel_rfl) (by kernel_rfl) (by rfl) (fun _ _ _ h => h) hF0 (by rfl) ?_ ?_; rotate_left 1; focus (intro w hFw; (try dsimp only at hFw); go_split_ands; go_simp; try with_reducible rfl))
                  try simp only [Act.put, List.setIfInBounds_toArray, List.set_cons_zero, List.set_cons_succ]
                  (refine wpAnyP_takeL (i := 2) (v := ?_) rfl (by kernel_rfl) (by kernel_rfl) (by kernel_rfl) (fun _ _ _ h => h) (by rfl) ?_ ?_; rotate_left 1; focus (intro w; go_simp; try with_reducible rfl))
                  try simp only [Act.put, List.setIfInBounds_toArray, List.set_cons_zero, List.set_cons_succ]
                  (refine wpAnyP_takeL (i := 3) (v := ?_) rfl (by kernel_rfl) (by kernel_rfl) (by kernel_rfl) (fun _ _ _ h => h) (by rfl) ?_ ?_; rotate_left 1; focus (intro w; go_simp; try with_reducible rfl))
                  try simp only [Act.put, List.setIfInBounds_toArray, List.set_cons_zero, List.set_cons_succ]
                  (refine wpAnyP_loadL (i := 4) (v := ?_) rfl (by kernel_rfl) (by kernel_rfl) (by kernel_rfl) (by rfl) (fun _ _ _ h => h) hF0 (by rfl) ?_ ?_; rotate_left 1; focus (intro w hFw; (try dsimp only at hFw); go_split_ands; go_simp; try with_reducible rfl))
                  try simp only [Act.put, List.setIfInBounds_toArray, List.set_cons_zero, List.set_cons_succ]
                  (refine wpAnyP_takeL (i := 5) (v := ?_) rfl (by kernel_rfl) (by kernel_rfl) (by kernel_rfl) (fun _ _ _ h => h) (by rfl) ?_ ?_; rotate_left 1; focus (intro w; go_simp; try with_reducible rfl))
                  try simp only [Act.put, List.setIfInBounds_toArray, List.set_cons_zero, List.set_cons_succ]
                  (refine wpAnyP_loadL (i := 6) (v := ?_) rfl (by kernel_rfl) (by kernel_rfl) (by kernel_rfl) (by rfl) (fun _ _ _ h => h) hF0 (by rfl) ?_ ?_; rotate_left 1; focus (intro w hFw; (try dsimp only at hFw); go_split_ands; go_simp; try with_reducible rfl))
                  try simp only [Act.put, List.setIfInBounds_toArray, List.set_cons_zero, List.set_cons_succ]
                  (refine wpAnyP_takeL (i := 7) (v := ?_) rfl (by kernel_rfl) (by kernel_rfl) (by kernel_rfl) (fun _ _ _ h => h) (by rfl) ?_ ?_; rotate_left 1; focus (intro w; go_simp; try with_reducible rfl))
                  try simp only [Act.put, List.setIfInBounds_toArray, List.set_cons_zero, List.set_cons_succ]
                  refine wpAnyP_done (by kernel_rfl) ?_ _
                  by_cases hov : x < g
                  · have HE := Lib.hid (show (13 : Int) = chkNet bs ms by
                      rw [HD.out]; simp only [chkMs]; rw [if_neg HIN.out, if_neg HNE.out, if_neg (fun h => h hg), if_pos (by rw [← HXX.out]; exact hov)])
                    clear ax ay m0 m1 m2 hF0
                    go_wp2_with fail
                    go_ret
                    exact ⟨ret_int HE.out, HBX.out.drew⟩
                  · have hok : OkM bs.length (hasAt (bsF bs) (ms.take j)) ⟨f, t, g⟩ := okM_any _ _ _ (by have := HNB.out; show 0 ≤ (f : Int) ∧ (f : Int) ≤ _; omega) (by have := HNB.out; show 0 ≤ (t : Int) ∧ (t : Int) ≤ _; omega) HNE.out hg.1 (by show g ≤ hasAt _ _ (f : Int); rw [← HXX.out]; omega)
                    have HOKS := Lib.hid (show OkMs bs.length (bsF bs) (ms.take j ++ [⟨f, t, g⟩]) from OkMs.append.2 ⟨HS.out.ok, hok, trivial⟩)
                    have hge : g ≤ x := by omega
                    obtain ⟨hg1, hg2⟩ := hg
                    have HG2 := Lib.hid hg2
                    have hft : f ≠ t := fun e => HNE.out (by rw [e])
                    have hMa := HX.out.drew
                    have hNa := (HS.out.n.alloc (.cells #[.int .i64 (f : Int), .int .i64 (t : Int), .int .i64 g] 58)).drew
                    have hBa := HBX.out.drew
                    have hRa : RowC (wr.alloc (.cells #[.int .i64 (f : Int), .int .i64 (t : Int), .int .i64 g] 58)).drew Bh ((rg k).map (hasAt (bsF bs) (ms.take j))) := HRa.out
                    have hneB : wr.heap.size ≠ Bh := by have := HS.out.r.lt; omega
                    have hBhz : Bh < wr.heap.size := HS.out.r.lt
                    obtain ⟨B13, hB13⟩ : ∃ B, B = wr.heap.size := ⟨_, rfl⟩
                    obtain ⟨W11, hW11⟩ : ∃ W11, (wr.alloc (.cells #[.int .i64 (f : Int), .int .i64 (t : Int), .int .i64 g] 58)).drew = W11 := ⟨_, rfl⟩
                    rw [hW11] at hRa hMa hBa hNa ⊢
                    rw [← hB13] at hMa hneB ⊢
                    have HMa := Lib.hid hMa
                    have HBa := Lib.hid hBa
                    have HNa := Lib.hid hNa
                    have hc1 := hRa.cell (k := f) (by rw [hlen]; omega)
                    rw [has_get hfk, ← HXX.out] at hc1
                    have hc2 := hRa.cell (k := t) (by rw [hlen]; omega)
                    rw [has_get htk, ← HYY.out] at hc2
                    have hA := hRa.set_ (k := f) (by rw [hlen]; omega) (x - g)
                    have hMA := hMa.far (p := ⟨Bh, f, none⟩) hneB (.int .i64 (x - g))
                    have hB2 := hA.set_ (k := t) (by rw [List.length_set, hlen]; omega) (y + g)
                    have HMA := Lib.hid (show Blk (W11.drew.setCell ⟨Bh, f, none⟩ (.int .i64 (x - g))) B13 58 _ from hMA)
                    have HB2 := Lib.hid hB2
                    have HRa2 := Lib.hid hRa
                    have HC := Lib.hid (And.intro hc1 hc2)
                    have HW1 := Lib.hid (show IntKind.i64.wrap (x - g) = x - g from IntWalk.i64_in _ (by omega))
                    have HW2 := Lib.hid (show IntKind.i64.wrap (y + g) = y + g from IntWalk.i64_in _ (by omega))
                    clear hRa hMa hBa hNa hA hMA hB2 hc1 hc2 hW11 s0 s1 s2 c1 hB13 m0 m1 m2 ax ay hF0 hok hov
                    go_upto_region 25 with fail
                    refine wp_region_K2 [10, 18] [2, 5, 8, 12, 16, 20] (fun W => W.cell? ⟨Bh, f, none⟩ = some (.int .i64 x) ∧ W.cell? ⟨Bh, t, none⟩ = some (.int .i64 y)) (fun W => W.cell? ⟨B13, 0, none⟩ = some (.int .i64 f) ∧ W.cell? ⟨B13, 1, none⟩ = some (.int .i64 t) ∧ W.cell? ⟨B13, 2, none⟩ = some (.int .i64 g)) rfl (by kernel_rfl) (HC.out) (⟨HMa.out.cell 0, HMa.out.cell 1, HMa.out.cell 2⟩) (fun hF0 hG0 => ?_)
                    (refine wpAnyK_takeL Keep2.refl (i := 0) (v := ?_) rfl (by kernel_rfl) (by kernel_rfl) (by kernel_rfl) (fun _ _ _ h => h) (by rfl) ?_ ?_; rotate_left 1; focus (intro w; go_simp; try with_reducible rfl))
                    try simp only [Act.put, List.setIfInBounds_toArray, List.set_cons_zero, List.set_cons_succ]
                    (refine wpAnyK_takeL Keep2.refl (i := 1) (v := ?_) rfl (by kernel_rfl) (by kernel_rfl) (by kernel_rfl) (fun _ _ _ h => h) (by rfl) ?_ ?_; rotate_left 1; focus (intro w; go_simp; try with_reducible rfl))
                    try simp only [Act.put, List.setIfInBounds_toArray, List.set_cons_zero, List.set_cons_succ]
                    (refine wpAnyK_loadL Keep2.refl (i := 2) (v := ?_) rfl (Keep2.right (i := 2) (by rfl)) (by kernel_rfl) (by kernel_rfl) (by kernel_rfl) (fun _ _ _ h => h) hG0 (by rfl) ?_ ?_; rotate_left 1; focus (intro w hFw; (try dsimp only at hFw); go_split_ands; go_simp; try with_reducible rfl))
                    try simp only [Act.put, List.setIfInBounds_toArray, List.set_cons_zero, List.set_cons_succ]
                    (refine wpAnyK_takeL Keep2.refl (i := 3) (v := ?_) rfl (by kernel_rfl) (by kernel_rfl) (by kernel_rfl) (fun _ _ _ h => h) (by rfl) ?_ ?_; rotate_left 1; focus (intro w; go_simp; try with_reducible rfl))
                    try simp only [Act.put, List.setIfInBounds_toArray, List.set_cons_zero, List.set_cons_succ]
                    (refine wpAnyK_takeL Keep2.refl (i := 4) (v := ?_) rfl (by kernel_rfl) (by kernel_rfl) (by kernel_rfl) (fun _ _ _ h => h) (by rfl) ?_ ?_; rotate_left 1; focus (intro w; go_simp; try with_reducible rfl))
                    try simp only [Act.put, List.setIfInBounds_toArray, List.set_cons_zero, List.set_cons_succ]
                    (refine wpAnyK_loadL Keep2.refl (i := 5) (v := ?_) rfl (Keep2.right (i := 5) (by rfl)) (by kernel_rfl) (by kernel_rfl) (by kernel_rfl) (fun _ _ _ h => h) hG0 (by rfl) ?_ ?_; rotate_left 1; focus (intro w hFw; (try dsimp only at hFw); go_split_ands; go_simp; try with_reducible rfl))
                    try simp only [Act.put, List.setIfInBounds_toArray, List.set_cons_zero, List.set_cons_succ]
                    (refine wpAnyK_takeL Keep2.refl (i := 6) (v := ?_) rfl (by kernel_rfl) (by kernel_rfl) (by kernel_rfl) (fun _ _ _ h => h) (by rfl) ?_ ?_; rotate_left 1; focus (intro w; go_simp; try with_reducible rfl))
                    try simp only [Act.put, List.setIfInBounds_toArray, List.set_cons_zero, List.set_cons_succ]
                    (refine wpAnyK_takeL Keep2.refl (i := 7) (v := ?_) rfl (by kernel_rfl) (by kernel_rfl) (by kernel_rfl) (fun _ _ _ h => h) (by rfl) ?_ ?_; rotate_left 1; focus (intro w; go_simp; try with_reducible rfl))
                    try simp only [Act.put, List.setIfInBounds_toArray, List.set_cons_zero, List.set_cons_succ]
                    (refine wpAnyK_loadL Keep2.refl (i := 8) (v := ?_) rfl (Keep2.right (i := 8) (by rfl)) (by kernel_rfl) (by kernel_rfl) (by kernel_rfl) (fun _ _ _ h => h) hG0 (by rfl) ?_ ?_; rotate_left 1; focus (intro w hFw; (try dsimp only at hFw); go_split_ands; go_simp; try with_reducible rfl))
                    try simp only [Act.put, List.setIfInBounds_toArray, List.set_cons_zero, List.set_cons_succ]
                    (refine wpAnyK_takeL Keep2.refl (i := 9) (v := ?_) rfl (by kernel_rfl) (by kernel_rfl) (by kernel_rfl) (fun _ _ _ h => h) (by rfl) ?_ ?_; rotate_left 1; focus (intro w; go_simp; try with_reducible rfl))
                    try simp only [Act.put, List.setIfInBounds_toArray, List.set_cons_zero, List.set_cons_succ]
                    (refine wpAnyK_loadL Keep2.refl (i := 10) (v := ?_) rfl (Keep2.left (i := 10) (by rfl)) (by kernel_rfl) (by kernel_rfl) (by kernel_rfl) (fun _ _ _ h => h) hF0 (by rfl) ?_ ?_; rotate_left 1; focus (intro w hFw; (try dsimp only at hFw); go_split_ands; go_simp; try with_reducible rfl))
                    try simp only [Act.put, List.setIfInBounds_toArray, List.set_cons_zero, List.set_cons_succ]
                    (refine wpAnyK_takeL Keep2.refl (i := 11) (v := ?_) rfl (by kernel_rfl) (by kernel_rfl) (by kernel_rfl) (fun _ _ _ h => h) (by rfl) ?_ ?_; rotate_left 1; focus (intro w; go_simp; try with_reducible rfl))
                    try simp only [Act.put, List.setIfInBounds_toArray, List.set_cons_zero, List.set_cons_succ]
                    (refine wpAnyK_loadL Keep2.refl (i := 12) (v := ?_) rfl (Keep2.right (i := 12) (by rfl)) (by kernel_rfl) (by kernel_rfl) (by kernel_rfl) (fun _ _ _ h => h) hG0 (by rfl) ?_ ?_; rotate_left 1; focus (intro w hFw; (try dsimp only at hFw); go_split_ands; go_simp; try with_reducible rfl))
                    try simp only [Act.put, List.setIfInBounds_toArray, List.set_cons_zero, List.set_cons_succ]
                    (refine wpAnyK_takeL Keep2.refl (i := 13) (v := ?_) rfl (by kernel_rfl) (by kernel_rfl) (by kernel_rfl) (fun _ _ _ h => h) (by rfl) ?_ ?_; rotate_left 1; focus (intro w; go_simp; (first | (rw [HW1.out]) | (with_reducible rfl))))
                    try simp only [Act.put, List.setIfInBounds_toArray, List.set_cons_zero, List.set_cons_succ]
                    (refine wpAnyK_takeL Keep2.refl (i := 14) (v := ?_) rfl (by kernel_rfl) (by kernel_rfl) (by kernel_rfl) (fun _ _ _ h => h) (by rfl) ?_ ?_; rotate_left 1; focus (intro w; go_simp; try with_reducible rfl))
                    try simp only [Act.put, List.setIfInBounds_toArray, List.set_cons_zero, List.set_cons_succ]
                    (refine wpAnyK_takeL Keep2.refl (i := 15) (v := ?_) rfl (by kernel_rfl) (by kernel_rfl) (by kernel_rfl) (fun _ _ _ h => h) (by rfl) ?_ ?_; rotate_left 1; focus (intro w; go_simp; try with_reducible rfl))
                    try simp only [Act.put, List.setIfInBounds_toArray, List.set_cons_zero, List.set_cons_succ]
                    (refine wpAnyK_loadL Keep2.refl (i := 16) (v := ?_) rfl (Keep2.right (i := 16) (by rfl)) (by kernel_rfl) (by kernel_rfl) (by kernel_rfl) (fun _ _ _ h => h) hG0 (by rfl) ?_ ?_; rotate_left 1; focus (intro w hFw; (try dsimp only at hFw); go_split_ands; go_simp; try with_reducible rfl))
                    try simp only [Act.put, List.setIfInBounds_toArray, List.set_cons_zero, List.set_cons_succ]
                    (refine wpAnyK_takeL Keep2.refl (i := 17) (v := ?_) rfl (by kernel_rfl) (by kernel_rfl) (by kernel_rfl) (fun _ _ _ h => h) (by rfl) ?_ ?_; rotate_left 1; focus (intro w; go_simp; try with_reducible rfl))
                    try simp only [Act.put, List.setIfInBounds_toArray, List.set_cons_zero, List.set_cons_succ]
                    (refine wpAnyK_loadL Keep2.refl (i := 18) (v := ?_) rfl (Keep2.left (i := 18) (by rfl)) (by kernel_rfl) (by kernel_rfl) (by kernel_rfl) (fun _ _ _ h => h) hF0 (by rfl) ?_ ?_; rotate_left 1; focus (intro w hFw; (try dsimp only at hFw); go_split_ands; go_simp; try with_reducible rfl))
                    try simp only [Act.put, List.setIfInBounds_toArray, List.set_cons_zero, List.set_cons_succ]
                    (refine wpAnyK_takeL Keep2.refl (i := 19) (v := ?_) rfl (by kernel_rfl) (by kernel_rfl) (by kernel_rfl) (fun _ _ _ h => h) (by rfl) ?_ ?_; rotate_left 1; focus (intro w; go_simp; try with_reducible rfl))
                    try simp only [Act.put, List.setIfInBounds_toArray, List.set_cons_zero, List.set_cons_succ]
                    (refine wpAnyK_loadL Keep2.refl (i := 20) (v := ?_) rfl (Keep2.right (i := 20) (by rfl)) (by kernel_rfl) (by kernel_rfl) (by kernel_rfl) (fun _ _ _ h => h) hG0 (by rfl) ?_ ?_; rotate_left 1; focus (intro w hFw; (try dsimp only at hFw); go_split_ands; go_simp; try with_reducible rfl))
                    try simp only [Act.put, List.setIfInBounds_toArray, List.set_cons_zero, List.set_cons_succ]
                    (refine wpAnyK_takeL Keep2.refl (i := 21) (v := ?_) rfl (by kernel_rfl) (by kernel_rfl) (by kernel_rfl) (fun _ _ _ h => h) (by rfl) ?_ ?_; rotate_left 1; focus (intro w; go_simp; (first | (rw [HW2.out]) | (with_reducible rfl))))
                    try simp only [Act.put, List.setIfInBounds_toArray, List.set_cons_zero, List.set_cons_succ]
                    (refine wpAnyK_takeL Keep2.refl (i := 22) (v := ?_) rfl (by kernel_rfl) (by kernel_rfl) (by kernel_rfl) (fun _ _ _ h => h) (by rfl) ?_ ?_; rotate_left 1; focus (intro w; go_simp; try with_reducible rfl))
                    try simp only [Act.put, List.setIfInBounds_toArray, List.set_cons_zero, List.set_cons_succ]
                    refine wpAnyK_step (i := 23) rfl (by kernel_rfl) (by rfl) (fun K hK => ?_)
                    go_simp
                    (have f1 := HRa2.out.frozen f; have e1 := HC.out.1; go_simp; clear f1 e1)
                    (refine hK _ _ (Keep2.no1 (by kernel_rfl) (fun _ => ⟨HMA.out.cell 0, HMA.out.cell 1, HMA.out.cell 2⟩)) ?_; clear hK K)
                    (refine wpAnyK_with (F := fun W => W.cell? ⟨B13, 0, none⟩ = some (.int .i64 f) ∧ W.cell? ⟨B13, 1, none⟩ = some (.int .i64 t) ∧ W.cell? ⟨B13, 2, none⟩ = some (.int .i64 g)) (⟨HMA.out.cell 0, HMA.out.cell 1, HMA.out.cell 2⟩) (fun hG1 => ?_); clear hG0)
                    try simp only [Act.put, List.setIfInBounds_toArray, List.set_cons_zero, List.set_cons_succ]
                    (refine wpAnyK_takeL Keep2.refl (i := 24) (v := ?_) rfl (by kernel_rfl) (by kernel_rfl) (by kernel_rfl) (fun _ _ _ h => h) (by rfl) ?_ ?_; rotate_left 1; focus (intro w; go_simp; try with_reducible rfl))
                    try simp only [Act.put, List.setIfInBounds_toArray, List.set_cons_zero, List.set_cons_succ]
                    refine wpAnyK_step (i := 25) rfl (by kernel_rfl) (by rfl) (fun K hK => ?_)
                    go_simp
                    (have f1 := HRa2.out.frozen t; have e1 := HC.out.2; go_simp; clear f1 e1)
                    (refine hK _ _ (Keep2.no (by kernel_rfl) (by kernel_rfl)) ?_; clear hK K)
                    try simp only [Act.put, List.setIfInBounds_toArray, List.set_cons_zero, List.set_cons_succ]
                    refine wpAnyK_done (by kernel_rfl) ?_ _
                    have HRF := Lib.hid (show RowC ((W11.setCell ⟨Bh, f, none⟩ (.int .i64 (x - g))).setCell ⟨Bh, t, none⟩ (.int .i64 (y + g))) Bh ((rg k).map (hasAt (bsF bs) (ms.take (j + 1)))) from by
                      have e : (((rg k).map (hasAt (bsF bs) (ms.take j))).set f (x - g)).set t (y + g) = (rg k).map (mvd (hasAt (bsF bs) (ms.take j)) ⟨f, t, g⟩) := by rw [HXX.out, HYY.out]; exact has_move (by omega) (by omega) (by omega) g
                      rw [HTK.out, hasAt_snoc, ← e]
                      exact HB2.out)
                    go_wp2_with fail
                    refine ⟨⟨j + 1, by omega, by go_num, HRF.out, ?_, ?_, ?_, ?_⟩, by simp [intOf]; omega⟩
                    · exact (HNa.out.far (p := ⟨Bh, f, none⟩) (by show w.heap.size ≠ Bh; omega) _).far (p := ⟨Bh, t, none⟩) (by show w.heap.size ≠ Bh; omega) _
                    · exact ((HBa.out.setCell (p := ⟨Bh, f, none⟩) (by show w.heap.size ≤ Bh; omega) _).setCell (p := ⟨Bh, t, none⟩) (by show w.heap.size ≤ Bh; omega) _).drew
                    · rw [HTK.out]; exact HOKS.out
                    · rw [HTK.out]
                      intro m hm
                      rcases List.mem_append.1 hm with h | h
                      · exact HS.out.g m h
                      · rw [List.mem_singleton.1 h]; exact HG2.out
                · have HE := Lib.hid (show (1 : Int) = chkNet bs ms by
                    rw [HD.out]; simp only [chkMs]; rw [if_neg HIN.out, if_neg HNE.out, if_pos hg])
                  go_wp2_with (go_at_call 54; with_reducible refine (qin_f g 1 8000000 hg _).mono ?_; rintro e w' ⟨rfl, rfl⟩)
                  go_ret
                  exact ⟨ret_int HE.out, HBX.out⟩
            · have HE := Lib.hid (show (3 : Int) = chkNet bs ms by
                rw [HD.out]; simp only [chkMs]; rw [if_pos (by rw [inR_iff, inR_iff]; have := HNB.out; omega)])
              clear m2
              go_wp2_with (first | (go_at_call 54; with_reducible refine (qin_t mf 0 ((k : Int) - 1) hf _).mono ?_; rintro e w' ⟨rfl, rfl⟩) | (go_at_call 54; with_reducible refine (qin_f mt 0 ((k : Int) - 1) ht _).mono ?_; rintro e w' ⟨rfl, rfl⟩))
              go_ret
              exact ⟨ret_int HE.out, HBX.out⟩
          · have HE := Lib.hid (show (3 : Int) = chkNet bs ms by
              rw [HD.out]; simp only [chkMs]; rw [if_pos (by rw [inR_iff, inR_iff]; have := HNB.out; omega)])
            go_wp2_with (go_at_call 54; with_reducible refine (qin_f mf 0 ((k : Int) - 1) hf _).mono ?_; rintro e w' ⟨rfl, rfl⟩)
            go_ret
            exact ⟨ret_int HE.out, HBX.out⟩
        · have HE := Lib.hid (show (0 : Int) = chkNet bs ms by
            rw [HCH.out, chkMs_drop j HS.out.ok HS.out.g, List.drop_eq_nil_of_le (by have := HNM.out; omega)]; rfl)
          go_wp2_with fail
          go_ret
          exact ⟨ret_int HE.out, HS.out.b⟩
end Go.Proofs.YtkphgdkjjklajaaGreatDoor

namespace Go.Proofs.YtkphgdkjjklajaaGreatDoor
open Go.RowKit Go.Shelf Go.Sort

end Go.Proofs.YtkphgdkjjklajaaGreatDoor
