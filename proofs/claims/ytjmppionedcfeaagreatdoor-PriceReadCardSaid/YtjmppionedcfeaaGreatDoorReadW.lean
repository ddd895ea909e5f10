/-
  price.Read: what is read of a text.
-/
import Derived.Test.YtjmppionedcfeaaGreatDoorReadKit
import Derived.Deep.CutRange
import Derived.Deep.QuietTactic
import Derived.BigQuiet
set_option linter.unusedVariables false
set_option linter.unusedSimpArgs false
namespace Go.Proofs.YtjmppionedcfeaaGreatDoor
open Go.RowKit

set_option maxRecDepth 100000 in
set_option maxHeartbeats 4000000 in
theorem read_any (s : ByteArray) (W : World) (hT : TEnv W) : Calls Tryz.prog 11 #[.string s] W (ReadPost (readT s.data.toList) W) := by
  have HT := Lib.hid hT
  have hlen := bytes_len s
  obtain ⟨x, hx⟩ : ∃ x, x = s.data.toList := ⟨_, rfl⟩
  rw [← hx] at hlen ⊢
  have HXX := Lib.hid hx
  have h0 := Blk.new W 24 #[.int .i64 0, .int .i64 0, .slice none 0 0]
  have B0 : Below W.heap.size W (W.alloc (.cells #[.int .i64 0, .int .i64 0, .slice none 0 0] 24)) := by go_grown
  clear hx
  by_cases h3 : 3000 < s.size
  · have HR := Lib.hid (show readT x = .no 0 10 from if_pos (by omega))
    have hb : decide ((3000 : Int) < (s.size : Int)) = true := by simp; omega
    have HB0 := Lib.hid B0
    have HH := Lib.hid h0
    clear h3 hlen B0 h0
    have q0 := HH.out.cell 0
    have q1 := HH.out.cell 1
    have q2 := HH.out.cell 2
    go_enter Tryz.func11, Tryz.ntmps11
    go_wp2_with fail
    refine bodyPost_ret (v := .tuple #[.agg #[.int .i64 0, .int .i64 0, .slice none 0 0], .int .i64 0, .int .i64 10]) (by simp [results, Tryz.results11, go_sem, q0, q1, q2]; try omega) rfl ?_
    rw [HR.out]
    exact ⟨none, 0, 0, rfl, Sl.nil _ _ _, HB0.out⟩
  have hb : decide ((3000 : Int) < (s.size : Int)) = false := by simp; omega
  have HB0 := Lib.hid B0
  have HH := Lib.hid h0
  have hs3 : s.size ≤ 3000 := by omega
  clear h3 B0 h0
  go_enter Tryz.func11, Tryz.ntmps11
  go_wp2_with fail
  refine (split_any 10 s _ (HT.out.old HB0.out) (by omega)).mono ?_
  rw [← HXX.out]
  obtain ⟨L, hL⟩ : ∃ L, L = splitT 10 x := ⟨_, rfl⟩
  rw [← hL]
  have hLn : L ≠ [] := by rw [hL]; exact splitT_ne 10 x
  have hL1 : 1 ≤ L.length := List.length_pos_iff.2 hLn
  have hLm : L.length ≤ 3001 := by have := splitT_many 10 x; rw [hL]; omega
  have HLL := Lib.hid hL
  rintro e w1 ⟨g, rfl, hg, hS, hB⟩
  have hzw := HB0.out.size
  simp only [World.size_alloc] at hg
  have hz1 := hB.size
  simp only [World.size_alloc] at hz1
  have HR0 := Lib.hid (show RB W W.heap.size w1.heap.size .init none 0 w1 from ⟨Below.step hB HB0.out (Nat.le_refl _), HH.out.below hB HH.out.lt, World.ownsRow_nil _ _ _ _, Nat.le_refl _, by omega, Nat.le_refl _⟩)
  have hgz := hS.lt hL1
  have HS := Lib.hid hS
  have il : (1 : Int) ≤ (L.length : Int) := by omega
  have HY := Lib.hid (fun y (hy : y ∈ L) => (show y.length ≤ 3000 by have h5 := splitT_len 10 x y (by rw [← HLL.out]; exact hy); omega))
  obtain ⟨R, hR⟩ : ∃ R, R = L.take (L.length - 1) := ⟨_, rfl⟩
  have hRl : R.length = L.length - 1 := by rw [hR, List.length_take]; omega
  have HR := Lib.hid hR
  have iL : ((L.length - 1 : Nat) : Int) = (L.length : Int) - 1 := by omega
  obtain ⟨i0, hi, iz0, iz1, iz2⟩ := info_parts info_sale2
  clear hB hS HB0 hL hR HH
  go_wp2_with fail
  go_loopw [7, 8, 28] (fun en se i wr => ∃ (k : Nat) (q : RS) (A : Option Addr) (c : Nat), k ≤ R.length ∧ i = .int .i64 k ∧ en = .bool q.en ∧ se = .int .i64 q.se ∧ q.l.length ≤ k ∧ runR 0 .init R = runR k q (R.drop k) ∧ RB W W.heap.size w1.heap.size q A c wr ∧ Sl encT 1 wr g (some ⟨g, 0, none⟩) L.length L) (fun _ _ i _ => R.length - (intOf i).toNat)
  case atStart => exact ⟨0, .init, none, 0, Nat.zero_le _, rfl, rfl, rfl, Nat.le_refl _, rfl, HR0.out, HS.out⟩
  case round =>
    obtain ⟨k, q, A, c, hk, rfl, rfl, rfl, hql, hrun, hrb, hsl⟩ := hrel
    have HRUN := Lib.hid hrun
    have HRB := Lib.hid hrb
    have HSL := Lib.hid hsl
    have hzr := hrb.hz
    clear hrun hrb hsl HR0 HS
    by_cases hlt : k < R.length
    · have hkL : k < L.length := by omega
      obtain ⟨o, ho, hgw, hcy⟩ := HSL.out.atT hkL
      obtain rfl : 0 = o := by injection ho with h; injection h
      simp only [Nat.zero_add] at hcy
      have hyl := HY.out L[k] (List.getElem_mem hkL)
      have HRK := Lib.hid (show R[k] = L[k] by have h9 := HR.out; subst h9; exact List.getElem_take)
      have HST := Lib.hid (fun q' => runR_step (s := q) (s' := q') hlt)
      have HSP := Lib.hid (runR_stop (s := q) hlt)
      rw [HRK.out] at HST HSP
      generalize L[k] = y at hcy hyl HST HSP
      obtain ⟨sy, hsy⟩ : ∃ sy : ByteArray, sy = ⟨y.toArray⟩ := ⟨_, rfl⟩
      have hyd : sy.data.toList = y := by rw [hsy]
      have hysz : sy.size = y.length := by rw [← hyd]; exact (bytes_len sy).symm
      rw [← hsy] at hcy
      have ik0 : (0 : Int) ≤ (k : Int) := by omega
      have ik1 : (k : Int) < (L.length : Int) - 1 := by omega
      clear hsy ho HRK
      go_wp2_with fail
      refine (parse_any sy _ (HT.out.old HRB.out.low) (by omega)).mono ?_
      rw [hyd]
      intro e w2 hp
      obtain ⟨wd, l, ok, Al, cl, bl, rfl, hsl, hbl, hB2, hpe⟩ := parse_one hp
      have HRB2 := Lib.hid (HRB.out.below hB2)
      have HSL2 := Lib.hid (HSL.out.old hB2)
      have HLI := Lib.hid hsl
      obtain ⟨res, hres⟩ : ∃ r, r = (if ok then stepW k q wd l else none) := ⟨_, rfl⟩
      have HRS := Lib.hid (show stepR k q y = res by unfold stepR; rw [hpe, hres]; cases ok <;> rfl)
      have HRE := Lib.hid hres
      clear hp hB2 hsl hpe hres hcy hgw
      obtain ⟨sw, hsw⟩ : ∃ sw : ByteArray, sw = ⟨wd.toArray⟩ := ⟨_, rfl⟩
      have hwd : (sw.toList == [100, 97, 121]) = decide (wd = wDay) := by rw [hsw]; exact word_eq wd wDay
      have hws : (sw.toList == [115, 97, 108, 101]) = decide (wd = wSale) := by rw [hsw]; exact word_eq wd wSale
      have hwe : (sw.toList == [101, 110, 100]) = decide (wd = wEnd) := by rw [hsw]; exact word_eq wd wEnd
      rw [← hsw]
      clear hsw
      cases ok
      · clear hwd hws hwe
        have HQ := Lib.hid (show res = none by rw [HRE.out]; rfl)
        have HRD := Lib.hid (show readT x = .no ((k : Int) + 1) 2 from readT_err (by omega) (by rw [← HLL.out, ← HR.out]; exact HRUN.out.trans (HSP.out (HRS.out.trans HQ.out))))
        have f0 := HRB2.out.hd.frozen 0
        have f1 := HRB2.out.hd.frozen 1
        have f2 := HRB2.out.hd.frozen 2
        have c0 := HRB2.out.hd.cell 0
        have c1 := HRB2.out.hd.cell 1
        have c2 := HRB2.out.hd.cell 2
        obtain ⟨hzb, hzk⟩ := HRB2.out.zero (.int .i64 0) (.int .i64 0) (.slice none 0 0)
        have q0 := hzk.cell 0
        have q1 := hzk.cell 1
        have q2 := hzk.cell 2
        have HZB := Lib.hid hzb
        clear hzb hzk
        go_wp2_with fail
        refine bodyPost_ret (v := .tuple #[.agg #[.int .i64 0, .int .i64 0, .slice none 0 0], .int .i64 ((k : Int) + 1), .int .i64 (2)]) (by simp [results, Tryz.results11, go_sem, q0, q1, q2]; try omega) rfl ?_
        rw [HRD.out]
        exact ⟨none, 0, 0, rfl, Sl.nil _ _ _, HZB.out⟩
      cases hen : q.en
      · by_cases hk0 : k = 0
        · have hki : ((k : Int) == 0) = true := by rw [hk0]; rfl
          by_cases hd : wd = wDay
          · rw [decide_eq_true hd] at hwd
            have hns : ¬ wd = wSale := by rw [hd]; decide
            have hne : ¬ wd = wEnd := by rw [hd]; decide
            rw [decide_eq_false hns] at hws
            rw [decide_eq_false hne] at hwe
            by_cases h2 : l.length = 2
            · obtain ⟨a, b', rfl⟩ : ∃ a b', l = [a, b'] := by
                match l, h2 with
                | [a, b'], _ => exact ⟨a, b', rfl⟩
              obtain ⟨ol, rfl, hzl, u0⟩ := HLI.out.atI (k := 0) (by simp)
              obtain ⟨ol', ho, _, u1⟩ := HLI.out.atI (k := 1) (by simp)
              obtain rfl : ol = ol' := by injection ho with h; injection h
              simp only [List.getElem_cons_zero, List.getElem_cons_succ, Nat.add_zero] at u0 u1
              clear ho hzl
              have hbB : bl ≠ W.heap.size := by omega
              have HQ := Lib.hid (show res = some { q with st := a, gd := b' } by rw [HRE.out]; simp [stepW, hen, hk0, hd, at0])
              have HRN := Lib.hid (HRUN.out.trans (HST.out _ (HRS.out.trans HQ.out)))
              have f0 := HRB2.out.hd.frozen 0
              have f1 := HRB2.out.hd.frozen 1
              have c0 := HRB2.out.hd.cell 0
              have c1 := HRB2.out.hd.cell 1
              have hgB : g ≠ W.heap.size := by omega
              go_upto_region 14 with fail
              refine wp_region_PL [2, 5] (fun W' => W'.cell? ⟨bl, ol, none⟩ = some (.int .i64 a) ∧ W'.cell? ⟨bl, ol + 1, none⟩ = some (.int .i64 b')) rfl (by kernel_rfl) (⟨u0, u1⟩) (fun hF0 => ?_)
              (refine wpAnyP_takeL (i := 0) (v := ?_) rfl (by kernel_rfl) (by kernel_rfl) (by kernel_rfl) (fun _ _ _ h => h) (by rfl) ?_ ?_; rotate_left 1; focus (intro w; go_simp; try with_reducible rfl))
              try simp only [Act.put, List.setIfInBounds_toArray, List.set_cons_zero, List.set_cons_succ]
              (refine wpAnyP_takeL (i := 1) (v := ?_) rfl (by kernel_rfl) (by kernel_rfl) (by kernel_rfl) (fun _ _ _ h => h) (by rfl) ?_ ?_; rotate_left 1; focus (intro w; go_simp; try with_reducible rfl))
              try simp only [Act.put, List.setIfInBounds_toArray, List.set_cons_zero, List.set_cons_succ]
              (refine wpAnyP_loadL (i := 2) (v := ?_) rfl (by kernel_rfl) (by kernel_rfl) (by kernel_rfl) (by rfl) (fun _ _ _ h => h) hF0 (by rfl) ?_ ?_; rotate_left 1; focus (intro w hFw; (try dsimp only at hFw); go_split_ands; go_simp; try with_reducible rfl))
              try simp only [Act.put, List.setIfInBounds_toArray, List.set_cons_zero, List.set_cons_succ]
              (refine wpAnyP_takeL (i := 3) (v := ?_) rfl (by kernel_rfl) (by kernel_rfl) (by kernel_rfl) (fun _ _ _ h => h) (by rfl) ?_ ?_; rotate_left 1; focus (intro w; go_simp; try with_reducible rfl))
              try simp only [Act.put, List.setIfInBounds_toArray, List.set_cons_zero, List.set_cons_succ]
              (refine wpAnyP_takeL (i := 4) (v := ?_) rfl (by kernel_rfl) (by kernel_rfl) (by kernel_rfl) (fun _ _ _ h => h) (by rfl) ?_ ?_; rotate_left 1; focus (intro w; go_simp; try with_reducible rfl))
              try simp only [Act.put, List.setIfInBounds_toArray, List.set_cons_zero, List.set_cons_succ]
              (refine wpAnyP_loadL (i := 5) (v := ?_) rfl (by kernel_rfl) (by kernel_rfl) (by kernel_rfl) (by rfl) (fun _ _ _ h => h) hF0 (by rfl) ?_ ?_; rotate_left 1; focus (intro w hFw; (try dsimp only at hFw); go_split_ands; go_simp; try with_reducible rfl))
              try simp only [Act.put, List.setIfInBounds_toArray, List.set_cons_zero, List.set_cons_succ]
              (refine wpAnyP_takeL (i := 6) (v := ?_) rfl (by kernel_rfl) (by kernel_rfl) (by kernel_rfl) (fun _ _ _ h => h) (by rfl) ?_ ?_; rotate_left 1; focus (intro w; go_simp; try with_reducible rfl))
              try simp only [Act.put, List.setIfInBounds_toArray, List.set_cons_zero, List.set_cons_succ]
              refine wpAnyP_step (i := 7) rfl (by kernel_rfl) (by rfl) (fun K hK => ?_)
              go_simp
              (refine hK _ _ (⟨cell_put u0 hbB, cell_put u1 hbB⟩) (fun hF1 => ?_); clear hK K hF0)
              try simp only [Act.put, List.setIfInBounds_toArray, List.set_cons_zero, List.set_cons_succ]
              (refine wpAnyP_takeL (i := 8) (v := ?_) rfl (by kernel_rfl) (by kernel_rfl) (by kernel_rfl) (fun _ _ _ h => h) (by rfl) ?_ ?_; rotate_left 1; focus (intro w; go_simp; try with_reducible rfl))
              try simp only [Act.put, List.setIfInBounds_toArray, List.set_cons_zero, List.set_cons_succ]
              refine wpAnyP_last (i := 9) rfl (by kernel_rfl) (by kernel_rfl) (by rfl) (fun K hK => ?_)
              go_simp
              (refine hK _ _ ?_; clear hK K)
              try simp only [Act.put, List.setIfInBounds_toArray, List.set_cons_zero, List.set_cons_succ]
              refine wpAnyP_done (by kernel_rfl) ?_ _
              have HRB3 := Lib.hid (HRB2.out.day a b').drew
              have HSL3 := Lib.hid (show Sl encT 1 _ g (some ⟨g, 0, none⟩) L.length L from (HSL2.out.setCell (p := ⟨W.heap.size, 0, none⟩) (fun _ => hgB) (.int .i64 a)).setCell (p := ⟨W.heap.size, 1, none⟩) (fun _ => hgB) (.int .i64 b'))
              clear u0 u1 f0 f1 c0 c1
              go_wp2_with fail
              go_roundw
              case rel => exact ⟨k + 1, { q with st := a, gd := b' }, A, c, by omega, by go_num, by rw [hen], rfl, by show q.l.length ≤ k + 1; omega, HRN.out, HRB3.out, HSL3.out⟩
              case measure => simp [intOf]; omega
            · have hl2 : ((l.length : Int) == 2) = false := by rw [beq_eq_false_iff_ne]; omega
              have HQ := Lib.hid (show res = none by rw [HRE.out]; simp [stepW, hen, hk0, h2])
              have HRD := Lib.hid (show readT x = .no ((k : Int) + 1) 2 from readT_err (by omega) (by rw [← HLL.out, ← HR.out]; exact HRUN.out.trans (HSP.out (HRS.out.trans HQ.out))))
              go_upto_region 17 with fail
              refine wp_region_PL [] (fun _ => True) rfl (by kernel_rfl) (trivial) (fun hF0 => ?_)
              (refine wpAnyP_takeL (i := 0) (v := ?_) rfl (by kernel_rfl) (by kernel_rfl) (by kernel_rfl) (fun _ _ _ h => h) (by rfl) ?_ ?_; rotate_left 1; focus (intro w; go_simp; try with_reducible rfl))
              try simp only [Act.put, List.setIfInBounds_toArray, List.set_cons_zero, List.set_cons_succ]
              (refine wpAnyP_takeL (i := 1) (v := ?_) rfl (by kernel_rfl) (by kernel_rfl) (by kernel_rfl) (fun _ _ _ h => h) (by rfl) ?_ ?_; rotate_left 1; focus (intro w; go_simp; try with_reducible rfl))
              try simp only [Act.put, List.setIfInBounds_toArray, List.set_cons_zero, List.set_cons_succ]
              (refine wpAnyP_takeL (i := 2) (v := ?_) rfl (by kernel_rfl) (by kernel_rfl) (by kernel_rfl) (fun _ _ _ h => h) (by rfl) ?_ ?_; rotate_left 1; focus (intro w; go_simp; try with_reducible rfl))
              try simp only [Act.put, List.setIfInBounds_toArray, List.set_cons_zero, List.set_cons_succ]
              (refine wpAnyP_skipL (i := 3) rfl (by kernel_rfl) (by kernel_rfl) (by kernel_rfl) (fun _ _ _ h => h) (by rfl) ?_)
              try simp only [Act.put, List.setIfInBounds_toArray, List.set_cons_zero, List.set_cons_succ]
              (refine wpAnyP_skipL (i := 4) rfl (by kernel_rfl) (by kernel_rfl) (by kernel_rfl) (fun _ _ _ h => h) (by rfl) ?_)
              try simp only [Act.put, List.setIfInBounds_toArray, List.set_cons_zero, List.set_cons_succ]
              (refine wpAnyP_skipL (i := 5) rfl (by kernel_rfl) (by kernel_rfl) (by kernel_rfl) (fun _ _ _ h => h) (by rfl) ?_)
              try simp only [Act.put, List.setIfInBounds_toArray, List.set_cons_zero, List.set_cons_succ]
              (refine wpAnyP_takeL (i := 6) (v := ?_) rfl (by kernel_rfl) (by kernel_rfl) (by kernel_rfl) (fun _ _ _ h => h) (by rfl) ?_ ?_; rotate_left 1; focus (intro w; go_simp; try with_reducible rfl))
              try simp only [Act.put, List.setIfInBounds_toArray, List.set_cons_zero, List.set_cons_succ]
              (refine wpAnyP_takeL (i := 7) (v := ?_) rfl (by kernel_rfl) (by kernel_rfl) (by kernel_rfl) (fun _ _ _ h => h) (by rfl) ?_ ?_; rotate_left 1; focus (intro w; go_simp; try with_reducible rfl))
              try simp only [Act.put, List.setIfInBounds_toArray, List.set_cons_zero, List.set_cons_succ]
              (refine wpAnyP_skipL (i := 8) rfl (by kernel_rfl) (by kernel_rfl) (by kernel_rfl) (fun _ _ _ h => h) (by rfl) ?_)
              try simp only [Act.put, List.setIfInBounds_toArray, List.set_cons_zero, List.set_cons_succ]
              (refine wpAnyP_skipL (i := 9) rfl (by kernel_rfl) (by kernel_rfl) (by kernel_rfl) (fun _ _ _ h => h) (by rfl) ?_)
              try simp only [Act.put, List.setIfInBounds_toArray, List.set_cons_zero, List.set_cons_succ]
              (refine wpAnyP_skipL (i := 10) rfl (by kernel_rfl) (by kernel_rfl) (by kernel_rfl) (fun _ _ _ h => h) (by rfl) ?_)
              try simp only [Act.put, List.setIfInBounds_toArray, List.set_cons_zero, List.set_cons_succ]
              (refine wpAnyP_skipL (i := 11) rfl (by kernel_rfl) (by kernel_rfl) (by kernel_rfl) (fun _ _ _ h => h) (by rfl) ?_)
              try simp only [Act.put, List.setIfInBounds_toArray, List.set_cons_zero, List.set_cons_succ]
              (refine wpAnyP_skipL (i := 12) rfl (by kernel_rfl) (by kernel_rfl) (by kernel_rfl) (fun _ _ _ h => h) (by rfl) ?_)
              try simp only [Act.put, List.setIfInBounds_toArray, List.set_cons_zero, List.set_cons_succ]
              (refine wpAnyP_skipL (i := 13) rfl (by kernel_rfl) (by kernel_rfl) (by kernel_rfl) (fun _ _ _ h => h) (by rfl) ?_)
              try simp only [Act.put, List.setIfInBounds_toArray, List.set_cons_zero, List.set_cons_succ]
              (refine wpAnyP_skipL (i := 14) rfl (by kernel_rfl) (by kernel_rfl) (by kernel_rfl) (fun _ _ _ h => h) (by rfl) ?_)
              try simp only [Act.put, List.setIfInBounds_toArray, List.set_cons_zero, List.set_cons_succ]
              (refine wpAnyP_takeL (i := 15) (v := ?_) rfl (by kernel_rfl) (by kernel_rfl) (by kernel_rfl) (fun _ _ _ h => h) (by rfl) ?_ ?_; rotate_left 1; focus (intro w; go_simp; try with_reducible rfl))
              try simp only [Act.put, List.setIfInBounds_toArray, List.set_cons_zero, List.set_cons_succ]
              (refine wpAnyP_takeL (i := 16) (v := ?_) rfl (by kernel_rfl) (by kernel_rfl) (by kernel_rfl) (fun _ _ _ h => h) (by rfl) ?_ ?_; rotate_left 1; focus (intro w; go_simp; try with_reducible rfl))
              try simp only [Act.put, List.setIfInBounds_toArray, List.set_cons_zero, List.set_cons_succ]
              refine wpAnyP_done (by kernel_rfl) ?_ _
              have f0 := HRB2.out.hd.frozen 0
              have f1 := HRB2.out.hd.frozen 1
              have f2 := HRB2.out.hd.frozen 2
              have c0 := HRB2.out.hd.cell 0
              have c1 := HRB2.out.hd.cell 1
              have c2 := HRB2.out.hd.cell 2
              obtain ⟨hzb, hzk⟩ := HRB2.out.zero (.int .i64 0) (.int .i64 0) (.slice none 0 0)
              have q0 := hzk.cell 0
              have q1 := hzk.cell 1
              have q2 := hzk.cell 2
              have HZB := Lib.hid hzb
              clear hzb hzk
              go_wp2_with fail
              refine bodyPost_ret (v := .tuple #[.agg #[.int .i64 0, .int .i64 0, .slice none 0 0], .int .i64 ((k : Int) + 1), .int .i64 (2)]) (by simp [results, Tryz.results11, go_sem, q0, q1, q2]; try omega) rfl ?_
              rw [HRD.out]
              exact ⟨none, 0, 0, rfl, Sl.nil _ _ _, HZB.out.drew⟩
          · rw [decide_eq_false hd] at hwd
            have HQ := Lib.hid (show res = none by rw [HRE.out]; simp [stepW, hen, hk0, hd])
            have HRD := Lib.hid (show readT x = .no ((k : Int) + 1) 2 from readT_err (by omega) (by rw [← HLL.out, ← HR.out]; exact HRUN.out.trans (HSP.out (HRS.out.trans HQ.out))))
            have f0 := HRB2.out.hd.frozen 0
            have f1 := HRB2.out.hd.frozen 1
            have f2 := HRB2.out.hd.frozen 2
            have c0 := HRB2.out.hd.cell 0
            have c1 := HRB2.out.hd.cell 1
            have c2 := HRB2.out.hd.cell 2
            obtain ⟨hzb, hzk⟩ := HRB2.out.zero (.int .i64 0) (.int .i64 0) (.slice none 0 0)
            have q0 := hzk.cell 0
            have q1 := hzk.cell 1
            have q2 := hzk.cell 2
            have HZB := Lib.hid hzb
            clear hzb hzk
            go_wp2_with fail
            refine bodyPost_ret (v := .tuple #[.agg #[.int .i64 0, .int .i64 0, .slice none 0 0], .int .i64 ((k : Int) + 1), .int .i64 (2)]) (by simp [results, Tryz.results11, go_sem, q0, q1, q2]; try omega) rfl ?_
            rw [HRD.out]
            exact ⟨none, 0, 0, rfl, Sl.nil _ _ _, HZB.out⟩
        · have hki : ((k : Int) == 0) = false := by rw [beq_eq_false_iff_ne]; omega
          by_cases hd : wd = wDay
          · rw [decide_eq_true hd] at hwd
            have HQ := Lib.hid (show res = none by rw [HRE.out]; simp [stepW, hen, hk0, hd])
            have HRD := Lib.hid (show readT x = .no ((k : Int) + 1) 2 from readT_err (by omega) (by rw [← HLL.out, ← HR.out]; exact HRUN.out.trans (HSP.out (HRS.out.trans HQ.out))))
            have f0 := HRB2.out.hd.frozen 0
            have f1 := HRB2.out.hd.frozen 1
            have f2 := HRB2.out.hd.frozen 2
            have c0 := HRB2.out.hd.cell 0
            have c1 := HRB2.out.hd.cell 1
            have c2 := HRB2.out.hd.cell 2
            obtain ⟨hzb, hzk⟩ := HRB2.out.zero (.int .i64 0) (.int .i64 0) (.slice none 0 0)
            have q0 := hzk.cell 0
            have q1 := hzk.cell 1
            have q2 := hzk.cell 2
            have HZB := Lib.hid hzb
            clear hzb hzk
            go_wp2_with fail
            refine bodyPost_ret (v := .tuple #[.agg #[.int .i64 0, .int .i64 0, .slice none 0 0], .int .i64 ((k : Int) + 1), .int .i64 (2)]) (by simp [results, Tryz.results11, go_sem, q0, q1, q2]; try omega) rfl ?_
            rw [HRD.out]
            exact ⟨none, 0, 0, rfl, Sl.nil _ _ _, HZB.out⟩
          · rw [decide_eq_false hd] at hwd
            by_cases hs : wd = wSale
            · rw [decide_eq_true hs] at hws
              have hne : ¬ wd = wEnd := by rw [hs]; decide
              rw [decide_eq_false hne] at hwe
              by_cases h6 : l.length = 6
              · obtain ⟨a0, a1, a2, a3, a4, a5, rfl⟩ : ∃ a0 a1 a2 a3 a4 a5, l = [a0, a1, a2, a3, a4, a5] := by
                  match l, h6 with
                  | [a0, a1, a2, a3, a4, a5], _ => exact ⟨a0, a1, a2, a3, a4, a5, rfl⟩
                obtain ⟨ol, rfl, hzl, u0⟩ := HLI.out.atI (k := 0) (by simp)
                obtain ⟨o1, ho1, _, u1⟩ := HLI.out.atI (k := 1) (by simp)
                obtain ⟨o2, ho2, _, u2⟩ := HLI.out.atI (k := 2) (by simp)
                obtain ⟨o3, ho3, _, u3⟩ := HLI.out.atI (k := 3) (by simp)
                obtain ⟨o4, ho4, _, u4⟩ := HLI.out.atI (k := 4) (by simp)
                obtain ⟨o5, ho5, _, u5⟩ := HLI.out.atI (k := 5) (by simp)
                obtain rfl : ol = o1 := by injection ho1 with h; injection h
                obtain rfl : ol = o2 := by injection ho2 with h; injection h
                obtain rfl : ol = o3 := by injection ho3 with h; injection h
                obtain rfl : ol = o4 := by injection ho4 with h; injection h
                obtain rfl : ol = o5 := by injection ho5 with h; injection h
                simp only [List.getElem_cons_zero, List.getElem_cons_succ, Nat.add_zero] at u0 u1 u2 u3 u4 u5
                clear ho1 ho2 ho3 ho4 ho5 hzl
                have HQ := Lib.hid (show res = some { q with l := q.l ++ [⟨a0, a1, a2, a3, a4, a5⟩] } by rw [HRE.out]; simp [stepW, hen, hk0, hd, hs, wSale, wDay, saleOfL, at0])
                have HRN := Lib.hid (HRUN.out.trans (HST.out _ (HRS.out.trans HQ.out)))
                have c2 := HRB2.out.hd.cell 2
                have hgB : g ≠ W.heap.size := by omega
                have HU := Lib.hid (And.intro c2 (And.intro u0 (And.intro u1 (And.intro u2 (And.intro u3 (And.intro u4 u5))))))
                have hblown : some bl ≠ Value.ownBlock (.slice A q.l.length c) := fun e => by have := (HRB.out.row.lt bl e.symm).2; omega
                have hgown : some g ≠ Value.ownBlock (.slice A q.l.length c) := fun e => by have := (HRB.out.row.lt g e.symm).1; omega
                have hBown : some W.heap.size ≠ Value.ownBlock (.slice A q.l.length c) := fun e => by have := (HRB.out.row.lt _ e.symm).1; omega
                clear u0 u1 u2 u3 u4 u5 c2
                go_upto_region 16 with fail
                refine wp_region_PL [1, 4, 7, 10, 13, 17, 20] (fun W' => W'.cell? ⟨W.heap.size, 2, none⟩ = some (.slice A q.l.length c) ∧ W'.cell? ⟨bl, ol, none⟩ = some (.int .i64 a0) ∧ W'.cell? ⟨bl, ol + 1, none⟩ = some (.int .i64 a1) ∧ W'.cell? ⟨bl, ol + 2, none⟩ = some (.int .i64 a2) ∧ W'.cell? ⟨bl, ol + 3, none⟩ = some (.int .i64 a3) ∧ W'.cell? ⟨bl, ol + 4, none⟩ = some (.int .i64 a4) ∧ W'.cell? ⟨bl, ol + 5, none⟩ = some (.int .i64 a5)) rfl (by kernel_rfl) (HU.out) (fun hF0 => ?_)
                (refine wpAnyP_takeL (i := 0) (v := ?_) rfl (by kernel_rfl) (by kernel_rfl) (by kernel_rfl) (fun _ _ _ h => h) (by rfl) ?_ ?_; rotate_left 1; focus (intro w; go_simp; try with_reducible rfl))
                try simp only [Act.put, List.setIfInBounds_toArray, List.set_cons_zero, List.set_cons_succ]
                (refine wpAnyP_loadL (i := 1) (v := ?_) rfl (by kernel_rfl) (by kernel_rfl) (by kernel_rfl) (by rfl) (fun _ _ _ h => h) hF0 (by rfl) ?_ ?_; rotate_left 1; focus (intro w hFw; (try dsimp only at hFw); go_split_ands; go_simp; try with_reducible rfl))
                try simp only [Act.put, List.setIfInBounds_toArray, List.set_cons_zero, List.set_cons_succ]
                (refine wpAnyP_takeL (i := 2) (v := ?_) rfl (by kernel_rfl) (by kernel_rfl) (by kernel_rfl) (fun _ _ _ h => h) (by rfl) ?_ ?_; rotate_left 1; focus (intro w; go_simp; try with_reducible rfl))
                try simp only [Act.put, List.setIfInBounds_toArray, List.set_cons_zero, List.set_cons_succ]
                (refine wpAnyP_takeL (i := 3) (v := ?_) rfl (by kernel_rfl) (by kernel_rfl) (by kernel_rfl) (fun _ _ _ h => h) (by rfl) ?_ ?_; rotate_left 1; focus (intro w; go_simp; try with_reducible rfl))
                try simp only [Act.put, List.setIfInBounds_toArray, List.set_cons_zero, List.set_cons_succ]
                (refine wpAnyP_loadL (i := 4) (v := ?_) rfl (by kernel_rfl) (by kernel_rfl) (by kernel_rfl) (by rfl) (fun _ _ _ h => h) hF0 (by rfl) ?_ ?_; rotate_left 1; focus (intro w hFw; (try dsimp only at hFw); go_split_ands; go_simp; try with_reducible rfl))
                try simp only [Act.put, List.setIfInBounds_toArray, List.set_cons_zero, List.set_cons_succ]
                (refine wpAnyP_takeL (i := 5) (v := ?_) rfl (by kernel_rfl) (by kernel_rfl) (by kernel_rfl) (fun _ _ _ h => h) (by rfl) ?_ ?_; rotate_left 1; focus (intro w; go_simp; try with_reducible rfl))
                try simp only [Act.put, List.setIfInBounds_toArray, List.set_cons_zero, List.set_cons_succ]
                (refine wpAnyP_takeL (i := 6) (v := ?_) rfl (by kernel_rfl) (by kernel_rfl) (by kernel_rfl) (fun _ _ _ h => h) (by rfl) ?_ ?_; rotate_left 1; focus (intro w; go_simp; try with_reducible rfl))
                try simp only [Act.put, List.setIfInBounds_toArray, List.set_cons_zero, List.set_cons_succ]
                (refine wpAnyP_loadL (i := 7) (v := ?_) rfl (by kernel_rfl) (by kernel_rfl) (by kernel_rfl) (by rfl) (fun _ _ _ h => h) hF0 (by rfl) ?_ ?_; rotate_left 1; focus (intro w hFw; (try dsimp only at hFw); go_split_ands; go_simp; try with_reducible rfl))
                try simp only [Act.put, List.setIfInBounds_toArray, List.set_cons_zero, List.set_cons_succ]
                (refine wpAnyP_takeL (i := 8) (v := ?_) rfl (by kernel_rfl) (by kernel_rfl) (by kernel_rfl) (fun _ _ _ h => h) (by rfl) ?_ ?_; rotate_left 1; focus (intro w; go_simp; try with_reducible rfl))
                try simp only [Act.put, List.setIfInBounds_toArray, List.set_cons_zero, List.set_cons_succ]
                (refine wpAnyP_takeL (i := 9) (v := ?_) rfl (by kernel_rfl) (by kernel_rfl) (by kernel_rfl) (fun _ _ _ h => h) (by rfl) ?_ ?_; rotate_left 1; focus (intro w; go_simp; try with_reducible rfl))
                try simp only [Act.put, List.setIfInBounds_toArray, List.set_cons_zero, List.set_cons_succ]
                (refine wpAnyP_loadL (i := 10) (v := ?_) rfl (by kernel_rfl) (by kernel_rfl) (by kernel_rfl) (by rfl) (fun _ _ _ h => h) hF0 (by rfl) ?_ ?_; rotate_left 1; focus (intro w hFw; (try dsimp only at hFw); go_split_ands; go_simp; try with_reducible rfl))
                try simp only [Act.put, List.setIfInBounds_toArray, List.set_cons_zero, List.set_cons_succ]
                (refine wpAnyP_takeL (i := 11) (v := ?_) rfl (by kernel_rfl) (by kernel_rfl) (by kernel_rfl) (fun _ _ _ h => h) (by rfl) ?_ ?_; rotate_left 1; focus (intro w; go_simp; try with_reducible rfl))
                try simp only [Act.put, List.setIfInBounds_toArray, List.set_cons_zero, List.set_cons_succ]
                (refine wpAnyP_takeL (i := 12) (v := ?_) rfl (by kernel_rfl) (by kernel_rfl) (by kernel_rfl) (fun _ _ _ h => h) (by rfl) ?_ ?_; rotate_left 1; focus (intro w; go_simp; try with_reducible rfl))
                try simp only [Act.put, List.setIfInBounds_toArray, List.set_cons_zero, List.set_cons_succ]
                (refine wpAnyP_loadL (i := 13) (v := ?_) rfl (by kernel_rfl) (by kernel_rfl) (by kernel_rfl) (by rfl) (fun _ _ _ h => h) hF0 (by rfl) ?_ ?_; rotate_left 1; focus (intro w hFw; (try dsimp only at hFw); go_split_ands; go_simp; try with_reducible rfl))
                try simp only [Act.put, List.setIfInBounds_toArray, List.set_cons_zero, List.set_cons_succ]
                (refine wpAnyP_takeL (i := 14) (v := ?_) rfl (by kernel_rfl) (by kernel_rfl) (by kernel_rfl) (fun _ _ _ h => h) (by rfl) ?_ ?_; rotate_left 1; focus (intro w; go_simp; try with_reducible rfl))
                try simp only [Act.put, List.setIfInBounds_toArray, List.set_cons_zero, List.set_cons_succ]
                (refine wpAnyP_takeL (i := 15) (v := ?_) rfl (by kernel_rfl) (by kernel_rfl) (by kernel_rfl) (fun _ _ _ h => h) (by rfl) ?_ ?_; rotate_left 1; focus (intro w; go_simp; try with_reducible rfl))
                try simp only [Act.put, List.setIfInBounds_toArray, List.set_cons_zero, List.set_cons_succ]
                (refine wpAnyP_takeL (i := 16) (v := ?_) rfl (by kernel_rfl) (by kernel_rfl) (by kernel_rfl) (fun _ _ _ h => h) (by rfl) ?_ ?_; rotate_left 1; focus (intro w; go_simp; try with_reducible rfl))
                try simp only [Act.put, List.setIfInBounds_toArray, List.set_cons_zero, List.set_cons_succ]
                (refine wpAnyP_loadL (i := 17) (v := ?_) rfl (by kernel_rfl) (by kernel_rfl) (by kernel_rfl) (by rfl) (fun _ _ _ h => h) hF0 (by rfl) ?_ ?_; rotate_left 1; focus (intro w hFw; (try dsimp only at hFw); go_split_ands; go_simp; try with_reducible rfl))
                try simp only [Act.put, List.setIfInBounds_toArray, List.set_cons_zero, List.set_cons_succ]
                (refine wpAnyP_takeL (i := 18) (v := ?_) rfl (by kernel_rfl) (by kernel_rfl) (by kernel_rfl) (fun _ _ _ h => h) (by rfl) ?_ ?_; rotate_left 1; focus (intro w; go_simp; try with_reducible rfl))
                try simp only [Act.put, List.setIfInBounds_toArray, List.set_cons_zero, List.set_cons_succ]
                (refine wpAnyP_takeL (i := 19) (v := ?_) rfl (by kernel_rfl) (by kernel_rfl) (by kernel_rfl) (fun _ _ _ h => h) (by rfl) ?_ ?_; rotate_left 1; focus (intro w; go_simp; try with_reducible rfl))
                try simp only [Act.put, List.setIfInBounds_toArray, List.set_cons_zero, List.set_cons_succ]
                (refine wpAnyP_loadL (i := 20) (v := ?_) rfl (by kernel_rfl) (by kernel_rfl) (by kernel_rfl) (by rfl) (fun _ _ _ h => h) hF0 (by rfl) ?_ ?_; rotate_left 1; focus (intro w hFw; (try dsimp only at hFw); go_split_ands; go_simp; try with_reducible rfl))
                try simp only [Act.put, List.setIfInBounds_toArray, List.set_cons_zero, List.set_cons_succ]
                (refine wpAnyP_takeL (i := 21) (v := ?_) rfl (by kernel_rfl) (by kernel_rfl) (by kernel_rfl) (fun _ _ _ h => h) (by rfl) ?_ ?_; rotate_left 1; focus (intro w; go_simp; try with_reducible rfl))
                try simp only [Act.put, List.setIfInBounds_toArray, List.set_cons_zero, List.set_cons_succ]
                (refine wpAnyP_takeL (i := 22) (v := ?_) rfl (by kernel_rfl) (by kernel_rfl) (by kernel_rfl) (fun _ _ _ h => h) (by rfl) ?_ ?_; rotate_left 1; focus (intro w; go_simp; try with_reducible rfl))
                try simp only [Act.put, List.setIfInBounds_toArray, List.set_cons_zero, List.set_cons_succ]
                refine wpAnyP_step (i := 23) rfl (by kernel_rfl) (by rfl) (fun K hK => ?_)
                go_simp
                (have HR6 := Lib.hid (HRB2.out.below ((Below.refl _ w2).alloc (Nat.le_refl _) (.cells #[.int .i64 a0, .int .i64 a1, .int .i64 a2, .int .i64 a3, .int .i64 a4, .int .i64 a5] 59))); have HSL6 := Lib.hid (HSL2.out.alloc (.cells #[.int .i64 a0, .int .i64 a1, .int .i64 a2, .int .i64 a3, .int .i64 a4, .int .i64 a5] 59)); have HNS := Lib.hid (Sl.new encS_len w2 [⟨a0, a1, a2, a3, a4, a5⟩] 59 #[.int .i64 a0, .int .i64 a1, .int .i64 a2, .int .i64 a3, .int .i64 a4, .int .i64 a5] rfl); have HV := Lib.hid (all_old HU.out ((Below.refl _ w2).alloc (Nat.le_refl _) (.cells #[.int .i64 a0, .int .i64 a1, .int .i64 a2, .int .i64 a3, .int .i64 a4, .int .i64 a5] 59))))
                (refine hK _ _ (HV.out) (fun hF1 => ?_); clear hK K hF0)
                try simp only [Act.put, List.setIfInBounds_toArray, List.set_cons_zero, List.set_cons_succ]
                refine wpAnyP_step (i := 24) rfl (by kernel_rfl) (by rfl) (fun K hK => ?_)
                (refine wp_append_sl _ _ _ rfl w1.heap.size 59 i0 _ 48 Tryz.underlying22 hi iz0 iz1 iz2 rfl (by omega) encS_len _ q.l.length _ (by rfl) HR6.out.row w2.heap.size (some ⟨w2.heap.size, 0, none⟩) 1 1 [⟨a0, a1, a2, a3, a4, a5⟩] (by rfl) HNS.out oneS (by unfold maxLen; omega) (by omega) HR6.out.hz ?_; intro A3 c3 w3 hown3 hgrow hat; have HFN := Lib.hid (HR6.out.drew.sale ⟨a0, a1, a2, a3, a4, a5⟩ hown3 hgrow); have HSL7 := Lib.hid (HSL6.out.drew.grown hgrow (fun _ => hgown)); have HV7 := Lib.hid (all_grown (by exact HV.out) hgrow hBown hblown); have f2 := HFN.out.2.frozen 2; have c2 := HFN.out.2.cell 2; clear hown3 hgrow hat)
                (refine hK _ _ (HV7.out) (fun hF2 => ?_); clear hK K hF1)
                try simp only [Act.put, List.setIfInBounds_toArray, List.set_cons_zero, List.set_cons_succ]
                (refine wpAnyP_takeL (i := 25) (v := ?_) rfl (by kernel_rfl) (by kernel_rfl) (by kernel_rfl) (fun _ _ _ h => h) (by rfl) ?_ ?_; rotate_left 1; focus (intro w; go_simp; try with_reducible rfl))
                try simp only [Act.put, List.setIfInBounds_toArray, List.set_cons_zero, List.set_cons_succ]
                refine wpAnyP_last (i := 26) rfl (by kernel_rfl) (by kernel_rfl) (by rfl) (fun K hK => ?_)
                go_simp
                (refine hK _ _ ?_; clear hK K)
                try simp only [Act.put, List.setIfInBounds_toArray, List.set_cons_zero, List.set_cons_succ]
                refine wpAnyP_done (by kernel_rfl) ?_ _
                have HRB3 := Lib.hid HFN.out.1
                have HSL3 := Lib.hid (show Sl encT 1 _ g (some ⟨g, 0, none⟩) L.length L from HSL7.out.setCell (p := ⟨W.heap.size, 2, none⟩) (fun _ => hgB) (.slice A3 (q.l.length + 1) c3))
                clear f2 c2
                go_wp2_with fail
                go_roundw
                case rel => exact ⟨k + 1, { q with l := q.l ++ [⟨a0, a1, a2, a3, a4, a5⟩] }, A3, c3, by omega, by go_num, by rw [hen], rfl, by simp; omega, HRN.out, HRB3.out, HSL3.out⟩
                case measure => simp [intOf]; omega
              · have hl6 : ((l.length : Int) == 6) = false := by rw [beq_eq_false_iff_ne]; omega
                have HQ := Lib.hid (show res = none by rw [HRE.out]; simp [stepW, hen, hk0, hd, h6, hne])
                have HRD := Lib.hid (show readT x = .no ((k : Int) + 1) 2 from readT_err (by omega) (by rw [← HLL.out, ← HR.out]; exact HRUN.out.trans (HSP.out (HRS.out.trans HQ.out))))
                go_upto_region 17 with fail
                refine wp_region_PL [] (fun _ => True) rfl (by kernel_rfl) (trivial) (fun hF0 => ?_)
                (refine wpAnyP_takeL (i := 0) (v := ?_) rfl (by kernel_rfl) (by kernel_rfl) (by kernel_rfl) (fun _ _ _ h => h) (by rfl) ?_ ?_; rotate_left 1; focus (intro w; go_simp; try with_reducible rfl))
                try simp only [Act.put, List.setIfInBounds_toArray, List.set_cons_zero, List.set_cons_succ]
                (refine wpAnyP_takeL (i := 1) (v := ?_) rfl (by kernel_rfl) (by kernel_rfl) (by kernel_rfl) (fun _ _ _ h => h) (by rfl) ?_ ?_; rotate_left 1; focus (intro w; go_simp; try with_reducible rfl))
                try simp only [Act.put, List.setIfInBounds_toArray, List.set_cons_zero, List.set_cons_succ]
                (refine wpAnyP_takeL (i := 2) (v := ?_) rfl (by kernel_rfl) (by kernel_rfl) (by kernel_rfl) (fun _ _ _ h => h) (by rfl) ?_ ?_; rotate_left 1; focus (intro w; go_simp; try with_reducible rfl))
                try simp only [Act.put, List.setIfInBounds_toArray, List.set_cons_zero, List.set_cons_succ]
                (refine wpAnyP_skipL (i := 3) rfl (by kernel_rfl) (by kernel_rfl) (by kernel_rfl) (fun _ _ _ h => h) (by rfl) ?_)
                try simp only [Act.put, List.setIfInBounds_toArray, List.set_cons_zero, List.set_cons_succ]
                (refine wpAnyP_skipL (i := 4) rfl (by kernel_rfl) (by kernel_rfl) (by kernel_rfl) (fun _ _ _ h => h) (by rfl) ?_)
                try simp only [Act.put, List.setIfInBounds_toArray, List.set_cons_zero, List.set_cons_succ]
                (refine wpAnyP_skipL (i := 5) rfl (by kernel_rfl) (by kernel_rfl) (by kernel_rfl) (fun _ _ _ h => h) (by rfl) ?_)
                try simp only [Act.put, List.setIfInBounds_toArray, List.set_cons_zero, List.set_cons_succ]
                (refine wpAnyP_takeL (i := 6) (v := ?_) rfl (by kernel_rfl) (by kernel_rfl) (by kernel_rfl) (fun _ _ _ h => h) (by rfl) ?_ ?_; rotate_left 1; focus (intro w; go_simp; try with_reducible rfl))
                try simp only [Act.put, List.setIfInBounds_toArray, List.set_cons_zero, List.set_cons_succ]
                (refine wpAnyP_takeL (i := 7) (v := ?_) rfl (by kernel_rfl) (by kernel_rfl) (by kernel_rfl) (fun _ _ _ h => h) (by rfl) ?_ ?_; rotate_left 1; focus (intro w; go_simp; try with_reducible rfl))
                try simp only [Act.put, List.setIfInBounds_toArray, List.set_cons_zero, List.set_cons_succ]
                (refine wpAnyP_skipL (i := 8) rfl (by kernel_rfl) (by kernel_rfl) (by kernel_rfl) (fun _ _ _ h => h) (by rfl) ?_)
                try simp only [Act.put, List.setIfInBounds_toArray, List.set_cons_zero, List.set_cons_succ]
                (refine wpAnyP_skipL (i := 9) rfl (by kernel_rfl) (by kernel_rfl) (by kernel_rfl) (fun _ _ _ h => h) (by rfl) ?_)
                try simp only [Act.put, List.setIfInBounds_toArray, List.set_cons_zero, List.set_cons_succ]
                (refine wpAnyP_skipL (i := 10) rfl (by kernel_rfl) (by kernel_rfl) (by kernel_rfl) (fun _ _ _ h => h) (by rfl) ?_)
                try simp only [Act.put, List.setIfInBounds_toArray, List.set_cons_zero, List.set_cons_succ]
                (refine wpAnyP_skipL (i := 11) rfl (by kernel_rfl) (by kernel_rfl) (by kernel_rfl) (fun _ _ _ h => h) (by rfl) ?_)
                try simp only [Act.put, List.setIfInBounds_toArray, List.set_cons_zero, List.set_cons_succ]
                (refine wpAnyP_skipL (i := 12) rfl (by kernel_rfl) (by kernel_rfl) (by kernel_rfl) (fun _ _ _ h => h) (by rfl) ?_)
                try simp only [Act.put, List.setIfInBounds_toArray, List.set_cons_zero, List.set_cons_succ]
                (refine wpAnyP_skipL (i := 13) rfl (by kernel_rfl) (by kernel_rfl) (by kernel_rfl) (fun _ _ _ h => h) (by rfl) ?_)
                try simp only [Act.put, List.setIfInBounds_toArray, List.set_cons_zero, List.set_cons_succ]
                (refine wpAnyP_skipL (i := 14) rfl (by kernel_rfl) (by kernel_rfl) (by kernel_rfl) (fun _ _ _ h => h) (by rfl) ?_)
                try simp only [Act.put, List.setIfInBounds_toArray, List.set_cons_zero, List.set_cons_succ]
                (refine wpAnyP_takeL (i := 15) (v := ?_) rfl (by kernel_rfl) (by kernel_rfl) (by kernel_rfl) (fun _ _ _ h => h) (by rfl) ?_ ?_; rotate_left 1; focus (intro w; go_simp; try with_reducible rfl))
                try simp only [Act.put, List.setIfInBounds_toArray, List.set_cons_zero, List.set_cons_succ]
                (refine wpAnyP_takeL (i := 16) (v := ?_) rfl (by kernel_rfl) (by kernel_rfl) (by kernel_rfl) (fun _ _ _ h => h) (by rfl) ?_ ?_; rotate_left 1; focus (intro w; go_simp; try with_reducible rfl))
                try simp only [Act.put, List.setIfInBounds_toArray, List.set_cons_zero, List.set_cons_succ]
                refine wpAnyP_done (by kernel_rfl) ?_ _
                have f0 := HRB2.out.hd.frozen 0
                have f1 := HRB2.out.hd.frozen 1
                have f2 := HRB2.out.hd.frozen 2
                have c0 := HRB2.out.hd.cell 0
                have c1 := HRB2.out.hd.cell 1
                have c2 := HRB2.out.hd.cell 2
                obtain ⟨hzb, hzk⟩ := HRB2.out.zero (.int .i64 0) (.int .i64 0) (.slice none 0 0)
                have q0 := hzk.cell 0
                have q1 := hzk.cell 1
                have q2 := hzk.cell 2
                have HZB := Lib.hid hzb
                clear hzb hzk
                go_wp2_with fail
                refine bodyPost_ret (v := .tuple #[.agg #[.int .i64 0, .int .i64 0, .slice none 0 0], .int .i64 ((k : Int) + 1), .int .i64 (2)]) (by simp [results, Tryz.results11, go_sem, q0, q1, q2]; try omega) rfl ?_
                rw [HRD.out]
                exact ⟨none, 0, 0, rfl, Sl.nil _ _ _, HZB.out.drew⟩
            · rw [decide_eq_false hs] at hws
              by_cases he : wd = wEnd
              · rw [decide_eq_true he] at hwe
                by_cases h2 : l.length = 2
                · obtain ⟨a, b', rfl⟩ : ∃ a b', l = [a, b'] := by
                    match l, h2 with
                    | [a, b'], _ => exact ⟨a, b', rfl⟩
                  obtain ⟨ol, rfl, hzl, u0⟩ := HLI.out.atI (k := 0) (by simp)
                  obtain ⟨ol', ho, _, u1⟩ := HLI.out.atI (k := 1) (by simp)
                  obtain rfl : ol = ol' := by injection ho with h; injection h
                  simp only [List.getElem_cons_zero, List.getElem_cons_succ, Nat.add_zero] at u0 u1
                  clear ho hzl
                  by_cases hln : a = (q.l.length : Int)
                  · have hlb : (a == (q.l.length : Int)) = true := by rw [hln]; exact beq_self_eq_true _
                    have HQ := Lib.hid (show res = some { q with en := true, se := b' } by rw [HRE.out]; simp [stepW, hen, hk0, he, at0, hln, wEnd, wDay, wSale])
                    have HRN := Lib.hid (HRUN.out.trans (HST.out _ (HRS.out.trans HQ.out)))
                    go_upto_region 17 with fail
                    refine wp_region_PL [10, 12] (fun W' => W'.cell? ⟨bl, ol, none⟩ = some (.int .i64 a) ∧ W'.cell? ⟨W.heap.size, 2, none⟩ = some (.slice A q.l.length c)) rfl (by kernel_rfl) (⟨u0, HRB2.out.hd.cell 2⟩) (fun hF0 => ?_)
                    (refine wpAnyP_takeL (i := 0) (v := ?_) rfl (by kernel_rfl) (by kernel_rfl) (by kernel_rfl) (fun _ _ _ h => h) (by rfl) ?_ ?_; rotate_left 1; focus (intro w; go_simp; try with_reducible rfl))
                    try simp only [Act.put, List.setIfInBounds_toArray, List.set_cons_zero, List.set_cons_succ]
                    (refine wpAnyP_takeL (i := 1) (v := ?_) rfl (by kernel_rfl) (by kernel_rfl) (by kernel_rfl) (fun _ _ _ h => h) (by rfl) ?_ ?_; rotate_left 1; focus (intro w; go_simp; try with_reducible rfl))
                    try simp only [Act.put, List.setIfInBounds_toArray, List.set_cons_zero, List.set_cons_succ]
                    (refine wpAnyP_takeL (i := 2) (v := ?_) rfl (by kernel_rfl) (by kernel_rfl) (by kernel_rfl) (fun _ _ _ h => h) (by rfl) ?_ ?_; rotate_left 1; focus (intro w; go_simp; try with_reducible rfl))
                    try simp only [Act.put, List.setIfInBounds_toArray, List.set_cons_zero, List.set_cons_succ]
                    (refine wpAnyP_takeL (i := 3) (v := ?_) rfl (by kernel_rfl) (by kernel_rfl) (by kernel_rfl) (fun _ _ _ h => h) (by rfl) ?_ ?_; rotate_left 1; focus (intro w; go_simp; try with_reducible rfl))
                    try simp only [Act.put, List.setIfInBounds_toArray, List.set_cons_zero, List.set_cons_succ]
                    (refine wpAnyP_takeL (i := 4) (v := ?_) rfl (by kernel_rfl) (by kernel_rfl) (by kernel_rfl) (fun _ _ _ h => h) (by rfl) ?_ ?_; rotate_left 1; focus (intro w; go_simp; try with_reducible rfl))
                    try simp only [Act.put, List.setIfInBounds_toArray, List.set_cons_zero, List.set_cons_succ]
                    (refine wpAnyP_takeL (i := 5) (v := ?_) rfl (by kernel_rfl) (by kernel_rfl) (by kernel_rfl) (fun _ _ _ h => h) (by rfl) ?_ ?_; rotate_left 1; focus (intro w; go_simp; try with_reducible rfl))
                    try simp only [Act.put, List.setIfInBounds_toArray, List.set_cons_zero, List.set_cons_succ]
                    (refine wpAnyP_takeL (i := 6) (v := ?_) rfl (by kernel_rfl) (by kernel_rfl) (by kernel_rfl) (fun _ _ _ h => h) (by rfl) ?_ ?_; rotate_left 1; focus (intro w; go_simp; try with_reducible rfl))
                    try simp only [Act.put, List.setIfInBounds_toArray, List.set_cons_zero, List.set_cons_succ]
                    (refine wpAnyP_takeL (i := 7) (v := ?_) rfl (by kernel_rfl) (by kernel_rfl) (by kernel_rfl) (fun _ _ _ h => h) (by rfl) ?_ ?_; rotate_left 1; focus (intro w; go_simp; try with_reducible rfl))
                    try simp only [Act.put, List.setIfInBounds_toArray, List.set_cons_zero, List.set_cons_succ]
                    (refine wpAnyP_takeL (i := 8) (v := ?_) rfl (by kernel_rfl) (by kernel_rfl) (by kernel_rfl) (fun _ _ _ h => h) (by rfl) ?_ ?_; rotate_left 1; focus (intro w; go_simp; try with_reducible rfl))
                    try simp only [Act.put, List.setIfInBounds_toArray, List.set_cons_zero, List.set_cons_succ]
                    (refine wpAnyP_takeL (i := 9) (v := ?_) rfl (by kernel_rfl) (by kernel_rfl) (by kernel_rfl) (fun _ _ _ h => h) (by rfl) ?_ ?_; rotate_left 1; focus (intro w; go_simp; try with_reducible rfl))
                    try simp only [Act.put, List.setIfInBounds_toArray, List.set_cons_zero, List.set_cons_succ]
                    (refine wpAnyP_loadL (i := 10) (v := ?_) rfl (by kernel_rfl) (by kernel_rfl) (by kernel_rfl) (by rfl) (fun _ _ _ h => h) hF0 (by rfl) ?_ ?_; rotate_left 1; focus (intro w hFw; (try dsimp only at hFw); go_split_ands; go_simp; try with_reducible rfl))
                    try simp only [Act.put, List.setIfInBounds_toArray, List.set_cons_zero, List.set_cons_succ]
                    (refine wpAnyP_takeL (i := 11) (v := ?_) rfl (by kernel_rfl) (by kernel_rfl) (by kernel_rfl) (fun _ _ _ h => h) (by rfl) ?_ ?_; rotate_left 1; focus (intro w; go_simp; try with_reducible rfl))
                    try simp only [Act.put, List.setIfInBounds_toArray, List.set_cons_zero, List.set_cons_succ]
                    (refine wpAnyP_loadL (i := 12) (v := ?_) rfl (by kernel_rfl) (by kernel_rfl) (by kernel_rfl) (by rfl) (fun _ _ _ h => h) hF0 (by rfl) ?_ ?_; rotate_left 1; focus (intro w hFw; (try dsimp only at hFw); go_split_ands; go_simp; try with_reducible rfl))
                    try simp only [Act.put, List.setIfInBounds_toArray, List.set_cons_zero, List.set_cons_succ]
                    (refine wpAnyP_takeL (i := 13) (v := ?_) rfl (by kernel_rfl) (by kernel_rfl) (by kernel_rfl) (fun _ _ _ h => h) (by rfl) ?_ ?_; rotate_left 1; focus (intro w; go_simp; try with_reducible rfl))
                    try simp only [Act.put, List.setIfInBounds_toArray, List.set_cons_zero, List.set_cons_succ]
                    (refine wpAnyP_takeL (i := 14) (v := ?_) rfl (by kernel_rfl) (by kernel_rfl) (by kernel_rfl) (fun _ _ _ h => h) (by rfl) ?_ ?_; rotate_left 1; focus (intro w; go_simp; try with_reducible rfl))
                    try simp only [Act.put, List.setIfInBounds_toArray, List.set_cons_zero, List.set_cons_succ]
                    (refine wpAnyP_takeL (i := 15) (v := ?_) rfl (by kernel_rfl) (by kernel_rfl) (by kernel_rfl) (fun _ _ _ h => h) (by rfl) ?_ ?_; rotate_left 1; focus (intro w; go_simp; try with_reducible rfl))
                    try simp only [Act.put, List.setIfInBounds_toArray, List.set_cons_zero, List.set_cons_succ]
                    (refine wpAnyP_takeL (i := 16) (v := ?_) rfl (by kernel_rfl) (by kernel_rfl) (by kernel_rfl) (fun _ _ _ h => h) (by rfl) ?_ ?_; rotate_left 1; focus (intro w; go_simp; try with_reducible rfl))
                    try simp only [Act.put, List.setIfInBounds_toArray, List.set_cons_zero, List.set_cons_succ]
                    refine wpAnyP_done (by kernel_rfl) ?_ _
                    go_upto_region 18 with fail
                    refine wp_region_PL [2] (fun W' => W'.cell? ⟨bl, ol + 1, none⟩ = some (.int .i64 b')) rfl (by kernel_rfl) (u1) (fun hF0 => ?_)
                    (refine wpAnyP_takeL (i := 0) (v := ?_) rfl (by kernel_rfl) (by kernel_rfl) (by kernel_rfl) (fun _ _ _ h => h) (by rfl) ?_ ?_; rotate_left 1; focus (intro w; go_simp; try with_reducible rfl))
                    try simp only [Act.put, List.setIfInBounds_toArray, List.set_cons_zero, List.set_cons_succ]
                    (refine wpAnyP_takeL (i := 1) (v := ?_) rfl (by kernel_rfl) (by kernel_rfl) (by kernel_rfl) (fun _ _ _ h => h) (by rfl) ?_ ?_; rotate_left 1; focus (intro w; go_simp; try with_reducible rfl))
                    try simp only [Act.put, List.setIfInBounds_toArray, List.set_cons_zero, List.set_cons_succ]
                    (refine wpAnyP_loadL (i := 2) (v := ?_) rfl (by kernel_rfl) (by kernel_rfl) (by kernel_rfl) (by rfl) (fun _ _ _ h => h) hF0 (by rfl) ?_ ?_; rotate_left 1; focus (intro w hFw; (try dsimp only at hFw); go_split_ands; go_simp; try with_reducible rfl))
                    try simp only [Act.put, List.setIfInBounds_toArray, List.set_cons_zero, List.set_cons_succ]
                    (refine wpAnyP_takeL (i := 3) (v := ?_) rfl (by kernel_rfl) (by kernel_rfl) (by kernel_rfl) (fun _ _ _ h => h) (by rfl) ?_ ?_; rotate_left 1; focus (intro w; go_simp; try with_reducible rfl))
                    try simp only [Act.put, List.setIfInBounds_toArray, List.set_cons_zero, List.set_cons_succ]
                    (refine wpAnyP_takeL (i := 4) (v := ?_) rfl (by kernel_rfl) (by kernel_rfl) (by kernel_rfl) (fun _ _ _ h => h) (by rfl) ?_ ?_; rotate_left 1; focus (intro w; go_simp; try with_reducible rfl))
                    try simp only [Act.put, List.setIfInBounds_toArray, List.set_cons_zero, List.set_cons_succ]
                    refine wpAnyP_done (by kernel_rfl) ?_ _
                    have HRB3 := Lib.hid ((HRB2.out.last true b').drew).drew
                    have HSL3 := Lib.hid HSL2.out
                    clear u0 u1
                    go_wp2_with fail
                    go_roundw
                    case rel => exact ⟨k + 1, { q with en := true, se := b' }, A, c, by omega, by go_num, rfl, rfl, by show q.l.length ≤ k + 1; omega, HRN.out, HRB3.out, HSL3.out⟩
                    case measure => simp [intOf]; omega
                  · have hlb : (a == (q.l.length : Int)) = false := by rw [beq_eq_false_iff_ne]; exact hln
                    have HQ := Lib.hid (show res = none by rw [HRE.out]; simp [stepW, hen, hk0, he, at0, hln, wEnd, wDay, wSale])
                    have HRD := Lib.hid (show readT x = .no ((k : Int) + 1) 2 from readT_err (by omega) (by rw [← HLL.out, ← HR.out]; exact HRUN.out.trans (HSP.out (HRS.out.trans HQ.out))))
                    go_upto_region 17 with fail
                    refine wp_region_PL [10, 12] (fun W' => W'.cell? ⟨bl, ol, none⟩ = some (.int .i64 a) ∧ W'.cell? ⟨W.heap.size, 2, none⟩ = some (.slice A q.l.length c)) rfl (by kernel_rfl) (⟨u0, HRB2.out.hd.cell 2⟩) (fun hF0 => ?_)
                    (refine wpAnyP_takeL (i := 0) (v := ?_) rfl (by kernel_rfl) (by kernel_rfl) (by kernel_rfl) (fun _ _ _ h => h) (by rfl) ?_ ?_; rotate_left 1; focus (intro w; go_simp; try with_reducible rfl))
                    try simp only [Act.put, List.setIfInBounds_toArray, List.set_cons_zero, List.set_cons_succ]
                    (refine wpAnyP_takeL (i := 1) (v := ?_) rfl (by kernel_rfl) (by kernel_rfl) (by kernel_rfl) (fun _ _ _ h => h) (by rfl) ?_ ?_; rotate_left 1; focus (intro w; go_simp; try with_reducible rfl))
                    try simp only [Act.put, List.setIfInBounds_toArray, List.set_cons_zero, List.set_cons_succ]
                    (refine wpAnyP_takeL (i := 2) (v := ?_) rfl (by kernel_rfl) (by kernel_rfl) (by kernel_rfl) (fun _ _ _ h => h) (by rfl) ?_ ?_; rotate_left 1; focus (intro w; go_simp; try with_reducible rfl))
                    try simp only [Act.put, List.setIfInBounds_toArray, List.set_cons_zero, List.set_cons_succ]
                    (refine wpAnyP_takeL (i := 3) (v := ?_) rfl (by kernel_rfl) (by kernel_rfl) (by kernel_rfl) (fun _ _ _ h => h) (by rfl) ?_ ?_; rotate_left 1; focus (intro w; go_simp; try with_reducible rfl))
                    try simp only [Act.put, List.setIfInBounds_toArray, List.set_cons_zero, List.set_cons_succ]
                    (refine wpAnyP_takeL (i := 4) (v := ?_) rfl (by kernel_rfl) (by kernel_rfl) (by kernel_rfl) (fun _ _ _ h => h) (by rfl) ?_ ?_; rotate_left 1; focus (intro w; go_simp; try with_reducible rfl))
                    try simp only [Act.put, List.setIfInBounds_toArray, List.set_cons_zero, List.set_cons_succ]
                    (refine wpAnyP_takeL (i := 5) (v := ?_) rfl (by kernel_rfl) (by kernel_rfl) (by kernel_rfl) (fun _ _ _ h => h) (by rfl) ?_ ?_; rotate_left 1; focus (intro w; go_simp; try with_reducible rfl))
                    try simp only [Act.put, List.setIfInBounds_toArray, List.set_cons_zero, List.set_cons_succ]
                    (refine wpAnyP_takeL (i := 6) (v := ?_) rfl (by kernel_rfl) (by kernel_rfl) (by kernel_rfl) (fun _ _ _ h => h) (by rfl) ?_ ?_; rotate_left 1; focus (intro w; go_simp; try with_reducible rfl))
                    try simp only [Act.put, List.setIfInBounds_toArray, List.set_cons_zero, List.set_cons_succ]
                    (refine wpAnyP_takeL (i := 7) (v := ?_) rfl (by kernel_rfl) (by kernel_rfl) (by kernel_rfl) (fun _ _ _ h => h) (by rfl) ?_ ?_; rotate_left 1; focus (intro w; go_simp; try with_reducible rfl))
                    try simp only [Act.put, List.setIfInBounds_toArray, List.set_cons_zero, List.set_cons_succ]
                    (refine wpAnyP_takeL (i := 8) (v := ?_) rfl (by kernel_rfl) (by kernel_rfl) (by kernel_rfl) (fun _ _ _ h => h) (by rfl) ?_ ?_; rotate_left 1; focus (intro w; go_simp; try with_reducible rfl))
                    try simp only [Act.put, List.setIfInBounds_toArray, List.set_cons_zero, List.set_cons_succ]
                    (refine wpAnyP_takeL (i := 9) (v := ?_) rfl (by kernel_rfl) (by kernel_rfl) (by kernel_rfl) (fun _ _ _ h => h) (by rfl) ?_ ?_; rotate_left 1; focus (intro w; go_simp; try with_reducible rfl))
                    try simp only [Act.put, List.setIfInBounds_toArray, List.set_cons_zero, List.set_cons_succ]
                    (refine wpAnyP_loadL (i := 10) (v := ?_) rfl (by kernel_rfl) (by kernel_rfl) (by kernel_rfl) (by rfl) (fun _ _ _ h => h) hF0 (by rfl) ?_ ?_; rotate_left 1; focus (intro w hFw; (try dsimp only at hFw); go_split_ands; go_simp; try with_reducible rfl))
                    try simp only [Act.put, List.setIfInBounds_toArray, List.set_cons_zero, List.set_cons_succ]
                    (refine wpAnyP_takeL (i := 11) (v := ?_) rfl (by kernel_rfl) (by kernel_rfl) (by kernel_rfl) (fun _ _ _ h => h) (by rfl) ?_ ?_; rotate_left 1; focus (intro w; go_simp; try with_reducible rfl))
                    try simp only [Act.put, List.setIfInBounds_toArray, List.set_cons_zero, List.set_cons_succ]
                    (refine wpAnyP_loadL (i := 12) (v := ?_) rfl (by kernel_rfl) (by kernel_rfl) (by kernel_rfl) (by rfl) (fun _ _ _ h => h) hF0 (by rfl) ?_ ?_; rotate_left 1; focus (intro w hFw; (try dsimp only at hFw); go_split_ands; go_simp; try with_reducible rfl))
                    try simp only [Act.put, List.setIfInBounds_toArray, List.set_cons_zero, List.set_cons_succ]
                    (refine wpAnyP_takeL (i := 13) (v := ?_) rfl (by kernel_rfl) (by kernel_rfl) (by kernel_rfl) (fun _ _ _ h => h) (by rfl) ?_ ?_; rotate_left 1; focus (intro w; go_simp; try with_reducible rfl))
                    try simp only [Act.put, List.setIfInBounds_toArray, List.set_cons_zero, List.set_cons_succ]
                    (refine wpAnyP_takeL (i := 14) (v := ?_) rfl (by kernel_rfl) (by kernel_rfl) (by kernel_rfl) (fun _ _ _ h => h) (by rfl) ?_ ?_; rotate_left 1; focus (intro w; go_simp; try with_reducible rfl))
                    try simp only [Act.put, List.setIfInBounds_toArray, List.set_cons_zero, List.set_cons_succ]
                    (refine wpAnyP_takeL (i := 15) (v := ?_) rfl (by kernel_rfl) (by kernel_rfl) (by kernel_rfl) (fun _ _ _ h => h) (by rfl) ?_ ?_; rotate_left 1; focus (intro w; go_simp; try with_reducible rfl))
                    try simp only [Act.put, List.setIfInBounds_toArray, List.set_cons_zero, List.set_cons_succ]
                    (refine wpAnyP_takeL (i := 16) (v := ?_) rfl (by kernel_rfl) (by kernel_rfl) (by kernel_rfl) (fun _ _ _ h => h) (by rfl) ?_ ?_; rotate_left 1; focus (intro w; go_simp; try with_reducible rfl))
                    try simp only [Act.put, List.setIfInBounds_toArray, List.set_cons_zero, List.set_cons_succ]
                    refine wpAnyP_done (by kernel_rfl) ?_ _
                    have f0 := HRB2.out.hd.frozen 0
                    have f1 := HRB2.out.hd.frozen 1
                    have f2 := HRB2.out.hd.frozen 2
                    have c0 := HRB2.out.hd.cell 0
                    have c1 := HRB2.out.hd.cell 1
                    have c2 := HRB2.out.hd.cell 2
                    obtain ⟨hzb, hzk⟩ := HRB2.out.zero (.int .i64 0) (.int .i64 0) (.slice none 0 0)
                    have q0 := hzk.cell 0
                    have q1 := hzk.cell 1
                    have q2 := hzk.cell 2
                    have HZB := Lib.hid hzb
                    clear hzb hzk
                    go_wp2_with fail
                    refine bodyPost_ret (v := .tuple #[.agg #[.int .i64 0, .int .i64 0, .slice none 0 0], .int .i64 ((k : Int) + 1), .int .i64 (2)]) (by simp [results, Tryz.results11, go_sem, q0, q1, q2]; try omega) rfl ?_
                    rw [HRD.out]
                    exact ⟨none, 0, 0, rfl, Sl.nil _ _ _, HZB.out.drew⟩
                · have hl2 : ((l.length : Int) == 2) = false := by rw [beq_eq_false_iff_ne]; omega
                  have HQ := Lib.hid (show res = none by rw [HRE.out]; simp [stepW, hen, hk0, hd, hs, h2])
                  have HRD := Lib.hid (show readT x = .no ((k : Int) + 1) 2 from readT_err (by omega) (by rw [← HLL.out, ← HR.out]; exact HRUN.out.trans (HSP.out (HRS.out.trans HQ.out))))
                  go_upto_region 17 with fail
                  refine wp_region_PL [] (fun _ => True) rfl (by kernel_rfl) (trivial) (fun hF0 => ?_)
                  (refine wpAnyP_takeL (i := 0) (v := ?_) rfl (by kernel_rfl) (by kernel_rfl) (by kernel_rfl) (fun _ _ _ h => h) (by rfl) ?_ ?_; rotate_left 1; focus (intro w; go_simp; try with_reducible rfl))
                  try simp only [Act.put, List.setIfInBounds_toArray, List.set_cons_zero, List.set_cons_succ]
                  (refine wpAnyP_takeL (i := 1) (v := ?_) rfl (by kernel_rfl) (by kernel_rfl) (by kernel_rfl) (fun _ _ _ h => h) (by rfl) ?_ ?_; rotate_left 1; focus (intro w; go_simp; try with_reducible rfl))
                  try simp only [Act.put, List.setIfInBounds_toArray, List.set_cons_zero, List.set_cons_succ]
                  (refine wpAnyP_takeL (i := 2) (v := ?_) rfl (by kernel_rfl) (by kernel_rfl) (by kernel_rfl) (fun _ _ _ h => h) (by rfl) ?_ ?_; rotate_left 1; focus (intro w; go_simp; try with_reducible rfl))
                  try simp only [Act.put, List.setIfInBounds_toArray, List.set_cons_zero, List.set_cons_succ]
                  (refine wpAnyP_takeL (i := 3) (v := ?_) rfl (by kernel_rfl) (by kernel_rfl) (by kernel_rfl) (fun _ _ _ h => h) (by rfl) ?_ ?_; rotate_left 1; focus (intro w; go_simp; try with_reducible rfl))
                  try simp only [Act.put, List.setIfInBounds_toArray, List.set_cons_zero, List.set_cons_succ]
                  (refine wpAnyP_takeL (i := 4) (v := ?_) rfl (by kernel_rfl) (by kernel_rfl) (by kernel_rfl) (fun _ _ _ h => h) (by rfl) ?_ ?_; rotate_left 1; focus (intro w; go_simp; try with_reducible rfl))
                  try simp only [Act.put, List.setIfInBounds_toArray, List.set_cons_zero, List.set_cons_succ]
                  (refine wpAnyP_takeL (i := 5) (v := ?_) rfl (by kernel_rfl) (by kernel_rfl) (by kernel_rfl) (fun _ _ _ h => h) (by rfl) ?_ ?_; rotate_left 1; focus (intro w; go_simp; try with_reducible rfl))
                  try simp only [Act.put, List.setIfInBounds_toArray, List.set_cons_zero, List.set_cons_succ]
                  (refine wpAnyP_takeL (i := 6) (v := ?_) rfl (by kernel_rfl) (by kernel_rfl) (by kernel_rfl) (fun _ _ _ h => h) (by rfl) ?_ ?_; rotate_left 1; focus (intro w; go_simp; try with_reducible rfl))
                  try simp only [Act.put, List.setIfInBounds_toArray, List.set_cons_zero, List.set_cons_succ]
                  (refine wpAnyP_takeL (i := 7) (v := ?_) rfl (by kernel_rfl) (by kernel_rfl) (by kernel_rfl) (fun _ _ _ h => h) (by rfl) ?_ ?_; rotate_left 1; focus (intro w; go_simp; try with_reducible rfl))
                  try simp only [Act.put, List.setIfInBounds_toArray, List.set_cons_zero, List.set_cons_succ]
                  (refine wpAnyP_skipL (i := 8) rfl (by kernel_rfl) (by kernel_rfl) (by kernel_rfl) (fun _ _ _ h => h) (by rfl) ?_)
                  try simp only [Act.put, List.setIfInBounds_toArray, List.set_cons_zero, List.set_cons_succ]
                  (refine wpAnyP_skipL (i := 9) rfl (by kernel_rfl) (by kernel_rfl) (by kernel_rfl) (fun _ _ _ h => h) (by rfl) ?_)
                  try simp only [Act.put, List.setIfInBounds_toArray, List.set_cons_zero, List.set_cons_succ]
                  (refine wpAnyP_skipL (i := 10) rfl (by kernel_rfl) (by kernel_rfl) (by kernel_rfl) (fun _ _ _ h => h) (by rfl) ?_)
                  try simp only [Act.put, List.setIfInBounds_toArray, List.set_cons_zero, List.set_cons_succ]
                  (refine wpAnyP_skipL (i := 11) rfl (by kernel_rfl) (by kernel_rfl) (by kernel_rfl) (fun _ _ _ h => h) (by rfl) ?_)
                  try simp only [Act.put, List.setIfInBounds_toArray, List.set_cons_zero, List.set_cons_succ]
                  (refine wpAnyP_skipL (i := 12) rfl (by kernel_rfl) (by kernel_rfl) (by kernel_rfl) (fun _ _ _ h => h) (by rfl) ?_)
                  try simp only [Act.put, List.setIfInBounds_toArray, List.set_cons_zero, List.set_cons_succ]
                  (refine wpAnyP_skipL (i := 13) rfl (by kernel_rfl) (by kernel_rfl) (by kernel_rfl) (fun _ _ _ h => h) (by rfl) ?_)
                  try simp only [Act.put, List.setIfInBounds_toArray, List.set_cons_zero, List.set_cons_succ]
                  (refine wpAnyP_skipL (i := 14) rfl (by kernel_rfl) (by kernel_rfl) (by kernel_rfl) (fun _ _ _ h => h) (by rfl) ?_)
                  try simp only [Act.put, List.setIfInBounds_toArray, List.set_cons_zero, List.set_cons_succ]
                  (refine wpAnyP_takeL (i := 15) (v := ?_) rfl (by kernel_rfl) (by kernel_rfl) (by kernel_rfl) (fun _ _ _ h => h) (by rfl) ?_ ?_; rotate_left 1; focus (intro w; go_simp; try with_reducible rfl))
                  try simp only [Act.put, List.setIfInBounds_toArray, List.set_cons_zero, List.set_cons_succ]
                  (refine wpAnyP_takeL (i := 16) (v := ?_) rfl (by kernel_rfl) (by kernel_rfl) (by kernel_rfl) (fun _ _ _ h => h) (by rfl) ?_ ?_; rotate_left 1; focus (intro w; go_simp; try with_reducible rfl))
                  try simp only [Act.put, List.setIfInBounds_toArray, List.set_cons_zero, List.set_cons_succ]
                  refine wpAnyP_done (by kernel_rfl) ?_ _
                  have f0 := HRB2.out.hd.frozen 0
                  have f1 := HRB2.out.hd.frozen 1
                  have f2 := HRB2.out.hd.frozen 2
                  have c0 := HRB2.out.hd.cell 0
                  have c1 := HRB2.out.hd.cell 1
                  have c2 := HRB2.out.hd.cell 2
                  obtain ⟨hzb, hzk⟩ := HRB2.out.zero (.int .i64 0) (.int .i64 0) (.slice none 0 0)
                  have q0 := hzk.cell 0
                  have q1 := hzk.cell 1
                  have q2 := hzk.cell 2
                  have HZB := Lib.hid hzb
                  clear hzb hzk
                  go_wp2_with fail
                  refine bodyPost_ret (v := .tuple #[.agg #[.int .i64 0, .int .i64 0, .slice none 0 0], .int .i64 ((k : Int) + 1), .int .i64 (2)]) (by simp [results, Tryz.results11, go_sem, q0, q1, q2]; try omega) rfl ?_
                  rw [HRD.out]
                  exact ⟨none, 0, 0, rfl, Sl.nil _ _ _, HZB.out.drew⟩
              · rw [decide_eq_false he] at hwe
                have HQ := Lib.hid (show res = none by rw [HRE.out]; simp [stepW, hen, hk0, hd, hs, he])
                have HRD := Lib.hid (show readT x = .no ((k : Int) + 1) 2 from readT_err (by omega) (by rw [← HLL.out, ← HR.out]; exact HRUN.out.trans (HSP.out (HRS.out.trans HQ.out))))
                go_upto_region 17 with fail
                refine wp_region_PL [] (fun _ => True) rfl (by kernel_rfl) (trivial) (fun hF0 => ?_)
                (refine wpAnyP_takeL (i := 0) (v := ?_) rfl (by kernel_rfl) (by kernel_rfl) (by kernel_rfl) (fun _ _ _ h => h) (by rfl) ?_ ?_; rotate_left 1; focus (intro w; go_simp; try with_reducible rfl))
                try simp only [Act.put, List.setIfInBounds_toArray, List.set_cons_zero, List.set_cons_succ]
                (refine wpAnyP_takeL (i := 1) (v := ?_) rfl (by kernel_rfl) (by kernel_rfl) (by kernel_rfl) (fun _ _ _ h => h) (by rfl) ?_ ?_; rotate_left 1; focus (intro w; go_simp; try with_reducible rfl))
                try simp only [Act.put, List.setIfInBounds_toArray, List.set_cons_zero, List.set_cons_succ]
                (refine wpAnyP_takeL (i := 2) (v := ?_) rfl (by kernel_rfl) (by kernel_rfl) (by kernel_rfl) (fun _ _ _ h => h) (by rfl) ?_ ?_; rotate_left 1; focus (intro w; go_simp; try with_reducible rfl))
                try simp only [Act.put, List.setIfInBounds_toArray, List.set_cons_zero, List.set_cons_succ]
                (refine wpAnyP_skipL (i := 3) rfl (by kernel_rfl) (by kernel_rfl) (by kernel_rfl) (fun _ _ _ h => h) (by rfl) ?_)
                try simp only [Act.put, List.setIfInBounds_toArray, List.set_cons_zero, List.set_cons_succ]
                (refine wpAnyP_skipL (i := 4) rfl (by kernel_rfl) (by kernel_rfl) (by kernel_rfl) (fun _ _ _ h => h) (by rfl) ?_)
                try simp only [Act.put, List.setIfInBounds_toArray, List.set_cons_zero, List.set_cons_succ]
                (refine wpAnyP_skipL (i := 5) rfl (by kernel_rfl) (by kernel_rfl) (by kernel_rfl) (fun _ _ _ h => h) (by rfl) ?_)
                try simp only [Act.put, List.setIfInBounds_toArray, List.set_cons_zero, List.set_cons_succ]
                (refine wpAnyP_takeL (i := 6) (v := ?_) rfl (by kernel_rfl) (by kernel_rfl) (by kernel_rfl) (fun _ _ _ h => h) (by rfl) ?_ ?_; rotate_left 1; focus (intro w; go_simp; try with_reducible rfl))
                try simp only [Act.put, List.setIfInBounds_toArray, List.set_cons_zero, List.set_cons_succ]
                (refine wpAnyP_takeL (i := 7) (v := ?_) rfl (by kernel_rfl) (by kernel_rfl) (by kernel_rfl) (fun _ _ _ h => h) (by rfl) ?_ ?_; rotate_left 1; focus (intro w; go_simp; try with_reducible rfl))
                try simp only [Act.put, List.setIfInBounds_toArray, List.set_cons_zero, List.set_cons_succ]
                (refine wpAnyP_skipL (i := 8) rfl (by kernel_rfl) (by kernel_rfl) (by kernel_rfl) (fun _ _ _ h => h) (by rfl) ?_)
                try simp only [Act.put, List.setIfInBounds_toArray, List.set_cons_zero, List.set_cons_succ]
                (refine wpAnyP_skipL (i := 9) rfl (by kernel_rfl) (by kernel_rfl) (by kernel_rfl) (fun _ _ _ h => h) (by rfl) ?_)
                try simp only [Act.put, List.setIfInBounds_toArray, List.set_cons_zero, List.set_cons_succ]
                (refine wpAnyP_skipL (i := 10) rfl (by kernel_rfl) (by kernel_rfl) (by kernel_rfl) (fun _ _ _ h => h) (by rfl) ?_)
                try simp only [Act.put, List.setIfInBounds_toArray, List.set_cons_zero, List.set_cons_succ]
                (refine wpAnyP_skipL (i := 11) rfl (by kernel_rfl) (by kernel_rfl) (by kernel_rfl) (fun _ _ _ h => h) (by rfl) ?_)
                try simp only [Act.put, List.setIfInBounds_toArray, List.set_cons_zero, List.set_cons_succ]
                (refine wpAnyP_skipL (i := 12) rfl (by kernel_rfl) (by kernel_rfl) (by kernel_rfl) (fun _ _ _ h => h) (by rfl) ?_)
                try simp only [Act.put, List.setIfInBounds_toArray, List.set_cons_zero, List.set_cons_succ]
                (refine wpAnyP_skipL (i := 13) rfl (by kernel_rfl) (by kernel_rfl) (by kernel_rfl) (fun _ _ _ h => h) (by rfl) ?_)
                try simp only [Act.put, List.setIfInBounds_toArray, List.set_cons_zero, List.set_cons_succ]
                (refine wpAnyP_skipL (i := 14) rfl (by kernel_rfl) (by kernel_rfl) (by kernel_rfl) (fun _ _ _ h => h) (by rfl) ?_)
                try simp only [Act.put, List.setIfInBounds_toArray, List.set_cons_zero, List.set_cons_succ]
                (refine wpAnyP_takeL (i := 15) (v := ?_) rfl (by kernel_rfl) (by kernel_rfl) (by kernel_rfl) (fun _ _ _ h => h) (by rfl) ?_ ?_; rotate_left 1; focus (intro w; go_simp; try with_reducible rfl))
                try simp only [Act.put, List.setIfInBounds_toArray, List.set_cons_zero, List.set_cons_succ]
                (refine wpAnyP_takeL (i := 16) (v := ?_) rfl (by kernel_rfl) (by kernel_rfl) (by kernel_rfl) (fun _ _ _ h => h) (by rfl) ?_ ?_; rotate_left 1; focus (intro w; go_simp; try with_reducible rfl))
                try simp only [Act.put, List.setIfInBounds_toArray, List.set_cons_zero, List.set_cons_succ]
                refine wpAnyP_done (by kernel_rfl) ?_ _
                have f0 := HRB2.out.hd.frozen 0
                have f1 := HRB2.out.hd.frozen 1
                have f2 := HRB2.out.hd.frozen 2
                have c0 := HRB2.out.hd.cell 0
                have c1 := HRB2.out.hd.cell 1
                have c2 := HRB2.out.hd.cell 2
                obtain ⟨hzb, hzk⟩ := HRB2.out.zero (.int .i64 0) (.int .i64 0) (.slice none 0 0)
                have q0 := hzk.cell 0
                have q1 := hzk.cell 1
                have q2 := hzk.cell 2
                have HZB := Lib.hid hzb
                clear hzb hzk
                go_wp2_with fail
                refine bodyPost_ret (v := .tuple #[.agg #[.int .i64 0, .int .i64 0, .slice none 0 0], .int .i64 ((k : Int) + 1), .int .i64 (2)]) (by simp [results, Tryz.results11, go_sem, q0, q1, q2]; try omega) rfl ?_
                rw [HRD.out]
                exact ⟨none, 0, 0, rfl, Sl.nil _ _ _, HZB.out.drew⟩
      · clear hwd hws hwe
        have HQ := Lib.hid (show res = none by rw [HRE.out]; simp [stepW, hen])
        have HRD := Lib.hid (show readT x = .no ((k : Int) + 1) 2 from readT_err (by omega) (by rw [← HLL.out, ← HR.out]; exact HRUN.out.trans (HSP.out (HRS.out.trans HQ.out))))
        have f0 := HRB2.out.hd.frozen 0
        have f1 := HRB2.out.hd.frozen 1
        have f2 := HRB2.out.hd.frozen 2
        have c0 := HRB2.out.hd.cell 0
        have c1 := HRB2.out.hd.cell 1
        have c2 := HRB2.out.hd.cell 2
        obtain ⟨hzb, hzk⟩ := HRB2.out.zero (.int .i64 0) (.int .i64 0) (.slice none 0 0)
        have q0 := hzk.cell 0
        have q1 := hzk.cell 1
        have q2 := hzk.cell 2
        have HZB := Lib.hid hzb
        clear hzb hzk
        go_wp2_with fail
        refine bodyPost_ret (v := .tuple #[.agg #[.int .i64 0, .int .i64 0, .slice none 0 0], .int .i64 ((k : Int) + 1), .int .i64 (2)]) (by simp [results, Tryz.results11, go_sem, q0, q1, q2]; try omega) rfl ?_
        rw [HRD.out]
        exact ⟨none, 0, 0, rfl, Sl.nil _ _ _, HZB.out⟩
    · have hkR : k = R.length := by omega
      have hrn : runR 0 .init R = .inl q := by
        have h9 := HRUN.out
        rw [List.drop_of_length_le (by omega)] at h9
        exact h9
      have HRN := Lib.hid (show runR 0 .init ((splitT 10 x).take ((splitT 10 x).length - 1)) = .inl q by rw [← HLL.out, ← HR.out]; exact hrn)
      have hlast : L.length - 1 < L.length := by omega
      obtain ⟨o, ho, hgw, hcy⟩ := HSL.out.atT hlast
      obtain rfl : 0 = o := by injection ho with h; injection h
      simp only [Nat.zero_add] at hcy
      have HLA := Lib.hid (show (splitT 10 x).getD ((splitT 10 x).length - 1) [] = L[L.length - 1] by rw [← HLL.out, List.getD_eq_getElem?_getD, List.getElem?_eq_getElem hlast]; rfl)
      have HX3 := Lib.hid (show x.length ≤ 3000 by omega)
      generalize L[L.length - 1] = y at hcy HLA
      obtain ⟨sy, hsy⟩ : ∃ sy : ByteArray, sy = ⟨y.toArray⟩ := ⟨_, rfl⟩
      have hye := word_eq y []
      rw [← hsy] at hcy hye
      have HLX := Lib.hid (show ((splitT 10 x).length : Int) = (L.length : Int) - 1 + 1 by rw [← HLL.out]; omega)
      clear hsy ho hrn hgw
      cases hen : q.en
      · have HRD := Lib.hid (show readT x = .no (L.length : Int) 2 by rw [readT_open HX3.out HRN.out (.inl hen), ← HLL.out])
        have f0 := HRB.out.hd.frozen 0
        have f1 := HRB.out.hd.frozen 1
        have f2 := HRB.out.hd.frozen 2
        have c0 := HRB.out.hd.cell 0
        have c1 := HRB.out.hd.cell 1
        have c2 := HRB.out.hd.cell 2
        obtain ⟨hzb, hzk⟩ := HRB.out.zero (.int .i64 0) (.int .i64 0) (.slice none 0 0)
        have q0 := hzk.cell 0
        have q1 := hzk.cell 1
        have q2 := hzk.cell 2
        have HZB := Lib.hid hzb
        clear hzb hzk
        go_wp2_with fail
        refine bodyPost_ret (v := .tuple #[.agg #[.int .i64 0, .int .i64 0, .slice none 0 0], .int .i64 ((L.length : Int)), .int .i64 (2)]) (by simp [results, Tryz.results11, go_sem, q0, q1, q2]; try omega) rfl ?_
        rw [HRD.out]
        exact ⟨none, 0, 0, rfl, Sl.nil _ _ _, HZB.out⟩
      · by_cases hy0 : y = []
        · have hyb : (sy.toList == []) = true := by rw [hye, decide_eq_true hy0]
          have HNE := Lib.hid (show ¬ (q.en = false ∨ (splitT 10 x).getD ((splitT 10 x).length - 1) [] ≠ []) by rw [HLA.out, hen]; simp [hy0])
          obtain ⟨b', hb', hSq⟩ := Sl.of_own encS_len rfl HRB.out.row
          have HSQ := Lib.hid hSq
          have e0 := HRB.out.hd.cell 0
          have e1 := HRB.out.hd.cell 1
          have e2 := HRB.out.hd.cell 2
          obtain ⟨ce, hce⟩ : ∃ z, z = check q.st q.gd q.l := ⟨_, rfl⟩
          clear hSq
          go_wp2_with fail
          refine (check_any q.st q.gd b' q.l.length c A q.l _ HSQ.out (by omega)).mono ?_
          rw [← hce]
          rintro e w2 ⟨rfl, hB2⟩
          have HRB2 := Lib.hid (HRB.out.below hB2)
          have HSQ2 := Lib.hid (HSQ.out.old hB2)
          clear hB2 e0 e1 e2 hcy
          by_cases hc : ce = 0
          · have hin := check_zero.1 (hce.symm.trans hc)
            have HIN := Lib.hid hin
            obtain ⟨sq, hsq⟩ : ∃ z, z = sealOf q.st q.gd q.l := ⟨_, rfl⟩
            have e0 := HRB2.out.hd.cell 0
            have e1 := HRB2.out.hd.cell 1
            have e2 := HRB2.out.hd.cell 2
            have HCE := Lib.hid (hce.symm.trans hc)
            clear hin hce
            subst hc
            go_wp2_with fail
            refine (sealOf_any q.st q.gd b' q.l.length c A q.l _ HSQ2.out HIN.out).mono ?_
            rw [← hsq]
            rintro e w3 ⟨rfl, hB3⟩
            have HRB3 := Lib.hid (HRB2.out.below hB3)
            have HSQ3 := Lib.hid (HSQ2.out.old hB3)
            clear hB3 e0 e1 e2
            by_cases hs : sq = q.se
            · have hsb : (sq != q.se) = false := by rw [hs]; simp
              have HRD := Lib.hid (show readT x = ⟨q.st, q.gd, q.l, 0, 0⟩ from readT_ok HX3.out HRN.out HNE.out HCE.out (hsq.symm.trans hs))
              have HS9 := Lib.hid (HSQ3.out.store3 (B := W.heap.size) (fun _ => by have := HRB.out.hi; omega) (.int .i64 q.st) (.int .i64 q.gd) (.slice A q.l.length c))
              clear hsq
              have f0 := HRB3.out.hd.frozen 0
              have f1 := HRB3.out.hd.frozen 1
              have f2 := HRB3.out.hd.frozen 2
              have c0 := HRB3.out.hd.cell 0
              have c1 := HRB3.out.hd.cell 1
              have c2 := HRB3.out.hd.cell 2
              obtain ⟨hzb, hzk⟩ := HRB3.out.zero (.int .i64 q.st) (.int .i64 q.gd) (.slice A q.l.length c)
              have q0 := hzk.cell 0
              have q1 := hzk.cell 1
              have q2 := hzk.cell 2
              have HZB := Lib.hid hzb
              clear hzb hzk
              go_wp2_with fail
              refine bodyPost_ret (v := .tuple #[.agg #[.int .i64 q.st, .int .i64 q.gd, .slice A q.l.length c], .int .i64 0, .int .i64 0]) (by simp [results, Tryz.results11, go_sem, q0, q1, q2]; try omega) rfl ?_
              rw [HRD.out]
              exact ⟨A, c, b', rfl, HS9.out, HZB.out⟩
            · have hsb : (sq != q.se) = true := by simpa using hs
              have HRD := Lib.hid (show readT x = .no 0 14 from readT_seal HX3.out HRN.out HNE.out HCE.out (fun h => hs (hsq.trans h)))
              clear hsq
              have f0 := HRB3.out.hd.frozen 0
              have f1 := HRB3.out.hd.frozen 1
              have f2 := HRB3.out.hd.frozen 2
              have c0 := HRB3.out.hd.cell 0
              have c1 := HRB3.out.hd.cell 1
              have c2 := HRB3.out.hd.cell 2
              obtain ⟨hzb, hzk⟩ := HRB3.out.zero (.int .i64 0) (.int .i64 0) (.slice none 0 0)
              have q0 := hzk.cell 0
              have q1 := hzk.cell 1
              have q2 := hzk.cell 2
              have HZB := Lib.hid hzb
              clear hzb hzk
              go_wp2_with fail
              refine bodyPost_ret (v := .tuple #[.agg #[.int .i64 0, .int .i64 0, .slice none 0 0], .int .i64 (0), .int .i64 (14)]) (by simp [results, Tryz.results11, go_sem, q0, q1, q2]; try omega) rfl ?_
              rw [HRD.out]
              exact ⟨none, 0, 0, rfl, Sl.nil _ _ _, HZB.out⟩
          · have hcb : (ce != 0) = true := by simpa using hc
            have HRD := Lib.hid (show readT x = .no 0 ce by rw [hce]; exact readT_bad HX3.out HRN.out HNE.out (fun h => hc (hce.trans h)))
            clear hce
            have f0 := HRB2.out.hd.frozen 0
            have f1 := HRB2.out.hd.frozen 1
            have f2 := HRB2.out.hd.frozen 2
            have c0 := HRB2.out.hd.cell 0
            have c1 := HRB2.out.hd.cell 1
            have c2 := HRB2.out.hd.cell 2
            obtain ⟨hzb, hzk⟩ := HRB2.out.zero (.int .i64 0) (.int .i64 0) (.slice none 0 0)
            have q0 := hzk.cell 0
            have q1 := hzk.cell 1
            have q2 := hzk.cell 2
            have HZB := Lib.hid hzb
            clear hzb hzk
            go_wp2_with fail
            refine bodyPost_ret (v := .tuple #[.agg #[.int .i64 0, .int .i64 0, .slice none 0 0], .int .i64 (0), .int .i64 (ce)]) (by simp [results, Tryz.results11, go_sem, q0, q1, q2]; try omega) rfl ?_
            rw [HRD.out]
            exact ⟨none, 0, 0, rfl, Sl.nil _ _ _, HZB.out⟩
        · have hyb : (sy.toList == []) = false := by rw [hye, decide_eq_false hy0]
          have HRD := Lib.hid (show readT x = .no (L.length : Int) 2 by rw [readT_open HX3.out HRN.out (.inr (by rw [HLA.out]; exact hy0)), ← HLL.out])
          have f0 := HRB.out.hd.frozen 0
          have f1 := HRB.out.hd.frozen 1
          have f2 := HRB.out.hd.frozen 2
          have c0 := HRB.out.hd.cell 0
          have c1 := HRB.out.hd.cell 1
          have c2 := HRB.out.hd.cell 2
          obtain ⟨hzb, hzk⟩ := HRB.out.zero (.int .i64 0) (.int .i64 0) (.slice none 0 0)
          have q0 := hzk.cell 0
          have q1 := hzk.cell 1
          have q2 := hzk.cell 2
          have HZB := Lib.hid hzb
          clear hzb hzk
          go_wp2_with fail
          refine bodyPost_ret (v := .tuple #[.agg #[.int .i64 0, .int .i64 0, .slice none 0 0], .int .i64 ((L.length : Int)), .int .i64 (2)]) (by simp [results, Tryz.results11, go_sem, q0, q1, q2]; try omega) rfl ?_
          rw [HRD.out]
          exact ⟨none, 0, 0, rfl, Sl.nil _ _ _, HZB.out⟩
end Go.Proofs.YtjmppionedcfeaaGreatDoor
