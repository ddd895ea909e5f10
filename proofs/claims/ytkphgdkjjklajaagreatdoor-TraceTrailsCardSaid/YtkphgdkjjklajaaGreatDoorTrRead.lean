/-
  trace.Read: what is read of a trail.
-/
import Derived.Test.YtkphgdkjjklajaaGreatDoorTrReadKit
set_option linter.unusedVariables false
set_option linter.unusedSimpArgs false
namespace Go.Proofs.YtkphgdkjjklajaaGreatDoor
open Go.RowKit

theorem Sl.dropN {w : World} {b n : Nat} {a : List UInt8} {l : List (List UInt8)} (h : Sl encT 1 w b (some ⟨b, 0, none⟩) n (a :: l)) : Sl encT 1 w b (some ⟨b, 1, none⟩) (n - 1) l := by
  have hl := h.len
  simp only [List.length_cons] at hl
  refine ⟨by omega, fun hn => ?_⟩
  obtain ⟨o, ho, hz, hc⟩ := h.2 (by omega)
  obtain rfl : 0 = o := by injection ho with h; injection h
  refine ⟨1, rfl, hz, fun k hk j u hu => ?_⟩
  have := hc (k + 1) (by simp; omega) j u (by simpa using hu)
  rw [show 1 + k * 1 + j = 0 + (k + 1) * 1 + j by omega]
  exact this
theorem splitN_len (c : UInt8) : ∀ (s y : List UInt8), y ∈ splitT c s → y.length ≤ s.length
  | [], y, h => by simp [splitT] at h; simp [h]
  | x :: r, y, h => by
    unfold splitT at h
    have ih := splitN_len c r
    split at h
    · rcases List.mem_cons.1 h with rfl | h
      · simp
      · have := ih y h; simp; omega
    · split at h
      · simp at h; simp [h]
      · rename_i a t ht
        rw [ht] at ih
        rcases List.mem_cons.1 h with rfl | h
        · have := ih a List.mem_cons_self; simp; omega
        · have := ih y (List.mem_cons_of_mem _ h); simp; omega
theorem splitN_many (c : UInt8) : ∀ (s : List UInt8), (splitT c s).length ≤ s.length + 1
  | [] => by simp [splitT]
  | x :: r => by
    unfold splitT
    have ih := splitN_many c r
    split
    · simp; omega
    · split
      · simp
      · rename_i a t ht
        rw [ht] at ih
        simp at ih ⊢
        omega

theorem cellN {W W' : World} {g i : Nat} {v : Value} (h : W.cell? ⟨g, i, none⟩ = some v) (hb : Below W.heap.size W W') : W'.cell? ⟨g, i, none⟩ = some v := cell_old h hb
theorem cell_grownN {W W' : World} {b o : Nat} {u : Value} {row : Option Nat} (h : W.cell? ⟨b, o, none⟩ = some u) (hg : W.grownBy W' row) (hne : some b ≠ row) : W'.cell? ⟨b, o, none⟩ = some u := by
  rw [← h]
  unfold World.cell?
  rw [hg.block b (Lib.lt_of_cell h) hne]
theorem own_capN {W : World} {base n c sz : Nat} {e : TypeId} {A : Option Addr} {xs : List Value} (h : W.ownsRow base e sz (.slice A n c) n xs) : n ≤ c := by
  rcases h.2 with ⟨hv, hz⟩ | ⟨g, cap, cur, hv, hb, hg, h1, h2, h3, h4⟩
  · omega
  · injection hv with _ _ hv; omega
set_option maxRecDepth 100000 in
set_option maxHeartbeats 4000000 in
theorem tread_any (s : ByteArray) (W : World) (hT : TEnv W) : Calls Tryz.prog 12 #[.string s] W (ReadNPost (readN s.data.toList) W) := by
  have HT := Lib.hid hT
  have hlen := bytes_len s
  obtain ⟨x, hx⟩ : ∃ x, x = s.data.toList := ⟨_, rfl⟩
  rw [← hx] at hlen ⊢
  have HXX := Lib.hid hx
  have h0 := Blk.new W 25 #[.slice none 0 0, .slice none 0 0]
  have B0 : Below W.heap.size W (W.alloc (.cells #[.slice none 0 0, .slice none 0 0] 25)) := by go_grown
  clear hx
  by_cases h3 : 1500 < s.size
  · have HR := Lib.hid (show readN x = .no 0 10 from if_pos (by omega))
    have hb : decide ((1500 : Int) < (s.size : Int)) = true := by simp; omega
    have HB0 := Lib.hid B0
    have HH := Lib.hid h0
    clear h3 hlen B0 h0
    have q0 := HH.out.cell 0
    have q1 := HH.out.cell 1
    go_enter Tryz.func12, Tryz.ntmps12
    go_wp2_with fail
    refine bodyPost_ret (v := .tuple #[.agg #[.slice none 0 0, .slice none 0 0], .int .i64 0, .int .i64 10]) (by simp [results, Tryz.results12, go_sem, q0, q1]; try omega) rfl ?_
    rw [HR.out]
    exact ⟨none, none, 0, 0, 0, 0, rfl, ⟨Sl.nil _ _ _, Sl.nil _ _ _, Nat.le_refl _, Nat.le_refl _⟩, HB0.out⟩
  have hb : decide ((1500 : Int) < (s.size : Int)) = false := by simp; omega
  have HB0 := Lib.hid B0
  have HH := Lib.hid h0
  have hs3 : s.size ≤ 1500 := by omega
  clear h3 B0 h0
  obtain ⟨im, him, jz0, jz1, jz2⟩ := info_parts info_moveN
  obtain ⟨i0, hi, iz0, iz1, iz2⟩ := info_parts info_int
  go_enter Tryz.func12, Tryz.ntmps12
  go_wp2_with fail
  refine (split_any 10 s _ (HT.out.old HB0.out) (by omega)).mono ?_
  rw [← HXX.out]
  obtain ⟨L, hL⟩ : ∃ L, L = splitT 10 x := ⟨_, rfl⟩
  rw [← hL]
  have hLn : L ≠ [] := by rw [hL]; exact splitT_ne 10 x
  have hL1 : 1 ≤ L.length := List.length_pos_iff.2 hLn
  have hLm : L.length ≤ 1501 := by have := splitN_many 10 x; rw [hL]; omega
  have HLL := Lib.hid hL
  rintro e w1 ⟨g, rfl, hg, hS, hB⟩
  have hzw := HB0.out.size
  simp only [World.size_alloc] at hg
  have hz1 := hB.size
  simp only [World.size_alloc] at hz1
  have HR0 := Lib.hid (show RN W W.heap.size w1.heap.size .init none none 0 0 w1.heap.size w1 from ⟨HB0.out.trans (hB.mono hzw), HH.out.below hB HH.out.lt, World.ownsRow_nil _ _ _ _, World.ownsRow_nil _ _ _ _, fun g e => (by cases e), ⟨Nat.le_refl _, by omega, Nat.le_refl _, Nat.le_refl _⟩, fun _ => ⟨rfl, rfl⟩⟩)
  have hgz := hS.lt hL1
  have HS := Lib.hid hS
  have il : (1 : Int) ≤ (L.length : Int) := by omega
  have HY := Lib.hid (fun y (hy : y ∈ L) => (show y.length ≤ 1500 by have h5 := splitN_len 10 x y (by rw [← HLL.out]; exact hy); omega))
  obtain ⟨R, hR⟩ : ∃ R, R = L.take (L.length - 1) := ⟨_, rfl⟩
  have hRl : R.length = L.length - 1 := by rw [hR, List.length_take]; omega
  have HR := Lib.hid hR
  have iL : ((L.length - 1 : Nat) : Int) = (L.length : Int) - 1 := by omega
  clear hB hS HB0 hL hR HH
  go_wp2_with fail
  go_loopw [7, 31] (fun en i wr => ∃ (k : Nat) (q : NS) (Ab Am : Option Addr) (cb cm b2 : Nat), k ≤ R.length ∧ i = .int .i64 k ∧ en = .bool q.en ∧ q.bs.length + q.ms.length ≤ k ∧ runN 0 .init R = runN k q (R.drop k) ∧ RN W W.heap.size w1.heap.size q Ab Am cb cm b2 wr ∧ Sl encT 1 wr g (some ⟨g, 0, none⟩) L.length L) (fun _ i _ => R.length - (intOf i).toNat)
  case atStart => exact ⟨0, .init, none, none, 0, 0, w1.heap.size, Nat.zero_le _, rfl, rfl, Nat.le_refl _, rfl, HR0.out, HS.out⟩
  case round =>
    obtain ⟨k, q, Ab, Am, cb, cm, b2, hk, rfl, rfl, hql, hrun, hrb, hsl⟩ := hrel
    have HRUN := Lib.hid hrun
    have HRB := Lib.hid hrb
    have HSL := Lib.hid hsl
    have hzr := hrb.lo
    clear hrun hrb hsl HR0 HS
    by_cases hlt : k < R.length
    · have hkL : k < L.length := by omega
      obtain ⟨o, ho, hgw, hcy⟩ := HSL.out.atT hkL
      obtain rfl : 0 = o := by injection ho with h; injection h
      simp only [Nat.zero_add] at hcy
      have hyl := HY.out L[k] (List.getElem_mem hkL)
      have HRK := Lib.hid (show R[k] = L[k] by have h9 := HR.out; subst h9; exact List.getElem_take)
      have HST := Lib.hid (fun q' => runN_step (s := q) (s' := q') hlt)
      have HSP := Lib.hid (runN_stop (s := q) hlt)
      rw [HRK.out] at HST HSP
      generalize L[k] = y at hcy hyl HST HSP
      obtain ⟨sy, hsy⟩ : ∃ sy : ByteArray, sy = ⟨y.toArray⟩ := ⟨_, rfl⟩
      have hyd : sy.data.toList = y := by rw [hsy]
      have hysz : sy.size = y.length := by rw [← hyd]; exact (bytes_len sy).symm
      rw [← hsy] at hcy
      have ik0 : (0 : Int) ≤ (k : Int) := by omega
      have ik1 : (k : Int) < (L.length : Int) - 1 := by omega
      clear hsy ho HRK
      go_wp2_with fail
      refine (split_any 32 sy _ (HT.out.old HRB.out.low) (by omega)).mono ?_
      rw [hyd]
      obtain ⟨w0, ws, hWL⟩ : ∃ w0 ws, splitT 32 y = w0 :: ws := by
        cases h : splitT 32 y with
        | nil => exact absurd h (splitT_ne 32 y)
        | cons a r => exact ⟨a, r, rfl⟩
      have hwsm : ws.length ≤ 1500 := by have h5 := splitN_many 32 y; rw [hWL] at h5; simp at h5; omega
      have HWY := Lib.hid (fun z (hz : z ∈ ws) => (show z.length ≤ 1500 by have h5 := splitN_len 32 y z (by rw [hWL]; exact List.mem_cons_of_mem _ hz); omega))
      have HSTEP := Lib.hid (show stepN q y = if q.en then none else if ws.all okW7 then stepNW q w0 (ws.map valW7) else none by unfold stepN; rw [hWL])
      rw [hWL]
      rintro e w2 ⟨gw, rfl, hgw2, hSW, hB2⟩
      have HRB2 := Lib.hid (HRB.out.below hB2)
      have HSL2 := Lib.hid (HSL.out.old hB2)
      have HSW := Lib.hid hSW
      have HSD := Lib.hid hSW.dropN
      have HTE := Lib.hid (HT.out.old HRB2.out.low)
      have HNN := Lib.hid (show (w0 :: ws).length = ws.length + 1 from rfl)
      generalize (w0 :: ws).length = NN at HSW HSD HNN ⊢
      clear hB2 hSW hcy hgw
      go_upto_region 12 with fail
      go_cut [41, 42, 43] from 40 to 43 (fun p n i wx => ∃ oo : Nat, p = .slice (some ⟨gw, oo, none⟩) ws.length ws.length ∧ n = .int .i64 (ws.length : Int) ∧ i = .int .i64 0 ∧ wx = w2 ∧ Sl encT 1 w2 gw (some ⟨gw, oo, none⟩) ws.length ws)
      case first =>
        by_cases hN : NN = 1
        · obtain rfl : ws = [] := List.eq_nil_of_length_eq_zero (by have := HNN.out; omega)
          subst hN
          go_wp2_with fail
          go_meet
          exact ⟨_, rfl, rfl, rfl, rfl, Sl.nil _ _ _⟩
        · obtain rfl : NN = ws.length + 1 := HNN.out
          have hM1 : (1 : Int) ≤ (ws.length : Int) := by omega
          have hw0 : ¬ ws.length = 0 := by omega
          have hwn : ¬ ws = [] := fun e => hw0 (by rw [e]; rfl)
          go_wp2_with fail
          go_meet
          exact ⟨1, rfl, rfl, rfl, rfl, HSD.out⟩
      case rest =>
        obtain ⟨oo, rfl, rfl, rfl, hwx, hSD2⟩ := hcut
        obtain rfl := hwx.symm
        have HSD2 := Lib.hid hSD2
        clear hSD2
        go_wp2_with fail
        go_loopw [11, 12, 43] (fun isv lv iv wr' => ∃ (j c : Nat) (A : Option Addr) (l : List Int), j ≤ ws.length ∧ iv = .int .i64 (j : Int) ∧ isv = .bool (!q.en && (ws.take j).all okW7) ∧ lv = .slice A j c ∧ l.length = j ∧ ((!q.en && (ws.take j).all okW7) = true → l = (ws.take j).map valW7) ∧ wr'.ownsRow w2.heap.size 3 1 (.slice A j c) j (l.flatMap encI) ∧ Below w2.heap.size w2 wr') (fun _ _ iv _ => ws.length - (intOf iv).toNat)
        case atStart => exact ⟨0, 0, none, [], Nat.zero_le _, rfl, by simp, rfl, rfl, fun _ => rfl, World.ownsRow_nil _ _ _ _, Below.refl _ _⟩
        case round =>
          obtain ⟨j, c, A, l, hj, rfl, rfl, rfl, hll, hlv, hown, hB'⟩ := hrel
          have HLV := Lib.hid hlv
          have HOW := Lib.hid hown
          have HB' := Lib.hid hB'
          have HLL2 := Lib.hid hll
          clear hlv hown hB' hll
          by_cases hlt2 : j < ws.length
          · obtain ⟨o2, ho, hgz2, hcw⟩ := (HSD2.out.old HB'.out).atT hlt2
            obtain rfl : oo = o2 := by injection ho with h; injection h
            have hwl2 := HWY.out ws[j] (List.getElem_mem hlt2)
            have HTK := Lib.hid (show (ws.take (j + 1)).all okW7 = ((ws.take j).all okW7 && okW7 ws[j]) by rw [List.take_succ_eq_append_getElem hlt2, List.all_append]; simp)
            have HMP := Lib.hid (show (ws.take (j + 1)).map valW7 = (ws.take j).map valW7 ++ [valW7 ws[j]] by rw [List.take_succ_eq_append_getElem hlt2, List.map_append]; rfl)
            generalize ws[j] = z at hcw hwl2 HTK HMP
            obtain ⟨sz, hsz⟩ : ∃ sz : ByteArray, sz = ⟨z.toArray⟩ := ⟨_, rfl⟩
            have hzd : sz.data.toList = z := by rw [hsz]
            have hzsz : sz.size = z.length := by rw [← hzd]; exact (bytes_len sz).symm
            rw [← hsz] at hcw
            have HSZ := Lib.hid hsz
            have ij0 : (0 : Int) ≤ (j : Int) := by omega
            have ij1 : (j : Int) < (ws.length : Int) := by omega
            have hzw2 := HB'.out.size
            clear hsz ho
            go_wp2_with fail
            refine (atoi_any sz _ (HTE.out.old HB'.out) (by omega)).mono ?_
            rw [hzd]
            rintro e w3 ⟨v, er, rfl, hcase, hB3⟩
            have HB3 := Lib.hid (HB'.out.trans (hB3.mono hzw2))
            have HTE3 := Lib.hid ((HTE.out.old HB'.out).old hB3)
            have HOW3 := Lib.hid (ownsRow_below HOW.out hB3 (Nat.le_refl _))
            have hz3 := HB3.out.size
            clear hB3 hcw hgz2
            obtain ⟨bb, hbb⟩ : ∃ bb, bb = (!q.en && (ws.take j).all okW7) := ⟨_, rfl⟩
            rw [← hbb] at HLV ⊢
            have HBB := Lib.hid hbb
            clear hbb
            go_upto_region 16 with fail
            go_cut [11] from 52 to 71 (fun p wx => p = .bool (bb && okW7 z) ∧ Below w3.heap.size w3 wx)
            case first =>
              cases bb
              · clear hcase
                go_wp2_with fail
                go_meet
                exact ⟨rfl, Below.refl _ _⟩
              · cases hoz : okW7 z
                · have hnn : numT 7 z = none := by simpa [okW7] using hoz
                  rcases hcase with ⟨rfl, hv⟩ | ⟨⟨tp, p, rfl⟩, _⟩
                  · obtain ⟨vb0, vb1⟩ := Lib.atoiAll_bounds hv
                    by_cases hv0 : v < 0
                    · have t1 : decide (0 ≤ v) = false := by simp; omega
                      clear hnn
                      go_wp2_with fail
                      go_meet
                      exact ⟨by rw [hoz]; rfl, Below.refl _ _⟩
                    · have t1 : decide (0 ≤ v) = true := by simp; omega
                      by_cases hy7 : 7 < sz.size
                      · have t2 : decide ((sz.size : Int) ≤ 7) = false := by simp; omega
                        clear hnn
                        go_wp2_with fail
                        go_meet
                        exact ⟨by rw [hoz]; rfl, Below.refl _ _⟩
                      · have t2 : decide ((sz.size : Int) ≤ 7) = true := by simp; omega
                        obtain ⟨qq, hq⟩ : ∃ qq : ByteArray, qq = ⟨(Lib.itoa v).toArray⟩ := ⟨_, rfl⟩
                        have hne : ¬ qq = sz := fun e => by
                          have h1 : Lib.itoa v = z := by rw [← hzd, ← e, hq]
                          have h2 := num_of_atoi (mx := 7) (by omega) (by omega) h1
                          rw [hnn] at h2
                          cases h2
                        have hnb : (qq.toList == sz.toList) = false := by rw [beq_eq_false_iff_ne, ByteArray.toList_eq, ByteArray.toList_eq]; exact fun e => hne (by rw [← bytes_back qq, e, bytes_back])
                        have HQ := Lib.hid hq
                        clear hnn hq hne
                        go_wp2_with fail
                        refine (itoa_any v ⟨vb0, vb1⟩ _ HTE3.out.pow).mono ?_
                        rw [← HQ.out]
                        rintro e w4 ⟨rfl, hB4⟩
                        have HB4 := Lib.hid hB4
                        clear hB4
                        go_wp2_with fail
                        go_meet
                        exact ⟨by rw [hoz]; rfl, HB4.out⟩
                  · clear hnn
                    go_wp2_with fail
                    go_meet
                    exact ⟨by rw [hoz]; rfl, Below.refl _ _⟩
                · obtain ⟨n, hn⟩ : ∃ n, numT 7 z = some n := by simpa [okW7, Option.isSome_iff_exists] using hoz
                  obtain ⟨ha, hit⟩ := atoi_of_num hn
                  have hn7 := numT_lt hn
                  obtain ⟨rfl, hv⟩ : er = .nilIface ∧ v = n := by
                    rcases hcase with ⟨rfl, hv⟩ | ⟨_, hv⟩
                    · rw [ha] at hv
                      exact ⟨rfl, by injection hv with hv; exact hv.symm⟩
                    · exact absurd ha (hv _)
                  subst hv
                  have hl7 : sz.size ≤ 7 := by have := (numT_iff.1 hn).2; omega
                  have t1 : decide (0 ≤ (n : Int)) = true := by simp
                  have t2 : decide ((sz.size : Int) ≤ 7) = true := by simp; omega
                  have HQ := Lib.hid (show (⟨(Lib.itoa (n : Int)).toArray⟩ : ByteArray) = sz by rw [hit, HSZ.out])
                  clear ha hit hn hcase
                  go_wp2_with fail
                  refine (itoa_any n ⟨by omega, by omega⟩ _ HTE3.out.pow).mono ?_
                  rw [HQ.out]
                  rintro e w4 ⟨rfl, hB4⟩
                  have HB4 := Lib.hid hB4
                  clear hB4
                  go_wp2_with fail
                  go_meet
                  exact ⟨by rw [hoz]; rfl, HB4.out⟩
            case rest =>
              obtain ⟨rfl, hBc⟩ := hcut
              have HBc := Lib.hid (HB3.out.trans (hBc.mono hz3))
              have HOWc := Lib.hid (ownsRow_below HOW3.out hBc (Nat.le_refl _))
              have hzc := HBc.out.size
              have HVZ := Lib.hid (show okW7 z = true → v = valW7 z from fun h => by
                obtain ⟨n, hn⟩ : ∃ n, numT 7 z = some n := by simpa [okW7, Option.isSome_iff_exists] using h
                obtain ⟨ha, _⟩ := atoi_of_num hn
                rcases hcase with ⟨rfl, hv⟩ | ⟨_, hv⟩
                · rw [ha] at hv
                  injection hv with hv
                  rw [← hv]; unfold valW7; rw [hn]; rfl
                · exact absurd ha (hv _))
              clear hBc hcase
              go_wp2_with (at_builtin; refine wpList_append_sl rfl _ _ 22 rfl w2.heap.size 3 i0 _ 8 Tryz.underlying22 hi iz0 iz1 iz2 rfl (by omega) encI_len _ j _ rfl (HOWc.out.alloc (.cells #[.int .i64 v] 3)) wc.heap.size _ 1 1 [v] rfl (Sl.newI wc [v] 3) oneI (by unfold maxLen; omega) (by omega) (by simp only [World.size_alloc]; omega) ?_; intro A6 c6 w6 hO6 hg6 _; have HO6 := Lib.hid hO6; have HB6 := Lib.hid (below_own (HOWc.out.alloc (.cells #[.int .i64 v] 3)) hg6 (HBc.out.alloc HBc.out.size (.cells #[.int .i64 v] 3)) (Nat.le_refl _) (Nat.le_refl _)); clear hO6 hg6)
              refine ⟨⟨j + 1, c6, A6, l ++ [v], by omega, by go_num, ?_, rfl, by rw [List.length_append, HLL2.out]; rfl, fun h => ?_, by rw [List.flatMap_append]; exact HO6.out, HB6.out⟩, by simp [intOf]; omega⟩
              · rw [HTK.out, HBB.out, Bool.and_assoc]
              · rw [HTK.out, ← Bool.and_assoc, ← HBB.out, Bool.and_eq_true] at h
                rw [HMP.out, HLV.out h.1, HVZ.out h.2]
          · obtain rfl : j = ws.length := by omega
            rw [List.take_length] at HLV ⊢
            have HRB3 := Lib.hid (HRB2.out.below HB'.out)
            have HSL3 := Lib.hid (HSL2.out.old HB'.out)
            obtain ⟨ow, how, _, hw0c⟩ := (HSW.out.old HB'.out).atT (k := 0) (by simp)
            obtain rfl : 0 = ow := by injection how with h; injection h
            simp only [List.getElem_cons_zero, Nat.zero_add] at hw0c
            have hnn1 : (1 : Int) ≤ (NN : Int) := by have := HNN.out; omega
            have hn0 : (0 : Int) < (NN : Int) := by omega
            obtain ⟨sw, hsw⟩ : ∃ sw : ByteArray, sw = ⟨w0.toArray⟩ := ⟨_, rfl⟩
            have hwb : (sw.toList == [98, 97, 116, 99, 104]) = decide (w0 = wBat) := by rw [hsw]; exact word_eqN w0 wBat
            have hwm : (sw.toList == [109, 111, 118, 101]) = decide (w0 = wMov) := by rw [hsw]; exact word_eqN w0 wMov
            have hwf : (sw.toList == [101, 110, 100]) = decide (w0 = wFin) := by rw [hsw]; exact word_eqN w0 wFin
            rw [← hsw] at hw0c
            obtain ⟨bl, hbl, hLI⟩ := Sl.of_own (enc := encI) encI_len HLL2.out.symm HOW.out
            have HLI := Lib.hid hLI
            have hblz : 0 < ws.length → bl < wr.heap.size := fun h => hLI.lt h
            have hzr3 := HB'.out.size
            clear hsw how hLI
            cases hisb : (!q.en && ws.all okW7)
            · have HQ := Lib.hid (show stepN q y = none by
                rw [HSTEP.out]
                cases hq : q.en
                · rw [hq] at hisb
                  rw [if_neg (by decide), if_neg (by simpa using hisb)]
                · rw [if_pos rfl])
              have HRD := Lib.hid (show readN x = .no ((k : Int) + 1) 2 from readN_err (by omega) (by rw [← HLL.out, ← HR.out]; exact HRUN.out.trans (HSP.out HQ.out)))
              clear hwb hwm hwf
              have f0 := HRB3.out.hd.frozen 0
              have f1 := HRB3.out.hd.frozen 1
              have c0 := HRB3.out.hd.cell 0
              have c1 := HRB3.out.hd.cell 1
              obtain ⟨hzb, hzk⟩ := HRB3.out.zero (.slice none 0 0) (.slice none 0 0)
              have q0 := hzk.cell 0
              have q1 := hzk.cell 1
              have HZB := Lib.hid hzb
              clear hzb hzk
              go_wp2_with fail
              refine bodyPost_ret (v := .tuple #[.agg #[.slice none 0 0, .slice none 0 0], .int .i64 ((k : Int) + 1), .int .i64 (2)]) (by simp [results, Tryz.results12, go_sem, q0, q1]; try omega) rfl ?_
              rw [HRD.out]
              first
                | exact ⟨none, none, 0, 0, 0, 0, rfl, ⟨Sl.nil _ _ _, Sl.nil _ _ _, Nat.le_refl _, Nat.le_refl _⟩, HZB.out⟩
                | exact ⟨none, none, 0, 0, 0, 0, rfl, ⟨Sl.nil _ _ _, Sl.nil _ _ _, Nat.le_refl _, Nat.le_refl _⟩, HZB.out.drew⟩
            · obtain ⟨hqe, hall⟩ := Bool.and_eq_true_iff.1 hisb
              have hqe : q.en = false := by simpa using hqe
              have HQE := Lib.hid hqe
              have HST2 := Lib.hid (show stepN q y = stepNW q w0 l by rw [HSTEP.out, hqe, if_neg (by decide), if_pos hall, HLV.out hisb])
              have hlw : l.length = ws.length := HLL2.out
              by_cases hB : w0 = wBat
              · have hM : ¬ w0 = wMov := by rw [hB]; decide
                have hF : ¬ w0 = wFin := by rw [hB]; decide
                rw [decide_eq_true hB] at hwb
                rw [decide_eq_false hM] at hwm
                rw [decide_eq_false hF] at hwf
                by_cases h1 : ws.length = 1
                · have hl1 : ((ws.length : Int) == 1) = true := by rw [h1]; rfl
                  have c1 := HRB3.out.hd.cell 1
                  by_cases hm0 : q.ms.length = 0
                  · have hmb : ((q.ms.length : Int) == 0) = true := by rw [hm0]; rfl
                    obtain ⟨a, rfl⟩ : ∃ a, l = [a] := List.length_eq_one_iff.1 (by omega)
                    obtain ⟨ol, rfl, _, u0⟩ := HLI.out.atI (k := 0) (by simp)
                    simp only [List.getElem_cons_zero, Nat.add_zero] at u0
                    have HQ := Lib.hid (show stepN q y = some { q with bs := q.bs ++ [a] } by rw [HST2.out]; unfold stepNW; rw [if_pos ⟨hB, rfl, hm0⟩]; rfl)
                    have HRN := Lib.hid (HRUN.out.trans (HST.out _ HQ.out))
                    have HU := Lib.hid u0
                    have HM0 := Lib.hid hm0
                    have hlo3 := HRB3.out.lo
                    have hgz4 : g < w1.heap.size := hgz
                    have hk15 : k ≤ 1500 := by omega
                    clear u0
                    go_upto_region 22 with fail
                    refine wp_region_PL [1, 4] (fun W' => W'.cell? ⟨W.heap.size, 0, none⟩ = some (.slice Ab q.bs.length cb) ∧ W'.cell? ⟨bl, ol, none⟩ = some (.int .i64 a)) rfl (by kernel_rfl) (⟨HRB3.out.hd.cell 0, HU.out⟩) (fun hF0 => ?_)
                    (refine wpAnyP_takeL (i := 0) (v := ?_) rfl (by kernel_rfl) (by kernel_rfl) (by kernel_rfl) (fun _ _ _ h => h) (by rfl) ?_ ?_; rotate_left 1; focus (intro w; go_simp; try with_reducible rfl))
                    try simp only [Act.put, List.setIfInBounds_toArray, List.set_cons_zero, List.set_cons_succ]
                    (refine wpAnyP_loadL (i := 1) (v := ?_) rfl (by kernel_rfl) (by kernel_rfl) (by kernel_rfl) (by rfl) (fun _ _ _ h => h) hF0 (by rfl) ?_ ?_; rotate_left 1; focus (intro w hFw; (try dsimp only at hFw); go_split_ands; go_simp; try with_reducible rfl))
                    try simp only [Act.put, List.setIfInBounds_toArray, List.set_cons_zero, List.set_cons_succ]
                    (refine wpAnyP_takeL (i := 2) (v := ?_) rfl (by kernel_rfl) (by kernel_rfl) (by kernel_rfl) (fun _ _ _ h => h) (by rfl) ?_ ?_; rotate_left 1; focus (intro w; go_simp; try with_reducible rfl))
                    try simp only [Act.put, List.setIfInBounds_toArray, List.set_cons_zero, List.set_cons_succ]
                    (refine wpAnyP_takeL (i := 3) (v := ?_) rfl (by kernel_rfl) (by kernel_rfl) (by kernel_rfl) (fun _ _ _ h => h) (by rfl) ?_ ?_; rotate_left 1; focus (intro w; go_simp; try with_reducible rfl))
                    try simp only [Act.put, List.setIfInBounds_toArray, List.set_cons_zero, List.set_cons_succ]
                    (refine wpAnyP_loadL (i := 4) (v := ?_) rfl (by kernel_rfl) (by kernel_rfl) (by kernel_rfl) (by rfl) (fun _ _ _ h => h) hF0 (by rfl) ?_ ?_; rotate_left 1; focus (intro w hFw; (try dsimp only at hFw); go_split_ands; go_simp; try with_reducible rfl))
                    try simp only [Act.put, List.setIfInBounds_toArray, List.set_cons_zero, List.set_cons_succ]
                    refine wpAnyP_step (i := 5) rfl (by kernel_rfl) (by rfl) (fun K hK => ?_)
                    go_simp
                    (have HR6 := Lib.hid (HRB3.out.alloc (.cells #[.int .i64 a] 3)).drew; have HSL6 := Lib.hid (HSL3.out.alloc (.cells #[.int .i64 a] 3)).drew; have HNS := Lib.hid (Sl.newI wr [a] 3).drew; have HU6 := Lib.hid (cellN HU.out ((Below.refl _ wr).alloc (Nat.le_refl _) (.cells #[.int .i64 a] 3)).drew))
                    (refine hK _ _ (⟨HR6.out.hd.cell 0, HU6.out⟩) (fun hF1 => ?_); clear hK K hF0)
                    try simp only [Act.put, List.setIfInBounds_toArray, List.set_cons_zero, List.set_cons_succ]
                    refine wpAnyP_step (i := 6) rfl (by kernel_rfl) (by rfl) (fun K hK => ?_)
                    (refine wp_append_sl _ _ 22 rfl w1.heap.size 3 i0 _ 8 Tryz.underlying22 hi iz0 iz1 iz2 rfl (by omega) encI_len _ q.bs.length _ (by rfl) HR6.out.rb wr.heap.size (some ⟨wr.heap.size, 0, none⟩) 1 1 [a] (by rfl) HNS.out oneI (by unfold maxLen; omega) (by omega) (by have := HR6.out.lo; omega) ?_; intro A3 c3 w6 hown6 hg6 _; obtain ⟨hr7, hk7⟩ := HR6.out.bat a HM0.out hown6 hg6; have HRN7 := Lib.hid hr7; have q0 := hk7.frozen 0; have q1 := hk7.cell 0; have HSL7 := Lib.hid ((HSL6.out.grown hg6 (fun _ e => by have := (HR6.out.rb.lt g e.symm).1; omega)).setCell (p := ⟨W.heap.size, 0, none⟩) (fun _ => by show g ≠ W.heap.size; omega) (.slice A3 (q.bs.length + 1) c3)); have hu7 := cell_grownN HU6.out hg6 (fun e => by have := (HRB2.out.rb.lt bl e.symm).2; omega); clear hr7 hk7)
                    (refine hK _ _ (⟨q1, hu7⟩) (fun hF2 => ?_); clear hK K hF1)
                    try simp only [Act.put, List.setIfInBounds_toArray, List.set_cons_zero, List.set_cons_succ]
                    (refine wpAnyP_takeL (i := 7) (v := ?_) rfl (by kernel_rfl) (by kernel_rfl) (by kernel_rfl) (fun _ _ _ h => h) (by rfl) ?_ ?_; rotate_left 1; focus (intro w; go_simp; try with_reducible rfl))
                    try simp only [Act.put, List.setIfInBounds_toArray, List.set_cons_zero, List.set_cons_succ]
                    refine wpAnyP_last (i := 8) rfl (by kernel_rfl) (by kernel_rfl) (by rfl) (fun K hK => ?_)
                    go_simp
                    (refine hK _ _ ?_; clear hK K)
                    try simp only [Act.put, List.setIfInBounds_toArray, List.set_cons_zero, List.set_cons_succ]
                    refine wpAnyP_done (by kernel_rfl) ?_ _
                    clear q0 q1
                    go_wp2_with fail
                    first
                      | exact ⟨⟨k + 1, { q with bs := q.bs ++ [a] }, A3, Am, c3, cm, w6.heap.size, by omega, by go_num, by rw [HQE.out], by simp; omega, HRN.out, HRN7.out, HSL7.out⟩, by simp [intOf]; omega⟩
                      | exact ⟨⟨k + 1, { q with bs := q.bs ++ [a] }, A3, Am, c3, cm, w6.heap.size, by omega, by go_num, by rw [HQE.out], by simp; omega, HRN.out, HRN7.out.drew, HSL7.out.drew⟩, by simp [intOf]; omega⟩
                  · have hmb : ((q.ms.length : Int) == 0) = false := by rw [beq_eq_false_iff_ne]; omega
                    have HQ := Lib.hid (show stepN q y = none by rw [HST2.out]; unfold stepNW; rw [if_neg (by omega), if_neg (fun h => hM h.1), if_neg (fun h => hF h.1)])
                    have HRD := Lib.hid (show readN x = .no ((k : Int) + 1) 2 from readN_err (by omega) (by rw [← HLL.out, ← HR.out]; exact HRUN.out.trans (HSP.out HQ.out)))
                    clear c1
                    have f0 := HRB3.out.hd.frozen 0
                    have f1 := HRB3.out.hd.frozen 1
                    have c0 := HRB3.out.hd.cell 0
                    have c1 := HRB3.out.hd.cell 1
                    obtain ⟨hzb, hzk⟩ := HRB3.out.zero (.slice none 0 0) (.slice none 0 0)
                    have q0 := hzk.cell 0
                    have q1 := hzk.cell 1
                    have HZB := Lib.hid hzb
                    clear hzb hzk
                    go_wp2_with fail
                    refine bodyPost_ret (v := .tuple #[.agg #[.slice none 0 0, .slice none 0 0], .int .i64 ((k : Int) + 1), .int .i64 (2)]) (by simp [results, Tryz.results12, go_sem, q0, q1]; try omega) rfl ?_
                    rw [HRD.out]
                    first
                      | exact ⟨none, none, 0, 0, 0, 0, rfl, ⟨Sl.nil _ _ _, Sl.nil _ _ _, Nat.le_refl _, Nat.le_refl _⟩, HZB.out⟩
                      | exact ⟨none, none, 0, 0, 0, 0, rfl, ⟨Sl.nil _ _ _, Sl.nil _ _ _, Nat.le_refl _, Nat.le_refl _⟩, HZB.out.drew⟩
                · have hl1 : ((ws.length : Int) == 1) = false := by rw [beq_eq_false_iff_ne]; omega
                  have HQ := Lib.hid (show stepN q y = none by rw [HST2.out]; unfold stepNW; rw [if_neg (by omega), if_neg (fun h => hM h.1), if_neg (fun h => hF h.1)])
                  have HRD := Lib.hid (show readN x = .no ((k : Int) + 1) 2 from readN_err (by omega) (by rw [← HLL.out, ← HR.out]; exact HRUN.out.trans (HSP.out HQ.out)))
                  have f0 := HRB3.out.hd.frozen 0
                  have f1 := HRB3.out.hd.frozen 1
                  have c0 := HRB3.out.hd.cell 0
                  have c1 := HRB3.out.hd.cell 1
                  obtain ⟨hzb, hzk⟩ := HRB3.out.zero (.slice none 0 0) (.slice none 0 0)
                  have q0 := hzk.cell 0
                  have q1 := hzk.cell 1
                  have HZB := Lib.hid hzb
                  clear hzb hzk
                  go_wp2_with fail
                  refine bodyPost_ret (v := .tuple #[.agg #[.slice none 0 0, .slice none 0 0], .int .i64 ((k : Int) + 1), .int .i64 (2)]) (by simp [results, Tryz.results12, go_sem, q0, q1]; try omega) rfl ?_
                  rw [HRD.out]
                  first
                    | exact ⟨none, none, 0, 0, 0, 0, rfl, ⟨Sl.nil _ _ _, Sl.nil _ _ _, Nat.le_refl _, Nat.le_refl _⟩, HZB.out⟩
                    | exact ⟨none, none, 0, 0, 0, 0, rfl, ⟨Sl.nil _ _ _, Sl.nil _ _ _, Nat.le_refl _, Nat.le_refl _⟩, HZB.out.drew⟩
              · rw [decide_eq_false hB] at hwb
                by_cases hM : w0 = wMov
                · have hF : ¬ w0 = wFin := by rw [hM]; decide
                  rw [decide_eq_true hM] at hwm
                  rw [decide_eq_false hF] at hwf
                  by_cases h3 : ws.length = 3
                  · have hl3 : ((ws.length : Int) == 3) = true := by rw [h3]; rfl
                    obtain ⟨a0, a1, a2, rfl⟩ : ∃ a0 a1 a2, l = [a0, a1, a2] := by
                      match l, (show l.length = 3 by omega) with
                      | [a0, a1, a2], _ => exact ⟨a0, a1, a2, rfl⟩
                    obtain ⟨ol, rfl, _, u0⟩ := HLI.out.atI (k := 0) (by simp)
                    obtain ⟨o1, ho1, _, u1⟩ := HLI.out.atI (k := 1) (by simp)
                    obtain ⟨o2, ho2, _, u2⟩ := HLI.out.atI (k := 2) (by simp)
                    obtain rfl : ol = o1 := by injection ho1 with h; injection h
                    obtain rfl : ol = o2 := by injection ho2 with h; injection h
                    simp only [List.getElem_cons_zero, List.getElem_cons_succ, Nat.add_zero] at u0 u1 u2
                    have HQ := Lib.hid (show stepN q y = some { q with ms := q.ms ++ [⟨a0, a1, a2⟩] } by rw [HST2.out]; unfold stepNW; rw [if_neg (fun h => hB h.1), if_pos ⟨hM, rfl⟩]; rfl)
                    have HRN := Lib.hid (HRUN.out.trans (HST.out _ HQ.out))
                    have HU := Lib.hid (And.intro u0 (And.intro u1 u2))
                    have hlo3 := HRB3.out.lo
                    have hgz4 : g < w1.heap.size := hgz
                    have hk15 : k ≤ 1500 := by omega
                    clear u0 u1 u2 ho1 ho2
                    go_upto_region 24 with fail
                    refine wp_region_PL [1, 4, 7, 10] (fun W' => W'.cell? ⟨W.heap.size, 1, none⟩ = some (.slice Am q.ms.length cm) ∧ W'.cell? ⟨bl, ol, none⟩ = some (.int .i64 a0) ∧ W'.cell? ⟨bl, ol + 1, none⟩ = some (.int .i64 a1) ∧ W'.cell? ⟨bl, ol + 2, none⟩ = some (.int .i64 a2)) rfl (by kernel_rfl) (⟨HRB3.out.hd.cell 1, HU.out⟩) (fun hF0 => ?_)
                    (refine wpAnyP_takeL (i := 0) (v := ?_) rfl (by kernel_rfl) (by kernel_rfl) (by kernel_rfl) (fun _ _ _ h => h) (by rfl) ?_ ?_; rotate_left 1; focus (intro w; go_simp; try with_reducible rfl))
                    try simp only [Act.put, List.setIfInBounds_toArray, List.set_cons_zero, List.set_cons_succ]
                    (refine wpAnyP_loadL (i := 1) (v := ?_) rfl (by kernel_rfl) (by kernel_rfl) (by kernel_rfl) (by rfl) (fun _ _ _ h => h) hF0 (by rfl) ?_ ?_; rotate_left 1; focus (intro w hFw; (try dsimp only at hFw); go_split_ands; go_simp; try with_reducible rfl))
                    try simp only [Act.put, List.setIfInBounds_toArray, List.set_cons_zero, List.set_cons_succ]
                    (refine wpAnyP_takeL (i := 2) (v := ?_) rfl (by kernel_rfl) (by kernel_rfl) (by kernel_rfl) (fun _ _ _ h => h) (by rfl) ?_ ?_; rotate_left 1; focus (intro w; go_simp; try with_reducible rfl))
                    try simp only [Act.put, List.setIfInBounds_toArray, List.set_cons_zero, List.set_cons_succ]
                    (refine wpAnyP_takeL (i := 3) (v := ?_) rfl (by kernel_rfl) (by kernel_rfl) (by kernel_rfl) (fun _ _ _ h => h) (by rfl) ?_ ?_; rotate_left 1; focus (intro w; go_simp; try with_reducible rfl))
                    try simp only [Act.put, List.setIfInBounds_toArray, List.set_cons_zero, List.set_cons_succ]
                    (refine wpAnyP_loadL (i := 4) (v := ?_) rfl (by kernel_rfl) (by kernel_rfl) (by kernel_rfl) (by rfl) (fun _ _ _ h => h) hF0 (by rfl) ?_ ?_; rotate_left 1; focus (intro w hFw; (try dsimp only at hFw); go_split_ands; go_simp; try with_reducible rfl))
                    try simp only [Act.put, List.setIfInBounds_toArray, List.set_cons_zero, List.set_cons_succ]
                    (refine wpAnyP_takeL (i := 5) (v := ?_) rfl (by kernel_rfl) (by kernel_rfl) (by kernel_rfl) (fun _ _ _ h => h) (by rfl) ?_ ?_; rotate_left 1; focus (intro w; go_simp; try with_reducible rfl))
                    try simp only [Act.put, List.setIfInBounds_toArray, List.set_cons_zero, List.set_cons_succ]
                    (refine wpAnyP_takeL (i := 6) (v := ?_) rfl (by kernel_rfl) (by kernel_rfl) (by kernel_rfl) (fun _ _ _ h => h) (by rfl) ?_ ?_; rotate_left 1; focus (intro w; go_simp; try with_reducible rfl))
                    try simp only [Act.put, List.setIfInBounds_toArray, List.set_cons_zero, List.set_cons_succ]
                    (refine wpAnyP_loadL (i := 7) (v := ?_) rfl (by kernel_rfl) (by kernel_rfl) (by kernel_rfl) (by rfl) (fun _ _ _ h => h) hF0 (by rfl) ?_ ?_; rotate_left 1; focus (intro w hFw; (try dsimp only at hFw); go_split_ands; go_simp; try with_reducible rfl))
                    try simp only [Act.put, List.setIfInBounds_toArray, List.set_cons_zero, List.set_cons_succ]
                    (refine wpAnyP_takeL (i := 8) (v := ?_) rfl (by kernel_rfl) (by kernel_rfl) (by kernel_rfl) (fun _ _ _ h => h) (by rfl) ?_ ?_; rotate_left 1; focus (intro w; go_simp; try with_reducible rfl))
                    try simp only [Act.put, List.setIfInBounds_toArray, List.set_cons_zero, List.set_cons_succ]
                    (refine wpAnyP_takeL (i := 9) (v := ?_) rfl (by kernel_rfl) (by kernel_rfl) (by kernel_rfl) (fun _ _ _ h => h) (by rfl) ?_ ?_; rotate_left 1; focus (intro w; go_simp; try with_reducible rfl))
                    try simp only [Act.put, List.setIfInBounds_toArray, List.set_cons_zero, List.set_cons_succ]
                    (refine wpAnyP_loadL (i := 10) (v := ?_) rfl (by kernel_rfl) (by kernel_rfl) (by kernel_rfl) (by rfl) (fun _ _ _ h => h) hF0 (by rfl) ?_ ?_; rotate_left 1; focus (intro w hFw; (try dsimp only at hFw); go_split_ands; go_simp; try with_reducible rfl))
                    try simp only [Act.put, List.setIfInBounds_toArray, List.set_cons_zero, List.set_cons_succ]
                    (refine wpAnyP_takeL (i := 11) (v := ?_) rfl (by kernel_rfl) (by kernel_rfl) (by kernel_rfl) (fun _ _ _ h => h) (by rfl) ?_ ?_; rotate_left 1; focus (intro w; go_simp; try with_reducible rfl))
                    try simp only [Act.put, List.setIfInBounds_toArray, List.set_cons_zero, List.set_cons_succ]
                    refine wpAnyP_step (i := 12) rfl (by kernel_rfl) (by rfl) (fun K hK => ?_)
                    go_simp
                    (have HR6 := Lib.hid (HRB3.out.alloc (.cells #[.int .i64 a0, .int .i64 a1, .int .i64 a2] 58)).drew; have HSL6 := Lib.hid (HSL3.out.alloc (.cells #[.int .i64 a0, .int .i64 a1, .int .i64 a2] 58)).drew; have HNS := Lib.hid (Sl.new encM_len wr [(⟨a0, a1, a2⟩ : Mv)] 58 #[.int .i64 a0, .int .i64 a1, .int .i64 a2] rfl).drew; have HBA := Lib.hid ((Below.refl _ wr).alloc (Nat.le_refl _) (.cells #[.int .i64 a0, .int .i64 a1, .int .i64 a2] 58)).drew; have HU6 := Lib.hid (And.intro (cellN HU.out.1 HBA.out) (And.intro (cellN HU.out.2.1 HBA.out) (cellN HU.out.2.2 HBA.out))))
                    (refine hK _ _ (⟨HR6.out.hd.cell 1, HU6.out⟩) (fun hF1 => ?_); clear hK K hF0)
                    try simp only [Act.put, List.setIfInBounds_toArray, List.set_cons_zero, List.set_cons_succ]
                    refine wpAnyP_step (i := 13) rfl (by kernel_rfl) (by rfl) (fun K hK => ?_)
                    (refine wp_append_sl _ _ 23 rfl b2 58 im _ 24 Tryz.underlying23 him jz0 jz1 jz2 rfl (by omega) encM_len _ q.ms.length _ (by rfl) HR6.out.rm wr.heap.size (some ⟨wr.heap.size, 0, none⟩) 1 1 [(⟨a0, a1, a2⟩ : Mv)] (by rfl) HNS.out oneMN (by unfold maxLen; omega) (by omega) (by have := HR6.out.lo; omega) ?_; intro A3 c3 w6 hown6 hg6 _; obtain ⟨hr7, hk7⟩ := HR6.out.mov ⟨a0, a1, a2⟩ hown6 hg6; have HRN7 := Lib.hid hr7; have q0 := hk7.frozen 1; have q1 := hk7.cell 1; have HSL7 := Lib.hid ((HSL6.out.grown hg6 (fun _ e => by have := (HR6.out.rm.lt g e.symm).1; omega)).setCell (p := ⟨W.heap.size, 1, none⟩) (fun _ => by show g ≠ W.heap.size; omega) (.slice A3 (q.ms.length + 1) c3)); have hnb := (fun e => by have := (HRB2.out.rm.lt bl e.symm).2; omega : some bl ≠ Value.ownBlock (.slice Am q.ms.length cm)); have hu7 := And.intro (cell_grownN HU6.out.1 hg6 hnb) (And.intro (cell_grownN HU6.out.2.1 hg6 hnb) (cell_grownN HU6.out.2.2 hg6 hnb)); clear hr7 hk7)
                    (refine hK _ _ (⟨q1, hu7⟩) (fun hF2 => ?_); clear hK K hF1)
                    try simp only [Act.put, List.setIfInBounds_toArray, List.set_cons_zero, List.set_cons_succ]
                    (refine wpAnyP_takeL (i := 14) (v := ?_) rfl (by kernel_rfl) (by kernel_rfl) (by kernel_rfl) (fun _ _ _ h => h) (by rfl) ?_ ?_; rotate_left 1; focus (intro w; go_simp; try with_reducible rfl))
                    try simp only [Act.put, List.setIfInBounds_toArray, List.set_cons_zero, List.set_cons_succ]
                    refine wpAnyP_last (i := 15) rfl (by kernel_rfl) (by kernel_rfl) (by rfl) (fun K hK => ?_)
                    go_simp
                    (refine hK _ _ ?_; clear hK K)
                    try simp only [Act.put, List.setIfInBounds_toArray, List.set_cons_zero, List.set_cons_succ]
                    refine wpAnyP_done (by kernel_rfl) ?_ _
                    clear q0 q1
                    go_wp2_with fail
                    first
                      | exact ⟨⟨k + 1, { q with ms := q.ms ++ [⟨a0, a1, a2⟩] }, Ab, A3, cb, c3, b2, by omega, by go_num, by rw [HQE.out], by simp; omega, HRN.out, HRN7.out, HSL7.out⟩, by simp [intOf]; omega⟩
                      | exact ⟨⟨k + 1, { q with ms := q.ms ++ [⟨a0, a1, a2⟩] }, Ab, A3, cb, c3, b2, by omega, by go_num, by rw [HQE.out], by simp; omega, HRN.out, HRN7.out.drew, HSL7.out.drew⟩, by simp [intOf]; omega⟩
                  · have hl3 : ((ws.length : Int) == 3) = false := by rw [beq_eq_false_iff_ne]; omega
                    have HQ := Lib.hid (show stepN q y = none by rw [HST2.out]; unfold stepNW; rw [if_neg (fun h => hB h.1), if_neg (by omega), if_neg (fun h => hF h.1)])
                    have HRD := Lib.hid (show readN x = .no ((k : Int) + 1) 2 from readN_err (by omega) (by rw [← HLL.out, ← HR.out]; exact HRUN.out.trans (HSP.out HQ.out)))
                    have f0 := HRB3.out.hd.frozen 0
                    have f1 := HRB3.out.hd.frozen 1
                    have c0 := HRB3.out.hd.cell 0
                    have c1 := HRB3.out.hd.cell 1
                    obtain ⟨hzb, hzk⟩ := HRB3.out.zero (.slice none 0 0) (.slice none 0 0)
                    have q0 := hzk.cell 0
                    have q1 := hzk.cell 1
                    have HZB := Lib.hid hzb
                    clear hzb hzk
                    go_wp2_with fail
                    refine bodyPost_ret (v := .tuple #[.agg #[.slice none 0 0, .slice none 0 0], .int .i64 ((k : Int) + 1), .int .i64 (2)]) (by simp [results, Tryz.results12, go_sem, q0, q1]; try omega) rfl ?_
                    rw [HRD.out]
                    first
                      | exact ⟨none, none, 0, 0, 0, 0, rfl, ⟨Sl.nil _ _ _, Sl.nil _ _ _, Nat.le_refl _, Nat.le_refl _⟩, HZB.out⟩
                      | exact ⟨none, none, 0, 0, 0, 0, rfl, ⟨Sl.nil _ _ _, Sl.nil _ _ _, Nat.le_refl _, Nat.le_refl _⟩, HZB.out.drew⟩
                · rw [decide_eq_false hM] at hwm
                  by_cases hF : w0 = wFin
                  · rw [decide_eq_true hF] at hwf
                    by_cases h1 : ws.length = 1
                    · have hl1 : ((ws.length : Int) == 1) = true := by rw [h1]; rfl
                      obtain ⟨a, rfl⟩ : ∃ a, l = [a] := List.length_eq_one_iff.1 (by omega)
                      obtain ⟨ol, rfl, _, u0⟩ := HLI.out.atI (k := 0) (by simp)
                      simp only [List.getElem_cons_zero, Nat.add_zero] at u0
                      have HU := Lib.hid u0
                      clear u0
                      go_upto_region 26 with fail
                      refine wp_region_PL [2, 4] (fun W' => W'.cell? ⟨bl, ol, none⟩ = some (.int .i64 a) ∧ W'.cell? ⟨W.heap.size, 1, none⟩ = some (.slice Am q.ms.length cm)) rfl (by kernel_rfl) (⟨HU.out, HRB3.out.hd.cell 1⟩) (fun hF0 => ?_)
                      (refine wpAnyP_takeL (i := 0) (v := ?_) rfl (by kernel_rfl) (by kernel_rfl) (by kernel_rfl) (fun _ _ _ h => h) (by rfl) ?_ ?_; rotate_left 1; focus (intro w; go_simp; try with_reducible rfl))
                      try simp only [Act.put, List.setIfInBounds_toArray, List.set_cons_zero, List.set_cons_succ]
                      (refine wpAnyP_takeL (i := 1) (v := ?_) rfl (by kernel_rfl) (by kernel_rfl) (by kernel_rfl) (fun _ _ _ h => h) (by rfl) ?_ ?_; rotate_left 1; focus (intro w; go_simp; try with_reducible rfl))
                      try simp only [Act.put, List.setIfInBounds_toArray, List.set_cons_zero, List.set_cons_succ]
                      (refine wpAnyP_loadL (i := 2) (v := ?_) rfl (by kernel_rfl) (by kernel_rfl) (by kernel_rfl) (by rfl) (fun _ _ _ h => h) hF0 (by rfl) ?_ ?_; rotate_left 1; focus (intro w hFw; (try dsimp only at hFw); go_split_ands; go_simp; try with_reducible rfl))
                      try simp only [Act.put, List.setIfInBounds_toArray, List.set_cons_zero, List.set_cons_succ]
                      (refine wpAnyP_takeL (i := 3) (v := ?_) rfl (by kernel_rfl) (by kernel_rfl) (by kernel_rfl) (fun _ _ _ h => h) (by rfl) ?_ ?_; rotate_left 1; focus (intro w; go_simp; try with_reducible rfl))
                      try simp only [Act.put, List.setIfInBounds_toArray, List.set_cons_zero, List.set_cons_succ]
                      (refine wpAnyP_loadL (i := 4) (v := ?_) rfl (by kernel_rfl) (by kernel_rfl) (by kernel_rfl) (by rfl) (fun _ _ _ h => h) hF0 (by rfl) ?_ ?_; rotate_left 1; focus (intro w hFw; (try dsimp only at hFw); go_split_ands; go_simp; try with_reducible rfl))
                      try simp only [Act.put, List.setIfInBounds_toArray, List.set_cons_zero, List.set_cons_succ]
                      (refine wpAnyP_takeL (i := 5) (v := ?_) rfl (by kernel_rfl) (by kernel_rfl) (by kernel_rfl) (fun _ _ _ h => h) (by rfl) ?_ ?_; rotate_left 1; focus (intro w; go_simp; try with_reducible rfl))
                      try simp only [Act.put, List.setIfInBounds_toArray, List.set_cons_zero, List.set_cons_succ]
                      (refine wpAnyP_takeL (i := 6) (v := ?_) rfl (by kernel_rfl) (by kernel_rfl) (by kernel_rfl) (fun _ _ _ h => h) (by rfl) ?_ ?_; rotate_left 1; focus (intro w; go_simp; try with_reducible rfl))
                      try simp only [Act.put, List.setIfInBounds_toArray, List.set_cons_zero, List.set_cons_succ]
                      (refine wpAnyP_takeL (i := 7) (v := ?_) rfl (by kernel_rfl) (by kernel_rfl) (by kernel_rfl) (fun _ _ _ h => h) (by rfl) ?_ ?_; rotate_left 1; focus (intro w; go_simp; try with_reducible rfl))
                      try simp only [Act.put, List.setIfInBounds_toArray, List.set_cons_zero, List.set_cons_succ]
                      (refine wpAnyP_takeL (i := 8) (v := ?_) rfl (by kernel_rfl) (by kernel_rfl) (by kernel_rfl) (fun _ _ _ h => h) (by rfl) ?_ ?_; rotate_left 1; focus (intro w; go_simp; try with_reducible rfl))
                      try simp only [Act.put, List.setIfInBounds_toArray, List.set_cons_zero, List.set_cons_succ]
                      refine wpAnyP_done (by kernel_rfl) ?_ _
                      clear hwb hwm hwf
                      by_cases hln : a = (q.ms.length : Int)
                      · have hlb : (a == (q.ms.length : Int)) = true := by rw [hln]; exact beq_self_eq_true _
                        have HQ := Lib.hid (show stepN q y = some { q with en := true } by rw [HST2.out]; unfold stepNW; rw [if_neg (fun h => hB h.1), if_neg (fun h => hM h.1), if_pos ⟨hF, rfl, hln⟩])
                        have HRN := Lib.hid (HRUN.out.trans (HST.out _ HQ.out))
                        clear hln
                        go_wp2_with fail
                        exact ⟨⟨k + 1, { q with en := true }, Ab, Am, cb, cm, b2, by omega, by go_num, rfl, by show q.bs.length + q.ms.length ≤ k + 1; omega, HRN.out, (HRB3.out.last true).drew, HSL3.out.drew⟩, by simp [intOf]; omega⟩
                      · have hlb : (a == (q.ms.length : Int)) = false := by rw [beq_eq_false_iff_ne]; exact hln
                        have HQ := Lib.hid (show stepN q y = none by rw [HST2.out]; unfold stepNW; rw [if_neg (fun h => hB h.1), if_neg (fun h => hM h.1), if_neg (fun h => hln h.2.2)])
                        have HRD := Lib.hid (show readN x = .no ((k : Int) + 1) 2 from readN_err (by omega) (by rw [← HLL.out, ← HR.out]; exact HRUN.out.trans (HSP.out HQ.out)))
                        clear hln
                        have f0 := HRB3.out.hd.frozen 0
                        have f1 := HRB3.out.hd.frozen 1
                        have c0 := HRB3.out.hd.cell 0
                        have c1 := HRB3.out.hd.cell 1
                        obtain ⟨hzb, hzk⟩ := HRB3.out.zero (.slice none 0 0) (.slice none 0 0)
                        have q0 := hzk.cell 0
                        have q1 := hzk.cell 1
                        have HZB := Lib.hid hzb
                        clear hzb hzk
                        go_wp2_with fail
                        refine bodyPost_ret (v := .tuple #[.agg #[.slice none 0 0, .slice none 0 0], .int .i64 ((k : Int) + 1), .int .i64 (2)]) (by simp [results, Tryz.results12, go_sem, q0, q1]; try omega) rfl ?_
                        rw [HRD.out]
                        first
                          | exact ⟨none, none, 0, 0, 0, 0, rfl, ⟨Sl.nil _ _ _, Sl.nil _ _ _, Nat.le_refl _, Nat.le_refl _⟩, HZB.out⟩
                          | exact ⟨none, none, 0, 0, 0, 0, rfl, ⟨Sl.nil _ _ _, Sl.nil _ _ _, Nat.le_refl _, Nat.le_refl _⟩, HZB.out.drew⟩
                    · have hl1 : ((ws.length : Int) == 1) = false := by rw [beq_eq_false_iff_ne]; omega
                      have HQ := Lib.hid (show stepN q y = none by rw [HST2.out]; unfold stepNW; rw [if_neg (fun h => hB h.1), if_neg (fun h => hM h.1), if_neg (by omega)])
                      have HRD := Lib.hid (show readN x = .no ((k : Int) + 1) 2 from readN_err (by omega) (by rw [← HLL.out, ← HR.out]; exact HRUN.out.trans (HSP.out HQ.out)))
                      have f0 := HRB3.out.hd.frozen 0
                      have f1 := HRB3.out.hd.frozen 1
                      have c0 := HRB3.out.hd.cell 0
                      have c1 := HRB3.out.hd.cell 1
                      obtain ⟨hzb, hzk⟩ := HRB3.out.zero (.slice none 0 0) (.slice none 0 0)
                      have q0 := hzk.cell 0
                      have q1 := hzk.cell 1
                      have HZB := Lib.hid hzb
                      clear hzb hzk
                      go_wp2_with fail
                      refine bodyPost_ret (v := .tuple #[.agg #[.slice none 0 0, .slice none 0 0], .int .i64 ((k : Int) + 1), .int .i64 (2)]) (by simp [results, Tryz.results12, go_sem, q0, q1]; try omega) rfl ?_
                      rw [HRD.out]
                      first
                        | exact ⟨none, none, 0, 0, 0, 0, rfl, ⟨Sl.nil _ _ _, Sl.nil _ _ _, Nat.le_refl _, Nat.le_refl _⟩, HZB.out⟩
                        | exact ⟨none, none, 0, 0, 0, 0, rfl, ⟨Sl.nil _ _ _, Sl.nil _ _ _, Nat.le_refl _, Nat.le_refl _⟩, HZB.out.drew⟩
                  · rw [decide_eq_false hF] at hwf
                    have HQ := Lib.hid (show stepN q y = none by rw [HST2.out]; unfold stepNW; rw [if_neg (fun h => hB h.1), if_neg (fun h => hM h.1), if_neg (fun h => hF h.1)])
                    have HRD := Lib.hid (show readN x = .no ((k : Int) + 1) 2 from readN_err (by omega) (by rw [← HLL.out, ← HR.out]; exact HRUN.out.trans (HSP.out HQ.out)))
                    have f0 := HRB3.out.hd.frozen 0
                    have f1 := HRB3.out.hd.frozen 1
                    have c0 := HRB3.out.hd.cell 0
                    have c1 := HRB3.out.hd.cell 1
                    obtain ⟨hzb, hzk⟩ := HRB3.out.zero (.slice none 0 0) (.slice none 0 0)
                    have q0 := hzk.cell 0
                    have q1 := hzk.cell 1
                    have HZB := Lib.hid hzb
                    clear hzb hzk
                    go_wp2_with fail
                    refine bodyPost_ret (v := .tuple #[.agg #[.slice none 0 0, .slice none 0 0], .int .i64 ((k : Int) + 1), .int .i64 (2)]) (by simp [results, Tryz.results12, go_sem, q0, q1]; try omega) rfl ?_
                    rw [HRD.out]
                    first
                      | exact ⟨none, none, 0, 0, 0, 0, rfl, ⟨Sl.nil _ _ _, Sl.nil _ _ _, Nat.le_refl _, Nat.le_refl _⟩, HZB.out⟩
                      | exact ⟨none, none, 0, 0, 0, 0, rfl, ⟨Sl.nil _ _ _, Sl.nil _ _ _, Nat.le_refl _, Nat.le_refl _⟩, HZB.out.drew⟩
    · have hkR : k = R.length := by omega
      have hrn : runN 0 .init R = .inl q := by
        have h9 := HRUN.out
        rw [List.drop_of_length_le (by omega)] at h9
        exact h9
      have HRN := Lib.hid (show runN 0 .init ((splitT 10 x).take ((splitT 10 x).length - 1)) = .inl q by rw [← HLL.out, ← HR.out]; exact hrn)
      have hlast : L.length - 1 < L.length := by omega
      obtain ⟨o, ho, hgw, hcy⟩ := HSL.out.atT hlast
      obtain rfl : 0 = o := by injection ho with h; injection h
      simp only [Nat.zero_add] at hcy
      have HLA := Lib.hid (show (splitT 10 x).getD ((splitT 10 x).length - 1) [] = L[L.length - 1] by rw [← HLL.out, List.getD_eq_getElem?_getD, List.getElem?_eq_getElem hlast]; rfl)
      have HX3 := Lib.hid (show x.length ≤ 1500 by omega)
      generalize L[L.length - 1] = y at hcy HLA
      obtain ⟨sy, hsy⟩ : ∃ sy : ByteArray, sy = ⟨y.toArray⟩ := ⟨_, rfl⟩
      have hye := word_eqN y []
      rw [← hsy] at hcy hye
      clear hsy ho hrn hgw
      cases hen : q.en
      · have HRD := Lib.hid (show readN x = .no (L.length : Int) 2 by rw [readN_open HX3.out HRN.out (.inl hen), ← HLL.out])
        have f0 := HRB.out.hd.frozen 0
        have f1 := HRB.out.hd.frozen 1
        have c0 := HRB.out.hd.cell 0
        have c1 := HRB.out.hd.cell 1
        obtain ⟨hzb, hzk⟩ := HRB.out.zero (.slice none 0 0) (.slice none 0 0)
        have q0 := hzk.cell 0
        have q1 := hzk.cell 1
        have HZB := Lib.hid hzb
        clear hzb hzk
        go_wp2_with fail
        refine bodyPost_ret (v := .tuple #[.agg #[.slice none 0 0, .slice none 0 0], .int .i64 ((L.length : Int)), .int .i64 (2)]) (by simp [results, Tryz.results12, go_sem, q0, q1]; try omega) rfl ?_
        rw [HRD.out]
        first
          | exact ⟨none, none, 0, 0, 0, 0, rfl, ⟨Sl.nil _ _ _, Sl.nil _ _ _, Nat.le_refl _, Nat.le_refl _⟩, HZB.out⟩
          | exact ⟨none, none, 0, 0, 0, 0, rfl, ⟨Sl.nil _ _ _, Sl.nil _ _ _, Nat.le_refl _, Nat.le_refl _⟩, HZB.out.drew⟩
      · by_cases hy0 : y = []
        · have hyb : (sy.toList == []) = true := by rw [hye, decide_eq_true hy0]
          have HNE := Lib.hid (show ¬ (q.en = false ∨ (splitT 10 x).getD ((splitT 10 x).length - 1) [] ≠ []) by rw [HLA.out, hen]; simp [hy0])
          obtain ⟨d1, hd1, hSb⟩ := Sl.of_own encI_len rfl HRB.out.rb
          obtain ⟨d2, hd2, hSm⟩ := Sl.of_own encM_len rfl HRB.out.rm
          have HNM := Lib.hid (show NetM wr d1 d2 Ab Am q.bs.length cb q.ms.length cm q.bs q.ms from ⟨hSb, hSm, own_capN HRB.out.rb, own_capN HRB.out.rm⟩)
          have e0 := HRB.out.hd.cell 0
          have e1 := HRB.out.hd.cell 1
          obtain ⟨ce, hce⟩ : ∃ z, z = chkNet q.bs q.ms := ⟨_, rfl⟩
          have hlo := HRB.out.lo
          clear hSb hSm
          go_wp2_with fail
          refine (check_any d1 d2 Ab Am q.bs.length cb q.ms.length cm q.bs q.ms _ HNM.out (by omega) (by omega)).mono ?_
          rw [← hce]
          rintro e w2 ⟨rfl, hB2⟩
          have HRB2 := Lib.hid (HRB.out.below hB2)
          have HNM2 := Lib.hid (HNM.out.old hB2)
          clear hB2 e0 e1 hcy
          by_cases hc : ce = 0
          · have HRD := Lib.hid (show readN x = ⟨q.bs, q.ms, 0, 0⟩ from readN_ok HX3.out HRN.out HNE.out (hce.symm.trans hc))
            have HN9 := Lib.hid (show NetM ((w2.setCell ⟨W.heap.size, 0, none⟩ (.slice Ab q.bs.length cb)).setCell ⟨W.heap.size, 1, none⟩ (.slice Am q.ms.length cm)) d1 d2 Ab Am q.bs.length cb q.ms.length cm q.bs q.ms from
              ⟨(HNM2.out.b.setCell (p := ⟨W.heap.size, 0, none⟩) (fun _ => by show d1 ≠ W.heap.size; omega) _).setCell (p := ⟨W.heap.size, 1, none⟩) (fun _ => by show d1 ≠ W.heap.size; omega) _, (HNM2.out.m.setCell (p := ⟨W.heap.size, 0, none⟩) (fun _ => by show d2 ≠ W.heap.size; omega) _).setCell (p := ⟨W.heap.size, 1, none⟩) (fun _ => by show d2 ≠ W.heap.size; omega) _, HNM2.out.cb, HNM2.out.cm⟩)
            clear hce
            subst hc
            have f0 := HRB2.out.hd.frozen 0
            have f1 := HRB2.out.hd.frozen 1
            have c0 := HRB2.out.hd.cell 0
            have c1 := HRB2.out.hd.cell 1
            obtain ⟨hzb, hzk⟩ := HRB2.out.zero (.slice Ab q.bs.length cb) (.slice Am q.ms.length cm)
            have q0 := hzk.cell 0
            have q1 := hzk.cell 1
            have HZB := Lib.hid hzb
            clear hzb hzk
            go_wp2_with fail
            refine bodyPost_ret (v := .tuple #[.agg #[.slice Ab q.bs.length cb, .slice Am q.ms.length cm], .int .i64 0, .int .i64 0]) (by simp [results, Tryz.results12, go_sem, q0, q1]; try omega) rfl ?_
            rw [HRD.out]
            exact ⟨Ab, Am, cb, cm, d1, d2, rfl, HN9.out, HZB.out⟩
          · have hcb : (ce != 0) = true := by simpa using hc
            have HRD := Lib.hid (show readN x = .no 0 ce from (by rw [hce]; exact readN_bad HX3.out HRN.out HNE.out (by rw [← hce]; exact hc)))
            clear hce
            have f0 := HRB2.out.hd.frozen 0
            have f1 := HRB2.out.hd.frozen 1
            have c0 := HRB2.out.hd.cell 0
            have c1 := HRB2.out.hd.cell 1
            obtain ⟨hzb, hzk⟩ := HRB2.out.zero (.slice none 0 0) (.slice none 0 0)
            have q0 := hzk.cell 0
            have q1 := hzk.cell 1
            have HZB := Lib.hid hzb
            clear hzb hzk
            go_wp2_with fail
            refine bodyPost_ret (v := .tuple #[.agg #[.slice none 0 0, .slice none 0 0], .int .i64 0, .int .i64 (ce)]) (by simp [results, Tryz.results12, go_sem, q0, q1]; try omega) rfl ?_
            rw [HRD.out]
            first
              | exact ⟨none, none, 0, 0, 0, 0, rfl, ⟨Sl.nil _ _ _, Sl.nil _ _ _, Nat.le_refl _, Nat.le_refl _⟩, HZB.out⟩
              | exact ⟨none, none, 0, 0, 0, 0, rfl, ⟨Sl.nil _ _ _, Sl.nil _ _ _, Nat.le_refl _, Nat.le_refl _⟩, HZB.out.drew⟩
        · have hyb : (sy.toList == []) = false := by rw [hye, decide_eq_false hy0]
          have HRD := Lib.hid (show readN x = .no (L.length : Int) 2 by rw [readN_open HX3.out HRN.out (.inr (by rw [HLA.out]; exact hy0)), ← HLL.out])
          have f0 := HRB.out.hd.frozen 0
          have f1 := HRB.out.hd.frozen 1
          have c0 := HRB.out.hd.cell 0
          have c1 := HRB.out.hd.cell 1
          obtain ⟨hzb, hzk⟩ := HRB.out.zero (.slice none 0 0) (.slice none 0 0)
          have q0 := hzk.cell 0
          have q1 := hzk.cell 1
          have HZB := Lib.hid hzb
          clear hzb hzk
          go_wp2_with fail
          refine bodyPost_ret (v := .tuple #[.agg #[.slice none 0 0, .slice none 0 0], .int .i64 ((L.length : Int)), .int .i64 (2)]) (by simp [results, Tryz.results12, go_sem, q0, q1]; try omega) rfl ?_
          rw [HRD.out]
          first
            | exact ⟨none, none, 0, 0, 0, 0, rfl, ⟨Sl.nil _ _ _, Sl.nil _ _ _, Nat.le_refl _, Nat.le_refl _⟩, HZB.out⟩
            | exact ⟨none, none, 0, 0, 0, 0, rfl, ⟨Sl.nil _ _ _, Sl.nil _ _ _, Nat.le_refl _, Nat.le_refl _⟩, HZB.out.drew⟩
end Go.Proofs.YtkphgdkjjklajaaGreatDoor
