/-
  The walk of the law TraceMore.
-/
import Derived.Test.YtkphgdkjjklajaaTrLaw
import Derived.Deep.QuietTactic
import Derived.Deep.CutRange
import Derived.BigQuiet
set_option linter.unusedVariables false
set_option linter.unusedSimpArgs false
namespace Go.Proofs.Ytkphgdkjjklajaa
open Go.RowKit Go.Shelf Go.Sort

theorem more_may {bs : List Int} {ms : List Mv} (h : NetIn bs ms) {l k : List Int} (hlk : ∀ x ∈ l, x ∈ k) (b : Int) : (mayT bs l ms b).lo ≤ (mayT bs k ms b).lo ∧ (mayT bs l ms b).hi ≤ (mayT bs k ms b).hi := by
  have h1 := mostF_mono (n := bs.length) h.pos (others_mono (n := bs.length) hlk) ms b
  have h2 := mostF_mono (n := bs.length) h.pos hlk ms b
  unfold mayT
  simp only
  omega

theorem recall_len (bs : List Int) (ms : List Mv) (l : List Int) : (recallT bs ms l).length ≤ bs.length := by
  unfold recallT
  refine Nat.le_trans (List.length_filter_le ..) ?_
  rw [rg_length]
  exact Nat.le_refl _
set_option maxRecDepth 100000 in
set_option maxHeartbeats 2000000 in
theorem traceMore_any (A : Option Addr) (n c : Nat) (w : World) (hN : Nums w A n) : Calls Try.prog 4 #[.slice A n c] w fun e w' => e = .returned (.bool true) ∧ Below w.heap.size w w' := by
  obtain ⟨i0, hi, iz0, iz1, iz2⟩ := info_parts info_int
  go_enter Try.func4, Try.ntmps4
  obtain ⟨b, l0, hl0, hw0, hn0⟩ := hN
  go_wp2_with fail
  refine (dieOf_any b n c A l0 _ hl0 hn0 hw0).mono ?_
  rintro e w1 ⟨d, hd, rfl, hdie, hB1⟩
  have HB1 := Lib.hid hB1
  have hz1 := hB1.size
  clear hl0 hw0 hB1
  go_wp2_with fail
  refine (one_any d _ 2 2 _ [5, 60] _ (hdie.alloc _) (Sl.newI w1 [5, 60] 3) (by omega) (by omega) (by have := hdie.lt; omega)).mono ?_
  rintro e w2 ⟨g, hg, rfl, hd2, hg2⟩
  have hgb : 0 ≤ g ∧ g ≤ 1000000 := by simp at hg; omega
  have HG2 := Lib.hid (only_step hg2 (only_alloc (only_refl w1 d) _) (.inl rfl))
  clear hg hg2
  go_wp2_with fail
  refine (netOf_any d 6 9 g _ hd2 (by omega) (by omega) (by omega) hgb.1 hgb.2).mono ?_
  rintro e w3 ⟨bs, ms, b1, b2, Ab, Am, nb, cb, nm, cm, hNI, hnb, hnm, rfl, hNM, hb1, hb2, hd3, hg3⟩
  have hz2 := HG2.out.size
  have hg13 := only_trans HG2.out hg3
  have hz3 := hg3.size
  have hdz2 := hd2.lt
  have HB3 := Lib.hid (Below.stepG hg13 HB1.out (Nat.le_refl _) hd)
  have HS3 := Lib.hid (show LawSt w (w3.alloc (.cells #[.slice Ab nb cb, .slice Am nm cm] 25)) d w3.heap.size b1 b2 Ab Am nb cb nm cm bs ms from ⟨HB3.out.alloc HB3.out.size _, Blk.new w3 _ _, hNM.old ((Below.refl _ w3).alloc (Nat.le_refl _) _), hNI, hd3.alloc _, by omega, by omega, by omega, hd⟩)
  have hnb8 : nb ≤ 8 := by omega
  have hnm12 : nm ≤ 12 := by omega
  have HNB := Lib.hid HS3.out.nb_eq
  have HNMq := Lib.hid HS3.out.nm_eq
  clear hd2 hNM hNI hd3 hg3 hg13 hb1 hb2
  have c0 := HS3.out.blk.cell 0
  have c1 := HS3.out.blk.cell 1
  go_wp2_with fail
  refine (originsOf_any d nb cb nm cm Ab Am _ HS3.out.die (by omega)).mono ?_
  rintro e w4 ⟨l, Ao, co, hl, rfl, hol, hd4, hg4⟩
  rw [HNB.out] at hl
  obtain ⟨b3, hb3, hsl⟩ := Sl.of_own (enc := encI) encI_len rfl hol
  have hl8 : l.length ≤ 8 := by have := orig_len hl.nodup hl.rg HS3.out.ni.n1; omega
  have hzd := HS3.out.die.lt
  have HS4 := Lib.hid (HS3.out.dieTo hd4 hg4)
  have HSL := Lib.hid hsl
  have HL := Lib.hid hl
  have hz4 := hg4.size
  simp only [World.size_alloc] at hz4 hb3 hzd
  clear hol hd4 hg4 hsl hl c0 c1
  go_wp2_with fail
  go_loopw [6, 7] (fun v i wr => ∃ (k cL : Nat) (AL : Option Addr) (ls : List Int), k ≤ l.length ∧ i = .int .i64 k ∧ v = .slice AL ls.length cL ∧ ls.Pairwise (· < ·) ∧ (∀ x ∈ ls, x ∈ l.take k) ∧ wr.ownsRow w4.heap.size 3 1 (.slice AL ls.length cL) ls.length (ls.flatMap encI) ∧ LawSt w wr d w3.heap.size b1 b2 Ab Am nb cb nm cm bs ms ∧ Sl encI 1 wr b3 Ao l.length l ∧ w4.heap.size ≤ wr.heap.size) (fun _ i _ => l.length - (intOf i).toNat)
  case atStart => exact ⟨0, 0, none, [], Nat.zero_le _, rfl, rfl, List.Pairwise.nil, by simp, World.ownsRow_nil _ _ _ _, HS4.out, HSL.out, Nat.le_refl _⟩
  case round =>
    obtain ⟨k, cL, AL, ls, hk, rfl, rfl, hpw, hsub, hown, hS, hsl, hz4r⟩ := hrel
    have HZ4 := Lib.hid hz4r
    have HPW := Lib.hid hpw
    have HSUB := Lib.hid hsub
    have HOWN := Lib.hid hown
    have HS := Lib.hid hS
    have HSL2 := Lib.hid hsl
    clear hpw hsub hown hS hsl
    have HKL := Lib.hid (show k ≤ l.length from hk)
    have hlsl : ls.length ≤ 8 := by
      have h1 : ls.Nodup := by rw [List.nodup_iff_pairwise_ne]; exact HPW.out.imp fun h => by omega
      have := orig_len h1 (n := bs.length) (fun o ho => HL.out.rg o (List.mem_of_mem_take (HSUB.out o ho))) HS3.out.ni.n1
      omega
    by_cases hlt : k < l.length
    · have hb3z : b3 < w4.heap.size := HSL.out.lt (by omega)
      obtain ⟨o, rfl, hbz, s0⟩ := HSL2.out.atI hlt
      have HTK := Lib.hid (List.take_succ_eq_append_getElem hlt)
      have HBIG := Lib.hid (fun (x : Int) (hx : x ∈ l.take k) => (show x < l[k] from by
        obtain ⟨j, hj, rfl⟩ := List.getElem_of_mem hx
        rw [List.getElem_take]
        have hj2 : j < k := by rw [List.length_take] at hj; omega
        exact List.pairwise_iff_getElem.1 HL.out.up j k (by omega) hlt hj2))
      generalize l[k] = x at s0 HTK HBIG
      have k0 : (0 : Int) ≤ (k : Int) := by omega
      have k1 : (k : Int) < (l.length : Int) := by omega
      go_wp2_with fail
      refine (once_any d 2 _ HS.out.die (by omega)).mono ?_
      rintro e w5 ⟨bb, rfl, hd5, hg5⟩
      have HS5 := Lib.hid (HS.out.dieTo hd5 hg5)
      have HO5 := Lib.hid (ownsRow_die HOWN.out hg5 (by omega))
      have hsl5 := HSL2.out.grown hg5 (fun _ e => by injection e; omega)
      have HSL5 := Lib.hid hsl5
      have hz5 := hg5.size
      have hown4 : w4.heap.size ≤ w5.heap.size := by have := HS.out.low.size; exact Nat.le_trans HZ4.out hz5
      obtain ⟨o2, ho2, hbz2, s1⟩ := hsl5.atI hlt
      obtain rfl : o2 = o := by injection ho2 with h; injection h with _ h; exact h.symm
      have hx : l[k] = x := by
        have h1 := HTK.out
        rw [List.take_succ_eq_append_getElem hlt] at h1
        exact List.singleton_inj.1 (List.append_cancel_left h1)
      rw [hx] at s1
      clear hx hsl5 ho2
      clear hd5 hg5 s0
      cases bb
      · go_wp2_with fail
        go_roundw
        case rel => exact ⟨k + 1, cL, AL, ls, by omega, by go_num, rfl, HPW.out, fun y hy => by rw [HTK.out]; exact List.mem_append_left _ (HSUB.out y hy), HO5.out, HS5.out, HSL5.out, by omega⟩
        case measure => simp [intOf]; omega
      · go_wp2_with (at_builtin; refine wpList_append_sl rfl _ _ 22 rfl w4.heap.size 3 i0 _ 8 Try.underlying22 hi iz0 iz1 iz2 rfl (by omega) encI_len _ ls.length _ rfl (HO5.out.alloc _) w5.heap.size _ 1 1 [x] rfl (Sl.newI w5 [x] 3) oneI (by unfold maxLen; omega) (by omega) (by simp only [World.size_alloc]; omega) ?_; intro A6 c6 w6 hO6 hg6 _; have HO6 := Lib.hid hO6; have hoA := HO5.out.alloc (.cells #[.int .i64 x] 3); have HS6 := Lib.hid ((HS5.out.alloc (.cells #[.int .i64 x] 3)).grownOn HS4.out hg6 (fun r e => (hoA.lt r e).1)); have HSL6 := Lib.hid ((HSL5.out.alloc (.cells #[.int .i64 x] 3)).grown hg6 (fun _ e => by have := (hoA.lt b3 e.symm).1; have := hb3z; omega)); have hz6 := hg6.size; clear hO6 hg6 hoA)
        go_roundw
        case rel =>
          have e : ls.length + 1 = (ls ++ [x]).length := by simp
          refine ⟨k + 1, c6, A6, ls ++ [x], by omega, by go_num, by rw [e], ?_, fun y hy => ?_, ?_, HS6.out, HSL6.out, by simp at hz6; omega⟩
          · rw [List.pairwise_append]
            refine ⟨HPW.out, List.pairwise_singleton .., fun a ha b hb => ?_⟩
            rw [List.mem_singleton.1 hb]
            exact HBIG.out a (HSUB.out a ha)
          · rw [HTK.out]
            rcases List.mem_append.1 hy with h | h
            · exact List.mem_append_left _ (HSUB.out y h)
            · exact List.mem_append_right _ h
          · rw [← e, List.flatMap_append]; exact HO6.out
        case measure => simp [intOf]; omega
    · obtain rfl : k = l.length := by omega
      have hsub : ∀ x ∈ ls, x ∈ l := fun x hx => by have := HSUB.out x hx; rwa [List.take_length] at this
      have HSB := Lib.hid hsub
      have HOL := Lib.hid (show OrgIn bs.length ls from ⟨fun o ho => HL.out.rg o (hsub o ho), HPW.out⟩)
      obtain ⟨b4, hb4, hsl4⟩ := Sl.of_own (enc := encI) encI_len rfl HOWN.out
      have HSX := Lib.hid hsl4
      have c0 := HS.out.blk.cell 0
      have c1 := HS.out.blk.cell 1
      clear hsub hsl4
      go_wp2_with fail
      refine (HS.out.reach HSL2.out HL.out).mono ?_
      rintro e w5 ⟨A5, c5, b5, rfl, hs5, hB5⟩
      have HS5 := Lib.hid (HS.out.below hB5)
      have HA5 := Lib.hid hs5
      have HSL5 := Lib.hid (HSL2.out.old hB5)
      have HSX5 := Lib.hid (HSX.out.old hB5)
      clear c0 c1
      have c0 := HS5.out.blk.cell 0
      have c1 := HS5.out.blk.cell 1
      clear hs5 hB5
      go_wp2_with fail
      refine (HS5.out.reach HSX5.out HOL.out).mono ?_
      rintro e w6 ⟨A6, c6, b6, rfl, hs6, hB6⟩
      have HS6 := Lib.hid (HS5.out.below hB6)
      have HA6 := Lib.hid (HA5.out.old hB6)
      have HB6 := Lib.hid hs6
      have HSL6 := Lib.hid (HSL5.out.old hB6)
      have HSX6 := Lib.hid (HSX5.out.old hB6)
      clear c0 c1
      have c0 := HS6.out.blk.cell 0
      have c1 := HS6.out.blk.cell 1
      clear hs6 hB6
      go_wp2_with fail
      refine (HS6.out.recall HSL6.out HL.out).mono ?_
      rintro e w7 ⟨A7, c7, b7, rfl, hs7, hB7⟩
      have HS7 := Lib.hid (HS6.out.below hB7)
      have HA7 := Lib.hid (HA6.out.old hB7)
      have HB7 := Lib.hid (HB6.out.old hB7)
      have HP7 := Lib.hid hs7
      have HSX7 := Lib.hid (HSX6.out.old hB7)
      clear c0 c1
      have c0 := HS7.out.blk.cell 0
      have c1 := HS7.out.blk.cell 1
      clear hs7 hB7
      go_wp2_with fail
      refine (HS7.out.recall HSX7.out HOL.out).mono ?_
      rintro e w8 ⟨A8, c8, b8, rfl, hs8, hB8⟩
      have HS8 := Lib.hid (HS7.out.below hB8)
      have HA8 := Lib.hid (HA7.out.old hB8)
      have HB8 := Lib.hid (HB7.out.old hB8)
      have HP8 := Lib.hid (HP7.out.old hB8)
      have HQ8 := Lib.hid hs8
      clear c0 c1 hs8 hB8
      have hr1 := recall_len bs ms l
      have hr2 := recall_len bs ms ls
      have hbs8 := HS3.out.ni.n1
      go_wp2_with fail
      go_loopw [16] (fun i wr => ∃ k : Nat, k ≤ nb ∧ i = .int .i64 k ∧ LawSt w wr d w3.heap.size b1 b2 Ab Am nb cb nm cm bs ms ∧ Sl encR 2 wr b5 A5 nb (reachT bs ms l) ∧ Sl encR 2 wr b6 A6 nb (reachT bs ms ls) ∧ Sl encI 1 wr b7 A7 (recallT bs ms l).length (recallT bs ms l) ∧ Sl encI 1 wr b8 A8 (recallT bs ms ls).length (recallT bs ms ls)) (fun i _ => nb - (intOf i).toNat)
      case atStart => exact ⟨0, Nat.zero_le _, rfl, HS8.out, HA8.out, HB8.out, HP8.out, HQ8.out⟩
      case round =>
        obtain ⟨k, hk, rfl, hS, hA, hB, hP, hQ⟩ := hrel
        have HSk := Lib.hid hS
        have HAk := Lib.hid hA
        have HBk := Lib.hid hB
        have HPk := Lib.hid hP
        have HQk := Lib.hid hQ
        by_cases hlt : k < nb
        · have hkb : k < bs.length := by have := HNB.out; omega
          obtain ⟨o5, rfl, _, x0, x1⟩ := hA.atR (k := k) (by rw [reach_len]; exact hkb)
          obtain ⟨o6, rfl, _, y0, y1⟩ := hB.atR (k := k) (by rw [reach_len]; exact hkb)
          rw [reach_get _ _ _ hkb] at x0 x1 y0 y1
          obtain ⟨m1, m2⟩ := more_may HS3.out.ni HSB.out (k : Int)
          generalize mayT bs l ms k = X at x0 x1 m1 m2
          generalize mayT bs ls ms k = Y at y0 y1 m1 m2
          have t1 : decide (X.lo < Y.lo) = false := by simp; omega
          have t2 : decide (X.hi < Y.hi) = false := by simp; omega
          have k0 : (0 : Int) ≤ (k : Int) := by omega
          have k1 : (k : Int) < (nb : Int) := by omega
          clear hS hA hB hP hQ m1 m2
          go_wp2_with fail
          go_quiet (fail)
          go_wp2_with fail
          exact ⟨⟨k + 1, by omega, by go_num, HSk.out.below (below_drewN (Below.refl _ wr) _), HAk.out, HBk.out, HPk.out, HQk.out⟩, by simp [intOf]; omega⟩
        · obtain rfl : nb = k := by omega
          clear hS hA hB hP hQ
          go_wp2_with fail
          go_loopw [17] (fun i wr => ∃ k : Nat, k ≤ (recallT bs ms ls).length ∧ i = .int .i64 k ∧ LawSt w wr d w3.heap.size b1 b2 Ab Am nb cb nm cm bs ms ∧ Sl encI 1 wr b7 A7 (recallT bs ms l).length (recallT bs ms l) ∧ Sl encI 1 wr b8 A8 (recallT bs ms ls).length (recallT bs ms ls)) (fun i _ => (recallT bs ms ls).length - (intOf i).toNat)
          case atStart => exact ⟨0, Nat.zero_le _, rfl, HSk.out, HPk.out, HQk.out⟩
          case round =>
            obtain ⟨j, hj, rfl, hS, hP, hQ⟩ := hrel
            have HSj := Lib.hid hS
            have HPj := Lib.hid hP
            have HQj := Lib.hid hQ
            by_cases hlt2 : j < (recallT bs ms ls).length
            · obtain ⟨o8, rfl, _, z0⟩ := hQ.atI hlt2
              have hmem := recall_mono (bs := bs) HS3.out.ni.pos HSB.out ms _ (List.getElem_mem hlt2)
              generalize (recallT bs ms ls)[j] = x at z0 hmem
              have HME := Lib.hid (decide_eq_true hmem)
              have j0 : (0 : Int) ≤ (j : Int) := by omega
              have j1 : (j : Int) < ((recallT bs ms ls).length : Int) := by omega
              clear hS hP hQ hmem
              go_wp2_with fail
              refine (has_any b7 _ c7 A7 _ x _ HPj.out (by omega)).mono ?_
              rw [HME.out]
              rintro e w9 ⟨rfl, rfl⟩
              go_wp2_with fail
              exact ⟨⟨j + 1, by omega, by go_num, HSj.out, HPj.out, HQj.out⟩, by simp [intOf]; omega⟩
            · have hje : j = (recallT bs ms ls).length := by omega
              clear hS hP hQ
              go_wp2_with fail
              refine (kawake_any _).mono ?_
              rintro e w9 ⟨rfl, hB9⟩
              have HL9 := Lib.hid ((HSj.out.below hB9).low)
              clear hB9
              go_wp2_with fail
              go_ret
              exact ⟨rfl, HL9.out⟩
end Go.Proofs.Ytkphgdkjjklajaa
