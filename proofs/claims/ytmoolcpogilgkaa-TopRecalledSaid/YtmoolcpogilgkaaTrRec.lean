/-
  trace.Recall: the batches that hold some of the origins, sorted.
-/
import Derived.Test.YtmoolcpogilgkaaTrThr
set_option linter.unusedVariables false
set_option linter.unusedSimpArgs false
namespace Go.Proofs.Ytmoolcpogilgkaa
open Go.RowKit Go.Shelf Go.Sort

/-- the origins that are batches of something -/
def hitO (bs l : List Int) (k : Nat) : List Int := (l.take k).filter fun b => decide (0 < bsF bs b)
theorem hitO_yes {bs l : List Int} {k : Nat} (hk : k < l.length) (h : 0 < bsF bs l[k]) : hitO bs l (k + 1) = hitO bs l k ++ [l[k]] := by
  unfold hitO; rw [List.take_succ_eq_append_getElem hk, List.filter_append]; simp [h]
theorem hitO_no {bs l : List Int} {k : Nat} (hk : k < l.length) (h : ¬ 0 < bsF bs l[k]) : hitO bs l (k + 1) = hitO bs l k := by
  unfold hitO; rw [List.take_succ_eq_append_getElem hk, List.filter_append]; simp [h]
theorem hitO_len (bs l : List Int) (k : Nat) : (hitO bs l k).length ≤ l.length := by
  unfold hitO
  refine Nat.le_trans (List.length_filter_le ..) ?_
  rw [List.length_take]; omega
/-- the batches that a move brings some to -/
def hitL (ms : List Mv) (xs : List Span) (k : Nat) : List Int := (((ms.zip xs).take k).filter fun p => decide (0 < p.2.hi)).map fun p => p.1.to
theorem hitL_yes {ms : List Mv} {xs : List Span} {k : Nat} (hk : k < ms.length) (hx : k < xs.length) (h : 0 < xs[k].hi) : hitL ms xs (k + 1) = hitL ms xs k ++ [ms[k].to] := by
  unfold hitL; rw [List.take_succ_eq_append_getElem (by rw [List.length_zip]; omega), List.filter_append]; simp [h]
theorem hitL_no {ms : List Mv} {xs : List Span} {k : Nat} (hk : k < ms.length) (hx : k < xs.length) (h : ¬ 0 < xs[k].hi) : hitL ms xs (k + 1) = hitL ms xs k := by
  unfold hitL; rw [List.take_succ_eq_append_getElem (by rw [List.length_zip]; omega), List.filter_append]; simp [h]
theorem hitL_len (ms : List Mv) (xs : List Span) (k : Nat) : (hitL ms xs k).length ≤ ms.length := by
  unfold hitL
  rw [List.length_map]
  refine Nat.le_trans (List.length_filter_le ..) ?_
  rw [List.length_take, List.length_zip]; omega
theorem mem_hitL {ms : List Mv} {xs : List Span} (h : xs.length = ms.length) (b : Int) : b ∈ hitL ms xs ms.length ↔ hitT b ms xs = true := by
  have e : hitL ms xs ms.length = ((ms.zip xs).filter fun p => decide (0 < p.2.hi)).map fun p => p.1.to := by
    unfold hitL; rw [List.take_of_length_le (by rw [List.length_zip]; omega)]
  rw [e]
  clear e
  induction ms generalizing xs with
  | nil => cases xs <;> simp [hitT]
  | cons m ms ih =>
    cases xs with
    | nil => simp at h
    | cons x xs =>
      have h9 : (b ∈ List.map (fun p => p.1.to) (List.filter (fun p => decide (0 < p.2.hi)) (ms.zip xs))) = (hitT b ms xs = true) := propext (ih (xs := xs) (by simpa using h))
      simp only [List.zip_cons_cons, hitT, Bool.or_eq_true, Bool.and_eq_true, decide_eq_true_eq]
      by_cases hx : 0 < x.hi
      · rw [List.filter_cons_of_pos (by simp [hx]), List.map_cons, List.mem_cons, h9]
        rw [show (m.to = b) = (b = m.to) from propext eq_comm]; simp [hx]
      · rw [List.filter_cons_of_neg (by simp [hx]), h9]
        simp [hx]
theorem recall_eq {bs : List Int} {ms : List Mv} {l ys : List Int} (hN : NetIn bs ms) (hl : OrgIn bs.length l) (h : KeysOf (hitO bs l l.length ++ hitL ms (throughT bs ms l) ms.length) ys) : srt ys = recallT bs ms l := by
  refine srt_eq h.1 ((rg_pairwise _).filter _) fun x => ?_
  have hlen : (throughT bs ms l).length = ms.length := thrT_len ..
  rw [h.2 x, List.mem_append, mem_hitL hlen]
  unfold recallT hitO
  rw [List.take_length]
  simp only [List.mem_filter, mem_rg, Bool.or_eq_true, Bool.and_eq_true, decide_eq_true_eq]
  constructor
  · rintro (⟨h1, h2⟩ | h1)
    · exact ⟨hl.rg x h1, .inl ⟨h1, h2⟩⟩
    · refine ⟨?_, .inr h1⟩
      rw [← mem_hitL hlen] at h1
      unfold hitL at h1
      obtain ⟨p, hp, rfl⟩ := List.mem_map.1 h1
      have h2 := List.mem_of_mem_take (List.mem_filter.1 hp).1
      have h3 : p.1 ∈ ms := (List.of_mem_zip h2).1
      obtain ⟨k, hk, h4⟩ := List.getElem_of_mem h3
      have h5 := hN.at_ hk
      rw [h4] at h5
      exact ⟨h5.t0, h5.t1⟩
  · rintro ⟨_, h1 | h1⟩
    · exact .inl h1
    · exact .inr h1

set_option maxRecDepth 100000 in
set_option maxHeartbeats 2000000 in
theorem sortedK_any (Bb B : Nat) (l : List Int) (hn : l.length ≤ 1000000) (w : World) (hBb : Blk w Bb 86 #[.map (some B)]) (hM : KMap (Value.int .i64) okI w B (setF l)) :
    Calls Try.prog 25 #[.func (.func 42) #[] #[.pointer (some ⟨Bb, 0, none⟩)]] w fun e w' => ∃ A c ys, KeysOf l ys ∧ e = .returned (.slice A ys.length c) ∧ w'.ownsRow w.heap.size 3 1 (.slice A ys.length c) ys.length ((srt ys).map (Value.int .i64)) ∧ Below w.heap.size w w' := by
  go_enter Try.func25, Try.ntmps25
  go_wp2_with fail
  refine (collectK_any Bb B l hn _ hBb hM).mono ?_
  rintro e w1 ⟨v, ys, hys, rfl, hrow, hb⟩
  have hyl := keysOf_len hys.1 (fun x hx => (hys.2 x).1 hx)
  rcases hrow.2 with ⟨rfl, hz⟩ | ⟨gb, cap, cur, rfl, hbase, hgb, r1, r2, r3, r4⟩
  · have hy0 : ys = [] := List.length_eq_zero_iff.1 hz
    subst hy0
    have HY := Lib.hid hys
    have HB := Lib.hid hb
    clear hys hb hrow
    go_wp2_with fail
    refine (AnyM.slices_Sort_int_none Try.sortInts none 0 w1).mono ?_
    rintro e w2 ⟨rfl, rfl⟩
    go_wp2_with fail
    go_ret
    exact ⟨none, 0, [], HY.out, rfl, by rw [show srt [] = [] by simp [srt]]; exact World.ownsRow_nil _ _ _ _, HB.out⟩
  · have HY := Lib.hid hys
    have HB := Lib.hid hb
    have HR := Lib.hid hrow
    clear hys hb hrow
    go_wp2_with fail
    refine (sortI_any w.heap.size gb cap ys w w1 (by omega) HR.out HB.out (Nat.le_refl _)).mono ?_
    rintro e w2 ⟨rfl, hrow2, hb2⟩
    have HR2 := Lib.hid hrow2
    have HB2 := Lib.hid hb2
    clear hrow2 hb2
    go_wp2_with fail
    go_ret
    exact ⟨_, cap, ys, HY.out, rfl, HR2.out, HB2.out⟩

set_option maxRecDepth 100000 in
set_option maxHeartbeats 4000000 in
theorem Recall_ok (b1 b2 b3 : Nat) (Ab Am Ao : Option Addr) (nb cb nm cm no co : Nat) (bs : List Int) (ms : List Mv) (l : List Int) (w : World) (hM : NetM w b1 b2 Ab Am nb cb nm cm bs ms) (hO : Sl encI 1 w b3 Ao no l) (hc : chkO bs ms l = 0) :
    Calls Try.prog 9 #[netV Ab Am nb cb nm cm, .slice Ao no co] w fun e w' => ∃ A c, e = .returned (.tuple #[.slice A (recallT bs ms l).length c, .int .i64 0]) ∧ w'.ownsRow w.heap.size 3 1 (.slice A (recallT bs ms l).length c) (recallT bs ms l).length ((recallT bs ms l).map (Value.int .i64)) ∧ Below w.heap.size w w' := by
  obtain ⟨hN, hl⟩ := chkO_in hc
  obtain ⟨i0, hi, iz0, iz1, iz2⟩ := info_parts info_int
  have hBn := Blk.new w 27 #[.slice Ab nb cb, .slice Am nm cm]
  have c0 := hBn.cell 0
  have c1 := hBn.cell 1
  have hb0 : Below w.heap.size w (w.alloc (.cells #[.slice Ab nb cb, .slice Am nm cm] 27)) := (Below.refl _ w).alloc (Nat.le_refl _) _
  have hnol := hO.len
  have hno8 : l.length ≤ 8 := orig_len hl.nodup hl.rg hN.n1
  have hno : no ≤ 100000 := by omega
  have hcon := checkOrigins_any b1 b2 b3 Ab Am Ao nb cb nm cm no co bs ms l _ (hM.old hb0) (by have := hM.b.len; have := hN.n1; omega) (by have := hM.m.len; have := hN.m1; omega) (hO.old hb0) hno
  rw [hc] at hcon
  have hm12 := hN.m1
  have HNB := Lib.hid hM.b.len
  have HNM := Lib.hid hM.m.len
  have HNO := Lib.hid hnol
  have HBN := Lib.hid hBn
  have HB0 := Lib.hid hb0
  have HM := Lib.hid hM
  have HO := Lib.hid hO
  have HN := Lib.hid hN
  have HL := Lib.hid hl
  have HC := Lib.hid hcon
  have HT := Lib.hid (fun (W : World) (hW : Below w.heap.size w W) => through_any b1 b2 b3 Ab Am Ao nb cb nm cm no co bs ms l W hN (hM.old hW) (hO.old hW) hl)
  clear hBn hb0 hcon hM hO hN hl hc hnol
  go_enter Try.func9, Try.ntmps9
  go_upto_region 4 with (go_at_call 23; refine HC.out.mono ?_; rintro e w1 ⟨rfl, hb1⟩; have HB1 := Lib.hid hb1; clear hb1)
  have hbw := HB0.out.trans (HB1.out.mono (by simp))
  have hbn := HBN.out.below HB1.out HBN.out.lt
  have HBW := Lib.hid hbw
  have HBN1 := Lib.hid hbn
  have hw1 := hbn.lt
  clear c0 c1 hbn hbw
  go_wp2_with fail
  go_loopw [7, 20] (fun v i wr => ∃ (k c : Nat) (A : Option Addr), k ≤ no ∧ i = .int .i64 k ∧ v = .slice A (hitO bs l k).length c ∧ wr.ownsRow w1.heap.size 3 1 (.slice A (hitO bs l k).length c) (hitO bs l k).length ((hitO bs l k).flatMap encI) ∧ Below w1.heap.size w1 wr) (fun _ i _ => no - (intOf i).toNat)
  case atStart => exact ⟨0, 0, none, Nat.zero_le _, rfl, rfl, World.ownsRow_nil _ _ _ _, Below.refl _ _⟩
  case round =>
    obtain ⟨k, c, A, hk, rfl, rfl, hown, hB⟩ := hrel
    have hz := hB.size
    have hBn := HBN1.out.below hB hw1
    have HB := Lib.hid hB
    have HOWN := Lib.hid hown
    have HBN2 := Lib.hid hBn
    have hBW := HBW.out.trans (hB.mono HBW.out.size)
    have HBW2 := Lib.hid hBW
    by_cases hlt : k < no
    · as_aux_lemma =>
      have hkl : k < l.length := by have := HNO.out; omega
      obtain ⟨o, rfl, hbz, s0⟩ := (HO.out.old hBW).atI hkl
      have hrg := HL.out.rg _ (List.getElem_mem hkl)
      have hY := @hitO_yes bs l k hkl
      have hY2 := @hitO_no bs l k hkl
      have hlen := hitO_len bs l k
      generalize hx : l[k] = x at s0 hrg hY hY2
      obtain ⟨i, rfl⟩ := Int.eq_ofNat_of_zero_le hrg.1
      have hib : i < bs.length := by omega
      have hinb : i < nb := by have := HNB.out; omega
      obtain ⟨o1, rfl, hbz1, s1⟩ := (HM.out.b.old hBW).atI hib
      rw [bsF_get hib] at hY hY2
      generalize bs[i] = y at s1 hY hY2
      have d0 := hBn.cell 0
      obtain ⟨hn, hhn⟩ : ∃ hn, hn = (hitO bs l k).length := ⟨_, rfl⟩
      rw [← hhn] at hlen
      have HOWN3 := Lib.hid (show wr.ownsRow w1.heap.size 3 1 (.slice A hn c) hn ((hitO bs l k).flatMap encI) from by rw [hhn]; exact HOWN.out)
      rw [← hhn]
      have HHN := Lib.hid hhn
      by_cases hy : 0 < y
      · have HY := Lib.hid (hY hy)
        clear hx hB hown hBn hBW hrg hY hY2 hhn
        go_wp2_with (at_builtin; refine wpList_append_sl rfl _ _ 22 rfl w1.heap.size 3 i0 _ 8 Try.underlying22 hi iz0 iz1 iz2 rfl (by omega) encI_len _ hn _ rfl (HOWN3.out.alloc _) wr.heap.size _ 1 1 [(i : Int)] rfl (oneCellNew wr i) oneI (by unfold maxLen; omega) (by omega) (by simp; omega) ?_; intro A1 c1 w2 hown1 hgrow _; have HO1 := Lib.hid hown1; have HB2 := Lib.hid (below_own (HOWN3.out.alloc _) hgrow (HB.out.alloc hz _) (Nat.le_refl _) (Nat.le_refl _)); clear hown1 hgrow)
        have e : (hitO bs l (k + 1)).length = hn + 1 := by rw [HY.out, List.length_append, ← HHN.out]; rfl
        go_roundw
        case rel => exact ⟨k + 1, c1, A1, by omega, by go_num, by rw [e], by rw [e, HY.out, List.flatMap_append]; simpa using HO1.out, HB2.out⟩
        case measure => simp [intOf]; omega
      · have HY := Lib.hid (hY2 hy)
        clear hx hB hown hBn hBW hrg hY hY2 hhn
        go_wp2_with fail
        go_roundw
        case rel => exact ⟨k + 1, c, A, by omega, by go_num, by rw [HY.out, HHN.out], by rw [HY.out]; exact HOWN.out, HB.out⟩
        case measure => simp [intOf]; omega
    · obtain rfl : k = no := by omega
      clear hB hown
      have d0 := hBn.cell 0
      have d1 := hBn.cell 1
      clear hBn
      go_wp2_with (go_at_call 24; refine (HT.out _ hBW).mono ?_; rintro e w3 ⟨A3, c3, rfl, hown3, hb3⟩)
      have hz3 := hb3.size
      have hB3 : Below w1.heap.size w1 w3 := HB.out.trans (hb3.mono hz)
      obtain ⟨H0, hH0⟩ : ∃ H0, H0 = hitO bs l k := ⟨_, rfl⟩
      have hH8 : H0.length ≤ 8 := by rw [hH0]; have := hitO_len bs l k; omega
      obtain ⟨b4, hb4, hs4⟩ := Sl.of_own (enc := encR) encR_len (by have := thrT_len bs l [] ms; have := HNM.out; unfold throughT; omega) hown3
      have hown4 := ownsRow_below HOWN.out hb3 (Nat.le_refl _)
      have hne : ∀ g, Value.ownBlock (.slice A (hitO bs l k).length c) = some g → g ≠ b4 := fun g e => by have := (HOWN.out.lt g e).2; omega
      rw [← hH0] at hown4 hne ⊢
      obtain ⟨xs, hxs⟩ : ∃ xs, xs = throughT bs ms l := ⟨_, rfl⟩
      rw [← hxs] at hs4
      have hxl : xs.length = ms.length := by rw [hxs]; exact thrT_len ..
      have HH0 := Lib.hid hH0
      have HXS := Lib.hid hxs
      have HOWN4 := Lib.hid hown4
      have HNE := Lib.hid hne
      have HS4 := Lib.hid hs4
      have HB3 := Lib.hid hB3
      have HB3Z := Lib.hid HS4.out.len
      have HXL := Lib.hid hxl
      clear hown3 hb3 hH0 hxs hown4 hne hs4 hB3 d0 d1 hBW hxl
      go_wp2_with fail
      go_loopw [7, 39] (fun v i wz => ∃ (k2 c2 : Nat) (A2 : Option Addr), k2 ≤ nm ∧ i = .int .i64 k2 ∧ v = .slice A2 (H0 ++ hitL ms xs k2).length c2 ∧ wz.ownsRow w1.heap.size 3 1 (.slice A2 (H0 ++ hitL ms xs k2).length c2) (H0 ++ hitL ms xs k2).length ((H0 ++ hitL ms xs k2).flatMap encI) ∧ Below w1.heap.size w1 wz ∧ Sl encR 2 wz b4 A3 nm xs ∧ (∀ g, Value.ownBlock (.slice A2 (H0 ++ hitL ms xs k2).length c2) = some g → g ≠ b4)) (fun _ i _ => nm - (intOf i).toNat)
      case atStart => exact ⟨0, c, A, Nat.zero_le _, rfl, by simp [hitL], by simpa [hitL] using HOWN4.out, HB3.out, HS4.out, by simpa [hitL] using HNE.out⟩
      case round =>
        obtain ⟨k2, c2, A2, hk2, rfl, rfl, hown, hB, hsx, hne⟩ := hrel
        have hz := hB.size
        have hBn := HBN1.out.below hB hw1
        have hwz := hBn.lt
        have HB5 := Lib.hid hB
        have HOWN5 := Lib.hid hown
        have HBN5 := Lib.hid hBn
        have hBW := HBW.out.trans (hB.mono HBW.out.size)
        have HSX := Lib.hid hsx
        have HNE5 := Lib.hid hne
        by_cases hlt2 : k2 < nm
        · as_aux_lemma =>
          have hkm : k2 < ms.length := by have := HNM.out; omega
          have hkx : k2 < xs.length := by have := HXL.out; omega
          obtain ⟨o, rfl, hbz, s0, s1⟩ := hsx.atR hkx
          obtain ⟨om, rfl, hbzm, m0, m1, m2⟩ := (HM.out.m.old hBW).atM hkm
          have hY := @hitL_yes ms xs k2 hkm hkx
          have hY2 := @hitL_no ms xs k2 hkm hkx
          have hlen := hitL_len ms xs k2
          obtain ⟨lo, hi2, hsp⟩ : ∃ lo hi2, xs[k2] = Span.mk lo hi2 := ⟨_, _, rfl⟩
          rw [hsp] at s0 s1 hY hY2
          dsimp only at s0 s1 hY hY2
          obtain ⟨mt, hmt⟩ : ∃ mt, ms[k2].to = mt := ⟨_, rfl⟩
          rw [hmt] at m1 hY
          have d1 := hBn.cell 1
          have hX := Blk.new wr 32 #[.int .i64 lo, .int .i64 hi2]
          have x1 := hX.cell 1
          obtain ⟨hn, hhn⟩ : ∃ hn, hn = (H0 ++ hitL ms xs k2).length := ⟨_, rfl⟩
          have hn20 : hn ≤ 20 := by rw [hhn, List.length_append]; omega
          have HOWN6 := Lib.hid (show wr.ownsRow w1.heap.size 3 1 (.slice A2 hn c2) hn ((H0 ++ hitL ms xs k2).flatMap encI) from by rw [hhn]; exact HOWN5.out)
          have HNE6 := Lib.hid (show ∀ g, Value.ownBlock (.slice A2 hn c2) = some g → g ≠ b4 from by rw [hhn]; exact HNE5.out)
          rw [← hhn]
          have HHN := Lib.hid hhn
          have HSP := Lib.hid hsp
          by_cases hy : 0 < hi2
          · have HY := Lib.hid (hY hy)
            clear hsp hmt hB hown hBn hBW hY hY2 hhn m0 m2 hX hne hsx
            go_wp2_with (at_builtin; refine wpList_append_sl rfl _ _ 22 rfl w1.heap.size 3 i0 _ 8 Try.underlying22 hi iz0 iz1 iz2 rfl (by omega) encI_len _ hn _ rfl ((HOWN6.out.alloc _).alloc _) (wr.heap.size + 1) _ 1 1 [mt] rfl (by simpa using oneCellNew (wr.alloc (.cells #[.int .i64 lo, .int .i64 hi2] 32)) mt) oneI (by unfold maxLen; omega) (by omega) (by simp; omega) ?_; intro A1 c1 w5 hown1 hgrow hat)
            have HO1 := Lib.hid hown1
            have HB7 := Lib.hid (below_own ((HOWN6.out.alloc _).alloc _) hgrow ((HB5.out.alloc hz _).alloc (by simp; omega) _) (Nat.le_refl _) (Nat.le_refl _))
            have HS7 := Lib.hid (((HSX.out.alloc _).alloc _).grown hgrow (fun _ e => HNE6.out _ e.symm rfl))
            have HN7 := Lib.hid (show ∀ g, Value.ownBlock (.slice A1 (hn + 1) c1) = some g → g ≠ b4 from fun g e => by
              rcases hat with h | h
              · exact HNE6.out g (h ▸ e)
              · rw [h] at e; injection e with e; subst e; simp; omega)
            clear hown1 hgrow hat
            have e : (H0 ++ hitL ms xs (k2 + 1)).length = hn + 1 := by rw [HY.out, ← List.append_assoc, List.length_append, ← HHN.out]; rfl
            go_roundw
            case rel => exact ⟨k2 + 1, c1, A1, by omega, by go_num, by rw [e], by rw [e, HY.out, ← List.append_assoc, List.flatMap_append]; simpa using HO1.out, HB7.out, HS7.out, by rw [e]; exact HN7.out⟩
            case measure => simp [intOf]; omega
          · have HY := Lib.hid (hY2 hy)
            clear hsp hmt hB hown hBn hBW hY hY2 hhn m0 m2 hX hne hsx
            go_wp2_with fail
            go_roundw
            case rel => exact ⟨k2 + 1, c2, A2, by omega, by go_num, by rw [HY.out, HHN.out], by rw [HY.out]; exact HOWN5.out.alloc _, HB5.out.alloc hz _, HSX.out.alloc _, by rw [HY.out]; exact HNE5.out⟩
            case measure => simp [intOf]; omega
        · obtain rfl : k2 = nm := by omega
          obtain ⟨L, hL⟩ : ∃ L, L = H0 ++ hitL ms xs k2 := ⟨_, rfl⟩
          rw [← hL] at hown ⊢
          have hL20 : L.length ≤ 20 := by rw [hL, List.length_append]; have := hitL_len ms xs k2; omega
          have hLok : ∀ x ∈ L, okI x := fun x hx => by
            have hr : 0 ≤ x ∧ x < bs.length := by
              rw [hL, HH0.out] at hx
              rcases List.mem_append.1 hx with h | h
              · exact HL.out.rg x (List.mem_of_mem_take (List.mem_filter.1 h).1)
              · unfold hitL at h
                obtain ⟨p, hp, rfl⟩ := List.mem_map.1 h
                have h2 := List.mem_of_mem_take (List.mem_filter.1 hp).1
                obtain ⟨j, hj, h4⟩ := List.getElem_of_mem (List.of_mem_zip h2).1
                have h5 := HN.out.at_ hj
                rw [h4] at h5
                exact ⟨h5.t0, h5.t1⟩
            have := HN.out.n1
            exact WalkArith.wf_i64 (by omega)
          obtain ⟨b5, hb5, hs5⟩ := Sl.of_own (enc := encI) encI_len rfl hown
          have HS5 := Lib.hid hs5
          have HLE := Lib.hid (show L = hitO bs l l.length ++ hitL ms (throughT bs ms l) ms.length from by rw [hL, HH0.out, HXS.out, ← HNO.out, ← HNM.out])
          have HLOK := Lib.hid hLok
          have HBW5 := Lib.hid hBW
          clear hL hown hB hBn hsx hne hLok hs5 hBW
          go_wp2_with fail
          refine (set_any b5 L.length c2 A2 L (by omega) HLOK.out _ HS5.out).mono ?_
          rintro e w6 ⟨B, rfl, hB6, hM6, hb6⟩
          have HM6 := Lib.hid hM6
          have HB6 := Lib.hid hb6
          have hz6 := hb6.size
          clear hM6 hb6
          go_wp2_with fail
          refine (keys_any B _).mono ?_
          rintro e w7 ⟨rfl, rfl⟩
          go_wp2_with fail
          refine (sortedK_any w6.heap.size B L (by omega) _ (Blk.new _ _ _) (HM6.out.alloc _)).mono ?_
          rintro e w8 ⟨A8, c8, ys, hys, rfl, hown8, hb8⟩
          have HYS := Lib.hid hys
          have HO8 := Lib.hid hown8
          have HB8 := Lib.hid hb8
          clear hys hown8 hb8
          go_wp2_with fail
          go_ret2
          have hb1 := HBW5.out.trans (HB6.out.mono HBW5.out.size)
          have hb2 := hb1.alloc hb1.size (.cells #[.map (some B)] 86)
          have e := recall_eq HN.out HL.out (HLE.out ▸ HYS.out)
          have e2 : (recallT bs ms l).length = ys.length := by rw [← e, srt_len]
          refine ⟨A8, c8, by rw [e2]; rfl, ?_, hb2.trans (HB8.out.mono hb2.size)⟩
          rw [e2, ← e]
          exact ownsRow_base HO8.out hb2.size

theorem Recall_err (b1 b2 b3 : Nat) (Ab Am Ao : Option Addr) (nb cb nm cm no co : Nat) (bs : List Int) (ms : List Mv) (l : List Int) (w : World) (hM : NetM w b1 b2 Ab Am nb cb nm cm bs ms) (hnb : nb ≤ 100000) (hnm : nm ≤ 100000) (hO : Sl encI 1 w b3 Ao no l) (hno : no ≤ 100000) (hc : chkO bs ms l ≠ 0) :
    Calls Try.prog 9 #[netV Ab Am nb cb nm cm, .slice Ao no co] w fun e w' => e = .returned (.tuple #[.slice none 0 0, .int .i64 (chkO bs ms l)]) ∧ Below w.heap.size w w' := by
  have hBn := Blk.new w 27 #[.slice Ab nb cb, .slice Am nm cm]
  have c0 := hBn.cell 0
  have c1 := hBn.cell 1
  have hb0 : Below w.heap.size w (w.alloc (.cells #[.slice Ab nb cb, .slice Am nm cm] 27)) := (Below.refl _ w).alloc (Nat.le_refl _) _
  have hcon := checkOrigins_any b1 b2 b3 Ab Am Ao nb cb nm cm no co bs ms l _ (hM.old hb0) hnb hnm (hO.old hb0) hno
  obtain ⟨x, hx⟩ : ∃ x, x = chkO bs ms l := ⟨_, rfl⟩
  rw [← hx] at hcon hc ⊢
  have hxx : (x == 0) = false := by simp [hc]
  have hxx2 : (x != 0) = true := by simp [hc]
  have HB0 := Lib.hid hb0
  have HC := Lib.hid hcon
  clear hBn hb0 hcon hM hO hx hc
  go_enter Try.func9, Try.ntmps9
  go_wp2_with (go_at_call 23; refine HC.out.mono ?_; rintro e w1 ⟨rfl, hb1⟩; have HB1 := Lib.hid hb1; clear hb1)
  go_ret2
  exact ⟨rfl, HB0.out.trans (HB1.out.mono (by simp))⟩
end Go.Proofs.Ytmoolcpogilgkaa
