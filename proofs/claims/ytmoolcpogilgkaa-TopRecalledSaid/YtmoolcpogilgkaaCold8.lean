/-
  cold.Sell of what may be, when all sales are at hours at which the lots surely are fresh.
-/
import Derived.Test.YtmoolcpogilgkaaCold7
import Derived.Test.YtmoolcpogilgkaaApp
import Derived.Lib.SlBuf
set_option linter.unusedVariables false
set_option linter.unusedSimpArgs false
namespace Go.Proofs.Ytmoolcpogilgkaa
open Go.RowKit

theorem info_errno : (Try.prog.info? 39).map (fun i => (i.zero, i.size, i.bytes)) = some (some (.int .i64 0), 1, 8) := by kernel_rfl
def encSd (s : Int × Int) : List Value := [.int .i64 s.1, .int .i64 s.2]
theorem encSd_len (x : Int × Int) : (encSd x).length = 2 := rfl
theorem Sl.atSd {w : World} {b n : Nat} {A : Option Addr} {l : List (Int × Int)} (h : Sl encSd 2 w b A n l) {k : Nat} (hk : k < l.length) :
    ∃ o, A = some ⟨b, o, none⟩ ∧ b < w.heap.size ∧ w.cell? ⟨b, o + k * 2, none⟩ = some (.int .i64 l[k].1) ∧ w.cell? ⟨b, o + k * 2 + 1, none⟩ = some (.int .i64 l[k].2) := by
  obtain ⟨o, h1, h2, h3⟩ := h.at_ hk
  exact ⟨o, h1, h2, h3 0 _ rfl, h3 1 _ rfl⟩

theorem fresh_sure (p : CelP) (c : CelT) (q : LotP) (l : LotT) (h : Int) (w : World) (hc : CelOk c) (hlo : LotOk c.boxes.length l) (h1 : l.born ≤ h) (h2 : h ≤ lastT c l) (hM : CelM w p c) (hL : LotM w q l) :
    Calls Try.prog 32 #[.agg (celA p c), .agg (lotA q l), .int .i64 h] w fun e w' => e = .returned (.tuple #[.int .i64 1, .int .i64 0]) ∧ Below w.heap.size w w' := by
  obtain ⟨k, hk⟩ := Int.eq_ofNat_of_zero_le (show 0 ≤ h - l.born by omega)
  obtain rfl : h = l.born + k := by omega
  obtain ⟨a1, a2, a3⟩ := last_fresh hc hlo
  refine (fresh_any p c q l k w hc hlo (by omega) hM hL).mono ?_
  rintro e w' ⟨rfl, hb⟩
  refine ⟨?_, hb⟩
  have := a3 k h2
  have e1 : freshV l.keeps (lostT c l k) = 1 := by unfold freshV verd; simp [this]
  rw [e1]

def SaleOkC (c : CelT) (L : List (LotP × LotT)) (s : Int × Int) : Prop := ∃ (i : Nat) (h : i < L.length), s.1 = i ∧ L[i].2.born ≤ s.2 ∧ s.2 ≤ lastT c L[i].2

set_option maxRecDepth 100000 in
set_option maxHeartbeats 4000000 in
theorem sell_any (p : CelP) (c : CelT) (bL nL cL : Nat) (AL : Option Addr) (L : List (LotP × LotT)) (bD nD cD : Nat) (AD : Option Addr) (D : List (Int × Int)) (w : World) (hc : CelOk c) (hM : CelM w p c)
    (hS : Sl encLt 3 w bL AL nL L) (hnL : nL ≤ 20) (hL : ∀ x ∈ L, LotM w x.1 x.2 ∧ LotOk c.boxes.length x.2) (hD : Sl encSd 2 w bD AD nD D) (hnD : nD ≤ 40) (hDO : ∀ s ∈ D, SaleOkC c L s) :
    Calls Try.prog 14 #[.agg (celA p c), .slice AL nL cL, .slice AD nD cD] w fun e w' => (∃ b A cc, e = .returned (.tuple #[.slice A nD cc, .int .i64 0]) ∧ Sl encI 1 w' b A nD (List.replicate nD 0) ∧ w.heap.size ≤ b) ∧ Below w.heap.size w w' := by
  obtain ⟨i0, hi, iz0, iz1, iz2⟩ := info_parts info_errno
  have hB := Blk.new w 37 (celA p c)
  have hb : Below w.heap.size w (w.alloc (.cells (celA p c) 37)) := (Below.refl _ w).alloc (Nat.le_refl _) _
  have HB0 := Lib.hid hb
  have HK := Lib.hid hB
  have HM := Lib.hid hM
  have HC := Lib.hid hc
  have HS := Lib.hid hS
  have HL := Lib.hid hL
  have HD := Lib.hid hD
  have HDO := Lib.hid hDO
  have HNL := Lib.hid hS.len
  have HND := Lib.hid hD.len
  have hz2 : decide ((40 : Int) < (nD : Int)) = false := by simp; omega
  go_enter Try.func14, Try.ntmps14
  go_upto_region 1 with fail
  obtain ⟨V, hV⟩ : ∃ V, w.alloc (.cells (celA p c) 37) = V := ⟨_, rfl⟩
  rw [hV] at HB0 HK ⊢
  clear hb hB hM hc hV hS hL hD hDO
  obtain ⟨d0, d1, d2, d3, d4⟩ := celCells HK.out
  go_wp2_with fail
  refine (checkLots_ok p c bL nL cL AL L _ HC.out (HM.out.old HB0.out) (HS.out.old HB0.out) hnL (fun x hx => ⟨(HL.out x hx).1.old HB0.out, (HL.out x hx).2⟩)).mono ?_
  rintro e w1 ⟨rfl, hb1⟩
  have HB1 := Lib.hid (HB0.out.trans (hb1.mono HB0.out.size))
  have HK1 := Lib.hid (HK.out.below hb1 HK.out.lt)
  have hz1 : w.heap.size < w1.heap.size := HK1.out.lt
  clear hb1 d0 d1 d2 d3 d4
  go_wp2_with fail
  go_loopw [9, 26] (fun v i wr => ∃ (k cc : Nat) (A : Option Addr), k ≤ nD ∧ i = .int .i64 k ∧ v = .slice A k cc ∧ wr.ownsRow w1.heap.size 39 1 (.slice A k cc) k ((List.replicate k (0 : Int)).flatMap encI) ∧ Below w1.heap.size w1 wr) (fun _ i _ => nD - (intOf i).toNat)
  case atStart => exact ⟨0, 0, none, Nat.zero_le _, rfl, rfl, World.ownsRow_nil _ _ _ _, Below.refl _ _⟩
  case round =>
    obtain ⟨k, cc, A, hk, rfl, rfl, hown, hB⟩ := hrel
    have HB := Lib.hid hB
    have HOWN := Lib.hid hown
    have HBW := Lib.hid (HB1.out.trans (hB.mono HB1.out.size))
    have HKr := Lib.hid (HK1.out.below hB HK1.out.lt)
    have hzr : w1.heap.size ≤ wr.heap.size := hB.size
    clear hB hown
    by_cases hlt : k < nD
    · as_aux_lemma =>
      have hkl : k < D.length := by have := HND.out; omega
      obtain ⟨o, ho, hbz, s0, s1⟩ := (HD.out.old HBW.out).atSd hkl
      have hok := HDO.out _ (List.getElem_mem hkl)
      generalize D[k] = s at s0 s1 hok
      obtain ⟨s1', hr⟩ := s
      obtain ⟨i, hil, rfl, ho1, ho2⟩ := hok
      simp only at s0 s1 ho1 ho2
      obtain ⟨ol, hol, hbl, l0, l1, l2⟩ := (HS.out.old HBW.out).atLt hil
      have hxo := HL.out _ (List.getElem_mem hil)
      generalize L[i] = x at l0 l1 l2 hxo ho1 ho2
      obtain ⟨xp, xl⟩ := x
      simp only at l0 l1 l2 hxo ho1 ho2
      have HLM := Lib.hid hxo.1
      have HLO := Lib.hid hxo.2
      have hbn := hxo.2.born
      have hla := (last_fresh HC.out hxo.2).2.1
      have ho2' := Lib.hid ho2
      have HA := Lib.hid ((Below.refl _ wr).alloc (Nat.le_refl _) (.cells #[.int .i64 (i : Int), .int .i64 hr] 53))
      have HKA := Lib.hid (Blk.new wr 53 #[.int .i64 (i : Int), .int .i64 hr])
      have ik0 : (0 : Int) ≤ (k : Int) := by omega
      have ik1 : (k : Int) < (nD : Int) := by omega
      have iL0 : (0 : Int) ≤ (i : Int) := by omega
      have iL1 : (i : Int) < (nL : Int) := by have := HNL.out; omega
      have hr0 : 0 ≤ hr := by omega
      have hr1 : hr ≤ 240 := by omega
      rw [ho]
      clear ho hxo ho2 hkl hil
      rw [hol]
      go_upto_region 11 with (go_at_call 31; refine (cin_t _ _ _ (by omega) _).mono ?_; rintro e w' ⟨rfl, rfl⟩)
      obtain ⟨WA, hWA⟩ : ∃ W, wr.alloc (.cells #[.int .i64 (i : Int), .int .i64 hr] 53) = W := ⟨_, rfl⟩
      have HAL := Lib.hid (And.intro (Lib.Below.cellOf HA.out l0 (Nat.le_refl _)) (And.intro (Lib.Below.cellOf HA.out l1 (Nat.le_refl _)) (Lib.Below.cellOf HA.out l2 (Nat.le_refl _))))
      rw [hWA] at HA HKA HAL ⊢
      have hzA : wr.heap.size < WA.heap.size := HKA.out.lt
      have HF := Lib.hid (fun (w' : World) (hY : Below WA.heap.size WA w') => (show (w'.cell? ⟨w.heap.size, 0, none⟩ = some (.int .i64 c.hlo) ∧ w'.cell? ⟨w.heap.size, 1, none⟩ = some (.int .i64 c.hhi) ∧ w'.cell? ⟨w.heap.size, 2, none⟩ = some (.slice p.Ab p.nb p.cb) ∧ w'.cell? ⟨w.heap.size, 3, none⟩ = some (.slice p.Af p.nf p.cf) ∧ w'.cell? ⟨w.heap.size, 4, none⟩ = some (.slice p.Ar p.nr p.cr)) ∧ (w'.cell? ⟨wr.heap.size, 0, none⟩ = some (.int .i64 (i : Int)) ∧ w'.cell? ⟨wr.heap.size, 1, none⟩ = some (.int .i64 hr)) ∧ (w'.cell? ⟨bL, ol + i * 3, none⟩ = some (.int .i64 xl.born) ∧ w'.cell? ⟨bL, ol + i * 3 + 1, none⟩ = some (.int .i64 xl.keeps) ∧ w'.cell? ⟨bL, ol + i * 3 + 2, none⟩ = some (.slice xp.As xp.ns xp.cs)) from ⟨celCells (HKr.out.below (HA.out.trans (hY.mono HA.out.size)) HKr.out.lt), ⟨(HKA.out.below hY HKA.out.lt).cell 0, (HKA.out.below hY HKA.out.lt).cell 1⟩, Lib.Below.cellOf hY HAL.out.1 (Nat.le_refl _), Lib.Below.cellOf hY HAL.out.2.1 (Nat.le_refl _), Lib.Below.cellOf hY HAL.out.2.2 (Nat.le_refl _)⟩))
      have HBA := Lib.hid (HBW.out.trans (HA.out.mono HBW.out.size))
      have HOA := Lib.hid (show WA.ownsRow w1.heap.size 39 1 (.slice A k cc) k ((List.replicate k (0 : Int)).flatMap encI) from by rw [← hWA]; exact HOWN.out.alloc _)
      clear hWA l0 l1 l2 s0 s1
      refine wp_region_PL [0, 3, 5, 7] (fun w' => (w'.cell? ⟨w.heap.size, 0, none⟩ = some (.int .i64 c.hlo) ∧ w'.cell? ⟨w.heap.size, 1, none⟩ = some (.int .i64 c.hhi) ∧ w'.cell? ⟨w.heap.size, 2, none⟩ = some (.slice p.Ab p.nb p.cb) ∧ w'.cell? ⟨w.heap.size, 3, none⟩ = some (.slice p.Af p.nf p.cf) ∧ w'.cell? ⟨w.heap.size, 4, none⟩ = some (.slice p.Ar p.nr p.cr)) ∧ (w'.cell? ⟨wr.heap.size, 0, none⟩ = some (.int .i64 (i : Int)) ∧ w'.cell? ⟨wr.heap.size, 1, none⟩ = some (.int .i64 hr)) ∧ (w'.cell? ⟨bL, ol + i * 3, none⟩ = some (.int .i64 xl.born) ∧ w'.cell? ⟨bL, ol + i * 3 + 1, none⟩ = some (.int .i64 xl.keeps) ∧ w'.cell? ⟨bL, ol + i * 3 + 2, none⟩ = some (.slice xp.As xp.ns xp.cs))) rfl (by kernel_rfl) (HF.out _ (Below.refl _ WA).drew) (fun hF0 => ?_)
      (refine wpAnyP_loadL (i := 0) (v := ?_) rfl (by kernel_rfl) (by kernel_rfl) (by kernel_rfl) (by rfl) (fun _ _ _ h => h) hF0 (by rfl) ?_ ?_; rotate_left 1; focus (intro w hFw; (try dsimp only at hFw); go_split_ands; go_simp; try with_reducible rfl))
      try simp only [Act.put, List.setIfInBounds_toArray, List.set_cons_zero, List.set_cons_succ]
      (refine wpAnyP_takeL (i := 1) (v := ?_) rfl (by kernel_rfl) (by kernel_rfl) (by kernel_rfl) (fun _ _ _ h => h) (by rfl) ?_ ?_; rotate_left 1; focus (intro w; go_simp; try with_reducible rfl))
      try simp only [Act.put, List.setIfInBounds_toArray, List.set_cons_zero, List.set_cons_succ]
      (refine wpAnyP_takeL (i := 2) (v := ?_) rfl (by kernel_rfl) (by kernel_rfl) (by kernel_rfl) (fun _ _ _ h => h) (by rfl) ?_ ?_; rotate_left 1; focus (intro w; go_simp; try with_reducible rfl))
      try simp only [Act.put, List.setIfInBounds_toArray, List.set_cons_zero, List.set_cons_succ]
      (refine wpAnyP_loadL (i := 3) (v := ?_) rfl (by kernel_rfl) (by kernel_rfl) (by kernel_rfl) (by rfl) (fun _ _ _ h => h) hF0 (by rfl) ?_ ?_; rotate_left 1; focus (intro w hFw; (try dsimp only at hFw); go_split_ands; go_simp; try with_reducible rfl))
      try simp only [Act.put, List.setIfInBounds_toArray, List.set_cons_zero, List.set_cons_succ]
      (refine wpAnyP_takeL (i := 4) (v := ?_) rfl (by kernel_rfl) (by kernel_rfl) (by kernel_rfl) (fun _ _ _ h => h) (by rfl) ?_ ?_; rotate_left 1; focus (intro w; go_simp; try with_reducible rfl))
      try simp only [Act.put, List.setIfInBounds_toArray, List.set_cons_zero, List.set_cons_succ]
      (refine wpAnyP_loadL (i := 5) (v := ?_) rfl (by kernel_rfl) (by kernel_rfl) (by kernel_rfl) (by rfl) (fun _ _ _ h => h) hF0 (by rfl) ?_ ?_; rotate_left 1; focus (intro w hFw; (try dsimp only at hFw); go_split_ands; go_simp; try with_reducible rfl))
      try simp only [Act.put, List.setIfInBounds_toArray, List.set_cons_zero, List.set_cons_succ]
      (refine wpAnyP_takeL (i := 6) (v := ?_) rfl (by kernel_rfl) (by kernel_rfl) (by kernel_rfl) (fun _ _ _ h => h) (by rfl) ?_ ?_; rotate_left 1; focus (intro w; go_simp; try with_reducible rfl))
      try simp only [Act.put, List.setIfInBounds_toArray, List.set_cons_zero, List.set_cons_succ]
      (refine wpAnyP_loadL (i := 7) (v := ?_) rfl (by kernel_rfl) (by kernel_rfl) (by kernel_rfl) (by rfl) (fun _ _ _ h => h) hF0 (by rfl) ?_ ?_; rotate_left 1; focus (intro w hFw; (try dsimp only at hFw); go_split_ands; go_simp; try with_reducible rfl))
      try simp only [Act.put, List.setIfInBounds_toArray, List.set_cons_zero, List.set_cons_succ]
      refine wpAnyP_step (i := 8) rfl (by kernel_rfl) (by rfl) (fun K hK => ?_)
      go_simp
      (refine (fresh_sure p c xp xl hr _ HC.out HLO.out ho1 ho2'.out (HM.out.old (HBA.out.trans ((Below.refl _ WA).drew.mono HBA.out.size))) (HLM.out.old (HBA.out.trans ((Below.refl _ WA).drew.mono HBA.out.size)))).mono ?_; rintro e w5 ⟨rfl, hb5⟩; have HB5 := Lib.hid ((Below.refl _ WA).drew.trans hb5); clear hb5)
      (refine hK _ _ (HF.out _ HB5.out) (fun hF1 => ?_); clear hK K hF0)
      try simp only [Act.put, List.setIfInBounds_toArray, List.set_cons_zero, List.set_cons_succ]
      (refine wpAnyP_takeL (i := 9) (v := ?_) rfl (by kernel_rfl) (by kernel_rfl) (by kernel_rfl) (fun _ _ _ h => h) (by rfl) ?_ ?_; rotate_left 1; focus (intro w; go_simp; try with_reducible rfl))
      try simp only [Act.put, List.setIfInBounds_toArray, List.set_cons_zero, List.set_cons_succ]
      (refine wpAnyP_takeL (i := 10) (v := ?_) rfl (by kernel_rfl) (by kernel_rfl) (by kernel_rfl) (fun _ _ _ h => h) (by rfl) ?_ ?_; rotate_left 1; focus (intro w; go_simp; try with_reducible rfl))
      try simp only [Act.put, List.setIfInBounds_toArray, List.set_cons_zero, List.set_cons_succ]
      (refine wpAnyP_takeL (i := 11) (v := ?_) rfl (by kernel_rfl) (by kernel_rfl) (by kernel_rfl) (fun _ _ _ h => h) (by rfl) ?_ ?_; rotate_left 1; focus (intro w; go_simp; try with_reducible rfl))
      try simp only [Act.put, List.setIfInBounds_toArray, List.set_cons_zero, List.set_cons_succ]
      (refine wpAnyP_takeL (i := 12) (v := ?_) rfl (by kernel_rfl) (by kernel_rfl) (by kernel_rfl) (fun _ _ _ h => h) (by rfl) ?_ ?_; rotate_left 1; focus (intro w; go_simp; try with_reducible rfl))
      try simp only [Act.put, List.setIfInBounds_toArray, List.set_cons_zero, List.set_cons_succ]
      (refine wpAnyP_takeL (i := 13) (v := ?_) rfl (by kernel_rfl) (by kernel_rfl) (by kernel_rfl) (fun _ _ _ h => h) (by rfl) ?_ ?_; rotate_left 1; focus (intro w; go_simp; try with_reducible rfl))
      try simp only [Act.put, List.setIfInBounds_toArray, List.set_cons_zero, List.set_cons_succ]
      refine wpAnyP_done (by kernel_rfl) ?_ _
      have hA5 := HBA.out.trans (HB5.out.mono HBA.out.size)
      have hz5 : w1.heap.size ≤ w5.heap.size := by have := HB5.out.size; omega
      have HO5 := Lib.hid (ownsRow_below HOA.out HB5.out (Nat.le_refl _))
      have HB6 := Lib.hid ((HB.out.trans (HA.out.mono HB.out.size)).trans (HB5.out.mono (HB.out.trans (HA.out.mono HB.out.size)).size))
      clear hA5
      go_wp2_with (at_builtin; refine wpList_append_sl rfl _ _ 54 rfl w1.heap.size 39 i0 _ 8 Try.underlying54 hi iz0 iz1 iz2 rfl (by omega) encI_len _ k _ rfl (HO5.out.alloc _) w5.heap.size _ 1 1 [(0 : Int)] rfl (Sl.newI w5 [(0 : Int)] 39) oneI (by unfold maxLen; omega) (by omega) (by simp; omega) ?_; intro A1 c1 w6 hown1 hgrow _; have HO6 := Lib.hid hown1; have HB7 := Lib.hid (below_own (HO5.out.alloc _) hgrow (HB6.out.alloc hz5 _) (Nat.le_refl _) (Nat.le_refl _)); clear hown1 hgrow)
      go_roundw
      case rel => exact ⟨k + 1, c1, A1, by omega, by go_num, rfl, by rw [List.replicate_succ', List.flatMap_append]; simpa using HO6.out, HB7.out⟩
      case measure => simp [intOf]; omega
    · obtain rfl : k = nD := by omega
      go_wp2_with fail
      go_ret2
      obtain ⟨b, hbz, hsl⟩ := Sl.of_own encI_len (l := List.replicate k (0 : Int)) (by simp) HOWN.out
      exact ⟨⟨b, A, cc, rfl, hsl, by omega⟩, HBW.out⟩
end Go.Proofs.Ytmoolcpogilgkaa
