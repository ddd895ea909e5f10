/-
  cold.Lost, Fresh, checkLots, Sell of what may be.
-/
import Derived.Test.YtmoolcpogilgkaaCold6
set_option linter.unusedVariables false
set_option linter.unusedSimpArgs false
namespace Go.Proofs.Ytmoolcpogilgkaa
open Go.RowKit

/-- a cellar and a lot, copied, and the result -/
structure CrE (w : World) (p : CelP) (c : CelT) (q : LotP) (l : LotT) (W : World) : Prop where
  e : CoE w p c q l W
  r : Blk W (w.heap.size + 1 + 1) 32 #[.int .i64 0, .int .i64 0]
theorem CrE.start (w : World) (p : CelP) (c : CelT) (q : LotP) (l : LotT) : CrE w p c q l (((w.alloc (.cells (celA p c) 37)).alloc (.cells (lotA q l) 46)).alloc (.cells #[.int .i64 0, .int .i64 0] 32)) := by
  refine ⟨(CoE.start w p c q l).below ((Below.refl _ _).alloc (Nat.le_refl _) _), ?_⟩
  have := Blk.new ((w.alloc (.cells (celA p c) 37)).alloc (.cells (lotA q l) 46)) 32 #[.int .i64 0, .int .i64 0]
  simpa only [World.size_alloc] using this
theorem CrE.below {w W W' : World} {p : CelP} {c : CelT} {q : LotP} {l : LotT} (h : CrE w p c q l W) (hb : Below W.heap.size W W') : CrE w p c q l W' := ⟨h.e.below hb, h.r.below hb h.r.lt⟩

set_option maxRecDepth 100000 in
set_option maxHeartbeats 2000000 in
theorem lostAt_any (p : CelP) (c : CelT) (q : LotP) (l : LotT) (k : Nat) (w : World) (hc : CelOk c) (hlo : LotOk c.boxes.length l) (hk : l.born + k ≤ 240) (hM : CelM w p c) (hL : LotM w q l) :
    Calls Try.prog 51 #[.agg (celA p c), .agg (lotA q l), .int .i64 (l.born + k)] w fun e w' => e = .returned (.tuple #[.agg #[.int .i64 (lostT c l k).lo, .int .i64 (lostT c l k).hi], .int .i64 0]) ∧ Below w.heap.size w w' := by
  have HE := Lib.hid (CrE.start w p c q l)
  have HL := Lib.hid hL
  have HLO := Lib.hid hlo
  have HC := Lib.hid hc
  have HM := Lib.hid hM
  obtain ⟨bn1, bn2⟩ := hlo.born
  obtain ⟨bn, hbn⟩ := Int.eq_ofNat_of_zero_le bn1
  have HBN := Lib.hid hbn
  have hlt1 : decide (l.born + (k : Int) < l.born) = false := decide_eq_false (by omega)
  clear hL hlo hc hM hbn
  go_enter Try.func51, Try.ntmps51
  go_upto_region 1 with fail
  obtain ⟨V, hV⟩ : ∃ V, ((w.alloc (.cells (celA p c) 37)).alloc (.cells (lotA q l) 46)).alloc (.cells #[.int .i64 0, .int .i64 0] 32) = V := ⟨_, rfl⟩
  rw [hV] at HE ⊢
  obtain ⟨d0, d1, d2, d3, d4⟩ := celCells HE.out.e.c
  obtain ⟨g0, g1, g2⟩ := lotCells HE.out.e.l
  clear hV
  go_wp2_with fail
  refine (checkLot_ok p c q l _ HC.out HLO.out (HM.out.old HE.out.e.low) (HL.out.old HE.out.e.low)).mono ?_
  rintro e w1 ⟨rfl, hb1⟩
  have HE1 := Lib.hid (HE.out.below hb1)
  clear hb1 d0 d1 d2 d3 d4 g0 g1 g2
  obtain ⟨g0, g1, g2⟩ := lotCells HE1.out.e.l
  go_upto_region 8 with (go_at_call 31; refine (cin_t _ _ _ (by omega) _).mono ?_; rintro e w' ⟨rfl, rfl⟩)
  clear g0 g1 g2
  have HF := Lib.hid (fun (Y : World) (hY : Below w1.heap.size w1 Y) => And.intro (celCells (HE1.out.e.below hY).c) (lotCells (HE1.out.e.below hY).l))
  have hwk : IntKind.i64.wrap (k : Int) = k := IntWalk.i64_in _ (by omega)
  have hwk2 : IntKind.i64.wrap (l.born + (k : Int) - l.born) = k := by rw [show l.born + (k : Int) - l.born = k by omega]; exact hwk
  have hk0 : (0 : Int) ≤ (k : Int) := by omega
  refine wp_region_PL [0, 1, 5] (fun w' => (w'.cell? ⟨w.heap.size, 0, none⟩ = some (.int .i64 c.hlo) ∧ w'.cell? ⟨w.heap.size, 1, none⟩ = some (.int .i64 c.hhi) ∧ w'.cell? ⟨w.heap.size, 2, none⟩ = some (.slice p.Ab p.nb p.cb) ∧ w'.cell? ⟨w.heap.size, 3, none⟩ = some (.slice p.Af p.nf p.cf) ∧ w'.cell? ⟨w.heap.size, 4, none⟩ = some (.slice p.Ar p.nr p.cr)) ∧ (w'.cell? ⟨w.heap.size + 1, 0, none⟩ = some (.int .i64 l.born) ∧ w'.cell? ⟨w.heap.size + 1, 1, none⟩ = some (.int .i64 l.keeps) ∧ w'.cell? ⟨w.heap.size + 1, 2, none⟩ = some (.slice q.As q.ns q.cs))) rfl (by kernel_rfl) (HF.out _ (Below.refl _ w1).drew) (fun hF0 => ?_)
  (refine wpAnyP_loadL (i := 0) (v := ?_) rfl (by kernel_rfl) (by kernel_rfl) (by kernel_rfl) (by rfl) (fun _ _ _ h => h) hF0 (by rfl) ?_ ?_; rotate_left 1; focus (intro w hFw; (try dsimp only at hFw); go_split_ands; go_simp; try with_reducible rfl))
  try simp only [Act.put, List.setIfInBounds_toArray, List.set_cons_zero, List.set_cons_succ]
  (refine wpAnyP_loadL (i := 1) (v := ?_) rfl (by kernel_rfl) (by kernel_rfl) (by kernel_rfl) (by rfl) (fun _ _ _ h => h) hF0 (by rfl) ?_ ?_; rotate_left 1; focus (intro w hFw; (try dsimp only at hFw); go_split_ands; go_simp; try with_reducible rfl))
  try simp only [Act.put, List.setIfInBounds_toArray, List.set_cons_zero, List.set_cons_succ]
  (refine wpAnyP_takeL (i := 3) (v := ?_) rfl (by kernel_rfl) (by kernel_rfl) (by kernel_rfl) (fun _ _ _ h => h) (by rfl) ?_ ?_; rotate_left 1; focus (intro w; go_simp; try with_reducible rfl))
  try simp only [Act.put, List.setIfInBounds_toArray, List.set_cons_zero, List.set_cons_succ]
  (refine wpAnyP_takeL (i := 4) (v := ?_) rfl (by kernel_rfl) (by kernel_rfl) (by kernel_rfl) (fun _ _ _ h => h) (by rfl) ?_ ?_; rotate_left 1; focus (intro w; go_simp; try with_reducible rfl))
  try simp only [Act.put, List.setIfInBounds_toArray, List.set_cons_zero, List.set_cons_succ]
  (refine wpAnyP_loadL (i := 5) (v := ?_) rfl (by kernel_rfl) (by kernel_rfl) (by kernel_rfl) (by rfl) (fun _ _ _ h => h) hF0 (by rfl) ?_ ?_; rotate_left 1; focus (intro w hFw; (try dsimp only at hFw); go_split_ands; go_simp; try with_reducible rfl))
  try simp only [Act.put, List.setIfInBounds_toArray, List.set_cons_zero, List.set_cons_succ]
  (refine wpAnyP_takeL (i := 6) (v := ?_) rfl (by kernel_rfl) (by kernel_rfl) (by kernel_rfl) (fun _ _ _ h => h) (by rfl) ?_ ?_; rotate_left 1; focus (intro w; go_simp; try with_reducible rfl))
  try simp only [Act.put, List.setIfInBounds_toArray, List.set_cons_zero, List.set_cons_succ]
  refine wpAnyP_step (i := 2) rfl (by kernel_rfl) (by rfl) (fun K hK => ?_)
  go_simp
  (refine (lost_any p c q l _ HC.out HLO.out (HM.out.old (HE1.out.e.below (Below.refl _ w1).drew).low) (HL.out.old (HE1.out.e.below (Below.refl _ w1).drew).low)).mono ?_; rintro e w5 ⟨A, n, cA, b, rfl, hs, hb5⟩; have HB5 := Lib.hid ((Below.refl _ w1).drew.trans hb5); have HS5 := Lib.hid hs; have hn5 := hs.len; rw [lostL_len] at hn5; unfold hoursL at hn5; have hkn : (k : Int) < (n : Int) := (by have h1 := HBN.out; omega); have hkl : k < (lostL c l).length := (by rw [lostL_len]; unfold hoursL; have h1 := HBN.out; omega); obtain ⟨o, hoo, _, y0, y1⟩ := hs.atR hkl; rw [lostL_get] at y0 y1; subst hoo; have HYY := Lib.hid (And.intro y0 y1); clear hb5 hs hn5 y0 y1)
  (refine hK _ _ (HF.out _ HB5.out) (fun hF1 => ?_); clear hK K hF0)
  try simp only [Act.put, List.setIfInBounds_toArray, List.set_cons_zero, List.set_cons_succ]
  (refine wpAnyP_takeL (i := 7) (v := ?_) rfl (by kernel_rfl) (by kernel_rfl) (by kernel_rfl) (fun _ _ _ h => h) (by rfl) ?_ ?_; rotate_left 1; focus (intro w; go_simp; try with_reducible rfl))
  try simp only [Act.put, List.setIfInBounds_toArray, List.set_cons_zero, List.set_cons_succ]
  refine wpAnyP_step (i := 8) rfl (by kernel_rfl) (by rfl) (fun K hK => ?_)
  go_simp
  (obtain ⟨y0, y1⟩ := HYY.out; go_simp)
  (refine hK _ _ (HF.out _ HB5.out) (fun hF2 => ?_); clear hK K hF1)
  try simp only [Act.put, List.setIfInBounds_toArray, List.set_cons_zero, List.set_cons_succ]
  refine wpAnyP_last (i := 9) rfl (by kernel_rfl) (by kernel_rfl) (by rfl) (fun K hK => ?_)
  go_simp
  (obtain ⟨y0, y1⟩ := HYY.out; have r0 := (HE1.out.below HB5.out).r.cell 0; have r1 := (HE1.out.below HB5.out).r.cell 1; have f0 := (HE1.out.below HB5.out).r.frozen 0; have f1 := (HE1.out.below HB5.out).r.frozen 1; go_simp)
  (refine hK _ _ ?_; clear hK K)
  try simp only [Act.put, List.setIfInBounds_toArray, List.set_cons_zero, List.set_cons_succ]
  (refine wpAnyP_takeL (i := 10) (v := ?_) rfl (by kernel_rfl) (by kernel_rfl) (by kernel_rfl) (fun _ _ _ h => h) (by rfl) ?_ ?_; rotate_left 1; focus (intro w; go_simp; try with_reducible rfl))
  try simp only [Act.put, List.setIfInBounds_toArray, List.set_cons_zero, List.set_cons_succ]
  refine wpAnyP_done (by kernel_rfl) ?_ _
  have HE5 := Lib.hid (HE1.out.below HB5.out)
  have hR2 := (HE5.out.r.set_ 0 (.int .i64 (lostT c l k).lo)).set_ 1 (.int .i64 (lostT c l k).hi)
  have q0 := hR2.cell 0
  have q1 := hR2.cell 1
  clear hR2
  go_wp2_with fail
  refine bodyPost_ret (v := .tuple #[.agg #[.int .i64 (lostT c l k).lo, .int .i64 (lostT c l k).hi], .int .i64 0]) (by simp [results, Try.results51, go_sem, q0, q1]; try omega) rfl ⟨rfl, ?_⟩
  exact (HE5.out.e.low.setCell (p := ⟨w.heap.size + 1 + 1, 0, none⟩) (by show w.heap.size ≤ w.heap.size + 1 + 1; omega) _).setCell (p := ⟨w.heap.size + 1 + 1, 1, none⟩) (by show w.heap.size ≤ w.heap.size + 1 + 1; omega) _

set_option maxRecDepth 100000 in
set_option maxHeartbeats 2000000 in
theorem fresh_any (p : CelP) (c : CelT) (q : LotP) (l : LotT) (k : Nat) (w : World) (hc : CelOk c) (hlo : LotOk c.boxes.length l) (hk : l.born + k ≤ 240) (hM : CelM w p c) (hL : LotM w q l) :
    Calls Try.prog 32 #[.agg (celA p c), .agg (lotA q l), .int .i64 (l.born + k)] w fun e w' => e = .returned (.tuple #[.int .i64 (freshV l.keeps (lostT c l k)), .int .i64 0]) ∧ Below w.heap.size w w' := by
  have HE := Lib.hid (CoE.start w p c q l)
  have HL := Lib.hid hL
  have HLO := Lib.hid hlo
  have HC := Lib.hid hc
  have HM := Lib.hid hM
  clear hL hlo hc hM
  go_enter Try.func32, Try.ntmps32
  go_upto_region 1 with fail
  obtain ⟨V, hV⟩ : ∃ V, (w.alloc (.cells (celA p c) 37)).alloc (.cells (lotA q l) 46) = V := ⟨_, rfl⟩
  rw [hV] at HE ⊢
  obtain ⟨d0, d1, d2, d3, d4⟩ := celCells HE.out.c
  obtain ⟨g0, g1, g2⟩ := lotCells HE.out.l
  clear hV
  go_wp2_with fail
  refine (lostAt_any p c q l k _ HC.out HLO.out hk (HM.out.old HE.out.low) (HL.out.old HE.out.low)).mono ?_
  rintro e w1 ⟨rfl, hb1⟩
  obtain ⟨x, hx⟩ : ∃ x, x = lostT c l k := ⟨_, rfl⟩
  rw [← hx]
  have HX := Lib.hid hx
  have hB1 := hb1.alloc hb1.size (.cells #[.int .i64 x.lo, .int .i64 x.hi] 32)
  have HE1 := Lib.hid (HE.out.below hB1)
  clear hb1 d0 d1 d2 d3 d4 g0 g1 g2 hx hB1
  obtain ⟨g0, g1, g2⟩ := lotCells HE1.out.l
  go_wp2_with fail
  refine (verdict_any _ _ _).mono ?_
  rintro e w2 ⟨rfl, hb2⟩
  have HE2 := Lib.hid (HE1.out.below hb2)
  clear hb2 g0 g1 g2
  go_wp2_with fail
  go_ret2
  exact ⟨by rw [← HX.out]; rfl, HE2.out.low⟩

def encLt (x : LotP × LotT) : List Value := [.int .i64 x.2.born, .int .i64 x.2.keeps, .slice x.1.As x.1.ns x.1.cs]
theorem encLt_len (x : LotP × LotT) : (encLt x).length = 3 := rfl
theorem Sl.atLt {w : World} {b n : Nat} {A : Option Addr} {l : List (LotP × LotT)} (h : Sl encLt 3 w b A n l) {k : Nat} (hk : k < l.length) :
    ∃ o, A = some ⟨b, o, none⟩ ∧ b < w.heap.size ∧ w.cell? ⟨b, o + k * 3, none⟩ = some (.int .i64 l[k].2.born) ∧ w.cell? ⟨b, o + k * 3 + 1, none⟩ = some (.int .i64 l[k].2.keeps) ∧ w.cell? ⟨b, o + k * 3 + 2, none⟩ = some (.slice l[k].1.As l[k].1.ns l[k].1.cs) := by
  obtain ⟨o, h1, h2, h3⟩ := h.at_ hk
  exact ⟨o, h1, h2, h3 0 _ rfl, h3 1 _ rfl, h3 2 _ rfl⟩

set_option maxRecDepth 100000 in
set_option maxHeartbeats 2000000 in
theorem checkLots_ok (p : CelP) (c : CelT) (b n cl : Nat) (A : Option Addr) (L : List (LotP × LotT)) (w : World) (hc : CelOk c) (hM : CelM w p c) (hS : Sl encLt 3 w b A n L) (hn : n ≤ 20) (hL : ∀ x ∈ L, LotM w x.1 x.2 ∧ LotOk c.boxes.length x.2) :
    Calls Try.prog 30 #[.agg (celA p c), .slice A n cl] w fun e w' => e = .returned (.int .i64 0) ∧ Below w.heap.size w w' := by
  have hB := Blk.new w 37 (celA p c)
  have hb : Below w.heap.size w (w.alloc (.cells (celA p c) 37)) := (Below.refl _ w).alloc (Nat.le_refl _) _
  have HB0 := Lib.hid hb
  have HK := Lib.hid hB
  have HM := Lib.hid hM
  have HC := Lib.hid hc
  have HS := Lib.hid hS
  have HL := Lib.hid hL
  have HNL := Lib.hid hS.len
  have HNB := Lib.hid hM.b.len
  have HN6 := Lib.hid hc.bn
  have hz2 : decide ((20 : Int) < (n : Int)) = false := by simp; omega
  go_enter Try.func30, Try.ntmps30
  go_upto_region 1 with fail
  obtain ⟨V, hV⟩ : ∃ V, w.alloc (.cells (celA p c) 37) = V := ⟨_, rfl⟩
  rw [hV] at HB0 HK ⊢
  clear hb hB hM hc hV hS hL
  obtain ⟨d0, d1, d2, d3, d4⟩ := celCells HK.out
  go_wp2_with fail
  refine (check_ok_c p c _ HC.out (HM.out.old HB0.out)).mono ?_
  rintro e w1 ⟨rfl, hb1⟩
  have HB1 := Lib.hid hb1
  clear hb1 d0 d1 d2 d3 d4
  go_wp2_with fail
  go_loopw [19] (fun i wr => ∃ k : Nat, k ≤ n ∧ i = .int .i64 k ∧ Below V.heap.size V wr) (fun i _ => n - (intOf i).toNat)
  case atStart => exact ⟨0, Nat.zero_le _, rfl, HB1.out⟩
  case round =>
    obtain ⟨k, hk, rfl, hB⟩ := hrel
    have HB := Lib.hid hB
    have HBW := Lib.hid (HB0.out.trans (hB.mono HB0.out.size))
    clear hB
    by_cases hlt : k < n
    · have hkl : k < L.length := by have := HNL.out; omega
      obtain ⟨o, ho, hbz, s0, s1, s2⟩ := (HS.out.old HBW.out).atLt hkl
      have hok := HL.out _ (List.getElem_mem hkl)
      generalize L[k] = x at s0 s1 s2 hok
      obtain ⟨xp, xl⟩ := x
      simp only at s0 s1 s2 hok
      have HLM := Lib.hid hok.1
      have HLO := Lib.hid hok.2
      have HA := Lib.hid (HB.out.alloc HB.out.size (.cells #[.int .i64 xl.born, .int .i64 xl.keeps, .slice xp.As xp.ns xp.cs] 46))
      have hcc := celCells (HK.out.below HA.out HK.out.lt)
      have ik0 : (0 : Int) ≤ (k : Int) := by omega
      have ik1 : (k : Int) < (n : Int) := by omega
      obtain ⟨d0, d1, d2, d3, d4⟩ := hcc
      rw [ho]
      clear ho hok
      go_wp2_with fail
      refine (checkStays_ok p c xp xl _ HLO.out HNB.out (by have h1 := HNB.out; have h2 := HN6.out; omega) (HLM.out.old (HB0.out.trans (HA.out.mono HB0.out.size)))).mono ?_
      rintro e w2 ⟨rfl, hb2⟩
      have HB2 := Lib.hid (HA.out.trans (hb2.mono HA.out.size))
      clear hb2 d0 d1 d2 d3 d4 s0 s1 s2
      go_wp2_with fail
      go_roundw
      case rel => exact ⟨k + 1, by omega, by go_num, HB2.out⟩
      case measure => simp [intOf]; omega
    · go_wp2_with fail
      go_ret
      exact ⟨rfl, HBW.out⟩
end Go.Proofs.Ytmoolcpogilgkaa
