/-
  cold.CheckLot, Lost, Fresh, Last of what may be.
-/
import Derived.Test.YtmoolcpogilgkaaCold4
import Derived.Test.YtmoolcpogilgkaaCold5
set_option linter.unusedVariables false
set_option linter.unusedSimpArgs false
namespace Go.Proofs.Ytmoolcpogilgkaa
open Go.RowKit

theorem celCells {w : World} {g : Nat} {p : CelP} {c : CelT} (h : Blk w g 37 (celA p c)) :
    w.cell? ⟨g, 0, none⟩ = some (.int .i64 c.hlo) ∧ w.cell? ⟨g, 1, none⟩ = some (.int .i64 c.hhi) ∧ w.cell? ⟨g, 2, none⟩ = some (.slice p.Ab p.nb p.cb) ∧ w.cell? ⟨g, 3, none⟩ = some (.slice p.Af p.nf p.cf) ∧ w.cell? ⟨g, 4, none⟩ = some (.slice p.Ar p.nr p.cr) :=
  ⟨h.cell 0, h.cell 1, h.cell 2, h.cell 3, h.cell 4⟩
theorem lotCells {w : World} {g : Nat} {q : LotP} {l : LotT} (h : Blk w g 46 (lotA q l)) :
    w.cell? ⟨g, 0, none⟩ = some (.int .i64 l.born) ∧ w.cell? ⟨g, 1, none⟩ = some (.int .i64 l.keeps) ∧ w.cell? ⟨g, 2, none⟩ = some (.slice q.As q.ns q.cs) :=
  ⟨h.cell 0, h.cell 1, h.cell 2⟩
/-- a cellar and a lot, copied -/
structure CoE (w : World) (p : CelP) (c : CelT) (q : LotP) (l : LotT) (W : World) : Prop where
  low : Below w.heap.size w W
  c : Blk W w.heap.size 37 (celA p c)
  l : Blk W (w.heap.size + 1) 46 (lotA q l)
theorem CoE.start (w : World) (p : CelP) (c : CelT) (q : LotP) (l : LotT) : CoE w p c q l ((w.alloc (.cells (celA p c) 37)).alloc (.cells (lotA q l) 46)) := by
  refine ⟨((Below.refl _ w).alloc (Nat.le_refl _) _).alloc (by simp) _, (Blk.new w _ _).alloc _, ?_⟩
  have := Blk.new (w.alloc (.cells (celA p c) 37)) 46 (lotA q l)
  rwa [World.size_alloc] at this
theorem CoE.below {w W W' : World} {p : CelP} {c : CelT} {q : LotP} {l : LotT} (h : CoE w p c q l W) (hb : Below W.heap.size W W') : CoE w p c q l W' := ⟨h.low.trans (hb.mono h.low.size), h.c.below hb h.c.lt, h.l.below hb h.l.lt⟩

set_option maxRecDepth 100000 in
set_option maxHeartbeats 2000000 in
theorem checkStays_ok (p : CelP) (c : CelT) (q : LotP) (l : LotT) (w : World) (hlo : LotOk c.boxes.length l) (hnb : p.nb = c.boxes.length) (hn6 : p.nb ≤ 6) (hL : LotM w q l) :
    Calls Try.prog 44 #[.agg (celA p c), .agg (lotA q l)] w fun e w' => e = .returned (.int .i64 0) ∧ Below w.heap.size w w' := by
  have HE := Lib.hid (CoE.start w p c q l)
  have HL := Lib.hid hL
  have HLO := Lib.hid hlo
  obtain ⟨b1, b2⟩ := hlo.born
  obtain ⟨b3, b4⟩ := hlo.keeps
  have hns : q.ns ≤ 8 := by have h1 := hL.len; have h2 := hlo.sn; omega
  have hz2 : decide ((8 : Int) < (q.ns : Int)) = false := by simp; omega
  clear hL hlo
  go_enter Try.func44, Try.ntmps44
  go_upto_region 1 with fail
  obtain ⟨V, hV⟩ : ∃ V, (w.alloc (.cells (celA p c) 37)).alloc (.cells (lotA q l) 46) = V := ⟨_, rfl⟩
  rw [hV] at HE ⊢
  obtain ⟨e0, e1, e2⟩ := lotCells HE.out.l
  clear hV
  go_wp2_with (go_at_call 31; refine (cin_t _ _ _ (by omega) _).mono ?_; rintro e w' ⟨rfl, rfl⟩)
  go_loopw [5, 27] (fun f i wr => ∃ (k : Nat) (fr : Int), k ≤ q.ns ∧ i = .int .i64 k ∧ f = .int .i64 fr ∧ (∀ h : k < l.stays.length, fr ≤ l.stays[k].fr) ∧ Below V.heap.size V wr) (fun _ i _ => q.ns - (intOf i).toNat)
  case atStart => exact ⟨0, l.born, Nat.zero_le _, rfl, rfl, fun h => HLO.out.s0 h, Below.refl _ _⟩
  case round =>
    obtain ⟨k, fr, hk, rfl, rfl, hfr, hB⟩ := hrel
    have HB := Lib.hid hB
    have HEr := Lib.hid (HE.out.below hB)
    have HFR := Lib.hid hfr
    clear hB hfr e0 e1 e2
    by_cases hlt : k < q.ns
    · have hkl : k < l.stays.length := by have h1 := HL.out.len; omega
      obtain ⟨o, ho, hbz, s0, s1, s2⟩ := (HL.out.old HEr.out.low).atSt hkl
      have hok := HLO.out.ss _ (List.getElem_mem hkl)
      have hfr := HFR.out hkl
      have HNX := Lib.hid (fun (h : k + 1 < l.stays.length) => (show (l.stays[k]'hkl).to ≤ l.stays[k + 1].fr from HLO.out.so k h))
      generalize l.stays[k] = s at s0 s1 s2 hok hfr HNX
      obtain ⟨a1, a2⟩ := hok.b
      obtain ⟨a3, a4⟩ := hok.f
      have a5 := hok.t
      have HA := Lib.hid (HB.out.alloc HB.out.size (.cells #[.int .i64 s.box, .int .i64 s.fr, .int .i64 s.to] 89))
      obtain ⟨d0, d1, d2, d3, d4⟩ := celCells (HE.out.below HA.out).c
      have ik0 : (0 : Int) ≤ (k : Int) := by omega
      have ik1 : (k : Int) < (q.ns : Int) := by omega
      have g1 : decide (s.to ≤ s.fr) = false := by simp; omega
      have g2 : decide (s.fr < fr) = false := by simp; omega
      rw [ho]
      clear ho hok
      go_wp2_with (go_at_call 31; refine (cin_t _ _ _ (by omega) _).mono ?_; rintro e w' ⟨rfl, rfl⟩)
      go_roundw
      case rel => exact ⟨k + 1, s.to, by omega, by go_num, rfl, fun h => HNX.out h, HA.out⟩
      case measure => simp [intOf]; omega
    · go_wp2_with fail
      go_ret
      exact ⟨rfl, HEr.out.low⟩

set_option maxRecDepth 100000 in
set_option maxHeartbeats 4000000 in
theorem checkLot_ok (p : CelP) (c : CelT) (q : LotP) (l : LotT) (w : World) (hc : CelOk c) (hlo : LotOk c.boxes.length l) (hM : CelM w p c) (hL : LotM w q l) :
    Calls Try.prog 28 #[.agg (celA p c), .agg (lotA q l)] w fun e w' => e = .returned (.int .i64 0) ∧ Below w.heap.size w w' := by
  have HE := Lib.hid (CoE.start w p c q l)
  have HL := Lib.hid hL
  have HLO := Lib.hid hlo
  have HC := Lib.hid hc
  have HM := Lib.hid hM
  have HNB := Lib.hid hM.b.len
  have HN6 := Lib.hid hc.bn
  clear hL hlo hc hM
  go_enter Try.func28, Try.ntmps28
  go_upto_region 1 with fail
  obtain ⟨V, hV⟩ : ∃ V, (w.alloc (.cells (celA p c) 37)).alloc (.cells (lotA q l) 46) = V := ⟨_, rfl⟩
  rw [hV] at HE ⊢
  obtain ⟨d0, d1, d2, d3, d4⟩ := celCells HE.out.c
  clear hV
  go_wp2_with fail
  refine (check_ok_c p c _ HC.out (HM.out.old HE.out.low)).mono ?_
  rintro e w1 ⟨rfl, hb1⟩
  have HE1 := Lib.hid (HE.out.below hb1)
  obtain ⟨f0, f1, f2, f3, f4⟩ := celCells HE1.out.c
  obtain ⟨g0, g1, g2⟩ := lotCells HE1.out.l
  clear hb1 d0 d1 d2 d3 d4
  go_wp2_with fail
  refine (checkStays_ok p c q l _ HLO.out HNB.out (by have h1 := HNB.out; have h2 := HN6.out; omega) (HL.out.old HE1.out.low)).mono ?_
  rintro e w2 ⟨rfl, hb2⟩
  have HE2 := Lib.hid (HE1.out.below hb2)
  clear hb2 f0 f1 f2 f3 f4 g0 g1 g2
  go_wp2_with fail
  go_ret
  exact ⟨rfl, HE2.out.low⟩

set_option maxRecDepth 100000 in
set_option maxHeartbeats 2000000 in
theorem last_any (p : CelP) (c : CelT) (q : LotP) (l : LotT) (w : World) (hc : CelOk c) (hlo : LotOk c.boxes.length l) (hM : CelM w p c) (hL : LotM w q l) :
    Calls Try.prog 11 #[.agg (celA p c), .agg (lotA q l)] w fun e w' => e = .returned (.tuple #[.int .i64 (lastT c l), .int .i64 0]) ∧ Below w.heap.size w w' := by
  have HE := Lib.hid (CoE.start w p c q l)
  have HL := Lib.hid hL
  have HLO := Lib.hid hlo
  have HC := Lib.hid hc
  have HM := Lib.hid hM
  have hbn := hlo.born
  clear hL hlo hc hM
  go_enter Try.func11, Try.ntmps11
  go_upto_region 1 with fail
  obtain ⟨V, hV⟩ : ∃ V, (w.alloc (.cells (celA p c) 37)).alloc (.cells (lotA q l) 46) = V := ⟨_, rfl⟩
  rw [hV] at HE ⊢
  obtain ⟨d0, d1, d2, d3, d4⟩ := celCells HE.out.c
  obtain ⟨g0, g1, g2⟩ := lotCells HE.out.l
  clear hV
  go_wp2_with fail
  refine (checkLot_ok p c q l _ HC.out HLO.out (HM.out.old HE.out.low) (HL.out.old HE.out.low)).mono ?_
  rintro e w1 ⟨rfl, hb1⟩
  have HE1 := Lib.hid (HE.out.below hb1)
  clear hb1 d0 d1 d2 d3 d4 g0 g1 g2
  obtain ⟨d0, d1, d2, d3, d4⟩ := celCells HE1.out.c
  obtain ⟨g0, g1, g2⟩ := lotCells HE1.out.l
  go_wp2_with fail
  refine (lost_any p c q l _ HC.out HLO.out (HM.out.old HE1.out.low) (HL.out.old HE1.out.low)).mono ?_
  rintro e w2 ⟨A, n, cA, b, rfl, hs, hb2⟩
  have HE2 := Lib.hid (HE1.out.below hb2)
  have HS := Lib.hid hs
  have HN := Lib.hid hs.len
  have hn241 : n ≤ 241 := by have h1 := hs.len; rw [lostL_len] at h1; unfold hoursL at h1; omega
  clear hb2 hs d0 d1 d2 d3 d4 g0 g1 g2
  go_wp2_with fail
  go_loopw [7, 22] (fun v i wr => ∃ (k : Nat) (x : Int), k ≤ n ∧ i = .int .i64 k ∧ v = .int .i64 x ∧ lastF l.keeps l.born ((lostL c l).drop k) k x = lastT c l ∧ Below w2.heap.size w2 wr) (fun _ i _ => n - (intOf i).toNat)
  case atStart => exact ⟨0, l.born, Nat.zero_le _, rfl, rfl, rfl, Below.refl _ _⟩
  case round =>
    obtain ⟨k, x, hk, rfl, rfl, hx, hB⟩ := hrel
    have HX := Lib.hid hx
    have HB := Lib.hid hB
    have HEr := Lib.hid (HE2.out.below hB)
    clear hx hB
    by_cases hlt : k < n
    · have hkl : k < (lostL c l).length := by have := HN.out; omega
      obtain ⟨o, ho, hbz, s0, s1⟩ := (HS.out.old HB.out).atR hkl
      have HD := Lib.hid (show lastF l.keeps l.born ((lostL c l).drop k) k x = lastF l.keeps l.born ((lostL c l).drop (k + 1)) (k + 1) (if (lostL c l)[k].hi ≤ l.keeps then l.born + k else x) by rw [List.drop_eq_getElem_cons hkl, lastF])
      generalize (lostL c l)[k] = y at s0 s1 HD
      have HA := Lib.hid (HB.out.alloc HB.out.size (.cells #[.int .i64 y.lo, .int .i64 y.hi] 32))
      obtain ⟨g0, g1, g2⟩ := lotCells (HE2.out.below HA.out).l
      have ik0 : (0 : Int) ≤ (k : Int) := by omega
      have ik1 : (k : Int) < (n : Int) := by omega
      rw [ho]
      clear ho
      by_cases hy : y.hi ≤ l.keeps
      · have hd : decide (y.hi ≤ l.keeps) = true := decide_eq_true hy
        have HQ := Lib.hid (show lastF l.keeps l.born ((lostL c l).drop (k + 1)) (k + 1) (l.born + k) = lastT c l by rw [← HX.out, HD.out, if_pos hy])
        clear hy
        go_wp2_with fail
        go_roundw
        case rel => exact ⟨k + 1, l.born + k, by omega, by go_num, rfl, HQ.out, HA.out⟩
        case measure => simp [intOf]; omega
      · have hd : decide (y.hi ≤ l.keeps) = false := decide_eq_false hy
        have HQ := Lib.hid (show lastF l.keeps l.born ((lostL c l).drop (k + 1)) (k + 1) x = lastT c l by rw [← HX.out, HD.out, if_neg hy])
        clear hy
        go_wp2_with fail
        go_roundw
        case rel => exact ⟨k + 1, x, by omega, by go_num, rfl, HQ.out, HA.out⟩
        case measure => simp [intOf]; omega
    · have HQ := Lib.hid (show x = lastT c l by have h9 := HX.out; rw [List.drop_of_length_le (by have := HN.out; omega)] at h9; exact h9)
      go_wp2_with fail
      go_ret2
      exact ⟨by rw [HQ.out]; rfl, HEr.out.low⟩
end Go.Proofs.Ytmoolcpogilgkaa
