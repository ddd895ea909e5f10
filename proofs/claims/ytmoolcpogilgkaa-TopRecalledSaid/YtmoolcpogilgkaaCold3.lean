/-
  cold: joined (one loss more), air (the warmths around a lot in an hour).
-/
import Derived.Test.YtmoolcpogilgkaaCold2
import Derived.Test.YtmoolcpogilgkaaTrSet
set_option linter.unusedVariables false
set_option linter.unusedSimpArgs false
namespace Go.Proofs.Ytmoolcpogilgkaa
open Go.RowKit

set_option maxRecDepth 100000 in
set_option maxHeartbeats 1000000 in
theorem joined_any (g : Nat) (y start : Span) (w : World) (hl : Sl encR 2 w g (some ⟨g, 0, none⟩) 1 [y]) (ha : 0 ≤ start.lo ∧ start.lo ≤ 1000000000 ∧ 0 ≤ start.hi ∧ start.hi ≤ 1000000000) (hb : 0 ≤ y.lo ∧ y.lo ≤ 1000000000 ∧ 0 ≤ y.hi ∧ y.hi ≤ 1000000000) :
    Calls Try.prog 48 #[.slice (some ⟨g, 0, none⟩) 1 1, .agg #[.int .i64 start.lo, .int .i64 start.hi], .func (.func 50) #[] #[]] w fun e w' => e = .returned (.agg #[.int .i64 (start.lo + y.lo), .int .i64 (start.hi + y.hi)]) ∧ Below w.heap.size w w' := by
  have hS := (Blk.new w 32 #[.int .i64 start.lo, .int .i64 start.hi]).alloc (.cells #[.int .i64 0, .int .i64 0] 32)
  have hR := Blk.new (w.alloc (.cells #[.int .i64 start.lo, .int .i64 start.hi] 32)) 32 #[.int .i64 0, .int .i64 0]
  simp only [World.size_alloc] at hR
  have hb0 : Below w.heap.size w ((w.alloc (.cells #[.int .i64 start.lo, .int .i64 start.hi] 32)).alloc (.cells #[.int .i64 0, .int .i64 0] 32)) := ((Below.refl _ w).alloc (Nat.le_refl _) _).alloc (by simp) _
  have HL := Lib.hid hl
  have HS := Lib.hid hS
  have HR := Lib.hid hR
  have HB0 := Lib.hid hb0
  clear hl hS hR hb0
  go_enter Try.func48, Try.ntmps48
  go_wp2_with fail
  go_loopw [11] (fun i wr => ∃ (k : Nat) (x : Span), k ≤ 1 ∧ i = .int .i64 k ∧ (k = 0 → x = start) ∧ (k = 1 → x = ⟨start.lo + y.lo, start.hi + y.hi⟩) ∧ Blk wr w.heap.size 32 #[.int .i64 x.lo, .int .i64 x.hi] ∧ Blk wr (w.heap.size + 1) 32 #[.int .i64 0, .int .i64 0] ∧ Below w.heap.size w wr) (fun i _ => 1 - (intOf i).toNat)
  case atStart => exact ⟨0, start, by omega, rfl, fun _ => rfl, fun h => by omega, HS.out, HR.out, HB0.out⟩
  case round =>
    obtain ⟨k, x, hk, rfl, hx0, hx1, hS, hR, hB⟩ := hrel
    clear HS HR HB0
    have HS := Lib.hid hS
    have HR := Lib.hid hR
    have HB := Lib.hid hB
    clear hS hR hB
    have hk2 : k = 0 ∨ k = 1 := by omega
    rcases hk2 with rfl | rfl
    · have hxs : x = start := hx0 rfl
      clear hx0 hx1
      subst hxs
      obtain ⟨o, ho, _, s0, s1⟩ := (HL.out.old HB.out).atR (k := 0) (by simp)
      obtain rfl : 0 = o := by injection ho with ho; injection ho
      simp only [List.getElem_cons_zero, Nat.zero_add, Nat.zero_mul] at s0 s1
      have hS1 := HS.out.alloc (.cells #[.int .i64 y.lo, .int .i64 y.hi] 32)
      have HB1 := Lib.hid (HB.out.alloc HB.out.size (.cells #[.int .i64 y.lo, .int .i64 y.hi] 32))
      have HS1 := Lib.hid hS1
      have HR1 := Lib.hid (HR.out.alloc (.cells #[.int .i64 y.lo, .int .i64 y.hi] 32))
      have a0 := hS1.cell 0
      have a1 := hS1.cell 1
      have hz := HB.out.size
      clear hS1
      go_wp2_with fail
      refine (lost1_any x y _ ha hb).mono ?_
      rintro e w2 ⟨rfl, hb2⟩
      have hS2 := HS1.out.below hb2 HS1.out.lt
      have HR2 := Lib.hid (HR1.out.below hb2 HR1.out.lt)
      have HB2 := Lib.hid (HB1.out.trans (hb2.mono HB1.out.size))
      have f0 := hS2.frozen 0
      have f1 := hS2.frozen 1
      have e0 := hS2.cell 0
      have e1 := hS2.cell 1
      have HS3 := Lib.hid ((hS2.set_ 0 (.int .i64 (x.lo + y.lo))).set_ 1 (.int .i64 (x.hi + y.hi)))
      have HR3 := Lib.hid ((HR2.out.far (p := ⟨w.heap.size, 0, none⟩) (by show w.heap.size + 1 ≠ w.heap.size; omega) (.int .i64 (x.lo + y.lo))).far (p := ⟨w.heap.size, 1, none⟩) (by show w.heap.size + 1 ≠ w.heap.size; omega) (.int .i64 (x.hi + y.hi)))
      have HB3 := Lib.hid ((HB2.out.setCell (p := ⟨w.heap.size, 0, none⟩) (Nat.le_refl _) (.int .i64 (x.lo + y.lo))).setCell (p := ⟨w.heap.size, 1, none⟩) (Nat.le_refl _) (.int .i64 (x.hi + y.hi)))
      clear hS2 hb2 a0 a1 s0 s1 ho
      go_wp2_with fail
      go_roundw
      case rel => exact ⟨1, ⟨x.lo + y.lo, x.hi + y.hi⟩, by omega, by go_num, fun h => by omega, fun _ => rfl, HS3.out, HR3.out, HB3.out⟩
      case measure => simp [intOf]
    · obtain rfl := hx1 rfl
      clear hx0 hx1
      have a0 := HS.out.cell 0
      have a1 := HS.out.cell 1
      have f0 := HR.out.frozen 0
      have f1 := HR.out.frozen 1
      have r0 := HR.out.cell 0
      have r1 := HR.out.cell 1
      have hR2 := (HR.out.set_ 0 (.int .i64 (start.lo + y.lo))).set_ 1 (.int .i64 (start.hi + y.hi))
      have q0 := hR2.cell 0
      have q1 := hR2.cell 1
      clear hR2
      go_wp2_with fail
      refine bodyPost_ret (v := .agg #[.int .i64 (start.lo + y.lo), .int .i64 (start.hi + y.hi)]) (by simp [results, Try.results48, go_sem, q0, q1]; try omega) rfl ⟨rfl, ?_⟩
      exact (HB.out.setCell (p := ⟨w.heap.size + 1, 0, none⟩) (by show w.heap.size ≤ w.heap.size + 1; omega) _).setCell (p := ⟨w.heap.size + 1, 1, none⟩) (by show w.heap.size ≤ w.heap.size + 1; omega) _

def verdL (c : CelT) (box : Nat) : List Int := (hoursT c box).map fun x => coldV x.2
theorem verdL_len (c : CelT) (box : Nat) : (verdL c box).length = 240 := by unfold verdL; rw [List.length_map, hoursT_len]
theorem verdL_get (c : CelT) (box : Nat) {k : Nat} (hk : k < (verdL c box).length) : (verdL c box)[k] = coldV (iceA (boxAt c box) box c.fils k) := by simp [verdL, hoursT]
theorem zeroIs (w : World) : (zeroValue 22).run Try.prog w = .ok (.slice none 0 0) w := by kernel_rfl
/-- which boxes are cold at which hours, as a map holds it -/
def StM (w : World) (Bm : Nat) (c : CelT) : Prop :=
  ∃ m : Int → Option Value, KMap (Value.int .i64) okI w Bm m ∧ ∀ j, j < c.boxes.length → ∃ A cp g, m (j : Int) = some (.slice A 240 cp) ∧ Sl encI 1 w g A 240 (verdL c j)
theorem StM.old {w w' : World} {Bm : Nat} {c : CelT} (h : StM w Bm c) (hb : Below w.heap.size w w') : StM w' Bm c := by
  obtain ⟨m, h1, h2⟩ := h
  refine ⟨m, h1.keep (hb.block Bm h1.lt), fun j hj => ?_⟩
  obtain ⟨A, cp, g, h3, h4⟩ := h2 j hj
  exact ⟨A, cp, g, h3, h4.old hb⟩
theorem airF_take (c : CelT) (hour : Int) (l : List StayT) (k : Nat) (hk : k < l.length) : airF c hour (l.drop k) = if l[k].fr ≤ hour ∧ hour < l[k].to then airB (boxAt c l[k].box) (coldV (iceA (boxAt c l[k].box) l[k].box c.fils hour.toNat)) else airF c hour (l.drop (k + 1)) := by
  rw [List.drop_eq_getElem_cons hk, airF]
theorem coldV_or (p : Int × Int) : coldV p = 1 ∨ coldV p = 2 ∨ coldV p = 3 := by
  unfold coldV verd
  split
  · exact .inl rfl
  · split
    · exact .inr (.inr rfl)
    · exact .inr (.inl rfl)
/-- while air looks -/
structure AirS (w : World) (p : CelP) (c : CelT) (q : LotP) (l : LotT) (W : World) : Prop where
  low : Below w.heap.size w W
  c : Blk W w.heap.size 37 (celA p c)
  l : Blk W (w.heap.size + 1) 46 (lotA q l)
  r : Blk W (w.heap.size + 2) 32 #[.int .i64 0, .int .i64 0]
theorem AirS.alloc {w W : World} {p : CelP} {c : CelT} {q : LotP} {l : LotT} (h : AirS w p c q l W) (o : Obj) : AirS w p c q l (W.alloc o) := ⟨h.low.alloc h.low.size o, h.c.alloc o, h.l.alloc o, h.r.alloc o⟩
def spanV (x : Span) : Value := .agg #[.int .i64 x.lo, .int .i64 x.hi]

set_option maxRecDepth 100000 in
set_option maxHeartbeats 4000000 in
theorem air_any (p : CelP) (c : CelT) (q : LotP) (l : LotT) (Bm hour : Nat) (w : World) (hc : CelOk c) (hlo : LotOk c.boxes.length l) (hh : hour < 240) (hM : CelM w p c) (hL : LotM w q l) (hS : StM w Bm c) :
    Calls Try.prog 47 #[.agg (celA p c), .agg (lotA q l), .map (some Bm), .int .i64 hour] w fun e w' => e = .returned (spanV (airT c l hour)) ∧ Below w.heap.size w w' := by
  have hA0 : AirS w p c q l (((w.alloc (.cells (celA p c) 37)).alloc (.cells (lotA q l) 46)).alloc (.cells #[.int .i64 0, .int .i64 0] 32)) := by
    refine ⟨(((Below.refl _ w).alloc (Nat.le_refl _) _).alloc (by simp) _).alloc (by simp; omega) _, ((Blk.new w _ _).alloc _).alloc _, ?_, ?_⟩
    · have := (Blk.new (w.alloc (.cells (celA p c) 37)) 46 (lotA q l)).alloc (.cells #[.int .i64 0, .int .i64 0] 32)
      rwa [World.size_alloc] at this
    · have := Blk.new ((w.alloc (.cells (celA p c) 37)).alloc (.cells (lotA q l) 46)) 32 #[.int .i64 0, .int .i64 0]
      simpa only [World.size_alloc] using this
  have HA0 := Lib.hid hA0
  have HC := Lib.hid hc
  have HLO := Lib.hid hlo
  have HM := Lib.hid hM
  have HL := Lib.hid hL
  have HS := Lib.hid hS
  have l2 : (((w.alloc (.cells (celA p c) 37)).alloc (.cells (lotA q l) 46)).alloc (.cells #[.int .i64 0, .int .i64 0] 32)).cell? ⟨w.heap.size + 1, 2, none⟩ = some (.slice q.As q.ns q.cs) := hA0.l.cell 2
  have hns : q.ns ≤ 8 := by have h1 := hL.len; have h2 := hlo.sn; omega
  clear hA0 hc hlo hM hL hS
  go_enter Try.func47, Try.ntmps47
  go_wp2_with fail
  go_loopw [15] (fun i wr => ∃ k : Nat, k ≤ q.ns ∧ i = .int .i64 k ∧ airF c hour (l.stays.drop k) = airT c l hour ∧ AirS w p c q l wr) (fun i _ => q.ns - (intOf i).toNat)
  case atStart => exact ⟨0, Nat.zero_le _, rfl, rfl, HA0.out⟩
  case round =>
    obtain ⟨k, hk, rfl, hx, hA⟩ := hrel
    have HX := Lib.hid hx
    have HA := Lib.hid hA
    clear hx hA l2
    by_cases hlt : k < q.ns
    · have hkl : k < l.stays.length := by have h1 := HL.out.len; omega
      obtain ⟨o, ho, hbz, s0, s1, s2⟩ := (HL.out.old HA.out.low).atSt hkl
      have HD := Lib.hid (airF_take c hour l.stays k hkl)
      have hsok := HLO.out.ss _ (List.getElem_mem hkl)
      generalize l.stays[k] = s at s0 s1 s2 HD hsok
      obtain ⟨sb, sf, stt⟩ := s
      obtain ⟨bx, hbx⟩ := Int.eq_ofNat_of_zero_le hsok.b.1
      simp only at hbx
      subst hbx
      have hbn : bx < c.boxes.length := by have := hsok.b.2; simp only at this; omega
      simp only at s0 s1 s2 HD
      have HA1 := Lib.hid (HA.out.alloc (.cells #[.int .i64 bx, .int .i64 sf, .int .i64 stt] 89))
      rw [ho]
      clear ho hsok
      have ik0 : (0 : Int) ≤ (k : Int) := by omega
      have ik1 : (k : Int) < (q.ns : Int) := by omega
      by_cases h1 : sf ≤ hour
      · have d1 : decide (sf ≤ (hour : Int)) = true := decide_eq_true h1
        by_cases h2 : (hour : Int) < stt
        · have d2 : decide ((hour : Int) < stt) = true := decide_eq_true h2
          obtain ⟨o2, ho2, hbz2, hx9⟩ := (HM.out.b.old HA1.out.low).atBx hbn
          have hbe : c.boxes[bx] = boxAt c bx := by unfold boxAt; simp [List.getD_eq_getElem?_getD, hbn]
          rw [hbe] at hx9
          obtain ⟨b, hb⟩ : ∃ b, b = boxAt c bx := ⟨_, rfl⟩
          rw [← hb] at hx9
          obtain ⟨v, hv⟩ : ∃ v, v = coldV (iceA b bx c.fils hour) := ⟨_, rfl⟩
          have HE := Lib.hid (show airT c l hour = airB b v by rw [← HX.out, HD.out, if_pos ⟨h1, h2⟩, ← hb, hv]; rfl)
          have x0 : (wr.alloc (.cells #[.int .i64 bx, .int .i64 sf, .int .i64 stt] 89)).cell? ⟨p.bb, o2 + bx * 9, none⟩ = some (.int .i64 b.room) := by simpa using hx9 0 _ rfl
          have x1 := hx9 1 _ rfl
          have x2 := hx9 2 _ rfl
          have x3 := hx9 3 _ rfl
          have x4 := hx9 4 _ rfl
          have x5 := hx9 5 _ rfl
          have x6 := hx9 6 _ rfl
          have x7 := hx9 7 _ rfl
          have x8 := hx9 8 _ rfl
          have c2 : (wr.alloc (.cells #[.int .i64 bx, .int .i64 sf, .int .i64 stt] 89)).cell? ⟨w.heap.size, 2, none⟩ = some (.slice p.Ab p.nb p.cb) := HA1.out.c.cell 2
          have hA2 := HA1.out.alloc (.cells #[.int .i64 b.room, .int .i64 b.ilo, .int .i64 b.ihi, .int .i64 b.mlo, .int .i64 b.mhi, .int .i64 b.clo, .int .i64 b.chi, .int .i64 b.wlo, .int .i64 b.whi] 74)
          obtain ⟨m, hm1, hm2⟩ := HS.out.old hA2.low
          obtain ⟨Am, cp, gm, hmj, hmS⟩ := hm2 bx hbn
          have hbn6 : bx < 6 := by have := HC.out.bn; omega
          have hlk := run_lookupK kkI Try.underlying104 zeroIs hm1 (bx : Int) (WalkArith.wf_i64 (by omega))
          rw [hmj] at hlk
          simp only [Option.getD_some] at hlk
          obtain ⟨om, hom, _, hcm⟩ := hmS.atI (k := hour) (by rw [verdL_len]; omega)
          rw [verdL_get, ← hb, ← hv] at hcm
          rw [hom] at hlk
          have hnb : p.nb = c.boxes.length := HM.out.b.len
          have ib0 : (0 : Int) ≤ (bx : Int) := by omega
          have ib1 : (bx : Int) < (p.nb : Int) := by omega
          have ih0 : (0 : Int) ≤ (hour : Int) := by omega
          have ih1 : (hour : Int) < 240 := by omega
          rw [ho2] at c2
          have hv3 : v = 1 ∨ v = 2 ∨ v = 3 := by rw [hv]; exact coldV_or _
          have HA2 := Lib.hid hA2
          have g0 := hA2.r.frozen 0
          have g1 := hA2.r.frozen 1
          have r0 := hA2.r.cell 0
          have r1 := hA2.r.cell 1
          clear hx9 hbe hb hv hm1 hm2 hmj hmS hom ho2 hA2 h1 h2
          rcases hv3 with rfl | rfl | rfl
          · have hR2 := (HA2.out.r.set_ 0 (.int .i64 b.clo)).set_ 1 (.int .i64 b.chi)
            have q0 := hR2.cell 0
            have q1 := hR2.cell 1
            clear hR2
            go_wp2_with fail
            refine bodyPost_ret (v := .agg #[.int .i64 b.clo, .int .i64 b.chi]) (by simp [results, Try.results47, go_sem, q0, q1]; try omega) rfl ⟨by rw [HE.out]; rfl, ?_⟩
            exact (HA2.out.low.setCell (p := ⟨w.heap.size + 2, 0, none⟩) (by show w.heap.size ≤ w.heap.size + 2; omega) _).setCell (p := ⟨w.heap.size + 2, 1, none⟩) (by show w.heap.size ≤ w.heap.size + 2; omega) _
          · have hR2 := (HA2.out.r.set_ 0 (.int .i64 b.wlo)).set_ 1 (.int .i64 b.whi)
            have q0 := hR2.cell 0
            have q1 := hR2.cell 1
            clear hR2
            go_wp2_with fail
            refine bodyPost_ret (v := .agg #[.int .i64 b.wlo, .int .i64 b.whi]) (by simp [results, Try.results47, go_sem, q0, q1]; try omega) rfl ⟨by rw [HE.out]; rfl, ?_⟩
            exact (HA2.out.low.setCell (p := ⟨w.heap.size + 2, 0, none⟩) (by show w.heap.size ≤ w.heap.size + 2; omega) _).setCell (p := ⟨w.heap.size + 2, 1, none⟩) (by show w.heap.size ≤ w.heap.size + 2; omega) _
          · have hR2 := (HA2.out.r.set_ 0 (.int .i64 b.clo)).set_ 1 (.int .i64 b.whi)
            have q0 := hR2.cell 0
            have q1 := hR2.cell 1
            clear hR2
            go_wp2_with fail
            refine bodyPost_ret (v := .agg #[.int .i64 b.clo, .int .i64 b.whi]) (by simp [results, Try.results47, go_sem, q0, q1]; try omega) rfl ⟨by rw [HE.out]; rfl, ?_⟩
            exact (HA2.out.low.setCell (p := ⟨w.heap.size + 2, 0, none⟩) (by show w.heap.size ≤ w.heap.size + 2; omega) _).setCell (p := ⟨w.heap.size + 2, 1, none⟩) (by show w.heap.size ≤ w.heap.size + 2; omega) _
        · have d2 : decide ((hour : Int) < stt) = false := decide_eq_false h2
          have HE := Lib.hid (show airF c hour (l.stays.drop (k + 1)) = airT c l hour by rw [← HX.out, HD.out, if_neg (fun h => h2 h.2)])
          clear h1 h2
          go_wp2_with fail
          go_roundw
          case rel => exact ⟨k + 1, by omega, by go_num, HE.out, HA1.out⟩
          case measure => simp [intOf]; omega
      · have d1 : decide (sf ≤ (hour : Int)) = false := decide_eq_false h1
        have HE := Lib.hid (show airF c hour (l.stays.drop (k + 1)) = airT c l hour by rw [← HX.out, HD.out, if_neg (fun h => h1 h.1)])
        clear h1
        go_wp2_with fail
        go_roundw
        case rel => exact ⟨k + 1, by omega, by go_num, HE.out, HA1.out⟩
        case measure => simp [intOf]; omega
    · have HE := Lib.hid (show airT c l hour = ⟨c.hlo, c.hhi⟩ by rw [← HX.out, List.drop_of_length_le (by have := HL.out.len; omega)]; rfl)
      have c0 : wr.cell? ⟨w.heap.size, 0, none⟩ = some (.int .i64 c.hlo) := HA.out.c.cell 0
      have c1 : wr.cell? ⟨w.heap.size, 1, none⟩ = some (.int .i64 c.hhi) := HA.out.c.cell 1
      have g0 := HA.out.r.frozen 0
      have g1 := HA.out.r.frozen 1
      have r0 := HA.out.r.cell 0
      have r1 := HA.out.r.cell 1
      have hR2 := (HA.out.r.set_ 0 (.int .i64 c.hlo)).set_ 1 (.int .i64 c.hhi)
      have q0 := hR2.cell 0
      have q1 := hR2.cell 1
      clear hR2
      go_wp2_with fail
      refine bodyPost_ret (v := .agg #[.int .i64 c.hlo, .int .i64 c.hhi]) (by simp [results, Try.results47, go_sem, q0, q1]; try omega) rfl ⟨by rw [HE.out]; rfl, ?_⟩
      exact (HA.out.low.setCell (p := ⟨w.heap.size + 2, 0, none⟩) (by show w.heap.size ≤ w.heap.size + 2; omega) _).setCell (p := ⟨w.heap.size + 2, 1, none⟩) (by show w.heap.size ≤ w.heap.size + 2; omega) _
end Go.Proofs.Ytmoolcpogilgkaa
