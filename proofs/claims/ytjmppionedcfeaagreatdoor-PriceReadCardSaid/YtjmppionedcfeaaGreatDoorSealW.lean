/-
  The seal of the program. Seal.
-/
import Derived.Test.YtjmppionedcfeaaGreatDoorChk
set_option linter.unusedVariables false
set_option linter.unusedSimpArgs false
namespace Go.Proofs.YtjmppionedcfeaaGreatDoor
open Go.RowKit

set_option maxHeartbeats 400000 in
theorem press_any (g b n c : Nat) (A : Option Addr) (s : Int) (l : List Int) (w : World) (hg : Blk w g 104 #[.int .i64 s]) (hl : Sl encI 1 w b A n l) (hbg : b ≠ g) (hn : n ≤ 1000000)
    (hx : ∀ x ∈ l, 0 ≤ x ∧ x ≤ 100000) (h0 : 0 ≤ s) (h1 : s ≤ 9972) :
    Calls Tryz.prog 55 #[.pointer (some ⟨g, 0, none⟩), .slice A n c] w fun e w' => e = .returned (.tuple #[]) ∧ Blk w' g 104 #[.int .i64 (press s l)] ∧ w.grownBy w' (some g) := by
  have HA := Lib.hid hl.len
  have HL := Lib.hid hl
  have HX := Lib.hid hx
  clear hl hx
  go_enter Tryz.func55, Tryz.ntmps55
  go_wp2_with fail
  go_loopw [8] (fun i wr => ∃ k : Nat, k ≤ n ∧ i = .int .i64 k ∧ Blk wr g 104 #[.int .i64 (press s (l.take k))] ∧ w.grownBy wr (some g)) (fun i _ => n - (intOf i).toNat)
  case atStart => exact ⟨0, Nat.zero_le _, rfl, hg, only_refl _ _⟩
  case round =>
    obtain ⟨k, hk, rfl, hb, hG⟩ := hrel
    by_cases hlt : k < n
    · obtain ⟨o, rfl, hbz, hc⟩ := ((HL.out).grown hG (fun _ e => hbg (by injection e))).atI (k := k) (by have := HA.out; omega)
      have hxx := HX.out l[k] (List.getElem_mem _)
      obtain ⟨p1, p2⟩ := press_bd h0 h1 (l.take k)
      have HP := Lib.hid (show press s (l.take (k + 1)) = (press s (l.take k) * 31 + l[k]) % 9973 by rw [take_snoc l k (by have := HA.out; omega), press_snoc])
      generalize hy : l[k]'(by have := HA.out; omega) = y at hc hxx HP
      generalize hp : press s (l.take k) = p at hb p1 p2 HP
      clear hy hp
      obtain ⟨y1, y2⟩ := hxx
      have c0 := hb.cell 0
      have f0 := hb.frozen 0
      go_wp2_with fail
      go_roundw
      case rel => exact ⟨k + 1, by omega, by go_num, by rw [HP.out]; exact hb.set_ 0 _, only_setCell hG (.inl rfl) _⟩
      case measure => simp [intOf]; omega
    · have hkn : n ≤ k := by omega
      have HK := Lib.hid hkn
      go_wp2_with fail
      go_end0
      refine ⟨rfl, ?_, hG⟩
      rw [List.take_of_length_le (by have := HA.out; have := HK.out; omega)] at hb
      exact hb

set_option maxRecDepth 100000 in
set_option maxHeartbeats 1000000 in
theorem sealOf_any (st gd : Int) (b n c : Nat) (A : Option Addr) (l : List Sale) (w : World) (hl : Sl encS 6 w b A n l) (hin : BookIn st gd l) :
    Calls Tryz.prog 30 #[.agg #[.int .i64 st, .int .i64 gd, .slice A n c]] w fun e w' => e = .returned (.int .i64 (sealOf st gd l)) ∧ Below w.heap.size w w' := by
  have HA := Lib.hid hl.len
  have hn40 : n ≤ 40 := by have := hin.len; have := hl.len; omega
  have HL := Lib.hid hl
  have HI := Lib.hid hin
  obtain ⟨hs1, hs2, hg1, hg2, _, _⟩ := hin
  clear hl
  go_enter Tryz.func30, Tryz.ntmps30
  go_wp2_with fail
  have hbk := ((OverBook.start w st gd A n c).alloc (.cells #[.int .i64 7] 104)).alloc (.cells #[.int .i64 st, .int .i64 gd] 3)
  have hst : Blk _ (w.heap.size + 1) 104 #[.int .i64 7] := (by have := (Blk.new (w.alloc (.cells #[.int .i64 st, .int .i64 gd, .slice A n c] 24)) 104 #[.int .i64 7]).alloc (.cells #[.int .i64 st, .int .i64 gd] 3); rw [World.size_alloc] at this; exact this)
  refine (press_any (w.heap.size + 1) _ 2 2 _ 7 [st, gd] _ hst (Sl.newAt _ [st, gd] _ _ (by simp)) (by omega) (by omega) (by simp; omega) (by omega) (by omega)).mono ?_
  rintro e w1 ⟨rfl, hst1, hgr1⟩
  have hO1 : OverBook w st gd A n c w1 := ⟨Below.stepG hgr1 hbk.low (Nat.le_refl _) (by omega), hbk.blk.grown hgr1 (fun e => by injection e; omega)⟩
  have c2 := hO1.blk.cell 2
  have HST := Lib.hid hst1
  have HO := Lib.hid hO1
  clear hst hbk hst1 hgr1 hO1
  go_wp2_with fail
  go_loopw [21] (fun i wr => ∃ k : Nat, k ≤ n ∧ i = .int .i64 k ∧ OverBook w st gd A n c wr ∧ Blk wr (w.heap.size + 1) 104 #[.int .i64 (press (press 7 [st, gd]) ((l.take k).flatMap nums))]) (fun i _ => n - (intOf i).toNat)
  case atStart => exact ⟨0, Nat.zero_le _, rfl, HO.out, HST.out⟩
  case round =>
    obtain ⟨k, hk, rfl, hO, hb⟩ := hrel
    have hz : w.heap.size + 1 < wr.heap.size := hb.lt
    by_cases hlt : k < n
    · obtain ⟨o, rfl, hbz, s0, s1, s2, s3, s4, s5⟩ := (HL.out.old hO.low).atS (k := k) (by have := HA.out; omega)
      have hxx := (HI.out.sales l[k] (List.getElem_mem _)).nums_bd hs2 hg2
      obtain ⟨q1, q2⟩ := press_bd (s := 7) (by omega) (by omega) [st, gd]
      obtain ⟨p1, p2⟩ := press_bd q1 q2 ((l.take k).flatMap nums)
      have HP := Lib.hid (show press (press 7 [st, gd]) ((l.take (k + 1)).flatMap nums) = press (press (press 7 [st, gd]) ((l.take k).flatMap nums)) (nums l[k]) by rw [take_snoc l k (by have := HA.out; omega), List.flatMap_append, press_append]; simp)
      generalize hy : l[k]'(by have := HA.out; omega) = y at s0 s1 s2 s3 s4 s5 hxx HP
      generalize hp : press (press 7 [st, gd]) ((l.take k).flatMap nums) = p at hb p1 p2 HP
      clear hy hp q1 q2
      have HX := Lib.hid hxx
      clear hxx
      have hO2 := (hO.alloc (.cells #[.int .i64 y.st, .int .i64 y.gd, .int .i64 y.gl, .int .i64 y.gh, .int .i64 y.cl, .int .i64 y.ch] 59)).alloc (.cells #[.int .i64 y.st, .int .i64 y.gd, .int .i64 y.gl, .int .i64 y.gh, .int .i64 y.cl, .int .i64 y.ch] 3)
      have hb2 := (hb.alloc (.cells #[.int .i64 y.st, .int .i64 y.gd, .int .i64 y.gl, .int .i64 y.gh, .int .i64 y.cl, .int .i64 y.ch] 59)).alloc (.cells #[.int .i64 y.st, .int .i64 y.gd, .int .i64 y.gl, .int .i64 y.gh, .int .i64 y.cl, .int .i64 y.ch] 3)
      have HO2 := Lib.hid hO2
      have HB2 := Lib.hid hb2
      clear hO hO2 hb hb2
      go_wp2_with fail
      refine (press_any (w.heap.size + 1) _ 6 6 _ p (nums y) _ (by exact HB2.out) (Sl.newAt _ (nums y) _ _ (by simp)) (by omega) (by omega) HX.out p1 p2).mono ?_
      rintro e w2 ⟨rfl, hst2, hgr2⟩
      have HO3 := Lib.hid (show OverBook w st gd _ n c w2 from ⟨Below.stepG hgr2 HO2.out.low (Nat.le_refl _) (by omega), HO2.out.blk.grown hgr2 (fun e => by injection e; omega)⟩)
      have HS2 := Lib.hid hst2
      clear hst2 hgr2
      go_wp2_with fail
      go_roundw
      case rel => exact ⟨k + 1, by omega, by go_num, HO3.out, by rw [HP.out]; exact HS2.out⟩
      case measure => simp [intOf]; omega
    · have hkn : n ≤ k := by omega
      have HK := Lib.hid hkn
      have d0 := hb.cell 0
      have HO := Lib.hid hO
      clear hO hb
      go_wp2_with fail
      go_ret
      refine ⟨ret_int ?_, HO.out.low⟩
      rw [List.take_of_length_le (by have := HA.out; have := HK.out; omega)]
      unfold sealOf
      rw [press_append]
end Go.Proofs.YtjmppionedcfeaaGreatDoor

namespace Go.Proofs.YtjmppionedcfeaaGreatDoor
open Go.RowKit

theorem results_pair {fn : Func} {t u : Tmp} (h : fn.results = #[.tmp t, .tmp u]) (tmps : Array Value) (P : Program) (w : World) :
    (results fn tmps).run P w = .ok (.tuple #[tmps.getD t undef, tmps.getD u undef]) w := by simp [results, h]

set_option maxRecDepth 100000 in
set_option maxHeartbeats 1000000 in
theorem sealTop_any (st gd : Int) (b n c : Nat) (A : Option Addr) (l : List Sale) (w : World) (hl : Sl encS 6 w b A n l) (hn : n ≤ 1000000000000) :
    Calls Tryz.prog 18 #[.agg #[.int .i64 st, .int .i64 gd, .slice A n c]] w fun e w' => e = .returned (.tuple #[.int .i64 (if check st gd l = 0 then sealOf st gd l else 0), .int .i64 (check st gd l)]) ∧ Below w.heap.size w w' := by
  have HL := Lib.hid hl
  have hO := OverBook.start w st gd A n c
  cases hc : (check st gd l != 0)
  · have hc0 : check st gd l = 0 := by simpa using hc
    have HC := Lib.hid hc0
    have hin := check_zero.1 hc0
    clear hc0
    go_enter Tryz.func18, Tryz.ntmps18
    go_wp2_with fail
    refine (check_any st gd b n c A l _ (hl.alloc _) hn).mono ?_
    rintro e w1 ⟨rfl, hb1⟩
    have hO1 := hO.below hb1
    have c0 := hO1.blk.cell 0
    have c1 := hO1.blk.cell 1
    have c2 := hO1.blk.cell 2
    have hl1 := HL.out.old hO1.low
    have HO1 := Lib.hid hO1
    have HL1 := Lib.hid hl1
    clear hl hb1 hO hO1 hl1
    go_wp2_with fail
    refine (sealOf_any st gd b n c A l _ HL1.out hin).mono ?_
    rintro e w2 ⟨rfl, hb2⟩
    go_wp2_with fail
    go_ret2
    refine ⟨?_, Below.step hb2 HO1.out.low (Nat.le_refl _)⟩
    simp [HC.out]
  · have hc0 : check st gd l ≠ 0 := by simpa using hc
    have HC := Lib.hid hc0
    clear hc0
    go_enter Tryz.func18, Tryz.ntmps18
    go_wp2_with fail
    refine (check_any st gd b n c A l _ (hl.alloc _) hn).mono ?_
    rintro e w1 ⟨rfl, hb1⟩
    have HO1 := Lib.hid (hO.below hb1)
    clear hl hb1 hO
    go_wp2_with fail
    go_ret2
    exact ⟨by simp [HC.out], HO1.out.low⟩
end Go.Proofs.YtjmppionedcfeaaGreatDoor
