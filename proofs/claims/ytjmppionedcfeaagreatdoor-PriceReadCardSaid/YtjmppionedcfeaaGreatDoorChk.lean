/-
  Check, of the program and of the reference.
-/
import Derived.Test.YtjmppionedcfeaaGreatDoorEnc
set_option linter.unusedVariables false
set_option linter.unusedSimpArgs false
namespace Go.Proofs.YtjmppionedcfeaaGreatDoor
open Go.RowKit

set_option maxHeartbeats 400000 in
theorem in_any (n lo hi : Int) (w : World) : Calls Tryz.prog 40 #[.int .i64 n, .int .i64 lo, .int .i64 hi] w fun e w' => e = .returned (.bool (inB n lo hi)) ∧ w = w' := by
  go_enter Tryz.func40, Tryz.ntmps40
  go_wp2
  all_goals (go_ret; refine ⟨?_, rfl⟩; simp [inB, *]; try omega)

set_option maxHeartbeats 400000 in
theorem checkSpan_any (lo hi most : Int) (w : World) : Calls Tryz.prog 52 #[.agg #[.int .i64 lo, .int .i64 hi], .int .i64 most] w fun e w' => e = .returned (.int .i64 (chkSpan lo hi most)) ∧ Below w.heap.size w w' := by
  cases h1 : inB lo 0 most <;> cases h2 : inB hi 0 most
  all_goals
    go_enter Tryz.func52, Tryz.ntmps52
    go_wp2_with (go_at_call 40; refine (in_any _ _ _ _).mono ?_; rintro e w' ⟨rfl, rfl⟩)
    all_goals (go_ret; refine ⟨?_, by go_grown⟩; simp [chkSpan, *])
    done

/-- the state of a loop over a book's sales: nothing old has turned, the book's block is there -/
structure OverBook (w : World) (st gd : Int) (A : Option Addr) (n c : Nat) (wr : World) : Prop where
  low : Below w.heap.size w wr
  blk : Blk wr w.heap.size 24 #[.int .i64 st, .int .i64 gd, .slice A n c]
theorem OverBook.start (w : World) (st gd : Int) (A : Option Addr) (n c : Nat) : OverBook w st gd A n c (w.alloc (.cells #[.int .i64 st, .int .i64 gd, .slice A n c] 24)) := ⟨(Below.refl _ w).alloc (Nat.le_refl _) _, Blk.new _ _ _⟩
theorem OverBook.alloc {w wr : World} {st gd : Int} {A : Option Addr} {n c : Nat} (h : OverBook w st gd A n c wr) (o : Obj) : OverBook w st gd A n c (wr.alloc o) := ⟨h.low.alloc h.low.size _, h.blk.alloc _⟩
theorem OverBook.below {w wr w1 : World} {st gd : Int} {A : Option Addr} {n c : Nat} (h : OverBook w st gd A n c wr) (hb : Below wr.heap.size wr w1) : OverBook w st gd A n c w1 := ⟨Below.step hb h.low (Nat.le_refl _), h.blk.below hb h.blk.lt⟩
theorem OverBook.drew {w wr : World} {st gd : Int} {A : Option Addr} {n c : Nat} (h : OverBook w st gd A n c wr) : OverBook w st gd A n c wr.drew := ⟨h.low.drew, h.blk⟩

set_option maxRecDepth 100000 in
set_option maxHeartbeats 1000000 in
theorem check_any (st gd : Int) (b n c : Nat) (A : Option Addr) (l : List Sale) (w : World) (hl : Sl encS 6 w b A n l) (hn : n ≤ 1000000000000) :
    Calls Tryz.prog 27 #[.agg #[.int .i64 st, .int .i64 gd, .slice A n c]] w fun e w' => e = .returned (.int .i64 (check st gd l)) ∧ Below w.heap.size w w' := by
  cases h1 : inB st 1 8
  · go_enter Tryz.func27, Tryz.ntmps27
    go_wp2_with (go_at_call 40; refine (in_any _ _ _ _).mono ?_; rintro e w' ⟨rfl, rfl⟩)
    go_ret
    exact ⟨by simp [check, *], by go_grown⟩
  cases h2 : inB gd 1 8
  · go_enter Tryz.func27, Tryz.ntmps27
    go_wp2_with (go_at_call 40; refine (in_any _ _ _ _).mono ?_; rintro e w' ⟨rfl, rfl⟩)
    go_ret
    exact ⟨by simp [check, *], by go_grown⟩
  have HLen := Lib.hid hl.len
  by_cases h3 : 40 < n
  · have h3' : decide (40 < (n : Int)) = true := by simp; omega
    go_enter Tryz.func27, Tryz.ntmps27
    go_wp2_with (go_at_call 40; refine (in_any _ _ _ _).mono ?_; rintro e w' ⟨rfl, rfl⟩)
    go_ret
    refine ⟨?_, by go_grown⟩
    have hlen := HLen.out
    have : 40 < l.length := by simp at h3'; omega
    simp [check, h1, h2, this]
  have h3' : decide (40 < (n : Int)) = false := by simp; omega
  have HFin := Lib.hid (show check st gd l = chkSales st gd l from by have := HLen.out; simp [check, h1, h2]; omega)
  obtain ⟨hs1, hs2⟩ := inB_iff.1 h1
  obtain ⟨hg1, hg2⟩ := inB_iff.1 h2
  have HL := Lib.hid hl
  have hn40 : n ≤ 40 := by omega
  clear hl h3 hn
  go_enter Tryz.func27, Tryz.ntmps27
  go_wp2_with (go_at_call 40; refine (in_any _ _ _ _).mono ?_; rintro e w' ⟨rfl, rfl⟩)
  go_loopw [2, 24] (fun v i wr => ∃ k : Nat, k ≤ n ∧ i = .int .i64 k ∧ chkSales st gd (l.drop k) = check st gd l ∧ OverBook w st gd A n c wr) (fun _ i _ => n - (intOf i).toNat)
  case atStart => exact ⟨0, Nat.zero_le _, rfl, HFin.out.symm, OverBook.start w st gd A n c⟩
  case round =>
    obtain ⟨k, hk, rfl, hck, hO⟩ := hrel
    have HC := Lib.hid hck
    have c0 := hO.blk.cell 0
    have c1 := hO.blk.cell 1
    have hz := hO.blk.lt
    have HO := Lib.hid hO
    clear hck hO
    by_cases hlt : k < n
    · obtain ⟨o, rfl, hbz, s0, s1, s2, s3, s4, s5⟩ := (HL.out.old HO.out.low).atS (k := k) (by have := HLen.out; omega)
      have HD := Lib.hid (chkSales_drop (st := st) (gd := gd) (l := l) (k := k) (by have := HLen.out; omega))
      generalize hS : l[k]'(by have := HLen.out; omega) = s at s0 s1 s2 s3 s4 s5 HD
      clear hS
      cases t1 : inB s.st 0 (st - 1)
      · go_wp2_with (go_at_call 40; refine (in_any _ _ _ _).mono ?_; rintro e w' ⟨rfl, rfl⟩)
        go_ret
        exact ⟨ret_int (by rw [← HC.out, HD.out]; simp [chkSale, t1]), (HO.out.alloc _).low⟩
      cases t2 : inB s.gd 0 (gd - 1)
      · go_wp2_with (go_at_call 40; refine (in_any _ _ _ _).mono ?_; rintro e w' ⟨rfl, rfl⟩)
        go_ret
        exact ⟨ret_int (by rw [← HC.out, HD.out]; simp [chkSale, t1, t2]), (HO.out.alloc _).low⟩
      have hO1 := HO.out.alloc (.cells #[.int .i64 s.st, .int .i64 s.gd, .int .i64 s.gl, .int .i64 s.gh, .int .i64 s.cl, .int .i64 s.ch] 59)
      have HO1 := Lib.hid hO1
      have hb1 := Blk.new wr 59 #[.int .i64 s.st, .int .i64 s.gd, .int .i64 s.gl, .int .i64 s.gh, .int .i64 s.cl, .int .i64 s.ch]
      have HB1 := Lib.hid hb1
      clear hO1 hb1
      cases t3 : (chkSpan s.gl s.gh 100000 != 0)
      · go_wp2_with (go_at_call 40; refine (in_any _ _ _ _).mono ?_; rintro e w' ⟨rfl, rfl⟩)
        refine (checkSpan_any s.gl s.gh _ _).mono ?_
        rintro e w1 ⟨rfl, hb1⟩
        have hO2 := Lib.hid (HO1.out.below hb1)
        have hk1 := (HB1.out).below hb1 (by simp)
        have d4 := hk1.cell 4
        have d5 := hk1.cell 5
        clear hb1 hk1
        cases t4 : (chkSpan s.cl s.ch 100000 != 0)
        all_goals
          go_wp2_with fail
          refine (checkSpan_any s.cl s.ch _ _).mono ?_
          rintro e w2 ⟨rfl, hb2⟩
          have hO3 := Lib.hid (hO2.out.below hb2)
          clear hb2
          go_wp2_with fail
        · go_roundw
          case rel => exact ⟨k + 1, by omega, by go_num, by rw [← HC.out, HD.out]; simp at t3 t4; simp [chkSale, t1, t2, t3, t4], hO3.out⟩
          case measure => simp [intOf]; omega
        · go_ret
          exact ⟨ret_int (by rw [← HC.out, HD.out]; simp at t3 t4; simp [chkSale, t1, t2, t3, t4]), hO3.out.low⟩
      · go_wp2_with (go_at_call 40; refine (in_any _ _ _ _).mono ?_; rintro e w' ⟨rfl, rfl⟩)
        refine (checkSpan_any s.gl s.gh _ _).mono ?_
        rintro e w1 ⟨rfl, hb1⟩
        have hO2 := Lib.hid (HO1.out.below hb1)
        clear hb1
        go_wp2_with fail
        go_ret
        exact ⟨ret_int (by rw [← HC.out, HD.out]; simp at t3; simp [chkSale, t1, t2, t3]), hO2.out.low⟩
    · have hkn : n ≤ k := by omega
      have HK := Lib.hid hkn
      go_wp2_with fail
      go_ret
      exact ⟨ret_int (by rw [← HC.out, List.drop_eq_nil_of_le (by have := HLen.out; have := HK.out; omega)]; rfl), HO.out.low⟩
end Go.Proofs.YtjmppionedcfeaaGreatDoor
