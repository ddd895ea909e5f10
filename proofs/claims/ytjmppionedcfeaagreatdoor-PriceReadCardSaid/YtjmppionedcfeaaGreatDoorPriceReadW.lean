/-
  The walk of the law PriceRead.
-/
import Derived.Test.YtjmppionedcfeaaGreatDoorNums
import Derived.Test.YtjmppionedcfeaaGreatDoorAwake
import Derived.Test.YtjmppionedcfeaaGreatDoorBook
import Derived.Test.YtjmppionedcfeaaGreatDoorSealLaw
import Derived.Test.YtjmppionedcfeaaGreatDoorTrip
import Derived.Test.YtjmppionedcfeaaGreatDoorReadW
import Derived.Test.YtjmppionedcfeaaGreatDoorSame
import Derived.Deep.QuietTactic
import Derived.BigQuiet
set_option linter.unusedVariables false
set_option linter.unusedSimpArgs false
namespace Go.Proofs.YtjmppionedcfeaaGreatDoor
open Go.RowKit

set_option maxRecDepth 100000 in
set_option maxHeartbeats 4000000 in
theorem priceRead_any (A9 : Option Addr) (n9 c9 : Nat) (s : ByteArray) (w : World) (hN : Nums w A9 n9) (hT : TEnv w) :
    Calls Tryz.prog 4 #[.slice A9 n9 c9, .string s] w fun e w' => e = .returned (.bool true) ∧ Below w.heap.size w w' := by
  obtain ⟨b9, l9, hl9, hw9, hn9⟩ := hN
  have HW9 := Lib.hid hw9
  have HT := Lib.hid hT
  clear hw9 hT
  by_cases h15 : 1500 < s.size
  · have hb15 : decide ((1500 : Int) < (s.size : Int)) = true := by simp; omega
    go_enter Tryz.func4, Tryz.ntmps4
    go_wp2_with fail
    refine (awake_any _).mono ?_
    rintro e w1 ⟨rfl, hB1⟩
    have L1 := Lib.hid hB1
    clear hB1
    go_wp2_with fail
    go_ret
    exact ⟨rfl, L1.out⟩
  · have hb15 : decide ((1500 : Int) < (s.size : Int)) = false := by simp; omega
    clear h15
    go_enter Tryz.func4, Tryz.ntmps4
    go_wp2_with fail
    refine (dieOf_any b9 n9 c9 A9 l9 _ hl9 hn9 HW9.out).mono ?_
    rintro e w1 ⟨d, hd, rfl, hdie, hB1⟩
    have HB1 := Lib.hid hB1
    clear hB1 hl9
    go_wp2_with fail
    refine (bookOf_any d 8 8 20 _ hdie (by omega) (by omega) (by omega) (by omega) (by omega)).mono ?_
    rintro e w2 ⟨st, gd, b, m, c, A, l, ⟨hs1, hs2, hg1, hg2, hm1, hok⟩, rfl, hb1, hb1d, hsl, hd2, hgr2⟩
    have HC := Lib.hid (show check st gd l = 0 from check_zero.2 (check_ok hs1 hs2 hg1 hg2 (by have := hsl.len; omega) hok))
    have HB2 := Lib.hid ((Below.stepG hgr2 HB1.out (Nat.le_refl _) hd).alloc (by have := HB1.out.size; have := hgr2.size; omega) (.cells #[.int .i64 st, .int .i64 gd, .slice A m c] 24))
    have HS := Lib.hid (hsl.alloc (.cells #[.int .i64 st, .int .i64 gd, .slice A m c] 24))
    have HK := Lib.hid (Blk.new w2 24 #[.int .i64 st, .int .i64 gd, .slice A m c])
    have HLN := Lib.hid hsl.len
    have HML := Lib.hid hm1
    clear hsl hgr2 hd2 hdie hok hm1
    have f0 := HK.out.cell 0
    have f1 := HK.out.cell 1
    have f2 := HK.out.cell 2
    go_wp2_with fail
    refine (write_any st gd b m c A l _ HS.out (by have := HML.out; omega) (HT.out.old HB2.out).pow).mono ?_
    rintro e w3 ⟨rfl, hB3⟩
    rw [HC.out]
    have HB3 := Lib.hid (HB2.out.trans (hB3.mono HB2.out.size))
    have HS3 := Lib.hid (HS.out.old hB3)
    have HK3 := Lib.hid (HK.out.below hB3 HK.out.lt)
    obtain ⟨y, hy⟩ : ∃ y, y = textOf st gd l := ⟨_, rfl⟩
    have HY := Lib.hid (show readT y = ⟨st, gd, l, 0, 0⟩ by rw [hy]; exact read_write HC.out)
    rw [← hy]
    clear hB3 f0 f1 f2 hy
    go_wp2_with fail
    refine (read_any ⟨y.toArray⟩ _ (HT.out.old HB3.out)).mono ?_
    rintro e w4 ⟨A4, c4, b4, rfl, hS4, hB4⟩
    simp only [List.toList_toArray] at hS4 ⊢
    rw [HY.out] at hS4 ⊢
    simp only at hS4 ⊢
    have hm4 : l.length = m := HLN.out.symm
    rw [hm4] at hS4 ⊢
    have HS4 := Lib.hid (hS4.alloc (.cells #[.int .i64 st, .int .i64 gd, .slice A4 m c4] 24))
    have HT4 := Lib.hid ((HS3.out.old hB4).alloc (.cells #[.int .i64 st, .int .i64 gd, .slice A4 m c4] 24))
    have HK4 := Lib.hid ((HK3.out.below hB4 HK3.out.lt).alloc (.cells #[.int .i64 st, .int .i64 gd, .slice A4 m c4] 24))
    have HN4 := Lib.hid (Blk.new w4 24 #[.int .i64 st, .int .i64 gd, .slice A4 m c4])
    have hB4' := HB3.out.trans (hB4.mono HB3.out.size)
    have HB4 := Lib.hid (hB4'.alloc hB4'.size (.cells #[.int .i64 st, .int .i64 gd, .slice A4 m c4] 24))
    have f0 := HK4.out.cell 0
    have f1 := HK4.out.cell 1
    have f2 := HK4.out.cell 2
    have f3 := HN4.out.cell 0
    have f4 := HN4.out.cell 1
    have f5 := HN4.out.cell 2
    clear hS4 hB4 hB4' hm4
    go_wp2_with fail
    refine (sameBooks_any st gd st gd b b4 m m c c4 A A4 l l _ HT4.out HS4.out (by have := HML.out; omega)).mono ?_
    rw [same_true]
    rintro e w5 ⟨rfl, hB5⟩
    have HB5 := Lib.hid (HB4.out.trans (hB5.mono HB4.out.size))
    clear hB5 f0 f1 f2 f3 f4 f5
    go_wp2_with fail
    refine (read_any s _ (HT.out.old HB5.out)).mono ?_
    rintro e w6 ⟨A6, c6, b6, rfl, hS6, hB6⟩
    have HWR := Lib.hid (fun h => @write_read s.data.toList h)
    have HNO := Lib.hid (fun h => @read_none s.data.toList h)
    have hrl := readT_len s.data.toList
    generalize readT s.data.toList = r at hS6 hrl HWR HNO ⊢
    have HS6 := Lib.hid (hS6.alloc (.cells #[.int .i64 r.st, .int .i64 r.gd, .slice A6 r.l.length c6] 24))
    have hB6' := HB5.out.trans (hB6.mono HB5.out.size)
    have HB6 := Lib.hid (hB6'.alloc hB6'.size (.cells #[.int .i64 r.st, .int .i64 r.gd, .slice A6 r.l.length c6] 24))
    have HN6 := Lib.hid (Blk.new w6 24 #[.int .i64 r.st, .int .i64 r.gd, .slice A6 r.l.length c6])
    have f0 := HN6.out.cell 0
    have f1 := HN6.out.cell 1
    have f2 := HN6.out.cell 2
    clear hS6 hB6 hB6'
    by_cases hr : r.er = 0
    · have HER := Lib.hid hr
      obtain ⟨hc, ht⟩ := HWR.out hr
      have HC2 := Lib.hid hc
      have HT2 := Lib.hid ht
      have hg : (r.er == 0) = true := by rw [hr]; rfl
      clear hr hc ht
      go_wp2_with fail
      refine (write_any r.st r.gd b6 r.l.length c6 A6 r.l _ HS6.out (by omega) (HT.out.old HB6.out).pow).mono ?_
      rintro e w7 ⟨rfl, hB7⟩
      rw [HC2.out, HT2.out, bytes_back]
      have HB7 := Lib.hid (HB6.out.trans (hB7.mono HB6.out.size))
      clear hB7 f0 f1 f2
      go_wp2_with fail
      refine (awake_any _).mono ?_
      rintro e w8 ⟨rfl, hB8⟩
      have L8 := Lib.hid (HB7.out.trans (hB8.mono HB7.out.size))
      clear hB8
      go_wp2_with fail
      go_ret
      exact ⟨rfl, L8.out⟩
    · have hg : (r.er == 0) = false := by rw [beq_eq_false_iff_ne]; exact hr
      have hz : r.l.length = 0 := by rw [HNO.out hr]; rfl
      rw [hz] at f2 HB6 ⊢
      clear hr
      go_wp2_with fail
      refine (awake_any _).mono ?_
      rintro e w8 ⟨rfl, hB8⟩
      have L8 := Lib.hid (HB6.out.trans (hB8.mono HB6.out.size))
      clear hB8
      go_wp2_with fail
      go_ret
      exact ⟨rfl, L8.out⟩
end Go.Proofs.YtjmppionedcfeaaGreatDoor
