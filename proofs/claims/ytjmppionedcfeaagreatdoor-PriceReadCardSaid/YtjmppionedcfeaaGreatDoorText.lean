/-
  Texts: rows of a word and numbers; the row of price.
-/
import Derived.Test.YtjmppionedcfeaaGreatDoorBase
import Derived.Test.YtjmppionedcfeaaGreatDoorStrLay
import Derived.Lib.AppendIntMem
import Derived.Lib.SmallJoins
import Derived.Lib.Builder
import Derived.Laws.Concat
set_option linter.unusedVariables false
set_option linter.unusedSimpArgs false
namespace Go.Proofs.YtjmppionedcfeaaGreatDoor
open Go.RowKit

def numsT (l : List Int) : List UInt8 := l.flatMap fun n => 32 :: Lib.itoa n
def rowT (wd : List UInt8) (l : List Int) : List UInt8 := wd ++ numsT l ++ [10]
theorem numsT_snoc (l : List Int) (k : Nat) (hk : k < l.length) : numsT (l.take (k + 1)) = numsT (l.take k) ++ 32 :: Lib.itoa l[k] := by
  unfold numsT
  rw [List.take_succ_eq_append_getElem hk, List.flatMap_append, List.flatMap_cons, List.flatMap_nil, List.append_nil]
theorem numsT_take (l : List Int) (k : Nat) : (numsT (l.take k)).length ≤ (numsT l).length := by
  have h : numsT l = numsT (l.take k) ++ numsT (l.drop k) := by
    unfold numsT
    rw [← List.flatMap_append, List.take_append_drop]
  rw [h, List.length_append]
  omega
theorem rowT_len (wd : List UInt8) (l : List Int) : (rowT wd l).length = wd.length + (numsT l).length + 1 := by simp [rowT]; omega
/-- the library's table of powers of ten -/
def Pow (w : World) : Prop := Lib.TabIs Tryz.prog w "internal/strconv.uint64pow10" .u64 Lib.pow10Tab
theorem Pow.old {w w' : World} (h : Pow w) (hb : Below w.heap.size w w') : Pow w' := Lib.tabBelow_of_tabIs h w' hb
def I64 (x : Int) : Prop := -9223372036854775808 ≤ x ∧ x ≤ 9223372036854775807
theorem itoa_any (n : Int) (hn : I64 n) (w : World) (hp : Pow w) : Calls Tryz.prog 54 #[.int .i64 n] w fun e w' => e = .returned (.string ⟨(Lib.itoa n).toArray⟩) ∧ Below w.heap.size w w' :=
  (Tryz.strconv_Itoa n hn.1 hn.2 w hp).mono fun e w' h => by
    obtain ⟨he, k, os, rfl⟩ := h
    exact ⟨he, Lib.below_grow _ w (Nat.le_refl _) k os⟩

set_option maxRecDepth 100000 in
set_option maxHeartbeats 1000000 in
theorem row_any (wd : List UInt8) (b n c : Nat) (A : Option Addr) (l : List Int) (w : World) (hl : Sl encI 1 w b A n l) (hi : ∀ x ∈ l, I64 x) (hp : Pow w) (hn : n ≤ 1000000) (hz : (rowT wd l).length ≤ 1000000) :
    Calls Tryz.prog 29 #[.string ⟨wd.toArray⟩, .slice A n c] w fun e w' => e = .returned (.string ⟨(rowT wd l).toArray⟩) ∧ Below w.heap.size w w' := by
  have HA := Lib.hid hl.len
  have HL := Lib.hid hl
  have HI := Lib.hid hi
  have HP := Lib.hid hp
  rw [rowT_len] at hz
  clear hl hi hp
  go_enter Tryz.func29, Tryz.ntmps29
  go_wp2_with fail
  go_loopw [0, 9] (fun s i wr => ∃ k : Nat, k ≤ n ∧ i = .int .i64 k ∧ s = .string ⟨(wd ++ numsT (l.take k)).toArray⟩ ∧ Below w.heap.size w wr) (fun _ i _ => n - (intOf i).toNat)
  case atStart => exact ⟨0, by omega, rfl, by simp [numsT], Below.refl _ _⟩
  case round =>
    obtain ⟨k, hk, rfl, rfl, hB⟩ := hrel
    have HB := Lib.hid hB
    have hzr := hB.size
    clear hB
    have htk := numsT_take l k
    by_cases hlt : k < n
    · have hk1 : k < l.length := by have := HA.out; omega
      obtain ⟨o, rfl, hbz, h0⟩ := (HL.out.old HB.out).atI hk1
      have HS := Lib.hid (numsT_snoc l k hk1)
      have htk1 := numsT_take l (k + 1)
      rw [HS.out, List.length_append, List.length_cons] at htk1
      have HX := Lib.hid (HI.out _ (List.getElem_mem hk1))
      generalize l[k] = x at h0 HX HS htk1
      have ha1 : ((wd ++ numsT (l.take k)).length : Int) ≤ 8388608 := by rw [List.length_append]; omega
      have ha2 : (([32] : List UInt8).length : Int) ≤ 8388608 := by decide
      have ha3 : ((Lib.itoa x).length : Int) ≤ 8388608 := by omega
      have ha4 : (([32] ++ Lib.itoa x : List UInt8).length : Int) ≤ 8388608 := by rw [List.length_append]; simp; omega
      go_wp2_with fail
      refine (itoa_any x HX.out _ (HP.out.old HB.out)).mono ?_
      rintro e w1 ⟨rfl, hB1⟩
      have HB1 := Lib.hid (Below.step hB1 HB.out (Nat.le_refl _))
      clear hB1
      go_wp2_with fail
      go_roundw
      case rel => exact ⟨k + 1, by omega, by go_num, by rw [HS.out, ByteArray.mk_append_mk [32], ByteArray.mk_append_mk]; simp, HB1.out⟩
      case measure => simp [intOf]; omega
    · have hkn : k = n := by omega
      have hkl : l.take k = l := List.take_of_length_le (by have := HA.out; omega)
      rw [hkl]
      have ha1 : ((wd ++ numsT l).length : Int) ≤ 8388608 := by rw [List.length_append]; omega
      have ha2 : (([10] : List UInt8).length : Int) ≤ 8388608 := by decide
      go_wp2_with fail
      go_ret
      exact ⟨rfl, HB.out⟩
end Go.Proofs.YtjmppionedcfeaaGreatDoor
