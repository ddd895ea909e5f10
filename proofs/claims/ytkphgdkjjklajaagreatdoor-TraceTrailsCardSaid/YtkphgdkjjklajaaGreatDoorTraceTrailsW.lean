/-
  A text in which a byte is another one, missing, or more. The reference of trails: Write. What is written of a net is read again, and what is read is written as it was: plain laws. SameNets of the kit. The walk of the law TraceTrails.
-/
import Derived.Test.YtkphgdkjjklajaaGreatDoorStrs
import Derived.Test.YtkphgdkjjklajaaGreatDoorSmall
import Derived.Laws.BytesArg
import Derived.Test.YtkphgdkjjklajaaGreatDoorTrText
import Derived.Test.YtkphgdkjjklajaaGreatDoorTrWrite
import Derived.Test.YtkphgdkjjklajaaGreatDoorQChkO
import Derived.Deep.CutRange
import Derived.Test.YtkphgdkjjklajaaGreatDoorTrReadLaw
import Derived.Test.YtkphgdkjjklajaaGreatDoorTrEdges
import Derived.Test.YtkphgdkjjklajaaGreatDoorTrNetL
import Derived.Test.YtkphgdkjjklajaaGreatDoorSame
import Derived.Deep.QuietTactic
import Derived.BigQuiet
import Derived.Test.YtkphgdkjjklajaaGreatDoorTrLaw
import Derived.Test.YtkphgdkjjklajaaGreatDoorTrAwk
import Derived.Test.YtkphgdkjjklajaaGreatDoorTrRead
import Derived.Test.YtkphgdkjjklajaaGreatDoorQRead
import Derived.Test.YtkphgdkjjklajaaGreatDoorReg2
set_option linter.unusedVariables false
set_option linter.unusedSimpArgs false
namespace Go.Proofs.YtkphgdkjjklajaaGreatDoor
open Go.RowKit

set_option maxRecDepth 100000 in
set_option maxHeartbeats 2000000 in
theorem mar_any (s : ByteArray) (at_ how : Int) (by_ : UInt8) (w : World) (ha : I64 at_) (hh : I64 how) (hs : s.size ≤ 100000) :
    Calls Tryz.prog 11 #[.string s, .int .i64 at_, .int .i64 how, .int .u8 by_.toNat] w fun e w' => ∃ q : ByteArray, e = .returned (.string q) ∧ q.size ≤ s.size + 1 ∧ Below w.heap.size w w' := by
  by_cases h0 : s.size = 0
  · have he : (s.toList == []) = true := by
      have h9 : s.data.toList = [] := List.length_eq_zero_iff.1 (by rw [bytes_len]; exact h0)
      rw [ByteArray.toList_eq, h9]; rfl
    go_enter Tryz.func11, Tryz.ntmps11
    go_wp2_with fail
    go_ret
    exact ⟨s, rfl, by omega, Below.refl _ _⟩
  · have he : (s.toList == []) = false := by
      rw [ByteArray.toList_eq, beq_eq_false_iff_ne]
      intro e
      have := bytes_len s
      rw [e] at this
      simp at this
      omega
    have hb := bring_bd (x := at_) (n := (s.size : Int)) (by omega)
    obtain ⟨k, hk⟩ := Int.eq_ofNat_of_zero_le hb.1
    rw [hk] at hb
    have HK := Lib.hid hk
    obtain ⟨hk0, hk1⟩ := hb
    have hb3 := bring_bd (x := how) (n := 3) (by omega)
    obtain ⟨m, hm⟩ := Int.eq_ofNat_of_zero_le hb3.1
    rw [hm] at hb3
    have HM := Lib.hid hm
    clear hk hm
    go_enter Tryz.func11, Tryz.ntmps11
    go_wp2_with fail
    refine (bring_any at_ (s.size : Int) _ ha.1 ha.2 (by omega)).mono ?_
    rw [HK.out]
    rintro e w1 ⟨rfl, rfl⟩
    have hcv := run_convert_bytes_arg (P := Tryz.prog) (w.alloc (.cells #[.int .u8 (by_.toNat : Int)] 5)) 65 5 Tryz.underlying65 Tryz.underlying5 w.heap.size 0 1 1 [(by_.toNat : Int)] rfl (fun i hi => by
      obtain rfl : i = 0 := by omega
      exact (Blk.new w 5 #[.int .u8 (by_.toNat : Int)]).cell 0) 9 Tryz.underlying9
    obtain ⟨p, hp⟩ : ∃ p, p = strOfNums [(by_.toNat : Int)] := ⟨_, rfl⟩
    have hps : p.size = 1 := by rw [hp, strOfNums_size]; rfl
    rw [← hp] at hcv
    have B1 : Below w.heap.size w (w.alloc (.cells #[.int .u8 (by_.toNat : Int)] 5)) := (Below.refl _ w).alloc (Nat.le_refl _) _
    have HB := Lib.hid B1
    clear B1 hp
    go_wp2_with fail
    refine (bring_any how 3 _ hh.1 hh.2 (by omega)).mono ?_
    rw [HM.out]
    rintro e w2 ⟨rfl, rfl⟩
    have hkn : k ≤ s.size := by omega
    have hkn1 : k + 1 ≤ s.size := by omega
    have hx1 : (s.extract 0 k).size = k := by rw [ByteArray.size_extract]; omega
    have hx2 : (s.extract (k + 1) s.size).size = s.size - (k + 1) := by rw [ByteArray.size_extract]; omega
    have hx3 : (s.extract k s.size).size = s.size - k := by rw [ByteArray.size_extract]; omega
    have hb1 : ¬ 9223372036854775807 < k + 1 := by omega
    have hb2 : ¬ 9223372036854775807 < k := by omega
    have hb4 : ¬ 9223372036854775807 < k + 1 + (s.size - (k + 1)) := by omega
    have hb5 : ¬ 9223372036854775807 < k + (s.size - (k + 1)) := by omega
    have hb6 : ¬ 9223372036854775807 < k + 1 + (s.size - k) := by omega
    have hi0 : (0 : Int) ≤ (k : Int) + 1 := by omega
    have hi1 : (k : Int) + 1 ≤ (s.size : Int) := by omega
    have hb7 : ¬ 9223372036854775807 < s.size := by omega
    have hb8 : ¬ 9223372036854775807 < s.size + 1 := by omega
    have hm3 : m = 0 ∨ m = 1 ∨ m = 2 := by omega
    rcases hm3 with rfl | rfl | rfl
    · go_upto_region 11 with fail
      refine wp_region_PL [] (fun _ => True) rfl (by kernel_rfl) (trivial) (fun hF0 => ?_)
      (refine wpAnyP_takeL (i := 0) (v := ?_) rfl (by kernel_rfl) (by kernel_rfl) (by kernel_rfl) (fun _ _ _ h => h) (by rfl) ?_ ?_; rotate_left 1; focus (intro w; go_simp; try with_reducible rfl))
      try simp only [Act.put, List.setIfInBounds_toArray, List.set_cons_zero, List.set_cons_succ]
      (refine wpAnyP_takeL (i := 1) (v := ?_) rfl (by kernel_rfl) (by kernel_rfl) (by kernel_rfl) (fun _ _ _ h => h) (by rfl) ?_ ?_; rotate_left 1; focus (intro w; go_simp; try with_reducible rfl))
      try simp only [Act.put, List.setIfInBounds_toArray, List.set_cons_zero, List.set_cons_succ]
      (refine wpAnyP_takeL (i := 2) (v := ?_) rfl (by kernel_rfl) (by kernel_rfl) (by kernel_rfl) (fun _ _ _ h => h) (by rfl) ?_ ?_; rotate_left 1; focus (intro w; go_simp; try with_reducible rfl))
      try simp only [Act.put, List.setIfInBounds_toArray, List.set_cons_zero, List.set_cons_succ]
      (refine wpAnyP_takeL (i := 3) (v := ?_) rfl (by kernel_rfl) (by kernel_rfl) (by kernel_rfl) (fun _ _ _ h => h) (by rfl) ?_ ?_; rotate_left 1; focus (intro w; go_simp; try with_reducible rfl))
      try simp only [Act.put, List.setIfInBounds_toArray, List.set_cons_zero, List.set_cons_succ]
      (refine wpAnyP_takeL (i := 4) (v := ?_) rfl (by kernel_rfl) (by kernel_rfl) (by kernel_rfl) (fun _ _ _ h => h) (by rfl) ?_ ?_; rotate_left 1; focus (intro w; go_simp; try with_reducible rfl))
      try simp only [Act.put, List.setIfInBounds_toArray, List.set_cons_zero, List.set_cons_succ]
      (refine wpAnyP_takeL (i := 5) (v := ?_) rfl (by kernel_rfl) (by kernel_rfl) (by kernel_rfl) (fun _ _ _ h => h) (by rfl) ?_ ?_; rotate_left 1; focus (intro w; go_simp; try with_reducible rfl))
      try simp only [Act.put, List.setIfInBounds_toArray, List.set_cons_zero, List.set_cons_succ]
      (refine wpAnyP_takeL (i := 6) (v := ?_) rfl (by kernel_rfl) (by kernel_rfl) (by kernel_rfl) (fun _ _ _ h => h) (by rfl) ?_ ?_; rotate_left 1; focus (intro w; go_simp; try with_reducible rfl))
      try simp only [Act.put, List.setIfInBounds_toArray, List.set_cons_zero, List.set_cons_succ]
      (refine wpAnyP_takeL (i := 7) (v := ?_) rfl (by kernel_rfl) (by kernel_rfl) (by kernel_rfl) (fun _ _ _ h => h) (by rfl) ?_ ?_; rotate_left 1; focus (intro w; go_simp; try with_reducible rfl))
      try simp only [Act.put, List.setIfInBounds_toArray, List.set_cons_zero, List.set_cons_succ]
      (refine wpAnyP_takeL (i := 8) (v := ?_) rfl (by kernel_rfl) (by kernel_rfl) (by kernel_rfl) (fun _ _ _ h => h) (by rfl) ?_ ?_; rotate_left 1; focus (intro w; go_simp; try with_reducible rfl))
      try simp only [Act.put, List.setIfInBounds_toArray, List.set_cons_zero, List.set_cons_succ]
      (refine wpAnyP_takeL (i := 9) (v := ?_) rfl (by kernel_rfl) (by kernel_rfl) (by kernel_rfl) (fun _ _ _ h => h) (by rfl) ?_ ?_; rotate_left 1; focus (intro w; go_simp; try with_reducible rfl))
      try simp only [Act.put, List.setIfInBounds_toArray, List.set_cons_zero, List.set_cons_succ]
      refine wpAnyP_done (by kernel_rfl) ?_ _
      go_wp2_with fail
      go_ret
      refine ⟨_, rfl, ?_, HB.out.drew⟩
      rw [ByteArray.size_append, ByteArray.size_append]
      first | (simp only [hx1, hx2, hps]; omega) | (simp only [hx1, hx3, hps]; omega) | (simp only [hx1, hx2]; show k + 0 + _ ≤ _; omega)
    · go_upto_region 11 with fail
      refine wp_region_PL [] (fun _ => True) rfl (by kernel_rfl) (trivial) (fun hF0 => ?_)
      (refine wpAnyP_takeL (i := 0) (v := ?_) rfl (by kernel_rfl) (by kernel_rfl) (by kernel_rfl) (fun _ _ _ h => h) (by rfl) ?_ ?_; rotate_left 1; focus (intro w; go_simp; try with_reducible rfl))
      try simp only [Act.put, List.setIfInBounds_toArray, List.set_cons_zero, List.set_cons_succ]
      (refine wpAnyP_takeL (i := 1) (v := ?_) rfl (by kernel_rfl) (by kernel_rfl) (by kernel_rfl) (fun _ _ _ h => h) (by rfl) ?_ ?_; rotate_left 1; focus (intro w; go_simp; try with_reducible rfl))
      try simp only [Act.put, List.setIfInBounds_toArray, List.set_cons_zero, List.set_cons_succ]
      (refine wpAnyP_takeL (i := 2) (v := ?_) rfl (by kernel_rfl) (by kernel_rfl) (by kernel_rfl) (fun _ _ _ h => h) (by rfl) ?_ ?_; rotate_left 1; focus (intro w; go_simp; try with_reducible rfl))
      try simp only [Act.put, List.setIfInBounds_toArray, List.set_cons_zero, List.set_cons_succ]
      (refine wpAnyP_takeL (i := 3) (v := ?_) rfl (by kernel_rfl) (by kernel_rfl) (by kernel_rfl) (fun _ _ _ h => h) (by rfl) ?_ ?_; rotate_left 1; focus (intro w; go_simp; try with_reducible rfl))
      try simp only [Act.put, List.setIfInBounds_toArray, List.set_cons_zero, List.set_cons_succ]
      (refine wpAnyP_takeL (i := 4) (v := ?_) rfl (by kernel_rfl) (by kernel_rfl) (by kernel_rfl) (fun _ _ _ h => h) (by rfl) ?_ ?_; rotate_left 1; focus (intro w; go_simp; try with_reducible rfl))
      try simp only [Act.put, List.setIfInBounds_toArray, List.set_cons_zero, List.set_cons_succ]
      (refine wpAnyP_takeL (i := 5) (v := ?_) rfl (by kernel_rfl) (by kernel_rfl) (by kernel_rfl) (fun _ _ _ h => h) (by rfl) ?_ ?_; rotate_left 1; focus (intro w; go_simp; try with_reducible rfl))
      try simp only [Act.put, List.setIfInBounds_toArray, List.set_cons_zero, List.set_cons_succ]
      (refine wpAnyP_takeL (i := 6) (v := ?_) rfl (by kernel_rfl) (by kernel_rfl) (by kernel_rfl) (fun _ _ _ h => h) (by rfl) ?_ ?_; rotate_left 1; focus (intro w; go_simp; try with_reducible rfl))
      try simp only [Act.put, List.setIfInBounds_toArray, List.set_cons_zero, List.set_cons_succ]
      (refine wpAnyP_takeL (i := 7) (v := ?_) rfl (by kernel_rfl) (by kernel_rfl) (by kernel_rfl) (fun _ _ _ h => h) (by rfl) ?_ ?_; rotate_left 1; focus (intro w; go_simp; try with_reducible rfl))
      try simp only [Act.put, List.setIfInBounds_toArray, List.set_cons_zero, List.set_cons_succ]
      (refine wpAnyP_takeL (i := 8) (v := ?_) rfl (by kernel_rfl) (by kernel_rfl) (by kernel_rfl) (fun _ _ _ h => h) (by rfl) ?_ ?_; rotate_left 1; focus (intro w; go_simp; try with_reducible rfl))
      try simp only [Act.put, List.setIfInBounds_toArray, List.set_cons_zero, List.set_cons_succ]
      (refine wpAnyP_takeL (i := 9) (v := ?_) rfl (by kernel_rfl) (by kernel_rfl) (by kernel_rfl) (fun _ _ _ h => h) (by rfl) ?_ ?_; rotate_left 1; focus (intro w; go_simp; try with_reducible rfl))
      try simp only [Act.put, List.setIfInBounds_toArray, List.set_cons_zero, List.set_cons_succ]
      refine wpAnyP_done (by kernel_rfl) ?_ _
      go_wp2_with fail
      go_ret
      refine ⟨_, rfl, ?_, HB.out.drew⟩
      rw [ByteArray.size_append, ByteArray.size_append]
      first | (simp only [hx1, hx2, hps]; omega) | (simp only [hx1, hx3, hps]; omega) | (simp only [hx1, hx2]; show k + 0 + _ ≤ _; omega)
    · go_upto_region 11 with fail
      refine wp_region_PL [] (fun _ => True) rfl (by kernel_rfl) (trivial) (fun hF0 => ?_)
      (refine wpAnyP_takeL (i := 0) (v := ?_) rfl (by kernel_rfl) (by kernel_rfl) (by kernel_rfl) (fun _ _ _ h => h) (by rfl) ?_ ?_; rotate_left 1; focus (intro w; go_simp; try with_reducible rfl))
      try simp only [Act.put, List.setIfInBounds_toArray, List.set_cons_zero, List.set_cons_succ]
      (refine wpAnyP_takeL (i := 1) (v := ?_) rfl (by kernel_rfl) (by kernel_rfl) (by kernel_rfl) (fun _ _ _ h => h) (by rfl) ?_ ?_; rotate_left 1; focus (intro w; go_simp; try with_reducible rfl))
      try simp only [Act.put, List.setIfInBounds_toArray, List.set_cons_zero, List.set_cons_succ]
      (refine wpAnyP_takeL (i := 2) (v := ?_) rfl (by kernel_rfl) (by kernel_rfl) (by kernel_rfl) (fun _ _ _ h => h) (by rfl) ?_ ?_; rotate_left 1; focus (intro w; go_simp; try with_reducible rfl))
      try simp only [Act.put, List.setIfInBounds_toArray, List.set_cons_zero, List.set_cons_succ]
      (refine wpAnyP_takeL (i := 3) (v := ?_) rfl (by kernel_rfl) (by kernel_rfl) (by kernel_rfl) (fun _ _ _ h => h) (by rfl) ?_ ?_; rotate_left 1; focus (intro w; go_simp; try with_reducible rfl))
      try simp only [Act.put, List.setIfInBounds_toArray, List.set_cons_zero, List.set_cons_succ]
      (refine wpAnyP_takeL (i := 4) (v := ?_) rfl (by kernel_rfl) (by kernel_rfl) (by kernel_rfl) (fun _ _ _ h => h) (by rfl) ?_ ?_; rotate_left 1; focus (intro w; go_simp; try with_reducible rfl))
      try simp only [Act.put, List.setIfInBounds_toArray, List.set_cons_zero, List.set_cons_succ]
      (refine wpAnyP_takeL (i := 5) (v := ?_) rfl (by kernel_rfl) (by kernel_rfl) (by kernel_rfl) (fun _ _ _ h => h) (by rfl) ?_ ?_; rotate_left 1; focus (intro w; go_simp; try with_reducible rfl))
      try simp only [Act.put, List.setIfInBounds_toArray, List.set_cons_zero, List.set_cons_succ]
      (refine wpAnyP_takeL (i := 6) (v := ?_) rfl (by kernel_rfl) (by kernel_rfl) (by kernel_rfl) (fun _ _ _ h => h) (by rfl) ?_ ?_; rotate_left 1; focus (intro w; go_simp; try with_reducible rfl))
      try simp only [Act.put, List.setIfInBounds_toArray, List.set_cons_zero, List.set_cons_succ]
      (refine wpAnyP_takeL (i := 7) (v := ?_) rfl (by kernel_rfl) (by kernel_rfl) (by kernel_rfl) (fun _ _ _ h => h) (by rfl) ?_ ?_; rotate_left 1; focus (intro w; go_simp; try with_reducible rfl))
      try simp only [Act.put, List.setIfInBounds_toArray, List.set_cons_zero, List.set_cons_succ]
      (refine wpAnyP_takeL (i := 8) (v := ?_) rfl (by kernel_rfl) (by kernel_rfl) (by kernel_rfl) (fun _ _ _ h => h) (by rfl) ?_ ?_; rotate_left 1; focus (intro w; go_simp; try with_reducible rfl))
      try simp only [Act.put, List.setIfInBounds_toArray, List.set_cons_zero, List.set_cons_succ]
      (refine wpAnyP_takeL (i := 9) (v := ?_) rfl (by kernel_rfl) (by kernel_rfl) (by kernel_rfl) (fun _ _ _ h => h) (by rfl) ?_ ?_; rotate_left 1; focus (intro w; go_simp; try with_reducible rfl))
      try simp only [Act.put, List.setIfInBounds_toArray, List.set_cons_zero, List.set_cons_succ]
      refine wpAnyP_done (by kernel_rfl) ?_ _
      go_wp2_with fail
      go_ret
      refine ⟨_, rfl, ?_, HB.out.drew⟩
      rw [ByteArray.size_append, ByteArray.size_append]
      first | (simp only [hx1, hx2, hps]; omega) | (simp only [hx1, hx3, hps]; omega) | (simp only [hx1, hx2]; show k + 0 + _ ≤ _; omega)
end Go.Proofs.YtkphgdkjjklajaaGreatDoor

namespace Go.Proofs.YtkphgdkjjklajaaGreatDoor
open Go.RowKit Go.Shelf Go.Sort

/-- while the reference writes: the net's own copy -/
structure ON (w : World) (Ab Am : Option Addr) (nb cb nm cm : Nat) (W : World) : Prop where
  low : Below w.heap.size w W
  blk : Blk W w.heap.size 25 #[.slice Ab nb cb, .slice Am nm cm]
section
variable {w W W' : World} {Ab Am : Option Addr} {nb cb nm cm : Nat}
theorem ON.below (h : ON w Ab Am nb cb nm cm W) (hb : Below W.heap.size W W') : ON w Ab Am nb cb nm cm W' := ⟨h.low.trans (hb.mono h.low.size), h.blk.below hb h.blk.lt⟩
theorem ON.alloc (h : ON w Ab Am nb cb nm cm W) (o : Obj) : ON w Ab Am nb cb nm cm (W.alloc o) := h.below ((Below.refl _ W).alloc (Nat.le_refl _) o)
theorem ON.drew (h : ON w Ab Am nb cb nm cm W) : ON w Ab Am nb cb nm cm W.drew := h.below (Below.refl _ W).drew
theorem ON.start (w : World) : ON w Ab Am nb cb nm cm (w.alloc (.cells #[.slice Ab nb cb, .slice Am nm cm] 25)) := ⟨(Below.refl _ w).alloc (Nat.le_refl _) _, Blk.new w _ _⟩
end

set_option maxRecDepth 100000 in
set_option maxHeartbeats 2000000 in
theorem qwrite_any (b1 b2 : Nat) (Ab Am : Option Addr) (nb cb nm cm : Nat) (bs : List Int) (ms : List Mv) (w : World) (hM : NetM w b1 b2 Ab Am nb cb nm cm bs ms) (hnb : nb ≤ 100000) (hnm : nm ≤ 100000) (hp : Pow w) :
    Calls Tryz.prog 10 #[netV Ab Am nb cb nm cm] w fun e w' => e = .returned (.tuple #[.string ⟨(trailT bs ms).toArray⟩, .int .i64 (chkNet bs ms)]) ∧ Below w.heap.size w w' := by
  have HM := Lib.hid hM
  have HP := Lib.hid hp
  have HNB := Lib.hid hM.b.len
  have HNM := Lib.hid hM.m.len
  have HO := Lib.hid (ON.start (Ab := Ab) (Am := Am) (nb := nb) (cb := cb) (nm := nm) (cm := cm) w)
  have c0 := HO.out.blk.cell 0
  have c1 := HO.out.blk.cell 1
  clear hp hM
  by_cases hc : chkNet bs ms = 0
  · have HC := Lib.hid hc
    have hN := netIn_of hc
    have HI := Lib.hid (net_i64 hN)
    have HT := Lib.hid (show trailT bs ms = trailR bs ms from if_pos hc)
    have hnb8 : nb ≤ 8 := by have := HNB.out; have := hN.n1; omega
    have hnm12 : nm ≤ 12 := by have := HNM.out; have := hN.m1; omega
    clear hc hN
    go_enter Tryz.func10, Tryz.ntmps10
    go_wp2_with fail
    refine (qcheck_any b1 b2 Ab Am nb cb nm cm bs ms _ (HM.out.old HO.out.low) hnb hnm).mono ?_
    rw [HC.out]
    rintro e w1 ⟨rfl, hb1⟩
    have HW := Lib.hid (HO.out.below hb1)
    clear c0 c1 hb1
    go_wp2_with fail
    go_loopw [5, 6] (fun s i wr => ∃ k : Nat, k ≤ nb ∧ i = .int .i64 k ∧ s = .string ⟨(batsR (bs.take k)).toArray⟩ ∧ ON w Ab Am nb cb nm cm wr) (fun _ i _ => nb - (intOf i).toNat)
    case atStart => exact ⟨0, Nat.zero_le _, rfl, by simp [batsR], HW.out⟩
    case round =>
      obtain ⟨k, hk, rfl, rfl, hW⟩ := hrel
      have hst := batsR_le (bs.take k) (fun x hx => HI.out.1 x (List.mem_of_mem_take hx))
      have htl : (bs.take k).length ≤ 8 := by rw [List.length_take]; omega
      have c0 := hW.blk.cell 0
      by_cases hlt : k < nb
      · have hk1 : k < bs.length := by have := HNB.out; omega
        obtain ⟨o, rfl, hbz, s0⟩ := (HM.out.b.old hW.low).atI hk1
        have HS := Lib.hid (batsR_snoc bs k hk1)
        have hxi := HI.out.1 _ (List.getElem_mem hk1)
        generalize bs[k] = y at s0 hxi HS
        have hle := batR_le hxi
        have HW4 := Lib.hid (hW.alloc (.cells #[.int .i64 y] 3))
        have HSL := Lib.hid (Sl.newI wr [y] 3)
        have ha1 : ((batsR (bs.take k)).length : Int) ≤ 8388608 := by omega
        have ha2 : ((batR y).length : Int) ≤ 8388608 := by omega
        have ha3 : ((rowT [98, 97, 116, 99, 104] [y]).length : Int) ≤ 8388608 := ha2
        have hbig : ¬ 9223372036854775807 < (batsR (bs.take k)).length + (rowT [98, 97, 116, 99, 104] [y]).length := by have : (rowT [98, 97, 116, 99, 104] [y]).length ≤ 40 := hle; omega
        clear hW
        go_wp2_with fail
        refine (qrow_any [98, 97, 116, 99, 104] _ 1 1 _ [y] _ HSL.out (fun z hz => by simp at hz; subst hz; exact hxi) (HP.out.old HW4.out.low) (by omega) (show (batR y).length ≤ 1000000 by omega)).mono ?_
        rintro e w4 ⟨rfl, hb4⟩
        have HW5 := Lib.hid (HW4.out.below hb4)
        clear hb4 HW4 HSL c0
        go_wp2_with fail
        go_roundw
        case rel => exact ⟨k + 1, by omega, by go_num, by rw [HS.out, ByteArray.mk_append_mk]; rfl, HW5.out⟩
        case measure => simp [intOf]; omega
      · have hkl : bs.take k = bs := List.take_of_length_le (by have := HNB.out; omega)
        rw [hkl] at hst htl ⊢
        obtain rfl : nb = k := by omega
        have HWa := Lib.hid hW
        clear hW
        obtain ⟨wq, rfl⟩ : ∃ wq : World, wq = wr := ⟨_, rfl⟩
        go_wp2_with fail
        clear c0
        go_loopw [5, 7] (fun s i wr => ∃ k : Nat, k ≤ nm ∧ i = .int .i64 k ∧ s = .string ⟨(batsR bs ++ movsR (ms.take k)).toArray⟩ ∧ ON w Ab Am nb cb nm cm wr) (fun _ i _ => nm - (intOf i).toNat)
        case atStart => exact ⟨0, Nat.zero_le _, rfl, by simp [movsR], HWa.out⟩
        case round =>
          obtain ⟨k, hk, rfl, rfl, hW⟩ := hrel
          have hst2 := movsR_le (ms.take k) (fun x hx => HI.out.2 x (List.mem_of_mem_take hx))
          have htl2 : (ms.take k).length ≤ 12 := by rw [List.length_take]; omega
          have c1 := hW.blk.cell 1
          by_cases hlt2 : k < nm
          · have hk1 : k < ms.length := by have := HNM.out; omega
            obtain ⟨o, rfl, hbz, s0, s1, s2⟩ := (HM.out.m.old hW.low).atM hk1
            have HS := Lib.hid (movsR_snoc ms k hk1)
            have hxi := HI.out.2 _ (List.getElem_mem hk1)
            generalize ms[k] = y at s0 s1 s2 hxi HS
            have hle := movR_le hxi
            have HC3 := Lib.hid (And.intro s0 (And.intro s1 s2))
            have HW3 := Lib.hid hW.drew
            have ha1 : ((batsR bs ++ movsR (ms.take k)).length : Int) ≤ 8388608 := by rw [List.length_append]; omega
            have ha2 : ((movR y).length : Int) ≤ 8388608 := by omega
            have ha3 : ((rowT [109, 111, 118, 101] [y.fr, y.to, y.g]).length : Int) ≤ 8388608 := ha2
            have hbig : ¬ 9223372036854775807 < (batsR bs).length + (movsR (ms.take k)).length + (rowT [109, 111, 118, 101] [y.fr, y.to, y.g]).length := by have : (rowT [109, 111, 118, 101] [y.fr, y.to, y.g]).length ≤ 80 := hle; omega
            have ik0 : (0 : Int) ≤ (k : Int) := by omega
            have ik1 : (k : Int) < (nm : Int) := by omega
            clear hW s0 s1 s2
            go_upto_region 12 with fail
            refine wp_region_PL [2, 6, 8, 12, 14, 18] (fun w' => w'.cell? ⟨w.heap.size, 1, none⟩ = some (.slice (some ⟨b2, o, none⟩) nm cm) ∧ w'.cell? ⟨b2, o + k * 3, none⟩ = some (.int .i64 y.fr) ∧ w'.cell? ⟨b2, o + k * 3 + 1, none⟩ = some (.int .i64 y.to) ∧ w'.cell? ⟨b2, o + k * 3 + 2, none⟩ = some (.int .i64 y.g)) rfl (by kernel_rfl) (⟨HW3.out.blk.cell 1, HC3.out⟩) (fun hF0 => ?_)
            (refine wpAnyP_takeL (i := 0) (v := ?_) rfl (by kernel_rfl) (by kernel_rfl) (by kernel_rfl) (fun _ _ _ h => h) (by rfl) ?_ ?_; rotate_left 1; focus (intro w; go_simp; try with_reducible rfl))
            try simp only [Act.put, List.setIfInBounds_toArray, List.set_cons_zero, List.set_cons_succ]
            (refine wpAnyP_takeL (i := 1) (v := ?_) rfl (by kernel_rfl) (by kernel_rfl) (by kernel_rfl) (fun _ _ _ h => h) (by rfl) ?_ ?_; rotate_left 1; focus (intro w; go_simp; try with_reducible rfl))
            try simp only [Act.put, List.setIfInBounds_toArray, List.set_cons_zero, List.set_cons_succ]
            (refine wpAnyP_loadL (i := 2) (v := ?_) rfl (by kernel_rfl) (by kernel_rfl) (by kernel_rfl) (by rfl) (fun _ _ _ h => h) hF0 (by rfl) ?_ ?_; rotate_left 1; focus (intro w hFw; (try dsimp only at hFw); go_split_ands; go_simp; try with_reducible rfl))
            try simp only [Act.put, List.setIfInBounds_toArray, List.set_cons_zero, List.set_cons_succ]
            (refine wpAnyP_takeL (i := 3) (v := ?_) rfl (by kernel_rfl) (by kernel_rfl) (by kernel_rfl) (fun _ _ _ h => h) (by rfl) ?_ ?_; rotate_left 1; focus (intro w; go_simp; try with_reducible rfl))
            try simp only [Act.put, List.setIfInBounds_toArray, List.set_cons_zero, List.set_cons_succ]
            (refine wpAnyP_takeL (i := 4) (v := ?_) rfl (by kernel_rfl) (by kernel_rfl) (by kernel_rfl) (fun _ _ _ h => h) (by rfl) ?_ ?_; rotate_left 1; focus (intro w; go_simp; try with_reducible rfl))
            try simp only [Act.put, List.setIfInBounds_toArray, List.set_cons_zero, List.set_cons_succ]
            (refine wpAnyP_takeL (i := 5) (v := ?_) rfl (by kernel_rfl) (by kernel_rfl) (by kernel_rfl) (fun _ _ _ h => h) (by rfl) ?_ ?_; rotate_left 1; focus (intro w; go_simp; try with_reducible rfl))
            try simp only [Act.put, List.setIfInBounds_toArray, List.set_cons_zero, List.set_cons_succ]
            (refine wpAnyP_loadL (i := 6) (v := ?_) rfl (by kernel_rfl) (by kernel_rfl) (by kernel_rfl) (by rfl) (fun _ _ _ h => h) hF0 (by rfl) ?_ ?_; rotate_left 1; focus (intro w hFw; (try dsimp only at hFw); go_split_ands; go_simp; try with_reducible rfl))
            try simp only [Act.put, List.setIfInBounds_toArray, List.set_cons_zero, List.set_cons_succ]
            (refine wpAnyP_takeL (i := 7) (v := ?_) rfl (by kernel_rfl) (by kernel_rfl) (by kernel_rfl) (fun _ _ _ h => h) (by rfl) ?_ ?_; rotate_left 1; focus (intro w; go_simp; try with_reducible rfl))
            try simp only [Act.put, List.setIfInBounds_toArray, List.set_cons_zero, List.set_cons_succ]
            (refine wpAnyP_loadL (i := 8) (v := ?_) rfl (by kernel_rfl) (by kernel_rfl) (by kernel_rfl) (by rfl) (fun _ _ _ h => h) hF0 (by rfl) ?_ ?_; rotate_left 1; focus (intro w hFw; (try dsimp only at hFw); go_split_ands; go_simp; try with_reducible rfl))
            try simp only [Act.put, List.setIfInBounds_toArray, List.set_cons_zero, List.set_cons_succ]
            (refine wpAnyP_takeL (i := 9) (v := ?_) rfl (by kernel_rfl) (by kernel_rfl) (by kernel_rfl) (fun _ _ _ h => h) (by rfl) ?_ ?_; rotate_left 1; focus (intro w; go_simp; try with_reducible rfl))
            try simp only [Act.put, List.setIfInBounds_toArray, List.set_cons_zero, List.set_cons_succ]
            (refine wpAnyP_takeL (i := 10) (v := ?_) rfl (by kernel_rfl) (by kernel_rfl) (by kernel_rfl) (fun _ _ _ h => h) (by rfl) ?_ ?_; rotate_left 1; focus (intro w; go_simp; try with_reducible rfl))
            try simp only [Act.put, List.setIfInBounds_toArray, List.set_cons_zero, List.set_cons_succ]
            (refine wpAnyP_takeL (i := 11) (v := ?_) rfl (by kernel_rfl) (by kernel_rfl) (by kernel_rfl) (fun _ _ _ h => h) (by rfl) ?_ ?_; rotate_left 1; focus (intro w; go_simp; try with_reducible rfl))
            try simp only [Act.put, List.setIfInBounds_toArray, List.set_cons_zero, List.set_cons_succ]
            (refine wpAnyP_loadL (i := 12) (v := ?_) rfl (by kernel_rfl) (by kernel_rfl) (by kernel_rfl) (by rfl) (fun _ _ _ h => h) hF0 (by rfl) ?_ ?_; rotate_left 1; focus (intro w hFw; (try dsimp only at hFw); go_split_ands; go_simp; try with_reducible rfl))
            try simp only [Act.put, List.setIfInBounds_toArray, List.set_cons_zero, List.set_cons_succ]
            (refine wpAnyP_takeL (i := 13) (v := ?_) rfl (by kernel_rfl) (by kernel_rfl) (by kernel_rfl) (fun _ _ _ h => h) (by rfl) ?_ ?_; rotate_left 1; focus (intro w; go_simp; try with_reducible rfl))
            try simp only [Act.put, List.setIfInBounds_toArray, List.set_cons_zero, List.set_cons_succ]
            (refine wpAnyP_loadL (i := 14) (v := ?_) rfl (by kernel_rfl) (by kernel_rfl) (by kernel_rfl) (by rfl) (fun _ _ _ h => h) hF0 (by rfl) ?_ ?_; rotate_left 1; focus (intro w hFw; (try dsimp only at hFw); go_split_ands; go_simp; try with_reducible rfl))
            try simp only [Act.put, List.setIfInBounds_toArray, List.set_cons_zero, List.set_cons_succ]
            (refine wpAnyP_takeL (i := 15) (v := ?_) rfl (by kernel_rfl) (by kernel_rfl) (by kernel_rfl) (fun _ _ _ h => h) (by rfl) ?_ ?_; rotate_left 1; focus (intro w; go_simp; try with_reducible rfl))
            try simp only [Act.put, List.setIfInBounds_toArray, List.set_cons_zero, List.set_cons_succ]
            (refine wpAnyP_takeL (i := 16) (v := ?_) rfl (by kernel_rfl) (by kernel_rfl) (by kernel_rfl) (fun _ _ _ h => h) (by rfl) ?_ ?_; rotate_left 1; focus (intro w; go_simp; try with_reducible rfl))
            try simp only [Act.put, List.setIfInBounds_toArray, List.set_cons_zero, List.set_cons_succ]
            (refine wpAnyP_takeL (i := 17) (v := ?_) rfl (by kernel_rfl) (by kernel_rfl) (by kernel_rfl) (fun _ _ _ h => h) (by rfl) ?_ ?_; rotate_left 1; focus (intro w; go_simp; try with_reducible rfl))
            try simp only [Act.put, List.setIfInBounds_toArray, List.set_cons_zero, List.set_cons_succ]
            (refine wpAnyP_loadL (i := 18) (v := ?_) rfl (by kernel_rfl) (by kernel_rfl) (by kernel_rfl) (by rfl) (fun _ _ _ h => h) hF0 (by rfl) ?_ ?_; rotate_left 1; focus (intro w hFw; (try dsimp only at hFw); go_split_ands; go_simp; try with_reducible rfl))
            try simp only [Act.put, List.setIfInBounds_toArray, List.set_cons_zero, List.set_cons_succ]
            refine wpAnyP_step (i := 19) rfl (by kernel_rfl) (by rfl) (fun K hK => ?_)
            go_simp
            (have HW4 := Lib.hid (HW3.out.alloc (.cells #[.int .i64 y.fr, .int .i64 y.to, .int .i64 y.g] 3)); have HSL := Lib.hid (Sl.newI wr [y.fr, y.to, y.g] 3).drew; have HB4 := Lib.hid ((Below.refl _ wr).alloc (Nat.le_refl _) (.cells #[.int .i64 y.fr, .int .i64 y.to, .int .i64 y.g] 3)).drew)
            (refine hK _ _ (⟨HW4.out.blk.cell 1, cell_old HC3.out.1 HB4.out, cell_old HC3.out.2.1 HB4.out, cell_old HC3.out.2.2 HB4.out⟩) (fun hF1 => ?_); clear hK K hF0)
            try simp only [Act.put, List.setIfInBounds_toArray, List.set_cons_zero, List.set_cons_succ]
            refine wpAnyP_step (i := 20) rfl (by kernel_rfl) (by rfl) (fun K hK => ?_)
            go_simp
            (refine (qrow_any [109, 111, 118, 101] _ 3 3 _ [y.fr, y.to, y.g] _ HSL.out (fun z hz => (by simp at hz; rcases hz with rfl | rfl | rfl; exact hxi.1; exact hxi.2.1; exact hxi.2.2)) (HP.out.old HW4.out.low) (by omega) (show (movR y).length ≤ 1000000 by omega)).mono ?_; rintro e w4 ⟨rfl, hb4⟩; have HW5 := Lib.hid (HW4.out.below hb4); have HB5 := Lib.hid (Below.step hb4 HB4.out (Nat.le_refl _)); clear hb4)
            (refine hK _ _ (⟨HW5.out.blk.cell 1, cell_old HC3.out.1 HB5.out, cell_old HC3.out.2.1 HB5.out, cell_old HC3.out.2.2 HB5.out⟩) (fun hF2 => ?_); clear hK K hF1)
            try simp only [Act.put, List.setIfInBounds_toArray, List.set_cons_zero, List.set_cons_succ]
            (refine wpAnyP_takeL (i := 21) (v := ?_) rfl (by kernel_rfl) (by kernel_rfl) (by kernel_rfl) (fun _ _ _ h => h) (by rfl) ?_ ?_; rotate_left 1; focus (intro w; go_simp; try with_reducible rfl))
            try simp only [Act.put, List.setIfInBounds_toArray, List.set_cons_zero, List.set_cons_succ]
            (refine wpAnyP_takeL (i := 22) (v := ?_) rfl (by kernel_rfl) (by kernel_rfl) (by kernel_rfl) (fun _ _ _ h => h) (by rfl) ?_ ?_; rotate_left 1; focus (intro w; go_simp; try with_reducible rfl))
            try simp only [Act.put, List.setIfInBounds_toArray, List.set_cons_zero, List.set_cons_succ]
            refine wpAnyP_done (by kernel_rfl) ?_ _
            go_wp2_with fail
            go_roundw
            case rel => exact ⟨k + 1, by omega, by go_num, by rw [HS.out, ByteArray.mk_append_mk, List.append_assoc]; rfl, HW5.out⟩
            case measure => simp [intOf]; omega
          · have hkl2 : ms.take k = ms := List.take_of_length_le (by have := HNM.out; omega)
            rw [hkl2] at hst2 htl2 ⊢
            obtain rfl : nm = k := by omega
            have hin : I64 (nm : Int) := ⟨by omega, by omega⟩
            have hle := endR_le hin
            have HW4 := Lib.hid (hW.alloc (.cells #[.int .i64 (nm : Int)] 3))
            have HSL := Lib.hid (Sl.newI wr [(nm : Int)] 3)
            have ha1 : ((batsR bs ++ movsR ms).length : Int) ≤ 8388608 := by rw [List.length_append]; omega
            have ha2 : ((endR (nm : Int)).length : Int) ≤ 8388608 := by omega
            have ha3 : ((rowT [101, 110, 100] [(nm : Int)]).length : Int) ≤ 8388608 := ha2
            have hbig : ¬ 9223372036854775807 < (batsR bs).length + (movsR ms).length + (rowT [101, 110, 100] [(nm : Int)]).length := by have : (rowT [101, 110, 100] [(nm : Int)]).length ≤ 40 := hle; omega
            clear hW
            go_wp2_with fail
            refine (qrow_any [101, 110, 100] _ 1 1 _ [(nm : Int)] _ HSL.out (fun z hz => by simp at hz; subst hz; exact hin) (HP.out.old HW4.out.low) (by omega) (show (endR (nm : Int)).length ≤ 1000000 by omega)).mono ?_
            rintro e w4 ⟨rfl, hb4⟩
            have HW5 := Lib.hid (HW4.out.below hb4)
            clear hb4 HW4 HSL c1
            go_wp2_with fail
            go_ret2
            exact ⟨by rw [HT.out, HC.out, trailR, ← HNM.out, ← ByteArray.mk_append_mk]; rfl, HW5.out.low⟩
  · have HC := Lib.hid hc
    have HT := Lib.hid (show trailT bs ms = [] from if_neg hc)
    go_enter Tryz.func10, Tryz.ntmps10
    go_wp2_with fail
    refine (qcheck_any b1 b2 Ab Am nb cb nm cm bs ms _ (HM.out.old HO.out.low) hnb hnm).mono ?_
    rintro e w1 ⟨rfl, hb1⟩
    have HB1 := Lib.hid (HO.out.below hb1)
    have hne : (chkNet bs ms != 0) = true := by simpa using HC.out
    clear hb1
    go_wp2_with fail
    go_ret2
    exact ⟨by rw [HT.out]; rfl, HB1.out.low⟩
end Go.Proofs.YtkphgdkjjklajaaGreatDoor

namespace Go.Proofs.YtkphgdkjjklajaaGreatDoor

def rowN (wd : List UInt8) (l : List Int) : List UInt8 := wd ++ numsT l
theorem rowT_eq (wd : List UInt8) (l : List Int) : rowT wd l = rowN wd l ++ [10] := rfl
theorem dec_len : ∀ (k n : Nat), n < 10 ^ (k + 1) → (Lib.decDigits n).length ≤ k + 1
  | 0, n, h => by rw [Lib.decDigits, dif_pos (by omega)]; simp
  | k + 1, n, h => by
    by_cases hn : n < 10
    · rw [Lib.decDigits, dif_pos hn]; simp
    · have h2 : n / 10 < 10 ^ (k + 1) := by rw [Nat.pow_succ] at h; omega
      have := dec_len k (n / 10) h2
      rw [Lib.decDigits, dif_neg hn, List.length_append, List.length_singleton]
      omega
theorem num_itoa {n : Int} (h0 : 0 ≤ n) (h1 : n < 10000000) : numT 7 (Lib.itoa n) = some n.toNat := by
  obtain ⟨k, rfl⟩ := Int.eq_ofNat_of_zero_le h0
  rw [Lib.itoa_nonneg]
  exact numT_iff.2 ⟨rfl, dec_len 6 k (by omega)⟩
theorem dig_no {b c : UInt8} (h : isDig b = true) (hc : c.toNat < 48) : b ≠ c := by
  rintro rfl
  simp only [isDig, Bool.and_eq_true, decide_eq_true_eq] at h
  omega
theorem itoa_no {n : Int} (h0 : 0 ≤ n) {c : UInt8} (hc : c.toNat < 48) : c ∉ Lib.itoa n := by
  obtain ⟨k, rfl⟩ := Int.eq_ofNat_of_zero_le h0
  rw [Lib.itoa_nonneg]
  intro h
  have := (dec_dig k).1
  rw [List.all_eq_true] at this
  exact dig_no (this c h) hc rfl
def Small7 (l : List Int) : Prop := ∀ x ∈ l, 0 ≤ x ∧ x < 10000000
theorem numsT_no {l : List Int} (h : Small7 l) : (10 : UInt8) ∉ numsT l := by
  intro hc
  unfold numsT at hc
  obtain ⟨n, hn, hc⟩ := List.mem_flatMap.1 hc
  rcases List.mem_cons.1 hc with hc | hc
  · exact absurd hc (by decide)
  · exact itoa_no (h n hn).1 (by decide) hc
theorem split_words (wd : List UInt8) (hw : (32 : UInt8) ∉ wd) : ∀ (l : List Int), Small7 l → splitT 32 (rowN wd l) = wd :: l.map Lib.itoa := by
  have main : ∀ (l : List Int), Small7 l → ∀ p : List UInt8, (32 : UInt8) ∉ p → splitT 32 (p ++ numsT l) = p :: l.map Lib.itoa := by
    intro l
    induction l with
    | nil => intro _ p hp; rw [show numsT [] = [] from rfl, List.append_nil, splitT_none hp]; rfl
    | cons x r ih =>
      intro h p hp
      have h1 : numsT (x :: r) = 32 :: (Lib.itoa x ++ numsT r) := by simp [numsT]
      rw [h1, splitT_hit hp, ih (fun y hy => h y (List.mem_cons_of_mem _ hy)) _ (itoa_no (h x List.mem_cons_self).1 (by decide))]
      rfl
  exact fun l h => main l h wd hw
theorem step_row {s : NS} (he : s.en = false) (wd : List UInt8) (hw : (32 : UInt8) ∉ wd) (l : List Int) (h : Small7 l) : stepN s (rowN wd l) = stepNW s wd l := by
  unfold stepN
  rw [split_words wd hw l h]
  have h1 : (l.map Lib.itoa).all okW7 = true := by
    rw [List.all_eq_true]
    intro y hy
    obtain ⟨n, hn, rfl⟩ := List.mem_map.1 hy
    unfold okW7
    rw [num_itoa (h n hn).1 (h n hn).2]
    rfl
  have h2 : (l.map Lib.itoa).map valW7 = l := by
    rw [List.map_map]
    conv => rhs; rw [← List.map_id l]
    refine List.map_congr_left fun n hn => ?_
    show valW7 (Lib.itoa n) = n
    unfold valW7
    rw [num_itoa (h n hn).1 (h n hn).2]
    have := (h n hn).1
    simp
    omega
  simp only [h1, h2, he, Bool.false_eq_true, if_false, if_true]
theorem split_rows : ∀ (rows : List (List UInt8)), (∀ r ∈ rows, (10 : UInt8) ∉ r) → splitT 10 (rows.flatMap (· ++ [10])) = rows ++ [[]]
  | [], _ => rfl
  | r :: rs, h => by
    have ih := split_rows rs (fun y hy => h y (List.mem_cons_of_mem _ hy))
    rw [List.flatMap_cons, List.append_assoc, List.singleton_append, splitT_hit (h r List.mem_cons_self), ih]
    rfl
def mvL (m : Mv) : List Int := [m.fr, m.to, m.g]
def rBat (g : Int) : List UInt8 := rowN wBat [g]
def rMov (m : Mv) : List UInt8 := rowN wMov (mvL m)
def rFin (n : Int) : List UInt8 := rowN wFin [n]
def rowsOf (bs : List Int) (ms : List Mv) : List (List UInt8) := bs.map rBat ++ (ms.map rMov ++ [rFin (ms.length : Int)])
theorem flat_map_rows {α : Type} (f : α → List UInt8) : ∀ (l : List α), l.flatMap (fun x => f x ++ [10]) = (l.map f).flatMap (· ++ [10])
  | [] => rfl
  | x :: r => by rw [List.flatMap_cons, List.map_cons, List.flatMap_cons, flat_map_rows f r]
theorem trail_rows (bs : List Int) (ms : List Mv) : trailR bs ms = (rowsOf bs ms).flatMap (· ++ [10]) := by
  unfold rowsOf
  rw [List.flatMap_append, List.flatMap_append, ← flat_map_rows, ← flat_map_rows, ← List.append_assoc]
  simp only [List.flatMap_cons, List.flatMap_nil, List.append_nil]
  rfl
theorem step_bat {s : NS} {g : Int} (he : s.en = false) (hm : s.ms = []) (h : Small7 [g]) : stepN s (rBat g) = some { s with bs := s.bs ++ [g] } := by
  unfold rBat
  rw [step_row he wBat (by decide) _ h]
  unfold stepNW
  rw [if_pos ⟨rfl, rfl, by rw [hm]; rfl⟩]
  rfl
theorem step_mov {s : NS} {m : Mv} (he : s.en = false) (h : Small7 (mvL m)) : stepN s (rMov m) = some { s with ms := s.ms ++ [m] } := by
  unfold rMov
  rw [step_row he wMov (by decide) _ h]
  unfold stepNW
  rw [if_neg (fun h => absurd h.1 (by decide)), if_pos ⟨rfl, rfl⟩]
  rfl
theorem step_fin {s : NS} (he : s.en = false) (h : Small7 [(s.ms.length : Int)]) : stepN s (rFin (s.ms.length : Int)) = some { s with en := true } := by
  unfold rFin
  rw [step_row he wFin (by decide) _ h]
  unfold stepNW
  rw [if_neg (fun h => absurd h.1 (by decide)), if_neg (fun h => absurd h.1 (by decide)), if_pos ⟨rfl, rfl, rfl⟩]
theorem run_bats : ∀ (l : List Int) (i : Nat) (s : NS) (R : List (List UInt8)), s.en = false → s.ms = [] → Small7 l → runN i s (l.map rBat ++ R) = runN (i + l.length) { s with bs := s.bs ++ l } R
  | [], i, s, R, _, _, _ => by simp
  | g :: r, i, s, R, he, hm, h => by
    rw [List.map_cons, List.cons_append, runN, step_bat he hm (fun x hx => h x (by rw [List.mem_singleton.1 hx]; exact List.mem_cons_self))]
    have ih := run_bats r (i + 1) { s with bs := s.bs ++ [g] } R he hm (fun y hy => h y (List.mem_cons_of_mem _ hy))
    simp only [List.append_assoc, List.singleton_append] at ih
    rw [List.length_cons, show i + (r.length + 1) = i + 1 + r.length by omega]
    exact ih
theorem run_movs : ∀ (l : List Mv) (i : Nat) (s : NS) (R : List (List UInt8)), s.en = false → (∀ m ∈ l, Small7 (mvL m)) → runN i s (l.map rMov ++ R) = runN (i + l.length) { s with ms := s.ms ++ l } R
  | [], i, s, R, _, _ => by simp
  | g :: r, i, s, R, he, h => by
    rw [List.map_cons, List.cons_append, runN, step_mov he (h g List.mem_cons_self)]
    have ih := run_movs r (i + 1) { s with ms := s.ms ++ [g] } R he (fun y hy => h y (List.mem_cons_of_mem _ hy))
    simp only [List.append_assoc, List.singleton_append] at ih
    rw [List.length_cons, show i + (r.length + 1) = i + 1 + r.length by omega]
    exact ih
theorem run_rows {bs : List Int} {ms : List Mv} (h0 : Small7 bs) (h1 : ∀ m ∈ ms, Small7 (mvL m)) (h2 : Small7 [(ms.length : Int)]) : runN 0 .init (rowsOf bs ms) = .inl ⟨bs, ms, true⟩ := by
  unfold rowsOf
  rw [run_bats bs 0 .init _ rfl rfl h0, run_movs ms _ _ _ rfl h1, runN]
  have e := step_fin (s := ⟨bs, ms, false⟩) rfl h2
  rw [show ({ bs := ({ NS.init with bs := NS.init.bs ++ bs } : NS).bs, ms := ({ NS.init with bs := NS.init.bs ++ bs } : NS).ms ++ ms, en := ({ NS.init with bs := NS.init.bs ++ bs } : NS).en } : NS) = ⟨bs, ms, false⟩ from rfl, e]
  rfl
theorem small_of {bs : List Int} {ms : List Mv} (h : NetIn bs ms) : Small7 bs ∧ (∀ m ∈ ms, Small7 (mvL m)) ∧ Small7 [(ms.length : Int)] := by
  refine ⟨fun x hx => ?_, fun m hm x hx => ?_, fun x hx => ?_⟩
  · have := h.gr x hx
    omega
  · obtain ⟨k, hk, rfl⟩ := List.getElem_of_mem hm
    have h1 := h.at_ hk
    have h2 := (h.has_bd k ms[k].fr).2
    have h3 := h1.f0
    have h4 := h1.f1
    have h5 := h1.t0
    have h6 := h1.t1
    have h7 := h1.g0
    have h8 := h1.g1
    have h9 := h.n1
    simp only [mvL, List.mem_cons, List.not_mem_nil, or_false] at hx
    omega
  · have := h.m1
    simp at hx
    omega
theorem numsT_sev : ∀ (l : List Int), Small7 l → (numsT l).length ≤ 8 * l.length
  | [], _ => by simp [numsT]
  | x :: r, h => by
    have h1 := numsT_sev r (fun y hy => h y (List.mem_cons_of_mem _ hy))
    have h2 := (numT_iff.1 (num_itoa (h x List.mem_cons_self).1 (h x List.mem_cons_self).2)).2
    have h4 : numsT (x :: r) = (32 :: Lib.itoa x) ++ numsT r := by simp [numsT]
    rw [h4, List.length_append, List.length_cons, List.length_cons]
    omega
theorem flat_le7 {α : Type} (f : α → List UInt8) (k : Nat) : ∀ (l : List α), (∀ x ∈ l, (f x).length ≤ k) → (l.flatMap f).length ≤ k * l.length
  | [], _ => by simp
  | x :: r, h => by
    have h1 := flat_le7 f k r (fun y hy => h y (List.mem_cons_of_mem _ hy))
    have h2 := h x List.mem_cons_self
    rw [List.flatMap_cons, List.length_append, List.length_cons, Nat.mul_succ]
    omega
theorem trail_len (bs : List Int) (ms : List Mv) : (trailT bs ms).length ≤ 1500 := by
  by_cases hc : chkNet bs ms = 0
  · have hn := netIn_of hc
    obtain ⟨h0, h1, h2⟩ := small_of hn
    have e1 := flat_le7 batR 14 bs (fun x hx => by
      have := numsT_sev [x] (fun y hy => h0 y (by rw [List.mem_singleton.1 hy]; exact hx))
      unfold batR
      rw [rowT_len]
      simp at this ⊢
      omega)
    have e2 := flat_le7 movR 29 ms (fun m hm => by
      have := numsT_sev (mvL m) (h1 m hm)
      unfold movR
      rw [rowT_len]
      simp [mvL] at this ⊢
      omega)
    have e3 := numsT_sev _ h2
    have n1 := hn.n1
    have m1 := hn.m1
    rw [show trailT bs ms = trailR bs ms from if_pos hc]
    unfold trailR batsR movsR endR
    rw [List.length_append, List.length_append, rowT_len]
    have e4 : ([101, 110, 100] : List UInt8).length = 3 := rfl
    have e5 : [(ms.length : Int)].length = 1 := rfl
    omega
  · rw [show trailT bs ms = [] from if_neg hc]
    simp
/-- what is written is read again -/
theorem read_trail {bs : List Int} {ms : List Mv} (hc : chkNet bs ms = 0) : readN (trailT bs ms) = ⟨bs, ms, 0, 0⟩ := by
  have hn := netIn_of hc
  obtain ⟨h0, h1, h2⟩ := small_of hn
  have ht : trailT bs ms = trailR bs ms := if_pos hc
  have hx := trail_len bs ms
  have hh : ∀ (wd : List UInt8) (n : List Int), (10 : UInt8) ∉ wd → Small7 n → (10 : UInt8) ∉ rowN wd n := fun wd n hw hn hc => by
    rcases List.mem_append.1 hc with h | h
    · exact hw h
    · exact numsT_no hn h
  have hno : ∀ r ∈ rowsOf bs ms, (10 : UInt8) ∉ r := by
    intro r hr
    unfold rowsOf at hr
    rcases List.mem_append.1 hr with hr | hr
    · obtain ⟨y, hy, rfl⟩ := List.mem_map.1 hr
      exact hh _ _ (by decide) (fun x hx => h0 x (by rw [List.mem_singleton.1 hx]; exact hy))
    rcases List.mem_append.1 hr with hr | hr
    · obtain ⟨y, hy, rfl⟩ := List.mem_map.1 hr
      exact hh _ _ (by decide) (h1 y hy)
    · rw [List.mem_singleton.1 hr]
      exact hh _ _ (by decide) h2
  have hsp : splitT 10 (trailT bs ms) = rowsOf bs ms ++ [[]] := by rw [ht, trail_rows, split_rows _ hno]
  refine (readN_ok (s := ⟨bs, ms, true⟩) hx ?_ ?_ hc).trans rfl
  · rw [hsp, List.length_append, List.length_singleton, Nat.add_sub_cancel, List.take_left', run_rows h0 h1 h2]
    rfl
  · rw [hsp]
    simp [List.getD]
theorem split_join (c : UInt8) : ∀ (s p : List UInt8) (ps : List (List UInt8)), splitT c s = p :: ps → s = p ++ ps.flatMap (c :: ·)
  | [], p, ps, h => by
    simp only [splitT, List.cons.injEq] at h
    obtain ⟨rfl, rfl⟩ := h
    rfl
  | x :: r, p, ps, h => by
    unfold splitT at h
    split at h
    · rename_i hx
      simp only [List.cons.injEq] at h
      obtain ⟨rfl, rfl⟩ := h
      cases hr : splitT c r with
      | nil => exact absurd hr (splitT_ne c r)
      | cons q qs =>
        have := split_join c r q qs hr
        subst hx
        rw [List.flatMap_cons, List.nil_append, this]
        simp
    · split at h
      · rename_i hr
        exact absurd hr (splitT_ne c r)
      · rename_i q qs hr
        simp only [List.cons.injEq] at h
        obtain ⟨rfl, rfl⟩ := h
        have := split_join c r q qs hr
        rw [List.cons_append, ← this]
theorem words_back : ∀ (ws : List (List UInt8)), ws.all okW7 = true → ws.flatMap ((32 : UInt8) :: ·) = numsT (ws.map valW7)
  | [], _ => rfl
  | w :: r, h => by
    rw [List.all_cons, Bool.and_eq_true] at h
    have h1 := words_back r h.2
    obtain ⟨n, hn⟩ : ∃ n, numT 7 w = some n := by have := h.1; unfold okW7 at this; exact Option.isSome_iff_exists.1 this
    have h2 : Lib.itoa (valW7 w) = w := by
      unfold valW7
      rw [hn]
      show Lib.itoa ((n : Nat) : Int) = w
      rw [Lib.itoa_nonneg]
      exact (numT_iff.1 hn).1.symm
    rw [List.flatMap_cons, h1, List.map_cons]
    simp [numsT, h2]
theorem step_inv {s s' : NS} {r : List UInt8} (h : stepN s r = some s') : s.en = false ∧ ∃ wd l, r = rowN wd l ∧ stepNW s wd l = some s' := by
  unfold stepN at h
  cases hs : splitT 32 r with
  | nil => exact absurd hs (splitT_ne 32 r)
  | cons w ws =>
    rw [hs] at h
    simp only at h
    cases he : s.en
    · rw [he] at h
      simp only [Bool.false_eq_true, if_false] at h
      by_cases ha : ws.all okW7 = true
      · rw [if_pos ha] at h
        exact ⟨rfl, w, _, by rw [split_join 32 r w ws hs, words_back ws ha]; rfl, h⟩
      · rw [if_neg ha] at h
        cases h
    · rw [he] at h
      simp at h
theorem rows_join : ∀ (R : List (List UInt8)) (p : List UInt8) (ps : List (List UInt8)), p :: ps = R ++ [[]] → p ++ ps.flatMap ((10 : UInt8) :: ·) = R.flatMap (· ++ [10])
  | [], p, ps, h => by
    simp only [List.nil_append, List.cons.injEq] at h
    obtain ⟨rfl, rfl⟩ := h
    rfl
  | r :: R, p, ps, h => by
    simp only [List.cons_append, List.cons.injEq] at h
    obtain ⟨rfl, h⟩ := h
    cases ps with
    | nil => simp at h
    | cons q qs =>
      have := rows_join R q qs h
      rw [List.flatMap_cons, List.flatMap_cons, ← this]
      simp
theorem run_en {i : Nat} {s s' : NS} {rows : List (List UInt8)} (he : s.en = true) (h : runN i s rows = .inl s') : rows = [] ∧ s' = s := by
  cases rows with
  | nil => simp only [runN, Sum.inl.injEq] at h; exact ⟨rfl, h.symm⟩
  | cons r rs =>
    rw [runN] at h
    cases hst : stepN s r with
    | none => rw [hst] at h; cases h
    | some s1 => rw [(step_inv hst).1] at he; cases he
theorem inv_run : ∀ (rows : List (List UInt8)) (i : Nat) (s s' : NS), s.en = false → runN i s rows = .inl s' → s'.en = true →
    ∃ nb nm, s'.bs = s.bs ++ nb ∧ s'.ms = s.ms ++ nm ∧ (s.ms.length ≠ 0 → nb = []) ∧ rows = nb.map rBat ++ (nm.map rMov ++ [rFin (s'.ms.length : Int)])
  | [], i, s, s', he, h, he' => by
    simp only [runN, Sum.inl.injEq] at h
    subst h
    rw [he] at he'
    cases he'
  | r :: rs, i, s, s', he, h, he' => by
    rw [runN] at h
    cases hst : stepN s r with
    | none => rw [hst] at h; cases h
    | some s1 =>
      rw [hst] at h
      simp only at h
      obtain ⟨_, wd, l, hr, hw⟩ := step_inv hst
      unfold stepNW at hw
      split at hw
      · rename_i hc
        obtain ⟨rfl, hl, hm⟩ := hc
        simp only [Option.some.injEq] at hw
        subst hw
        obtain ⟨nb, nm, h1, h2, h3, h4⟩ := inv_run rs (i + 1) { s with bs := s.bs ++ [atN l 0] } s' he h he'
        match l, hl with
        | [a], _ =>
          refine ⟨a :: nb, nm, by rw [h1]; simp [atN], h2, fun h => absurd hm h, ?_⟩
          rw [List.map_cons, List.cons_append, ← h4, hr]
          rfl
      · split at hw
        · rename_i hc
          obtain ⟨rfl, hl⟩ := hc
          simp only [Option.some.injEq] at hw
          subst hw
          obtain ⟨nb, nm, h1, h2, h3, h4⟩ := inv_run rs (i + 1) { s with ms := s.ms ++ [⟨atN l 0, atN l 1, atN l 2⟩] } s' he h he'
          have hnb := h3 (by simp)
          subst hnb
          match l, hl with
          | [a, b, c], _ =>
            refine ⟨[], ⟨a, b, c⟩ :: nm, h1, by rw [h2]; simp [atN], fun _ => rfl, ?_⟩
            rw [List.map_nil, List.nil_append, List.map_cons, List.cons_append, hr, h4]
            rfl
        · split at hw
          · rename_i hc
            obtain ⟨rfl, hl, h0⟩ := hc
            simp only [Option.some.injEq] at hw
            subst hw
            obtain ⟨rfl, rfl⟩ := run_en rfl h
            refine ⟨[], [], by simp, by simp, fun _ => rfl, ?_⟩
            match l, hl with
            | [a], _ =>
              simp only [atN, List.getD_cons_zero] at h0 ⊢
              rw [hr, h0]
              rfl
          · cases hw
theorem inv_rows {rows : List (List UInt8)} {s : NS} (h : runN 0 .init rows = .inl s) (he : s.en = true) : rows = rowsOf s.bs s.ms := by
  obtain ⟨nb, nm, h1, h2, _, h4⟩ := inv_run rows 0 .init s rfl h he
  simp only [NS.init, List.nil_append] at h1 h2
  unfold rowsOf
  rw [h4, h1, h2]
/-- what is read is written as it was -/
theorem trail_read {x : List UInt8} (h : (readN x).er = 0) : chkNet (readN x).bs (readN x).ms = 0 ∧ trailT (readN x).bs (readN x).ms = x := by
  by_cases hx : 1500 < x.length
  · unfold readN at h
    rw [if_pos hx] at h
    cases h
  have hx' : x.length ≤ 1500 := by omega
  cases hr : runN 0 .init ((splitT 10 x).take ((splitT 10 x).length - 1)) with
  | inr i =>
    rw [readN_err hx' hr] at h
    cases h
  | inl s =>
    by_cases he : s.en = false ∨ (splitT 10 x).getD ((splitT 10 x).length - 1) [] ≠ []
    · rw [readN_open hx' hr he] at h
      cases h
    · by_cases hc : chkNet s.bs s.ms = 0
      · rw [readN_ok hx' hr he hc]
        refine ⟨hc, ?_⟩
        show trailT s.bs s.ms = x
        unfold trailT
        rw [if_pos hc, trail_rows]
        simp only [not_or, Bool.not_eq_false, ne_eq, Decidable.not_not] at he
        have hrows := inv_rows hr he.1
        rw [← hrows]
        cases hsp : splitT 10 x with
        | nil => exact absurd hsp (splitT_ne 10 x)
        | cons p ps =>
          rw [hsp] at he
          have hL : p :: ps = (p :: ps).take ((p :: ps).length - 1) ++ [[]] := by
            have h1 : (p :: ps).length - 1 < (p :: ps).length := by simp
            have h2 : (p :: ps)[(p :: ps).length - 1] = [] := by
              have := he.2
              rw [List.getD_eq_getElem?_getD, List.getElem?_eq_getElem h1] at this
              exact this
            have h3 := List.take_succ_eq_append_getElem h1
            rw [h2, show (p :: ps).length - 1 + 1 = (p :: ps).length by simp, List.take_length] at h3
            exact h3
          rw [← rows_join _ p ps hL]
          exact (split_join 10 x p ps hsp).symm
      · rw [readN_bad hx' hr he hc] at h
        exact absurd h hc
/-- a text that is refused has no net -/
theorem trail_none {x : List UInt8} (h : (readN x).er ≠ 0) : (readN x).bs = [] ∧ (readN x).ms = [] := by
  unfold readN at h ⊢
  split
  · exact ⟨rfl, rfl⟩
  · rename_i hx
    rw [if_neg hx] at h
    split
    · exact ⟨rfl, rfl⟩
    · rename_i s hs
      rw [hs] at h
      simp only at h ⊢
      split
      · exact ⟨rfl, rfl⟩
      · rename_i h1
        rw [if_neg h1] at h
        split
        · exact ⟨rfl, rfl⟩
        · rename_i h2
          rw [if_neg h2] at h
          exact absurd rfl h
theorem readN_len (x : List UInt8) : (readN x).bs.length ≤ 8 ∧ (readN x).ms.length ≤ 12 := by
  by_cases h : (readN x).er = 0
  · have h1 := netIn_of (trail_read h).1
    exact ⟨h1.n1, h1.m1⟩
  · rw [(trail_none h).1, (trail_none h).2]
    simp
end Go.Proofs.YtkphgdkjjklajaaGreatDoor

namespace Go.Proofs.YtkphgdkjjklajaaGreatDoor
open Go.RowKit Go.Shelf Go.Sort

theorem ok_if3 {p q r : Prop} {_ : Decidable p} {_ : Decidable q} {_ : Decidable r} {w : World} :
    (if p then if q then if r then Result.ok (Next.value (.bool true)) w else Result.ok (Next.value (.bool false)) w else Result.ok (Next.value (.bool false)) w else Result.ok (Next.value (.bool false)) w) =
      Result.ok (Next.value (.bool (decide p && (decide q && decide r)))) w := by
  by_cases hp : p <;> by_cases hq : q <;> by_cases hr : r <;> simp [hp, hq, hr]
set_option maxHeartbeats 1000000 in
theorem sameNets_any (b1 b2 b3 b4 : Nat) (Ab Am Ac An : Option Addr) (nb cb nm cm nc cc nn cn : Nat) (bs cs : List Int) (ms ns : List Mv) (w : World) (hM : NetM w b1 b2 Ab Am nb cb nm cm bs ms) (hN : NetM w b3 b4 Ac An nc cc nn cn cs ns) (hnb : nb ≤ 1000000) (hnm : nm ≤ 1000000) :
    Calls Tryz.prog 14 #[netV Ab Am nb cb nm cm, netV Ac An nc cc nn cn] w fun e w' => e = .returned (.bool (decide (bs = cs) && decide (ms = ns))) ∧ Below w.heap.size w w' := by
  have HA := Lib.hid hM.m.len
  have HB := Lib.hid hN.m.len
  have HM := Lib.hid hM
  have HN := Lib.hid hN
  clear hM hN
  have hB1 := (Blk.new w 25 #[.slice Ab nb cb, .slice Am nm cm]).alloc (.cells #[.slice Ac nc cc, .slice An nn cn] 25)
  have hB2 := Blk.new (w.alloc (.cells #[.slice Ab nb cb, .slice Am nm cm] 25)) 25 #[.slice Ac nc cc, .slice An nn cn]
  rw [World.size_alloc] at hB2
  have HB0 := Lib.hid (show Below w.heap.size w ((w.alloc (.cells #[.slice Ab nb cb, .slice Am nm cm] 25)).alloc (.cells #[.slice Ac nc cc, .slice An nn cn] 25)) from by go_grown)
  have HM0 := Lib.hid (HM.out.old HB0.out)
  have HN0 := Lib.hid (HN.out.old HB0.out)
  have c0 := hB1.cell 0
  have c1 := hB2.cell 0
  have HB1 := Lib.hid hB1
  have HB2 := Lib.hid hB2
  clear hB1 hB2
  go_enter Tryz.func14, Tryz.ntmps14
  go_upto_region 1 with fail
  obtain ⟨V, hV⟩ : ∃ V, (w.alloc (.cells #[.slice Ab nb cb, .slice Am nm cm] 25)).alloc (.cells #[.slice Ac nc cc, .slice An nn cn] 25) = V := ⟨_, rfl⟩
  have hz : w.heap.size + 2 = V.heap.size := by rw [← hV]; simp
  rw [hV] at HB0 HM0 HN0 HB1 HB2 c0 c1 ⊢
  clear hV
  have hsame := sameInts_any b1 b3 nb nc cb cc Ab Ac bs cs V HM0.out.b HN0.out.b (by omega)
  have HS := Lib.hid hsame
  clear hsame
  have hkeep : ∀ W, Below V.heap.size V W → (W.cell? ⟨w.heap.size, 1, none⟩ = some (.slice Am nm cm) ∧ W.cell? ⟨w.heap.size + 1, 1, none⟩ = some (.slice An nn cn)) := fun W h => ⟨(HB1.out.below h HB1.out.lt).cell 1, (HB2.out.below h HB2.out.lt).cell 1⟩
  have HK := Lib.hid hkeep
  clear hkeep
  by_cases hbs : bs = cs
  · have e0 : decide (bs = cs) = true := decide_eq_true hbs
    have HE0 := Lib.hid e0
    go_wp2_with (go_at_call 21; refine HS.out.mono ?_; rintro e w1 ⟨rfl, hB3⟩; obtain ⟨q0, q1⟩ := HK.out w1 hB3; have HV1 := Lib.hid hB3; clear hB3)
    obtain ⟨wo, rfl⟩ : ∃ wo : World, wo = w1 := ⟨_, rfl⟩
    go_loopw [5, 6] (fun v i wr => ∃ (k : Nat) (s : Bool), i = .int .i64 k ∧ v = .bool s ∧ k ≤ nm ∧ (s = true → nm = nn) ∧ (s && decide (ms.drop k = ns.drop k)) = decide (ms = ns) ∧ Below V.heap.size V wr) (fun _ i _ => nm - (intOf i).toNat)
    case atStart =>
      refine ⟨0, decide (nm = nn), rfl, ?_, Nat.zero_le _, by simp, ?_, HV1.out⟩
      · congr 1
        by_cases h : nm = nn
        · simp [h]
        · simp only [h, decide_false, beq_eq_false_iff_ne]
          omega
      · by_cases h : nm = nn
        · simp [h]
        · have : ¬ ms = ns := fun e => h (by rw [HA.out, HB.out, e])
          simp [h, this]
    case round =>
      obtain ⟨k, s, rfl, rfl, hk, hs, hd, hB⟩ := hrel
      have HD := Lib.hid hd
      have HBW := Lib.hid (HB0.out.trans (hB.mono (by omega : w.heap.size ≤ V.heap.size)))
      have HBB := Lib.hid hB
      obtain ⟨r0, r1⟩ := HK.out wr hB
      clear hd
      cases s with
      | false =>
        clear hB
        go_wp2_with fail
        go_ret
        exact ⟨ret_bool (by rw [← HD.out, HE0.out]; rfl), HBW.out⟩
      | true =>
        have hnn := hs rfl
        have HNN := Lib.hid hnn
        clear hnn hs
        by_cases hlt : k < nm
        · have HLT := Lib.hid hlt
          obtain ⟨o1, rfl, hb1, p0, p1, p2⟩ := (HM0.out.m.old hB).atM (k := k) (by have := HA.out; omega)
          obtain ⟨o2, rfl, hb2, t0, t1, t2⟩ := (HN0.out.m.old hB).atM (k := k) (by have := HB.out; have := HNN.out; omega)
          have hlt2 : (k : Int) < (nn : Int) := by have := HNN.out; omega
          have hlt1 : (k : Int) < (nm : Int) := by omega
          have hk0 : (0 : Int) ≤ (k : Int) := by omega
          have hd1 : decide ((k : Int) < (nm : Int)) = true := by simpa using hlt1
          generalize hx : ms[k]'(by have := HA.out; omega) = x at p0 p1 p2
          generalize hy : ns[k]'(by have := HB.out; have := HNN.out; omega) = y at t0 t1 t2
          have HX := Lib.hid hx
          have HY := Lib.hid hy
          clear hx hy hB
          go_wp2_with fail
          refine wp_region_PL [1, 4, 6, 9] (fun W => W.cell? ⟨w.heap.size, 1, none⟩ = some (.slice (some ⟨b2, o1, none⟩) nm cm) ∧ W.cell? ⟨w.heap.size + 1, 1, none⟩ = some (.slice (some ⟨b4, o2, none⟩) nn cn) ∧ (W.cell? ⟨b2, o1 + k * 3, none⟩ = some (.int .i64 x.fr) ∧ W.cell? ⟨b2, o1 + k * 3 + 1, none⟩ = some (.int .i64 x.to) ∧ W.cell? ⟨b2, o1 + k * 3 + 2, none⟩ = some (.int .i64 x.g)) ∧ (W.cell? ⟨b4, o2 + k * 3, none⟩ = some (.int .i64 y.fr) ∧ W.cell? ⟨b4, o2 + k * 3 + 1, none⟩ = some (.int .i64 y.to) ∧ W.cell? ⟨b4, o2 + k * 3 + 2, none⟩ = some (.int .i64 y.g))) rfl (by kernel_rfl) (⟨r0, r1, ⟨p0, p1, p2⟩, ⟨t0, t1, t2⟩⟩) (fun hF0 => ?_)
          (refine wpAnyP_takeL (i := 0) (v := ?_) rfl (by kernel_rfl) (by kernel_rfl) (by kernel_rfl) (fun _ _ _ h => h) (by rfl) ?_ ?_; rotate_left 1; focus (intro w; go_simp; try with_reducible rfl))
          try simp only [Act.put, List.setIfInBounds_toArray, List.set_cons_zero, List.set_cons_succ]
          (refine wpAnyP_loadL (i := 1) (v := ?_) rfl (by kernel_rfl) (by kernel_rfl) (by kernel_rfl) (by rfl) (fun _ _ _ h => h) hF0 (by rfl) ?_ ?_; rotate_left 1; focus (intro w hFw; (try dsimp only at hFw); go_split_ands; go_simp; try with_reducible rfl))
          try simp only [Act.put, List.setIfInBounds_toArray, List.set_cons_zero, List.set_cons_succ]
          (refine wpAnyP_takeL (i := 2) (v := ?_) rfl (by kernel_rfl) (by kernel_rfl) (by kernel_rfl) (fun _ _ _ h => h) (by rfl) ?_ ?_; rotate_left 1; focus (intro w; go_simp; try with_reducible rfl))
          try simp only [Act.put, List.setIfInBounds_toArray, List.set_cons_zero, List.set_cons_succ]
          (refine wpAnyP_takeL (i := 3) (v := ?_) rfl (by kernel_rfl) (by kernel_rfl) (by kernel_rfl) (fun _ _ _ h => h) (by rfl) ?_ ?_; rotate_left 1; focus (intro w; go_simp; try with_reducible rfl))
          try simp only [Act.put, List.setIfInBounds_toArray, List.set_cons_zero, List.set_cons_succ]
          (refine wpAnyP_loadL (i := 4) (v := ?_) rfl (by kernel_rfl) (by kernel_rfl) (by kernel_rfl) (by rfl) (fun _ _ _ h => h) hF0 (by rfl) ?_ ?_; rotate_left 1; focus (intro w hFw; (try dsimp only at hFw); go_split_ands; go_simp; try with_reducible rfl))
          try simp only [Act.put, List.setIfInBounds_toArray, List.set_cons_zero, List.set_cons_succ]
          (refine wpAnyP_takeL (i := 5) (v := ?_) rfl (by kernel_rfl) (by kernel_rfl) (by kernel_rfl) (fun _ _ _ h => h) (by rfl) ?_ ?_; rotate_left 1; focus (intro w; go_simp; try with_reducible rfl))
          try simp only [Act.put, List.setIfInBounds_toArray, List.set_cons_zero, List.set_cons_succ]
          (refine wpAnyP_loadL (i := 6) (v := ?_) rfl (by kernel_rfl) (by kernel_rfl) (by kernel_rfl) (by rfl) (fun _ _ _ h => h) hF0 (by rfl) ?_ ?_; rotate_left 1; focus (intro w hFw; (try dsimp only at hFw); go_split_ands; go_simp; try with_reducible rfl))
          try simp only [Act.put, List.setIfInBounds_toArray, List.set_cons_zero, List.set_cons_succ]
          (refine wpAnyP_takeL (i := 7) (v := ?_) rfl (by kernel_rfl) (by kernel_rfl) (by kernel_rfl) (fun _ _ _ h => h) (by rfl) ?_ ?_; rotate_left 1; focus (intro w; go_simp; try with_reducible rfl))
          try simp only [Act.put, List.setIfInBounds_toArray, List.set_cons_zero, List.set_cons_succ]
          (refine wpAnyP_takeL (i := 8) (v := ?_) rfl (by kernel_rfl) (by kernel_rfl) (by kernel_rfl) (fun _ _ _ h => h) (by rfl) ?_ ?_; rotate_left 1; focus (intro w; go_simp; try with_reducible rfl))
          try simp only [Act.put, List.setIfInBounds_toArray, List.set_cons_zero, List.set_cons_succ]
          (refine wpAnyP_loadL (i := 9) (v := ?_) rfl (by kernel_rfl) (by kernel_rfl) (by kernel_rfl) (by rfl) (fun _ _ _ h => h) hF0 (by rfl) ?_ ?_; rotate_left 1; focus (intro w hFw; (try dsimp only at hFw); go_split_ands; go_simp; try with_reducible rfl))
          try simp only [Act.put, List.setIfInBounds_toArray, List.set_cons_zero, List.set_cons_succ]
          (refine wpAnyP_takeL (i := 10) (v := ?_) rfl (by kernel_rfl) (by kernel_rfl) (by kernel_rfl) (fun _ _ _ h => h) (by rfl) ?_ ?_; rotate_left 1; focus (intro w; go_simp; exact ok_if3))
          try simp only [Act.put, List.setIfInBounds_toArray, List.set_cons_zero, List.set_cons_succ]
          (refine wpAnyP_takeL (i := 11) (v := ?_) rfl (by kernel_rfl) (by kernel_rfl) (by kernel_rfl) (fun _ _ _ h => h) (by rfl) ?_ ?_; rotate_left 1; focus (intro w; go_simp; try with_reducible rfl))
          try simp only [Act.put, List.setIfInBounds_toArray, List.set_cons_zero, List.set_cons_succ]
          refine wpAnyP_done (by kernel_rfl) ?_ _
          go_wp2_with fail
          go_roundw
          case rel =>
            refine ⟨k + 1, _, by go_num, rfl, by omega, fun _ => HNN.out, ?_, HBB.out.drew⟩
            rw [← HD.out, drop_eq (a := ms) (b := ns) (k := k) (by have := HA.out; have := HLT.out; omega) (by have := HB.out; have := HNN.out; have := HLT.out; omega), HX.out, HY.out]
            rw [show decide (x = y) = (decide (x.fr = y.fr) && (decide (x.to = y.to) && decide (x.g = y.g))) from by cases x; cases y; simp [Bool.eq_iff_iff]]
            simp
          case measure => simp [intOf]; omega
        · have HG := Lib.hid (show nm ≤ k by omega)
          have hd1 : decide ((k : Int) < (nm : Int)) = false := by simp; omega
          clear hB
          go_wp2_with fail
          go_ret
          refine ⟨ret_bool ?_, HBW.out⟩
          rw [HE0.out, ← HD.out, drop_all (a := ms) (b := ns) (k := k) (by have := HA.out; have := HG.out; omega) (by have := HB.out; have := HNN.out; have := HG.out; omega)]
          rfl
  · have e0 : decide (bs = cs) = false := decide_eq_false hbs
    go_wp2_with (go_at_call 21; refine HS.out.mono ?_; rintro e w1 ⟨rfl, hB3⟩; obtain ⟨q0, q1⟩ := HK.out w1 hB3; have HV1 := Lib.hid hB3; clear hB3)
    go_rounds 1
    go_ret
    exact ⟨ret_bool (by rw [e0]; rfl), HB0.out.trans (HV1.out.mono (by omega : w.heap.size ≤ V.heap.size))⟩
end Go.Proofs.YtkphgdkjjklajaaGreatDoor

namespace Go.Proofs.YtkphgdkjjklajaaGreatDoor
open Go.RowKit Go.Shelf Go.Sort

/-- a net as it lies in memory -/
structure NetD where
  Ab : Option Addr
  nb : Nat
  cb : Nat
  Am : Option Addr
  nm : Nat
  cm : Nat
  b1 : Nat
  b2 : Nat
  bs : List Int
  ms : List Mv
def encNt (x : NetD) : List Value := [.slice x.Ab x.nb x.cb, .slice x.Am x.nm x.cm]
theorem encNt_len (x : NetD) : (encNt x).length = 2 := rfl
def NetD.ok (x : NetD) (W : World) : Prop := NetM W x.b1 x.b2 x.Ab x.Am x.nb x.cb x.nm x.cm x.bs x.ms
theorem Sl.atNt {w : World} {b n : Nat} {A : Option Addr} {l : List NetD} (h : Sl encNt 2 w b A n l) {k : Nat} (hk : k < l.length) :
    ∃ o, A = some ⟨b, o, none⟩ ∧ b < w.heap.size ∧ w.cell? ⟨b, o + k * 2, none⟩ = some (.slice l[k].Ab l[k].nb l[k].cb) ∧ w.cell? ⟨b, o + k * 2 + 1, none⟩ = some (.slice l[k].Am l[k].nm l[k].cm) := by
  obtain ⟨o, h1, h2, h3⟩ := h.at_ hk
  exact ⟨o, h1, h2, by simpa using h3 0 _ rfl, h3 1 _ rfl⟩
theorem NetD.old {x : NetD} {W W' : World} (h : x.ok W) (hb : Below W.heap.size W W') : x.ok W' := NetM.old h hb
theorem NetD.grown {x : NetD} {W W' : World} {row : Option Nat} (h : x.ok W) (hg : W.grownBy W' row) (h1 : 0 < x.nb → some x.b1 ≠ row) (h2 : 0 < x.nm → some x.b2 ≠ row) : x.ok W' :=
  ⟨h.b.grown hg h1, h.m.grown hg h2, h.cb, h.cm⟩
/-- ahead of the loops -/
structure TA (w : World) (x : NetD) (W : World) : Prop where
  low : Below w.heap.size w W
  hd : Blk W w.heap.size 25 #[.slice x.Ab x.nb x.cb, .slice x.Am x.nm x.cm]
theorem TA.step {w W W' : World} {x : NetD} {d : Nat} (h : TA w x W) (hg : W.grownBy W' (some d)) (hd : w.heap.size < d) : TA w x W' := ⟨Below.stepG hg h.low (Nat.le_refl _) (by omega), h.hd.grown hg (fun e => by injection e; omega)⟩
theorem TA.below {w W W' : World} {x : NetD} (h : TA w x W) (hb : Below W.heap.size W W') : TA w x W' := ⟨Below.step hb h.low (Nat.le_refl _), h.hd.below hb h.hd.lt⟩
theorem TA.alloc {w W : World} {x : NetD} (h : TA w x W) (o : Obj) : TA w x (W.alloc o) := h.below (by go_grown)
theorem TA.cells {w W : World} {x : NetD} (h : TA w x W) : W.cell? ⟨w.heap.size, 0, none⟩ = some (.slice x.Ab x.nb x.cb) ∧ W.cell? ⟨w.heap.size, 1, none⟩ = some (.slice x.Am x.nm x.cm) := ⟨h.hd.cell 0, h.hd.cell 1⟩
/-- the first list of texts, as it is made -/
def TG (w : World) (s : ByteArray) (W : World) (g : Nat) : Prop := Blk W g 9 #[.string s] ∧ w.heap.size ≤ g
theorem TG.below {w W W' : World} {s : ByteArray} {g : Nat} (h : TG w s W g) (hb : Below W.heap.size W W') : TG w s W' g := ⟨h.1.below hb h.1.lt, h.2⟩
theorem TG.grown {w W W' : World} {s : ByteArray} {g d : Nat} (h : TG w s W g) (hg : W.grownBy W' (some d)) (hd : g ≠ d) : TG w s W' g := ⟨h.1.grown hg (fun e => hd (by injection e)), h.2⟩
theorem TG.alloc {w W : World} {s : ByteArray} {g : Nat} (h : TG w s W g) (o : Obj) : TG w s (W.alloc o) g := ⟨h.1.alloc o, h.2⟩
theorem TA.texts {w W : World} {x : NetD} (h : TA w x W) (s : ByteArray) : TG w s (W.alloc (.cells #[.string s] 9)) W.heap.size := ⟨Blk.new _ _ _, h.low.size⟩
theorem TA.nets {w W : World} {x : NetD} (_ : TA w x W) (y : NetD) : Sl encNt 2 (W.alloc (.cells #[.slice x.Ab x.nb x.cb, .slice x.Am x.nm x.cm, .slice y.Ab y.nb y.cb, .slice y.Am y.nm y.cm] 25)) W.heap.size (some ⟨W.heap.size, 0, none⟩) 2 [x, y] := Sl.new encNt_len W [x, y] 25 _ rfl
/-- how things stand in the loops -/
structure TX (w : World) (g1 : Nat) (x0 x1 : NetD) (W : World) (v : Value) (m : Nat) (txs : List (List UInt8)) : Prop where
  low : Below w.heap.size w W
  bs : Sl encNt 2 W g1 (some ⟨g1, 0, none⟩) 2 [x0, x1]
  s0 : x0.ok W
  s1 : x1.ok W
  row : W.ownsRow w.heap.size 9 1 v m (txs.flatMap encT)
  len : m = txs.length
  ng : v.ownBlock ≠ some g1
  n0 : (0 < x0.nb → v.ownBlock ≠ some x0.b1) ∧ (0 < x0.nm → v.ownBlock ≠ some x0.b2)
  n1 : (0 < x1.nb → v.ownBlock ≠ some x1.b1) ∧ (0 < x1.nm → v.ownBlock ≠ some x1.b2)
theorem TX.new {w W : World} {g1 g2 : Nat} {x0 x1 : NetD} {s : ByteArray} (hM : TA w x0 W) (h0 : x0.ok w) (hA : Sl encNt 2 W g1 (some ⟨g1, 0, none⟩) 2 [x0, x1]) (hX : x1.ok W) (hG : TG w s W g2) (hag : g1 ≠ g2) (hbg : (0 < x1.nb → x1.b1 ≠ g2) ∧ (0 < x1.nm → x1.b2 ≠ g2)) :
    TX w g1 x0 x1 W (.slice (some ⟨g2, 0, none⟩) 1 1) 1 [s.data.toList] := by
  refine ⟨hM.low, hA, NetD.old h0 hM.low, hX, ?_, rfl, fun e => hag ?_, ⟨fun hn e => ?_, fun hn e => ?_⟩, ⟨fun hn e => hbg.1 hn ?_, fun hn e => hbg.2 hn ?_⟩⟩
  · have e : ([s.data.toList] : List (List UInt8)).flatMap encT = [.string s] := by
      rw [List.flatMap_cons, List.flatMap_nil, List.append_nil, encT, bytes_back]
    rw [e]
    exact ⟨rfl, .inr ⟨g2, 1, #[.string s], rfl, hG.2, hG.1, Nat.le_refl _, by unfold maxLen; omega, rfl, rfl⟩⟩
  · have e9 : some g2 = _ := e
    injection e9 with e9
    exact e9.symm
  · have e9 : some g2 = _ := e
    injection e9 with e9
    have h1 := h0.b.lt hn
    have h2 := hG.2
    omega
  · have e9 : some g2 = _ := e
    injection e9 with e9
    have h1 := h0.m.lt hn
    have h2 := hG.2
    omega
  · have e9 : some g2 = _ := e
    injection e9 with e9
    exact e9.symm
  · have e9 : some g2 = _ := e
    injection e9 with e9
    exact e9.symm
theorem TX.below {w W W' : World} {g1 m : Nat} {x0 x1 : NetD} {v : Value} {txs : List (List UInt8)} (h : TX w g1 x0 x1 W v m txs) (hb : Below W.heap.size W W') : TX w g1 x0 x1 W' v m txs :=
  ⟨Below.step hb h.low (Nat.le_refl _), h.bs.old hb, NetD.old h.s0 hb, NetD.old h.s1 hb, ownsRow_below h.row hb (Nat.le_refl _), h.len, h.ng, h.n0, h.n1⟩
theorem TX.app {w W W' : World} {g1 m g c : Nat} {x0 x1 : NetD} {v : Value} {txs : List (List UInt8)} {y : List UInt8} (h : TX w g1 x0 x1 W v m txs)
    (hrow : W'.ownsRow w.heap.size 9 1 (.slice (some ⟨g, 0, none⟩) (m + 1) c) (m + 1) (txs.flatMap encT ++ [.string ⟨y.toArray⟩])) (hg : W.grownBy W' v.ownBlock)
    (hat : v.ownBlock = some g ∨ W.heap.size ≤ g) : TX w g1 x0 x1 W' (.slice (some ⟨g, 0, none⟩) (m + 1) c) (m + 1) (txs ++ [y]) := by
  have far : ∀ k, k < W.heap.size → v.ownBlock ≠ some k → Value.ownBlock (.slice (some ⟨g, 0, none⟩) (m + 1) c) ≠ some k := fun k hk hn e => by
    rcases hat with e2 | e2
    · exact hn (e2.trans e)
    · have e9 : some g = _ := e
      injection e9 with e9
      omega
  refine ⟨below_own h.row hg h.low (Nat.le_refl _) (Nat.le_refl _), h.bs.grown hg (fun _ e => h.ng e.symm), NetD.grown h.s0 hg (fun hn e => h.n0.1 hn e.symm) (fun hn e => h.n0.2 hn e.symm), NetD.grown h.s1 hg (fun hn e => h.n1.1 hn e.symm) (fun hn e => h.n1.2 hn e.symm), ?_, ?_, ?_, ⟨fun hn => ?_, fun hn => ?_⟩, ⟨fun hn => ?_, fun hn => ?_⟩⟩
  · rw [List.flatMap_append]
    simpa [encT] using hrow
  · rw [List.length_append, List.length_singleton, h.len]
  · exact far _ (h.bs.lt (by omega)) h.ng
  · exact far _ (h.s0.b.lt hn) (h.n0.1 hn)
  · exact far _ (h.s0.m.lt hn) (h.n0.2 hn)
  · exact far _ (h.s1.b.lt hn) (h.n1.1 hn)
  · exact far _ (h.s1.m.lt hn) (h.n1.2 hn)

theorem tail_app {k : Nat} {txs : List (List UInt8)} {y : List UInt8} (hl : k + 1 = txs.length) (h : ∀ t ∈ txs.drop 1, t.length ≤ 1500) (hy : y.length ≤ 1500) : ∀ t ∈ (txs ++ [y]).drop 1, t.length ≤ 1500 := by
  intro t ht
  rw [List.drop_append_of_le_length (by omega)] at ht
  rcases List.mem_append.1 ht with h1 | h1
  · exact h t h1
  · rw [List.mem_singleton.1 h1]; exact hy
theorem TA.start (w : World) (x : NetD) : TA w x (w.alloc (.cells #[.slice x.Ab x.nb x.cb, .slice x.Am x.nm x.cm] 25)) := ⟨(Below.refl _ w).alloc (Nat.le_refl _) _, Blk.new _ _ _⟩

set_option maxRecDepth 100000 in
set_option maxHeartbeats 4000000 in
theorem traceTrails_any (Ab Am : Option Addr) (nb cb nm cm b1 b2 : Nat) (bs : List Int) (ms : List Mv) (s : ByteArray) (A9 : Option Addr) (n9 c9 : Nat) (at_ how : Int) (by_ : UInt8) (w : World)
    (hM : NetM w b1 b2 Ab Am nb cb nm cm bs ms) (hN : Nums w A9 n9) (ha : I64 at_) (hh : I64 how) (hT : TEnv w) :
    Calls Tryz.prog 3 #[netV Ab Am nb cb nm cm, .string s, .slice A9 n9 c9, .int .i64 at_, .int .i64 how, .int .u8 by_.toNat] w fun e w' => e = .returned (.bool true) ∧ Below w.heap.size w w' := by
  obtain ⟨b9, l9, hl9, hw9, hn9⟩ := hN
  obtain ⟨x0, hx0⟩ : ∃ x0 : NetD, x0 = ⟨Ab, nb, cb, Am, nm, cm, b1, b2, bs, ms⟩ := ⟨_, rfl⟩
  have HW9 := Lib.hid hw9
  have HT := Lib.hid hT
  have H0 := Lib.hid (show TA w x0 (w.alloc (.cells #[.slice Ab nb cb, .slice Am nm cm] 25)) by rw [hx0]; exact TA.start w ⟨Ab, nb, cb, Am, nm, cm, b1, b2, bs, ms⟩)
  have HL := Lib.hid (show x0.ok w by rw [hx0]; exact hM)
  have HL9 := Lib.hid hl9
  have HX := Lib.hid hx0
  have c0 : (w.alloc (.cells #[.slice Ab nb cb, .slice Am nm cm] 25)).cell? ⟨w.heap.size, 0, none⟩ = some (.slice Ab nb cb) := (Blk.new w 25 #[.slice Ab nb cb, .slice Am nm cm]).cell 0
  have c1 : (w.alloc (.cells #[.slice Ab nb cb, .slice Am nm cm] 25)).cell? ⟨w.heap.size, 1, none⟩ = some (.slice Am nm cm) := (Blk.new w 25 #[.slice Ab nb cb, .slice Am nm cm]).cell 1
  clear hl9 hw9 hT hx0 hM
  go_enter Tryz.func3, Tryz.ntmps3
  go_upto_region 1 with fail
  go_cut [38] from 27 to 38 (fun p wx => p = .bool ((decide (20 < nb) || decide (30 < nm)) || (decide (700 < s.size) && decide (s.size ≤ 1500))) ∧ TA w x0 wx)
  case first =>
    go_wp2_with fail
    refine (vast_any nb cb nm cm Ab Am _).mono ?_
    rintro e w1 ⟨rfl, hB1⟩
    have H1 := Lib.hid (H0.out.below hB1)
    clear hB1 c0 c1
    obtain ⟨vv, hvv⟩ : ∃ v : Bool, (decide (20 < nb) || decide (30 < nm)) = v := ⟨_, rfl⟩
    rw [hvv]
    have HVV := Lib.hid hvv
    clear hvv
    cases vv
    · by_cases h15 : 700 < s.size
      · have hb15 : decide ((700 : Int) < (s.size : Int)) = true := by simp; omega
        by_cases h30 : s.size ≤ 1500
        · have hb30 : decide ((s.size : Int) ≤ (1500 : Int)) = true := by simp; omega
          go_wp2_with fail
          go_meet
          exact ⟨by rw [HVV.out]; simp [h15, h30], H1.out⟩
        · have hb30 : decide ((s.size : Int) ≤ (1500 : Int)) = false := by simp; omega
          go_wp2_with fail
          go_meet
          exact ⟨by rw [HVV.out]; simp [h15, h30], H1.out⟩
      · have hb15 : decide ((700 : Int) < (s.size : Int)) = false := by simp; omega
        go_wp2_with fail
        go_meet
        exact ⟨by rw [HVV.out]; simp [h15], H1.out⟩
    · go_wp2_with fail
      go_meet
      exact ⟨by rw [HVV.out]; rfl, H1.out⟩
  case rest =>
    obtain ⟨rfl, hTA⟩ := hcut
    have HA := Lib.hid hTA
    clear hTA c0 c1
    obtain ⟨V, hV⟩ : ∃ V : World, V = wc := ⟨_, rfl⟩
    rw [← hV] at HA ⊢
    clear hV
    cases hB : ((decide (20 < nb) || decide (30 < nm)) || (decide (700 < s.size) && decide (s.size ≤ 1500)))
    · have hn60 : nb ≤ 20 ∧ nm ≤ 30 := by
        simp only [Bool.or_eq_false_iff, decide_eq_false_iff_not] at hB
        omega
      clear hB
      go_upto_region 3 with fail
      go_cut [13, 14] from 40 to 46 (fun p q wx => ∃ (g1 g2 : Nat) (x1 : NetD), p = .slice (some ⟨g1, 0, none⟩) 2 2 ∧ q = .slice (some ⟨g2, 0, none⟩) 1 1 ∧ x1.nb ≤ 20 ∧ x1.nm ≤ 30 ∧ TX w g1 x0 x1 wx (.slice (some ⟨g2, 0, none⟩) 1 1) 1 [s.data.toList])
      case first =>
        have hM : TA w x0 V.drew := HA.out.below (Below.refl _ V).drew
        have hzv : w.heap.size < V.heap.size := HA.out.hd.lt
        refine wp_region_K2 [0] [] (fun W => W.cell? ⟨w.heap.size, 0, none⟩ = some (.slice x0.Ab x0.nb x0.cb) ∧ W.cell? ⟨w.heap.size, 1, none⟩ = some (.slice x0.Am x0.nm x0.cm)) (fun _ => True) rfl (by kernel_rfl) (hM.cells) (trivial) (fun hF0 hG0 => ?_)
        (refine wpAnyK_loadL Keep2.refl (i := 0) (v := ?_) rfl (Keep2.left (i := 0) (by rfl)) (by kernel_rfl) (by kernel_rfl) (by kernel_rfl) (fun _ _ _ h => h) hF0 (by rfl) ?_ ?_; rotate_left 1; focus (intro w hFw; (try dsimp only at hFw); go_split_ands; go_simp; try with_reducible rfl))
        try simp only [Act.put, List.setIfInBounds_toArray, List.set_cons_zero, List.set_cons_succ]
        (refine wpAnyK_takeL Keep2.refl (i := 1) (v := ?_) rfl (by kernel_rfl) (by kernel_rfl) (by kernel_rfl) (fun _ _ _ h => h) (by rfl) ?_ ?_; rotate_left 1; focus (intro w; go_simp; try with_reducible rfl))
        try simp only [Act.put, List.setIfInBounds_toArray, List.set_cons_zero, List.set_cons_succ]
        (refine wpAnyK_takeL Keep2.refl (i := 5) (v := ?_) rfl (by kernel_rfl) (by kernel_rfl) (by kernel_rfl) (fun _ _ _ h => h) (by rfl) ?_ ?_; rotate_left 1; focus (intro w; go_simp; try with_reducible rfl))
        try simp only [Act.put, List.setIfInBounds_toArray, List.set_cons_zero, List.set_cons_succ]
        refine wpAnyK_all (rs := [2, 6]) (by kernel_rfl) (by simp) ?_
        refine List.forall_mem_cons.2 ⟨?_, List.forall_mem_cons.2 ⟨?_, fun _ h => absurd h List.not_mem_nil⟩⟩
        · refine wpOp_of rfl (by rfl) (fun K hK => ?_)
          go_simp
          (refine (dieOf_any b9 n9 c9 A9 l9 _ (HL9.out.old hM.low) hn9 HW9.out).mono ?_; rintro e w1 ⟨d, hd, rfl, hdie, hB1⟩; (try have hgd := Nat.ne_of_lt (Nat.lt_of_lt_of_le hG.1.lt hd)); have hwd : w.heap.size < d := Nat.lt_of_lt_of_le hM.hd.lt hd; (try replace hG := hG.below hB1); replace hM := hM.below hB1; clear hB1 hd)
          (refine hK _ _ ⟨⟨fun _ _ => hM.cells, fun h => absurd h (by decide)⟩, ?_⟩; clear hK K)
          (refine wpAnyK_with (F := fun W => W.cell? ⟨w.heap.size, 0, none⟩ = some (.slice x0.Ab x0.nb x0.cb) ∧ W.cell? ⟨w.heap.size, 1, none⟩ = some (.slice x0.Am x0.nm x0.cm)) (hM.cells) (fun hF1 => ?_); clear hF0)
          try simp only [Act.put, List.setIfInBounds_toArray, List.set_cons_zero, List.set_cons_succ]
          refine wpAnyK_all (rs := [3, 6]) (by kernel_rfl) (by simp) ?_
          refine List.forall_mem_cons.2 ⟨?_, List.forall_mem_cons.2 ⟨?_, fun _ h => absurd h List.not_mem_nil⟩⟩
          · refine wpOp_of rfl (by rfl) (fun K hK => ?_)
            go_simp
            (refine (netOf_any d 5 6 900 _ hdie (by omega) (by omega) (by omega) (by omega) (by omega)).mono ?_; rintro e w2 ⟨bs1, ms1, b3, b4, A1, A2, nb1, cb1, nm1, cm1, hNI1, hnb1, hnm1, rfl, hNM1, hb3, hb4, hd2, hgr2⟩; (have hX : NetD.ok ⟨A1, nb1, cb1, A2, nm1, cm1, b3, b4, bs1, ms1⟩ w2 := hNM1); (try have hbg := And.intro (fun _ : 0 < nb1 => Nat.ne_of_gt (Nat.lt_of_lt_of_le hG.1.lt hb3)) (fun _ : 0 < nm1 => Nat.ne_of_gt (Nat.lt_of_lt_of_le hG.1.lt hb4))); (try replace hG := hG.grown hgr2 hgd); replace hM := hM.step hgr2 hwd; clear hgr2 hNM1 hb3 hb4 hNI1)
            (refine hK _ _ ⟨⟨fun _ _ => hM.cells, fun h => absurd h (by decide)⟩, ?_⟩; clear hK K)
            (refine wpAnyK_with (F := fun W => W.cell? ⟨w.heap.size, 0, none⟩ = some (.slice x0.Ab x0.nb x0.cb) ∧ W.cell? ⟨w.heap.size, 1, none⟩ = some (.slice x0.Am x0.nm x0.cm)) (hM.cells) (fun hF2 => ?_); clear hF1)
            try simp only [Act.put, List.setIfInBounds_toArray, List.set_cons_zero, List.set_cons_succ]
            refine wpAnyK_all (rs := [4, 6]) (by kernel_rfl) (by simp) ?_
            refine List.forall_mem_cons.2 ⟨?_, List.forall_mem_cons.2 ⟨?_, fun _ h => absurd h List.not_mem_nil⟩⟩
            · refine wpOp_of rfl (by rfl) (fun K hK => ?_)
              go_simp
              (have hA := hM.nets ⟨A1, nb1, cb1, A2, nm1, cm1, b3, b4, bs1, ms1⟩; (try have hag := Nat.ne_of_gt hG.1.lt); (try simp only [World.size_drew, World.size_alloc] at hA); (try simp only [World.size_drew, World.size_alloc] at hag); (try replace hG := hG.alloc (.cells #[.slice x0.Ab x0.nb x0.cb, .slice x0.Am x0.nm x0.cm, .slice A1 nb1 cb1, .slice A2 nm1 cm1] 25)); replace hX := NetD.old hX ((Below.refl _ _).alloc (Nat.le_refl _) (.cells #[.slice x0.Ab x0.nb x0.cb, .slice x0.Am x0.nm x0.cm, .slice A1 nb1 cb1, .slice A2 nm1 cm1] 25)); replace hM := hM.alloc (.cells #[.slice x0.Ab x0.nb x0.cb, .slice x0.Am x0.nm x0.cm, .slice A1 nb1 cb1, .slice A2 nm1 cm1] 25))
              (refine hK _ _ ⟨Keep2.no (by kernel_rfl) (by kernel_rfl), ?_⟩; clear hK K)
              try simp only [Act.put, List.setIfInBounds_toArray, List.set_cons_zero, List.set_cons_succ]
              (refine wpAnyK_takeL Keep2.refl (i := 7) (v := ?_) rfl (by kernel_rfl) (by kernel_rfl) (by kernel_rfl) (fun _ _ _ h => h) (by rfl) ?_ ?_; rotate_left 1; focus (intro w; go_simp; try with_reducible rfl))
              try simp only [Act.put, List.setIfInBounds_toArray, List.set_cons_zero, List.set_cons_succ]
              refine wpAnyK_step (i := 6) rfl (by kernel_rfl) (by rfl) (fun K hK => ?_)
              go_simp
              (have hG := hM.texts s; (try have hgd := (Nat.ne_of_gt hd2.lt)); (try have hgd := (Nat.ne_of_gt hdie.lt)); (try have hbg := And.intro (fun h : 0 < nb1 => Nat.ne_of_lt (hX.b.lt h)) (fun h : 0 < nm1 => Nat.ne_of_lt (hX.m.lt h))); (try have hag := Nat.ne_of_lt (hA.lt (by omega))); (try simp only [World.size_drew, World.size_alloc] at hG); (try simp only [World.size_drew, World.size_alloc] at hag); (try simp only [World.size_drew, World.size_alloc] at hbg); (try replace hA := hA.alloc (.cells #[.string s] 9)); (try replace hX := NetD.old hX ((Below.refl _ _).alloc (Nat.le_refl _) (.cells #[.string s] 9))); (try replace hdie := hdie.alloc (.cells #[.string s] 9)); replace hM := hM.alloc (.cells #[.string s] 9))
              (refine hK _ _ (⟨fun _ _ => hM.cells, fun h => absurd h (by decide)⟩) ?_; clear hK K)
              (refine wpAnyK_with (F := fun W => W.cell? ⟨w.heap.size, 0, none⟩ = some (.slice x0.Ab x0.nb x0.cb) ∧ W.cell? ⟨w.heap.size, 1, none⟩ = some (.slice x0.Am x0.nm x0.cm)) (hM.cells) (fun hF4 => ?_); clear hF2)
              try simp only [Act.put, List.setIfInBounds_toArray, List.set_cons_zero, List.set_cons_succ]
              (refine wpAnyK_takeL Keep2.refl (i := 8) (v := ?_) rfl (by kernel_rfl) (by kernel_rfl) (by kernel_rfl) (fun _ _ _ h => h) (by rfl) ?_ ?_; rotate_left 1; focus (intro w; go_simp; try with_reducible rfl))
              try simp only [Act.put, List.setIfInBounds_toArray, List.set_cons_zero, List.set_cons_succ]
              refine wpAnyK_done (by kernel_rfl) ?_ _
              go_wp2_with fail
              go_meet
              exact ⟨_, _, ⟨A1, nb1, cb1, A2, nm1, cm1, b3, b4, bs1, ms1⟩, rfl, rfl, Nat.le_trans hnb1 (by omega), Nat.le_trans hnm1 (by omega), TX.new hM HL.out hA hX hG hag hbg⟩
            · refine wpOp_of rfl (by rfl) (fun K hK => ?_)
              go_simp
              (have hG := hM.texts s; (try have hgd := (Nat.ne_of_gt hd2.lt)); (try have hgd := (Nat.ne_of_gt hdie.lt)); (try have hbg := And.intro (fun h : 0 < nb1 => Nat.ne_of_lt (hX.b.lt h)) (fun h : 0 < nm1 => Nat.ne_of_lt (hX.m.lt h))); (try have hag := Nat.ne_of_lt (hA.lt (by omega))); (try simp only [World.size_drew, World.size_alloc] at hG); (try simp only [World.size_drew, World.size_alloc] at hag); (try simp only [World.size_drew, World.size_alloc] at hbg); (try replace hA := hA.alloc (.cells #[.string s] 9)); (try replace hX := NetD.old hX ((Below.refl _ _).alloc (Nat.le_refl _) (.cells #[.string s] 9))); (try replace hdie := hdie.alloc (.cells #[.string s] 9)); replace hM := hM.alloc (.cells #[.string s] 9))
              (refine hK _ _ ⟨⟨fun _ _ => hM.cells, fun h => absurd h (by decide)⟩, ?_⟩; clear hK K)
              (refine wpAnyK_with (F := fun W => W.cell? ⟨w.heap.size, 0, none⟩ = some (.slice x0.Ab x0.nb x0.cb) ∧ W.cell? ⟨w.heap.size, 1, none⟩ = some (.slice x0.Am x0.nm x0.cm)) (hM.cells) (fun hF5 => ?_); clear hF2)
              try simp only [Act.put, List.setIfInBounds_toArray, List.set_cons_zero, List.set_cons_succ]
              refine wpAnyK_step (i := 4) rfl (by kernel_rfl) (by rfl) (fun K hK => ?_)
              go_simp
              (have hA := hM.nets ⟨A1, nb1, cb1, A2, nm1, cm1, b3, b4, bs1, ms1⟩; (try have hag := Nat.ne_of_gt hG.1.lt); (try simp only [World.size_drew, World.size_alloc] at hA); (try simp only [World.size_drew, World.size_alloc] at hag); (try replace hG := hG.alloc (.cells #[.slice x0.Ab x0.nb x0.cb, .slice x0.Am x0.nm x0.cm, .slice A1 nb1 cb1, .slice A2 nm1 cm1] 25)); replace hX := NetD.old hX ((Below.refl _ _).alloc (Nat.le_refl _) (.cells #[.slice x0.Ab x0.nb x0.cb, .slice x0.Am x0.nm x0.cm, .slice A1 nb1 cb1, .slice A2 nm1 cm1] 25)); replace hM := hM.alloc (.cells #[.slice x0.Ab x0.nb x0.cb, .slice x0.Am x0.nm x0.cm, .slice A1 nb1 cb1, .slice A2 nm1 cm1] 25))
              (refine hK _ _ (Keep2.no (by kernel_rfl) (by kernel_rfl)) ?_; clear hK K)
              try simp only [Act.put, List.setIfInBounds_toArray, List.set_cons_zero, List.set_cons_succ]
              (refine wpAnyK_takeL Keep2.refl (i := 7) (v := ?_) rfl (by kernel_rfl) (by kernel_rfl) (by kernel_rfl) (fun _ _ _ h => h) (by rfl) ?_ ?_; rotate_left 1; focus (intro w; go_simp; try with_reducible rfl))
              try simp only [Act.put, List.setIfInBounds_toArray, List.set_cons_zero, List.set_cons_succ]
              (refine wpAnyK_takeL Keep2.refl (i := 8) (v := ?_) rfl (by kernel_rfl) (by kernel_rfl) (by kernel_rfl) (fun _ _ _ h => h) (by rfl) ?_ ?_; rotate_left 1; focus (intro w; go_simp; try with_reducible rfl))
              try simp only [Act.put, List.setIfInBounds_toArray, List.set_cons_zero, List.set_cons_succ]
              refine wpAnyK_done (by kernel_rfl) ?_ _
              go_wp2_with fail
              go_meet
              exact ⟨_, _, ⟨A1, nb1, cb1, A2, nm1, cm1, b3, b4, bs1, ms1⟩, rfl, rfl, Nat.le_trans hnb1 (by omega), Nat.le_trans hnm1 (by omega), TX.new hM HL.out hA hX hG hag hbg⟩
          · refine wpOp_of rfl (by rfl) (fun K hK => ?_)
            go_simp
            (have hG := hM.texts s; (try have hgd := (Nat.ne_of_gt hd2.lt)); (try have hgd := (Nat.ne_of_gt hdie.lt)); (try have hbg := And.intro (fun h : 0 < nb1 => Nat.ne_of_lt (hX.b.lt h)) (fun h : 0 < nm1 => Nat.ne_of_lt (hX.m.lt h))); (try have hag := Nat.ne_of_lt (hA.lt (by omega))); (try simp only [World.size_drew, World.size_alloc] at hG); (try simp only [World.size_drew, World.size_alloc] at hag); (try simp only [World.size_drew, World.size_alloc] at hbg); (try replace hA := hA.alloc (.cells #[.string s] 9)); (try replace hX := NetD.old hX ((Below.refl _ _).alloc (Nat.le_refl _) (.cells #[.string s] 9))); (try replace hdie := hdie.alloc (.cells #[.string s] 9)); replace hM := hM.alloc (.cells #[.string s] 9))
            (refine hK _ _ ⟨⟨fun _ _ => hM.cells, fun h => absurd h (by decide)⟩, ?_⟩; clear hK K)
            (refine wpAnyK_with (F := fun W => W.cell? ⟨w.heap.size, 0, none⟩ = some (.slice x0.Ab x0.nb x0.cb) ∧ W.cell? ⟨w.heap.size, 1, none⟩ = some (.slice x0.Am x0.nm x0.cm)) (hM.cells) (fun hF7 => ?_); clear hF1)
            try simp only [Act.put, List.setIfInBounds_toArray, List.set_cons_zero, List.set_cons_succ]
            refine wpAnyK_step (i := 3) rfl (by kernel_rfl) (by rfl) (fun K hK => ?_)
            go_simp
            (refine (netOf_any d 5 6 900 _ hdie (by omega) (by omega) (by omega) (by omega) (by omega)).mono ?_; rintro e w2 ⟨bs1, ms1, b3, b4, A1, A2, nb1, cb1, nm1, cm1, hNI1, hnb1, hnm1, rfl, hNM1, hb3, hb4, hd2, hgr2⟩; (have hX : NetD.ok ⟨A1, nb1, cb1, A2, nm1, cm1, b3, b4, bs1, ms1⟩ w2 := hNM1); (try have hbg := And.intro (fun _ : 0 < nb1 => Nat.ne_of_gt (Nat.lt_of_lt_of_le hG.1.lt hb3)) (fun _ : 0 < nm1 => Nat.ne_of_gt (Nat.lt_of_lt_of_le hG.1.lt hb4))); (try replace hG := hG.grown hgr2 hgd); replace hM := hM.step hgr2 hwd; clear hgr2 hNM1 hb3 hb4 hNI1)
            (refine hK _ _ (⟨fun _ _ => hM.cells, fun h => absurd h (by decide)⟩) ?_; clear hK K)
            (refine wpAnyK_with (F := fun W => W.cell? ⟨w.heap.size, 0, none⟩ = some (.slice x0.Ab x0.nb x0.cb) ∧ W.cell? ⟨w.heap.size, 1, none⟩ = some (.slice x0.Am x0.nm x0.cm)) (hM.cells) (fun hF8 => ?_); clear hF7)
            try simp only [Act.put, List.setIfInBounds_toArray, List.set_cons_zero, List.set_cons_succ]
            refine wpAnyK_step (i := 4) rfl (by kernel_rfl) (by rfl) (fun K hK => ?_)
            go_simp
            (have hA := hM.nets ⟨A1, nb1, cb1, A2, nm1, cm1, b3, b4, bs1, ms1⟩; (try have hag := Nat.ne_of_gt hG.1.lt); (try simp only [World.size_drew, World.size_alloc] at hA); (try simp only [World.size_drew, World.size_alloc] at hag); (try replace hG := hG.alloc (.cells #[.slice x0.Ab x0.nb x0.cb, .slice x0.Am x0.nm x0.cm, .slice A1 nb1 cb1, .slice A2 nm1 cm1] 25)); replace hX := NetD.old hX ((Below.refl _ _).alloc (Nat.le_refl _) (.cells #[.slice x0.Ab x0.nb x0.cb, .slice x0.Am x0.nm x0.cm, .slice A1 nb1 cb1, .slice A2 nm1 cm1] 25)); replace hM := hM.alloc (.cells #[.slice x0.Ab x0.nb x0.cb, .slice x0.Am x0.nm x0.cm, .slice A1 nb1 cb1, .slice A2 nm1 cm1] 25))
            (refine hK _ _ (Keep2.no (by kernel_rfl) (by kernel_rfl)) ?_; clear hK K)
            try simp only [Act.put, List.setIfInBounds_toArray, List.set_cons_zero, List.set_cons_succ]
            (refine wpAnyK_takeL Keep2.refl (i := 7) (v := ?_) rfl (by kernel_rfl) (by kernel_rfl) (by kernel_rfl) (fun _ _ _ h => h) (by rfl) ?_ ?_; rotate_left 1; focus (intro w; go_simp; try with_reducible rfl))
            try simp only [Act.put, List.setIfInBounds_toArray, List.set_cons_zero, List.set_cons_succ]
            (refine wpAnyK_takeL Keep2.refl (i := 8) (v := ?_) rfl (by kernel_rfl) (by kernel_rfl) (by kernel_rfl) (fun _ _ _ h => h) (by rfl) ?_ ?_; rotate_left 1; focus (intro w; go_simp; try with_reducible rfl))
            try simp only [Act.put, List.setIfInBounds_toArray, List.set_cons_zero, List.set_cons_succ]
            refine wpAnyK_done (by kernel_rfl) ?_ _
            go_wp2_with fail
            go_meet
            exact ⟨_, _, ⟨A1, nb1, cb1, A2, nm1, cm1, b3, b4, bs1, ms1⟩, rfl, rfl, Nat.le_trans hnb1 (by omega), Nat.le_trans hnm1 (by omega), TX.new hM HL.out hA hX hG hag hbg⟩
        · refine wpOp_of rfl (by rfl) (fun K hK => ?_)
          go_simp
          (have hG := hM.texts s; (try have hgd := (Nat.ne_of_gt hd2.lt)); (try have hgd := (Nat.ne_of_gt hdie.lt)); (try have hbg := And.intro (fun h : 0 < nb1 => Nat.ne_of_lt (hX.b.lt h)) (fun h : 0 < nm1 => Nat.ne_of_lt (hX.m.lt h))); (try have hag := Nat.ne_of_lt (hA.lt (by omega))); (try simp only [World.size_drew, World.size_alloc] at hG); (try simp only [World.size_drew, World.size_alloc] at hag); (try simp only [World.size_drew, World.size_alloc] at hbg); (try replace hA := hA.alloc (.cells #[.string s] 9)); (try replace hX := NetD.old hX ((Below.refl _ _).alloc (Nat.le_refl _) (.cells #[.string s] 9))); (try replace hdie := hdie.alloc (.cells #[.string s] 9)); replace hM := hM.alloc (.cells #[.string s] 9))
          (refine hK _ _ ⟨⟨fun _ _ => hM.cells, fun h => absurd h (by decide)⟩, ?_⟩; clear hK K)
          (refine wpAnyK_with (F := fun W => W.cell? ⟨w.heap.size, 0, none⟩ = some (.slice x0.Ab x0.nb x0.cb) ∧ W.cell? ⟨w.heap.size, 1, none⟩ = some (.slice x0.Am x0.nm x0.cm)) (hM.cells) (fun hF10 => ?_); clear hF0)
          try simp only [Act.put, List.setIfInBounds_toArray, List.set_cons_zero, List.set_cons_succ]
          refine wpAnyK_step (i := 2) rfl (by kernel_rfl) (by rfl) (fun K hK => ?_)
          go_simp
          (refine (dieOf_any b9 n9 c9 A9 l9 _ (HL9.out.old hM.low) hn9 HW9.out).mono ?_; rintro e w1 ⟨d, hd, rfl, hdie, hB1⟩; (try have hgd := Nat.ne_of_lt (Nat.lt_of_lt_of_le hG.1.lt hd)); have hwd : w.heap.size < d := Nat.lt_of_lt_of_le hM.hd.lt hd; (try replace hG := hG.below hB1); replace hM := hM.below hB1; clear hB1 hd)
          (refine hK _ _ (⟨fun _ _ => hM.cells, fun h => absurd h (by decide)⟩) ?_; clear hK K)
          (refine wpAnyK_with (F := fun W => W.cell? ⟨w.heap.size, 0, none⟩ = some (.slice x0.Ab x0.nb x0.cb) ∧ W.cell? ⟨w.heap.size, 1, none⟩ = some (.slice x0.Am x0.nm x0.cm)) (hM.cells) (fun hF11 => ?_); clear hF10)
          try simp only [Act.put, List.setIfInBounds_toArray, List.set_cons_zero, List.set_cons_succ]
          refine wpAnyK_step (i := 3) rfl (by kernel_rfl) (by rfl) (fun K hK => ?_)
          go_simp
          (refine (netOf_any d 5 6 900 _ hdie (by omega) (by omega) (by omega) (by omega) (by omega)).mono ?_; rintro e w2 ⟨bs1, ms1, b3, b4, A1, A2, nb1, cb1, nm1, cm1, hNI1, hnb1, hnm1, rfl, hNM1, hb3, hb4, hd2, hgr2⟩; (have hX : NetD.ok ⟨A1, nb1, cb1, A2, nm1, cm1, b3, b4, bs1, ms1⟩ w2 := hNM1); (try have hbg := And.intro (fun _ : 0 < nb1 => Nat.ne_of_gt (Nat.lt_of_lt_of_le hG.1.lt hb3)) (fun _ : 0 < nm1 => Nat.ne_of_gt (Nat.lt_of_lt_of_le hG.1.lt hb4))); (try replace hG := hG.grown hgr2 hgd); replace hM := hM.step hgr2 hwd; clear hgr2 hNM1 hb3 hb4 hNI1)
          (refine hK _ _ (⟨fun _ _ => hM.cells, fun h => absurd h (by decide)⟩) ?_; clear hK K)
          (refine wpAnyK_with (F := fun W => W.cell? ⟨w.heap.size, 0, none⟩ = some (.slice x0.Ab x0.nb x0.cb) ∧ W.cell? ⟨w.heap.size, 1, none⟩ = some (.slice x0.Am x0.nm x0.cm)) (hM.cells) (fun hF12 => ?_); clear hF11)
          try simp only [Act.put, List.setIfInBounds_toArray, List.set_cons_zero, List.set_cons_succ]
          refine wpAnyK_step (i := 4) rfl (by kernel_rfl) (by rfl) (fun K hK => ?_)
          go_simp
          (have hA := hM.nets ⟨A1, nb1, cb1, A2, nm1, cm1, b3, b4, bs1, ms1⟩; (try have hag := Nat.ne_of_gt hG.1.lt); (try simp only [World.size_drew, World.size_alloc] at hA); (try simp only [World.size_drew, World.size_alloc] at hag); (try replace hG := hG.alloc (.cells #[.slice x0.Ab x0.nb x0.cb, .slice x0.Am x0.nm x0.cm, .slice A1 nb1 cb1, .slice A2 nm1 cm1] 25)); replace hX := NetD.old hX ((Below.refl _ _).alloc (Nat.le_refl _) (.cells #[.slice x0.Ab x0.nb x0.cb, .slice x0.Am x0.nm x0.cm, .slice A1 nb1 cb1, .slice A2 nm1 cm1] 25)); replace hM := hM.alloc (.cells #[.slice x0.Ab x0.nb x0.cb, .slice x0.Am x0.nm x0.cm, .slice A1 nb1 cb1, .slice A2 nm1 cm1] 25))
          (refine hK _ _ (Keep2.no (by kernel_rfl) (by kernel_rfl)) ?_; clear hK K)
          try simp only [Act.put, List.setIfInBounds_toArray, List.set_cons_zero, List.set_cons_succ]
          (refine wpAnyK_takeL Keep2.refl (i := 7) (v := ?_) rfl (by kernel_rfl) (by kernel_rfl) (by kernel_rfl) (fun _ _ _ h => h) (by rfl) ?_ ?_; rotate_left 1; focus (intro w; go_simp; try with_reducible rfl))
          try simp only [Act.put, List.setIfInBounds_toArray, List.set_cons_zero, List.set_cons_succ]
          (refine wpAnyK_takeL Keep2.refl (i := 8) (v := ?_) rfl (by kernel_rfl) (by kernel_rfl) (by kernel_rfl) (fun _ _ _ h => h) (by rfl) ?_ ?_; rotate_left 1; focus (intro w; go_simp; try with_reducible rfl))
          try simp only [Act.put, List.setIfInBounds_toArray, List.set_cons_zero, List.set_cons_succ]
          refine wpAnyK_done (by kernel_rfl) ?_ _
          go_wp2_with fail
          go_meet
          exact ⟨_, _, ⟨A1, nb1, cb1, A2, nm1, cm1, b3, b4, bs1, ms1⟩, rfl, rfl, Nat.le_trans hnb1 (by omega), Nat.le_trans hnm1 (by omega), TX.new hM HL.out hA hX hG hag hbg⟩
      case rest =>
        obtain ⟨g1, g2, x1, rfl, rfl, hx1, hx2, hTX⟩ := hcut
        have HTX := Lib.hid hTX
        have HX1 := Lib.hid (And.intro hx1 hx2)
        have HX0 := Lib.hid (show x0.nb ≤ 20 ∧ x0.nm ≤ 30 by rw [HX.out]; exact hn60)
        have HTL := Lib.hid (show ∀ y ∈ ([s.data.toList] : List (List UInt8)).drop 1, y.length ≤ 1500 by simp)
        clear hTX hx1 hx2 hn60
        generalize [s.data.toList] = txs0 at HTX HTL
        obtain ⟨i0, hi, iz0, iz1, iz2⟩ := info_parts info_string
        go_wp2_with fail
        go_loopw [14, 15] (fun v i wr => ∃ (k g c' : Nat) (txs : List (List UInt8)), k ≤ 2 ∧ i = .int .i64 k ∧ v = .slice (some ⟨g, 0, none⟩) (k + 1) c' ∧ (∀ y ∈ txs.drop 1, y.length ≤ 1500) ∧ TX w g1 x0 x1 wr (.slice (some ⟨g, 0, none⟩) (k + 1) c') (k + 1) txs) (fun _ i _ => 2 - (intOf i).toNat)
        case atStart => exact ⟨0, _, _, _, by omega, rfl, rfl, HTL.out, HTX.out⟩
        case round =>
          obtain ⟨k, g, c', txs, hk, rfl, rfl, htl, hTX⟩ := hrel
          have HT1 := Lib.hid hTX
          have HTL1 := Lib.hid htl
          clear hTX htl
          by_cases hlt : k < 2
          · have hkb : k < [x0, x1].length := hlt
            obtain ⟨o, ho, _, a0, a1⟩ := HT1.out.bs.atNt hkb
            obtain rfl : 0 = o := by injection ho with ho; injection ho
            simp only [Nat.zero_add] at a0 a1
            have hx : [x0, x1][k].ok wr ∧ [x0, x1][k].nb ≤ 20 ∧ [x0, x1][k].nm ≤ 30 := by
              match k, hkb with
              | 0, _ => exact ⟨HT1.out.s0, HX0.out⟩
              | 1, _ => exact ⟨HT1.out.s1, HX1.out⟩
            generalize [x0, x1][k] = x at a0 a1 hx
            have HS := Lib.hid hx.1
            have hxn := hx.2.1
            have hxm := hx.2.2
            have i0' : (0 : Int) ≤ (k : Int) := by omega
            have i1 : (k : Int) < 2 := by omega
            clear hx hkb ho
            go_wp2_with fail
            refine (twrite_any x.b1 x.b2 x.Ab x.Am x.nb x.cb x.nm x.cm x.bs x.ms _ HS.out (by omega) (by omega) (HT.out.old HT1.out.low).pow).mono ?_
            rintro e w4 ⟨rfl, hB4⟩
            have HB4 := Lib.hid hB4
            have HT4 := Lib.hid (HT1.out.below hB4)
            have a0' := cell_old a0 hB4
            have a1' := cell_old a1 hB4
            clear a0 a1 hB4
            go_wp2_with fail
            refine (qwrite_any x.b1 x.b2 x.Ab x.Am x.nb x.cb x.nm x.cm x.bs x.ms _ (NetD.old HS.out HB4.out) (by omega) (by omega) (HT.out.old HT4.out.low).pow).mono ?_
            rintro e w5 ⟨rfl, hB5⟩
            have HT5 := Lib.hid (HT4.out.below hB5)
            have HY := Lib.hid (trail_len x.bs x.ms)
            clear hB5 a0' a1'
            generalize trailT x.bs x.ms = y at HY ⊢
            generalize chkNet x.bs x.ms = ck
            go_wp2_with (at_builtin; refine wpList_append_lies _ rfl _ _ 32 rfl w.heap.size 9 i0 _ 1 16 Tryz.underlying32 hi iz0 iz1 iz2 rfl (by omega) _ (k + 1) _ (by rfl) (HT5.out.row.alloc _) ⟨w5.heap.size, 0, none⟩ 1 1 [.string ⟨y.toArray⟩] (by rfl) (by rfl) (World.news_of_block (heap_alloc_new w5 _)) (by simp [Value.oneCell']) (by omega) (by unfold maxLen; omega) (by omega) (by rw [World.size_alloc]; have := HT5.out.low.size; omega) (w5.heap.size + 1) (by simp) ?_; intro g3 cap w6 hown3 hgrow hat hlt3)
            have HT6 := Lib.hid ((HT5.out.below (by go_grown : Below w5.heap.size w5 (w5.alloc (.cells #[.string ⟨y.toArray⟩] 9)))).app hown3 hgrow (hat.imp id (fun e => by rw [e, World.size_alloc]; exact Nat.le_refl _)))
            clear hown3 hgrow hat hlt3
            go_roundw
            case rel => exact ⟨k + 1, g3, cap, _, by omega, by go_num, by go_num, tail_app HT5.out.len HTL1.out HY.out, HT6.out⟩
            case measure => simp [intOf]; omega
          · obtain rfl : k = 2 := by omega
            have hl3 : txs.length = 3 := HT1.out.len.symm
            obtain ⟨t0, t1, t2, rfl⟩ : ∃ t0 t1 t2, txs = [t0, t1, t2] := by
              match txs, hl3 with
              | [a, b, c], _ => exact ⟨a, b, c, rfl⟩
            have ht2 : t2.length ≤ 1500 := HTL1.out t2 (by simp)
            have a2 : wr.cell? ⟨g, 2, none⟩ = some (.string ⟨t2.toArray⟩) := HT1.out.row.cellAt 2 (by omega)
            go_wp2_with fail
            refine (mar_any ⟨t2.toArray⟩ at_ how by_ _ ha hh (by show t2.toArray.size ≤ 100000; simp; omega)).mono ?_
            rintro e w4 ⟨q, rfl, hq, hB4⟩
            have HT4 := Lib.hid (HT1.out.below hB4)
            clear hB4 a2 hq
            go_wp2_with (at_builtin; refine wpList_append_lies _ rfl _ _ 32 rfl w.heap.size 9 i0 _ 1 16 Tryz.underlying32 hi iz0 iz1 iz2 rfl (by omega) _ 3 _ (by rfl) (HT4.out.row.alloc _) ⟨w4.heap.size, 0, none⟩ 1 1 [.string q] (by rfl) (by rfl) (World.news_of_block (heap_alloc_new w4 _)) (by simp [Value.oneCell']) (by omega) (by unfold maxLen; omega) (by omega) (by rw [World.size_alloc]; have := HT4.out.low.size; omega) (w4.heap.size + 1) (by simp) ?_; intro g3 cap w6 hown3 hgrow hat hlt3)
            rw [← bytes_back q] at hown3
            have HT6 := Lib.hid ((HT4.out.below (by go_grown : Below w4.heap.size w4 (w4.alloc (.cells #[.string q] 9)))).app hown3 hgrow (hat.imp id (fun e => by rw [e, World.size_alloc]; exact Nat.le_refl _)))
            clear hown3 hgrow hat hlt3
            have hl4 : ([t0, t1, t2] ++ [q.data.toList]).length = 4 := rfl
            generalize [t0, t1, t2] ++ [q.data.toList] = txs4 at HT6 hl4
            have HL4 := Lib.hid hl4
            obtain ⟨b4, _, hs4⟩ := Sl.of_own encT_len HT6.out.len HT6.out.row
            have HS4 := Lib.hid hs4
            clear hl4 hs4
            go_loopw [20] (fun i wr => ∃ k : Nat, k ≤ 4 ∧ i = .int .i64 k ∧ Below w6.heap.size w6 wr) (fun i _ => 4 - (intOf i).toNat)
            case atStart => exact ⟨0, by omega, rfl, Below.refl _ _⟩
            case round =>
              obtain ⟨k, hk, rfl, hB⟩ := hrel
              have HB := Lib.hid hB
              have hzr := hB.size
              clear hB
              by_cases hlt : k < 4
              · have hkt : k < txs4.length := by rw [HL4.out]; omega
                obtain ⟨o, ho, _, a0⟩ := (HS4.out.old HB.out).atT hkt
                obtain ⟨rfl, rfl⟩ : g3 = b4 ∧ 0 = o := by injection ho with ho; injection ho with h1 h2; exact ⟨h1, h2⟩
                simp only [Nat.zero_add] at a0
                generalize txs4[k] = y at a0
                have HC := Lib.hid a0
                have i0' : (0 : Int) ≤ (k : Int) := by omega
                have i1 : (k : Int) < 4 := by omega
                clear hkt ho
                go_wp2_with fail
                refine (tread_any ⟨y.toArray⟩ _ ((HT.out.old HT6.out.low).old HB.out)).mono ?_
                rintro e w7 ⟨A7, B7, c7, d7, p7, q7, rfl, hS7, hB7⟩
                have hrl := readN_len y
                simp only [List.toList_toArray] at hS7 ⊢
                obtain ⟨r, hr⟩ : ∃ r, r = readN y := ⟨_, rfl⟩
                rw [← hr] at hS7 hrl ⊢
                have HR := Lib.hid hr
                have HS7 := Lib.hid (hS7.old ((Below.refl _ _).alloc (Nat.le_refl _) (.cells #[.slice A7 r.bs.length c7, .slice B7 r.ms.length d7] 25)))
                have HB7 := Lib.hid (hB7.alloc hB7.size (.cells #[.slice A7 r.bs.length c7, .slice B7 r.ms.length d7] 25))
                have K7 := Lib.hid (Blk.new w7 25 #[.slice A7 r.bs.length c7, .slice B7 r.ms.length d7])
                have a7 := cell_old HC.out HB7.out
                clear hS7 hB7 hr a0
                go_wp2_with fail
                refine (qread_any ⟨y.toArray⟩ _).mono ?_
                rintro e w8 ⟨A8, B8, c8, d8, p8, q8, rfl, hS8, hB8⟩
                simp only [List.toList_toArray] at hS8 ⊢
                rw [← HR.out] at hS8 ⊢
                have hz8 := hB8.size
                rw [World.size_alloc] at hz8
                have HS8 := Lib.hid (hS8.old ((Below.refl _ _).alloc (Nat.le_refl _) (.cells #[.slice A8 r.bs.length c8, .slice B8 r.ms.length d8] 25)))
                have HS9 := Lib.hid ((HS7.out.old hB8).old ((Below.refl _ _).alloc (Nat.le_refl _) (.cells #[.slice A8 r.bs.length c8, .slice B8 r.ms.length d8] 25)))
                have HB9 := Lib.hid (((HB7.out.trans (hB8.mono HB7.out.size)).alloc (by have := HB7.out.size; rw [World.size_alloc] at this; omega) (.cells #[.slice A8 r.bs.length c8, .slice B8 r.ms.length d8] 25)))
                have K8 := Lib.hid (Blk.new w8 25 #[.slice A8 r.bs.length c8, .slice B8 r.ms.length d8])
                have K9 := Lib.hid ((K7.out.below hB8 K7.out.lt).alloc (.cells #[.slice A8 r.bs.length c8, .slice B8 r.ms.length d8] 25))
                have f0 := K8.out.cell 0
                have f1 := K8.out.cell 1
                have f3 := K9.out.cell 0
                have f4 := K9.out.cell 1
                clear hS8 hB8 a7
                go_wp2_with fail
                refine (sameNets_any p7 q7 p8 q8 A7 B7 A8 B8 r.bs.length c7 r.ms.length d7 r.bs.length c8 r.ms.length d8 r.bs r.bs r.ms r.ms _ HS9.out HS8.out (by omega) (by omega)).mono ?_
                rw [show (decide (r.bs = r.bs) && decide (r.ms = r.ms)) = true by simp]
                rintro e wf ⟨rfl, hBf⟩
                have HBF := Lib.hid (HB9.out.trans (hBf.mono HB9.out.size))
                clear hBf f0 f1 f3 f4
                go_wp2_with fail
                go_roundw
                case rel => exact ⟨k + 1, by omega, by go_num, HB.out.trans (HBF.out.mono hzr)⟩
                case measure => simp [intOf]; omega
              · go_wp2_with fail
                refine (kawake_any _).mono ?_
                rintro e w9 ⟨rfl, hB9⟩
                have L9 := Lib.hid (Below.step hB9 (Below.step HB.out HT6.out.low (Nat.le_refl _)) (Nat.le_refl _))
                clear hB9
                go_wp2_with fail
                go_ret
                exact ⟨rfl, L9.out⟩
    · go_wp2_with fail
      refine (kawake_any _).mono ?_
      rintro e w1 ⟨rfl, hB1⟩
      have L1 := Lib.hid (Below.step hB1 HA.out.low (Nat.le_refl _))
      clear hB1
      go_wp2_with fail
      go_ret
      exact ⟨rfl, L1.out⟩
end Go.Proofs.YtkphgdkjjklajaaGreatDoor
