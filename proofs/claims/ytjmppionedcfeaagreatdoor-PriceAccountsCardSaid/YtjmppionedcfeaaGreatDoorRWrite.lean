/-
  The reference: Write.
-/
import Derived.Test.YtjmppionedcfeaaGreatDoorWriteW
import Derived.Test.YtjmppionedcfeaaGreatDoorRSeal
import Derived.Deep.CutRange
set_option linter.unusedVariables false
set_option linter.unusedSimpArgs false
namespace Go.Proofs.YtjmppionedcfeaaGreatDoor
open Go.RowKit

set_option maxRecDepth 100000 in
set_option maxHeartbeats 1000000 in
theorem rrow_any (wd : List UInt8) (b n c : Nat) (A : Option Addr) (l : List Int) (w : World) (hl : Sl encI 1 w b A n l) (hi : ∀ x ∈ l, I64 x) (hp : Pow w) (hn : n ≤ 1000000) (hz : (rowT wd l).length ≤ 1000000) :
    Calls Tryz.prog 33 #[.string ⟨wd.toArray⟩, .slice A n c] w fun e w' => e = .returned (.string ⟨(rowT wd l).toArray⟩) ∧ Below w.heap.size w w' := by
  have HA := Lib.hid hl.len
  have HL := Lib.hid hl
  have HI := Lib.hid hi
  have HP := Lib.hid hp
  rw [rowT_len] at hz
  clear hl hi hp
  go_enter Tryz.func33, Tryz.ntmps33
  go_wp2_with fail
  go_loopw [0, 5] (fun s i wr => ∃ k : Nat, k ≤ n ∧ i = .int .i64 k ∧ s = .string ⟨(wd ++ numsT (l.take k)).toArray⟩ ∧ Below w.heap.size w wr) (fun _ i _ => n - (intOf i).toNat)
  case atStart => exact ⟨0, by omega, rfl, by simp [numsT], Below.refl _ _⟩
  case round =>
    obtain ⟨k, hk, rfl, rfl, hB⟩ := hrel
    have HB := Lib.hid hB
    have hzr := hB.size
    clear hB
    have htk := numsT_take l k
    by_cases hlt : k < n
    · have hk1 : k < l.length := by have := HA.out; omega
      obtain ⟨o, rfl, hbz, h0⟩ := (HL.out.old HB.out).atI hk1
      have HS := Lib.hid (numsT_snoc l k hk1)
      have htk1 := numsT_take l (k + 1)
      rw [HS.out, List.length_append, List.length_cons] at htk1
      have HX := Lib.hid (HI.out _ (List.getElem_mem hk1))
      generalize l[k] = x at h0 HX HS htk1
      have ha1 : ((wd ++ numsT (l.take k)).length : Int) ≤ 8388608 := by rw [List.length_append]; omega
      have ha2 : (([32] : List UInt8).length : Int) ≤ 8388608 := by decide
      have ha3 : ((Lib.itoa x).length : Int) ≤ 8388608 := by omega
      have ha4 : ((wd ++ numsT (l.take k) ++ [32] : List UInt8).length : Int) ≤ 8388608 := by simp only [List.length_append, List.length_singleton]; omega
      go_wp2_with fail
      refine (itoa_any x HX.out _ (HP.out.old HB.out)).mono ?_
      rintro e w1 ⟨rfl, hB1⟩
      have HB1 := Lib.hid (Below.step hB1 HB.out (Nat.le_refl _))
      clear hB1
      go_wp2_with fail
      go_roundw
      case rel => exact ⟨k + 1, by omega, by go_num, by rw [HS.out, ByteArray.mk_append_mk _ [32], ByteArray.mk_append_mk]; simp, HB1.out⟩
      case measure => simp [intOf]; omega
    · have hkn : k = n := by omega
      have hkl : l.take k = l := List.take_of_length_le (by have := HA.out; omega)
      rw [hkl]
      have ha1 : ((wd ++ numsT l).length : Int) ≤ 8388608 := by rw [List.length_append]; omega
      have ha2 : (([10] : List UInt8).length : Int) ≤ 8388608 := by decide
      go_wp2_with fail
      go_ret
      exact ⟨rfl, HB.out⟩

set_option maxRecDepth 100000 in
set_option maxHeartbeats 2000000 in
theorem rwrite_any (st gd : Int) (b n c : Nat) (A : Option Addr) (l : List Sale) (w : World) (hl : Sl encS 6 w b A n l) (hn : n ≤ 1000000000000) (hp : Pow w) :
    Calls Tryz.prog 9 #[.agg #[.int .i64 st, .int .i64 gd, .slice A n c]] w fun e w' => e = .returned (.tuple #[.string ⟨(textOf st gd l).toArray⟩, .int .i64 (check st gd l)]) ∧ Below w.heap.size w w' := by
  have HL := Lib.hid hl
  have HP := Lib.hid hp
  have HA := Lib.hid hl.len
  have hO := OverBook.start w st gd A n c
  clear hp
  by_cases hc : check st gd l = 0
  · have HC := Lib.hid hc
    have hin := check_zero.1 hc
    have HT := Lib.hid (show textOf st gd l = writeT st gd l from if_pos hc)
    have HI := Lib.hid hin
    obtain ⟨hs1, hs2, hg1, hg2, hlen, _⟩ := hin
    have hn40 : n ≤ 40 := by have := HA.out; omega
    clear hc
    go_enter Tryz.func9, Tryz.ntmps9
    go_wp2_with fail
    refine (rcheck_any st gd b n c A l _ (hl.alloc _) hn).mono ?_
    rw [HC.out]
    rintro e w1 ⟨rfl, hb1⟩
    have hO1 := hO.below hb1
    have HW := Lib.hid (hO1.alloc (.cells #[.int .i64 st, .int .i64 gd] 3))
    have c0 := hO1.blk.cell 0
    have c1 := hO1.blk.cell 1
    have hsl := Sl.new encI_len w1 [st, gd] 3 #[.int .i64 st, .int .i64 gd] rfl
    clear hl hb1 hO hO1
    have ist : I64 st := i64_of (by omega) (by omega)
    have igd : I64 gd := i64_of (by omega) (by omega)
    have hd60 := pairT_le [100, 97, 121] rfl ist igd
    go_wp2_with fail
    refine (rrow_any [100, 97, 121] _ 2 2 _ [st, gd] _ hsl (fun z hz => by simp at hz; rcases hz with rfl | rfl <;> assumption) (HP.out.old HW.out.low) (by omega) (by omega)).mono ?_
    rintro e w2 ⟨rfl, hb2⟩
    have HW3 := Lib.hid (HW.out.below hb2)
    have hd1 : (dayT st gd).length ≤ 60 := hd60
    clear hb2 hsl HW c0 c1
    go_wp2_with fail
    go_loopw [5, 6] (fun s i wr => ∃ k : Nat, k ≤ n ∧ i = .int .i64 k ∧ s = .string ⟨(dayT st gd ++ salesT (l.take k)).toArray⟩ ∧ OverBook w st gd A n c wr) (fun _ i _ => n - (intOf i).toNat)
    case atStart => exact ⟨0, Nat.zero_le _, rfl, by simp [salesT]; rfl, HW3.out⟩
    case round =>
      obtain ⟨k, hk, rfl, rfl, hW⟩ := hrel
      have hzb := hW.blk.lt
      have hst := salesT_le hs2 hg2 (l.take k) (fun s hs => HI.out.sales s (List.mem_of_mem_take hs))
      have htl : (l.take k).length ≤ 40 := by rw [List.length_take]; omega
      have c2 := hW.blk.cell 2
      by_cases hlt : k < n
      · have hk1 : k < l.length := by have := HA.out; omega
        obtain ⟨o, rfl, hbz, s0, s1, s2, s3, s4, s5⟩ := (HL.out.old hW.low).atS hk1
        have hsi := HI.out.sales _ (List.getElem_mem hk1)
        have HS := Lib.hid (salesT_snoc l k hk1)
        generalize l[k] = y at s0 s1 s2 s3 s4 s5 hsi HS
        have hle := saleT_le hsi hs2 hg2
        have HX := Lib.hid (nums_i64 hsi hs2 hg2)
        have HW4 := Lib.hid ((hW.alloc (.cells #[.int .i64 y.st, .int .i64 y.gd, .int .i64 y.gl, .int .i64 y.gh, .int .i64 y.cl, .int .i64 y.ch] 59)).alloc (.cells #[.int .i64 y.st, .int .i64 y.gd, .int .i64 y.gl, .int .i64 y.gh, .int .i64 y.cl, .int .i64 y.ch] 3))
        have hsl := Sl.new encI_len (wr.alloc (.cells #[.int .i64 y.st, .int .i64 y.gd, .int .i64 y.gl, .int .i64 y.gh, .int .i64 y.cl, .int .i64 y.ch] 59)) (nums y) 3 #[.int .i64 y.st, .int .i64 y.gd, .int .i64 y.gl, .int .i64 y.gh, .int .i64 y.cl, .int .i64 y.ch] rfl
        simp only [World.size_alloc] at hsl
        have HSL := Lib.hid hsl
        have ha1 : ((dayT st gd ++ salesT (l.take k)).length : Int) ≤ 8388608 := by rw [List.length_append]; omega
        have ha2 : ((rowT [115, 97, 108, 101] (nums y)).length : Int) ≤ 8388608 := by have h9 : (rowT [115, 97, 108, 101] (nums y)).length ≤ 140 := hle; omega
        clear hsl hsi hW
        go_wp2_with fail
        refine (rrow_any [115, 97, 108, 101] _ 6 6 _ (nums y) _ HSL.out HX.out (HP.out.old HW4.out.low) (by omega) (show (saleT y).length ≤ 1000000 by omega)).mono ?_
        rintro e w4 ⟨rfl, hb4⟩
        have HW5 := Lib.hid (HW4.out.below hb4)
        clear hb4 HW4 HSL
        go_wp2_with fail
        go_roundw
        case rel => exact ⟨k + 1, by omega, by go_num, by rw [HS.out, ByteArray.mk_append_mk, List.append_assoc]; rfl, HW5.out⟩
        case measure => simp [intOf]; omega
      · have hkl : l.take k = l := List.take_of_length_le (by have := HA.out; omega)
        rw [hkl] at hst htl ⊢
        have HW4 := Lib.hid hW.drew
        obtain ⟨q0, q1⟩ := press_bd (s := 7) (by omega) (by omega) ([st, gd] ++ l.flatMap nums)
        have HN := Lib.hid (show endT (n : Int) (sealOf st gd l) = endT (l.length : Int) (sealOf st gd l) by rw [HA.out])
        have isl : I64 (sealOf st gd l) := i64_of q0 (by unfold sealOf; omega)
        have inn : I64 (n : Int) := i64_of (by omega) (by omega)
        have he60 := pairT_le [101, 110, 100] rfl inn isl
        have ha1 : ((dayT st gd ++ salesT l).length : Int) ≤ 8388608 := by rw [List.length_append]; omega
        obtain ⟨sl, hsl⟩ : ∃ q, q = sealOf st gd l := ⟨_, rfl⟩
        rw [← hsl] at isl he60 HN
        have ha2 : ((rowT [101, 110, 100] [(n : Int), sl]).length : Int) ≤ 8388608 := by omega
        have hbig : ¬ 9223372036854775807 < (dayT st gd).length + (salesT l).length + (rowT [101, 110, 100] [(n : Int), sl]).length := by omega
        have HQ := Lib.hid hsl
        clear hW q0 q1 hsl hkl
        go_upto_region 10 with fail
        refine wp_region_PL [2, 4] (fun w' => w'.cell? ⟨w.heap.size, 0, none⟩ = some (.int .i64 st) ∧ w'.cell? ⟨w.heap.size, 1, none⟩ = some (.int .i64 gd) ∧ w'.cell? ⟨w.heap.size, 2, none⟩ = some (.slice A n c)) rfl (by kernel_rfl) (⟨HW4.out.blk.cell 0, HW4.out.blk.cell 1, HW4.out.blk.cell 2⟩) (fun hF0 => ?_)
        (refine wpAnyP_takeL (i := 0) (v := ?_) rfl (by kernel_rfl) (by kernel_rfl) (by kernel_rfl) (fun _ _ _ h => h) (by rfl) ?_ ?_; rotate_left 1; focus (intro w; go_simp; try with_reducible rfl))
        try simp only [Act.put, List.setIfInBounds_toArray, List.set_cons_zero, List.set_cons_succ]
        (refine wpAnyP_takeL (i := 1) (v := ?_) rfl (by kernel_rfl) (by kernel_rfl) (by kernel_rfl) (fun _ _ _ h => h) (by rfl) ?_ ?_; rotate_left 1; focus (intro w; go_simp; try with_reducible rfl))
        try simp only [Act.put, List.setIfInBounds_toArray, List.set_cons_zero, List.set_cons_succ]
        (refine wpAnyP_loadL (i := 2) (v := ?_) rfl (by kernel_rfl) (by kernel_rfl) (by kernel_rfl) (by rfl) (fun _ _ _ h => h) hF0 (by rfl) ?_ ?_; rotate_left 1; focus (intro w hFw; (try dsimp only at hFw); go_split_ands; go_simp; try with_reducible rfl))
        try simp only [Act.put, List.setIfInBounds_toArray, List.set_cons_zero, List.set_cons_succ]
        (refine wpAnyP_takeL (i := 3) (v := ?_) rfl (by kernel_rfl) (by kernel_rfl) (by kernel_rfl) (fun _ _ _ h => h) (by rfl) ?_ ?_; rotate_left 1; focus (intro w; go_simp; try with_reducible rfl))
        try simp only [Act.put, List.setIfInBounds_toArray, List.set_cons_zero, List.set_cons_succ]
        (refine wpAnyP_loadL (i := 4) (v := ?_) rfl (by kernel_rfl) (by kernel_rfl) (by kernel_rfl) (by rfl) (fun _ _ _ h => h) hF0 (by rfl) ?_ ?_; rotate_left 1; focus (intro w hFw; (try dsimp only at hFw); go_split_ands; go_simp; try with_reducible rfl))
        try simp only [Act.put, List.setIfInBounds_toArray, List.set_cons_zero, List.set_cons_succ]
        refine wpAnyP_step (i := 5) rfl (by kernel_rfl) (by rfl) (fun K hK => ?_)
        go_simp
        (refine (rseal_any st gd b n c A l _ (HL.out.old HW4.out.low) HI.out).mono ?_; rw [← HQ.out]; rintro e w5 ⟨rfl, hb5⟩; have HW5 := Lib.hid (HW4.out.below hb5); clear hb5)
        (refine hK _ _ (⟨HW5.out.blk.cell 0, HW5.out.blk.cell 1, HW5.out.blk.cell 2⟩) (fun hF1 => ?_); clear hK K hF0)
        try simp only [Act.put, List.setIfInBounds_toArray, List.set_cons_zero, List.set_cons_succ]
        refine wpAnyP_step (i := 6) rfl (by kernel_rfl) (by rfl) (fun K hK => ?_)
        go_simp
        (have HW6 := Lib.hid (HW5.out.alloc (.cells #[.int .i64 n, .int .i64 sl] 3)); have HSL := Lib.hid (Sl.new encI_len w5 [(n : Int), sl] 3 #[.int .i64 n, .int .i64 sl] rfl))
        (refine hK _ _ (⟨HW6.out.blk.cell 0, HW6.out.blk.cell 1, HW6.out.blk.cell 2⟩) (fun hF2 => ?_); clear hK K hF1)
        try simp only [Act.put, List.setIfInBounds_toArray, List.set_cons_zero, List.set_cons_succ]
        refine wpAnyP_step (i := 7) rfl (by kernel_rfl) (by rfl) (fun K hK => ?_)
        go_simp
        (refine (rrow_any [101, 110, 100] _ 2 2 _ [(n : Int), sl] _ HSL.out (fun z hz => (by simp at hz; rcases hz with rfl | rfl <;> assumption)) (HP.out.old HW6.out.low) (by omega) (by omega)).mono ?_; rintro e w7 ⟨rfl, hb7⟩; have HW7 := Lib.hid (HW6.out.below hb7); clear hb7)
        (refine hK _ _ (⟨HW7.out.blk.cell 0, HW7.out.blk.cell 1, HW7.out.blk.cell 2⟩) (fun hF3 => ?_); clear hK K hF2)
        try simp only [Act.put, List.setIfInBounds_toArray, List.set_cons_zero, List.set_cons_succ]
        (refine wpAnyP_takeL (i := 8) (v := ?_) rfl (by kernel_rfl) (by kernel_rfl) (by kernel_rfl) (fun _ _ _ h => h) (by rfl) ?_ ?_; rotate_left 1; focus (intro w; go_simp; try with_reducible rfl))
        try simp only [Act.put, List.setIfInBounds_toArray, List.set_cons_zero, List.set_cons_succ]
        (refine wpAnyP_takeL (i := 9) (v := ?_) rfl (by kernel_rfl) (by kernel_rfl) (by kernel_rfl) (fun _ _ _ h => h) (by rfl) ?_ ?_; rotate_left 1; focus (intro w; go_simp; try with_reducible rfl))
        try simp only [Act.put, List.setIfInBounds_toArray, List.set_cons_zero, List.set_cons_succ]
        (refine wpAnyP_takeL (i := 10) (v := ?_) rfl (by kernel_rfl) (by kernel_rfl) (by kernel_rfl) (fun _ _ _ h => h) (by rfl) ?_ ?_; rotate_left 1; focus (intro w; go_simp; try with_reducible rfl))
        try simp only [Act.put, List.setIfInBounds_toArray, List.set_cons_zero, List.set_cons_succ]
        refine wpAnyP_done (by kernel_rfl) ?_ _
        go_wp2_with fail
        go_ret2
        exact ⟨by rw [HT.out, HC.out, writeT, HQ.out.symm, HN.out.symm, ← ByteArray.mk_append_mk]; rfl, HW7.out.low⟩
  · have HC := Lib.hid hc
    have HT := Lib.hid (show textOf st gd l = [] from if_neg hc)
    go_enter Tryz.func9, Tryz.ntmps9
    go_wp2_with fail
    refine (rcheck_any st gd b n c A l _ (hl.alloc _) hn).mono ?_
    rintro e w1 ⟨rfl, hb1⟩
    have HO1 := Lib.hid (hO.below hb1)
    have hne : (check st gd l != 0) = true := by simpa using HC.out
    clear hl hb1 hO
    go_wp2_with fail
    go_ret2
    exact ⟨by rw [HT.out]; rfl, HO1.out.low⟩
end Go.Proofs.YtjmppionedcfeaaGreatDoor
