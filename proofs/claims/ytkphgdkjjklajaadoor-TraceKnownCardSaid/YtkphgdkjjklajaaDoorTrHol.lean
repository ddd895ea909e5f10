/-
  trace.Holds: what each batch holds in the end.
-/
import Derived.Test.YtkphgdkjjklajaaDoorTrRec
set_option linter.unusedVariables false
set_option linter.unusedSimpArgs false
namespace Go.Proofs.YtkphgdkjjklajaaDoor
open Go.RowKit Go.Shelf Go.Sort

theorem sl_amA (w : World) (g n : Nat) (a : Int → Int) (hn : n ≤ 8) (h : Blk w g 51 (amA a)) : Sl encI 1 w g (some ⟨g, 0, none⟩) n ((rg n).map a) := by
  refine ⟨by rw [List.length_map, rg_length], fun h0 => ⟨0, rfl, h.lt, fun k hk j u hu => ?_⟩⟩
  rw [List.length_map, rg_length] at hk
  have e : ((rg n).map a)[k]'(by rw [List.length_map, rg_length]; exact hk) = a k := by simp [rg]
  rw [e] at hu
  obtain rfl : j = 0 := by
    rcases Nat.eq_zero_or_pos j with h | h
    · exact h
    · rw [List.getElem?_eq_none (by simp [encI]; omega)] at hu; cases hu
  rw [show 0 + k * 1 + 0 = k by omega, h.cell, amA_get _ k (by omega)]
  simpa [encI] using hu

theorem am_len : Tryd.prog.arrayLen 51 = 8 := by kernel_rfl
theorem am_elem : Tryd.prog.elem 51 = 3 := by kernel_rfl
theorem slice_amA (n : Nat) (hn : n ≤ 8) (g : Nat) (w : World) : (Instr.sliceAt 51 (.pointer (some ⟨g, 0, none⟩)) none (some (.int .i64 (n : Int))) none).run Tryd.prog w = .ok (.slice (some ⟨g, 0, none⟩) n 8) w := by
  obtain ⟨i0, hi, iz0, iz1, iz2⟩ := info_parts info_int
  rw [run_sliceAt_array_h w 51 ⟨g, 0, none⟩ (by rw [am_len, am_elem]; exact Tryd.underlying51) .i64 n (by omega) (by rw [am_len]; omega), am_len, am_elem, run_sizeOf _ hi]
  simp [Result.andThen, slicedAt, Addr.add]

set_option maxRecDepth 100000 in
set_option maxHeartbeats 4000000 in
theorem Holds_ok (b1 b2 : Nat) (Ab Am : Option Addr) (nb cb nm cm : Nat) (bs : List Int) (ms : List Mv) (w : World) (hM : NetM w b1 b2 Ab Am nb cb nm cm bs ms) (hc : chkNet bs ms = 0) :
    Calls Tryd.prog 7 #[netV Ab Am nb cb nm cm] w fun e w' => ∃ g c, e = .returned (.tuple #[.slice (some ⟨g, 0, none⟩) nb c, .int .i64 0]) ∧ w'.ownsRow w.heap.size 3 1 (.slice (some ⟨g, 0, none⟩) nb c) nb ((holdsT bs ms).flatMap encI) ∧ Below w.heap.size w w' := by
  have hN := netIn_of hc
  have hBn := Blk.new w 25 #[.slice Ab nb cb, .slice Am nm cm]
  have c0 := hBn.cell 0
  have c1 := hBn.cell 1
  have hb0 : Below w.heap.size w (w.alloc (.cells #[.slice Ab nb cb, .slice Am nm cm] 25)) := (Below.refl _ w).alloc (Nat.le_refl _) _
  have hm12 := hN.m1
  have hb8 := hN.n1
  have hn0 := hN.n0
  have hnb := hM.b.len
  have hnm := hM.m.len
  have hcon := check_any b1 b2 Ab Am nb cb nm cm bs ms _ (hM.old hb0) (by omega) (by omega)
  rw [hc] at hcon
  have hnb8 : nb ≤ 8 := by omega
  have hnb0 : 0 < nb := by omega
  have HNB := Lib.hid hnb
  have HNM := Lib.hid hnm
  have HBN := Lib.hid hBn
  have HB0 := Lib.hid hb0
  have HC := Lib.hid hcon
  have HN := Lib.hid hN
  have HM := Lib.hid hM
  have HBG := Lib.hid (fun (W : World) (hW : Below w.heap.size w W) => begin_any Ab Am nb cb nm cm b1 bs W (hM.b.old hW) hnb8)
  clear hBn hb0 hcon hM hN hc hnb hnm hb8 hn0
  go_enter Tryd.func7, Tryd.ntmps7
  go_upto_region 4 with (go_at_call 6; refine HC.out.mono ?_; rintro e w1 ⟨rfl, hb1⟩; have HB1 := Lib.hid hb1; clear hb1)
  have hbw := HB0.out.trans (HB1.out.mono (by simp))
  have hbn1 := HBN.out.below HB1.out HBN.out.lt
  have HBW := Lib.hid hbw
  have HBN1 := Lib.hid hbn1
  have hw1 := hbn1.lt
  have d0 := hbn1.cell 0
  have d1 := hbn1.cell 1
  have HBG1 := Lib.hid (HBG.out w1 hbw)
  clear c0 c1 hbn1 hbw
  go_upto_region 5 with (first
    | (go_at_call 20; refine HBG1.out.mono ?_; rintro e w2 ⟨rfl, hb2⟩; have HB2 := Lib.hid hb2; have HA2 := Lib.hid (Blk.new w2 51 (amA fun _ => 0)); clear hb2)
    | (refine wpList_store_row rfl 51 (.tmp 5) (.tmp 14) rfl w2.heap.size (amA (bsF bs)) rfl rfl 51 _ HA2.out info_am rfl (amA_cells _) ?_))
  obtain ⟨W2, hW2⟩ : ∃ W2, (w2.alloc (.cells (amA fun _ => 0) 51)).setRow w2.heap.size (amA (bsF bs)) = W2 := ⟨_, rfl⟩
  rw [show (w2.alloc (.cells #[.int .i64 0, .int .i64 0, .int .i64 0, .int .i64 0, .int .i64 0, .int .i64 0, .int .i64 0, .int .i64 0] 51)).setRow w2.heap.size (amA (bsF bs)) = W2 from hW2]
  have hz2 := HB2.out.size
  have hA2 : Blk W2 w2.heap.size 51 (amA (bsF bs)) := by rw [← hW2]; exact HA2.out.setRow _
  have hB2 : Below w1.heap.size w1 W2 := by
    rw [← hW2]
    exact (HB2.out.alloc hz2 _).grown (grown_setRow _ _ _) (by simp; omega) (fun j e => by cases e; exact hz2)
  obtain ⟨Ba, hBa⟩ : ∃ Ba, Ba = w2.heap.size := ⟨_, rfl⟩
  rw [← hBa] at hA2 ⊢
  have hBa1 : w1.heap.size ≤ Ba := by omega
  have hn2 := HBN1.out.below hB2 hw1
  have HA := Lib.hid hA2
  have HBB := Lib.hid hB2
  have e0 := hn2.cell 0
  have e1 := hn2.cell 1
  clear hW2 hA2 hB2 hBa hn2 d0 d1
  go_wp2_with fail
  go_loopw [18] (fun i wr => ∃ k : Nat, k ≤ nm ∧ i = .int .i64 k ∧ Blk wr Ba 51 (amA (hasAt (bsF bs) (ms.take k))) ∧ Below w1.heap.size w1 wr) (fun i _ => nm - (intOf i).toNat)
  case atStart => exact ⟨0, Nat.zero_le _, rfl, HA.out, HBB.out⟩
  case round =>
    obtain ⟨k, hk, rfl, hA, hB⟩ := hrel
    clear e0 e1
    have hz := hB.size
    have hBn := HBN1.out.below hB hw1
    have hBW := HBW.out.trans (hB.mono HBW.out.size)
    have HB := Lib.hid hB
    have HA3 := Lib.hid hA
    have hBaz := hA.lt
    by_cases hlt : k < nm
    · as_aux_lemma =>
      have hkm : k < ms.length := by have := HNM.out; omega
      obtain ⟨o, rfl, hbz, s0, s1, s2⟩ := (HM.out.m.old hBW).atM hkm
      have hOK := HN.out.at_ hkm
      obtain ⟨f, mt, mg, hmk⟩ : ∃ f mt mg, ms[k] = Mv.mk f mt mg := ⟨_, _, _, rfl⟩
      have HTK := Lib.hid (show hasAt (bsF bs) (ms.take (k + 1)) = mvd (hasAt (bsF bs) (ms.take k)) ⟨f, mt, mg⟩ from by rw [List.take_succ_eq_append_getElem hkm, hasAt_snoc, hmk])
      rw [hmk] at s0 s1 s2 hOK
      dsimp only at s0 s1 s2
      have hb8 := HN.out.n1
      have hbd := HN.out.has_bd k
      have hg1 : mg ≤ 8000000 := by have h1 := hOK.g1; have := (hbd f).2; simp only at h1; omega
      have hg0 := hOK.g0
      simp only at hg0
      have HMV := Lib.hid (fun (W : World) => moved_any (hasAt (bsF bs) (ms.take k)) ⟨f, mt, mg⟩ W hOK.f0 (by have := hOK.f1; omega) hOK.t0 (by have := hOK.t1; omega) (fun b => by have := hbd b; omega) (by show 0 ≤ mg; omega) (by show mg ≤ 1000000000; omega))
      have HX := Lib.hid (Blk.new wr 28 #[.int .i64 f, .int .i64 mt, .int .i64 mg])
      have HAD := Lib.hid (HA3.out.alloc (.cells #[.int .i64 f, .int .i64 mt, .int .i64 mg] 28))
      have m0 := HX.out.cell 0
      have m1 := HX.out.cell 1
      have m2 := HX.out.cell 2
      clear hmk hOK hbd hBn hBW hA hB hg0 hg1 hb8
      go_wp2_with (first
        | (go_at_call 21; refine (HMV.out _).mono ?_; rintro e w5 ⟨rfl, hb5⟩; have hA5 := HAD.out.below hb5 HAD.out.lt; have HB5 := Lib.hid hb5; have HA5 := Lib.hid hA5; clear hb5 hA5)
        | (refine wpList_load_row rfl 51 (.tmp 5) rfl Ba rfl 51 (amA (hasAt (bsF bs) (ms.take k))) (0, 0) _ HAD.out Tryd.underlying51 rfl info_am ?_)
        | (refine wpList_store_row rfl 51 (.tmp 5) (.tmp 24) rfl Ba _ rfl rfl 51 _ HA5.out info_am rfl (amA_cells _) ?_))
      refine ⟨⟨k + 1, by omega, by go_num, by rw [HTK.out]; exact HA5.out.setRow _, ((HB.out.alloc hz _).trans (HB5.out.mono (by simp; omega))).grown (grown_setRow _ _ _) (by have := HB5.out.size; simp at this; omega) (fun j e => by cases e; exact hBa1)⟩, ?_⟩
      simp [intOf]; omega
    · obtain rfl : k = nm := by omega
      have d0 := hBn.cell 0
      have d1 := hBn.cell 1
      have hwr := hBn.lt
      have hs := sl_amA wr Ba nb _ hnb8 hA
      have hsA := slice_amA nb hnb8 Ba
      have e : (rg nb).map (hasAt (bsF bs) (ms.take k)) = holdsT bs ms := by
        have := HNM.out
        unfold holdsT
        rw [HNB.out, this, List.take_length]
      rw [e] at hs
      have HS := Lib.hid hs
      have HBW2 := Lib.hid hBW
      clear hA hBn hs hBW hB e
      go_wp2_with (go_at_call 22; refine (cloneI_any Ba nb 8 (some ⟨Ba, 0, none⟩) _ (by omega) hnb0 _ HS.out).mono ?_; rintro e w6 ⟨g6, c6, rfl, hown6, hb6⟩; have HO6 := Lib.hid hown6; have HB6 := Lib.hid hb6; clear hown6 hb6)
      go_ret2
      exact ⟨g6, c6, rfl, ownsRow_base HO6.out HBW2.out.size, HBW2.out.trans (HB6.out.mono HBW2.out.size)⟩
end Go.Proofs.YtkphgdkjjklajaaDoor
