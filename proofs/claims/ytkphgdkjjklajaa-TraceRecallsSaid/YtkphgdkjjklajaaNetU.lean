/-
  The reference's Reach, Through, Holds. CopyNet, SameNets of the kit. What the functions of nets answer of any net, in one form for a net that may be and for one that may not: the program's and the reference's.
-/
import Derived.Test.YtkphgdkjjklajaaQMost
import Derived.Test.YtkphgdkjjklajaaQChkO
import Derived.Test.YtkphgdkjjklajaaTrThr
import Derived.Test.YtkphgdkjjklajaaTrNetL
import Derived.Test.YtkphgdkjjklajaaKeepApp
import Derived.Test.YtkphgdkjjklajaaTrHol
import Derived.Test.YtkphgdkjjklajaaTrRec
set_option linter.unusedVariables false
set_option linter.unusedSimpArgs false
namespace Go.Proofs.Ytkphgdkjjklajaa
open Go.RowKit Go.Shelf Go.Sort

theorem RowC.old {W W' : World} {g : Nat} {l : List Int} (h : RowC W g l) (hb : Below W.heap.size W W') : RowC W' g l := h.keep (hb.block g h.lt)
theorem qmostB (b1 b2 b3 : Nat) (Ab Am Ao : Option Addr) (nb cb nm cm no co : Nat) (bs : List Int) (ms : List Mv) (l : List Int) (batch : Nat) (w : World) (hN : NetIn bs ms) (hM : NetM w b1 b2 Ab Am nb cb nm cm bs ms)
    (hO : Sl encI 1 w b3 Ao no l) (hl : ∀ o ∈ l, 0 ≤ o ∧ o < bs.length) (hnd : l.Nodup) (hb : batch < bs.length) :
    Calls Try.prog 74 #[netV Ab Am nb cb nm cm, .slice Ao no co, .int .i64 batch, .int .i64 (-1)] w fun e w' => e = .returned (.int .i64 (mostF bs.length (bsF bs) l ms batch)) ∧ Below w.heap.size w w' := by
  have h := comeB hN hl hnd (b := (batch : Int)) ⟨by omega, by omega⟩
  rw [← edAll_b bs ms l (batch := (batch : Int)) (mv := -1) (by omega)] at h
  exact qmost_any b1 b2 b3 Ab Am Ao nb cb nm cm no co bs ms l batch (-1) _ w hN hM hO hl hnd (by omega) (by omega) (by omega) (by omega) h
theorem qmostM (b1 b2 b3 : Nat) (Ab Am Ao : Option Addr) (nb cb nm cm no co : Nat) (bs : List Int) (ms : List Mv) (l : List Int) (i : Nat) (w : World) (hN : NetIn bs ms) (hM : NetM w b1 b2 Ab Am nb cb nm cm bs ms)
    (hO : Sl encI 1 w b3 Ao no l) (hl : ∀ o ∈ l, 0 ≤ o ∧ o < bs.length) (hnd : l.Nodup) (hi : i < ms.length) :
    Calls Try.prog 74 #[netV Ab Am nb cb nm cm, .slice Ao no co, .int .i64 (-1), .int .i64 i] w fun e w' => e = .returned (.int .i64 (min ms[i].g (mostF bs.length (bsF bs) l (ms.take i) ms[i].fr))) ∧ Below w.heap.size w w' := by
  have hm12 := hN.m1
  have e : ms = ms.take i ++ ms[i] :: ms.drop (i + 1) := by rw [List.getElem_cons_drop, List.take_append_drop]
  have hlen : (ms.take i).length = i := by rw [List.length_take]; omega
  have h : ComeR bs.length ms.length (edAll bs ms l (-1) i) (min ms[i].g (mostF bs.length (bsF bs) l (ms.take i) ms[i].fr)) (capE (edAll bs ms l (-1) i)) 0 := by
    rw [edAll_m _ _ _ (by decide)]
    have hN' := hN
    rw [e] at hN'
    have h := comeM (m := ms[i]) (k := ms.drop (i + 1)) hN' hl hnd
    rw [← e, hlen] at h
    exact h
  exact qmost_any b1 b2 b3 Ab Am Ao nb cb nm cm no co bs ms l (-1) i _ w hN hM hO hl hnd (by omega) (by have := hN.n0; omega) (by omega) (by omega) h
theorem qHolds_err (b1 b2 : Nat) (Ab Am : Option Addr) (nb cb nm cm : Nat) (bs : List Int) (ms : List Mv) (w : World) (hM : NetM w b1 b2 Ab Am nb cb nm cm bs ms) (hnb : nb ≤ 100000) (hnm : nm ≤ 100000) (hc : chkNet bs ms ≠ 0) :
    Calls Try.prog 44 #[netV Ab Am nb cb nm cm] w fun e w' => e = .returned (.tuple #[.slice none 0 0, .int .i64 (chkNet bs ms)]) ∧ Below w.heap.size w w' := by
  have hBn := Blk.new w 25 #[.slice Ab nb cb, .slice Am nm cm]
  have c0 := hBn.cell 0
  have c1 := hBn.cell 1
  have hb0 : Below w.heap.size w (w.alloc (.cells #[.slice Ab nb cb, .slice Am nm cm] 25)) := (Below.refl _ w).alloc (Nat.le_refl _) _
  have hcon := qcheck_any b1 b2 Ab Am nb cb nm cm bs ms _ (hM.old hb0) hnb hnm
  obtain ⟨x, hx⟩ : ∃ x, x = chkNet bs ms := ⟨_, rfl⟩
  rw [← hx] at hcon hc ⊢
  have hxx : (x == 0) = false := by simp [hc]
  have hxx2 : (x != 0) = true := by simp [hc]
  have HC := Lib.hid hcon
  have HB0 := Lib.hid hb0
  clear hcon hx hc hBn hM hb0
  go_enter Try.func44, Try.ntmps44
  go_wp2_with (go_at_call 48; refine HC.out.mono ?_; rintro e w1 ⟨rfl, hb1⟩; have HB1 := Lib.hid hb1; clear hb1)
  go_ret2
  exact ⟨rfl, HB0.out.trans (HB1.out.mono (by simp))⟩
theorem qHolds_ok (b1 b2 : Nat) (Ab Am : Option Addr) (nb cb nm cm : Nat) (bs : List Int) (ms : List Mv) (w : World) (hM : NetM w b1 b2 Ab Am nb cb nm cm bs ms) (hc : chkNet bs ms = 0) :
    Calls Try.prog 44 #[netV Ab Am nb cb nm cm] w fun e w' => ∃ g c, e = .returned (.tuple #[.slice (some ⟨g, 0, none⟩) nb c, .int .i64 0]) ∧ w.heap.size ≤ g ∧ RowC w' g (holdsT bs ms) ∧ Below w.heap.size w w' := by
  have hN := netIn_of hc
  have hBn := Blk.new w 25 #[.slice Ab nb cb, .slice Am nm cm]
  have c0 := hBn.cell 0
  have c1 := hBn.cell 1
  have hb0 : Below w.heap.size w (w.alloc (.cells #[.slice Ab nb cb, .slice Am nm cm] 25)) := (Below.refl _ w).alloc (Nat.le_refl _) _
  have hnb := hM.b.len
  have hnm := hM.m.len
  have hcon := qcheck_any b1 b2 Ab Am nb cb nm cm bs ms _ (hM.old hb0) (by have := hN.n1; omega) (by have := hN.m1; omega)
  rw [hc] at hcon
  have HC := Lib.hid hcon
  have HB0 := Lib.hid hb0
  have HBN := Lib.hid hBn
  have HM := Lib.hid hM
  have HN := Lib.hid hN
  have HNB := Lib.hid hnb
  have HNM := Lib.hid hnm
  clear hcon hBn hM hb0 hN hnb hnm hc
  go_enter Try.func44, Try.ntmps44
  go_upto_region 4 with (go_at_call 48; refine HC.out.mono ?_; rintro e w1 ⟨rfl, hb1⟩; have HB1 := Lib.hid hb1; clear hb1)
  have hbw := HB0.out.trans (HB1.out.mono (by simp))
  have hbn1 := HBN.out.below HB1.out HBN.out.lt
  have d0 := hbn1.cell 0
  have d1 := hbn1.cell 1
  have HH := Lib.hid (qheld_any b1 b2 Ab Am nb cb nm cm nm bs ms w1 (HM.out.old hbw) HN.out (by have := HNM.out; omega))
  have HBW := Lib.hid hbw
  clear c0 c1 hbw hbn1
  go_wp2_with (go_at_call 75; refine HH.out.mono ?_; rintro e w2 ⟨g, c, rfl, hg, hr, hb2⟩; have HG := Lib.hid hg; have HR := Lib.hid hr; have HB2 := Lib.hid hb2; clear hg hr hb2)
  go_ret2
  refine ⟨g, c, rfl, Nat.le_trans HBW.out.size HG.out, ?_, HBW.out.trans (HB2.out.mono HBW.out.size)⟩
  have h := HR.out
  rw [List.take_of_length_le (by have := HNM.out; omega), HNB.out] at h
  exact h
/-- where a row of spans grows, the rest stays -/
theorem spanNew (w : World) (x y : Int) : Sl encR 2 (w.alloc (.cells #[.int .i64 x, .int .i64 y] 48)) w.heap.size (some ⟨w.heap.size, 0, none⟩) 1 [⟨x, y⟩] := newR w ⟨x, y⟩
set_option maxRecDepth 100000 in
set_option maxHeartbeats 2000000 in
theorem qReach_ok (b1 b2 b3 : Nat) (Ab Am Ao : Option Addr) (nb cb nm cm no co : Nat) (bs : List Int) (ms : List Mv) (l : List Int) (w : World) (hM : NetM w b1 b2 Ab Am nb cb nm cm bs ms) (hO : Sl encI 1 w b3 Ao no l) (hc : chkO bs ms l = 0) :
    Calls Try.prog 45 #[netV Ab Am nb cb nm cm, .slice Ao no co] w fun e w' => ∃ A c bR, e = .returned (.tuple #[.slice A nb c, .int .i64 0]) ∧ Sl encR 2 w' bR A nb (reachT bs ms l) ∧ w.heap.size ≤ bR ∧ Below w.heap.size w w' := by
  obtain ⟨i0, hi, iz0, iz1, iz2⟩ := info_parts info_spanF
  obtain ⟨hN, hl⟩ := chkO_in hc
  have hBn := Blk.new w 25 #[.slice Ab nb cb, .slice Am nm cm]
  have c0 := hBn.cell 0
  have c1 := hBn.cell 1
  have hb0 : Below w.heap.size w (w.alloc (.cells #[.slice Ab nb cb, .slice Am nm cm] 25)) := (Below.refl _ w).alloc (Nat.le_refl _) _
  have hnb := hM.b.len
  have hnm := hM.m.len
  have hnb8 : nb ≤ 8 := by have := hN.n1; omega
  have hnm12 : nm ≤ 12 := by have := hN.m1; omega
  have hno8 : no ≤ 8 := by have := hO.len; have := orig_len hl.nodup hl.rg hN.n1; omega
  have hcon := qcheckO_any b1 b2 b3 Ab Am Ao nb cb nm cm no co bs ms l _ (hM.old hb0) (by omega) (by omega) (hO.old hb0) (by omega)
  rw [hc] at hcon
  have HC := Lib.hid hcon
  have HB0 := Lib.hid hb0
  have HBN := Lib.hid hBn
  have HM := Lib.hid hM
  have HO := Lib.hid hO
  have HN := Lib.hid hN
  have HL := Lib.hid hl
  have HNB := Lib.hid hnb
  have HNM := Lib.hid hnm
  clear hcon hBn hM hO hb0 hN hl hnb hnm hc
  go_enter Try.func45, Try.ntmps45
  go_upto_region 4 with (go_at_call 59; refine HC.out.mono ?_; rintro e w1 ⟨rfl, hb1⟩; have HB1 := Lib.hid hb1; clear hb1)
  have HBW := Lib.hid (HB0.out.trans (HB1.out.mono (by simp)))
  have HBN1 := Lib.hid (HBN.out.below HB1.out HBN.out.lt)
  have HCL := Lib.hid (fun (W : World) (hW : Below w1.heap.size w1 W) => (show W.cell? ⟨w.heap.size, 0, none⟩ = some (.slice Ab nb cb) ∧ W.cell? ⟨w.heap.size, 1, none⟩ = some (.slice Am nm cm) from ⟨(HBN1.out.below hW HBN1.out.lt).cell 0, (HBN1.out.below hW HBN1.out.lt).cell 1⟩))
  have HMW := Lib.hid (fun (W : World) (hW : Below w1.heap.size w1 W) => HM.out.old (HBW.out.trans (hW.mono HBW.out.size)))
  have HOW := Lib.hid (fun (W : World) (hW : Below w1.heap.size w1 W) => HO.out.old (HBW.out.trans (hW.mono HBW.out.size)))
  clear c0 c1
  have hM : Below w1.heap.size w1 w1.drew := (Below.refl _ w1).drew
  refine wp_region_PL [0, 2, 5] (fun W => W.cell? ⟨w.heap.size, 0, none⟩ = some (.slice Ab nb cb) ∧ W.cell? ⟨w.heap.size, 1, none⟩ = some (.slice Am nm cm)) rfl (by kernel_rfl) (HCL.out _ hM) (fun hF0 => ?_)
  (refine wpAnyP_loadL (i := 0) (v := ?_) rfl (by kernel_rfl) (by kernel_rfl) (by kernel_rfl) (by rfl) (fun _ _ _ h => h) hF0 (by rfl) ?_ ?_; rotate_left 1; focus (intro w hFw; (try dsimp only at hFw); go_split_ands; go_simp; try with_reducible rfl))
  try simp only [Act.put, List.setIfInBounds_toArray, List.set_cons_zero, List.set_cons_succ]
  (refine wpAnyP_takeL (i := 1) (v := ?_) rfl (by kernel_rfl) (by kernel_rfl) (by kernel_rfl) (fun _ _ _ h => h) (by rfl) ?_ ?_; rotate_left 1; focus (intro w; go_simp; try with_reducible rfl))
  try simp only [Act.put, List.setIfInBounds_toArray, List.set_cons_zero, List.set_cons_succ]
  (refine wpAnyP_loadL (i := 2) (v := ?_) rfl (by kernel_rfl) (by kernel_rfl) (by kernel_rfl) (by rfl) (fun _ _ _ h => h) hF0 (by rfl) ?_ ?_; rotate_left 1; focus (intro w hFw; (try dsimp only at hFw); go_split_ands; go_simp; try with_reducible rfl))
  try simp only [Act.put, List.setIfInBounds_toArray, List.set_cons_zero, List.set_cons_succ]
  (refine wpAnyP_takeL (i := 3) (v := ?_) rfl (by kernel_rfl) (by kernel_rfl) (by kernel_rfl) (fun _ _ _ h => h) (by rfl) ?_ ?_; rotate_left 1; focus (intro w; go_simp; try with_reducible rfl))
  try simp only [Act.put, List.setIfInBounds_toArray, List.set_cons_zero, List.set_cons_succ]
  (refine wpAnyP_loadL (i := 5) (v := ?_) rfl (by kernel_rfl) (by kernel_rfl) (by kernel_rfl) (by rfl) (fun _ _ _ h => h) hF0 (by rfl) ?_ ?_; rotate_left 1; focus (intro w hFw; (try dsimp only at hFw); go_split_ands; go_simp; try with_reducible rfl))
  try simp only [Act.put, List.setIfInBounds_toArray, List.set_cons_zero, List.set_cons_succ]
  (refine wpAnyP_takeL (i := 6) (v := ?_) rfl (by kernel_rfl) (by kernel_rfl) (by kernel_rfl) (fun _ _ _ h => h) (by rfl) ?_ ?_; rotate_left 1; focus (intro w; go_simp; try with_reducible rfl))
  try simp only [Act.put, List.setIfInBounds_toArray, List.set_cons_zero, List.set_cons_succ]
  refine wpAnyP_step (i := 4) rfl (by kernel_rfl) (by rfl) (fun K hK => ?_)
  go_simp
  (refine (qheld_any b1 b2 Ab Am nb cb nm cm nm bs ms _ (HMW.out _ hM) HN.out (by have := HNM.out; omega)).mono ?_; rintro e wA ⟨Bh, ch, rfl, hBh, hR, hBA⟩; have hM := hM.trans (hBA.mono hM.size))
  (refine hK _ _ (HCL.out _ hM) (fun hF1 => ?_); clear hK K hF0)
  try simp only [Act.put, List.setIfInBounds_toArray, List.set_cons_zero, List.set_cons_succ]
  refine wpAnyP_step (i := 7) rfl (by kernel_rfl) (by rfl) (fun K hK => ?_)
  go_simp
  (refine (rothers_any nb cb nm cm b3 no co Ab Am Ao l _ (HOW.out _ hM) (by omega) (by omega)).mono ?_; rintro e wB ⟨AO, cO, rfl, hown, hBB⟩; obtain ⟨bO, hbO, hsO⟩ := Sl.of_own (enc := encI) encI_len rfl hown; have hR := hR.old hBB; have hM := hM.trans (hBB.mono hM.size); clear hown)
  (refine hK _ _ (HCL.out _ hM) (fun hF2 => ?_); clear hK K hF1)
  try simp only [Act.put, List.setIfInBounds_toArray, List.set_cons_zero, List.set_cons_succ]
  (refine wpAnyP_takeL (i := 8) (v := ?_) rfl (by kernel_rfl) (by kernel_rfl) (by kernel_rfl) (fun _ _ _ h => h) (by rfl) ?_ ?_; rotate_left 1; focus (intro w; go_simp; try with_reducible rfl))
  try simp only [Act.put, List.setIfInBounds_toArray, List.set_cons_zero, List.set_cons_succ]
  (refine wpAnyP_takeL (i := 9) (v := ?_) rfl (by kernel_rfl) (by kernel_rfl) (by kernel_rfl) (fun _ _ _ h => h) (by rfl) ?_ ?_; rotate_left 1; focus (intro w; go_simp; try with_reducible rfl))
  try simp only [Act.put, List.setIfInBounds_toArray, List.set_cons_zero, List.set_cons_succ]
  refine wpAnyP_done (by kernel_rfl) ?_ _
  rw [List.take_of_length_le (by have := HNM.out; omega)] at hR
  have HR := Lib.hid hR
  have HMM := Lib.hid hM
  have HSO := Lib.hid hsO
  have HZB := Lib.hid (show Bh < wB.heap.size from hR.lt)
  clear hBh hBA hbO hBB hR hM hsO
  obtain ⟨wo, rfl⟩ : ∃ wo : World, wo = wB := ⟨_, rfl⟩
  go_wp2_with fail
  go_loopw [9, 10] (fun ov iv wr => ∃ (k c : Nat) (A : Option Addr), k ≤ nb ∧ iv = .int .i64 k ∧ ov = .slice A k c ∧ wr.ownsRow wo.heap.size 48 2 (.slice A k c) k (((rg k).map (mayT bs l ms)).flatMap encR) ∧ Below wo.heap.size wo wr) (fun _ iv _ => nb - (intOf iv).toNat)
  case atStart => exact ⟨0, 0, none, Nat.zero_le _, rfl, rfl, World.ownsRow_nil _ _ _ _, Below.refl _ _⟩
  case round =>
    obtain ⟨k, c, A, hk, rfl, rfl, hown, hB⟩ := hrel
    have HOW2 := Lib.hid hown
    have HB := Lib.hid hB
    have hzr := hB.size
    clear hown hB
    by_cases hlt : k < nb
    · have hkb : k < bs.length := by have := HNB.out; omega
      have HSN := Lib.hid (show (rg (k + 1)).map (mayT bs l ms) = (rg k).map (mayT bs l ms) ++ [mayT bs l ms k] from by rw [rg_snoc, List.map_append]; rfl)
      have HQ1 := Lib.hid (fun (W : World) (hW : Below w1.heap.size w1 W) (hs : Sl encI 1 W bO AO (othersT nb l).length (othersT nb l)) => qmostB b1 b2 bO Ab Am AO nb cb nm cm _ cO bs ms (othersT nb l) k W HN.out (HMW.out W hW) hs (by rw [HNB.out]; exact (others_in _ _).rg) (others_in _ _).nodup hkb)
      have HQ2 := Lib.hid (fun (W : World) (hW : Below w1.heap.size w1 W) => qmostB b1 b2 b3 Ab Am Ao nb cb nm cm no co bs ms l k W HN.out (HMW.out W hW) (HOW.out W hW) HL.out.rg HL.out.nodup hkb)
      have hlen := has_len nb (hasAt (bsF bs) ms)
      have HHB := Lib.hid (show 0 ≤ hasAt (bsF bs) ms (k : Int) ∧ hasAt (bsF bs) ms (k : Int) ≤ 8000000 from by
        have h := HN.out.has_bd nm (k : Int)
        rw [List.take_of_length_le (by have := HNM.out; omega)] at h
        exact h)
      have HMX := Lib.hid (mostF_le_has HN.out.pos HN.out.ms (othersT nb l) (batch := (k : Int)) (by omega) (by omega))
      have HM0 := Lib.hid (mostF_nonneg HN.out.pos HN.out.ms (othersT nb l) (k : Int))
      have HMAY := Lib.hid (show mayT bs l ms k = ⟨hasAt (bsF bs) ms k - mostF bs.length (bsF bs) (othersT nb l) ms k, mostF bs.length (bsF bs) l ms k⟩ from by rw [HNB.out]; rfl)
      have HCB := Lib.hid (fun (W : World) (h1 : Below wo.heap.size wo W) => (show (W.cell? ⟨w.heap.size, 0, none⟩ = some (.slice Ab nb cb) ∧ W.cell? ⟨w.heap.size, 1, none⟩ = some (.slice Am nm cm)) ∧ W.cell? ⟨Bh, k, none⟩ = some (.int .i64 (hasAt (bsF bs) ms k)) from by
        have h2 : Below w1.heap.size w1 W := HMM.out.trans (h1.mono HMM.out.size)
        refine ⟨HCL.out W h2, ?_⟩
        have h3 := (HR.out.old h1).cell (k := k) (by rw [hlen]; omega)
        rw [has_get hlt] at h3
        exact h3))
      have HCA := Lib.hid (fun (W : World) (hW : Below wr.heap.size wr W) => HCB.out W (HB.out.trans (hW.mono hzr)))
      have HW1 := Lib.hid (fun (W : World) (hW : Below wr.heap.size wr W) => (show Below w1.heap.size w1 W from HMM.out.trans ((HB.out.trans (hW.mono hzr)).mono HMM.out.size)))
      have HSO2 := Lib.hid (fun (W : World) (hW : Below wr.heap.size wr W) => HSO.out.old (HB.out.trans (hW.mono hzr)))
      generalize hasAt (bsF bs) ms k = x at HHB HMX HMAY HCA HCB
      generalize mostF bs.length (bsF bs) (othersT nb l) ms k = y at HQ1 HMX HM0 HMAY
      generalize mostF bs.length (bsF bs) l ms k = z at HQ2 HMAY
      have k0 : (0 : Int) ≤ (k : Int) := by omega
      have k1 : (k : Int) < (nb : Int) := by omega
      have HWR := Lib.hid (show IntKind.i64.wrap (x - y) = x - y from IntWalk.i64_in _ (by have := HMX.out; have := HM0.out; have := HHB.out; omega))
      go_upto_region 9 with fail
      have hM : Below wr.heap.size wr wr.drew := (Below.refl _ wr).drew
      refine wp_region_PL [4, 5, 10] (fun W => (W.cell? ⟨w.heap.size, 0, none⟩ = some (.slice Ab nb cb) ∧ W.cell? ⟨w.heap.size, 1, none⟩ = some (.slice Am nm cm)) ∧ W.cell? ⟨Bh, k, none⟩ = some (.int .i64 x)) rfl (by kernel_rfl) (HCA.out _ hM) (fun hF0 => ?_)
      (refine wpAnyP_takeL (i := 0) (v := ?_) rfl (by kernel_rfl) (by kernel_rfl) (by kernel_rfl) (fun _ _ _ h => h) (by rfl) ?_ ?_; rotate_left 1; focus (intro w; go_simp; try with_reducible rfl))
      try simp only [Act.put, List.setIfInBounds_toArray, List.set_cons_zero, List.set_cons_succ]
      (refine wpAnyP_takeL (i := 1) (v := ?_) rfl (by kernel_rfl) (by kernel_rfl) (by kernel_rfl) (fun _ _ _ h => h) (by rfl) ?_ ?_; rotate_left 1; focus (intro w; go_simp; try with_reducible rfl))
      try simp only [Act.put, List.setIfInBounds_toArray, List.set_cons_zero, List.set_cons_succ]
      (refine wpAnyP_takeL (i := 2) (v := ?_) rfl (by kernel_rfl) (by kernel_rfl) (by kernel_rfl) (fun _ _ _ h => h) (by rfl) ?_ ?_; rotate_left 1; focus (intro w; go_simp; try with_reducible rfl))
      try simp only [Act.put, List.setIfInBounds_toArray, List.set_cons_zero, List.set_cons_succ]
      (refine wpAnyP_takeL (i := 3) (v := ?_) rfl (by kernel_rfl) (by kernel_rfl) (by kernel_rfl) (fun _ _ _ h => h) (by rfl) ?_ ?_; rotate_left 1; focus (intro w; go_simp; try with_reducible rfl))
      try simp only [Act.put, List.setIfInBounds_toArray, List.set_cons_zero, List.set_cons_succ]
      (refine wpAnyP_loadL (i := 4) (v := ?_) rfl (by kernel_rfl) (by kernel_rfl) (by kernel_rfl) (by rfl) (fun _ _ _ h => h) hF0 (by rfl) ?_ ?_; rotate_left 1; focus (intro w hFw; (try dsimp only at hFw); go_split_ands; go_simp; try with_reducible rfl))
      try simp only [Act.put, List.setIfInBounds_toArray, List.set_cons_zero, List.set_cons_succ]
      (refine wpAnyP_loadL (i := 5) (v := ?_) rfl (by kernel_rfl) (by kernel_rfl) (by kernel_rfl) (by rfl) (fun _ _ _ h => h) hF0 (by rfl) ?_ ?_; rotate_left 1; focus (intro w hFw; (try dsimp only at hFw); go_split_ands; go_simp; try with_reducible rfl))
      try simp only [Act.put, List.setIfInBounds_toArray, List.set_cons_zero, List.set_cons_succ]
      (refine wpAnyP_takeL (i := 6) (v := ?_) rfl (by kernel_rfl) (by kernel_rfl) (by kernel_rfl) (fun _ _ _ h => h) (by rfl) ?_ ?_; rotate_left 1; focus (intro w; go_simp; try with_reducible rfl))
      try simp only [Act.put, List.setIfInBounds_toArray, List.set_cons_zero, List.set_cons_succ]
      (refine wpAnyP_takeL (i := 7) (v := ?_) rfl (by kernel_rfl) (by kernel_rfl) (by kernel_rfl) (fun _ _ _ h => h) (by rfl) ?_ ?_; rotate_left 1; focus (intro w; go_simp; try with_reducible rfl))
      try simp only [Act.put, List.setIfInBounds_toArray, List.set_cons_zero, List.set_cons_succ]
      (refine wpAnyP_loadL (i := 10) (v := ?_) rfl (by kernel_rfl) (by kernel_rfl) (by kernel_rfl) (by rfl) (fun _ _ _ h => h) hF0 (by rfl) ?_ ?_; rotate_left 1; focus (intro w hFw; (try dsimp only at hFw); go_split_ands; go_simp; try with_reducible rfl))
      try simp only [Act.put, List.setIfInBounds_toArray, List.set_cons_zero, List.set_cons_succ]
      (refine wpAnyP_takeL (i := 11) (v := ?_) rfl (by kernel_rfl) (by kernel_rfl) (by kernel_rfl) (fun _ _ _ h => h) (by rfl) ?_ ?_; rotate_left 1; focus (intro w; go_simp; try with_reducible rfl))
      try simp only [Act.put, List.setIfInBounds_toArray, List.set_cons_zero, List.set_cons_succ]
      (refine wpAnyP_takeL (i := 12) (v := ?_) rfl (by kernel_rfl) (by kernel_rfl) (by kernel_rfl) (fun _ _ _ h => h) (by rfl) ?_ ?_; rotate_left 1; focus (intro w; go_simp; try with_reducible rfl))
      try simp only [Act.put, List.setIfInBounds_toArray, List.set_cons_zero, List.set_cons_succ]
      refine wpAnyP_step (i := 8) rfl (by kernel_rfl) (by rfl) (fun K hK => ?_)
      go_simp
      (refine (HQ1.out _ (HW1.out _ hM) (HSO2.out _ hM)).mono ?_; rintro e wA ⟨rfl, hBA⟩; have hM := hM.trans (hBA.mono hM.size))
      (refine hK _ _ (HCA.out _ hM) (fun hF1 => ?_); clear hK K hF0)
      try simp only [Act.put, List.setIfInBounds_toArray, List.set_cons_zero, List.set_cons_succ]
      (refine wpAnyP_takeL (i := 9) (v := ?_) rfl (by kernel_rfl) (by kernel_rfl) (by kernel_rfl) (fun _ _ _ h => h) (by rfl) ?_ ?_; rotate_left 1; focus (intro w; go_simp; (first | (rw [HWR.out]) | (with_reducible rfl))))
      try simp only [Act.put, List.setIfInBounds_toArray, List.set_cons_zero, List.set_cons_succ]
      refine wpAnyP_step (i := 13) rfl (by kernel_rfl) (by rfl) (fun K hK => ?_)
      go_simp
      (refine (HQ2.out _ (HW1.out _ hM)).mono ?_; rintro e wC ⟨rfl, hBC⟩; have hM := hM.trans (hBC.mono hM.size))
      (refine hK _ _ (HCA.out _ hM) (fun hF2 => ?_); clear hK K hF1)
      try simp only [Act.put, List.setIfInBounds_toArray, List.set_cons_zero, List.set_cons_succ]
      (refine wpAnyP_takeL (i := 14) (v := ?_) rfl (by kernel_rfl) (by kernel_rfl) (by kernel_rfl) (fun _ _ _ h => h) (by rfl) ?_ ?_; rotate_left 1; focus (intro w; go_simp; try with_reducible rfl))
      try simp only [Act.put, List.setIfInBounds_toArray, List.set_cons_zero, List.set_cons_succ]
      refine wpAnyP_step (i := 15) rfl (by kernel_rfl) (by rfl) (fun K hK => ?_)
      go_simp
      (refine hK _ _ (HCA.out _ (hM.alloc hM.size _)) (fun hF3 => ?_); clear hK K hF2)
      try simp only [Act.put, List.setIfInBounds_toArray, List.set_cons_zero, List.set_cons_succ]
      refine wpAnyP_step (i := 16) rfl (by kernel_rfl) (by rfl) (fun K hK => ?_)
      (have hO6 := ownsRow_below HOW2.out (hM.alloc hM.size (.cells #[.int .i64 (x - y), .int .i64 z] 48)) (Nat.le_refl _); have hMM := hM.alloc hM.size (.cells #[.int .i64 (x - y), .int .i64 z] 48); refine wp_append_sl _ _ 44 rfl wo.heap.size 48 i0 _ 16 Try.underlying44 hi iz0 iz1 iz2 rfl (by omega) encR_len _ k _ rfl hO6 wC.heap.size _ 1 1 [⟨x - y, z⟩] rfl (spanNew wC (x - y) z) oneR (by unfold maxLen; omega) (by omega) (Nat.le_trans hzr hMM.size) ?_; intro A7 c7 w7 hO7 hg7 _; have HO7 := Lib.hid hO7; have HB7 := Lib.hid (below_own hO6 hg7 (HB.out.trans (hMM.mono hzr)) (Nat.le_refl _) (Nat.le_refl _)))
      (refine hK _ _ (HCB.out _ HB7.out) (fun hF4 => ?_); clear hK K hF3)
      try simp only [Act.put, List.setIfInBounds_toArray, List.set_cons_zero, List.set_cons_succ]
      (refine wpAnyP_takeL (i := 17) (v := ?_) rfl (by kernel_rfl) (by kernel_rfl) (by kernel_rfl) (fun _ _ _ h => h) (by rfl) ?_ ?_; rotate_left 1; focus (intro w; go_simp; try with_reducible rfl))
      try simp only [Act.put, List.setIfInBounds_toArray, List.set_cons_zero, List.set_cons_succ]
      refine wpAnyP_done (by kernel_rfl) ?_ _
      go_wp2_with fail
      have ho7 := HO7.out
      rw [← List.flatMap_append, ← HMAY.out, ← HSN.out] at ho7
      go_roundw
      case rel => exact ⟨k + 1, c7, A7, by omega, by go_num, rfl, ho7, HB7.out⟩
      case measure => simp [intOf]; omega
    · obtain rfl : k = nb := by omega
      obtain ⟨bR, hbR, hS⟩ := Sl.of_own (enc := encR) encR_len (by rw [List.length_map, rg_length]) HOW2.out
      have HS := Lib.hid hS
      clear hS
      go_wp2_with fail
      go_ret2
      refine ⟨A, c, bR, rfl, ?_, by have := HBW.out.size; have := HMM.out.size; omega, HBW.out.trans ((HMM.out.trans (HB.out.mono HMM.out.size)).mono HBW.out.size)⟩
      have h := HS.out
      unfold reachT
      rw [← HNB.out]; exact h
set_option maxHeartbeats 1000000 in
theorem qReach_err (b1 b2 b3 : Nat) (Ab Am Ao : Option Addr) (nb cb nm cm no co : Nat) (bs : List Int) (ms : List Mv) (l : List Int) (w : World) (hM : NetM w b1 b2 Ab Am nb cb nm cm bs ms) (hnb : nb ≤ 100000) (hnm : nm ≤ 100000) (hO : Sl encI 1 w b3 Ao no l) (hno : no ≤ 100000) (hc : chkO bs ms l ≠ 0) :
    Calls Try.prog 45 #[netV Ab Am nb cb nm cm, .slice Ao no co] w fun e w' => e = .returned (.tuple #[.slice none 0 0, .int .i64 (chkO bs ms l)]) ∧ Below w.heap.size w w' := by
  have hBn := Blk.new w 25 #[.slice Ab nb cb, .slice Am nm cm]
  have c0 := hBn.cell 0
  have c1 := hBn.cell 1
  have hb0 : Below w.heap.size w (w.alloc (.cells #[.slice Ab nb cb, .slice Am nm cm] 25)) := (Below.refl _ w).alloc (Nat.le_refl _) _
  have hcon := qcheckO_any b1 b2 b3 Ab Am Ao nb cb nm cm no co bs ms l _ (hM.old hb0) hnb hnm (hO.old hb0) hno
  obtain ⟨x, hx⟩ : ∃ x, x = chkO bs ms l := ⟨_, rfl⟩
  rw [← hx] at hcon hc ⊢
  have hxx : (x == 0) = false := by simp [hc]
  have hxx2 : (x != 0) = true := by simp [hc]
  have HC := Lib.hid hcon
  have HB0 := Lib.hid hb0
  clear hcon hx hc hBn hM hO hb0
  go_enter Try.func45, Try.ntmps45
  go_wp2_with (go_at_call 59; refine HC.out.mono ?_; rintro e w1 ⟨rfl, hb1⟩; have HB1 := Lib.hid hb1; clear hb1)
  go_ret2
  exact ⟨rfl, HB0.out.trans (HB1.out.mono (by simp))⟩
set_option maxHeartbeats 1000000 in
theorem qThrough_err (b1 b2 b3 : Nat) (Ab Am Ao : Option Addr) (nb cb nm cm no co : Nat) (bs : List Int) (ms : List Mv) (l : List Int) (w : World) (hM : NetM w b1 b2 Ab Am nb cb nm cm bs ms) (hnb : nb ≤ 100000) (hnm : nm ≤ 100000) (hO : Sl encI 1 w b3 Ao no l) (hno : no ≤ 100000) (hc : chkO bs ms l ≠ 0) :
    Calls Try.prog 46 #[netV Ab Am nb cb nm cm, .slice Ao no co] w fun e w' => e = .returned (.tuple #[.slice none 0 0, .int .i64 (chkO bs ms l)]) ∧ Below w.heap.size w w' := by
  have hBn := Blk.new w 25 #[.slice Ab nb cb, .slice Am nm cm]
  have c0 := hBn.cell 0
  have c1 := hBn.cell 1
  have hb0 : Below w.heap.size w (w.alloc (.cells #[.slice Ab nb cb, .slice Am nm cm] 25)) := (Below.refl _ w).alloc (Nat.le_refl _) _
  have hcon := qcheckO_any b1 b2 b3 Ab Am Ao nb cb nm cm no co bs ms l _ (hM.old hb0) hnb hnm (hO.old hb0) hno
  obtain ⟨x, hx⟩ : ∃ x, x = chkO bs ms l := ⟨_, rfl⟩
  rw [← hx] at hcon hc ⊢
  have hxx : (x == 0) = false := by simp [hc]
  have hxx2 : (x != 0) = true := by simp [hc]
  have HC := Lib.hid hcon
  have HB0 := Lib.hid hb0
  clear hcon hx hc hBn hM hO hb0
  go_enter Try.func46, Try.ntmps46
  go_wp2_with (go_at_call 59; refine HC.out.mono ?_; rintro e w1 ⟨rfl, hb1⟩; have HB1 := Lib.hid hb1; clear hb1)
  go_ret2
  exact ⟨rfl, HB0.out.trans (HB1.out.mono (by simp))⟩
set_option maxRecDepth 100000 in
set_option maxHeartbeats 2000000 in
theorem qThrough_ok (b1 b2 b3 : Nat) (Ab Am Ao : Option Addr) (nb cb nm cm no co : Nat) (bs : List Int) (ms : List Mv) (l : List Int) (w : World) (hM : NetM w b1 b2 Ab Am nb cb nm cm bs ms) (hO : Sl encI 1 w b3 Ao no l) (hc : chkO bs ms l = 0) :
    Calls Try.prog 46 #[netV Ab Am nb cb nm cm, .slice Ao no co] w fun e w' => ∃ A c bR, e = .returned (.tuple #[.slice A nm c, .int .i64 0]) ∧ Sl encR 2 w' bR A nm (throughT bs ms l) ∧ w.heap.size ≤ bR ∧ Below w.heap.size w w' := by
  obtain ⟨i0, hi, iz0, iz1, iz2⟩ := info_parts info_spanF
  obtain ⟨hN, hl⟩ := chkO_in hc
  have hBn := Blk.new w 25 #[.slice Ab nb cb, .slice Am nm cm]
  have c0 := hBn.cell 0
  have c1 := hBn.cell 1
  have hb0 : Below w.heap.size w (w.alloc (.cells #[.slice Ab nb cb, .slice Am nm cm] 25)) := (Below.refl _ w).alloc (Nat.le_refl _) _
  have hnb := hM.b.len
  have hnm := hM.m.len
  have hnb8 : nb ≤ 8 := by have := hN.n1; omega
  have hnm12 : nm ≤ 12 := by have := hN.m1; omega
  have hno8 : no ≤ 8 := by have := hO.len; have := orig_len hl.nodup hl.rg hN.n1; omega
  have hcon := qcheckO_any b1 b2 b3 Ab Am Ao nb cb nm cm no co bs ms l _ (hM.old hb0) (by omega) (by omega) (hO.old hb0) (by omega)
  rw [hc] at hcon
  have HC := Lib.hid hcon
  have HB0 := Lib.hid hb0
  have HBN := Lib.hid hBn
  have HM := Lib.hid hM
  have HO := Lib.hid hO
  have HN := Lib.hid hN
  have HL := Lib.hid hl
  have HNB := Lib.hid hnb
  have HNM := Lib.hid hnm
  clear hcon hBn hM hO hb0 hN hl hnb hnm hc
  go_enter Try.func46, Try.ntmps46
  go_upto_region 4 with (go_at_call 59; refine HC.out.mono ?_; rintro e w1 ⟨rfl, hb1⟩; have HB1 := Lib.hid hb1; clear hb1)
  have HBW := Lib.hid (HB0.out.trans (HB1.out.mono (by simp)))
  have HBN1 := Lib.hid (HBN.out.below HB1.out HBN.out.lt)
  have HCL := Lib.hid (fun (W : World) (hW : Below w1.heap.size w1 W) => (show W.cell? ⟨w.heap.size, 0, none⟩ = some (.slice Ab nb cb) ∧ W.cell? ⟨w.heap.size, 1, none⟩ = some (.slice Am nm cm) from ⟨(HBN1.out.below hW HBN1.out.lt).cell 0, (HBN1.out.below hW HBN1.out.lt).cell 1⟩))
  have HMW := Lib.hid (fun (W : World) (hW : Below w1.heap.size w1 W) => HM.out.old (HBW.out.trans (hW.mono HBW.out.size)))
  have HOW := Lib.hid (fun (W : World) (hW : Below w1.heap.size w1 W) => HO.out.old (HBW.out.trans (hW.mono HBW.out.size)))
  clear c0 c1
  obtain ⟨d0, d1⟩ := HCL.out w1 (Below.refl _ w1)
  go_wp2_with (go_at_call 37; refine (rothers_any nb cb nm cm b3 no co Ab Am Ao l _ (HOW.out _ (Below.refl _ w1)) (by omega) (by omega)).mono ?_; rintro e wB ⟨AO, cO, rfl, hown, hBB⟩; obtain ⟨bO, hbO, hsO⟩ := Sl.of_own (enc := encI) encI_len rfl hown; have HSO := Lib.hid hsO; have HMM := Lib.hid hBB; clear hown hsO hBB hbO)
  clear d0 d1
  obtain ⟨wo, rfl⟩ : ∃ wo : World, wo = wB := ⟨_, rfl⟩
  go_loopw [8, 9] (fun ov iv wr => ∃ (k c : Nat) (A : Option Addr), k ≤ nm ∧ iv = .int .i64 k ∧ ov = .slice A k c ∧ wr.ownsRow wo.heap.size 48 2 (.slice A k c) k ((thrT bs l [] (ms.take k)).flatMap encR) ∧ Below wo.heap.size wo wr) (fun _ iv _ => nm - (intOf iv).toNat)
  case atStart => exact ⟨0, 0, none, Nat.zero_le _, rfl, rfl, World.ownsRow_nil _ _ _ _, Below.refl _ _⟩
  case round =>
    obtain ⟨k, c, A, hk, rfl, rfl, hown, hB⟩ := hrel
    have HOW2 := Lib.hid hown
    have HB := Lib.hid hB
    have hzr := hB.size
    have HW0 := Lib.hid (HMM.out.trans (hB.mono HMM.out.size))
    clear hown hB
    by_cases hlt : k < nm
    · have hkm : k < ms.length := by have := HNM.out; omega
      obtain ⟨o, rfl, hbz, s0, s1, s2⟩ := (HMW.out wr HW0.out).m.atM hkm
      have HSN := Lib.hid (ThrNext (bs := bs) (l := l) hkm)
      have HQ1 := Lib.hid (fun (W : World) (hW : Below w1.heap.size w1 W) (hs : Sl encI 1 W bO AO (othersT nb l).length (othersT nb l)) => qmostM b1 b2 bO Ab _ AO nb cb nm cm _ cO bs ms (othersT nb l) k W HN.out (HMW.out W hW) hs (by rw [HNB.out]; exact (others_in _ _).rg) (others_in _ _).nodup hkm)
      have HQ2 := Lib.hid (fun (W : World) (hW : Below w1.heap.size w1 W) => qmostM b1 b2 b3 Ab _ Ao nb cb nm cm no co bs ms l k W HN.out (HMW.out W hW) (HOW.out W hW) HL.out.rg HL.out.nodup hkm)
      have HGB := Lib.hid (HN.out.g_bd hkm)
      have HM0 := Lib.hid (mostF_nonneg HN.out.pos (HN.out.ms.take k) (othersT nb l) ms[k].fr)
      have HMAY := Lib.hid (show takeT bs l (ms.take k) ms[k] = ⟨ms[k].g - min ms[k].g (mostF bs.length (bsF bs) (othersT nb l) (ms.take k) ms[k].fr), min ms[k].g (mostF bs.length (bsF bs) l (ms.take k) ms[k].fr)⟩ from by rw [HNB.out]; rfl)
      have HCB := Lib.hid (fun (W : World) (h1 : Below wo.heap.size wo W) => (show (W.cell? ⟨w.heap.size, 0, none⟩ = some (.slice Ab nb cb) ∧ W.cell? ⟨w.heap.size, 1, none⟩ = some (.slice (some ⟨b2, o, none⟩) nm cm)) ∧ W.cell? ⟨b2, o + k * 3 + 2, none⟩ = some (.int .i64 ms[k].g) from by
        have h2 : Below w1.heap.size w1 W := HMM.out.trans (h1.mono HMM.out.size)
        obtain ⟨o', ho', _, _, _, t2⟩ := (HMW.out W h2).m.atM hkm
        injection ho' with ho'
        injection ho' with _ ho'
        subst ho'
        exact ⟨HCL.out W h2, t2⟩))
      have HCA := Lib.hid (fun (W : World) (hW : Below wr.heap.size wr W) => HCB.out W (HB.out.trans (hW.mono hzr)))
      have HW1 := Lib.hid (fun (W : World) (hW : Below wr.heap.size wr W) => (show Below w1.heap.size w1 W from HMM.out.trans ((HB.out.trans (hW.mono hzr)).mono HMM.out.size)))
      have HSO2 := Lib.hid (fun (W : World) (hW : Below wr.heap.size wr W) => HSO.out.old (HB.out.trans (hW.mono hzr)))
      have HMN := Lib.hid (Int.min_le_left ms[k].g (mostF bs.length (bsF bs) (othersT nb l) (ms.take k) ms[k].fr))
      have HMP := Lib.hid (show 0 ≤ min ms[k].g (mostF bs.length (bsF bs) (othersT nb l) (ms.take k) ms[k].fr) from by have := HM0.out; have := HGB.out; omega)
      generalize min ms[k].g (mostF bs.length (bsF bs) (othersT nb l) (ms.take k) ms[k].fr) = y at HQ1 HMN HMP HMAY
      generalize min ms[k].g (mostF bs.length (bsF bs) l (ms.take k) ms[k].fr) = z at HQ2 HMAY
      generalize ms[k] = m at HGB HMAY HCA HCB HMN HSN
      obtain ⟨mf, mt, x⟩ := m
      simp only at HGB HMAY HCA HCB HMN
      have k0 : (0 : Int) ≤ (k : Int) := by omega
      have k1 : (k : Int) < (nm : Int) := by omega
      have HWR := Lib.hid (show IntKind.i64.wrap (x - y) = x - y from IntWalk.i64_in _ (by have := HMN.out; have := HMP.out; have := HGB.out; omega))
      obtain ⟨⟨d0, d1⟩, d2⟩ := HCA.out wr (Below.refl _ wr)
      clear s0 s1 s2
      go_upto_region 9 with fail
      clear d0 d1 d2
      have hM : Below wr.heap.size wr wr.drew := (Below.refl _ wr).drew
      refine wp_region_PL [2, 6, 7, 12] (fun W => (W.cell? ⟨w.heap.size, 0, none⟩ = some (.slice Ab nb cb) ∧ W.cell? ⟨w.heap.size, 1, none⟩ = some (.slice (some ⟨b2, o, none⟩) nm cm)) ∧ W.cell? ⟨b2, o + k * 3 + 2, none⟩ = some (.int .i64 x)) rfl (by kernel_rfl) (HCA.out _ hM) (fun hF0 => ?_)
      (refine wpAnyP_takeL (i := 0) (v := ?_) rfl (by kernel_rfl) (by kernel_rfl) (by kernel_rfl) (fun _ _ _ h => h) (by rfl) ?_ ?_; rotate_left 1; focus (intro w; go_simp; try with_reducible rfl))
      try simp only [Act.put, List.setIfInBounds_toArray, List.set_cons_zero, List.set_cons_succ]
      (refine wpAnyP_takeL (i := 1) (v := ?_) rfl (by kernel_rfl) (by kernel_rfl) (by kernel_rfl) (fun _ _ _ h => h) (by rfl) ?_ ?_; rotate_left 1; focus (intro w; go_simp; try with_reducible rfl))
      try simp only [Act.put, List.setIfInBounds_toArray, List.set_cons_zero, List.set_cons_succ]
      (refine wpAnyP_loadL (i := 2) (v := ?_) rfl (by kernel_rfl) (by kernel_rfl) (by kernel_rfl) (by rfl) (fun _ _ _ h => h) hF0 (by rfl) ?_ ?_; rotate_left 1; focus (intro w hFw; (try dsimp only at hFw); go_split_ands; go_simp; try with_reducible rfl))
      try simp only [Act.put, List.setIfInBounds_toArray, List.set_cons_zero, List.set_cons_succ]
      (refine wpAnyP_takeL (i := 3) (v := ?_) rfl (by kernel_rfl) (by kernel_rfl) (by kernel_rfl) (fun _ _ _ h => h) (by rfl) ?_ ?_; rotate_left 1; focus (intro w; go_simp; try with_reducible rfl))
      try simp only [Act.put, List.setIfInBounds_toArray, List.set_cons_zero, List.set_cons_succ]
      (refine wpAnyP_takeL (i := 4) (v := ?_) rfl (by kernel_rfl) (by kernel_rfl) (by kernel_rfl) (fun _ _ _ h => h) (by rfl) ?_ ?_; rotate_left 1; focus (intro w; go_simp; try with_reducible rfl))
      try simp only [Act.put, List.setIfInBounds_toArray, List.set_cons_zero, List.set_cons_succ]
      (refine wpAnyP_takeL (i := 5) (v := ?_) rfl (by kernel_rfl) (by kernel_rfl) (by kernel_rfl) (fun _ _ _ h => h) (by rfl) ?_ ?_; rotate_left 1; focus (intro w; go_simp; try with_reducible rfl))
      try simp only [Act.put, List.setIfInBounds_toArray, List.set_cons_zero, List.set_cons_succ]
      (refine wpAnyP_loadL (i := 6) (v := ?_) rfl (by kernel_rfl) (by kernel_rfl) (by kernel_rfl) (by rfl) (fun _ _ _ h => h) hF0 (by rfl) ?_ ?_; rotate_left 1; focus (intro w hFw; (try dsimp only at hFw); go_split_ands; go_simp; try with_reducible rfl))
      try simp only [Act.put, List.setIfInBounds_toArray, List.set_cons_zero, List.set_cons_succ]
      (refine wpAnyP_loadL (i := 7) (v := ?_) rfl (by kernel_rfl) (by kernel_rfl) (by kernel_rfl) (by rfl) (fun _ _ _ h => h) hF0 (by rfl) ?_ ?_; rotate_left 1; focus (intro w hFw; (try dsimp only at hFw); go_split_ands; go_simp; try with_reducible rfl))
      try simp only [Act.put, List.setIfInBounds_toArray, List.set_cons_zero, List.set_cons_succ]
      (refine wpAnyP_takeL (i := 8) (v := ?_) rfl (by kernel_rfl) (by kernel_rfl) (by kernel_rfl) (fun _ _ _ h => h) (by rfl) ?_ ?_; rotate_left 1; focus (intro w; go_simp; try with_reducible rfl))
      try simp only [Act.put, List.setIfInBounds_toArray, List.set_cons_zero, List.set_cons_succ]
      (refine wpAnyP_takeL (i := 9) (v := ?_) rfl (by kernel_rfl) (by kernel_rfl) (by kernel_rfl) (fun _ _ _ h => h) (by rfl) ?_ ?_; rotate_left 1; focus (intro w; go_simp; try with_reducible rfl))
      try simp only [Act.put, List.setIfInBounds_toArray, List.set_cons_zero, List.set_cons_succ]
      (refine wpAnyP_loadL (i := 12) (v := ?_) rfl (by kernel_rfl) (by kernel_rfl) (by kernel_rfl) (by rfl) (fun _ _ _ h => h) hF0 (by rfl) ?_ ?_; rotate_left 1; focus (intro w hFw; (try dsimp only at hFw); go_split_ands; go_simp; try with_reducible rfl))
      try simp only [Act.put, List.setIfInBounds_toArray, List.set_cons_zero, List.set_cons_succ]
      (refine wpAnyP_takeL (i := 13) (v := ?_) rfl (by kernel_rfl) (by kernel_rfl) (by kernel_rfl) (fun _ _ _ h => h) (by rfl) ?_ ?_; rotate_left 1; focus (intro w; go_simp; try with_reducible rfl))
      try simp only [Act.put, List.setIfInBounds_toArray, List.set_cons_zero, List.set_cons_succ]
      (refine wpAnyP_takeL (i := 14) (v := ?_) rfl (by kernel_rfl) (by kernel_rfl) (by kernel_rfl) (fun _ _ _ h => h) (by rfl) ?_ ?_; rotate_left 1; focus (intro w; go_simp; try with_reducible rfl))
      try simp only [Act.put, List.setIfInBounds_toArray, List.set_cons_zero, List.set_cons_succ]
      refine wpAnyP_step (i := 10) rfl (by kernel_rfl) (by rfl) (fun K hK => ?_)
      go_simp
      (refine (HQ1.out _ (HW1.out _ hM) (HSO2.out _ hM)).mono ?_; rintro e wA ⟨rfl, hBA⟩; have hM := hM.trans (hBA.mono hM.size))
      (refine hK _ _ (HCA.out _ hM) (fun hF1 => ?_); clear hK K hF0)
      try simp only [Act.put, List.setIfInBounds_toArray, List.set_cons_zero, List.set_cons_succ]
      (refine wpAnyP_takeL (i := 11) (v := ?_) rfl (by kernel_rfl) (by kernel_rfl) (by kernel_rfl) (fun _ _ _ h => h) (by rfl) ?_ ?_; rotate_left 1; focus (intro w; go_simp; (first | (rw [HWR.out]) | (with_reducible rfl))))
      try simp only [Act.put, List.setIfInBounds_toArray, List.set_cons_zero, List.set_cons_succ]
      refine wpAnyP_step (i := 15) rfl (by kernel_rfl) (by rfl) (fun K hK => ?_)
      go_simp
      (refine (HQ2.out _ (HW1.out _ hM)).mono ?_; rintro e wC ⟨rfl, hBC⟩; have hM := hM.trans (hBC.mono hM.size))
      (refine hK _ _ (HCA.out _ hM) (fun hF2 => ?_); clear hK K hF1)
      try simp only [Act.put, List.setIfInBounds_toArray, List.set_cons_zero, List.set_cons_succ]
      (refine wpAnyP_takeL (i := 16) (v := ?_) rfl (by kernel_rfl) (by kernel_rfl) (by kernel_rfl) (fun _ _ _ h => h) (by rfl) ?_ ?_; rotate_left 1; focus (intro w; go_simp; try with_reducible rfl))
      try simp only [Act.put, List.setIfInBounds_toArray, List.set_cons_zero, List.set_cons_succ]
      refine wpAnyP_step (i := 17) rfl (by kernel_rfl) (by rfl) (fun K hK => ?_)
      go_simp
      (refine hK _ _ (HCA.out _ (hM.alloc hM.size _)) (fun hF3 => ?_); clear hK K hF2)
      try simp only [Act.put, List.setIfInBounds_toArray, List.set_cons_zero, List.set_cons_succ]
      refine wpAnyP_step (i := 18) rfl (by kernel_rfl) (by rfl) (fun K hK => ?_)
      (have hO6 := ownsRow_below HOW2.out (hM.alloc hM.size (.cells #[.int .i64 (x - y), .int .i64 z] 48)) (Nat.le_refl _); have hMM := hM.alloc hM.size (.cells #[.int .i64 (x - y), .int .i64 z] 48); refine wp_append_sl _ _ 44 rfl wo.heap.size 48 i0 _ 16 Try.underlying44 hi iz0 iz1 iz2 rfl (by omega) encR_len _ k _ rfl hO6 wC.heap.size _ 1 1 [⟨x - y, z⟩] rfl (spanNew wC (x - y) z) oneR (by unfold maxLen; omega) (by omega) (Nat.le_trans hzr hMM.size) ?_; intro A7 c7 w7 hO7 hg7 _; have HO7 := Lib.hid hO7; have HB7 := Lib.hid (below_own hO6 hg7 (HB.out.trans (hMM.mono hzr)) (Nat.le_refl _) (Nat.le_refl _)))
      (refine hK _ _ (HCB.out _ HB7.out) (fun hF4 => ?_); clear hK K hF3)
      try simp only [Act.put, List.setIfInBounds_toArray, List.set_cons_zero, List.set_cons_succ]
      (refine wpAnyP_takeL (i := 19) (v := ?_) rfl (by kernel_rfl) (by kernel_rfl) (by kernel_rfl) (fun _ _ _ h => h) (by rfl) ?_ ?_; rotate_left 1; focus (intro w; go_simp; try with_reducible rfl))
      try simp only [Act.put, List.setIfInBounds_toArray, List.set_cons_zero, List.set_cons_succ]
      refine wpAnyP_done (by kernel_rfl) ?_ _
      go_wp2_with fail
      have ho7 := HO7.out
      rw [← List.flatMap_append, ← HMAY.out, ← HSN.out] at ho7
      go_roundw
      case rel => exact ⟨k + 1, c7, A7, by omega, by go_num, rfl, ho7, HB7.out⟩
      case measure => simp [intOf]; omega
    · obtain rfl : k = nm := by omega
      obtain ⟨bR, hbR, hS⟩ := Sl.of_own (enc := encR) encR_len (by rw [thrT_len, List.length_take]; have := HNM.out; omega) HOW2.out
      have HS := Lib.hid hS
      obtain ⟨d0, d1⟩ := HCL.out wr HW0.out
      clear hS
      go_wp2_with fail
      go_ret2
      refine ⟨A, c, bR, rfl, ?_, by have := HBW.out.size; have := HMM.out.size; omega, HBW.out.trans (HW0.out.mono HBW.out.size)⟩
      have h := HS.out
      rw [List.take_of_length_le (by have := HNM.out; omega)] at h
      exact h
end Go.Proofs.Ytkphgdkjjklajaa

namespace Go.Proofs.Ytkphgdkjjklajaa
open Go.RowKit Go.Shelf Go.Sort

theorem own_capN {w : World} {base : Nat} {e : TypeId} {m : Nat} {A : Option Addr} {n c : Nat} {xs : List Value} (h : w.ownsRow base e m (.slice A n c) n xs) : n ≤ c := by
  rcases h.2 with ⟨hv, hx⟩ | ⟨g, cap, cur, hv, hbg, hh, hnc, hcm, hcs, htake⟩
  · injection hv with _ h2 _; omega
  · injection hv with _ _ h3; omega
theorem own_emptyN {V W : World} (e : TypeId) (sz : Nat) (h : Below V.heap.size V W) : ∃ G, G = W.heap.size ∧ (W.alloc (.cells #[] e)).ownsRow V.heap.size e sz (.slice (some ⟨G, 0, none⟩) 0 0) 0 [] := ⟨_, rfl, own_empty W e sz V.heap.size _ rfl h.size⟩
theorem info_moveN : (Try.prog.info? 61).map (fun i => (i.zero, i.size, i.bytes)) = some (some (.agg #[.int .i64 0, .int .i64 0, .int .i64 0]), 3, 24) := by kernel_rfl
theorem oneMvN (x : Mv) : ∀ u ∈ encM x, u.oneCell' = true := by simp [encM, Value.oneCell']
/-- what a copy of a net answers -/
def CopyPost (nb nm : Nat) (bs : List Int) (ms : List Mv) (w : World) (e : Ending) (w' : World) : Prop :=
  ∃ (Ab Am : Option Addr) (cb cm : Nat), e = .returned (netV Ab Am nb cb nm cm) ∧ w'.ownsRow w.heap.size 3 1 (.slice Ab nb cb) nb (bs.flatMap encI) ∧ w'.ownsRow w.heap.size 61 3 (.slice Am nm cm) nm (ms.flatMap encM) ∧
    (∀ g, Value.ownBlock (.slice Ab nb cb) = some g → Value.ownBlock (.slice Am nm cm) ≠ some g) ∧ Below w.heap.size w w'
theorem copyEnd {w V W : World} {nb nm cb cm : Nat} {Ab Am : Option Addr} {bs : List Int} {ms : List Mv} (hz : w.heap.size + 2 = V.heap.size) (h1 : W.ownsRow V.heap.size 3 1 (.slice Ab nb cb) nb (bs.flatMap encI)) (h2 : W.ownsRow V.heap.size 61 3 (.slice Am nm cm) nm (ms.flatMap encM))
    (h3 : ∀ g, Value.ownBlock (.slice Ab nb cb) = some g → Value.ownBlock (.slice Am nm cm) ≠ some g) (hV : Below V.heap.size V W) (hVW : Below w.heap.size w V) : CopyPost nb nm bs ms w (.returned (netV Ab Am nb cb nm cm)) ((W.setCell ⟨w.heap.size + 1, 0, none⟩ (.slice Ab nb cb)).setCell ⟨w.heap.size + 1, 1, none⟩ (.slice Am nm cm)) := by
  have hlt : w.heap.size + 1 < V.heap.size := by omega
  refine ⟨Ab, Am, cb, cm, rfl, ownsRow_base (ownsRow_setCell (ownsRow_setCell h1 hlt _) hlt _) (by omega), ownsRow_base (ownsRow_setCell (ownsRow_setCell h2 hlt _) hlt _) (by omega), h3, ?_⟩
  have hb := hVW.trans (hV.mono (by omega : w.heap.size ≤ V.heap.size))
  exact (hb.setCell (p := ⟨w.heap.size + 1, 0, none⟩) (by show w.heap.size ≤ w.heap.size + 1; omega) _).setCell (p := ⟨w.heap.size + 1, 1, none⟩) (by show w.heap.size ≤ w.heap.size + 1; omega) _
set_option maxHeartbeats 2000000 in
theorem copyNet_any (b1 b2 : Nat) (Ab Am : Option Addr) (nb cb nm cm : Nat) (bs : List Int) (ms : List Mv) (w : World) (hM : NetM w b1 b2 Ab Am nb cb nm cm bs ms) (hnb : nb ≤ 1000) (hnm : nm ≤ 1000) :
    Calls Try.prog 19 #[netV Ab Am nb cb nm cm] w (CopyPost nb nm bs ms w) := by
  obtain ⟨i0, hi, iz0, iz1, iz2⟩ := info_parts info_moveN
  have HNB := Lib.hid hM.b.len
  have HNM := Lib.hid hM.m.len
  have HM := Lib.hid hM
  clear hM
  go_enter Try.func19, Try.ntmps19
  go_upto_region 1 with fail
  have hBn := (Blk.new w 25 #[.slice Ab nb cb, .slice Am nm cm]).alloc (.cells #[.slice none 0 0, .slice none 0 0] 25)
  have hBr := Blk.new (w.alloc (.cells #[.slice Ab nb cb, .slice Am nm cm] 25)) 25 #[.slice none 0 0, .slice none 0 0]
  rw [World.size_alloc] at hBr
  have hVw : Below w.heap.size w ((w.alloc (.cells #[.slice Ab nb cb, .slice Am nm cm] 25)).alloc (.cells #[.slice none 0 0, .slice none 0 0] 25)) := by go_grown
  obtain ⟨V, hVe⟩ : ∃ V, (w.alloc (.cells #[.slice Ab nb cb, .slice Am nm cm] 25)).alloc (.cells #[.slice none 0 0, .slice none 0 0] 25) = V := ⟨_, rfl⟩
  have hz : w.heap.size + 2 = V.heap.size := by rw [← hVe]; simp
  rw [hVe] at hBn hBr hVw ⊢
  have HBN := Lib.hid hBn
  have HBR := Lib.hid hBr
  have HVW := Lib.hid hVw
  have HZ := Lib.hid hz
  have HF := Lib.hid (fun (W : World) (hW : Below V.heap.size V W) => (show W.cell? ⟨w.heap.size, 0, none⟩ = some (.slice Ab nb cb) ∧ W.cell? ⟨w.heap.size, 1, none⟩ = some (.slice Am nm cm) from ⟨(HBN.out.below hW HBN.out.lt).cell 0, (HBN.out.below hW HBN.out.lt).cell 1⟩))
  have HMV := Lib.hid (HM.out.old HVW.out)
  clear hVe hBn hBr hVw hz
  have hV : Below V.heap.size V V.drew := (Below.refl _ V).drew
  refine wp_region_K2 [1, 5] [] (fun W => W.cell? ⟨w.heap.size, 0, none⟩ = some (.slice Ab nb cb) ∧ W.cell? ⟨w.heap.size, 1, none⟩ = some (.slice Am nm cm)) (fun _ => True) rfl (by kernel_rfl) (HF.out _ hV) (trivial) (fun hF0 hG0 => ?_)
  (refine wpAnyK_takeL Keep2.refl (i := 0) (v := ?_) rfl (by kernel_rfl) (by kernel_rfl) (by kernel_rfl) (fun _ _ _ h => h) (by rfl) ?_ ?_; rotate_left 1; focus (intro w; go_simp; try with_reducible rfl))
  try simp only [Act.put, List.setIfInBounds_toArray, List.set_cons_zero, List.set_cons_succ]
  (refine wpAnyK_loadL Keep2.refl (i := 1) (v := ?_) rfl (Keep2.left (i := 1) (by rfl)) (by kernel_rfl) (by kernel_rfl) (by kernel_rfl) (fun _ _ _ h => h) hF0 (by rfl) ?_ ?_; rotate_left 1; focus (intro w hFw; (try dsimp only at hFw); go_split_ands; go_simp; try with_reducible rfl))
  try simp only [Act.put, List.setIfInBounds_toArray, List.set_cons_zero, List.set_cons_succ]
  (refine wpAnyK_takeL Keep2.refl (i := 4) (v := ?_) rfl (by kernel_rfl) (by kernel_rfl) (by kernel_rfl) (fun _ _ _ h => h) (by rfl) ?_ ?_; rotate_left 1; focus (intro w; go_simp; try with_reducible rfl))
  try simp only [Act.put, List.setIfInBounds_toArray, List.set_cons_zero, List.set_cons_succ]
  (refine wpAnyK_loadL Keep2.refl (i := 5) (v := ?_) rfl (Keep2.left (i := 5) (by rfl)) (by kernel_rfl) (by kernel_rfl) (by kernel_rfl) (fun _ _ _ h => h) hF0 (by rfl) ?_ ?_; rotate_left 1; focus (intro w hFw; (try dsimp only at hFw); go_split_ands; go_simp; try with_reducible rfl))
  try simp only [Act.put, List.setIfInBounds_toArray, List.set_cons_zero, List.set_cons_succ]
  refine wpAnyK_all (rs := [2, 3]) (by kernel_rfl) (by simp) ?_
  refine List.forall_mem_cons.2 ⟨?_, List.forall_mem_cons.2 ⟨?_, fun _ h => absurd h List.not_mem_nil⟩⟩
  · refine wpOp_of rfl (by rfl) (fun K hK => ?_)
    go_simp
    (refine (copyInts_any b1 nb cb Ab bs _ (HMV.out.b.old hV) (by omega)).mono ?_; rintro e w7 ⟨A5, c5, rfl, hown, hB7⟩; have hI := ownsRow_base hown hV.size; (try have hNE : ∀ g, Value.ownBlock (.slice A5 nb c5) = some g → g ≠ G := fun g hg => Ne.symm (Nat.ne_of_lt (Nat.lt_of_lt_of_le (hE.lt G rfl).2 (hown.lt g hg).1))); (try replace hE := ownsRow_below hE hB7 (Nat.le_refl _)); replace hV := hV.trans (hB7.mono hV.size); clear hown hB7)
    (refine hK _ _ ⟨⟨fun _ _ => HF.out _ hV, fun h => absurd h (by decide)⟩, ?_⟩; clear hK K)
    (refine wpAnyK_with (F := fun W => W.cell? ⟨w.heap.size, 0, none⟩ = some (.slice Ab nb cb) ∧ W.cell? ⟨w.heap.size, 1, none⟩ = some (.slice Am nm cm)) (HF.out _ hV) (fun hF1 => ?_); clear hF0)
    try simp only [Act.put, List.setIfInBounds_toArray, List.set_cons_zero, List.set_cons_succ]
    refine wpAnyK_step (i := 3) rfl (by kernel_rfl) (by rfl) (fun K hK => ?_)
    go_simp
    (obtain ⟨G, hGe, hE⟩ := own_emptyN 61 3 hV; (try have hNE : ∀ g, Value.ownBlock (.slice A5 nb c5) = some g → g ≠ G := fun g hg => (by rw [hGe]; exact Nat.ne_of_lt (hI.lt g hg).2)); (try replace hI := hI.alloc (.cells #[] 61)); replace hV := hV.alloc hV.size (.cells #[] 61))
    (refine hK _ _ (⟨fun _ _ => HF.out _ hV, fun h => absurd h (by decide)⟩) ?_; clear hK K)
    (refine wpAnyK_with (F := fun W => W.cell? ⟨w.heap.size, 0, none⟩ = some (.slice Ab nb cb) ∧ W.cell? ⟨w.heap.size, 1, none⟩ = some (.slice Am nm cm)) (HF.out _ hV) (fun hF2 => ?_); clear hF1)
    try simp only [Act.put, List.setIfInBounds_toArray, List.set_cons_zero, List.set_cons_succ]
    refine wpAnyK_step (i := 6) rfl (by kernel_rfl) (by rfl) (fun K hK => ?_)
    ((try simp only [World.size_alloc, World.size_drew] at hGe); subst hGe; refine wp_append_sl _ _ _ rfl V.heap.size 61 i0 _ 24 Try.underlying23 hi iz0 iz1 iz2 rfl (by omega) encM_len _ 0 [] (by rfl) hE b2 Am nm cm ms (by rfl) (HMV.out.m.old hV) oneMvN (by unfold maxLen; omega) (by omega) hV.size ?_; intro Am9 cm9 w9 hownm hgrow hat; simp only [Nat.zero_add, List.nil_append] at hownm hat; (have hNM : ∀ g, Value.ownBlock (.slice A5 nb c5) = some g → Value.ownBlock (.slice Am9 nm cm9) ≠ some g := fun g hg e => hat.elim (fun h => hNE g hg (Option.some.inj ((e.symm.trans h).trans rfl))) (fun h => absurd (Option.some.inj (e.symm.trans h)) (Nat.ne_of_lt (hI.lt g hg).2))); replace hI := hI.kept hgrow (by cases hob : Value.ownBlock (.slice A5 nb c5) with | none => exact .inl rfl | some k => exact .inr (fun e => hNE k hob (Option.some.inj e))); replace hV := below_own hE hgrow hV (Nat.le_refl _) (Nat.le_refl _); clear hE hgrow hat hNE)
    (refine hK _ _ (⟨fun _ _ => HF.out _ hV, fun h => absurd h (by decide)⟩) ?_; clear hK K)
    (refine wpAnyK_with (F := fun W => W.cell? ⟨w.heap.size, 0, none⟩ = some (.slice Ab nb cb) ∧ W.cell? ⟨w.heap.size, 1, none⟩ = some (.slice Am nm cm)) (HF.out _ hV) (fun hF3 => ?_); clear hF2)
    try simp only [Act.put, List.setIfInBounds_toArray, List.set_cons_zero, List.set_cons_succ]
    (refine wpAnyK_takeL Keep2.refl (i := 7) (v := ?_) rfl (by kernel_rfl) (by kernel_rfl) (by kernel_rfl) (fun _ _ _ h => h) (by rfl) ?_ ?_; rotate_left 1; focus (intro w; go_simp; try with_reducible rfl))
    try simp only [Act.put, List.setIfInBounds_toArray, List.set_cons_zero, List.set_cons_succ]
    refine wpAnyK_step (i := 8) rfl (by kernel_rfl) (by rfl) (fun K hK => ?_)
    go_simp
    (have hBR := HBR.out.below hV HBR.out.lt; have f0 := hBR.frozen 0; have f1 := hBR.frozen 1; have c0 := hBR.cell 0; have c1 := hBR.cell 1; go_simp)
    (refine hK _ _ (Keep2.no (by kernel_rfl) (by kernel_rfl)) ?_; clear hK K)
    try simp only [Act.put, List.setIfInBounds_toArray, List.set_cons_zero, List.set_cons_succ]
    refine wpAnyK_done (by kernel_rfl) ?_ _
    have hR := (hBR.set_ 0 (.slice A5 nb c5)).set_ 1 (.slice Am9 nm cm9)
    have q0 := hR.cell 0
    have q1 := hR.cell 1
    have HHI := Lib.hid hI
    have HHM := Lib.hid hownm
    have HNX := Lib.hid hNM
    have HHV := Lib.hid hV
    clear hI hownm hNM hV hBR hR
    go_wp2_with fail
    refine bodyPost_ret (v := netV A5 Am9 nb c5 nm cm9) (by simp [results, Try.results19, go_sem, q0, q1]) rfl ?_
    exact copyEnd HZ.out HHI.out HHM.out HNX.out HHV.out HVW.out
  · refine wpOp_of rfl (by rfl) (fun K hK => ?_)
    go_simp
    (obtain ⟨G, hGe, hE⟩ := own_emptyN 61 3 hV; (try have hNE : ∀ g, Value.ownBlock (.slice A5 nb c5) = some g → g ≠ G := fun g hg => (by rw [hGe]; exact Nat.ne_of_lt (hI.lt g hg).2)); (try replace hI := hI.alloc (.cells #[] 61)); replace hV := hV.alloc hV.size (.cells #[] 61))
    (refine hK _ _ ⟨⟨fun _ _ => HF.out _ hV, fun h => absurd h (by decide)⟩, ?_⟩; clear hK K)
    (refine wpAnyK_with (F := fun W => W.cell? ⟨w.heap.size, 0, none⟩ = some (.slice Ab nb cb) ∧ W.cell? ⟨w.heap.size, 1, none⟩ = some (.slice Am nm cm)) (HF.out _ hV) (fun hF5 => ?_); clear hF0)
    try simp only [Act.put, List.setIfInBounds_toArray, List.set_cons_zero, List.set_cons_succ]
    refine wpAnyK_step (i := 2) rfl (by kernel_rfl) (by rfl) (fun K hK => ?_)
    go_simp
    (refine (copyInts_any b1 nb cb Ab bs _ (HMV.out.b.old hV) (by omega)).mono ?_; rintro e w7 ⟨A5, c5, rfl, hown, hB7⟩; have hI := ownsRow_base hown hV.size; (try have hNE : ∀ g, Value.ownBlock (.slice A5 nb c5) = some g → g ≠ G := fun g hg => Ne.symm (Nat.ne_of_lt (Nat.lt_of_lt_of_le (hE.lt G rfl).2 (hown.lt g hg).1))); (try replace hE := ownsRow_below hE hB7 (Nat.le_refl _)); replace hV := hV.trans (hB7.mono hV.size); clear hown hB7)
    (refine hK _ _ (⟨fun _ _ => HF.out _ hV, fun h => absurd h (by decide)⟩) ?_; clear hK K)
    (refine wpAnyK_with (F := fun W => W.cell? ⟨w.heap.size, 0, none⟩ = some (.slice Ab nb cb) ∧ W.cell? ⟨w.heap.size, 1, none⟩ = some (.slice Am nm cm)) (HF.out _ hV) (fun hF6 => ?_); clear hF5)
    try simp only [Act.put, List.setIfInBounds_toArray, List.set_cons_zero, List.set_cons_succ]
    refine wpAnyK_step (i := 6) rfl (by kernel_rfl) (by rfl) (fun K hK => ?_)
    ((try simp only [World.size_alloc, World.size_drew] at hGe); subst hGe; refine wp_append_sl _ _ _ rfl V.heap.size 61 i0 _ 24 Try.underlying23 hi iz0 iz1 iz2 rfl (by omega) encM_len _ 0 [] (by rfl) hE b2 Am nm cm ms (by rfl) (HMV.out.m.old hV) oneMvN (by unfold maxLen; omega) (by omega) hV.size ?_; intro Am9 cm9 w9 hownm hgrow hat; simp only [Nat.zero_add, List.nil_append] at hownm hat; (have hNM : ∀ g, Value.ownBlock (.slice A5 nb c5) = some g → Value.ownBlock (.slice Am9 nm cm9) ≠ some g := fun g hg e => hat.elim (fun h => hNE g hg (Option.some.inj ((e.symm.trans h).trans rfl))) (fun h => absurd (Option.some.inj (e.symm.trans h)) (Nat.ne_of_lt (hI.lt g hg).2))); replace hI := hI.kept hgrow (by cases hob : Value.ownBlock (.slice A5 nb c5) with | none => exact .inl rfl | some k => exact .inr (fun e => hNE k hob (Option.some.inj e))); replace hV := below_own hE hgrow hV (Nat.le_refl _) (Nat.le_refl _); clear hE hgrow hat hNE)
    (refine hK _ _ (⟨fun _ _ => HF.out _ hV, fun h => absurd h (by decide)⟩) ?_; clear hK K)
    (refine wpAnyK_with (F := fun W => W.cell? ⟨w.heap.size, 0, none⟩ = some (.slice Ab nb cb) ∧ W.cell? ⟨w.heap.size, 1, none⟩ = some (.slice Am nm cm)) (HF.out _ hV) (fun hF7 => ?_); clear hF6)
    try simp only [Act.put, List.setIfInBounds_toArray, List.set_cons_zero, List.set_cons_succ]
    (refine wpAnyK_takeL Keep2.refl (i := 7) (v := ?_) rfl (by kernel_rfl) (by kernel_rfl) (by kernel_rfl) (fun _ _ _ h => h) (by rfl) ?_ ?_; rotate_left 1; focus (intro w; go_simp; try with_reducible rfl))
    try simp only [Act.put, List.setIfInBounds_toArray, List.set_cons_zero, List.set_cons_succ]
    refine wpAnyK_step (i := 8) rfl (by kernel_rfl) (by rfl) (fun K hK => ?_)
    go_simp
    (have hBR := HBR.out.below hV HBR.out.lt; have f0 := hBR.frozen 0; have f1 := hBR.frozen 1; have c0 := hBR.cell 0; have c1 := hBR.cell 1; go_simp)
    (refine hK _ _ (Keep2.no (by kernel_rfl) (by kernel_rfl)) ?_; clear hK K)
    try simp only [Act.put, List.setIfInBounds_toArray, List.set_cons_zero, List.set_cons_succ]
    refine wpAnyK_done (by kernel_rfl) ?_ _
    have hR := (hBR.set_ 0 (.slice A5 nb c5)).set_ 1 (.slice Am9 nm cm9)
    have q0 := hR.cell 0
    have q1 := hR.cell 1
    have HHI := Lib.hid hI
    have HHM := Lib.hid hownm
    have HNX := Lib.hid hNM
    have HHV := Lib.hid hV
    clear hI hownm hNM hV hBR hR
    go_wp2_with fail
    refine bodyPost_ret (v := netV A5 Am9 nb c5 nm cm9) (by simp [results, Try.results19, go_sem, q0, q1]) rfl ?_
    exact copyEnd HZ.out HHI.out HHM.out HNX.out HHV.out HVW.out
theorem ok_if3 {p q r : Prop} {_ : Decidable p} {_ : Decidable q} {_ : Decidable r} {w : World} :
    (if p then if q then if r then Result.ok (Next.value (.bool true)) w else Result.ok (Next.value (.bool false)) w else Result.ok (Next.value (.bool false)) w else Result.ok (Next.value (.bool false)) w) =
      Result.ok (Next.value (.bool (decide p && (decide q && decide r)))) w := by
  by_cases hp : p <;> by_cases hq : q <;> by_cases hr : r <;> simp [hp, hq, hr]
set_option maxHeartbeats 1000000 in
theorem sameNets_any (b1 b2 b3 b4 : Nat) (Ab Am Ac An : Option Addr) (nb cb nm cm nc cc nn cn : Nat) (bs cs : List Int) (ms ns : List Mv) (w : World) (hM : NetM w b1 b2 Ab Am nb cb nm cm bs ms) (hN : NetM w b3 b4 Ac An nc cc nn cn cs ns) (hnb : nb ≤ 1000000) (hnm : nm ≤ 1000000) :
    Calls Try.prog 24 #[netV Ab Am nb cb nm cm, netV Ac An nc cc nn cn] w fun e w' => e = .returned (.bool (decide (bs = cs) && decide (ms = ns))) ∧ Below w.heap.size w w' := by
  have HA := Lib.hid hM.m.len
  have HB := Lib.hid hN.m.len
  have HM := Lib.hid hM
  have HN := Lib.hid hN
  clear hM hN
  have hB1 := (Blk.new w 25 #[.slice Ab nb cb, .slice Am nm cm]).alloc (.cells #[.slice Ac nc cc, .slice An nn cn] 25)
  have hB2 := Blk.new (w.alloc (.cells #[.slice Ab nb cb, .slice Am nm cm] 25)) 25 #[.slice Ac nc cc, .slice An nn cn]
  rw [World.size_alloc] at hB2
  have HB0 := Lib.hid (show Below w.heap.size w ((w.alloc (.cells #[.slice Ab nb cb, .slice Am nm cm] 25)).alloc (.cells #[.slice Ac nc cc, .slice An nn cn] 25)) from by go_grown)
  have HM0 := Lib.hid (HM.out.old HB0.out)
  have HN0 := Lib.hid (HN.out.old HB0.out)
  have c0 := hB1.cell 0
  have c1 := hB2.cell 0
  have HB1 := Lib.hid hB1
  have HB2 := Lib.hid hB2
  clear hB1 hB2
  go_enter Try.func24, Try.ntmps24
  go_upto_region 1 with fail
  obtain ⟨V, hV⟩ : ∃ V, (w.alloc (.cells #[.slice Ab nb cb, .slice Am nm cm] 25)).alloc (.cells #[.slice Ac nc cc, .slice An nn cn] 25) = V := ⟨_, rfl⟩
  have hz : w.heap.size + 2 = V.heap.size := by rw [← hV]; simp
  rw [hV] at HB0 HM0 HN0 HB1 HB2 c0 c1 ⊢
  clear hV
  have hsame := sameInts_any b1 b3 nb nc cb cc Ab Ac bs cs V HM0.out.b HN0.out.b (by omega)
  have HS := Lib.hid hsame
  clear hsame
  have hkeep : ∀ W, Below V.heap.size V W → (W.cell? ⟨w.heap.size, 1, none⟩ = some (.slice Am nm cm) ∧ W.cell? ⟨w.heap.size + 1, 1, none⟩ = some (.slice An nn cn)) := fun W h => ⟨(HB1.out.below h HB1.out.lt).cell 1, (HB2.out.below h HB2.out.lt).cell 1⟩
  have HK := Lib.hid hkeep
  clear hkeep
  by_cases hbs : bs = cs
  · have e0 : decide (bs = cs) = true := decide_eq_true hbs
    have HE0 := Lib.hid e0
    go_wp2_with (go_at_call 23; refine HS.out.mono ?_; rintro e w1 ⟨rfl, hB3⟩; obtain ⟨q0, q1⟩ := HK.out w1 hB3; have HV1 := Lib.hid hB3; clear hB3)
    obtain ⟨wo, rfl⟩ : ∃ wo : World, wo = w1 := ⟨_, rfl⟩
    go_loopw [5, 6] (fun v i wr => ∃ (k : Nat) (s : Bool), i = .int .i64 k ∧ v = .bool s ∧ k ≤ nm ∧ (s = true → nm = nn) ∧ (s && decide (ms.drop k = ns.drop k)) = decide (ms = ns) ∧ Below V.heap.size V wr) (fun _ i _ => nm - (intOf i).toNat)
    case atStart =>
      refine ⟨0, decide (nm = nn), rfl, ?_, Nat.zero_le _, by simp, ?_, HV1.out⟩
      · congr 1
        by_cases h : nm = nn
        · simp [h]
        · simp only [h, decide_false, beq_eq_false_iff_ne]
          omega
      · by_cases h : nm = nn
        · simp [h]
        · have : ¬ ms = ns := fun e => h (by rw [HA.out, HB.out, e])
          simp [h, this]
    case round =>
      obtain ⟨k, s, rfl, rfl, hk, hs, hd, hB⟩ := hrel
      have HD := Lib.hid hd
      have HBW := Lib.hid (HB0.out.trans (hB.mono (by omega : w.heap.size ≤ V.heap.size)))
      have HBB := Lib.hid hB
      obtain ⟨r0, r1⟩ := HK.out wr hB
      clear hd
      cases s with
      | false =>
        clear hB
        go_wp2_with fail
        go_ret
        exact ⟨ret_bool (by rw [← HD.out, HE0.out]; rfl), HBW.out⟩
      | true =>
        have hnn := hs rfl
        have HNN := Lib.hid hnn
        clear hnn hs
        by_cases hlt : k < nm
        · have HLT := Lib.hid hlt
          obtain ⟨o1, rfl, hb1, p0, p1, p2⟩ := (HM0.out.m.old hB).atM (k := k) (by have := HA.out; omega)
          obtain ⟨o2, rfl, hb2, t0, t1, t2⟩ := (HN0.out.m.old hB).atM (k := k) (by have := HB.out; have := HNN.out; omega)
          have hlt2 : (k : Int) < (nn : Int) := by have := HNN.out; omega
          have hlt1 : (k : Int) < (nm : Int) := by omega
          have hk0 : (0 : Int) ≤ (k : Int) := by omega
          have hd1 : decide ((k : Int) < (nm : Int)) = true := by simpa using hlt1
          generalize hx : ms[k]'(by have := HA.out; omega) = x at p0 p1 p2
          generalize hy : ns[k]'(by have := HB.out; have := HNN.out; omega) = y at t0 t1 t2
          have HX := Lib.hid hx
          have HY := Lib.hid hy
          clear hx hy hB
          go_wp2_with fail
          refine wp_region_PL [1, 4, 6, 9] (fun W => W.cell? ⟨w.heap.size, 1, none⟩ = some (.slice (some ⟨b2, o1, none⟩) nm cm) ∧ W.cell? ⟨w.heap.size + 1, 1, none⟩ = some (.slice (some ⟨b4, o2, none⟩) nn cn) ∧ (W.cell? ⟨b2, o1 + k * 3, none⟩ = some (.int .i64 x.fr) ∧ W.cell? ⟨b2, o1 + k * 3 + 1, none⟩ = some (.int .i64 x.to) ∧ W.cell? ⟨b2, o1 + k * 3 + 2, none⟩ = some (.int .i64 x.g)) ∧ (W.cell? ⟨b4, o2 + k * 3, none⟩ = some (.int .i64 y.fr) ∧ W.cell? ⟨b4, o2 + k * 3 + 1, none⟩ = some (.int .i64 y.to) ∧ W.cell? ⟨b4, o2 + k * 3 + 2, none⟩ = some (.int .i64 y.g))) rfl (by kernel_rfl) (⟨r0, r1, ⟨p0, p1, p2⟩, ⟨t0, t1, t2⟩⟩) (fun hF0 => ?_)
          (refine wpAnyP_takeL (i := 0) (v := ?_) rfl (by kernel_rfl) (by kernel_rfl) (by kernel_rfl) (fun _ _ _ h => h) (by rfl) ?_ ?_; rotate_left 1; focus (intro w; go_simp; try with_reducible rfl))
          try simp only [Act.put, List.setIfInBounds_toArray, List.set_cons_zero, List.set_cons_succ]
          (refine wpAnyP_loadL (i := 1) (v := ?_) rfl (by kernel_rfl) (by kernel_rfl) (by kernel_rfl) (by rfl) (fun _ _ _ h => h) hF0 (by rfl) ?_ ?_; rotate_left 1; focus (intro w hFw; (try dsimp only at hFw); go_split_ands; go_simp; try with_reducible rfl))
          try simp only [Act.put, List.setIfInBounds_toArray, List.set_cons_zero, List.set_cons_succ]
          (refine wpAnyP_takeL (i := 2) (v := ?_) rfl (by kernel_rfl) (by kernel_rfl) (by kernel_rfl) (fun _ _ _ h => h) (by rfl) ?_ ?_; rotate_left 1; focus (intro w; go_simp; try with_reducible rfl))
          try simp only [Act.put, List.setIfInBounds_toArray, List.set_cons_zero, List.set_cons_succ]
          (refine wpAnyP_takeL (i := 3) (v := ?_) rfl (by kernel_rfl) (by kernel_rfl) (by kernel_rfl) (fun _ _ _ h => h) (by rfl) ?_ ?_; rotate_left 1; focus (intro w; go_simp; try with_reducible rfl))
          try simp only [Act.put, List.setIfInBounds_toArray, List.set_cons_zero, List.set_cons_succ]
          (refine wpAnyP_loadL (i := 4) (v := ?_) rfl (by kernel_rfl) (by kernel_rfl) (by kernel_rfl) (by rfl) (fun _ _ _ h => h) hF0 (by rfl) ?_ ?_; rotate_left 1; focus (intro w hFw; (try dsimp only at hFw); go_split_ands; go_simp; try with_reducible rfl))
          try simp only [Act.put, List.setIfInBounds_toArray, List.set_cons_zero, List.set_cons_succ]
          (refine wpAnyP_takeL (i := 5) (v := ?_) rfl (by kernel_rfl) (by kernel_rfl) (by kernel_rfl) (fun _ _ _ h => h) (by rfl) ?_ ?_; rotate_left 1; focus (intro w; go_simp; try with_reducible rfl))
          try simp only [Act.put, List.setIfInBounds_toArray, List.set_cons_zero, List.set_cons_succ]
          (refine wpAnyP_loadL (i := 6) (v := ?_) rfl (by kernel_rfl) (by kernel_rfl) (by kernel_rfl) (by rfl) (fun _ _ _ h => h) hF0 (by rfl) ?_ ?_; rotate_left 1; focus (intro w hFw; (try dsimp only at hFw); go_split_ands; go_simp; try with_reducible rfl))
          try simp only [Act.put, List.setIfInBounds_toArray, List.set_cons_zero, List.set_cons_succ]
          (refine wpAnyP_takeL (i := 7) (v := ?_) rfl (by kernel_rfl) (by kernel_rfl) (by kernel_rfl) (fun _ _ _ h => h) (by rfl) ?_ ?_; rotate_left 1; focus (intro w; go_simp; try with_reducible rfl))
          try simp only [Act.put, List.setIfInBounds_toArray, List.set_cons_zero, List.set_cons_succ]
          (refine wpAnyP_takeL (i := 8) (v := ?_) rfl (by kernel_rfl) (by kernel_rfl) (by kernel_rfl) (fun _ _ _ h => h) (by rfl) ?_ ?_; rotate_left 1; focus (intro w; go_simp; try with_reducible rfl))
          try simp only [Act.put, List.setIfInBounds_toArray, List.set_cons_zero, List.set_cons_succ]
          (refine wpAnyP_loadL (i := 9) (v := ?_) rfl (by kernel_rfl) (by kernel_rfl) (by kernel_rfl) (by rfl) (fun _ _ _ h => h) hF0 (by rfl) ?_ ?_; rotate_left 1; focus (intro w hFw; (try dsimp only at hFw); go_split_ands; go_simp; try with_reducible rfl))
          try simp only [Act.put, List.setIfInBounds_toArray, List.set_cons_zero, List.set_cons_succ]
          (refine wpAnyP_takeL (i := 10) (v := ?_) rfl (by kernel_rfl) (by kernel_rfl) (by kernel_rfl) (fun _ _ _ h => h) (by rfl) ?_ ?_; rotate_left 1; focus (intro w; go_simp; exact ok_if3))
          try simp only [Act.put, List.setIfInBounds_toArray, List.set_cons_zero, List.set_cons_succ]
          (refine wpAnyP_takeL (i := 11) (v := ?_) rfl (by kernel_rfl) (by kernel_rfl) (by kernel_rfl) (fun _ _ _ h => h) (by rfl) ?_ ?_; rotate_left 1; focus (intro w; go_simp; try with_reducible rfl))
          try simp only [Act.put, List.setIfInBounds_toArray, List.set_cons_zero, List.set_cons_succ]
          refine wpAnyP_done (by kernel_rfl) ?_ _
          go_wp2_with fail
          go_roundw
          case rel =>
            refine ⟨k + 1, _, by go_num, rfl, by omega, fun _ => HNN.out, ?_, HBB.out.drew⟩
            rw [← HD.out, drop_eq (a := ms) (b := ns) (k := k) (by have := HA.out; have := HLT.out; omega) (by have := HB.out; have := HNN.out; have := HLT.out; omega), HX.out, HY.out]
            rw [show decide (x = y) = (decide (x.fr = y.fr) && (decide (x.to = y.to) && decide (x.g = y.g))) from by cases x; cases y; simp [Bool.eq_iff_iff]]
            simp
          case measure => simp [intOf]; omega
        · have HG := Lib.hid (show nm ≤ k by omega)
          have hd1 : decide ((k : Int) < (nm : Int)) = false := by simp; omega
          clear hB
          go_wp2_with fail
          go_ret
          refine ⟨ret_bool ?_, HBW.out⟩
          rw [HE0.out, ← HD.out, drop_all (a := ms) (b := ns) (k := k) (by have := HA.out; have := HG.out; omega) (by have := HB.out; have := HNN.out; have := HG.out; omega)]
          rfl
  · have e0 : decide (bs = cs) = false := decide_eq_false hbs
    go_wp2_with (go_at_call 23; refine HS.out.mono ?_; rintro e w1 ⟨rfl, hB3⟩; obtain ⟨q0, q1⟩ := HK.out w1 hB3; have HV1 := Lib.hid hB3; clear hB3)
    go_rounds 1
    go_ret
    exact ⟨ret_bool (by rw [e0]; rfl), HB0.out.trans (HV1.out.mono (by omega : w.heap.size ≤ V.heap.size))⟩
end Go.Proofs.Ytkphgdkjjklajaa

namespace Go.Proofs.Ytkphgdkjjklajaa
open Go.RowKit Go.Shelf Go.Sort

/-- a list and an error number -/
def AnsI (chk : Int) (l : List Int) (w : World) (e : Ending) (w' : World) : Prop :=
  ∃ (A : Option Addr) (n c b : Nat), e = .returned (.tuple #[.slice A n c, .int .i64 chk]) ∧ Sl encI 1 w' b A n (if chk = 0 then l else []) ∧ n ≤ 1000 ∧ Below w.heap.size w w'
def AnsR (chk : Int) (l : List Span) (w : World) (e : Ending) (w' : World) : Prop :=
  ∃ (A : Option Addr) (n c b : Nat), e = .returned (.tuple #[.slice A n c, .int .i64 chk]) ∧ Sl encR 2 w' b A n (if chk = 0 then l else []) ∧ n ≤ 1000 ∧ Below w.heap.size w w'
theorem AnsI.err {chk : Int} {l : List Int} {w w' : World} {e : Ending} (hc : chk ≠ 0) (h : e = .returned (.tuple #[.slice none 0 0, .int .i64 chk]) ∧ Below w.heap.size w w') : AnsI chk l w e w' :=
  ⟨none, 0, 0, 0, h.1, by rw [if_neg hc]; exact Sl.nil _ _ _, Nat.zero_le _, h.2⟩
theorem AnsR.err {chk : Int} {l : List Span} {w w' : World} {e : Ending} (hc : chk ≠ 0) (h : e = .returned (.tuple #[.slice none 0 0, .int .i64 chk]) ∧ Below w.heap.size w w') : AnsR chk l w e w' :=
  ⟨none, 0, 0, 0, h.1, by rw [if_neg hc]; exact Sl.nil _ _ _, Nat.zero_le _, h.2⟩
theorem RowC.sl {w : World} {g : Nat} {l : List Int} (h : RowC w g l) : Sl encI 1 w g (some ⟨g, 0, none⟩) l.length l :=
  ⟨rfl, fun _ => ⟨0, rfl, h.lt, fun k hk j u hu => by
    cases j with
    | zero => simp only [encI, List.getElem?_cons_zero, Option.some.injEq] at hu; subst hu; simpa using h.cell hk
    | succ j => simp [encI] at hu⟩⟩
section
variable {b1 b2 b3 nb cb nm cm no co : Nat} {Ab Am Ao : Option Addr} {bs : List Int} {ms : List Mv} {l : List Int} {w : World}
theorem Holds_err (hM : NetM w b1 b2 Ab Am nb cb nm cm bs ms) (hnb : nb ≤ 100000) (hnm : nm ≤ 100000) (hc : chkNet bs ms ≠ 0) :
    Calls Try.prog 36 #[netV Ab Am nb cb nm cm] w fun e w' => e = .returned (.tuple #[.slice none 0 0, .int .i64 (chkNet bs ms)]) ∧ Below w.heap.size w w' := by
  have hBn := Blk.new w 25 #[.slice Ab nb cb, .slice Am nm cm]
  have c0 := hBn.cell 0
  have c1 := hBn.cell 1
  have hb0 : Below w.heap.size w (w.alloc (.cells #[.slice Ab nb cb, .slice Am nm cm] 25)) := (Below.refl _ w).alloc (Nat.le_refl _) _
  have hcon := check_any b1 b2 Ab Am nb cb nm cm bs ms _ (hM.old hb0) hnb hnm
  obtain ⟨x, hx⟩ : ∃ x, x = chkNet bs ms := ⟨_, rfl⟩
  rw [← hx] at hcon hc ⊢
  have hxx : (x == 0) = false := by simp [hc]
  have hxx2 : (x != 0) = true := by simp [hc]
  have HC := Lib.hid hcon
  have HB0 := Lib.hid hb0
  clear hcon hx hc hBn hM hb0
  go_enter Try.func36, Try.ntmps36
  go_wp2_with (go_at_call 47; refine HC.out.mono ?_; rintro e w1 ⟨rfl, hb1⟩; have HB1 := Lib.hid hb1; clear hb1)
  go_ret2
  exact ⟨rfl, HB0.out.trans (HB1.out.mono (by simp))⟩
theorem holdsU (hM : NetM w b1 b2 Ab Am nb cb nm cm bs ms) (hnb : nb ≤ 100000) (hnm : nm ≤ 100000) : Calls Try.prog 36 #[netV Ab Am nb cb nm cm] w (AnsI (chkNet bs ms) (holdsT bs ms) w) := by
  by_cases hc : chkNet bs ms = 0
  · refine (Holds_ok b1 b2 Ab Am nb cb nm cm bs ms w hM hc).mono fun e w' ⟨g, c, he, ho, hb⟩ => ?_
    have hn := netIn_of hc
    have hl : nb = (holdsT bs ms).length := by unfold holdsT; rw [List.length_map, rg_length]; exact hM.b.len
    obtain ⟨bR, _, hs⟩ := Sl.of_own (enc := encI) encI_len hl ho
    exact ⟨_, nb, c, bR, by rw [he, hc], by rw [if_pos hc]; exact hs, by have := hM.b.len; have := hn.n1; omega, hb⟩
  · exact (Holds_err hM hnb hnm hc).mono fun e w' h => AnsI.err hc h
theorem qholdsU (hM : NetM w b1 b2 Ab Am nb cb nm cm bs ms) (hnb : nb ≤ 100000) (hnm : nm ≤ 100000) : Calls Try.prog 44 #[netV Ab Am nb cb nm cm] w (AnsI (chkNet bs ms) (holdsT bs ms) w) := by
  by_cases hc : chkNet bs ms = 0
  · refine (qHolds_ok b1 b2 Ab Am nb cb nm cm bs ms w hM hc).mono fun e w' ⟨g, c, he, _, hr, hb⟩ => ?_
    have hn := netIn_of hc
    have hl : nb = (holdsT bs ms).length := by unfold holdsT; rw [List.length_map, rg_length]; exact hM.b.len
    exact ⟨_, nb, c, g, by rw [he, hc], by rw [if_pos hc, hl]; exact hr.sl, by have := hM.b.len; have := hn.n1; omega, hb⟩
  · exact (qHolds_err b1 b2 Ab Am nb cb nm cm bs ms w hM hnb hnm hc).mono fun e w' h => AnsI.err hc h
theorem reachU (hM : NetM w b1 b2 Ab Am nb cb nm cm bs ms) (hnb : nb ≤ 100000) (hnm : nm ≤ 100000) (hO : Sl encI 1 w b3 Ao no l) (hno : no ≤ 100000) : Calls Try.prog 26 #[netV Ab Am nb cb nm cm, .slice Ao no co] w (AnsR (chkO bs ms l) (reachT bs ms l) w) := by
  by_cases hc : chkO bs ms l = 0
  · refine (Reach_ok b1 b2 b3 Ab Am Ao nb cb nm cm no co bs ms l w hM hO hc).mono fun e w' ⟨A, c, he, ho, hb⟩ => ?_
    have hn := (chkO_in hc).1
    obtain ⟨bR, _, hs⟩ := Sl.of_own (enc := encR) encR_len (by unfold reachT; rw [List.length_map, rg_length]; exact hM.b.len) ho
    exact ⟨_, nb, c, bR, by rw [he, hc], by rw [if_pos hc]; exact hs, by have := hM.b.len; have := hn.n1; omega, hb⟩
  · exact (Reach_err b1 b2 b3 Ab Am Ao nb cb nm cm no co bs ms l w hM hnb hnm hO hno hc).mono fun e w' h => AnsR.err hc h
theorem qreachU (hM : NetM w b1 b2 Ab Am nb cb nm cm bs ms) (hnb : nb ≤ 100000) (hnm : nm ≤ 100000) (hO : Sl encI 1 w b3 Ao no l) (hno : no ≤ 100000) : Calls Try.prog 45 #[netV Ab Am nb cb nm cm, .slice Ao no co] w (AnsR (chkO bs ms l) (reachT bs ms l) w) := by
  by_cases hc : chkO bs ms l = 0
  · refine (qReach_ok b1 b2 b3 Ab Am Ao nb cb nm cm no co bs ms l w hM hO hc).mono fun e w' ⟨A, c, bR, he, hs, _, hb⟩ => ?_
    have hn := (chkO_in hc).1
    exact ⟨_, nb, c, bR, by rw [he, hc], by rw [if_pos hc]; exact hs, by have := hM.b.len; have := hn.n1; omega, hb⟩
  · exact (qReach_err b1 b2 b3 Ab Am Ao nb cb nm cm no co bs ms l w hM hnb hnm hO hno hc).mono fun e w' h => AnsR.err hc h
theorem throughU (hM : NetM w b1 b2 Ab Am nb cb nm cm bs ms) (hnb : nb ≤ 100000) (hnm : nm ≤ 100000) (hO : Sl encI 1 w b3 Ao no l) (hno : no ≤ 100000) : Calls Try.prog 31 #[netV Ab Am nb cb nm cm, .slice Ao no co] w (AnsR (chkO bs ms l) (throughT bs ms l) w) := by
  by_cases hc : chkO bs ms l = 0
  · refine (Through_ok b1 b2 b3 Ab Am Ao nb cb nm cm no co bs ms l w hM hO hc).mono fun e w' ⟨A, c, he, ho, hb⟩ => ?_
    have hn := (chkO_in hc).1
    obtain ⟨bR, _, hs⟩ := Sl.of_own (enc := encR) encR_len (by unfold throughT; rw [thrT_len]; exact hM.m.len) ho
    exact ⟨_, nm, c, bR, by rw [he, hc], by rw [if_pos hc]; exact hs, by have := hM.m.len; have := hn.m1; omega, hb⟩
  · exact (Through_err b1 b2 b3 Ab Am Ao nb cb nm cm no co bs ms l w hM hnb hnm hO hno hc).mono fun e w' h => AnsR.err hc h
theorem qthroughU (hM : NetM w b1 b2 Ab Am nb cb nm cm bs ms) (hnb : nb ≤ 100000) (hnm : nm ≤ 100000) (hO : Sl encI 1 w b3 Ao no l) (hno : no ≤ 100000) : Calls Try.prog 46 #[netV Ab Am nb cb nm cm, .slice Ao no co] w (AnsR (chkO bs ms l) (throughT bs ms l) w) := by
  by_cases hc : chkO bs ms l = 0
  · refine (qThrough_ok b1 b2 b3 Ab Am Ao nb cb nm cm no co bs ms l w hM hO hc).mono fun e w' ⟨A, c, bR, he, hs, _, hb⟩ => ?_
    have hn := (chkO_in hc).1
    exact ⟨_, nm, c, bR, by rw [he, hc], by rw [if_pos hc]; exact hs, by have := hM.m.len; have := hn.m1; omega, hb⟩
  · exact (qThrough_err b1 b2 b3 Ab Am Ao nb cb nm cm no co bs ms l w hM hnb hnm hO hno hc).mono fun e w' h => AnsR.err hc h
end
end Go.Proofs.Ytkphgdkjjklajaa
