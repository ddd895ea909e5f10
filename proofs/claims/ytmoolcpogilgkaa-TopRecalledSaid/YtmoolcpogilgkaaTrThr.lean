/-
  trace.reach, Reach: how much of some origins each batch may have at the end. trace.through, Through: how much of some origins each move may take.
-/
import Derived.Test.YtmoolcpogilgkaaTrMay
set_option linter.unusedVariables false
set_option linter.unusedSimpArgs false
namespace Go.Proofs.Ytmoolcpogilgkaa
open Go.RowKit Go.Shelf

theorem info_spanF : (Try.prog.info? 32).map (fun i => (i.zero, i.size, i.bytes)) = some (some (.agg #[.int .i64 0, .int .i64 0]), 2, 16) := by kernel_rfl
theorem newR (w : World) (s : Span) : Sl encR 2 (w.alloc (.cells #[.int .i64 s.lo, .int .i64 s.hi] 32)) w.heap.size (some ⟨w.heap.size, 0, none⟩) 1 [s] := Sl.new encR_len w [s] 32 _ rfl

end Go.Proofs.Ytmoolcpogilgkaa

namespace Go.Proofs.Ytmoolcpogilgkaa
open Go.RowKit Go.Shelf

theorem thrT_snoc (bs : List Int) (l : List Int) (pre ms : List Mv) (m : Mv) : thrT bs l pre (ms ++ [m]) = thrT bs l pre ms ++ [takeT bs l (pre ++ ms) m] := by
  induction ms generalizing pre with
  | nil => simp [thrT]
  | cons x ms ih => simp only [List.cons_append, thrT, ih, List.append_assoc]; rfl
theorem thrT_len (bs : List Int) (l : List Int) (pre ms : List Mv) : (thrT bs l pre ms).length = ms.length := by
  induction ms generalizing pre with
  | nil => rfl
  | cons x ms ih => simp [thrT, ih]
theorem ThrNext {bs : List Int} {l : List Int} {ms : List Mv} {k : Nat} (hk : k < ms.length) : thrT bs l [] (ms.take (k + 1)) = thrT bs l [] (ms.take k) ++ [takeT bs l (ms.take k) ms[k]] := by
  rw [List.take_succ_eq_append_getElem hk, thrT_snoc]; rfl

set_option maxRecDepth 100000 in
set_option maxHeartbeats 4000000 in
theorem through_any (b1 b2 b3 : Nat) (Ab Am Ao : Option Addr) (nb cb nm cm no co : Nat) (bs : List Int) (ms : List Mv) (l : List Int) (w : World) (hN : NetIn bs ms) (hM : NetM w b1 b2 Ab Am nb cb nm cm bs ms)
    (hO : Sl encI 1 w b3 Ao no l) (hl : OrgIn bs.length l) :
    Calls Try.prog 24 #[netV Ab Am nb cb nm cm, .slice Ao no co] w fun e w' => ∃ A c, e = .returned (.slice A nm c) ∧ w'.ownsRow w.heap.size 32 2 (.slice A nm c) nm ((throughT bs ms l).flatMap encR) ∧ Below w.heap.size w w' := by
  obtain ⟨i0, hi, iz0, iz1, iz2⟩ := info_parts info_spanF
  have hBn := Blk.new w 27 #[.slice Ab nb cb, .slice Am nm cm]
  have c1 := hBn.cell 1
  have hb0 : Below w.heap.size w (w.alloc (.cells #[.slice Ab nb cb, .slice Am nm cm] 27)) := (Below.refl _ w).alloc (Nat.le_refl _) _
  have hnb8 : nb ≤ 8 := by have := hM.b.len; have := hN.n1; omega
  have hnm12 : nm ≤ 12 := by have := hM.m.len; have := hN.m1; omega
  have HNB := Lib.hid hM.b.len
  have HNM := Lib.hid hM.m.len
  have HNO := Lib.hid hO.len
  have HBN := Lib.hid hBn
  have HB0 := Lib.hid hb0
  have HM := Lib.hid hM
  have HO := Lib.hid hO
  have HN := Lib.hid hN
  have HL := Lib.hid hl
  have hmo : ∀ (f k : Nat) (Ax : Option Addr) (nx cx bx : Nat) (lx : List Int) (W : World), Below w.heap.size w W → f < bs.length → k ≤ ms.length → Sl encI 1 W bx Ax nx lx → (∀ o ∈ lx, 0 ≤ o ∧ o < bs.length) → lx.Nodup → Calls Try.prog 38 #[netV Ab Am nb cb nm cm, .slice Ax nx cx, .int .i64 f, .int .i64 k] W fun e w' => e = .returned (.int .i64 (mostF bs.length (bsF bs) lx (ms.take k) f)) ∧ Below W.heap.size W w' :=
    fun f k Ax nx cx bx lx W hW hf hk hs h1 h2 => most_any b1 b2 bx Ab Am Ax nb cb nm cm nx cx k bs ms lx f W HN.out (HM.out.old hW) hk hs h1 h2 hf
  have HMO := Lib.hid hmo
  have HBU := Lib.hid (fun (W : World) (hW : Below w.heap.size w W) => but_any Ab Am Ao nb cb nm cm no co b3 l W hnb8 (by have := HNB.out; have := HN.out.n0; omega) (by have := HNO.out; have := orig_len HL.out.nodup HL.out.rg HN.out.n1; omega) (by rw [HNB.out]; exact HL.out.rg) (HO.out.old hW))
  clear hBn hb0 hM hO hN hl hmo
  go_enter Try.func24, Try.ntmps24
  go_wp2_with fail
  clear c1
  go_loopw [5, 12] (fun v i wr => ∃ (k c : Nat) (A : Option Addr), k ≤ nm ∧ i = .int .i64 k ∧ v = .slice A k c ∧ wr.ownsRow (w.heap.size + 1) 32 2 (.slice A k c) k ((thrT bs l [] (ms.take k)).flatMap encR) ∧ Below w.heap.size w wr ∧ Blk wr w.heap.size 27 #[.slice Ab nb cb, .slice Am nm cm]) (fun _ i _ => nm - (intOf i).toNat)
  case atStart => exact ⟨0, 0, none, Nat.zero_le _, rfl, rfl, World.ownsRow_nil _ _ _ _, HB0.out, HBN.out⟩
  case round =>
    obtain ⟨k, c, A, hk, rfl, rfl, hown, hB, hBn⟩ := hrel
    have HB := Lib.hid hB
    have HOWN := Lib.hid hown
    have HBN2 := Lib.hid hBn
    have hz := hBn.lt
    by_cases hlt : k < nm
    · as_aux_lemma =>
      have hkm : k < ms.length := by have := HNM.out; omega
      obtain ⟨o, rfl, hbz, s0, s1, s2⟩ := (HM.out.m.old hB).atM hkm
      have hOK := HN.out.at_ hkm
      have HTN := Lib.hid (ThrNext (bs := bs) (l := l) hkm)
      obtain ⟨mf, mt, mg, hmk⟩ : ∃ a b c, ms[k] = Mv.mk a b c := ⟨_, _, _, rfl⟩
      rw [hmk] at s0 s1 s2 HTN hOK
      dsimp only at s0 s1 s2
      have hf0 := hOK.f0; have hf1 := hOK.f1; have hg0 := hOK.g0
      have hg1 : mg ≤ 8000000 := by have h1 := hOK.g1; have := (HN.out.has_bd k mf).2; simp only at h1; omega
      simp only at hf0 hf1 hg0
      obtain ⟨f, rfl⟩ := Int.eq_ofNat_of_zero_le hf0
      have hfb : f < bs.length := by omega
      obtain ⟨p, hp⟩ : ∃ p, p = mostF bs.length (bsF bs) (othersT bs.length l) (ms.take k) (f : Int) := ⟨_, rfl⟩
      obtain ⟨q, hq⟩ : ∃ q, q = mostF bs.length (bsF bs) l (ms.take k) (f : Int) := ⟨_, rfl⟩
      have hNT := HN.out.take k
      have hp0 : 0 ≤ p := by rw [hp]; exact mostF_nonneg HN.out.pos hNT.ms _ _
      have hp1 : p ≤ 8000000 := by have := mostF_le_sum HN.out.pos hNT.ms (othersT bs.length l) (batch := (f : Int)) (by omega) (by omega); have := HN.out.sum; rw [hp]; omega
      have hX := Blk.new wr 70 #[.int .i64 (f : Int), .int .i64 mt, .int .i64 mg]
      have m0 := hX.cell 0
      have m1 := hX.cell 1
      have m2 := hX.cell 2
      have HX := Lib.hid hX
      have HP := Lib.hid hp
      have HQ := Lib.hid hq
      have hMo1 := fun (Ax : Option Addr) (nx cx bx : Nat) (W : World) (hW : Below w.heap.size w W) (hs : Sl encI 1 W bx Ax nx (othersT bs.length l)) => HMO.out f k Ax nx cx bx (othersT bs.length l) W hW hfb (by omega) hs (others_oi l).1 (others_oi l).2
      rw [← hp] at hMo1
      have hMo2 := fun (W : World) (hW : Below w.heap.size w W) => HMO.out f k Ao no co b3 l W hW hfb (by omega) (HO.out.old hW) HL.out.rg HL.out.nodup
      rw [← hq] at hMo2
      have HM1 := Lib.hid hMo1
      have HM2 := Lib.hid hMo2
      have HTK := Lib.hid (show takeT bs l (ms.take k) ⟨f, mt, mg⟩ = ⟨mg - min mg p, min mg q⟩ by unfold takeT; rw [HP.out, HQ.out])
      clear hmk hOK hp hq hNT hX hMo1 hMo2 hB hown hBn
      go_upto_region 5 with fail
      obtain ⟨V, hV⟩ : ∃ V, wr.alloc (.cells #[.int .i64 (f : Int), .int .i64 mt, .int .i64 mg] 70) = V := ⟨_, rfl⟩
      have hbV : Below w.heap.size w V := by rw [← hV]; exact HB.out.alloc HB.out.size _
      have hnV : Blk V w.heap.size 27 #[.slice Ab nb cb, .slice (some ⟨b2, o, none⟩) nm cm] := by rw [← hV]; exact HBN2.out.alloc _
      have hxV : Blk V wr.heap.size 70 #[.int .i64 (f : Int), .int .i64 mt, .int .i64 mg] := by rw [← hV]; exact HX.out
      have hoV : V.ownsRow (w.heap.size + 1) 32 2 (.slice A k c) k ((thrT bs l [] (ms.take k)).flatMap encR) := by rw [← hV]; exact HOWN.out.alloc _
      rw [hV]
      have HBV := Lib.hid hbV
      have HNV := Lib.hid hnV
      have HXV := Lib.hid hxV
      have HOV := Lib.hid hoV
      have HWV := Lib.hid (fun (W : World) (h : Below V.heap.size V W) => show Below w.heap.size w W from HBV.out.trans (h.mono HBV.out.size))
      have HCL := Lib.hid (fun (W : World) (h : Below V.heap.size V W) => show W.cell? ⟨w.heap.size, 0, none⟩ = some (.slice Ab nb cb) ∧ W.cell? ⟨w.heap.size, 1, none⟩ = some (.slice (some ⟨b2, o, none⟩) nm cm) ∧ W.cell? ⟨wr.heap.size, 0, none⟩ = some (.int .i64 (f : Int)) ∧ W.cell? ⟨wr.heap.size, 2, none⟩ = some (.int .i64 mg) from
        ⟨(HNV.out.below h HNV.out.lt).cell 0, (HNV.out.below h HNV.out.lt).cell 1, (HXV.out.below h HXV.out.lt).cell 0, (HXV.out.below h HXV.out.lt).cell 2⟩)
      have HGB := Lib.hid (fun e : some wr.heap.size = (Value.slice A k c).ownBlock => Nat.lt_irrefl _ (HOWN.out.lt _ e.symm).2)
      have HG7 := Lib.hid (fun (W W7 : World) (h : Below V.heap.size V W) (ho : W.ownsRow (w.heap.size + 1) 32 2 (.slice A k c) k ((thrT bs l [] (ms.take k)).flatMap encR)) (hg : W.grownBy W7 (Value.slice A k c).ownBlock) => show (W7.cell? ⟨w.heap.size, 0, none⟩ = some (.slice Ab nb cb) ∧ W7.cell? ⟨w.heap.size, 1, none⟩ = some (.slice (some ⟨b2, o, none⟩) nm cm) ∧ W7.cell? ⟨wr.heap.size, 0, none⟩ = some (.int .i64 (f : Int)) ∧ W7.cell? ⟨wr.heap.size, 2, none⟩ = some (.int .i64 mg)) ∧ Below w.heap.size w W7 ∧ Blk W7 w.heap.size 27 #[.slice Ab nb cb, .slice (some ⟨b2, o, none⟩) nm cm] from
        have hn7 := (HNV.out.below h HNV.out.lt).grown hg (fun e => by have := ho.lt _ e.symm; omega)
        have hx7 := (HXV.out.below h HXV.out.lt).grown hg HGB.out
        ⟨⟨hn7.cell 0, hn7.cell 1, hx7.cell 0, hx7.cell 2⟩, below_own ho hg (HWV.out W h) (by omega) (Nat.le_refl _), hn7⟩)
      clear hbV hnV hxV hoV hV m0 m1 m2 s0 s1 s2
      have hM : Below V.heap.size V V.drew := (Below.refl _ V).drew
      refine wp_region_PL [0, 1, 5] (fun W => W.cell? ⟨w.heap.size, 0, none⟩ = some (.slice Ab nb cb) ∧ W.cell? ⟨w.heap.size, 1, none⟩ = some (.slice (some ⟨b2, o, none⟩) nm cm) ∧ W.cell? ⟨wr.heap.size, 0, none⟩ = some (.int .i64 (f : Int)) ∧ W.cell? ⟨wr.heap.size, 2, none⟩ = some (.int .i64 mg)) rfl (by kernel_rfl) (HCL.out _ hM) (fun hF0 => ?_)
      (refine wpAnyP_loadL (i := 0) (v := ?_) rfl (by kernel_rfl) (by kernel_rfl) (by kernel_rfl) (by rfl) (fun _ _ _ h => h) hF0 (by rfl) ?_ ?_; rotate_left 1; focus (intro w hFw; (try dsimp only at hFw); go_split_ands; go_simp; try with_reducible rfl))
      try simp only [Act.put, List.setIfInBounds_toArray, List.set_cons_zero, List.set_cons_succ]
      (refine wpAnyP_loadL (i := 1) (v := ?_) rfl (by kernel_rfl) (by kernel_rfl) (by kernel_rfl) (by rfl) (fun _ _ _ h => h) hF0 (by rfl) ?_ ?_; rotate_left 1; focus (intro w hFw; (try dsimp only at hFw); go_split_ands; go_simp; try with_reducible rfl))
      try simp only [Act.put, List.setIfInBounds_toArray, List.set_cons_zero, List.set_cons_succ]
      (refine wpAnyP_takeL (i := 2) (v := ?_) rfl (by kernel_rfl) (by kernel_rfl) (by kernel_rfl) (fun _ _ _ h => h) (by rfl) ?_ ?_; rotate_left 1; focus (intro w; go_simp; try with_reducible rfl))
      try simp only [Act.put, List.setIfInBounds_toArray, List.set_cons_zero, List.set_cons_succ]
      (refine wpAnyP_takeL (i := 4) (v := ?_) rfl (by kernel_rfl) (by kernel_rfl) (by kernel_rfl) (fun _ _ _ h => h) (by rfl) ?_ ?_; rotate_left 1; focus (intro w; go_simp; try with_reducible rfl))
      try simp only [Act.put, List.setIfInBounds_toArray, List.set_cons_zero, List.set_cons_succ]
      (refine wpAnyP_loadL (i := 5) (v := ?_) rfl (by kernel_rfl) (by kernel_rfl) (by kernel_rfl) (by rfl) (fun _ _ _ h => h) hF0 (by rfl) ?_ ?_; rotate_left 1; focus (intro w hFw; (try dsimp only at hFw); go_split_ands; go_simp; try with_reducible rfl))
      try simp only [Act.put, List.setIfInBounds_toArray, List.set_cons_zero, List.set_cons_succ]
      (refine wpAnyP_takeL (i := 6) (v := ?_) rfl (by kernel_rfl) (by kernel_rfl) (by kernel_rfl) (fun _ _ _ h => h) (by rfl) ?_ ?_; rotate_left 1; focus (intro w; go_simp; try with_reducible rfl))
      try simp only [Act.put, List.setIfInBounds_toArray, List.set_cons_zero, List.set_cons_succ]
      refine wpAnyP_step (i := 3) rfl (by kernel_rfl) (by rfl) (fun K hK => ?_)
      go_simp
      (refine (HBU.out _ (HWV.out _ hM)).mono ?_; rintro e wA ⟨g, kk, cap, rfl, hown, hBA⟩; have hkk : kk = (othersT nb l).length := (by have := hown.1; simpa using this.symm); obtain ⟨bO, hbO, hsO⟩ := Sl.of_own (enc := encI) encI_len hkk (by rw [flatI]; exact hown); have hM := hM.trans (hBA.mono hM.size); rw [HNB.out] at hsO; clear hown hkk)
      (refine hK _ _ (HCL.out _ hM) (fun hF1 => ?_); clear hK K hF0)
      try simp only [Act.put, List.setIfInBounds_toArray, List.set_cons_zero, List.set_cons_succ]
      refine wpAnyP_step (i := 7) rfl (by kernel_rfl) (by rfl) (fun K hK => ?_)
      go_simp
      (refine (HM1.out _ kk cap bO _ (HWV.out _ hM) hsO).mono ?_; rintro e wB ⟨rfl, hBB⟩; have hM := hM.trans (hBB.mono hM.size))
      (refine hK _ _ (HCL.out _ hM) (fun hF2 => ?_); clear hK K hF1)
      try simp only [Act.put, List.setIfInBounds_toArray, List.set_cons_zero, List.set_cons_succ]
      (refine wpAnyP_takeL (i := 8) (v := ?_) rfl (by kernel_rfl) (by kernel_rfl) (by kernel_rfl) (fun _ _ _ h => h) (by rfl) ?_ ?_; rotate_left 1; focus (intro w; go_simp; try with_reducible rfl))
      try simp only [Act.put, List.setIfInBounds_toArray, List.set_cons_zero, List.set_cons_succ]
      refine wpAnyP_done (by kernel_rfl) ?_ _
      have HMB := Lib.hid hM
      clear hM
      go_upto_region 6 with fail
      have HWR := Lib.hid (show IntKind.i64.wrap (mg - min mg p) = mg - min mg p from IntWalk.i64_in _ (by omega))
      have hM : Below V.heap.size V wB.drew := HMB.out.drew
      refine wp_region_PL [2, 4, 9, 10, 13] (fun W => W.cell? ⟨w.heap.size, 0, none⟩ = some (.slice Ab nb cb) ∧ W.cell? ⟨w.heap.size, 1, none⟩ = some (.slice (some ⟨b2, o, none⟩) nm cm) ∧ W.cell? ⟨wr.heap.size, 0, none⟩ = some (.int .i64 (f : Int)) ∧ W.cell? ⟨wr.heap.size, 2, none⟩ = some (.int .i64 mg)) rfl (by kernel_rfl) (HCL.out _ hM) (fun hF0 => ?_)
      (refine wpAnyP_takeL (i := 0) (v := ?_) rfl (by kernel_rfl) (by kernel_rfl) (by kernel_rfl) (fun _ _ _ h => h) (by rfl) ?_ ?_; rotate_left 1; focus (intro w; go_simp; try with_reducible rfl))
      try simp only [Act.put, List.setIfInBounds_toArray, List.set_cons_zero, List.set_cons_succ]
      (refine wpAnyP_takeL (i := 1) (v := ?_) rfl (by kernel_rfl) (by kernel_rfl) (by kernel_rfl) (fun _ _ _ h => h) (by rfl) ?_ ?_; rotate_left 1; focus (intro w; go_simp; try with_reducible rfl))
      try simp only [Act.put, List.setIfInBounds_toArray, List.set_cons_zero, List.set_cons_succ]
      (refine wpAnyP_loadL (i := 2) (v := ?_) rfl (by kernel_rfl) (by kernel_rfl) (by kernel_rfl) (by rfl) (fun _ _ _ h => h) hF0 (by rfl) ?_ ?_; rotate_left 1; focus (intro w hFw; (try dsimp only at hFw); go_split_ands; go_simp; try with_reducible rfl))
      try simp only [Act.put, List.setIfInBounds_toArray, List.set_cons_zero, List.set_cons_succ]
      (refine wpAnyP_takeL (i := 3) (v := ?_) rfl (by kernel_rfl) (by kernel_rfl) (by kernel_rfl) (fun _ _ _ h => h) (by rfl) ?_ ?_; rotate_left 1; focus (intro w; go_simp; try with_reducible rfl))
      try simp only [Act.put, List.setIfInBounds_toArray, List.set_cons_zero, List.set_cons_succ]
      (refine wpAnyP_loadL (i := 4) (v := ?_) rfl (by kernel_rfl) (by kernel_rfl) (by kernel_rfl) (by rfl) (fun _ _ _ h => h) hF0 (by rfl) ?_ ?_; rotate_left 1; focus (intro w hFw; (try dsimp only at hFw); go_split_ands; go_simp; try with_reducible rfl))
      try simp only [Act.put, List.setIfInBounds_toArray, List.set_cons_zero, List.set_cons_succ]
      (refine wpAnyP_takeL (i := 5) (v := ?_) rfl (by kernel_rfl) (by kernel_rfl) (by kernel_rfl) (fun _ _ _ h => h) (by rfl) ?_ ?_; rotate_left 1; focus (intro w; go_simp; try with_reducible rfl))
      try simp only [Act.put, List.setIfInBounds_toArray, List.set_cons_zero, List.set_cons_succ]
      (refine wpAnyP_takeL (i := 6) (v := ?_) rfl (by kernel_rfl) (by kernel_rfl) (by kernel_rfl) (fun _ _ _ h => h) (by rfl) ?_ ?_; rotate_left 1; focus (intro w; go_simp; try with_reducible rfl))
      try simp only [Act.put, List.setIfInBounds_toArray, List.set_cons_zero, List.set_cons_succ]
      (refine wpAnyP_takeL (i := 7) (v := ?_) rfl (by kernel_rfl) (by kernel_rfl) (by kernel_rfl) (fun _ _ _ h => h) (by rfl) ?_ ?_; rotate_left 1; focus (intro w; go_simp; (rw [HWR.out])))
      try simp only [Act.put, List.setIfInBounds_toArray, List.set_cons_zero, List.set_cons_succ]
      (refine wpAnyP_takeL (i := 8) (v := ?_) rfl (by kernel_rfl) (by kernel_rfl) (by kernel_rfl) (fun _ _ _ h => h) (by rfl) ?_ ?_; rotate_left 1; focus (intro w; go_simp; try with_reducible rfl))
      try simp only [Act.put, List.setIfInBounds_toArray, List.set_cons_zero, List.set_cons_succ]
      (refine wpAnyP_loadL (i := 9) (v := ?_) rfl (by kernel_rfl) (by kernel_rfl) (by kernel_rfl) (by rfl) (fun _ _ _ h => h) hF0 (by rfl) ?_ ?_; rotate_left 1; focus (intro w hFw; (try dsimp only at hFw); go_split_ands; go_simp; try with_reducible rfl))
      try simp only [Act.put, List.setIfInBounds_toArray, List.set_cons_zero, List.set_cons_succ]
      (refine wpAnyP_loadL (i := 10) (v := ?_) rfl (by kernel_rfl) (by kernel_rfl) (by kernel_rfl) (by rfl) (fun _ _ _ h => h) hF0 (by rfl) ?_ ?_; rotate_left 1; focus (intro w hFw; (try dsimp only at hFw); go_split_ands; go_simp; try with_reducible rfl))
      try simp only [Act.put, List.setIfInBounds_toArray, List.set_cons_zero, List.set_cons_succ]
      (refine wpAnyP_takeL (i := 11) (v := ?_) rfl (by kernel_rfl) (by kernel_rfl) (by kernel_rfl) (fun _ _ _ h => h) (by rfl) ?_ ?_; rotate_left 1; focus (intro w; go_simp; try with_reducible rfl))
      try simp only [Act.put, List.setIfInBounds_toArray, List.set_cons_zero, List.set_cons_succ]
      (refine wpAnyP_takeL (i := 12) (v := ?_) rfl (by kernel_rfl) (by kernel_rfl) (by kernel_rfl) (fun _ _ _ h => h) (by rfl) ?_ ?_; rotate_left 1; focus (intro w; go_simp; try with_reducible rfl))
      try simp only [Act.put, List.setIfInBounds_toArray, List.set_cons_zero, List.set_cons_succ]
      (refine wpAnyP_loadL (i := 13) (v := ?_) rfl (by kernel_rfl) (by kernel_rfl) (by kernel_rfl) (by rfl) (fun _ _ _ h => h) hF0 (by rfl) ?_ ?_; rotate_left 1; focus (intro w hFw; (try dsimp only at hFw); go_split_ands; go_simp; try with_reducible rfl))
      try simp only [Act.put, List.setIfInBounds_toArray, List.set_cons_zero, List.set_cons_succ]
      (refine wpAnyP_takeL (i := 14) (v := ?_) rfl (by kernel_rfl) (by kernel_rfl) (by kernel_rfl) (fun _ _ _ h => h) (by rfl) ?_ ?_; rotate_left 1; focus (intro w; go_simp; try with_reducible rfl))
      try simp only [Act.put, List.setIfInBounds_toArray, List.set_cons_zero, List.set_cons_succ]
      refine wpAnyP_step (i := 15) rfl (by kernel_rfl) (by rfl) (fun K hK => ?_)
      go_simp
      (refine (HM2.out _ (HWV.out _ hM)).mono ?_; rintro e wC ⟨rfl, hBC⟩; have hM := hM.trans (hBC.mono hM.size))
      (refine hK _ _ (HCL.out _ hM) (fun hF1 => ?_); clear hK K hF0)
      try simp only [Act.put, List.setIfInBounds_toArray, List.set_cons_zero, List.set_cons_succ]
      (refine wpAnyP_takeL (i := 16) (v := ?_) rfl (by kernel_rfl) (by kernel_rfl) (by kernel_rfl) (fun _ _ _ h => h) (by rfl) ?_ ?_; rotate_left 1; focus (intro w; go_simp; try with_reducible rfl))
      try simp only [Act.put, List.setIfInBounds_toArray, List.set_cons_zero, List.set_cons_succ]
      (refine wpAnyP_takeL (i := 17) (v := ?_) rfl (by kernel_rfl) (by kernel_rfl) (by kernel_rfl) (fun _ _ _ h => h) (by rfl) ?_ ?_; rotate_left 1; focus (intro w; go_simp; try with_reducible rfl))
      try simp only [Act.put, List.setIfInBounds_toArray, List.set_cons_zero, List.set_cons_succ]
      refine wpAnyP_step (i := 18) rfl (by kernel_rfl) (by rfl) (fun K hK => ?_)
      go_simp
      (refine hK _ _ (HCL.out _ (hM.alloc hM.size _)) (fun hF2 => ?_); clear hK K hF1)
      try simp only [Act.put, List.setIfInBounds_toArray, List.set_cons_zero, List.set_cons_succ]
      refine wpAnyP_step (i := 19) rfl (by kernel_rfl) (by rfl) (fun K hK => ?_)
      (have hO6 := ownsRow_below HOV.out (hM.alloc hM.size (.cells #[.int .i64 (mg - min mg p), .int .i64 (min mg q)] 32)) (Nat.le_refl _); have hMM := hM.alloc hM.size (.cells #[.int .i64 (mg - min mg p), .int .i64 (min mg q)] 32); refine wp_append_sl _ _ 80 rfl (w.heap.size + 1) 32 i0 _ 16 Try.underlying80 hi iz0 iz1 iz2 rfl (by omega) encR_len _ k _ rfl hO6 wC.heap.size _ 1 1 [⟨_, _⟩] rfl (newR wC ⟨_, _⟩) oneR (by unfold maxLen; omega) (by omega) (by have := hM.size; have := HBV.out.size; simp; omega) ?_; intro A1 c1 w7 hown7 hgrow _; have hG7 := HG7.out _ w7 hMM hO6 hgrow; have HO7 := Lib.hid hown7; have H7 := Lib.hid hG7.2; replace hG7 := hG7.1; clear hown7 hgrow)
      (refine hK _ _ (hG7) (fun hF3 => ?_); clear hK K hF2)
      try simp only [Act.put, List.setIfInBounds_toArray, List.set_cons_zero, List.set_cons_succ]
      (refine wpAnyP_takeL (i := 20) (v := ?_) rfl (by kernel_rfl) (by kernel_rfl) (by kernel_rfl) (fun _ _ _ h => h) (by rfl) ?_ ?_; rotate_left 1; focus (intro w; go_simp; try with_reducible rfl))
      try simp only [Act.put, List.setIfInBounds_toArray, List.set_cons_zero, List.set_cons_succ]
      refine wpAnyP_done (by kernel_rfl) ?_ _
      obtain ⟨hB7, hBN7⟩ := H7.out
      have HB7 := Lib.hid hB7
      have HN7 := Lib.hid hBN7
      clear hF2 hB7 hBN7
      go_wp2_with fail
      go_roundw
      case rel => exact ⟨k + 1, c1, A1, by omega, by go_num, rfl, by rw [HTN.out, HTK.out, List.flatMap_append]; simpa using HO7.out, HB7.out, HN7.out⟩
      case measure => simp [intOf]; omega
    · obtain rfl : k = nm := by omega
      clear hB hown hBn
      go_wp2_with fail
      go_ret
      have h := HOWN.out
      rw [HNM.out, List.take_length] at h
      refine ⟨A, c, rfl, ?_, HB.out⟩
      rw [HNM.out]
      exact ownsRow_base h (by omega)

end Go.Proofs.Ytmoolcpogilgkaa
