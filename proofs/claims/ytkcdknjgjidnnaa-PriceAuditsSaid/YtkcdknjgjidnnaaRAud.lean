/-
  Audited of the reference.
-/
import Derived.Test.YtkcdknjgjidnnaaRFindsW
import Derived.Test.YtkcdknjgjidnnaaAud
import Derived.Test.YtkcdknjgjidnnaaBooks
set_option linter.unusedVariables false
set_option linter.unusedSimpArgs false
namespace Go.Proofs.Ytkcdknjgjidnnaa
open Go.RowKit

theorem chkF_in {l : List Sale} : ∀ {fs : List Found} {done : List Int}, chkF l done fs = 0 → ∀ f ∈ fs, inB f.sa 0 ((l.length : Int) - 1) = true
  | [], _, _, f, hf => by cases hf
  | g :: r, done, h, f, hf => by
    unfold chkF at h
    by_cases h1 : (!inB g.sa 0 ((l.length : Int) - 1)) = true
    · rw [if_pos h1] at h; cases h
    · rw [if_neg h1] at h
      by_cases h2 : g.sa ∈ done
      · rw [if_pos h2] at h; cases h
      · rw [if_neg h2] at h
        by_cases h3 : clash l g = true
        · rw [if_pos h3] at h; cases h
        · rw [if_neg h3] at h
          rcases List.mem_cons.1 hf with rfl | hf
          · simpa using h1
          · exact chkF_in h f hf
theorem applyF_snoc (l : List Sale) (fs : List Found) (k : Nat) (hk : k < fs.length) : applyF l (fs.take (k + 1)) = (applyF l (fs.take k)).set fs[k].sa.toNat (setExact ((applyF l (fs.take k)).getD fs[k].sa.toNat default) fs[k]) := by
  rw [take_snoc fs k hk]
  simp only [applyF, List.foldl_append, List.foldl_cons, List.foldl_nil]

/-- how things stand while finds are taken in -/
structure RAudSt (w : World) (st gd : Int) (A : Option Addr) (n c p8 : Nat) (A' : Option Addr) (c' : Nat) (cur : List Sale) (base : Nat) (W : World) : Prop where
  low : Below w.heap.size w W
  res : Blk W (w.heap.size + 1) 24 #[.int .i64 0, .int .i64 0, .slice none 0 0]
  out : Blk W p8 24 #[.int .i64 st, .int .i64 gd, .slice A' n c']
  row : W.ownsRow base 28 6 (.slice A' n c') n (cur.flatMap encS)
  h8 : w.heap.size + 1 < p8
  hb : p8 < base
  hz : base ≤ W.heap.size
section
variable {w W W' : World} {st gd : Int} {A : Option Addr} {n c p8 : Nat} {A' : Option Addr} {c' : Nat} {cur : List Sale} {base : Nat}
theorem RAudSt.alloc (h : RAudSt w st gd A n c p8 A' c' cur base W) (o : Obj) : RAudSt w st gd A n c p8 A' c' cur base (W.alloc o) :=
  ⟨h.low.alloc h.low.size _, h.res.alloc _, h.out.alloc _, h.row.alloc _, h.h8, h.hb, by have := h.hz; simp; omega⟩
theorem RAudSt.drew (h : RAudSt w st gd A n c p8 A' c' cur base W) : RAudSt w st gd A n c p8 A' c' cur base W.drew := ⟨h.low.drew, h.res, h.out, ownsRow_drew h.row, h.h8, h.hb, h.hz⟩
/-- a new block of its own is written -/
theorem RAudSt.far (h : RAudSt w st gd A n c p8 A' c' cur base W) {g i : Nat} (hg : base ≤ g) (hne : Value.ownBlock (.slice A' n c') ≠ some g) (u : Value) : RAudSt w st gd A n c p8 A' c' cur base (W.setCell ⟨g, i, none⟩ u) := by
  have h1 := h.h8
  have h2 := h.hb
  refine ⟨h.low.setCell (p := ⟨g, i, none⟩) (by show w.heap.size ≤ g; omega) _, h.res.far (by show w.heap.size + 1 ≠ g; omega) _, h.out.far (by show p8 ≠ g; omega) _, ?_, h1, h2, by simpa [World.setCell] using h.hz⟩
  exact h.row.kept (row := some g) (only_setCell (only_refl W g) (.inl rfl) u) (by
    cases hv : Value.ownBlock (.slice A' n c') with
    | none => exact .inl rfl
    | some k => exact .inr (fun e => hne (by rw [hv, e])))
/-- a whole sale is stored -/
theorem RAudSt.put6 {g : Nat} (h : RAudSt w st gd A n c p8 (some ⟨g, 0, none⟩) c' cur base W) {j : Nat} (hj : j < cur.length) (s : Sale) (hg : base ≤ g) :
    RAudSt w st gd A n c p8 (some ⟨g, 0, none⟩) c' (cur.set j s) base ((((((W.setCell ⟨g, j * 6, none⟩ (.int .i64 s.st)).setCell ⟨g, j * 6 + 1, none⟩ (.int .i64 s.gd)).setCell ⟨g, j * 6 + 2, none⟩ (.int .i64 s.gl)).setCell ⟨g, j * 6 + 3, none⟩ (.int .i64 s.gh)).setCell ⟨g, j * 6 + 4, none⟩ (.int .i64 s.cl)).setCell ⟨g, j * 6 + 5, none⟩ (.int .i64 s.ch)) := by
  have h1 := h.h8
  have h2 := h.hb
  have hl : w.heap.size ≤ g := by omega
  have hr : w.heap.size + 1 ≠ g := by omega
  have ho : p8 ≠ g := by omega
  refine ⟨?_, ?_, ?_, own_put6 h.row hj s, h1, h2, by simpa [World.setCell] using h.hz⟩
  · exact (((((h.low.setCell (p := ⟨g, j * 6, none⟩) hl _).setCell (p := ⟨g, j * 6 + 1, none⟩) hl _).setCell (p := ⟨g, j * 6 + 2, none⟩) hl _).setCell (p := ⟨g, j * 6 + 3, none⟩) hl _).setCell (p := ⟨g, j * 6 + 4, none⟩) hl _).setCell (p := ⟨g, j * 6 + 5, none⟩) hl _
  · exact (((((h.res.far hr _).far hr _).far hr _).far hr _).far hr _).far hr _
  · exact (((((h.out.far ho _).far ho _).far ho _).far ho _).far ho _).far ho _
end

set_option maxRecDepth 100000 in
set_option maxHeartbeats 2000000 in
theorem raudited_any (st gd : Int) (b n c b2 m c2 : Nat) (A A2 : Option Addr) (l : List Sale) (fs : List Found) (w : World) (hl : Sl encS 6 w b A n l) (hf : Sl encF 3 w b2 A2 m fs) (hn : n ≤ 1000000000000) (hm : m ≤ 1000000000000) :
    Calls Try.prog 51 #[.agg #[.int .i64 st, .int .i64 gd, .slice A n c], .slice A2 m c2] w (AudPost st gd (audited st gd l fs) w) := by
  rw [audited_chk]
  have HL := Lib.hid hl
  have HF := Lib.hid hf
  have HA := Lib.hid hl.len
  have HFL := Lib.hid hf.len
  have x0 : Blk ((w.alloc (.cells #[.int .i64 st, .int .i64 gd, .slice A n c] 24)).alloc (.cells #[.int .i64 0, .int .i64 0, .slice none 0 0] 24)) w.heap.size 24 #[.int .i64 st, .int .i64 gd, .slice A n c] := (Blk.new w _ _).alloc _
  have x1 := Blk.new (w.alloc (.cells #[.int .i64 st, .int .i64 gd, .slice A n c] 24)) 24 #[.int .i64 0, .int .i64 0, .slice none 0 0]
  rw [World.size_alloc] at x1
  have xl : Below w.heap.size w ((w.alloc (.cells #[.int .i64 st, .int .i64 gd, .slice A n c] 24)).alloc (.cells #[.int .i64 0, .int .i64 0, .slice none 0 0] 24)) := by go_grown
  have X0 := Lib.hid x0
  have X1 := Lib.hid x1
  have XL := Lib.hid xl
  clear hl hf x0 x1 xl
  by_cases hc0 : check st gd l = 0
  · have HC := Lib.hid hc0
    have HIN := Lib.hid (check_zero.1 hc0)
    have hn40 : n ≤ 40 := by have := HIN.out.len; have := HA.out; omega
    have HER := Lib.hid (show audErr st gd l fs = findsErr l fs by unfold audErr; rw [if_neg (by rw [hc0]; exact fun h => h rfl)])
    clear hc0
    by_cases hf0 : findsErr l fs = 0
    · have HF0 := Lib.hid hf0
      have h40 : fs.length ≤ 40 := by
        by_cases h : 40 < fs.length
        · unfold findsErr at hf0
          rw [if_pos h] at hf0
          cases hf0
        · omega
      have hck : chkF l [] fs = 0 := by
        unfold findsErr at hf0
        rw [if_neg (by omega)] at hf0
        exact hf0
      have HSA := Lib.hid (chkF_in hck)
      have HO := Lib.hid (show (if audErr st gd l fs = 0 then ((0 : Int), applyF l fs) else (audErr st gd l fs, [])) = (0, applyF l fs) from if_pos (by rw [HER.out]; exact hf0))
      rw [HO.out]
      clear hf0 hck
      obtain ⟨i0, hi, iz0, iz1, iz2⟩ := info_parts info_sale'
      go_enter Try.func51, Try.ntmps51
      go_wp2_with fail
      refine (rcheck_any st gd b n c A l _ (HL.out.old XL.out) hn).mono ?_
      rw [HC.out]
      rintro e w1 ⟨rfl, hB1⟩
      have Y0 := Lib.hid (X0.out.below hB1 X0.out.lt)
      have Y1 := Lib.hid (X1.out.below hB1 X1.out.lt)
      have YL := Lib.hid (Below.step hB1 XL.out (Nat.le_refl _))
      have e0 := Y0.out.cell 0
      have e1 := Y0.out.cell 1
      have e2 := Y0.out.cell 2
      clear hB1 X0 X1 XL
      go_wp2_with fail
      refine (rcheckFinds_any st gd b n c b2 m c2 A A2 l fs _ (HL.out.old YL.out) (HF.out.old YL.out) hn hm).mono ?_
      rw [HF0.out]
      rintro e w2 ⟨rfl, hB2⟩
      have Z0 := Lib.hid (Y0.out.below hB2 Y0.out.lt)
      have Z1 := Lib.hid (Y1.out.below hB2 Y1.out.lt)
      have ZL := Lib.hid (Below.step hB2 YL.out (Nat.le_refl _))
      have hz2 : w.heap.size + 1 < w2.heap.size := Z1.out.lt
      clear hB2 Y0 Y1 YL e0 e1 e2
      have e0 := Z0.out.cell 0
      have e1 := Z0.out.cell 1
      have e2 := Z0.out.cell 2
      have K8 := Lib.hid ((Blk.new w2 24 #[.int .i64 st, .int .i64 gd, .slice A n c]).alloc (.cells #[] 28))
      have Z0' := Lib.hid ((Z0.out.alloc (.cells #[.int .i64 st, .int .i64 gd, .slice A n c] 24)).alloc (.cells #[] 28))
      have Z1' := Lib.hid ((Z1.out.alloc (.cells #[.int .i64 st, .int .i64 gd, .slice A n c] 24)).alloc (.cells #[] 28))
      have ZL' := Lib.hid ((ZL.out.alloc (by omega) (.cells #[.int .i64 st, .int .i64 gd, .slice A n c] 24)).alloc (by simp; omega) (.cells #[] 28))
      have hown0 := own_empty (w2.alloc (.cells #[.int .i64 st, .int .i64 gd, .slice A n c] 24)) 28 6 (w2.heap.size + 1) (w2.heap.size + 1) (by simp) (Nat.le_refl _)
      have hsl0 := HL.out.old ZL'.out
      have e3 := Z0'.out.cell 2
      go_wp2_with (at_builtin; go_loud (refine wpList_append_sl rfl _ _ _ rfl (w2.heap.size + 1) 28 i0 _ 48 Try.underlying22 hi iz0 iz1 iz2 rfl (by omega) encS_len _ 0 [] (by rfl) hown0 b _ n c l (by rfl) hsl0 oneS (by unfold maxLen; omega) (by omega) (by simp) ?_); intro A4 c4 w4 hown4 hgrow4 hat4; have hk8 : Blk w4 w2.heap.size 24 #[.int .i64 st, .int .i64 gd, .slice A n c] := (own_keeps hown0 hgrow4 (b := w2.heap.size) (by omega) (by simp only [World.size_alloc]; omega)).trans K8.out; have f8 := hk8.frozen 2; have c8 := hk8.cell 2; have HK8 := Lib.hid hk8; have HW4 := Lib.hid hown4; have HZ1 := Lib.hid (show Blk w4 (w.heap.size + 1) 24 #[.int .i64 0, .int .i64 0, .slice none 0 0] from (own_keeps hown0 hgrow4 (b := w.heap.size + 1) (by omega) (by simp; omega)).trans Z1'.out); have HL4 := Lib.hid (below_own hown0 hgrow4 ZL'.out (by omega) (Nat.le_refl _)); have HZ4 := Lib.hid hgrow4.size; clear hown4 hgrow4 hat4 hk8 hown0 hsl0)
      have hS0 : RAudSt w st gd A n c w2.heap.size A4 c4 l (w2.heap.size + 1) (w4.setCell ⟨w2.heap.size, 2, none⟩ (.slice A4 n c4)) := by
        have hw4 := HW4.out
        simp only [Nat.zero_add, List.nil_append] at hw4
        have hz4 := HZ4.out
        simp only [World.size_alloc] at hz4
        exact ⟨HL4.out.setCell (p := ⟨w2.heap.size, 2, none⟩) (by show w.heap.size ≤ w2.heap.size; omega) _, HZ1.out.far (by show w.heap.size + 1 ≠ w2.heap.size; omega) _, by have := HK8.out.set_ 2 (.slice A4 n c4); simpa using this, ownsRow_setCell hw4 (p := ⟨w2.heap.size, 2, none⟩) (by show w2.heap.size < w2.heap.size + 1; omega) _, hz2, by omega, by simp [World.setCell]; omega⟩
      have HS0 := Lib.hid hS0
      clear hS0 f8 c8 e0 e1 e2 e3
      go_loopw [9] (fun i wr => ∃ (k : Nat) (cur : List Sale), k ≤ m ∧ i = .int .i64 k ∧ cur = applyF l (fs.take k) ∧ RAudSt w st gd A n c w2.heap.size A4 c4 cur (w2.heap.size + 1) wr) (fun i _ => m - (intOf i).toNat)
      case atStart => exact ⟨0, l, by omega, rfl, rfl, HS0.out⟩
      case round =>
        obtain ⟨k, cur, hk, rfl, hcur, hS⟩ := hrel
        have hcl : cur.length = l.length := by rw [hcur, applyF_len]
        have HCU := Lib.hid hcur
        have HCL := Lib.hid hcl
        have HS := Lib.hid hS
        have hzr := hS.hz
        clear hcur hcl hS
        by_cases hlt : k < m
        · have hk1 : k < fs.length := by have := HFL.out; omega
          obtain ⟨o2, rfl, hbz2, p0, p1, p2⟩ := (HF.out.old HS.out.low).atF hk1
          have hin := HSA.out fs[k] (List.getElem_mem hk1)
          have HSN := Lib.hid (applyF_snoc l fs k hk1)
          generalize fs[k] = f at p0 p1 p2 hin HSN
          obtain ⟨sa, gr, ce⟩ := f
          simp only at p0 p1 p2 hin HSN
          obtain ⟨hs0, hs1⟩ := inB_iff.1 hin
          obtain ⟨j0, rfl⟩ := Int.eq_ofNat_of_zero_le hs0
          have hj0 : j0 < cur.length := by rw [HCL.out]; omega
          have hj0n : j0 < n := by have := HA.out; omega
          obtain ⟨g, hA4, hg1, hg2⟩ := own_some1 HS.out.row (by omega)
          subst hA4
          have s0 := (HS.out.row.cellAt (j0 * 6) (by omega)).trans (flat_at encS_len cur j0 hj0 0 _ rfl)
          have s1 := (HS.out.row.cellAt (j0 * 6 + 1) (by omega)).trans (flat_at encS_len cur j0 hj0 1 _ rfl)
          have s2 := (HS.out.row.cellAt (j0 * 6 + 2) (by omega)).trans (flat_at encS_len cur j0 hj0 2 _ rfl)
          have s3 := (HS.out.row.cellAt (j0 * 6 + 3) (by omega)).trans (flat_at encS_len cur j0 hj0 3 _ rfl)
          have s4 := (HS.out.row.cellAt (j0 * 6 + 4) (by omega)).trans (flat_at encS_len cur j0 hj0 4 _ rfl)
          have s5 := (HS.out.row.cellAt (j0 * 6 + 5) (by omega)).trans (flat_at encS_len cur j0 hj0 5 _ rfl)
          have HNX := Lib.hid (show applyF l (fs.take (k + 1)) = cur.set j0 (setExact cur[j0] ⟨(j0 : Int), gr, ce⟩) by
            rw [HSN.out, ← HCU.out]
            simp [hj0])
          have HJ0 := Lib.hid hj0
          generalize cur[j0] = y at s0 s1 s2 s3 s4 s5 HNX
          have c8 := HS.out.out.cell 2
          have i0' : (0 : Int) ≤ (k : Int) := by omega
          have i1' : (k : Int) < (m : Int) := by omega
          have iy0 : (0 : Int) ≤ (j0 : Int) := by omega
          have iy1 : (j0 : Int) < (n : Int) := by omega
          have HW9 := Lib.hid (fun (W : World) (hW : ∀ i, i < wr.heap.size → W.heap[i]? = wr.heap[i]?) => (show W.cell? ⟨w2.heap.size, 2, none⟩ = some (.slice (some ⟨g, 0, none⟩) n c4) ∧ (W.cell? ⟨g, j0 * 6, none⟩ = some (.int .i64 y.st) ∧ W.cell? ⟨g, j0 * 6 + 1, none⟩ = some (.int .i64 y.gd) ∧ W.cell? ⟨g, j0 * 6 + 2, none⟩ = some (.int .i64 y.gl) ∧ W.cell? ⟨g, j0 * 6 + 3, none⟩ = some (.int .i64 y.gh) ∧ W.cell? ⟨g, j0 * 6 + 4, none⟩ = some (.int .i64 y.cl) ∧ W.cell? ⟨g, j0 * 6 + 5, none⟩ = some (.int .i64 y.ch)) from
            ⟨(World.cell?_of_block (w := wr) (hW _ (by show w2.heap.size < wr.heap.size; omega))).trans c8, (World.cell?_of_block (w := wr) (hW g hg2)).trans s0, (World.cell?_of_block (w := wr) (hW g hg2)).trans s1, (World.cell?_of_block (w := wr) (hW g hg2)).trans s2, (World.cell?_of_block (w := wr) (hW g hg2)).trans s3, (World.cell?_of_block (w := wr) (hW g hg2)).trans s4, (World.cell?_of_block (w := wr) (hW g hg2)).trans s5⟩))
          obtain ⟨c8', t0, t1, t2, t3, t4, t5⟩ := HW9.out (wr.alloc (.cells #[.int .i64 (j0 : Int), .int .i64 gr, .int .i64 ce] 78)) (fun i hi => Below.heap_alloc wr _ i hi)
          have KF := Lib.hid ((Blk.new wr 78 #[.int .i64 (j0 : Int), .int .i64 gr, .int .i64 ce]).alloc (.cells #[.int .i64 y.st, .int .i64 y.gd, .int .i64 y.gl, .int .i64 y.gh, .int .i64 y.cl, .int .i64 y.ch] 28))
          have KSn := Blk.new (wr.alloc (.cells #[.int .i64 (j0 : Int), .int .i64 gr, .int .i64 ce] 78)) 28 #[.int .i64 y.st, .int .i64 y.gd, .int .i64 y.gl, .int .i64 y.gh, .int .i64 y.cl, .int .i64 y.ch]
          rw [World.size_alloc] at KSn
          have KS := Lib.hid KSn
          have SV := Lib.hid ((HS.out.alloc (.cells #[.int .i64 (j0 : Int), .int .i64 gr, .int .i64 ce] 78)).alloc (.cells #[.int .i64 y.st, .int .i64 y.gd, .int .i64 y.gl, .int .i64 y.gh, .int .i64 y.cl, .int .i64 y.ch] 28))
          clear hin KSn hj0
          go_upto_region 14 with fail
          generalize hVV : (wr.alloc (.cells #[.int .i64 (j0 : Int), .int .i64 gr, .int .i64 ce] 78)).alloc (.cells #[.int .i64 y.st, .int .i64 y.gd, .int .i64 y.gl, .int .i64 y.gh, .int .i64 y.cl, .int .i64 y.ch] 28) = V at KF KS SV ⊢
          have hzV : V.heap.size = wr.heap.size + 2 := by rw [← hVV]; simp
          have HZV := Lib.hid hzV
          clear hVV hzV c8 c8' s0 s1 s2 s3 s4 s5 t0 t1 t2 t3 t4 t5 p0 p1 p2
          refine wp_region_PL [1, 3, 6, 8] (fun W => W.cell? ⟨wr.heap.size, 1, none⟩ = some (.int .i64 gr) ∧ W.cell? ⟨wr.heap.size, 2, none⟩ = some (.int .i64 ce)) rfl (by kernel_rfl) (⟨KF.out.cell 1, KF.out.cell 2⟩) (fun hF0 => ?_)
          (refine wpAnyP_takeL (i := 0) (v := ?_) rfl (by kernel_rfl) (by kernel_rfl) (by kernel_rfl) (fun _ _ _ h => h) (by rfl) ?_ ?_; rotate_left 1; focus (intro w; go_simp; try with_reducible rfl))
          try simp only [Act.put, List.setIfInBounds_toArray, List.set_cons_zero, List.set_cons_succ]
          (refine wpAnyP_loadL (i := 1) (v := ?_) rfl (by kernel_rfl) (by kernel_rfl) (by kernel_rfl) (by rfl) (fun _ _ _ h => h) hF0 (by rfl) ?_ ?_; rotate_left 1; focus (intro w hFw; (try dsimp only at hFw); go_split_ands; go_simp; try with_reducible rfl))
          try simp only [Act.put, List.setIfInBounds_toArray, List.set_cons_zero, List.set_cons_succ]
          (refine wpAnyP_takeL (i := 2) (v := ?_) rfl (by kernel_rfl) (by kernel_rfl) (by kernel_rfl) (fun _ _ _ h => h) (by rfl) ?_ ?_; rotate_left 1; focus (intro w; go_simp; try with_reducible rfl))
          try simp only [Act.put, List.setIfInBounds_toArray, List.set_cons_zero, List.set_cons_succ]
          (refine wpAnyP_loadL (i := 3) (v := ?_) rfl (by kernel_rfl) (by kernel_rfl) (by kernel_rfl) (by rfl) (fun _ _ _ h => h) hF0 (by rfl) ?_ ?_; rotate_left 1; focus (intro w hFw; (try dsimp only at hFw); go_split_ands; go_simp; try with_reducible rfl))
          try simp only [Act.put, List.setIfInBounds_toArray, List.set_cons_zero, List.set_cons_succ]
          (refine wpAnyP_takeL (i := 4) (v := ?_) rfl (by kernel_rfl) (by kernel_rfl) (by kernel_rfl) (fun _ _ _ h => h) (by rfl) ?_ ?_; rotate_left 1; focus (intro w; go_simp; try with_reducible rfl))
          try simp only [Act.put, List.setIfInBounds_toArray, List.set_cons_zero, List.set_cons_succ]
          (refine wpAnyP_takeL (i := 5) (v := ?_) rfl (by kernel_rfl) (by kernel_rfl) (by kernel_rfl) (fun _ _ _ h => h) (by rfl) ?_ ?_; rotate_left 1; focus (intro w; go_simp; try with_reducible rfl))
          try simp only [Act.put, List.setIfInBounds_toArray, List.set_cons_zero, List.set_cons_succ]
          (refine wpAnyP_loadL (i := 6) (v := ?_) rfl (by kernel_rfl) (by kernel_rfl) (by kernel_rfl) (by rfl) (fun _ _ _ h => h) hF0 (by rfl) ?_ ?_; rotate_left 1; focus (intro w hFw; (try dsimp only at hFw); go_split_ands; go_simp; try with_reducible rfl))
          try simp only [Act.put, List.setIfInBounds_toArray, List.set_cons_zero, List.set_cons_succ]
          (refine wpAnyP_takeL (i := 7) (v := ?_) rfl (by kernel_rfl) (by kernel_rfl) (by kernel_rfl) (fun _ _ _ h => h) (by rfl) ?_ ?_; rotate_left 1; focus (intro w; go_simp; try with_reducible rfl))
          try simp only [Act.put, List.setIfInBounds_toArray, List.set_cons_zero, List.set_cons_succ]
          (refine wpAnyP_loadL (i := 8) (v := ?_) rfl (by kernel_rfl) (by kernel_rfl) (by kernel_rfl) (by rfl) (fun _ _ _ h => h) hF0 (by rfl) ?_ ?_; rotate_left 1; focus (intro w hFw; (try dsimp only at hFw); go_split_ands; go_simp; try with_reducible rfl))
          try simp only [Act.put, List.setIfInBounds_toArray, List.set_cons_zero, List.set_cons_succ]
          (refine wpAnyP_takeL (i := 9) (v := ?_) rfl (by kernel_rfl) (by kernel_rfl) (by kernel_rfl) (fun _ _ _ h => h) (by rfl) ?_ ?_; rotate_left 1; focus (intro w; go_simp; try with_reducible rfl))
          try simp only [Act.put, List.setIfInBounds_toArray, List.set_cons_zero, List.set_cons_succ]
          (refine wpAnyP_takeL (i := 10) (v := ?_) rfl (by kernel_rfl) (by kernel_rfl) (by kernel_rfl) (fun _ _ _ h => h) (by rfl) ?_ ?_; rotate_left 1; focus (intro w; go_simp; try with_reducible rfl))
          try simp only [Act.put, List.setIfInBounds_toArray, List.set_cons_zero, List.set_cons_succ]
          refine wpAnyP_step (i := 11) rfl (by kernel_rfl) (by rfl) (fun K hK => ?_)
          go_simp
          (have f2 := KS.out.frozen 2; have f3 := KS.out.frozen 3; have q2 := KS.out.cell 2; have q3 := KS.out.cell 3; go_simp; clear f2 f3 q2 q3)
          (refine hK _ _ (⟨((KF.out.far (p := ⟨wr.heap.size + 1, 2, none⟩) (by show wr.heap.size ≠ wr.heap.size + 1; omega) _).far (p := ⟨wr.heap.size + 1, 3, none⟩) (by show wr.heap.size ≠ wr.heap.size + 1; omega) _).cell 1, ((KF.out.far (p := ⟨wr.heap.size + 1, 2, none⟩) (by show wr.heap.size ≠ wr.heap.size + 1; omega) _).far (p := ⟨wr.heap.size + 1, 3, none⟩) (by show wr.heap.size ≠ wr.heap.size + 1; omega) _).cell 2⟩) (fun hF1 => ?_); clear hK K hF0)
          try simp only [Act.put, List.setIfInBounds_toArray, List.set_cons_zero, List.set_cons_succ]
          (refine wpAnyP_takeL (i := 12) (v := ?_) rfl (by kernel_rfl) (by kernel_rfl) (by kernel_rfl) (fun _ _ _ h => h) (by rfl) ?_ ?_; rotate_left 1; focus (intro w; go_simp; try with_reducible rfl))
          try simp only [Act.put, List.setIfInBounds_toArray, List.set_cons_zero, List.set_cons_succ]
          refine wpAnyP_last (i := 13) rfl (by kernel_rfl) (by kernel_rfl) (by rfl) (fun K hK => ?_)
          go_simp
          (have f4 := KS.out.frozen 4; have f5 := KS.out.frozen 5; have q4 := KS.out.cell 4; have q5 := KS.out.cell 5; go_simp; clear f4 f5 q4 q5)
          (refine hK _ _ ?_; clear hK K)
          try simp only [Act.put, List.setIfInBounds_toArray, List.set_cons_zero, List.set_cons_succ]
          refine wpAnyP_done (by kernel_rfl) ?_ _
          have hne : Value.ownBlock (.slice (some ⟨g, 0, none⟩) n c4) ≠ some (wr.heap.size + 1) := fun e => by have e : g = wr.heap.size + 1 := Option.some.inj e; omega
          have hbg : w2.heap.size + 1 ≤ wr.heap.size + 1 := by omega
          have SY0 := (((SV.out.far (i := 2) hbg hne (.int .i64 gr)).far (i := 3) hbg hne (.int .i64 gr)).far (i := 4) hbg hne (.int .i64 ce)).far (i := 5) hbg hne (.int .i64 ce)
          have KSY0 := (((KS.out.set_ 2 (.int .i64 gr)).set_ 3 (.int .i64 gr)).set_ 4 (.int .i64 ce)).set_ 5 (.int .i64 ce)
          have hnf : wr.heap.size ≠ wr.heap.size + 1 := by omega
          have KFY0 := (((KF.out.far (p := ⟨wr.heap.size + 1, 2, none⟩) hnf (.int .i64 gr)).far (p := ⟨wr.heap.size + 1, 3, none⟩) hnf (.int .i64 gr)).far (p := ⟨wr.heap.size + 1, 4, none⟩) hnf (.int .i64 ce)).far (p := ⟨wr.heap.size + 1, 5, none⟩) hnf (.int .i64 ce)
          generalize ((((V.setCell ⟨wr.heap.size + 1, 2, none⟩ (.int .i64 gr)).setCell ⟨wr.heap.size + 1, 3, none⟩ (.int .i64 gr)).setCell ⟨wr.heap.size + 1, 4, none⟩ (.int .i64 ce)).setCell ⟨wr.heap.size + 1, 5, none⟩ (.int .i64 ce)) = Y at SY0 KSY0 KFY0 ⊢
          simp only [List.setIfInBounds_toArray, List.set_cons_zero, List.set_cons_succ] at KSY0
          have SY := Lib.hid SY0.drew
          have u0 := KSY0.drew.cell 0
          have u1 := KSY0.drew.cell 1
          have u2 := KSY0.drew.cell 2
          have u3 := KSY0.drew.cell 3
          have u4 := KSY0.drew.cell 4
          have u5 := KSY0.drew.cell 5
          have uf := KFY0.drew.cell 0
          clear SY0 KSY0 KFY0 KS KF SV
          generalize Y.drew = Y2 at SY u0 u1 u2 u3 u4 u5 uf ⊢
          have c8 := SY.out.out.cell 2
          have s0 := (SY.out.row.cellAt (j0 * 6) (by omega)).trans (flat_at encS_len cur j0 HJ0.out 0 _ rfl)
          have s1 := (SY.out.row.cellAt (j0 * 6 + 1) (by omega)).trans (flat_at encS_len cur j0 HJ0.out 1 _ rfl)
          have s2 := (SY.out.row.cellAt (j0 * 6 + 2) (by omega)).trans (flat_at encS_len cur j0 HJ0.out 2 _ rfl)
          have s3 := (SY.out.row.cellAt (j0 * 6 + 3) (by omega)).trans (flat_at encS_len cur j0 HJ0.out 3 _ rfl)
          have s4 := (SY.out.row.cellAt (j0 * 6 + 4) (by omega)).trans (flat_at encS_len cur j0 HJ0.out 4 _ rfl)
          have s5 := (SY.out.row.cellAt (j0 * 6 + 5) (by omega)).trans (flat_at encS_len cur j0 HJ0.out 5 _ rfl)
          generalize cur[j0]'HJ0.out = y9 at s0 s1 s2 s3 s4 s5
          have f0 := SY.out.row.frozenAt (j0 * 6)
          have f1 := SY.out.row.frozenAt (j0 * 6 + 1)
          have f2 := SY.out.row.frozenAt (j0 * 6 + 2)
          have f3 := SY.out.row.frozenAt (j0 * 6 + 3)
          have f4 := SY.out.row.frozenAt (j0 * 6 + 4)
          have f5 := SY.out.row.frozenAt (j0 * 6 + 5)
          have SZ := Lib.hid (SY.out.put6 HJ0.out ⟨y.st, y.gd, gr, gr, ce, ce⟩ hg1)
          go_wp2_with fail
          go_roundw
          case rel => exact ⟨k + 1, _, by omega, by go_num, HNX.out.symm, SZ.out⟩
          case measure => simp [intOf]; omega
        · have HK := Lib.hid (show m ≤ k by omega)
          have HTK := Lib.hid (show cur = applyF l fs by rw [HCU.out, List.take_of_length_le (by have := HFL.out; omega)])
          have c0 := HS.out.out.cell 0
          have c1 := HS.out.out.cell 1
          have c2' := HS.out.out.cell 2
          have f0 := HS.out.res.frozen 0
          have f1 := HS.out.res.frozen 1
          have f2 := HS.out.res.frozen 2
          have r0 := HS.out.res.cell 0
          have r1 := HS.out.res.cell 1
          have r2 := HS.out.res.cell 2
          go_wp2_with fail
          have hX9 := ((HS.out.res.set_ 0 (.int .i64 st)).set_ 1 (.int .i64 gd)).set_ 2 (.slice A4 n c4)
          have hL9 := ((HS.out.low.setCell (p := ⟨w.heap.size + 1, 0, none⟩) (by show w.heap.size ≤ w.heap.size + 1; omega) (.int .i64 st)).setCell (p := ⟨w.heap.size + 1, 1, none⟩) (by show w.heap.size ≤ w.heap.size + 1; omega) (.int .i64 gd)).setCell (p := ⟨w.heap.size + 1, 2, none⟩) (by show w.heap.size ≤ w.heap.size + 1; omega) (.slice A4 n c4)
          have d0 := hX9.cell 0
          have d1 := hX9.cell 1
          have d2 := hX9.cell 2
          obtain ⟨b9, hb9, hS9⟩ := Sl.of_own encS_len (show n = cur.length by rw [HCL.out]; exact HA.out) HS.out.row
          have hS10 := hS9.store3 (B := w.heap.size + 1) (fun _ => by omega) (.int .i64 st) (.int .i64 gd) (.slice A4 n c4)
          rw [HTK.out] at hS10
          refine bodyPost_ret (v := .tuple #[.agg #[.int .i64 st, .int .i64 gd, .slice A4 n c4], .int .i64 0]) (by simp [results, Try.f51, go_sem, d0, d1, d2]) rfl ?_
          exact ⟨A4, n, c4, b9, rfl, hS10, by omega, hL9⟩
    · have hee : audErr st gd l fs ≠ 0 := by rw [HER.out]; exact hf0
      have HO := Lib.hid (show (if audErr st gd l fs = 0 then ((0 : Int), applyF l fs) else (audErr st gd l fs, [])) = (findsErr l fs, []) by rw [if_neg hee, HER.out])
      rw [HO.out]
      have hfb : (findsErr l fs == 0) = false := by simpa using hf0
      generalize hq : findsErr l fs = q at hf0 hfb
      have HQ := Lib.hid hq
      have HNZ := Lib.hid hf0
      clear hq hee hf0
      go_enter Try.func51, Try.ntmps51
      go_wp2_with fail
      refine (rcheck_any st gd b n c A l _ (HL.out.old XL.out) hn).mono ?_
      rw [HC.out]
      rintro e w1 ⟨rfl, hB1⟩
      have Y0 := Lib.hid (X0.out.below hB1 X0.out.lt)
      have Y1 := Lib.hid (X1.out.below hB1 X1.out.lt)
      have YL := Lib.hid (Below.step hB1 XL.out (Nat.le_refl _))
      have e0 := Y0.out.cell 0
      have e1 := Y0.out.cell 1
      have e2 := Y0.out.cell 2
      clear hB1 X0 X1 XL
      go_wp2_with fail
      refine (rcheckFinds_any st gd b n c b2 m c2 A A2 l fs _ (HL.out.old YL.out) (HF.out.old YL.out) hn hm).mono ?_
      rw [HQ.out]
      rintro e w2 ⟨rfl, hB2⟩
      have Z1 := Lib.hid (Y1.out.below hB2 Y1.out.lt)
      have ZL := Lib.hid (Below.step hB2 YL.out (Nat.le_refl _))
      have f0 := Z1.out.frozen 0
      have f1 := Z1.out.frozen 1
      have f2 := Z1.out.frozen 2
      have r0 := Z1.out.cell 0
      have r1 := Z1.out.cell 1
      have r2 := Z1.out.cell 2
      clear hB2 Y0 Y1 YL e0 e1 e2
      go_wp2_with fail
      have hX9 := ((Z1.out.set_ 0 (.int .i64 0)).set_ 1 (.int .i64 0)).set_ 2 (.slice none 0 0)
      have hL9 := ((ZL.out.setCell (p := ⟨w.heap.size + 1, 0, none⟩) (by show w.heap.size ≤ w.heap.size + 1; omega) (.int .i64 0)).setCell (p := ⟨w.heap.size + 1, 1, none⟩) (by show w.heap.size ≤ w.heap.size + 1; omega) (.int .i64 0)).setCell (p := ⟨w.heap.size + 1, 2, none⟩) (by show w.heap.size ≤ w.heap.size + 1; omega) (.slice none 0 0)
      have d0 := hX9.cell 0
      have d1 := hX9.cell 1
      have d2 := hX9.cell 2
      refine bodyPost_ret (v := .tuple #[.agg #[.int .i64 0, .int .i64 0, .slice none 0 0], .int .i64 q]) (by simp [results, Try.f51, go_sem, d0, d1, d2]) rfl ?_
      exact ⟨none, 0, 0, w.heap.size, by simp [HNZ.out], Sl.nil _ _ _, Nat.le_refl _, hL9⟩
  · have hee : audErr st gd l fs = check st gd l := by unfold audErr; rw [if_pos hc0]
    have HO := Lib.hid (show (if audErr st gd l fs = 0 then ((0 : Int), applyF l fs) else (audErr st gd l fs, [])) = (check st gd l, []) by rw [if_neg (by rw [hee]; exact hc0), hee])
    rw [HO.out]
    have hfb : (check st gd l == 0) = false := by simpa using hc0
    generalize hq : check st gd l = q at hc0 hfb
    have HQ := Lib.hid hq
    have HNZ := Lib.hid hc0
    clear hq hee hc0
    go_enter Try.func51, Try.ntmps51
    go_wp2_with fail
    refine (rcheck_any st gd b n c A l _ (HL.out.old XL.out) hn).mono ?_
    rw [HQ.out]
    rintro e w1 ⟨rfl, hB1⟩
    have Y1 := Lib.hid (X1.out.below hB1 X1.out.lt)
    have YL := Lib.hid (Below.step hB1 XL.out (Nat.le_refl _))
    have f0 := Y1.out.frozen 0
    have f1 := Y1.out.frozen 1
    have f2 := Y1.out.frozen 2
    have r0 := Y1.out.cell 0
    have r1 := Y1.out.cell 1
    have r2 := Y1.out.cell 2
    clear hB1 X0 X1 XL
    go_wp2_with fail
    have hX9 := ((Y1.out.set_ 0 (.int .i64 0)).set_ 1 (.int .i64 0)).set_ 2 (.slice none 0 0)
    have hL9 := ((YL.out.setCell (p := ⟨w.heap.size + 1, 0, none⟩) (by show w.heap.size ≤ w.heap.size + 1; omega) (.int .i64 0)).setCell (p := ⟨w.heap.size + 1, 1, none⟩) (by show w.heap.size ≤ w.heap.size + 1; omega) (.int .i64 0)).setCell (p := ⟨w.heap.size + 1, 2, none⟩) (by show w.heap.size ≤ w.heap.size + 1; omega) (.slice none 0 0)
    have d0 := hX9.cell 0
    have d1 := hX9.cell 1
    have d2 := hX9.cell 2
    refine bodyPost_ret (v := .tuple #[.agg #[.int .i64 0, .int .i64 0, .slice none 0 0], .int .i64 q]) (by simp [results, Try.f51, go_sem, d0, d1, d2]) rfl ?_
    exact ⟨none, 0, 0, w.heap.size, by simp [HNZ.out], Sl.nil _ _ _, Nat.le_refl _, hL9⟩
end Go.Proofs.Ytkcdknjgjidnnaa
