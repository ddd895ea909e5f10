/-
  The walk of the law TraceAll.
-/
import Derived.Test.YtkphgdkjjklajaaWaysW
import Derived.Test.YtkphgdkjjklajaaHitR
import Derived.Test.YtkphgdkjjklajaaTrLaw
import Derived.Test.YtkphgdkjjklajaaSame
set_option linter.unusedVariables false
set_option linter.unusedSimpArgs false
namespace Go.Proofs.Ytkphgdkjjklajaa
open Go.RowKit Go.Shelf Go.Sort

theorem ownStep {bs : Int → Int} {l : List Int} {k : Nat} (hk : k < l.length) (b : Int) : (if b = l[k] then bs l[k] else ownOf bs (l.take k) b) = ownOf bs (l.take (k + 1)) b := by
  have e : ∀ b, b ∈ l.take (k + 1) ↔ b ∈ l.take k ∨ b = l[k] := fun b => by
    rw [show l.take (k + 1) = l.take k ++ [l[k]] by rw [List.take_add_one, List.getElem?_eq_getElem hk]; rfl, List.mem_append, List.mem_singleton]
  unfold ownOf
  by_cases h : b = l[k]
  · rw [if_pos h, if_pos ((e b).2 (.inr h)), h]
  · rw [if_neg h]
    by_cases h2 : b ∈ l.take k
    · rw [if_pos h2, if_pos ((e b).2 (.inl h2))]
    · rw [if_neg h2, if_neg (fun h3 => ((e b).1 h3).elim h2 h)]
theorem rowFset (f : Int → Int) {N k : Nat} (x : Int) : ((rg N).map f).set k x = (rg N).map (fun b : Int => if b = (k : Int) then x else f b) := by
  refine List.ext_getElem (by simp) fun i h1 h2 => ?_
  rw [List.length_set, List.length_map, rg_length] at h1
  rw [List.getElem_set, List.getElem_map, List.getElem_map, rg_atB h1]
  by_cases e : k = i
  · subst e; simp
  · rw [if_neg e, if_neg (fun h => e (by omega))]
/-- few grams stay few -/
theorem few_has {bs : List Int} {ms : List Mv} (h : NetIn bs ms) (h3 : ∀ g ∈ bs, g ≤ 3) (h4 : bs.length ≤ 4) (k : Nat) {b : Int} (b0 : 0 ≤ b) (b1 : b < bs.length) : hasAt (bsF bs) (ms.take k) b ≤ 12 := by
  have hm := h.ms.take k
  have e := sm_hasAt hm
  have h1 := sm_ge_one (l := rg bs.length) (f := hasAt (bsF bs) (ms.take k)) (fun x _ => hm.nonneg h.pos x) (mem_rg.2 ⟨b0, b1⟩)
  have h2 : sm (rg bs.length) (bsF bs) ≤ (rg bs.length).length * 3 := sm_const_le fun x hx => by
    have hx := mem_rg.1 hx
    obtain ⟨i, rfl⟩ := Int.eq_ofNat_of_zero_le hx.1
    rw [bsF_get (by omega)]
    exact h3 _ (List.getElem_mem _)
  rw [rg_length] at h2
  omega
theorem few_g {bs : List Int} {ms : List Mv} (h : NetIn bs ms) (h3 : ∀ g ∈ bs, g ≤ 3) (h4 : bs.length ≤ 4) : ∀ m ∈ ms, 0 ≤ m.g ∧ m.g ≤ 12 := fun m hm => by
  obtain ⟨k, hk, rfl⟩ := List.getElem_of_mem hm
  have h1 := h.at_ hk
  have h2 := few_has h h3 h4 k h1.f0 h1.f1
  have g0 := h1.g0
  have g1 := h1.g1
  omega
theorem few_ways {bs : List Int} {ms : List Mv} (h : NetIn bs ms) (h3 : ∀ g ∈ bs, g ≤ 3) (h4 : bs.length ≤ 4) (h5 : ms.length ≤ 5) (a own : Int → Int) : (waysT a own ms).length ≤ 1000000 := by
  refine Nat.le_trans (waysT_len (few_g h h3 h4)) (Nat.le_trans (Nat.pow_le_pow_right (by omega) h5) (by decide))
theorem make_spans (n : Nat) (hn : n ≤ 1000000) (W : World) : (Instr.makeSlice 44 (.int .i64 (n : Int)) (.int .i64 (n : Int))).run Try.prog W = .ok (.slice (some ⟨W.heap.size, 0, none⟩) n n) (W.alloc (.cells (((List.range n).map fun _ => (⟨0, 0⟩ : Span)).flatMap encR).toArray 48)) := by
  have h := info_parts (show (Try.prog.info? 48).map (fun i => (i.zero, i.size, i.bytes)) = some (some (.agg #[.int .i64 0, .int .i64 0]), 2, 16) by kernel_rfl)
  obtain ⟨i0, hi, iz0, iz1, iz2⟩ := h
  have hr := run_make (P := Try.prog) (w := W) 44 48 i0 _ Try.underlying44 hi iz0 .i64 .i64 (n : Int) (n : Int) (by omega) (Int.le_refl _) (by rw [iz2]; omega) (by omega)
  rw [hr, iz1]
  have e : madeCells (Value.cells (.agg #[.int .i64 0, .int .i64 0])) (n * 2) = (((List.range n).map fun _ => (⟨0, 0⟩ : Span)).flatMap encR).toArray := by
    apply Array.toList_inj.1
    rw [List.toList_toArray]
    have e2 : ∀ n : Nat, ((List.range n).map fun _ => (⟨0, 0⟩ : Span)).flatMap encR = List.replicate (2 * n) (Value.int .i64 0) := fun n => by
      induction n with
      | zero => rfl
      | succ n ih =>
        rw [List.range_succ, List.map_append, List.flatMap_append, ih, show 2 * (n + 1) = 2 * n + 2 by omega, ← List.replicate_append_replicate]
        rfl
    rw [e2]
    apply List.ext_getElem?
    intro j
    by_cases hj : j < 2 * n
    · have hj2 : j < n * 2 := by omega
      rcases Nat.mod_two_eq_zero_or_one j with h | h
      · simp [madeCells, Value.cells, hj, List.getElem?_range hj2, h]
      · simp [madeCells, Value.cells, hj, List.getElem?_range hj2, h]
    · have hj2 : ¬ j < n * 2 := by omega
      simp [madeCells, Value.cells, hj]
      omega
  simp only [Int.toNat_natCast]
  rw [e]
theorem LawSt.bar {w W W' : World} {d Bn b1 b2 nb cb nm cm E T : Nat} {Ab Am : Option Addr} {bs : List Int} {ms : List Mv} (h : LawSt w W d Bn b1 b2 Ab Am nb cb nm cm bs ms) (hb : Bar E T W W') (hE : w.heap.size ≤ E) (hT : w.heap.size ≤ T)
    (e1 : Bn ≠ E ∧ Bn ≠ T) (e2 : b1 ≠ E ∧ b1 ≠ T) (e3 : 0 < nm → b2 ≠ E ∧ b2 ≠ T) (e4 : d ≠ E ∧ d ≠ T) : LawSt w W' d Bn b1 b2 Ab Am nb cb nm cm bs ms :=
  ⟨⟨hb.os.trans h.low.os, hb.tape.trans h.low.tape, hb.output.trans h.low.output, Nat.le_trans h.low.size hb.size, fun i hi => (hb.block i (Nat.lt_of_lt_of_le hi h.low.size) (by omega) (by omega)).trans (h.low.block i hi)⟩,
    h.blk.bar hb e1.1 e1.2, ⟨h.net.b.bar hb (fun _ => e2), h.net.m.bar hb e3, h.net.cb, h.net.cm⟩, h.ni, h.die.keep (hb.block d h.die.lt e4.1 e4.2), h.ne⟩
/-- two rows of spans are made -/
theorem mk2s (V : World) (n m : Nat) : let o := fun k : Nat => Obj.cells (((List.range k).map fun _ => (⟨0, 0⟩ : Span)).flatMap encR).toArray 48
    SpF ((V.alloc (o n)).alloc (o m)).drew V.heap.size n (fun _ => ⟨0, 0⟩) ∧ SpF ((V.alloc (o n)).alloc (o m)).drew (V.heap.size + 1) m (fun _ => ⟨0, 0⟩) ∧ Below V.heap.size V ((V.alloc (o n)).alloc (o m)).drew := by
  intro o
  have b1 := (Blk.new V 48 (((List.range n).map fun _ => (⟨0, 0⟩ : Span)).flatMap encR).toArray).alloc (o m)
  have b2 := Blk.new (V.alloc (o n)) 48 (((List.range m).map fun _ => (⟨0, 0⟩ : Span)).flatMap encR).toArray
  rw [World.size_alloc] at b2
  exact ⟨b1, b2, (((Below.refl _ V).alloc (Nat.le_refl _) (o n)).alloc (by simp) (o m)).drew⟩

set_option maxRecDepth 100000 in
set_option maxHeartbeats 4000000 in
theorem traceAll_any (A : Option Addr) (n c : Nat) (w : World) (hN : Nums w A n) : Calls Try.prog 7 #[.slice A n c] w fun e w' => e = .returned (.bool true) ∧ Below w.heap.size w w' := by
  obtain ⟨i0, hi, iz0, iz1, iz2⟩ := info_parts info_int
  go_enter Try.func7, Try.ntmps7
  obtain ⟨b, l0, hl0, hw0, hn0⟩ := hN
  go_wp2_with fail
  refine (dieOf_any b n c A l0 _ hl0 hn0 hw0).mono ?_
  rintro e w1 ⟨d, hd, rfl, hdie, hB1⟩
  have HB1 := Lib.hid hB1
  have hz1 := hB1.size
  clear hl0 hw0 hB1
  go_wp2_with fail
  refine (netOfG_any d 4 5 3 _ hdie (by omega) (by omega) (by omega) (by omega) (by omega)).mono ?_
  rintro e w3 ⟨bs, ms, b1, b2, Ab, Am, nb, cb, nm, cm, hG3, hNI, hnb, hnm, rfl, hNM, hb1, hb2, hd3, hg3⟩
  have hz3 := hg3.size
  have hdz2 := hdie.lt
  have HB3 := Lib.hid (Below.stepG hg3 HB1.out (Nat.le_refl _) hd)
  have HS3 := Lib.hid (show LawSt w (w3.alloc (.cells #[.slice Ab nb cb, .slice Am nm cm] 25)) d w3.heap.size b1 b2 Ab Am nb cb nm cm bs ms from ⟨HB3.out.alloc HB3.out.size _, Blk.new w3 _ _, hNM.old ((Below.refl _ w3).alloc (Nat.le_refl _) _), hNI, hd3.alloc _, by omega, by omega, by omega, hd⟩)
  have HNB := Lib.hid HS3.out.nb_eq
  have HNMq := Lib.hid HS3.out.nm_eq
  have HG3 := Lib.hid hG3
  have hb1l := hNM.b.lt (by have := hNI.n0; have := HNB.out; omega)
  have HB2L := Lib.hid (fun h : 0 < nm => hNM.m.lt h)
  have hnb0 : 0 < nb := by have := hNI.n0; have := HNB.out; omega
  clear hNM hNI hd3 hg3 hG3
  have c0 := HS3.out.blk.cell 0
  have c1 := HS3.out.blk.cell 1
  go_wp2_with fail
  refine (originsOf_any d nb cb nm cm Ab Am _ HS3.out.die (by omega)).mono ?_
  rintro e w4 ⟨l, Ao, co, hl, rfl, hol, hd4, hg4⟩
  rw [HNB.out] at hl
  obtain ⟨b3, hb3, hsl⟩ := Sl.of_own (enc := encI) encI_len rfl hol
  have hl8 : l.length ≤ 8 := by have := orig_len hl.nodup hl.rg HS3.out.ni.n1; omega
  have HS4 := Lib.hid (HS3.out.dieTo hd4 hg4)
  have HSL := Lib.hid hsl
  have HL := Lib.hid hl
  have hz4 := hg4.size
  simp only [World.size_alloc] at hz4 hb3
  have hb3l : 0 < l.length → b3 < w4.heap.size := fun h => hsl.lt h
  have HB3L := Lib.hid hb3l
  clear hol hd4 hg4 hsl hl c0 c1 hb3l
  have c0 : w4.cell? ⟨w3.heap.size, 0, none⟩ = some (.slice Ab nb cb) := HS4.out.blk.cell 0
  have hmk1 := make_ints nb (by omega)
  have hmk2 := make_bools nb (by omega)
  go_upto_region 5 with fail
  have c2 := cell_oldB c0 ((Below.refl _ w4).alloc (Nat.le_refl _) (.cells (Array.replicate nb (Value.int .i64 0)) 3))
  go_upto_region 6 with fail
  obtain ⟨V, hV⟩ : ∃ V, (w4.alloc (.cells (Array.replicate nb (Value.int .i64 0)) 3)).alloc (.cells (Array.replicate nb (Value.bool false)) 4) = V := ⟨_, rfl⟩
  have HLV := Lib.hid (show LawSt w V d w3.heap.size b1 b2 Ab Am nb cb nm cm bs ms from hV ▸ (HS4.out.alloc _).alloc _)
  have HSV := Lib.hid (show Sl encI 1 V b3 Ao l.length l from hV ▸ (HSL.out.alloc _).alloc _)
  have hzV : V.heap.size = w4.heap.size + 2 := by rw [← hV]; simp
  have HHD := Lib.hid (show RowC V w4.heap.size ((rg nb).map (ownOf (bsF bs) (l.take 0))) ∧ BRow V (w4.heap.size + 1) nb (isR bs l ms (throughT bs ms l) 0 0) from by
    rw [← hV]
    constructor
    · have e : (rg nb).map (ownOf (bsF bs) (l.take 0)) = List.replicate nb 0 := by
        rw [List.eq_replicate_iff]
        refine ⟨by rw [List.length_map, rg_length], fun x hx => ?_⟩
        obtain ⟨b, _, rfl⟩ := List.mem_map.1 hx
        simp [ownOf]
      rw [e]
      exact ⟨_, (Blk.new w4 3 _).alloc _, by simp, by simp⟩
    · have h := BRow.made (w4.alloc (.cells (Array.replicate nb (Value.int .i64 0)) 3)) nb
      rw [World.size_alloc] at h
      exact h.congr fun b _ _ => by simp [isR, hitO, hitL])
  rw [hV]
  clear hV c0 c2 hmk1 hmk2 HSL
  go_wp2_with fail
  go_loopw [8] (fun i wr => ∃ k : Nat, k ≤ l.length ∧ i = .int .i64 k ∧ Bar w4.heap.size (w4.heap.size + 1) V wr ∧ RowC wr w4.heap.size ((rg nb).map (ownOf (bsF bs) (l.take k))) ∧ BRow wr (w4.heap.size + 1) nb (isR bs l ms (throughT bs ms l) k 0)) (fun i _ => l.length - (intOf i).toNat)
  case atStart => exact ⟨0, Nat.zero_le _, rfl, Bar.refl _ _ _, HHD.out⟩
  case round =>
    obtain ⟨k, hk, rfl, hB, hR, hD⟩ := hrel
    by_cases hlt : k < l.length
    · have hkl := hlt
      have hb3l := HB3L.out (by omega)
      obtain ⟨oo, rfl, _, so⟩ := HSV.out.atI hkl
      have hor := HL.out.rg _ (List.getElem_mem hkl)
      have HSR := Lib.hid (And.intro (ownStep (bs := bsF bs) hkl) (isR_src (bs := bs) (ms := ms) (xs := throughT bs ms l) hkl HL.out.nodup))
      generalize l[k] = x at so hor HSR
      obtain ⟨o, rfl⟩ := Int.eq_ofNat_of_zero_le hor.1
      have hob : o < nb := by have := HNB.out; omega
      obtain ⟨ob, rfl, _, sb⟩ := HLV.out.net.b.atI (k := o) (by have := HNB.out; omega)
      rw [← bsF_get] at sb
      have n0 : V.cell? ⟨w3.heap.size, 0, none⟩ = some (.slice (some ⟨b1, ob, none⟩) nb cb) := HLV.out.blk.cell 0
      have HF9 := Lib.hid (fun (W : World) (hb : Bar w4.heap.size (w4.heap.size + 1) V W) => (show W.cell? ⟨w3.heap.size, 0, none⟩ = some (.slice (some ⟨b1, ob, none⟩) nb cb) ∧ W.cell? ⟨b3, oo + k, none⟩ = some (.int .i64 (o : Int)) ∧ W.cell? ⟨b1, ob + o, none⟩ = some (.int .i64 (bsF bs o)) from
        ⟨cell_bar n0 hb ⟨by omega, by omega⟩, cell_bar so hb ⟨by omega, by omega⟩, cell_bar sb hb ⟨by omega, by omega⟩⟩))
      have k0 : (0 : Int) ≤ (k : Int) := by omega
      have k1 : (k : Int) < (l.length : Int) := by omega
      have o0 : (0 : Int) ≤ (o : Int) := by omega
      have o1 : (o : Int) < (nb : Int) := by omega
      have HFR := Lib.hid (And.intro (hR.cell (k := o) (by rw [has_len]; exact hob)) (hR.frozen o))
      have hR2 := hR.set_ (k := o) (by rw [has_len]; exact hob) (bsF bs o)
      rw [rowFset] at hR2
      have HR2 := Lib.hid hR2
      have HB := Lib.hid hB
      have HB2 := Lib.hid (hB.drew.setCell ⟨w4.heap.size, o, none⟩ (.inl rfl) (.int .i64 (bsF bs o)))
      have HD2 := Lib.hid (Blk.far hD (p := ⟨w4.heap.size, o, none⟩) (by show w4.heap.size + 1 ≠ w4.heap.size; omega) (.int .i64 (bsF bs o)))
      clear hB hR hD hR2 so sb n0 hor hb3l
      go_upto_region 9 with fail
      refine wp_region_PL [4, 6, 10, 12] (fun W => W.cell? ⟨w3.heap.size, 0, none⟩ = some (.slice (some ⟨b1, ob, none⟩) nb cb) ∧ W.cell? ⟨b3, oo + k, none⟩ = some (.int .i64 (o : Int)) ∧ W.cell? ⟨b1, ob + o, none⟩ = some (.int .i64 (bsF bs o))) rfl (by kernel_rfl) (HF9.out _ HB.out.drew) (fun hF0 => ?_)
      (refine wpAnyP_takeL (i := 0) (v := ?_) rfl (by kernel_rfl) (by kernel_rfl) (by kernel_rfl) (fun _ _ _ h => h) (by rfl) ?_ ?_; rotate_left 1; focus (intro w; go_simp; try with_reducible rfl))
      try simp only [Act.put, List.setIfInBounds_toArray, List.set_cons_zero, List.set_cons_succ]
      (refine wpAnyP_takeL (i := 1) (v := ?_) rfl (by kernel_rfl) (by kernel_rfl) (by kernel_rfl) (fun _ _ _ h => h) (by rfl) ?_ ?_; rotate_left 1; focus (intro w; go_simp; try with_reducible rfl))
      try simp only [Act.put, List.setIfInBounds_toArray, List.set_cons_zero, List.set_cons_succ]
      (refine wpAnyP_takeL (i := 2) (v := ?_) rfl (by kernel_rfl) (by kernel_rfl) (by kernel_rfl) (fun _ _ _ h => h) (by rfl) ?_ ?_; rotate_left 1; focus (intro w; go_simp; try with_reducible rfl))
      try simp only [Act.put, List.setIfInBounds_toArray, List.set_cons_zero, List.set_cons_succ]
      (refine wpAnyP_takeL (i := 3) (v := ?_) rfl (by kernel_rfl) (by kernel_rfl) (by kernel_rfl) (fun _ _ _ h => h) (by rfl) ?_ ?_; rotate_left 1; focus (intro w; go_simp; try with_reducible rfl))
      try simp only [Act.put, List.setIfInBounds_toArray, List.set_cons_zero, List.set_cons_succ]
      (refine wpAnyP_loadL (i := 4) (v := ?_) rfl (by kernel_rfl) (by kernel_rfl) (by kernel_rfl) (by rfl) (fun _ _ _ h => h) hF0 (by rfl) ?_ ?_; rotate_left 1; focus (intro w hFw; (try dsimp only at hFw); go_split_ands; go_simp; try with_reducible rfl))
      try simp only [Act.put, List.setIfInBounds_toArray, List.set_cons_zero, List.set_cons_succ]
      (refine wpAnyP_takeL (i := 5) (v := ?_) rfl (by kernel_rfl) (by kernel_rfl) (by kernel_rfl) (fun _ _ _ h => h) (by rfl) ?_ ?_; rotate_left 1; focus (intro w; go_simp; try with_reducible rfl))
      try simp only [Act.put, List.setIfInBounds_toArray, List.set_cons_zero, List.set_cons_succ]
      (refine wpAnyP_loadL (i := 6) (v := ?_) rfl (by kernel_rfl) (by kernel_rfl) (by kernel_rfl) (by rfl) (fun _ _ _ h => h) hF0 (by rfl) ?_ ?_; rotate_left 1; focus (intro w hFw; (try dsimp only at hFw); go_split_ands; go_simp; try with_reducible rfl))
      try simp only [Act.put, List.setIfInBounds_toArray, List.set_cons_zero, List.set_cons_succ]
      (refine wpAnyP_takeL (i := 7) (v := ?_) rfl (by kernel_rfl) (by kernel_rfl) (by kernel_rfl) (fun _ _ _ h => h) (by rfl) ?_ ?_; rotate_left 1; focus (intro w; go_simp; try with_reducible rfl))
      try simp only [Act.put, List.setIfInBounds_toArray, List.set_cons_zero, List.set_cons_succ]
      (refine wpAnyP_takeL (i := 8) (v := ?_) rfl (by kernel_rfl) (by kernel_rfl) (by kernel_rfl) (fun _ _ _ h => h) (by rfl) ?_ ?_; rotate_left 1; focus (intro w; go_simp; try with_reducible rfl))
      try simp only [Act.put, List.setIfInBounds_toArray, List.set_cons_zero, List.set_cons_succ]
      (refine wpAnyP_takeL (i := 9) (v := ?_) rfl (by kernel_rfl) (by kernel_rfl) (by kernel_rfl) (fun _ _ _ h => h) (by rfl) ?_ ?_; rotate_left 1; focus (intro w; go_simp; try with_reducible rfl))
      try simp only [Act.put, List.setIfInBounds_toArray, List.set_cons_zero, List.set_cons_succ]
      (refine wpAnyP_loadL (i := 10) (v := ?_) rfl (by kernel_rfl) (by kernel_rfl) (by kernel_rfl) (by rfl) (fun _ _ _ h => h) hF0 (by rfl) ?_ ?_; rotate_left 1; focus (intro w hFw; (try dsimp only at hFw); go_split_ands; go_simp; try with_reducible rfl))
      try simp only [Act.put, List.setIfInBounds_toArray, List.set_cons_zero, List.set_cons_succ]
      (refine wpAnyP_takeL (i := 11) (v := ?_) rfl (by kernel_rfl) (by kernel_rfl) (by kernel_rfl) (fun _ _ _ h => h) (by rfl) ?_ ?_; rotate_left 1; focus (intro w; go_simp; try with_reducible rfl))
      try simp only [Act.put, List.setIfInBounds_toArray, List.set_cons_zero, List.set_cons_succ]
      (refine wpAnyP_loadL (i := 12) (v := ?_) rfl (by kernel_rfl) (by kernel_rfl) (by kernel_rfl) (by rfl) (fun _ _ _ h => h) hF0 (by rfl) ?_ ?_; rotate_left 1; focus (intro w hFw; (try dsimp only at hFw); go_split_ands; go_simp; try with_reducible rfl))
      try simp only [Act.put, List.setIfInBounds_toArray, List.set_cons_zero, List.set_cons_succ]
      (refine wpAnyP_takeL (i := 13) (v := ?_) rfl (by kernel_rfl) (by kernel_rfl) (by kernel_rfl) (fun _ _ _ h => h) (by rfl) ?_ ?_; rotate_left 1; focus (intro w; go_simp; try with_reducible rfl))
      try simp only [Act.put, List.setIfInBounds_toArray, List.set_cons_zero, List.set_cons_succ]
      refine wpAnyP_last (i := 14) rfl (by kernel_rfl) (by kernel_rfl) (by rfl) (fun K hK => ?_)
      go_simp
      (have f1 := HFR.out.2; have e1 := HFR.out.1; go_simp; clear f1 e1)
      (refine hK _ _ ?_; clear hK K)
      try simp only [Act.put, List.setIfInBounds_toArray, List.set_cons_zero, List.set_cons_succ]
      refine wpAnyP_done (by kernel_rfl) ?_ _
      obtain ⟨W6, hW6⟩ : ∃ W6, (wr.setCell ⟨w4.heap.size, o, none⟩ (.int .i64 (bsF bs o))).drew = W6 := ⟨_, rfl⟩
      have HB6 := Lib.hid (show Bar w4.heap.size (w4.heap.size + 1) V W6 from hW6 ▸ HB2.out)
      have HR6 := Lib.hid (show RowC W6 w4.heap.size ((rg nb).map (fun b : Int => if b = (o : Int) then bsF bs o else ownOf (bsF bs) (l.take k) b)) from by rw [← hW6]; exact HR2.out)
      have HD6 := Lib.hid (show BRow W6 (w4.heap.size + 1) nb (isR bs l ms (throughT bs ms l) k 0) from by rw [← hW6]; exact HD2.out)
      rw [hW6]
      clear hW6 HB HB2 HR2 HD2 HFR
      have co : W6.cell? ⟨w4.heap.size, o, none⟩ = some (.int .i64 (bsF bs o)) := by
        have h := HR6.out.cell (k := o) (by rw [has_len]; exact hob)
        rw [has_get hob, if_pos rfl] at h
        exact h
      have HF10 := Lib.hid (And.intro (HF9.out W6.drew HB6.out.drew).2.1 co)
      have HFR := Lib.hid (And.intro (HD6.out.cell hob) (HD6.out.frozen o))
      have HD7 := Lib.hid (HD6.out.set_ hob (decide (0 < bsF bs o)))
      have HB7 := Lib.hid (HB6.out.setCell ⟨w4.heap.size + 1, o, none⟩ (.inr (.inl rfl)) (.bool (decide (0 < bsF bs o))))
      have HR7 := Lib.hid (HR6.out.far (p := ⟨w4.heap.size + 1, o, none⟩) (by show w4.heap.size ≠ w4.heap.size + 1; omega) (.bool (decide (0 < bsF bs o))))
      clear co HR6 HD6 HB6
      go_upto_region 10 with fail
      refine wp_region_PL [4, 9, 11] (fun W => W.cell? ⟨b3, oo + k, none⟩ = some (.int .i64 (o : Int)) ∧ W.cell? ⟨w4.heap.size, o, none⟩ = some (.int .i64 (bsF bs o))) rfl (by kernel_rfl) (HF10.out) (fun hF0 => ?_)
      (refine wpAnyP_takeL (i := 0) (v := ?_) rfl (by kernel_rfl) (by kernel_rfl) (by kernel_rfl) (fun _ _ _ h => h) (by rfl) ?_ ?_; rotate_left 1; focus (intro w; go_simp; try with_reducible rfl))
      try simp only [Act.put, List.setIfInBounds_toArray, List.set_cons_zero, List.set_cons_succ]
      (refine wpAnyP_takeL (i := 1) (v := ?_) rfl (by kernel_rfl) (by kernel_rfl) (by kernel_rfl) (fun _ _ _ h => h) (by rfl) ?_ ?_; rotate_left 1; focus (intro w; go_simp; try with_reducible rfl))
      try simp only [Act.put, List.setIfInBounds_toArray, List.set_cons_zero, List.set_cons_succ]
      (refine wpAnyP_takeL (i := 2) (v := ?_) rfl (by kernel_rfl) (by kernel_rfl) (by kernel_rfl) (fun _ _ _ h => h) (by rfl) ?_ ?_; rotate_left 1; focus (intro w; go_simp; try with_reducible rfl))
      try simp only [Act.put, List.setIfInBounds_toArray, List.set_cons_zero, List.set_cons_succ]
      (refine wpAnyP_takeL (i := 3) (v := ?_) rfl (by kernel_rfl) (by kernel_rfl) (by kernel_rfl) (fun _ _ _ h => h) (by rfl) ?_ ?_; rotate_left 1; focus (intro w; go_simp; try with_reducible rfl))
      try simp only [Act.put, List.setIfInBounds_toArray, List.set_cons_zero, List.set_cons_succ]
      (refine wpAnyP_loadL (i := 4) (v := ?_) rfl (by kernel_rfl) (by kernel_rfl) (by kernel_rfl) (by rfl) (fun _ _ _ h => h) hF0 (by rfl) ?_ ?_; rotate_left 1; focus (intro w hFw; (try dsimp only at hFw); go_split_ands; go_simp; try with_reducible rfl))
      try simp only [Act.put, List.setIfInBounds_toArray, List.set_cons_zero, List.set_cons_succ]
      (refine wpAnyP_takeL (i := 5) (v := ?_) rfl (by kernel_rfl) (by kernel_rfl) (by kernel_rfl) (fun _ _ _ h => h) (by rfl) ?_ ?_; rotate_left 1; focus (intro w; go_simp; try with_reducible rfl))
      try simp only [Act.put, List.setIfInBounds_toArray, List.set_cons_zero, List.set_cons_succ]
      (refine wpAnyP_takeL (i := 6) (v := ?_) rfl (by kernel_rfl) (by kernel_rfl) (by kernel_rfl) (fun _ _ _ h => h) (by rfl) ?_ ?_; rotate_left 1; focus (intro w; go_simp; try with_reducible rfl))
      try simp only [Act.put, List.setIfInBounds_toArray, List.set_cons_zero, List.set_cons_succ]
      (refine wpAnyP_takeL (i := 7) (v := ?_) rfl (by kernel_rfl) (by kernel_rfl) (by kernel_rfl) (fun _ _ _ h => h) (by rfl) ?_ ?_; rotate_left 1; focus (intro w; go_simp; try with_reducible rfl))
      try simp only [Act.put, List.setIfInBounds_toArray, List.set_cons_zero, List.set_cons_succ]
      (refine wpAnyP_takeL (i := 8) (v := ?_) rfl (by kernel_rfl) (by kernel_rfl) (by kernel_rfl) (fun _ _ _ h => h) (by rfl) ?_ ?_; rotate_left 1; focus (intro w; go_simp; try with_reducible rfl))
      try simp only [Act.put, List.setIfInBounds_toArray, List.set_cons_zero, List.set_cons_succ]
      (refine wpAnyP_loadL (i := 9) (v := ?_) rfl (by kernel_rfl) (by kernel_rfl) (by kernel_rfl) (by rfl) (fun _ _ _ h => h) hF0 (by rfl) ?_ ?_; rotate_left 1; focus (intro w hFw; (try dsimp only at hFw); go_split_ands; go_simp; try with_reducible rfl))
      try simp only [Act.put, List.setIfInBounds_toArray, List.set_cons_zero, List.set_cons_succ]
      (refine wpAnyP_takeL (i := 10) (v := ?_) rfl (by kernel_rfl) (by kernel_rfl) (by kernel_rfl) (fun _ _ _ h => h) (by rfl) ?_ ?_; rotate_left 1; focus (intro w; go_simp; try with_reducible rfl))
      try simp only [Act.put, List.setIfInBounds_toArray, List.set_cons_zero, List.set_cons_succ]
      (refine wpAnyP_loadL (i := 11) (v := ?_) rfl (by kernel_rfl) (by kernel_rfl) (by kernel_rfl) (by rfl) (fun _ _ _ h => h) hF0 (by rfl) ?_ ?_; rotate_left 1; focus (intro w hFw; (try dsimp only at hFw); go_split_ands; go_simp; try with_reducible rfl))
      try simp only [Act.put, List.setIfInBounds_toArray, List.set_cons_zero, List.set_cons_succ]
      (refine wpAnyP_takeL (i := 12) (v := ?_) rfl (by kernel_rfl) (by kernel_rfl) (by kernel_rfl) (fun _ _ _ h => h) (by rfl) ?_ ?_; rotate_left 1; focus (intro w; go_simp; try with_reducible rfl))
      try simp only [Act.put, List.setIfInBounds_toArray, List.set_cons_zero, List.set_cons_succ]
      (refine wpAnyP_takeL (i := 13) (v := ?_) rfl (by kernel_rfl) (by kernel_rfl) (by kernel_rfl) (fun _ _ _ h => h) (by rfl) ?_ ?_; rotate_left 1; focus (intro w; go_simp; try with_reducible rfl))
      try simp only [Act.put, List.setIfInBounds_toArray, List.set_cons_zero, List.set_cons_succ]
      refine wpAnyP_last (i := 14) rfl (by kernel_rfl) (by kernel_rfl) (by rfl) (fun K hK => ?_)
      go_simp
      (have f1 := HFR.out.2; have e1 := HFR.out.1; go_simp; clear f1 e1)
      (refine hK _ _ ?_; clear hK K)
      try simp only [Act.put, List.setIfInBounds_toArray, List.set_cons_zero, List.set_cons_succ]
      refine wpAnyP_done (by kernel_rfl) ?_ _
      go_wp2_with fail
      refine ⟨⟨k + 1, by omega, by go_num, HB7.out.drew, ?_, HD7.out.congr fun b _ _ => HSR.out.2 b⟩, by simp [intOf]; omega⟩
      have h := HR7.out
      rw [show (fun b : Int => if b = (o : Int) then bsF bs o else ownOf (bsF bs) (l.take k) b) = ownOf (bsF bs) (l.take (k + 1)) from funext HSR.out.1] at h
      exact h
    · obtain rfl : k = l.length := by omega
      rw [List.take_length] at hR
      have HR := Lib.hid hR
      have HD := Lib.hid hD
      have hLr : LawSt w wr d w3.heap.size b1 b2 Ab Am nb cb nm cm bs ms := by
        have hlow := HLV.out
        have h1 := HLV.out.die.lt
        have h2 := HS4.out.die.lt
        exact hlow.bar hB (by have := HB3.out.size; omega) (by have := HB3.out.size; omega) ⟨by omega, by omega⟩ ⟨by omega, by omega⟩ (fun h => by have := HB2L.out h; exact ⟨by omega, by omega⟩) ⟨by omega, by omega⟩
      have HLr := Lib.hid hLr
      have HSr := Lib.hid (HSV.out.bar hB (fun h => by have := HB3L.out h; exact ⟨by omega, by omega⟩))
      have hzr := hB.size
      have n0 : wr.cell? ⟨w3.heap.size, 0, none⟩ = some (.slice Ab nb cb) := hLr.blk.cell 0
      have n1 : wr.cell? ⟨w3.heap.size, 1, none⟩ = some (.slice Am nm cm) := hLr.blk.cell 1
      have HFN := Lib.hid (fun (W : World) (hb : Below wr.heap.size wr W) => (show W.cell? ⟨w3.heap.size, 0, none⟩ = some (.slice Ab nb cb) ∧ W.cell? ⟨w3.heap.size, 1, none⟩ = some (.slice Am nm cm) from ⟨cell_oldB n0 hb, cell_oldB n1 hb⟩))
      clear hB hR hD hLr n0 n1 HHD HLV HSV HS4
      have hmk1 := make_spans nb (by omega)
      have hmk2 := make_spans nm (by omega)
      obtain ⟨wq, rfl⟩ : ∃ wq : World, wq = wr := ⟨_, rfl⟩
      go_upto_region 11 with fail
      go_cut [9, 10] from 69 to 76 (fun p q wx => ∃ (E T : Nat), p = .slice (some ⟨E, 0, none⟩) nb nb ∧ q = .slice (some ⟨T, 0, none⟩) nm nm ∧ SpF wx E nb (fun _ => ⟨0, 0⟩) ∧ SpF wx T nm (fun _ => ⟨0, 0⟩) ∧ (wq.heap.size ≤ E ∧ wq.heap.size ≤ T ∧ E ≠ T) ∧ Below wq.heap.size wq wx)
      case first =>
        have hV : Below wq.heap.size wq wq.drew := (Below.refl _ wq).drew
        refine wp_region_K2 [1, 5] [] (fun W => W.cell? ⟨w3.heap.size, 0, none⟩ = some (.slice Ab nb cb) ∧ W.cell? ⟨w3.heap.size, 1, none⟩ = some (.slice Am nm cm)) (fun _ => True) rfl (by kernel_rfl) (HFN.out _ hV) (trivial) (fun hF0 hG0 => ?_)
        (refine wpAnyK_takeL Keep2.refl (i := 0) (v := ?_) rfl (by kernel_rfl) (by kernel_rfl) (by kernel_rfl) (fun _ _ _ h => h) (by rfl) ?_ ?_; rotate_left 1; focus (intro w; go_simp; try with_reducible rfl))
        try simp only [Act.put, List.setIfInBounds_toArray, List.set_cons_zero, List.set_cons_succ]
        (refine wpAnyK_loadL Keep2.refl (i := 1) (v := ?_) rfl (Keep2.left (i := 1) (by rfl)) (by kernel_rfl) (by kernel_rfl) (by kernel_rfl) (fun _ _ _ h => h) hF0 (by rfl) ?_ ?_; rotate_left 1; focus (intro w hFw; (try dsimp only at hFw); go_split_ands; go_simp; try with_reducible rfl))
        try simp only [Act.put, List.setIfInBounds_toArray, List.set_cons_zero, List.set_cons_succ]
        (refine wpAnyK_takeL Keep2.refl (i := 2) (v := ?_) rfl (by kernel_rfl) (by kernel_rfl) (by kernel_rfl) (fun _ _ _ h => h) (by rfl) ?_ ?_; rotate_left 1; focus (intro w; go_simp; try with_reducible rfl))
        try simp only [Act.put, List.setIfInBounds_toArray, List.set_cons_zero, List.set_cons_succ]
        (refine wpAnyK_takeL Keep2.refl (i := 4) (v := ?_) rfl (by kernel_rfl) (by kernel_rfl) (by kernel_rfl) (fun _ _ _ h => h) (by rfl) ?_ ?_; rotate_left 1; focus (intro w; go_simp; try with_reducible rfl))
        try simp only [Act.put, List.setIfInBounds_toArray, List.set_cons_zero, List.set_cons_succ]
        (refine wpAnyK_loadL Keep2.refl (i := 5) (v := ?_) rfl (Keep2.left (i := 5) (by rfl)) (by kernel_rfl) (by kernel_rfl) (by kernel_rfl) (fun _ _ _ h => h) hF0 (by rfl) ?_ ?_; rotate_left 1; focus (intro w hFw; (try dsimp only at hFw); go_split_ands; go_simp; try with_reducible rfl))
        try simp only [Act.put, List.setIfInBounds_toArray, List.set_cons_zero, List.set_cons_succ]
        (refine wpAnyK_takeL Keep2.refl (i := 6) (v := ?_) rfl (by kernel_rfl) (by kernel_rfl) (by kernel_rfl) (fun _ _ _ h => h) (by rfl) ?_ ?_; rotate_left 1; focus (intro w; go_simp; try with_reducible rfl))
        try simp only [Act.put, List.setIfInBounds_toArray, List.set_cons_zero, List.set_cons_succ]
        refine wpAnyK_all (rs := [3, 7]) (by kernel_rfl) (by simp) ?_
        refine List.forall_mem_cons.2 ⟨?_, List.forall_mem_cons.2 ⟨?_, fun _ h => absurd h List.not_mem_nil⟩⟩
        · refine wpOp_of rfl (by rfl) (fun K hK => ?_)
          go_simp
          (replace hV := hV.alloc hV.size (.cells (((List.range nb).map fun _ => (⟨0, 0⟩ : Span)).flatMap encR).toArray 48))
          (refine hK _ _ ⟨⟨fun _ _ => HFN.out _ hV, fun h => absurd h (by decide)⟩, ?_⟩; clear hK K)
          (refine wpAnyK_with (F := fun W => W.cell? ⟨w3.heap.size, 0, none⟩ = some (.slice Ab nb cb) ∧ W.cell? ⟨w3.heap.size, 1, none⟩ = some (.slice Am nm cm)) (HFN.out _ hV) (fun hF1 => ?_); clear hF0)
          try simp only [Act.put, List.setIfInBounds_toArray, List.set_cons_zero, List.set_cons_succ]
          (refine wpAnyK_takeL Keep2.refl (i := 8) (v := ?_) rfl (by kernel_rfl) (by kernel_rfl) (by kernel_rfl) (fun _ _ _ h => h) (by rfl) ?_ ?_; rotate_left 1; focus (intro w; go_simp; try with_reducible rfl))
          try simp only [Act.put, List.setIfInBounds_toArray, List.set_cons_zero, List.set_cons_succ]
          refine wpAnyK_step (i := 7) rfl (by kernel_rfl) (by rfl) (fun K hK => ?_)
          go_simp
          (replace hV := hV.alloc hV.size (.cells (((List.range nm).map fun _ => (⟨0, 0⟩ : Span)).flatMap encR).toArray 48))
          (refine hK _ _ (⟨fun _ _ => HFN.out _ hV, fun h => absurd h (by decide)⟩) ?_; clear hK K)
          (refine wpAnyK_with (F := fun W => W.cell? ⟨w3.heap.size, 0, none⟩ = some (.slice Ab nb cb) ∧ W.cell? ⟨w3.heap.size, 1, none⟩ = some (.slice Am nm cm)) (HFN.out _ hV) (fun hF2 => ?_); clear hF1)
          try simp only [Act.put, List.setIfInBounds_toArray, List.set_cons_zero, List.set_cons_succ]
          (refine wpAnyK_takeL Keep2.refl (i := 9) (v := ?_) rfl (by kernel_rfl) (by kernel_rfl) (by kernel_rfl) (fun _ _ _ h => h) (by rfl) ?_ ?_; rotate_left 1; focus (intro w; go_simp; try with_reducible rfl))
          try simp only [Act.put, List.setIfInBounds_toArray, List.set_cons_zero, List.set_cons_succ]
          refine wpAnyK_done (by kernel_rfl) ?_ _
          go_wp2_with fail
          go_meet
          first | exact ⟨_, _, rfl, rfl, (mk2s wq nb nm).1, (mk2s wq nb nm).2.1, ⟨Nat.le_refl _, by omega, by omega⟩, (mk2s wq nb nm).2.2⟩ | exact ⟨_, _, rfl, rfl, (mk2s wq nm nb).2.1, (mk2s wq nm nb).1, ⟨by omega, Nat.le_refl _, by omega⟩, (mk2s wq nm nb).2.2⟩
        · refine wpOp_of rfl (by rfl) (fun K hK => ?_)
          go_simp
          (replace hV := hV.alloc hV.size (.cells (((List.range nm).map fun _ => (⟨0, 0⟩ : Span)).flatMap encR).toArray 48))
          (refine hK _ _ ⟨⟨fun _ _ => HFN.out _ hV, fun h => absurd h (by decide)⟩, ?_⟩; clear hK K)
          (refine wpAnyK_with (F := fun W => W.cell? ⟨w3.heap.size, 0, none⟩ = some (.slice Ab nb cb) ∧ W.cell? ⟨w3.heap.size, 1, none⟩ = some (.slice Am nm cm)) (HFN.out _ hV) (fun hF3 => ?_); clear hF0)
          try simp only [Act.put, List.setIfInBounds_toArray, List.set_cons_zero, List.set_cons_succ]
          refine wpAnyK_step (i := 3) rfl (by kernel_rfl) (by rfl) (fun K hK => ?_)
          go_simp
          (replace hV := hV.alloc hV.size (.cells (((List.range nb).map fun _ => (⟨0, 0⟩ : Span)).flatMap encR).toArray 48))
          (refine hK _ _ (⟨fun _ _ => HFN.out _ hV, fun h => absurd h (by decide)⟩) ?_; clear hK K)
          (refine wpAnyK_with (F := fun W => W.cell? ⟨w3.heap.size, 0, none⟩ = some (.slice Ab nb cb) ∧ W.cell? ⟨w3.heap.size, 1, none⟩ = some (.slice Am nm cm)) (HFN.out _ hV) (fun hF4 => ?_); clear hF3)
          try simp only [Act.put, List.setIfInBounds_toArray, List.set_cons_zero, List.set_cons_succ]
          (refine wpAnyK_takeL Keep2.refl (i := 8) (v := ?_) rfl (by kernel_rfl) (by kernel_rfl) (by kernel_rfl) (fun _ _ _ h => h) (by rfl) ?_ ?_; rotate_left 1; focus (intro w; go_simp; try with_reducible rfl))
          try simp only [Act.put, List.setIfInBounds_toArray, List.set_cons_zero, List.set_cons_succ]
          (refine wpAnyK_takeL Keep2.refl (i := 9) (v := ?_) rfl (by kernel_rfl) (by kernel_rfl) (by kernel_rfl) (fun _ _ _ h => h) (by rfl) ?_ ?_; rotate_left 1; focus (intro w; go_simp; try with_reducible rfl))
          try simp only [Act.put, List.setIfInBounds_toArray, List.set_cons_zero, List.set_cons_succ]
          refine wpAnyK_done (by kernel_rfl) ?_ _
          go_wp2_with fail
          go_meet
          first | exact ⟨_, _, rfl, rfl, (mk2s wq nb nm).1, (mk2s wq nb nm).2.1, ⟨Nat.le_refl _, by omega, by omega⟩, (mk2s wq nb nm).2.2⟩ | exact ⟨_, _, rfl, rfl, (mk2s wq nm nb).2.1, (mk2s wq nm nb).1, ⟨by omega, Nat.le_refl _, by omega⟩, (mk2s wq nm nb).2.2⟩
      case rest =>
        obtain ⟨E, T, rfl, rfl, hE, hT, hET, hBx⟩ := hcut
        have hLd := HLr.out.below hBx
        have HSd := Lib.hid (HSr.out.old hBx)
        have HRd := Lib.hid (HR.out.keep (hBx.block _ HR.out.lt))
        have HDd := Lib.hid (HD.out.old hBx)
        have hrl := HR.out.lt
        have hdl := HD.out.lt
        have hzd := hBx.size
        have hEl := hE.lt
        have hTl := hT.lt
        obtain ⟨hE0, hT0, hETn⟩ := hET
        obtain ⟨wd, rfl⟩ : ∃ wd : World, wd = wc := ⟨_, rfl⟩
        have h0 : (rg nb).map (hasAt (bsF bs) (ms.take 0)) = bs := by rw [List.take_zero, HNB.out]; exact has_start bs
        have hRsl := HRd.out.slW
        rw [has_len] at hRsl
        have hWI : WaysIn wd E T b1 b2 b1 w4.heap.size 0 Ab Am Ab (some ⟨w4.heap.size, 0, none⟩) none nb cb nm cm bs ms 0 (ownOf (bsF bs) l) [] (fun _ => ⟨0, 0⟩) (fun _ => ⟨0, 0⟩) :=
          ⟨hLd.net, by rw [h0]; exact hLd.net.b, hRsl, Sl.nil _ _ _, hE, hT, hETn, ⟨by omega, by omega⟩, fun h => by have := HB2L.out h; exact ⟨by omega, by omega⟩, ⟨by omega, by omega⟩, ⟨by omega, by omega⟩, fun h => absurd h (by omega)⟩
        have hway := ways_any HLr.out.ni HNB.out HNMq.out E T b1 b2 Ab Am cb cm ms.length 0 (by omega) (ownOf (bsF bs) l) (fun b _ _ => ⟨ownOf_nonneg HLr.out.ni.pos l b, ownOf_le HLr.out.ni.pos l b⟩) [] 0 (fun _ => ⟨0, 0⟩) (fun _ => ⟨0, 0⟩) b1 w4.heap.size 0 Ab (some ⟨w4.heap.size, 0, none⟩) none cb nb 0 wd
          (by have := few_ways HLr.out.ni HG3.out (by have := HNB.out; omega) (by have := HNMq.out; omega) (hasAt (bsF bs) (ms.take 0)) (ownOf (bsF bs) l); rw [List.drop_zero]; omega) hWI
        have HWAY := Lib.hid hway
        have HLd := Lib.hid hLd
        have n0 : wd.cell? ⟨w3.heap.size, 0, none⟩ = some (.slice Ab nb cb) := hLd.blk.cell 0
        have n1 : wd.cell? ⟨w3.heap.size, 1, none⟩ = some (.slice Am nm cm) := hLd.blk.cell 1
        clear hway hWI hLd hRsl hE hT hBx h0 HFN HR HD HSr
        go_wp2_with fail
        refine HWAY.out.mono ?_
        rintro e w8 ⟨rfl, hB8, hE8, hT8⟩
        rw [List.take_zero, List.drop_zero] at hE8 hT8
        have HE8 := Lib.hid (hE8.congr (f' := fun i => mayT bs l ms (i : Int)) fun i hi => by unfold gEnd; exact ends_eq HLr.out.ni l ⟨0, 0⟩ (by omega) (by have := HNB.out; omega))
        have HT8 := Lib.hid (hT8.congr (f' := fun i => (throughT bs ms l).getD i ⟨0, 0⟩) fun i hi => by
          have him : i < ms.length := by have := HNMq.out; omega
          have h9 := takes_eq HLr.out.ni l ⟨0, 0⟩ him
          unfold gTak
          simp only [List.nil_append]
          show gathT _ 0 (List.map (fun xs => xs.getD i 0) (waysT (bsF bs) _ ms)) = _
          rw [h9, List.getD_eq_getElem?_getD, List.getElem?_eq_getElem (by rw [through_len]; exact him), through_get _ _ _ him]
          rfl)
        have h1 := HLr.out.die.lt
        have HL8 := Lib.hid (HLd.out.bar hB8 (by have := HB3.out.size; omega) (by have := HB3.out.size; omega) ⟨by omega, by omega⟩ ⟨by omega, by omega⟩ (fun h => by have := HB2L.out h; exact ⟨by omega, by omega⟩) ⟨by omega, by omega⟩)
        have HS8 := Lib.hid (HSd.out.bar hB8 (fun h => by have := HB3L.out h; exact ⟨by omega, by omega⟩))
        have HD8 := Lib.hid (show BRow w8 (w4.heap.size + 1) nb (isR bs l ms (throughT bs ms l) l.length 0) from Blk.bar HDd.out hB8 (by omega) (by omega))
        have hz8 := hB8.size
        clear hB8 hE8 hT8 n0 n1 HWAY
        have n1 : w8.cell? ⟨w3.heap.size, 1, none⟩ = some (.slice Am nm cm) := HL8.out.blk.cell 1
        have hxl : (throughT bs ms l).length = ms.length := by rw [through_len]
        go_wp2_with fail
        go_loopw [11] (fun i wr => ∃ k : Nat, k ≤ nm ∧ i = .int .i64 k ∧ Bar (w4.heap.size + 1) (w4.heap.size + 1) w8 wr ∧ BRow wr (w4.heap.size + 1) nb (isR bs l ms (throughT bs ms l) l.length k)) (fun i _ => nm - (intOf i).toNat)
        case atStart => exact ⟨0, Nat.zero_le _, rfl, Bar.refl _ _ _, HD8.out⟩
        case round =>
          obtain ⟨k, hk, rfl, hB, hD⟩ := hrel
          have hLk : LawSt w wr d w3.heap.size b1 b2 Ab Am nb cb nm cm bs ms := HL8.out.bar hB (by have := HB3.out.size; omega) (by have := HB3.out.size; omega) ⟨by omega, by omega⟩ ⟨by omega, by omega⟩ (fun h => by have := HB2L.out h; exact ⟨by omega, by omega⟩) ⟨by have := HS3.out.die.lt; simp at this; omega, by have := HS3.out.die.lt; simp at this; omega⟩
          have hTk : SpF wr T nm (fun i => (throughT bs ms l).getD i ⟨0, 0⟩) := Blk.bar HT8.out hB (by omega) (by omega)
          by_cases hlt : k < nm
          · as_aux_lemma =>
            have hkm : k < ms.length := by have := HNMq.out; omega
            have hkx : k < (throughT bs ms l).length := by omega
            obtain ⟨om, rfl, hbz, s0, s1, s2⟩ := hLk.net.m.atM hkm
            obtain ⟨x0, x1⟩ := hTk.cell hlt
            rw [show (throughT bs ms l).getD k ⟨0, 0⟩ = (throughT bs ms l)[k] by rw [List.getD_eq_getElem?_getD, List.getElem?_eq_getElem hkx]; rfl] at x1
            have hOK := HLr.out.ni.at_ hkm
            have HSR := Lib.hid (fun b => isR_mv (bs := bs) (l := l) (j := l.length) hkm hkx b)
            have ht0 := hOK.t0
            have ht1 := hOK.t1
            generalize ms[k].to = mt at s1 ht0 ht1 HSR
            obtain ⟨tt, rfl⟩ := Int.eq_ofNat_of_zero_le ht0
            have htb : tt < nb := by have := HNB.out; omega
            have m1 : wr.cell? ⟨w3.heap.size, 1, none⟩ = some (.slice (some ⟨b2, om, none⟩) nm cm) := hLk.blk.cell 1
            have cis := hD.cell htb
            generalize (throughT bs ms l)[k].hi = h at x1 HSR
            have HSET := Lib.hid (fun v : Bool => And.intro (hD.set_ htb v) (hB.setCell ⟨w4.heap.size + 1, tt, none⟩ (.inl rfl) (.bool v)))
            have k0 : (0 : Int) ≤ (k : Int) := by omega
            have k1 : (k : Int) < (nm : Int) := by omega
            have t0' : (0 : Int) ≤ (tt : Int) := by omega
            have t1' : (tt : Int) < (nb : Int) := by omega
            have HFR := Lib.hid (hD.frozen tt)
            generalize hv : isR bs l ms (throughT bs ms l) l.length k tt = v at cis HSR
            have HF := Lib.hid (And.intro (And.intro m1 (And.intro s1 cis)) x1)
            clear hv hOK ht0 ht1 s0 s1 s2 x0 x1 cis m1 hB hD hLk hTk
            go_upto_region 16 with fail
            cases v
            · skip
              refine wp_region_PL [2, 6, 9, 13, 15, 21] (fun W => (W.cell? ⟨w3.heap.size, 1, none⟩ = some (.slice (some ⟨b2, om, none⟩) nm cm) ∧ W.cell? ⟨b2, om + k * 3 + 1, none⟩ = some (.int .i64 (tt : Int)) ∧ W.cell? ⟨w4.heap.size + 1, tt, none⟩ = some (.bool false)) ∧ W.cell? ⟨T, k * 2 + 1, none⟩ = some (.int .i64 h)) rfl (by kernel_rfl) (HF.out) (fun hF0 => ?_)
              (refine wpAnyP_takeL (i := 0) (v := ?_) rfl (by kernel_rfl) (by kernel_rfl) (by kernel_rfl) (fun _ _ _ h => h) (by rfl) ?_ ?_; rotate_left 1; focus (intro w; go_simp; try with_reducible rfl))
              try simp only [Act.put, List.setIfInBounds_toArray, List.set_cons_zero, List.set_cons_succ]
              (refine wpAnyP_takeL (i := 1) (v := ?_) rfl (by kernel_rfl) (by kernel_rfl) (by kernel_rfl) (fun _ _ _ h => h) (by rfl) ?_ ?_; rotate_left 1; focus (intro w; go_simp; try with_reducible rfl))
              try simp only [Act.put, List.setIfInBounds_toArray, List.set_cons_zero, List.set_cons_succ]
              (refine wpAnyP_loadL (i := 2) (v := ?_) rfl (by kernel_rfl) (by kernel_rfl) (by kernel_rfl) (by rfl) (fun _ _ _ h => h) hF0 (by rfl) ?_ ?_; rotate_left 1; focus (intro w hFw; (try dsimp only at hFw); go_split_ands; go_simp; try with_reducible rfl))
              try simp only [Act.put, List.setIfInBounds_toArray, List.set_cons_zero, List.set_cons_succ]
              (refine wpAnyP_takeL (i := 3) (v := ?_) rfl (by kernel_rfl) (by kernel_rfl) (by kernel_rfl) (fun _ _ _ h => h) (by rfl) ?_ ?_; rotate_left 1; focus (intro w; go_simp; try with_reducible rfl))
              try simp only [Act.put, List.setIfInBounds_toArray, List.set_cons_zero, List.set_cons_succ]
              (refine wpAnyP_takeL (i := 4) (v := ?_) rfl (by kernel_rfl) (by kernel_rfl) (by kernel_rfl) (fun _ _ _ h => h) (by rfl) ?_ ?_; rotate_left 1; focus (intro w; go_simp; try with_reducible rfl))
              try simp only [Act.put, List.setIfInBounds_toArray, List.set_cons_zero, List.set_cons_succ]
              (refine wpAnyP_takeL (i := 5) (v := ?_) rfl (by kernel_rfl) (by kernel_rfl) (by kernel_rfl) (fun _ _ _ h => h) (by rfl) ?_ ?_; rotate_left 1; focus (intro w; go_simp; try with_reducible rfl))
              try simp only [Act.put, List.setIfInBounds_toArray, List.set_cons_zero, List.set_cons_succ]
              (refine wpAnyP_loadL (i := 6) (v := ?_) rfl (by kernel_rfl) (by kernel_rfl) (by kernel_rfl) (by rfl) (fun _ _ _ h => h) hF0 (by rfl) ?_ ?_; rotate_left 1; focus (intro w hFw; (try dsimp only at hFw); go_split_ands; go_simp; try with_reducible rfl))
              try simp only [Act.put, List.setIfInBounds_toArray, List.set_cons_zero, List.set_cons_succ]
              (refine wpAnyP_takeL (i := 7) (v := ?_) rfl (by kernel_rfl) (by kernel_rfl) (by kernel_rfl) (fun _ _ _ h => h) (by rfl) ?_ ?_; rotate_left 1; focus (intro w; go_simp; try with_reducible rfl))
              try simp only [Act.put, List.setIfInBounds_toArray, List.set_cons_zero, List.set_cons_succ]
              (refine wpAnyP_takeL (i := 8) (v := ?_) rfl (by kernel_rfl) (by kernel_rfl) (by kernel_rfl) (fun _ _ _ h => h) (by rfl) ?_ ?_; rotate_left 1; focus (intro w; go_simp; try with_reducible rfl))
              try simp only [Act.put, List.setIfInBounds_toArray, List.set_cons_zero, List.set_cons_succ]
              (refine wpAnyP_loadL (i := 9) (v := ?_) rfl (by kernel_rfl) (by kernel_rfl) (by kernel_rfl) (by rfl) (fun _ _ _ h => h) hF0 (by rfl) ?_ ?_; rotate_left 1; focus (intro w hFw; (try dsimp only at hFw); go_split_ands; go_simp; try with_reducible rfl))
              try simp only [Act.put, List.setIfInBounds_toArray, List.set_cons_zero, List.set_cons_succ]
              (refine wpAnyP_takeL (i := 10) (v := ?_) rfl (by kernel_rfl) (by kernel_rfl) (by kernel_rfl) (fun _ _ _ h => h) (by rfl) ?_ ?_; rotate_left 1; focus (intro w; go_simp; try with_reducible rfl))
              try simp only [Act.put, List.setIfInBounds_toArray, List.set_cons_zero, List.set_cons_succ]
              (refine wpAnyP_takeL (i := 11) (v := ?_) rfl (by kernel_rfl) (by kernel_rfl) (by kernel_rfl) (fun _ _ _ h => h) (by rfl) ?_ ?_; rotate_left 1; focus (intro w; go_simp; try with_reducible rfl))
              try simp only [Act.put, List.setIfInBounds_toArray, List.set_cons_zero, List.set_cons_succ]
              (refine wpAnyP_takeL (i := 12) (v := ?_) rfl (by kernel_rfl) (by kernel_rfl) (by kernel_rfl) (fun _ _ _ h => h) (by rfl) ?_ ?_; rotate_left 1; focus (intro w; go_simp; try with_reducible rfl))
              try simp only [Act.put, List.setIfInBounds_toArray, List.set_cons_zero, List.set_cons_succ]
              (refine wpAnyP_loadL (i := 13) (v := ?_) rfl (by kernel_rfl) (by kernel_rfl) (by kernel_rfl) (by rfl) (fun _ _ _ h => h) hF0 (by rfl) ?_ ?_; rotate_left 1; focus (intro w hFw; (try dsimp only at hFw); go_split_ands; go_simp; try with_reducible rfl))
              try simp only [Act.put, List.setIfInBounds_toArray, List.set_cons_zero, List.set_cons_succ]
              (refine wpAnyP_takeL (i := 14) (v := ?_) rfl (by kernel_rfl) (by kernel_rfl) (by kernel_rfl) (fun _ _ _ h => h) (by rfl) ?_ ?_; rotate_left 1; focus (intro w; go_simp; try with_reducible rfl))
              try simp only [Act.put, List.setIfInBounds_toArray, List.set_cons_zero, List.set_cons_succ]
              (refine wpAnyP_loadL (i := 15) (v := ?_) rfl (by kernel_rfl) (by kernel_rfl) (by kernel_rfl) (by rfl) (fun _ _ _ h => h) hF0 (by rfl) ?_ ?_; rotate_left 1; focus (intro w hFw; (try dsimp only at hFw); go_split_ands; go_simp; try with_reducible rfl))
              try simp only [Act.put, List.setIfInBounds_toArray, List.set_cons_zero, List.set_cons_succ]
              (refine wpAnyP_takeL (i := 16) (v := ?_) rfl (by kernel_rfl) (by kernel_rfl) (by kernel_rfl) (fun _ _ _ h => h) (by rfl) ?_ ?_; rotate_left 1; focus (intro w; go_simp; try with_reducible rfl))
              try simp only [Act.put, List.setIfInBounds_toArray, List.set_cons_zero, List.set_cons_succ]
              (refine wpAnyP_takeL (i := 17) (v := ?_) rfl (by kernel_rfl) (by kernel_rfl) (by kernel_rfl) (fun _ _ _ h => h) (by rfl) ?_ ?_; rotate_left 1; focus (intro w; go_simp; try with_reducible rfl))
              try simp only [Act.put, List.setIfInBounds_toArray, List.set_cons_zero, List.set_cons_succ]
              (refine wpAnyP_takeL (i := 18) (v := ?_) rfl (by kernel_rfl) (by kernel_rfl) (by kernel_rfl) (fun _ _ _ h => h) (by rfl) ?_ ?_; rotate_left 1; focus (intro w; go_simp; try with_reducible rfl))
              try simp only [Act.put, List.setIfInBounds_toArray, List.set_cons_zero, List.set_cons_succ]
              (refine wpAnyP_takeL (i := 19) (v := ?_) rfl (by kernel_rfl) (by kernel_rfl) (by kernel_rfl) (fun _ _ _ h => h) (by rfl) ?_ ?_; rotate_left 1; focus (intro w; go_simp; try with_reducible rfl))
              try simp only [Act.put, List.setIfInBounds_toArray, List.set_cons_zero, List.set_cons_succ]
              (refine wpAnyP_takeL (i := 20) (v := ?_) rfl (by kernel_rfl) (by kernel_rfl) (by kernel_rfl) (fun _ _ _ h => h) (by rfl) ?_ ?_; rotate_left 1; focus (intro w; go_simp; try with_reducible rfl))
              try simp only [Act.put, List.setIfInBounds_toArray, List.set_cons_zero, List.set_cons_succ]
              (refine wpAnyP_loadL (i := 21) (v := ?_) rfl (by kernel_rfl) (by kernel_rfl) (by kernel_rfl) (by rfl) (fun _ _ _ h => h) hF0 (by rfl) ?_ ?_; rotate_left 1; focus (intro w hFw; (try dsimp only at hFw); go_split_ands; go_simp; try with_reducible rfl))
              try simp only [Act.put, List.setIfInBounds_toArray, List.set_cons_zero, List.set_cons_succ]
              (refine wpAnyP_takeL (i := 22) (v := ?_) rfl (by kernel_rfl) (by kernel_rfl) (by kernel_rfl) (fun _ _ _ h => h) (by rfl) ?_ ?_; rotate_left 1; focus (intro w; go_simp; try with_reducible rfl))
              try simp only [Act.put, List.setIfInBounds_toArray, List.set_cons_zero, List.set_cons_succ]
              (refine wpAnyP_takeL (i := 23) (v := ?_) rfl (by kernel_rfl) (by kernel_rfl) (by kernel_rfl) (fun _ _ _ h => h) (by rfl) ?_ ?_; rotate_left 1; focus (intro w; go_simp; try with_reducible rfl))
              try simp only [Act.put, List.setIfInBounds_toArray, List.set_cons_zero, List.set_cons_succ]
              (refine wpAnyP_takeL (i := 24) (v := ?_) rfl (by kernel_rfl) (by kernel_rfl) (by kernel_rfl) (fun _ _ _ h => h) (by rfl) ?_ ?_; rotate_left 1; focus (intro w; go_simp; try with_reducible rfl))
              try simp only [Act.put, List.setIfInBounds_toArray, List.set_cons_zero, List.set_cons_succ]
              refine wpAnyP_last (i := 25) rfl (by kernel_rfl) (by kernel_rfl) (by rfl) (fun K hK => ?_)
              go_simp
              (have f1 := HFR.out; have e1 := HF.out.1.2.2; go_simp; clear f1 e1)
              (refine hK _ _ ?_; clear hK K)
              try simp only [Act.put, List.setIfInBounds_toArray, List.set_cons_zero, List.set_cons_succ]
              refine wpAnyP_done (by kernel_rfl) ?_ _
              go_wp2_with fail
              obtain ⟨hs1, hs2⟩ := HSET.out (decide (0 < h))
              have hs3 : BRow (wr.setCell ⟨w4.heap.size + 1, tt, none⟩ (.bool (decide (0 < h)))) (w4.heap.size + 1) nb (isR bs l ms (throughT bs ms l) l.length (k + 1)) := hs1.congr fun b _ _ => (by have h9 := HSR.out b; rw [Bool.false_or] at h9; exact h9)
              exact ⟨⟨k + 1, by omega, by go_num, hs2.drew, hs3⟩, by simp [intOf]; omega⟩
            · skip
              refine wp_region_PL [2, 6, 9, 13, 15] (fun W => (W.cell? ⟨w3.heap.size, 1, none⟩ = some (.slice (some ⟨b2, om, none⟩) nm cm) ∧ W.cell? ⟨b2, om + k * 3 + 1, none⟩ = some (.int .i64 (tt : Int)) ∧ W.cell? ⟨w4.heap.size + 1, tt, none⟩ = some (.bool true)) ∧ W.cell? ⟨T, k * 2 + 1, none⟩ = some (.int .i64 h)) rfl (by kernel_rfl) (HF.out) (fun hF0 => ?_)
              (refine wpAnyP_takeL (i := 0) (v := ?_) rfl (by kernel_rfl) (by kernel_rfl) (by kernel_rfl) (fun _ _ _ h => h) (by rfl) ?_ ?_; rotate_left 1; focus (intro w; go_simp; try with_reducible rfl))
              try simp only [Act.put, List.setIfInBounds_toArray, List.set_cons_zero, List.set_cons_succ]
              (refine wpAnyP_takeL (i := 1) (v := ?_) rfl (by kernel_rfl) (by kernel_rfl) (by kernel_rfl) (fun _ _ _ h => h) (by rfl) ?_ ?_; rotate_left 1; focus (intro w; go_simp; try with_reducible rfl))
              try simp only [Act.put, List.setIfInBounds_toArray, List.set_cons_zero, List.set_cons_succ]
              (refine wpAnyP_loadL (i := 2) (v := ?_) rfl (by kernel_rfl) (by kernel_rfl) (by kernel_rfl) (by rfl) (fun _ _ _ h => h) hF0 (by rfl) ?_ ?_; rotate_left 1; focus (intro w hFw; (try dsimp only at hFw); go_split_ands; go_simp; try with_reducible rfl))
              try simp only [Act.put, List.setIfInBounds_toArray, List.set_cons_zero, List.set_cons_succ]
              (refine wpAnyP_takeL (i := 3) (v := ?_) rfl (by kernel_rfl) (by kernel_rfl) (by kernel_rfl) (fun _ _ _ h => h) (by rfl) ?_ ?_; rotate_left 1; focus (intro w; go_simp; try with_reducible rfl))
              try simp only [Act.put, List.setIfInBounds_toArray, List.set_cons_zero, List.set_cons_succ]
              (refine wpAnyP_takeL (i := 4) (v := ?_) rfl (by kernel_rfl) (by kernel_rfl) (by kernel_rfl) (fun _ _ _ h => h) (by rfl) ?_ ?_; rotate_left 1; focus (intro w; go_simp; try with_reducible rfl))
              try simp only [Act.put, List.setIfInBounds_toArray, List.set_cons_zero, List.set_cons_succ]
              (refine wpAnyP_takeL (i := 5) (v := ?_) rfl (by kernel_rfl) (by kernel_rfl) (by kernel_rfl) (fun _ _ _ h => h) (by rfl) ?_ ?_; rotate_left 1; focus (intro w; go_simp; try with_reducible rfl))
              try simp only [Act.put, List.setIfInBounds_toArray, List.set_cons_zero, List.set_cons_succ]
              (refine wpAnyP_loadL (i := 6) (v := ?_) rfl (by kernel_rfl) (by kernel_rfl) (by kernel_rfl) (by rfl) (fun _ _ _ h => h) hF0 (by rfl) ?_ ?_; rotate_left 1; focus (intro w hFw; (try dsimp only at hFw); go_split_ands; go_simp; try with_reducible rfl))
              try simp only [Act.put, List.setIfInBounds_toArray, List.set_cons_zero, List.set_cons_succ]
              (refine wpAnyP_takeL (i := 7) (v := ?_) rfl (by kernel_rfl) (by kernel_rfl) (by kernel_rfl) (fun _ _ _ h => h) (by rfl) ?_ ?_; rotate_left 1; focus (intro w; go_simp; try with_reducible rfl))
              try simp only [Act.put, List.setIfInBounds_toArray, List.set_cons_zero, List.set_cons_succ]
              (refine wpAnyP_takeL (i := 8) (v := ?_) rfl (by kernel_rfl) (by kernel_rfl) (by kernel_rfl) (fun _ _ _ h => h) (by rfl) ?_ ?_; rotate_left 1; focus (intro w; go_simp; try with_reducible rfl))
              try simp only [Act.put, List.setIfInBounds_toArray, List.set_cons_zero, List.set_cons_succ]
              (refine wpAnyP_loadL (i := 9) (v := ?_) rfl (by kernel_rfl) (by kernel_rfl) (by kernel_rfl) (by rfl) (fun _ _ _ h => h) hF0 (by rfl) ?_ ?_; rotate_left 1; focus (intro w hFw; (try dsimp only at hFw); go_split_ands; go_simp; try with_reducible rfl))
              try simp only [Act.put, List.setIfInBounds_toArray, List.set_cons_zero, List.set_cons_succ]
              (refine wpAnyP_takeL (i := 10) (v := ?_) rfl (by kernel_rfl) (by kernel_rfl) (by kernel_rfl) (fun _ _ _ h => h) (by rfl) ?_ ?_; rotate_left 1; focus (intro w; go_simp; try with_reducible rfl))
              try simp only [Act.put, List.setIfInBounds_toArray, List.set_cons_zero, List.set_cons_succ]
              (refine wpAnyP_takeL (i := 11) (v := ?_) rfl (by kernel_rfl) (by kernel_rfl) (by kernel_rfl) (fun _ _ _ h => h) (by rfl) ?_ ?_; rotate_left 1; focus (intro w; go_simp; try with_reducible rfl))
              try simp only [Act.put, List.setIfInBounds_toArray, List.set_cons_zero, List.set_cons_succ]
              (refine wpAnyP_takeL (i := 12) (v := ?_) rfl (by kernel_rfl) (by kernel_rfl) (by kernel_rfl) (fun _ _ _ h => h) (by rfl) ?_ ?_; rotate_left 1; focus (intro w; go_simp; try with_reducible rfl))
              try simp only [Act.put, List.setIfInBounds_toArray, List.set_cons_zero, List.set_cons_succ]
              (refine wpAnyP_loadL (i := 13) (v := ?_) rfl (by kernel_rfl) (by kernel_rfl) (by kernel_rfl) (by rfl) (fun _ _ _ h => h) hF0 (by rfl) ?_ ?_; rotate_left 1; focus (intro w hFw; (try dsimp only at hFw); go_split_ands; go_simp; try with_reducible rfl))
              try simp only [Act.put, List.setIfInBounds_toArray, List.set_cons_zero, List.set_cons_succ]
              (refine wpAnyP_takeL (i := 14) (v := ?_) rfl (by kernel_rfl) (by kernel_rfl) (by kernel_rfl) (fun _ _ _ h => h) (by rfl) ?_ ?_; rotate_left 1; focus (intro w; go_simp; try with_reducible rfl))
              try simp only [Act.put, List.setIfInBounds_toArray, List.set_cons_zero, List.set_cons_succ]
              (refine wpAnyP_loadL (i := 15) (v := ?_) rfl (by kernel_rfl) (by kernel_rfl) (by kernel_rfl) (by rfl) (fun _ _ _ h => h) hF0 (by rfl) ?_ ?_; rotate_left 1; focus (intro w hFw; (try dsimp only at hFw); go_split_ands; go_simp; try with_reducible rfl))
              try simp only [Act.put, List.setIfInBounds_toArray, List.set_cons_zero, List.set_cons_succ]
              (refine wpAnyP_takeL (i := 16) (v := ?_) rfl (by kernel_rfl) (by kernel_rfl) (by kernel_rfl) (fun _ _ _ h => h) (by rfl) ?_ ?_; rotate_left 1; focus (intro w; go_simp; try with_reducible rfl))
              try simp only [Act.put, List.setIfInBounds_toArray, List.set_cons_zero, List.set_cons_succ]
              (refine wpAnyP_skipL (i := 17) rfl (by kernel_rfl) (by kernel_rfl) (by kernel_rfl) (fun _ _ _ h => h) (by rfl) ?_)
              try simp only [Act.put, List.setIfInBounds_toArray, List.set_cons_zero, List.set_cons_succ]
              (refine wpAnyP_skipL (i := 18) rfl (by kernel_rfl) (by kernel_rfl) (by kernel_rfl) (fun _ _ _ h => h) (by rfl) ?_)
              try simp only [Act.put, List.setIfInBounds_toArray, List.set_cons_zero, List.set_cons_succ]
              (refine wpAnyP_skipL (i := 19) rfl (by kernel_rfl) (by kernel_rfl) (by kernel_rfl) (fun _ _ _ h => h) (by rfl) ?_)
              try simp only [Act.put, List.setIfInBounds_toArray, List.set_cons_zero, List.set_cons_succ]
              (refine wpAnyP_skipL (i := 20) rfl (by kernel_rfl) (by kernel_rfl) (by kernel_rfl) (fun _ _ _ h => h) (by rfl) ?_)
              try simp only [Act.put, List.setIfInBounds_toArray, List.set_cons_zero, List.set_cons_succ]
              (refine wpAnyP_skipL (i := 21) rfl (by kernel_rfl) (by kernel_rfl) (by kernel_rfl) (fun _ _ _ h => h) (by rfl) ?_)
              try simp only [Act.put, List.setIfInBounds_toArray, List.set_cons_zero, List.set_cons_succ]
              (refine wpAnyP_skipL (i := 22) rfl (by kernel_rfl) (by kernel_rfl) (by kernel_rfl) (fun _ _ _ h => h) (by rfl) ?_)
              try simp only [Act.put, List.setIfInBounds_toArray, List.set_cons_zero, List.set_cons_succ]
              (refine wpAnyP_takeL (i := 23) (v := ?_) rfl (by kernel_rfl) (by kernel_rfl) (by kernel_rfl) (fun _ _ _ h => h) (by rfl) ?_ ?_; rotate_left 1; focus (intro w; go_simp; try with_reducible rfl))
              try simp only [Act.put, List.setIfInBounds_toArray, List.set_cons_zero, List.set_cons_succ]
              (refine wpAnyP_takeL (i := 24) (v := ?_) rfl (by kernel_rfl) (by kernel_rfl) (by kernel_rfl) (fun _ _ _ h => h) (by rfl) ?_ ?_; rotate_left 1; focus (intro w; go_simp; try with_reducible rfl))
              try simp only [Act.put, List.setIfInBounds_toArray, List.set_cons_zero, List.set_cons_succ]
              refine wpAnyP_last (i := 25) rfl (by kernel_rfl) (by kernel_rfl) (by rfl) (fun K hK => ?_)
              go_simp
              (have f1 := HFR.out; have e1 := HF.out.1.2.2; go_simp; clear f1 e1)
              (refine hK _ _ ?_; clear hK K)
              try simp only [Act.put, List.setIfInBounds_toArray, List.set_cons_zero, List.set_cons_succ]
              refine wpAnyP_done (by kernel_rfl) ?_ _
              go_wp2_with fail
              obtain ⟨hs1, hs2⟩ := HSET.out (true)
              have hs3 : BRow (wr.setCell ⟨w4.heap.size + 1, tt, none⟩ (.bool (true))) (w4.heap.size + 1) nb (isR bs l ms (throughT bs ms l) l.length (k + 1)) := hs1.congr fun b _ _ => (by have h9 := HSR.out b; rw [Bool.true_or] at h9; exact h9)
              exact ⟨⟨k + 1, by omega, by go_num, hs2.drew, hs3⟩, by simp [intOf]; omega⟩
          · obtain rfl : k = nm := by omega
            have HLk := Lib.hid hLk
            have HTk := Lib.hid (show Sl encR 2 wr T (some ⟨T, 0, none⟩) k (throughT bs ms l) from by
              have h := hTk.sl
              have e : (List.range k).map (fun i => (throughT bs ms l).getD i ⟨0, 0⟩) = throughT bs ms l := by
                refine List.ext_getElem (by simp; have := HNMq.out; omega) fun i h1 h2 => ?_
                rw [List.getElem_map, List.getElem_range, List.getD_eq_getElem?_getD, List.getElem?_eq_getElem h2]
                rfl
              rw [e] at h
              exact h)
            have HEk := Lib.hid (show Sl encR 2 wr E (some ⟨E, 0, none⟩) nb (reachT bs ms l) from by
              have h := (show SpF wr E nb (fun i => mayT bs l ms (i : Int)) from Blk.bar HE8.out hB (by omega) (by omega)).sl
              have e : (List.range nb).map (fun i => mayT bs l ms ((i : Nat) : Int)) = reachT bs ms l := by
                unfold reachT rg
                rw [HNB.out, List.map_map]
                rfl
              rw [e] at h
              exact h)
            have HSk := Lib.hid (HS8.out.bar hB (fun h => by have := HB3L.out h; exact ⟨by omega, by omega⟩))
            have HDk := Lib.hid (show BRow wr (w4.heap.size + 1) nb (isR bs l ms (throughT bs ms l) l.length ms.length) from by have h := hD; rw [HNMq.out] at h; exact h)
            have hdk := hD.lt
            clear hB hD hLk hTk n1 HL8 HS8 HD8 HT8 HE8
            have c0 := HLk.out.blk.cell 0
            have c1 := HLk.out.blk.cell 1
            go_wp2_with fail
            refine (HLk.out.reach HSk.out HL.out).mono ?_
            rintro e x1 ⟨A5, c5, b5, rfl, hs1, hB1⟩
            have HL1 := Lib.hid (HLk.out.below hB1)
            have HS1 := Lib.hid (HSk.out.old hB1)
            have HT1 := Lib.hid (HTk.out.old hB1)
            have HE1 := Lib.hid (HEk.out.old hB1)
            have HD1 := Lib.hid (HDk.out.old hB1)
            have HX1 := Lib.hid hs1
            clear c0 c1 hs1 hB1
            have c0 := HL1.out.blk.cell 0
            have c1 := HL1.out.blk.cell 1
            go_wp2_with fail
            refine (HL1.out.through HS1.out HL.out).mono ?_
            rintro e x2 ⟨A6, c6, b6, rfl, hs2, hB2⟩
            have HL2 := Lib.hid (HL1.out.below hB2)
            have HS2 := Lib.hid (HS1.out.old hB2)
            have HT2 := Lib.hid (HT1.out.old hB2)
            have HE2 := Lib.hid (HE1.out.old hB2)
            have HD2 := Lib.hid (HD1.out.old hB2)
            have HX2 := Lib.hid (HX1.out.old hB2)
            have HY2 := Lib.hid hs2
            clear c0 c1 hs2 hB2
            have c0 := HL2.out.blk.cell 0
            have c1 := HL2.out.blk.cell 1
            go_wp2_with fail
            refine (HL2.out.recall HS2.out HL.out).mono ?_
            rintro e x3 ⟨A7, c7, b7, rfl, hs3, hB3⟩
            have HL3 := Lib.hid (HL2.out.below hB3)
            have HS3 := Lib.hid (HS2.out.old hB3)
            have HT3 := Lib.hid (HT2.out.old hB3)
            have HE3 := Lib.hid (HE2.out.old hB3)
            have HD3 := Lib.hid (HD2.out.old hB3)
            have HX3 := Lib.hid (HX2.out.old hB3)
            have HY3 := Lib.hid (HY2.out.old hB3)
            have HR3 := Lib.hid hs3
            clear c0 c1 hs3 hB3
            have hr7 : (recallT bs ms l).length ≤ nb := by rw [HNB.out]; unfold recallT; exact filter_lenR _ _
            obtain ⟨wz, rfl⟩ : ∃ wz : World, wz = x3 := ⟨_, rfl⟩
            go_wp2_with fail
            go_loopw [18, 19] (fun ov iv wr => ∃ (a c : Nat) (A : Option Addr), a ≤ nb ∧ iv = .int .i64 a ∧ ov = .slice A ((rg a).filter (isR bs l ms (throughT bs ms l) l.length ms.length)).length c ∧ wr.ownsRow wz.heap.size 3 1 (.slice A ((rg a).filter (isR bs l ms (throughT bs ms l) l.length ms.length)).length c) ((rg a).filter (isR bs l ms (throughT bs ms l) l.length ms.length)).length (((rg a).filter (isR bs l ms (throughT bs ms l) l.length ms.length)).flatMap encI) ∧ Below wz.heap.size wz wr) (fun _ iv _ => nb - (intOf iv).toNat)
            case atStart => exact ⟨0, 0, none, Nat.zero_le _, rfl, rfl, World.ownsRow_nil _ _ _ _, Below.refl _ _⟩
            case round =>
              obtain ⟨a, c, A, ha, rfl, rfl, hown, hB⟩ := hrel
              have HOWN := Lib.hid hown
              have HB3 := Lib.hid hB
              have hle := filter_lenR (isR bs l ms (throughT bs ms l) l.length ms.length) a
              have HSN := Lib.hid (filter_snocR (isR bs l ms (throughT bs ms l) l.length ms.length) a)
              clear hown hB
              by_cases hlt3 : a < nb
              · have cis := (HD3.out.old HB3.out).cell hlt3
                have a0 : (0 : Int) ≤ (a : Int) := by omega
                have a1 : (a : Int) < (nb : Int) := by omega
                generalize hv : isR bs l ms (throughT bs ms l) l.length ms.length (a : Int) = v at cis HSN
                clear hv
                generalize hfl : (rg a).filter (isR bs l ms (throughT bs ms l) l.length ms.length) = fl at HOWN HSN hle ⊢
                clear hfl
                cases v
                · go_wp2_with fail
                  have hsn := HSN.out
                  rw [if_neg (by decide), List.append_nil] at hsn
                  exact ⟨⟨a + 1, c, A, by omega, by go_num, by rw [hsn], by rw [hsn]; exact HOWN.out, HB3.out⟩, by simp [intOf]; omega⟩
                · have hzq := HB3.out.size
                  go_wp2_with (at_builtin; refine wpList_append_sl rfl _ _ 22 rfl wz.heap.size 3 i0 _ 8 Try.underlying22 hi iz0 iz1 iz2 rfl (by omega) encI_len _ fl.length _ rfl (HOWN.out.alloc (.cells #[.int .i64 (a : Int)] 3)) wr.heap.size _ 1 1 [(a : Int)] rfl (Sl.newI wr [(a : Int)] 3) oneI (by unfold maxLen; omega) (by omega) (by simp only [World.size_alloc]; omega) ?_; intro A6 c6 w6 hO6 hg6 _; have HO6 := Lib.hid hO6; have HB6 := Lib.hid (below_own (HOWN.out.alloc (.cells #[.int .i64 (a : Int)] 3)) hg6 (HB3.out.alloc HB3.out.size (.cells #[.int .i64 (a : Int)] 3)) (Nat.le_refl _) (Nat.le_refl _)); clear hO6 hg6)
                  have hsn := HSN.out
                  rw [if_pos rfl] at hsn
                  have hO6 := HO6.out
                  rw [← List.flatMap_append, ← hsn] at hO6
                  have hl6 : fl.length + 1 = ((rg (a + 1)).filter (isR bs l ms (throughT bs ms l) l.length ms.length)).length := by rw [hsn, List.length_append]; rfl
                  rw [hl6] at hO6 ⊢
                  exact ⟨⟨a + 1, c6, A6, by omega, by go_num, rfl, hO6, HB6.out⟩, by simp [intOf]; omega⟩
              · obtain rfl : a = nb := by omega
                have HEQ := Lib.hid (show (rg a).filter (isR bs l ms (throughT bs ms l) l.length ms.length) = recallT bs ms l from by rw [HNB.out]; exact isR_end rfl hxl)
                rw [HEQ.out] at HOWN ⊢
                obtain ⟨bR, hbR, hS⟩ := Sl.of_own (enc := encI) encI_len rfl HOWN.out
                have HSR := Lib.hid hS
                clear hS
                have HLz := Lib.hid (HL3.out.below HB3.out)
                go_wp2_with fail
                refine (sameSpans_any b5 E a a c5 a A5 (some ⟨E, 0, none⟩) _ _ _ (HX3.out.old HB3.out) (HE3.out.old HB3.out) (by omega)).mono ?_
                rw [decide_eq_true rfl]
                rintro e y1 ⟨rfl, hy1⟩
                have HY1 := Lib.hid hy1
                clear hy1
                go_wp2_with fail
                refine (sameSpans_any b6 T k k c6 k A6 (some ⟨T, 0, none⟩) _ _ _ ((HY3.out.old HB3.out).old HY1.out) ((HT3.out.old HB3.out).old HY1.out) (by omega)).mono ?_
                rw [decide_eq_true rfl]
                rintro e y2 ⟨rfl, hy2⟩
                have HY2 := Lib.hid (HY1.out.trans (hy2.mono HY1.out.size))
                clear hy2
                go_wp2_with fail
                refine (sameInts_any b7 bR _ _ c7 c A7 A _ _ _ ((HR3.out.old HB3.out).old HY2.out) (HSR.out.old HY2.out) (by omega)).mono ?_
                rw [decide_eq_true rfl]
                rintro e y3 ⟨rfl, hy3⟩
                have HZ3 := Lib.hid (HY2.out.trans (hy3.mono HY2.out.size))
                clear hy3
                go_wp2_with fail
                refine (kawake_any _).mono ?_
                rintro e y4 ⟨rfl, hy4⟩
                have HY4 := Lib.hid (HZ3.out.trans (hy4.mono HZ3.out.size))
                clear hy4
                go_wp2_with fail
                go_ret
                exact ⟨rfl, HLz.out.low.trans (HY4.out.mono HLz.out.low.size)⟩
end Go.Proofs.Ytkphgdkjjklajaa
