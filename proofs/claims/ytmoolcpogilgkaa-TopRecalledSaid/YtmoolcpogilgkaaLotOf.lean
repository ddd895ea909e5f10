/-
  LotOf: a lot made of numbers may be.
-/
import Derived.Test.YtmoolcpogilgkaaCelOf
set_option linter.unusedVariables false
set_option linter.unusedSimpArgs false
namespace Go.Proofs.Ytmoolcpogilgkaa
open Go.RowKit

/-- how things stand before a structure is laid -/
structure CPre (t : TypeId) (zs : Array Value) (w W : World) (d r : Nat) : Prop where
  die : IsDie W d
  res : Blk W r t zs
  only : w.grownBy W (some d)
  hd : d < w.heap.size
  hr : w.heap.size ≤ r
section
variable {t : TypeId} {zs : Array Value} {w W W1 : World} {d r : Nat}
theorem CPre.die_ (h : CPre t zs w W d r) (hd1 : IsDie W1 d) (hg : W.grownBy W1 (some d)) : CPre t zs w W1 d r := by
  have a1 := h.hd
  have a2 := h.hr
  exact ⟨hd1, h.res.grown hg (fun e => by injection e; omega), only_step hg h.only (.inl rfl), a1, a2⟩
theorem CPre.drew (h : CPre t zs w W d r) : CPre t zs w W.drew d r := ⟨h.die, h.res, only_drew h.only, h.hd, h.hr⟩
theorem CPre.alloc (h : CPre t zs w W d r) (o : Obj) : CPre t zs w (W.alloc o) d r := ⟨h.die.alloc o, h.res.alloc o, only_alloc h.only o, h.hd, h.hr⟩
theorem CPre.lay (h : CPre t zs w W d r) (cs : Array Value) : CSt t zs w (W.alloc (.cells cs t)) d r W.heap.size cs :=
  ⟨h.die.alloc _, Blk.new W _ _, h.res.alloc _, only_alloc h.only _, h.hd, h.hr, h.res.lt⟩
theorem CPre.ne (h : CPre t zs w W d r) : W.heap.size ≠ d := by have := h.die.lt; omega
end

def lotZ : Array Value := #[.int .i64 0, .int .i64 0, .slice none 0 0]
def LotPost (d n : Nat) (w : World) (e : Ending) (w' : World) : Prop := ∃ (q : LotP) (l : LotT), LotOk n l ∧ l.born ≤ 9 ∧ LotM w' q l ∧ e = .returned (.agg (lotA q l)) ∧ w.heap.size ≤ q.bs ∧ DieTo d w w'
theorem oneSt (x : StayT) : ∀ u ∈ encSt x, u.oneCell' = true := by simp [encSt, Value.oneCell']
theorem info_stay3 : (Try.prog.info? 89).map (fun i => (i.zero, i.size, i.bytes)) = some (some (.agg #[.int .i64 0, .int .i64 0, .int .i64 0]), 3, 24) := by kernel_rfl
theorem info_lotA : (Try.prog.info? 46).map (·.size) = some 3 := by kernel_rfl

structure StaysOk (n : Nat) (b : Int) (l : List StayT) (fr : Int) : Prop where
  ss : ∀ s ∈ l, StayOk n s
  s0 : ∀ h : 0 < l.length, b ≤ l[0].fr
  so : ∀ k, (h : k + 1 < l.length) → l[k].to ≤ l[k + 1].fr
  up : ∀ s ∈ l, s.to ≤ fr
theorem StaysOk.nil (n : Nat) (b fr : Int) : StaysOk n b [] fr := ⟨by simp, fun h => by simp at h, fun k h => by simp at h, by simp⟩
theorem StaysOk.snoc {n : Nat} {b fr f2 : Int} {l : List StayT} (h : StaysOk n b l fr) {s : StayT} (hs : StayOk n s) (hb : b ≤ fr) (h1 : fr ≤ s.fr) (h2 : s.to = f2) : StaysOk n b (l ++ [s]) f2 := by
  have h3 := hs.f.2
  refine ⟨fun g hg => ?_, fun h0 => ?_, fun k hk => ?_, fun g hg => ?_⟩
  · rcases List.mem_append.1 hg with hg | hg
    · exact h.ss g hg
    · rw [List.mem_singleton.1 hg]; exact hs
  · by_cases hl : 0 < l.length
    · rw [List.getElem_append_left hl]; exact h.s0 hl
    · rw [List.getElem_append_right (by omega)]; simp only [List.getElem_singleton]; omega
  · simp only [List.length_append, List.length_singleton] at hk
    by_cases hk2 : k + 1 < l.length
    · rw [List.getElem_append_left (by omega), List.getElem_append_left hk2]; exact h.so k hk2
    · rw [List.getElem_append_left (by omega), List.getElem_append_right (by omega)]
      have := h.up l[k] (List.getElem_mem _)
      simp only [List.getElem_singleton]
      omega
  · rcases List.mem_append.1 hg with hg | hg
    · have := h.up g hg; omega
    · rw [List.mem_singleton.1 hg]; omega

theorem lotOf_end {d r B m c n : Nat} {A : Option Addr} {bn kp : Int} {ss : List StayT} {w w0 W : World} {g : Nat} (tmps : Array Value) (hr : r = w.heap.size + 1) (ht : tmps.getD 6 undef = .pointer (some ⟨r, 0, none⟩))
    (hC : CSt 46 lotZ w0 W d r g #[.int .i64 bn, .int .i64 kp, .slice A m c]) (hO : W.ownsRow B 89 3 (.slice A m c) m (ss.flatMap encSt)) (hB : g < B) (o : Obj) (hw0 : w0 = w.alloc o) (hd : d < w.heap.size)
    (hn : m = ss.length) (hOk : LotOk n ⟨bn, kp, ss⟩) (h9 : bn ≤ 9) :
    bodyPost Try.prog Try.f10 (LotPost d n w) .ret { tmps := tmps, defers := [] } (W.setRow r #[.int .i64 bn, .int .i64 kp, .slice A m c]) := by
  have hdd := hC.hd
  have hgg := hC.hg
  subst hw0
  have hR := hC.res.setRow #[.int .i64 bn, .int .i64 kp, .slice A m c]
  refine bodyPost_ret (results_cell_row rfl _ _ r 46 #[.int .i64 bn, .int .i64 kp, .slice A m c] (0, 0) _ ht hR Try.underlying46 rfl info_lotA) rfl ?_
  obtain ⟨br, hbr, hsr⟩ := Sl.of_own (enc := encSt) encSt_len hn hO
  have hg := grown_setRow W r #[.int .i64 bn, .int .i64 kp, .slice A m c]
  have hd2 : IsDie (W.setRow r #[.int .i64 bn, .int .i64 kp, .slice A m c]) d := hC.die.keep (hg.block d hC.die.lt (fun e => by injection e; omega))
  refine ⟨⟨A, m, c, br⟩, ⟨bn, kp, ss⟩, hOk, h9, hsr.grown hg (fun _ e => by injection e; omega), rfl, by show w.heap.size ≤ br; omega, hd2, ?_⟩
  have ho := hC.only
  refine ⟨hg.os.trans ho.os, hg.tape.trans ho.tape, hg.output.trans ho.output, ?_, fun i hi hn => ?_⟩
  · have h1 := ho.size; have h2 := hg.size; simp at h1; omega
  · have hi1 : i < (w.alloc o).heap.size := by simp; omega
    exact (hg.block i (Nat.lt_of_lt_of_le hi1 ho.size) (fun e => by injection e; omega)).trans ((ho.block i hi1 hn).trans (Below.heap_alloc _ _ _ hi))

set_option maxRecDepth 100000 in
set_option maxHeartbeats 2000000 in
theorem lotOf_any (d M : Nat) (p : CelP) (c : CelT) (w : World) (hd : IsDie w d) (hM3 : M ≤ 3) (hM : p.nb = c.boxes.length) (hc : p.nb ≤ 6) :
    Calls Try.prog 10 #[.pointer (some ⟨d, 0, none⟩), .agg (celA p c), .int .i64 M] w (LotPost d c.boxes.length w) := by
  obtain ⟨i0, hi, iz0, iz1, iz2⟩ := info_parts info_stay3
  have hz := hd.lt
  have HNB := Lib.hid hM
  have HP0 := Lib.hid (show CPre 46 lotZ (w.alloc (.cells (celA p c) 37)) ((w.alloc (.cells (celA p c) 37)).alloc (.cells #[.int .i64 0, .int .i64 0, .slice none 0 0] 46)) d (w.heap.size + 1) from
    ⟨(hd.alloc _).alloc _, by have := Blk.new (w.alloc (.cells (celA p c) 37)) 46 lotZ; rw [World.size_alloc] at this; exact this, only_alloc (only_refl _ _) _, by simp; omega, by simp⟩)
  have HK0 := Lib.hid (Blk.new w 37 (celA p c))
  clear hd hM
  go_enter Try.func10, Try.ntmps10
  go_wp2_with fail
  refine (cast_any d 10 _ HP0.out.die (by omega)).mono ?_
  rintro e w1 ⟨bn, ⟨hb1, _, hb2⟩, rfl, hd1, hg1⟩
  have hb3 := hb2 (by omega)
  have HP1 := Lib.hid (HP0.out.die_ hd1 hg1)
  clear hd1 hg1 hb2 HP0
  go_wp2_with fail
  refine (cast_any d 40 _ HP1.out.die (by omega)).mono ?_
  rintro e w2 ⟨q1, ⟨hq1, _, hq2⟩, rfl, hd1, hg1⟩
  have hq3 := hq2 (by omega)
  have HP2 := Lib.hid (HP1.out.die_ hd1 hg1)
  clear hd1 hg1 hq2 HP1
  go_wp2_with fail
  refine (cast_any d 200 _ HP2.out.die (by omega)).mono ?_
  rintro e w3 ⟨q2, ⟨hq4, _, hq5⟩, rfl, hd1, hg1⟩
  have hq6 := hq5 (by omega)
  have HP3 := Lib.hid (HP2.out.die_ hd1 hg1)
  clear hd1 hg1 hq5 HP2
  go_wp2_with fail
  refine (one_any d _ 3 3 _ [0, q1, q2] _ (HP3.out.die.alloc _) (Sl.newI w3 [0, q1, q2] _) (by omega) (by omega) HP3.out.ne).mono ?_
  rintro e w4 ⟨kp, hkp, rfl, hd1, hg1⟩
  have hkp1 : 0 ≤ kp ∧ kp ≤ 200 := by simp at hkp; omega
  obtain ⟨hkp2, hkp3⟩ := hkp1
  have HP4 := Lib.hid ((HP3.out.alloc _).die_ hd1 hg1)
  clear hd1 hg1 hkp HP3
  have HC4 := Lib.hid (HP4.out.lay #[.int .i64 bn, .int .i64 kp, .slice none 0 0])
  have g0 := HC4.out.cel.cell 0
  go_wp2_with fail
  refine (cast_any d _ _ HC4.out.die (by omega)).mono ?_
  rintro e w5 ⟨K1, ⟨hk5, hk6, hk7⟩, rfl, hd2, hg2⟩
  have hk8 : K1 ≤ M := by by_cases h : (M : Int) + 1 < 2 <;> omega
  obtain ⟨K1, rfl⟩ := Int.eq_ofNat_of_zero_le hk5
  have HC5 := Lib.hid (HC4.out.die_ hd2 hg2)
  obtain ⟨g, hg0⟩ : ∃ g, w4.heap.size = g := ⟨_, rfl⟩
  rw [hg0] at HC5
  clear hk6 hk7 hd2 hg2 hk5 HC4 HP4 g0
  go_wp2_with fail
  have hgz : g < w5.heap.size := HC5.out.hz
  have hdg : d < g := by have h1 := HC5.out.hd; have h2 := HC5.out.hr; have h3 := HC5.out.hg; omega
  go_loopw [8, 9] (fun fv i wq => ∃ (k m cc : Nat) (fr : Int) (A : Option Addr) (ss : List StayT), fv = .int .i64 fr ∧ i = .int .i64 k ∧ m + k = K1 ∧ m = ss.length ∧ (bn ≤ fr ∧ fr ≤ 9 + 10 * m) ∧ StaysOk c.boxes.length bn ss fr ∧ CSt 46 lotZ (w.alloc (.cells (celA p c) 37)) wq d (w.heap.size + 1) g #[.int .i64 bn, .int .i64 kp, .slice A m cc] ∧ wq.ownsRow (g + 1) 89 3 (.slice A m cc) m (ss.flatMap encSt)) (fun _ i _ => (intOf i).toNat)
  case atStart => exact ⟨K1, 0, 0, bn, none, [], rfl, rfl, by omega, rfl, by omega, StaysOk.nil _ _ _, HC5.out, World.ownsRow_nil _ _ _ _⟩
  case round =>
    obtain ⟨k, m, cc, fr, A, ss, rfl, rfl, hmk, hml, ⟨hf0, hf1⟩, hss, hC, hO⟩ := hrel
    have HMK := Lib.hid hmk
    have HML := Lib.hid hml
    have HSS := Lib.hid hss
    have HC := Lib.hid hC
    have HO := Lib.hid hO
    have hm3 : m ≤ 3 := by omega
    have hk3 : k ≤ 3 := by omega
    have c2 : wr.cell? ⟨w.heap.size, 2, none⟩ = some (.slice p.Ab p.nb p.cb) := by
      have hb : wr.heap[w.heap.size]? = _ := (HC.out.only.block w.heap.size (by simp) (fun e => by injection e; omega)).trans HK0.out
      exact (show Blk wr w.heap.size 37 (celA p c) from hb).cell 2
    clear hmk hml hss hC hO
    by_cases hkm : 0 < k ∧ 0 < p.nb
    · obtain ⟨hk1, hm1⟩ := hkm
      go_wp2_with fail
      refine (cast_any d _ _ HC.out.die (by omega)).mono ?_
      rintro e w6 ⟨bx, ⟨hx0, hx1', hx2'⟩, rfl, hd4, hg4⟩
      have hbm : bx < p.nb := by by_cases h : (p.nb : Int) < 2 <;> omega
      have HC6 := Lib.hid (HC.out.die_ hd4 hg4)
      have HO6 := Lib.hid (ownsRow_die HO.out hg4 (by omega))
      clear c2 hd4 hg4 hx1' hx2' HC HO
      go_wp2_with fail
      refine (cast_any d 3 _ HC6.out.die (by omega)).mono ?_
      rintro e w7 ⟨q3, ⟨hy0, _, hy2⟩, rfl, hd4, hg4⟩
      have hy3 := hy2 (by omega)
      have HC7 := Lib.hid (HC6.out.die_ hd4 hg4)
      have HO7 := Lib.hid (ownsRow_die HO6.out hg4 (by omega))
      clear hd4 hg4 hy2 HC6 HO6
      go_wp2_with fail
      refine (one_any d _ 2 2 _ [0, q3] _ (HC7.out.die.alloc _) (Sl.newI w7 [0, q3] _) (by omega) (by omega) (by have := HC7.out.die.lt; omega)).mono ?_
      rintro e w8 ⟨q4, hq, rfl, hd4, hg4⟩
      have hq4' : 0 ≤ q4 ∧ q4 ≤ 2 := by simp at hq; omega
      obtain ⟨hq41, hq42⟩ := hq4'
      have HC8 := Lib.hid ((HC7.out.alloc _).die_ hd4 hg4)
      have HO8 := Lib.hid (ownsRow_die (HO7.out.alloc _) hg4 (by omega))
      clear hd4 hg4 hq HC7 HO7
      go_upto_region 7 with fail
      have hB0 : CB 46 89 89 3 lotZ (w.alloc (.cells (celA p c) 37)) (w8.alloc (.cells #[.int .i64 bx, .int .i64 (fr + q4), .int .i64 0] 89)) d (w.heap.size + 1) g (g + 1) #[.int .i64 bn, .int .i64 kp, .slice A m cc] (.slice A m cc) m (ss.flatMap encSt) w8.heap.size #[.int .i64 bx, .int .i64 (fr + q4), .int .i64 0] :=
        ⟨HC8.out.alloc _, HO8.out.alloc _, Blk.new w8 _ _, fun e => by have := (HO8.out.lt _ e).2; omega, by have := HC8.out.hz; omega, by omega⟩
      generalize (w8.alloc (.cells #[.int .i64 bx, .int .i64 (fr + q4), .int .i64 0] 89)) = W9 at hB0 ⊢
      generalize w8.heap.size = G at hB0 ⊢
      have hB9 := hB0.drew
      clear hB0 HC8 HO8
      have HQ7 := Lib.hid (show ∀ x : Int, x ≤ 8 → 0 ≤ x → IntKind.i64.wrap (fr + q4 + x) = fr + q4 + x from fun x h1 h2 => IntWalk.i64_in _ (by omega))
      refine wp_region_PL [1] (fun W => W.cell? ⟨G, 1, none⟩ = some (.int .i64 (fr + q4))) rfl (by kernel_rfl) (hB9.b.cell 1) (fun hF0 => ?_)
      (refine wpAnyP_takeL (i := 0) (v := ?_) rfl (by kernel_rfl) (by kernel_rfl) (by kernel_rfl) (fun _ _ _ h => h) (by rfl) ?_ ?_; rotate_left 1; focus (intro w; go_simp; try with_reducible rfl))
      try simp only [Act.put, List.setIfInBounds_toArray, List.set_cons_zero, List.set_cons_succ]
      (refine wpAnyP_loadL (i := 1) (v := ?_) rfl (by kernel_rfl) (by kernel_rfl) (by kernel_rfl) (by rfl) (fun _ _ _ h => h) hF0 (by rfl) ?_ ?_; rotate_left 1; focus (intro w hFw; (try dsimp only at hFw); go_split_ands; go_simp; try with_reducible rfl))
      try simp only [Act.put, List.setIfInBounds_toArray, List.set_cons_zero, List.set_cons_succ]
      (refine wpAnyP_takeL (i := 2) (v := ?_) rfl (by kernel_rfl) (by kernel_rfl) (by kernel_rfl) (fun _ _ _ h => h) (by rfl) ?_ ?_; rotate_left 1; focus (intro w; go_simp; try with_reducible rfl))
      try simp only [Act.put, List.setIfInBounds_toArray, List.set_cons_zero, List.set_cons_succ]
      refine wpAnyP_step (i := 3) rfl (by kernel_rfl) (by rfl) (fun K hK => ?_)
      go_simp
      (refine (from_any d 1 8 _ hB9.st.die (by omega) (by omega) (by omega) (by omega)).mono ?_; rintro e w10 ⟨q5, ⟨hz1, hz2, _⟩, rfl, hd5, hg5⟩; have hz3 := hz2 (by omega); have hB10 := hB9.step hd5 hg5; clear hd5 hg5 hz2)
      (refine hK _ _ (hB10.b.cell 1) (fun hF1 => ?_); clear hK K hF0)
      try simp only [Act.put, List.setIfInBounds_toArray, List.set_cons_zero, List.set_cons_succ]
      (refine wpAnyP_takeL (i := 4) (v := ?_) rfl (by kernel_rfl) (by kernel_rfl) (by kernel_rfl) (fun _ _ _ h => h) (by rfl) ?_ ?_; rotate_left 1; focus (intro w; go_simp; (first | (rw [HQ7.out _ (by omega) (by omega)]) | (with_reducible rfl))))
      try simp only [Act.put, List.setIfInBounds_toArray, List.set_cons_zero, List.set_cons_succ]
      (refine wpAnyP_takeL (i := 5) (v := ?_) rfl (by kernel_rfl) (by kernel_rfl) (by kernel_rfl) (fun _ _ _ h => h) (by rfl) ?_ ?_; rotate_left 1; focus (intro w; go_simp; try with_reducible rfl))
      try simp only [Act.put, List.setIfInBounds_toArray, List.set_cons_zero, List.set_cons_succ]
      refine wpAnyP_last (i := 6) rfl (by kernel_rfl) (by kernel_rfl) (by rfl) (fun K hK => ?_)
      go_simp
      (have f2 := hB10.b.frozen 2; have d2 := hB10.b.cell 2; go_simp; clear f2 d2)
      (refine hK _ _ ?_; clear hK K)
      try simp only [Act.put, List.setIfInBounds_toArray, List.set_cons_zero, List.set_cons_succ]
      refine wpAnyP_done (by kernel_rfl) ?_ _
      have HB11 := Lib.hid (show CB 46 89 89 3 lotZ (w.alloc (.cells (celA p c) 37)) _ d (w.heap.size + 1) g (g + 1) #[.int .i64 bn, .int .i64 kp, .slice A m cc] (.slice A m cc) m (ss.flatMap encSt) G #[.int .i64 bx, .int .i64 (fr + q4), .int .i64 (fr + q4 + q5)] from hB10.set 2 (.int .i64 (fr + q4 + q5)))
      clear hB9 hB10
      generalize w10.setCell ⟨G, 2, none⟩ (.int .i64 (fr + q4 + q5)) = W11 at HB11 ⊢
      have e0 := HB11.out.b.cell 0
      have e1 := HB11.out.b.cell 1
      have e2 := HB11.out.b.cell 2
      have g2 := HB11.out.st.cel.cell 2
      have hS12 := Sl.new encSt_len W11 [(⟨bx, fr + q4, fr + q4 + q5⟩ : StayT)] 89 #[.int .i64 bx, .int .i64 (fr + q4), .int .i64 (fr + q4 + q5)] rfl
      have hB12 := HB11.out.alloc (.cells #[.int .i64 bx, .int .i64 (fr + q4), .int .i64 (fr + q4 + q5)] 89)
      go_wp2_with (at_builtin; refine wpList_append_sl rfl _ _ 44 rfl (g + 1) 89 i0 _ 24 Try.underlying44 hi iz0 iz1 iz2 rfl (by omega) encSt_len _ m _ rfl hB12.o W11.heap.size _ 1 1 [(⟨bx, fr + q4, fr + q4 + q5⟩ : StayT)] rfl hS12 oneSt (by unfold maxLen; omega) (by omega) hB12.st.hz ?_; intro A13 c13 w13 hO13 hg13 _; have hb13 := hB12.b.grown hg13 (fun e => hB12.own e.symm); have hC13 := hB12.st.grown hg13 (fun r e => by have := (hB12.o.lt r e).1; omega); have f2 := hC13.cel.frozen 2; have d2 := hC13.cel.cell 2; have e9 := (hb13.far (p := ⟨g, 2, none⟩) (by have := hB12.hG; show G ≠ g; omega) (.slice A13 (m + 1) c13)).cell 2)
      have HNX := Lib.hid (hC13.set_ 2 (.slice A13 (m + 1) c13))
      have HOX := Lib.hid (ownsRow_setCell hO13 (p := ⟨g, 2, none⟩) (by show g < g + 1; omega) (.slice A13 (m + 1) c13))
      refine ⟨?rel, ?measure⟩
      case rel =>
        refine ⟨k - 1, m + 1, c13, fr + q4 + q5, A13, ss ++ [⟨bx, fr + q4, fr + q4 + q5⟩], rfl, ?_, ?_, ?_, ?_, ?_, HNX.out, ?_⟩
        · rw [show ((k - 1 : Nat) : Int) = (k : Int) - 1 from by omega]
        · have := HMK.out; omega
        · simp [HML.out]
        · omega
        · exact HSS.out.snoc ⟨by show 0 ≤ bx ∧ bx < (c.boxes.length : Int); have := HNB.out; omega, by show 0 ≤ fr + q4 ∧ fr + q4 < fr + q4 + q5; omega, by show fr + q4 + q5 ≤ 240; omega⟩ (by omega) (by show fr ≤ fr + q4; omega) rfl
        · rw [List.flatMap_append]; exact HOX.out
      case measure =>
        simp [intOf]
        omega
    · have hd1 : ¬ 0 < k ∨ (0 < k ∧ ¬ 0 < p.nb) := by omega
      rcases hd1 with h1 | ⟨h1, h2⟩
      · have HRES := Lib.hid HC.out.res
        have g0 := HC.out.cel.cell 0
        have g1 := HC.out.cel.cell 1
        have g2 := HC.out.cel.cell 2
        go_wp2_with (refine wpList_store_row rfl 46 (.tmp 6) (.tmp 64) rfl (w.heap.size + 1) #[.int .i64 bn, .int .i64 kp, .slice A m cc] rfl rfl 46 lotZ HRES.out info_lotA rfl (by simp [Value.oneCell']) ?_)
        exact lotOf_end _ rfl rfl HC.out HO.out (by omega) _ rfl hz HML.out ⟨by show 0 ≤ bn ∧ bn ≤ 239; omega, by show 0 ≤ kp ∧ kp ≤ 100000; omega, by show ss.length ≤ 8; have := HML.out; have := HMK.out; omega, HSS.out.ss, HSS.out.s0, HSS.out.so⟩ (by omega)
      · have HRES := Lib.hid HC.out.res
        have g0 := HC.out.cel.cell 0
        have g1 := HC.out.cel.cell 1
        have g2 := HC.out.cel.cell 2
        go_wp2_with (refine wpList_store_row rfl 46 (.tmp 6) (.tmp 64) rfl (w.heap.size + 1) #[.int .i64 bn, .int .i64 kp, .slice A m cc] rfl rfl 46 lotZ HRES.out info_lotA rfl (by simp [Value.oneCell']) ?_)
        exact lotOf_end _ rfl rfl HC.out HO.out (by omega) _ rfl hz HML.out ⟨by show 0 ≤ bn ∧ bn ≤ 239; omega, by show 0 ≤ kp ∧ kp ≤ 100000; omega, by show ss.length ≤ 8; have := HML.out; have := HMK.out; omega, HSS.out.ss, HSS.out.s0, HSS.out.so⟩ (by omega)
end Go.Proofs.Ytmoolcpogilgkaa
