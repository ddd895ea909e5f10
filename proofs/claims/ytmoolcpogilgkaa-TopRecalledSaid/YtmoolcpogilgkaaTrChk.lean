/-
  trace.in, trace.Check: which nets are valid.
-/
import Derived.Test.YtmoolcpogilgkaaTrArr
import Derived.Test.YtmoolcpogilgkaaTrEdges
import Derived.Test.YtmoolcpogilgkaaReg2
import Derived.Test.YtmoolcpogilgkaaFunLay
import Derived.Shelf.SlicesE.IndexFunc
import Derived.Outline
set_option linter.unusedVariables false
set_option linter.unusedSimpArgs false
namespace Go.Proofs.Ytmoolcpogilgkaa
open Go.RowKit Go.Shelf

theorem tin_t (n lo hi : Int) (h : lo ≤ n ∧ n ≤ hi) (w : World) : Calls Try.prog 37 #[.int .i64 n, .int .i64 lo, .int .i64 hi] w fun e w' => e = .returned (.bool true) ∧ w = w' := by
  obtain ⟨h1, h2⟩ := h
  go_enter Try.func37, Try.ntmps37
  go_wp2
  go_ret
  exact ⟨rfl, rfl⟩
theorem tin_f (n lo hi : Int) (h : ¬ (lo ≤ n ∧ n ≤ hi)) (w : World) : Calls Try.prog 37 #[.int .i64 n, .int .i64 lo, .int .i64 hi] w fun e w' => e = .returned (.bool false) ∧ w = w' := by
  by_cases h1 : lo ≤ n
  · have h2 : ¬ n ≤ hi := fun h2 => h ⟨h1, h2⟩
    clear h
    go_enter Try.func37, Try.ntmps37
    go_wp2
    go_ret
    exact ⟨rfl, rfl⟩
  · clear h
    go_enter Try.func37, Try.ntmps37
    go_wp2
    go_ret
    exact ⟨rfl, rfl⟩
def badG (g : Int) : Bool := !decide (0 ≤ g ∧ g ≤ 1000000)
theorem check1_any (g : Int) (w : World) : Calls Try.prog 54 #[.int .i64 g] w fun e w' => e = .returned (.bool (badG g)) ∧ ∃ q, w' = w.drewN q := by
  by_cases h : 0 ≤ g ∧ g ≤ 1000000
  · have hb : badG g = false := by simp [badG, h]
    rw [hb]
    go_enter Try.func54, Try.ntmps54
    go_wp2_with (go_at_call 37; refine (tin_t _ _ _ h _).mono ?_; rintro e w' ⟨rfl, rfl⟩)
    go_ret
    exact ⟨rfl, 0, rfl⟩
  · have hb : badG g = true := by
      unfold badG
      rw [decide_eq_false h]; rfl
    rw [hb]
    go_enter Try.func54, Try.ntmps54
    go_wp2_with (go_at_call 37; refine (tin_f _ _ _ h _).mono ?_; rintro e w' ⟨rfl, rfl⟩)
    go_ret
    exact ⟨rfl, 0, rfl⟩
theorem anyBad (b n c : Nat) (A : Option Addr) (l : List Int) (w : World) (hl : Sl encI 1 w b A n l) (hn : n ≤ 1000000) (hn0 : 0 < n) :
    Calls Try.prog 53 #[.slice A n c, .func (.func 54) #[] #[]] w fun e w' => e = .returned (.bool (l.any badG)) ∧ ∃ q, w' = w.drewN q := by
  have hlen := hl.len
  obtain ⟨o, rfl, _, _⟩ := hl.2 hn0
  have h := AnyE.slices_ContainsFunc Try.hasFunc (Value.int .i64) badG 54 #[] (enters_of Try.func54 (by kernel_rfl) rfl) b o n c l w (fun W x _ => check1_any x W) (by omega) (by omega) (fun j hj => by
    obtain ⟨o', ho, _, hc⟩ := hl.atI hj
    injection ho with ho
    injection ho with _ ho
    subst ho
    rw [getElem!_pos l j hj]
    exact hc)
  rw [hlen, List.take_length] at h
  rw [hlen]
  exact h

theorem chkMs_drop {n : Nat} {a : Int → Int} {l : List Mv} (k : Nat) (h : OkMs n a (l.take k)) (hg : ∀ m ∈ l.take k, m.g ≤ 8000000) : chkMs n a l = chkMs n (hasAt a (l.take k)) (l.drop k) := by
  induction l generalizing a k with
  | nil => simp [hasAt]
  | cons m l ih =>
    cases k with
    | zero => rfl
    | succ k =>
      simp only [List.take_succ_cons] at h hg ⊢
      simp only [List.drop_succ_cons, hasAt]
      have h1 := h.1
      show chkMs n a (m :: l) = _
      simp only [chkMs]
      have hgm := hg m (List.mem_cons_self ..)
      rw [if_neg (by rw [inR_iff, inR_iff]; exact fun h2 => h2 ⟨⟨h1.f0, h1.f1⟩, ⟨h1.t0, h1.t1⟩⟩), if_neg h1.ne, if_neg (fun h2 => h2 ⟨h1.g0, hgm⟩), if_neg (by have := h1.g1; omega)]
      exact ih k h.2 fun x hx => hg x (List.mem_cons_of_mem _ hx)
theorem any_bad {bs : List Int} : bs.any badG = true ↔ ¬ ∀ g ∈ bs, 0 ≤ g ∧ g ≤ 1000000 := by
  rw [List.any_eq_true]
  constructor
  · rintro ⟨x, hx, hb⟩ h
    have := h x hx
    simp [badG, this] at hb
  · intro h
    simp only [Classical.not_forall] at h
    obtain ⟨x, hx, hb⟩ := h
    exact ⟨x, hx, by unfold badG; rw [decide_eq_false hb]; rfl⟩
theorem okM_any (n : Nat) (a : Int → Int) (m : Mv) (hf : 0 ≤ m.fr ∧ m.fr ≤ (n : Int) - 1) (ht : 0 ≤ m.to ∧ m.to ≤ (n : Int) - 1) (hne : m.fr ≠ m.to) (hg : 1 ≤ m.g) (ho : m.g ≤ a m.fr) : OkM n a m :=
  ⟨hf.1, by omega, ht.1, by omega, hne, hg, ho⟩
/-- between two rounds of Check -/
structure ChkSt (bs : List Int) (ms : List Mv) (w : World) (Ba : Nat) (k : Nat) (wr : World) : Prop where
  a : Blk wr Ba 120 (amA (hasAt (bsF bs) (ms.take k)))
  b : Below w.heap.size w wr
  ok : OkMs bs.length (bsF bs) (ms.take k)
  g : ∀ m ∈ ms.take k, m.g ≤ 8000000
  lo : w.heap.size ≤ Ba

/-- an array of eight that is newer than V -/
structure AmN (V W : World) (G : Nat) (a : Int → Int) : Prop where
  b : Blk W G 120 (amA a)
  lo : V.heap.size ≤ G
theorem AmN.new {V W : World} (h : Below V.heap.size V W) : AmN V (W.alloc (.cells (amA fun _ => 0) 120)) W.heap.size (fun _ => 0) := ⟨Blk.new _ _ _, h.size⟩
theorem AmN.old {V W W' : World} {G : Nat} {a : Int → Int} (h : AmN V W G a) (hb : Below W.heap.size W W') : AmN V W' G a := ⟨h.b.below hb h.b.lt, h.lo⟩
theorem AmN.put {V W : World} {G : Nat} {a : Int → Int} (h : AmN V W G a) (a' : Int → Int) : AmN V (W.setRow G (amA a')) G a' := ⟨h.b.setRow _, h.lo⟩
theorem AmN.low {V W : World} {G : Nat} {a : Int → Int} (h : AmN V W G a) (hM : Below V.heap.size V W) (ds : Array Value) : Below V.heap.size V (W.setRow G ds) :=
  hM.grown (grown_setRow _ _ _) hM.size (fun k e => by cases e; exact h.lo)

set_option maxRecDepth 100000 in
set_option maxHeartbeats 4000000 in
theorem check_any (b1 b2 : Nat) (Ab Am : Option Addr) (nb cb nm cm : Nat) (bs : List Int) (ms : List Mv) (w : World) (hM : NetM w b1 b2 Ab Am nb cb nm cm bs ms) (hnb : nb ≤ 100000) (hnm : nm ≤ 100000) :
    Calls Try.prog 36 #[netV Ab Am nb cb nm cm] w fun e w' => e = .returned (.int .i64 (chkNet bs ms)) ∧ Below w.heap.size w w' := by
  have hBn := Blk.new w 27 #[.slice Ab nb cb, .slice Am nm cm]
  have c0 := hBn.cell 0
  have c1 := hBn.cell 1
  have hb0 : Below w.heap.size w (w.alloc (.cells #[.slice Ab nb cb, .slice Am nm cm] 27)) := (Below.refl _ w).alloc (Nat.le_refl _) _
  have HBN := Lib.hid hBn
  have HNB := Lib.hid hM.b.len
  have HNM := Lib.hid hM.m.len
  have HM := Lib.hid hM
  clear hM hBn
  by_cases h0 : nb = 0
  · have hc : chkNet bs ms = 7 := by unfold chkNet; rw [if_pos (by have := HNB.out; omega)]
    subst h0
    rw [hc]
    clear hc
    go_enter Try.func36, Try.ntmps36
    go_wp2_with fail
    go_ret
    exact ⟨rfl, hb0⟩
  by_cases h8 : 8 < nb
  · have hc : chkNet bs ms = 6 := by unfold chkNet; rw [if_neg (by have := HNB.out; omega), if_pos (by have := HNB.out; omega)]
    rw [hc]
    clear hc
    go_enter Try.func36, Try.ntmps36
    go_wp2_with fail
    go_ret
    exact ⟨rfl, hb0⟩
  have hcon := anyBad b1 nb cb Ab bs _ (HM.out.b.alloc (.cells #[.slice Ab nb cb, .slice Am nm cm] 27)) (by omega) (by omega)
  by_cases hbad : ¬ ∀ g ∈ bs, 0 ≤ g ∧ g ≤ 1000000
  · have hc : chkNet bs ms = 1 := by unfold chkNet; rw [if_neg (by have := HNB.out; omega), if_neg (by have := HNB.out; omega), if_pos hbad]
    rw [hc]
    rw [any_bad.2 hbad] at hcon
    have HC := Lib.hid hcon
    clear hc hcon hbad
    go_enter Try.func36, Try.ntmps36
    go_wp2_with (go_at_call 53; refine HC.out.mono ?_; rintro e w1 ⟨rfl, q, rfl⟩)
    go_ret
    exact ⟨rfl, below_drewN hb0 q⟩
  have hgr := Decidable.not_not.1 hbad
  have hcf : bs.any badG = false := by
    cases h : bs.any badG
    · rfl
    · exact absurd (any_bad.1 h) hbad
  rw [hcf] at hcon
  have HC := Lib.hid hcon
  have HGR := Lib.hid hgr
  clear hcon hcf hgr hbad
  by_cases h12 : 12 < nm
  · have hc : chkNet bs ms = 6 := by unfold chkNet; rw [if_neg (by have := HNB.out; omega), if_neg (by have := HNB.out; omega), if_neg (fun h => h HGR.out), if_pos (by have := HNM.out; omega)]
    rw [hc]
    clear hc
    have c2 := fun q => ((HBN.out.drewN q).cell 1)
    go_enter Try.func36, Try.ntmps36
    go_wp2_with (go_at_call 53; refine HC.out.mono ?_; rintro e w1 ⟨rfl, q, rfl⟩; have c2 := (HBN.out.drewN q).cell 1)
    go_ret
    exact ⟨rfl, below_drewN hb0 q⟩
  have hc : chkNet bs ms = chkMs bs.length (bsF bs) ms := by unfold chkNet; rw [if_neg (by have := HNB.out; omega), if_neg (by have := HNB.out; omega), if_neg (fun h => h HGR.out), if_neg (by have := HNM.out; omega)]
  have HCH := Lib.hid hc
  have hnb8 : nb ≤ 8 := by omega
  have hnb0 : 0 < nb := by omega
  have hnm12 : nm ≤ 12 := by omega
  have hd8 : decide ((8 : Int) < (nb : Int)) = false := by simp; omega
  have hd12 : decide ((12 : Int) < (nm : Int)) = false := by simp; omega
  clear hc h0 h8 h12
  go_enter Try.func36, Try.ntmps36
  go_upto_region 9 with (go_at_call 53; refine HC.out.mono ?_; rintro e w1 ⟨rfl, q, rfl⟩; have c2 := (HBN.out.drewN q).cell 1)
  have hB1 := HBN.out.drewN q
  have hbq := below_drewN hb0 q
  have hl1 : NetM ((w.alloc (.cells #[.slice Ab nb cb, .slice Am nm cm] 27)).drewN q) b1 b2 Ab Am nb cb nm cm bs ms := HM.out.old hbq
  obtain ⟨V, hV⟩ : ∃ V, (w.alloc (.cells #[.slice Ab nb cb, .slice Am nm cm] 27)).drewN q = V := ⟨_, rfl⟩
  rw [hV] at hB1 hbq hl1 ⊢
  have HB1 := Lib.hid hB1
  have HBQ := Lib.hid hbq
  have HL1 := Lib.hid hl1
  have hz : w.heap.size + 1 ≤ V.heap.size := by have := hB1.lt; omega
  clear hB1 hbq hl1 hV c0 c1 c2 hb0 HC
  go_cut [3, 4] from 26 to 31 (fun p q wx => ∃ Ba, p = .pointer (some ⟨Ba, 0, none⟩) ∧ q = .int .i64 ((nb : Int) - 1) ∧ ChkSt bs ms w Ba 0 wx ∧ Below V.heap.size V wx ∧ V.heap.size ≤ Ba)
  case first =>
    have hM : Below V.heap.size V V.drew := (Below.refl _ V).drew
    have hcell : ∀ W, Below V.heap.size V W → W.cell? ⟨w.heap.size, 0, none⟩ = some (.slice Ab nb cb) ∧ W.cell? ⟨w.heap.size, 1, none⟩ = some (.slice Am nm cm) := fun W h => ⟨(HB1.out.below h HB1.out.lt).cell 0, (HB1.out.below h HB1.out.lt).cell 1⟩
    have HCL := Lib.hid hcell
    clear hcell
    have hwn : IntKind.i64.wrap ((nb : Int) - 1) = (nb : Int) - 1 := IntWalk.i64_in _ (by omega)
    refine wp_region_K2 [0, 3] [] (fun W => W.cell? ⟨w.heap.size, 0, none⟩ = some (.slice Ab nb cb) ∧ W.cell? ⟨w.heap.size, 1, none⟩ = some (.slice Am nm cm)) (fun _ => True) rfl (by kernel_rfl) (HCL.out _ hM) (trivial) (fun hF0 hG0 => ?_)
    (refine wpAnyK_loadL Keep2.refl (i := 0) (v := ?_) rfl (Keep2.left (i := 0) (by rfl)) (by kernel_rfl) (by kernel_rfl) (by kernel_rfl) (fun _ _ _ h => h) hF0 (by rfl) ?_ ?_; rotate_left 1; focus (intro w hFw; (try dsimp only at hFw); go_split_ands; go_simp; try with_reducible rfl))
    try simp only [Act.put, List.setIfInBounds_toArray, List.set_cons_zero, List.set_cons_succ]
    (refine wpAnyK_takeL Keep2.refl (i := 2) (v := ?_) rfl (by kernel_rfl) (by kernel_rfl) (by kernel_rfl) (fun _ _ _ h => h) (by rfl) ?_ ?_; rotate_left 1; focus (intro w; go_simp; try with_reducible rfl))
    try simp only [Act.put, List.setIfInBounds_toArray, List.set_cons_zero, List.set_cons_succ]
    (refine wpAnyK_loadL Keep2.refl (i := 3) (v := ?_) rfl (Keep2.left (i := 3) (by rfl)) (by kernel_rfl) (by kernel_rfl) (by kernel_rfl) (fun _ _ _ h => h) hF0 (by rfl) ?_ ?_; rotate_left 1; focus (intro w hFw; (try dsimp only at hFw); go_split_ands; go_simp; try with_reducible rfl))
    try simp only [Act.put, List.setIfInBounds_toArray, List.set_cons_zero, List.set_cons_succ]
    (refine wpAnyK_takeL Keep2.refl (i := 4) (v := ?_) rfl (by kernel_rfl) (by kernel_rfl) (by kernel_rfl) (fun _ _ _ h => h) (by rfl) ?_ ?_; rotate_left 1; focus (intro w; go_simp; try with_reducible rfl))
    try simp only [Act.put, List.setIfInBounds_toArray, List.set_cons_zero, List.set_cons_succ]
    (refine wpAnyK_takeL Keep2.refl (i := 5) (v := ?_) rfl (by kernel_rfl) (by kernel_rfl) (by kernel_rfl) (fun _ _ _ h => h) (by rfl) ?_ ?_; rotate_left 1; focus (intro w; go_simp; try with_reducible rfl))
    try simp only [Act.put, List.setIfInBounds_toArray, List.set_cons_zero, List.set_cons_succ]
    refine wpAnyK_all (rs := [1, 6]) (by kernel_rfl) (by simp) ?_
    refine List.forall_mem_cons.2 ⟨?_, List.forall_mem_cons.2 ⟨?_, fun _ h => absurd h List.not_mem_nil⟩⟩
    · refine wpOp_of rfl (by rfl) (fun K hK => ?_)
      go_simp
      (refine (begin_any Ab Am nb cb nm cm b1 bs _ (HL1.out.b.old hM) hnb8).mono ?_; rintro e w1 ⟨rfl, hB1⟩; (try have hG := hG.old hB1); have hM := hM.trans (hB1.mono hM.size); clear hB1)
      (refine hK _ _ ⟨⟨fun _ _ => HCL.out _ hM, fun h => absurd h (by decide)⟩, ?_⟩; clear hK K)
      (refine wpAnyK_with (F := fun W => W.cell? ⟨w.heap.size, 0, none⟩ = some (.slice Ab nb cb) ∧ W.cell? ⟨w.heap.size, 1, none⟩ = some (.slice Am nm cm)) (HCL.out _ hM) (fun hF1 => ?_); clear hF0)
      try simp only [Act.put, List.setIfInBounds_toArray, List.set_cons_zero, List.set_cons_succ]
      refine wpAnyK_step (i := 6) rfl (by kernel_rfl) (by rfl) (fun K hK => ?_)
      go_simp
      (have hG := AmN.new hM; have hM := hM.alloc hM.size (.cells (amA fun _ => 0) 120))
      (refine hK _ _ (⟨fun _ _ => HCL.out _ hM, fun h => absurd h (by decide)⟩) ?_; clear hK K)
      (refine wpAnyK_with (F := fun W => W.cell? ⟨w.heap.size, 0, none⟩ = some (.slice Ab nb cb) ∧ W.cell? ⟨w.heap.size, 1, none⟩ = some (.slice Am nm cm)) (HCL.out _ hM) (fun hF2 => ?_); clear hF1)
      try simp only [Act.put, List.setIfInBounds_toArray, List.set_cons_zero, List.set_cons_succ]
      refine wpAnyK_step (i := 7) rfl (by kernel_rfl) (by rfl) (fun K hK => ?_)
      (refine wp_store_row 120 (.tmp 3) (.tmp 27) rfl _ (amA (bsF bs)) rfl rfl 120 _ hG.b info_am rfl (amA_cells _) ?_; have hM := hG.low hM (amA (bsF bs)); have hG := hG.put (bsF bs))
      (refine hK _ _ (⟨fun _ _ => HCL.out _ hM, fun h => absurd h (by decide)⟩) ?_; clear hK K)
      (refine wpAnyK_with (F := fun W => W.cell? ⟨w.heap.size, 0, none⟩ = some (.slice Ab nb cb) ∧ W.cell? ⟨w.heap.size, 1, none⟩ = some (.slice Am nm cm)) (HCL.out _ hM) (fun hF3 => ?_); clear hF2)
      try simp only [Act.put, List.setIfInBounds_toArray, List.set_cons_zero, List.set_cons_succ]
      (refine wpAnyK_takeL Keep2.refl (i := 8) (v := ?_) rfl (by kernel_rfl) (by kernel_rfl) (by kernel_rfl) (fun _ _ _ h => h) (by rfl) ?_ ?_; rotate_left 1; focus (intro w; go_simp; try with_reducible rfl))
      try simp only [Act.put, List.setIfInBounds_toArray, List.set_cons_zero, List.set_cons_succ]
      refine wpAnyK_done (by kernel_rfl) ?_ _
      go_wp2_with fail
      go_meet
      exact ⟨_, rfl, rfl, ⟨hG.b, HBQ.out.trans (hM.mono (by omega)), trivial, by simp, by have := hG.lo; omega⟩, hM, hG.lo⟩
    · refine wpOp_of rfl (by rfl) (fun K hK => ?_)
      go_simp
      (have hG := AmN.new hM; have hM := hM.alloc hM.size (.cells (amA fun _ => 0) 120))
      (refine hK _ _ ⟨⟨fun _ _ => HCL.out _ hM, fun h => absurd h (by decide)⟩, ?_⟩; clear hK K)
      (refine wpAnyK_with (F := fun W => W.cell? ⟨w.heap.size, 0, none⟩ = some (.slice Ab nb cb) ∧ W.cell? ⟨w.heap.size, 1, none⟩ = some (.slice Am nm cm)) (HCL.out _ hM) (fun hF4 => ?_); clear hF0)
      try simp only [Act.put, List.setIfInBounds_toArray, List.set_cons_zero, List.set_cons_succ]
      refine wpAnyK_step (i := 1) rfl (by kernel_rfl) (by rfl) (fun K hK => ?_)
      go_simp
      (refine (begin_any Ab Am nb cb nm cm b1 bs _ (HL1.out.b.old hM) hnb8).mono ?_; rintro e w1 ⟨rfl, hB1⟩; (try have hG := hG.old hB1); have hM := hM.trans (hB1.mono hM.size); clear hB1)
      (refine hK _ _ (⟨fun _ _ => HCL.out _ hM, fun h => absurd h (by decide)⟩) ?_; clear hK K)
      (refine wpAnyK_with (F := fun W => W.cell? ⟨w.heap.size, 0, none⟩ = some (.slice Ab nb cb) ∧ W.cell? ⟨w.heap.size, 1, none⟩ = some (.slice Am nm cm)) (HCL.out _ hM) (fun hF5 => ?_); clear hF4)
      try simp only [Act.put, List.setIfInBounds_toArray, List.set_cons_zero, List.set_cons_succ]
      refine wpAnyK_step (i := 7) rfl (by kernel_rfl) (by rfl) (fun K hK => ?_)
      (refine wp_store_row 120 (.tmp 3) (.tmp 27) rfl _ (amA (bsF bs)) rfl rfl 120 _ hG.b info_am rfl (amA_cells _) ?_; have hM := hG.low hM (amA (bsF bs)); have hG := hG.put (bsF bs))
      (refine hK _ _ (⟨fun _ _ => HCL.out _ hM, fun h => absurd h (by decide)⟩) ?_; clear hK K)
      (refine wpAnyK_with (F := fun W => W.cell? ⟨w.heap.size, 0, none⟩ = some (.slice Ab nb cb) ∧ W.cell? ⟨w.heap.size, 1, none⟩ = some (.slice Am nm cm)) (HCL.out _ hM) (fun hF6 => ?_); clear hF5)
      try simp only [Act.put, List.setIfInBounds_toArray, List.set_cons_zero, List.set_cons_succ]
      (refine wpAnyK_takeL Keep2.refl (i := 8) (v := ?_) rfl (by kernel_rfl) (by kernel_rfl) (by kernel_rfl) (fun _ _ _ h => h) (by rfl) ?_ ?_; rotate_left 1; focus (intro w; go_simp; try with_reducible rfl))
      try simp only [Act.put, List.setIfInBounds_toArray, List.set_cons_zero, List.set_cons_succ]
      refine wpAnyK_done (by kernel_rfl) ?_ _
      go_wp2_with fail
      go_meet
      exact ⟨_, rfl, rfl, ⟨hG.b, HBQ.out.trans (hM.mono (by omega)), trivial, by simp, by have := hG.lo; omega⟩, hM, hG.lo⟩
  case rest =>
    obtain ⟨Ba, rfl, rfl, hS, hVB, hVBa⟩ := hcut
    have HS := Lib.hid hS
    have HVB := Lib.hid hVB
    clear hS hVB
    have c1 := (HB1.out.below HVB.out HB1.out.lt).cell 1
    have HMV := Lib.hid (HL1.out.m.old HVB.out)
    go_wp2_with fail
    go_loopw [35] (fun i wr => ∃ k : Nat, k ≤ nm ∧ i = .int .i64 k ∧ ChkSt bs ms w Ba k wr ∧ Below V.heap.size V wr) (fun i _ => nm - (intOf i).toNat)
    case atStart => exact ⟨0, Nat.zero_le _, rfl, HS.out, HVB.out⟩
    case round =>
      obtain ⟨k, hk, rfl, hS, hVB⟩ := hrel
      have HS := Lib.hid hS
      have HVB := Lib.hid hVB
      clear hS hVB
      by_cases hlt : k < nm
      · have hkm : k < ms.length := by have := HNM.out; omega
        obtain ⟨o, rfl, hbz, s0, s1, s2⟩ := (HL1.out.m.old HVB.out).atM hkm
        have HD := Lib.hid (show chkNet bs ms = chkMs bs.length (hasAt (bsF bs) (ms.take k)) (ms[k] :: ms.drop (k + 1)) by rw [HCH.out, chkMs_drop k HS.out.ok HS.out.g, List.getElem_cons_drop])
        have HTK := Lib.hid (List.take_succ_eq_append_getElem hkm)
        obtain ⟨mf, mt, mg, hmk⟩ : ∃ a b c, ms[k] = Mv.mk a b c := ⟨_, _, _, rfl⟩
        rw [hmk] at s0 s1 s2 HD HTK
        dsimp only at s0 s1 s2
        clear hmk
        have hX := Blk.new wr 70 #[.int .i64 mf, .int .i64 mt, .int .i64 mg]
        have m0 := hX.cell 0
        have m1 := hX.cell 1
        have m2 := hX.cell 2
        have HX := Lib.hid hX
        have hbX : Below w.heap.size w (wr.alloc (.cells #[.int .i64 mf, .int .i64 mt, .int .i64 mg] 70)) := HS.out.b.alloc HS.out.b.size _
        have HBX := Lib.hid hbX
        clear hX hbX
        by_cases hf : 0 ≤ mf ∧ mf ≤ (nb : Int) - 1
        · by_cases ht : 0 ≤ mt ∧ mt ≤ (nb : Int) - 1
          · have HIN := Lib.hid (show ¬ ¬ (inR bs.length mf = true ∧ inR bs.length mt = true) by rw [inR_iff, inR_iff]; have := HNB.out; omega)
            go_upto_region 14 with (go_at_call 37; with_reducible refine (tin_t mf 0 ((nb : Int) - 1) hf _).mono ?_; rintro e w' ⟨rfl, rfl⟩)
            go_upto_region 16 with (go_at_call 37; with_reducible refine (tin_t mt 0 ((nb : Int) - 1) ht _).mono ?_; rintro e w' ⟨rfl, rfl⟩)
            by_cases hne : mf = mt
            · have HE := Lib.hid (show (2 : Int) = chkNet bs ms by
                rw [HD.out]; simp only [chkMs]; rw [if_neg HIN.out, if_pos hne])
              have hbt : (mf == mt) = true := by simp [hne]
              clear hne
              go_wp2_with fail
              go_ret
              exact ⟨ret_int HE.out, HBX.out⟩
            · have hbt : (mf == mt) = false := by simp [hne]
              have HNE := Lib.hid hne
              clear hne
              go_upto_region 18 with fail
              by_cases hg : 1 ≤ mg ∧ mg ≤ 8000000
              · go_upto_region 20 with (go_at_call 37; with_reducible refine (tin_t mg 1 8000000 hg _).mono ?_; rintro e w' ⟨rfl, rfl⟩)
                obtain ⟨f, rfl⟩ := Int.eq_ofNat_of_zero_le hf.1
                obtain ⟨t, rfl⟩ := Int.eq_ofNat_of_zero_le ht.1
                have ht8 : t < 8 := by have := ht.2; omega
                have hf8 : f < 8 := by have := hf.2; omega
                obtain ⟨x, hx⟩ : ∃ x, x = hasAt (bsF bs) (ms.take k) (f : Int) := ⟨_, rfl⟩
                have hsz : Ba < wr.heap.size := HS.out.a.lt
                have ax : (wr.alloc (.cells #[.int .i64 (f : Int), .int .i64 (t : Int), .int .i64 mg] 70)).cell? ⟨Ba, f, none⟩ = some (.int .i64 x) := by
                  have := (HS.out.a.alloc (.cells #[.int .i64 (f : Int), .int .i64 (t : Int), .int .i64 mg] 70)).cell f
                  rw [this, amA_get _ f hf8, hx]
                have hf0 : (0 : Int) ≤ (f : Int) := by omega
                have hf9 : (f : Int) < 8 := by omega
                have HX0 := Lib.hid hx
                clear hx
                refine wp_region_PL [1, 3, 5] (fun w' => w'.cell? ⟨wr.heap.size, 0, none⟩ = some (.int .i64 (f : Int)) ∧ w'.cell? ⟨wr.heap.size, 2, none⟩ = some (.int .i64 mg) ∧ w'.cell? ⟨Ba, f, none⟩ = some (.int .i64 x)) rfl (by kernel_rfl) (⟨m0, m2, ax⟩) (fun hF0 => ?_)
                (refine wpAnyP_takeL (i := 0) (v := ?_) rfl (by kernel_rfl) (by kernel_rfl) (by kernel_rfl) (fun _ _ _ h => h) (by rfl) ?_ ?_; rotate_left 1; focus (intro w; go_simp; try with_reducible rfl))
                try simp only [Act.put, List.setIfInBounds_toArray, List.set_cons_zero, List.set_cons_succ]
                (refine wpAnyP_loadL (i := 1) (v := ?_) rfl (by kernel_rfl) (by kernel_rfl) (by kernel_rfl) (by rfl) (fun _ _ _ h => h) hF0 (by rfl) ?_ ?_; rotate_left 1; focus (intro w hFw; (try dsimp only at hFw); go_split_ands; go_simp; try with_reducible rfl))
                try simp only [Act.put, List.setIfInBounds_toArray, List.set_cons_zero, List.set_cons_succ]
                (refine wpAnyP_takeL (i := 2) (v := ?_) rfl (by kernel_rfl) (by kernel_rfl) (by kernel_rfl) (fun _ _ _ h => h) (by rfl) ?_ ?_; rotate_left 1; focus (intro w; go_simp; try with_reducible rfl))
                try simp only [Act.put, List.setIfInBounds_toArray, List.set_cons_zero, List.set_cons_succ]
                (refine wpAnyP_loadL (i := 3) (v := ?_) rfl (by kernel_rfl) (by kernel_rfl) (by kernel_rfl) (by rfl) (fun _ _ _ h => h) hF0 (by rfl) ?_ ?_; rotate_left 1; focus (intro w hFw; (try dsimp only at hFw); go_split_ands; go_simp; try with_reducible rfl))
                try simp only [Act.put, List.setIfInBounds_toArray, List.set_cons_zero, List.set_cons_succ]
                (refine wpAnyP_takeL (i := 4) (v := ?_) rfl (by kernel_rfl) (by kernel_rfl) (by kernel_rfl) (fun _ _ _ h => h) (by rfl) ?_ ?_; rotate_left 1; focus (intro w; go_simp; try with_reducible rfl))
                try simp only [Act.put, List.setIfInBounds_toArray, List.set_cons_zero, List.set_cons_succ]
                (refine wpAnyP_loadL (i := 5) (v := ?_) rfl (by kernel_rfl) (by kernel_rfl) (by kernel_rfl) (by rfl) (fun _ _ _ h => h) hF0 (by rfl) ?_ ?_; rotate_left 1; focus (intro w hFw; (try dsimp only at hFw); go_split_ands; go_simp; try with_reducible rfl))
                try simp only [Act.put, List.setIfInBounds_toArray, List.set_cons_zero, List.set_cons_succ]
                (refine wpAnyP_takeL (i := 6) (v := ?_) rfl (by kernel_rfl) (by kernel_rfl) (by kernel_rfl) (fun _ _ _ h => h) (by rfl) ?_ ?_; rotate_left 1; focus (intro w; go_simp; try with_reducible rfl))
                try simp only [Act.put, List.setIfInBounds_toArray, List.set_cons_zero, List.set_cons_succ]
                (refine wpAnyP_takeL (i := 7) (v := ?_) rfl (by kernel_rfl) (by kernel_rfl) (by kernel_rfl) (fun _ _ _ h => h) (by rfl) ?_ ?_; rotate_left 1; focus (intro w; go_simp; try with_reducible rfl))
                try simp only [Act.put, List.setIfInBounds_toArray, List.set_cons_zero, List.set_cons_succ]
                refine wpAnyP_done (by kernel_rfl) ?_ _
                have HXD := Lib.hid (HX.out.drew)
                have HBD := Lib.hid (HBX.out.drew)
                have HAD := Lib.hid ((HS.out.a.alloc (.cells #[.int .i64 (f : Int), .int .i64 (t : Int), .int .i64 mg] 70)).drew)
                by_cases hov : x < mg
                · have HE := Lib.hid (show (13 : Int) = chkNet bs ms by
                    rw [HD.out]; simp only [chkMs]; rw [if_neg HIN.out, if_neg HNE.out, if_neg (fun h => h hg), if_pos (by rw [← HX0.out]; exact hov)])
                  clear ax m0 m1 m2 hF0
                  go_wp2_with fail
                  go_ret
                  exact ⟨ret_int HE.out, HBD.out⟩
                · have hok : OkM bs.length (hasAt (bsF bs) (ms.take k)) ⟨f, t, mg⟩ := okM_any _ _ _ (by have := HNB.out; show 0 ≤ (f : Int) ∧ (f : Int) ≤ _; omega) (by have := HNB.out; show 0 ≤ (t : Int) ∧ (t : Int) ≤ _; omega) HNE.out hg.1 (by show mg ≤ hasAt _ _ (f : Int); rw [← HX0.out]; omega)
                  have hoks : OkMs bs.length (bsF bs) (ms.take k ++ [⟨f, t, mg⟩]) := OkMs.append.2 ⟨HS.out.ok, hok, trivial⟩
                  have HOKS := Lib.hid hoks
                  have hbd : ∀ b, -1000000000000 ≤ hasAt (bsF bs) (ms.take k) b ∧ hasAt (bsF bs) (ms.take k) b ≤ 1000000000000 := fun b => by
                    have hni : NetIn bs (ms.take k) := ⟨by have := HNB.out; omega, by have := HNB.out; omega, HGR.out, by rw [List.length_take]; have := HNM.out; omega, HS.out.ok⟩
                    have := hni.has_bd k b
                    rw [List.take_take, Nat.min_self] at this
                    omega
                  have HBD2 := Lib.hid hbd
                  have m0 := HXD.out.cell 0
                  have m1 := HXD.out.cell 1
                  have m2 := HXD.out.cell 2
                  have hge : mg ≤ x := by omega
                  clear ax hF0 hok hoks hbd hov
                  obtain ⟨hg1, hg2⟩ := hg
                  go_wp2_with (first
                    | (go_at_call 56; with_reducible refine (moved_at (hasAt (bsF bs) (ms.take k)) f t mg _ hf8 ht8 HBD2.out (by omega) (by omega)).mono ?_; rintro e w5 ⟨rfl, hb5⟩; have hA5 := HAD.out.below hb5 HAD.out.lt; have HB5 := Lib.hid hb5; have HA5 := Lib.hid hA5; clear hb5 hA5)
                    | (refine wpList_load_row rfl 120 (.tmp 3) rfl Ba rfl 120 (amA (hasAt (bsF bs) (ms.take k))) (0, 0) _ HAD.out Try.underlying120 rfl info_am ?_)
                    | (refine wpList_store_row rfl 120 (.tmp 3) (.tmp 71) rfl Ba _ rfl rfl 120 _ HA5.out info_am rfl (amA_cells _) ?_))
                  refine ⟨⟨k + 1, by omega, by go_num, ⟨?_, ?_, ?_, ?_, HS.out.lo⟩, ?_⟩, by simp [intOf]; omega⟩
                  · rw [HTK.out, hasAt_snoc]; exact HA5.out.setRow _
                  · exact (HBD.out.trans (HB5.out.mono (by have := HS.out.b.size; simp; omega))).grown (grown_setRow _ _ _) (by have := HS.out.b.size; have := HB5.out.size; simp at this; omega) (fun j e => by cases e; exact HS.out.lo)
                  · rw [HTK.out]; exact HOKS.out
                  · rw [HTK.out]
                    intro m hm
                    rcases List.mem_append.1 hm with h | h
                    · exact HS.out.g m h
                    · simp at h; subst h; exact hg2
                  · exact (((HVB.out.alloc HVB.out.size _).drew).trans (HB5.out.mono (by have := HVB.out.size; simp; omega))).grown (grown_setRow _ _ _) (by have := HVB.out.size; have := HB5.out.size; simp at this; omega) (fun j e => by cases e; exact hVBa)
              · have HE := Lib.hid (show (1 : Int) = chkNet bs ms by
                  rw [HD.out]; simp only [chkMs]; rw [if_neg HIN.out, if_neg HNE.out, if_pos hg])
                go_wp2_with (go_at_call 37; with_reducible refine (tin_f mg 1 8000000 hg _).mono ?_; rintro e w' ⟨rfl, rfl⟩)
                go_ret
                exact ⟨ret_int HE.out, HBX.out⟩
          · have HE := Lib.hid (show (3 : Int) = chkNet bs ms by
              rw [HD.out]; simp only [chkMs]; rw [if_pos (by rw [inR_iff, inR_iff]; have := HNB.out; omega)])
            clear m2
            go_upto_region 14 with (go_at_call 37; with_reducible refine (tin_t mf 0 ((nb : Int) - 1) hf _).mono ?_; rintro e w' ⟨rfl, rfl⟩)
            go_wp2_with (go_at_call 37; with_reducible refine (tin_f mt 0 ((nb : Int) - 1) ht _).mono ?_; rintro e w' ⟨rfl, rfl⟩)
            go_ret
            exact ⟨ret_int HE.out, HBX.out⟩
        · have HE := Lib.hid (show (3 : Int) = chkNet bs ms by
            rw [HD.out]; simp only [chkMs]; rw [if_pos (by rw [inR_iff, inR_iff]; have := HNB.out; omega)])
          go_wp2_with (go_at_call 37; with_reducible refine (tin_f mf 0 ((nb : Int) - 1) hf _).mono ?_; rintro e w' ⟨rfl, rfl⟩)
          go_ret
          exact ⟨ret_int HE.out, HBX.out⟩
      · obtain rfl : k = nm := by omega
        have HE := Lib.hid (show (0 : Int) = chkNet bs ms by
          rw [HCH.out, chkMs_drop k HS.out.ok HS.out.g, List.drop_eq_nil_of_le (by have := HNM.out; omega)]; rfl)
        go_wp2_with fail
        go_ret
        exact ⟨ret_int HE.out, HS.out.b⟩
end Go.Proofs.Ytmoolcpogilgkaa
