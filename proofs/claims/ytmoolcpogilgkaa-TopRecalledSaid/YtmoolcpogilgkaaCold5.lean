/-
  cold.Check, CheckLot and what they call, of what may be: no error.
-/
import Derived.Test.YtmoolcpogilgkaaCold3
import Derived.Deep.QuietTactic
import Derived.Deep.CutRange
set_option linter.unusedVariables false
set_option linter.unusedSimpArgs false
namespace Go.Proofs.Ytmoolcpogilgkaa
open Go.RowKit

theorem cin_t (n lo hi : Int) (h : lo ≤ n ∧ n ≤ hi) (w : World) : Calls Try.prog 31 #[.int .i64 n, .int .i64 lo, .int .i64 hi] w fun e w' => e = .returned (.bool true) ∧ w = w' :=
  (cin_any n lo hi w).mono fun e w' ⟨h1, h2⟩ => ⟨by rw [h1]; simp [inB, h.1, h.2], h2⟩
set_option maxHeartbeats 400000 in
theorem cspan_ok (x y lo hi : Int) (h : lo ≤ x ∧ x ≤ y ∧ y ≤ hi) (w : World) : Calls Try.prog 88 #[.agg #[.int .i64 x, .int .i64 y], .int .i64 lo, .int .i64 hi] w fun e w' => e = .returned (.int .i64 0) ∧ Below w.heap.size w w' := by
  obtain ⟨h1, h2, h3⟩ := h
  have hB := Blk.new w 32 #[.int .i64 x, .int .i64 y]
  have hb : Below w.heap.size w (w.alloc (.cells #[.int .i64 x, .int .i64 y] 32)) := (Below.refl _ w).alloc (Nat.le_refl _) _
  have HB := Lib.hid hb
  have c0 := hB.cell 0
  have c1 := hB.cell 1
  have hd : decide (y < x) = false := by simp; omega
  clear hb hB
  go_enter Try.func88, Try.ntmps88
  go_wp2_with (go_at_call 31; refine (cin_t _ _ _ (by omega) _).mono ?_; rintro e w' ⟨rfl, rfl⟩)
  go_ret
  exact ⟨rfl, HB.out⟩
set_option maxHeartbeats 400000 in
theorem warmth_ok (x y : Int) (h : -300 ≤ x ∧ x ≤ y ∧ y ≤ 400) (w : World) : Calls Try.prog 65 #[.agg #[.int .i64 x, .int .i64 y]] w fun e w' => e = .returned (.int .i64 0) ∧ Below w.heap.size w w' := by
  have hB := Blk.new w 32 #[.int .i64 x, .int .i64 y]
  have hb : Below w.heap.size w (w.alloc (.cells #[.int .i64 x, .int .i64 y] 32)) := (Below.refl _ w).alloc (Nat.le_refl _) _
  have HB := Lib.hid hb
  have c0 := hB.cell 0
  have c1 := hB.cell 1
  clear hb hB
  go_enter Try.func65, Try.ntmps65
  go_wp2_with fail
  refine (cspan_ok x y (-300) 400 h _).mono ?_
  rintro e w1 ⟨rfl, hb1⟩
  have HB1 := Lib.hid (HB.out.trans (hb1.mono HB.out.size))
  clear hb1
  go_wp2_with fail
  go_ret
  exact ⟨rfl, HB1.out⟩
theorem arr4 (v : Value) (n : Nat) (h : n < (#[v, v, v, v] : Array Value).size) : (#[v, v, v, v] : Array Value)[n]'h = v := by
  have h4 : n = 0 ∨ n = 1 ∨ n = 2 ∨ n = 3 := by simp at h; omega
  rcases h4 with rfl | rfl | rfl | rfl <;> rfl
attribute [local go_sem] arr4
def boxA (b : BoxT) : Array Value := #[.int .i64 b.room, .int .i64 b.ilo, .int .i64 b.ihi, .int .i64 b.mlo, .int .i64 b.mhi, .int .i64 b.clo, .int .i64 b.chi, .int .i64 b.wlo, .int .i64 b.whi]
theorem boxCells {w : World} {g : Nat} {b : BoxT} (h : Blk w g 74 (boxA b)) :
    w.cell? ⟨g, 0, none⟩ = some (.int .i64 b.room) ∧ w.cell? ⟨g, 1, none⟩ = some (.int .i64 b.ilo) ∧ w.cell? ⟨g, 2, none⟩ = some (.int .i64 b.ihi) ∧ w.cell? ⟨g, 3, none⟩ = some (.int .i64 b.mlo) ∧ w.cell? ⟨g, 4, none⟩ = some (.int .i64 b.mhi) ∧ w.cell? ⟨g, 5, none⟩ = some (.int .i64 b.clo) ∧ w.cell? ⟨g, 6, none⟩ = some (.int .i64 b.chi) ∧ w.cell? ⟨g, 7, none⟩ = some (.int .i64 b.wlo) ∧ w.cell? ⟨g, 8, none⟩ = some (.int .i64 b.whi) :=
  ⟨h.cell 0, h.cell 1, h.cell 2, h.cell 3, h.cell 4, h.cell 5, h.cell 6, h.cell 7, h.cell 8⟩

set_option maxRecDepth 100000 in
set_option maxHeartbeats 1000000 in
theorem checkBox_ok (b : BoxT) (h : BoxOk b) (w : World) : Calls Try.prog 66 #[.agg (boxA b)] w fun e w' => e = .returned (.int .i64 0) ∧ Below w.heap.size w w' := by
  obtain ⟨r1, r2⟩ := h.r
  obtain ⟨i1, i2, i3⟩ := h.i
  obtain ⟨m1, m2, m3⟩ := h.m
  obtain ⟨k1, k2, k3⟩ := h.c
  obtain ⟨w1, w2, w3⟩ := h.w
  have hcw := h.cw
  have hB := Blk.new w 74 (boxA b)
  have hb : Below w.heap.size w (w.alloc (.cells (boxA b) 74)) := (Below.refl _ w).alloc (Nat.le_refl _) _
  have c0 : (w.alloc (.cells (boxA b) 74)).cell? ⟨w.heap.size, 0, none⟩ = some (.int .i64 b.room) := hB.cell 0
  have HB := Lib.hid hb
  have HK := Lib.hid hB
  clear hb hB
  go_enter Try.func66, Try.ntmps66
  go_wp2_with (go_at_call 31; refine (cin_t _ _ _ (by omega) _).mono ?_; rintro e w' ⟨rfl, rfl⟩)
  obtain ⟨V, hV⟩ : ∃ V, w.alloc (.cells (boxA b) 74) = V := ⟨_, rfl⟩
  rw [hV] at HB HK ⊢
  have HF := Lib.hid (fun (Y : World) (hY : Below V.heap.size V Y) => boxCells (HK.out.below hY HK.out.lt))
  clear hV c0
  refine wp_region_PL [1, 3, 6, 9, 12] (fun w' => w'.cell? ⟨w.heap.size, 0, none⟩ = some (.int .i64 b.room) ∧ w'.cell? ⟨w.heap.size, 1, none⟩ = some (.int .i64 b.ilo) ∧ w'.cell? ⟨w.heap.size, 2, none⟩ = some (.int .i64 b.ihi) ∧ w'.cell? ⟨w.heap.size, 3, none⟩ = some (.int .i64 b.mlo) ∧ w'.cell? ⟨w.heap.size, 4, none⟩ = some (.int .i64 b.mhi) ∧ w'.cell? ⟨w.heap.size, 5, none⟩ = some (.int .i64 b.clo) ∧ w'.cell? ⟨w.heap.size, 6, none⟩ = some (.int .i64 b.chi) ∧ w'.cell? ⟨w.heap.size, 7, none⟩ = some (.int .i64 b.wlo) ∧ w'.cell? ⟨w.heap.size, 8, none⟩ = some (.int .i64 b.whi)) rfl (by kernel_rfl) (HF.out _ (Below.refl _ V).drew) (fun hF0 => ?_)
  (refine wpAnyP_takeL (i := 0) (v := ?_) rfl (by kernel_rfl) (by kernel_rfl) (by kernel_rfl) (fun _ _ _ h => h) (by rfl) ?_ ?_; rotate_left 1; focus (intro w; go_simp; try with_reducible rfl))
  try simp only [Act.put, List.setIfInBounds_toArray, List.set_cons_zero, List.set_cons_succ]
  (refine wpAnyP_loadL (i := 1) (v := ?_) rfl (by kernel_rfl) (by kernel_rfl) (by kernel_rfl) (by rfl) (fun _ _ _ h => h) hF0 (by rfl) ?_ ?_; rotate_left 1; focus (intro w hFw; (try dsimp only at hFw); go_split_ands; go_simp; try with_reducible rfl))
  try simp only [Act.put, List.setIfInBounds_toArray, List.set_cons_zero, List.set_cons_succ]
  (refine wpAnyP_takeL (i := 2) (v := ?_) rfl (by kernel_rfl) (by kernel_rfl) (by kernel_rfl) (fun _ _ _ h => h) (by rfl) ?_ ?_; rotate_left 1; focus (intro w; go_simp; try with_reducible rfl))
  try simp only [Act.put, List.setIfInBounds_toArray, List.set_cons_zero, List.set_cons_succ]
  (refine wpAnyP_loadL (i := 3) (v := ?_) rfl (by kernel_rfl) (by kernel_rfl) (by kernel_rfl) (by rfl) (fun _ _ _ h => h) hF0 (by rfl) ?_ ?_; rotate_left 1; focus (intro w hFw; (try dsimp only at hFw); go_split_ands; go_simp; try with_reducible rfl))
  try simp only [Act.put, List.setIfInBounds_toArray, List.set_cons_zero, List.set_cons_succ]
  (refine wpAnyP_takeL (i := 5) (v := ?_) rfl (by kernel_rfl) (by kernel_rfl) (by kernel_rfl) (fun _ _ _ h => h) (by rfl) ?_ ?_; rotate_left 1; focus (intro w; go_simp; try with_reducible rfl))
  try simp only [Act.put, List.setIfInBounds_toArray, List.set_cons_zero, List.set_cons_succ]
  (refine wpAnyP_loadL (i := 6) (v := ?_) rfl (by kernel_rfl) (by kernel_rfl) (by kernel_rfl) (by rfl) (fun _ _ _ h => h) hF0 (by rfl) ?_ ?_; rotate_left 1; focus (intro w hFw; (try dsimp only at hFw); go_split_ands; go_simp; try with_reducible rfl))
  try simp only [Act.put, List.setIfInBounds_toArray, List.set_cons_zero, List.set_cons_succ]
  (refine wpAnyP_takeL (i := 8) (v := ?_) rfl (by kernel_rfl) (by kernel_rfl) (by kernel_rfl) (fun _ _ _ h => h) (by rfl) ?_ ?_; rotate_left 1; focus (intro w; go_simp; try with_reducible rfl))
  try simp only [Act.put, List.setIfInBounds_toArray, List.set_cons_zero, List.set_cons_succ]
  (refine wpAnyP_loadL (i := 9) (v := ?_) rfl (by kernel_rfl) (by kernel_rfl) (by kernel_rfl) (by rfl) (fun _ _ _ h => h) hF0 (by rfl) ?_ ?_; rotate_left 1; focus (intro w hFw; (try dsimp only at hFw); go_split_ands; go_simp; try with_reducible rfl))
  try simp only [Act.put, List.setIfInBounds_toArray, List.set_cons_zero, List.set_cons_succ]
  (refine wpAnyP_takeL (i := 11) (v := ?_) rfl (by kernel_rfl) (by kernel_rfl) (by kernel_rfl) (fun _ _ _ h => h) (by rfl) ?_ ?_; rotate_left 1; focus (intro w; go_simp; try with_reducible rfl))
  try simp only [Act.put, List.setIfInBounds_toArray, List.set_cons_zero, List.set_cons_succ]
  (refine wpAnyP_loadL (i := 12) (v := ?_) rfl (by kernel_rfl) (by kernel_rfl) (by kernel_rfl) (by rfl) (fun _ _ _ h => h) hF0 (by rfl) ?_ ?_; rotate_left 1; focus (intro w hFw; (try dsimp only at hFw); go_split_ands; go_simp; try with_reducible rfl))
  try simp only [Act.put, List.setIfInBounds_toArray, List.set_cons_zero, List.set_cons_succ]
  (refine wpAnyP_takeL (i := 15) (v := ?_) rfl (by kernel_rfl) (by kernel_rfl) (by kernel_rfl) (fun _ _ _ h => h) (by rfl) ?_ ?_; rotate_left 1; focus (intro w; go_simp; try with_reducible rfl))
  try simp only [Act.put, List.setIfInBounds_toArray, List.set_cons_zero, List.set_cons_succ]
  refine wpAnyP_step (i := 4) rfl (by kernel_rfl) (by rfl) (fun K hK => ?_)
  go_simp
  (refine (cspan_ok b.ilo b.ihi 0 b.room (by omega) _).mono ?_; rintro e w4 ⟨rfl, hb4⟩; have HB4 := Lib.hid ((Below.refl _ V).drew.trans hb4); clear hb4)
  (refine hK _ _ (HF.out _ HB4.out) (fun hF1 => ?_); clear hK K hF0)
  try simp only [Act.put, List.setIfInBounds_toArray, List.set_cons_zero, List.set_cons_succ]
  refine wpAnyP_step (i := 7) rfl (by kernel_rfl) (by rfl) (fun K hK => ?_)
  go_simp
  (refine (cspan_ok b.mlo b.mhi 0 100000 (by omega) _).mono ?_; rintro e w5 ⟨rfl, hb5⟩; have HB5 := Lib.hid (HB4.out.trans (hb5.mono HB4.out.size)); clear hb5)
  (refine hK _ _ (HF.out _ HB5.out) (fun hF2 => ?_); clear hK K hF1)
  try simp only [Act.put, List.setIfInBounds_toArray, List.set_cons_zero, List.set_cons_succ]
  refine wpAnyP_step (i := 10) rfl (by kernel_rfl) (by rfl) (fun K hK => ?_)
  go_simp
  (refine (warmth_ok b.clo b.chi (by omega) _).mono ?_; rintro e w6 ⟨rfl, hb6⟩; have HB6 := Lib.hid (HB5.out.trans (hb6.mono HB5.out.size)); clear hb6)
  (refine hK _ _ (HF.out _ HB6.out) (fun hF3 => ?_); clear hK K hF2)
  try simp only [Act.put, List.setIfInBounds_toArray, List.set_cons_zero, List.set_cons_succ]
  refine wpAnyP_step (i := 13) rfl (by kernel_rfl) (by rfl) (fun K hK => ?_)
  go_simp
  (refine (warmth_ok b.wlo b.whi (by omega) _).mono ?_; rintro e w7 ⟨rfl, hb7⟩; have HB7 := Lib.hid (HB6.out.trans (hb7.mono HB6.out.size)); clear hb7)
  (refine hK _ _ (HF.out _ HB7.out) (fun hF4 => ?_); clear hK K hF3)
  try simp only [Act.put, List.setIfInBounds_toArray, List.set_cons_zero, List.set_cons_succ]
  (refine wpAnyP_takeL (i := 14) (v := ?_) rfl (by kernel_rfl) (by kernel_rfl) (by kernel_rfl) (fun _ _ _ h => h) (by rfl) ?_ ?_; rotate_left 1; focus (intro w; go_simp; try with_reducible rfl))
  try simp only [Act.put, List.setIfInBounds_toArray, List.set_cons_zero, List.set_cons_succ]
  refine wpAnyP_done (by kernel_rfl) ?_ _
  go_wp2_with fail
  go_loopw [24] (fun i wr => ∃ k : Nat, k ≤ 4 ∧ i = .int .i64 k ∧ wr = w7) (fun i _ => 4 - (intOf i).toNat)
  case atStart => exact ⟨0, by omega, rfl, rfl⟩
  case round =>
    obtain ⟨k, hk, rfl, rfl⟩ := hrel
    obtain ⟨d0, d1, d2, d3, d4, d5, d6, d7, d8⟩ := HF.out _ HB7.out
    have hd : decide (b.wlo < b.chi) = false := by simp; omega
    have hk5 : k = 0 ∨ k = 1 ∨ k = 2 ∨ k = 3 ∨ k = 4 := by omega
    rcases hk5 with rfl | rfl | rfl | rfl | rfl
    · go_wp2_with fail
      rename_i K4 aK4
      refine aK4 _ _ ?_
      simp only [arr4, Act.put, List.setIfInBounds_toArray, List.set_cons_zero, List.set_cons_succ]
      go_wp2_with fail
      go_roundw
      case rel => exact ⟨1, by omega, by go_num, by first | rfl | trivial⟩
      case measure => simp [intOf]
    · go_wp2_with fail
      rename_i K4 aK4
      refine aK4 _ _ ?_
      simp only [arr4, Act.put, List.setIfInBounds_toArray, List.set_cons_zero, List.set_cons_succ]
      go_wp2_with fail
      go_roundw
      case rel => exact ⟨2, by omega, by go_num, by first | rfl | trivial⟩
      case measure => simp [intOf]
    · go_wp2_with fail
      rename_i K4 aK4
      refine aK4 _ _ ?_
      simp only [arr4, Act.put, List.setIfInBounds_toArray, List.set_cons_zero, List.set_cons_succ]
      go_wp2_with fail
      go_roundw
      case rel => exact ⟨3, by omega, by go_num, by first | rfl | trivial⟩
      case measure => simp [intOf]
    · go_wp2_with fail
      rename_i K4 aK4
      refine aK4 _ _ ?_
      simp only [arr4, Act.put, List.setIfInBounds_toArray, List.set_cons_zero, List.set_cons_succ]
      go_wp2_with fail
      go_roundw
      case rel => exact ⟨4, by omega, by go_num, by first | rfl | trivial⟩
      case measure => simp [intOf]
    · go_wp2_with fail
      go_ret
      exact ⟨rfl, HB.out.trans (HB7.out.mono HB.out.size)⟩

set_option maxRecDepth 100000 in
set_option maxHeartbeats 1000000 in
theorem checkRates_ok (br nr cr : Nat) (Ar : Option Addr) (l : List RateT) (w : World) (hl : Sl encRt 2 w br Ar nr l) (h1 : 1 ≤ l.length ∧ l.length ≤ 6) (hr : ∀ r ∈ l, RateOk r) (ho : ∀ k, (h : k + 1 < l.length) → l[k].above < l[k + 1].above ∧ l[k].loss ≤ l[k + 1].loss) :
    Calls Try.prog 68 #[.slice Ar nr cr] w fun e w' => e = .returned (.int .i64 0) ∧ Below w.heap.size w w' := by
  have HL := Lib.hid hl
  have HLN := Lib.hid hl.len
  have HR := Lib.hid hr
  have HO := Lib.hid ho
  have hn1 : 1 ≤ nr := by have := hl.len; omega
  have hn6 : nr ≤ 6 := by have := hl.len; omega
  have hz : ((nr : Int) == 0) = false := by rw [beq_eq_false_iff_ne]; omega
  have hz2 : decide ((6 : Int) < (nr : Int)) = false := by simp; omega
  clear hl hr ho h1
  go_enter Try.func68, Try.ntmps68
  go_wp2_with fail
  go_loopw [15] (fun i wr => ∃ k : Nat, k ≤ nr ∧ i = .int .i64 k ∧ Below w.heap.size w wr) (fun i _ => nr - (intOf i).toNat)
  case atStart => exact ⟨0, Nat.zero_le _, rfl, Below.refl _ _⟩
  case round =>
    obtain ⟨k, hk, rfl, hB⟩ := hrel
    have HB := Lib.hid hB
    have hzr := hB.size
    clear hB
    by_cases hlt : k < nr
    · have hkl : k < l.length := by have := HLN.out; omega
      obtain ⟨o, rfl, hbz, s0, s1⟩ := (HL.out.old HB.out).atRt hkl
      have hok := HR.out _ (List.getElem_mem hkl)
      obtain ⟨a1, a2⟩ := hok.a
      obtain ⟨a3, a4⟩ := hok.l
      have HAL := Lib.hid (fun (x : RateT) => HB.out.alloc HB.out.size (.cells #[.int .i64 x.above, .int .i64 x.loss] 78))
      have hlti : decide ((k : Int) < (nr : Int)) = true := by simp; omega
      have ik0 : (0 : Int) ≤ (k : Int) := by omega
      have ik1 : (k : Int) < (nr : Int) := by omega
      by_cases hk0 : k = 0
      · subst hk0
        have hg0 : decide ((0 : Int) < ((0 : Nat) : Int)) = false := rfl
        generalize l[0] = x at s0 s1 a1 a2 a3 a4
        simp only [Nat.zero_mul, Nat.add_zero] at s0 s1
        clear hok
        go_upto_region 11 with (go_at_call 31; refine (cin_t _ _ _ (by omega) _).mono ?_; rintro e w' ⟨rfl, rfl⟩)
        go_quiet (fail)
        go_wp2_with fail
        go_roundw
        case rel => exact ⟨1, by omega, by go_num, below_drewN (HAL.out x) _⟩
        case measure => simp [intOf]; omega
      · obtain ⟨j, rfl⟩ : ∃ j, k = j + 1 := ⟨k - 1, by omega⟩
        have hkm : j < l.length := by omega
        obtain ⟨o2, ho2, _, p0, p1⟩ := (HL.out.old HB.out).atRt hkm
        obtain rfl : o = o2 := by injection ho2 with h; injection h
        have hoo := HO.out j (by omega)
        have hg0 : decide ((0 : Int) < ((j + 1 : Nat) : Int)) = true := by simp
        generalize l[j] = y at p0 p1 hoo
        generalize l[j + 1] = x at s0 s1 a1 a2 a3 a4 hoo
        obtain ⟨q1, q2⟩ := hoo
        have hd1 : decide (x.above ≤ y.above) = false := by simp; omega
        have hd2 : decide (x.loss < y.loss) = false := by simp; omega
        clear hok ho2
        have p0' : (wr.alloc (.cells #[.int .i64 x.above, .int .i64 x.loss] 78)).cell? ⟨br, o + j * 2, none⟩ = some (.int .i64 y.above) := (World.cell?_of_block (w := wr) (a := ⟨br, o + j * 2, none⟩) (heap_alloc_old wr _ hbz)).trans p0
        have p1' : (wr.alloc (.cells #[.int .i64 x.above, .int .i64 x.loss] 78)).cell? ⟨br, o + j * 2 + 1, none⟩ = some (.int .i64 y.loss) := (World.cell?_of_block (w := wr) (a := ⟨br, o + j * 2 + 1, none⟩) (heap_alloc_old wr _ hbz)).trans p1
        have hwk : IntKind.i64.wrap (j : Int) = (j : Int) := IntWalk.i64_in _ (by omega)
        have hi0 : (0 : Int) ≤ (j : Int) := by omega
        have hi1 : (j : Int) < (nr : Int) := by omega
        go_upto_region 11 with (go_at_call 31; refine (cin_t _ _ _ (by omega) _).mono ?_; rintro e w' ⟨rfl, rfl⟩)
        go_quiet (fail)
        go_wp2_with fail
        go_roundw
        case rel => exact ⟨j + 1 + 1, by omega, by go_num, below_drewN (HAL.out x) _⟩
        case measure => simp [intOf]; omega
    · go_wp2_with fail
      go_ret
      exact ⟨rfl, HB.out⟩

set_option maxRecDepth 100000 in
set_option maxHeartbeats 1000000 in
theorem checkFillings_ok (p : CelP) (c : CelT) (w : World) (hc : CelOk c) (hM : CelM w p c) :
    Calls Try.prog 67 #[.agg (celA p c)] w fun e w' => e = .returned (.int .i64 0) ∧ Below w.heap.size w w' := by
  have hB := Blk.new w 37 (celA p c)
  have hb : Below w.heap.size w (w.alloc (.cells (celA p c) 37)) := (Below.refl _ w).alloc (Nat.le_refl _) _
  have HB0 := Lib.hid hb
  have HK := Lib.hid hB
  have HM := Lib.hid hM
  have HC := Lib.hid hc
  have HNF := Lib.hid hM.f.len
  have HNB := Lib.hid hM.b.len
  have hn20 : p.nf ≤ 20 := by have := hM.f.len; have := hc.fn; omega
  have hn6 : p.nb ≤ 6 := by have := hM.b.len; have := hc.bn; omega
  have hz2 : decide ((20 : Int) < (p.nf : Int)) = false := by simp; omega
  have c3 : (w.alloc (.cells (celA p c) 37)).cell? ⟨w.heap.size, 3, none⟩ = some (.slice p.Af p.nf p.cf) := hB.cell 3
  go_enter Try.func67, Try.ntmps67
  go_upto_region 1 with fail
  obtain ⟨V, hV⟩ : ∃ V, w.alloc (.cells (celA p c) 37) = V := ⟨_, rfl⟩
  rw [hV] at HB0 HK c3 ⊢
  clear hb hB hM hc hV
  go_wp2_with fail
  go_loopw [12] (fun i wr => ∃ k : Nat, k ≤ p.nf ∧ i = .int .i64 k ∧ Below V.heap.size V wr) (fun i _ => p.nf - (intOf i).toNat)
  case atStart => exact ⟨0, Nat.zero_le _, rfl, Below.refl _ _⟩
  case round =>
    obtain ⟨k, hk, rfl, hB⟩ := hrel
    have HB := Lib.hid hB
    have HBW := Lib.hid (HB0.out.trans (hB.mono HB0.out.size))
    clear hB c3
    by_cases hlt : k < p.nf
    · have hkl : k < c.fils.length := by have := HNF.out; omega
      obtain ⟨o, ho, hbz, s0, s1, s2⟩ := (HM.out.f.old HBW.out).atFl hkl
      have hok := HC.out.fs _ (List.getElem_mem hkl)
      obtain ⟨a1, a2⟩ := hok.b
      obtain ⟨a3, a4⟩ := hok.h
      obtain ⟨a5, a6⟩ := hok.g
      have HAL := Lib.hid (fun (x : FilT) => HB.out.alloc HB.out.size (.cells #[.int .i64 x.box, .int .i64 x.hour, .int .i64 x.grams] 76))
      have ik0 : (0 : Int) ≤ (k : Int) := by omega
      have ik1 : (k : Int) < (p.nf : Int) := by omega
      have hnb : p.nb = c.boxes.length := HNB.out
      rw [ho]
      by_cases hk0 : k = 0
      · subst hk0
        have hg0 : decide ((0 : Int) < ((0 : Nat) : Int)) = false := rfl
        generalize c.fils[0] = x at s0 s1 s2 a1 a2 a3 a4 a5 a6
        simp only [Nat.zero_mul, Nat.add_zero] at s0 s1 s2
        have hK2 := HK.out.below (HAL.out x) HK.out.lt
        have e2 : (wr.alloc (.cells #[.int .i64 x.box, .int .i64 x.hour, .int .i64 x.grams] 76)).cell? ⟨w.heap.size, 2, none⟩ = some (.slice p.Ab p.nb p.cb) := hK2.cell 2
        have e3 : (wr.alloc (.cells #[.int .i64 x.box, .int .i64 x.hour, .int .i64 x.grams] 76)).cell? ⟨w.heap.size, 3, none⟩ = some (.slice p.Af p.nf p.cf) := hK2.cell 3
        rw [ho] at e3
        clear hok hK2 ho
        go_upto_region 11 with (go_at_call 31; refine (cin_t _ _ _ (by omega) _).mono ?_; rintro e w' ⟨rfl, rfl⟩)
        go_quiet (fail)
        go_wp2_with fail
        go_roundw
        case rel => exact ⟨1, by omega, by go_num, below_drewN (HAL.out x) _⟩
        case measure => simp [intOf]; omega
      · obtain ⟨j, rfl⟩ : ∃ j, k = j + 1 := ⟨k - 1, by omega⟩
        have hkm : j < c.fils.length := by omega
        obtain ⟨o2, ho2, _, p0, p1, p2⟩ := (HM.out.f.old HBW.out).atFl hkm
        obtain rfl : o = o2 := by rw [ho] at ho2; injection ho2 with h; injection h
        have hoo := HC.out.fo j (by omega)
        have hg0 : decide ((0 : Int) < ((j + 1 : Nat) : Int)) = true := by simp
        generalize c.fils[j] = y at p0 p1 p2 hoo
        generalize c.fils[j + 1] = x at s0 s1 s2 a1 a2 a3 a4 a5 a6 hoo
        have hd1 : decide (x.hour < y.hour) = false := by simp; omega
        have hK2 := HK.out.below (HAL.out x) HK.out.lt
        have e2 : (wr.alloc (.cells #[.int .i64 x.box, .int .i64 x.hour, .int .i64 x.grams] 76)).cell? ⟨w.heap.size, 2, none⟩ = some (.slice p.Ab p.nb p.cb) := hK2.cell 2
        have e3 : (wr.alloc (.cells #[.int .i64 x.box, .int .i64 x.hour, .int .i64 x.grams] 76)).cell? ⟨w.heap.size, 3, none⟩ = some (.slice p.Af p.nf p.cf) := hK2.cell 3
        rw [ho] at e3
        have p1' : (wr.alloc (.cells #[.int .i64 x.box, .int .i64 x.hour, .int .i64 x.grams] 76)).cell? ⟨p.bf, o + j * 3 + 1, none⟩ = some (.int .i64 y.hour) := (World.cell?_of_block (w := wr) (a := ⟨p.bf, o + j * 3 + 1, none⟩) (heap_alloc_old wr _ hbz)).trans p1
        have hwk : IntKind.i64.wrap (j : Int) = (j : Int) := IntWalk.i64_in _ (by omega)
        have hi0 : (0 : Int) ≤ (j : Int) := by omega
        have hi1 : (j : Int) < (p.nf : Int) := by omega
        clear hok hK2 ho ho2 p0 p1 p2
        go_upto_region 11 with (go_at_call 31; refine (cin_t _ _ _ (by omega) _).mono ?_; rintro e w' ⟨rfl, rfl⟩)
        go_quiet (fail)
        go_wp2_with fail
        go_roundw
        case rel => exact ⟨j + 1 + 1, by omega, by go_num, below_drewN (HAL.out x) _⟩
        case measure => simp [intOf]; omega
    · go_wp2_with fail
      go_ret
      exact ⟨rfl, HBW.out⟩

set_option maxRecDepth 100000 in
set_option maxHeartbeats 1000000 in
theorem check_ok_c (p : CelP) (c : CelT) (w : World) (hc : CelOk c) (hM : CelM w p c) :
    Calls Try.prog 43 #[.agg (celA p c)] w fun e w' => e = .returned (.int .i64 0) ∧ Below w.heap.size w w' := by
  have hB := Blk.new w 37 (celA p c)
  have hb : Below w.heap.size w (w.alloc (.cells (celA p c) 37)) := (Below.refl _ w).alloc (Nat.le_refl _) _
  have HB0 := Lib.hid hb
  have HK := Lib.hid hB
  have HM := Lib.hid hM
  have HC := Lib.hid hc
  have HNB := Lib.hid hM.b.len
  have hn6 : p.nb ≤ 6 := by have := hM.b.len; have := hc.bn; omega
  have hz2 : decide ((6 : Int) < (p.nb : Int)) = false := by simp; omega
  go_enter Try.func43, Try.ntmps43
  go_upto_region 1 with fail
  obtain ⟨V, hV⟩ : ∃ V, w.alloc (.cells (celA p c) 37) = V := ⟨_, rfl⟩
  rw [hV] at HB0 HK ⊢
  have d0 : V.cell? ⟨w.heap.size, 0, none⟩ = some (.int .i64 c.hlo) := HK.out.cell 0
  have d1 : V.cell? ⟨w.heap.size, 1, none⟩ = some (.int .i64 c.hhi) := HK.out.cell 1
  clear hb hB hM hc hV
  go_wp2_with fail
  refine (warmth_ok c.hlo c.hhi HC.out.hall _).mono ?_
  rintro e w1 ⟨rfl, hb1⟩
  have HB1 := Lib.hid hb1
  have e2 : w1.cell? ⟨w.heap.size, 2, none⟩ = some (.slice p.Ab p.nb p.cb) := (HK.out.below hb1 HK.out.lt).cell 2
  clear hb1 d0 d1
  go_wp2_with fail
  clear e2
  go_loopw [21] (fun i wr => ∃ k : Nat, k ≤ p.nb ∧ i = .int .i64 k ∧ Below V.heap.size V wr) (fun i _ => p.nb - (intOf i).toNat)
  case atStart => exact ⟨0, Nat.zero_le _, rfl, HB1.out⟩
  case round =>
    obtain ⟨k, hk, rfl, hB⟩ := hrel
    have HB := Lib.hid hB
    have HBW := Lib.hid (HB0.out.trans (hB.mono HB0.out.size))
    clear hB
    by_cases hlt : k < p.nb
    · have hkl : k < c.boxes.length := by have := HNB.out; omega
      obtain ⟨o, ho, hbz, hx9⟩ := (HM.out.b.old HBW.out).atBx hkl
      have hok := HC.out.bs _ (List.getElem_mem hkl)
      generalize c.boxes[k] = b at hx9 hok
      have x0 : wr.cell? ⟨p.bb, o + k * 9, none⟩ = some (.int .i64 b.room) := by simpa using hx9 0 _ rfl
      have x1 := hx9 1 _ rfl
      have x2 := hx9 2 _ rfl
      have x3 := hx9 3 _ rfl
      have x4 := hx9 4 _ rfl
      have x5 := hx9 5 _ rfl
      have x6 := hx9 6 _ rfl
      have x7 := hx9 7 _ rfl
      have x8 := hx9 8 _ rfl
      have HOK := Lib.hid hok
      have HA := Lib.hid (HB.out.alloc HB.out.size (.cells (boxA b) 74))
      have ik0 : (0 : Int) ≤ (k : Int) := by omega
      have ik1 : (k : Int) < (p.nb : Int) := by omega
      rw [ho]
      clear ho hx9 hok
      go_wp2_with fail
      refine (checkBox_ok b HOK.out _).mono ?_
      rintro e w2 ⟨rfl, hb2⟩
      have HB2 := Lib.hid (HA.out.trans (hb2.mono HA.out.size))
      clear hb2 x0 x1 x2 x3 x4 x5 x6 x7 x8
      go_wp2_with fail
      go_roundw
      case rel => exact ⟨k + 1, by omega, by go_num, HB2.out⟩
      case measure => simp [intOf]; omega
    · have hK2 := HK.out.below HB.out HK.out.lt
      have e0 : wr.cell? ⟨w.heap.size, 0, none⟩ = some (.int .i64 c.hlo) := hK2.cell 0
      have e1 : wr.cell? ⟨w.heap.size, 1, none⟩ = some (.int .i64 c.hhi) := hK2.cell 1
      have e2 : wr.cell? ⟨w.heap.size, 2, none⟩ = some (.slice p.Ab p.nb p.cb) := hK2.cell 2
      have e3 : wr.cell? ⟨w.heap.size, 3, none⟩ = some (.slice p.Af p.nf p.cf) := hK2.cell 3
      have e4 : wr.cell? ⟨w.heap.size, 4, none⟩ = some (.slice p.Ar p.nr p.cr) := hK2.cell 4
      clear hK2
      go_wp2_with fail
      refine (checkFillings_ok p c _ HC.out (HM.out.old HBW.out)).mono ?_
      rintro e w2 ⟨rfl, hb2⟩
      have HB2 := Lib.hid (HB.out.trans (hb2.mono HB.out.size))
      have HBW2 := Lib.hid (HBW.out.trans (hb2.mono HBW.out.size))
      have f4 : w2.cell? ⟨w.heap.size, 4, none⟩ = some (.slice p.Ar p.nr p.cr) := (HK.out.below HB2.out HK.out.lt).cell 4
      clear hb2 e0 e1 e2 e3 e4
      go_wp2_with fail
      refine (checkRates_ok p.br p.nr p.cr p.Ar c.rates _ (HM.out.r.old HBW2.out) HC.out.rn HC.out.rs HC.out.ro).mono ?_
      rintro e w3 ⟨rfl, hb3⟩
      have HBW3 := Lib.hid (HBW2.out.trans (hb3.mono HBW2.out.size))
      clear hb3
      go_wp2_with fail
      go_ret
      exact ⟨rfl, HBW3.out⟩
end Go.Proofs.Ytmoolcpogilgkaa
