/-
  Tells and Apart of the reference: whether samples tell all suspects apart. Choices of the reference: all lists of so many numbers, in order.
-/
import Derived.Test.YtkphgdkjjklajaaTrLaw
import Derived.Deep.AppendLies
import Derived.Deep.QuietTactic
import Derived.BigQuiet
set_option linter.unusedVariables false
set_option linter.unusedSimpArgs false
namespace Go.Proofs.Ytkphgdkjjklajaa
open Go.RowKit Go.Shelf Go.Sort

/-- a slice's head, as a cell -/
structure SlE (α : Type) where
  A : Option Addr
  n : Nat
  c : Nat
  b : Nat
  l : List α
def encE {α : Type} (x : SlE α) : List Value := [.slice x.A x.n x.c]
theorem encE_len {α : Type} (x : SlE α) : (encE x).length = 1 := rfl
theorem oneE {α : Type} (x : SlE α) : ∀ u ∈ encE x, u.oneCell' = true := by simp [encE, Value.oneCell']
theorem Sl.atE {α : Type} {w : World} {b n : Nat} {A : Option Addr} {l : List (SlE α)} (h : Sl encE 1 w b A n l) {k : Nat} (hk : k < l.length) :
    ∃ o, A = some ⟨b, o, none⟩ ∧ b < w.heap.size ∧ w.cell? ⟨b, o + k, none⟩ = some (.slice l[k].A l[k].n l[k].c) := by
  obtain ⟨o, h1, h2, h3⟩ := h.at_ hk
  exact ⟨o, h1, h2, by have := h3 0 _ rfl; simpa using this⟩

set_option maxHeartbeats 2000000 in
theorem rtells_any (x y : Span) (w : World) : Calls Try.prog 64 #[.agg #[.int .i64 x.lo, .int .i64 x.hi], .agg #[.int .i64 y.lo, .int .i64 y.hi]] w fun e w' => e = .returned (.bool (tellsT x y)) ∧ Below w.heap.size w w' := by
  have HR : tellsT x y = ((decide (0 < x.lo) && (y.hi == 0)) || (decide (0 < y.lo) && (x.hi == 0))) := by unfold tellsT; rw [Bool.eq_iff_iff]; simp
  have hb0 := (Blk.new w 48 #[.int .i64 x.lo, .int .i64 x.hi]).alloc (.cells #[.int .i64 y.lo, .int .i64 y.hi] 48)
  have hb1 := Blk.new (w.alloc (.cells #[.int .i64 x.lo, .int .i64 x.hi] 48)) 48 #[.int .i64 y.lo, .int .i64 y.hi]
  rw [World.size_alloc] at hb1
  have HV := Lib.hid (((Below.refl _ w).alloc (Nat.le_refl _) (.cells #[.int .i64 x.lo, .int .i64 x.hi] 48)).alloc (by simp) (.cells #[.int .i64 y.lo, .int .i64 y.hi] 48))
  have p0 := hb0.cell 0
  have p1 := hb0.cell 1
  have q0 := hb1.cell 0
  have q1 := hb1.cell 1
  have HR := Lib.hid HR
  clear hb0 hb1
  go_enter Try.func64, Try.ntmps64
  cases hb1 : decide (0 < x.lo)
  · cases hb3 : decide (0 < y.lo)
    · rw [hb1, hb3] at HR
      go_wp2_with fail
      go_ret
      exact ⟨by rw [HR.out]; rfl, HV.out⟩
    · cases hb4 : (x.hi == 0)
      all_goals
        rw [hb1, hb3, hb4] at HR
        go_wp2_with fail
        go_ret
        exact ⟨by rw [HR.out]; rfl, HV.out⟩
  · cases hb2 : (y.hi == 0)
    · cases hb3 : decide (0 < y.lo)
      · rw [hb1, hb2, hb3] at HR
        go_wp2_with fail
        go_ret
        exact ⟨by rw [HR.out]; rfl, HV.out⟩
      · cases hb4 : (x.hi == 0)
        all_goals
          rw [hb1, hb2, hb3, hb4] at HR
          go_wp2_with fail
          go_ret
          exact ⟨by rw [HR.out]; rfl, HV.out⟩
    · rw [hb1, hb2] at HR
      go_wp2_with fail
      go_ret
      exact ⟨by rw [HR.out]; rfl, HV.out⟩

def tellK (ks : List (List Span)) (xs : List Int) (i k : Nat) : Bool := xs.any fun b => tellsT (spanAt (ks.getD i []) b) (spanAt (ks.getD k []) b)
theorem apartK_yes {ks : List (List Span)} {xs : List Int} (h : ∀ i, i < ks.length → ∀ k, k < i → tellK ks xs i k = true) : apartT ks xs = true := by
  unfold apartT
  rw [List.all_eq_true]
  intro i hi
  rw [List.all_eq_true]
  intro k hk
  exact h i (List.mem_range.1 hi) k (List.mem_range.1 hk)
theorem apartK_no {ks : List (List Span)} {xs : List Int} {i k : Nat} (hi : i < ks.length) (hk : k < i) (h : tellK ks xs i k = false) : apartT ks xs = false := by
  cases h2 : apartT ks xs with
  | false => rfl
  | true =>
    unfold apartT at h2
    rw [List.all_eq_true] at h2
    have h3 := h2 i (List.mem_range.2 hi)
    rw [List.all_eq_true] at h3
    have h4 := h3 k (List.mem_range.2 hk)
    unfold tellK at h
    rw [h4] at h
    cases h
theorem tellK_snoc {ks : List (List Span)} {xs : List Int} {i k j : Nat} (hj : j < xs.length) : tellK ks (xs.take (j + 1)) i k = (tellK ks (xs.take j) i k || tellsT (spanAt (ks.getD i []) xs[j]) (spanAt (ks.getD k []) xs[j])) := by
  unfold tellK
  rw [List.take_succ_eq_append_getElem hj, List.any_append]
  simp
/-- what is known of suspects, as it lies -/
structure KnownAt (W : World) (b n nb : Nat) (A : Option Addr) (ks : List (SlE Span)) : Prop where
  row : Sl encE 1 W b A n ks
  each : ∀ x ∈ ks, Sl encR 2 W x.b x.A x.n x.l ∧ x.n = nb
theorem KnownAt.old {W W' : World} {b n nb : Nat} {A : Option Addr} {ks : List (SlE Span)} (h : KnownAt W b n nb A ks) (hb : Below W.heap.size W W') : KnownAt W' b n nb A ks := ⟨h.row.old hb, fun x hx => ⟨(h.each x hx).1.old hb, (h.each x hx).2⟩⟩
theorem KnownAt.at_ {W : World} {b n nb : Nat} {A : Option Addr} {ks : List (SlE Span)} (h : KnownAt W b n nb A ks) {i k : Nat} (hi : i < ks.length) (hk : k < nb) :
    ∃ o ox cx bx X, A = some ⟨b, o, none⟩ ∧ X = spanAt ((ks.map (·.l)).getD i []) k ∧ b < W.heap.size ∧ bx < W.heap.size ∧ W.cell? ⟨b, o + i, none⟩ = some (.slice (some ⟨bx, ox, none⟩) nb cx) ∧ W.cell? ⟨bx, ox + k * 2, none⟩ = some (.int .i64 X.lo) ∧ W.cell? ⟨bx, ox + k * 2 + 1, none⟩ = some (.int .i64 X.hi) := by
  obtain ⟨o, rfl, h2, h3⟩ := h.row.atE hi
  obtain ⟨h4, h5⟩ := h.each ks[i] (List.getElem_mem hi)
  have hl := h4.len
  obtain ⟨ox, hA, h6, h7, h8⟩ := h4.atR (k := k) (by omega)
  have e : spanAt ((ks.map (·.l)).getD i []) k = (ks[i].l)[k]'(by omega) := by
    unfold spanAt
    have : (ks.map (·.l)).getD i [] = ks[i].l := by simp [List.getD_eq_getElem?_getD, hi]
    rw [this, Int.toNat_natCast, List.getD_eq_getElem?_getD, List.getElem?_eq_getElem (by omega)]; rfl
  rw [hA, h5] at h3
  exact ⟨o, ox, ks[i].c, ks[i].b, _, rfl, rfl, h2, h6, h3, by rw [e]; exact h7, by rw [e]; exact h8⟩

set_option maxRecDepth 100000 in
set_option maxHeartbeats 4000000 in
theorem rapart_any (b n c nb b2 m c2 : Nat) (A A2 : Option Addr) (ks : List (SlE Span)) (xs : List Int) (w : World) (hK : KnownAt w b n nb A ks) (hx : Sl encI 1 w b2 A2 m xs) (hn : n ≤ 100) (hm : m ≤ 100) (hnb : nb ≤ 100) (hxs : ∀ x ∈ xs, 0 ≤ x ∧ x < nb) :
    Calls Try.prog 30 #[.slice A n c, .slice A2 m c2] w fun e w' => e = .returned (.bool (apartT (ks.map (·.l)) xs)) ∧ Below w.heap.size w w' := by
  have HK := Lib.hid hK
  have HX := Lib.hid hx
  have HKL := Lib.hid hK.row.len
  have HXL := Lib.hid hx.len
  have HXS := Lib.hid hxs
  clear hK hx hxs
  go_enter Try.func30, Try.ntmps30
  go_wp2_with fail
  go_loopw [5] (fun i wr => ∃ k : Nat, k ≤ n ∧ i = .int .i64 k ∧ Below w.heap.size w wr ∧ ∀ i, i < k → ∀ j, j < i → tellK (ks.map (·.l)) xs i j = true) (fun i _ => n - (intOf i).toNat)
  case atStart => exact ⟨0, Nat.zero_le _, rfl, Below.refl _ _, fun i hi => absurd hi (Nat.not_lt_zero _)⟩
  case round =>
    obtain ⟨i0, hi0, rfl, hB, hti⟩ := hrel
    have HB := Lib.hid hB
    have HTI := Lib.hid hti
    have hz := hB.size
    clear hB hti
    by_cases hlt : i0 < n
    · go_wp2_with fail
      obtain ⟨wo, rfl⟩ : ∃ wo : World, wo = wr := ⟨_, rfl⟩
      go_loopw [6] (fun i wi => ∃ j : Nat, j ≤ i0 ∧ i = .int .i64 j ∧ Below wo.heap.size wo wi ∧ ∀ j', j' < j → tellK (ks.map (·.l)) xs i0 j' = true) (fun i _ => i0 - (intOf i).toNat)
      case atStart => exact ⟨0, Nat.zero_le _, rfl, Below.refl _ _, fun i hi => absurd hi (Nat.not_lt_zero _)⟩
      case round =>
        obtain ⟨j0, hj0, rfl, hBj, htj⟩ := hrel
        have HBJ := Lib.hid (HB.out.trans (hBj.mono hz))
        have HBO := Lib.hid hBj
        have HTJ := Lib.hid htj
        have hzj := HBJ.out.size
        clear hBj htj
        by_cases hlt2 : j0 < i0
        · go_wp2_with fail
          obtain ⟨wq, rfl⟩ : ∃ wq : World, wq = wr := ⟨_, rfl⟩
          go_loopw [7, 8] (fun v i ws => ∃ s : Nat, s ≤ m ∧ i = .int .i64 s ∧ v = .bool (tellK (ks.map (·.l)) (xs.take s) i0 j0) ∧ Below wq.heap.size wq ws) (fun _ i _ => m - (intOf i).toNat)
          case atStart => exact ⟨0, Nat.zero_le _, rfl, by simp [tellK], Below.refl _ _⟩
          case round =>
            obtain ⟨s, hs, rfl, rfl, hBs⟩ := hrel
            have HBS := Lib.hid (HBJ.out.trans (hBs.mono hzj))
            have HBQ := Lib.hid hBs
            clear hBs
            by_cases hlt3 : s < m
            · have hsl : s < xs.length := by have := HXL.out; omega
              have HTS := Lib.hid (tellK_snoc (ks := ks.map (·.l)) (i := i0) (k := j0) hsl)
              obtain ⟨o2, rfl, hz2, s0⟩ := (HX.out.old HBS.out).atI hsl
              obtain ⟨y0, y1⟩ := HXS.out xs[s] (List.getElem_mem hsl)
              generalize xs[s] = y at s0 y0 y1 HTS
              obtain ⟨y, rfl⟩ := Int.eq_ofNat_of_zero_le y0
              generalize tellK (ks.map (·.l)) (xs.take s) i0 j0 = bb at HTS ⊢
              cases bb with
              | true =>
                go_upto_region 11 with fail
                refine wp_region_PL [] (fun _ => True) rfl (by kernel_rfl) (trivial) (fun hF0 => ?_)
                (refine wpAnyP_takeL (i := 0) (v := ?_) rfl (by kernel_rfl) (by kernel_rfl) (by kernel_rfl) (fun _ _ _ h => h) (by rfl) ?_ ?_; rotate_left 1; focus (intro w; go_simp; try with_reducible rfl))
                try simp only [Act.put, List.setIfInBounds_toArray, List.set_cons_zero, List.set_cons_succ]
                (refine wpAnyP_takeL (i := 1) (v := ?_) rfl (by kernel_rfl) (by kernel_rfl) (by kernel_rfl) (fun _ _ _ h => h) (by rfl) ?_ ?_; rotate_left 1; focus (intro w; go_simp; try with_reducible rfl))
                try simp only [Act.put, List.setIfInBounds_toArray, List.set_cons_zero, List.set_cons_succ]
                (refine wpAnyP_skipL (i := 2) rfl (by kernel_rfl) (by kernel_rfl) (by kernel_rfl) (fun _ _ _ h => h) (by rfl) ?_)
                try simp only [Act.put, List.setIfInBounds_toArray, List.set_cons_zero, List.set_cons_succ]
                (refine wpAnyP_skipL (i := 3) rfl (by kernel_rfl) (by kernel_rfl) (by kernel_rfl) (fun _ _ _ h => h) (by rfl) ?_)
                try simp only [Act.put, List.setIfInBounds_toArray, List.set_cons_zero, List.set_cons_succ]
                (refine wpAnyP_skipL (i := 4) rfl (by kernel_rfl) (by kernel_rfl) (by kernel_rfl) (fun _ _ _ h => h) (by rfl) ?_)
                try simp only [Act.put, List.setIfInBounds_toArray, List.set_cons_zero, List.set_cons_succ]
                (refine wpAnyP_skipL (i := 5) rfl (by kernel_rfl) (by kernel_rfl) (by kernel_rfl) (fun _ _ _ h => h) (by rfl) ?_)
                try simp only [Act.put, List.setIfInBounds_toArray, List.set_cons_zero, List.set_cons_succ]
                (refine wpAnyP_skipL (i := 6) rfl (by kernel_rfl) (by kernel_rfl) (by kernel_rfl) (fun _ _ _ h => h) (by rfl) ?_)
                try simp only [Act.put, List.setIfInBounds_toArray, List.set_cons_zero, List.set_cons_succ]
                (refine wpAnyP_skipL (i := 7) rfl (by kernel_rfl) (by kernel_rfl) (by kernel_rfl) (fun _ _ _ h => h) (by rfl) ?_)
                try simp only [Act.put, List.setIfInBounds_toArray, List.set_cons_zero, List.set_cons_succ]
                (refine wpAnyP_skipL (i := 8) rfl (by kernel_rfl) (by kernel_rfl) (by kernel_rfl) (fun _ _ _ h => h) (by rfl) ?_)
                try simp only [Act.put, List.setIfInBounds_toArray, List.set_cons_zero, List.set_cons_succ]
                (refine wpAnyP_skipL (i := 9) rfl (by kernel_rfl) (by kernel_rfl) (by kernel_rfl) (fun _ _ _ h => h) (by rfl) ?_)
                try simp only [Act.put, List.setIfInBounds_toArray, List.set_cons_zero, List.set_cons_succ]
                (refine wpAnyP_skipL (i := 10) rfl (by kernel_rfl) (by kernel_rfl) (by kernel_rfl) (fun _ _ _ h => h) (by rfl) ?_)
                try simp only [Act.put, List.setIfInBounds_toArray, List.set_cons_zero, List.set_cons_succ]
                (refine wpAnyP_skipL (i := 11) rfl (by kernel_rfl) (by kernel_rfl) (by kernel_rfl) (fun _ _ _ h => h) (by rfl) ?_)
                try simp only [Act.put, List.setIfInBounds_toArray, List.set_cons_zero, List.set_cons_succ]
                (refine wpAnyP_skipL (i := 12) rfl (by kernel_rfl) (by kernel_rfl) (by kernel_rfl) (fun _ _ _ h => h) (by rfl) ?_)
                try simp only [Act.put, List.setIfInBounds_toArray, List.set_cons_zero, List.set_cons_succ]
                (refine wpAnyP_skipL (i := 13) rfl (by kernel_rfl) (by kernel_rfl) (by kernel_rfl) (fun _ _ _ h => h) (by rfl) ?_)
                try simp only [Act.put, List.setIfInBounds_toArray, List.set_cons_zero, List.set_cons_succ]
                (refine wpAnyP_skipL (i := 14) rfl (by kernel_rfl) (by kernel_rfl) (by kernel_rfl) (fun _ _ _ h => h) (by rfl) ?_)
                try simp only [Act.put, List.setIfInBounds_toArray, List.set_cons_zero, List.set_cons_succ]
                (refine wpAnyP_skipL (i := 15) rfl (by kernel_rfl) (by kernel_rfl) (by kernel_rfl) (fun _ _ _ h => h) (by rfl) ?_)
                try simp only [Act.put, List.setIfInBounds_toArray, List.set_cons_zero, List.set_cons_succ]
                (refine wpAnyP_skipL (i := 16) rfl (by kernel_rfl) (by kernel_rfl) (by kernel_rfl) (fun _ _ _ h => h) (by rfl) ?_)
                try simp only [Act.put, List.setIfInBounds_toArray, List.set_cons_zero, List.set_cons_succ]
                (refine wpAnyP_skipL (i := 17) rfl (by kernel_rfl) (by kernel_rfl) (by kernel_rfl) (fun _ _ _ h => h) (by rfl) ?_)
                try simp only [Act.put, List.setIfInBounds_toArray, List.set_cons_zero, List.set_cons_succ]
                (refine wpAnyP_skipL (i := 18) rfl (by kernel_rfl) (by kernel_rfl) (by kernel_rfl) (fun _ _ _ h => h) (by rfl) ?_)
                try simp only [Act.put, List.setIfInBounds_toArray, List.set_cons_zero, List.set_cons_succ]
                (refine wpAnyP_skipL (i := 19) rfl (by kernel_rfl) (by kernel_rfl) (by kernel_rfl) (fun _ _ _ h => h) (by rfl) ?_)
                try simp only [Act.put, List.setIfInBounds_toArray, List.set_cons_zero, List.set_cons_succ]
                (refine wpAnyP_skipL (i := 20) rfl (by kernel_rfl) (by kernel_rfl) (by kernel_rfl) (fun _ _ _ h => h) (by rfl) ?_)
                try simp only [Act.put, List.setIfInBounds_toArray, List.set_cons_zero, List.set_cons_succ]
                (refine wpAnyP_skipL (i := 21) rfl (by kernel_rfl) (by kernel_rfl) (by kernel_rfl) (fun _ _ _ h => h) (by rfl) ?_)
                try simp only [Act.put, List.setIfInBounds_toArray, List.set_cons_zero, List.set_cons_succ]
                (refine wpAnyP_skipL (i := 22) rfl (by kernel_rfl) (by kernel_rfl) (by kernel_rfl) (fun _ _ _ h => h) (by rfl) ?_)
                try simp only [Act.put, List.setIfInBounds_toArray, List.set_cons_zero, List.set_cons_succ]
                (refine wpAnyP_takeL (i := 23) (v := ?_) rfl (by kernel_rfl) (by kernel_rfl) (by kernel_rfl) (fun _ _ _ h => h) (by rfl) ?_ ?_; rotate_left 1; focus (intro w; go_simp; try with_reducible rfl))
                try simp only [Act.put, List.setIfInBounds_toArray, List.set_cons_zero, List.set_cons_succ]
                (refine wpAnyP_takeL (i := 24) (v := ?_) rfl (by kernel_rfl) (by kernel_rfl) (by kernel_rfl) (fun _ _ _ h => h) (by rfl) ?_ ?_; rotate_left 1; focus (intro w; go_simp; try with_reducible rfl))
                try simp only [Act.put, List.setIfInBounds_toArray, List.set_cons_zero, List.set_cons_succ]
                refine wpAnyP_done (by kernel_rfl) ?_ _
                go_wp2_with fail
                go_roundw
                case rel => exact ⟨s + 1, by omega, by go_num, by rw [HTS.out]; simp, HBQ.out.drew⟩
                case measure => simp [intOf]; omega
              | false =>
                obtain ⟨o, ox, cx, bx, X, rfl, hX, hz3, hz4, k0, k1, k2⟩ := (HK.out.old HBS.out).at_ (i := i0) (k := y) (by have := HKL.out; omega) (by omega)
                obtain ⟨o', oy, cy, by_, Y, ho', hY, hz5, hz6, l0, l1, l2⟩ := (HK.out.old HBS.out).at_ (i := j0) (k := y) (by have := HKL.out; omega) (by omega)
                obtain rfl : o' = o := by injection ho' with h; injection h with _ h; exact h.symm
                rw [← hX, ← hY] at HTS
                have i00 : (0 : Int) ≤ (i0 : Int) := by omega
                have i01 : (i0 : Int) < (n : Int) := by omega
                have j00 : (0 : Int) ≤ (j0 : Int) := by omega
                have j01 : (j0 : Int) < (n : Int) := by omega
                have s00 : (0 : Int) ≤ (s : Int) := by omega
                have s01 : (s : Int) < (m : Int) := by omega
                have HF := Lib.hid (show ∀ W, Below wr.heap.size wr W → W.cell? ⟨b, o' + i0, none⟩ = some (.slice (some ⟨bx, ox, none⟩) nb cx) ∧ W.cell? ⟨b2, o2 + s, none⟩ = some (.int .i64 y) ∧ W.cell? ⟨bx, ox + y * 2, none⟩ = some (.int .i64 X.lo) ∧ W.cell? ⟨bx, ox + y * 2 + 1, none⟩ = some (.int .i64 X.hi) ∧ W.cell? ⟨b, o' + j0, none⟩ = some (.slice (some ⟨by_, oy, none⟩) nb cy) ∧ W.cell? ⟨by_, oy + y * 2, none⟩ = some (.int .i64 Y.lo) ∧ W.cell? ⟨by_, oy + y * 2 + 1, none⟩ = some (.int .i64 Y.hi) from fun W h =>
                  ⟨(h.cell (p := ⟨b, o' + i0, none⟩) hz3).trans k0, (h.cell (p := ⟨b2, o2 + s, none⟩) hz2).trans s0, (h.cell (p := ⟨bx, ox + y * 2, none⟩) hz4).trans k1, (h.cell (p := ⟨bx, ox + y * 2 + 1, none⟩) hz4).trans k2, (h.cell (p := ⟨b, o' + j0, none⟩) hz3).trans l0, (h.cell (p := ⟨by_, oy + y * 2, none⟩) hz6).trans l1, (h.cell (p := ⟨by_, oy + y * 2 + 1, none⟩) hz6).trans l2⟩)
                clear k0 k1 k2 l0 l1 l2 s0 hX hY ho'
                go_upto_region 11 with fail
                have hM : Below wr.heap.size wr wr.drew := (Below.refl _ wr).drew
                refine wp_region_PL [5, 9, 11, 15, 19, 21] (fun W => W.cell? ⟨b, o' + i0, none⟩ = some (.slice (some ⟨bx, ox, none⟩) nb cx) ∧ W.cell? ⟨b2, o2 + s, none⟩ = some (.int .i64 y) ∧ W.cell? ⟨bx, ox + y * 2, none⟩ = some (.int .i64 X.lo) ∧ W.cell? ⟨bx, ox + y * 2 + 1, none⟩ = some (.int .i64 X.hi) ∧ W.cell? ⟨b, o' + j0, none⟩ = some (.slice (some ⟨by_, oy, none⟩) nb cy) ∧ W.cell? ⟨by_, oy + y * 2, none⟩ = some (.int .i64 Y.lo) ∧ W.cell? ⟨by_, oy + y * 2 + 1, none⟩ = some (.int .i64 Y.hi)) rfl (by kernel_rfl) (HF.out _ hM) (fun hF0 => ?_)
                (refine wpAnyP_takeL (i := 0) (v := ?_) rfl (by kernel_rfl) (by kernel_rfl) (by kernel_rfl) (fun _ _ _ h => h) (by rfl) ?_ ?_; rotate_left 1; focus (intro w; go_simp; try with_reducible rfl))
                try simp only [Act.put, List.setIfInBounds_toArray, List.set_cons_zero, List.set_cons_succ]
                (refine wpAnyP_takeL (i := 1) (v := ?_) rfl (by kernel_rfl) (by kernel_rfl) (by kernel_rfl) (fun _ _ _ h => h) (by rfl) ?_ ?_; rotate_left 1; focus (intro w; go_simp; try with_reducible rfl))
                try simp only [Act.put, List.setIfInBounds_toArray, List.set_cons_zero, List.set_cons_succ]
                (refine wpAnyP_takeL (i := 2) (v := ?_) rfl (by kernel_rfl) (by kernel_rfl) (by kernel_rfl) (fun _ _ _ h => h) (by rfl) ?_ ?_; rotate_left 1; focus (intro w; go_simp; try with_reducible rfl))
                try simp only [Act.put, List.setIfInBounds_toArray, List.set_cons_zero, List.set_cons_succ]
                (refine wpAnyP_takeL (i := 3) (v := ?_) rfl (by kernel_rfl) (by kernel_rfl) (by kernel_rfl) (fun _ _ _ h => h) (by rfl) ?_ ?_; rotate_left 1; focus (intro w; go_simp; try with_reducible rfl))
                try simp only [Act.put, List.setIfInBounds_toArray, List.set_cons_zero, List.set_cons_succ]
                (refine wpAnyP_takeL (i := 4) (v := ?_) rfl (by kernel_rfl) (by kernel_rfl) (by kernel_rfl) (fun _ _ _ h => h) (by rfl) ?_ ?_; rotate_left 1; focus (intro w; go_simp; try with_reducible rfl))
                try simp only [Act.put, List.setIfInBounds_toArray, List.set_cons_zero, List.set_cons_succ]
                (refine wpAnyP_loadL (i := 5) (v := ?_) rfl (by kernel_rfl) (by kernel_rfl) (by kernel_rfl) (by rfl) (fun _ _ _ h => h) hF0 (by rfl) ?_ ?_; rotate_left 1; focus (intro w hFw; (try dsimp only at hFw); go_split_ands; go_simp; try with_reducible rfl))
                try simp only [Act.put, List.setIfInBounds_toArray, List.set_cons_zero, List.set_cons_succ]
                (refine wpAnyP_takeL (i := 6) (v := ?_) rfl (by kernel_rfl) (by kernel_rfl) (by kernel_rfl) (fun _ _ _ h => h) (by rfl) ?_ ?_; rotate_left 1; focus (intro w; go_simp; try with_reducible rfl))
                try simp only [Act.put, List.setIfInBounds_toArray, List.set_cons_zero, List.set_cons_succ]
                (refine wpAnyP_takeL (i := 7) (v := ?_) rfl (by kernel_rfl) (by kernel_rfl) (by kernel_rfl) (fun _ _ _ h => h) (by rfl) ?_ ?_; rotate_left 1; focus (intro w; go_simp; try with_reducible rfl))
                try simp only [Act.put, List.setIfInBounds_toArray, List.set_cons_zero, List.set_cons_succ]
                (refine wpAnyP_takeL (i := 8) (v := ?_) rfl (by kernel_rfl) (by kernel_rfl) (by kernel_rfl) (fun _ _ _ h => h) (by rfl) ?_ ?_; rotate_left 1; focus (intro w; go_simp; try with_reducible rfl))
                try simp only [Act.put, List.setIfInBounds_toArray, List.set_cons_zero, List.set_cons_succ]
                (refine wpAnyP_loadL (i := 9) (v := ?_) rfl (by kernel_rfl) (by kernel_rfl) (by kernel_rfl) (by rfl) (fun _ _ _ h => h) hF0 (by rfl) ?_ ?_; rotate_left 1; focus (intro w hFw; (try dsimp only at hFw); go_split_ands; go_simp; try with_reducible rfl))
                try simp only [Act.put, List.setIfInBounds_toArray, List.set_cons_zero, List.set_cons_succ]
                (refine wpAnyP_takeL (i := 10) (v := ?_) rfl (by kernel_rfl) (by kernel_rfl) (by kernel_rfl) (fun _ _ _ h => h) (by rfl) ?_ ?_; rotate_left 1; focus (intro w; go_simp; try with_reducible rfl))
                try simp only [Act.put, List.setIfInBounds_toArray, List.set_cons_zero, List.set_cons_succ]
                (refine wpAnyP_loadL (i := 11) (v := ?_) rfl (by kernel_rfl) (by kernel_rfl) (by kernel_rfl) (by rfl) (fun _ _ _ h => h) hF0 (by rfl) ?_ ?_; rotate_left 1; focus (intro w hFw; (try dsimp only at hFw); go_split_ands; go_simp; try with_reducible rfl))
                try simp only [Act.put, List.setIfInBounds_toArray, List.set_cons_zero, List.set_cons_succ]
                (refine wpAnyP_takeL (i := 12) (v := ?_) rfl (by kernel_rfl) (by kernel_rfl) (by kernel_rfl) (fun _ _ _ h => h) (by rfl) ?_ ?_; rotate_left 1; focus (intro w; go_simp; try with_reducible rfl))
                try simp only [Act.put, List.setIfInBounds_toArray, List.set_cons_zero, List.set_cons_succ]
                (refine wpAnyP_takeL (i := 13) (v := ?_) rfl (by kernel_rfl) (by kernel_rfl) (by kernel_rfl) (fun _ _ _ h => h) (by rfl) ?_ ?_; rotate_left 1; focus (intro w; go_simp; try with_reducible rfl))
                try simp only [Act.put, List.setIfInBounds_toArray, List.set_cons_zero, List.set_cons_succ]
                (refine wpAnyP_takeL (i := 14) (v := ?_) rfl (by kernel_rfl) (by kernel_rfl) (by kernel_rfl) (fun _ _ _ h => h) (by rfl) ?_ ?_; rotate_left 1; focus (intro w; go_simp; try with_reducible rfl))
                try simp only [Act.put, List.setIfInBounds_toArray, List.set_cons_zero, List.set_cons_succ]
                (refine wpAnyP_loadL (i := 15) (v := ?_) rfl (by kernel_rfl) (by kernel_rfl) (by kernel_rfl) (by rfl) (fun _ _ _ h => h) hF0 (by rfl) ?_ ?_; rotate_left 1; focus (intro w hFw; (try dsimp only at hFw); go_split_ands; go_simp; try with_reducible rfl))
                try simp only [Act.put, List.setIfInBounds_toArray, List.set_cons_zero, List.set_cons_succ]
                (refine wpAnyP_takeL (i := 16) (v := ?_) rfl (by kernel_rfl) (by kernel_rfl) (by kernel_rfl) (fun _ _ _ h => h) (by rfl) ?_ ?_; rotate_left 1; focus (intro w; go_simp; try with_reducible rfl))
                try simp only [Act.put, List.setIfInBounds_toArray, List.set_cons_zero, List.set_cons_succ]
                (refine wpAnyP_takeL (i := 17) (v := ?_) rfl (by kernel_rfl) (by kernel_rfl) (by kernel_rfl) (fun _ _ _ h => h) (by rfl) ?_ ?_; rotate_left 1; focus (intro w; go_simp; try with_reducible rfl))
                try simp only [Act.put, List.setIfInBounds_toArray, List.set_cons_zero, List.set_cons_succ]
                (refine wpAnyP_takeL (i := 18) (v := ?_) rfl (by kernel_rfl) (by kernel_rfl) (by kernel_rfl) (fun _ _ _ h => h) (by rfl) ?_ ?_; rotate_left 1; focus (intro w; go_simp; try with_reducible rfl))
                try simp only [Act.put, List.setIfInBounds_toArray, List.set_cons_zero, List.set_cons_succ]
                (refine wpAnyP_loadL (i := 19) (v := ?_) rfl (by kernel_rfl) (by kernel_rfl) (by kernel_rfl) (by rfl) (fun _ _ _ h => h) hF0 (by rfl) ?_ ?_; rotate_left 1; focus (intro w hFw; (try dsimp only at hFw); go_split_ands; go_simp; try with_reducible rfl))
                try simp only [Act.put, List.setIfInBounds_toArray, List.set_cons_zero, List.set_cons_succ]
                (refine wpAnyP_takeL (i := 20) (v := ?_) rfl (by kernel_rfl) (by kernel_rfl) (by kernel_rfl) (fun _ _ _ h => h) (by rfl) ?_ ?_; rotate_left 1; focus (intro w; go_simp; try with_reducible rfl))
                try simp only [Act.put, List.setIfInBounds_toArray, List.set_cons_zero, List.set_cons_succ]
                (refine wpAnyP_loadL (i := 21) (v := ?_) rfl (by kernel_rfl) (by kernel_rfl) (by kernel_rfl) (by rfl) (fun _ _ _ h => h) hF0 (by rfl) ?_ ?_; rotate_left 1; focus (intro w hFw; (try dsimp only at hFw); go_split_ands; go_simp; try with_reducible rfl))
                try simp only [Act.put, List.setIfInBounds_toArray, List.set_cons_zero, List.set_cons_succ]
                refine wpAnyP_step (i := 22) rfl (by kernel_rfl) (by rfl) (fun K hK => ?_)
                go_simp
                (refine (rtells_any X Y _).mono ?_; rintro e wt ⟨rfl, hBt⟩; have hM := hM.trans (hBt.mono hM.size))
                (refine hK _ _ (HF.out _ hM) (fun hF1 => ?_); clear hK K hF0)
                try simp only [Act.put, List.setIfInBounds_toArray, List.set_cons_zero, List.set_cons_succ]
                (refine wpAnyP_takeL (i := 23) (v := ?_) rfl (by kernel_rfl) (by kernel_rfl) (by kernel_rfl) (fun _ _ _ h => h) (by rfl) ?_ ?_; rotate_left 1; focus (intro w; go_simp; try with_reducible rfl))
                try simp only [Act.put, List.setIfInBounds_toArray, List.set_cons_zero, List.set_cons_succ]
                (refine wpAnyP_takeL (i := 24) (v := ?_) rfl (by kernel_rfl) (by kernel_rfl) (by kernel_rfl) (fun _ _ _ h => h) (by rfl) ?_ ?_; rotate_left 1; focus (intro w; go_simp; try with_reducible rfl))
                try simp only [Act.put, List.setIfInBounds_toArray, List.set_cons_zero, List.set_cons_succ]
                refine wpAnyP_done (by kernel_rfl) ?_ _
                have HM := Lib.hid hM
                clear hM
                go_wp2_with fail
                go_roundw
                case rel => exact ⟨s + 1, by omega, by go_num, by rw [HTS.out]; simp, HBQ.out.trans (HM.out.mono HBQ.out.size)⟩
                case measure => simp [intOf]; omega
            · obtain rfl : m = s := by omega
              have htk : xs.take m = xs := List.take_of_length_le (by have := HXL.out; omega)
              rw [htk]
              cases hres : tellK (ks.map (·.l)) xs i0 j0 with
              | true =>
                have HRES := Lib.hid hres
                clear hres htk
                go_wp2_with fail
                go_roundw
                case rel =>
                  refine ⟨j0 + 1, by omega, by go_num, HBO.out.trans (HBQ.out.mono HBO.out.size), fun j' hj' => ?_⟩
                  by_cases hjj : j' = j0
                  · subst hjj; exact HRES.out
                  · exact HTJ.out j' (by omega)
                case measure => simp [intOf]; omega
              | false =>
                have HRES := Lib.hid (apartK_no (ks := ks.map (·.l)) (by rw [List.length_map]; have := HKL.out; omega) hlt2 hres)
                clear hres htk
                go_wp2_with fail
                go_ret
                exact ⟨by rw [HRES.out]; rfl, HBS.out⟩
        · obtain rfl : i0 = j0 := by omega
          go_wp2_with fail
          go_roundw
          case rel =>
            refine ⟨i0 + 1, by omega, by go_num, HBJ.out, fun i hi j hj => ?_⟩
            by_cases hii : i = i0
            · subst hii; exact HTJ.out j hj
            · exact HTI.out i (by omega) j hj
          case measure => simp [intOf]; omega
    · obtain rfl : n = i0 := by omega
      have HRES := Lib.hid (apartK_yes (ks := ks.map (·.l)) (xs := xs) (by rw [List.length_map, ← HKL.out]; exact HTI.out))
      go_wp2_with fail
      go_ret
      exact ⟨by rw [HRES.out]; rfl, HB.out⟩
end Go.Proofs.Ytkphgdkjjklajaa

namespace Go.Proofs.Ytkphgdkjjklajaa
open Go.RowKit Go.Shelf Go.Sort

theorem flat_le {α β : Type} (g : α → List β) (B : Nat) : ∀ l : List α, (∀ x ∈ l, (g x).length ≤ B) → (l.flatMap g).length ≤ l.length * B
  | [], _ => by simp
  | x :: l, h => by
    have h1 := h x (List.mem_cons_self ..)
    have h2 := flat_le g B l fun y hy => h y (List.mem_cons_of_mem _ hy)
    rw [List.flatMap_cons, List.length_append, List.length_cons, Nat.add_mul]
    omega
theorem choT_count (n : Nat) : ∀ (many : Nat) (f : Int), (choT n many f).length ≤ n ^ many
  | 0, _ => by simp [choT]
  | many + 1, f => by
    rw [choT_succ, Nat.pow_succ]
    have h1 := flat_le (fun i : Int => (choT n many (i + 1)).map (i :: ·)) (n ^ many) ((rg n).filter fun i => decide (f ≤ i)) fun x _ => by rw [List.length_map]; exact choT_count n many _
    have h2 := List.length_filter_le (fun i => decide (f ≤ i)) (rg n)
    rw [rg_length] at h2
    refine Nat.le_trans h1 ?_
    rw [Nat.mul_comm (n ^ many)]
    exact Nat.mul_le_mul_right _ h2
theorem choT_small {n many : Nat} (hn : n ≤ 8) (hm : many ≤ 8) (f : Int) : (choT n many f).length ≤ 16777216 := by
  have h1 := choT_count n many f
  have h2 : n ^ many ≤ 8 ^ many := Nat.pow_le_pow_left hn _
  have h3 : 8 ^ many ≤ 8 ^ 8 := Nat.pow_le_pow_right (by omega) hm
  have h4 : 8 ^ 8 = 16777216 := by decide
  omega
theorem info_intsE : (Try.prog.info? 22).map (fun i => (i.zero, i.size, i.bytes)) = some (some (.slice none 0 0), 1, 24) := by kernel_rfl
theorem own_one (W : World) (x : Int) : (W.alloc (.cells #[.int .i64 x] 3)).ownsRow W.heap.size 3 1 (.slice (some ⟨W.heap.size, 0, none⟩) 1 1) 1 ([x].flatMap encI) :=
  ⟨rfl, .inr ⟨W.heap.size, 1, #[.int .i64 x], rfl, Nat.le_refl _, Blk.new W _ _, Nat.le_refl _, by unfold maxLen; omega, rfl, rfl⟩⟩

/-- lists of numbers, as they lie, away from a row of one's own -/
def Lists (B : Nat) (W : World) (v : Value) (ks : List (SlE Int)) : Prop := ∀ x ∈ ks, Sl encI 1 W x.b x.A x.n x.l ∧ (0 < x.n → B ≤ x.b ∧ ∀ g, v.ownBlock = some g → g ≠ x.b)
theorem Lists.old {B : Nat} {W W' : World} {v : Value} {ks : List (SlE Int)} (h : Lists B W v ks) (hb : Below W.heap.size W W') : Lists B W' v ks := fun x hx => ⟨(h x hx).1.old hb, (h x hx).2⟩
theorem Lists.turn {B : Nat} {W W' : World} {v v' : Value} {ks : List (SlE Int)} (h : Lists B W v ks) (hg : W.grownBy W' v.ownBlock) (hat : v'.ownBlock = v.ownBlock ∨ v'.ownBlock = some W.heap.size) : Lists B W' v' ks := fun x hx => by
  obtain ⟨h1, h2⟩ := h x hx
  refine ⟨h1.grown hg fun hn e => (h2 hn).2 _ e.symm rfl, fun hn => ⟨(h2 hn).1, fun g hgv => ?_⟩⟩
  rcases hat with e | e
  · exact (h2 hn).2 g (by rw [← e]; exact hgv)
  · rw [e] at hgv
    injection hgv with hgv
    have := h1.lt hn
    omega

def RchPost (n many : Nat) (f : Int) (w : World) (e : Ending) (w' : World) : Prop :=
  ∃ (A : Option Addr) (c b : Nat) (ks : List (SlE Int)), e = .returned (.slice A ks.length c) ∧ Sl encE 1 w' b A ks.length ks ∧ w.heap.size ≤ b ∧ ks.map (·.l) = choT n many f ∧ (∀ x ∈ ks, Sl encI 1 w' x.b x.A x.n x.l ∧ (0 < x.n → w.heap.size ≤ x.b)) ∧ Below w.heap.size w w'

set_option maxRecDepth 100000 in
set_option maxHeartbeats 4000000 in
theorem rchoices_any (n : Nat) (hn : n ≤ 8) : ∀ (many f : Nat) (w : World), many ≤ 8 → f ≤ n → Calls Try.prog 29 #[.int .i64 f, .int .i64 n, .int .i64 many] w (RchPost n many f w) := by
  obtain ⟨i0, hi, iz0, iz1, iz2⟩ := info_parts info_int
  obtain ⟨i1, hi1, jz0, jz1, jz2⟩ := info_parts info_intsE
  intro many
  induction many with
  | zero =>
    intro f w hm hf
    go_enter Try.func29, Try.ntmps29
    go_wp2_with fail
    go_ret
    refine ⟨_, _, _, [⟨none, 0, 0, 0, []⟩], rfl, Sl.new encE_len w [(⟨none, 0, 0, 0, []⟩ : SlE Int)] 22 #[.slice none 0 0] rfl, Nat.le_refl _, rfl, fun x hx => ?_, (Below.refl _ w).alloc (Nat.le_refl _) _⟩
    rw [List.mem_singleton.1 hx]
    exact ⟨Sl.nil _ _ _, fun h => absurd h (Nat.lt_irrefl 0)⟩
  | succ many ih =>
    intro f w hm hf
    have HIH := Lib.hid ih
    clear ih
    have hm1 : ¬ ((many : Int) + 1 = 0) := by omega
    have hm2 : ((many : Int) + 1 == 0) = false := by simp; omega
    go_enter Try.func29, Try.ntmps29
    go_wp2_with fail
    go_loopw [7, 8] (fun v i wr => ∃ (k c : Nat) (A : Option Addr) (ks : List (SlE Int)), f ≤ k ∧ k ≤ n ∧ i = .int .i64 k ∧ v = .slice A ks.length c ∧ ks.map (·.l) ++ choT n (many + 1) k = choT n (many + 1) f ∧ wr.ownsRow w.heap.size 22 1 (.slice A ks.length c) ks.length (ks.flatMap encE) ∧ Lists w.heap.size wr (.slice A ks.length c) ks ∧ Below w.heap.size w wr) (fun _ i _ => n - (intOf i).toNat)
    case atStart => exact ⟨f, 0, none, [], Nat.le_refl _, hf, rfl, rfl, rfl, World.ownsRow_nil _ _ _ _, fun x hx => (by cases hx), Below.refl _ _⟩
    case round =>
      obtain ⟨k, c, A, ks, hfk, hk, rfl, rfl, hks, hown, hls, hB⟩ := hrel
      have HKS := Lib.hid hks
      have HOWN := Lib.hid hown
      have HLS := Lib.hid hls
      have HB := Lib.hid hB
      have hz := hB.size
      have hkl : ks.length ≤ 16777216 := by
        have h1 := choT_small hn hm (f : Int)
        rw [← hks, List.length_append, List.length_map] at h1
        omega
      clear hks hown hls hB
      by_cases hlt : k < n
      · have HSTEP := Lib.hid (choT_step n many k hlt)
        go_wp2_with fail
        refine (HIH.out (k + 1) wr (by omega) (by omega)).mono ?_
        rintro e w1 ⟨A1, c1, b1, rs, rfl, hs1, hb1, hrs, hr1, hB1⟩
        have HS1 := Lib.hid hs1
        have HRS := Lib.hid hrs
        have hown1 : ∀ g, (Value.slice A ks.length c).ownBlock = some g → g < wr.heap.size := fun g e => (HOWN.out.lt g e).2
        have HR1 := Lib.hid (show Lists w.heap.size w1 (.slice A ks.length c) rs from fun x hx => ⟨(hr1 x hx).1, fun hn => ⟨Nat.le_trans hz ((hr1 x hx).2 hn), fun g e => by have := (hr1 x hx).2 hn; have := hown1 g e; omega⟩⟩)
        have HRO := Lib.hid (show ∀ g, (Value.slice A ks.length c).ownBlock = some g → g ≠ b1 from fun g e => by have := hown1 g e; omega)
        have hz1 := hB1.size
        have HO1 := Lib.hid (ownsRow_below HOWN.out hB1 (Nat.le_refl _))
        have HL1 := Lib.hid (HLS.out.old hB1)
        have HB1 := Lib.hid (HB.out.trans (hB1.mono hz))
        have hrl : ks.length + rs.length ≤ 16777216 := by
          have h1 := choT_small hn hm (f : Int)
          rw [← HKS.out, List.length_append, List.length_map, HSTEP.out, List.length_append, List.length_map] at h1
          have h2 : rs.length = (choT n many ((k : Int) + 1)).length := by rw [← List.length_map (f := fun x : SlE Int => x.l), hrs]; rfl
          omega
        clear hs1 hrs hr1 hB1 hown1
        go_wp2_with fail
        go_loopw [7, 10] (fun v i ws => ∃ (j c : Nat) (A : Option Addr) (ks' : List (SlE Int)), j ≤ rs.length ∧ i = .int .i64 j ∧ v = .slice A ks'.length c ∧ ks'.length = ks.length + j ∧ ks'.map (·.l) = ks.map (·.l) ++ (rs.take j).map (fun r => (k : Int) :: r.l) ∧ ws.ownsRow w.heap.size 22 1 (.slice A ks'.length c) ks'.length (ks'.flatMap encE) ∧ Lists w.heap.size ws (.slice A ks'.length c) ks' ∧ Sl encE 1 ws b1 A1 rs.length rs ∧ Lists w.heap.size ws (.slice A ks'.length c) rs ∧ (∀ g, (Value.slice A ks'.length c).ownBlock = some g → g ≠ b1) ∧ Below w.heap.size w ws) (fun _ i _ => rs.length - (intOf i).toNat)
        case atStart => exact ⟨0, c, A, ks, Nat.zero_le _, rfl, rfl, rfl, by simp, HO1.out, HL1.out, HS1.out, HR1.out, HRO.out, HB1.out⟩
        case round =>
          obtain ⟨j, c3, A3, ks3, hj, rfl, rfl, hl3, hm3, hown3, hls3, hs3, hr3, hro3, hB3⟩ := hrel
          have HL3 := Lib.hid hl3
          have HM3 := Lib.hid hm3
          have HW3 := Lib.hid hown3
          have HLS3 := Lib.hid hls3
          have HR3 := Lib.hid hr3
          have HRO3 := Lib.hid hro3
          have HB3 := Lib.hid hB3
          have HS3 := Lib.hid hs3
          have hz3 := hB3.size
          have hk3 : ks3.length ≤ 16777216 := by omega
          by_cases hlt2 : j < rs.length
          · obtain ⟨o, rfl, hbz, s0⟩ := hs3.atE hlt2
            have hb1z : b1 < wr.heap.size := hbz
            have HTK := Lib.hid (List.take_succ_eq_append_getElem hlt2)
            have HX := Lib.hid (hr3 rs[j] (List.getElem_mem hlt2))
            have hxm : (rs[j]).l ∈ choT n many ((k : Int) + 1) := by
              have h2 : rs.map (·.l) = choT n many ((k : Int) + 1) := HRS.out
              rw [← h2]
              exact List.mem_map.2 ⟨_, List.getElem_mem hlt2, rfl⟩
            have hxl := choT_len hxm
            generalize rs[j] = x at s0 HTK HX hxl
            obtain ⟨xA, xn, xc, xb, xl⟩ := x
            simp only at s0 HX hxl
            have hxn : xn ≤ 8 := by have := HX.out.1.len; omega
            have j0 : (0 : Int) ≤ (j : Int) := by omega
            have j1 : (j : Int) < (rs.length : Int) := by omega
            have HNX := Lib.hid (HX.out.1.alloc (.cells #[.int .i64 (k : Int)] 3))
            have HONE := Lib.hid (own_one wr (k : Int))
            have HBa := Lib.hid ((Below.refl _ wr).alloc (Nat.le_refl _) (.cells #[.int .i64 (k : Int)] 3))
            clear hl3 hm3 hown3 hls3 hs3 hr3 hro3 hB3 hxm
            go_wp2_with (at_builtin; first
              | (refine wpList_append_sl rfl (.tmp 34) (.tmp 38) 22 rfl wr.heap.size 3 i0 _ 8 Try.underlying22 hi iz0 iz1 iz2 rfl (by omega) encI_len _ 1 _ rfl HONE.out xb xA xn xc xl rfl HNX.out oneI (by unfold maxLen; omega) (by omega) (by simp) ?_; intro A4 c4 w4 hO4 hg4 _; obtain ⟨b4, hb4, hs4⟩ := Sl.of_own (enc := encI) (l := (k : Int) :: xl) encI_len (show 1 + xn = ((k : Int) :: xl).length by have := HNX.out.len; rw [List.length_cons]; omega) hO4; have hB4 := below_own HONE.out hg4 HBa.out (Nat.le_refl _) (by simp); have HS4 := Lib.hid hs4; have HB4 := Lib.hid hB4; have HB4z := Lib.hid hb4; have hz4 := hB4.size; have HN4 := Lib.hid (hs4.alloc (.cells #[.slice A4 (1 + xn) c4] 22)); have HOA := Lib.hid ((ownsRow_below HW3.out hB4 (Nat.le_refl _)).alloc (.cells #[.slice A4 (1 + xn) c4] 22)); clear hO4 hg4 hs4 hB4 hb4)
              | (refine wpList_append_sl rfl (.tmp 32) (.tmp 40) 34 rfl w.heap.size 22 i1 _ 24 Try.underlying34 hi1 jz0 jz1 jz2 rfl (by omega) encE_len _ ks3.length _ rfl HOA.out w4.heap.size _ 1 1 [(⟨A4, 1 + xn, c4, b4, (k : Int) :: xl⟩ : SlE Int)] rfl (Sl.new encE_len w4 [(⟨A4, 1 + xn, c4, b4, (k : Int) :: xl⟩ : SlE Int)] 22 _ rfl) oneE (by unfold maxLen; omega) (by omega) (by simp only [World.size_alloc]; omega) ?_; intro A5 c5 w5 hO5 hg5 hat; have HO5 := Lib.hid hO5; have HG5 := Lib.hid hg5; have HAT := Lib.hid hat; clear hO5 hg5 hat))
            have hb4a := HB4.out.alloc HB4.out.size (.cells #[.slice A4 (1 + xn) c4] 22)
            have hownz : ∀ g, (Value.slice A3 ks3.length c3).ownBlock = some g → g < wr.heap.size := fun g e => (HW3.out.lt g e).2
            have hL0 : Lists w.heap.size (w4.alloc (.cells #[.slice A4 (1 + xn) c4] 22)) (.slice A3 ks3.length c3) (ks3 ++ [⟨A4, 1 + xn, c4, b4, (k : Int) :: xl⟩]) := fun y hy => by
              rcases List.mem_append.1 hy with h | h
              · exact HLS3.out.old hb4a y h
              · rw [List.mem_singleton.1 h]
                exact ⟨HN4.out, fun _ => ⟨Nat.le_trans hz3 HB4z.out, fun g e => by have := hownz g e; have := HB4z.out; show g ≠ b4; omega⟩⟩
            have HLF := Lib.hid (hL0.turn HG5.out HAT.out)
            have HRF := Lib.hid ((HR3.out.old hb4a).turn HG5.out HAT.out)
            have HSF := Lib.hid ((HS3.out.old hb4a).grown HG5.out (fun _ e => HRO3.out b1 e.symm rfl))
            have HOF := Lib.hid (show ∀ g, (Value.slice A5 (ks3.length + 1) c5).ownBlock = some g → g ≠ b1 from fun g e => by
              rcases HAT.out with h | h
              · exact HRO3.out g (h.symm.trans e)
              · rw [h] at e
                injection e with e
                simp at e
                omega)
            have HBF := Lib.hid (below_own HOA.out HG5.out (HB3.out.trans (hb4a.mono hz3)) (Nat.le_refl _) (Nat.le_refl _))
            go_roundw
            case rel =>
              have e : ks3.length + 1 = (ks3 ++ [(⟨A4, 1 + xn, c4, b4, (k : Int) :: xl⟩ : SlE Int)]).length := by simp
              refine ⟨j + 1, c5, A5, ks3 ++ [⟨A4, 1 + xn, c4, b4, (k : Int) :: xl⟩], by omega, by go_num, by rw [e], by have := HL3.out; simp; omega, ?_, ?_, by rw [← e]; exact HLF.out, HSF.out, by rw [← e]; exact HRF.out, by rw [← e]; exact HOF.out, HBF.out⟩
              · rw [List.map_append, HM3.out, HTK.out, List.map_append, List.append_assoc]; rfl
              · rw [← e, List.flatMap_append]; exact HO5.out
            case measure => simp [intOf]; omega
          · obtain rfl : j = rs.length := by omega
            have hm4 := HM3.out
            rw [List.take_length] at hm4
            have HM4 := Lib.hid hm4
            clear hl3 hm3 hown3 hls3 hs3 hr3 hro3 hB3 hm4
            go_wp2_with fail
            refine ⟨⟨k + 1, by omega, by omega, by omega, c3, A3, ks3, ⟨rfl, rfl, rfl⟩, ?_, HW3.out, HLS3.out, HB3.out⟩, by simp [intOf]; omega⟩
            rw [HM4.out, ← HKS.out, HSTEP.out]
            have h2 : rs.map (·.l) = choT n many ((k : Int) + 1) := HRS.out
            rw [← h2, List.map_map, List.append_assoc]
            rfl
      · obtain rfl : n = k := by omega
        have hend := HKS.out
        rw [choT_end, List.append_nil] at hend
        have HEND := Lib.hid hend
        clear hend
        go_wp2_with fail
        go_ret
        obtain ⟨b, hbb, hs⟩ := Sl.of_own (enc := encE) encE_len rfl HOWN.out
        exact ⟨A, c, b, ks, rfl, hs, hbb, HEND.out, fun x hx => ⟨(HLS.out x hx).1, fun hn => ((HLS.out x hx).2 hn).1⟩, HB.out⟩
end Go.Proofs.Ytkphgdkjjklajaa
