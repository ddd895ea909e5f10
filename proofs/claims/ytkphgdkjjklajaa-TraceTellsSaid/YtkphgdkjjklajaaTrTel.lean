/-
  Tells and Apart of the reference: whether samples tell all suspects apart.
-/
import Derived.Test.YtkphgdkjjklajaaTrLaw
import Derived.Deep.AppendLies
import Derived.Deep.QuietTactic
import Derived.BigQuiet
set_option linter.unusedVariables false
set_option linter.unusedSimpArgs false
namespace Go.Proofs.Ytkphgdkjjklajaa
open Go.RowKit Go.Shelf Go.Sort

/-- a slice's head, as a cell -/
structure SlE (α : Type) where
  A : Option Addr
  n : Nat
  c : Nat
  b : Nat
  l : List α
def encE {α : Type} (x : SlE α) : List Value := [.slice x.A x.n x.c]
theorem encE_len {α : Type} (x : SlE α) : (encE x).length = 1 := rfl
theorem oneE {α : Type} (x : SlE α) : ∀ u ∈ encE x, u.oneCell' = true := by simp [encE, Value.oneCell']
theorem Sl.atE {α : Type} {w : World} {b n : Nat} {A : Option Addr} {l : List (SlE α)} (h : Sl encE 1 w b A n l) {k : Nat} (hk : k < l.length) :
    ∃ o, A = some ⟨b, o, none⟩ ∧ b < w.heap.size ∧ w.cell? ⟨b, o + k, none⟩ = some (.slice l[k].A l[k].n l[k].c) := by
  obtain ⟨o, h1, h2, h3⟩ := h.at_ hk
  exact ⟨o, h1, h2, by have := h3 0 _ rfl; simpa using this⟩

set_option maxHeartbeats 2000000 in
theorem rtells_any (x y : Span) (w : World) : Calls Try.prog 64 #[.agg #[.int .i64 x.lo, .int .i64 x.hi], .agg #[.int .i64 y.lo, .int .i64 y.hi]] w fun e w' => e = .returned (.bool (tellsT x y)) ∧ Below w.heap.size w w' := by
  have HR : tellsT x y = ((decide (0 < x.lo) && (y.hi == 0)) || (decide (0 < y.lo) && (x.hi == 0))) := by unfold tellsT; rw [Bool.eq_iff_iff]; simp
  have hb0 := (Blk.new w 48 #[.int .i64 x.lo, .int .i64 x.hi]).alloc (.cells #[.int .i64 y.lo, .int .i64 y.hi] 48)
  have hb1 := Blk.new (w.alloc (.cells #[.int .i64 x.lo, .int .i64 x.hi] 48)) 48 #[.int .i64 y.lo, .int .i64 y.hi]
  rw [World.size_alloc] at hb1
  have HV := Lib.hid (((Below.refl _ w).alloc (Nat.le_refl _) (.cells #[.int .i64 x.lo, .int .i64 x.hi] 48)).alloc (by simp) (.cells #[.int .i64 y.lo, .int .i64 y.hi] 48))
  have p0 := hb0.cell 0
  have p1 := hb0.cell 1
  have q0 := hb1.cell 0
  have q1 := hb1.cell 1
  have HR := Lib.hid HR
  clear hb0 hb1
  go_enter Try.func64, Try.ntmps64
  cases hb1 : decide (0 < x.lo)
  · cases hb3 : decide (0 < y.lo)
    · rw [hb1, hb3] at HR
      go_wp2_with fail
      go_ret
      exact ⟨by rw [HR.out]; rfl, HV.out⟩
    · cases hb4 : (x.hi == 0)
      all_goals
        rw [hb1, hb3, hb4] at HR
        go_wp2_with fail
        go_ret
        exact ⟨by rw [HR.out]; rfl, HV.out⟩
  · cases hb2 : (y.hi == 0)
    · cases hb3 : decide (0 < y.lo)
      · rw [hb1, hb2, hb3] at HR
        go_wp2_with fail
        go_ret
        exact ⟨by rw [HR.out]; rfl, HV.out⟩
      · cases hb4 : (x.hi == 0)
        all_goals
          rw [hb1, hb2, hb3, hb4] at HR
          go_wp2_with fail
          go_ret
          exact ⟨by rw [HR.out]; rfl, HV.out⟩
    · rw [hb1, hb2] at HR
      go_wp2_with fail
      go_ret
      exact ⟨by rw [HR.out]; rfl, HV.out⟩

def tellK (ks : List (List Span)) (xs : List Int) (i k : Nat) : Bool := xs.any fun b => tellsT (spanAt (ks.getD i []) b) (spanAt (ks.getD k []) b)
theorem apartK_yes {ks : List (List Span)} {xs : List Int} (h : ∀ i, i < ks.length → ∀ k, k < i → tellK ks xs i k = true) : apartT ks xs = true := by
  unfold apartT
  rw [List.all_eq_true]
  intro i hi
  rw [List.all_eq_true]
  intro k hk
  exact h i (List.mem_range.1 hi) k (List.mem_range.1 hk)
theorem apartK_no {ks : List (List Span)} {xs : List Int} {i k : Nat} (hi : i < ks.length) (hk : k < i) (h : tellK ks xs i k = false) : apartT ks xs = false := by
  cases h2 : apartT ks xs with
  | false => rfl
  | true =>
    unfold apartT at h2
    rw [List.all_eq_true] at h2
    have h3 := h2 i (List.mem_range.2 hi)
    rw [List.all_eq_true] at h3
    have h4 := h3 k (List.mem_range.2 hk)
    unfold tellK at h
    rw [h4] at h
    cases h
theorem tellK_snoc {ks : List (List Span)} {xs : List Int} {i k j : Nat} (hj : j < xs.length) : tellK ks (xs.take (j + 1)) i k = (tellK ks (xs.take j) i k || tellsT (spanAt (ks.getD i []) xs[j]) (spanAt (ks.getD k []) xs[j])) := by
  unfold tellK
  rw [List.take_succ_eq_append_getElem hj, List.any_append]
  simp
/-- what is known of suspects, as it lies -/
structure KnownAt (W : World) (b n nb : Nat) (A : Option Addr) (ks : List (SlE Span)) : Prop where
  row : Sl encE 1 W b A n ks
  each : ∀ x ∈ ks, Sl encR 2 W x.b x.A x.n x.l ∧ x.n = nb
theorem KnownAt.old {W W' : World} {b n nb : Nat} {A : Option Addr} {ks : List (SlE Span)} (h : KnownAt W b n nb A ks) (hb : Below W.heap.size W W') : KnownAt W' b n nb A ks := ⟨h.row.old hb, fun x hx => ⟨(h.each x hx).1.old hb, (h.each x hx).2⟩⟩
theorem KnownAt.at_ {W : World} {b n nb : Nat} {A : Option Addr} {ks : List (SlE Span)} (h : KnownAt W b n nb A ks) {i k : Nat} (hi : i < ks.length) (hk : k < nb) :
    ∃ o ox cx bx X, A = some ⟨b, o, none⟩ ∧ X = spanAt ((ks.map (·.l)).getD i []) k ∧ b < W.heap.size ∧ bx < W.heap.size ∧ W.cell? ⟨b, o + i, none⟩ = some (.slice (some ⟨bx, ox, none⟩) nb cx) ∧ W.cell? ⟨bx, ox + k * 2, none⟩ = some (.int .i64 X.lo) ∧ W.cell? ⟨bx, ox + k * 2 + 1, none⟩ = some (.int .i64 X.hi) := by
  obtain ⟨o, rfl, h2, h3⟩ := h.row.atE hi
  obtain ⟨h4, h5⟩ := h.each ks[i] (List.getElem_mem hi)
  have hl := h4.len
  obtain ⟨ox, hA, h6, h7, h8⟩ := h4.atR (k := k) (by omega)
  have e : spanAt ((ks.map (·.l)).getD i []) k = (ks[i].l)[k]'(by omega) := by
    unfold spanAt
    have : (ks.map (·.l)).getD i [] = ks[i].l := by simp [List.getD_eq_getElem?_getD, hi]
    rw [this, Int.toNat_natCast, List.getD_eq_getElem?_getD, List.getElem?_eq_getElem (by omega)]; rfl
  rw [hA, h5] at h3
  exact ⟨o, ox, ks[i].c, ks[i].b, _, rfl, rfl, h2, h6, h3, by rw [e]; exact h7, by rw [e]; exact h8⟩

set_option maxRecDepth 100000 in
set_option maxHeartbeats 4000000 in
theorem rapart_any (b n c nb b2 m c2 : Nat) (A A2 : Option Addr) (ks : List (SlE Span)) (xs : List Int) (w : World) (hK : KnownAt w b n nb A ks) (hx : Sl encI 1 w b2 A2 m xs) (hn : n ≤ 100) (hm : m ≤ 100) (hnb : nb ≤ 100) (hxs : ∀ x ∈ xs, 0 ≤ x ∧ x < nb) :
    Calls Try.prog 30 #[.slice A n c, .slice A2 m c2] w fun e w' => e = .returned (.bool (apartT (ks.map (·.l)) xs)) ∧ Below w.heap.size w w' := by
  have HK := Lib.hid hK
  have HX := Lib.hid hx
  have HKL := Lib.hid hK.row.len
  have HXL := Lib.hid hx.len
  have HXS := Lib.hid hxs
  clear hK hx hxs
  go_enter Try.func30, Try.ntmps30
  go_wp2_with fail
  go_loopw [5] (fun i wr => ∃ k : Nat, k ≤ n ∧ i = .int .i64 k ∧ Below w.heap.size w wr ∧ ∀ i, i < k → ∀ j, j < i → tellK (ks.map (·.l)) xs i j = true) (fun i _ => n - (intOf i).toNat)
  case atStart => exact ⟨0, Nat.zero_le _, rfl, Below.refl _ _, fun i hi => absurd hi (Nat.not_lt_zero _)⟩
  case round =>
    obtain ⟨i0, hi0, rfl, hB, hti⟩ := hrel
    have HB := Lib.hid hB
    have HTI := Lib.hid hti
    have hz := hB.size
    clear hB hti
    by_cases hlt : i0 < n
    · go_wp2_with fail
      obtain ⟨wo, rfl⟩ : ∃ wo : World, wo = wr := ⟨_, rfl⟩
      go_loopw [6] (fun i wi => ∃ j : Nat, j ≤ i0 ∧ i = .int .i64 j ∧ Below wo.heap.size wo wi ∧ ∀ j', j' < j → tellK (ks.map (·.l)) xs i0 j' = true) (fun i _ => i0 - (intOf i).toNat)
      case atStart => exact ⟨0, Nat.zero_le _, rfl, Below.refl _ _, fun i hi => absurd hi (Nat.not_lt_zero _)⟩
      case round =>
        obtain ⟨j0, hj0, rfl, hBj, htj⟩ := hrel
        have HBJ := Lib.hid (HB.out.trans (hBj.mono hz))
        have HBO := Lib.hid hBj
        have HTJ := Lib.hid htj
        have hzj := HBJ.out.size
        clear hBj htj
        by_cases hlt2 : j0 < i0
        · go_wp2_with fail
          obtain ⟨wq, rfl⟩ : ∃ wq : World, wq = wr := ⟨_, rfl⟩
          go_loopw [7, 8] (fun v i ws => ∃ s : Nat, s ≤ m ∧ i = .int .i64 s ∧ v = .bool (tellK (ks.map (·.l)) (xs.take s) i0 j0) ∧ Below wq.heap.size wq ws) (fun _ i _ => m - (intOf i).toNat)
          case atStart => exact ⟨0, Nat.zero_le _, rfl, by simp [tellK], Below.refl _ _⟩
          case round =>
            obtain ⟨s, hs, rfl, rfl, hBs⟩ := hrel
            have HBS := Lib.hid (HBJ.out.trans (hBs.mono hzj))
            have HBQ := Lib.hid hBs
            clear hBs
            by_cases hlt3 : s < m
            · have hsl : s < xs.length := by have := HXL.out; omega
              have HTS := Lib.hid (tellK_snoc (ks := ks.map (·.l)) (i := i0) (k := j0) hsl)
              obtain ⟨o2, rfl, hz2, s0⟩ := (HX.out.old HBS.out).atI hsl
              obtain ⟨y0, y1⟩ := HXS.out xs[s] (List.getElem_mem hsl)
              generalize xs[s] = y at s0 y0 y1 HTS
              obtain ⟨y, rfl⟩ := Int.eq_ofNat_of_zero_le y0
              generalize tellK (ks.map (·.l)) (xs.take s) i0 j0 = bb at HTS ⊢
              cases bb with
              | true =>
                go_upto_region 11 with fail
                refine wp_region_PL [] (fun _ => True) rfl (by kernel_rfl) (trivial) (fun hF0 => ?_)
                (refine wpAnyP_takeL (i := 0) (v := ?_) rfl (by kernel_rfl) (by kernel_rfl) (by kernel_rfl) (fun _ _ _ h => h) (by rfl) ?_ ?_; rotate_left 1; focus (intro w; go_simp; try with_reducible rfl))
                try simp only [Act.put, List.setIfInBounds_toArray, List.set_cons_zero, List.set_cons_succ]
                (refine wpAnyP_takeL (i := 1) (v := ?_) rfl (by kernel_rfl) (by kernel_rfl) (by kernel_rfl) (fun _ _ _ h => h) (by rfl) ?_ ?_; rotate_left 1; focus (intro w; go_simp; try with_reducible rfl))
                try simp only [Act.put, List.setIfInBounds_toArray, List.set_cons_zero, List.set_cons_succ]
                (refine wpAnyP_skipL (i := 2) rfl (by kernel_rfl) (by kernel_rfl) (by kernel_rfl) (fun _ _ _ h => h) (by rfl) ?_)
                try simp only [Act.put, List.setIfInBounds_toArray, List.set_cons_zero, List.set_cons_succ]
                (refine wpAnyP_skipL (i := 3) rfl (by kernel_rfl) (by kernel_rfl) (by kernel_rfl) (fun _ _ _ h => h) (by rfl) ?_)
                try simp only [Act.put, List.setIfInBounds_toArray, List.set_cons_zero, List.set_cons_succ]
                (refine wpAnyP_skipL (i := 4) rfl (by kernel_rfl) (by kernel_rfl) (by kernel_rfl) (fun _ _ _ h => h) (by rfl) ?_)
                try simp only [Act.put, List.setIfInBounds_toArray, List.set_cons_zero, List.set_cons_succ]
                (refine wpAnyP_skipL (i := 5) rfl (by kernel_rfl) (by kernel_rfl) (by kernel_rfl) (fun _ _ _ h => h) (by rfl) ?_)
                try simp only [Act.put, List.setIfInBounds_toArray, List.set_cons_zero, List.set_cons_succ]
                (refine wpAnyP_skipL (i := 6) rfl (by kernel_rfl) (by kernel_rfl) (by kernel_rfl) (fun _ _ _ h => h) (by rfl) ?_)
                try simp only [Act.put, List.setIfInBounds_toArray, List.set_cons_zero, List.set_cons_succ]
                (refine wpAnyP_skipL (i := 7) rfl (by kernel_rfl) (by kernel_rfl) (by kernel_rfl) (fun _ _ _ h => h) (by rfl) ?_)
                try simp only [Act.put, List.setIfInBounds_toArray, List.set_cons_zero, List.set_cons_succ]
                (refine wpAnyP_skipL (i := 8) rfl (by kernel_rfl) (by kernel_rfl) (by kernel_rfl) (fun _ _ _ h => h) (by rfl) ?_)
                try simp only [Act.put, List.setIfInBounds_toArray, List.set_cons_zero, List.set_cons_succ]
                (refine wpAnyP_skipL (i := 9) rfl (by kernel_rfl) (by kernel_rfl) (by kernel_rfl) (fun _ _ _ h => h) (by rfl) ?_)
                try simp only [Act.put, List.setIfInBounds_toArray, List.set_cons_zero, List.set_cons_succ]
                (refine wpAnyP_skipL (i := 10) rfl (by kernel_rfl) (by kernel_rfl) (by kernel_rfl) (fun _ _ _ h => h) (by rfl) ?_)
                try simp only [Act.put, List.setIfInBounds_toArray, List.set_cons_zero, List.set_cons_succ]
                (refine wpAnyP_skipL (i := 11) rfl (by kernel_rfl) (by kernel_rfl) (by kernel_rfl) (fun _ _ _ h => h) (by rfl) ?_)
                try simp only [Act.put, List.setIfInBounds_toArray, List.set_cons_zero, List.set_cons_succ]
                (refine wpAnyP_skipL (i := 12) rfl (by kernel_rfl) (by kernel_rfl) (by kernel_rfl) (fun _ _ _ h => h) (by rfl) ?_)
                try simp only [Act.put, List.setIfInBounds_toArray, List.set_cons_zero, List.set_cons_succ]
                (refine wpAnyP_skipL (i := 13) rfl (by kernel_rfl) (by kernel_rfl) (by kernel_rfl) (fun _ _ _ h => h) (by rfl) ?_)
                try simp only [Act.put, List.setIfInBounds_toArray, List.set_cons_zero, List.set_cons_succ]
                (refine wpAnyP_skipL (i := 14) rfl (by kernel_rfl) (by kernel_rfl) (by kernel_rfl) (fun _ _ _ h => h) (by rfl) ?_)
                try simp only [Act.put, List.setIfInBounds_toArray, List.set_cons_zero, List.set_cons_succ]
                (refine wpAnyP_skipL (i := 15) rfl (by kernel_rfl) (by kernel_rfl) (by kernel_rfl) (fun _ _ _ h => h) (by rfl) ?_)
                try simp only [Act.put, List.setIfInBounds_toArray, List.set_cons_zero, List.set_cons_succ]
                (refine wpAnyP_skipL (i := 16) rfl (by kernel_rfl) (by kernel_rfl) (by kernel_rfl) (fun _ _ _ h => h) (by rfl) ?_)
                try simp only [Act.put, List.setIfInBounds_toArray, List.set_cons_zero, List.set_cons_succ]
                (refine wpAnyP_skipL (i := 17) rfl (by kernel_rfl) (by kernel_rfl) (by kernel_rfl) (fun _ _ _ h => h) (by rfl) ?_)
                try simp only [Act.put, List.setIfInBounds_toArray, List.set_cons_zero, List.set_cons_succ]
                (refine wpAnyP_skipL (i := 18) rfl (by kernel_rfl) (by kernel_rfl) (by kernel_rfl) (fun _ _ _ h => h) (by rfl) ?_)
                try simp only [Act.put, List.setIfInBounds_toArray, List.set_cons_zero, List.set_cons_succ]
                (refine wpAnyP_skipL (i := 19) rfl (by kernel_rfl) (by kernel_rfl) (by kernel_rfl) (fun _ _ _ h => h) (by rfl) ?_)
                try simp only [Act.put, List.setIfInBounds_toArray, List.set_cons_zero, List.set_cons_succ]
                (refine wpAnyP_skipL (i := 20) rfl (by kernel_rfl) (by kernel_rfl) (by kernel_rfl) (fun _ _ _ h => h) (by rfl) ?_)
                try simp only [Act.put, List.setIfInBounds_toArray, List.set_cons_zero, List.set_cons_succ]
                (refine wpAnyP_skipL (i := 21) rfl (by kernel_rfl) (by kernel_rfl) (by kernel_rfl) (fun _ _ _ h => h) (by rfl) ?_)
                try simp only [Act.put, List.setIfInBounds_toArray, List.set_cons_zero, List.set_cons_succ]
                (refine wpAnyP_skipL (i := 22) rfl (by kernel_rfl) (by kernel_rfl) (by kernel_rfl) (fun _ _ _ h => h) (by rfl) ?_)
                try simp only [Act.put, List.setIfInBounds_toArray, List.set_cons_zero, List.set_cons_succ]
                (refine wpAnyP_takeL (i := 23) (v := ?_) rfl (by kernel_rfl) (by kernel_rfl) (by kernel_rfl) (fun _ _ _ h => h) (by rfl) ?_ ?_; rotate_left 1; focus (intro w; go_simp; try with_reducible rfl))
                try simp only [Act.put, List.setIfInBounds_toArray, List.set_cons_zero, List.set_cons_succ]
                (refine wpAnyP_takeL (i := 24) (v := ?_) rfl (by kernel_rfl) (by kernel_rfl) (by kernel_rfl) (fun _ _ _ h => h) (by rfl) ?_ ?_; rotate_left 1; focus (intro w; go_simp; try with_reducible rfl))
                try simp only [Act.put, List.setIfInBounds_toArray, List.set_cons_zero, List.set_cons_succ]
                refine wpAnyP_done (by kernel_rfl) ?_ _
                go_wp2_with fail
                go_roundw
                case rel => exact ⟨s + 1, by omega, by go_num, by rw [HTS.out]; simp, HBQ.out.drew⟩
                case measure => simp [intOf]; omega
              | false =>
                obtain ⟨o, ox, cx, bx, X, rfl, hX, hz3, hz4, k0, k1, k2⟩ := (HK.out.old HBS.out).at_ (i := i0) (k := y) (by have := HKL.out; omega) (by omega)
                obtain ⟨o', oy, cy, by_, Y, ho', hY, hz5, hz6, l0, l1, l2⟩ := (HK.out.old HBS.out).at_ (i := j0) (k := y) (by have := HKL.out; omega) (by omega)
                obtain rfl : o' = o := by injection ho' with h; injection h with _ h; exact h.symm
                rw [← hX, ← hY] at HTS
                have i00 : (0 : Int) ≤ (i0 : Int) := by omega
                have i01 : (i0 : Int) < (n : Int) := by omega
                have j00 : (0 : Int) ≤ (j0 : Int) := by omega
                have j01 : (j0 : Int) < (n : Int) := by omega
                have s00 : (0 : Int) ≤ (s : Int) := by omega
                have s01 : (s : Int) < (m : Int) := by omega
                have HF := Lib.hid (show ∀ W, Below wr.heap.size wr W → W.cell? ⟨b, o' + i0, none⟩ = some (.slice (some ⟨bx, ox, none⟩) nb cx) ∧ W.cell? ⟨b2, o2 + s, none⟩ = some (.int .i64 y) ∧ W.cell? ⟨bx, ox + y * 2, none⟩ = some (.int .i64 X.lo) ∧ W.cell? ⟨bx, ox + y * 2 + 1, none⟩ = some (.int .i64 X.hi) ∧ W.cell? ⟨b, o' + j0, none⟩ = some (.slice (some ⟨by_, oy, none⟩) nb cy) ∧ W.cell? ⟨by_, oy + y * 2, none⟩ = some (.int .i64 Y.lo) ∧ W.cell? ⟨by_, oy + y * 2 + 1, none⟩ = some (.int .i64 Y.hi) from fun W h =>
                  ⟨(h.cell (p := ⟨b, o' + i0, none⟩) hz3).trans k0, (h.cell (p := ⟨b2, o2 + s, none⟩) hz2).trans s0, (h.cell (p := ⟨bx, ox + y * 2, none⟩) hz4).trans k1, (h.cell (p := ⟨bx, ox + y * 2 + 1, none⟩) hz4).trans k2, (h.cell (p := ⟨b, o' + j0, none⟩) hz3).trans l0, (h.cell (p := ⟨by_, oy + y * 2, none⟩) hz6).trans l1, (h.cell (p := ⟨by_, oy + y * 2 + 1, none⟩) hz6).trans l2⟩)
                clear k0 k1 k2 l0 l1 l2 s0 hX hY ho'
                go_upto_region 11 with fail
                have hM : Below wr.heap.size wr wr.drew := (Below.refl _ wr).drew
                refine wp_region_PL [5, 9, 11, 15, 19, 21] (fun W => W.cell? ⟨b, o' + i0, none⟩ = some (.slice (some ⟨bx, ox, none⟩) nb cx) ∧ W.cell? ⟨b2, o2 + s, none⟩ = some (.int .i64 y) ∧ W.cell? ⟨bx, ox + y * 2, none⟩ = some (.int .i64 X.lo) ∧ W.cell? ⟨bx, ox + y * 2 + 1, none⟩ = some (.int .i64 X.hi) ∧ W.cell? ⟨b, o' + j0, none⟩ = some (.slice (some ⟨by_, oy, none⟩) nb cy) ∧ W.cell? ⟨by_, oy + y * 2, none⟩ = some (.int .i64 Y.lo) ∧ W.cell? ⟨by_, oy + y * 2 + 1, none⟩ = some (.int .i64 Y.hi)) rfl (by kernel_rfl) (HF.out _ hM) (fun hF0 => ?_)
                (refine wpAnyP_takeL (i := 0) (v := ?_) rfl (by kernel_rfl) (by kernel_rfl) (by kernel_rfl) (fun _ _ _ h => h) (by rfl) ?_ ?_; rotate_left 1; focus (intro w; go_simp; try with_reducible rfl))
                try simp only [Act.put, List.setIfInBounds_toArray, List.set_cons_zero, List.set_cons_succ]
                (refine wpAnyP_takeL (i := 1) (v := ?_) rfl (by kernel_rfl) (by kernel_rfl) (by kernel_rfl) (fun _ _ _ h => h) (by rfl) ?_ ?_; rotate_left 1; focus (intro w; go_simp; try with_reducible rfl))
                try simp only [Act.put, List.setIfInBounds_toArray, List.set_cons_zero, List.set_cons_succ]
                (refine wpAnyP_takeL (i := 2) (v := ?_) rfl (by kernel_rfl) (by kernel_rfl) (by kernel_rfl) (fun _ _ _ h => h) (by rfl) ?_ ?_; rotate_left 1; focus (intro w; go_simp; try with_reducible rfl))
                try simp only [Act.put, List.setIfInBounds_toArray, List.set_cons_zero, List.set_cons_succ]
                (refine wpAnyP_takeL (i := 3) (v := ?_) rfl (by kernel_rfl) (by kernel_rfl) (by kernel_rfl) (fun _ _ _ h => h) (by rfl) ?_ ?_; rotate_left 1; focus (intro w; go_simp; try with_reducible rfl))
                try simp only [Act.put, List.setIfInBounds_toArray, List.set_cons_zero, List.set_cons_succ]
                (refine wpAnyP_takeL (i := 4) (v := ?_) rfl (by kernel_rfl) (by kernel_rfl) (by kernel_rfl) (fun _ _ _ h => h) (by rfl) ?_ ?_; rotate_left 1; focus (intro w; go_simp; try with_reducible rfl))
                try simp only [Act.put, List.setIfInBounds_toArray, List.set_cons_zero, List.set_cons_succ]
                (refine wpAnyP_loadL (i := 5) (v := ?_) rfl (by kernel_rfl) (by kernel_rfl) (by kernel_rfl) (by rfl) (fun _ _ _ h => h) hF0 (by rfl) ?_ ?_; rotate_left 1; focus (intro w hFw; (try dsimp only at hFw); go_split_ands; go_simp; try with_reducible rfl))
                try simp only [Act.put, List.setIfInBounds_toArray, List.set_cons_zero, List.set_cons_succ]
                (refine wpAnyP_takeL (i := 6) (v := ?_) rfl (by kernel_rfl) (by kernel_rfl) (by kernel_rfl) (fun _ _ _ h => h) (by rfl) ?_ ?_; rotate_left 1; focus (intro w; go_simp; try with_reducible rfl))
                try simp only [Act.put, List.setIfInBounds_toArray, List.set_cons_zero, List.set_cons_succ]
                (refine wpAnyP_takeL (i := 7) (v := ?_) rfl (by kernel_rfl) (by kernel_rfl) (by kernel_rfl) (fun _ _ _ h => h) (by rfl) ?_ ?_; rotate_left 1; focus (intro w; go_simp; try with_reducible rfl))
                try simp only [Act.put, List.setIfInBounds_toArray, List.set_cons_zero, List.set_cons_succ]
                (refine wpAnyP_takeL (i := 8) (v := ?_) rfl (by kernel_rfl) (by kernel_rfl) (by kernel_rfl) (fun _ _ _ h => h) (by rfl) ?_ ?_; rotate_left 1; focus (intro w; go_simp; try with_reducible rfl))
                try simp only [Act.put, List.setIfInBounds_toArray, List.set_cons_zero, List.set_cons_succ]
                (refine wpAnyP_loadL (i := 9) (v := ?_) rfl (by kernel_rfl) (by kernel_rfl) (by kernel_rfl) (by rfl) (fun _ _ _ h => h) hF0 (by rfl) ?_ ?_; rotate_left 1; focus (intro w hFw; (try dsimp only at hFw); go_split_ands; go_simp; try with_reducible rfl))
                try simp only [Act.put, List.setIfInBounds_toArray, List.set_cons_zero, List.set_cons_succ]
                (refine wpAnyP_takeL (i := 10) (v := ?_) rfl (by kernel_rfl) (by kernel_rfl) (by kernel_rfl) (fun _ _ _ h => h) (by rfl) ?_ ?_; rotate_left 1; focus (intro w; go_simp; try with_reducible rfl))
                try simp only [Act.put, List.setIfInBounds_toArray, List.set_cons_zero, List.set_cons_succ]
                (refine wpAnyP_loadL (i := 11) (v := ?_) rfl (by kernel_rfl) (by kernel_rfl) (by kernel_rfl) (by rfl) (fun _ _ _ h => h) hF0 (by rfl) ?_ ?_; rotate_left 1; focus (intro w hFw; (try dsimp only at hFw); go_split_ands; go_simp; try with_reducible rfl))
                try simp only [Act.put, List.setIfInBounds_toArray, List.set_cons_zero, List.set_cons_succ]
                (refine wpAnyP_takeL (i := 12) (v := ?_) rfl (by kernel_rfl) (by kernel_rfl) (by kernel_rfl) (fun _ _ _ h => h) (by rfl) ?_ ?_; rotate_left 1; focus (intro w; go_simp; try with_reducible rfl))
                try simp only [Act.put, List.setIfInBounds_toArray, List.set_cons_zero, List.set_cons_succ]
                (refine wpAnyP_takeL (i := 13) (v := ?_) rfl (by kernel_rfl) (by kernel_rfl) (by kernel_rfl) (fun _ _ _ h => h) (by rfl) ?_ ?_; rotate_left 1; focus (intro w; go_simp; try with_reducible rfl))
                try simp only [Act.put, List.setIfInBounds_toArray, List.set_cons_zero, List.set_cons_succ]
                (refine wpAnyP_takeL (i := 14) (v := ?_) rfl (by kernel_rfl) (by kernel_rfl) (by kernel_rfl) (fun _ _ _ h => h) (by rfl) ?_ ?_; rotate_left 1; focus (intro w; go_simp; try with_reducible rfl))
                try simp only [Act.put, List.setIfInBounds_toArray, List.set_cons_zero, List.set_cons_succ]
                (refine wpAnyP_loadL (i := 15) (v := ?_) rfl (by kernel_rfl) (by kernel_rfl) (by kernel_rfl) (by rfl) (fun _ _ _ h => h) hF0 (by rfl) ?_ ?_; rotate_left 1; focus (intro w hFw; (try dsimp only at hFw); go_split_ands; go_simp; try with_reducible rfl))
                try simp only [Act.put, List.setIfInBounds_toArray, List.set_cons_zero, List.set_cons_succ]
                (refine wpAnyP_takeL (i := 16) (v := ?_) rfl (by kernel_rfl) (by kernel_rfl) (by kernel_rfl) (fun _ _ _ h => h) (by rfl) ?_ ?_; rotate_left 1; focus (intro w; go_simp; try with_reducible rfl))
                try simp only [Act.put, List.setIfInBounds_toArray, List.set_cons_zero, List.set_cons_succ]
                (refine wpAnyP_takeL (i := 17) (v := ?_) rfl (by kernel_rfl) (by kernel_rfl) (by kernel_rfl) (fun _ _ _ h => h) (by rfl) ?_ ?_; rotate_left 1; focus (intro w; go_simp; try with_reducible rfl))
                try simp only [Act.put, List.setIfInBounds_toArray, List.set_cons_zero, List.set_cons_succ]
                (refine wpAnyP_takeL (i := 18) (v := ?_) rfl (by kernel_rfl) (by kernel_rfl) (by kernel_rfl) (fun _ _ _ h => h) (by rfl) ?_ ?_; rotate_left 1; focus (intro w; go_simp; try with_reducible rfl))
                try simp only [Act.put, List.setIfInBounds_toArray, List.set_cons_zero, List.set_cons_succ]
                (refine wpAnyP_loadL (i := 19) (v := ?_) rfl (by kernel_rfl) (by kernel_rfl) (by kernel_rfl) (by rfl) (fun _ _ _ h => h) hF0 (by rfl) ?_ ?_; rotate_left 1; focus (intro w hFw; (try dsimp only at hFw); go_split_ands; go_simp; try with_reducible rfl))
                try simp only [Act.put, List.setIfInBounds_toArray, List.set_cons_zero, List.set_cons_succ]
                (refine wpAnyP_takeL (i := 20) (v := ?_) rfl (by kernel_rfl) (by kernel_rfl) (by kernel_rfl) (fun _ _ _ h => h) (by rfl) ?_ ?_; rotate_left 1; focus (intro w; go_simp; try with_reducible rfl))
                try simp only [Act.put, List.setIfInBounds_toArray, List.set_cons_zero, List.set_cons_succ]
                (refine wpAnyP_loadL (i := 21) (v := ?_) rfl (by kernel_rfl) (by kernel_rfl) (by kernel_rfl) (by rfl) (fun _ _ _ h => h) hF0 (by rfl) ?_ ?_; rotate_left 1; focus (intro w hFw; (try dsimp only at hFw); go_split_ands; go_simp; try with_reducible rfl))
                try simp only [Act.put, List.setIfInBounds_toArray, List.set_cons_zero, List.set_cons_succ]
                refine wpAnyP_step (i := 22) rfl (by kernel_rfl) (by rfl) (fun K hK => ?_)
                go_simp
                (refine (rtells_any X Y _).mono ?_; rintro e wt ⟨rfl, hBt⟩; have hM := hM.trans (hBt.mono hM.size))
                (refine hK _ _ (HF.out _ hM) (fun hF1 => ?_); clear hK K hF0)
                try simp only [Act.put, List.setIfInBounds_toArray, List.set_cons_zero, List.set_cons_succ]
                (refine wpAnyP_takeL (i := 23) (v := ?_) rfl (by kernel_rfl) (by kernel_rfl) (by kernel_rfl) (fun _ _ _ h => h) (by rfl) ?_ ?_; rotate_left 1; focus (intro w; go_simp; try with_reducible rfl))
                try simp only [Act.put, List.setIfInBounds_toArray, List.set_cons_zero, List.set_cons_succ]
                (refine wpAnyP_takeL (i := 24) (v := ?_) rfl (by kernel_rfl) (by kernel_rfl) (by kernel_rfl) (fun _ _ _ h => h) (by rfl) ?_ ?_; rotate_left 1; focus (intro w; go_simp; try with_reducible rfl))
                try simp only [Act.put, List.setIfInBounds_toArray, List.set_cons_zero, List.set_cons_succ]
                refine wpAnyP_done (by kernel_rfl) ?_ _
                have HM := Lib.hid hM
                clear hM
                go_wp2_with fail
                go_roundw
                case rel => exact ⟨s + 1, by omega, by go_num, by rw [HTS.out]; simp, HBQ.out.trans (HM.out.mono HBQ.out.size)⟩
                case measure => simp [intOf]; omega
            · obtain rfl : m = s := by omega
              have htk : xs.take m = xs := List.take_of_length_le (by have := HXL.out; omega)
              rw [htk]
              cases hres : tellK (ks.map (·.l)) xs i0 j0 with
              | true =>
                have HRES := Lib.hid hres
                clear hres htk
                go_wp2_with fail
                go_roundw
                case rel =>
                  refine ⟨j0 + 1, by omega, by go_num, HBO.out.trans (HBQ.out.mono HBO.out.size), fun j' hj' => ?_⟩
                  by_cases hjj : j' = j0
                  · subst hjj; exact HRES.out
                  · exact HTJ.out j' (by omega)
                case measure => simp [intOf]; omega
              | false =>
                have HRES := Lib.hid (apartK_no (ks := ks.map (·.l)) (by rw [List.length_map]; have := HKL.out; omega) hlt2 hres)
                clear hres htk
                go_wp2_with fail
                go_ret
                exact ⟨by rw [HRES.out]; rfl, HBS.out⟩
        · obtain rfl : i0 = j0 := by omega
          go_wp2_with fail
          go_roundw
          case rel =>
            refine ⟨i0 + 1, by omega, by go_num, HBJ.out, fun i hi j hj => ?_⟩
            by_cases hii : i = i0
            · subst hii; exact HTJ.out j hj
            · exact HTI.out i (by omega) j hj
          case measure => simp [intOf]; omega
    · obtain rfl : n = i0 := by omega
      have HRES := Lib.hid (apartK_yes (ks := ks.map (·.l)) (xs := xs) (by rw [List.length_map, ← HKL.out]; exact HTI.out))
      go_wp2_with fail
      go_ret
      exact ⟨by rw [HRES.out]; rfl, HB.out⟩
end Go.Proofs.Ytkphgdkjjklajaa
