/-
  The walk of the law PriceAudits.
-/
import Derived.Test.YtkcdknjgjidnnaaNums
import Derived.Test.YtkcdknjgjidnnaaAwake
import Derived.Test.YtkcdknjgjidnnaaRSeal
import Derived.Test.YtkcdknjgjidnnaaSealW
import Derived.Test.YtkcdknjgjidnnaaRPick
import Derived.Test.YtkcdknjgjidnnaaRAud
import Derived.Test.YtkcdknjgjidnnaaFindsOf
import Derived.Test.YtkcdknjgjidnnaaOpenBook
import Derived.Test.YtkcdknjgjidnnaaSealLaw
import Derived.Test.YtkcdknjgjidnnaaPriceAuditsI
import Derived.Deep.QuietTactic
import Derived.Deep.CutRange
import Derived.BigQuiet
set_option linter.unusedVariables false
set_option linter.unusedSimpArgs false
namespace Go.Proofs.Ytkcdknjgjidnnaa
open Go.RowKit

def audS (o : Int × List Sale) (x : Int) : Int := if o.1 = 0 then x else 0
theorem AudPost.to {st gd : Int} {o : Int × List Sale} {w w' : World} {e : Ending} (h : AudPost st gd o w e w') : ∃ (A' : Option Addr) (m c' b' : Nat), e = .returned (.tuple #[.agg #[.int .i64 (audS o st), .int .i64 (audS o gd), .slice A' m c'], .int .i64 o.1]) ∧ Sl encS 6 w' b' A' m o.2 ∧ w.heap.size ≤ b' ∧ Below w.heap.size w w' := h
theorem audited_le (st gd : Int) (l : List Sale) (fs : List Found) : (audited st gd l fs).2.length ≤ l.length := by
  rw [audited_chk]
  split
  · exact Nat.le_of_eq (applyF_len _ _)
  · exact Nat.zero_le _
theorem pickOut_le (st gd : Int) (l : List Sale) (x m : Int) : (pickOut st gd l x m).length ≤ 10 := by
  unfold pickOut
  split
  · rename_i h
    rw [pickL_len]
    unfold pickErr at h
    split at h
    · rename_i h1; exact absurd h h1
    · split at h
      · simp at h
      · rename_i h2
        simp only [Bool.or_eq_true, Bool.not_eq_true', not_or, Bool.not_eq_false] at h2
        have := (inB_iff.1 h2.2).2
        omega
  · simp

set_option maxRecDepth 100000 in
set_option maxHeartbeats 8000000 in
theorem priceAudits_any (st gd : Int) (b n c : Nat) (A : Option Addr) (l : List Sale) (num many : Int) (b5 n5 c5 : Nat) (A5 : Option Addr) (l5 : List Found) (fd : Found) (A9 : Option Addr) (n9 c9 : Nat) (w : World)
    (hl : Sl encS 6 w b A n l) (hn : n ≤ 9223372036854775807) (hnum : (Lit.int .i64 num).wf = true) (hmany : (Lit.int .i64 many).wf = true) (hl5 : Sl encF 3 w b5 A5 n5 l5) (hn5 : n5 ≤ 9223372036854775807) (hN : Nums w A9 n9) :
    Calls Try.prog 13 #[.agg #[.int .i64 st, .int .i64 gd, .slice A n c], .int .i64 num, .int .i64 many, .slice A5 n5 c5, .agg (encF fd).toArray, .slice A9 n9 c9] w fun e w' => e = .returned (.bool true) ∧ Below w.heap.size w w' := by
  show Calls Try.prog 13 #[.agg #[.int .i64 st, .int .i64 gd, .slice A n c], .int .i64 num, .int .i64 many, .slice A5 n5 c5, .agg #[.int .i64 fd.sa, .int .i64 fd.gr, .int .i64 fd.ce], .slice A9 n9 c9] w _
  obtain ⟨b9, l9, hl9, hw9, hn9⟩ := hN
  have HW9 := Lib.hid hw9
  have B0 : Below w.heap.size w ((w.alloc (.cells #[.int .i64 st, .int .i64 gd, .slice A n c] 24)).alloc (.cells #[.int .i64 fd.sa, .int .i64 fd.gr, .int .i64 fd.ce] 78)) := by go_grown
  have K0 := (Blk.new w 24 #[.int .i64 st, .int .i64 gd, .slice A n c]).alloc (.cells #[.int .i64 fd.sa, .int .i64 fd.gr, .int .i64 fd.ce] 78)
  have KS := Blk.new (w.alloc (.cells #[.int .i64 st, .int .i64 gd, .slice A n c] 24)) 78 #[.int .i64 fd.sa, .int .i64 fd.gr, .int .i64 fd.ce]
  rw [World.size_alloc] at KS
  have H0 := Lib.hid (And.intro B0 (And.intro K0 KS))
  have HL := Lib.hid hl
  have HL5 := Lib.hid hl5
  have HL9 := Lib.hid hl9
  clear B0 K0 KS hl hl5 hl9 hw9 hnum hmany
  by_cases h60 : 60 < n
  · have hb60 : decide ((60 : Int) < (n : Int)) = true := by simp; omega
    go_enter Try.func13, Try.ntmps13
    go_wp2_with fail
    refine (awake_any _).mono ?_
    rintro e w1 ⟨rfl, hB1⟩
    have L1 := Lib.hid (Below.step hB1 H0.out.1 (Nat.le_refl _))
    clear hB1
    go_wp2_with fail
    go_ret
    exact ⟨rfl, L1.out⟩
  have hb60 : decide ((60 : Int) < (n : Int)) = false := by simp; omega
  have hn60 : n ≤ 60 := by omega
  clear h60
  by_cases h15 : 60 < n5
  · have hb15 : decide ((60 : Int) < (n5 : Int)) = true := by simp; omega
    go_enter Try.func13, Try.ntmps13
    go_wp2_with fail
    refine (awake_any _).mono ?_
    rintro e w1 ⟨rfl, hB1⟩
    have L1 := Lib.hid (Below.step hB1 H0.out.1 (Nat.le_refl _))
    clear hB1
    go_wp2_with fail
    go_ret
    exact ⟨rfl, L1.out⟩
  have hb15 : decide ((60 : Int) < (n5 : Int)) = false := by simp; omega
  have hn15 : n5 ≤ 60 := by omega
  clear h15
  obtain ⟨i0, hi, iz0, iz1, iz2⟩ := info_parts info_found
  go_enter Try.func13, Try.ntmps13
  go_wp2_with fail
  refine (dieOf_any b9 n9 c9 A9 l9 _ (HL9.out.old H0.out.1) hn9 HW9.out).mono ?_
  rintro e w1 ⟨d, hd, rfl, hdie, hB1⟩
  simp only [World.size_alloc] at hd
  have H1 := Lib.hid (And.intro (Below.step hB1 H0.out.1 (Nat.le_refl _)) (And.intro (H0.out.2.1.below hB1 H0.out.2.1.lt) (H0.out.2.2.below hB1 H0.out.2.2.lt)))
  have hz1 := hB1.size
  simp only [World.size_alloc] at hz1
  clear hB1 H0
  go_wp2_with fail
  refine (bookOf_any d 3 3 10 _ hdie (by omega) (by omega) (by omega) (by omega) (by omega)).mono ?_
  rintro e w2 ⟨st1, gd1, b1, m1, c1, A1, l1, ⟨hs1, hs2, hg1, hg2, hm1, hok1⟩, rfl, hb1, hb1d, hsl1, hd2, hgr2⟩
  have H2 := Lib.hid (And.intro (Below.stepG hgr2 H1.out.1 (Nat.le_refl _) (by omega)) (And.intro (H1.out.2.1.grown hgr2 (fun e => by injection e; omega)) (H1.out.2.2.grown hgr2 (fun e => by injection e; omega))))
  have hz2 := hgr2.size
  have hdz := hd2.lt
  have S2 := Lib.hid (hsl1.alloc (.cells #[.int .i64 st1, .int .i64 gd1, .slice A1 m1 c1] 24))
  have D2 := Lib.hid (hd2.alloc (.cells #[.int .i64 st1, .int .i64 gd1, .slice A1 m1 c1] 24))
  have K2 := Lib.hid (Blk.new w2 24 #[.int .i64 st1, .int .i64 gd1, .slice A1 m1 c1])
  have H3 := Lib.hid (And.intro (H2.out.1.alloc (by omega) (.cells #[.int .i64 st1, .int .i64 gd1, .slice A1 m1 c1] 24)) (And.intro (H2.out.2.1.alloc (.cells #[.int .i64 st1, .int .i64 gd1, .slice A1 m1 c1] 24)) (H2.out.2.2.alloc (.cells #[.int .i64 st1, .int .i64 gd1, .slice A1 m1 c1] 24))))
  have HOK := Lib.hid hok1
  have e0 := K2.out.cell 0
  have e1 := K2.out.cell 1
  have e2 := K2.out.cell 2
  clear hok1 hgr2 hdie hsl1 hd2 H1 H2
  go_wp2_with fail
  refine (findsOf_any d st1 gd1 b1 m1 c1 A1 l1 _ D2.out S2.out hb1d HOK.out (by omega)).mono ?_
  rintro e w3 ⟨b3, m3, c3, A3, l3, _, _, hm3, rfl, hb3, hb3d, hsl3, hd3, hg3⟩
  have hz3 := hg3.size
  simp only [World.size_alloc] at hz3 hb3
  have S3 := Lib.hid (S2.out.grown hg3 (fun _ e => hb1d (by injection e)))
  have K3 := Lib.hid (K2.out.grown hg3 (fun e => by injection e; omega))
  have H4 := Lib.hid (And.intro (Below.stepG hg3 H3.out.1 (Nat.le_refl _) (by omega)) (And.intro (H3.out.2.1.grown hg3 (fun e => by injection e; omega)) (H3.out.2.2.grown hg3 (fun e => by injection e; omega))))
  have P3 := Lib.hid hsl3
  have D3 := Lib.hid hd3
  clear hsl3 hd3 hg3 S2 D2 K2 H3 e0 e1 e2
  have hK : AK w d w.heap.size w2.heap.size (w.heap.size + 1) w3.heap.size ⟨st, gd, A, n, c, b, l⟩ ⟨st1, gd1, A1, m1, c1, b1, l1⟩ ⟨A5, n5, c5, b5, l5⟩ ⟨A3, m3, c3, b3, l3⟩ fd w3 := by
    refine ⟨H4.out.1, D3.out, H4.out.2.1, K3.out, H4.out.2.2, ⟨HL.out.old H4.out.1, fun hh => ?_, hn60⟩, ⟨S3.out, fun _ => hb1d, ?_⟩, ⟨HL5.out.old H4.out.1, fun hh => ?_, hn15⟩, ⟨P3.out, fun _ => hb3d, ?_⟩, by omega, by omega, by omega, by omega, Nat.le_refl _, D3.out.lt, by omega, K3.out.lt, by omega, fun hh => ?_, fun hh => S3.out.lt hh, fun hh => ?_, fun hh => P3.out.lt hh⟩
    · have := HL.out.lt hh; show b ≠ d; omega
    · show m1 ≤ 60; omega
    · have := HL5.out.lt hh; show b5 ≠ d; omega
    · show m3 ≤ 60; omega
    · have := HL.out.lt hh; show b < w3.heap.size; omega
    · have := HL5.out.lt hh; show b5 < w3.heap.size; omega
  have HK := Lib.hid hK
  clear hK S3 K3 P3 D3 H4
  generalize hx0 : (⟨st, gd, A, n, c, b, l⟩ : BookD) = x0 at HK
  generalize hx1 : (⟨st1, gd1, A1, m1, c1, b1, l1⟩ : BookD) = x1 at HK
  generalize hy0 : (⟨A5, n5, c5, b5, l5⟩ : SlD Found) = y0 at HK
  generalize hy1 : (⟨A3, m3, c3, b3, l3⟩ : SlD Found) = y1 at HK
  have e5 : Value.slice A5 n5 c5 = .slice y0.A y0.n y0.c := by rw [← hy0]
  have e3 : Value.slice A3 m3 c3 = .slice y1.A y1.n y1.c := by rw [← hy1]
  have hx1n : x1.n ≤ 10 := by rw [← hx1]; exact hm1
  have hy1n : y1.n ≤ 40 := by rw [← hy1]; exact hm3
  simp only [e5, e3]
  clear hx0 hx1 hy0 hy1 e5 e3
  go_upto_region 6 with fail
  go_cut [16, 17, 18, 19] from 53 to 87 (fun p q r t wx => ∃ (g1 g2 g3 g4 : Nat) (v1 v2 v3 : Int) (y2 : SlD Found), p = .slice (some ⟨g1, 0, none⟩) 4 4 ∧ q = .slice (some ⟨g2, 0, none⟩) 4 4 ∧ r = .slice (some ⟨g3, 0, none⟩) 4 4 ∧ t = .slice (some ⟨g4, 0, none⟩) 4 4 ∧
    Blk wx g1 24 (B12 x0 x1) ∧ Blk wx g2 3 #[.int .i64 num, .int .i64 v1, .int .i64 num, .int .i64 v2] ∧ Blk wx g3 3 #[.int .i64 many, .int .i64 v3, .int .i64 many, .int .i64 x1.n] ∧ Blk wx g4 74 #[.slice y0.A y0.n y0.c, .slice y1.A y1.n y1.c, .slice y2.A y2.n y2.c, .slice y0.A y0.n y0.c] ∧ AwayL encF 3 61 d wx y2 ∧ AK w d w.heap.size w2.heap.size (w.heap.size + 1) w3.heap.size x0 x1 y0 y1 fd wx)
  case first =>
    have hK := HK.out.drew
    have HWR := Lib.hid (wrap_in' (x := (x1.n : Int) + 2) (by omega) (by omega))
    refine wp_region_K2 [0, 1, 2, 3, 15, 21, 29] [] (fun W => (W.cell? ⟨w.heap.size, 0, none⟩ = some (.int .i64 x0.st) ∧ W.cell? ⟨w.heap.size, 1, none⟩ = some (.int .i64 x0.gd) ∧ W.cell? ⟨w.heap.size, 2, none⟩ = some (.slice x0.A x0.n x0.c)) ∧ (W.cell? ⟨w2.heap.size, 0, none⟩ = some (.int .i64 x1.st) ∧ W.cell? ⟨w2.heap.size, 1, none⟩ = some (.int .i64 x1.gd) ∧ W.cell? ⟨w2.heap.size, 2, none⟩ = some (.slice x1.A x1.n x1.c)) ∧ (W.cell? ⟨w.heap.size + 1, 0, none⟩ = some (.int .i64 fd.sa) ∧ W.cell? ⟨w.heap.size + 1, 1, none⟩ = some (.int .i64 fd.gr) ∧ W.cell? ⟨w.heap.size + 1, 2, none⟩ = some (.int .i64 fd.ce))) (fun _ => True) rfl (by kernel_rfl) (hK.cells) (trivial) (fun hF0 hG0 => ?_)
    (refine wpAnyK_loadL Keep2.refl (i := 0) (v := ?_) rfl (Keep2.left (i := 0) (by rfl)) (by kernel_rfl) (by kernel_rfl) (by kernel_rfl) (fun _ _ _ h => h) hF0 (by rfl) ?_ ?_; rotate_left 1; focus (intro w hFw; (try dsimp only at hFw); go_split_ands; go_simp; try with_reducible rfl))
    try simp only [Act.put, List.setIfInBounds_toArray, List.set_cons_zero, List.set_cons_succ]
    (refine wpAnyK_loadL Keep2.refl (i := 1) (v := ?_) rfl (Keep2.left (i := 1) (by rfl)) (by kernel_rfl) (by kernel_rfl) (by kernel_rfl) (fun _ _ _ h => h) hF0 (by rfl) ?_ ?_; rotate_left 1; focus (intro w hFw; (try dsimp only at hFw); go_split_ands; go_simp; try with_reducible rfl))
    try simp only [Act.put, List.setIfInBounds_toArray, List.set_cons_zero, List.set_cons_succ]
    (refine wpAnyK_loadL Keep2.refl (i := 2) (v := ?_) rfl (Keep2.left (i := 2) (by rfl)) (by kernel_rfl) (by kernel_rfl) (by kernel_rfl) (fun _ _ _ h => h) hF0 (by rfl) ?_ ?_; rotate_left 1; focus (intro w hFw; (try dsimp only at hFw); go_split_ands; go_simp; try with_reducible rfl))
    try simp only [Act.put, List.setIfInBounds_toArray, List.set_cons_zero, List.set_cons_succ]
    (refine wpAnyK_loadL Keep2.refl (i := 3) (v := ?_) rfl (Keep2.left (i := 3) (by rfl)) (by kernel_rfl) (by kernel_rfl) (by kernel_rfl) (fun _ _ _ h => h) hF0 (by rfl) ?_ ?_; rotate_left 1; focus (intro w hFw; (try dsimp only at hFw); go_split_ands; go_simp; try with_reducible rfl))
    try simp only [Act.put, List.setIfInBounds_toArray, List.set_cons_zero, List.set_cons_succ]
    (refine wpAnyK_takeL Keep2.refl (i := 5) (v := ?_) rfl (by kernel_rfl) (by kernel_rfl) (by kernel_rfl) (fun _ _ _ h => h) (by rfl) ?_ ?_; rotate_left 1; focus (intro w; go_simp; try with_reducible rfl))
    try simp only [Act.put, List.setIfInBounds_toArray, List.set_cons_zero, List.set_cons_succ]
    (refine wpAnyK_takeL Keep2.refl (i := 6) (v := ?_) rfl (by kernel_rfl) (by kernel_rfl) (by kernel_rfl) (fun _ _ _ h => h) (by rfl) ?_ ?_; rotate_left 1; focus (intro w; go_simp; try with_reducible rfl))
    try simp only [Act.put, List.setIfInBounds_toArray, List.set_cons_zero, List.set_cons_succ]
    (refine wpAnyK_takeL Keep2.refl (i := 8) (v := ?_) rfl (by kernel_rfl) (by kernel_rfl) (by kernel_rfl) (fun _ _ _ h => h) (by rfl) ?_ ?_; rotate_left 1; focus (intro w; go_simp; try with_reducible rfl))
    try simp only [Act.put, List.setIfInBounds_toArray, List.set_cons_zero, List.set_cons_succ]
    (refine wpAnyK_takeL Keep2.refl (i := 9) (v := ?_) rfl (by kernel_rfl) (by kernel_rfl) (by kernel_rfl) (fun _ _ _ h => h) (by rfl) ?_ ?_; rotate_left 1; focus (intro w; go_simp; try with_reducible rfl))
    try simp only [Act.put, List.setIfInBounds_toArray, List.set_cons_zero, List.set_cons_succ]
    (refine wpAnyK_takeL Keep2.refl (i := 12) (v := ?_) rfl (by kernel_rfl) (by kernel_rfl) (by kernel_rfl) (fun _ _ _ h => h) (by rfl) ?_ ?_; rotate_left 1; focus (intro w; go_simp; try with_reducible rfl))
    try simp only [Act.put, List.setIfInBounds_toArray, List.set_cons_zero, List.set_cons_succ]
    (refine wpAnyK_takeL Keep2.refl (i := 13) (v := ?_) rfl (by kernel_rfl) (by kernel_rfl) (by kernel_rfl) (fun _ _ _ h => h) (by rfl) ?_ ?_; rotate_left 1; focus (intro w; go_simp; try with_reducible rfl))
    try simp only [Act.put, List.setIfInBounds_toArray, List.set_cons_zero, List.set_cons_succ]
    (refine wpAnyK_takeL Keep2.refl (i := 14) (v := ?_) rfl (by kernel_rfl) (by kernel_rfl) (by kernel_rfl) (fun _ _ _ h => h) (by rfl) ?_ ?_; rotate_left 1; focus (intro w; go_simp; try with_reducible rfl))
    try simp only [Act.put, List.setIfInBounds_toArray, List.set_cons_zero, List.set_cons_succ]
    (refine wpAnyK_loadL Keep2.refl (i := 15) (v := ?_) rfl (Keep2.left (i := 15) (by rfl)) (by kernel_rfl) (by kernel_rfl) (by kernel_rfl) (fun _ _ _ h => h) hF0 (by rfl) ?_ ?_; rotate_left 1; focus (intro w hFw; (try dsimp only at hFw); go_split_ands; go_simp; try with_reducible rfl))
    try simp only [Act.put, List.setIfInBounds_toArray, List.set_cons_zero, List.set_cons_succ]
    (refine wpAnyK_takeL Keep2.refl (i := 16) (v := ?_) rfl (by kernel_rfl) (by kernel_rfl) (by kernel_rfl) (fun _ _ _ h => h) (by rfl) ?_ ?_; rotate_left 1; focus (intro w; go_simp; try with_reducible rfl))
    try simp only [Act.put, List.setIfInBounds_toArray, List.set_cons_zero, List.set_cons_succ]
    (refine wpAnyK_takeL Keep2.refl (i := 17) (v := ?_) rfl (by kernel_rfl) (by kernel_rfl) (by kernel_rfl) (fun _ _ _ h => h) (by rfl) ?_ ?_; rotate_left 1; focus (intro w; go_simp; (rw [HWR.out])))
    try simp only [Act.put, List.setIfInBounds_toArray, List.set_cons_zero, List.set_cons_succ]
    (refine wpAnyK_takeL Keep2.refl (i := 19) (v := ?_) rfl (by kernel_rfl) (by kernel_rfl) (by kernel_rfl) (fun _ _ _ h => h) (by rfl) ?_ ?_; rotate_left 1; focus (intro w; go_simp; try with_reducible rfl))
    try simp only [Act.put, List.setIfInBounds_toArray, List.set_cons_zero, List.set_cons_succ]
    (refine wpAnyK_takeL Keep2.refl (i := 20) (v := ?_) rfl (by kernel_rfl) (by kernel_rfl) (by kernel_rfl) (fun _ _ _ h => h) (by rfl) ?_ ?_; rotate_left 1; focus (intro w; go_simp; try with_reducible rfl))
    try simp only [Act.put, List.setIfInBounds_toArray, List.set_cons_zero, List.set_cons_succ]
    (refine wpAnyK_loadL Keep2.refl (i := 21) (v := ?_) rfl (Keep2.left (i := 21) (by rfl)) (by kernel_rfl) (by kernel_rfl) (by kernel_rfl) (fun _ _ _ h => h) hF0 (by rfl) ?_ ?_; rotate_left 1; focus (intro w hFw; (try dsimp only at hFw); go_split_ands; go_simp; try with_reducible rfl))
    try simp only [Act.put, List.setIfInBounds_toArray, List.set_cons_zero, List.set_cons_succ]
    (refine wpAnyK_takeL Keep2.refl (i := 22) (v := ?_) rfl (by kernel_rfl) (by kernel_rfl) (by kernel_rfl) (fun _ _ _ h => h) (by rfl) ?_ ?_; rotate_left 1; focus (intro w; go_simp; try with_reducible rfl))
    try simp only [Act.put, List.setIfInBounds_toArray, List.set_cons_zero, List.set_cons_succ]
    (refine wpAnyK_takeL Keep2.refl (i := 24) (v := ?_) rfl (by kernel_rfl) (by kernel_rfl) (by kernel_rfl) (fun _ _ _ h => h) (by rfl) ?_ ?_; rotate_left 1; focus (intro w; go_simp; try with_reducible rfl))
    try simp only [Act.put, List.setIfInBounds_toArray, List.set_cons_zero, List.set_cons_succ]
    (refine wpAnyK_takeL Keep2.refl (i := 25) (v := ?_) rfl (by kernel_rfl) (by kernel_rfl) (by kernel_rfl) (fun _ _ _ h => h) (by rfl) ?_ ?_; rotate_left 1; focus (intro w; go_simp; try with_reducible rfl))
    try simp only [Act.put, List.setIfInBounds_toArray, List.set_cons_zero, List.set_cons_succ]
    (refine wpAnyK_takeL Keep2.refl (i := 27) (v := ?_) rfl (by kernel_rfl) (by kernel_rfl) (by kernel_rfl) (fun _ _ _ h => h) (by rfl) ?_ ?_; rotate_left 1; focus (intro w; go_simp; try with_reducible rfl))
    try simp only [Act.put, List.setIfInBounds_toArray, List.set_cons_zero, List.set_cons_succ]
    (refine wpAnyK_loadL Keep2.refl (i := 29) (v := ?_) rfl (Keep2.left (i := 29) (by rfl)) (by kernel_rfl) (by kernel_rfl) (by kernel_rfl) (fun _ _ _ h => h) hF0 (by rfl) ?_ ?_; rotate_left 1; focus (intro w hFw; (try dsimp only at hFw); go_split_ands; go_simp; try with_reducible rfl))
    try simp only [Act.put, List.setIfInBounds_toArray, List.set_cons_zero, List.set_cons_succ]
    (refine wpAnyK_takeL Keep2.refl (i := 32) (v := ?_) rfl (by kernel_rfl) (by kernel_rfl) (by kernel_rfl) (fun _ _ _ h => h) (by rfl) ?_ ?_; rotate_left 1; focus (intro w; go_simp; try with_reducible rfl))
    try simp only [Act.put, List.setIfInBounds_toArray, List.set_cons_zero, List.set_cons_succ]
    clear hF0 hG0
    refine wpAnyK_inv0 (S := slotsA) (idx := idxA) (fun L f W => ∃ y2, AI w d w.heap.size w2.heap.size (w.heap.size + 1) w3.heap.size x0 x1 y0 y1 fd num many y2 L f W) (by kernel_rfl) rfl (of_decide_eq_true (by kernel_rfl)) ⟨y1, AI.start hK (by decide) (by decide)⟩ (fun L f W h j hj hn => by obtain ⟨y2, h⟩ := h; exact h.pre j hj hn) ?_ ?_
    · show ∀ i ∈ [4, 7, 10, 11, 18, 23, 26, 28, 30, 31, 33, 34, 35, 36, 37], _
      --STEPS
      refine List.forall_mem_cons.2 ⟨?_, List.forall_mem_cons.2 ⟨?_, List.forall_mem_cons.2 ⟨?_, List.forall_mem_cons.2 ⟨?_, List.forall_mem_cons.2 ⟨?_, List.forall_mem_cons.2 ⟨?_, List.forall_mem_cons.2 ⟨?_, List.forall_mem_cons.2 ⟨?_, List.forall_mem_cons.2 ⟨?_, List.forall_mem_cons.2 ⟨?_, List.forall_mem_cons.2 ⟨?_, List.forall_mem_cons.2 ⟨?_, List.forall_mem_cons.2 ⟨?_, List.forall_mem_cons.2 ⟨?_, List.forall_mem_cons.2 ⟨?_, fun _ h => absurd h List.not_mem_nil⟩⟩⟩⟩⟩⟩⟩⟩⟩⟩⟩⟩⟩⟩⟩
      · rintro L f W ⟨y2, hI⟩ hL haft
        refine wpOp_of rfl (by rfl) (fun K hKK => ?_)
        generalize hov0 : over _ slotsA f = ax
        have hov := hov0
        simp only [over, slotsA, List.foldl_cons, List.foldl_nil, List.setIfInBounds_toArray, List.set_cons_zero, List.set_cons_succ] at hov
        rw [← hov]
        have HOV := Lib.hid (And.intro hov0 hov)
        clear hov0 hov
        go_simp
        exact hKK _ _ ⟨⟨fun _ _ => (hI.k.alloc (.cells (B12 x0 x1) 24)).cells, fun _ _ => trivial⟩, _, (by rw [← over_put (by decide), HOV.out.1, ← HOV.out.2]; simp only [Act.put, List.setIfInBounds_toArray, List.set_cons_zero, List.set_cons_succ]), y2, (hI.alloc (.cells (B12 x0 x1) 24)).p4 hL (Blk.new _ _ _)⟩
      · rintro L f W ⟨y2, hI⟩ hL haft
        have h18 : L 18 = false := by cases e : L 18 <;> first | rfl | (have h9 := hI.m18 e; have h8 := hI.m10 h9; first | (rw [hL] at h9; cases h9) | (rw [hL] at h8; cases h8))
        refine wpOp_of rfl (by rfl) (fun K hKK => ?_)
        generalize hov0 : over _ slotsA f = ax
        have hov := hov0
        simp only [over, slotsA, List.foldl_cons, List.foldl_nil, List.setIfInBounds_toArray, List.set_cons_zero, List.set_cons_succ] at hov
        rw [← hov]
        have HOV := Lib.hid (And.intro hov0 hov)
        clear hov0 hov
        go_simp
        refine (cast_any d 1000000 _ hI.k.die (by omega)).mono ?_
        rintro e wx ⟨v, _, rfl, hdx, hgx⟩
        dsimp only
        exact hKK _ _ ⟨⟨fun _ _ => (hI.k.cast hgx hdx).cells, fun _ _ => trivial⟩, _, (by rw [← over_put (by decide), HOV.out.1, ← HOV.out.2]; simp only [Act.put, List.setIfInBounds_toArray, List.set_cons_zero, List.set_cons_succ]), y2, (hI.cast h18 hgx hdx).p7 v⟩
      · rintro L f W ⟨y2, hI⟩ hL haft
        have h18 : L 18 = false := by cases e : L 18 <;> first | rfl | (have h9 := hI.m18 e; have h8 := hI.m10 h9; first | (rw [hL] at h9; cases h9) | (rw [hL] at h8; cases h8))
        refine wpOp_of rfl (by rfl) (fun K hKK => ?_)
        generalize hov0 : over _ slotsA f = ax
        have hov := hov0
        simp only [over, slotsA, List.foldl_cons, List.foldl_nil, List.setIfInBounds_toArray, List.set_cons_zero, List.set_cons_succ] at hov
        rw [← hov]
        have HOV := Lib.hid (And.intro hov0 hov)
        clear hov0 hov
        go_simp
        refine (cast_any d 1000000000 _ hI.k.die (by omega)).mono ?_
        rintro e wx ⟨v, _, rfl, hdx, hgx⟩
        dsimp only
        exact hKK _ _ ⟨⟨fun _ _ => (hI.k.cast hgx hdx).cells, fun _ _ => trivial⟩, _, (by rw [← over_put (by decide), HOV.out.1, ← HOV.out.2]; simp only [Act.put, List.setIfInBounds_toArray, List.set_cons_zero, List.set_cons_succ]), y2, (hI.cast h18 hgx hdx).p10 v (haft 7 (by kernel_rfl))⟩
      · rintro L f W ⟨y2, hI⟩ hL haft
        obtain ⟨v1, hv1⟩ := hI.f7 (haft 7 (by kernel_rfl))
        obtain ⟨v2, hv2⟩ := hI.f10 (haft 10 (by kernel_rfl))
        refine wpOp_of rfl (by rfl) (fun K hKK => ?_)
        generalize hov0 : over _ slotsA f = ax
        have hov := hov0
        simp only [over, slotsA, List.foldl_cons, List.foldl_nil, List.setIfInBounds_toArray, List.set_cons_zero, List.set_cons_succ, hv1, hv2] at hov
        rw [← hov]
        have HOV := Lib.hid (And.intro hov0 hov)
        clear hov0 hov
        go_simp
        exact hKK _ _ ⟨⟨fun _ _ => (hI.k.alloc (.cells #[.int .i64 num, .int .i64 v1, .int .i64 num, .int .i64 v2] 3)).cells, fun _ _ => trivial⟩, _, (by rw [← over_put (by decide), HOV.out.1, ← HOV.out.2]; simp only [Act.put, List.setIfInBounds_toArray, List.set_cons_zero, List.set_cons_succ]), y2, (hI.alloc (.cells #[.int .i64 num, .int .i64 v1, .int .i64 num, .int .i64 v2] 3)).p11 hL (Blk.new _ _ _)⟩
      · rintro L f W ⟨y2, hI⟩ hL haft
        refine wpOp_of rfl (by rfl) (fun K hKK => ?_)
        generalize hov0 : over _ slotsA f = ax
        have hov := hov0
        simp only [over, slotsA, List.foldl_cons, List.foldl_nil, List.setIfInBounds_toArray, List.set_cons_zero, List.set_cons_succ] at hov
        rw [← hov]
        have HOV := Lib.hid (And.intro hov0 hov)
        clear hov0 hov
        go_simp
        refine (cast_any d ((x1.n : Int) + 2) _ hI.k.die (by omega)).mono ?_
        rintro e wx ⟨v, _, rfl, hdx, hgx⟩
        dsimp only
        exact hKK _ _ ⟨⟨fun _ _ => (hI.k.cast hgx hdx).cells, fun _ _ => trivial⟩, _, (by rw [← over_put (by decide), HOV.out.1, ← HOV.out.2]; simp only [Act.put, List.setIfInBounds_toArray, List.set_cons_zero, List.set_cons_succ]), y2, (hI.cast hL hgx hdx).p18 v (haft 10 (by kernel_rfl))⟩
      · rintro L f W ⟨y2, hI⟩ hL haft
        obtain ⟨v, hv⟩ := hI.f18 (haft 18 (by kernel_rfl))
        refine wpOp_of rfl (by rfl) (fun K hKK => ?_)
        generalize hov0 : over _ slotsA f = ax
        have hov := hov0
        simp only [over, slotsA, List.foldl_cons, List.foldl_nil, List.setIfInBounds_toArray, List.set_cons_zero, List.set_cons_succ, hv] at hov
        rw [← hov]
        have HOV := Lib.hid (And.intro hov0 hov)
        clear hov0 hov
        go_simp
        exact hKK _ _ ⟨⟨fun _ _ => (hI.k.alloc (.cells #[.int .i64 many, .int .i64 v, .int .i64 many, .int .i64 x1.n] 3)).cells, fun _ _ => trivial⟩, _, (by rw [← over_put (by decide), HOV.out.1, ← HOV.out.2]; simp only [Act.put, List.setIfInBounds_toArray, List.set_cons_zero, List.set_cons_succ]), y2, (hI.alloc (.cells #[.int .i64 many, .int .i64 v, .int .i64 many, .int .i64 x1.n] 3)).p23 hL (Blk.new _ _ _)⟩
      · rintro L f W ⟨y2, hI⟩ hL haft
        have h28 : L 28 = false := by cases e : L 28 <;> first | rfl | (have h9 := hI.m26 e; rw [hL] at h9; cases h9)
        refine wpOp_of rfl (by rfl) (fun K hKK => ?_)
        generalize hov0 : over _ slotsA f = ax
        have hov := hov0
        simp only [over, slotsA, List.foldl_cons, List.foldl_nil, List.setIfInBounds_toArray, List.set_cons_zero, List.set_cons_succ] at hov
        rw [← hov]
        have HOV := Lib.hid (And.intro hov0 hov)
        clear hov0 hov
        go_simp
        exact hKK _ _ ⟨⟨fun _ _ => (hI.k.alloc (.cells #[] 78)).cells, fun _ _ => trivial⟩, _, (by rw [← over_put (by decide), HOV.out.1, ← HOV.out.2]; simp only [Act.put, List.setIfInBounds_toArray, List.set_cons_zero, List.set_cons_succ]), y2, (hI.alloc (.cells #[] 78)).p26 (own_empty _ 78 3 _ _ rfl hI.k.z) (fun e e' g' hg' => by obtain ⟨g2, h1, hb, _⟩ := hI.f30 e e'; have h3 : g2 = g' := (by rw [h1] at hg'; simpa using hg'); have := hb.lt; omega) h28⟩
      · rintro L f W ⟨y2, hI⟩ hL haft
        obtain ⟨g, hf, ho⟩ := hI.f26 (haft 26 (by kernel_rfl)) hL
        clear hf
        refine wpOp_of rfl (by rfl) (fun K hKK => ?_)
        generalize hov0 : over _ slotsA f = ax
        have hov := hov0
        simp only [over, slotsA, List.foldl_cons, List.foldl_nil, List.setIfInBounds_toArray, List.set_cons_zero, List.set_cons_succ] at hov
        rw [← hov]
        have HOV := Lib.hid (And.intro hov0 hov)
        clear hov0 hov
        refine wp_append_sl (.tmp 79) (.tmp 80) 74 rfl w3.heap.size 78 i0 _ 24 Try.underlying74 hi iz0 iz1 iz2 rfl (by omega) encF_len (f 79) 0 [] (by rfl) ho y1.b y1.A y1.n y1.c y1.l (by rfl) hI.k.b1.sl oneF (by unfold maxLen; omega) (by omega) hI.k.z ?_
        intro A' c' wx hown hgrow hat
        simp only [Nat.zero_add, List.nil_append] at hown hat ⊢
        go_simp
        exact hKK _ _ ⟨⟨fun _ _ => (hI.k.app ho hgrow).cells, fun _ _ => trivial⟩, _, (by rw [← over_put (by decide), HOV.out.1, ← HOV.out.2]; simp only [Act.put, List.setIfInBounds_toArray, List.set_cons_zero, List.set_cons_succ]), y2, hI.p28 hL (haft 26 (by kernel_rfl)) (haft 18 (by kernel_rfl)) rfl hown hgrow hat⟩
      · rintro L f W ⟨y2, hI⟩ hL haft
        have h31 : L 31 = false := by cases e : L 31 <;> first | rfl | (have h9 := hI.m30 e; rw [hL] at h9; cases h9)
        refine wpOp_of rfl (by rfl) (fun K hKK => ?_)
        generalize hov0 : over _ slotsA f = ax
        have hov := hov0
        simp only [over, slotsA, List.foldl_cons, List.foldl_nil, List.setIfInBounds_toArray, List.set_cons_zero, List.set_cons_succ] at hov
        rw [← hov]
        have HOV := Lib.hid (And.intro hov0 hov)
        clear hov0 hov
        go_simp
        exact hKK _ _ ⟨⟨fun _ _ => (hI.k.alloc (.cells #[.int .i64 fd.sa, .int .i64 fd.gr, .int .i64 fd.ce] 78)).cells, fun _ _ => trivial⟩, _, (by rw [← over_put (by decide), HOV.out.1, ← HOV.out.2]; simp only [Act.put, List.setIfInBounds_toArray, List.set_cons_zero, List.set_cons_succ]), y2, (hI.alloc (.cells #[.int .i64 fd.sa, .int .i64 fd.gr, .int .i64 fd.ce] 78)).p30 (Blk.new _ _ _) (fun e e' h => by obtain ⟨g2, _, ho⟩ := hI.f26 e e'; have := (ho.lt _ h).2; omega) (fun e h => by obtain ⟨A2, c2, _, ho⟩ := hI.f28 e h31; have := (ho.lt _ h).2; omega)⟩
      · rintro L f W ⟨y2, hI⟩ hL haft
        obtain ⟨A1', c1', hf, ho⟩ := hI.f28 (haft 28 (by kernel_rfl)) hL
        obtain ⟨g, hf3, hb3', _, _⟩ := hI.f30 (haft 30 (by kernel_rfl)) hL
        have hsl := Sl.of_blkA (l := [fd]) encF_len hb3' rfl
        have HF3 := Lib.hid hf3
        clear hf hf3
        refine wpOp_of rfl (by rfl) (fun K hKK => ?_)
        generalize hov0 : over _ slotsA f = ax
        have hov := hov0
        simp only [over, slotsA, List.foldl_cons, List.foldl_nil, List.setIfInBounds_toArray, List.set_cons_zero, List.set_cons_succ] at hov
        rw [← hov]
        have HOV := Lib.hid (And.intro hov0 hov)
        clear hov0 hov
        refine wp_append_sl (.tmp 81) (.tmp 83) 74 rfl w3.heap.size 78 i0 _ 24 Try.underlying74 hi iz0 iz1 iz2 rfl (by omega) encF_len (f 81) y1.n _ (by rfl) ho g (some ⟨g, 0, none⟩) 1 1 [fd] (by rw [← HF3.out]; rfl) hsl oneF (by unfold maxLen; omega) (by omega) hI.k.z ?_
        intro A' c' wx hown hgrow hat
        rw [← List.flatMap_append] at hown
        go_simp
        obtain ⟨b', hb', hs⟩ := Sl.of_own encF_len (by rw [List.length_append, ← hI.k.b1.sl.len]; rfl) hown
        exact hKK _ _ ⟨⟨fun _ _ => (hI.k.app ho hgrow).cells, fun _ _ => trivial⟩, _, (by rw [← over_put (by decide), HOV.out.1, ← HOV.out.2]; simp only [Act.put, List.setIfInBounds_toArray, List.set_cons_zero, List.set_cons_succ]), ⟨A', y1.n + 1, c', b', y1.l ++ [fd]⟩, hI.p31 hL (haft 28 (by kernel_rfl)) (haft 30 (by kernel_rfl)) rfl (by omega) hs (by have := hI.k.zd; omega) hgrow⟩
      · rintro L f W ⟨y2, hI⟩ hL haft
        obtain ⟨h84, _, _⟩ := hI.f31 (haft 31 (by kernel_rfl))
        refine wpOp_of rfl (by rfl) (fun K hKK => ?_)
        generalize hov0 : over _ slotsA f = ax
        have hov := hov0
        simp only [over, slotsA, List.foldl_cons, List.foldl_nil, List.setIfInBounds_toArray, List.set_cons_zero, List.set_cons_succ, h84] at hov
        rw [← hov]
        have HOV := Lib.hid (And.intro hov0 hov)
        clear hov0 hov
        go_simp
        exact hKK _ _ ⟨⟨fun _ _ => (hI.k.alloc (.cells #[.slice y0.A y0.n y0.c, .slice y1.A y1.n y1.c, .slice y2.A y2.n y2.c, .slice y0.A y0.n y0.c] 74)).cells, fun _ _ => trivial⟩, _, (by rw [← over_put (by decide), HOV.out.1, ← HOV.out.2]; simp only [Act.put, List.setIfInBounds_toArray, List.set_cons_zero, List.set_cons_succ]), y2, (hI.alloc (.cells #[.slice y0.A y0.n y0.c, .slice y1.A y1.n y1.c, .slice y2.A y2.n y2.c, .slice y0.A y0.n y0.c] 74)).p33 hL (haft 31 (by kernel_rfl)) (Blk.new _ _ _)⟩
      · rintro L f W ⟨y2, hI⟩ hL haft
        refine wpOp_of rfl (by rfl) (fun K hKK => ?_)
        generalize hov0 : over _ slotsA f = ax
        have hov := hov0
        simp only [over, slotsA, List.foldl_cons, List.foldl_nil, List.setIfInBounds_toArray, List.set_cons_zero, List.set_cons_succ] at hov
        rw [← hov]
        have HOV := Lib.hid (And.intro hov0 hov)
        clear hov0 hov
        go_simp
        exact hKK _ _ ⟨Keep2.refl _ _, _, (by rw [← over_put (by decide), HOV.out.1, ← HOV.out.2]; simp only [Act.put, List.setIfInBounds_toArray, List.set_cons_zero, List.set_cons_succ]), y2, hI.p34 (haft 4 (by kernel_rfl))⟩
      · rintro L f W ⟨y2, hI⟩ hL haft
        refine wpOp_of rfl (by rfl) (fun K hKK => ?_)
        generalize hov0 : over _ slotsA f = ax
        have hov := hov0
        simp only [over, slotsA, List.foldl_cons, List.foldl_nil, List.setIfInBounds_toArray, List.set_cons_zero, List.set_cons_succ] at hov
        rw [← hov]
        have HOV := Lib.hid (And.intro hov0 hov)
        clear hov0 hov
        go_simp
        exact hKK _ _ ⟨Keep2.refl _ _, _, (by rw [← over_put (by decide), HOV.out.1, ← HOV.out.2]; simp only [Act.put, List.setIfInBounds_toArray, List.set_cons_zero, List.set_cons_succ]), y2, hI.p35 (haft 11 (by kernel_rfl))⟩
      · rintro L f W ⟨y2, hI⟩ hL haft
        refine wpOp_of rfl (by rfl) (fun K hKK => ?_)
        generalize hov0 : over _ slotsA f = ax
        have hov := hov0
        simp only [over, slotsA, List.foldl_cons, List.foldl_nil, List.setIfInBounds_toArray, List.set_cons_zero, List.set_cons_succ] at hov
        rw [← hov]
        have HOV := Lib.hid (And.intro hov0 hov)
        clear hov0 hov
        go_simp
        exact hKK _ _ ⟨Keep2.refl _ _, _, (by rw [← over_put (by decide), HOV.out.1, ← HOV.out.2]; simp only [Act.put, List.setIfInBounds_toArray, List.set_cons_zero, List.set_cons_succ]), y2, hI.p36 (haft 23 (by kernel_rfl))⟩
      · rintro L f W ⟨y2, hI⟩ hL haft
        refine wpOp_of rfl (by rfl) (fun K hKK => ?_)
        generalize hov0 : over _ slotsA f = ax
        have hov := hov0
        simp only [over, slotsA, List.foldl_cons, List.foldl_nil, List.setIfInBounds_toArray, List.set_cons_zero, List.set_cons_succ] at hov
        rw [← hov]
        have HOV := Lib.hid (And.intro hov0 hov)
        clear hov0 hov
        go_simp
        exact hKK _ _ ⟨Keep2.refl _ _, _, (by rw [← over_put (by decide), HOV.out.1, ← HOV.out.2]; simp only [Act.put, List.setIfInBounds_toArray, List.set_cons_zero, List.set_cons_succ]), y2, hI.p37 (haft 33 (by kernel_rfl))⟩
      --STEPSEND
    · intro L f W ⟨y2, hI⟩ hall
      obtain ⟨g1, e57, hg1⟩ := hI.f4 (hall 4 (of_decide_eq_true (by kernel_rfl)))
      obtain ⟨g2, v1, v2, e64, hg2⟩ := hI.f11 (hall 11 (of_decide_eq_true (by kernel_rfl)))
      obtain ⟨g3, v3, e76, hg3⟩ := hI.f23 (hall 23 (of_decide_eq_true (by kernel_rfl)))
      obtain ⟨g4, e86, hg4⟩ := hI.f33 (hall 33 (of_decide_eq_true (by kernel_rfl)))
      have hy2 := (hI.f31 (hall 31 (of_decide_eq_true (by kernel_rfl)))).2.1
      have e16 := (hI.f34 (hall 34 (of_decide_eq_true (by kernel_rfl)))).trans e57
      have e17 := (hI.f35 (hall 35 (of_decide_eq_true (by kernel_rfl)))).trans e64
      have e18 := (hI.f36 (hall 36 (of_decide_eq_true (by kernel_rfl)))).trans e76
      have e19 := (hI.f37 (hall 37 (of_decide_eq_true (by kernel_rfl)))).trans e86
      have hk := hI.k
      simp only [over, slotsA, List.foldl_cons, List.foldl_nil, List.setIfInBounds_toArray, List.set_cons_zero, List.set_cons_succ, e16, e17, e18, e19]
      have HG1 := Lib.hid hg1
      have HG2 := Lib.hid hg2
      have HG3 := Lib.hid hg3
      have HG4 := Lib.hid hg4
      have HY2 := Lib.hid hy2
      have HKK := Lib.hid hk
      clear e57 e64 e76 e86 e16 e17 e18 e19 hI hall hg1 hg2 hg3 hg4 hy2 hk
      go_wp2_with fail
      go_meet
      exact ⟨g1, g2, g3, g4, v1, v2, v3, y2, rfl, rfl, rfl, rfl, HG1.out, HG2.out, HG3.out, HG4.out, HY2.out, HKK.out⟩
  case rest =>
    --REST
    obtain ⟨g1, g2, g3, g4, v1, v2, v3, y2, rfl, rfl, rfl, rfl, hA0, hG0, hM0, hL0, hy2, hK2⟩ := hcut
    have hA : Arr encB 3 (g1 + 1) [x0, x1, x1, x1] wc g1 := ⟨by omega, Sl.of_blkA encB_len hA0 rfl⟩
    have hG : Arr encI 1 (g2 + 1) [num, v1, num, v2] wc g2 := ⟨by omega, Sl.of_blkA encI_len hG0 rfl⟩
    have hM : Arr encI 1 (g3 + 1) [many, v3, many, (x1.n : Int)] wc g3 := ⟨by omega, Sl.of_blkA encI_len hM0 rfl⟩
    have hL : Arr encL 1 (g4 + 1) [y0, y1, y2, y0] wc g4 := ⟨by omega, Sl.of_blkA encL_len hL0 rfl⟩
    have hbs : ∀ k (h : k < [x0, x1, x1, x1].length), Away d wc [x0, x1, x1, x1][k] := by
      intro k h
      match k, h with
      | 0, _ => exact hK2.a0
      | 1, _ => exact hK2.a1
      | 2, _ => exact hK2.a1
      | 3, _ => exact hK2.a1
    have hls : ∀ k (h : k < [y0, y1, y2, y0].length), AwayL encF 3 61 d wc [y0, y1, y2, y0][k] := by
      intro k h
      match k, h with
      | 0, _ => exact ⟨hK2.b0.sl, hK2.b0.ne, by have := hK2.b0.le; show y0.n ≤ 61; omega⟩
      | 1, _ => exact ⟨hK2.b1.sl, hK2.b1.ne, by have := hK2.b1.le; show y1.n ≤ 61; omega⟩
      | 2, _ => exact hy2
      | 3, _ => exact ⟨hK2.b0.sl, hK2.b0.ne, by have := hK2.b0.le; show y0.n ≤ 61; omega⟩
    have hbl : [x0, x1, x1, x1].length = 4 := rfl
    have hgl : [num, v1, num, v2].length = 4 := rfl
    have hml : [many, v3, many, (x1.n : Int)].length = 4 := rfl
    have hll : [y0, y1, y2, y0].length = 4 := rfl
    generalize [x0, x1, x1, x1] = bs at hA hbs hbl
    generalize [num, v1, num, v2] = gs at hG hgl
    generalize [many, v3, many, (x1.n : Int)] = ms at hM hml
    generalize [y0, y1, y2, y0] = ls at hL hls hll
    have HBS := Lib.hid hbs
    have HLS := Lib.hid hls
    have HBL := Lib.hid hbl
    have HGL := Lib.hid hgl
    have HML := Lib.hid hml
    have HLL := Lib.hid hll
    have HA := Lib.hid hA
    have HG := Lib.hid hG
    have HM := Lib.hid hM
    have HLA := Lib.hid hL
    have HLow := Lib.hid hK2.low
    clear hbs hls hbl hgl hml hll hA hG hM hL hK2 HK hA0 hG0 hM0 hL0 hy2
    go_wp2_with fail
    go_loopw [20] (fun i wr => ∃ k : Nat, k ≤ 4 ∧ i = .int .i64 k ∧ Below wc.heap.size wc wr) (fun i _ => 4 - (intOf i).toNat)
    case atStart => exact ⟨0, by omega, rfl, Below.refl _ _⟩
    case round =>
      obtain ⟨k, hk, rfl, hB⟩ := hrel
      have HB := Lib.hid hB
      have hzr := hB.size
      clear hB
      by_cases hlt : k < 4
      · have hkb : k < bs.length := by rw [HBL.out]; omega
        have hkg : k < gs.length := by rw [HGL.out]; omega
        have hkm : k < ms.length := by rw [HML.out]; omega
        have hkl : k < ls.length := by rw [HLL.out]; omega
        have HCB := Lib.hid (fun (W : World) (hW : Below wc.heap.size wc W) => (show (W.cell? ⟨g1, k * 3, none⟩ = some (.int .i64 bs[k].st) ∧ W.cell? ⟨g1, k * 3 + 1, none⟩ = some (.int .i64 bs[k].gd) ∧ W.cell? ⟨g1, k * 3 + 2, none⟩ = some (.slice bs[k].A bs[k].n bs[k].c)) ∧ W.cell? ⟨g2, k, none⟩ = some (.int .i64 gs[k]) ∧ W.cell? ⟨g3, k, none⟩ = some (.int .i64 ms[k]) ∧ W.cell? ⟨g4, k, none⟩ = some (.slice ls[k].A ls[k].n ls[k].c) from
          ⟨⟨((HA.out.below hW (by omega)).atB hkb).1, ((HA.out.below hW (by omega)).atB hkb).2.1, ((HA.out.below hW (by omega)).atB hkb).2.2.1⟩, ((HG.out.below hW (by omega)).atI hkg).1, ((HM.out.below hW (by omega)).atI hkm).1, ((HLA.out.below hW (by omega)).atL hkl).1⟩))
        have hx := HBS.out k hkb
        have hz := HLS.out k hkl
        generalize bs[k] = x at HCB hx
        generalize gs[k] = y at HCB
        generalize ms[k] = v at HCB
        generalize ls[k] = z at HCB hz
        have HX := Lib.hid (hx.sl.old HB.out)
        have HZ := Lib.hid (hz.sl.old HB.out)
        have hxn := hx.le
        have hzn := hz.le
        have ik0 : (0 : Int) ≤ (k : Int) := by omega
        have ik1 : (k : Int) < 4 := by omega
        clear hx hz hkb hkg hkm hkl
        have HF := Lib.hid (fun (W : World) (hW : Below wr.heap.size wr W) => HCB.out W (HB.out.trans (hW.mono hzr)))
        go_upto_region 10 with fail
        go_cut [21, 22] from 93 to 104 (fun p q wx => ∃ (B b' bm : Nat) (A' Am : Option Addr) (c' cm : Nat), p = .pointer (some ⟨B, 0, none⟩) ∧ q = .slice Am z.n cm ∧ Blk wx B 24 #[.int .i64 x.st, .int .i64 x.gd, .slice A' x.n c'] ∧ Sl encS 6 wx b' A' x.n x.l ∧ Sl encF 3 wx bm Am z.n z.l ∧ Below wr.heap.size wr wx)
        case first =>
          have hV : Below wr.heap.size wr wr.drew := (Below.refl _ wr).drew
          refine wp_region_K2 [3, 9] [] (fun W => (W.cell? ⟨g1, k * 3, none⟩ = some (.int .i64 x.st) ∧ W.cell? ⟨g1, k * 3 + 1, none⟩ = some (.int .i64 x.gd) ∧ W.cell? ⟨g1, k * 3 + 2, none⟩ = some (.slice x.A x.n x.c)) ∧ W.cell? ⟨g2, k, none⟩ = some (.int .i64 y) ∧ W.cell? ⟨g3, k, none⟩ = some (.int .i64 v) ∧ W.cell? ⟨g4, k, none⟩ = some (.slice z.A z.n z.c)) (fun _ => True) rfl (by kernel_rfl) (HF.out _ hV) (trivial) (fun hF0 hG0 => ?_)
          (refine wpAnyK_takeL Keep2.refl (i := 0) (v := ?_) rfl (by kernel_rfl) (by kernel_rfl) (by kernel_rfl) (fun _ _ _ h => h) (by rfl) ?_ ?_; rotate_left 1; focus (intro w; go_simp; try with_reducible rfl))
          try simp only [Act.put, List.setIfInBounds_toArray, List.set_cons_zero, List.set_cons_succ]
          (refine wpAnyK_takeL Keep2.refl (i := 1) (v := ?_) rfl (by kernel_rfl) (by kernel_rfl) (by kernel_rfl) (fun _ _ _ h => h) (by rfl) ?_ ?_; rotate_left 1; focus (intro w; go_simp; try with_reducible rfl))
          try simp only [Act.put, List.setIfInBounds_toArray, List.set_cons_zero, List.set_cons_succ]
          (refine wpAnyK_takeL Keep2.refl (i := 2) (v := ?_) rfl (by kernel_rfl) (by kernel_rfl) (by kernel_rfl) (fun _ _ _ h => h) (by rfl) ?_ ?_; rotate_left 1; focus (intro w; go_simp; try with_reducible rfl))
          try simp only [Act.put, List.setIfInBounds_toArray, List.set_cons_zero, List.set_cons_succ]
          (refine wpAnyK_loadL Keep2.refl (i := 3) (v := ?_) rfl (Keep2.left (i := 3) (by rfl)) (by kernel_rfl) (by kernel_rfl) (by kernel_rfl) (fun _ _ _ h => h) hF0 (by rfl) ?_ ?_; rotate_left 1; focus (intro w hFw; (try dsimp only at hFw); go_split_ands; go_simp; try with_reducible rfl))
          try simp only [Act.put, List.setIfInBounds_toArray, List.set_cons_zero, List.set_cons_succ]
          (refine wpAnyK_takeL Keep2.refl (i := 6) (v := ?_) rfl (by kernel_rfl) (by kernel_rfl) (by kernel_rfl) (fun _ _ _ h => h) (by rfl) ?_ ?_; rotate_left 1; focus (intro w; go_simp; try with_reducible rfl))
          try simp only [Act.put, List.setIfInBounds_toArray, List.set_cons_zero, List.set_cons_succ]
          (refine wpAnyK_takeL Keep2.refl (i := 7) (v := ?_) rfl (by kernel_rfl) (by kernel_rfl) (by kernel_rfl) (fun _ _ _ h => h) (by rfl) ?_ ?_; rotate_left 1; focus (intro w; go_simp; try with_reducible rfl))
          try simp only [Act.put, List.setIfInBounds_toArray, List.set_cons_zero, List.set_cons_succ]
          (refine wpAnyK_takeL Keep2.refl (i := 8) (v := ?_) rfl (by kernel_rfl) (by kernel_rfl) (by kernel_rfl) (fun _ _ _ h => h) (by rfl) ?_ ?_; rotate_left 1; focus (intro w; go_simp; try with_reducible rfl))
          try simp only [Act.put, List.setIfInBounds_toArray, List.set_cons_zero, List.set_cons_succ]
          (refine wpAnyK_loadL Keep2.refl (i := 9) (v := ?_) rfl (Keep2.left (i := 9) (by rfl)) (by kernel_rfl) (by kernel_rfl) (by kernel_rfl) (fun _ _ _ h => h) hF0 (by rfl) ?_ ?_; rotate_left 1; focus (intro w hFw; (try dsimp only at hFw); go_split_ands; go_simp; try with_reducible rfl))
          try simp only [Act.put, List.setIfInBounds_toArray, List.set_cons_zero, List.set_cons_succ]
          refine wpAnyK_all (rs := [4, 5, 11]) (by kernel_rfl) (by simp) ?_
          refine List.forall_mem_cons.2 ⟨?_, List.forall_mem_cons.2 ⟨?_, List.forall_mem_cons.2 ⟨?_, fun _ h => absurd h List.not_mem_nil⟩⟩⟩
          · refine wpOp_of rfl (by rfl) (fun K hK => ?_)
            go_simp
            (refine (copyBook_any x.st x.gd x.b x.n x.c x.A x.l _ (HX.out.old hV) (by omega)).mono ?_; rintro e w7 ⟨A', c', rfl, hown, hB7⟩; obtain ⟨b', hb', hS⟩ := Sl.of_own encS_len HX.out.len hown; (try have hNE : 0 < x.n → b' ≠ G := fun _ => Ne.symm (Nat.ne_of_lt (Nat.lt_of_lt_of_le (hE.lt G rfl).2 hb'))); (try have hNS : 0 < x.n → b' ≠ B := fun _ => Ne.symm (Nat.ne_of_lt (Nat.lt_of_lt_of_le hA.1.lt hb'))); (try replace hE := ownsRow_below hE hB7 (Nat.le_refl _)); (try replace hA := hA.step hB7); replace hV := hV.trans (hB7.mono hV.size); clear hown hB7)
            (refine hK _ _ ⟨⟨fun _ _ => HF.out _ hV, fun h => absurd h (by decide)⟩, ?_⟩; clear hK K)
            (refine wpAnyK_with (F := fun W => (W.cell? ⟨g1, k * 3, none⟩ = some (.int .i64 x.st) ∧ W.cell? ⟨g1, k * 3 + 1, none⟩ = some (.int .i64 x.gd) ∧ W.cell? ⟨g1, k * 3 + 2, none⟩ = some (.slice x.A x.n x.c)) ∧ W.cell? ⟨g2, k, none⟩ = some (.int .i64 y) ∧ W.cell? ⟨g3, k, none⟩ = some (.int .i64 v) ∧ W.cell? ⟨g4, k, none⟩ = some (.slice z.A z.n z.c)) (HF.out _ hV) (fun hF1 => ?_); clear hF0)
            try simp only [Act.put, List.setIfInBounds_toArray, List.set_cons_zero, List.set_cons_succ]
            refine wpAnyK_all (rs := [5, 11]) (by kernel_rfl) (by simp) ?_
            refine List.forall_mem_cons.2 ⟨?_, List.forall_mem_cons.2 ⟨?_, fun _ h => absurd h List.not_mem_nil⟩⟩
            · refine wpOp_of rfl (by rfl) (fun K hK => ?_)
              go_simp
              (obtain ⟨G, hGe, hE⟩ := own_emptyE 78 3 hV; (try have hNE : 0 < x.n → b' ≠ G := fun hn => (by rw [hGe]; exact Nat.ne_of_lt (hS.lt hn))); (try have hNB : B ≠ G := (by rw [hGe]; exact Nat.ne_of_lt hA.1.lt)); (try replace hS := hS.alloc (.cells #[] 78)); (try replace hA := hA.alloc (.cells #[] 78)); replace hV := hV.alloc hV.size (.cells #[] 78))
              (refine hK _ _ ⟨⟨fun _ _ => HF.out _ hV, fun h => absurd h (by decide)⟩, ?_⟩; clear hK K)
              (refine wpAnyK_with (F := fun W => (W.cell? ⟨g1, k * 3, none⟩ = some (.int .i64 x.st) ∧ W.cell? ⟨g1, k * 3 + 1, none⟩ = some (.int .i64 x.gd) ∧ W.cell? ⟨g1, k * 3 + 2, none⟩ = some (.slice x.A x.n x.c)) ∧ W.cell? ⟨g2, k, none⟩ = some (.int .i64 y) ∧ W.cell? ⟨g3, k, none⟩ = some (.int .i64 v) ∧ W.cell? ⟨g4, k, none⟩ = some (.slice z.A z.n z.c)) (HF.out _ hV) (fun hF2 => ?_); clear hF1)
              try simp only [Act.put, List.setIfInBounds_toArray, List.set_cons_zero, List.set_cons_succ]
              refine wpAnyK_all (rs := [10, 11]) (by kernel_rfl) (by simp) ?_
              refine List.forall_mem_cons.2 ⟨?_, List.forall_mem_cons.2 ⟨?_, fun _ h => absurd h List.not_mem_nil⟩⟩
              · refine wpOp_of rfl (by rfl) (fun K hK => ?_)
                ((try simp only [World.size_alloc, World.size_drew] at hGe); subst hGe; refine wp_append_sl _ _ _ rfl wr.heap.size 78 i0 _ 24 Try.underlying74 hi iz0 iz1 iz2 rfl (by omega) encF_len _ 0 [] (by rfl) hE z.b z.A z.n z.c z.l (by rfl) (HZ.out.old hV) oneF (by unfold maxLen; omega) (by omega) hV.size ?_; intro Am cm w9 hownm hgrow hat; simp only [Nat.zero_add, List.nil_append] at hownm hat; obtain ⟨bm, hbq, hbm, hP⟩ := append_block encF_len HZ.out.len hownm hat; (try have hNM : 0 < z.n → bm ≠ B := fun hn => (hbq hn).elim (fun e => (by rw [e]; exact Ne.symm hNB)) (fun e => (by rw [e]; exact Ne.symm (Nat.ne_of_lt hA.1.lt)))); replace hS := hS.grown hgrow (fun hn e => hNE hn (Option.some.inj e)); (try replace hA := hA.grown hgrow hNB); replace hV := below_own hE hgrow hV (Nat.le_refl _) (Nat.le_refl _); clear hE hownm hgrow hat hNE)
                (refine hK _ _ ⟨⟨fun _ _ => HF.out _ hV, fun h => absurd h (by decide)⟩, ?_⟩; clear hK K)
                (refine wpAnyK_with (F := fun W => (W.cell? ⟨g1, k * 3, none⟩ = some (.int .i64 x.st) ∧ W.cell? ⟨g1, k * 3 + 1, none⟩ = some (.int .i64 x.gd) ∧ W.cell? ⟨g1, k * 3 + 2, none⟩ = some (.slice x.A x.n x.c)) ∧ W.cell? ⟨g2, k, none⟩ = some (.int .i64 y) ∧ W.cell? ⟨g3, k, none⟩ = some (.int .i64 v) ∧ W.cell? ⟨g4, k, none⟩ = some (.slice z.A z.n z.c)) (HF.out _ hV) (fun hF3 => ?_); clear hF2)
                try simp only [Act.put, List.setIfInBounds_toArray, List.set_cons_zero, List.set_cons_succ]
                refine wpAnyK_step (i := 11) rfl (by kernel_rfl) (by rfl) (fun K hK => ?_)
                go_simp
                (obtain ⟨B, hBe, hA⟩ := AlcB.newE hV; (try have hNB : B ≠ G := (by rw [hBe]; exact Ne.symm (Nat.ne_of_lt (hE.lt G rfl).2))); (try have hNS : 0 < x.n → b' ≠ B := fun hn => (by rw [hBe]; exact Nat.ne_of_lt (hS.lt hn))); (try have hNM : 0 < z.n → bm ≠ B := fun hn => (by rw [hBe]; exact Nat.ne_of_lt (hP.lt hn))); (try have hS0 := hS); (try have hP0 := hP); have hV0 := hV; (try replace hE := hE.alloc (.cells #[.int .i64 0, .int .i64 0, .slice none 0 0] 24)); (try replace hS := hS.alloc (.cells #[.int .i64 0, .int .i64 0, .slice none 0 0] 24)); (try replace hP := hP.alloc (.cells #[.int .i64 0, .int .i64 0, .slice none 0 0] 24)); replace hV := hV.alloc hV.size (.cells #[.int .i64 0, .int .i64 0, .slice none 0 0] 24))
                (refine hK _ _ (⟨fun _ _ => HF.out _ hV, fun h => absurd h (by decide)⟩) ?_; clear hK K)
                (refine wpAnyK_with (F := fun W => (W.cell? ⟨g1, k * 3, none⟩ = some (.int .i64 x.st) ∧ W.cell? ⟨g1, k * 3 + 1, none⟩ = some (.int .i64 x.gd) ∧ W.cell? ⟨g1, k * 3 + 2, none⟩ = some (.slice x.A x.n x.c)) ∧ W.cell? ⟨g2, k, none⟩ = some (.int .i64 y) ∧ W.cell? ⟨g3, k, none⟩ = some (.int .i64 v) ∧ W.cell? ⟨g4, k, none⟩ = some (.slice z.A z.n z.c)) (HF.out _ hV) (fun hF4 => ?_); clear hF3)
                try simp only [Act.put, List.setIfInBounds_toArray, List.set_cons_zero, List.set_cons_succ]
                refine wpAnyK_step (i := 12) rfl (by kernel_rfl) (by rfl) (fun K hK => ?_)
                go_simp
                (have f0 := hA.1.frozen 0; have f1 := hA.1.frozen 1; have f2 := hA.1.frozen 2; have c0 := hA.1.cell 0; have c1 := hA.1.cell 1; have c2 := hA.1.cell 2; (try simp only [World.size_alloc, World.size_drew] at hBe); subst hBe; obtain ⟨⟨hq1, _⟩, hq2⟩ := hA.store (u := .int .i64 x.st) (v := .int .i64 x.gd) (z := .slice A' x.n c') hV; have hS1 := hS.store3 hNS (.int .i64 x.st) (.int .i64 x.gd) (.slice A' x.n c'); have hP1 := hP.store3 hNM (.int .i64 x.st) (.int .i64 x.gd) (.slice A' x.n c'); obtain ⟨⟨hq3, _⟩, hq4⟩ := AlcB.last hV0 (.int .i64 x.st) (.int .i64 x.gd) (.slice A' x.n c'); (try have hS2 := hS0.alloc (.cells #[.int .i64 x.st, .int .i64 x.gd, .slice A' x.n c'] 24)); (try have hP2 := hP0.alloc (.cells #[.int .i64 x.st, .int .i64 x.gd, .slice A' x.n c'] 24)); (try simp only [World.size_alloc, World.size_drew] at hq3); go_simp)
                (refine hK _ _ (⟨fun _ _ => (by first | with_reducible exact HF.out _ hq2 | with_reducible exact HF.out _ hq4), fun h => absurd h (by decide)⟩) ?_; clear hK K)
                (refine wpAnyK_with (F := fun W => (W.cell? ⟨g1, k * 3, none⟩ = some (.int .i64 x.st) ∧ W.cell? ⟨g1, k * 3 + 1, none⟩ = some (.int .i64 x.gd) ∧ W.cell? ⟨g1, k * 3 + 2, none⟩ = some (.slice x.A x.n x.c)) ∧ W.cell? ⟨g2, k, none⟩ = some (.int .i64 y) ∧ W.cell? ⟨g3, k, none⟩ = some (.int .i64 v) ∧ W.cell? ⟨g4, k, none⟩ = some (.slice z.A z.n z.c)) ((by first | with_reducible exact HF.out _ hq2 | with_reducible exact HF.out _ hq4)) (fun hF5 => ?_); clear hF4)
                try simp only [Act.put, List.setIfInBounds_toArray, List.set_cons_zero, List.set_cons_succ]
                (refine wpAnyK_takeL Keep2.refl (i := 13) (v := ?_) rfl (by kernel_rfl) (by kernel_rfl) (by kernel_rfl) (fun _ _ _ h => h) (by rfl) ?_ ?_; rotate_left 1; focus (intro w; go_simp; try with_reducible rfl))
                try simp only [Act.put, List.setIfInBounds_toArray, List.set_cons_zero, List.set_cons_succ]
                refine wpAnyK_done (by kernel_rfl) ?_ _
                go_wp2_with fail
                go_meet
                refine ⟨_, b', bm, A', Am, c', cm, rfl, rfl, ?_, ?_, ?_, ?_⟩ <;> with_reducible assumption
              · refine wpOp_of rfl (by rfl) (fun K hK => ?_)
                go_simp
                (obtain ⟨B, hBe, hA⟩ := AlcB.newE hV; (try have hNB : B ≠ G := (by rw [hBe]; exact Ne.symm (Nat.ne_of_lt (hE.lt G rfl).2))); (try have hNS : 0 < x.n → b' ≠ B := fun hn => (by rw [hBe]; exact Nat.ne_of_lt (hS.lt hn))); (try have hNM : 0 < z.n → bm ≠ B := fun hn => (by rw [hBe]; exact Nat.ne_of_lt (hP.lt hn))); (try have hS0 := hS); (try have hP0 := hP); have hV0 := hV; (try replace hE := hE.alloc (.cells #[.int .i64 0, .int .i64 0, .slice none 0 0] 24)); (try replace hS := hS.alloc (.cells #[.int .i64 0, .int .i64 0, .slice none 0 0] 24)); (try replace hP := hP.alloc (.cells #[.int .i64 0, .int .i64 0, .slice none 0 0] 24)); replace hV := hV.alloc hV.size (.cells #[.int .i64 0, .int .i64 0, .slice none 0 0] 24))
                (refine hK _ _ ⟨⟨fun _ _ => HF.out _ hV, fun h => absurd h (by decide)⟩, ?_⟩; clear hK K)
                (refine wpAnyK_with (F := fun W => (W.cell? ⟨g1, k * 3, none⟩ = some (.int .i64 x.st) ∧ W.cell? ⟨g1, k * 3 + 1, none⟩ = some (.int .i64 x.gd) ∧ W.cell? ⟨g1, k * 3 + 2, none⟩ = some (.slice x.A x.n x.c)) ∧ W.cell? ⟨g2, k, none⟩ = some (.int .i64 y) ∧ W.cell? ⟨g3, k, none⟩ = some (.int .i64 v) ∧ W.cell? ⟨g4, k, none⟩ = some (.slice z.A z.n z.c)) (HF.out _ hV) (fun hF6 => ?_); clear hF2)
                try simp only [Act.put, List.setIfInBounds_toArray, List.set_cons_zero, List.set_cons_succ]
                refine wpAnyK_step (i := 10) rfl (by kernel_rfl) (by rfl) (fun K hK => ?_)
                ((try simp only [World.size_alloc, World.size_drew] at hGe); subst hGe; refine wp_append_sl _ _ _ rfl wr.heap.size 78 i0 _ 24 Try.underlying74 hi iz0 iz1 iz2 rfl (by omega) encF_len _ 0 [] (by rfl) hE z.b z.A z.n z.c z.l (by rfl) (HZ.out.old hV) oneF (by unfold maxLen; omega) (by omega) hV.size ?_; intro Am cm w9 hownm hgrow hat; simp only [Nat.zero_add, List.nil_append] at hownm hat; obtain ⟨bm, hbq, hbm, hP⟩ := append_block encF_len HZ.out.len hownm hat; (try have hNM : 0 < z.n → bm ≠ B := fun hn => (hbq hn).elim (fun e => (by rw [e]; exact Ne.symm hNB)) (fun e => (by rw [e]; exact Ne.symm (Nat.ne_of_lt hA.1.lt)))); replace hS := hS.grown hgrow (fun hn e => hNE hn (Option.some.inj e)); (try replace hA := hA.grown hgrow hNB); replace hV := below_own hE hgrow hV (Nat.le_refl _) (Nat.le_refl _); clear hE hownm hgrow hat hNE)
                (refine hK _ _ (⟨fun _ _ => HF.out _ hV, fun h => absurd h (by decide)⟩) ?_; clear hK K)
                (refine wpAnyK_with (F := fun W => (W.cell? ⟨g1, k * 3, none⟩ = some (.int .i64 x.st) ∧ W.cell? ⟨g1, k * 3 + 1, none⟩ = some (.int .i64 x.gd) ∧ W.cell? ⟨g1, k * 3 + 2, none⟩ = some (.slice x.A x.n x.c)) ∧ W.cell? ⟨g2, k, none⟩ = some (.int .i64 y) ∧ W.cell? ⟨g3, k, none⟩ = some (.int .i64 v) ∧ W.cell? ⟨g4, k, none⟩ = some (.slice z.A z.n z.c)) (HF.out _ hV) (fun hF7 => ?_); clear hF6)
                try simp only [Act.put, List.setIfInBounds_toArray, List.set_cons_zero, List.set_cons_succ]
                refine wpAnyK_step (i := 12) rfl (by kernel_rfl) (by rfl) (fun K hK => ?_)
                go_simp
                (have f0 := hA.1.frozen 0; have f1 := hA.1.frozen 1; have f2 := hA.1.frozen 2; have c0 := hA.1.cell 0; have c1 := hA.1.cell 1; have c2 := hA.1.cell 2; (try simp only [World.size_alloc, World.size_drew] at hBe); subst hBe; obtain ⟨⟨hq1, _⟩, hq2⟩ := hA.store (u := .int .i64 x.st) (v := .int .i64 x.gd) (z := .slice A' x.n c') hV; have hS1 := hS.store3 hNS (.int .i64 x.st) (.int .i64 x.gd) (.slice A' x.n c'); have hP1 := hP.store3 hNM (.int .i64 x.st) (.int .i64 x.gd) (.slice A' x.n c'); obtain ⟨⟨hq3, _⟩, hq4⟩ := AlcB.last hV0 (.int .i64 x.st) (.int .i64 x.gd) (.slice A' x.n c'); (try have hS2 := hS0.alloc (.cells #[.int .i64 x.st, .int .i64 x.gd, .slice A' x.n c'] 24)); (try have hP2 := hP0.alloc (.cells #[.int .i64 x.st, .int .i64 x.gd, .slice A' x.n c'] 24)); (try simp only [World.size_alloc, World.size_drew] at hq3); go_simp)
                (refine hK _ _ (⟨fun _ _ => (by first | with_reducible exact HF.out _ hq2 | with_reducible exact HF.out _ hq4), fun h => absurd h (by decide)⟩) ?_; clear hK K)
                (refine wpAnyK_with (F := fun W => (W.cell? ⟨g1, k * 3, none⟩ = some (.int .i64 x.st) ∧ W.cell? ⟨g1, k * 3 + 1, none⟩ = some (.int .i64 x.gd) ∧ W.cell? ⟨g1, k * 3 + 2, none⟩ = some (.slice x.A x.n x.c)) ∧ W.cell? ⟨g2, k, none⟩ = some (.int .i64 y) ∧ W.cell? ⟨g3, k, none⟩ = some (.int .i64 v) ∧ W.cell? ⟨g4, k, none⟩ = some (.slice z.A z.n z.c)) ((by first | with_reducible exact HF.out _ hq2 | with_reducible exact HF.out _ hq4)) (fun hF8 => ?_); clear hF7)
                try simp only [Act.put, List.setIfInBounds_toArray, List.set_cons_zero, List.set_cons_succ]
                (refine wpAnyK_takeL Keep2.refl (i := 13) (v := ?_) rfl (by kernel_rfl) (by kernel_rfl) (by kernel_rfl) (fun _ _ _ h => h) (by rfl) ?_ ?_; rotate_left 1; focus (intro w; go_simp; try with_reducible rfl))
                try simp only [Act.put, List.setIfInBounds_toArray, List.set_cons_zero, List.set_cons_succ]
                refine wpAnyK_done (by kernel_rfl) ?_ _
                go_wp2_with fail
                go_meet
                refine ⟨_, b', bm, A', Am, c', cm, rfl, rfl, ?_, ?_, ?_, ?_⟩ <;> with_reducible assumption
            · refine wpOp_of rfl (by rfl) (fun K hK => ?_)
              go_simp
              (obtain ⟨B, hBe, hA⟩ := AlcB.newE hV; (try have hNB : B ≠ G := (by rw [hBe]; exact Ne.symm (Nat.ne_of_lt (hE.lt G rfl).2))); (try have hNS : 0 < x.n → b' ≠ B := fun hn => (by rw [hBe]; exact Nat.ne_of_lt (hS.lt hn))); (try have hNM : 0 < z.n → bm ≠ B := fun hn => (by rw [hBe]; exact Nat.ne_of_lt (hP.lt hn))); (try have hS0 := hS); (try have hP0 := hP); have hV0 := hV; (try replace hE := hE.alloc (.cells #[.int .i64 0, .int .i64 0, .slice none 0 0] 24)); (try replace hS := hS.alloc (.cells #[.int .i64 0, .int .i64 0, .slice none 0 0] 24)); (try replace hP := hP.alloc (.cells #[.int .i64 0, .int .i64 0, .slice none 0 0] 24)); replace hV := hV.alloc hV.size (.cells #[.int .i64 0, .int .i64 0, .slice none 0 0] 24))
              (refine hK _ _ ⟨⟨fun _ _ => HF.out _ hV, fun h => absurd h (by decide)⟩, ?_⟩; clear hK K)
              (refine wpAnyK_with (F := fun W => (W.cell? ⟨g1, k * 3, none⟩ = some (.int .i64 x.st) ∧ W.cell? ⟨g1, k * 3 + 1, none⟩ = some (.int .i64 x.gd) ∧ W.cell? ⟨g1, k * 3 + 2, none⟩ = some (.slice x.A x.n x.c)) ∧ W.cell? ⟨g2, k, none⟩ = some (.int .i64 y) ∧ W.cell? ⟨g3, k, none⟩ = some (.int .i64 v) ∧ W.cell? ⟨g4, k, none⟩ = some (.slice z.A z.n z.c)) (HF.out _ hV) (fun hF9 => ?_); clear hF1)
              try simp only [Act.put, List.setIfInBounds_toArray, List.set_cons_zero, List.set_cons_succ]
              refine wpAnyK_step (i := 5) rfl (by kernel_rfl) (by rfl) (fun K hK => ?_)
              go_simp
              (obtain ⟨G, hGe, hE⟩ := own_emptyE 78 3 hV; (try have hNE : 0 < x.n → b' ≠ G := fun hn => (by rw [hGe]; exact Nat.ne_of_lt (hS.lt hn))); (try have hNB : B ≠ G := (by rw [hGe]; exact Nat.ne_of_lt hA.1.lt)); (try replace hS := hS.alloc (.cells #[] 78)); (try replace hA := hA.alloc (.cells #[] 78)); replace hV := hV.alloc hV.size (.cells #[] 78))
              (refine hK _ _ (⟨fun _ _ => HF.out _ hV, fun h => absurd h (by decide)⟩) ?_; clear hK K)
              (refine wpAnyK_with (F := fun W => (W.cell? ⟨g1, k * 3, none⟩ = some (.int .i64 x.st) ∧ W.cell? ⟨g1, k * 3 + 1, none⟩ = some (.int .i64 x.gd) ∧ W.cell? ⟨g1, k * 3 + 2, none⟩ = some (.slice x.A x.n x.c)) ∧ W.cell? ⟨g2, k, none⟩ = some (.int .i64 y) ∧ W.cell? ⟨g3, k, none⟩ = some (.int .i64 v) ∧ W.cell? ⟨g4, k, none⟩ = some (.slice z.A z.n z.c)) (HF.out _ hV) (fun hF10 => ?_); clear hF9)
              try simp only [Act.put, List.setIfInBounds_toArray, List.set_cons_zero, List.set_cons_succ]
              refine wpAnyK_step (i := 10) rfl (by kernel_rfl) (by rfl) (fun K hK => ?_)
              ((try simp only [World.size_alloc, World.size_drew] at hGe); subst hGe; refine wp_append_sl _ _ _ rfl wr.heap.size 78 i0 _ 24 Try.underlying74 hi iz0 iz1 iz2 rfl (by omega) encF_len _ 0 [] (by rfl) hE z.b z.A z.n z.c z.l (by rfl) (HZ.out.old hV) oneF (by unfold maxLen; omega) (by omega) hV.size ?_; intro Am cm w9 hownm hgrow hat; simp only [Nat.zero_add, List.nil_append] at hownm hat; obtain ⟨bm, hbq, hbm, hP⟩ := append_block encF_len HZ.out.len hownm hat; (try have hNM : 0 < z.n → bm ≠ B := fun hn => (hbq hn).elim (fun e => (by rw [e]; exact Ne.symm hNB)) (fun e => (by rw [e]; exact Ne.symm (Nat.ne_of_lt hA.1.lt)))); replace hS := hS.grown hgrow (fun hn e => hNE hn (Option.some.inj e)); (try replace hA := hA.grown hgrow hNB); replace hV := below_own hE hgrow hV (Nat.le_refl _) (Nat.le_refl _); clear hE hownm hgrow hat hNE)
              (refine hK _ _ (⟨fun _ _ => HF.out _ hV, fun h => absurd h (by decide)⟩) ?_; clear hK K)
              (refine wpAnyK_with (F := fun W => (W.cell? ⟨g1, k * 3, none⟩ = some (.int .i64 x.st) ∧ W.cell? ⟨g1, k * 3 + 1, none⟩ = some (.int .i64 x.gd) ∧ W.cell? ⟨g1, k * 3 + 2, none⟩ = some (.slice x.A x.n x.c)) ∧ W.cell? ⟨g2, k, none⟩ = some (.int .i64 y) ∧ W.cell? ⟨g3, k, none⟩ = some (.int .i64 v) ∧ W.cell? ⟨g4, k, none⟩ = some (.slice z.A z.n z.c)) (HF.out _ hV) (fun hF11 => ?_); clear hF10)
              try simp only [Act.put, List.setIfInBounds_toArray, List.set_cons_zero, List.set_cons_succ]
              refine wpAnyK_step (i := 12) rfl (by kernel_rfl) (by rfl) (fun K hK => ?_)
              go_simp
              (have f0 := hA.1.frozen 0; have f1 := hA.1.frozen 1; have f2 := hA.1.frozen 2; have c0 := hA.1.cell 0; have c1 := hA.1.cell 1; have c2 := hA.1.cell 2; (try simp only [World.size_alloc, World.size_drew] at hBe); subst hBe; obtain ⟨⟨hq1, _⟩, hq2⟩ := hA.store (u := .int .i64 x.st) (v := .int .i64 x.gd) (z := .slice A' x.n c') hV; have hS1 := hS.store3 hNS (.int .i64 x.st) (.int .i64 x.gd) (.slice A' x.n c'); have hP1 := hP.store3 hNM (.int .i64 x.st) (.int .i64 x.gd) (.slice A' x.n c'); obtain ⟨⟨hq3, _⟩, hq4⟩ := AlcB.last hV0 (.int .i64 x.st) (.int .i64 x.gd) (.slice A' x.n c'); (try have hS2 := hS0.alloc (.cells #[.int .i64 x.st, .int .i64 x.gd, .slice A' x.n c'] 24)); (try have hP2 := hP0.alloc (.cells #[.int .i64 x.st, .int .i64 x.gd, .slice A' x.n c'] 24)); (try simp only [World.size_alloc, World.size_drew] at hq3); go_simp)
              (refine hK _ _ (⟨fun _ _ => (by first | with_reducible exact HF.out _ hq2 | with_reducible exact HF.out _ hq4), fun h => absurd h (by decide)⟩) ?_; clear hK K)
              (refine wpAnyK_with (F := fun W => (W.cell? ⟨g1, k * 3, none⟩ = some (.int .i64 x.st) ∧ W.cell? ⟨g1, k * 3 + 1, none⟩ = some (.int .i64 x.gd) ∧ W.cell? ⟨g1, k * 3 + 2, none⟩ = some (.slice x.A x.n x.c)) ∧ W.cell? ⟨g2, k, none⟩ = some (.int .i64 y) ∧ W.cell? ⟨g3, k, none⟩ = some (.int .i64 v) ∧ W.cell? ⟨g4, k, none⟩ = some (.slice z.A z.n z.c)) ((by first | with_reducible exact HF.out _ hq2 | with_reducible exact HF.out _ hq4)) (fun hF12 => ?_); clear hF11)
              try simp only [Act.put, List.setIfInBounds_toArray, List.set_cons_zero, List.set_cons_succ]
              (refine wpAnyK_takeL Keep2.refl (i := 13) (v := ?_) rfl (by kernel_rfl) (by kernel_rfl) (by kernel_rfl) (fun _ _ _ h => h) (by rfl) ?_ ?_; rotate_left 1; focus (intro w; go_simp; try with_reducible rfl))
              try simp only [Act.put, List.setIfInBounds_toArray, List.set_cons_zero, List.set_cons_succ]
              refine wpAnyK_done (by kernel_rfl) ?_ _
              go_wp2_with fail
              go_meet
              refine ⟨_, b', bm, A', Am, c', cm, rfl, rfl, ?_, ?_, ?_, ?_⟩ <;> with_reducible assumption
          · refine wpOp_of rfl (by rfl) (fun K hK => ?_)
            go_simp
            (obtain ⟨G, hGe, hE⟩ := own_emptyE 78 3 hV; (try have hNE : 0 < x.n → b' ≠ G := fun hn => (by rw [hGe]; exact Nat.ne_of_lt (hS.lt hn))); (try have hNB : B ≠ G := (by rw [hGe]; exact Nat.ne_of_lt hA.1.lt)); (try replace hS := hS.alloc (.cells #[] 78)); (try replace hA := hA.alloc (.cells #[] 78)); replace hV := hV.alloc hV.size (.cells #[] 78))
            (refine hK _ _ ⟨⟨fun _ _ => HF.out _ hV, fun h => absurd h (by decide)⟩, ?_⟩; clear hK K)
            (refine wpAnyK_with (F := fun W => (W.cell? ⟨g1, k * 3, none⟩ = some (.int .i64 x.st) ∧ W.cell? ⟨g1, k * 3 + 1, none⟩ = some (.int .i64 x.gd) ∧ W.cell? ⟨g1, k * 3 + 2, none⟩ = some (.slice x.A x.n x.c)) ∧ W.cell? ⟨g2, k, none⟩ = some (.int .i64 y) ∧ W.cell? ⟨g3, k, none⟩ = some (.int .i64 v) ∧ W.cell? ⟨g4, k, none⟩ = some (.slice z.A z.n z.c)) (HF.out _ hV) (fun hF13 => ?_); clear hF0)
            try simp only [Act.put, List.setIfInBounds_toArray, List.set_cons_zero, List.set_cons_succ]
            refine wpAnyK_all (rs := [4, 11]) (by kernel_rfl) (by simp) ?_
            refine List.forall_mem_cons.2 ⟨?_, List.forall_mem_cons.2 ⟨?_, fun _ h => absurd h List.not_mem_nil⟩⟩
            · refine wpOp_of rfl (by rfl) (fun K hK => ?_)
              go_simp
              (refine (copyBook_any x.st x.gd x.b x.n x.c x.A x.l _ (HX.out.old hV) (by omega)).mono ?_; rintro e w7 ⟨A', c', rfl, hown, hB7⟩; obtain ⟨b', hb', hS⟩ := Sl.of_own encS_len HX.out.len hown; (try have hNE : 0 < x.n → b' ≠ G := fun _ => Ne.symm (Nat.ne_of_lt (Nat.lt_of_lt_of_le (hE.lt G rfl).2 hb'))); (try have hNS : 0 < x.n → b' ≠ B := fun _ => Ne.symm (Nat.ne_of_lt (Nat.lt_of_lt_of_le hA.1.lt hb'))); (try replace hE := ownsRow_below hE hB7 (Nat.le_refl _)); (try replace hA := hA.step hB7); replace hV := hV.trans (hB7.mono hV.size); clear hown hB7)
              (refine hK _ _ ⟨⟨fun _ _ => HF.out _ hV, fun h => absurd h (by decide)⟩, ?_⟩; clear hK K)
              (refine wpAnyK_with (F := fun W => (W.cell? ⟨g1, k * 3, none⟩ = some (.int .i64 x.st) ∧ W.cell? ⟨g1, k * 3 + 1, none⟩ = some (.int .i64 x.gd) ∧ W.cell? ⟨g1, k * 3 + 2, none⟩ = some (.slice x.A x.n x.c)) ∧ W.cell? ⟨g2, k, none⟩ = some (.int .i64 y) ∧ W.cell? ⟨g3, k, none⟩ = some (.int .i64 v) ∧ W.cell? ⟨g4, k, none⟩ = some (.slice z.A z.n z.c)) (HF.out _ hV) (fun hF14 => ?_); clear hF13)
              try simp only [Act.put, List.setIfInBounds_toArray, List.set_cons_zero, List.set_cons_succ]
              refine wpAnyK_all (rs := [10, 11]) (by kernel_rfl) (by simp) ?_
              refine List.forall_mem_cons.2 ⟨?_, List.forall_mem_cons.2 ⟨?_, fun _ h => absurd h List.not_mem_nil⟩⟩
              · refine wpOp_of rfl (by rfl) (fun K hK => ?_)
                ((try simp only [World.size_alloc, World.size_drew] at hGe); subst hGe; refine wp_append_sl _ _ _ rfl wr.heap.size 78 i0 _ 24 Try.underlying74 hi iz0 iz1 iz2 rfl (by omega) encF_len _ 0 [] (by rfl) hE z.b z.A z.n z.c z.l (by rfl) (HZ.out.old hV) oneF (by unfold maxLen; omega) (by omega) hV.size ?_; intro Am cm w9 hownm hgrow hat; simp only [Nat.zero_add, List.nil_append] at hownm hat; obtain ⟨bm, hbq, hbm, hP⟩ := append_block encF_len HZ.out.len hownm hat; (try have hNM : 0 < z.n → bm ≠ B := fun hn => (hbq hn).elim (fun e => (by rw [e]; exact Ne.symm hNB)) (fun e => (by rw [e]; exact Ne.symm (Nat.ne_of_lt hA.1.lt)))); replace hS := hS.grown hgrow (fun hn e => hNE hn (Option.some.inj e)); (try replace hA := hA.grown hgrow hNB); replace hV := below_own hE hgrow hV (Nat.le_refl _) (Nat.le_refl _); clear hE hownm hgrow hat hNE)
                (refine hK _ _ ⟨⟨fun _ _ => HF.out _ hV, fun h => absurd h (by decide)⟩, ?_⟩; clear hK K)
                (refine wpAnyK_with (F := fun W => (W.cell? ⟨g1, k * 3, none⟩ = some (.int .i64 x.st) ∧ W.cell? ⟨g1, k * 3 + 1, none⟩ = some (.int .i64 x.gd) ∧ W.cell? ⟨g1, k * 3 + 2, none⟩ = some (.slice x.A x.n x.c)) ∧ W.cell? ⟨g2, k, none⟩ = some (.int .i64 y) ∧ W.cell? ⟨g3, k, none⟩ = some (.int .i64 v) ∧ W.cell? ⟨g4, k, none⟩ = some (.slice z.A z.n z.c)) (HF.out _ hV) (fun hF15 => ?_); clear hF14)
                try simp only [Act.put, List.setIfInBounds_toArray, List.set_cons_zero, List.set_cons_succ]
                refine wpAnyK_step (i := 11) rfl (by kernel_rfl) (by rfl) (fun K hK => ?_)
                go_simp
                (obtain ⟨B, hBe, hA⟩ := AlcB.newE hV; (try have hNB : B ≠ G := (by rw [hBe]; exact Ne.symm (Nat.ne_of_lt (hE.lt G rfl).2))); (try have hNS : 0 < x.n → b' ≠ B := fun hn => (by rw [hBe]; exact Nat.ne_of_lt (hS.lt hn))); (try have hNM : 0 < z.n → bm ≠ B := fun hn => (by rw [hBe]; exact Nat.ne_of_lt (hP.lt hn))); (try have hS0 := hS); (try have hP0 := hP); have hV0 := hV; (try replace hE := hE.alloc (.cells #[.int .i64 0, .int .i64 0, .slice none 0 0] 24)); (try replace hS := hS.alloc (.cells #[.int .i64 0, .int .i64 0, .slice none 0 0] 24)); (try replace hP := hP.alloc (.cells #[.int .i64 0, .int .i64 0, .slice none 0 0] 24)); replace hV := hV.alloc hV.size (.cells #[.int .i64 0, .int .i64 0, .slice none 0 0] 24))
                (refine hK _ _ (⟨fun _ _ => HF.out _ hV, fun h => absurd h (by decide)⟩) ?_; clear hK K)
                (refine wpAnyK_with (F := fun W => (W.cell? ⟨g1, k * 3, none⟩ = some (.int .i64 x.st) ∧ W.cell? ⟨g1, k * 3 + 1, none⟩ = some (.int .i64 x.gd) ∧ W.cell? ⟨g1, k * 3 + 2, none⟩ = some (.slice x.A x.n x.c)) ∧ W.cell? ⟨g2, k, none⟩ = some (.int .i64 y) ∧ W.cell? ⟨g3, k, none⟩ = some (.int .i64 v) ∧ W.cell? ⟨g4, k, none⟩ = some (.slice z.A z.n z.c)) (HF.out _ hV) (fun hF16 => ?_); clear hF15)
                try simp only [Act.put, List.setIfInBounds_toArray, List.set_cons_zero, List.set_cons_succ]
                refine wpAnyK_step (i := 12) rfl (by kernel_rfl) (by rfl) (fun K hK => ?_)
                go_simp
                (have f0 := hA.1.frozen 0; have f1 := hA.1.frozen 1; have f2 := hA.1.frozen 2; have c0 := hA.1.cell 0; have c1 := hA.1.cell 1; have c2 := hA.1.cell 2; (try simp only [World.size_alloc, World.size_drew] at hBe); subst hBe; obtain ⟨⟨hq1, _⟩, hq2⟩ := hA.store (u := .int .i64 x.st) (v := .int .i64 x.gd) (z := .slice A' x.n c') hV; have hS1 := hS.store3 hNS (.int .i64 x.st) (.int .i64 x.gd) (.slice A' x.n c'); have hP1 := hP.store3 hNM (.int .i64 x.st) (.int .i64 x.gd) (.slice A' x.n c'); obtain ⟨⟨hq3, _⟩, hq4⟩ := AlcB.last hV0 (.int .i64 x.st) (.int .i64 x.gd) (.slice A' x.n c'); (try have hS2 := hS0.alloc (.cells #[.int .i64 x.st, .int .i64 x.gd, .slice A' x.n c'] 24)); (try have hP2 := hP0.alloc (.cells #[.int .i64 x.st, .int .i64 x.gd, .slice A' x.n c'] 24)); (try simp only [World.size_alloc, World.size_drew] at hq3); go_simp)
                (refine hK _ _ (⟨fun _ _ => (by first | with_reducible exact HF.out _ hq2 | with_reducible exact HF.out _ hq4), fun h => absurd h (by decide)⟩) ?_; clear hK K)
                (refine wpAnyK_with (F := fun W => (W.cell? ⟨g1, k * 3, none⟩ = some (.int .i64 x.st) ∧ W.cell? ⟨g1, k * 3 + 1, none⟩ = some (.int .i64 x.gd) ∧ W.cell? ⟨g1, k * 3 + 2, none⟩ = some (.slice x.A x.n x.c)) ∧ W.cell? ⟨g2, k, none⟩ = some (.int .i64 y) ∧ W.cell? ⟨g3, k, none⟩ = some (.int .i64 v) ∧ W.cell? ⟨g4, k, none⟩ = some (.slice z.A z.n z.c)) ((by first | with_reducible exact HF.out _ hq2 | with_reducible exact HF.out _ hq4)) (fun hF17 => ?_); clear hF16)
                try simp only [Act.put, List.setIfInBounds_toArray, List.set_cons_zero, List.set_cons_succ]
                (refine wpAnyK_takeL Keep2.refl (i := 13) (v := ?_) rfl (by kernel_rfl) (by kernel_rfl) (by kernel_rfl) (fun _ _ _ h => h) (by rfl) ?_ ?_; rotate_left 1; focus (intro w; go_simp; try with_reducible rfl))
                try simp only [Act.put, List.setIfInBounds_toArray, List.set_cons_zero, List.set_cons_succ]
                refine wpAnyK_done (by kernel_rfl) ?_ _
                go_wp2_with fail
                go_meet
                refine ⟨_, b', bm, A', Am, c', cm, rfl, rfl, ?_, ?_, ?_, ?_⟩ <;> with_reducible assumption
              · refine wpOp_of rfl (by rfl) (fun K hK => ?_)
                go_simp
                (obtain ⟨B, hBe, hA⟩ := AlcB.newE hV; (try have hNB : B ≠ G := (by rw [hBe]; exact Ne.symm (Nat.ne_of_lt (hE.lt G rfl).2))); (try have hNS : 0 < x.n → b' ≠ B := fun hn => (by rw [hBe]; exact Nat.ne_of_lt (hS.lt hn))); (try have hNM : 0 < z.n → bm ≠ B := fun hn => (by rw [hBe]; exact Nat.ne_of_lt (hP.lt hn))); (try have hS0 := hS); (try have hP0 := hP); have hV0 := hV; (try replace hE := hE.alloc (.cells #[.int .i64 0, .int .i64 0, .slice none 0 0] 24)); (try replace hS := hS.alloc (.cells #[.int .i64 0, .int .i64 0, .slice none 0 0] 24)); (try replace hP := hP.alloc (.cells #[.int .i64 0, .int .i64 0, .slice none 0 0] 24)); replace hV := hV.alloc hV.size (.cells #[.int .i64 0, .int .i64 0, .slice none 0 0] 24))
                (refine hK _ _ ⟨⟨fun _ _ => HF.out _ hV, fun h => absurd h (by decide)⟩, ?_⟩; clear hK K)
                (refine wpAnyK_with (F := fun W => (W.cell? ⟨g1, k * 3, none⟩ = some (.int .i64 x.st) ∧ W.cell? ⟨g1, k * 3 + 1, none⟩ = some (.int .i64 x.gd) ∧ W.cell? ⟨g1, k * 3 + 2, none⟩ = some (.slice x.A x.n x.c)) ∧ W.cell? ⟨g2, k, none⟩ = some (.int .i64 y) ∧ W.cell? ⟨g3, k, none⟩ = some (.int .i64 v) ∧ W.cell? ⟨g4, k, none⟩ = some (.slice z.A z.n z.c)) (HF.out _ hV) (fun hF18 => ?_); clear hF14)
                try simp only [Act.put, List.setIfInBounds_toArray, List.set_cons_zero, List.set_cons_succ]
                refine wpAnyK_step (i := 10) rfl (by kernel_rfl) (by rfl) (fun K hK => ?_)
                ((try simp only [World.size_alloc, World.size_drew] at hGe); subst hGe; refine wp_append_sl _ _ _ rfl wr.heap.size 78 i0 _ 24 Try.underlying74 hi iz0 iz1 iz2 rfl (by omega) encF_len _ 0 [] (by rfl) hE z.b z.A z.n z.c z.l (by rfl) (HZ.out.old hV) oneF (by unfold maxLen; omega) (by omega) hV.size ?_; intro Am cm w9 hownm hgrow hat; simp only [Nat.zero_add, List.nil_append] at hownm hat; obtain ⟨bm, hbq, hbm, hP⟩ := append_block encF_len HZ.out.len hownm hat; (try have hNM : 0 < z.n → bm ≠ B := fun hn => (hbq hn).elim (fun e => (by rw [e]; exact Ne.symm hNB)) (fun e => (by rw [e]; exact Ne.symm (Nat.ne_of_lt hA.1.lt)))); replace hS := hS.grown hgrow (fun hn e => hNE hn (Option.some.inj e)); (try replace hA := hA.grown hgrow hNB); replace hV := below_own hE hgrow hV (Nat.le_refl _) (Nat.le_refl _); clear hE hownm hgrow hat hNE)
                (refine hK _ _ (⟨fun _ _ => HF.out _ hV, fun h => absurd h (by decide)⟩) ?_; clear hK K)
                (refine wpAnyK_with (F := fun W => (W.cell? ⟨g1, k * 3, none⟩ = some (.int .i64 x.st) ∧ W.cell? ⟨g1, k * 3 + 1, none⟩ = some (.int .i64 x.gd) ∧ W.cell? ⟨g1, k * 3 + 2, none⟩ = some (.slice x.A x.n x.c)) ∧ W.cell? ⟨g2, k, none⟩ = some (.int .i64 y) ∧ W.cell? ⟨g3, k, none⟩ = some (.int .i64 v) ∧ W.cell? ⟨g4, k, none⟩ = some (.slice z.A z.n z.c)) (HF.out _ hV) (fun hF19 => ?_); clear hF18)
                try simp only [Act.put, List.setIfInBounds_toArray, List.set_cons_zero, List.set_cons_succ]
                refine wpAnyK_step (i := 12) rfl (by kernel_rfl) (by rfl) (fun K hK => ?_)
                go_simp
                (have f0 := hA.1.frozen 0; have f1 := hA.1.frozen 1; have f2 := hA.1.frozen 2; have c0 := hA.1.cell 0; have c1 := hA.1.cell 1; have c2 := hA.1.cell 2; (try simp only [World.size_alloc, World.size_drew] at hBe); subst hBe; obtain ⟨⟨hq1, _⟩, hq2⟩ := hA.store (u := .int .i64 x.st) (v := .int .i64 x.gd) (z := .slice A' x.n c') hV; have hS1 := hS.store3 hNS (.int .i64 x.st) (.int .i64 x.gd) (.slice A' x.n c'); have hP1 := hP.store3 hNM (.int .i64 x.st) (.int .i64 x.gd) (.slice A' x.n c'); obtain ⟨⟨hq3, _⟩, hq4⟩ := AlcB.last hV0 (.int .i64 x.st) (.int .i64 x.gd) (.slice A' x.n c'); (try have hS2 := hS0.alloc (.cells #[.int .i64 x.st, .int .i64 x.gd, .slice A' x.n c'] 24)); (try have hP2 := hP0.alloc (.cells #[.int .i64 x.st, .int .i64 x.gd, .slice A' x.n c'] 24)); (try simp only [World.size_alloc, World.size_drew] at hq3); go_simp)
                (refine hK _ _ (⟨fun _ _ => (by first | with_reducible exact HF.out _ hq2 | with_reducible exact HF.out _ hq4), fun h => absurd h (by decide)⟩) ?_; clear hK K)
                (refine wpAnyK_with (F := fun W => (W.cell? ⟨g1, k * 3, none⟩ = some (.int .i64 x.st) ∧ W.cell? ⟨g1, k * 3 + 1, none⟩ = some (.int .i64 x.gd) ∧ W.cell? ⟨g1, k * 3 + 2, none⟩ = some (.slice x.A x.n x.c)) ∧ W.cell? ⟨g2, k, none⟩ = some (.int .i64 y) ∧ W.cell? ⟨g3, k, none⟩ = some (.int .i64 v) ∧ W.cell? ⟨g4, k, none⟩ = some (.slice z.A z.n z.c)) ((by first | with_reducible exact HF.out _ hq2 | with_reducible exact HF.out _ hq4)) (fun hF20 => ?_); clear hF19)
                try simp only [Act.put, List.setIfInBounds_toArray, List.set_cons_zero, List.set_cons_succ]
                (refine wpAnyK_takeL Keep2.refl (i := 13) (v := ?_) rfl (by kernel_rfl) (by kernel_rfl) (by kernel_rfl) (fun _ _ _ h => h) (by rfl) ?_ ?_; rotate_left 1; focus (intro w; go_simp; try with_reducible rfl))
                try simp only [Act.put, List.setIfInBounds_toArray, List.set_cons_zero, List.set_cons_succ]
                refine wpAnyK_done (by kernel_rfl) ?_ _
                go_wp2_with fail
                go_meet
                refine ⟨_, b', bm, A', Am, c', cm, rfl, rfl, ?_, ?_, ?_, ?_⟩ <;> with_reducible assumption
            · refine wpOp_of rfl (by rfl) (fun K hK => ?_)
              go_simp
              (obtain ⟨B, hBe, hA⟩ := AlcB.newE hV; (try have hNB : B ≠ G := (by rw [hBe]; exact Ne.symm (Nat.ne_of_lt (hE.lt G rfl).2))); (try have hNS : 0 < x.n → b' ≠ B := fun hn => (by rw [hBe]; exact Nat.ne_of_lt (hS.lt hn))); (try have hNM : 0 < z.n → bm ≠ B := fun hn => (by rw [hBe]; exact Nat.ne_of_lt (hP.lt hn))); (try have hS0 := hS); (try have hP0 := hP); have hV0 := hV; (try replace hE := hE.alloc (.cells #[.int .i64 0, .int .i64 0, .slice none 0 0] 24)); (try replace hS := hS.alloc (.cells #[.int .i64 0, .int .i64 0, .slice none 0 0] 24)); (try replace hP := hP.alloc (.cells #[.int .i64 0, .int .i64 0, .slice none 0 0] 24)); replace hV := hV.alloc hV.size (.cells #[.int .i64 0, .int .i64 0, .slice none 0 0] 24))
              (refine hK _ _ ⟨⟨fun _ _ => HF.out _ hV, fun h => absurd h (by decide)⟩, ?_⟩; clear hK K)
              (refine wpAnyK_with (F := fun W => (W.cell? ⟨g1, k * 3, none⟩ = some (.int .i64 x.st) ∧ W.cell? ⟨g1, k * 3 + 1, none⟩ = some (.int .i64 x.gd) ∧ W.cell? ⟨g1, k * 3 + 2, none⟩ = some (.slice x.A x.n x.c)) ∧ W.cell? ⟨g2, k, none⟩ = some (.int .i64 y) ∧ W.cell? ⟨g3, k, none⟩ = some (.int .i64 v) ∧ W.cell? ⟨g4, k, none⟩ = some (.slice z.A z.n z.c)) (HF.out _ hV) (fun hF21 => ?_); clear hF13)
              try simp only [Act.put, List.setIfInBounds_toArray, List.set_cons_zero, List.set_cons_succ]
              refine wpAnyK_step (i := 4) rfl (by kernel_rfl) (by rfl) (fun K hK => ?_)
              go_simp
              (refine (copyBook_any x.st x.gd x.b x.n x.c x.A x.l _ (HX.out.old hV) (by omega)).mono ?_; rintro e w7 ⟨A', c', rfl, hown, hB7⟩; obtain ⟨b', hb', hS⟩ := Sl.of_own encS_len HX.out.len hown; (try have hNE : 0 < x.n → b' ≠ G := fun _ => Ne.symm (Nat.ne_of_lt (Nat.lt_of_lt_of_le (hE.lt G rfl).2 hb'))); (try have hNS : 0 < x.n → b' ≠ B := fun _ => Ne.symm (Nat.ne_of_lt (Nat.lt_of_lt_of_le hA.1.lt hb'))); (try replace hE := ownsRow_below hE hB7 (Nat.le_refl _)); (try replace hA := hA.step hB7); replace hV := hV.trans (hB7.mono hV.size); clear hown hB7)
              (refine hK _ _ (⟨fun _ _ => HF.out _ hV, fun h => absurd h (by decide)⟩) ?_; clear hK K)
              (refine wpAnyK_with (F := fun W => (W.cell? ⟨g1, k * 3, none⟩ = some (.int .i64 x.st) ∧ W.cell? ⟨g1, k * 3 + 1, none⟩ = some (.int .i64 x.gd) ∧ W.cell? ⟨g1, k * 3 + 2, none⟩ = some (.slice x.A x.n x.c)) ∧ W.cell? ⟨g2, k, none⟩ = some (.int .i64 y) ∧ W.cell? ⟨g3, k, none⟩ = some (.int .i64 v) ∧ W.cell? ⟨g4, k, none⟩ = some (.slice z.A z.n z.c)) (HF.out _ hV) (fun hF22 => ?_); clear hF21)
              try simp only [Act.put, List.setIfInBounds_toArray, List.set_cons_zero, List.set_cons_succ]
              refine wpAnyK_step (i := 10) rfl (by kernel_rfl) (by rfl) (fun K hK => ?_)
              ((try simp only [World.size_alloc, World.size_drew] at hGe); subst hGe; refine wp_append_sl _ _ _ rfl wr.heap.size 78 i0 _ 24 Try.underlying74 hi iz0 iz1 iz2 rfl (by omega) encF_len _ 0 [] (by rfl) hE z.b z.A z.n z.c z.l (by rfl) (HZ.out.old hV) oneF (by unfold maxLen; omega) (by omega) hV.size ?_; intro Am cm w9 hownm hgrow hat; simp only [Nat.zero_add, List.nil_append] at hownm hat; obtain ⟨bm, hbq, hbm, hP⟩ := append_block encF_len HZ.out.len hownm hat; (try have hNM : 0 < z.n → bm ≠ B := fun hn => (hbq hn).elim (fun e => (by rw [e]; exact Ne.symm hNB)) (fun e => (by rw [e]; exact Ne.symm (Nat.ne_of_lt hA.1.lt)))); replace hS := hS.grown hgrow (fun hn e => hNE hn (Option.some.inj e)); (try replace hA := hA.grown hgrow hNB); replace hV := below_own hE hgrow hV (Nat.le_refl _) (Nat.le_refl _); clear hE hownm hgrow hat hNE)
              (refine hK _ _ (⟨fun _ _ => HF.out _ hV, fun h => absurd h (by decide)⟩) ?_; clear hK K)
              (refine wpAnyK_with (F := fun W => (W.cell? ⟨g1, k * 3, none⟩ = some (.int .i64 x.st) ∧ W.cell? ⟨g1, k * 3 + 1, none⟩ = some (.int .i64 x.gd) ∧ W.cell? ⟨g1, k * 3 + 2, none⟩ = some (.slice x.A x.n x.c)) ∧ W.cell? ⟨g2, k, none⟩ = some (.int .i64 y) ∧ W.cell? ⟨g3, k, none⟩ = some (.int .i64 v) ∧ W.cell? ⟨g4, k, none⟩ = some (.slice z.A z.n z.c)) (HF.out _ hV) (fun hF23 => ?_); clear hF22)
              try simp only [Act.put, List.setIfInBounds_toArray, List.set_cons_zero, List.set_cons_succ]
              refine wpAnyK_step (i := 12) rfl (by kernel_rfl) (by rfl) (fun K hK => ?_)
              go_simp
              (have f0 := hA.1.frozen 0; have f1 := hA.1.frozen 1; have f2 := hA.1.frozen 2; have c0 := hA.1.cell 0; have c1 := hA.1.cell 1; have c2 := hA.1.cell 2; (try simp only [World.size_alloc, World.size_drew] at hBe); subst hBe; obtain ⟨⟨hq1, _⟩, hq2⟩ := hA.store (u := .int .i64 x.st) (v := .int .i64 x.gd) (z := .slice A' x.n c') hV; have hS1 := hS.store3 hNS (.int .i64 x.st) (.int .i64 x.gd) (.slice A' x.n c'); have hP1 := hP.store3 hNM (.int .i64 x.st) (.int .i64 x.gd) (.slice A' x.n c'); obtain ⟨⟨hq3, _⟩, hq4⟩ := AlcB.last hV0 (.int .i64 x.st) (.int .i64 x.gd) (.slice A' x.n c'); (try have hS2 := hS0.alloc (.cells #[.int .i64 x.st, .int .i64 x.gd, .slice A' x.n c'] 24)); (try have hP2 := hP0.alloc (.cells #[.int .i64 x.st, .int .i64 x.gd, .slice A' x.n c'] 24)); (try simp only [World.size_alloc, World.size_drew] at hq3); go_simp)
              (refine hK _ _ (⟨fun _ _ => (by first | with_reducible exact HF.out _ hq2 | with_reducible exact HF.out _ hq4), fun h => absurd h (by decide)⟩) ?_; clear hK K)
              (refine wpAnyK_with (F := fun W => (W.cell? ⟨g1, k * 3, none⟩ = some (.int .i64 x.st) ∧ W.cell? ⟨g1, k * 3 + 1, none⟩ = some (.int .i64 x.gd) ∧ W.cell? ⟨g1, k * 3 + 2, none⟩ = some (.slice x.A x.n x.c)) ∧ W.cell? ⟨g2, k, none⟩ = some (.int .i64 y) ∧ W.cell? ⟨g3, k, none⟩ = some (.int .i64 v) ∧ W.cell? ⟨g4, k, none⟩ = some (.slice z.A z.n z.c)) ((by first | with_reducible exact HF.out _ hq2 | with_reducible exact HF.out _ hq4)) (fun hF24 => ?_); clear hF23)
              try simp only [Act.put, List.setIfInBounds_toArray, List.set_cons_zero, List.set_cons_succ]
              (refine wpAnyK_takeL Keep2.refl (i := 13) (v := ?_) rfl (by kernel_rfl) (by kernel_rfl) (by kernel_rfl) (fun _ _ _ h => h) (by rfl) ?_ ?_; rotate_left 1; focus (intro w; go_simp; try with_reducible rfl))
              try simp only [Act.put, List.setIfInBounds_toArray, List.set_cons_zero, List.set_cons_succ]
              refine wpAnyK_done (by kernel_rfl) ?_ _
              go_wp2_with fail
              go_meet
              refine ⟨_, b', bm, A', Am, c', cm, rfl, rfl, ?_, ?_, ?_, ?_⟩ <;> with_reducible assumption
          · refine wpOp_of rfl (by rfl) (fun K hK => ?_)
            go_simp
            (obtain ⟨B, hBe, hA⟩ := AlcB.newE hV; (try have hNB : B ≠ G := (by rw [hBe]; exact Ne.symm (Nat.ne_of_lt (hE.lt G rfl).2))); (try have hNS : 0 < x.n → b' ≠ B := fun hn => (by rw [hBe]; exact Nat.ne_of_lt (hS.lt hn))); (try have hNM : 0 < z.n → bm ≠ B := fun hn => (by rw [hBe]; exact Nat.ne_of_lt (hP.lt hn))); (try have hS0 := hS); (try have hP0 := hP); have hV0 := hV; (try replace hE := hE.alloc (.cells #[.int .i64 0, .int .i64 0, .slice none 0 0] 24)); (try replace hS := hS.alloc (.cells #[.int .i64 0, .int .i64 0, .slice none 0 0] 24)); (try replace hP := hP.alloc (.cells #[.int .i64 0, .int .i64 0, .slice none 0 0] 24)); replace hV := hV.alloc hV.size (.cells #[.int .i64 0, .int .i64 0, .slice none 0 0] 24))
            (refine hK _ _ ⟨⟨fun _ _ => HF.out _ hV, fun h => absurd h (by decide)⟩, ?_⟩; clear hK K)
            (refine wpAnyK_with (F := fun W => (W.cell? ⟨g1, k * 3, none⟩ = some (.int .i64 x.st) ∧ W.cell? ⟨g1, k * 3 + 1, none⟩ = some (.int .i64 x.gd) ∧ W.cell? ⟨g1, k * 3 + 2, none⟩ = some (.slice x.A x.n x.c)) ∧ W.cell? ⟨g2, k, none⟩ = some (.int .i64 y) ∧ W.cell? ⟨g3, k, none⟩ = some (.int .i64 v) ∧ W.cell? ⟨g4, k, none⟩ = some (.slice z.A z.n z.c)) (HF.out _ hV) (fun hF25 => ?_); clear hF0)
            try simp only [Act.put, List.setIfInBounds_toArray, List.set_cons_zero, List.set_cons_succ]
            refine wpAnyK_all (rs := [4, 5]) (by kernel_rfl) (by simp) ?_
            refine List.forall_mem_cons.2 ⟨?_, List.forall_mem_cons.2 ⟨?_, fun _ h => absurd h List.not_mem_nil⟩⟩
            · refine wpOp_of rfl (by rfl) (fun K hK => ?_)
              go_simp
              (refine (copyBook_any x.st x.gd x.b x.n x.c x.A x.l _ (HX.out.old hV) (by omega)).mono ?_; rintro e w7 ⟨A', c', rfl, hown, hB7⟩; obtain ⟨b', hb', hS⟩ := Sl.of_own encS_len HX.out.len hown; (try have hNE : 0 < x.n → b' ≠ G := fun _ => Ne.symm (Nat.ne_of_lt (Nat.lt_of_lt_of_le (hE.lt G rfl).2 hb'))); (try have hNS : 0 < x.n → b' ≠ B := fun _ => Ne.symm (Nat.ne_of_lt (Nat.lt_of_lt_of_le hA.1.lt hb'))); (try replace hE := ownsRow_below hE hB7 (Nat.le_refl _)); (try replace hA := hA.step hB7); replace hV := hV.trans (hB7.mono hV.size); clear hown hB7)
              (refine hK _ _ ⟨⟨fun _ _ => HF.out _ hV, fun h => absurd h (by decide)⟩, ?_⟩; clear hK K)
              (refine wpAnyK_with (F := fun W => (W.cell? ⟨g1, k * 3, none⟩ = some (.int .i64 x.st) ∧ W.cell? ⟨g1, k * 3 + 1, none⟩ = some (.int .i64 x.gd) ∧ W.cell? ⟨g1, k * 3 + 2, none⟩ = some (.slice x.A x.n x.c)) ∧ W.cell? ⟨g2, k, none⟩ = some (.int .i64 y) ∧ W.cell? ⟨g3, k, none⟩ = some (.int .i64 v) ∧ W.cell? ⟨g4, k, none⟩ = some (.slice z.A z.n z.c)) (HF.out _ hV) (fun hF26 => ?_); clear hF25)
              try simp only [Act.put, List.setIfInBounds_toArray, List.set_cons_zero, List.set_cons_succ]
              refine wpAnyK_step (i := 5) rfl (by kernel_rfl) (by rfl) (fun K hK => ?_)
              go_simp
              (obtain ⟨G, hGe, hE⟩ := own_emptyE 78 3 hV; (try have hNE : 0 < x.n → b' ≠ G := fun hn => (by rw [hGe]; exact Nat.ne_of_lt (hS.lt hn))); (try have hNB : B ≠ G := (by rw [hGe]; exact Nat.ne_of_lt hA.1.lt)); (try replace hS := hS.alloc (.cells #[] 78)); (try replace hA := hA.alloc (.cells #[] 78)); replace hV := hV.alloc hV.size (.cells #[] 78))
              (refine hK _ _ (⟨fun _ _ => HF.out _ hV, fun h => absurd h (by decide)⟩) ?_; clear hK K)
              (refine wpAnyK_with (F := fun W => (W.cell? ⟨g1, k * 3, none⟩ = some (.int .i64 x.st) ∧ W.cell? ⟨g1, k * 3 + 1, none⟩ = some (.int .i64 x.gd) ∧ W.cell? ⟨g1, k * 3 + 2, none⟩ = some (.slice x.A x.n x.c)) ∧ W.cell? ⟨g2, k, none⟩ = some (.int .i64 y) ∧ W.cell? ⟨g3, k, none⟩ = some (.int .i64 v) ∧ W.cell? ⟨g4, k, none⟩ = some (.slice z.A z.n z.c)) (HF.out _ hV) (fun hF27 => ?_); clear hF26)
              try simp only [Act.put, List.setIfInBounds_toArray, List.set_cons_zero, List.set_cons_succ]
              refine wpAnyK_step (i := 10) rfl (by kernel_rfl) (by rfl) (fun K hK => ?_)
              ((try simp only [World.size_alloc, World.size_drew] at hGe); subst hGe; refine wp_append_sl _ _ _ rfl wr.heap.size 78 i0 _ 24 Try.underlying74 hi iz0 iz1 iz2 rfl (by omega) encF_len _ 0 [] (by rfl) hE z.b z.A z.n z.c z.l (by rfl) (HZ.out.old hV) oneF (by unfold maxLen; omega) (by omega) hV.size ?_; intro Am cm w9 hownm hgrow hat; simp only [Nat.zero_add, List.nil_append] at hownm hat; obtain ⟨bm, hbq, hbm, hP⟩ := append_block encF_len HZ.out.len hownm hat; (try have hNM : 0 < z.n → bm ≠ B := fun hn => (hbq hn).elim (fun e => (by rw [e]; exact Ne.symm hNB)) (fun e => (by rw [e]; exact Ne.symm (Nat.ne_of_lt hA.1.lt)))); replace hS := hS.grown hgrow (fun hn e => hNE hn (Option.some.inj e)); (try replace hA := hA.grown hgrow hNB); replace hV := below_own hE hgrow hV (Nat.le_refl _) (Nat.le_refl _); clear hE hownm hgrow hat hNE)
              (refine hK _ _ (⟨fun _ _ => HF.out _ hV, fun h => absurd h (by decide)⟩) ?_; clear hK K)
              (refine wpAnyK_with (F := fun W => (W.cell? ⟨g1, k * 3, none⟩ = some (.int .i64 x.st) ∧ W.cell? ⟨g1, k * 3 + 1, none⟩ = some (.int .i64 x.gd) ∧ W.cell? ⟨g1, k * 3 + 2, none⟩ = some (.slice x.A x.n x.c)) ∧ W.cell? ⟨g2, k, none⟩ = some (.int .i64 y) ∧ W.cell? ⟨g3, k, none⟩ = some (.int .i64 v) ∧ W.cell? ⟨g4, k, none⟩ = some (.slice z.A z.n z.c)) (HF.out _ hV) (fun hF28 => ?_); clear hF27)
              try simp only [Act.put, List.setIfInBounds_toArray, List.set_cons_zero, List.set_cons_succ]
              refine wpAnyK_step (i := 12) rfl (by kernel_rfl) (by rfl) (fun K hK => ?_)
              go_simp
              (have f0 := hA.1.frozen 0; have f1 := hA.1.frozen 1; have f2 := hA.1.frozen 2; have c0 := hA.1.cell 0; have c1 := hA.1.cell 1; have c2 := hA.1.cell 2; (try simp only [World.size_alloc, World.size_drew] at hBe); subst hBe; obtain ⟨⟨hq1, _⟩, hq2⟩ := hA.store (u := .int .i64 x.st) (v := .int .i64 x.gd) (z := .slice A' x.n c') hV; have hS1 := hS.store3 hNS (.int .i64 x.st) (.int .i64 x.gd) (.slice A' x.n c'); have hP1 := hP.store3 hNM (.int .i64 x.st) (.int .i64 x.gd) (.slice A' x.n c'); obtain ⟨⟨hq3, _⟩, hq4⟩ := AlcB.last hV0 (.int .i64 x.st) (.int .i64 x.gd) (.slice A' x.n c'); (try have hS2 := hS0.alloc (.cells #[.int .i64 x.st, .int .i64 x.gd, .slice A' x.n c'] 24)); (try have hP2 := hP0.alloc (.cells #[.int .i64 x.st, .int .i64 x.gd, .slice A' x.n c'] 24)); (try simp only [World.size_alloc, World.size_drew] at hq3); go_simp)
              (refine hK _ _ (⟨fun _ _ => (by first | with_reducible exact HF.out _ hq2 | with_reducible exact HF.out _ hq4), fun h => absurd h (by decide)⟩) ?_; clear hK K)
              (refine wpAnyK_with (F := fun W => (W.cell? ⟨g1, k * 3, none⟩ = some (.int .i64 x.st) ∧ W.cell? ⟨g1, k * 3 + 1, none⟩ = some (.int .i64 x.gd) ∧ W.cell? ⟨g1, k * 3 + 2, none⟩ = some (.slice x.A x.n x.c)) ∧ W.cell? ⟨g2, k, none⟩ = some (.int .i64 y) ∧ W.cell? ⟨g3, k, none⟩ = some (.int .i64 v) ∧ W.cell? ⟨g4, k, none⟩ = some (.slice z.A z.n z.c)) ((by first | with_reducible exact HF.out _ hq2 | with_reducible exact HF.out _ hq4)) (fun hF29 => ?_); clear hF28)
              try simp only [Act.put, List.setIfInBounds_toArray, List.set_cons_zero, List.set_cons_succ]
              (refine wpAnyK_takeL Keep2.refl (i := 13) (v := ?_) rfl (by kernel_rfl) (by kernel_rfl) (by kernel_rfl) (fun _ _ _ h => h) (by rfl) ?_ ?_; rotate_left 1; focus (intro w; go_simp; try with_reducible rfl))
              try simp only [Act.put, List.setIfInBounds_toArray, List.set_cons_zero, List.set_cons_succ]
              refine wpAnyK_done (by kernel_rfl) ?_ _
              go_wp2_with fail
              go_meet
              refine ⟨_, b', bm, A', Am, c', cm, rfl, rfl, ?_, ?_, ?_, ?_⟩ <;> with_reducible assumption
            · refine wpOp_of rfl (by rfl) (fun K hK => ?_)
              go_simp
              (obtain ⟨G, hGe, hE⟩ := own_emptyE 78 3 hV; (try have hNE : 0 < x.n → b' ≠ G := fun hn => (by rw [hGe]; exact Nat.ne_of_lt (hS.lt hn))); (try have hNB : B ≠ G := (by rw [hGe]; exact Nat.ne_of_lt hA.1.lt)); (try replace hS := hS.alloc (.cells #[] 78)); (try replace hA := hA.alloc (.cells #[] 78)); replace hV := hV.alloc hV.size (.cells #[] 78))
              (refine hK _ _ ⟨⟨fun _ _ => HF.out _ hV, fun h => absurd h (by decide)⟩, ?_⟩; clear hK K)
              (refine wpAnyK_with (F := fun W => (W.cell? ⟨g1, k * 3, none⟩ = some (.int .i64 x.st) ∧ W.cell? ⟨g1, k * 3 + 1, none⟩ = some (.int .i64 x.gd) ∧ W.cell? ⟨g1, k * 3 + 2, none⟩ = some (.slice x.A x.n x.c)) ∧ W.cell? ⟨g2, k, none⟩ = some (.int .i64 y) ∧ W.cell? ⟨g3, k, none⟩ = some (.int .i64 v) ∧ W.cell? ⟨g4, k, none⟩ = some (.slice z.A z.n z.c)) (HF.out _ hV) (fun hF30 => ?_); clear hF25)
              try simp only [Act.put, List.setIfInBounds_toArray, List.set_cons_zero, List.set_cons_succ]
              refine wpAnyK_step (i := 4) rfl (by kernel_rfl) (by rfl) (fun K hK => ?_)
              go_simp
              (refine (copyBook_any x.st x.gd x.b x.n x.c x.A x.l _ (HX.out.old hV) (by omega)).mono ?_; rintro e w7 ⟨A', c', rfl, hown, hB7⟩; obtain ⟨b', hb', hS⟩ := Sl.of_own encS_len HX.out.len hown; (try have hNE : 0 < x.n → b' ≠ G := fun _ => Ne.symm (Nat.ne_of_lt (Nat.lt_of_lt_of_le (hE.lt G rfl).2 hb'))); (try have hNS : 0 < x.n → b' ≠ B := fun _ => Ne.symm (Nat.ne_of_lt (Nat.lt_of_lt_of_le hA.1.lt hb'))); (try replace hE := ownsRow_below hE hB7 (Nat.le_refl _)); (try replace hA := hA.step hB7); replace hV := hV.trans (hB7.mono hV.size); clear hown hB7)
              (refine hK _ _ (⟨fun _ _ => HF.out _ hV, fun h => absurd h (by decide)⟩) ?_; clear hK K)
              (refine wpAnyK_with (F := fun W => (W.cell? ⟨g1, k * 3, none⟩ = some (.int .i64 x.st) ∧ W.cell? ⟨g1, k * 3 + 1, none⟩ = some (.int .i64 x.gd) ∧ W.cell? ⟨g1, k * 3 + 2, none⟩ = some (.slice x.A x.n x.c)) ∧ W.cell? ⟨g2, k, none⟩ = some (.int .i64 y) ∧ W.cell? ⟨g3, k, none⟩ = some (.int .i64 v) ∧ W.cell? ⟨g4, k, none⟩ = some (.slice z.A z.n z.c)) (HF.out _ hV) (fun hF31 => ?_); clear hF30)
              try simp only [Act.put, List.setIfInBounds_toArray, List.set_cons_zero, List.set_cons_succ]
              refine wpAnyK_step (i := 10) rfl (by kernel_rfl) (by rfl) (fun K hK => ?_)
              ((try simp only [World.size_alloc, World.size_drew] at hGe); subst hGe; refine wp_append_sl _ _ _ rfl wr.heap.size 78 i0 _ 24 Try.underlying74 hi iz0 iz1 iz2 rfl (by omega) encF_len _ 0 [] (by rfl) hE z.b z.A z.n z.c z.l (by rfl) (HZ.out.old hV) oneF (by unfold maxLen; omega) (by omega) hV.size ?_; intro Am cm w9 hownm hgrow hat; simp only [Nat.zero_add, List.nil_append] at hownm hat; obtain ⟨bm, hbq, hbm, hP⟩ := append_block encF_len HZ.out.len hownm hat; (try have hNM : 0 < z.n → bm ≠ B := fun hn => (hbq hn).elim (fun e => (by rw [e]; exact Ne.symm hNB)) (fun e => (by rw [e]; exact Ne.symm (Nat.ne_of_lt hA.1.lt)))); replace hS := hS.grown hgrow (fun hn e => hNE hn (Option.some.inj e)); (try replace hA := hA.grown hgrow hNB); replace hV := below_own hE hgrow hV (Nat.le_refl _) (Nat.le_refl _); clear hE hownm hgrow hat hNE)
              (refine hK _ _ (⟨fun _ _ => HF.out _ hV, fun h => absurd h (by decide)⟩) ?_; clear hK K)
              (refine wpAnyK_with (F := fun W => (W.cell? ⟨g1, k * 3, none⟩ = some (.int .i64 x.st) ∧ W.cell? ⟨g1, k * 3 + 1, none⟩ = some (.int .i64 x.gd) ∧ W.cell? ⟨g1, k * 3 + 2, none⟩ = some (.slice x.A x.n x.c)) ∧ W.cell? ⟨g2, k, none⟩ = some (.int .i64 y) ∧ W.cell? ⟨g3, k, none⟩ = some (.int .i64 v) ∧ W.cell? ⟨g4, k, none⟩ = some (.slice z.A z.n z.c)) (HF.out _ hV) (fun hF32 => ?_); clear hF31)
              try simp only [Act.put, List.setIfInBounds_toArray, List.set_cons_zero, List.set_cons_succ]
              refine wpAnyK_step (i := 12) rfl (by kernel_rfl) (by rfl) (fun K hK => ?_)
              go_simp
              (have f0 := hA.1.frozen 0; have f1 := hA.1.frozen 1; have f2 := hA.1.frozen 2; have c0 := hA.1.cell 0; have c1 := hA.1.cell 1; have c2 := hA.1.cell 2; (try simp only [World.size_alloc, World.size_drew] at hBe); subst hBe; obtain ⟨⟨hq1, _⟩, hq2⟩ := hA.store (u := .int .i64 x.st) (v := .int .i64 x.gd) (z := .slice A' x.n c') hV; have hS1 := hS.store3 hNS (.int .i64 x.st) (.int .i64 x.gd) (.slice A' x.n c'); have hP1 := hP.store3 hNM (.int .i64 x.st) (.int .i64 x.gd) (.slice A' x.n c'); obtain ⟨⟨hq3, _⟩, hq4⟩ := AlcB.last hV0 (.int .i64 x.st) (.int .i64 x.gd) (.slice A' x.n c'); (try have hS2 := hS0.alloc (.cells #[.int .i64 x.st, .int .i64 x.gd, .slice A' x.n c'] 24)); (try have hP2 := hP0.alloc (.cells #[.int .i64 x.st, .int .i64 x.gd, .slice A' x.n c'] 24)); (try simp only [World.size_alloc, World.size_drew] at hq3); go_simp)
              (refine hK _ _ (⟨fun _ _ => (by first | with_reducible exact HF.out _ hq2 | with_reducible exact HF.out _ hq4), fun h => absurd h (by decide)⟩) ?_; clear hK K)
              (refine wpAnyK_with (F := fun W => (W.cell? ⟨g1, k * 3, none⟩ = some (.int .i64 x.st) ∧ W.cell? ⟨g1, k * 3 + 1, none⟩ = some (.int .i64 x.gd) ∧ W.cell? ⟨g1, k * 3 + 2, none⟩ = some (.slice x.A x.n x.c)) ∧ W.cell? ⟨g2, k, none⟩ = some (.int .i64 y) ∧ W.cell? ⟨g3, k, none⟩ = some (.int .i64 v) ∧ W.cell? ⟨g4, k, none⟩ = some (.slice z.A z.n z.c)) ((by first | with_reducible exact HF.out _ hq2 | with_reducible exact HF.out _ hq4)) (fun hF33 => ?_); clear hF32)
              try simp only [Act.put, List.setIfInBounds_toArray, List.set_cons_zero, List.set_cons_succ]
              (refine wpAnyK_takeL Keep2.refl (i := 13) (v := ?_) rfl (by kernel_rfl) (by kernel_rfl) (by kernel_rfl) (fun _ _ _ h => h) (by rfl) ?_ ?_; rotate_left 1; focus (intro w; go_simp; try with_reducible rfl))
              try simp only [Act.put, List.setIfInBounds_toArray, List.set_cons_zero, List.set_cons_succ]
              refine wpAnyK_done (by kernel_rfl) ?_ _
              go_wp2_with fail
              go_meet
              refine ⟨_, b', bm, A', Am, c', cm, rfl, rfl, ?_, ?_, ?_, ?_⟩ <;> with_reducible assumption
        case rest =>
          obtain ⟨B0, b', bm, A', Am, c', cm, rfl, rfl, hKB, hSB, hSM, hVB⟩ := hcut
          obtain ⟨V, rfl⟩ : ∃ V : World, V = wc := ⟨_, rfl⟩
          have KB := Lib.hid hKB
          have SB := Lib.hid hSB
          have SM := Lib.hid hSM
          have HVB := Lib.hid hVB
          have hzV : wr.heap.size ≤ V.heap.size := hVB.size
          have XV := Lib.hid (HX.out.old hVB)
          have ZV := Lib.hid (HZ.out.old hVB)
          clear hKB hSB hSM hVB
          have HFC := Lib.hid (fun (W : World) (hW : Below V.heap.size V W) => (show (W.cell? ⟨B0, 0, none⟩ = some (.int .i64 x.st) ∧ W.cell? ⟨B0, 1, none⟩ = some (.int .i64 x.gd) ∧ W.cell? ⟨B0, 2, none⟩ = some (.slice A' x.n c')) ∧ (W.cell? ⟨g1, k * 3, none⟩ = some (.int .i64 x.st) ∧ W.cell? ⟨g1, k * 3 + 1, none⟩ = some (.int .i64 x.gd) ∧ W.cell? ⟨g1, k * 3 + 2, none⟩ = some (.slice x.A x.n x.c)) ∧ W.cell? ⟨g2, k, none⟩ = some (.int .i64 y) ∧ W.cell? ⟨g3, k, none⟩ = some (.int .i64 v) ∧ W.cell? ⟨g4, k, none⟩ = some (.slice z.A z.n z.c) from
            ⟨⟨(KB.out.below hW KB.out.lt).cell 0, (KB.out.below hW KB.out.lt).cell 1, (KB.out.below hW KB.out.lt).cell 2⟩, HF.out W (HVB.out.trans (hW.mono hzV))⟩))
          obtain ⟨eq, heq⟩ : ∃ q, q = check x.st x.gd x.l := ⟨_, rfl⟩
          obtain ⟨sq, hsq⟩ : ∃ q, q = (if eq = 0 then sealOf x.st x.gd x.l else 0) := ⟨_, rfl⟩
          obtain ⟨pq, hpq⟩ : ∃ q, q = pickOut x.st x.gd x.l y v := ⟨_, rfl⟩
          obtain ⟨pe, hpe⟩ : ∃ q, q = pickErr x.st x.gd x.l y v := ⟨_, rfl⟩
          obtain ⟨oq, hoq⟩ : ∃ q, q = audited x.st x.gd x.l z.l := ⟨_, rfl⟩
          have hpl : pq.length ≤ 10 := by rw [hpq]; exact pickOut_le _ _ _ _ _
          have hol : oq.2.length ≤ 60 := by
            have h1 : oq.2.length ≤ x.l.length := by rw [hoq]; exact audited_le _ _ _ _
            have := XV.out.len
            omega
          have HEQ := Lib.hid heq
          have HSQ := Lib.hid hsq
          have HPQ := Lib.hid hpq
          have HPE := Lib.hid hpe
          have HOQ := Lib.hid hoq
          clear heq hsq hpq hpe hoq
          obtain ⟨e0, e1, e2⟩ := (HFC.out _ (Below.refl _ V)).1
          go_wp2_with fail
          refine (sealTop_any x.st x.gd b' x.n c' A' x.l _ SB.out (by omega)).mono ?_
          rw [← HEQ.out, ← HSQ.out]
          rintro e w1' ⟨rfl, hB1⟩
          have HV1 := Lib.hid hB1
          clear hB1 e0 e1 e2
          obtain ⟨⟨e0, e1, e2⟩, _⟩ := (HFC.out _ HV1.out).2
          go_wp2_with fail
          refine (rsealTop_any x.st x.gd x.b x.n x.c x.A x.l _ (XV.out.old HV1.out) (by omega)).mono ?_
          rw [← HEQ.out, ← HSQ.out]
          rintro e w2' ⟨rfl, hB2⟩
          have HV2 := Lib.hid (HV1.out.trans (hB2.mono HV1.out.size))
          have hz2' := HV2.out.size
          clear hB2 e0 e1 e2
          go_upto_region 13 with fail
          refine wp_region_PL [0, 4, 8] (fun W => (W.cell? ⟨B0, 0, none⟩ = some (.int .i64 x.st) ∧ W.cell? ⟨B0, 1, none⟩ = some (.int .i64 x.gd) ∧ W.cell? ⟨B0, 2, none⟩ = some (.slice A' x.n c')) ∧ (W.cell? ⟨g1, k * 3, none⟩ = some (.int .i64 x.st) ∧ W.cell? ⟨g1, k * 3 + 1, none⟩ = some (.int .i64 x.gd) ∧ W.cell? ⟨g1, k * 3 + 2, none⟩ = some (.slice x.A x.n x.c)) ∧ W.cell? ⟨g2, k, none⟩ = some (.int .i64 y) ∧ W.cell? ⟨g3, k, none⟩ = some (.int .i64 v) ∧ W.cell? ⟨g4, k, none⟩ = some (.slice z.A z.n z.c)) rfl (by kernel_rfl) (HFC.out _ HV2.out.drew) (fun hF0 => ?_)
          (refine wpAnyP_loadL (i := 0) (v := ?_) rfl (by kernel_rfl) (by kernel_rfl) (by kernel_rfl) (by rfl) (fun _ _ _ h => h) hF0 (by rfl) ?_ ?_; rotate_left 1; focus (intro w hFw; (try dsimp only at hFw); go_split_ands; go_simp; try with_reducible rfl))
          try simp only [Act.put, List.setIfInBounds_toArray, List.set_cons_zero, List.set_cons_succ]
          (refine wpAnyP_takeL (i := 1) (v := ?_) rfl (by kernel_rfl) (by kernel_rfl) (by kernel_rfl) (fun _ _ _ h => h) (by rfl) ?_ ?_; rotate_left 1; focus (intro w; go_simp; try with_reducible rfl))
          try simp only [Act.put, List.setIfInBounds_toArray, List.set_cons_zero, List.set_cons_succ]
          (refine wpAnyP_takeL (i := 2) (v := ?_) rfl (by kernel_rfl) (by kernel_rfl) (by kernel_rfl) (fun _ _ _ h => h) (by rfl) ?_ ?_; rotate_left 1; focus (intro w; go_simp; try with_reducible rfl))
          try simp only [Act.put, List.setIfInBounds_toArray, List.set_cons_zero, List.set_cons_succ]
          (refine wpAnyP_takeL (i := 3) (v := ?_) rfl (by kernel_rfl) (by kernel_rfl) (by kernel_rfl) (fun _ _ _ h => h) (by rfl) ?_ ?_; rotate_left 1; focus (intro w; go_simp; try with_reducible rfl))
          try simp only [Act.put, List.setIfInBounds_toArray, List.set_cons_zero, List.set_cons_succ]
          (refine wpAnyP_loadL (i := 4) (v := ?_) rfl (by kernel_rfl) (by kernel_rfl) (by kernel_rfl) (by rfl) (fun _ _ _ h => h) hF0 (by rfl) ?_ ?_; rotate_left 1; focus (intro w hFw; (try dsimp only at hFw); go_split_ands; go_simp; try with_reducible rfl))
          try simp only [Act.put, List.setIfInBounds_toArray, List.set_cons_zero, List.set_cons_succ]
          (refine wpAnyP_takeL (i := 5) (v := ?_) rfl (by kernel_rfl) (by kernel_rfl) (by kernel_rfl) (fun _ _ _ h => h) (by rfl) ?_ ?_; rotate_left 1; focus (intro w; go_simp; try with_reducible rfl))
          try simp only [Act.put, List.setIfInBounds_toArray, List.set_cons_zero, List.set_cons_succ]
          (refine wpAnyP_takeL (i := 6) (v := ?_) rfl (by kernel_rfl) (by kernel_rfl) (by kernel_rfl) (fun _ _ _ h => h) (by rfl) ?_ ?_; rotate_left 1; focus (intro w; go_simp; try with_reducible rfl))
          try simp only [Act.put, List.setIfInBounds_toArray, List.set_cons_zero, List.set_cons_succ]
          (refine wpAnyP_takeL (i := 7) (v := ?_) rfl (by kernel_rfl) (by kernel_rfl) (by kernel_rfl) (fun _ _ _ h => h) (by rfl) ?_ ?_; rotate_left 1; focus (intro w; go_simp; try with_reducible rfl))
          try simp only [Act.put, List.setIfInBounds_toArray, List.set_cons_zero, List.set_cons_succ]
          (refine wpAnyP_loadL (i := 8) (v := ?_) rfl (by kernel_rfl) (by kernel_rfl) (by kernel_rfl) (by rfl) (fun _ _ _ h => h) hF0 (by rfl) ?_ ?_; rotate_left 1; focus (intro w hFw; (try dsimp only at hFw); go_split_ands; go_simp; try with_reducible rfl))
          try simp only [Act.put, List.setIfInBounds_toArray, List.set_cons_zero, List.set_cons_succ]
          refine wpAnyP_last (i := 9) rfl (by kernel_rfl) (by kernel_rfl) (by rfl) (fun K hK => ?_)
          go_simp
          (refine (pick_any x.st x.gd y v b' x.n c' A' x.l _ (SB.out.old HV2.out.drew) (by omega)).mono ?_; rw [← HPQ.out, ← HPE.out]; rintro e w3' ⟨A7, c7, b7, rfl, hs7, _, _, hB7⟩; have Q7 := Lib.hid hs7; have HV3 := Lib.hid (HV2.out.drew.trans (hB7.mono hz2')); clear hs7 hB7)
          (refine hK _ _ ?_; clear hK K)
          try simp only [Act.put, List.setIfInBounds_toArray, List.set_cons_zero, List.set_cons_succ]
          (refine wpAnyP_takeL (i := 10) (v := ?_) rfl (by kernel_rfl) (by kernel_rfl) (by kernel_rfl) (fun _ _ _ h => h) (by rfl) ?_ ?_; rotate_left 1; focus (intro w; go_simp; try with_reducible rfl))
          try simp only [Act.put, List.setIfInBounds_toArray, List.set_cons_zero, List.set_cons_succ]
          (refine wpAnyP_takeL (i := 11) (v := ?_) rfl (by kernel_rfl) (by kernel_rfl) (by kernel_rfl) (fun _ _ _ h => h) (by rfl) ?_ ?_; rotate_left 1; focus (intro w; go_simp; try with_reducible rfl))
          try simp only [Act.put, List.setIfInBounds_toArray, List.set_cons_zero, List.set_cons_succ]
          (refine wpAnyP_takeL (i := 12) (v := ?_) rfl (by kernel_rfl) (by kernel_rfl) (by kernel_rfl) (fun _ _ _ h => h) (by rfl) ?_ ?_; rotate_left 1; focus (intro w; go_simp; try with_reducible rfl))
          try simp only [Act.put, List.setIfInBounds_toArray, List.set_cons_zero, List.set_cons_succ]
          (refine wpAnyP_takeL (i := 13) (v := ?_) rfl (by kernel_rfl) (by kernel_rfl) (by kernel_rfl) (fun _ _ _ h => h) (by rfl) ?_ ?_; rotate_left 1; focus (intro w; go_simp; try with_reducible rfl))
          try simp only [Act.put, List.setIfInBounds_toArray, List.set_cons_zero, List.set_cons_succ]
          (refine wpAnyP_takeL (i := 14) (v := ?_) rfl (by kernel_rfl) (by kernel_rfl) (by kernel_rfl) (fun _ _ _ h => h) (by rfl) ?_ ?_; rotate_left 1; focus (intro w; go_simp; try with_reducible rfl))
          try simp only [Act.put, List.setIfInBounds_toArray, List.set_cons_zero, List.set_cons_succ]
          refine wpAnyP_done (by kernel_rfl) ?_ _
          have hz3' := HV3.out.size
          go_upto_region 14 with fail
          refine wp_region_PL [3, 7, 11] (fun W => (W.cell? ⟨B0, 0, none⟩ = some (.int .i64 x.st) ∧ W.cell? ⟨B0, 1, none⟩ = some (.int .i64 x.gd) ∧ W.cell? ⟨B0, 2, none⟩ = some (.slice A' x.n c')) ∧ (W.cell? ⟨g1, k * 3, none⟩ = some (.int .i64 x.st) ∧ W.cell? ⟨g1, k * 3 + 1, none⟩ = some (.int .i64 x.gd) ∧ W.cell? ⟨g1, k * 3 + 2, none⟩ = some (.slice x.A x.n x.c)) ∧ W.cell? ⟨g2, k, none⟩ = some (.int .i64 y) ∧ W.cell? ⟨g3, k, none⟩ = some (.int .i64 v) ∧ W.cell? ⟨g4, k, none⟩ = some (.slice z.A z.n z.c)) rfl (by kernel_rfl) (HFC.out _ HV3.out.drew) (fun hF0 => ?_)
          (refine wpAnyP_takeL (i := 0) (v := ?_) rfl (by kernel_rfl) (by kernel_rfl) (by kernel_rfl) (fun _ _ _ h => h) (by rfl) ?_ ?_; rotate_left 1; focus (intro w; go_simp; try with_reducible rfl))
          try simp only [Act.put, List.setIfInBounds_toArray, List.set_cons_zero, List.set_cons_succ]
          (refine wpAnyP_takeL (i := 1) (v := ?_) rfl (by kernel_rfl) (by kernel_rfl) (by kernel_rfl) (fun _ _ _ h => h) (by rfl) ?_ ?_; rotate_left 1; focus (intro w; go_simp; try with_reducible rfl))
          try simp only [Act.put, List.setIfInBounds_toArray, List.set_cons_zero, List.set_cons_succ]
          (refine wpAnyP_takeL (i := 2) (v := ?_) rfl (by kernel_rfl) (by kernel_rfl) (by kernel_rfl) (fun _ _ _ h => h) (by rfl) ?_ ?_; rotate_left 1; focus (intro w; go_simp; try with_reducible rfl))
          try simp only [Act.put, List.setIfInBounds_toArray, List.set_cons_zero, List.set_cons_succ]
          (refine wpAnyP_loadL (i := 3) (v := ?_) rfl (by kernel_rfl) (by kernel_rfl) (by kernel_rfl) (by rfl) (fun _ _ _ h => h) hF0 (by rfl) ?_ ?_; rotate_left 1; focus (intro w hFw; (try dsimp only at hFw); go_split_ands; go_simp; try with_reducible rfl))
          try simp only [Act.put, List.setIfInBounds_toArray, List.set_cons_zero, List.set_cons_succ]
          (refine wpAnyP_takeL (i := 4) (v := ?_) rfl (by kernel_rfl) (by kernel_rfl) (by kernel_rfl) (fun _ _ _ h => h) (by rfl) ?_ ?_; rotate_left 1; focus (intro w; go_simp; try with_reducible rfl))
          try simp only [Act.put, List.setIfInBounds_toArray, List.set_cons_zero, List.set_cons_succ]
          (refine wpAnyP_takeL (i := 5) (v := ?_) rfl (by kernel_rfl) (by kernel_rfl) (by kernel_rfl) (fun _ _ _ h => h) (by rfl) ?_ ?_; rotate_left 1; focus (intro w; go_simp; try with_reducible rfl))
          try simp only [Act.put, List.setIfInBounds_toArray, List.set_cons_zero, List.set_cons_succ]
          (refine wpAnyP_takeL (i := 6) (v := ?_) rfl (by kernel_rfl) (by kernel_rfl) (by kernel_rfl) (fun _ _ _ h => h) (by rfl) ?_ ?_; rotate_left 1; focus (intro w; go_simp; try with_reducible rfl))
          try simp only [Act.put, List.setIfInBounds_toArray, List.set_cons_zero, List.set_cons_succ]
          (refine wpAnyP_loadL (i := 7) (v := ?_) rfl (by kernel_rfl) (by kernel_rfl) (by kernel_rfl) (by rfl) (fun _ _ _ h => h) hF0 (by rfl) ?_ ?_; rotate_left 1; focus (intro w hFw; (try dsimp only at hFw); go_split_ands; go_simp; try with_reducible rfl))
          try simp only [Act.put, List.setIfInBounds_toArray, List.set_cons_zero, List.set_cons_succ]
          (refine wpAnyP_takeL (i := 8) (v := ?_) rfl (by kernel_rfl) (by kernel_rfl) (by kernel_rfl) (fun _ _ _ h => h) (by rfl) ?_ ?_; rotate_left 1; focus (intro w; go_simp; try with_reducible rfl))
          try simp only [Act.put, List.setIfInBounds_toArray, List.set_cons_zero, List.set_cons_succ]
          (refine wpAnyP_takeL (i := 9) (v := ?_) rfl (by kernel_rfl) (by kernel_rfl) (by kernel_rfl) (fun _ _ _ h => h) (by rfl) ?_ ?_; rotate_left 1; focus (intro w; go_simp; try with_reducible rfl))
          try simp only [Act.put, List.setIfInBounds_toArray, List.set_cons_zero, List.set_cons_succ]
          (refine wpAnyP_takeL (i := 10) (v := ?_) rfl (by kernel_rfl) (by kernel_rfl) (by kernel_rfl) (fun _ _ _ h => h) (by rfl) ?_ ?_; rotate_left 1; focus (intro w; go_simp; try with_reducible rfl))
          try simp only [Act.put, List.setIfInBounds_toArray, List.set_cons_zero, List.set_cons_succ]
          (refine wpAnyP_loadL (i := 11) (v := ?_) rfl (by kernel_rfl) (by kernel_rfl) (by kernel_rfl) (by rfl) (fun _ _ _ h => h) hF0 (by rfl) ?_ ?_; rotate_left 1; focus (intro w hFw; (try dsimp only at hFw); go_split_ands; go_simp; try with_reducible rfl))
          try simp only [Act.put, List.setIfInBounds_toArray, List.set_cons_zero, List.set_cons_succ]
          refine wpAnyP_last (i := 12) rfl (by kernel_rfl) (by kernel_rfl) (by rfl) (fun K hK => ?_)
          go_simp
          (refine (rpick_any x.st x.gd y v x.b x.n x.c x.A x.l _ (XV.out.old HV3.out.drew) (by omega)).mono ?_; rw [← HPQ.out, ← HPE.out]; rintro e w4' ⟨A8, c8, b8, rfl, hs8, _, _, hB8⟩; have Q8 := Lib.hid hs8; have Q78 := Lib.hid (Q7.out.drew.old hB8); have HV4 := Lib.hid (HV3.out.drew.trans (hB8.mono hz3')); clear hs8 hB8)
          (refine hK _ _ ?_; clear hK K)
          try simp only [Act.put, List.setIfInBounds_toArray, List.set_cons_zero, List.set_cons_succ]
          (refine wpAnyP_takeL (i := 13) (v := ?_) rfl (by kernel_rfl) (by kernel_rfl) (by kernel_rfl) (fun _ _ _ h => h) (by rfl) ?_ ?_; rotate_left 1; focus (intro w; go_simp; try with_reducible rfl))
          try simp only [Act.put, List.setIfInBounds_toArray, List.set_cons_zero, List.set_cons_succ]
          (refine wpAnyP_takeL (i := 14) (v := ?_) rfl (by kernel_rfl) (by kernel_rfl) (by kernel_rfl) (fun _ _ _ h => h) (by rfl) ?_ ?_; rotate_left 1; focus (intro w; go_simp; try with_reducible rfl))
          try simp only [Act.put, List.setIfInBounds_toArray, List.set_cons_zero, List.set_cons_succ]
          (refine wpAnyP_takeL (i := 15) (v := ?_) rfl (by kernel_rfl) (by kernel_rfl) (by kernel_rfl) (fun _ _ _ h => h) (by rfl) ?_ ?_; rotate_left 1; focus (intro w; go_simp; try with_reducible rfl))
          try simp only [Act.put, List.setIfInBounds_toArray, List.set_cons_zero, List.set_cons_succ]
          (refine wpAnyP_takeL (i := 16) (v := ?_) rfl (by kernel_rfl) (by kernel_rfl) (by kernel_rfl) (fun _ _ _ h => h) (by rfl) ?_ ?_; rotate_left 1; focus (intro w; go_simp; try with_reducible rfl))
          try simp only [Act.put, List.setIfInBounds_toArray, List.set_cons_zero, List.set_cons_succ]
          (refine wpAnyP_takeL (i := 17) (v := ?_) rfl (by kernel_rfl) (by kernel_rfl) (by kernel_rfl) (fun _ _ _ h => h) (by rfl) ?_ ?_; rotate_left 1; focus (intro w; go_simp; try with_reducible rfl))
          try simp only [Act.put, List.setIfInBounds_toArray, List.set_cons_zero, List.set_cons_succ]
          refine wpAnyP_done (by kernel_rfl) ?_ _
          have hz4' := HV4.out.size
          clear HV1 HV2 HV3 Q7
          obtain ⟨e0, e1, e2⟩ := (HFC.out _ HV4.out).1
          go_wp2_with fail
          refine (audited_any x.st x.gd b' x.n c' bm z.n cm A' Am x.l z.l _ (SB.out.old HV4.out) (SM.out.old HV4.out) (by omega) (by omega)).mono ?_
          rw [← HOQ.out]
          intro e w5' hpost
          obtain ⟨A9, m9, c9', b9', rfl, hs9, hb9, hB9⟩ := hpost.to
          obtain rfl : m9 = oq.2.length := hs9.len
          have Q9 := Lib.hid hs9
          have HV5 := Lib.hid (HV4.out.trans (hB9.mono hz4'))
          have P7 := Lib.hid (Q78.out.old hB9)
          have P8 := Lib.hid (Q8.out.old hB9)
          have hz5' := HV5.out.size
          clear hpost hs9 hB9 e0 e1 e2 Q78 Q8 HV4
          have hA31 := Lib.hid (Blk.new w5' 24 #[.int .i64 (audS oq x.st), .int .i64 (audS oq x.gd), .slice A9 oq.2.length c9'])
          have HV6 := Lib.hid (HV5.out.alloc hz5' (.cells #[.int .i64 (audS oq x.st), .int .i64 (audS oq x.gd), .slice A9 oq.2.length c9'] 24))
          have Q9a := Lib.hid (Q9.out.alloc (.cells #[.int .i64 (audS oq x.st), .int .i64 (audS oq x.gd), .slice A9 oq.2.length c9'] 24))
          have P7a := Lib.hid (P7.out.alloc (.cells #[.int .i64 (audS oq x.st), .int .i64 (audS oq x.gd), .slice A9 oq.2.length c9'] 24))
          have P8a := Lib.hid (P8.out.alloc (.cells #[.int .i64 (audS oq x.st), .int .i64 (audS oq x.gd), .slice A9 oq.2.length c9'] 24))
          go_upto_region 16 with fail
          clear HV5 Q9 P7 P8
          generalize hB1 : w5'.heap.size = B1 at hA31 ⊢
          generalize w5'.alloc (.cells #[.int .i64 (audS oq x.st), .int .i64 (audS oq x.gd), .slice A9 oq.2.length c9'] 24) = V1 at hA31 HV6 Q9a P7a P8a ⊢
          have hzw := HV6.out.size
          clear hB1 hz5'
          go_cut [33, 34] from 152 to 164 (fun p q wx => ∃ (B b10 : Nat) (A10 : Option Addr) (c10 : Nat), p = .pointer (some ⟨B, 0, none⟩) ∧ q = .int .i64 oq.1 ∧ AlcB V1 wx B #[.int .i64 (audS oq x.st), .int .i64 (audS oq x.gd), .slice A10 oq.2.length c10] ∧ Sl encS 6 wx b10 A10 oq.2.length oq.2 ∧ Below V1.heap.size V1 wx)
          case first =>
            have hV : Below V1.heap.size V1 V1.drew := (Below.refl _ V1).drew
            refine wp_region_K2 [3, 7] [] (fun W => (W.cell? ⟨B0, 0, none⟩ = some (.int .i64 x.st) ∧ W.cell? ⟨B0, 1, none⟩ = some (.int .i64 x.gd) ∧ W.cell? ⟨B0, 2, none⟩ = some (.slice A' x.n c')) ∧ (W.cell? ⟨g1, k * 3, none⟩ = some (.int .i64 x.st) ∧ W.cell? ⟨g1, k * 3 + 1, none⟩ = some (.int .i64 x.gd) ∧ W.cell? ⟨g1, k * 3 + 2, none⟩ = some (.slice x.A x.n x.c)) ∧ W.cell? ⟨g2, k, none⟩ = some (.int .i64 y) ∧ W.cell? ⟨g3, k, none⟩ = some (.int .i64 v) ∧ W.cell? ⟨g4, k, none⟩ = some (.slice z.A z.n z.c)) (fun _ => True) rfl (by kernel_rfl) (HFC.out _ (HV6.out.trans (hV.mono hzw))) (trivial) (fun hF0 hG0 => ?_)
            (refine wpAnyK_takeL Keep2.refl (i := 0) (v := ?_) rfl (by kernel_rfl) (by kernel_rfl) (by kernel_rfl) (fun _ _ _ h => h) (by rfl) ?_ ?_; rotate_left 1; focus (intro w; go_simp; try with_reducible rfl))
            try simp only [Act.put, List.setIfInBounds_toArray, List.set_cons_zero, List.set_cons_succ]
            (refine wpAnyK_takeL Keep2.refl (i := 1) (v := ?_) rfl (by kernel_rfl) (by kernel_rfl) (by kernel_rfl) (fun _ _ _ h => h) (by rfl) ?_ ?_; rotate_left 1; focus (intro w; go_simp; try with_reducible rfl))
            try simp only [Act.put, List.setIfInBounds_toArray, List.set_cons_zero, List.set_cons_succ]
            (refine wpAnyK_takeL Keep2.refl (i := 2) (v := ?_) rfl (by kernel_rfl) (by kernel_rfl) (by kernel_rfl) (fun _ _ _ h => h) (by rfl) ?_ ?_; rotate_left 1; focus (intro w; go_simp; try with_reducible rfl))
            try simp only [Act.put, List.setIfInBounds_toArray, List.set_cons_zero, List.set_cons_succ]
            (refine wpAnyK_loadL Keep2.refl (i := 3) (v := ?_) rfl (Keep2.left (i := 3) (by rfl)) (by kernel_rfl) (by kernel_rfl) (by kernel_rfl) (fun _ _ _ h => h) hF0 (by rfl) ?_ ?_; rotate_left 1; focus (intro w hFw; (try dsimp only at hFw); go_split_ands; go_simp; try with_reducible rfl))
            try simp only [Act.put, List.setIfInBounds_toArray, List.set_cons_zero, List.set_cons_succ]
            (refine wpAnyK_takeL Keep2.refl (i := 4) (v := ?_) rfl (by kernel_rfl) (by kernel_rfl) (by kernel_rfl) (fun _ _ _ h => h) (by rfl) ?_ ?_; rotate_left 1; focus (intro w; go_simp; try with_reducible rfl))
            try simp only [Act.put, List.setIfInBounds_toArray, List.set_cons_zero, List.set_cons_succ]
            (refine wpAnyK_takeL Keep2.refl (i := 5) (v := ?_) rfl (by kernel_rfl) (by kernel_rfl) (by kernel_rfl) (fun _ _ _ h => h) (by rfl) ?_ ?_; rotate_left 1; focus (intro w; go_simp; try with_reducible rfl))
            try simp only [Act.put, List.setIfInBounds_toArray, List.set_cons_zero, List.set_cons_succ]
            (refine wpAnyK_takeL Keep2.refl (i := 6) (v := ?_) rfl (by kernel_rfl) (by kernel_rfl) (by kernel_rfl) (fun _ _ _ h => h) (by rfl) ?_ ?_; rotate_left 1; focus (intro w; go_simp; try with_reducible rfl))
            try simp only [Act.put, List.setIfInBounds_toArray, List.set_cons_zero, List.set_cons_succ]
            (refine wpAnyK_loadL Keep2.refl (i := 7) (v := ?_) rfl (Keep2.left (i := 7) (by rfl)) (by kernel_rfl) (by kernel_rfl) (by kernel_rfl) (fun _ _ _ h => h) hF0 (by rfl) ?_ ?_; rotate_left 1; focus (intro w hFw; (try dsimp only at hFw); go_split_ands; go_simp; try with_reducible rfl))
            try simp only [Act.put, List.setIfInBounds_toArray, List.set_cons_zero, List.set_cons_succ]
            refine wpAnyK_all (rs := [8, 12]) (by kernel_rfl) (by simp) ?_
            refine List.forall_mem_cons.2 ⟨?_, List.forall_mem_cons.2 ⟨?_, fun _ h => absurd h List.not_mem_nil⟩⟩
            · refine wpOp_of rfl (by rfl) (fun K hK => ?_)
              go_simp
              (refine (raudited_any x.st x.gd x.b x.n x.c z.b z.n z.c x.A z.A x.l z.l _ ((XV.out.old HV6.out).old hV) ((ZV.out.old HV6.out).old hV) (by omega) (by omega)).mono ?_; rw [← HOQ.out]; intro e w8 hpost; obtain ⟨A10, m10, c10, b10, rfl, hs10, hb10, hB8⟩ := hpost.to; obtain rfl : m10 = oq.2.length := hs10.len; (try have hNS : 0 < oq.2.length → b10 ≠ B := fun _ => Ne.symm (Nat.ne_of_lt (Nat.lt_of_lt_of_le hA.1.lt hb10))); (try replace hA := hA.step hB8); have hS := hs10; replace hV := hV.trans (hB8.mono hV.size); clear hpost hs10 hB8)
              (refine hK _ _ ⟨Keep2.no (by kernel_rfl) (by kernel_rfl), ?_⟩; clear hK K)
              try simp only [Act.put, List.setIfInBounds_toArray, List.set_cons_zero, List.set_cons_succ]
              (refine wpAnyK_takeL Keep2.refl (i := 9) (v := ?_) rfl (by kernel_rfl) (by kernel_rfl) (by kernel_rfl) (fun _ _ _ h => h) (by rfl) ?_ ?_; rotate_left 1; focus (intro w; go_simp; try with_reducible rfl))
              try simp only [Act.put, List.setIfInBounds_toArray, List.set_cons_zero, List.set_cons_succ]
              (refine wpAnyK_takeL Keep2.refl (i := 10) (v := ?_) rfl (by kernel_rfl) (by kernel_rfl) (by kernel_rfl) (fun _ _ _ h => h) (by rfl) ?_ ?_; rotate_left 1; focus (intro w; go_simp; try with_reducible rfl))
              try simp only [Act.put, List.setIfInBounds_toArray, List.set_cons_zero, List.set_cons_succ]
              (refine wpAnyK_takeL Keep2.refl (i := 11) (v := ?_) rfl (by kernel_rfl) (by kernel_rfl) (by kernel_rfl) (fun _ _ _ h => h) (by rfl) ?_ ?_; rotate_left 1; focus (intro w; go_simp; try with_reducible rfl))
              try simp only [Act.put, List.setIfInBounds_toArray, List.set_cons_zero, List.set_cons_succ]
              refine wpAnyK_step (i := 12) rfl (by kernel_rfl) (by rfl) (fun K hK => ?_)
              go_simp
              (obtain ⟨B, hBe, hA⟩ := AlcB.newE hV; (try have hNS : 0 < oq.2.length → b10 ≠ B := fun hn => (by rw [hBe]; exact Nat.ne_of_lt (hS.lt hn))); (try have hS0 := hS); have hV0 := hV; (try replace hS := hS.alloc (.cells #[.int .i64 0, .int .i64 0, .slice none 0 0] 24)); replace hV := hV.alloc hV.size (.cells #[.int .i64 0, .int .i64 0, .slice none 0 0] 24))
              (refine hK _ _ (⟨fun _ _ => HFC.out _ (HV6.out.trans (hV.mono hzw)), fun h => absurd h (by decide)⟩) ?_; clear hK K)
              (refine wpAnyK_with (F := fun W => (W.cell? ⟨B0, 0, none⟩ = some (.int .i64 x.st) ∧ W.cell? ⟨B0, 1, none⟩ = some (.int .i64 x.gd) ∧ W.cell? ⟨B0, 2, none⟩ = some (.slice A' x.n c')) ∧ (W.cell? ⟨g1, k * 3, none⟩ = some (.int .i64 x.st) ∧ W.cell? ⟨g1, k * 3 + 1, none⟩ = some (.int .i64 x.gd) ∧ W.cell? ⟨g1, k * 3 + 2, none⟩ = some (.slice x.A x.n x.c)) ∧ W.cell? ⟨g2, k, none⟩ = some (.int .i64 y) ∧ W.cell? ⟨g3, k, none⟩ = some (.int .i64 v) ∧ W.cell? ⟨g4, k, none⟩ = some (.slice z.A z.n z.c)) (HFC.out _ (HV6.out.trans (hV.mono hzw))) (fun hF2 => ?_); clear hF0)
              try simp only [Act.put, List.setIfInBounds_toArray, List.set_cons_zero, List.set_cons_succ]
              refine wpAnyK_step (i := 13) rfl (by kernel_rfl) (by rfl) (fun K hK => ?_)
              go_simp
              (have f0 := hA.1.frozen 0; have f1 := hA.1.frozen 1; have f2 := hA.1.frozen 2; have c0 := hA.1.cell 0; have c1 := hA.1.cell 1; have c2 := hA.1.cell 2; (try simp only [World.size_alloc, World.size_drew] at hBe); subst hBe; obtain ⟨hq1, hq2⟩ := hA.store (u := .int .i64 (audS oq x.st)) (v := .int .i64 (audS oq x.gd)) (z := .slice A10 oq.2.length c10) hV; have hS1 := hS.store3 hNS (.int .i64 (audS oq x.st)) (.int .i64 (audS oq x.gd)) (.slice A10 oq.2.length c10); obtain ⟨hq3, hq4⟩ := AlcB.last hV0 (.int .i64 (audS oq x.st)) (.int .i64 (audS oq x.gd)) (.slice A10 oq.2.length c10); (try have hS2 := hS0.alloc (.cells #[.int .i64 (audS oq x.st), .int .i64 (audS oq x.gd), .slice A10 oq.2.length c10] 24)); (try simp only [World.size_alloc, World.size_drew] at hq3); go_simp)
              (refine hK _ _ (Keep2.no (by kernel_rfl) (by kernel_rfl)) ?_; clear hK K)
              try simp only [Act.put, List.setIfInBounds_toArray, List.set_cons_zero, List.set_cons_succ]
              (refine wpAnyK_takeL Keep2.refl (i := 14) (v := ?_) rfl (by kernel_rfl) (by kernel_rfl) (by kernel_rfl) (fun _ _ _ h => h) (by rfl) ?_ ?_; rotate_left 1; focus (intro w; go_simp; try with_reducible rfl))
              try simp only [Act.put, List.setIfInBounds_toArray, List.set_cons_zero, List.set_cons_succ]
              refine wpAnyK_done (by kernel_rfl) ?_ _
              go_wp2_with fail
              go_meet
              refine ⟨_, b10, A10, c10, rfl, rfl, ?_, ?_, ?_⟩ <;> with_reducible assumption
            · refine wpOp_of rfl (by rfl) (fun K hK => ?_)
              go_simp
              (obtain ⟨B, hBe, hA⟩ := AlcB.newE hV; (try have hNS : 0 < oq.2.length → b10 ≠ B := fun hn => (by rw [hBe]; exact Nat.ne_of_lt (hS.lt hn))); (try have hS0 := hS); have hV0 := hV; (try replace hS := hS.alloc (.cells #[.int .i64 0, .int .i64 0, .slice none 0 0] 24)); replace hV := hV.alloc hV.size (.cells #[.int .i64 0, .int .i64 0, .slice none 0 0] 24))
              (refine hK _ _ ⟨⟨fun _ _ => HFC.out _ (HV6.out.trans (hV.mono hzw)), fun h => absurd h (by decide)⟩, ?_⟩; clear hK K)
              (refine wpAnyK_with (F := fun W => (W.cell? ⟨B0, 0, none⟩ = some (.int .i64 x.st) ∧ W.cell? ⟨B0, 1, none⟩ = some (.int .i64 x.gd) ∧ W.cell? ⟨B0, 2, none⟩ = some (.slice A' x.n c')) ∧ (W.cell? ⟨g1, k * 3, none⟩ = some (.int .i64 x.st) ∧ W.cell? ⟨g1, k * 3 + 1, none⟩ = some (.int .i64 x.gd) ∧ W.cell? ⟨g1, k * 3 + 2, none⟩ = some (.slice x.A x.n x.c)) ∧ W.cell? ⟨g2, k, none⟩ = some (.int .i64 y) ∧ W.cell? ⟨g3, k, none⟩ = some (.int .i64 v) ∧ W.cell? ⟨g4, k, none⟩ = some (.slice z.A z.n z.c)) (HFC.out _ (HV6.out.trans (hV.mono hzw))) (fun hF4 => ?_); clear hF0)
              try simp only [Act.put, List.setIfInBounds_toArray, List.set_cons_zero, List.set_cons_succ]
              refine wpAnyK_step (i := 8) rfl (by kernel_rfl) (by rfl) (fun K hK => ?_)
              go_simp
              (refine (raudited_any x.st x.gd x.b x.n x.c z.b z.n z.c x.A z.A x.l z.l _ ((XV.out.old HV6.out).old hV) ((ZV.out.old HV6.out).old hV) (by omega) (by omega)).mono ?_; rw [← HOQ.out]; intro e w8 hpost; obtain ⟨A10, m10, c10, b10, rfl, hs10, hb10, hB8⟩ := hpost.to; obtain rfl : m10 = oq.2.length := hs10.len; (try have hNS : 0 < oq.2.length → b10 ≠ B := fun _ => Ne.symm (Nat.ne_of_lt (Nat.lt_of_lt_of_le hA.1.lt hb10))); (try replace hA := hA.step hB8); have hS := hs10; replace hV := hV.trans (hB8.mono hV.size); clear hpost hs10 hB8)
              (refine hK _ _ (Keep2.no (by kernel_rfl) (by kernel_rfl)) ?_; clear hK K)
              try simp only [Act.put, List.setIfInBounds_toArray, List.set_cons_zero, List.set_cons_succ]
              (refine wpAnyK_takeL Keep2.refl (i := 9) (v := ?_) rfl (by kernel_rfl) (by kernel_rfl) (by kernel_rfl) (fun _ _ _ h => h) (by rfl) ?_ ?_; rotate_left 1; focus (intro w; go_simp; try with_reducible rfl))
              try simp only [Act.put, List.setIfInBounds_toArray, List.set_cons_zero, List.set_cons_succ]
              (refine wpAnyK_takeL Keep2.refl (i := 10) (v := ?_) rfl (by kernel_rfl) (by kernel_rfl) (by kernel_rfl) (fun _ _ _ h => h) (by rfl) ?_ ?_; rotate_left 1; focus (intro w; go_simp; try with_reducible rfl))
              try simp only [Act.put, List.setIfInBounds_toArray, List.set_cons_zero, List.set_cons_succ]
              (refine wpAnyK_takeL Keep2.refl (i := 11) (v := ?_) rfl (by kernel_rfl) (by kernel_rfl) (by kernel_rfl) (fun _ _ _ h => h) (by rfl) ?_ ?_; rotate_left 1; focus (intro w; go_simp; try with_reducible rfl))
              try simp only [Act.put, List.setIfInBounds_toArray, List.set_cons_zero, List.set_cons_succ]
              refine wpAnyK_step (i := 13) rfl (by kernel_rfl) (by rfl) (fun K hK => ?_)
              go_simp
              (have f0 := hA.1.frozen 0; have f1 := hA.1.frozen 1; have f2 := hA.1.frozen 2; have c0 := hA.1.cell 0; have c1 := hA.1.cell 1; have c2 := hA.1.cell 2; (try simp only [World.size_alloc, World.size_drew] at hBe); subst hBe; obtain ⟨hq1, hq2⟩ := hA.store (u := .int .i64 (audS oq x.st)) (v := .int .i64 (audS oq x.gd)) (z := .slice A10 oq.2.length c10) hV; have hS1 := hS.store3 hNS (.int .i64 (audS oq x.st)) (.int .i64 (audS oq x.gd)) (.slice A10 oq.2.length c10); obtain ⟨hq3, hq4⟩ := AlcB.last hV0 (.int .i64 (audS oq x.st)) (.int .i64 (audS oq x.gd)) (.slice A10 oq.2.length c10); (try have hS2 := hS0.alloc (.cells #[.int .i64 (audS oq x.st), .int .i64 (audS oq x.gd), .slice A10 oq.2.length c10] 24)); (try simp only [World.size_alloc, World.size_drew] at hq3); go_simp)
              (refine hK _ _ (Keep2.no (by kernel_rfl) (by kernel_rfl)) ?_; clear hK K)
              try simp only [Act.put, List.setIfInBounds_toArray, List.set_cons_zero, List.set_cons_succ]
              (refine wpAnyK_takeL Keep2.refl (i := 14) (v := ?_) rfl (by kernel_rfl) (by kernel_rfl) (by kernel_rfl) (fun _ _ _ h => h) (by rfl) ?_ ?_; rotate_left 1; focus (intro w; go_simp; try with_reducible rfl))
              try simp only [Act.put, List.setIfInBounds_toArray, List.set_cons_zero, List.set_cons_succ]
              refine wpAnyK_done (by kernel_rfl) ?_ _
              go_wp2_with fail
              go_meet
              refine ⟨_, b10, A10, c10, rfl, rfl, ?_, ?_, ?_⟩ <;> with_reducible assumption
          case rest =>
            obtain ⟨B2, b10, A10, c10, rfl, rfl, hA2, hs10, hB2⟩ := hcut
            have HA1 := Lib.hid (hA31.out.below hB2 hA31.out.lt)
            have HA2 := Lib.hid hA2.1
            have Q9 := Lib.hid (Q9a.out.old hB2)
            have Q10 := Lib.hid hs10
            have P7 := Lib.hid (P7a.out.old hB2)
            have P8 := Lib.hid (P8a.out.old hB2)
            have HV7 := Lib.hid (HV6.out.trans (hB2.mono hzw))
            have hzc : V.heap.size ≤ wc.heap.size := HV7.out.size
            clear hA2 hs10 hB2 HV6 Q9a P7a P8a hA31
            have HF5 := Lib.hid (fun (W : World) (hW : Below wc.heap.size wc W) => (show ((W.cell? ⟨B0, 0, none⟩ = some (.int .i64 x.st) ∧ W.cell? ⟨B0, 1, none⟩ = some (.int .i64 x.gd) ∧ W.cell? ⟨B0, 2, none⟩ = some (.slice A' x.n c')) ∧ (W.cell? ⟨g1, k * 3, none⟩ = some (.int .i64 x.st) ∧ W.cell? ⟨g1, k * 3 + 1, none⟩ = some (.int .i64 x.gd) ∧ W.cell? ⟨g1, k * 3 + 2, none⟩ = some (.slice x.A x.n x.c)) ∧ W.cell? ⟨g2, k, none⟩ = some (.int .i64 y) ∧ W.cell? ⟨g3, k, none⟩ = some (.int .i64 v) ∧ W.cell? ⟨g4, k, none⟩ = some (.slice z.A z.n z.c)) ∧ (W.cell? ⟨B1, 0, none⟩ = some (.int .i64 (audS oq x.st)) ∧ W.cell? ⟨B1, 1, none⟩ = some (.int .i64 (audS oq x.gd)) ∧ W.cell? ⟨B1, 2, none⟩ = some (.slice A9 oq.2.length c9')) ∧ (W.cell? ⟨B2, 0, none⟩ = some (.int .i64 (audS oq x.st)) ∧ W.cell? ⟨B2, 1, none⟩ = some (.int .i64 (audS oq x.gd)) ∧ W.cell? ⟨B2, 2, none⟩ = some (.slice A10 oq.2.length c10)) from
              ⟨HFC.out _ (HV7.out.trans (hW.mono hzc)), ⟨(HA1.out.below hW HA1.out.lt).cell 0, (HA1.out.below hW HA1.out.lt).cell 1, (HA1.out.below hW HA1.out.lt).cell 2⟩, ⟨(HA2.out.below hW HA2.out.lt).cell 0, (HA2.out.below hW HA2.out.lt).cell 1, (HA2.out.below hW HA2.out.lt).cell 2⟩⟩))
            go_upto_region 17 with fail
            refine wp_region_PL [25, 26, 31, 35] (fun W => ((W.cell? ⟨B0, 0, none⟩ = some (.int .i64 x.st) ∧ W.cell? ⟨B0, 1, none⟩ = some (.int .i64 x.gd) ∧ W.cell? ⟨B0, 2, none⟩ = some (.slice A' x.n c')) ∧ (W.cell? ⟨g1, k * 3, none⟩ = some (.int .i64 x.st) ∧ W.cell? ⟨g1, k * 3 + 1, none⟩ = some (.int .i64 x.gd) ∧ W.cell? ⟨g1, k * 3 + 2, none⟩ = some (.slice x.A x.n x.c)) ∧ W.cell? ⟨g2, k, none⟩ = some (.int .i64 y) ∧ W.cell? ⟨g3, k, none⟩ = some (.int .i64 v) ∧ W.cell? ⟨g4, k, none⟩ = some (.slice z.A z.n z.c)) ∧ (W.cell? ⟨B1, 0, none⟩ = some (.int .i64 (audS oq x.st)) ∧ W.cell? ⟨B1, 1, none⟩ = some (.int .i64 (audS oq x.gd)) ∧ W.cell? ⟨B1, 2, none⟩ = some (.slice A9 oq.2.length c9')) ∧ (W.cell? ⟨B2, 0, none⟩ = some (.int .i64 (audS oq x.st)) ∧ W.cell? ⟨B2, 1, none⟩ = some (.int .i64 (audS oq x.gd)) ∧ W.cell? ⟨B2, 2, none⟩ = some (.slice A10 oq.2.length c10))) rfl (by kernel_rfl) (HF5.out _ (Below.refl _ wc).drew) (fun hF0 => ?_)
            (refine wpAnyP_takeL (i := 0) (v := ?_) rfl (by kernel_rfl) (by kernel_rfl) (by kernel_rfl) (fun _ _ _ h => h) (by rfl) ?_ ?_; rotate_left 1; focus (intro w; go_simp; try with_reducible rfl))
            try simp only [Act.put, List.setIfInBounds_toArray, List.set_cons_zero, List.set_cons_succ]
            (refine wpAnyP_takeL (i := 1) (v := ?_) rfl (by kernel_rfl) (by kernel_rfl) (by kernel_rfl) (fun _ _ _ h => h) (by rfl) ?_ ?_; rotate_left 1; focus (intro w; go_simp; try with_reducible rfl))
            try simp only [Act.put, List.setIfInBounds_toArray, List.set_cons_zero, List.set_cons_succ]
            (refine wpAnyP_takeL (i := 2) (v := ?_) rfl (by kernel_rfl) (by kernel_rfl) (by kernel_rfl) (fun _ _ _ h => h) (by rfl) ?_ ?_; rotate_left 1; focus (intro w; go_simp; try with_reducible rfl))
            try simp only [Act.put, List.setIfInBounds_toArray, List.set_cons_zero, List.set_cons_succ]
            (refine wpAnyP_takeL (i := 3) (v := ?_) rfl (by kernel_rfl) (by kernel_rfl) (by kernel_rfl) (fun _ _ _ h => h) (by rfl) ?_ ?_; rotate_left 1; focus (intro w; go_simp; try with_reducible rfl))
            try simp only [Act.put, List.setIfInBounds_toArray, List.set_cons_zero, List.set_cons_succ]
            (refine wpAnyP_takeL (i := 4) (v := ?_) rfl (by kernel_rfl) (by kernel_rfl) (by kernel_rfl) (fun _ _ _ h => h) (by rfl) ?_ ?_; rotate_left 1; focus (intro w; go_simp; try with_reducible rfl))
            try simp only [Act.put, List.setIfInBounds_toArray, List.set_cons_zero, List.set_cons_succ]
            (refine wpAnyP_takeL (i := 5) (v := ?_) rfl (by kernel_rfl) (by kernel_rfl) (by kernel_rfl) (fun _ _ _ h => h) (by rfl) ?_ ?_; rotate_left 1; focus (intro w; go_simp; try with_reducible rfl))
            try simp only [Act.put, List.setIfInBounds_toArray, List.set_cons_zero, List.set_cons_succ]
            (refine wpAnyP_takeL (i := 6) (v := ?_) rfl (by kernel_rfl) (by kernel_rfl) (by kernel_rfl) (fun _ _ _ h => h) (by rfl) ?_ ?_; rotate_left 1; focus (intro w; go_simp; try with_reducible rfl))
            try simp only [Act.put, List.setIfInBounds_toArray, List.set_cons_zero, List.set_cons_succ]
            (refine wpAnyP_takeL (i := 7) (v := ?_) rfl (by kernel_rfl) (by kernel_rfl) (by kernel_rfl) (fun _ _ _ h => h) (by rfl) ?_ ?_; rotate_left 1; focus (intro w; go_simp; try with_reducible rfl))
            try simp only [Act.put, List.setIfInBounds_toArray, List.set_cons_zero, List.set_cons_succ]
            (refine wpAnyP_takeL (i := 8) (v := ?_) rfl (by kernel_rfl) (by kernel_rfl) (by kernel_rfl) (fun _ _ _ h => h) (by rfl) ?_ ?_; rotate_left 1; focus (intro w; go_simp; try with_reducible rfl))
            try simp only [Act.put, List.setIfInBounds_toArray, List.set_cons_zero, List.set_cons_succ]
            (refine wpAnyP_takeL (i := 9) (v := ?_) rfl (by kernel_rfl) (by kernel_rfl) (by kernel_rfl) (fun _ _ _ h => h) (by rfl) ?_ ?_; rotate_left 1; focus (intro w; go_simp; try with_reducible rfl))
            try simp only [Act.put, List.setIfInBounds_toArray, List.set_cons_zero, List.set_cons_succ]
            (refine wpAnyP_takeL (i := 10) (v := ?_) rfl (by kernel_rfl) (by kernel_rfl) (by kernel_rfl) (fun _ _ _ h => h) (by rfl) ?_ ?_; rotate_left 1; focus (intro w; go_simp; try with_reducible rfl))
            try simp only [Act.put, List.setIfInBounds_toArray, List.set_cons_zero, List.set_cons_succ]
            (refine wpAnyP_takeL (i := 11) (v := ?_) rfl (by kernel_rfl) (by kernel_rfl) (by kernel_rfl) (fun _ _ _ h => h) (by rfl) ?_ ?_; rotate_left 1; focus (intro w; go_simp; try with_reducible rfl))
            try simp only [Act.put, List.setIfInBounds_toArray, List.set_cons_zero, List.set_cons_succ]
            (refine wpAnyP_takeL (i := 12) (v := ?_) rfl (by kernel_rfl) (by kernel_rfl) (by kernel_rfl) (fun _ _ _ h => h) (by rfl) ?_ ?_; rotate_left 1; focus (intro w; go_simp; try with_reducible rfl))
            try simp only [Act.put, List.setIfInBounds_toArray, List.set_cons_zero, List.set_cons_succ]
            (refine wpAnyP_takeL (i := 13) (v := ?_) rfl (by kernel_rfl) (by kernel_rfl) (by kernel_rfl) (fun _ _ _ h => h) (by rfl) ?_ ?_; rotate_left 1; focus (intro w; go_simp; try with_reducible rfl))
            try simp only [Act.put, List.setIfInBounds_toArray, List.set_cons_zero, List.set_cons_succ]
            (refine wpAnyP_takeL (i := 14) (v := ?_) rfl (by kernel_rfl) (by kernel_rfl) (by kernel_rfl) (fun _ _ _ h => h) (by rfl) ?_ ?_; rotate_left 1; focus (intro w; go_simp; try with_reducible rfl))
            try simp only [Act.put, List.setIfInBounds_toArray, List.set_cons_zero, List.set_cons_succ]
            (refine wpAnyP_takeL (i := 15) (v := ?_) rfl (by kernel_rfl) (by kernel_rfl) (by kernel_rfl) (fun _ _ _ h => h) (by rfl) ?_ ?_; rotate_left 1; focus (intro w; go_simp; try with_reducible rfl))
            try simp only [Act.put, List.setIfInBounds_toArray, List.set_cons_zero, List.set_cons_succ]
            (refine wpAnyP_takeL (i := 16) (v := ?_) rfl (by kernel_rfl) (by kernel_rfl) (by kernel_rfl) (fun _ _ _ h => h) (by rfl) ?_ ?_; rotate_left 1; focus (intro w; go_simp; try with_reducible rfl))
            try simp only [Act.put, List.setIfInBounds_toArray, List.set_cons_zero, List.set_cons_succ]
            (refine wpAnyP_takeL (i := 17) (v := ?_) rfl (by kernel_rfl) (by kernel_rfl) (by kernel_rfl) (fun _ _ _ h => h) (by rfl) ?_ ?_; rotate_left 1; focus (intro w; go_simp; try with_reducible rfl))
            try simp only [Act.put, List.setIfInBounds_toArray, List.set_cons_zero, List.set_cons_succ]
            (refine wpAnyP_takeL (i := 18) (v := ?_) rfl (by kernel_rfl) (by kernel_rfl) (by kernel_rfl) (fun _ _ _ h => h) (by rfl) ?_ ?_; rotate_left 1; focus (intro w; go_simp; try with_reducible rfl))
            try simp only [Act.put, List.setIfInBounds_toArray, List.set_cons_zero, List.set_cons_succ]
            (refine wpAnyP_takeL (i := 19) (v := ?_) rfl (by kernel_rfl) (by kernel_rfl) (by kernel_rfl) (fun _ _ _ h => h) (by rfl) ?_ ?_; rotate_left 1; focus (intro w; go_simp; try with_reducible rfl))
            try simp only [Act.put, List.setIfInBounds_toArray, List.set_cons_zero, List.set_cons_succ]
            (refine wpAnyP_takeL (i := 20) (v := ?_) rfl (by kernel_rfl) (by kernel_rfl) (by kernel_rfl) (fun _ _ _ h => h) (by rfl) ?_ ?_; rotate_left 1; focus (intro w; go_simp; try with_reducible rfl))
            try simp only [Act.put, List.setIfInBounds_toArray, List.set_cons_zero, List.set_cons_succ]
            refine wpAnyP_step (i := 21) rfl (by kernel_rfl) (by rfl) (fun K hK => ?_)
            go_simp
            (refine (sameInts_any b7 b8 pq.length pq.length c7 c8 A7 A8 pq pq _ (P7.out.old (Below.refl _ wc).drew) (P8.out.old (Below.refl _ wc).drew) (by omega)).mono ?_; rw [same_ints]; rintro e wd ⟨rfl, hBd⟩; have Hd := Lib.hid ((Below.refl wc.heap.size wc).drew.trans hBd); clear hBd)
            (refine hK _ _ (HF5.out _ Hd.out) (fun hF1 => ?_); clear hK K hF0)
            try simp only [Act.put, List.setIfInBounds_toArray, List.set_cons_zero, List.set_cons_succ]
            (refine wpAnyP_takeL (i := 22) (v := ?_) rfl (by kernel_rfl) (by kernel_rfl) (by kernel_rfl) (fun _ _ _ h => h) (by rfl) ?_ ?_; rotate_left 1; focus (intro w; go_simp; try with_reducible rfl))
            try simp only [Act.put, List.setIfInBounds_toArray, List.set_cons_zero, List.set_cons_succ]
            (refine wpAnyP_takeL (i := 23) (v := ?_) rfl (by kernel_rfl) (by kernel_rfl) (by kernel_rfl) (fun _ _ _ h => h) (by rfl) ?_ ?_; rotate_left 1; focus (intro w; go_simp; try with_reducible rfl))
            try simp only [Act.put, List.setIfInBounds_toArray, List.set_cons_zero, List.set_cons_succ]
            (refine wpAnyP_takeL (i := 24) (v := ?_) rfl (by kernel_rfl) (by kernel_rfl) (by kernel_rfl) (fun _ _ _ h => h) (by rfl) ?_ ?_; rotate_left 1; focus (intro w; go_simp; try with_reducible rfl))
            try simp only [Act.put, List.setIfInBounds_toArray, List.set_cons_zero, List.set_cons_succ]
            (refine wpAnyP_loadL (i := 25) (v := ?_) rfl (by kernel_rfl) (by kernel_rfl) (by kernel_rfl) (by rfl) (fun _ _ _ h => h) hF1 (by rfl) ?_ ?_; rotate_left 1; focus (intro w hFw; (try dsimp only at hFw); go_split_ands; go_simp; try with_reducible rfl))
            try simp only [Act.put, List.setIfInBounds_toArray, List.set_cons_zero, List.set_cons_succ]
            (refine wpAnyP_loadL (i := 26) (v := ?_) rfl (by kernel_rfl) (by kernel_rfl) (by kernel_rfl) (by rfl) (fun _ _ _ h => h) hF1 (by rfl) ?_ ?_; rotate_left 1; focus (intro w hFw; (try dsimp only at hFw); go_split_ands; go_simp; try with_reducible rfl))
            try simp only [Act.put, List.setIfInBounds_toArray, List.set_cons_zero, List.set_cons_succ]
            refine wpAnyP_step (i := 27) rfl (by kernel_rfl) (by rfl) (fun K hK => ?_)
            go_simp
            (refine (sameBooks_any (audS oq x.st) (audS oq x.gd) (audS oq x.st) (audS oq x.gd) b9' b10 oq.2.length oq.2.length c9' c10 A9 A10 oq.2 oq.2 _ (Q9.out.old Hd.out) (Q10.out.old Hd.out) (by omega)).mono ?_; rw [same_true]; rintro e we ⟨rfl, hBe⟩; have He := Lib.hid (Hd.out.trans (hBe.mono Hd.out.size)); clear hBe)
            (refine hK _ _ (HF5.out _ He.out) (fun hF2 => ?_); clear hK K hF1)
            try simp only [Act.put, List.setIfInBounds_toArray, List.set_cons_zero, List.set_cons_succ]
            (refine wpAnyP_takeL (i := 28) (v := ?_) rfl (by kernel_rfl) (by kernel_rfl) (by kernel_rfl) (fun _ _ _ h => h) (by rfl) ?_ ?_; rotate_left 1; focus (intro w; go_simp; try with_reducible rfl))
            try simp only [Act.put, List.setIfInBounds_toArray, List.set_cons_zero, List.set_cons_succ]
            (refine wpAnyP_takeL (i := 29) (v := ?_) rfl (by kernel_rfl) (by kernel_rfl) (by kernel_rfl) (fun _ _ _ h => h) (by rfl) ?_ ?_; rotate_left 1; focus (intro w; go_simp; try with_reducible rfl))
            try simp only [Act.put, List.setIfInBounds_toArray, List.set_cons_zero, List.set_cons_succ]
            (refine wpAnyP_takeL (i := 30) (v := ?_) rfl (by kernel_rfl) (by kernel_rfl) (by kernel_rfl) (fun _ _ _ h => h) (by rfl) ?_ ?_; rotate_left 1; focus (intro w; go_simp; try with_reducible rfl))
            try simp only [Act.put, List.setIfInBounds_toArray, List.set_cons_zero, List.set_cons_succ]
            (refine wpAnyP_loadL (i := 31) (v := ?_) rfl (by kernel_rfl) (by kernel_rfl) (by kernel_rfl) (by rfl) (fun _ _ _ h => h) hF2 (by rfl) ?_ ?_; rotate_left 1; focus (intro w hFw; (try dsimp only at hFw); go_split_ands; go_simp; try with_reducible rfl))
            try simp only [Act.put, List.setIfInBounds_toArray, List.set_cons_zero, List.set_cons_succ]
            (refine wpAnyP_takeL (i := 32) (v := ?_) rfl (by kernel_rfl) (by kernel_rfl) (by kernel_rfl) (fun _ _ _ h => h) (by rfl) ?_ ?_; rotate_left 1; focus (intro w; go_simp; try with_reducible rfl))
            try simp only [Act.put, List.setIfInBounds_toArray, List.set_cons_zero, List.set_cons_succ]
            (refine wpAnyP_takeL (i := 33) (v := ?_) rfl (by kernel_rfl) (by kernel_rfl) (by kernel_rfl) (fun _ _ _ h => h) (by rfl) ?_ ?_; rotate_left 1; focus (intro w; go_simp; try with_reducible rfl))
            try simp only [Act.put, List.setIfInBounds_toArray, List.set_cons_zero, List.set_cons_succ]
            (refine wpAnyP_takeL (i := 34) (v := ?_) rfl (by kernel_rfl) (by kernel_rfl) (by kernel_rfl) (fun _ _ _ h => h) (by rfl) ?_ ?_; rotate_left 1; focus (intro w; go_simp; try with_reducible rfl))
            try simp only [Act.put, List.setIfInBounds_toArray, List.set_cons_zero, List.set_cons_succ]
            (refine wpAnyP_loadL (i := 35) (v := ?_) rfl (by kernel_rfl) (by kernel_rfl) (by kernel_rfl) (by rfl) (fun _ _ _ h => h) hF2 (by rfl) ?_ ?_; rotate_left 1; focus (intro w hFw; (try dsimp only at hFw); go_split_ands; go_simp; try with_reducible rfl))
            try simp only [Act.put, List.setIfInBounds_toArray, List.set_cons_zero, List.set_cons_succ]
            refine wpAnyP_step (i := 36) rfl (by kernel_rfl) (by rfl) (fun K hK => ?_)
            go_simp
            (refine (sameBooks_any x.st x.gd x.st x.gd b' x.b x.n x.n c' x.c A' x.A x.l x.l _ ((SB.out.old HV7.out).old He.out) ((XV.out.old HV7.out).old He.out) (by omega)).mono ?_; rw [same_true]; rintro e wg ⟨rfl, hBg⟩; have Hg := Lib.hid (He.out.trans (hBg.mono He.out.size)); clear hBg)
            (refine hK _ _ (HF5.out _ Hg.out) (fun hF3 => ?_); clear hK K hF2)
            try simp only [Act.put, List.setIfInBounds_toArray, List.set_cons_zero, List.set_cons_succ]
            (refine wpAnyP_takeL (i := 37) (v := ?_) rfl (by kernel_rfl) (by kernel_rfl) (by kernel_rfl) (fun _ _ _ h => h) (by rfl) ?_ ?_; rotate_left 1; focus (intro w; go_simp; try with_reducible rfl))
            try simp only [Act.put, List.setIfInBounds_toArray, List.set_cons_zero, List.set_cons_succ]
            (refine wpAnyP_takeL (i := 38) (v := ?_) rfl (by kernel_rfl) (by kernel_rfl) (by kernel_rfl) (fun _ _ _ h => h) (by rfl) ?_ ?_; rotate_left 1; focus (intro w; go_simp; try with_reducible rfl))
            try simp only [Act.put, List.setIfInBounds_toArray, List.set_cons_zero, List.set_cons_succ]
            refine wpAnyP_done (by kernel_rfl) ?_ _
            have HV8 := Lib.hid (HV7.out.trans (Hg.out.mono hzc))
            have hz9 := HV8.out.size
            have M6 := Lib.hid (SM.out.old HV8.out)
            have Z6 := Lib.hid (ZV.out.old HV8.out)
            clear Hd He Hg HF5 HV7 P7 P8 Q9 Q10 HA1 HA2
            go_wp2_with fail
            obtain ⟨wo, rfl⟩ : ∃ wo : World, wo = wg := ⟨_, rfl⟩
            go_loopw [35] (fun i ws => ∃ j : Nat, j ≤ z.n ∧ i = .int .i64 j ∧ Below wo.heap.size wo ws) (fun i _ => z.n - (intOf i).toNat)
            case atStart => exact ⟨0, by omega, rfl, Below.refl _ _⟩
            case round =>
              obtain ⟨j, hj, rfl, hBj⟩ := hrel
              have HBj := Lib.hid hBj
              clear hBj
              by_cases hltj : j < z.n
              · have hjl : j < z.l.length := by have := M6.out.len; omega
                obtain ⟨om, rfl, hmz, u0, u1, u2⟩ := (M6.out.old HBj.out).atF hjl
                obtain ⟨oz, hzA, hzz, v0, v1, v2⟩ := (Z6.out.old HBj.out).atF hjl
                have fz := (HFC.out _ (HV8.out.trans (HBj.out.mono hz9))).2.2.2.2
                rw [hzA] at fz
                generalize z.l[j] = sp at u0 u1 u2 v0 v1 v2
                have HZA := Lib.hid hzA
                have ij0 : (0 : Int) ≤ (j : Int) := by omega
                have ij1 : (j : Int) < (z.n : Int) := by omega
                clear hzA hjl
                go_upto_region 22 with fail
                refine wp_region_PL [3, 7, 10] (fun W => (W.cell? ⟨bm, om + j * 3, none⟩ = some (.int .i64 sp.sa) ∧ W.cell? ⟨bm, om + j * 3 + 1, none⟩ = some (.int .i64 sp.gr) ∧ W.cell? ⟨bm, om + j * 3 + 2, none⟩ = some (.int .i64 sp.ce)) ∧ (W.cell? ⟨z.b, oz + j * 3, none⟩ = some (.int .i64 sp.sa) ∧ W.cell? ⟨z.b, oz + j * 3 + 1, none⟩ = some (.int .i64 sp.gr) ∧ W.cell? ⟨z.b, oz + j * 3 + 2, none⟩ = some (.int .i64 sp.ce)) ∧ W.cell? ⟨g4, k, none⟩ = some (.slice (some ⟨z.b, oz, none⟩) z.n z.c)) rfl (by kernel_rfl) (⟨⟨u0, u1, u2⟩, ⟨v0, v1, v2⟩, fz⟩) (fun hF0 => ?_)
                (refine wpAnyP_takeL (i := 0) (v := ?_) rfl (by kernel_rfl) (by kernel_rfl) (by kernel_rfl) (fun _ _ _ h => h) (by rfl) ?_ ?_; rotate_left 1; focus (intro w; go_simp; try with_reducible rfl))
                try simp only [Act.put, List.setIfInBounds_toArray, List.set_cons_zero, List.set_cons_succ]
                (refine wpAnyP_takeL (i := 1) (v := ?_) rfl (by kernel_rfl) (by kernel_rfl) (by kernel_rfl) (fun _ _ _ h => h) (by rfl) ?_ ?_; rotate_left 1; focus (intro w; go_simp; try with_reducible rfl))
                try simp only [Act.put, List.setIfInBounds_toArray, List.set_cons_zero, List.set_cons_succ]
                (refine wpAnyP_takeL (i := 2) (v := ?_) rfl (by kernel_rfl) (by kernel_rfl) (by kernel_rfl) (fun _ _ _ h => h) (by rfl) ?_ ?_; rotate_left 1; focus (intro w; go_simp; try with_reducible rfl))
                try simp only [Act.put, List.setIfInBounds_toArray, List.set_cons_zero, List.set_cons_succ]
                (refine wpAnyP_loadL (i := 3) (v := ?_) rfl (by kernel_rfl) (by kernel_rfl) (by kernel_rfl) (by rfl) (fun _ _ _ h => h) hF0 (by rfl) ?_ ?_; rotate_left 1; focus (intro w hFw; (try dsimp only at hFw); go_split_ands; go_simp; try with_reducible rfl))
                try simp only [Act.put, List.setIfInBounds_toArray, List.set_cons_zero, List.set_cons_succ]
                (refine wpAnyP_takeL (i := 4) (v := ?_) rfl (by kernel_rfl) (by kernel_rfl) (by kernel_rfl) (fun _ _ _ h => h) (by rfl) ?_ ?_; rotate_left 1; focus (intro w; go_simp; try with_reducible rfl))
                try simp only [Act.put, List.setIfInBounds_toArray, List.set_cons_zero, List.set_cons_succ]
                (refine wpAnyP_takeL (i := 5) (v := ?_) rfl (by kernel_rfl) (by kernel_rfl) (by kernel_rfl) (fun _ _ _ h => h) (by rfl) ?_ ?_; rotate_left 1; focus (intro w; go_simp; try with_reducible rfl))
                try simp only [Act.put, List.setIfInBounds_toArray, List.set_cons_zero, List.set_cons_succ]
                (refine wpAnyP_takeL (i := 6) (v := ?_) rfl (by kernel_rfl) (by kernel_rfl) (by kernel_rfl) (fun _ _ _ h => h) (by rfl) ?_ ?_; rotate_left 1; focus (intro w; go_simp; try with_reducible rfl))
                try simp only [Act.put, List.setIfInBounds_toArray, List.set_cons_zero, List.set_cons_succ]
                (refine wpAnyP_loadL (i := 7) (v := ?_) rfl (by kernel_rfl) (by kernel_rfl) (by kernel_rfl) (by rfl) (fun _ _ _ h => h) hF0 (by rfl) ?_ ?_; rotate_left 1; focus (intro w hFw; (try dsimp only at hFw); go_split_ands; go_simp; try with_reducible rfl))
                try simp only [Act.put, List.setIfInBounds_toArray, List.set_cons_zero, List.set_cons_succ]
                (refine wpAnyP_takeL (i := 8) (v := ?_) rfl (by kernel_rfl) (by kernel_rfl) (by kernel_rfl) (fun _ _ _ h => h) (by rfl) ?_ ?_; rotate_left 1; focus (intro w; go_simp; try with_reducible rfl))
                try simp only [Act.put, List.setIfInBounds_toArray, List.set_cons_zero, List.set_cons_succ]
                (refine wpAnyP_takeL (i := 9) (v := ?_) rfl (by kernel_rfl) (by kernel_rfl) (by kernel_rfl) (fun _ _ _ h => h) (by rfl) ?_ ?_; rotate_left 1; focus (intro w; go_simp; try with_reducible rfl))
                try simp only [Act.put, List.setIfInBounds_toArray, List.set_cons_zero, List.set_cons_succ]
                (refine wpAnyP_loadL (i := 10) (v := ?_) rfl (by kernel_rfl) (by kernel_rfl) (by kernel_rfl) (by rfl) (fun _ _ _ h => h) hF0 (by rfl) ?_ ?_; rotate_left 1; focus (intro w hFw; (try dsimp only at hFw); go_split_ands; go_simp; try with_reducible rfl))
                try simp only [Act.put, List.setIfInBounds_toArray, List.set_cons_zero, List.set_cons_succ]
                (refine wpAnyP_takeL (i := 11) (v := ?_) rfl (by kernel_rfl) (by kernel_rfl) (by kernel_rfl) (fun _ _ _ h => h) (by rfl) ?_ ?_; rotate_left 1; focus (intro w; go_simp; try with_reducible rfl))
                try simp only [Act.put, List.setIfInBounds_toArray, List.set_cons_zero, List.set_cons_succ]
                refine wpAnyP_done (by kernel_rfl) ?_ _
                go_wp2_with fail
                go_roundw
                case rel => exact ⟨j + 1, by omega, by go_num, HBj.out.drew⟩
                case measure => simp [intOf]; omega
              · have HJ := Lib.hid (show z.n ≤ j by omega)
                go_wp2_with fail
                go_roundw
                case rel => exact ⟨k + 1, by omega, by go_num, (HB.out.trans ((HVB.out.trans ((HV8.out.trans (HBj.out.mono hz9)).mono hzV)).mono hzr))⟩
                case measure => simp [intOf]; omega
      · have HK := Lib.hid (show 4 ≤ k by omega)
        go_wp2_with fail
        refine (awake_any _).mono ?_
        rintro e w9 ⟨rfl, hB9⟩
        have L9 := Lib.hid (Below.step hB9 (Below.step HB.out HLow.out (Nat.le_refl _)) (Nat.le_refl _))
        clear hB9
        go_wp2_with fail
        go_ret
        exact ⟨rfl, L9.out⟩
    --RESTEND
end Go.Proofs.Ytkcdknjgjidnnaa
