/-
  The walk of the law PriceMakes.
-/
import Derived.Test.YtkcdknjgjidnnaaNums
import Derived.Test.YtkcdknjgjidnnaaAwake
import Derived.Test.YtkcdknjgjidnnaaRPriceW
import Derived.Test.YtkcdknjgjidnnaaOpenBook
import Derived.Test.YtkcdknjgjidnnaaSmall
import Derived.Test.YtkcdknjgjidnnaaSealLaw
import Derived.Test.YtkcdknjgjidnnaaBooks
import Derived.Test.YtkcdknjgjidnnaaBook
import Derived.Deep.QuietTactic
import Derived.Deep.CutRange
import Derived.BigQuiet
set_option linter.unusedVariables false
set_option linter.unusedSimpArgs false
namespace Go.Proofs.Ytkcdknjgjidnnaa
open Go.RowKit

/-- how things stand ahead of the loop -/
structure MK8 (w : World) (d p0 p1 p2 : Nat) (x0 x1 x2 : BookD) (W : World) : Prop where
  low : Below w.heap.size w W
  die : IsDie W d
  k0 : Blk W p0 24 #[.int .i64 x0.st, .int .i64 x0.gd, .slice x0.A x0.n x0.c]
  k1 : Blk W p1 24 #[.int .i64 x1.st, .int .i64 x1.gd, .slice x1.A x1.n x1.c]
  k2 : Blk W p2 24 #[.int .i64 x2.st, .int .i64 x2.gd, .slice x2.A x2.n x2.c]
  a0 : Away d W x0
  a1 : Away d W x1
  a2 : Away d W x2
  n0 : p0 ≠ d
  n1 : p1 ≠ d
  n2 : p2 ≠ d
  hd : w.heap.size ≤ d
theorem MK8.step {w : World} {d p0 p1 p2 : Nat} {x0 x1 x2 : BookD} {W W' : World} (h : MK8 w d p0 p1 p2 x0 x1 x2 W) (hg : W.grownBy W' (some d)) (hd' : IsDie W' d) : MK8 w d p0 p1 p2 x0 x1 x2 W' :=
  ⟨Below.stepG hg h.low (Nat.le_refl _) h.hd, hd', h.k0.grown hg (fun e => h.n0 (by injection e)), h.k1.grown hg (fun e => h.n1 (by injection e)), h.k2.grown hg (fun e => h.n2 (by injection e)), h.a0.keep hg, h.a1.keep hg, h.a2.keep hg, h.n0, h.n1, h.n2, h.hd⟩
theorem MK8.alloc {w : World} {d p0 p1 p2 : Nat} {x0 x1 x2 : BookD} {W : World} (h : MK8 w d p0 p1 p2 x0 x1 x2 W) (o : Obj) : MK8 w d p0 p1 p2 x0 x1 x2 (W.alloc o) := h.step (only_alloc (only_refl W d) o) (h.die.alloc o)
theorem MK8.drew {w : World} {d p0 p1 p2 : Nat} {x0 x1 x2 : BookD} {W : World} (h : MK8 w d p0 p1 p2 x0 x1 x2 W) : MK8 w d p0 p1 p2 x0 x1 x2 W.drew := h.step (only_drew (only_refl W d)) h.die
theorem MK8.cells {w : World} {d p0 p1 p2 : Nat} {x0 x1 x2 : BookD} {W : World} (h : MK8 w d p0 p1 p2 x0 x1 x2 W) :
    (W.cell? ⟨p0, 0, none⟩ = some (.int .i64 x0.st) ∧ W.cell? ⟨p0, 1, none⟩ = some (.int .i64 x0.gd) ∧ W.cell? ⟨p0, 2, none⟩ = some (.slice x0.A x0.n x0.c)) ∧
    (W.cell? ⟨p1, 0, none⟩ = some (.int .i64 x1.st) ∧ W.cell? ⟨p1, 1, none⟩ = some (.int .i64 x1.gd) ∧ W.cell? ⟨p1, 2, none⟩ = some (.slice x1.A x1.n x1.c)) ∧
    (W.cell? ⟨p2, 0, none⟩ = some (.int .i64 x2.st) ∧ W.cell? ⟨p2, 1, none⟩ = some (.int .i64 x2.gd) ∧ W.cell? ⟨p2, 2, none⟩ = some (.slice x2.A x2.n x2.c)) :=
  ⟨⟨h.k0.cell 0, h.k0.cell 1, h.k0.cell 2⟩, ⟨h.k1.cell 0, h.k1.cell 1, h.k1.cell 2⟩, ⟨h.k2.cell 0, h.k2.cell 1, h.k2.cell 2⟩⟩

set_option maxRecDepth 100000 in
set_option maxHeartbeats 4000000 in
theorem priceMakes_any (st gd : Int) (b n c : Nat) (A : Option Addr) (l : List Sale) (good : Int) (s : Sale) (at_ : Int) (A9 : Option Addr) (n9 c9 : Nat) (w : World)
    (hl : Sl encS 6 w b A n l) (hn : n ≤ 9223372036854775807) (hgood : (Lit.int .i64 good).wf = true) (hs : SaleWf s) (hat : (Lit.int .i64 at_).wf = true) (hN : Nums w A9 n9) :
    Calls Try.prog 3 #[.agg #[.int .i64 st, .int .i64 gd, .slice A n c], .int .i64 good, .agg (encS s).toArray, .int .i64 at_, .slice A9 n9 c9] w fun e w' => e = .returned (.bool true) ∧ Below w.heap.size w w' := by
  show Calls Try.prog 3 #[.agg #[.int .i64 st, .int .i64 gd, .slice A n c], .int .i64 good, .agg #[.int .i64 s.st, .int .i64 s.gd, .int .i64 s.gl, .int .i64 s.gh, .int .i64 s.cl, .int .i64 s.ch], .int .i64 at_, .slice A9 n9 c9] w _
  obtain ⟨b9, l9, hl9, hw9, hn9⟩ := hN
  have HW9 := Lib.hid hw9
  have bat := bounds_i64 hat
  obtain ⟨bat1, bat2⟩ := bat
  have B0 : Below w.heap.size w ((w.alloc (.cells #[.int .i64 st, .int .i64 gd, .slice A n c] 24)).alloc (.cells #[.int .i64 s.st, .int .i64 s.gd, .int .i64 s.gl, .int .i64 s.gh, .int .i64 s.cl, .int .i64 s.ch] 28)) := by go_grown
  have K0 := (Blk.new w 24 #[.int .i64 st, .int .i64 gd, .slice A n c]).alloc (.cells #[.int .i64 s.st, .int .i64 s.gd, .int .i64 s.gl, .int .i64 s.gh, .int .i64 s.cl, .int .i64 s.ch] 28)
  have KS := Blk.new (w.alloc (.cells #[.int .i64 st, .int .i64 gd, .slice A n c] 24)) 28 #[.int .i64 s.st, .int .i64 s.gd, .int .i64 s.gl, .int .i64 s.gh, .int .i64 s.cl, .int .i64 s.ch]
  rw [World.size_alloc] at KS
  have H0 := Lib.hid (And.intro B0 (And.intro K0 KS))
  have HL := Lib.hid hl
  have HL9 := Lib.hid hl9
  clear B0 K0 KS hl hl9 hw9 hat hgood hs
  by_cases h60 : 60 < n
  · have hb60 : decide ((60 : Int) < (n : Int)) = true := by simp; omega
    go_enter Try.func3, Try.ntmps3
    go_wp2_with fail
    refine (awake_any _).mono ?_
    rintro e w1 ⟨rfl, hB1⟩
    have L1 := Lib.hid (Below.step hB1 H0.out.1 (Nat.le_refl _))
    clear hB1
    go_wp2_with fail
    go_ret
    exact ⟨rfl, L1.out⟩
  · have hb60 : decide ((60 : Int) < (n : Int)) = false := by simp; omega
    have hn60 : n ≤ 60 := by omega
    clear h60
    go_enter Try.func3, Try.ntmps3
    go_wp2_with fail
    refine (dieOf_any b9 n9 c9 A9 l9 _ (HL9.out.old H0.out.1) hn9 HW9.out).mono ?_
    rintro e w1 ⟨d, hd, rfl, hdie, hB1⟩
    simp only [World.size_alloc] at hd
    have H1 := Lib.hid (And.intro (Below.step hB1 H0.out.1 (Nat.le_refl _)) (And.intro (H0.out.2.1.below hB1 H0.out.2.1.lt) (H0.out.2.2.below hB1 H0.out.2.2.lt)))
    have hz1 := hB1.size
    simp only [World.size_alloc] at hz1
    clear hB1 H0
    go_wp2_with fail
    refine (bookOf_any d 3 3 10 _ hdie (by omega) (by omega) (by omega) (by omega) (by omega)).mono ?_
    rintro e w2 ⟨st1, gd1, b1, m1, c1, A1, l1, ⟨hs1, hs2, hg1, hg2, hm1, hok1⟩, rfl, hb1, hb1d, hsl1, hd2, hgr2⟩
    have HK1 := Lib.hid hsl1.len
    have HB1Z := Lib.hid (fun h : 0 < m1 => hsl1.lt h)
    have H2 := Lib.hid (And.intro (Below.stepG hgr2 H1.out.1 (Nat.le_refl _) (by omega)) (And.intro (H1.out.2.1.grown hgr2 (fun e => by injection e; omega)) (H1.out.2.2.grown hgr2 (fun e => by injection e; omega))))
    have hz2 := hgr2.size
    have hdz := hd2.lt
    have S2 := Lib.hid (hsl1.alloc (.cells #[.int .i64 st1, .int .i64 gd1, .slice A1 m1 c1] 24))
    have D2 := Lib.hid (hd2.alloc (.cells #[.int .i64 st1, .int .i64 gd1, .slice A1 m1 c1] 24))
    have K2 := Lib.hid (Blk.new w2 24 #[.int .i64 st1, .int .i64 gd1, .slice A1 m1 c1])
    have H3 := Lib.hid (And.intro (H2.out.1.alloc (by omega) (.cells #[.int .i64 st1, .int .i64 gd1, .slice A1 m1 c1] 24)) (And.intro (H2.out.2.1.alloc (.cells #[.int .i64 st1, .int .i64 gd1, .slice A1 m1 c1] 24)) (H2.out.2.2.alloc (.cells #[.int .i64 st1, .int .i64 gd1, .slice A1 m1 c1] 24))))
    clear hok1 hgr2 hdie hsl1 hd2 H1 H2
    go_wp2_with fail
    refine (copyBook_any st1 gd1 b1 m1 c1 A1 l1 _ S2.out (by omega)).mono ?_
    rintro e w3 ⟨A3, c3, rfl, hown, hB3⟩
    have hz3 := hB3.size
    simp only [World.size_alloc] at hz3 hown
    have HGZ := Lib.hid (fun (g : Nat) (e : A3 = some ⟨g, 0, none⟩) => (hown.lt g (by rw [e]; rfl)).2)
    have S3 := Lib.hid ((S2.out.old hB3).alloc (.cells #[.int .i64 st1, .int .i64 gd1, .slice A3 m1 c3] 24))
    have D3 := Lib.hid ((D2.out.keep (hB3.block d (by simp; omega))).alloc (.cells #[.int .i64 st1, .int .i64 gd1, .slice A3 m1 c3] 24))
    have K3 := Lib.hid ((K2.out.below hB3 K2.out.lt).alloc (.cells #[.int .i64 st1, .int .i64 gd1, .slice A3 m1 c3] 24))
    have KC := Lib.hid (Blk.new w3 24 #[.int .i64 st1, .int .i64 gd1, .slice A3 m1 c3])
    have HL3 := Lib.hid ((Below.step hB3 H3.out.1 (Nat.le_refl _)).alloc (by omega) (.cells #[.int .i64 st1, .int .i64 gd1, .slice A3 m1 c3] 24))
    have HB0 := Lib.hid ((H3.out.2.1.below hB3 H3.out.2.1.lt).alloc (.cells #[.int .i64 st1, .int .i64 gd1, .slice A3 m1 c3] 24))
    have HSA := Lib.hid ((H3.out.2.2.below hB3 H3.out.2.2.lt).alloc (.cells #[.int .i64 st1, .int .i64 gd1, .slice A3 m1 c3] 24))
    have O3 := Lib.hid (hown.alloc (.cells #[.int .i64 st1, .int .i64 gd1, .slice A3 m1 c3] 24))
    have hzX : w3.heap.size < (w3.alloc (.cells #[.int .i64 st1, .int .i64 gd1, .slice A3 m1 c3] 24)).heap.size := by simp
    clear hown hB3 S2 D2 K2 H3
    go_upto_if 38 with fail
    generalize hX : w3.alloc (.cells #[.int .i64 st1, .int .i64 gd1, .slice A3 m1 c3] 24) = X at S3 D3 K3 KC HL3 HB0 HSA O3 hzX ⊢
    have HX := Lib.hid hX
    clear hX
    go_cut [] from 35 to 48 (fun wx => ∃ x2 : BookD, MK8 w d w.heap.size w2.heap.size w3.heap.size ⟨st, gd, A, n, c, b, l⟩ ⟨st1, gd1, A1, m1, c1, b1, l1⟩ x2 wx)
    case first =>
      have ha0 : Away d X ⟨st, gd, A, n, c, b, l⟩ := ⟨HL.out.old HL3.out, fun hh => by have := HL.out.lt hh; show b ≠ d; omega, hn60⟩
      have ha1 : Away d X ⟨st1, gd1, A1, m1, c1, b1, l1⟩ := ⟨S3.out, fun _ => hb1d, by show m1 ≤ 60; omega⟩
      have HA0 := Lib.hid ha0
      have HA1 := Lib.hid ha1
      clear ha0 ha1
      by_cases hm0 : m1 = 0
      · subst hm0
        go_wp2_with fail
        go_meet
        exact ⟨⟨st1, gd1, A3, 0, c3, d + 1, []⟩, HL3.out, D3.out, HB0.out, K3.out, KC.out, HA0.out, HA1.out, ⟨Sl.nil _ _ _, fun h => absurd h (Nat.lt_irrefl 0), Nat.zero_le _⟩, by omega, by omega, by omega, by omega⟩
      · have hm0' : 0 < m1 := by omega
        obtain ⟨g3, rfl, hg3, hg3z⟩ := own_some1 O3.out hm0'
        have hbb := bring_bd (x := at_) (n := (m1 : Int)) (by omega)
        obtain ⟨kk, hkk⟩ := Int.eq_ofNat_of_zero_le hbb.1
        rw [hkk] at hbb
        have HKK := Lib.hid hkk
        obtain ⟨hk0, hk1⟩ := hbb
        have hkl : kk < l1.length := by have := HK1.out; omega
        have hck0 := (O3.out.cellAt (kk * 6) (by omega)).trans (flat_at encS_len l1 kk hkl 0 _ rfl)
        have hck1 := (O3.out.cellAt (kk * 6 + 1) (by omega)).trans (flat_at encS_len l1 kk hkl 1 _ rfl)
        have hck2 := (O3.out.cellAt (kk * 6 + 2) (by omega)).trans (flat_at encS_len l1 kk hkl 2 _ rfl)
        have hck3 := (O3.out.cellAt (kk * 6 + 3) (by omega)).trans (flat_at encS_len l1 kk hkl 3 _ rfl)
        have hck4 := (O3.out.cellAt (kk * 6 + 4) (by omega)).trans (flat_at encS_len l1 kk hkl 4 _ rfl)
        have hck5 := (O3.out.cellAt (kk * 6 + 5) (by omega)).trans (flat_at encS_len l1 kk hkl 5 _ rfl)
        have hfk0 := O3.out.frozenAt (kk * 6)
        have hfk1 := O3.out.frozenAt (kk * 6 + 1)
        have hfk2 := O3.out.frozenAt (kk * 6 + 2)
        have hfk3 := O3.out.frozenAt (kk * 6 + 3)
        have hfk4 := O3.out.frozenAt (kk * 6 + 4)
        have hfk5 := O3.out.frozenAt (kk * 6 + 5)
        generalize l1[kk] = old at hck0 hck1 hck2 hck3 hck4 hck5
        have HKL := Lib.hid hkl
        clear hkk hm0 hkl
        go_wp2_with fail
        refine wp_region_PL [1, 4, 7] (fun w' => w'.cell? ⟨w3.heap.size, 2, none⟩ = some (.slice (some ⟨g3, 0, none⟩) m1 c3) ∧ w'.cell? ⟨w.heap.size + 1, 0, none⟩ = some (.int .i64 s.st) ∧ w'.cell? ⟨w.heap.size + 1, 1, none⟩ = some (.int .i64 s.gd) ∧ w'.cell? ⟨w.heap.size + 1, 2, none⟩ = some (.int .i64 s.gl) ∧ w'.cell? ⟨w.heap.size + 1, 3, none⟩ = some (.int .i64 s.gh) ∧ w'.cell? ⟨w.heap.size + 1, 4, none⟩ = some (.int .i64 s.cl) ∧ w'.cell? ⟨w.heap.size + 1, 5, none⟩ = some (.int .i64 s.ch)) rfl (by kernel_rfl) (⟨KC.out.drew.cell 2, HSA.out.drew.cell 0, HSA.out.drew.cell 1, HSA.out.drew.cell 2, HSA.out.drew.cell 3, HSA.out.drew.cell 4, HSA.out.drew.cell 5⟩) (fun hF0 => ?_)
        (refine wpAnyP_takeL (i := 0) (v := ?_) rfl (by kernel_rfl) (by kernel_rfl) (by kernel_rfl) (fun _ _ _ h => h) (by rfl) ?_ ?_; rotate_left 1; focus (intro w; go_simp; try with_reducible rfl))
        try simp only [Act.put, List.setIfInBounds_toArray, List.set_cons_zero, List.set_cons_succ]
        (refine wpAnyP_loadL (i := 1) (v := ?_) rfl (by kernel_rfl) (by kernel_rfl) (by kernel_rfl) (by rfl) (fun _ _ _ h => h) hF0 (by rfl) ?_ ?_; rotate_left 1; focus (intro w hFw; (try dsimp only at hFw); go_split_ands; go_simp; try with_reducible rfl))
        try simp only [Act.put, List.setIfInBounds_toArray, List.set_cons_zero, List.set_cons_succ]
        (refine wpAnyP_takeL (i := 2) (v := ?_) rfl (by kernel_rfl) (by kernel_rfl) (by kernel_rfl) (fun _ _ _ h => h) (by rfl) ?_ ?_; rotate_left 1; focus (intro w; go_simp; try with_reducible rfl))
        try simp only [Act.put, List.setIfInBounds_toArray, List.set_cons_zero, List.set_cons_succ]
        (refine wpAnyP_takeL (i := 3) (v := ?_) rfl (by kernel_rfl) (by kernel_rfl) (by kernel_rfl) (fun _ _ _ h => h) (by rfl) ?_ ?_; rotate_left 1; focus (intro w; go_simp; try with_reducible rfl))
        try simp only [Act.put, List.setIfInBounds_toArray, List.set_cons_zero, List.set_cons_succ]
        (refine wpAnyP_loadL (i := 4) (v := ?_) rfl (by kernel_rfl) (by kernel_rfl) (by kernel_rfl) (by rfl) (fun _ _ _ h => h) hF0 (by rfl) ?_ ?_; rotate_left 1; focus (intro w hFw; (try dsimp only at hFw); go_split_ands; go_simp; try with_reducible rfl))
        try simp only [Act.put, List.setIfInBounds_toArray, List.set_cons_zero, List.set_cons_succ]
        (refine wpAnyP_takeL (i := 5) (v := ?_) rfl (by kernel_rfl) (by kernel_rfl) (by kernel_rfl) (fun _ _ _ h => h) (by rfl) ?_ ?_; rotate_left 1; focus (intro w; go_simp; try with_reducible rfl))
        try simp only [Act.put, List.setIfInBounds_toArray, List.set_cons_zero, List.set_cons_succ]
        (refine wpAnyP_loadL (i := 7) (v := ?_) rfl (by kernel_rfl) (by kernel_rfl) (by kernel_rfl) (by rfl) (fun _ _ _ h => h) hF0 (by rfl) ?_ ?_; rotate_left 1; focus (intro w hFw; (try dsimp only at hFw); go_split_ands; go_simp; try with_reducible rfl))
        try simp only [Act.put, List.setIfInBounds_toArray, List.set_cons_zero, List.set_cons_succ]
        refine wpAnyP_step (i := 6) rfl (by kernel_rfl) (by rfl) (fun K hK => ?_)
        go_simp
        (refine (bring_any at_ (m1 : Int) _ bat1 bat2 (by omega)).mono ?_; rw [HKK.out]; rintro e w4 ⟨rfl, rfl⟩)
        (refine hK _ _ (⟨KC.out.drew.cell 2, HSA.out.drew.cell 0, HSA.out.drew.cell 1, HSA.out.drew.cell 2, HSA.out.drew.cell 3, HSA.out.drew.cell 4, HSA.out.drew.cell 5⟩) (fun hF1 => ?_); clear hK K hF0)
        try simp only [Act.put, List.setIfInBounds_toArray, List.set_cons_zero, List.set_cons_succ]
        (refine wpAnyP_takeL (i := 8) (v := ?_) rfl (by kernel_rfl) (by kernel_rfl) (by kernel_rfl) (fun _ _ _ h => h) (by rfl) ?_ ?_; rotate_left 1; focus (intro w; go_simp; try with_reducible rfl))
        try simp only [Act.put, List.setIfInBounds_toArray, List.set_cons_zero, List.set_cons_succ]
        refine wpAnyP_last (i := 9) rfl (by kernel_rfl) (by kernel_rfl) (by rfl) (fun K hK => ?_)
        go_simp
        (refine hK _ _ ?_; clear hK K)
        try simp only [Act.put, List.setIfInBounds_toArray, List.set_cons_zero, List.set_cons_succ]
        refine wpAnyP_done (by kernel_rfl) ?_ _
        have hg3w : g3 < w3.heap.size := HGZ.out g3 rfl
        have hb1z : b1 < w2.heap.size := HB1Z.out hm0'
        have OP := own_put6 O3.out HKL.out s
        have hG : X.grownBy ((((((X.setCell ⟨g3, kk * 6, none⟩ (.int .i64 s.st)).setCell ⟨g3, kk * 6 + 1, none⟩ (.int .i64 s.gd)).setCell ⟨g3, kk * 6 + 2, none⟩ (.int .i64 s.gl)).setCell ⟨g3, kk * 6 + 3, none⟩ (.int .i64 s.gh)).setCell ⟨g3, kk * 6 + 4, none⟩ (.int .i64 s.cl)).setCell ⟨g3, kk * 6 + 5, none⟩ (.int .i64 s.ch)) (some g3) :=
          only_setCell (only_setCell (only_setCell (only_setCell (only_setCell (only_setCell (only_refl X g3) (.inl rfl) _) (.inl rfl) _) (.inl rfl) _) (.inl rfl) _) (.inl rfl) _) (.inl rfl) _
        generalize ((((((X.setCell ⟨g3, kk * 6, none⟩ (.int .i64 s.st)).setCell ⟨g3, kk * 6 + 1, none⟩ (.int .i64 s.gd)).setCell ⟨g3, kk * 6 + 2, none⟩ (.int .i64 s.gl)).setCell ⟨g3, kk * 6 + 3, none⟩ (.int .i64 s.gh)).setCell ⟨g3, kk * 6 + 4, none⟩ (.int .i64 s.cl)).setCell ⟨g3, kk * 6 + 5, none⟩ (.int .i64 s.ch)) = Y at OP hG ⊢
        obtain ⟨b3, hb3, SP⟩ := Sl.of_own encS_len (show m1 = (l1.set kk s).length by rw [List.length_set]; exact HK1.out) OP
        have hM : MK8 w d w.heap.size w2.heap.size w3.heap.size ⟨st, gd, A, n, c, b, l⟩ ⟨st1, gd1, A1, m1, c1, b1, l1⟩ ⟨st1, gd1, some ⟨g3, 0, none⟩, m1, c3, b3, l1.set kk s⟩ Y :=
          ⟨Below.stepG hG HL3.out (Nat.le_refl _) (by omega), D3.out.keep (hG.block d (by omega) (fun e => by injection e; omega)), HB0.out.grown hG (fun e => by injection e; omega), K3.out.grown hG (fun e => by injection e; omega), KC.out.grown hG (fun e => by injection e; omega),
            ⟨HA0.out.sl.grown hG (fun hh e => by have h1 := HL.out.lt hh; injection e with e; have : b = g3 := e; omega), HA0.out.ne, hn60⟩,
            ⟨HA1.out.sl.grown hG (fun hh e => by injection e with e; have : b1 = g3 := e; omega), HA1.out.ne, HA1.out.le⟩,
            ⟨SP, fun _ => by show b3 ≠ d; omega, HA1.out.le⟩, by omega, by omega, by omega, by omega⟩
        have HM := Lib.hid hM.drew
        clear OP hG hM SP hck0 hck1 hck2 hck3 hck4 hck5 hfk0 hfk1 hfk2 hfk3 hfk4 hfk5
        go_wp2_with fail
        go_meet
        exact ⟨_, HM.out⟩
    case rest =>
      obtain ⟨x2, hM⟩ := hcut
      have HM := Lib.hid hM
      have hpz : w3.heap.size < wc.heap.size := hM.k2.lt
      clear hM S3 D3 K3 KC HL3 HB0 HSA O3 HX
      generalize hx0 : (⟨st, gd, A, n, c, b, l⟩ : BookD) = x0 at HM
      generalize hx1 : (⟨st1, gd1, A1, m1, c1, b1, l1⟩ : BookD) = x1 at HM
      have hgd1 : x1.gd = gd1 := by rw [← hx1]
      have hg1' : 1 ≤ x1.gd := by omega
      have hg2' : x1.gd ≤ 3 := by omega
      clear hx0 hx1 hgd1
      go_upto_region 8 with fail
      go_cut [14, 15] from 48 to 64 (fun p q wx => ∃ (g1 g2 : Nat) (v1 v2 : Int), p = .slice (some ⟨g1, 0, none⟩) 4 4 ∧ q = .slice (some ⟨g2, 0, none⟩) 4 4 ∧ Arr encB 3 d [x0, x1, x2, x1] wx g1 ∧ Arr encI 1 d [good, v1, v2, good] wx g2 ∧ MK8 w d w.heap.size w2.heap.size w3.heap.size x0 x1 x2 wx)
      case first =>
        have hM := HM.out.drew
        refine wp_region_K2 [0, 1, 2, 3, 8, 12] [] (fun W => (W.cell? ⟨w.heap.size, 0, none⟩ = some (.int .i64 x0.st) ∧ W.cell? ⟨w.heap.size, 1, none⟩ = some (.int .i64 x0.gd) ∧ W.cell? ⟨w.heap.size, 2, none⟩ = some (.slice x0.A x0.n x0.c)) ∧ (W.cell? ⟨w2.heap.size, 0, none⟩ = some (.int .i64 x1.st) ∧ W.cell? ⟨w2.heap.size, 1, none⟩ = some (.int .i64 x1.gd) ∧ W.cell? ⟨w2.heap.size, 2, none⟩ = some (.slice x1.A x1.n x1.c)) ∧ (W.cell? ⟨w3.heap.size, 0, none⟩ = some (.int .i64 x2.st) ∧ W.cell? ⟨w3.heap.size, 1, none⟩ = some (.int .i64 x2.gd) ∧ W.cell? ⟨w3.heap.size, 2, none⟩ = some (.slice x2.A x2.n x2.c))) (fun _ => True) rfl (by kernel_rfl) (hM.cells) (trivial) (fun hF0 hG0 => ?_)
        (refine wpAnyK_loadL Keep2.refl (i := 0) (v := ?_) rfl (Keep2.left (i := 0) (by rfl)) (by kernel_rfl) (by kernel_rfl) (by kernel_rfl) (fun _ _ _ h => h) hF0 (by rfl) ?_ ?_; rotate_left 1; focus (intro w hFw; (try dsimp only at hFw); go_split_ands; go_simp; try with_reducible rfl))
        try simp only [Act.put, List.setIfInBounds_toArray, List.set_cons_zero, List.set_cons_succ]
        (refine wpAnyK_loadL Keep2.refl (i := 1) (v := ?_) rfl (Keep2.left (i := 1) (by rfl)) (by kernel_rfl) (by kernel_rfl) (by kernel_rfl) (fun _ _ _ h => h) hF0 (by rfl) ?_ ?_; rotate_left 1; focus (intro w hFw; (try dsimp only at hFw); go_split_ands; go_simp; try with_reducible rfl))
        try simp only [Act.put, List.setIfInBounds_toArray, List.set_cons_zero, List.set_cons_succ]
        (refine wpAnyK_loadL Keep2.refl (i := 2) (v := ?_) rfl (Keep2.left (i := 2) (by rfl)) (by kernel_rfl) (by kernel_rfl) (by kernel_rfl) (fun _ _ _ h => h) hF0 (by rfl) ?_ ?_; rotate_left 1; focus (intro w hFw; (try dsimp only at hFw); go_split_ands; go_simp; try with_reducible rfl))
        try simp only [Act.put, List.setIfInBounds_toArray, List.set_cons_zero, List.set_cons_succ]
        (refine wpAnyK_loadL Keep2.refl (i := 3) (v := ?_) rfl (Keep2.left (i := 3) (by rfl)) (by kernel_rfl) (by kernel_rfl) (by kernel_rfl) (fun _ _ _ h => h) hF0 (by rfl) ?_ ?_; rotate_left 1; focus (intro w hFw; (try dsimp only at hFw); go_split_ands; go_simp; try with_reducible rfl))
        try simp only [Act.put, List.setIfInBounds_toArray, List.set_cons_zero, List.set_cons_succ]
        (refine wpAnyK_takeL Keep2.refl (i := 5) (v := ?_) rfl (by kernel_rfl) (by kernel_rfl) (by kernel_rfl) (fun _ _ _ h => h) (by rfl) ?_ ?_; rotate_left 1; focus (intro w; go_simp; try with_reducible rfl))
        try simp only [Act.put, List.setIfInBounds_toArray, List.set_cons_zero, List.set_cons_succ]
        (refine wpAnyK_takeL Keep2.refl (i := 6) (v := ?_) rfl (by kernel_rfl) (by kernel_rfl) (by kernel_rfl) (fun _ _ _ h => h) (by rfl) ?_ ?_; rotate_left 1; focus (intro w; go_simp; try with_reducible rfl))
        try simp only [Act.put, List.setIfInBounds_toArray, List.set_cons_zero, List.set_cons_succ]
        (refine wpAnyK_takeL Keep2.refl (i := 7) (v := ?_) rfl (by kernel_rfl) (by kernel_rfl) (by kernel_rfl) (fun _ _ _ h => h) (by rfl) ?_ ?_; rotate_left 1; focus (intro w; go_simp; try with_reducible rfl))
        try simp only [Act.put, List.setIfInBounds_toArray, List.set_cons_zero, List.set_cons_succ]
        (refine wpAnyK_loadL Keep2.refl (i := 8) (v := ?_) rfl (Keep2.left (i := 8) (by rfl)) (by kernel_rfl) (by kernel_rfl) (by kernel_rfl) (fun _ _ _ h => h) hF0 (by rfl) ?_ ?_; rotate_left 1; focus (intro w hFw; (try dsimp only at hFw); go_split_ands; go_simp; try with_reducible rfl))
        try simp only [Act.put, List.setIfInBounds_toArray, List.set_cons_zero, List.set_cons_succ]
        (refine wpAnyK_takeL Keep2.refl (i := 10) (v := ?_) rfl (by kernel_rfl) (by kernel_rfl) (by kernel_rfl) (fun _ _ _ h => h) (by rfl) ?_ ?_; rotate_left 1; focus (intro w; go_simp; try with_reducible rfl))
        try simp only [Act.put, List.setIfInBounds_toArray, List.set_cons_zero, List.set_cons_succ]
        (refine wpAnyK_takeL Keep2.refl (i := 11) (v := ?_) rfl (by kernel_rfl) (by kernel_rfl) (by kernel_rfl) (fun _ _ _ h => h) (by rfl) ?_ ?_; rotate_left 1; focus (intro w; go_simp; try with_reducible rfl))
        try simp only [Act.put, List.setIfInBounds_toArray, List.set_cons_zero, List.set_cons_succ]
        (refine wpAnyK_loadL Keep2.refl (i := 12) (v := ?_) rfl (Keep2.left (i := 12) (by rfl)) (by kernel_rfl) (by kernel_rfl) (by kernel_rfl) (fun _ _ _ h => h) hF0 (by rfl) ?_ ?_; rotate_left 1; focus (intro w hFw; (try dsimp only at hFw); go_split_ands; go_simp; try with_reducible rfl))
        try simp only [Act.put, List.setIfInBounds_toArray, List.set_cons_zero, List.set_cons_succ]
        (refine wpAnyK_takeL Keep2.refl (i := 14) (v := ?_) rfl (by kernel_rfl) (by kernel_rfl) (by kernel_rfl) (fun _ _ _ h => h) (by rfl) ?_ ?_; rotate_left 1; focus (intro w; go_simp; try with_reducible rfl))
        try simp only [Act.put, List.setIfInBounds_toArray, List.set_cons_zero, List.set_cons_succ]
        refine wpAnyK_all (rs := [4, 9]) (by kernel_rfl) (by simp) ?_
        refine List.forall_mem_cons.2 ⟨?_, List.forall_mem_cons.2 ⟨?_, fun _ h => absurd h List.not_mem_nil⟩⟩
        · refine wpOp_of rfl (by rfl) (fun K hK => ?_)
          go_simp
          (have hA := Arr.new encB_len hM.die.lt [x0, x1, x2, x1] 24 #[.int .i64 x0.st, .int .i64 x0.gd, .slice x0.A x0.n x0.c, .int .i64 x1.st, .int .i64 x1.gd, .slice x1.A x1.n x1.c, .int .i64 x2.st, .int .i64 x2.gd, .slice x2.A x2.n x2.c, .int .i64 x1.st, .int .i64 x1.gd, .slice x1.A x1.n x1.c] rfl; (try simp only [World.size_drew, World.size_alloc] at hA); (try replace hG := hG.keep (only_alloc (only_refl _ d) (.cells #[.int .i64 x0.st, .int .i64 x0.gd, .slice x0.A x0.n x0.c, .int .i64 x1.st, .int .i64 x1.gd, .slice x1.A x1.n x1.c, .int .i64 x2.st, .int .i64 x2.gd, .slice x2.A x2.n x2.c, .int .i64 x1.st, .int .i64 x1.gd, .slice x1.A x1.n x1.c] 24))); replace hM := hM.alloc (.cells #[.int .i64 x0.st, .int .i64 x0.gd, .slice x0.A x0.n x0.c, .int .i64 x1.st, .int .i64 x1.gd, .slice x1.A x1.n x1.c, .int .i64 x2.st, .int .i64 x2.gd, .slice x2.A x2.n x2.c, .int .i64 x1.st, .int .i64 x1.gd, .slice x1.A x1.n x1.c] 24))
          (refine hK _ _ ⟨⟨fun _ _ => hM.cells, fun h => absurd h (by decide)⟩, ?_⟩; clear hK K)
          (refine wpAnyK_with (F := fun W => (W.cell? ⟨w.heap.size, 0, none⟩ = some (.int .i64 x0.st) ∧ W.cell? ⟨w.heap.size, 1, none⟩ = some (.int .i64 x0.gd) ∧ W.cell? ⟨w.heap.size, 2, none⟩ = some (.slice x0.A x0.n x0.c)) ∧ (W.cell? ⟨w2.heap.size, 0, none⟩ = some (.int .i64 x1.st) ∧ W.cell? ⟨w2.heap.size, 1, none⟩ = some (.int .i64 x1.gd) ∧ W.cell? ⟨w2.heap.size, 2, none⟩ = some (.slice x1.A x1.n x1.c)) ∧ (W.cell? ⟨w3.heap.size, 0, none⟩ = some (.int .i64 x2.st) ∧ W.cell? ⟨w3.heap.size, 1, none⟩ = some (.int .i64 x2.gd) ∧ W.cell? ⟨w3.heap.size, 2, none⟩ = some (.slice x2.A x2.n x2.c))) (hM.cells) (fun hF1 => ?_); clear hF0)
          try simp only [Act.put, List.setIfInBounds_toArray, List.set_cons_zero, List.set_cons_succ]
          refine wpAnyK_step (i := 9) rfl (by kernel_rfl) (by rfl) (fun K hK => ?_)
          go_simp
          (refine (cast_any d x1.gd _ hM.die (by omega)).mono ?_; rintro e w7 ⟨v1, _, rfl, hd7, hg7⟩; (try replace hA := hA.keep hg7); replace hM := hM.step hg7 hd7; clear hg7 hd7)
          (refine hK _ _ (⟨fun _ _ => hM.cells, fun h => absurd h (by decide)⟩) ?_; clear hK K)
          (refine wpAnyK_with (F := fun W => (W.cell? ⟨w.heap.size, 0, none⟩ = some (.int .i64 x0.st) ∧ W.cell? ⟨w.heap.size, 1, none⟩ = some (.int .i64 x0.gd) ∧ W.cell? ⟨w.heap.size, 2, none⟩ = some (.slice x0.A x0.n x0.c)) ∧ (W.cell? ⟨w2.heap.size, 0, none⟩ = some (.int .i64 x1.st) ∧ W.cell? ⟨w2.heap.size, 1, none⟩ = some (.int .i64 x1.gd) ∧ W.cell? ⟨w2.heap.size, 2, none⟩ = some (.slice x1.A x1.n x1.c)) ∧ (W.cell? ⟨w3.heap.size, 0, none⟩ = some (.int .i64 x2.st) ∧ W.cell? ⟨w3.heap.size, 1, none⟩ = some (.int .i64 x2.gd) ∧ W.cell? ⟨w3.heap.size, 2, none⟩ = some (.slice x2.A x2.n x2.c))) (hM.cells) (fun hF2 => ?_); clear hF1)
          try simp only [Act.put, List.setIfInBounds_toArray, List.set_cons_zero, List.set_cons_succ]
          refine wpAnyK_step (i := 13) rfl (by kernel_rfl) (by rfl) (fun K hK => ?_)
          go_simp
          (refine (cast_any d x1.gd _ hM.die (by omega)).mono ?_; rintro e w8 ⟨v2, _, rfl, hd8, hg8⟩; (try replace hA := hA.keep hg8); replace hM := hM.step hg8 hd8; clear hg8 hd8)
          (refine hK _ _ (⟨fun _ _ => hM.cells, fun h => absurd h (by decide)⟩) ?_; clear hK K)
          (refine wpAnyK_with (F := fun W => (W.cell? ⟨w.heap.size, 0, none⟩ = some (.int .i64 x0.st) ∧ W.cell? ⟨w.heap.size, 1, none⟩ = some (.int .i64 x0.gd) ∧ W.cell? ⟨w.heap.size, 2, none⟩ = some (.slice x0.A x0.n x0.c)) ∧ (W.cell? ⟨w2.heap.size, 0, none⟩ = some (.int .i64 x1.st) ∧ W.cell? ⟨w2.heap.size, 1, none⟩ = some (.int .i64 x1.gd) ∧ W.cell? ⟨w2.heap.size, 2, none⟩ = some (.slice x1.A x1.n x1.c)) ∧ (W.cell? ⟨w3.heap.size, 0, none⟩ = some (.int .i64 x2.st) ∧ W.cell? ⟨w3.heap.size, 1, none⟩ = some (.int .i64 x2.gd) ∧ W.cell? ⟨w3.heap.size, 2, none⟩ = some (.slice x2.A x2.n x2.c))) (hM.cells) (fun hF3 => ?_); clear hF2)
          try simp only [Act.put, List.setIfInBounds_toArray, List.set_cons_zero, List.set_cons_succ]
          (refine wpAnyK_takeL Keep2.refl (i := 16) (v := ?_) rfl (by kernel_rfl) (by kernel_rfl) (by kernel_rfl) (fun _ _ _ h => h) (by rfl) ?_ ?_; rotate_left 1; focus (intro w; go_simp; try with_reducible rfl))
          try simp only [Act.put, List.setIfInBounds_toArray, List.set_cons_zero, List.set_cons_succ]
          refine wpAnyK_step (i := 15) rfl (by kernel_rfl) (by rfl) (fun K hK => ?_)
          go_simp
          (have hG := Arr.new encI_len hM.die.lt [good, v1, v2, good] 3 #[.int .i64 good, .int .i64 v1, .int .i64 v2, .int .i64 good] rfl; (try simp only [World.size_drew, World.size_alloc] at hG); (try replace hA := hA.keep (only_alloc (only_refl _ d) (.cells #[.int .i64 good, .int .i64 v1, .int .i64 v2, .int .i64 good] 3))); replace hM := hM.alloc (.cells #[.int .i64 good, .int .i64 v1, .int .i64 v2, .int .i64 good] 3))
          (refine hK _ _ (⟨fun _ _ => hM.cells, fun h => absurd h (by decide)⟩) ?_; clear hK K)
          (refine wpAnyK_with (F := fun W => (W.cell? ⟨w.heap.size, 0, none⟩ = some (.int .i64 x0.st) ∧ W.cell? ⟨w.heap.size, 1, none⟩ = some (.int .i64 x0.gd) ∧ W.cell? ⟨w.heap.size, 2, none⟩ = some (.slice x0.A x0.n x0.c)) ∧ (W.cell? ⟨w2.heap.size, 0, none⟩ = some (.int .i64 x1.st) ∧ W.cell? ⟨w2.heap.size, 1, none⟩ = some (.int .i64 x1.gd) ∧ W.cell? ⟨w2.heap.size, 2, none⟩ = some (.slice x1.A x1.n x1.c)) ∧ (W.cell? ⟨w3.heap.size, 0, none⟩ = some (.int .i64 x2.st) ∧ W.cell? ⟨w3.heap.size, 1, none⟩ = some (.int .i64 x2.gd) ∧ W.cell? ⟨w3.heap.size, 2, none⟩ = some (.slice x2.A x2.n x2.c))) (hM.cells) (fun hF4 => ?_); clear hF3)
          try simp only [Act.put, List.setIfInBounds_toArray, List.set_cons_zero, List.set_cons_succ]
          (refine wpAnyK_takeL Keep2.refl (i := 17) (v := ?_) rfl (by kernel_rfl) (by kernel_rfl) (by kernel_rfl) (fun _ _ _ h => h) (by rfl) ?_ ?_; rotate_left 1; focus (intro w; go_simp; try with_reducible rfl))
          try simp only [Act.put, List.setIfInBounds_toArray, List.set_cons_zero, List.set_cons_succ]
          refine wpAnyK_done (by kernel_rfl) ?_ _
          go_wp2_with fail
          go_meet
          exact ⟨_, _, _, _, rfl, rfl, hA, hG, hM⟩
        · refine wpOp_of rfl (by rfl) (fun K hK => ?_)
          go_simp
          (refine (cast_any d x1.gd _ hM.die (by omega)).mono ?_; rintro e w7 ⟨v1, _, rfl, hd7, hg7⟩; (try replace hA := hA.keep hg7); replace hM := hM.step hg7 hd7; clear hg7 hd7)
          (refine hK _ _ ⟨⟨fun _ _ => hM.cells, fun h => absurd h (by decide)⟩, ?_⟩; clear hK K)
          (refine wpAnyK_with (F := fun W => (W.cell? ⟨w.heap.size, 0, none⟩ = some (.int .i64 x0.st) ∧ W.cell? ⟨w.heap.size, 1, none⟩ = some (.int .i64 x0.gd) ∧ W.cell? ⟨w.heap.size, 2, none⟩ = some (.slice x0.A x0.n x0.c)) ∧ (W.cell? ⟨w2.heap.size, 0, none⟩ = some (.int .i64 x1.st) ∧ W.cell? ⟨w2.heap.size, 1, none⟩ = some (.int .i64 x1.gd) ∧ W.cell? ⟨w2.heap.size, 2, none⟩ = some (.slice x1.A x1.n x1.c)) ∧ (W.cell? ⟨w3.heap.size, 0, none⟩ = some (.int .i64 x2.st) ∧ W.cell? ⟨w3.heap.size, 1, none⟩ = some (.int .i64 x2.gd) ∧ W.cell? ⟨w3.heap.size, 2, none⟩ = some (.slice x2.A x2.n x2.c))) (hM.cells) (fun hF5 => ?_); clear hF0)
          try simp only [Act.put, List.setIfInBounds_toArray, List.set_cons_zero, List.set_cons_succ]
          refine wpAnyK_all (rs := [4, 13]) (by kernel_rfl) (by simp) ?_
          refine List.forall_mem_cons.2 ⟨?_, List.forall_mem_cons.2 ⟨?_, fun _ h => absurd h List.not_mem_nil⟩⟩
          · refine wpOp_of rfl (by rfl) (fun K hK => ?_)
            go_simp
            (have hA := Arr.new encB_len hM.die.lt [x0, x1, x2, x1] 24 #[.int .i64 x0.st, .int .i64 x0.gd, .slice x0.A x0.n x0.c, .int .i64 x1.st, .int .i64 x1.gd, .slice x1.A x1.n x1.c, .int .i64 x2.st, .int .i64 x2.gd, .slice x2.A x2.n x2.c, .int .i64 x1.st, .int .i64 x1.gd, .slice x1.A x1.n x1.c] rfl; (try simp only [World.size_drew, World.size_alloc] at hA); (try replace hG := hG.keep (only_alloc (only_refl _ d) (.cells #[.int .i64 x0.st, .int .i64 x0.gd, .slice x0.A x0.n x0.c, .int .i64 x1.st, .int .i64 x1.gd, .slice x1.A x1.n x1.c, .int .i64 x2.st, .int .i64 x2.gd, .slice x2.A x2.n x2.c, .int .i64 x1.st, .int .i64 x1.gd, .slice x1.A x1.n x1.c] 24))); replace hM := hM.alloc (.cells #[.int .i64 x0.st, .int .i64 x0.gd, .slice x0.A x0.n x0.c, .int .i64 x1.st, .int .i64 x1.gd, .slice x1.A x1.n x1.c, .int .i64 x2.st, .int .i64 x2.gd, .slice x2.A x2.n x2.c, .int .i64 x1.st, .int .i64 x1.gd, .slice x1.A x1.n x1.c] 24))
            (refine hK _ _ ⟨⟨fun _ _ => hM.cells, fun h => absurd h (by decide)⟩, ?_⟩; clear hK K)
            (refine wpAnyK_with (F := fun W => (W.cell? ⟨w.heap.size, 0, none⟩ = some (.int .i64 x0.st) ∧ W.cell? ⟨w.heap.size, 1, none⟩ = some (.int .i64 x0.gd) ∧ W.cell? ⟨w.heap.size, 2, none⟩ = some (.slice x0.A x0.n x0.c)) ∧ (W.cell? ⟨w2.heap.size, 0, none⟩ = some (.int .i64 x1.st) ∧ W.cell? ⟨w2.heap.size, 1, none⟩ = some (.int .i64 x1.gd) ∧ W.cell? ⟨w2.heap.size, 2, none⟩ = some (.slice x1.A x1.n x1.c)) ∧ (W.cell? ⟨w3.heap.size, 0, none⟩ = some (.int .i64 x2.st) ∧ W.cell? ⟨w3.heap.size, 1, none⟩ = some (.int .i64 x2.gd) ∧ W.cell? ⟨w3.heap.size, 2, none⟩ = some (.slice x2.A x2.n x2.c))) (hM.cells) (fun hF6 => ?_); clear hF5)
            try simp only [Act.put, List.setIfInBounds_toArray, List.set_cons_zero, List.set_cons_succ]
            refine wpAnyK_step (i := 13) rfl (by kernel_rfl) (by rfl) (fun K hK => ?_)
            go_simp
            (refine (cast_any d x1.gd _ hM.die (by omega)).mono ?_; rintro e w8 ⟨v2, _, rfl, hd8, hg8⟩; (try replace hA := hA.keep hg8); replace hM := hM.step hg8 hd8; clear hg8 hd8)
            (refine hK _ _ (⟨fun _ _ => hM.cells, fun h => absurd h (by decide)⟩) ?_; clear hK K)
            (refine wpAnyK_with (F := fun W => (W.cell? ⟨w.heap.size, 0, none⟩ = some (.int .i64 x0.st) ∧ W.cell? ⟨w.heap.size, 1, none⟩ = some (.int .i64 x0.gd) ∧ W.cell? ⟨w.heap.size, 2, none⟩ = some (.slice x0.A x0.n x0.c)) ∧ (W.cell? ⟨w2.heap.size, 0, none⟩ = some (.int .i64 x1.st) ∧ W.cell? ⟨w2.heap.size, 1, none⟩ = some (.int .i64 x1.gd) ∧ W.cell? ⟨w2.heap.size, 2, none⟩ = some (.slice x1.A x1.n x1.c)) ∧ (W.cell? ⟨w3.heap.size, 0, none⟩ = some (.int .i64 x2.st) ∧ W.cell? ⟨w3.heap.size, 1, none⟩ = some (.int .i64 x2.gd) ∧ W.cell? ⟨w3.heap.size, 2, none⟩ = some (.slice x2.A x2.n x2.c))) (hM.cells) (fun hF7 => ?_); clear hF6)
            try simp only [Act.put, List.setIfInBounds_toArray, List.set_cons_zero, List.set_cons_succ]
            (refine wpAnyK_takeL Keep2.refl (i := 16) (v := ?_) rfl (by kernel_rfl) (by kernel_rfl) (by kernel_rfl) (fun _ _ _ h => h) (by rfl) ?_ ?_; rotate_left 1; focus (intro w; go_simp; try with_reducible rfl))
            try simp only [Act.put, List.setIfInBounds_toArray, List.set_cons_zero, List.set_cons_succ]
            refine wpAnyK_step (i := 15) rfl (by kernel_rfl) (by rfl) (fun K hK => ?_)
            go_simp
            (have hG := Arr.new encI_len hM.die.lt [good, v1, v2, good] 3 #[.int .i64 good, .int .i64 v1, .int .i64 v2, .int .i64 good] rfl; (try simp only [World.size_drew, World.size_alloc] at hG); (try replace hA := hA.keep (only_alloc (only_refl _ d) (.cells #[.int .i64 good, .int .i64 v1, .int .i64 v2, .int .i64 good] 3))); replace hM := hM.alloc (.cells #[.int .i64 good, .int .i64 v1, .int .i64 v2, .int .i64 good] 3))
            (refine hK _ _ (⟨fun _ _ => hM.cells, fun h => absurd h (by decide)⟩) ?_; clear hK K)
            (refine wpAnyK_with (F := fun W => (W.cell? ⟨w.heap.size, 0, none⟩ = some (.int .i64 x0.st) ∧ W.cell? ⟨w.heap.size, 1, none⟩ = some (.int .i64 x0.gd) ∧ W.cell? ⟨w.heap.size, 2, none⟩ = some (.slice x0.A x0.n x0.c)) ∧ (W.cell? ⟨w2.heap.size, 0, none⟩ = some (.int .i64 x1.st) ∧ W.cell? ⟨w2.heap.size, 1, none⟩ = some (.int .i64 x1.gd) ∧ W.cell? ⟨w2.heap.size, 2, none⟩ = some (.slice x1.A x1.n x1.c)) ∧ (W.cell? ⟨w3.heap.size, 0, none⟩ = some (.int .i64 x2.st) ∧ W.cell? ⟨w3.heap.size, 1, none⟩ = some (.int .i64 x2.gd) ∧ W.cell? ⟨w3.heap.size, 2, none⟩ = some (.slice x2.A x2.n x2.c))) (hM.cells) (fun hF8 => ?_); clear hF7)
            try simp only [Act.put, List.setIfInBounds_toArray, List.set_cons_zero, List.set_cons_succ]
            (refine wpAnyK_takeL Keep2.refl (i := 17) (v := ?_) rfl (by kernel_rfl) (by kernel_rfl) (by kernel_rfl) (fun _ _ _ h => h) (by rfl) ?_ ?_; rotate_left 1; focus (intro w; go_simp; try with_reducible rfl))
            try simp only [Act.put, List.setIfInBounds_toArray, List.set_cons_zero, List.set_cons_succ]
            refine wpAnyK_done (by kernel_rfl) ?_ _
            go_wp2_with fail
            go_meet
            exact ⟨_, _, _, _, rfl, rfl, hA, hG, hM⟩
          · refine wpOp_of rfl (by rfl) (fun K hK => ?_)
            go_simp
            (refine (cast_any d x1.gd _ hM.die (by omega)).mono ?_; rintro e w8 ⟨v2, _, rfl, hd8, hg8⟩; (try replace hA := hA.keep hg8); replace hM := hM.step hg8 hd8; clear hg8 hd8)
            (refine hK _ _ ⟨⟨fun _ _ => hM.cells, fun h => absurd h (by decide)⟩, ?_⟩; clear hK K)
            (refine wpAnyK_with (F := fun W => (W.cell? ⟨w.heap.size, 0, none⟩ = some (.int .i64 x0.st) ∧ W.cell? ⟨w.heap.size, 1, none⟩ = some (.int .i64 x0.gd) ∧ W.cell? ⟨w.heap.size, 2, none⟩ = some (.slice x0.A x0.n x0.c)) ∧ (W.cell? ⟨w2.heap.size, 0, none⟩ = some (.int .i64 x1.st) ∧ W.cell? ⟨w2.heap.size, 1, none⟩ = some (.int .i64 x1.gd) ∧ W.cell? ⟨w2.heap.size, 2, none⟩ = some (.slice x1.A x1.n x1.c)) ∧ (W.cell? ⟨w3.heap.size, 0, none⟩ = some (.int .i64 x2.st) ∧ W.cell? ⟨w3.heap.size, 1, none⟩ = some (.int .i64 x2.gd) ∧ W.cell? ⟨w3.heap.size, 2, none⟩ = some (.slice x2.A x2.n x2.c))) (hM.cells) (fun hF9 => ?_); clear hF5)
            try simp only [Act.put, List.setIfInBounds_toArray, List.set_cons_zero, List.set_cons_succ]
            refine wpAnyK_all (rs := [4, 15]) (by kernel_rfl) (by simp) ?_
            refine List.forall_mem_cons.2 ⟨?_, List.forall_mem_cons.2 ⟨?_, fun _ h => absurd h List.not_mem_nil⟩⟩
            · refine wpOp_of rfl (by rfl) (fun K hK => ?_)
              go_simp
              (have hA := Arr.new encB_len hM.die.lt [x0, x1, x2, x1] 24 #[.int .i64 x0.st, .int .i64 x0.gd, .slice x0.A x0.n x0.c, .int .i64 x1.st, .int .i64 x1.gd, .slice x1.A x1.n x1.c, .int .i64 x2.st, .int .i64 x2.gd, .slice x2.A x2.n x2.c, .int .i64 x1.st, .int .i64 x1.gd, .slice x1.A x1.n x1.c] rfl; (try simp only [World.size_drew, World.size_alloc] at hA); (try replace hG := hG.keep (only_alloc (only_refl _ d) (.cells #[.int .i64 x0.st, .int .i64 x0.gd, .slice x0.A x0.n x0.c, .int .i64 x1.st, .int .i64 x1.gd, .slice x1.A x1.n x1.c, .int .i64 x2.st, .int .i64 x2.gd, .slice x2.A x2.n x2.c, .int .i64 x1.st, .int .i64 x1.gd, .slice x1.A x1.n x1.c] 24))); replace hM := hM.alloc (.cells #[.int .i64 x0.st, .int .i64 x0.gd, .slice x0.A x0.n x0.c, .int .i64 x1.st, .int .i64 x1.gd, .slice x1.A x1.n x1.c, .int .i64 x2.st, .int .i64 x2.gd, .slice x2.A x2.n x2.c, .int .i64 x1.st, .int .i64 x1.gd, .slice x1.A x1.n x1.c] 24))
              (refine hK _ _ ⟨⟨fun _ _ => hM.cells, fun h => absurd h (by decide)⟩, ?_⟩; clear hK K)
              (refine wpAnyK_with (F := fun W => (W.cell? ⟨w.heap.size, 0, none⟩ = some (.int .i64 x0.st) ∧ W.cell? ⟨w.heap.size, 1, none⟩ = some (.int .i64 x0.gd) ∧ W.cell? ⟨w.heap.size, 2, none⟩ = some (.slice x0.A x0.n x0.c)) ∧ (W.cell? ⟨w2.heap.size, 0, none⟩ = some (.int .i64 x1.st) ∧ W.cell? ⟨w2.heap.size, 1, none⟩ = some (.int .i64 x1.gd) ∧ W.cell? ⟨w2.heap.size, 2, none⟩ = some (.slice x1.A x1.n x1.c)) ∧ (W.cell? ⟨w3.heap.size, 0, none⟩ = some (.int .i64 x2.st) ∧ W.cell? ⟨w3.heap.size, 1, none⟩ = some (.int .i64 x2.gd) ∧ W.cell? ⟨w3.heap.size, 2, none⟩ = some (.slice x2.A x2.n x2.c))) (hM.cells) (fun hF10 => ?_); clear hF9)
              try simp only [Act.put, List.setIfInBounds_toArray, List.set_cons_zero, List.set_cons_succ]
              (refine wpAnyK_takeL Keep2.refl (i := 16) (v := ?_) rfl (by kernel_rfl) (by kernel_rfl) (by kernel_rfl) (fun _ _ _ h => h) (by rfl) ?_ ?_; rotate_left 1; focus (intro w; go_simp; try with_reducible rfl))
              try simp only [Act.put, List.setIfInBounds_toArray, List.set_cons_zero, List.set_cons_succ]
              refine wpAnyK_step (i := 15) rfl (by kernel_rfl) (by rfl) (fun K hK => ?_)
              go_simp
              (have hG := Arr.new encI_len hM.die.lt [good, v1, v2, good] 3 #[.int .i64 good, .int .i64 v1, .int .i64 v2, .int .i64 good] rfl; (try simp only [World.size_drew, World.size_alloc] at hG); (try replace hA := hA.keep (only_alloc (only_refl _ d) (.cells #[.int .i64 good, .int .i64 v1, .int .i64 v2, .int .i64 good] 3))); replace hM := hM.alloc (.cells #[.int .i64 good, .int .i64 v1, .int .i64 v2, .int .i64 good] 3))
              (refine hK _ _ (⟨fun _ _ => hM.cells, fun h => absurd h (by decide)⟩) ?_; clear hK K)
              (refine wpAnyK_with (F := fun W => (W.cell? ⟨w.heap.size, 0, none⟩ = some (.int .i64 x0.st) ∧ W.cell? ⟨w.heap.size, 1, none⟩ = some (.int .i64 x0.gd) ∧ W.cell? ⟨w.heap.size, 2, none⟩ = some (.slice x0.A x0.n x0.c)) ∧ (W.cell? ⟨w2.heap.size, 0, none⟩ = some (.int .i64 x1.st) ∧ W.cell? ⟨w2.heap.size, 1, none⟩ = some (.int .i64 x1.gd) ∧ W.cell? ⟨w2.heap.size, 2, none⟩ = some (.slice x1.A x1.n x1.c)) ∧ (W.cell? ⟨w3.heap.size, 0, none⟩ = some (.int .i64 x2.st) ∧ W.cell? ⟨w3.heap.size, 1, none⟩ = some (.int .i64 x2.gd) ∧ W.cell? ⟨w3.heap.size, 2, none⟩ = some (.slice x2.A x2.n x2.c))) (hM.cells) (fun hF11 => ?_); clear hF10)
              try simp only [Act.put, List.setIfInBounds_toArray, List.set_cons_zero, List.set_cons_succ]
              (refine wpAnyK_takeL Keep2.refl (i := 17) (v := ?_) rfl (by kernel_rfl) (by kernel_rfl) (by kernel_rfl) (fun _ _ _ h => h) (by rfl) ?_ ?_; rotate_left 1; focus (intro w; go_simp; try with_reducible rfl))
              try simp only [Act.put, List.setIfInBounds_toArray, List.set_cons_zero, List.set_cons_succ]
              refine wpAnyK_done (by kernel_rfl) ?_ _
              go_wp2_with fail
              go_meet
              exact ⟨_, _, _, _, rfl, rfl, hA, hG, hM⟩
            · refine wpOp_of rfl (by rfl) (fun K hK => ?_)
              go_simp
              (have hG := Arr.new encI_len hM.die.lt [good, v1, v2, good] 3 #[.int .i64 good, .int .i64 v1, .int .i64 v2, .int .i64 good] rfl; (try simp only [World.size_drew, World.size_alloc] at hG); (try replace hA := hA.keep (only_alloc (only_refl _ d) (.cells #[.int .i64 good, .int .i64 v1, .int .i64 v2, .int .i64 good] 3))); replace hM := hM.alloc (.cells #[.int .i64 good, .int .i64 v1, .int .i64 v2, .int .i64 good] 3))
              (refine hK _ _ ⟨⟨fun _ _ => hM.cells, fun h => absurd h (by decide)⟩, ?_⟩; clear hK K)
              (refine wpAnyK_with (F := fun W => (W.cell? ⟨w.heap.size, 0, none⟩ = some (.int .i64 x0.st) ∧ W.cell? ⟨w.heap.size, 1, none⟩ = some (.int .i64 x0.gd) ∧ W.cell? ⟨w.heap.size, 2, none⟩ = some (.slice x0.A x0.n x0.c)) ∧ (W.cell? ⟨w2.heap.size, 0, none⟩ = some (.int .i64 x1.st) ∧ W.cell? ⟨w2.heap.size, 1, none⟩ = some (.int .i64 x1.gd) ∧ W.cell? ⟨w2.heap.size, 2, none⟩ = some (.slice x1.A x1.n x1.c)) ∧ (W.cell? ⟨w3.heap.size, 0, none⟩ = some (.int .i64 x2.st) ∧ W.cell? ⟨w3.heap.size, 1, none⟩ = some (.int .i64 x2.gd) ∧ W.cell? ⟨w3.heap.size, 2, none⟩ = some (.slice x2.A x2.n x2.c))) (hM.cells) (fun hF12 => ?_); clear hF9)
              try simp only [Act.put, List.setIfInBounds_toArray, List.set_cons_zero, List.set_cons_succ]
              refine wpAnyK_step (i := 4) rfl (by kernel_rfl) (by rfl) (fun K hK => ?_)
              go_simp
              (have hA := Arr.new encB_len hM.die.lt [x0, x1, x2, x1] 24 #[.int .i64 x0.st, .int .i64 x0.gd, .slice x0.A x0.n x0.c, .int .i64 x1.st, .int .i64 x1.gd, .slice x1.A x1.n x1.c, .int .i64 x2.st, .int .i64 x2.gd, .slice x2.A x2.n x2.c, .int .i64 x1.st, .int .i64 x1.gd, .slice x1.A x1.n x1.c] rfl; (try simp only [World.size_drew, World.size_alloc] at hA); (try replace hG := hG.keep (only_alloc (only_refl _ d) (.cells #[.int .i64 x0.st, .int .i64 x0.gd, .slice x0.A x0.n x0.c, .int .i64 x1.st, .int .i64 x1.gd, .slice x1.A x1.n x1.c, .int .i64 x2.st, .int .i64 x2.gd, .slice x2.A x2.n x2.c, .int .i64 x1.st, .int .i64 x1.gd, .slice x1.A x1.n x1.c] 24))); replace hM := hM.alloc (.cells #[.int .i64 x0.st, .int .i64 x0.gd, .slice x0.A x0.n x0.c, .int .i64 x1.st, .int .i64 x1.gd, .slice x1.A x1.n x1.c, .int .i64 x2.st, .int .i64 x2.gd, .slice x2.A x2.n x2.c, .int .i64 x1.st, .int .i64 x1.gd, .slice x1.A x1.n x1.c] 24))
              (refine hK _ _ (⟨fun _ _ => hM.cells, fun h => absurd h (by decide)⟩) ?_; clear hK K)
              (refine wpAnyK_with (F := fun W => (W.cell? ⟨w.heap.size, 0, none⟩ = some (.int .i64 x0.st) ∧ W.cell? ⟨w.heap.size, 1, none⟩ = some (.int .i64 x0.gd) ∧ W.cell? ⟨w.heap.size, 2, none⟩ = some (.slice x0.A x0.n x0.c)) ∧ (W.cell? ⟨w2.heap.size, 0, none⟩ = some (.int .i64 x1.st) ∧ W.cell? ⟨w2.heap.size, 1, none⟩ = some (.int .i64 x1.gd) ∧ W.cell? ⟨w2.heap.size, 2, none⟩ = some (.slice x1.A x1.n x1.c)) ∧ (W.cell? ⟨w3.heap.size, 0, none⟩ = some (.int .i64 x2.st) ∧ W.cell? ⟨w3.heap.size, 1, none⟩ = some (.int .i64 x2.gd) ∧ W.cell? ⟨w3.heap.size, 2, none⟩ = some (.slice x2.A x2.n x2.c))) (hM.cells) (fun hF13 => ?_); clear hF12)
              try simp only [Act.put, List.setIfInBounds_toArray, List.set_cons_zero, List.set_cons_succ]
              (refine wpAnyK_takeL Keep2.refl (i := 16) (v := ?_) rfl (by kernel_rfl) (by kernel_rfl) (by kernel_rfl) (fun _ _ _ h => h) (by rfl) ?_ ?_; rotate_left 1; focus (intro w; go_simp; try with_reducible rfl))
              try simp only [Act.put, List.setIfInBounds_toArray, List.set_cons_zero, List.set_cons_succ]
              (refine wpAnyK_takeL Keep2.refl (i := 17) (v := ?_) rfl (by kernel_rfl) (by kernel_rfl) (by kernel_rfl) (fun _ _ _ h => h) (by rfl) ?_ ?_; rotate_left 1; focus (intro w; go_simp; try with_reducible rfl))
              try simp only [Act.put, List.setIfInBounds_toArray, List.set_cons_zero, List.set_cons_succ]
              refine wpAnyK_done (by kernel_rfl) ?_ _
              go_wp2_with fail
              go_meet
              exact ⟨_, _, _, _, rfl, rfl, hA, hG, hM⟩
      case rest =>
        obtain ⟨g1, g2, v1, v2, rfl, rfl, hA, hG, hM2⟩ := hcut
        have hbs : ∀ k (h : k < [x0, x1, x2, x1].length), Away d wc [x0, x1, x2, x1][k] := by
          intro k h
          match k, h with
          | 0, _ => exact hM2.a0
          | 1, _ => exact hM2.a1
          | 2, _ => exact hM2.a2
          | 3, _ => exact hM2.a1
        have hbl : [x0, x1, x2, x1].length = 4 := rfl
        have hgl : [good, v1, v2, good].length = 4 := rfl
        generalize [x0, x1, x2, x1] = bs at hA hbs hbl
        generalize [good, v1, v2, good] = gs at hG hgl
        have HBS := Lib.hid hbs
        have HBL := Lib.hid hbl
        have HGL := Lib.hid hgl
        have HA := Lib.hid hA
        have HG := Lib.hid hG
        have HLow := Lib.hid hM2.low
        clear hbs hbl hgl hA hG hM2 HM
        go_wp2_with fail
        go_loopw [16] (fun i wr => ∃ k : Nat, k ≤ 4 ∧ i = .int .i64 k ∧ Below wc.heap.size wc wr) (fun i _ => 4 - (intOf i).toNat)
        case atStart => exact ⟨0, by omega, rfl, Below.refl _ _⟩
        case round =>
          obtain ⟨k, hk, rfl, hB⟩ := hrel
          have HB := Lib.hid hB
          have hzr := hB.size
          clear hB
          by_cases hlt : k < 4
          · have hkb : k < bs.length := by rw [HBL.out]; omega
            have hkg : k < gs.length := by rw [HGL.out]; omega
            have HCB := Lib.hid (fun (W : World) (hW : Below wc.heap.size wc W) => (show (W.cell? ⟨g1, k * 3, none⟩ = some (.int .i64 bs[k].st) ∧ W.cell? ⟨g1, k * 3 + 1, none⟩ = some (.int .i64 bs[k].gd) ∧ W.cell? ⟨g1, k * 3 + 2, none⟩ = some (.slice bs[k].A bs[k].n bs[k].c)) ∧ W.cell? ⟨g2, k, none⟩ = some (.int .i64 gs[k]) from
              ⟨⟨((HA.out.below hW (by omega)).atB hkb).1, ((HA.out.below hW (by omega)).atB hkb).2.1, ((HA.out.below hW (by omega)).atB hkb).2.2.1⟩, ((HG.out.below hW (by omega)).atI hkg).1⟩))
            have hx := HBS.out k hkb
            generalize bs[k] = x at HCB hx
            generalize gs[k] = y at HCB
            have HX := Lib.hid (hx.sl.old HB.out)
            have hxn := hx.le
            have i0 : (0 : Int) ≤ (k : Int) := by omega
            have i1 : (k : Int) < 4 := by omega
            obtain ⟨⟨c0, c1', c2'⟩, cg⟩ := HCB.out _ HB.out
            clear hx hkb hkg
            go_wp2_with fail
            refine (copyBook_any x.st x.gd x.b x.n x.c x.A x.l _ HX.out (by omega)).mono ?_
            rintro e w4 ⟨A', c', rfl, hown, hB4⟩
            obtain ⟨b', hb', hS'⟩ := Sl.of_own encS_len HX.out.len hown
            have hz4 := hB4.size
            have SV := Lib.hid (hS'.alloc (.cells #[.int .i64 x.st, .int .i64 x.gd, .slice A' x.n c'] 24))
            have XV := Lib.hid ((HX.out.old hB4).alloc (.cells #[.int .i64 x.st, .int .i64 x.gd, .slice A' x.n c'] 24))
            have KV := Lib.hid (Blk.new w4 24 #[.int .i64 x.st, .int .i64 x.gd, .slice A' x.n c'])
            have LV := Lib.hid (HB.out.trans ((hB4.alloc hz4 (.cells #[.int .i64 x.st, .int .i64 x.gd, .slice A' x.n c'] 24)).mono hzr))
            clear hown hB4 hS' hb' c0 c1' c2' cg
            go_upto_region 13 with fail
            generalize hV0 : w4.alloc (.cells #[.int .i64 x.st, .int .i64 x.gd, .slice A' x.n c'] 24) = V at SV XV KV LV ⊢
            clear hV0
            have HFC := Lib.hid (fun (W : World) (hW : Below V.heap.size V W) => (show (W.cell? ⟨w4.heap.size, 0, none⟩ = some (.int .i64 x.st) ∧ W.cell? ⟨w4.heap.size, 1, none⟩ = some (.int .i64 x.gd) ∧ W.cell? ⟨w4.heap.size, 2, none⟩ = some (.slice A' x.n c')) ∧ (W.cell? ⟨g1, k * 3, none⟩ = some (.int .i64 x.st) ∧ W.cell? ⟨g1, k * 3 + 1, none⟩ = some (.int .i64 x.gd) ∧ W.cell? ⟨g1, k * 3 + 2, none⟩ = some (.slice x.A x.n x.c)) ∧ W.cell? ⟨g2, k, none⟩ = some (.int .i64 y) from
              ⟨⟨(KV.out.below hW KV.out.lt).cell 0, (KV.out.below hW KV.out.lt).cell 1, (KV.out.below hW KV.out.lt).cell 2⟩, (HCB.out _ (LV.out.trans (hW.mono LV.out.size))).1, (HCB.out _ (LV.out.trans (hW.mono LV.out.size))).2⟩))
            obtain ⟨q, hq⟩ : ∃ q, q = priceOut x.st x.gd y x.l := ⟨_, rfl⟩
            obtain ⟨er, her⟩ : ∃ er, er = priceErr x.st x.gd y x.l := ⟨_, rfl⟩
            have HQ := Lib.hid hq
            have HER := Lib.hid her
            clear hq her
            go_cut [18, 19, 20] from 75 to 85 (fun u p v wx => ∃ B : Nat, u = .int .i64 q.1 ∧ p = .pointer (some ⟨B, 0, none⟩) ∧ v = .int .i64 er ∧ Alc V wx B q.2.1 q.2.2 ∧ Below V.heap.size V wx)
            case first =>
              have hV : Below V.heap.size V V.drew := (Below.refl _ V).drew
              refine wp_region_K2 [0, 4] [] (fun W => (W.cell? ⟨w4.heap.size, 0, none⟩ = some (.int .i64 x.st) ∧ W.cell? ⟨w4.heap.size, 1, none⟩ = some (.int .i64 x.gd) ∧ W.cell? ⟨w4.heap.size, 2, none⟩ = some (.slice A' x.n c')) ∧ (W.cell? ⟨g1, k * 3, none⟩ = some (.int .i64 x.st) ∧ W.cell? ⟨g1, k * 3 + 1, none⟩ = some (.int .i64 x.gd) ∧ W.cell? ⟨g1, k * 3 + 2, none⟩ = some (.slice x.A x.n x.c)) ∧ W.cell? ⟨g2, k, none⟩ = some (.int .i64 y)) (fun _ => True) rfl (by kernel_rfl) (HFC.out _ hV) (trivial) (fun hF0 hG0 => ?_)
              (refine wpAnyK_loadL Keep2.refl (i := 0) (v := ?_) rfl (Keep2.left (i := 0) (by rfl)) (by kernel_rfl) (by kernel_rfl) (by kernel_rfl) (fun _ _ _ h => h) hF0 (by rfl) ?_ ?_; rotate_left 1; focus (intro w hFw; (try dsimp only at hFw); go_split_ands; go_simp; try with_reducible rfl))
              try simp only [Act.put, List.setIfInBounds_toArray, List.set_cons_zero, List.set_cons_succ]
              (refine wpAnyK_takeL Keep2.refl (i := 1) (v := ?_) rfl (by kernel_rfl) (by kernel_rfl) (by kernel_rfl) (fun _ _ _ h => h) (by rfl) ?_ ?_; rotate_left 1; focus (intro w; go_simp; try with_reducible rfl))
              try simp only [Act.put, List.setIfInBounds_toArray, List.set_cons_zero, List.set_cons_succ]
              (refine wpAnyK_takeL Keep2.refl (i := 2) (v := ?_) rfl (by kernel_rfl) (by kernel_rfl) (by kernel_rfl) (fun _ _ _ h => h) (by rfl) ?_ ?_; rotate_left 1; focus (intro w; go_simp; try with_reducible rfl))
              try simp only [Act.put, List.setIfInBounds_toArray, List.set_cons_zero, List.set_cons_succ]
              (refine wpAnyK_takeL Keep2.refl (i := 3) (v := ?_) rfl (by kernel_rfl) (by kernel_rfl) (by kernel_rfl) (fun _ _ _ h => h) (by rfl) ?_ ?_; rotate_left 1; focus (intro w; go_simp; try with_reducible rfl))
              try simp only [Act.put, List.setIfInBounds_toArray, List.set_cons_zero, List.set_cons_succ]
              (refine wpAnyK_loadL Keep2.refl (i := 4) (v := ?_) rfl (Keep2.left (i := 4) (by rfl)) (by kernel_rfl) (by kernel_rfl) (by kernel_rfl) (fun _ _ _ h => h) hF0 (by rfl) ?_ ?_; rotate_left 1; focus (intro w hFw; (try dsimp only at hFw); go_split_ands; go_simp; try with_reducible rfl))
              try simp only [Act.put, List.setIfInBounds_toArray, List.set_cons_zero, List.set_cons_succ]
              refine wpAnyK_all (rs := [5, 10]) (by kernel_rfl) (by simp) ?_
              refine List.forall_mem_cons.2 ⟨?_, List.forall_mem_cons.2 ⟨?_, fun _ h => absurd h List.not_mem_nil⟩⟩
              · refine wpOp_of rfl (by rfl) (fun K hK => ?_)
                go_simp
                (refine (price_any x.st x.gd y b' x.n c' A' x.l _ (SV.out.old hV) (by omega)).mono ?_; rw [← HQ.out, ← HER.out]; rintro e w8 ⟨rfl, hB8⟩; (try replace hA := hA.step hB8); replace hV := hV.trans (hB8.mono hV.size))
                (refine hK _ _ ⟨Keep2.no (by kernel_rfl) (by kernel_rfl), ?_⟩; clear hK K)
                try simp only [Act.put, List.setIfInBounds_toArray, List.set_cons_zero, List.set_cons_succ]
                (refine wpAnyK_takeL Keep2.refl (i := 6) (v := ?_) rfl (by kernel_rfl) (by kernel_rfl) (by kernel_rfl) (fun _ _ _ h => h) (by rfl) ?_ ?_; rotate_left 1; focus (intro w; go_simp; try with_reducible rfl))
                try simp only [Act.put, List.setIfInBounds_toArray, List.set_cons_zero, List.set_cons_succ]
                (refine wpAnyK_takeL Keep2.refl (i := 7) (v := ?_) rfl (by kernel_rfl) (by kernel_rfl) (by kernel_rfl) (fun _ _ _ h => h) (by rfl) ?_ ?_; rotate_left 1; focus (intro w; go_simp; try with_reducible rfl))
                try simp only [Act.put, List.setIfInBounds_toArray, List.set_cons_zero, List.set_cons_succ]
                (refine wpAnyK_takeL Keep2.refl (i := 8) (v := ?_) rfl (by kernel_rfl) (by kernel_rfl) (by kernel_rfl) (fun _ _ _ h => h) (by rfl) ?_ ?_; rotate_left 1; focus (intro w; go_simp; try with_reducible rfl))
                try simp only [Act.put, List.setIfInBounds_toArray, List.set_cons_zero, List.set_cons_succ]
                (refine wpAnyK_takeL Keep2.refl (i := 9) (v := ?_) rfl (by kernel_rfl) (by kernel_rfl) (by kernel_rfl) (fun _ _ _ h => h) (by rfl) ?_ ?_; rotate_left 1; focus (intro w; go_simp; try with_reducible rfl))
                try simp only [Act.put, List.setIfInBounds_toArray, List.set_cons_zero, List.set_cons_succ]
                refine wpAnyK_step (i := 10) rfl (by kernel_rfl) (by rfl) (fun K hK => ?_)
                go_simp
                (have hA := Alc.new hV; (try simp only [World.size_drew] at hA); have hV0 := hV; replace hV := hV.alloc hV.size (.cells #[.int .i64 0, .int .i64 0] 26))
                (refine hK _ _ (⟨fun _ _ => HFC.out _ hV, fun h => absurd h (by decide)⟩) ?_; clear hK K)
                (refine wpAnyK_with (F := fun W => (W.cell? ⟨w4.heap.size, 0, none⟩ = some (.int .i64 x.st) ∧ W.cell? ⟨w4.heap.size, 1, none⟩ = some (.int .i64 x.gd) ∧ W.cell? ⟨w4.heap.size, 2, none⟩ = some (.slice A' x.n c')) ∧ (W.cell? ⟨g1, k * 3, none⟩ = some (.int .i64 x.st) ∧ W.cell? ⟨g1, k * 3 + 1, none⟩ = some (.int .i64 x.gd) ∧ W.cell? ⟨g1, k * 3 + 2, none⟩ = some (.slice x.A x.n x.c)) ∧ W.cell? ⟨g2, k, none⟩ = some (.int .i64 y)) (HFC.out _ hV) (fun hF2 => ?_); clear hF0)
                try simp only [Act.put, List.setIfInBounds_toArray, List.set_cons_zero, List.set_cons_succ]
                (refine wpAnyK_takeL Keep2.refl (i := 11) (v := ?_) rfl (by kernel_rfl) (by kernel_rfl) (by kernel_rfl) (fun _ _ _ h => h) (by rfl) ?_ ?_; rotate_left 1; focus (intro w; go_simp; try with_reducible rfl))
                try simp only [Act.put, List.setIfInBounds_toArray, List.set_cons_zero, List.set_cons_succ]
                refine wpAnyK_step (i := 12) rfl (by kernel_rfl) (by rfl) (fun K hK => ?_)
                go_simp
                (have f0 := hA.1.frozen 0; have f1 := hA.1.frozen 1; have c0 := hA.1.cell 0; have c1 := hA.1.cell 1; go_simp)
                (refine hK _ _ (Keep2.no (by kernel_rfl) (by kernel_rfl)) ?_; clear hK K)
                try simp only [Act.put, List.setIfInBounds_toArray, List.set_cons_zero, List.set_cons_succ]
                (refine wpAnyK_takeL Keep2.refl (i := 13) (v := ?_) rfl (by kernel_rfl) (by kernel_rfl) (by kernel_rfl) (fun _ _ _ h => h) (by rfl) ?_ ?_; rotate_left 1; focus (intro w; go_simp; try with_reducible rfl))
                try simp only [Act.put, List.setIfInBounds_toArray, List.set_cons_zero, List.set_cons_succ]
                refine wpAnyK_done (by kernel_rfl) ?_ _
                go_wp2_with fail
                go_meet
                first | exact ⟨_, rfl, rfl, rfl, (Alc.last hV0 _ _).1, (Alc.last hV0 _ _).2⟩ | exact ⟨_, rfl, rfl, rfl, (hA.store hV _ _).1, (hA.store hV _ _).2⟩
              · refine wpOp_of rfl (by rfl) (fun K hK => ?_)
                go_simp
                (have hA := Alc.new hV; (try simp only [World.size_drew] at hA); have hV0 := hV; replace hV := hV.alloc hV.size (.cells #[.int .i64 0, .int .i64 0] 26))
                (refine hK _ _ ⟨⟨fun _ _ => HFC.out _ hV, fun h => absurd h (by decide)⟩, ?_⟩; clear hK K)
                (refine wpAnyK_with (F := fun W => (W.cell? ⟨w4.heap.size, 0, none⟩ = some (.int .i64 x.st) ∧ W.cell? ⟨w4.heap.size, 1, none⟩ = some (.int .i64 x.gd) ∧ W.cell? ⟨w4.heap.size, 2, none⟩ = some (.slice A' x.n c')) ∧ (W.cell? ⟨g1, k * 3, none⟩ = some (.int .i64 x.st) ∧ W.cell? ⟨g1, k * 3 + 1, none⟩ = some (.int .i64 x.gd) ∧ W.cell? ⟨g1, k * 3 + 2, none⟩ = some (.slice x.A x.n x.c)) ∧ W.cell? ⟨g2, k, none⟩ = some (.int .i64 y)) (HFC.out _ hV) (fun hF4 => ?_); clear hF0)
                try simp only [Act.put, List.setIfInBounds_toArray, List.set_cons_zero, List.set_cons_succ]
                refine wpAnyK_step (i := 5) rfl (by kernel_rfl) (by rfl) (fun K hK => ?_)
                go_simp
                (refine (price_any x.st x.gd y b' x.n c' A' x.l _ (SV.out.old hV) (by omega)).mono ?_; rw [← HQ.out, ← HER.out]; rintro e w8 ⟨rfl, hB8⟩; (try replace hA := hA.step hB8); replace hV := hV.trans (hB8.mono hV.size))
                (refine hK _ _ (Keep2.no (by kernel_rfl) (by kernel_rfl)) ?_; clear hK K)
                try simp only [Act.put, List.setIfInBounds_toArray, List.set_cons_zero, List.set_cons_succ]
                (refine wpAnyK_takeL Keep2.refl (i := 6) (v := ?_) rfl (by kernel_rfl) (by kernel_rfl) (by kernel_rfl) (fun _ _ _ h => h) (by rfl) ?_ ?_; rotate_left 1; focus (intro w; go_simp; try with_reducible rfl))
                try simp only [Act.put, List.setIfInBounds_toArray, List.set_cons_zero, List.set_cons_succ]
                (refine wpAnyK_takeL Keep2.refl (i := 7) (v := ?_) rfl (by kernel_rfl) (by kernel_rfl) (by kernel_rfl) (fun _ _ _ h => h) (by rfl) ?_ ?_; rotate_left 1; focus (intro w; go_simp; try with_reducible rfl))
                try simp only [Act.put, List.setIfInBounds_toArray, List.set_cons_zero, List.set_cons_succ]
                (refine wpAnyK_takeL Keep2.refl (i := 8) (v := ?_) rfl (by kernel_rfl) (by kernel_rfl) (by kernel_rfl) (fun _ _ _ h => h) (by rfl) ?_ ?_; rotate_left 1; focus (intro w; go_simp; try with_reducible rfl))
                try simp only [Act.put, List.setIfInBounds_toArray, List.set_cons_zero, List.set_cons_succ]
                (refine wpAnyK_takeL Keep2.refl (i := 9) (v := ?_) rfl (by kernel_rfl) (by kernel_rfl) (by kernel_rfl) (fun _ _ _ h => h) (by rfl) ?_ ?_; rotate_left 1; focus (intro w; go_simp; try with_reducible rfl))
                try simp only [Act.put, List.setIfInBounds_toArray, List.set_cons_zero, List.set_cons_succ]
                (refine wpAnyK_takeL Keep2.refl (i := 11) (v := ?_) rfl (by kernel_rfl) (by kernel_rfl) (by kernel_rfl) (fun _ _ _ h => h) (by rfl) ?_ ?_; rotate_left 1; focus (intro w; go_simp; try with_reducible rfl))
                try simp only [Act.put, List.setIfInBounds_toArray, List.set_cons_zero, List.set_cons_succ]
                refine wpAnyK_step (i := 12) rfl (by kernel_rfl) (by rfl) (fun K hK => ?_)
                go_simp
                (have f0 := hA.1.frozen 0; have f1 := hA.1.frozen 1; have c0 := hA.1.cell 0; have c1 := hA.1.cell 1; go_simp)
                (refine hK _ _ (Keep2.no (by kernel_rfl) (by kernel_rfl)) ?_; clear hK K)
                try simp only [Act.put, List.setIfInBounds_toArray, List.set_cons_zero, List.set_cons_succ]
                (refine wpAnyK_takeL Keep2.refl (i := 13) (v := ?_) rfl (by kernel_rfl) (by kernel_rfl) (by kernel_rfl) (fun _ _ _ h => h) (by rfl) ?_ ?_; rotate_left 1; focus (intro w; go_simp; try with_reducible rfl))
                try simp only [Act.put, List.setIfInBounds_toArray, List.set_cons_zero, List.set_cons_succ]
                refine wpAnyK_done (by kernel_rfl) ?_ _
                go_wp2_with fail
                go_meet
                first | exact ⟨_, rfl, rfl, rfl, (Alc.last hV0 _ _).1, (Alc.last hV0 _ _).2⟩ | exact ⟨_, rfl, rfl, rfl, (hA.store hV _ _).1, (hA.store hV _ _).2⟩
            case rest =>
              obtain ⟨B1, rfl, rfl, rfl, hA1, hV1⟩ := hcut
              have HA1 := Lib.hid hA1
              have HV1 := Lib.hid hV1
              clear hA1 hV1
              go_upto_region 14 with fail
              have hzw : V.heap.size ≤ wc.heap.size := HV1.out.size
              obtain ⟨V1, rfl⟩ : ∃ V1 : World, V1 = wc := ⟨_, rfl⟩
              go_cut [21, 22, 23] from 85 to 98 (fun u p v wx => ∃ B : Nat, u = .int .i64 q.1 ∧ p = .pointer (some ⟨B, 0, none⟩) ∧ v = .int .i64 er ∧ Alc V1 wx B q.2.1 q.2.2 ∧ Below V1.heap.size V1 wx)
              case first =>
                have hV : Below V1.heap.size V1 V1.drew := (Below.refl _ V1).drew
                refine wp_region_K2 [3, 7] [] (fun W => (W.cell? ⟨w4.heap.size, 0, none⟩ = some (.int .i64 x.st) ∧ W.cell? ⟨w4.heap.size, 1, none⟩ = some (.int .i64 x.gd) ∧ W.cell? ⟨w4.heap.size, 2, none⟩ = some (.slice A' x.n c')) ∧ (W.cell? ⟨g1, k * 3, none⟩ = some (.int .i64 x.st) ∧ W.cell? ⟨g1, k * 3 + 1, none⟩ = some (.int .i64 x.gd) ∧ W.cell? ⟨g1, k * 3 + 2, none⟩ = some (.slice x.A x.n x.c)) ∧ W.cell? ⟨g2, k, none⟩ = some (.int .i64 y)) (fun _ => True) rfl (by kernel_rfl) (HFC.out _ (HV1.out.trans (hV.mono hzw))) (trivial) (fun hF0 hG0 => ?_)
                (refine wpAnyK_takeL Keep2.refl (i := 0) (v := ?_) rfl (by kernel_rfl) (by kernel_rfl) (by kernel_rfl) (fun _ _ _ h => h) (by rfl) ?_ ?_; rotate_left 1; focus (intro w; go_simp; try with_reducible rfl))
                try simp only [Act.put, List.setIfInBounds_toArray, List.set_cons_zero, List.set_cons_succ]
                (refine wpAnyK_takeL Keep2.refl (i := 1) (v := ?_) rfl (by kernel_rfl) (by kernel_rfl) (by kernel_rfl) (fun _ _ _ h => h) (by rfl) ?_ ?_; rotate_left 1; focus (intro w; go_simp; try with_reducible rfl))
                try simp only [Act.put, List.setIfInBounds_toArray, List.set_cons_zero, List.set_cons_succ]
                (refine wpAnyK_takeL Keep2.refl (i := 2) (v := ?_) rfl (by kernel_rfl) (by kernel_rfl) (by kernel_rfl) (fun _ _ _ h => h) (by rfl) ?_ ?_; rotate_left 1; focus (intro w; go_simp; try with_reducible rfl))
                try simp only [Act.put, List.setIfInBounds_toArray, List.set_cons_zero, List.set_cons_succ]
                (refine wpAnyK_loadL Keep2.refl (i := 3) (v := ?_) rfl (Keep2.left (i := 3) (by rfl)) (by kernel_rfl) (by kernel_rfl) (by kernel_rfl) (fun _ _ _ h => h) hF0 (by rfl) ?_ ?_; rotate_left 1; focus (intro w hFw; (try dsimp only at hFw); go_split_ands; go_simp; try with_reducible rfl))
                try simp only [Act.put, List.setIfInBounds_toArray, List.set_cons_zero, List.set_cons_succ]
                (refine wpAnyK_takeL Keep2.refl (i := 4) (v := ?_) rfl (by kernel_rfl) (by kernel_rfl) (by kernel_rfl) (fun _ _ _ h => h) (by rfl) ?_ ?_; rotate_left 1; focus (intro w; go_simp; try with_reducible rfl))
                try simp only [Act.put, List.setIfInBounds_toArray, List.set_cons_zero, List.set_cons_succ]
                (refine wpAnyK_takeL Keep2.refl (i := 5) (v := ?_) rfl (by kernel_rfl) (by kernel_rfl) (by kernel_rfl) (fun _ _ _ h => h) (by rfl) ?_ ?_; rotate_left 1; focus (intro w; go_simp; try with_reducible rfl))
                try simp only [Act.put, List.setIfInBounds_toArray, List.set_cons_zero, List.set_cons_succ]
                (refine wpAnyK_takeL Keep2.refl (i := 6) (v := ?_) rfl (by kernel_rfl) (by kernel_rfl) (by kernel_rfl) (fun _ _ _ h => h) (by rfl) ?_ ?_; rotate_left 1; focus (intro w; go_simp; try with_reducible rfl))
                try simp only [Act.put, List.setIfInBounds_toArray, List.set_cons_zero, List.set_cons_succ]
                (refine wpAnyK_loadL Keep2.refl (i := 7) (v := ?_) rfl (Keep2.left (i := 7) (by rfl)) (by kernel_rfl) (by kernel_rfl) (by kernel_rfl) (fun _ _ _ h => h) hF0 (by rfl) ?_ ?_; rotate_left 1; focus (intro w hFw; (try dsimp only at hFw); go_split_ands; go_simp; try with_reducible rfl))
                try simp only [Act.put, List.setIfInBounds_toArray, List.set_cons_zero, List.set_cons_succ]
                refine wpAnyK_all (rs := [8, 13]) (by kernel_rfl) (by simp) ?_
                refine List.forall_mem_cons.2 ⟨?_, List.forall_mem_cons.2 ⟨?_, fun _ h => absurd h List.not_mem_nil⟩⟩
                · refine wpOp_of rfl (by rfl) (fun K hK => ?_)
                  go_simp
                  (refine (rprice_any x.st x.gd y x.b x.n x.c x.A x.l _ ((XV.out.old HV1.out).old hV) (by omega)).mono ?_; rw [← HQ.out, ← HER.out]; rintro e w8 ⟨rfl, hB8⟩; (try replace hA := hA.step hB8); replace hV := hV.trans (hB8.mono hV.size))
                  (refine hK _ _ ⟨Keep2.no (by kernel_rfl) (by kernel_rfl), ?_⟩; clear hK K)
                  try simp only [Act.put, List.setIfInBounds_toArray, List.set_cons_zero, List.set_cons_succ]
                  (refine wpAnyK_takeL Keep2.refl (i := 9) (v := ?_) rfl (by kernel_rfl) (by kernel_rfl) (by kernel_rfl) (fun _ _ _ h => h) (by rfl) ?_ ?_; rotate_left 1; focus (intro w; go_simp; try with_reducible rfl))
                  try simp only [Act.put, List.setIfInBounds_toArray, List.set_cons_zero, List.set_cons_succ]
                  (refine wpAnyK_takeL Keep2.refl (i := 10) (v := ?_) rfl (by kernel_rfl) (by kernel_rfl) (by kernel_rfl) (fun _ _ _ h => h) (by rfl) ?_ ?_; rotate_left 1; focus (intro w; go_simp; try with_reducible rfl))
                  try simp only [Act.put, List.setIfInBounds_toArray, List.set_cons_zero, List.set_cons_succ]
                  (refine wpAnyK_takeL Keep2.refl (i := 11) (v := ?_) rfl (by kernel_rfl) (by kernel_rfl) (by kernel_rfl) (fun _ _ _ h => h) (by rfl) ?_ ?_; rotate_left 1; focus (intro w; go_simp; try with_reducible rfl))
                  try simp only [Act.put, List.setIfInBounds_toArray, List.set_cons_zero, List.set_cons_succ]
                  (refine wpAnyK_takeL Keep2.refl (i := 12) (v := ?_) rfl (by kernel_rfl) (by kernel_rfl) (by kernel_rfl) (fun _ _ _ h => h) (by rfl) ?_ ?_; rotate_left 1; focus (intro w; go_simp; try with_reducible rfl))
                  try simp only [Act.put, List.setIfInBounds_toArray, List.set_cons_zero, List.set_cons_succ]
                  refine wpAnyK_step (i := 13) rfl (by kernel_rfl) (by rfl) (fun K hK => ?_)
                  go_simp
                  (have hA := Alc.new hV; (try simp only [World.size_drew] at hA); have hV0 := hV; replace hV := hV.alloc hV.size (.cells #[.int .i64 0, .int .i64 0] 26))
                  (refine hK _ _ (⟨fun _ _ => HFC.out _ (HV1.out.trans (hV.mono hzw)), fun h => absurd h (by decide)⟩) ?_; clear hK K)
                  (refine wpAnyK_with (F := fun W => (W.cell? ⟨w4.heap.size, 0, none⟩ = some (.int .i64 x.st) ∧ W.cell? ⟨w4.heap.size, 1, none⟩ = some (.int .i64 x.gd) ∧ W.cell? ⟨w4.heap.size, 2, none⟩ = some (.slice A' x.n c')) ∧ (W.cell? ⟨g1, k * 3, none⟩ = some (.int .i64 x.st) ∧ W.cell? ⟨g1, k * 3 + 1, none⟩ = some (.int .i64 x.gd) ∧ W.cell? ⟨g1, k * 3 + 2, none⟩ = some (.slice x.A x.n x.c)) ∧ W.cell? ⟨g2, k, none⟩ = some (.int .i64 y)) (HFC.out _ (HV1.out.trans (hV.mono hzw))) (fun hF2 => ?_); clear hF0)
                  try simp only [Act.put, List.setIfInBounds_toArray, List.set_cons_zero, List.set_cons_succ]
                  (refine wpAnyK_takeL Keep2.refl (i := 14) (v := ?_) rfl (by kernel_rfl) (by kernel_rfl) (by kernel_rfl) (fun _ _ _ h => h) (by rfl) ?_ ?_; rotate_left 1; focus (intro w; go_simp; try with_reducible rfl))
                  try simp only [Act.put, List.setIfInBounds_toArray, List.set_cons_zero, List.set_cons_succ]
                  refine wpAnyK_step (i := 15) rfl (by kernel_rfl) (by rfl) (fun K hK => ?_)
                  go_simp
                  (have f0 := hA.1.frozen 0; have f1 := hA.1.frozen 1; have c0 := hA.1.cell 0; have c1 := hA.1.cell 1; go_simp)
                  (refine hK _ _ (Keep2.no (by kernel_rfl) (by kernel_rfl)) ?_; clear hK K)
                  try simp only [Act.put, List.setIfInBounds_toArray, List.set_cons_zero, List.set_cons_succ]
                  (refine wpAnyK_takeL Keep2.refl (i := 16) (v := ?_) rfl (by kernel_rfl) (by kernel_rfl) (by kernel_rfl) (fun _ _ _ h => h) (by rfl) ?_ ?_; rotate_left 1; focus (intro w; go_simp; try with_reducible rfl))
                  try simp only [Act.put, List.setIfInBounds_toArray, List.set_cons_zero, List.set_cons_succ]
                  refine wpAnyK_done (by kernel_rfl) ?_ _
                  go_wp2_with fail
                  go_meet
                  first | exact ⟨_, rfl, rfl, rfl, (Alc.last hV0 _ _).1, (Alc.last hV0 _ _).2⟩ | exact ⟨_, rfl, rfl, rfl, (hA.store hV _ _).1, (hA.store hV _ _).2⟩
                · refine wpOp_of rfl (by rfl) (fun K hK => ?_)
                  go_simp
                  (have hA := Alc.new hV; (try simp only [World.size_drew] at hA); have hV0 := hV; replace hV := hV.alloc hV.size (.cells #[.int .i64 0, .int .i64 0] 26))
                  (refine hK _ _ ⟨⟨fun _ _ => HFC.out _ (HV1.out.trans (hV.mono hzw)), fun h => absurd h (by decide)⟩, ?_⟩; clear hK K)
                  (refine wpAnyK_with (F := fun W => (W.cell? ⟨w4.heap.size, 0, none⟩ = some (.int .i64 x.st) ∧ W.cell? ⟨w4.heap.size, 1, none⟩ = some (.int .i64 x.gd) ∧ W.cell? ⟨w4.heap.size, 2, none⟩ = some (.slice A' x.n c')) ∧ (W.cell? ⟨g1, k * 3, none⟩ = some (.int .i64 x.st) ∧ W.cell? ⟨g1, k * 3 + 1, none⟩ = some (.int .i64 x.gd) ∧ W.cell? ⟨g1, k * 3 + 2, none⟩ = some (.slice x.A x.n x.c)) ∧ W.cell? ⟨g2, k, none⟩ = some (.int .i64 y)) (HFC.out _ (HV1.out.trans (hV.mono hzw))) (fun hF4 => ?_); clear hF0)
                  try simp only [Act.put, List.setIfInBounds_toArray, List.set_cons_zero, List.set_cons_succ]
                  refine wpAnyK_step (i := 8) rfl (by kernel_rfl) (by rfl) (fun K hK => ?_)
                  go_simp
                  (refine (rprice_any x.st x.gd y x.b x.n x.c x.A x.l _ ((XV.out.old HV1.out).old hV) (by omega)).mono ?_; rw [← HQ.out, ← HER.out]; rintro e w8 ⟨rfl, hB8⟩; (try replace hA := hA.step hB8); replace hV := hV.trans (hB8.mono hV.size))
                  (refine hK _ _ (Keep2.no (by kernel_rfl) (by kernel_rfl)) ?_; clear hK K)
                  try simp only [Act.put, List.setIfInBounds_toArray, List.set_cons_zero, List.set_cons_succ]
                  (refine wpAnyK_takeL Keep2.refl (i := 9) (v := ?_) rfl (by kernel_rfl) (by kernel_rfl) (by kernel_rfl) (fun _ _ _ h => h) (by rfl) ?_ ?_; rotate_left 1; focus (intro w; go_simp; try with_reducible rfl))
                  try simp only [Act.put, List.setIfInBounds_toArray, List.set_cons_zero, List.set_cons_succ]
                  (refine wpAnyK_takeL Keep2.refl (i := 10) (v := ?_) rfl (by kernel_rfl) (by kernel_rfl) (by kernel_rfl) (fun _ _ _ h => h) (by rfl) ?_ ?_; rotate_left 1; focus (intro w; go_simp; try with_reducible rfl))
                  try simp only [Act.put, List.setIfInBounds_toArray, List.set_cons_zero, List.set_cons_succ]
                  (refine wpAnyK_takeL Keep2.refl (i := 11) (v := ?_) rfl (by kernel_rfl) (by kernel_rfl) (by kernel_rfl) (fun _ _ _ h => h) (by rfl) ?_ ?_; rotate_left 1; focus (intro w; go_simp; try with_reducible rfl))
                  try simp only [Act.put, List.setIfInBounds_toArray, List.set_cons_zero, List.set_cons_succ]
                  (refine wpAnyK_takeL Keep2.refl (i := 12) (v := ?_) rfl (by kernel_rfl) (by kernel_rfl) (by kernel_rfl) (fun _ _ _ h => h) (by rfl) ?_ ?_; rotate_left 1; focus (intro w; go_simp; try with_reducible rfl))
                  try simp only [Act.put, List.setIfInBounds_toArray, List.set_cons_zero, List.set_cons_succ]
                  (refine wpAnyK_takeL Keep2.refl (i := 14) (v := ?_) rfl (by kernel_rfl) (by kernel_rfl) (by kernel_rfl) (fun _ _ _ h => h) (by rfl) ?_ ?_; rotate_left 1; focus (intro w; go_simp; try with_reducible rfl))
                  try simp only [Act.put, List.setIfInBounds_toArray, List.set_cons_zero, List.set_cons_succ]
                  refine wpAnyK_step (i := 15) rfl (by kernel_rfl) (by rfl) (fun K hK => ?_)
                  go_simp
                  (have f0 := hA.1.frozen 0; have f1 := hA.1.frozen 1; have c0 := hA.1.cell 0; have c1 := hA.1.cell 1; go_simp)
                  (refine hK _ _ (Keep2.no (by kernel_rfl) (by kernel_rfl)) ?_; clear hK K)
                  try simp only [Act.put, List.setIfInBounds_toArray, List.set_cons_zero, List.set_cons_succ]
                  (refine wpAnyK_takeL Keep2.refl (i := 16) (v := ?_) rfl (by kernel_rfl) (by kernel_rfl) (by kernel_rfl) (fun _ _ _ h => h) (by rfl) ?_ ?_; rotate_left 1; focus (intro w; go_simp; try with_reducible rfl))
                  try simp only [Act.put, List.setIfInBounds_toArray, List.set_cons_zero, List.set_cons_succ]
                  refine wpAnyK_done (by kernel_rfl) ?_ _
                  go_wp2_with fail
                  go_meet
                  first | exact ⟨_, rfl, rfl, rfl, (Alc.last hV0 _ _).1, (Alc.last hV0 _ _).2⟩ | exact ⟨_, rfl, rfl, rfl, (hA.store hV _ _).1, (hA.store hV _ _).2⟩
              case rest =>
                obtain ⟨B2, rfl, rfl, rfl, hA2, hV2⟩ := hcut
                have HA2 := Lib.hid hA2
                have HV2 := Lib.hid hV2
                have HV3 := Lib.hid (HV1.out.trans (hV2.mono hzw))
                clear hA2 hV2
                have HF := Lib.hid (fun (W : World) (hW : Below wc.heap.size wc W) => (show ((W.cell? ⟨w4.heap.size, 0, none⟩ = some (.int .i64 x.st) ∧ W.cell? ⟨w4.heap.size, 1, none⟩ = some (.int .i64 x.gd) ∧ W.cell? ⟨w4.heap.size, 2, none⟩ = some (.slice A' x.n c')) ∧ (W.cell? ⟨g1, k * 3, none⟩ = some (.int .i64 x.st) ∧ W.cell? ⟨g1, k * 3 + 1, none⟩ = some (.int .i64 x.gd) ∧ W.cell? ⟨g1, k * 3 + 2, none⟩ = some (.slice x.A x.n x.c)) ∧ W.cell? ⟨g2, k, none⟩ = some (.int .i64 y)) ∧ (W.cell? ⟨B1, 0, none⟩ = some (.int .i64 q.2.1) ∧ W.cell? ⟨B1, 1, none⟩ = some (.int .i64 q.2.2)) ∧ (W.cell? ⟨B2, 0, none⟩ = some (.int .i64 q.2.1) ∧ W.cell? ⟨B2, 1, none⟩ = some (.int .i64 q.2.2)) from
                  ⟨HFC.out _ (HV3.out.trans (hW.mono HV3.out.size)), ⟨((HA1.out.step HV2.out).step hW).1.cell 0, ((HA1.out.step HV2.out).step hW).1.cell 1⟩, ⟨(HA2.out.step hW).1.cell 0, (HA2.out.step hW).1.cell 1⟩⟩))
                obtain ⟨ck, hck⟩ : ∃ ck, ck = check x.st x.gd x.l := ⟨_, rfl⟩
                have HCK := Lib.hid hck
                clear hck
                go_wp2_with fail
                refine wp_region_PL [0, 5, 14, 15, 24, 28] (fun W => ((W.cell? ⟨w4.heap.size, 0, none⟩ = some (.int .i64 x.st) ∧ W.cell? ⟨w4.heap.size, 1, none⟩ = some (.int .i64 x.gd) ∧ W.cell? ⟨w4.heap.size, 2, none⟩ = some (.slice A' x.n c')) ∧ (W.cell? ⟨g1, k * 3, none⟩ = some (.int .i64 x.st) ∧ W.cell? ⟨g1, k * 3 + 1, none⟩ = some (.int .i64 x.gd) ∧ W.cell? ⟨g1, k * 3 + 2, none⟩ = some (.slice x.A x.n x.c)) ∧ W.cell? ⟨g2, k, none⟩ = some (.int .i64 y)) ∧ (W.cell? ⟨B1, 0, none⟩ = some (.int .i64 q.2.1) ∧ W.cell? ⟨B1, 1, none⟩ = some (.int .i64 q.2.2)) ∧ (W.cell? ⟨B2, 0, none⟩ = some (.int .i64 q.2.1) ∧ W.cell? ⟨B2, 1, none⟩ = some (.int .i64 q.2.2))) rfl (by kernel_rfl) (HF.out _ (Below.refl _ wc).drew) (fun hF0 => ?_)
                (refine wpAnyP_loadL (i := 0) (v := ?_) rfl (by kernel_rfl) (by kernel_rfl) (by kernel_rfl) (by rfl) (fun _ _ _ h => h) hF0 (by rfl) ?_ ?_; rotate_left 1; focus (intro w hFw; (try dsimp only at hFw); go_split_ands; go_simp; try with_reducible rfl))
                try simp only [Act.put, List.setIfInBounds_toArray, List.set_cons_zero, List.set_cons_succ]
                (refine wpAnyP_takeL (i := 2) (v := ?_) rfl (by kernel_rfl) (by kernel_rfl) (by kernel_rfl) (fun _ _ _ h => h) (by rfl) ?_ ?_; rotate_left 1; focus (intro w; go_simp; try with_reducible rfl))
                try simp only [Act.put, List.setIfInBounds_toArray, List.set_cons_zero, List.set_cons_succ]
                (refine wpAnyP_takeL (i := 3) (v := ?_) rfl (by kernel_rfl) (by kernel_rfl) (by kernel_rfl) (fun _ _ _ h => h) (by rfl) ?_ ?_; rotate_left 1; focus (intro w; go_simp; try with_reducible rfl))
                try simp only [Act.put, List.setIfInBounds_toArray, List.set_cons_zero, List.set_cons_succ]
                (refine wpAnyP_takeL (i := 4) (v := ?_) rfl (by kernel_rfl) (by kernel_rfl) (by kernel_rfl) (fun _ _ _ h => h) (by rfl) ?_ ?_; rotate_left 1; focus (intro w; go_simp; try with_reducible rfl))
                try simp only [Act.put, List.setIfInBounds_toArray, List.set_cons_zero, List.set_cons_succ]
                (refine wpAnyP_loadL (i := 5) (v := ?_) rfl (by kernel_rfl) (by kernel_rfl) (by kernel_rfl) (by rfl) (fun _ _ _ h => h) hF0 (by rfl) ?_ ?_; rotate_left 1; focus (intro w hFw; (try dsimp only at hFw); go_split_ands; go_simp; try with_reducible rfl))
                try simp only [Act.put, List.setIfInBounds_toArray, List.set_cons_zero, List.set_cons_succ]
                refine wpAnyP_step (i := 1) rfl (by kernel_rfl) (by rfl) (fun K hK => ?_)
                go_simp
                (refine (check_any x.st x.gd b' x.n c' A' x.l _ ((SV.out.old HV3.out).old (Below.refl _ wc).drew) (by omega)).mono ?_; rw [← HCK.out]; rintro e wd ⟨rfl, hBd⟩; have Hd := Lib.hid ((Below.refl wc.heap.size wc).drew.trans hBd); clear hBd)
                (refine hK _ _ (HF.out _ Hd.out) (fun hF1 => ?_); clear hK K hF0)
                try simp only [Act.put, List.setIfInBounds_toArray, List.set_cons_zero, List.set_cons_succ]
                refine wpAnyP_step (i := 6) rfl (by kernel_rfl) (by rfl) (fun K hK => ?_)
                go_simp
                (refine (rcheck_any x.st x.gd x.b x.n x.c x.A x.l _ ((XV.out.old HV3.out).old Hd.out) (by omega)).mono ?_; rw [← HCK.out]; rintro e we ⟨rfl, hBe⟩; have He := Lib.hid (Hd.out.trans (hBe.mono Hd.out.size)); clear hBe)
                (refine hK _ _ (HF.out _ He.out) (fun hF2 => ?_); clear hK K hF1)
                try simp only [Act.put, List.setIfInBounds_toArray, List.set_cons_zero, List.set_cons_succ]
                (refine wpAnyP_takeL (i := 7) (v := ?_) rfl (by kernel_rfl) (by kernel_rfl) (by kernel_rfl) (fun _ _ _ h => h) (by rfl) ?_ ?_; rotate_left 1; focus (intro w; go_simp; try with_reducible rfl))
                try simp only [Act.put, List.setIfInBounds_toArray, List.set_cons_zero, List.set_cons_succ]
                (refine wpAnyP_takeL (i := 8) (v := ?_) rfl (by kernel_rfl) (by kernel_rfl) (by kernel_rfl) (fun _ _ _ h => h) (by rfl) ?_ ?_; rotate_left 1; focus (intro w; go_simp; try with_reducible rfl))
                try simp only [Act.put, List.setIfInBounds_toArray, List.set_cons_zero, List.set_cons_succ]
                (refine wpAnyP_takeL (i := 9) (v := ?_) rfl (by kernel_rfl) (by kernel_rfl) (by kernel_rfl) (fun _ _ _ h => h) (by rfl) ?_ ?_; rotate_left 1; focus (intro w; go_simp; try with_reducible rfl))
                try simp only [Act.put, List.setIfInBounds_toArray, List.set_cons_zero, List.set_cons_succ]
                (refine wpAnyP_takeL (i := 10) (v := ?_) rfl (by kernel_rfl) (by kernel_rfl) (by kernel_rfl) (fun _ _ _ h => h) (by rfl) ?_ ?_; rotate_left 1; focus (intro w; go_simp; try with_reducible rfl))
                try simp only [Act.put, List.setIfInBounds_toArray, List.set_cons_zero, List.set_cons_succ]
                (refine wpAnyP_takeL (i := 11) (v := ?_) rfl (by kernel_rfl) (by kernel_rfl) (by kernel_rfl) (fun _ _ _ h => h) (by rfl) ?_ ?_; rotate_left 1; focus (intro w; go_simp; try with_reducible rfl))
                try simp only [Act.put, List.setIfInBounds_toArray, List.set_cons_zero, List.set_cons_succ]
                (refine wpAnyP_takeL (i := 12) (v := ?_) rfl (by kernel_rfl) (by kernel_rfl) (by kernel_rfl) (fun _ _ _ h => h) (by rfl) ?_ ?_; rotate_left 1; focus (intro w; go_simp; try with_reducible rfl))
                try simp only [Act.put, List.setIfInBounds_toArray, List.set_cons_zero, List.set_cons_succ]
                (refine wpAnyP_takeL (i := 13) (v := ?_) rfl (by kernel_rfl) (by kernel_rfl) (by kernel_rfl) (fun _ _ _ h => h) (by rfl) ?_ ?_; rotate_left 1; focus (intro w; go_simp; try with_reducible rfl))
                try simp only [Act.put, List.setIfInBounds_toArray, List.set_cons_zero, List.set_cons_succ]
                (refine wpAnyP_loadL (i := 14) (v := ?_) rfl (by kernel_rfl) (by kernel_rfl) (by kernel_rfl) (by rfl) (fun _ _ _ h => h) hF2 (by rfl) ?_ ?_; rotate_left 1; focus (intro w hFw; (try dsimp only at hFw); go_split_ands; go_simp; try with_reducible rfl))
                try simp only [Act.put, List.setIfInBounds_toArray, List.set_cons_zero, List.set_cons_succ]
                (refine wpAnyP_loadL (i := 15) (v := ?_) rfl (by kernel_rfl) (by kernel_rfl) (by kernel_rfl) (by rfl) (fun _ _ _ h => h) hF2 (by rfl) ?_ ?_; rotate_left 1; focus (intro w hFw; (try dsimp only at hFw); go_split_ands; go_simp; try with_reducible rfl))
                try simp only [Act.put, List.setIfInBounds_toArray, List.set_cons_zero, List.set_cons_succ]
                (refine wpAnyP_takeL (i := 16) (v := ?_) rfl (by kernel_rfl) (by kernel_rfl) (by kernel_rfl) (fun _ _ _ h => h) (by rfl) ?_ ?_; rotate_left 1; focus (intro w; go_simp; try with_reducible rfl))
                try simp only [Act.put, List.setIfInBounds_toArray, List.set_cons_zero, List.set_cons_succ]
                (refine wpAnyP_takeL (i := 17) (v := ?_) rfl (by kernel_rfl) (by kernel_rfl) (by kernel_rfl) (fun _ _ _ h => h) (by rfl) ?_ ?_; rotate_left 1; focus (intro w; go_simp; try with_reducible rfl))
                try simp only [Act.put, List.setIfInBounds_toArray, List.set_cons_zero, List.set_cons_succ]
                (refine wpAnyP_takeL (i := 18) (v := ?_) rfl (by kernel_rfl) (by kernel_rfl) (by kernel_rfl) (fun _ _ _ h => h) (by rfl) ?_ ?_; rotate_left 1; focus (intro w; go_simp; try with_reducible rfl))
                try simp only [Act.put, List.setIfInBounds_toArray, List.set_cons_zero, List.set_cons_succ]
                (refine wpAnyP_takeL (i := 19) (v := ?_) rfl (by kernel_rfl) (by kernel_rfl) (by kernel_rfl) (fun _ _ _ h => h) (by rfl) ?_ ?_; rotate_left 1; focus (intro w; go_simp; try with_reducible rfl))
                try simp only [Act.put, List.setIfInBounds_toArray, List.set_cons_zero, List.set_cons_succ]
                (refine wpAnyP_takeL (i := 20) (v := ?_) rfl (by kernel_rfl) (by kernel_rfl) (by kernel_rfl) (fun _ _ _ h => h) (by rfl) ?_ ?_; rotate_left 1; focus (intro w; go_simp; try with_reducible rfl))
                try simp only [Act.put, List.setIfInBounds_toArray, List.set_cons_zero, List.set_cons_succ]
                (refine wpAnyP_takeL (i := 21) (v := ?_) rfl (by kernel_rfl) (by kernel_rfl) (by kernel_rfl) (fun _ _ _ h => h) (by rfl) ?_ ?_; rotate_left 1; focus (intro w; go_simp; try with_reducible rfl))
                try simp only [Act.put, List.setIfInBounds_toArray, List.set_cons_zero, List.set_cons_succ]
                (refine wpAnyP_takeL (i := 22) (v := ?_) rfl (by kernel_rfl) (by kernel_rfl) (by kernel_rfl) (fun _ _ _ h => h) (by rfl) ?_ ?_; rotate_left 1; focus (intro w; go_simp; try with_reducible rfl))
                try simp only [Act.put, List.setIfInBounds_toArray, List.set_cons_zero, List.set_cons_succ]
                (refine wpAnyP_takeL (i := 23) (v := ?_) rfl (by kernel_rfl) (by kernel_rfl) (by kernel_rfl) (fun _ _ _ h => h) (by rfl) ?_ ?_; rotate_left 1; focus (intro w; go_simp; try with_reducible rfl))
                try simp only [Act.put, List.setIfInBounds_toArray, List.set_cons_zero, List.set_cons_succ]
                (refine wpAnyP_loadL (i := 24) (v := ?_) rfl (by kernel_rfl) (by kernel_rfl) (by kernel_rfl) (by rfl) (fun _ _ _ h => h) hF2 (by rfl) ?_ ?_; rotate_left 1; focus (intro w hFw; (try dsimp only at hFw); go_split_ands; go_simp; try with_reducible rfl))
                try simp only [Act.put, List.setIfInBounds_toArray, List.set_cons_zero, List.set_cons_succ]
                (refine wpAnyP_takeL (i := 25) (v := ?_) rfl (by kernel_rfl) (by kernel_rfl) (by kernel_rfl) (fun _ _ _ h => h) (by rfl) ?_ ?_; rotate_left 1; focus (intro w; go_simp; try with_reducible rfl))
                try simp only [Act.put, List.setIfInBounds_toArray, List.set_cons_zero, List.set_cons_succ]
                (refine wpAnyP_takeL (i := 26) (v := ?_) rfl (by kernel_rfl) (by kernel_rfl) (by kernel_rfl) (fun _ _ _ h => h) (by rfl) ?_ ?_; rotate_left 1; focus (intro w; go_simp; try with_reducible rfl))
                try simp only [Act.put, List.setIfInBounds_toArray, List.set_cons_zero, List.set_cons_succ]
                (refine wpAnyP_takeL (i := 27) (v := ?_) rfl (by kernel_rfl) (by kernel_rfl) (by kernel_rfl) (fun _ _ _ h => h) (by rfl) ?_ ?_; rotate_left 1; focus (intro w; go_simp; try with_reducible rfl))
                try simp only [Act.put, List.setIfInBounds_toArray, List.set_cons_zero, List.set_cons_succ]
                (refine wpAnyP_loadL (i := 28) (v := ?_) rfl (by kernel_rfl) (by kernel_rfl) (by kernel_rfl) (by rfl) (fun _ _ _ h => h) hF2 (by rfl) ?_ ?_; rotate_left 1; focus (intro w hFw; (try dsimp only at hFw); go_split_ands; go_simp; try with_reducible rfl))
                try simp only [Act.put, List.setIfInBounds_toArray, List.set_cons_zero, List.set_cons_succ]
                refine wpAnyP_step (i := 29) rfl (by kernel_rfl) (by rfl) (fun K hK => ?_)
                go_simp
                (refine (sameBooks_any x.st x.gd x.st x.gd b' x.b x.n x.n c' x.c A' x.A x.l x.l _ ((SV.out.old HV3.out).old He.out) ((XV.out.old HV3.out).old He.out) (by omega)).mono ?_; rw [same_true]; rintro e wf ⟨rfl, hBf⟩; have Hf := Lib.hid (He.out.trans (hBf.mono He.out.size)); clear hBf)
                (refine hK _ _ (HF.out _ Hf.out) (fun hF3 => ?_); clear hK K hF2)
                try simp only [Act.put, List.setIfInBounds_toArray, List.set_cons_zero, List.set_cons_succ]
                (refine wpAnyP_takeL (i := 30) (v := ?_) rfl (by kernel_rfl) (by kernel_rfl) (by kernel_rfl) (fun _ _ _ h => h) (by rfl) ?_ ?_; rotate_left 1; focus (intro w; go_simp; try with_reducible rfl))
                try simp only [Act.put, List.setIfInBounds_toArray, List.set_cons_zero, List.set_cons_succ]
                (refine wpAnyP_takeL (i := 31) (v := ?_) rfl (by kernel_rfl) (by kernel_rfl) (by kernel_rfl) (fun _ _ _ h => h) (by rfl) ?_ ?_; rotate_left 1; focus (intro w; go_simp; try with_reducible rfl))
                try simp only [Act.put, List.setIfInBounds_toArray, List.set_cons_zero, List.set_cons_succ]
                refine wpAnyP_done (by kernel_rfl) ?_ _
                go_wp2_with fail
                go_roundw
                case rel => exact ⟨k + 1, by omega, by go_num, (LV.out.trans (HV3.out.mono LV.out.size)).trans (Hf.out.mono (by have := LV.out.size; have := HV3.out.size; omega))⟩
                case measure => simp [intOf]; omega
          · have HK := Lib.hid (show 4 ≤ k by omega)
            go_wp2_with fail
            refine (awake_any _).mono ?_
            rintro e w9 ⟨rfl, hB9⟩
            have L9 := Lib.hid (Below.step hB9 (Below.step HB.out HLow.out (Nat.le_refl _)) (Nat.le_refl _))
            clear hB9
            go_wp2_with fail
            go_ret
            exact ⟨rfl, L9.out⟩
end Go.Proofs.Ytkcdknjgjidnnaa
