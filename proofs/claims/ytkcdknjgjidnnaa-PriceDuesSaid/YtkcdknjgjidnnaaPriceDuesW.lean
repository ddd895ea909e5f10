/-
  The walk of the law PriceDues.
-/
import Derived.Test.YtkcdknjgjidnnaaNums
import Derived.Test.YtkcdknjgjidnnaaAwake
import Derived.Test.YtkcdknjgjidnnaaRTnv
import Derived.Test.YtkcdknjgjidnnaaOpenBook
import Derived.Test.YtkcdknjgjidnnaaSmall
import Derived.Test.YtkcdknjgjidnnaaSealLaw
import Derived.Test.YtkcdknjgjidnnaaBooks
import Derived.Test.YtkcdknjgjidnnaaBook
import Derived.Test.YtkcdknjgjidnnaaStepsOf
import Derived.Deep.QuietTactic
import Derived.Deep.CutRange
import Derived.BigQuiet
set_option linter.unusedVariables false
set_option linter.unusedSimpArgs false
namespace Go.Proofs.Ytkcdknjgjidnnaa
open Go.RowKit

/-- how things stand ahead of the loop -/
structure DK8 (w : World) (d p0 p1 : Nat) (x0 x1 : BookD) (y0 y1 y2 : SlD Step) (W : World) : Prop where
  low : Below w.heap.size w W
  die : IsDie W d
  k0 : Blk W p0 24 #[.int .i64 x0.st, .int .i64 x0.gd, .slice x0.A x0.n x0.c]
  k1 : Blk W p1 24 #[.int .i64 x1.st, .int .i64 x1.gd, .slice x1.A x1.n x1.c]
  a0 : Away d W x0
  a1 : Away d W x1
  b0 : AwayL encP 2 15 d W y0
  b1 : AwayL encP 2 15 d W y1
  b2 : AwayL encP 2 15 d W y2
  n0 : p0 ≠ d
  n1 : p1 ≠ d
  hd : w.heap.size ≤ d
section
variable {w : World} {d p0 p1 : Nat} {x0 x1 : BookD} {y0 y1 y2 : SlD Step} {W W' : World}
theorem DK8.step (h : DK8 w d p0 p1 x0 x1 y0 y1 y2 W) (hg : W.grownBy W' (some d)) (hd' : IsDie W' d) : DK8 w d p0 p1 x0 x1 y0 y1 y2 W' :=
  ⟨Below.stepG hg h.low (Nat.le_refl _) h.hd, hd', h.k0.grown hg (fun e => h.n0 (by injection e)), h.k1.grown hg (fun e => h.n1 (by injection e)), h.a0.keep hg, h.a1.keep hg, h.b0.keep hg, h.b1.keep hg, h.b2.keep hg, h.n0, h.n1, h.hd⟩
theorem DK8.alloc (h : DK8 w d p0 p1 x0 x1 y0 y1 y2 W) (o : Obj) : DK8 w d p0 p1 x0 x1 y0 y1 y2 (W.alloc o) := h.step (only_alloc (only_refl W d) o) (h.die.alloc o)
theorem DK8.drew (h : DK8 w d p0 p1 x0 x1 y0 y1 y2 W) : DK8 w d p0 p1 x0 x1 y0 y1 y2 W.drew := h.step (only_drew (only_refl W d)) h.die
theorem DK8.cells (h : DK8 w d p0 p1 x0 x1 y0 y1 y2 W) :
    (W.cell? ⟨p0, 0, none⟩ = some (.int .i64 x0.st) ∧ W.cell? ⟨p0, 1, none⟩ = some (.int .i64 x0.gd) ∧ W.cell? ⟨p0, 2, none⟩ = some (.slice x0.A x0.n x0.c)) ∧
    (W.cell? ⟨p1, 0, none⟩ = some (.int .i64 x1.st) ∧ W.cell? ⟨p1, 1, none⟩ = some (.int .i64 x1.gd) ∧ W.cell? ⟨p1, 2, none⟩ = some (.slice x1.A x1.n x1.c)) :=
  ⟨⟨h.k0.cell 0, h.k0.cell 1, h.k0.cell 2⟩, ⟨h.k1.cell 0, h.k1.cell 1, h.k1.cell 2⟩⟩
end

theorem duesOut_le (st gd : Int) (l : List Sale) (steps : List Step) : (duesOut st gd l steps).length ≤ 1000000000000 := by
  unfold duesOut
  split
  · rename_i h
    rw [duesAll_len]
    unfold duesErr at h
    by_cases hc : check st gd l = 0
    · have := (check_zero.1 hc).st1
      omega
    · rw [if_pos hc] at h
      exact absurd h hc
  · simp

set_option maxRecDepth 100000 in
set_option maxHeartbeats 4000000 in
theorem priceDues_any (st gd : Int) (b n c : Nat) (A : Option Addr) (l : List Sale) (stall : Int) (b5 n5 c5 : Nat) (A5 : Option Addr) (l5 : List Step) (s : Step) (at_ : Int) (A9 : Option Addr) (n9 c9 : Nat) (w : World)
    (hl : Sl encS 6 w b A n l) (hn : n ≤ 9223372036854775807) (hstall : (Lit.int .i64 stall).wf = true) (hl5 : Sl encP 2 w b5 A5 n5 l5) (hn5 : n5 ≤ 9223372036854775807) (hat : (Lit.int .i64 at_).wf = true) (hN : Nums w A9 n9) :
    Calls Try.prog 5 #[.agg #[.int .i64 st, .int .i64 gd, .slice A n c], .int .i64 stall, .slice A5 n5 c5, .agg (encP s).toArray, .int .i64 at_, .slice A9 n9 c9] w fun e w' => e = .returned (.bool true) ∧ Below w.heap.size w w' := by
  show Calls Try.prog 5 #[.agg #[.int .i64 st, .int .i64 gd, .slice A n c], .int .i64 stall, .slice A5 n5 c5, .agg #[.int .i64 s.fr, .int .i64 s.sh], .int .i64 at_, .slice A9 n9 c9] w _
  obtain ⟨b9, l9, hl9, hw9, hn9⟩ := hN
  have HW9 := Lib.hid hw9
  have bat := bounds_i64 hat
  obtain ⟨bat1, bat2⟩ := bat
  have B0 : Below w.heap.size w ((w.alloc (.cells #[.int .i64 st, .int .i64 gd, .slice A n c] 24)).alloc (.cells #[.int .i64 s.fr, .int .i64 s.sh] 53)) := by go_grown
  have K0 := (Blk.new w 24 #[.int .i64 st, .int .i64 gd, .slice A n c]).alloc (.cells #[.int .i64 s.fr, .int .i64 s.sh] 53)
  have KS := Blk.new (w.alloc (.cells #[.int .i64 st, .int .i64 gd, .slice A n c] 24)) 53 #[.int .i64 s.fr, .int .i64 s.sh]
  rw [World.size_alloc] at KS
  have H0 := Lib.hid (And.intro B0 (And.intro K0 KS))
  have HL := Lib.hid hl
  have HL5 := Lib.hid hl5
  have HL9 := Lib.hid hl9
  clear B0 K0 KS hl hl5 hl9 hw9 hat hstall
  by_cases h60 : 60 < n
  · have hb60 : decide ((60 : Int) < (n : Int)) = true := by simp; omega
    go_enter Try.func5, Try.ntmps5
    go_wp2_with fail
    refine (awake_any _).mono ?_
    rintro e w1 ⟨rfl, hB1⟩
    have L1 := Lib.hid (Below.step hB1 H0.out.1 (Nat.le_refl _))
    clear hB1
    go_wp2_with fail
    go_ret
    exact ⟨rfl, L1.out⟩
  have hb60 : decide ((60 : Int) < (n : Int)) = false := by simp; omega
  have hn60 : n ≤ 60 := by omega
  clear h60
  by_cases h15 : 15 < n5
  · have hb15 : decide ((15 : Int) < (n5 : Int)) = true := by simp; omega
    go_enter Try.func5, Try.ntmps5
    go_wp2_with fail
    refine (awake_any _).mono ?_
    rintro e w1 ⟨rfl, hB1⟩
    have L1 := Lib.hid (Below.step hB1 H0.out.1 (Nat.le_refl _))
    clear hB1
    go_wp2_with fail
    go_ret
    exact ⟨rfl, L1.out⟩
  have hb15 : decide ((15 : Int) < (n5 : Int)) = false := by simp; omega
  have hn15 : n5 ≤ 15 := by omega
  clear h15
  obtain ⟨i0, hi, iz0, iz1, iz2⟩ := info_parts info_step
  go_enter Try.func5, Try.ntmps5
  go_wp2_with fail
  refine (dieOf_any b9 n9 c9 A9 l9 _ (HL9.out.old H0.out.1) hn9 HW9.out).mono ?_
  rintro e w1 ⟨d, hd, rfl, hdie, hB1⟩
  simp only [World.size_alloc] at hd
  have H1 := Lib.hid (And.intro (Below.step hB1 H0.out.1 (Nat.le_refl _)) (And.intro (H0.out.2.1.below hB1 H0.out.2.1.lt) (H0.out.2.2.below hB1 H0.out.2.2.lt)))
  have hz1 := hB1.size
  simp only [World.size_alloc] at hz1
  clear hB1 H0
  go_wp2_with fail
  refine (bookOf_any d 4 3 10 _ hdie (by omega) (by omega) (by omega) (by omega) (by omega)).mono ?_
  rintro e w2 ⟨st1, gd1, b1, m1, c1, A1, l1, ⟨hs1, hs2, hg1, hg2, hm1, hok1⟩, rfl, hb1, hb1d, hsl1, hd2, hgr2⟩
  have H2 := Lib.hid (And.intro (Below.stepG hgr2 H1.out.1 (Nat.le_refl _) (by omega)) (And.intro (H1.out.2.1.grown hgr2 (fun e => by injection e; omega)) (H1.out.2.2.grown hgr2 (fun e => by injection e; omega))))
  have hz2 := hgr2.size
  have hdz := hd2.lt
  have S2 := Lib.hid (hsl1.alloc (.cells #[.int .i64 st1, .int .i64 gd1, .slice A1 m1 c1] 24))
  have D2 := Lib.hid (hd2.alloc (.cells #[.int .i64 st1, .int .i64 gd1, .slice A1 m1 c1] 24))
  have K2 := Lib.hid (Blk.new w2 24 #[.int .i64 st1, .int .i64 gd1, .slice A1 m1 c1])
  have H3 := Lib.hid (And.intro (H2.out.1.alloc (by omega) (.cells #[.int .i64 st1, .int .i64 gd1, .slice A1 m1 c1] 24)) (And.intro (H2.out.2.1.alloc (.cells #[.int .i64 st1, .int .i64 gd1, .slice A1 m1 c1] 24)) (H2.out.2.2.alloc (.cells #[.int .i64 st1, .int .i64 gd1, .slice A1 m1 c1] 24))))
  have HB1W := Lib.hid (fun h : 0 < m1 => hsl1.lt h)
  clear hok1 hgr2 hdie hsl1 hd2 H1 H2
  go_wp2_with fail
  refine (stepsOf_any d 4 _ D2.out (by omega) (by omega)).mono ?_
  rintro e w3 ⟨b3, m3, c3, A3, l3, hsi, hle3, rfl, hb3, hb3d, hsl3, hd3, hg3⟩
  have hz3 := hg3.size
  simp only [World.size_alloc] at hz3 hb3
  have hl3 := hsl3.len
  have hne3 : 0 < l3.length := by
    cases l3 with
    | nil => exact absurd rfl hsi.ne
    | cons a r => simp
  have hm30 : 0 < m3 := by omega
  have hm34 : m3 ≤ 4 := by omega
  have HL3 := Lib.hid hl3
  have S3 := Lib.hid (S2.out.grown hg3 (fun _ e => hb1d (by injection e)))
  have K3 := Lib.hid (K2.out.grown hg3 (fun e => by injection e; omega))
  have H4 := Lib.hid (And.intro (Below.stepG hg3 H3.out.1 (Nat.le_refl _) (by omega)) (And.intro (H3.out.2.1.grown hg3 (fun e => by injection e; omega)) (H3.out.2.2.grown hg3 (fun e => by injection e; omega))))
  have P3 := Lib.hid hsl3
  have D3 := Lib.hid hd3
  have hdz3 := hd3.lt
  have hb3z := hsl3.lt hm30
  have hp1z := K3.out.lt
  clear hsi hle3 hsl3 hd3 hg3 hl3 hne3 S2 D2 K2 H3
  have hown0 := own_empty w3 53 2 w3.heap.size w3.heap.size rfl (Nat.le_refl _)
  have hp3 := P3.out.alloc (.cells #[] 53)
  go_wp2_with (at_builtin; refine wpList_append_sl rfl (.tmp 48) (.tmp 49) _ rfl w3.heap.size 53 i0 _ 16 Try.underlying51 hi iz0 iz1 iz2 rfl (by omega) encP_len _ 0 [] rfl hown0 b3 _ m3 c3 l3 rfl hp3 oneP (by unfold maxLen; omega) (by omega) (by simp) ?_; intro A4 c4 w4 hown4 hgrow4 hat4; have HO4 := Lib.hid hown4; have HG4 := Lib.hid (only_own hown0 hgrow4 (only_alloc (only_refl w3 d) _) (Nat.le_refl _)); have D4 := Lib.hid ((D3.out.alloc (.cells #[] 53)).keep (own_keeps hown0 hgrow4 (b := d) hdz3 (by simp; omega))); clear hown4 hgrow4 hat4 hown0 hp3)
  have hO4 := HO4.out
  simp only [Nat.zero_add, List.nil_append] at hO4 ⊢
  obtain ⟨g4, rfl, hg4, hg4z⟩ := own_some1 hO4 hm30
  have hz4 := HG4.out.size
  have HO5 := Lib.hid hO4
  have S4 := Lib.hid (S3.out.grown HG4.out (fun _ e => hb1d (by injection e)))
  have K4 := Lib.hid (K3.out.grown HG4.out (fun e => by injection e; omega))
  have P4 := Lib.hid (P3.out.grown HG4.out (fun _ e => hb3d (by injection e)))
  have HS4 := Lib.hid (H4.out.2.2.grown HG4.out (fun e => by injection e; omega))
  have HB4 := Lib.hid (H4.out.2.1.grown HG4.out (fun e => by injection e; omega))
  have LL4 := Lib.hid (Below.stepG HG4.out H4.out.1 (Nat.le_refl _) (by omega))
  clear hO4 HO4 S3 K3 P3 D3 H4
  have hbb := bring_bd (x := at_) (n := (m3 : Int)) (by omega)
  obtain ⟨kk, hkk⟩ := Int.eq_ofNat_of_zero_le hbb.1
  rw [hkk] at hbb
  have HKK := Lib.hid hkk
  obtain ⟨hk0, hk1⟩ := hbb
  have hkl : kk < l3.length := by have := HL3.out; omega
  have hck0 := (HO5.out.cellAt (kk * 2) (by omega)).trans (flat_at encP_len l3 kk hkl 0 _ rfl)
  have hck1 := (HO5.out.cellAt (kk * 2 + 1) (by omega)).trans (flat_at encP_len l3 kk hkl 1 _ rfl)
  have hfk0 := HO5.out.frozenAt (kk * 2)
  have hfk1 := HO5.out.frozenAt (kk * 2 + 1)
  generalize l3[kk] = old at hck0 hck1
  have HKL := Lib.hid hkl
  clear hkk hkl
  go_upto_region 7 with fail
  refine wp_region_PL [5] (fun w' => w'.cell? ⟨w.heap.size + 1, 0, none⟩ = some (.int .i64 s.fr) ∧ w'.cell? ⟨w.heap.size + 1, 1, none⟩ = some (.int .i64 s.sh)) rfl (by kernel_rfl) (⟨HS4.out.drew.cell 0, HS4.out.drew.cell 1⟩) (fun hF0 => ?_)
  (refine wpAnyP_takeL (i := 0) (v := ?_) rfl (by kernel_rfl) (by kernel_rfl) (by kernel_rfl) (fun _ _ _ h => h) (by rfl) ?_ ?_; rotate_left 1; focus (intro w; go_simp; try with_reducible rfl))
  try simp only [Act.put, List.setIfInBounds_toArray, List.set_cons_zero, List.set_cons_succ]
  (refine wpAnyP_takeL (i := 1) (v := ?_) rfl (by kernel_rfl) (by kernel_rfl) (by kernel_rfl) (fun _ _ _ h => h) (by rfl) ?_ ?_; rotate_left 1; focus (intro w; go_simp; try with_reducible rfl))
  try simp only [Act.put, List.setIfInBounds_toArray, List.set_cons_zero, List.set_cons_succ]
  (refine wpAnyP_takeL (i := 2) (v := ?_) rfl (by kernel_rfl) (by kernel_rfl) (by kernel_rfl) (fun _ _ _ h => h) (by rfl) ?_ ?_; rotate_left 1; focus (intro w; go_simp; try with_reducible rfl))
  try simp only [Act.put, List.setIfInBounds_toArray, List.set_cons_zero, List.set_cons_succ]
  (refine wpAnyP_takeL (i := 3) (v := ?_) rfl (by kernel_rfl) (by kernel_rfl) (by kernel_rfl) (fun _ _ _ h => h) (by rfl) ?_ ?_; rotate_left 1; focus (intro w; go_simp; try with_reducible rfl))
  try simp only [Act.put, List.setIfInBounds_toArray, List.set_cons_zero, List.set_cons_succ]
  (refine wpAnyP_loadL (i := 5) (v := ?_) rfl (by kernel_rfl) (by kernel_rfl) (by kernel_rfl) (by rfl) (fun _ _ _ h => h) hF0 (by rfl) ?_ ?_; rotate_left 1; focus (intro w hFw; (try dsimp only at hFw); go_split_ands; go_simp; try with_reducible rfl))
  try simp only [Act.put, List.setIfInBounds_toArray, List.set_cons_zero, List.set_cons_succ]
  refine wpAnyP_step (i := 4) rfl (by kernel_rfl) (by rfl) (fun K hK => ?_)
  go_simp
  (refine (bring_any at_ (m3 : Int) _ bat1 bat2 (by omega)).mono ?_; rw [HKK.out]; rintro e wx ⟨rfl, rfl⟩)
  (refine hK _ _ (⟨HS4.out.drew.cell 0, HS4.out.drew.cell 1⟩) (fun hF1 => ?_); clear hK K hF0)
  try simp only [Act.put, List.setIfInBounds_toArray, List.set_cons_zero, List.set_cons_succ]
  (refine wpAnyP_takeL (i := 6) (v := ?_) rfl (by kernel_rfl) (by kernel_rfl) (by kernel_rfl) (fun _ _ _ h => h) (by rfl) ?_ ?_; rotate_left 1; focus (intro w; go_simp; try with_reducible rfl))
  try simp only [Act.put, List.setIfInBounds_toArray, List.set_cons_zero, List.set_cons_succ]
  refine wpAnyP_last (i := 7) rfl (by kernel_rfl) (by kernel_rfl) (by rfl) (fun K hK => ?_)
  go_simp
  (refine hK _ _ ?_; clear hK K)
  try simp only [Act.put, List.setIfInBounds_toArray, List.set_cons_zero, List.set_cons_succ]
  refine wpAnyP_done (by kernel_rfl) ?_ _
  have OP := own_put2 HO5.out HKL.out s
  have hG : w4.grownBy ((w4.setCell ⟨g4, kk * 2, none⟩ (.int .i64 s.fr)).setCell ⟨g4, kk * 2 + 1, none⟩ (.int .i64 s.sh)) (some g4) :=
    only_setCell (only_setCell (only_refl w4 g4) (.inl rfl) _) (.inl rfl) _
  generalize ((w4.setCell ⟨g4, kk * 2, none⟩ (.int .i64 s.fr)).setCell ⟨g4, kk * 2 + 1, none⟩ (.int .i64 s.sh)) = Y at OP hG ⊢
  obtain ⟨b6, hb6, SP⟩ := Sl.of_own encP_len (show m3 = (l3.set kk s).length by rw [List.length_set]; exact HL3.out) OP
  have HB5Z := Lib.hid (fun h : 0 < n5 => HL5.out.lt h)
  have HBZ := Lib.hid (fun h : 0 < n => HL.out.lt h)
  have HB1Z := Lib.hid (fun h : 0 < m1 => S4.out.lt h)
  have hM : DK8 w d w.heap.size w2.heap.size ⟨st, gd, A, n, c, b, l⟩ ⟨st1, gd1, A1, m1, c1, b1, l1⟩ ⟨A5, n5, c5, b5, l5⟩ ⟨A3, m3, c3, b3, l3⟩ ⟨some ⟨g4, 0, none⟩, m3, c4, b6, l3.set kk s⟩ Y := by
    refine ⟨Below.stepG hG LL4.out (Nat.le_refl _) (by omega), D4.out.keep (hG.block d (by omega) (fun e => by injection e; omega)), HB4.out.grown hG (fun e => by injection e; omega), K4.out.grown hG (fun e => by injection e; omega), ⟨?_, ?_, hn60⟩, ⟨?_, fun _ => hb1d, ?_⟩, ⟨?_, ?_, hn15⟩, ⟨?_, fun _ => hb3d, ?_⟩, ⟨SP, ?_, ?_⟩, by omega, by omega, by omega⟩
    · exact (HL.out.old LL4.out).grown hG (fun hh e => by have h1 := HBZ.out hh; injection e with e; have : b = g4 := e; omega)
    · exact fun hh => by have h1 := HBZ.out hh; show b ≠ d; omega
    · exact S4.out.grown hG (fun hh e => by have h1 := HB1W.out hh; injection e with e; have : b1 = g4 := e; omega)
    · show m1 ≤ 60; omega
    · exact (HL5.out.old LL4.out).grown hG (fun hh e => by have h1 := HB5Z.out hh; injection e with e; have : b5 = g4 := e; omega)
    · exact fun hh => by have h1 := HB5Z.out hh; show b5 ≠ d; omega
    · exact P4.out.grown hG (fun hh e => by injection e with e; have : b3 = g4 := e; omega)
    · show m3 ≤ 15; omega
    · exact fun _ => by show b6 ≠ d; omega
    · show m3 ≤ 15; omega
  have HM := Lib.hid hM.drew
  have hpz : w2.heap.size < Y.heap.size := hM.k1.lt
  clear OP hG hM SP hck0 hck1 hfk0 hfk1 HO5 S4 K4 P4 D4 HS4 HB4 LL4 HG4
  generalize hx0 : (⟨st, gd, A, n, c, b, l⟩ : BookD) = x0 at HM
  generalize hx1 : (⟨st1, gd1, A1, m1, c1, b1, l1⟩ : BookD) = x1 at HM
  generalize hy0 : (⟨A5, n5, c5, b5, l5⟩ : SlD Step) = y0 at HM
  generalize hy1 : (⟨A3, m3, c3, b3, l3⟩ : SlD Step) = y1 at HM
  generalize hy2 : (⟨some ⟨g4, 0, none⟩, m3, c4, b6, l3.set kk s⟩ : SlD Step) = y2 at HM
  have hst1 : x1.st = st1 := by rw [← hx1]
  have hs1' : 1 ≤ x1.st := by omega
  have hs2' : x1.st ≤ 4 := by omega
  have e5 : Value.slice A5 n5 c5 = .slice y0.A y0.n y0.c := by rw [← hy0]
  have e3 : Value.slice A3 m3 c3 = .slice y1.A y1.n y1.c := by rw [← hy1]
  have e4 : Value.slice (some ⟨g4, 0, none⟩) m3 c4 = .slice y2.A y2.n y2.c := by rw [← hy2]
  simp only [e5, e3, e4]
  clear hx0 hx1 hy0 hy1 hy2 hst1 e5 e3 e4
  go_upto_region 8 with fail
  go_cut [17, 18, 19] from 58 to 75 (fun p q r wx => ∃ (g1 g2 g3 : Nat) (v1 : Int), p = .slice (some ⟨g1, 0, none⟩) 4 4 ∧ q = .slice (some ⟨g2, 0, none⟩) 4 4 ∧ r = .slice (some ⟨g3, 0, none⟩) 4 4 ∧ Arr encB 3 d [x0, x1, x1, x1] wx g1 ∧ Arr encI 1 d [stall, v1, stall, 0] wx g2 ∧ Arr encL 1 d [y0, y1, y2, y0] wx g3 ∧ DK8 w d w.heap.size w2.heap.size x0 x1 y0 y1 y2 wx)
  case first =>
    have hM := HM.out.drew
    refine wp_region_K2 [0, 1, 2, 3, 8] [] (fun W => (W.cell? ⟨w.heap.size, 0, none⟩ = some (.int .i64 x0.st) ∧ W.cell? ⟨w.heap.size, 1, none⟩ = some (.int .i64 x0.gd) ∧ W.cell? ⟨w.heap.size, 2, none⟩ = some (.slice x0.A x0.n x0.c)) ∧ (W.cell? ⟨w2.heap.size, 0, none⟩ = some (.int .i64 x1.st) ∧ W.cell? ⟨w2.heap.size, 1, none⟩ = some (.int .i64 x1.gd) ∧ W.cell? ⟨w2.heap.size, 2, none⟩ = some (.slice x1.A x1.n x1.c))) (fun _ => True) rfl (by kernel_rfl) (hM.cells) (trivial) (fun hF0 hG0 => ?_)
    (refine wpAnyK_loadL Keep2.refl (i := 0) (v := ?_) rfl (Keep2.left (i := 0) (by rfl)) (by kernel_rfl) (by kernel_rfl) (by kernel_rfl) (fun _ _ _ h => h) hF0 (by rfl) ?_ ?_; rotate_left 1; focus (intro w hFw; (try dsimp only at hFw); go_split_ands; go_simp; try with_reducible rfl))
    try simp only [Act.put, List.setIfInBounds_toArray, List.set_cons_zero, List.set_cons_succ]
    (refine wpAnyK_loadL Keep2.refl (i := 1) (v := ?_) rfl (Keep2.left (i := 1) (by rfl)) (by kernel_rfl) (by kernel_rfl) (by kernel_rfl) (fun _ _ _ h => h) hF0 (by rfl) ?_ ?_; rotate_left 1; focus (intro w hFw; (try dsimp only at hFw); go_split_ands; go_simp; try with_reducible rfl))
    try simp only [Act.put, List.setIfInBounds_toArray, List.set_cons_zero, List.set_cons_succ]
    (refine wpAnyK_loadL Keep2.refl (i := 2) (v := ?_) rfl (Keep2.left (i := 2) (by rfl)) (by kernel_rfl) (by kernel_rfl) (by kernel_rfl) (fun _ _ _ h => h) hF0 (by rfl) ?_ ?_; rotate_left 1; focus (intro w hFw; (try dsimp only at hFw); go_split_ands; go_simp; try with_reducible rfl))
    try simp only [Act.put, List.setIfInBounds_toArray, List.set_cons_zero, List.set_cons_succ]
    (refine wpAnyK_loadL Keep2.refl (i := 3) (v := ?_) rfl (Keep2.left (i := 3) (by rfl)) (by kernel_rfl) (by kernel_rfl) (by kernel_rfl) (fun _ _ _ h => h) hF0 (by rfl) ?_ ?_; rotate_left 1; focus (intro w hFw; (try dsimp only at hFw); go_split_ands; go_simp; try with_reducible rfl))
    try simp only [Act.put, List.setIfInBounds_toArray, List.set_cons_zero, List.set_cons_succ]
    (refine wpAnyK_takeL Keep2.refl (i := 5) (v := ?_) rfl (by kernel_rfl) (by kernel_rfl) (by kernel_rfl) (fun _ _ _ h => h) (by rfl) ?_ ?_; rotate_left 1; focus (intro w; go_simp; try with_reducible rfl))
    try simp only [Act.put, List.setIfInBounds_toArray, List.set_cons_zero, List.set_cons_succ]
    (refine wpAnyK_takeL Keep2.refl (i := 6) (v := ?_) rfl (by kernel_rfl) (by kernel_rfl) (by kernel_rfl) (fun _ _ _ h => h) (by rfl) ?_ ?_; rotate_left 1; focus (intro w; go_simp; try with_reducible rfl))
    try simp only [Act.put, List.setIfInBounds_toArray, List.set_cons_zero, List.set_cons_succ]
    (refine wpAnyK_takeL Keep2.refl (i := 7) (v := ?_) rfl (by kernel_rfl) (by kernel_rfl) (by kernel_rfl) (fun _ _ _ h => h) (by rfl) ?_ ?_; rotate_left 1; focus (intro w; go_simp; try with_reducible rfl))
    try simp only [Act.put, List.setIfInBounds_toArray, List.set_cons_zero, List.set_cons_succ]
    (refine wpAnyK_loadL Keep2.refl (i := 8) (v := ?_) rfl (Keep2.left (i := 8) (by rfl)) (by kernel_rfl) (by kernel_rfl) (by kernel_rfl) (fun _ _ _ h => h) hF0 (by rfl) ?_ ?_; rotate_left 1; focus (intro w hFw; (try dsimp only at hFw); go_split_ands; go_simp; try with_reducible rfl))
    try simp only [Act.put, List.setIfInBounds_toArray, List.set_cons_zero, List.set_cons_succ]
    (refine wpAnyK_takeL Keep2.refl (i := 10) (v := ?_) rfl (by kernel_rfl) (by kernel_rfl) (by kernel_rfl) (fun _ _ _ h => h) (by rfl) ?_ ?_; rotate_left 1; focus (intro w; go_simp; try with_reducible rfl))
    try simp only [Act.put, List.setIfInBounds_toArray, List.set_cons_zero, List.set_cons_succ]
    (refine wpAnyK_takeL Keep2.refl (i := 12) (v := ?_) rfl (by kernel_rfl) (by kernel_rfl) (by kernel_rfl) (fun _ _ _ h => h) (by rfl) ?_ ?_; rotate_left 1; focus (intro w; go_simp; try with_reducible rfl))
    try simp only [Act.put, List.setIfInBounds_toArray, List.set_cons_zero, List.set_cons_succ]
    (refine wpAnyK_takeL Keep2.refl (i := 13) (v := ?_) rfl (by kernel_rfl) (by kernel_rfl) (by kernel_rfl) (fun _ _ _ h => h) (by rfl) ?_ ?_; rotate_left 1; focus (intro w; go_simp; try with_reducible rfl))
    try simp only [Act.put, List.setIfInBounds_toArray, List.set_cons_zero, List.set_cons_succ]
    (refine wpAnyK_takeL Keep2.refl (i := 14) (v := ?_) rfl (by kernel_rfl) (by kernel_rfl) (by kernel_rfl) (fun _ _ _ h => h) (by rfl) ?_ ?_; rotate_left 1; focus (intro w; go_simp; try with_reducible rfl))
    try simp only [Act.put, List.setIfInBounds_toArray, List.set_cons_zero, List.set_cons_succ]
    (refine wpAnyK_takeL Keep2.refl (i := 15) (v := ?_) rfl (by kernel_rfl) (by kernel_rfl) (by kernel_rfl) (fun _ _ _ h => h) (by rfl) ?_ ?_; rotate_left 1; focus (intro w; go_simp; try with_reducible rfl))
    try simp only [Act.put, List.setIfInBounds_toArray, List.set_cons_zero, List.set_cons_succ]
    refine wpAnyK_all (rs := [4, 9, 16]) (by kernel_rfl) (by simp) ?_
    refine List.forall_mem_cons.2 ⟨?_, List.forall_mem_cons.2 ⟨?_, List.forall_mem_cons.2 ⟨?_, fun _ h => absurd h List.not_mem_nil⟩⟩⟩
    · refine wpOp_of rfl (by rfl) (fun K hK => ?_)
      go_simp
      (have hA := Arr.new encB_len hM.die.lt [x0, x1, x1, x1] 24 #[.int .i64 x0.st, .int .i64 x0.gd, .slice x0.A x0.n x0.c, .int .i64 x1.st, .int .i64 x1.gd, .slice x1.A x1.n x1.c, .int .i64 x1.st, .int .i64 x1.gd, .slice x1.A x1.n x1.c, .int .i64 x1.st, .int .i64 x1.gd, .slice x1.A x1.n x1.c] rfl; (try simp only [World.size_drew, World.size_alloc] at hA); (try replace hG := hG.keep (only_alloc (only_refl _ d) (.cells #[.int .i64 x0.st, .int .i64 x0.gd, .slice x0.A x0.n x0.c, .int .i64 x1.st, .int .i64 x1.gd, .slice x1.A x1.n x1.c, .int .i64 x1.st, .int .i64 x1.gd, .slice x1.A x1.n x1.c, .int .i64 x1.st, .int .i64 x1.gd, .slice x1.A x1.n x1.c] 24))); (try replace hL := hL.keep (only_alloc (only_refl _ d) (.cells #[.int .i64 x0.st, .int .i64 x0.gd, .slice x0.A x0.n x0.c, .int .i64 x1.st, .int .i64 x1.gd, .slice x1.A x1.n x1.c, .int .i64 x1.st, .int .i64 x1.gd, .slice x1.A x1.n x1.c, .int .i64 x1.st, .int .i64 x1.gd, .slice x1.A x1.n x1.c] 24))); replace hM := hM.alloc (.cells #[.int .i64 x0.st, .int .i64 x0.gd, .slice x0.A x0.n x0.c, .int .i64 x1.st, .int .i64 x1.gd, .slice x1.A x1.n x1.c, .int .i64 x1.st, .int .i64 x1.gd, .slice x1.A x1.n x1.c, .int .i64 x1.st, .int .i64 x1.gd, .slice x1.A x1.n x1.c] 24))
      (refine hK _ _ ⟨⟨fun _ _ => hM.cells, fun h => absurd h (by decide)⟩, ?_⟩; clear hK K)
      (refine wpAnyK_with (F := fun W => (W.cell? ⟨w.heap.size, 0, none⟩ = some (.int .i64 x0.st) ∧ W.cell? ⟨w.heap.size, 1, none⟩ = some (.int .i64 x0.gd) ∧ W.cell? ⟨w.heap.size, 2, none⟩ = some (.slice x0.A x0.n x0.c)) ∧ (W.cell? ⟨w2.heap.size, 0, none⟩ = some (.int .i64 x1.st) ∧ W.cell? ⟨w2.heap.size, 1, none⟩ = some (.int .i64 x1.gd) ∧ W.cell? ⟨w2.heap.size, 2, none⟩ = some (.slice x1.A x1.n x1.c))) (hM.cells) (fun hF1 => ?_); clear hF0)
      try simp only [Act.put, List.setIfInBounds_toArray, List.set_cons_zero, List.set_cons_succ]
      refine wpAnyK_all (rs := [9, 16]) (by kernel_rfl) (by simp) ?_
      refine List.forall_mem_cons.2 ⟨?_, List.forall_mem_cons.2 ⟨?_, fun _ h => absurd h List.not_mem_nil⟩⟩
      · refine wpOp_of rfl (by rfl) (fun K hK => ?_)
        go_simp
        (refine (cast_any d x1.st _ hM.die (by omega)).mono ?_; rintro e w7 ⟨v1, _, rfl, hd7, hg7⟩; (try replace hA := hA.keep hg7); (try replace hL := hL.keep hg7); replace hM := hM.step hg7 hd7; clear hg7 hd7)
        (refine hK _ _ ⟨⟨fun _ _ => hM.cells, fun h => absurd h (by decide)⟩, ?_⟩; clear hK K)
        (refine wpAnyK_with (F := fun W => (W.cell? ⟨w.heap.size, 0, none⟩ = some (.int .i64 x0.st) ∧ W.cell? ⟨w.heap.size, 1, none⟩ = some (.int .i64 x0.gd) ∧ W.cell? ⟨w.heap.size, 2, none⟩ = some (.slice x0.A x0.n x0.c)) ∧ (W.cell? ⟨w2.heap.size, 0, none⟩ = some (.int .i64 x1.st) ∧ W.cell? ⟨w2.heap.size, 1, none⟩ = some (.int .i64 x1.gd) ∧ W.cell? ⟨w2.heap.size, 2, none⟩ = some (.slice x1.A x1.n x1.c))) (hM.cells) (fun hF2 => ?_); clear hF1)
        try simp only [Act.put, List.setIfInBounds_toArray, List.set_cons_zero, List.set_cons_succ]
        (refine wpAnyK_takeL Keep2.refl (i := 17) (v := ?_) rfl (by kernel_rfl) (by kernel_rfl) (by kernel_rfl) (fun _ _ _ h => h) (by rfl) ?_ ?_; rotate_left 1; focus (intro w; go_simp; try with_reducible rfl))
        try simp only [Act.put, List.setIfInBounds_toArray, List.set_cons_zero, List.set_cons_succ]
        refine wpAnyK_all (rs := [11, 16]) (by kernel_rfl) (by simp) ?_
        refine List.forall_mem_cons.2 ⟨?_, List.forall_mem_cons.2 ⟨?_, fun _ h => absurd h List.not_mem_nil⟩⟩
        · refine wpOp_of rfl (by rfl) (fun K hK => ?_)
          go_simp
          (have hG := Arr.new encI_len hM.die.lt [stall, v1, stall, 0] 3 #[.int .i64 stall, .int .i64 v1, .int .i64 stall, .int .i64 0] rfl; (try simp only [World.size_drew, World.size_alloc] at hG); (try replace hA := hA.keep (only_alloc (only_refl _ d) (.cells #[.int .i64 stall, .int .i64 v1, .int .i64 stall, .int .i64 0] 3))); (try replace hL := hL.keep (only_alloc (only_refl _ d) (.cells #[.int .i64 stall, .int .i64 v1, .int .i64 stall, .int .i64 0] 3))); replace hM := hM.alloc (.cells #[.int .i64 stall, .int .i64 v1, .int .i64 stall, .int .i64 0] 3))
          (refine hK _ _ ⟨⟨fun _ _ => hM.cells, fun h => absurd h (by decide)⟩, ?_⟩; clear hK K)
          (refine wpAnyK_with (F := fun W => (W.cell? ⟨w.heap.size, 0, none⟩ = some (.int .i64 x0.st) ∧ W.cell? ⟨w.heap.size, 1, none⟩ = some (.int .i64 x0.gd) ∧ W.cell? ⟨w.heap.size, 2, none⟩ = some (.slice x0.A x0.n x0.c)) ∧ (W.cell? ⟨w2.heap.size, 0, none⟩ = some (.int .i64 x1.st) ∧ W.cell? ⟨w2.heap.size, 1, none⟩ = some (.int .i64 x1.gd) ∧ W.cell? ⟨w2.heap.size, 2, none⟩ = some (.slice x1.A x1.n x1.c))) (hM.cells) (fun hF3 => ?_); clear hF2)
          try simp only [Act.put, List.setIfInBounds_toArray, List.set_cons_zero, List.set_cons_succ]
          (refine wpAnyK_takeL Keep2.refl (i := 18) (v := ?_) rfl (by kernel_rfl) (by kernel_rfl) (by kernel_rfl) (fun _ _ _ h => h) (by rfl) ?_ ?_; rotate_left 1; focus (intro w; go_simp; try with_reducible rfl))
          try simp only [Act.put, List.setIfInBounds_toArray, List.set_cons_zero, List.set_cons_succ]
          refine wpAnyK_step (i := 16) rfl (by kernel_rfl) (by rfl) (fun K hK => ?_)
          go_simp
          (have hL := Arr.new encL_len hM.die.lt [y0, y1, y2, y0] 51 #[.slice y0.A y0.n y0.c, .slice y1.A y1.n y1.c, .slice y2.A y2.n y2.c, .slice y0.A y0.n y0.c] rfl; (try simp only [World.size_drew, World.size_alloc] at hL); (try replace hA := hA.keep (only_alloc (only_refl _ d) (.cells #[.slice y0.A y0.n y0.c, .slice y1.A y1.n y1.c, .slice y2.A y2.n y2.c, .slice y0.A y0.n y0.c] 51))); (try replace hG := hG.keep (only_alloc (only_refl _ d) (.cells #[.slice y0.A y0.n y0.c, .slice y1.A y1.n y1.c, .slice y2.A y2.n y2.c, .slice y0.A y0.n y0.c] 51))); replace hM := hM.alloc (.cells #[.slice y0.A y0.n y0.c, .slice y1.A y1.n y1.c, .slice y2.A y2.n y2.c, .slice y0.A y0.n y0.c] 51))
          (refine hK _ _ (⟨fun _ _ => hM.cells, fun h => absurd h (by decide)⟩) ?_; clear hK K)
          (refine wpAnyK_with (F := fun W => (W.cell? ⟨w.heap.size, 0, none⟩ = some (.int .i64 x0.st) ∧ W.cell? ⟨w.heap.size, 1, none⟩ = some (.int .i64 x0.gd) ∧ W.cell? ⟨w.heap.size, 2, none⟩ = some (.slice x0.A x0.n x0.c)) ∧ (W.cell? ⟨w2.heap.size, 0, none⟩ = some (.int .i64 x1.st) ∧ W.cell? ⟨w2.heap.size, 1, none⟩ = some (.int .i64 x1.gd) ∧ W.cell? ⟨w2.heap.size, 2, none⟩ = some (.slice x1.A x1.n x1.c))) (hM.cells) (fun hF4 => ?_); clear hF3)
          try simp only [Act.put, List.setIfInBounds_toArray, List.set_cons_zero, List.set_cons_succ]
          (refine wpAnyK_takeL Keep2.refl (i := 19) (v := ?_) rfl (by kernel_rfl) (by kernel_rfl) (by kernel_rfl) (fun _ _ _ h => h) (by rfl) ?_ ?_; rotate_left 1; focus (intro w; go_simp; try with_reducible rfl))
          try simp only [Act.put, List.setIfInBounds_toArray, List.set_cons_zero, List.set_cons_succ]
          refine wpAnyK_done (by kernel_rfl) ?_ _
          go_wp2_with fail
          go_meet
          exact ⟨_, _, _, _, rfl, rfl, rfl, hA, hG, hL, hM⟩
        · refine wpOp_of rfl (by rfl) (fun K hK => ?_)
          go_simp
          (have hL := Arr.new encL_len hM.die.lt [y0, y1, y2, y0] 51 #[.slice y0.A y0.n y0.c, .slice y1.A y1.n y1.c, .slice y2.A y2.n y2.c, .slice y0.A y0.n y0.c] rfl; (try simp only [World.size_drew, World.size_alloc] at hL); (try replace hA := hA.keep (only_alloc (only_refl _ d) (.cells #[.slice y0.A y0.n y0.c, .slice y1.A y1.n y1.c, .slice y2.A y2.n y2.c, .slice y0.A y0.n y0.c] 51))); (try replace hG := hG.keep (only_alloc (only_refl _ d) (.cells #[.slice y0.A y0.n y0.c, .slice y1.A y1.n y1.c, .slice y2.A y2.n y2.c, .slice y0.A y0.n y0.c] 51))); replace hM := hM.alloc (.cells #[.slice y0.A y0.n y0.c, .slice y1.A y1.n y1.c, .slice y2.A y2.n y2.c, .slice y0.A y0.n y0.c] 51))
          (refine hK _ _ ⟨⟨fun _ _ => hM.cells, fun h => absurd h (by decide)⟩, ?_⟩; clear hK K)
          (refine wpAnyK_with (F := fun W => (W.cell? ⟨w.heap.size, 0, none⟩ = some (.int .i64 x0.st) ∧ W.cell? ⟨w.heap.size, 1, none⟩ = some (.int .i64 x0.gd) ∧ W.cell? ⟨w.heap.size, 2, none⟩ = some (.slice x0.A x0.n x0.c)) ∧ (W.cell? ⟨w2.heap.size, 0, none⟩ = some (.int .i64 x1.st) ∧ W.cell? ⟨w2.heap.size, 1, none⟩ = some (.int .i64 x1.gd) ∧ W.cell? ⟨w2.heap.size, 2, none⟩ = some (.slice x1.A x1.n x1.c))) (hM.cells) (fun hF5 => ?_); clear hF2)
          try simp only [Act.put, List.setIfInBounds_toArray, List.set_cons_zero, List.set_cons_succ]
          refine wpAnyK_step (i := 11) rfl (by kernel_rfl) (by rfl) (fun K hK => ?_)
          go_simp
          (have hG := Arr.new encI_len hM.die.lt [stall, v1, stall, 0] 3 #[.int .i64 stall, .int .i64 v1, .int .i64 stall, .int .i64 0] rfl; (try simp only [World.size_drew, World.size_alloc] at hG); (try replace hA := hA.keep (only_alloc (only_refl _ d) (.cells #[.int .i64 stall, .int .i64 v1, .int .i64 stall, .int .i64 0] 3))); (try replace hL := hL.keep (only_alloc (only_refl _ d) (.cells #[.int .i64 stall, .int .i64 v1, .int .i64 stall, .int .i64 0] 3))); replace hM := hM.alloc (.cells #[.int .i64 stall, .int .i64 v1, .int .i64 stall, .int .i64 0] 3))
          (refine hK _ _ (⟨fun _ _ => hM.cells, fun h => absurd h (by decide)⟩) ?_; clear hK K)
          (refine wpAnyK_with (F := fun W => (W.cell? ⟨w.heap.size, 0, none⟩ = some (.int .i64 x0.st) ∧ W.cell? ⟨w.heap.size, 1, none⟩ = some (.int .i64 x0.gd) ∧ W.cell? ⟨w.heap.size, 2, none⟩ = some (.slice x0.A x0.n x0.c)) ∧ (W.cell? ⟨w2.heap.size, 0, none⟩ = some (.int .i64 x1.st) ∧ W.cell? ⟨w2.heap.size, 1, none⟩ = some (.int .i64 x1.gd) ∧ W.cell? ⟨w2.heap.size, 2, none⟩ = some (.slice x1.A x1.n x1.c))) (hM.cells) (fun hF6 => ?_); clear hF5)
          try simp only [Act.put, List.setIfInBounds_toArray, List.set_cons_zero, List.set_cons_succ]
          (refine wpAnyK_takeL Keep2.refl (i := 18) (v := ?_) rfl (by kernel_rfl) (by kernel_rfl) (by kernel_rfl) (fun _ _ _ h => h) (by rfl) ?_ ?_; rotate_left 1; focus (intro w; go_simp; try with_reducible rfl))
          try simp only [Act.put, List.setIfInBounds_toArray, List.set_cons_zero, List.set_cons_succ]
          (refine wpAnyK_takeL Keep2.refl (i := 19) (v := ?_) rfl (by kernel_rfl) (by kernel_rfl) (by kernel_rfl) (fun _ _ _ h => h) (by rfl) ?_ ?_; rotate_left 1; focus (intro w; go_simp; try with_reducible rfl))
          try simp only [Act.put, List.setIfInBounds_toArray, List.set_cons_zero, List.set_cons_succ]
          refine wpAnyK_done (by kernel_rfl) ?_ _
          go_wp2_with fail
          go_meet
          exact ⟨_, _, _, _, rfl, rfl, rfl, hA, hG, hL, hM⟩
      · refine wpOp_of rfl (by rfl) (fun K hK => ?_)
        go_simp
        (have hL := Arr.new encL_len hM.die.lt [y0, y1, y2, y0] 51 #[.slice y0.A y0.n y0.c, .slice y1.A y1.n y1.c, .slice y2.A y2.n y2.c, .slice y0.A y0.n y0.c] rfl; (try simp only [World.size_drew, World.size_alloc] at hL); (try replace hA := hA.keep (only_alloc (only_refl _ d) (.cells #[.slice y0.A y0.n y0.c, .slice y1.A y1.n y1.c, .slice y2.A y2.n y2.c, .slice y0.A y0.n y0.c] 51))); (try replace hG := hG.keep (only_alloc (only_refl _ d) (.cells #[.slice y0.A y0.n y0.c, .slice y1.A y1.n y1.c, .slice y2.A y2.n y2.c, .slice y0.A y0.n y0.c] 51))); replace hM := hM.alloc (.cells #[.slice y0.A y0.n y0.c, .slice y1.A y1.n y1.c, .slice y2.A y2.n y2.c, .slice y0.A y0.n y0.c] 51))
        (refine hK _ _ ⟨⟨fun _ _ => hM.cells, fun h => absurd h (by decide)⟩, ?_⟩; clear hK K)
        (refine wpAnyK_with (F := fun W => (W.cell? ⟨w.heap.size, 0, none⟩ = some (.int .i64 x0.st) ∧ W.cell? ⟨w.heap.size, 1, none⟩ = some (.int .i64 x0.gd) ∧ W.cell? ⟨w.heap.size, 2, none⟩ = some (.slice x0.A x0.n x0.c)) ∧ (W.cell? ⟨w2.heap.size, 0, none⟩ = some (.int .i64 x1.st) ∧ W.cell? ⟨w2.heap.size, 1, none⟩ = some (.int .i64 x1.gd) ∧ W.cell? ⟨w2.heap.size, 2, none⟩ = some (.slice x1.A x1.n x1.c))) (hM.cells) (fun hF7 => ?_); clear hF1)
        try simp only [Act.put, List.setIfInBounds_toArray, List.set_cons_zero, List.set_cons_succ]
        refine wpAnyK_step (i := 9) rfl (by kernel_rfl) (by rfl) (fun K hK => ?_)
        go_simp
        (refine (cast_any d x1.st _ hM.die (by omega)).mono ?_; rintro e w7 ⟨v1, _, rfl, hd7, hg7⟩; (try replace hA := hA.keep hg7); (try replace hL := hL.keep hg7); replace hM := hM.step hg7 hd7; clear hg7 hd7)
        (refine hK _ _ (⟨fun _ _ => hM.cells, fun h => absurd h (by decide)⟩) ?_; clear hK K)
        (refine wpAnyK_with (F := fun W => (W.cell? ⟨w.heap.size, 0, none⟩ = some (.int .i64 x0.st) ∧ W.cell? ⟨w.heap.size, 1, none⟩ = some (.int .i64 x0.gd) ∧ W.cell? ⟨w.heap.size, 2, none⟩ = some (.slice x0.A x0.n x0.c)) ∧ (W.cell? ⟨w2.heap.size, 0, none⟩ = some (.int .i64 x1.st) ∧ W.cell? ⟨w2.heap.size, 1, none⟩ = some (.int .i64 x1.gd) ∧ W.cell? ⟨w2.heap.size, 2, none⟩ = some (.slice x1.A x1.n x1.c))) (hM.cells) (fun hF8 => ?_); clear hF7)
        try simp only [Act.put, List.setIfInBounds_toArray, List.set_cons_zero, List.set_cons_succ]
        (refine wpAnyK_takeL Keep2.refl (i := 17) (v := ?_) rfl (by kernel_rfl) (by kernel_rfl) (by kernel_rfl) (fun _ _ _ h => h) (by rfl) ?_ ?_; rotate_left 1; focus (intro w; go_simp; try with_reducible rfl))
        try simp only [Act.put, List.setIfInBounds_toArray, List.set_cons_zero, List.set_cons_succ]
        refine wpAnyK_step (i := 11) rfl (by kernel_rfl) (by rfl) (fun K hK => ?_)
        go_simp
        (have hG := Arr.new encI_len hM.die.lt [stall, v1, stall, 0] 3 #[.int .i64 stall, .int .i64 v1, .int .i64 stall, .int .i64 0] rfl; (try simp only [World.size_drew, World.size_alloc] at hG); (try replace hA := hA.keep (only_alloc (only_refl _ d) (.cells #[.int .i64 stall, .int .i64 v1, .int .i64 stall, .int .i64 0] 3))); (try replace hL := hL.keep (only_alloc (only_refl _ d) (.cells #[.int .i64 stall, .int .i64 v1, .int .i64 stall, .int .i64 0] 3))); replace hM := hM.alloc (.cells #[.int .i64 stall, .int .i64 v1, .int .i64 stall, .int .i64 0] 3))
        (refine hK _ _ (⟨fun _ _ => hM.cells, fun h => absurd h (by decide)⟩) ?_; clear hK K)
        (refine wpAnyK_with (F := fun W => (W.cell? ⟨w.heap.size, 0, none⟩ = some (.int .i64 x0.st) ∧ W.cell? ⟨w.heap.size, 1, none⟩ = some (.int .i64 x0.gd) ∧ W.cell? ⟨w.heap.size, 2, none⟩ = some (.slice x0.A x0.n x0.c)) ∧ (W.cell? ⟨w2.heap.size, 0, none⟩ = some (.int .i64 x1.st) ∧ W.cell? ⟨w2.heap.size, 1, none⟩ = some (.int .i64 x1.gd) ∧ W.cell? ⟨w2.heap.size, 2, none⟩ = some (.slice x1.A x1.n x1.c))) (hM.cells) (fun hF9 => ?_); clear hF8)
        try simp only [Act.put, List.setIfInBounds_toArray, List.set_cons_zero, List.set_cons_succ]
        (refine wpAnyK_takeL Keep2.refl (i := 18) (v := ?_) rfl (by kernel_rfl) (by kernel_rfl) (by kernel_rfl) (fun _ _ _ h => h) (by rfl) ?_ ?_; rotate_left 1; focus (intro w; go_simp; try with_reducible rfl))
        try simp only [Act.put, List.setIfInBounds_toArray, List.set_cons_zero, List.set_cons_succ]
        (refine wpAnyK_takeL Keep2.refl (i := 19) (v := ?_) rfl (by kernel_rfl) (by kernel_rfl) (by kernel_rfl) (fun _ _ _ h => h) (by rfl) ?_ ?_; rotate_left 1; focus (intro w; go_simp; try with_reducible rfl))
        try simp only [Act.put, List.setIfInBounds_toArray, List.set_cons_zero, List.set_cons_succ]
        refine wpAnyK_done (by kernel_rfl) ?_ _
        go_wp2_with fail
        go_meet
        exact ⟨_, _, _, _, rfl, rfl, rfl, hA, hG, hL, hM⟩
    · refine wpOp_of rfl (by rfl) (fun K hK => ?_)
      go_simp
      (refine (cast_any d x1.st _ hM.die (by omega)).mono ?_; rintro e w7 ⟨v1, _, rfl, hd7, hg7⟩; (try replace hA := hA.keep hg7); (try replace hL := hL.keep hg7); replace hM := hM.step hg7 hd7; clear hg7 hd7)
      (refine hK _ _ ⟨⟨fun _ _ => hM.cells, fun h => absurd h (by decide)⟩, ?_⟩; clear hK K)
      (refine wpAnyK_with (F := fun W => (W.cell? ⟨w.heap.size, 0, none⟩ = some (.int .i64 x0.st) ∧ W.cell? ⟨w.heap.size, 1, none⟩ = some (.int .i64 x0.gd) ∧ W.cell? ⟨w.heap.size, 2, none⟩ = some (.slice x0.A x0.n x0.c)) ∧ (W.cell? ⟨w2.heap.size, 0, none⟩ = some (.int .i64 x1.st) ∧ W.cell? ⟨w2.heap.size, 1, none⟩ = some (.int .i64 x1.gd) ∧ W.cell? ⟨w2.heap.size, 2, none⟩ = some (.slice x1.A x1.n x1.c))) (hM.cells) (fun hF10 => ?_); clear hF0)
      try simp only [Act.put, List.setIfInBounds_toArray, List.set_cons_zero, List.set_cons_succ]
      refine wpAnyK_all (rs := [4, 11, 16]) (by kernel_rfl) (by simp) ?_
      refine List.forall_mem_cons.2 ⟨?_, List.forall_mem_cons.2 ⟨?_, List.forall_mem_cons.2 ⟨?_, fun _ h => absurd h List.not_mem_nil⟩⟩⟩
      · refine wpOp_of rfl (by rfl) (fun K hK => ?_)
        go_simp
        (have hA := Arr.new encB_len hM.die.lt [x0, x1, x1, x1] 24 #[.int .i64 x0.st, .int .i64 x0.gd, .slice x0.A x0.n x0.c, .int .i64 x1.st, .int .i64 x1.gd, .slice x1.A x1.n x1.c, .int .i64 x1.st, .int .i64 x1.gd, .slice x1.A x1.n x1.c, .int .i64 x1.st, .int .i64 x1.gd, .slice x1.A x1.n x1.c] rfl; (try simp only [World.size_drew, World.size_alloc] at hA); (try replace hG := hG.keep (only_alloc (only_refl _ d) (.cells #[.int .i64 x0.st, .int .i64 x0.gd, .slice x0.A x0.n x0.c, .int .i64 x1.st, .int .i64 x1.gd, .slice x1.A x1.n x1.c, .int .i64 x1.st, .int .i64 x1.gd, .slice x1.A x1.n x1.c, .int .i64 x1.st, .int .i64 x1.gd, .slice x1.A x1.n x1.c] 24))); (try replace hL := hL.keep (only_alloc (only_refl _ d) (.cells #[.int .i64 x0.st, .int .i64 x0.gd, .slice x0.A x0.n x0.c, .int .i64 x1.st, .int .i64 x1.gd, .slice x1.A x1.n x1.c, .int .i64 x1.st, .int .i64 x1.gd, .slice x1.A x1.n x1.c, .int .i64 x1.st, .int .i64 x1.gd, .slice x1.A x1.n x1.c] 24))); replace hM := hM.alloc (.cells #[.int .i64 x0.st, .int .i64 x0.gd, .slice x0.A x0.n x0.c, .int .i64 x1.st, .int .i64 x1.gd, .slice x1.A x1.n x1.c, .int .i64 x1.st, .int .i64 x1.gd, .slice x1.A x1.n x1.c, .int .i64 x1.st, .int .i64 x1.gd, .slice x1.A x1.n x1.c] 24))
        (refine hK _ _ ⟨⟨fun _ _ => hM.cells, fun h => absurd h (by decide)⟩, ?_⟩; clear hK K)
        (refine wpAnyK_with (F := fun W => (W.cell? ⟨w.heap.size, 0, none⟩ = some (.int .i64 x0.st) ∧ W.cell? ⟨w.heap.size, 1, none⟩ = some (.int .i64 x0.gd) ∧ W.cell? ⟨w.heap.size, 2, none⟩ = some (.slice x0.A x0.n x0.c)) ∧ (W.cell? ⟨w2.heap.size, 0, none⟩ = some (.int .i64 x1.st) ∧ W.cell? ⟨w2.heap.size, 1, none⟩ = some (.int .i64 x1.gd) ∧ W.cell? ⟨w2.heap.size, 2, none⟩ = some (.slice x1.A x1.n x1.c))) (hM.cells) (fun hF11 => ?_); clear hF10)
        try simp only [Act.put, List.setIfInBounds_toArray, List.set_cons_zero, List.set_cons_succ]
        (refine wpAnyK_takeL Keep2.refl (i := 17) (v := ?_) rfl (by kernel_rfl) (by kernel_rfl) (by kernel_rfl) (fun _ _ _ h => h) (by rfl) ?_ ?_; rotate_left 1; focus (intro w; go_simp; try with_reducible rfl))
        try simp only [Act.put, List.setIfInBounds_toArray, List.set_cons_zero, List.set_cons_succ]
        refine wpAnyK_all (rs := [11, 16]) (by kernel_rfl) (by simp) ?_
        refine List.forall_mem_cons.2 ⟨?_, List.forall_mem_cons.2 ⟨?_, fun _ h => absurd h List.not_mem_nil⟩⟩
        · refine wpOp_of rfl (by rfl) (fun K hK => ?_)
          go_simp
          (have hG := Arr.new encI_len hM.die.lt [stall, v1, stall, 0] 3 #[.int .i64 stall, .int .i64 v1, .int .i64 stall, .int .i64 0] rfl; (try simp only [World.size_drew, World.size_alloc] at hG); (try replace hA := hA.keep (only_alloc (only_refl _ d) (.cells #[.int .i64 stall, .int .i64 v1, .int .i64 stall, .int .i64 0] 3))); (try replace hL := hL.keep (only_alloc (only_refl _ d) (.cells #[.int .i64 stall, .int .i64 v1, .int .i64 stall, .int .i64 0] 3))); replace hM := hM.alloc (.cells #[.int .i64 stall, .int .i64 v1, .int .i64 stall, .int .i64 0] 3))
          (refine hK _ _ ⟨⟨fun _ _ => hM.cells, fun h => absurd h (by decide)⟩, ?_⟩; clear hK K)
          (refine wpAnyK_with (F := fun W => (W.cell? ⟨w.heap.size, 0, none⟩ = some (.int .i64 x0.st) ∧ W.cell? ⟨w.heap.size, 1, none⟩ = some (.int .i64 x0.gd) ∧ W.cell? ⟨w.heap.size, 2, none⟩ = some (.slice x0.A x0.n x0.c)) ∧ (W.cell? ⟨w2.heap.size, 0, none⟩ = some (.int .i64 x1.st) ∧ W.cell? ⟨w2.heap.size, 1, none⟩ = some (.int .i64 x1.gd) ∧ W.cell? ⟨w2.heap.size, 2, none⟩ = some (.slice x1.A x1.n x1.c))) (hM.cells) (fun hF12 => ?_); clear hF11)
          try simp only [Act.put, List.setIfInBounds_toArray, List.set_cons_zero, List.set_cons_succ]
          (refine wpAnyK_takeL Keep2.refl (i := 18) (v := ?_) rfl (by kernel_rfl) (by kernel_rfl) (by kernel_rfl) (fun _ _ _ h => h) (by rfl) ?_ ?_; rotate_left 1; focus (intro w; go_simp; try with_reducible rfl))
          try simp only [Act.put, List.setIfInBounds_toArray, List.set_cons_zero, List.set_cons_succ]
          refine wpAnyK_step (i := 16) rfl (by kernel_rfl) (by rfl) (fun K hK => ?_)
          go_simp
          (have hL := Arr.new encL_len hM.die.lt [y0, y1, y2, y0] 51 #[.slice y0.A y0.n y0.c, .slice y1.A y1.n y1.c, .slice y2.A y2.n y2.c, .slice y0.A y0.n y0.c] rfl; (try simp only [World.size_drew, World.size_alloc] at hL); (try replace hA := hA.keep (only_alloc (only_refl _ d) (.cells #[.slice y0.A y0.n y0.c, .slice y1.A y1.n y1.c, .slice y2.A y2.n y2.c, .slice y0.A y0.n y0.c] 51))); (try replace hG := hG.keep (only_alloc (only_refl _ d) (.cells #[.slice y0.A y0.n y0.c, .slice y1.A y1.n y1.c, .slice y2.A y2.n y2.c, .slice y0.A y0.n y0.c] 51))); replace hM := hM.alloc (.cells #[.slice y0.A y0.n y0.c, .slice y1.A y1.n y1.c, .slice y2.A y2.n y2.c, .slice y0.A y0.n y0.c] 51))
          (refine hK _ _ (⟨fun _ _ => hM.cells, fun h => absurd h (by decide)⟩) ?_; clear hK K)
          (refine wpAnyK_with (F := fun W => (W.cell? ⟨w.heap.size, 0, none⟩ = some (.int .i64 x0.st) ∧ W.cell? ⟨w.heap.size, 1, none⟩ = some (.int .i64 x0.gd) ∧ W.cell? ⟨w.heap.size, 2, none⟩ = some (.slice x0.A x0.n x0.c)) ∧ (W.cell? ⟨w2.heap.size, 0, none⟩ = some (.int .i64 x1.st) ∧ W.cell? ⟨w2.heap.size, 1, none⟩ = some (.int .i64 x1.gd) ∧ W.cell? ⟨w2.heap.size, 2, none⟩ = some (.slice x1.A x1.n x1.c))) (hM.cells) (fun hF13 => ?_); clear hF12)
          try simp only [Act.put, List.setIfInBounds_toArray, List.set_cons_zero, List.set_cons_succ]
          (refine wpAnyK_takeL Keep2.refl (i := 19) (v := ?_) rfl (by kernel_rfl) (by kernel_rfl) (by kernel_rfl) (fun _ _ _ h => h) (by rfl) ?_ ?_; rotate_left 1; focus (intro w; go_simp; try with_reducible rfl))
          try simp only [Act.put, List.setIfInBounds_toArray, List.set_cons_zero, List.set_cons_succ]
          refine wpAnyK_done (by kernel_rfl) ?_ _
          go_wp2_with fail
          go_meet
          exact ⟨_, _, _, _, rfl, rfl, rfl, hA, hG, hL, hM⟩
        · refine wpOp_of rfl (by rfl) (fun K hK => ?_)
          go_simp
          (have hL := Arr.new encL_len hM.die.lt [y0, y1, y2, y0] 51 #[.slice y0.A y0.n y0.c, .slice y1.A y1.n y1.c, .slice y2.A y2.n y2.c, .slice y0.A y0.n y0.c] rfl; (try simp only [World.size_drew, World.size_alloc] at hL); (try replace hA := hA.keep (only_alloc (only_refl _ d) (.cells #[.slice y0.A y0.n y0.c, .slice y1.A y1.n y1.c, .slice y2.A y2.n y2.c, .slice y0.A y0.n y0.c] 51))); (try replace hG := hG.keep (only_alloc (only_refl _ d) (.cells #[.slice y0.A y0.n y0.c, .slice y1.A y1.n y1.c, .slice y2.A y2.n y2.c, .slice y0.A y0.n y0.c] 51))); replace hM := hM.alloc (.cells #[.slice y0.A y0.n y0.c, .slice y1.A y1.n y1.c, .slice y2.A y2.n y2.c, .slice y0.A y0.n y0.c] 51))
          (refine hK _ _ ⟨⟨fun _ _ => hM.cells, fun h => absurd h (by decide)⟩, ?_⟩; clear hK K)
          (refine wpAnyK_with (F := fun W => (W.cell? ⟨w.heap.size, 0, none⟩ = some (.int .i64 x0.st) ∧ W.cell? ⟨w.heap.size, 1, none⟩ = some (.int .i64 x0.gd) ∧ W.cell? ⟨w.heap.size, 2, none⟩ = some (.slice x0.A x0.n x0.c)) ∧ (W.cell? ⟨w2.heap.size, 0, none⟩ = some (.int .i64 x1.st) ∧ W.cell? ⟨w2.heap.size, 1, none⟩ = some (.int .i64 x1.gd) ∧ W.cell? ⟨w2.heap.size, 2, none⟩ = some (.slice x1.A x1.n x1.c))) (hM.cells) (fun hF14 => ?_); clear hF11)
          try simp only [Act.put, List.setIfInBounds_toArray, List.set_cons_zero, List.set_cons_succ]
          refine wpAnyK_step (i := 11) rfl (by kernel_rfl) (by rfl) (fun K hK => ?_)
          go_simp
          (have hG := Arr.new encI_len hM.die.lt [stall, v1, stall, 0] 3 #[.int .i64 stall, .int .i64 v1, .int .i64 stall, .int .i64 0] rfl; (try simp only [World.size_drew, World.size_alloc] at hG); (try replace hA := hA.keep (only_alloc (only_refl _ d) (.cells #[.int .i64 stall, .int .i64 v1, .int .i64 stall, .int .i64 0] 3))); (try replace hL := hL.keep (only_alloc (only_refl _ d) (.cells #[.int .i64 stall, .int .i64 v1, .int .i64 stall, .int .i64 0] 3))); replace hM := hM.alloc (.cells #[.int .i64 stall, .int .i64 v1, .int .i64 stall, .int .i64 0] 3))
          (refine hK _ _ (⟨fun _ _ => hM.cells, fun h => absurd h (by decide)⟩) ?_; clear hK K)
          (refine wpAnyK_with (F := fun W => (W.cell? ⟨w.heap.size, 0, none⟩ = some (.int .i64 x0.st) ∧ W.cell? ⟨w.heap.size, 1, none⟩ = some (.int .i64 x0.gd) ∧ W.cell? ⟨w.heap.size, 2, none⟩ = some (.slice x0.A x0.n x0.c)) ∧ (W.cell? ⟨w2.heap.size, 0, none⟩ = some (.int .i64 x1.st) ∧ W.cell? ⟨w2.heap.size, 1, none⟩ = some (.int .i64 x1.gd) ∧ W.cell? ⟨w2.heap.size, 2, none⟩ = some (.slice x1.A x1.n x1.c))) (hM.cells) (fun hF15 => ?_); clear hF14)
          try simp only [Act.put, List.setIfInBounds_toArray, List.set_cons_zero, List.set_cons_succ]
          (refine wpAnyK_takeL Keep2.refl (i := 18) (v := ?_) rfl (by kernel_rfl) (by kernel_rfl) (by kernel_rfl) (fun _ _ _ h => h) (by rfl) ?_ ?_; rotate_left 1; focus (intro w; go_simp; try with_reducible rfl))
          try simp only [Act.put, List.setIfInBounds_toArray, List.set_cons_zero, List.set_cons_succ]
          (refine wpAnyK_takeL Keep2.refl (i := 19) (v := ?_) rfl (by kernel_rfl) (by kernel_rfl) (by kernel_rfl) (fun _ _ _ h => h) (by rfl) ?_ ?_; rotate_left 1; focus (intro w; go_simp; try with_reducible rfl))
          try simp only [Act.put, List.setIfInBounds_toArray, List.set_cons_zero, List.set_cons_succ]
          refine wpAnyK_done (by kernel_rfl) ?_ _
          go_wp2_with fail
          go_meet
          exact ⟨_, _, _, _, rfl, rfl, rfl, hA, hG, hL, hM⟩
      · refine wpOp_of rfl (by rfl) (fun K hK => ?_)
        go_simp
        (have hG := Arr.new encI_len hM.die.lt [stall, v1, stall, 0] 3 #[.int .i64 stall, .int .i64 v1, .int .i64 stall, .int .i64 0] rfl; (try simp only [World.size_drew, World.size_alloc] at hG); (try replace hA := hA.keep (only_alloc (only_refl _ d) (.cells #[.int .i64 stall, .int .i64 v1, .int .i64 stall, .int .i64 0] 3))); (try replace hL := hL.keep (only_alloc (only_refl _ d) (.cells #[.int .i64 stall, .int .i64 v1, .int .i64 stall, .int .i64 0] 3))); replace hM := hM.alloc (.cells #[.int .i64 stall, .int .i64 v1, .int .i64 stall, .int .i64 0] 3))
        (refine hK _ _ ⟨⟨fun _ _ => hM.cells, fun h => absurd h (by decide)⟩, ?_⟩; clear hK K)
        (refine wpAnyK_with (F := fun W => (W.cell? ⟨w.heap.size, 0, none⟩ = some (.int .i64 x0.st) ∧ W.cell? ⟨w.heap.size, 1, none⟩ = some (.int .i64 x0.gd) ∧ W.cell? ⟨w.heap.size, 2, none⟩ = some (.slice x0.A x0.n x0.c)) ∧ (W.cell? ⟨w2.heap.size, 0, none⟩ = some (.int .i64 x1.st) ∧ W.cell? ⟨w2.heap.size, 1, none⟩ = some (.int .i64 x1.gd) ∧ W.cell? ⟨w2.heap.size, 2, none⟩ = some (.slice x1.A x1.n x1.c))) (hM.cells) (fun hF16 => ?_); clear hF10)
        try simp only [Act.put, List.setIfInBounds_toArray, List.set_cons_zero, List.set_cons_succ]
        refine wpAnyK_all (rs := [4, 16]) (by kernel_rfl) (by simp) ?_
        refine List.forall_mem_cons.2 ⟨?_, List.forall_mem_cons.2 ⟨?_, fun _ h => absurd h List.not_mem_nil⟩⟩
        · refine wpOp_of rfl (by rfl) (fun K hK => ?_)
          go_simp
          (have hA := Arr.new encB_len hM.die.lt [x0, x1, x1, x1] 24 #[.int .i64 x0.st, .int .i64 x0.gd, .slice x0.A x0.n x0.c, .int .i64 x1.st, .int .i64 x1.gd, .slice x1.A x1.n x1.c, .int .i64 x1.st, .int .i64 x1.gd, .slice x1.A x1.n x1.c, .int .i64 x1.st, .int .i64 x1.gd, .slice x1.A x1.n x1.c] rfl; (try simp only [World.size_drew, World.size_alloc] at hA); (try replace hG := hG.keep (only_alloc (only_refl _ d) (.cells #[.int .i64 x0.st, .int .i64 x0.gd, .slice x0.A x0.n x0.c, .int .i64 x1.st, .int .i64 x1.gd, .slice x1.A x1.n x1.c, .int .i64 x1.st, .int .i64 x1.gd, .slice x1.A x1.n x1.c, .int .i64 x1.st, .int .i64 x1.gd, .slice x1.A x1.n x1.c] 24))); (try replace hL := hL.keep (only_alloc (only_refl _ d) (.cells #[.int .i64 x0.st, .int .i64 x0.gd, .slice x0.A x0.n x0.c, .int .i64 x1.st, .int .i64 x1.gd, .slice x1.A x1.n x1.c, .int .i64 x1.st, .int .i64 x1.gd, .slice x1.A x1.n x1.c, .int .i64 x1.st, .int .i64 x1.gd, .slice x1.A x1.n x1.c] 24))); replace hM := hM.alloc (.cells #[.int .i64 x0.st, .int .i64 x0.gd, .slice x0.A x0.n x0.c, .int .i64 x1.st, .int .i64 x1.gd, .slice x1.A x1.n x1.c, .int .i64 x1.st, .int .i64 x1.gd, .slice x1.A x1.n x1.c, .int .i64 x1.st, .int .i64 x1.gd, .slice x1.A x1.n x1.c] 24))
          (refine hK _ _ ⟨⟨fun _ _ => hM.cells, fun h => absurd h (by decide)⟩, ?_⟩; clear hK K)
          (refine wpAnyK_with (F := fun W => (W.cell? ⟨w.heap.size, 0, none⟩ = some (.int .i64 x0.st) ∧ W.cell? ⟨w.heap.size, 1, none⟩ = some (.int .i64 x0.gd) ∧ W.cell? ⟨w.heap.size, 2, none⟩ = some (.slice x0.A x0.n x0.c)) ∧ (W.cell? ⟨w2.heap.size, 0, none⟩ = some (.int .i64 x1.st) ∧ W.cell? ⟨w2.heap.size, 1, none⟩ = some (.int .i64 x1.gd) ∧ W.cell? ⟨w2.heap.size, 2, none⟩ = some (.slice x1.A x1.n x1.c))) (hM.cells) (fun hF17 => ?_); clear hF16)
          try simp only [Act.put, List.setIfInBounds_toArray, List.set_cons_zero, List.set_cons_succ]
          (refine wpAnyK_takeL Keep2.refl (i := 17) (v := ?_) rfl (by kernel_rfl) (by kernel_rfl) (by kernel_rfl) (fun _ _ _ h => h) (by rfl) ?_ ?_; rotate_left 1; focus (intro w; go_simp; try with_reducible rfl))
          try simp only [Act.put, List.setIfInBounds_toArray, List.set_cons_zero, List.set_cons_succ]
          (refine wpAnyK_takeL Keep2.refl (i := 18) (v := ?_) rfl (by kernel_rfl) (by kernel_rfl) (by kernel_rfl) (fun _ _ _ h => h) (by rfl) ?_ ?_; rotate_left 1; focus (intro w; go_simp; try with_reducible rfl))
          try simp only [Act.put, List.setIfInBounds_toArray, List.set_cons_zero, List.set_cons_succ]
          refine wpAnyK_step (i := 16) rfl (by kernel_rfl) (by rfl) (fun K hK => ?_)
          go_simp
          (have hL := Arr.new encL_len hM.die.lt [y0, y1, y2, y0] 51 #[.slice y0.A y0.n y0.c, .slice y1.A y1.n y1.c, .slice y2.A y2.n y2.c, .slice y0.A y0.n y0.c] rfl; (try simp only [World.size_drew, World.size_alloc] at hL); (try replace hA := hA.keep (only_alloc (only_refl _ d) (.cells #[.slice y0.A y0.n y0.c, .slice y1.A y1.n y1.c, .slice y2.A y2.n y2.c, .slice y0.A y0.n y0.c] 51))); (try replace hG := hG.keep (only_alloc (only_refl _ d) (.cells #[.slice y0.A y0.n y0.c, .slice y1.A y1.n y1.c, .slice y2.A y2.n y2.c, .slice y0.A y0.n y0.c] 51))); replace hM := hM.alloc (.cells #[.slice y0.A y0.n y0.c, .slice y1.A y1.n y1.c, .slice y2.A y2.n y2.c, .slice y0.A y0.n y0.c] 51))
          (refine hK _ _ (⟨fun _ _ => hM.cells, fun h => absurd h (by decide)⟩) ?_; clear hK K)
          (refine wpAnyK_with (F := fun W => (W.cell? ⟨w.heap.size, 0, none⟩ = some (.int .i64 x0.st) ∧ W.cell? ⟨w.heap.size, 1, none⟩ = some (.int .i64 x0.gd) ∧ W.cell? ⟨w.heap.size, 2, none⟩ = some (.slice x0.A x0.n x0.c)) ∧ (W.cell? ⟨w2.heap.size, 0, none⟩ = some (.int .i64 x1.st) ∧ W.cell? ⟨w2.heap.size, 1, none⟩ = some (.int .i64 x1.gd) ∧ W.cell? ⟨w2.heap.size, 2, none⟩ = some (.slice x1.A x1.n x1.c))) (hM.cells) (fun hF18 => ?_); clear hF17)
          try simp only [Act.put, List.setIfInBounds_toArray, List.set_cons_zero, List.set_cons_succ]
          (refine wpAnyK_takeL Keep2.refl (i := 19) (v := ?_) rfl (by kernel_rfl) (by kernel_rfl) (by kernel_rfl) (fun _ _ _ h => h) (by rfl) ?_ ?_; rotate_left 1; focus (intro w; go_simp; try with_reducible rfl))
          try simp only [Act.put, List.setIfInBounds_toArray, List.set_cons_zero, List.set_cons_succ]
          refine wpAnyK_done (by kernel_rfl) ?_ _
          go_wp2_with fail
          go_meet
          exact ⟨_, _, _, _, rfl, rfl, rfl, hA, hG, hL, hM⟩
        · refine wpOp_of rfl (by rfl) (fun K hK => ?_)
          go_simp
          (have hL := Arr.new encL_len hM.die.lt [y0, y1, y2, y0] 51 #[.slice y0.A y0.n y0.c, .slice y1.A y1.n y1.c, .slice y2.A y2.n y2.c, .slice y0.A y0.n y0.c] rfl; (try simp only [World.size_drew, World.size_alloc] at hL); (try replace hA := hA.keep (only_alloc (only_refl _ d) (.cells #[.slice y0.A y0.n y0.c, .slice y1.A y1.n y1.c, .slice y2.A y2.n y2.c, .slice y0.A y0.n y0.c] 51))); (try replace hG := hG.keep (only_alloc (only_refl _ d) (.cells #[.slice y0.A y0.n y0.c, .slice y1.A y1.n y1.c, .slice y2.A y2.n y2.c, .slice y0.A y0.n y0.c] 51))); replace hM := hM.alloc (.cells #[.slice y0.A y0.n y0.c, .slice y1.A y1.n y1.c, .slice y2.A y2.n y2.c, .slice y0.A y0.n y0.c] 51))
          (refine hK _ _ ⟨⟨fun _ _ => hM.cells, fun h => absurd h (by decide)⟩, ?_⟩; clear hK K)
          (refine wpAnyK_with (F := fun W => (W.cell? ⟨w.heap.size, 0, none⟩ = some (.int .i64 x0.st) ∧ W.cell? ⟨w.heap.size, 1, none⟩ = some (.int .i64 x0.gd) ∧ W.cell? ⟨w.heap.size, 2, none⟩ = some (.slice x0.A x0.n x0.c)) ∧ (W.cell? ⟨w2.heap.size, 0, none⟩ = some (.int .i64 x1.st) ∧ W.cell? ⟨w2.heap.size, 1, none⟩ = some (.int .i64 x1.gd) ∧ W.cell? ⟨w2.heap.size, 2, none⟩ = some (.slice x1.A x1.n x1.c))) (hM.cells) (fun hF19 => ?_); clear hF16)
          try simp only [Act.put, List.setIfInBounds_toArray, List.set_cons_zero, List.set_cons_succ]
          refine wpAnyK_step (i := 4) rfl (by kernel_rfl) (by rfl) (fun K hK => ?_)
          go_simp
          (have hA := Arr.new encB_len hM.die.lt [x0, x1, x1, x1] 24 #[.int .i64 x0.st, .int .i64 x0.gd, .slice x0.A x0.n x0.c, .int .i64 x1.st, .int .i64 x1.gd, .slice x1.A x1.n x1.c, .int .i64 x1.st, .int .i64 x1.gd, .slice x1.A x1.n x1.c, .int .i64 x1.st, .int .i64 x1.gd, .slice x1.A x1.n x1.c] rfl; (try simp only [World.size_drew, World.size_alloc] at hA); (try replace hG := hG.keep (only_alloc (only_refl _ d) (.cells #[.int .i64 x0.st, .int .i64 x0.gd, .slice x0.A x0.n x0.c, .int .i64 x1.st, .int .i64 x1.gd, .slice x1.A x1.n x1.c, .int .i64 x1.st, .int .i64 x1.gd, .slice x1.A x1.n x1.c, .int .i64 x1.st, .int .i64 x1.gd, .slice x1.A x1.n x1.c] 24))); (try replace hL := hL.keep (only_alloc (only_refl _ d) (.cells #[.int .i64 x0.st, .int .i64 x0.gd, .slice x0.A x0.n x0.c, .int .i64 x1.st, .int .i64 x1.gd, .slice x1.A x1.n x1.c, .int .i64 x1.st, .int .i64 x1.gd, .slice x1.A x1.n x1.c, .int .i64 x1.st, .int .i64 x1.gd, .slice x1.A x1.n x1.c] 24))); replace hM := hM.alloc (.cells #[.int .i64 x0.st, .int .i64 x0.gd, .slice x0.A x0.n x0.c, .int .i64 x1.st, .int .i64 x1.gd, .slice x1.A x1.n x1.c, .int .i64 x1.st, .int .i64 x1.gd, .slice x1.A x1.n x1.c, .int .i64 x1.st, .int .i64 x1.gd, .slice x1.A x1.n x1.c] 24))
          (refine hK _ _ (⟨fun _ _ => hM.cells, fun h => absurd h (by decide)⟩) ?_; clear hK K)
          (refine wpAnyK_with (F := fun W => (W.cell? ⟨w.heap.size, 0, none⟩ = some (.int .i64 x0.st) ∧ W.cell? ⟨w.heap.size, 1, none⟩ = some (.int .i64 x0.gd) ∧ W.cell? ⟨w.heap.size, 2, none⟩ = some (.slice x0.A x0.n x0.c)) ∧ (W.cell? ⟨w2.heap.size, 0, none⟩ = some (.int .i64 x1.st) ∧ W.cell? ⟨w2.heap.size, 1, none⟩ = some (.int .i64 x1.gd) ∧ W.cell? ⟨w2.heap.size, 2, none⟩ = some (.slice x1.A x1.n x1.c))) (hM.cells) (fun hF20 => ?_); clear hF19)
          try simp only [Act.put, List.setIfInBounds_toArray, List.set_cons_zero, List.set_cons_succ]
          (refine wpAnyK_takeL Keep2.refl (i := 17) (v := ?_) rfl (by kernel_rfl) (by kernel_rfl) (by kernel_rfl) (fun _ _ _ h => h) (by rfl) ?_ ?_; rotate_left 1; focus (intro w; go_simp; try with_reducible rfl))
          try simp only [Act.put, List.setIfInBounds_toArray, List.set_cons_zero, List.set_cons_succ]
          (refine wpAnyK_takeL Keep2.refl (i := 18) (v := ?_) rfl (by kernel_rfl) (by kernel_rfl) (by kernel_rfl) (fun _ _ _ h => h) (by rfl) ?_ ?_; rotate_left 1; focus (intro w; go_simp; try with_reducible rfl))
          try simp only [Act.put, List.setIfInBounds_toArray, List.set_cons_zero, List.set_cons_succ]
          (refine wpAnyK_takeL Keep2.refl (i := 19) (v := ?_) rfl (by kernel_rfl) (by kernel_rfl) (by kernel_rfl) (fun _ _ _ h => h) (by rfl) ?_ ?_; rotate_left 1; focus (intro w; go_simp; try with_reducible rfl))
          try simp only [Act.put, List.setIfInBounds_toArray, List.set_cons_zero, List.set_cons_succ]
          refine wpAnyK_done (by kernel_rfl) ?_ _
          go_wp2_with fail
          go_meet
          exact ⟨_, _, _, _, rfl, rfl, rfl, hA, hG, hL, hM⟩
      · refine wpOp_of rfl (by rfl) (fun K hK => ?_)
        go_simp
        (have hL := Arr.new encL_len hM.die.lt [y0, y1, y2, y0] 51 #[.slice y0.A y0.n y0.c, .slice y1.A y1.n y1.c, .slice y2.A y2.n y2.c, .slice y0.A y0.n y0.c] rfl; (try simp only [World.size_drew, World.size_alloc] at hL); (try replace hA := hA.keep (only_alloc (only_refl _ d) (.cells #[.slice y0.A y0.n y0.c, .slice y1.A y1.n y1.c, .slice y2.A y2.n y2.c, .slice y0.A y0.n y0.c] 51))); (try replace hG := hG.keep (only_alloc (only_refl _ d) (.cells #[.slice y0.A y0.n y0.c, .slice y1.A y1.n y1.c, .slice y2.A y2.n y2.c, .slice y0.A y0.n y0.c] 51))); replace hM := hM.alloc (.cells #[.slice y0.A y0.n y0.c, .slice y1.A y1.n y1.c, .slice y2.A y2.n y2.c, .slice y0.A y0.n y0.c] 51))
        (refine hK _ _ ⟨⟨fun _ _ => hM.cells, fun h => absurd h (by decide)⟩, ?_⟩; clear hK K)
        (refine wpAnyK_with (F := fun W => (W.cell? ⟨w.heap.size, 0, none⟩ = some (.int .i64 x0.st) ∧ W.cell? ⟨w.heap.size, 1, none⟩ = some (.int .i64 x0.gd) ∧ W.cell? ⟨w.heap.size, 2, none⟩ = some (.slice x0.A x0.n x0.c)) ∧ (W.cell? ⟨w2.heap.size, 0, none⟩ = some (.int .i64 x1.st) ∧ W.cell? ⟨w2.heap.size, 1, none⟩ = some (.int .i64 x1.gd) ∧ W.cell? ⟨w2.heap.size, 2, none⟩ = some (.slice x1.A x1.n x1.c))) (hM.cells) (fun hF21 => ?_); clear hF10)
        try simp only [Act.put, List.setIfInBounds_toArray, List.set_cons_zero, List.set_cons_succ]
        refine wpAnyK_all (rs := [4, 11]) (by kernel_rfl) (by simp) ?_
        refine List.forall_mem_cons.2 ⟨?_, List.forall_mem_cons.2 ⟨?_, fun _ h => absurd h List.not_mem_nil⟩⟩
        · refine wpOp_of rfl (by rfl) (fun K hK => ?_)
          go_simp
          (have hA := Arr.new encB_len hM.die.lt [x0, x1, x1, x1] 24 #[.int .i64 x0.st, .int .i64 x0.gd, .slice x0.A x0.n x0.c, .int .i64 x1.st, .int .i64 x1.gd, .slice x1.A x1.n x1.c, .int .i64 x1.st, .int .i64 x1.gd, .slice x1.A x1.n x1.c, .int .i64 x1.st, .int .i64 x1.gd, .slice x1.A x1.n x1.c] rfl; (try simp only [World.size_drew, World.size_alloc] at hA); (try replace hG := hG.keep (only_alloc (only_refl _ d) (.cells #[.int .i64 x0.st, .int .i64 x0.gd, .slice x0.A x0.n x0.c, .int .i64 x1.st, .int .i64 x1.gd, .slice x1.A x1.n x1.c, .int .i64 x1.st, .int .i64 x1.gd, .slice x1.A x1.n x1.c, .int .i64 x1.st, .int .i64 x1.gd, .slice x1.A x1.n x1.c] 24))); (try replace hL := hL.keep (only_alloc (only_refl _ d) (.cells #[.int .i64 x0.st, .int .i64 x0.gd, .slice x0.A x0.n x0.c, .int .i64 x1.st, .int .i64 x1.gd, .slice x1.A x1.n x1.c, .int .i64 x1.st, .int .i64 x1.gd, .slice x1.A x1.n x1.c, .int .i64 x1.st, .int .i64 x1.gd, .slice x1.A x1.n x1.c] 24))); replace hM := hM.alloc (.cells #[.int .i64 x0.st, .int .i64 x0.gd, .slice x0.A x0.n x0.c, .int .i64 x1.st, .int .i64 x1.gd, .slice x1.A x1.n x1.c, .int .i64 x1.st, .int .i64 x1.gd, .slice x1.A x1.n x1.c, .int .i64 x1.st, .int .i64 x1.gd, .slice x1.A x1.n x1.c] 24))
          (refine hK _ _ ⟨⟨fun _ _ => hM.cells, fun h => absurd h (by decide)⟩, ?_⟩; clear hK K)
          (refine wpAnyK_with (F := fun W => (W.cell? ⟨w.heap.size, 0, none⟩ = some (.int .i64 x0.st) ∧ W.cell? ⟨w.heap.size, 1, none⟩ = some (.int .i64 x0.gd) ∧ W.cell? ⟨w.heap.size, 2, none⟩ = some (.slice x0.A x0.n x0.c)) ∧ (W.cell? ⟨w2.heap.size, 0, none⟩ = some (.int .i64 x1.st) ∧ W.cell? ⟨w2.heap.size, 1, none⟩ = some (.int .i64 x1.gd) ∧ W.cell? ⟨w2.heap.size, 2, none⟩ = some (.slice x1.A x1.n x1.c))) (hM.cells) (fun hF22 => ?_); clear hF21)
          try simp only [Act.put, List.setIfInBounds_toArray, List.set_cons_zero, List.set_cons_succ]
          (refine wpAnyK_takeL Keep2.refl (i := 17) (v := ?_) rfl (by kernel_rfl) (by kernel_rfl) (by kernel_rfl) (fun _ _ _ h => h) (by rfl) ?_ ?_; rotate_left 1; focus (intro w; go_simp; try with_reducible rfl))
          try simp only [Act.put, List.setIfInBounds_toArray, List.set_cons_zero, List.set_cons_succ]
          refine wpAnyK_step (i := 11) rfl (by kernel_rfl) (by rfl) (fun K hK => ?_)
          go_simp
          (have hG := Arr.new encI_len hM.die.lt [stall, v1, stall, 0] 3 #[.int .i64 stall, .int .i64 v1, .int .i64 stall, .int .i64 0] rfl; (try simp only [World.size_drew, World.size_alloc] at hG); (try replace hA := hA.keep (only_alloc (only_refl _ d) (.cells #[.int .i64 stall, .int .i64 v1, .int .i64 stall, .int .i64 0] 3))); (try replace hL := hL.keep (only_alloc (only_refl _ d) (.cells #[.int .i64 stall, .int .i64 v1, .int .i64 stall, .int .i64 0] 3))); replace hM := hM.alloc (.cells #[.int .i64 stall, .int .i64 v1, .int .i64 stall, .int .i64 0] 3))
          (refine hK _ _ (⟨fun _ _ => hM.cells, fun h => absurd h (by decide)⟩) ?_; clear hK K)
          (refine wpAnyK_with (F := fun W => (W.cell? ⟨w.heap.size, 0, none⟩ = some (.int .i64 x0.st) ∧ W.cell? ⟨w.heap.size, 1, none⟩ = some (.int .i64 x0.gd) ∧ W.cell? ⟨w.heap.size, 2, none⟩ = some (.slice x0.A x0.n x0.c)) ∧ (W.cell? ⟨w2.heap.size, 0, none⟩ = some (.int .i64 x1.st) ∧ W.cell? ⟨w2.heap.size, 1, none⟩ = some (.int .i64 x1.gd) ∧ W.cell? ⟨w2.heap.size, 2, none⟩ = some (.slice x1.A x1.n x1.c))) (hM.cells) (fun hF23 => ?_); clear hF22)
          try simp only [Act.put, List.setIfInBounds_toArray, List.set_cons_zero, List.set_cons_succ]
          (refine wpAnyK_takeL Keep2.refl (i := 18) (v := ?_) rfl (by kernel_rfl) (by kernel_rfl) (by kernel_rfl) (fun _ _ _ h => h) (by rfl) ?_ ?_; rotate_left 1; focus (intro w; go_simp; try with_reducible rfl))
          try simp only [Act.put, List.setIfInBounds_toArray, List.set_cons_zero, List.set_cons_succ]
          (refine wpAnyK_takeL Keep2.refl (i := 19) (v := ?_) rfl (by kernel_rfl) (by kernel_rfl) (by kernel_rfl) (fun _ _ _ h => h) (by rfl) ?_ ?_; rotate_left 1; focus (intro w; go_simp; try with_reducible rfl))
          try simp only [Act.put, List.setIfInBounds_toArray, List.set_cons_zero, List.set_cons_succ]
          refine wpAnyK_done (by kernel_rfl) ?_ _
          go_wp2_with fail
          go_meet
          exact ⟨_, _, _, _, rfl, rfl, rfl, hA, hG, hL, hM⟩
        · refine wpOp_of rfl (by rfl) (fun K hK => ?_)
          go_simp
          (have hG := Arr.new encI_len hM.die.lt [stall, v1, stall, 0] 3 #[.int .i64 stall, .int .i64 v1, .int .i64 stall, .int .i64 0] rfl; (try simp only [World.size_drew, World.size_alloc] at hG); (try replace hA := hA.keep (only_alloc (only_refl _ d) (.cells #[.int .i64 stall, .int .i64 v1, .int .i64 stall, .int .i64 0] 3))); (try replace hL := hL.keep (only_alloc (only_refl _ d) (.cells #[.int .i64 stall, .int .i64 v1, .int .i64 stall, .int .i64 0] 3))); replace hM := hM.alloc (.cells #[.int .i64 stall, .int .i64 v1, .int .i64 stall, .int .i64 0] 3))
          (refine hK _ _ ⟨⟨fun _ _ => hM.cells, fun h => absurd h (by decide)⟩, ?_⟩; clear hK K)
          (refine wpAnyK_with (F := fun W => (W.cell? ⟨w.heap.size, 0, none⟩ = some (.int .i64 x0.st) ∧ W.cell? ⟨w.heap.size, 1, none⟩ = some (.int .i64 x0.gd) ∧ W.cell? ⟨w.heap.size, 2, none⟩ = some (.slice x0.A x0.n x0.c)) ∧ (W.cell? ⟨w2.heap.size, 0, none⟩ = some (.int .i64 x1.st) ∧ W.cell? ⟨w2.heap.size, 1, none⟩ = some (.int .i64 x1.gd) ∧ W.cell? ⟨w2.heap.size, 2, none⟩ = some (.slice x1.A x1.n x1.c))) (hM.cells) (fun hF24 => ?_); clear hF21)
          try simp only [Act.put, List.setIfInBounds_toArray, List.set_cons_zero, List.set_cons_succ]
          refine wpAnyK_step (i := 4) rfl (by kernel_rfl) (by rfl) (fun K hK => ?_)
          go_simp
          (have hA := Arr.new encB_len hM.die.lt [x0, x1, x1, x1] 24 #[.int .i64 x0.st, .int .i64 x0.gd, .slice x0.A x0.n x0.c, .int .i64 x1.st, .int .i64 x1.gd, .slice x1.A x1.n x1.c, .int .i64 x1.st, .int .i64 x1.gd, .slice x1.A x1.n x1.c, .int .i64 x1.st, .int .i64 x1.gd, .slice x1.A x1.n x1.c] rfl; (try simp only [World.size_drew, World.size_alloc] at hA); (try replace hG := hG.keep (only_alloc (only_refl _ d) (.cells #[.int .i64 x0.st, .int .i64 x0.gd, .slice x0.A x0.n x0.c, .int .i64 x1.st, .int .i64 x1.gd, .slice x1.A x1.n x1.c, .int .i64 x1.st, .int .i64 x1.gd, .slice x1.A x1.n x1.c, .int .i64 x1.st, .int .i64 x1.gd, .slice x1.A x1.n x1.c] 24))); (try replace hL := hL.keep (only_alloc (only_refl _ d) (.cells #[.int .i64 x0.st, .int .i64 x0.gd, .slice x0.A x0.n x0.c, .int .i64 x1.st, .int .i64 x1.gd, .slice x1.A x1.n x1.c, .int .i64 x1.st, .int .i64 x1.gd, .slice x1.A x1.n x1.c, .int .i64 x1.st, .int .i64 x1.gd, .slice x1.A x1.n x1.c] 24))); replace hM := hM.alloc (.cells #[.int .i64 x0.st, .int .i64 x0.gd, .slice x0.A x0.n x0.c, .int .i64 x1.st, .int .i64 x1.gd, .slice x1.A x1.n x1.c, .int .i64 x1.st, .int .i64 x1.gd, .slice x1.A x1.n x1.c, .int .i64 x1.st, .int .i64 x1.gd, .slice x1.A x1.n x1.c] 24))
          (refine hK _ _ (⟨fun _ _ => hM.cells, fun h => absurd h (by decide)⟩) ?_; clear hK K)
          (refine wpAnyK_with (F := fun W => (W.cell? ⟨w.heap.size, 0, none⟩ = some (.int .i64 x0.st) ∧ W.cell? ⟨w.heap.size, 1, none⟩ = some (.int .i64 x0.gd) ∧ W.cell? ⟨w.heap.size, 2, none⟩ = some (.slice x0.A x0.n x0.c)) ∧ (W.cell? ⟨w2.heap.size, 0, none⟩ = some (.int .i64 x1.st) ∧ W.cell? ⟨w2.heap.size, 1, none⟩ = some (.int .i64 x1.gd) ∧ W.cell? ⟨w2.heap.size, 2, none⟩ = some (.slice x1.A x1.n x1.c))) (hM.cells) (fun hF25 => ?_); clear hF24)
          try simp only [Act.put, List.setIfInBounds_toArray, List.set_cons_zero, List.set_cons_succ]
          (refine wpAnyK_takeL Keep2.refl (i := 17) (v := ?_) rfl (by kernel_rfl) (by kernel_rfl) (by kernel_rfl) (fun _ _ _ h => h) (by rfl) ?_ ?_; rotate_left 1; focus (intro w; go_simp; try with_reducible rfl))
          try simp only [Act.put, List.setIfInBounds_toArray, List.set_cons_zero, List.set_cons_succ]
          (refine wpAnyK_takeL Keep2.refl (i := 18) (v := ?_) rfl (by kernel_rfl) (by kernel_rfl) (by kernel_rfl) (fun _ _ _ h => h) (by rfl) ?_ ?_; rotate_left 1; focus (intro w; go_simp; try with_reducible rfl))
          try simp only [Act.put, List.setIfInBounds_toArray, List.set_cons_zero, List.set_cons_succ]
          (refine wpAnyK_takeL Keep2.refl (i := 19) (v := ?_) rfl (by kernel_rfl) (by kernel_rfl) (by kernel_rfl) (fun _ _ _ h => h) (by rfl) ?_ ?_; rotate_left 1; focus (intro w; go_simp; try with_reducible rfl))
          try simp only [Act.put, List.setIfInBounds_toArray, List.set_cons_zero, List.set_cons_succ]
          refine wpAnyK_done (by kernel_rfl) ?_ _
          go_wp2_with fail
          go_meet
          exact ⟨_, _, _, _, rfl, rfl, rfl, hA, hG, hL, hM⟩
    · refine wpOp_of rfl (by rfl) (fun K hK => ?_)
      go_simp
      (have hL := Arr.new encL_len hM.die.lt [y0, y1, y2, y0] 51 #[.slice y0.A y0.n y0.c, .slice y1.A y1.n y1.c, .slice y2.A y2.n y2.c, .slice y0.A y0.n y0.c] rfl; (try simp only [World.size_drew, World.size_alloc] at hL); (try replace hA := hA.keep (only_alloc (only_refl _ d) (.cells #[.slice y0.A y0.n y0.c, .slice y1.A y1.n y1.c, .slice y2.A y2.n y2.c, .slice y0.A y0.n y0.c] 51))); (try replace hG := hG.keep (only_alloc (only_refl _ d) (.cells #[.slice y0.A y0.n y0.c, .slice y1.A y1.n y1.c, .slice y2.A y2.n y2.c, .slice y0.A y0.n y0.c] 51))); replace hM := hM.alloc (.cells #[.slice y0.A y0.n y0.c, .slice y1.A y1.n y1.c, .slice y2.A y2.n y2.c, .slice y0.A y0.n y0.c] 51))
      (refine hK _ _ ⟨⟨fun _ _ => hM.cells, fun h => absurd h (by decide)⟩, ?_⟩; clear hK K)
      (refine wpAnyK_with (F := fun W => (W.cell? ⟨w.heap.size, 0, none⟩ = some (.int .i64 x0.st) ∧ W.cell? ⟨w.heap.size, 1, none⟩ = some (.int .i64 x0.gd) ∧ W.cell? ⟨w.heap.size, 2, none⟩ = some (.slice x0.A x0.n x0.c)) ∧ (W.cell? ⟨w2.heap.size, 0, none⟩ = some (.int .i64 x1.st) ∧ W.cell? ⟨w2.heap.size, 1, none⟩ = some (.int .i64 x1.gd) ∧ W.cell? ⟨w2.heap.size, 2, none⟩ = some (.slice x1.A x1.n x1.c))) (hM.cells) (fun hF26 => ?_); clear hF0)
      try simp only [Act.put, List.setIfInBounds_toArray, List.set_cons_zero, List.set_cons_succ]
      refine wpAnyK_all (rs := [4, 9]) (by kernel_rfl) (by simp) ?_
      refine List.forall_mem_cons.2 ⟨?_, List.forall_mem_cons.2 ⟨?_, fun _ h => absurd h List.not_mem_nil⟩⟩
      · refine wpOp_of rfl (by rfl) (fun K hK => ?_)
        go_simp
        (have hA := Arr.new encB_len hM.die.lt [x0, x1, x1, x1] 24 #[.int .i64 x0.st, .int .i64 x0.gd, .slice x0.A x0.n x0.c, .int .i64 x1.st, .int .i64 x1.gd, .slice x1.A x1.n x1.c, .int .i64 x1.st, .int .i64 x1.gd, .slice x1.A x1.n x1.c, .int .i64 x1.st, .int .i64 x1.gd, .slice x1.A x1.n x1.c] rfl; (try simp only [World.size_drew, World.size_alloc] at hA); (try replace hG := hG.keep (only_alloc (only_refl _ d) (.cells #[.int .i64 x0.st, .int .i64 x0.gd, .slice x0.A x0.n x0.c, .int .i64 x1.st, .int .i64 x1.gd, .slice x1.A x1.n x1.c, .int .i64 x1.st, .int .i64 x1.gd, .slice x1.A x1.n x1.c, .int .i64 x1.st, .int .i64 x1.gd, .slice x1.A x1.n x1.c] 24))); (try replace hL := hL.keep (only_alloc (only_refl _ d) (.cells #[.int .i64 x0.st, .int .i64 x0.gd, .slice x0.A x0.n x0.c, .int .i64 x1.st, .int .i64 x1.gd, .slice x1.A x1.n x1.c, .int .i64 x1.st, .int .i64 x1.gd, .slice x1.A x1.n x1.c, .int .i64 x1.st, .int .i64 x1.gd, .slice x1.A x1.n x1.c] 24))); replace hM := hM.alloc (.cells #[.int .i64 x0.st, .int .i64 x0.gd, .slice x0.A x0.n x0.c, .int .i64 x1.st, .int .i64 x1.gd, .slice x1.A x1.n x1.c, .int .i64 x1.st, .int .i64 x1.gd, .slice x1.A x1.n x1.c, .int .i64 x1.st, .int .i64 x1.gd, .slice x1.A x1.n x1.c] 24))
        (refine hK _ _ ⟨⟨fun _ _ => hM.cells, fun h => absurd h (by decide)⟩, ?_⟩; clear hK K)
        (refine wpAnyK_with (F := fun W => (W.cell? ⟨w.heap.size, 0, none⟩ = some (.int .i64 x0.st) ∧ W.cell? ⟨w.heap.size, 1, none⟩ = some (.int .i64 x0.gd) ∧ W.cell? ⟨w.heap.size, 2, none⟩ = some (.slice x0.A x0.n x0.c)) ∧ (W.cell? ⟨w2.heap.size, 0, none⟩ = some (.int .i64 x1.st) ∧ W.cell? ⟨w2.heap.size, 1, none⟩ = some (.int .i64 x1.gd) ∧ W.cell? ⟨w2.heap.size, 2, none⟩ = some (.slice x1.A x1.n x1.c))) (hM.cells) (fun hF27 => ?_); clear hF26)
        try simp only [Act.put, List.setIfInBounds_toArray, List.set_cons_zero, List.set_cons_succ]
        refine wpAnyK_step (i := 9) rfl (by kernel_rfl) (by rfl) (fun K hK => ?_)
        go_simp
        (refine (cast_any d x1.st _ hM.die (by omega)).mono ?_; rintro e w7 ⟨v1, _, rfl, hd7, hg7⟩; (try replace hA := hA.keep hg7); (try replace hL := hL.keep hg7); replace hM := hM.step hg7 hd7; clear hg7 hd7)
        (refine hK _ _ (⟨fun _ _ => hM.cells, fun h => absurd h (by decide)⟩) ?_; clear hK K)
        (refine wpAnyK_with (F := fun W => (W.cell? ⟨w.heap.size, 0, none⟩ = some (.int .i64 x0.st) ∧ W.cell? ⟨w.heap.size, 1, none⟩ = some (.int .i64 x0.gd) ∧ W.cell? ⟨w.heap.size, 2, none⟩ = some (.slice x0.A x0.n x0.c)) ∧ (W.cell? ⟨w2.heap.size, 0, none⟩ = some (.int .i64 x1.st) ∧ W.cell? ⟨w2.heap.size, 1, none⟩ = some (.int .i64 x1.gd) ∧ W.cell? ⟨w2.heap.size, 2, none⟩ = some (.slice x1.A x1.n x1.c))) (hM.cells) (fun hF28 => ?_); clear hF27)
        try simp only [Act.put, List.setIfInBounds_toArray, List.set_cons_zero, List.set_cons_succ]
        (refine wpAnyK_takeL Keep2.refl (i := 17) (v := ?_) rfl (by kernel_rfl) (by kernel_rfl) (by kernel_rfl) (fun _ _ _ h => h) (by rfl) ?_ ?_; rotate_left 1; focus (intro w; go_simp; try with_reducible rfl))
        try simp only [Act.put, List.setIfInBounds_toArray, List.set_cons_zero, List.set_cons_succ]
        refine wpAnyK_step (i := 11) rfl (by kernel_rfl) (by rfl) (fun K hK => ?_)
        go_simp
        (have hG := Arr.new encI_len hM.die.lt [stall, v1, stall, 0] 3 #[.int .i64 stall, .int .i64 v1, .int .i64 stall, .int .i64 0] rfl; (try simp only [World.size_drew, World.size_alloc] at hG); (try replace hA := hA.keep (only_alloc (only_refl _ d) (.cells #[.int .i64 stall, .int .i64 v1, .int .i64 stall, .int .i64 0] 3))); (try replace hL := hL.keep (only_alloc (only_refl _ d) (.cells #[.int .i64 stall, .int .i64 v1, .int .i64 stall, .int .i64 0] 3))); replace hM := hM.alloc (.cells #[.int .i64 stall, .int .i64 v1, .int .i64 stall, .int .i64 0] 3))
        (refine hK _ _ (⟨fun _ _ => hM.cells, fun h => absurd h (by decide)⟩) ?_; clear hK K)
        (refine wpAnyK_with (F := fun W => (W.cell? ⟨w.heap.size, 0, none⟩ = some (.int .i64 x0.st) ∧ W.cell? ⟨w.heap.size, 1, none⟩ = some (.int .i64 x0.gd) ∧ W.cell? ⟨w.heap.size, 2, none⟩ = some (.slice x0.A x0.n x0.c)) ∧ (W.cell? ⟨w2.heap.size, 0, none⟩ = some (.int .i64 x1.st) ∧ W.cell? ⟨w2.heap.size, 1, none⟩ = some (.int .i64 x1.gd) ∧ W.cell? ⟨w2.heap.size, 2, none⟩ = some (.slice x1.A x1.n x1.c))) (hM.cells) (fun hF29 => ?_); clear hF28)
        try simp only [Act.put, List.setIfInBounds_toArray, List.set_cons_zero, List.set_cons_succ]
        (refine wpAnyK_takeL Keep2.refl (i := 18) (v := ?_) rfl (by kernel_rfl) (by kernel_rfl) (by kernel_rfl) (fun _ _ _ h => h) (by rfl) ?_ ?_; rotate_left 1; focus (intro w; go_simp; try with_reducible rfl))
        try simp only [Act.put, List.setIfInBounds_toArray, List.set_cons_zero, List.set_cons_succ]
        (refine wpAnyK_takeL Keep2.refl (i := 19) (v := ?_) rfl (by kernel_rfl) (by kernel_rfl) (by kernel_rfl) (fun _ _ _ h => h) (by rfl) ?_ ?_; rotate_left 1; focus (intro w; go_simp; try with_reducible rfl))
        try simp only [Act.put, List.setIfInBounds_toArray, List.set_cons_zero, List.set_cons_succ]
        refine wpAnyK_done (by kernel_rfl) ?_ _
        go_wp2_with fail
        go_meet
        exact ⟨_, _, _, _, rfl, rfl, rfl, hA, hG, hL, hM⟩
      · refine wpOp_of rfl (by rfl) (fun K hK => ?_)
        go_simp
        (refine (cast_any d x1.st _ hM.die (by omega)).mono ?_; rintro e w7 ⟨v1, _, rfl, hd7, hg7⟩; (try replace hA := hA.keep hg7); (try replace hL := hL.keep hg7); replace hM := hM.step hg7 hd7; clear hg7 hd7)
        (refine hK _ _ ⟨⟨fun _ _ => hM.cells, fun h => absurd h (by decide)⟩, ?_⟩; clear hK K)
        (refine wpAnyK_with (F := fun W => (W.cell? ⟨w.heap.size, 0, none⟩ = some (.int .i64 x0.st) ∧ W.cell? ⟨w.heap.size, 1, none⟩ = some (.int .i64 x0.gd) ∧ W.cell? ⟨w.heap.size, 2, none⟩ = some (.slice x0.A x0.n x0.c)) ∧ (W.cell? ⟨w2.heap.size, 0, none⟩ = some (.int .i64 x1.st) ∧ W.cell? ⟨w2.heap.size, 1, none⟩ = some (.int .i64 x1.gd) ∧ W.cell? ⟨w2.heap.size, 2, none⟩ = some (.slice x1.A x1.n x1.c))) (hM.cells) (fun hF30 => ?_); clear hF26)
        try simp only [Act.put, List.setIfInBounds_toArray, List.set_cons_zero, List.set_cons_succ]
        refine wpAnyK_all (rs := [4, 11]) (by kernel_rfl) (by simp) ?_
        refine List.forall_mem_cons.2 ⟨?_, List.forall_mem_cons.2 ⟨?_, fun _ h => absurd h List.not_mem_nil⟩⟩
        · refine wpOp_of rfl (by rfl) (fun K hK => ?_)
          go_simp
          (have hA := Arr.new encB_len hM.die.lt [x0, x1, x1, x1] 24 #[.int .i64 x0.st, .int .i64 x0.gd, .slice x0.A x0.n x0.c, .int .i64 x1.st, .int .i64 x1.gd, .slice x1.A x1.n x1.c, .int .i64 x1.st, .int .i64 x1.gd, .slice x1.A x1.n x1.c, .int .i64 x1.st, .int .i64 x1.gd, .slice x1.A x1.n x1.c] rfl; (try simp only [World.size_drew, World.size_alloc] at hA); (try replace hG := hG.keep (only_alloc (only_refl _ d) (.cells #[.int .i64 x0.st, .int .i64 x0.gd, .slice x0.A x0.n x0.c, .int .i64 x1.st, .int .i64 x1.gd, .slice x1.A x1.n x1.c, .int .i64 x1.st, .int .i64 x1.gd, .slice x1.A x1.n x1.c, .int .i64 x1.st, .int .i64 x1.gd, .slice x1.A x1.n x1.c] 24))); (try replace hL := hL.keep (only_alloc (only_refl _ d) (.cells #[.int .i64 x0.st, .int .i64 x0.gd, .slice x0.A x0.n x0.c, .int .i64 x1.st, .int .i64 x1.gd, .slice x1.A x1.n x1.c, .int .i64 x1.st, .int .i64 x1.gd, .slice x1.A x1.n x1.c, .int .i64 x1.st, .int .i64 x1.gd, .slice x1.A x1.n x1.c] 24))); replace hM := hM.alloc (.cells #[.int .i64 x0.st, .int .i64 x0.gd, .slice x0.A x0.n x0.c, .int .i64 x1.st, .int .i64 x1.gd, .slice x1.A x1.n x1.c, .int .i64 x1.st, .int .i64 x1.gd, .slice x1.A x1.n x1.c, .int .i64 x1.st, .int .i64 x1.gd, .slice x1.A x1.n x1.c] 24))
          (refine hK _ _ ⟨⟨fun _ _ => hM.cells, fun h => absurd h (by decide)⟩, ?_⟩; clear hK K)
          (refine wpAnyK_with (F := fun W => (W.cell? ⟨w.heap.size, 0, none⟩ = some (.int .i64 x0.st) ∧ W.cell? ⟨w.heap.size, 1, none⟩ = some (.int .i64 x0.gd) ∧ W.cell? ⟨w.heap.size, 2, none⟩ = some (.slice x0.A x0.n x0.c)) ∧ (W.cell? ⟨w2.heap.size, 0, none⟩ = some (.int .i64 x1.st) ∧ W.cell? ⟨w2.heap.size, 1, none⟩ = some (.int .i64 x1.gd) ∧ W.cell? ⟨w2.heap.size, 2, none⟩ = some (.slice x1.A x1.n x1.c))) (hM.cells) (fun hF31 => ?_); clear hF30)
          try simp only [Act.put, List.setIfInBounds_toArray, List.set_cons_zero, List.set_cons_succ]
          (refine wpAnyK_takeL Keep2.refl (i := 17) (v := ?_) rfl (by kernel_rfl) (by kernel_rfl) (by kernel_rfl) (fun _ _ _ h => h) (by rfl) ?_ ?_; rotate_left 1; focus (intro w; go_simp; try with_reducible rfl))
          try simp only [Act.put, List.setIfInBounds_toArray, List.set_cons_zero, List.set_cons_succ]
          refine wpAnyK_step (i := 11) rfl (by kernel_rfl) (by rfl) (fun K hK => ?_)
          go_simp
          (have hG := Arr.new encI_len hM.die.lt [stall, v1, stall, 0] 3 #[.int .i64 stall, .int .i64 v1, .int .i64 stall, .int .i64 0] rfl; (try simp only [World.size_drew, World.size_alloc] at hG); (try replace hA := hA.keep (only_alloc (only_refl _ d) (.cells #[.int .i64 stall, .int .i64 v1, .int .i64 stall, .int .i64 0] 3))); (try replace hL := hL.keep (only_alloc (only_refl _ d) (.cells #[.int .i64 stall, .int .i64 v1, .int .i64 stall, .int .i64 0] 3))); replace hM := hM.alloc (.cells #[.int .i64 stall, .int .i64 v1, .int .i64 stall, .int .i64 0] 3))
          (refine hK _ _ (⟨fun _ _ => hM.cells, fun h => absurd h (by decide)⟩) ?_; clear hK K)
          (refine wpAnyK_with (F := fun W => (W.cell? ⟨w.heap.size, 0, none⟩ = some (.int .i64 x0.st) ∧ W.cell? ⟨w.heap.size, 1, none⟩ = some (.int .i64 x0.gd) ∧ W.cell? ⟨w.heap.size, 2, none⟩ = some (.slice x0.A x0.n x0.c)) ∧ (W.cell? ⟨w2.heap.size, 0, none⟩ = some (.int .i64 x1.st) ∧ W.cell? ⟨w2.heap.size, 1, none⟩ = some (.int .i64 x1.gd) ∧ W.cell? ⟨w2.heap.size, 2, none⟩ = some (.slice x1.A x1.n x1.c))) (hM.cells) (fun hF32 => ?_); clear hF31)
          try simp only [Act.put, List.setIfInBounds_toArray, List.set_cons_zero, List.set_cons_succ]
          (refine wpAnyK_takeL Keep2.refl (i := 18) (v := ?_) rfl (by kernel_rfl) (by kernel_rfl) (by kernel_rfl) (fun _ _ _ h => h) (by rfl) ?_ ?_; rotate_left 1; focus (intro w; go_simp; try with_reducible rfl))
          try simp only [Act.put, List.setIfInBounds_toArray, List.set_cons_zero, List.set_cons_succ]
          (refine wpAnyK_takeL Keep2.refl (i := 19) (v := ?_) rfl (by kernel_rfl) (by kernel_rfl) (by kernel_rfl) (fun _ _ _ h => h) (by rfl) ?_ ?_; rotate_left 1; focus (intro w; go_simp; try with_reducible rfl))
          try simp only [Act.put, List.setIfInBounds_toArray, List.set_cons_zero, List.set_cons_succ]
          refine wpAnyK_done (by kernel_rfl) ?_ _
          go_wp2_with fail
          go_meet
          exact ⟨_, _, _, _, rfl, rfl, rfl, hA, hG, hL, hM⟩
        · refine wpOp_of rfl (by rfl) (fun K hK => ?_)
          go_simp
          (have hG := Arr.new encI_len hM.die.lt [stall, v1, stall, 0] 3 #[.int .i64 stall, .int .i64 v1, .int .i64 stall, .int .i64 0] rfl; (try simp only [World.size_drew, World.size_alloc] at hG); (try replace hA := hA.keep (only_alloc (only_refl _ d) (.cells #[.int .i64 stall, .int .i64 v1, .int .i64 stall, .int .i64 0] 3))); (try replace hL := hL.keep (only_alloc (only_refl _ d) (.cells #[.int .i64 stall, .int .i64 v1, .int .i64 stall, .int .i64 0] 3))); replace hM := hM.alloc (.cells #[.int .i64 stall, .int .i64 v1, .int .i64 stall, .int .i64 0] 3))
          (refine hK _ _ ⟨⟨fun _ _ => hM.cells, fun h => absurd h (by decide)⟩, ?_⟩; clear hK K)
          (refine wpAnyK_with (F := fun W => (W.cell? ⟨w.heap.size, 0, none⟩ = some (.int .i64 x0.st) ∧ W.cell? ⟨w.heap.size, 1, none⟩ = some (.int .i64 x0.gd) ∧ W.cell? ⟨w.heap.size, 2, none⟩ = some (.slice x0.A x0.n x0.c)) ∧ (W.cell? ⟨w2.heap.size, 0, none⟩ = some (.int .i64 x1.st) ∧ W.cell? ⟨w2.heap.size, 1, none⟩ = some (.int .i64 x1.gd) ∧ W.cell? ⟨w2.heap.size, 2, none⟩ = some (.slice x1.A x1.n x1.c))) (hM.cells) (fun hF33 => ?_); clear hF30)
          try simp only [Act.put, List.setIfInBounds_toArray, List.set_cons_zero, List.set_cons_succ]
          refine wpAnyK_step (i := 4) rfl (by kernel_rfl) (by rfl) (fun K hK => ?_)
          go_simp
          (have hA := Arr.new encB_len hM.die.lt [x0, x1, x1, x1] 24 #[.int .i64 x0.st, .int .i64 x0.gd, .slice x0.A x0.n x0.c, .int .i64 x1.st, .int .i64 x1.gd, .slice x1.A x1.n x1.c, .int .i64 x1.st, .int .i64 x1.gd, .slice x1.A x1.n x1.c, .int .i64 x1.st, .int .i64 x1.gd, .slice x1.A x1.n x1.c] rfl; (try simp only [World.size_drew, World.size_alloc] at hA); (try replace hG := hG.keep (only_alloc (only_refl _ d) (.cells #[.int .i64 x0.st, .int .i64 x0.gd, .slice x0.A x0.n x0.c, .int .i64 x1.st, .int .i64 x1.gd, .slice x1.A x1.n x1.c, .int .i64 x1.st, .int .i64 x1.gd, .slice x1.A x1.n x1.c, .int .i64 x1.st, .int .i64 x1.gd, .slice x1.A x1.n x1.c] 24))); (try replace hL := hL.keep (only_alloc (only_refl _ d) (.cells #[.int .i64 x0.st, .int .i64 x0.gd, .slice x0.A x0.n x0.c, .int .i64 x1.st, .int .i64 x1.gd, .slice x1.A x1.n x1.c, .int .i64 x1.st, .int .i64 x1.gd, .slice x1.A x1.n x1.c, .int .i64 x1.st, .int .i64 x1.gd, .slice x1.A x1.n x1.c] 24))); replace hM := hM.alloc (.cells #[.int .i64 x0.st, .int .i64 x0.gd, .slice x0.A x0.n x0.c, .int .i64 x1.st, .int .i64 x1.gd, .slice x1.A x1.n x1.c, .int .i64 x1.st, .int .i64 x1.gd, .slice x1.A x1.n x1.c, .int .i64 x1.st, .int .i64 x1.gd, .slice x1.A x1.n x1.c] 24))
          (refine hK _ _ (⟨fun _ _ => hM.cells, fun h => absurd h (by decide)⟩) ?_; clear hK K)
          (refine wpAnyK_with (F := fun W => (W.cell? ⟨w.heap.size, 0, none⟩ = some (.int .i64 x0.st) ∧ W.cell? ⟨w.heap.size, 1, none⟩ = some (.int .i64 x0.gd) ∧ W.cell? ⟨w.heap.size, 2, none⟩ = some (.slice x0.A x0.n x0.c)) ∧ (W.cell? ⟨w2.heap.size, 0, none⟩ = some (.int .i64 x1.st) ∧ W.cell? ⟨w2.heap.size, 1, none⟩ = some (.int .i64 x1.gd) ∧ W.cell? ⟨w2.heap.size, 2, none⟩ = some (.slice x1.A x1.n x1.c))) (hM.cells) (fun hF34 => ?_); clear hF33)
          try simp only [Act.put, List.setIfInBounds_toArray, List.set_cons_zero, List.set_cons_succ]
          (refine wpAnyK_takeL Keep2.refl (i := 17) (v := ?_) rfl (by kernel_rfl) (by kernel_rfl) (by kernel_rfl) (fun _ _ _ h => h) (by rfl) ?_ ?_; rotate_left 1; focus (intro w; go_simp; try with_reducible rfl))
          try simp only [Act.put, List.setIfInBounds_toArray, List.set_cons_zero, List.set_cons_succ]
          (refine wpAnyK_takeL Keep2.refl (i := 18) (v := ?_) rfl (by kernel_rfl) (by kernel_rfl) (by kernel_rfl) (fun _ _ _ h => h) (by rfl) ?_ ?_; rotate_left 1; focus (intro w; go_simp; try with_reducible rfl))
          try simp only [Act.put, List.setIfInBounds_toArray, List.set_cons_zero, List.set_cons_succ]
          (refine wpAnyK_takeL Keep2.refl (i := 19) (v := ?_) rfl (by kernel_rfl) (by kernel_rfl) (by kernel_rfl) (fun _ _ _ h => h) (by rfl) ?_ ?_; rotate_left 1; focus (intro w; go_simp; try with_reducible rfl))
          try simp only [Act.put, List.setIfInBounds_toArray, List.set_cons_zero, List.set_cons_succ]
          refine wpAnyK_done (by kernel_rfl) ?_ _
          go_wp2_with fail
          go_meet
          exact ⟨_, _, _, _, rfl, rfl, rfl, hA, hG, hL, hM⟩
  case rest =>
    obtain ⟨g1, g2, g3, v1, rfl, rfl, rfl, hA, hG, hL, hM2⟩ := hcut
    have hbs : ∀ k (h : k < [x0, x1, x1, x1].length), Away d wc [x0, x1, x1, x1][k] := by
      intro k h
      match k, h with
      | 0, _ => exact hM2.a0
      | 1, _ => exact hM2.a1
      | 2, _ => exact hM2.a1
      | 3, _ => exact hM2.a1
    have hls : ∀ k (h : k < [y0, y1, y2, y0].length), AwayL encP 2 15 d wc [y0, y1, y2, y0][k] := by
      intro k h
      match k, h with
      | 0, _ => exact hM2.b0
      | 1, _ => exact hM2.b1
      | 2, _ => exact hM2.b2
      | 3, _ => exact hM2.b0
    have hbl : [x0, x1, x1, x1].length = 4 := rfl
    have hgl : [stall, v1, stall, 0].length = 4 := rfl
    have hll : [y0, y1, y2, y0].length = 4 := rfl
    generalize [x0, x1, x1, x1] = bs at hA hbs hbl
    generalize [stall, v1, stall, 0] = gs at hG hgl
    generalize [y0, y1, y2, y0] = ls at hL hls hll
    have HBS := Lib.hid hbs
    have HLS := Lib.hid hls
    have HBL := Lib.hid hbl
    have HGL := Lib.hid hgl
    have HLL := Lib.hid hll
    have HA := Lib.hid hA
    have HG := Lib.hid hG
    have HLA := Lib.hid hL
    have HLow := Lib.hid hM2.low
    clear hbs hls hbl hgl hll hA hG hL hM2 HM
    go_wp2_with fail
    go_loopw [20] (fun i wr => ∃ k : Nat, k ≤ 4 ∧ i = .int .i64 k ∧ Below wc.heap.size wc wr) (fun i _ => 4 - (intOf i).toNat)
    case atStart => exact ⟨0, by omega, rfl, Below.refl _ _⟩
    case round =>
      obtain ⟨k, hk, rfl, hB⟩ := hrel
      have HB := Lib.hid hB
      have hzr := hB.size
      clear hB
      by_cases hlt : k < 4
      · have hkb : k < bs.length := by rw [HBL.out]; omega
        have hkg : k < gs.length := by rw [HGL.out]; omega
        have hkl : k < ls.length := by rw [HLL.out]; omega
        have HCB := Lib.hid (fun (W : World) (hW : Below wc.heap.size wc W) => (show (W.cell? ⟨g1, k * 3, none⟩ = some (.int .i64 bs[k].st) ∧ W.cell? ⟨g1, k * 3 + 1, none⟩ = some (.int .i64 bs[k].gd) ∧ W.cell? ⟨g1, k * 3 + 2, none⟩ = some (.slice bs[k].A bs[k].n bs[k].c)) ∧ W.cell? ⟨g2, k, none⟩ = some (.int .i64 gs[k]) ∧ W.cell? ⟨g3, k, none⟩ = some (.slice ls[k].A ls[k].n ls[k].c) from
          ⟨⟨((HA.out.below hW (by omega)).atB hkb).1, ((HA.out.below hW (by omega)).atB hkb).2.1, ((HA.out.below hW (by omega)).atB hkb).2.2.1⟩, ((HG.out.below hW (by omega)).atI hkg).1, ((HLA.out.below hW (by omega)).atL hkl).1⟩))
        have hx := HBS.out k hkb
        have hz := HLS.out k hkl
        generalize bs[k] = x at HCB hx
        generalize gs[k] = y at HCB
        generalize ls[k] = z at HCB hz
        have HX := Lib.hid (hx.sl.old HB.out)
        have HZ := Lib.hid (hz.sl.old HB.out)
        have hxn := hx.le
        have hzn := hz.le
        have ik0 : (0 : Int) ≤ (k : Int) := by omega
        have ik1 : (k : Int) < 4 := by omega
        clear hx hz hkb hkg hkl
        have HF := Lib.hid (fun (W : World) (hW : Below wr.heap.size wr W) => HCB.out W (HB.out.trans (hW.mono hzr)))
        go_upto_region 12 with fail
        go_cut [21, 22] from 81 to 92 (fun p q wx => ∃ (B b' bm : Nat) (A' Am : Option Addr) (c' cm : Nat), p = .pointer (some ⟨B, 0, none⟩) ∧ q = .slice Am z.n cm ∧ Blk wx B 24 #[.int .i64 x.st, .int .i64 x.gd, .slice A' x.n c'] ∧ Sl encS 6 wx b' A' x.n x.l ∧ Sl encP 2 wx bm Am z.n z.l ∧ Below wr.heap.size wr wx)
        case first =>
          have hV : Below wr.heap.size wr wr.drew := (Below.refl _ wr).drew
          refine wp_region_K2 [3, 9] [] (fun W => (W.cell? ⟨g1, k * 3, none⟩ = some (.int .i64 x.st) ∧ W.cell? ⟨g1, k * 3 + 1, none⟩ = some (.int .i64 x.gd) ∧ W.cell? ⟨g1, k * 3 + 2, none⟩ = some (.slice x.A x.n x.c)) ∧ W.cell? ⟨g2, k, none⟩ = some (.int .i64 y) ∧ W.cell? ⟨g3, k, none⟩ = some (.slice z.A z.n z.c)) (fun _ => True) rfl (by kernel_rfl) (HF.out _ hV) (trivial) (fun hF0 hG0 => ?_)
          (refine wpAnyK_takeL Keep2.refl (i := 0) (v := ?_) rfl (by kernel_rfl) (by kernel_rfl) (by kernel_rfl) (fun _ _ _ h => h) (by rfl) ?_ ?_; rotate_left 1; focus (intro w; go_simp; try with_reducible rfl))
          try simp only [Act.put, List.setIfInBounds_toArray, List.set_cons_zero, List.set_cons_succ]
          (refine wpAnyK_takeL Keep2.refl (i := 1) (v := ?_) rfl (by kernel_rfl) (by kernel_rfl) (by kernel_rfl) (fun _ _ _ h => h) (by rfl) ?_ ?_; rotate_left 1; focus (intro w; go_simp; try with_reducible rfl))
          try simp only [Act.put, List.setIfInBounds_toArray, List.set_cons_zero, List.set_cons_succ]
          (refine wpAnyK_takeL Keep2.refl (i := 2) (v := ?_) rfl (by kernel_rfl) (by kernel_rfl) (by kernel_rfl) (fun _ _ _ h => h) (by rfl) ?_ ?_; rotate_left 1; focus (intro w; go_simp; try with_reducible rfl))
          try simp only [Act.put, List.setIfInBounds_toArray, List.set_cons_zero, List.set_cons_succ]
          (refine wpAnyK_loadL Keep2.refl (i := 3) (v := ?_) rfl (Keep2.left (i := 3) (by rfl)) (by kernel_rfl) (by kernel_rfl) (by kernel_rfl) (fun _ _ _ h => h) hF0 (by rfl) ?_ ?_; rotate_left 1; focus (intro w hFw; (try dsimp only at hFw); go_split_ands; go_simp; try with_reducible rfl))
          try simp only [Act.put, List.setIfInBounds_toArray, List.set_cons_zero, List.set_cons_succ]
          (refine wpAnyK_takeL Keep2.refl (i := 6) (v := ?_) rfl (by kernel_rfl) (by kernel_rfl) (by kernel_rfl) (fun _ _ _ h => h) (by rfl) ?_ ?_; rotate_left 1; focus (intro w; go_simp; try with_reducible rfl))
          try simp only [Act.put, List.setIfInBounds_toArray, List.set_cons_zero, List.set_cons_succ]
          (refine wpAnyK_takeL Keep2.refl (i := 7) (v := ?_) rfl (by kernel_rfl) (by kernel_rfl) (by kernel_rfl) (fun _ _ _ h => h) (by rfl) ?_ ?_; rotate_left 1; focus (intro w; go_simp; try with_reducible rfl))
          try simp only [Act.put, List.setIfInBounds_toArray, List.set_cons_zero, List.set_cons_succ]
          (refine wpAnyK_takeL Keep2.refl (i := 8) (v := ?_) rfl (by kernel_rfl) (by kernel_rfl) (by kernel_rfl) (fun _ _ _ h => h) (by rfl) ?_ ?_; rotate_left 1; focus (intro w; go_simp; try with_reducible rfl))
          try simp only [Act.put, List.setIfInBounds_toArray, List.set_cons_zero, List.set_cons_succ]
          (refine wpAnyK_loadL Keep2.refl (i := 9) (v := ?_) rfl (Keep2.left (i := 9) (by rfl)) (by kernel_rfl) (by kernel_rfl) (by kernel_rfl) (fun _ _ _ h => h) hF0 (by rfl) ?_ ?_; rotate_left 1; focus (intro w hFw; (try dsimp only at hFw); go_split_ands; go_simp; try with_reducible rfl))
          try simp only [Act.put, List.setIfInBounds_toArray, List.set_cons_zero, List.set_cons_succ]
          refine wpAnyK_all (rs := [4, 5, 11]) (by kernel_rfl) (by simp) ?_
          refine List.forall_mem_cons.2 ⟨?_, List.forall_mem_cons.2 ⟨?_, List.forall_mem_cons.2 ⟨?_, fun _ h => absurd h List.not_mem_nil⟩⟩⟩
          · refine wpOp_of rfl (by rfl) (fun K hK => ?_)
            go_simp
            (refine (copyBook_any x.st x.gd x.b x.n x.c x.A x.l _ (HX.out.old hV) (by omega)).mono ?_; rintro e w7 ⟨A', c', rfl, hown, hB7⟩; obtain ⟨b', hb', hS⟩ := Sl.of_own encS_len HX.out.len hown; (try have hNE : 0 < x.n → b' ≠ G := fun _ => Ne.symm (Nat.ne_of_lt (Nat.lt_of_lt_of_le (hE.lt G rfl).2 hb'))); (try have hNS : 0 < x.n → b' ≠ B := fun _ => Ne.symm (Nat.ne_of_lt (Nat.lt_of_lt_of_le hA.1.lt hb'))); (try replace hE := ownsRow_below hE hB7 (Nat.le_refl _)); (try replace hA := hA.step hB7); replace hV := hV.trans (hB7.mono hV.size); clear hown hB7)
            (refine hK _ _ ⟨⟨fun _ _ => HF.out _ hV, fun h => absurd h (by decide)⟩, ?_⟩; clear hK K)
            (refine wpAnyK_with (F := fun W => (W.cell? ⟨g1, k * 3, none⟩ = some (.int .i64 x.st) ∧ W.cell? ⟨g1, k * 3 + 1, none⟩ = some (.int .i64 x.gd) ∧ W.cell? ⟨g1, k * 3 + 2, none⟩ = some (.slice x.A x.n x.c)) ∧ W.cell? ⟨g2, k, none⟩ = some (.int .i64 y) ∧ W.cell? ⟨g3, k, none⟩ = some (.slice z.A z.n z.c)) (HF.out _ hV) (fun hF1 => ?_); clear hF0)
            try simp only [Act.put, List.setIfInBounds_toArray, List.set_cons_zero, List.set_cons_succ]
            refine wpAnyK_all (rs := [5, 11]) (by kernel_rfl) (by simp) ?_
            refine List.forall_mem_cons.2 ⟨?_, List.forall_mem_cons.2 ⟨?_, fun _ h => absurd h List.not_mem_nil⟩⟩
            · refine wpOp_of rfl (by rfl) (fun K hK => ?_)
              go_simp
              (obtain ⟨G, hGe, hE⟩ := own_emptyE 53 2 hV; (try have hNE : 0 < x.n → b' ≠ G := fun hn => (by rw [hGe]; exact Nat.ne_of_lt (hS.lt hn))); (try have hNB : B ≠ G := (by rw [hGe]; exact Nat.ne_of_lt hA.1.lt)); (try replace hS := hS.alloc (.cells #[] 53)); (try replace hA := hA.alloc (.cells #[] 53)); replace hV := hV.alloc hV.size (.cells #[] 53))
              (refine hK _ _ ⟨⟨fun _ _ => HF.out _ hV, fun h => absurd h (by decide)⟩, ?_⟩; clear hK K)
              (refine wpAnyK_with (F := fun W => (W.cell? ⟨g1, k * 3, none⟩ = some (.int .i64 x.st) ∧ W.cell? ⟨g1, k * 3 + 1, none⟩ = some (.int .i64 x.gd) ∧ W.cell? ⟨g1, k * 3 + 2, none⟩ = some (.slice x.A x.n x.c)) ∧ W.cell? ⟨g2, k, none⟩ = some (.int .i64 y) ∧ W.cell? ⟨g3, k, none⟩ = some (.slice z.A z.n z.c)) (HF.out _ hV) (fun hF2 => ?_); clear hF1)
              try simp only [Act.put, List.setIfInBounds_toArray, List.set_cons_zero, List.set_cons_succ]
              refine wpAnyK_all (rs := [10, 11]) (by kernel_rfl) (by simp) ?_
              refine List.forall_mem_cons.2 ⟨?_, List.forall_mem_cons.2 ⟨?_, fun _ h => absurd h List.not_mem_nil⟩⟩
              · refine wpOp_of rfl (by rfl) (fun K hK => ?_)
                ((try simp only [World.size_alloc, World.size_drew] at hGe); subst hGe; refine wp_append_sl _ _ _ rfl wr.heap.size 53 i0 _ 16 Try.underlying51 hi iz0 iz1 iz2 rfl (by omega) encP_len _ 0 [] (by rfl) hE z.b z.A z.n z.c z.l (by rfl) (HZ.out.old hV) oneP (by unfold maxLen; omega) (by omega) hV.size ?_; intro Am cm w9 hownm hgrow hat; simp only [Nat.zero_add, List.nil_append] at hownm hat; obtain ⟨bm, hbq, hbm, hP⟩ := append_block encP_len HZ.out.len hownm hat; (try have hNM : 0 < z.n → bm ≠ B := fun hn => (hbq hn).elim (fun e => (by rw [e]; exact Ne.symm hNB)) (fun e => (by rw [e]; exact Ne.symm (Nat.ne_of_lt hA.1.lt)))); replace hS := hS.grown hgrow (fun hn e => hNE hn (Option.some.inj e)); (try replace hA := hA.grown hgrow hNB); replace hV := below_own hE hgrow hV (Nat.le_refl _) (Nat.le_refl _); clear hE hownm hgrow hat hNE)
                (refine hK _ _ ⟨⟨fun _ _ => HF.out _ hV, fun h => absurd h (by decide)⟩, ?_⟩; clear hK K)
                (refine wpAnyK_with (F := fun W => (W.cell? ⟨g1, k * 3, none⟩ = some (.int .i64 x.st) ∧ W.cell? ⟨g1, k * 3 + 1, none⟩ = some (.int .i64 x.gd) ∧ W.cell? ⟨g1, k * 3 + 2, none⟩ = some (.slice x.A x.n x.c)) ∧ W.cell? ⟨g2, k, none⟩ = some (.int .i64 y) ∧ W.cell? ⟨g3, k, none⟩ = some (.slice z.A z.n z.c)) (HF.out _ hV) (fun hF3 => ?_); clear hF2)
                try simp only [Act.put, List.setIfInBounds_toArray, List.set_cons_zero, List.set_cons_succ]
                refine wpAnyK_step (i := 11) rfl (by kernel_rfl) (by rfl) (fun K hK => ?_)
                go_simp
                (obtain ⟨B, hBe, hA⟩ := AlcB.newE hV; (try have hNB : B ≠ G := (by rw [hBe]; exact Ne.symm (Nat.ne_of_lt (hE.lt G rfl).2))); (try have hNS : 0 < x.n → b' ≠ B := fun hn => (by rw [hBe]; exact Nat.ne_of_lt (hS.lt hn))); (try have hNM : 0 < z.n → bm ≠ B := fun hn => (by rw [hBe]; exact Nat.ne_of_lt (hP.lt hn))); (try have hS0 := hS); (try have hP0 := hP); have hV0 := hV; (try replace hE := hE.alloc (.cells #[.int .i64 0, .int .i64 0, .slice none 0 0] 24)); (try replace hS := hS.alloc (.cells #[.int .i64 0, .int .i64 0, .slice none 0 0] 24)); (try replace hP := hP.alloc (.cells #[.int .i64 0, .int .i64 0, .slice none 0 0] 24)); replace hV := hV.alloc hV.size (.cells #[.int .i64 0, .int .i64 0, .slice none 0 0] 24))
                (refine hK _ _ (⟨fun _ _ => HF.out _ hV, fun h => absurd h (by decide)⟩) ?_; clear hK K)
                (refine wpAnyK_with (F := fun W => (W.cell? ⟨g1, k * 3, none⟩ = some (.int .i64 x.st) ∧ W.cell? ⟨g1, k * 3 + 1, none⟩ = some (.int .i64 x.gd) ∧ W.cell? ⟨g1, k * 3 + 2, none⟩ = some (.slice x.A x.n x.c)) ∧ W.cell? ⟨g2, k, none⟩ = some (.int .i64 y) ∧ W.cell? ⟨g3, k, none⟩ = some (.slice z.A z.n z.c)) (HF.out _ hV) (fun hF4 => ?_); clear hF3)
                try simp only [Act.put, List.setIfInBounds_toArray, List.set_cons_zero, List.set_cons_succ]
                refine wpAnyK_step (i := 12) rfl (by kernel_rfl) (by rfl) (fun K hK => ?_)
                go_simp
                (have f0 := hA.1.frozen 0; have f1 := hA.1.frozen 1; have f2 := hA.1.frozen 2; have c0 := hA.1.cell 0; have c1 := hA.1.cell 1; have c2 := hA.1.cell 2; (try simp only [World.size_alloc, World.size_drew] at hBe); subst hBe; obtain ⟨⟨hq1, _⟩, hq2⟩ := hA.store (u := .int .i64 x.st) (v := .int .i64 x.gd) (z := .slice A' x.n c') hV; have hS1 := hS.store3 hNS (.int .i64 x.st) (.int .i64 x.gd) (.slice A' x.n c'); have hP1 := hP.store3 hNM (.int .i64 x.st) (.int .i64 x.gd) (.slice A' x.n c'); obtain ⟨⟨hq3, _⟩, hq4⟩ := AlcB.last hV0 (.int .i64 x.st) (.int .i64 x.gd) (.slice A' x.n c'); (try have hS2 := hS0.alloc (.cells #[.int .i64 x.st, .int .i64 x.gd, .slice A' x.n c'] 24)); (try have hP2 := hP0.alloc (.cells #[.int .i64 x.st, .int .i64 x.gd, .slice A' x.n c'] 24)); (try simp only [World.size_alloc, World.size_drew] at hq3); go_simp)
                (refine hK _ _ (⟨fun _ _ => (by first | with_reducible exact HF.out _ hq2 | with_reducible exact HF.out _ hq4), fun h => absurd h (by decide)⟩) ?_; clear hK K)
                (refine wpAnyK_with (F := fun W => (W.cell? ⟨g1, k * 3, none⟩ = some (.int .i64 x.st) ∧ W.cell? ⟨g1, k * 3 + 1, none⟩ = some (.int .i64 x.gd) ∧ W.cell? ⟨g1, k * 3 + 2, none⟩ = some (.slice x.A x.n x.c)) ∧ W.cell? ⟨g2, k, none⟩ = some (.int .i64 y) ∧ W.cell? ⟨g3, k, none⟩ = some (.slice z.A z.n z.c)) ((by first | with_reducible exact HF.out _ hq2 | with_reducible exact HF.out _ hq4)) (fun hF5 => ?_); clear hF4)
                try simp only [Act.put, List.setIfInBounds_toArray, List.set_cons_zero, List.set_cons_succ]
                (refine wpAnyK_takeL Keep2.refl (i := 13) (v := ?_) rfl (by kernel_rfl) (by kernel_rfl) (by kernel_rfl) (fun _ _ _ h => h) (by rfl) ?_ ?_; rotate_left 1; focus (intro w; go_simp; try with_reducible rfl))
                try simp only [Act.put, List.setIfInBounds_toArray, List.set_cons_zero, List.set_cons_succ]
                refine wpAnyK_done (by kernel_rfl) ?_ _
                go_wp2_with fail
                go_meet
                refine ⟨_, b', bm, A', Am, c', cm, rfl, rfl, ?_, ?_, ?_, ?_⟩ <;> with_reducible assumption
              · refine wpOp_of rfl (by rfl) (fun K hK => ?_)
                go_simp
                (obtain ⟨B, hBe, hA⟩ := AlcB.newE hV; (try have hNB : B ≠ G := (by rw [hBe]; exact Ne.symm (Nat.ne_of_lt (hE.lt G rfl).2))); (try have hNS : 0 < x.n → b' ≠ B := fun hn => (by rw [hBe]; exact Nat.ne_of_lt (hS.lt hn))); (try have hNM : 0 < z.n → bm ≠ B := fun hn => (by rw [hBe]; exact Nat.ne_of_lt (hP.lt hn))); (try have hS0 := hS); (try have hP0 := hP); have hV0 := hV; (try replace hE := hE.alloc (.cells #[.int .i64 0, .int .i64 0, .slice none 0 0] 24)); (try replace hS := hS.alloc (.cells #[.int .i64 0, .int .i64 0, .slice none 0 0] 24)); (try replace hP := hP.alloc (.cells #[.int .i64 0, .int .i64 0, .slice none 0 0] 24)); replace hV := hV.alloc hV.size (.cells #[.int .i64 0, .int .i64 0, .slice none 0 0] 24))
                (refine hK _ _ ⟨⟨fun _ _ => HF.out _ hV, fun h => absurd h (by decide)⟩, ?_⟩; clear hK K)
                (refine wpAnyK_with (F := fun W => (W.cell? ⟨g1, k * 3, none⟩ = some (.int .i64 x.st) ∧ W.cell? ⟨g1, k * 3 + 1, none⟩ = some (.int .i64 x.gd) ∧ W.cell? ⟨g1, k * 3 + 2, none⟩ = some (.slice x.A x.n x.c)) ∧ W.cell? ⟨g2, k, none⟩ = some (.int .i64 y) ∧ W.cell? ⟨g3, k, none⟩ = some (.slice z.A z.n z.c)) (HF.out _ hV) (fun hF6 => ?_); clear hF2)
                try simp only [Act.put, List.setIfInBounds_toArray, List.set_cons_zero, List.set_cons_succ]
                refine wpAnyK_step (i := 10) rfl (by kernel_rfl) (by rfl) (fun K hK => ?_)
                ((try simp only [World.size_alloc, World.size_drew] at hGe); subst hGe; refine wp_append_sl _ _ _ rfl wr.heap.size 53 i0 _ 16 Try.underlying51 hi iz0 iz1 iz2 rfl (by omega) encP_len _ 0 [] (by rfl) hE z.b z.A z.n z.c z.l (by rfl) (HZ.out.old hV) oneP (by unfold maxLen; omega) (by omega) hV.size ?_; intro Am cm w9 hownm hgrow hat; simp only [Nat.zero_add, List.nil_append] at hownm hat; obtain ⟨bm, hbq, hbm, hP⟩ := append_block encP_len HZ.out.len hownm hat; (try have hNM : 0 < z.n → bm ≠ B := fun hn => (hbq hn).elim (fun e => (by rw [e]; exact Ne.symm hNB)) (fun e => (by rw [e]; exact Ne.symm (Nat.ne_of_lt hA.1.lt)))); replace hS := hS.grown hgrow (fun hn e => hNE hn (Option.some.inj e)); (try replace hA := hA.grown hgrow hNB); replace hV := below_own hE hgrow hV (Nat.le_refl _) (Nat.le_refl _); clear hE hownm hgrow hat hNE)
                (refine hK _ _ (⟨fun _ _ => HF.out _ hV, fun h => absurd h (by decide)⟩) ?_; clear hK K)
                (refine wpAnyK_with (F := fun W => (W.cell? ⟨g1, k * 3, none⟩ = some (.int .i64 x.st) ∧ W.cell? ⟨g1, k * 3 + 1, none⟩ = some (.int .i64 x.gd) ∧ W.cell? ⟨g1, k * 3 + 2, none⟩ = some (.slice x.A x.n x.c)) ∧ W.cell? ⟨g2, k, none⟩ = some (.int .i64 y) ∧ W.cell? ⟨g3, k, none⟩ = some (.slice z.A z.n z.c)) (HF.out _ hV) (fun hF7 => ?_); clear hF6)
                try simp only [Act.put, List.setIfInBounds_toArray, List.set_cons_zero, List.set_cons_succ]
                refine wpAnyK_step (i := 12) rfl (by kernel_rfl) (by rfl) (fun K hK => ?_)
                go_simp
                (have f0 := hA.1.frozen 0; have f1 := hA.1.frozen 1; have f2 := hA.1.frozen 2; have c0 := hA.1.cell 0; have c1 := hA.1.cell 1; have c2 := hA.1.cell 2; (try simp only [World.size_alloc, World.size_drew] at hBe); subst hBe; obtain ⟨⟨hq1, _⟩, hq2⟩ := hA.store (u := .int .i64 x.st) (v := .int .i64 x.gd) (z := .slice A' x.n c') hV; have hS1 := hS.store3 hNS (.int .i64 x.st) (.int .i64 x.gd) (.slice A' x.n c'); have hP1 := hP.store3 hNM (.int .i64 x.st) (.int .i64 x.gd) (.slice A' x.n c'); obtain ⟨⟨hq3, _⟩, hq4⟩ := AlcB.last hV0 (.int .i64 x.st) (.int .i64 x.gd) (.slice A' x.n c'); (try have hS2 := hS0.alloc (.cells #[.int .i64 x.st, .int .i64 x.gd, .slice A' x.n c'] 24)); (try have hP2 := hP0.alloc (.cells #[.int .i64 x.st, .int .i64 x.gd, .slice A' x.n c'] 24)); (try simp only [World.size_alloc, World.size_drew] at hq3); go_simp)
                (refine hK _ _ (⟨fun _ _ => (by first | with_reducible exact HF.out _ hq2 | with_reducible exact HF.out _ hq4), fun h => absurd h (by decide)⟩) ?_; clear hK K)
                (refine wpAnyK_with (F := fun W => (W.cell? ⟨g1, k * 3, none⟩ = some (.int .i64 x.st) ∧ W.cell? ⟨g1, k * 3 + 1, none⟩ = some (.int .i64 x.gd) ∧ W.cell? ⟨g1, k * 3 + 2, none⟩ = some (.slice x.A x.n x.c)) ∧ W.cell? ⟨g2, k, none⟩ = some (.int .i64 y) ∧ W.cell? ⟨g3, k, none⟩ = some (.slice z.A z.n z.c)) ((by first | with_reducible exact HF.out _ hq2 | with_reducible exact HF.out _ hq4)) (fun hF8 => ?_); clear hF7)
                try simp only [Act.put, List.setIfInBounds_toArray, List.set_cons_zero, List.set_cons_succ]
                (refine wpAnyK_takeL Keep2.refl (i := 13) (v := ?_) rfl (by kernel_rfl) (by kernel_rfl) (by kernel_rfl) (fun _ _ _ h => h) (by rfl) ?_ ?_; rotate_left 1; focus (intro w; go_simp; try with_reducible rfl))
                try simp only [Act.put, List.setIfInBounds_toArray, List.set_cons_zero, List.set_cons_succ]
                refine wpAnyK_done (by kernel_rfl) ?_ _
                go_wp2_with fail
                go_meet
                refine ⟨_, b', bm, A', Am, c', cm, rfl, rfl, ?_, ?_, ?_, ?_⟩ <;> with_reducible assumption
            · refine wpOp_of rfl (by rfl) (fun K hK => ?_)
              go_simp
              (obtain ⟨B, hBe, hA⟩ := AlcB.newE hV; (try have hNB : B ≠ G := (by rw [hBe]; exact Ne.symm (Nat.ne_of_lt (hE.lt G rfl).2))); (try have hNS : 0 < x.n → b' ≠ B := fun hn => (by rw [hBe]; exact Nat.ne_of_lt (hS.lt hn))); (try have hNM : 0 < z.n → bm ≠ B := fun hn => (by rw [hBe]; exact Nat.ne_of_lt (hP.lt hn))); (try have hS0 := hS); (try have hP0 := hP); have hV0 := hV; (try replace hE := hE.alloc (.cells #[.int .i64 0, .int .i64 0, .slice none 0 0] 24)); (try replace hS := hS.alloc (.cells #[.int .i64 0, .int .i64 0, .slice none 0 0] 24)); (try replace hP := hP.alloc (.cells #[.int .i64 0, .int .i64 0, .slice none 0 0] 24)); replace hV := hV.alloc hV.size (.cells #[.int .i64 0, .int .i64 0, .slice none 0 0] 24))
              (refine hK _ _ ⟨⟨fun _ _ => HF.out _ hV, fun h => absurd h (by decide)⟩, ?_⟩; clear hK K)
              (refine wpAnyK_with (F := fun W => (W.cell? ⟨g1, k * 3, none⟩ = some (.int .i64 x.st) ∧ W.cell? ⟨g1, k * 3 + 1, none⟩ = some (.int .i64 x.gd) ∧ W.cell? ⟨g1, k * 3 + 2, none⟩ = some (.slice x.A x.n x.c)) ∧ W.cell? ⟨g2, k, none⟩ = some (.int .i64 y) ∧ W.cell? ⟨g3, k, none⟩ = some (.slice z.A z.n z.c)) (HF.out _ hV) (fun hF9 => ?_); clear hF1)
              try simp only [Act.put, List.setIfInBounds_toArray, List.set_cons_zero, List.set_cons_succ]
              refine wpAnyK_step (i := 5) rfl (by kernel_rfl) (by rfl) (fun K hK => ?_)
              go_simp
              (obtain ⟨G, hGe, hE⟩ := own_emptyE 53 2 hV; (try have hNE : 0 < x.n → b' ≠ G := fun hn => (by rw [hGe]; exact Nat.ne_of_lt (hS.lt hn))); (try have hNB : B ≠ G := (by rw [hGe]; exact Nat.ne_of_lt hA.1.lt)); (try replace hS := hS.alloc (.cells #[] 53)); (try replace hA := hA.alloc (.cells #[] 53)); replace hV := hV.alloc hV.size (.cells #[] 53))
              (refine hK _ _ (⟨fun _ _ => HF.out _ hV, fun h => absurd h (by decide)⟩) ?_; clear hK K)
              (refine wpAnyK_with (F := fun W => (W.cell? ⟨g1, k * 3, none⟩ = some (.int .i64 x.st) ∧ W.cell? ⟨g1, k * 3 + 1, none⟩ = some (.int .i64 x.gd) ∧ W.cell? ⟨g1, k * 3 + 2, none⟩ = some (.slice x.A x.n x.c)) ∧ W.cell? ⟨g2, k, none⟩ = some (.int .i64 y) ∧ W.cell? ⟨g3, k, none⟩ = some (.slice z.A z.n z.c)) (HF.out _ hV) (fun hF10 => ?_); clear hF9)
              try simp only [Act.put, List.setIfInBounds_toArray, List.set_cons_zero, List.set_cons_succ]
              refine wpAnyK_step (i := 10) rfl (by kernel_rfl) (by rfl) (fun K hK => ?_)
              ((try simp only [World.size_alloc, World.size_drew] at hGe); subst hGe; refine wp_append_sl _ _ _ rfl wr.heap.size 53 i0 _ 16 Try.underlying51 hi iz0 iz1 iz2 rfl (by omega) encP_len _ 0 [] (by rfl) hE z.b z.A z.n z.c z.l (by rfl) (HZ.out.old hV) oneP (by unfold maxLen; omega) (by omega) hV.size ?_; intro Am cm w9 hownm hgrow hat; simp only [Nat.zero_add, List.nil_append] at hownm hat; obtain ⟨bm, hbq, hbm, hP⟩ := append_block encP_len HZ.out.len hownm hat; (try have hNM : 0 < z.n → bm ≠ B := fun hn => (hbq hn).elim (fun e => (by rw [e]; exact Ne.symm hNB)) (fun e => (by rw [e]; exact Ne.symm (Nat.ne_of_lt hA.1.lt)))); replace hS := hS.grown hgrow (fun hn e => hNE hn (Option.some.inj e)); (try replace hA := hA.grown hgrow hNB); replace hV := below_own hE hgrow hV (Nat.le_refl _) (Nat.le_refl _); clear hE hownm hgrow hat hNE)
              (refine hK _ _ (⟨fun _ _ => HF.out _ hV, fun h => absurd h (by decide)⟩) ?_; clear hK K)
              (refine wpAnyK_with (F := fun W => (W.cell? ⟨g1, k * 3, none⟩ = some (.int .i64 x.st) ∧ W.cell? ⟨g1, k * 3 + 1, none⟩ = some (.int .i64 x.gd) ∧ W.cell? ⟨g1, k * 3 + 2, none⟩ = some (.slice x.A x.n x.c)) ∧ W.cell? ⟨g2, k, none⟩ = some (.int .i64 y) ∧ W.cell? ⟨g3, k, none⟩ = some (.slice z.A z.n z.c)) (HF.out _ hV) (fun hF11 => ?_); clear hF10)
              try simp only [Act.put, List.setIfInBounds_toArray, List.set_cons_zero, List.set_cons_succ]
              refine wpAnyK_step (i := 12) rfl (by kernel_rfl) (by rfl) (fun K hK => ?_)
              go_simp
              (have f0 := hA.1.frozen 0; have f1 := hA.1.frozen 1; have f2 := hA.1.frozen 2; have c0 := hA.1.cell 0; have c1 := hA.1.cell 1; have c2 := hA.1.cell 2; (try simp only [World.size_alloc, World.size_drew] at hBe); subst hBe; obtain ⟨⟨hq1, _⟩, hq2⟩ := hA.store (u := .int .i64 x.st) (v := .int .i64 x.gd) (z := .slice A' x.n c') hV; have hS1 := hS.store3 hNS (.int .i64 x.st) (.int .i64 x.gd) (.slice A' x.n c'); have hP1 := hP.store3 hNM (.int .i64 x.st) (.int .i64 x.gd) (.slice A' x.n c'); obtain ⟨⟨hq3, _⟩, hq4⟩ := AlcB.last hV0 (.int .i64 x.st) (.int .i64 x.gd) (.slice A' x.n c'); (try have hS2 := hS0.alloc (.cells #[.int .i64 x.st, .int .i64 x.gd, .slice A' x.n c'] 24)); (try have hP2 := hP0.alloc (.cells #[.int .i64 x.st, .int .i64 x.gd, .slice A' x.n c'] 24)); (try simp only [World.size_alloc, World.size_drew] at hq3); go_simp)
              (refine hK _ _ (⟨fun _ _ => (by first | with_reducible exact HF.out _ hq2 | with_reducible exact HF.out _ hq4), fun h => absurd h (by decide)⟩) ?_; clear hK K)
              (refine wpAnyK_with (F := fun W => (W.cell? ⟨g1, k * 3, none⟩ = some (.int .i64 x.st) ∧ W.cell? ⟨g1, k * 3 + 1, none⟩ = some (.int .i64 x.gd) ∧ W.cell? ⟨g1, k * 3 + 2, none⟩ = some (.slice x.A x.n x.c)) ∧ W.cell? ⟨g2, k, none⟩ = some (.int .i64 y) ∧ W.cell? ⟨g3, k, none⟩ = some (.slice z.A z.n z.c)) ((by first | with_reducible exact HF.out _ hq2 | with_reducible exact HF.out _ hq4)) (fun hF12 => ?_); clear hF11)
              try simp only [Act.put, List.setIfInBounds_toArray, List.set_cons_zero, List.set_cons_succ]
              (refine wpAnyK_takeL Keep2.refl (i := 13) (v := ?_) rfl (by kernel_rfl) (by kernel_rfl) (by kernel_rfl) (fun _ _ _ h => h) (by rfl) ?_ ?_; rotate_left 1; focus (intro w; go_simp; try with_reducible rfl))
              try simp only [Act.put, List.setIfInBounds_toArray, List.set_cons_zero, List.set_cons_succ]
              refine wpAnyK_done (by kernel_rfl) ?_ _
              go_wp2_with fail
              go_meet
              refine ⟨_, b', bm, A', Am, c', cm, rfl, rfl, ?_, ?_, ?_, ?_⟩ <;> with_reducible assumption
          · refine wpOp_of rfl (by rfl) (fun K hK => ?_)
            go_simp
            (obtain ⟨G, hGe, hE⟩ := own_emptyE 53 2 hV; (try have hNE : 0 < x.n → b' ≠ G := fun hn => (by rw [hGe]; exact Nat.ne_of_lt (hS.lt hn))); (try have hNB : B ≠ G := (by rw [hGe]; exact Nat.ne_of_lt hA.1.lt)); (try replace hS := hS.alloc (.cells #[] 53)); (try replace hA := hA.alloc (.cells #[] 53)); replace hV := hV.alloc hV.size (.cells #[] 53))
            (refine hK _ _ ⟨⟨fun _ _ => HF.out _ hV, fun h => absurd h (by decide)⟩, ?_⟩; clear hK K)
            (refine wpAnyK_with (F := fun W => (W.cell? ⟨g1, k * 3, none⟩ = some (.int .i64 x.st) ∧ W.cell? ⟨g1, k * 3 + 1, none⟩ = some (.int .i64 x.gd) ∧ W.cell? ⟨g1, k * 3 + 2, none⟩ = some (.slice x.A x.n x.c)) ∧ W.cell? ⟨g2, k, none⟩ = some (.int .i64 y) ∧ W.cell? ⟨g3, k, none⟩ = some (.slice z.A z.n z.c)) (HF.out _ hV) (fun hF13 => ?_); clear hF0)
            try simp only [Act.put, List.setIfInBounds_toArray, List.set_cons_zero, List.set_cons_succ]
            refine wpAnyK_all (rs := [4, 11]) (by kernel_rfl) (by simp) ?_
            refine List.forall_mem_cons.2 ⟨?_, List.forall_mem_cons.2 ⟨?_, fun _ h => absurd h List.not_mem_nil⟩⟩
            · refine wpOp_of rfl (by rfl) (fun K hK => ?_)
              go_simp
              (refine (copyBook_any x.st x.gd x.b x.n x.c x.A x.l _ (HX.out.old hV) (by omega)).mono ?_; rintro e w7 ⟨A', c', rfl, hown, hB7⟩; obtain ⟨b', hb', hS⟩ := Sl.of_own encS_len HX.out.len hown; (try have hNE : 0 < x.n → b' ≠ G := fun _ => Ne.symm (Nat.ne_of_lt (Nat.lt_of_lt_of_le (hE.lt G rfl).2 hb'))); (try have hNS : 0 < x.n → b' ≠ B := fun _ => Ne.symm (Nat.ne_of_lt (Nat.lt_of_lt_of_le hA.1.lt hb'))); (try replace hE := ownsRow_below hE hB7 (Nat.le_refl _)); (try replace hA := hA.step hB7); replace hV := hV.trans (hB7.mono hV.size); clear hown hB7)
              (refine hK _ _ ⟨⟨fun _ _ => HF.out _ hV, fun h => absurd h (by decide)⟩, ?_⟩; clear hK K)
              (refine wpAnyK_with (F := fun W => (W.cell? ⟨g1, k * 3, none⟩ = some (.int .i64 x.st) ∧ W.cell? ⟨g1, k * 3 + 1, none⟩ = some (.int .i64 x.gd) ∧ W.cell? ⟨g1, k * 3 + 2, none⟩ = some (.slice x.A x.n x.c)) ∧ W.cell? ⟨g2, k, none⟩ = some (.int .i64 y) ∧ W.cell? ⟨g3, k, none⟩ = some (.slice z.A z.n z.c)) (HF.out _ hV) (fun hF14 => ?_); clear hF13)
              try simp only [Act.put, List.setIfInBounds_toArray, List.set_cons_zero, List.set_cons_succ]
              refine wpAnyK_all (rs := [10, 11]) (by kernel_rfl) (by simp) ?_
              refine List.forall_mem_cons.2 ⟨?_, List.forall_mem_cons.2 ⟨?_, fun _ h => absurd h List.not_mem_nil⟩⟩
              · refine wpOp_of rfl (by rfl) (fun K hK => ?_)
                ((try simp only [World.size_alloc, World.size_drew] at hGe); subst hGe; refine wp_append_sl _ _ _ rfl wr.heap.size 53 i0 _ 16 Try.underlying51 hi iz0 iz1 iz2 rfl (by omega) encP_len _ 0 [] (by rfl) hE z.b z.A z.n z.c z.l (by rfl) (HZ.out.old hV) oneP (by unfold maxLen; omega) (by omega) hV.size ?_; intro Am cm w9 hownm hgrow hat; simp only [Nat.zero_add, List.nil_append] at hownm hat; obtain ⟨bm, hbq, hbm, hP⟩ := append_block encP_len HZ.out.len hownm hat; (try have hNM : 0 < z.n → bm ≠ B := fun hn => (hbq hn).elim (fun e => (by rw [e]; exact Ne.symm hNB)) (fun e => (by rw [e]; exact Ne.symm (Nat.ne_of_lt hA.1.lt)))); replace hS := hS.grown hgrow (fun hn e => hNE hn (Option.some.inj e)); (try replace hA := hA.grown hgrow hNB); replace hV := below_own hE hgrow hV (Nat.le_refl _) (Nat.le_refl _); clear hE hownm hgrow hat hNE)
                (refine hK _ _ ⟨⟨fun _ _ => HF.out _ hV, fun h => absurd h (by decide)⟩, ?_⟩; clear hK K)
                (refine wpAnyK_with (F := fun W => (W.cell? ⟨g1, k * 3, none⟩ = some (.int .i64 x.st) ∧ W.cell? ⟨g1, k * 3 + 1, none⟩ = some (.int .i64 x.gd) ∧ W.cell? ⟨g1, k * 3 + 2, none⟩ = some (.slice x.A x.n x.c)) ∧ W.cell? ⟨g2, k, none⟩ = some (.int .i64 y) ∧ W.cell? ⟨g3, k, none⟩ = some (.slice z.A z.n z.c)) (HF.out _ hV) (fun hF15 => ?_); clear hF14)
                try simp only [Act.put, List.setIfInBounds_toArray, List.set_cons_zero, List.set_cons_succ]
                refine wpAnyK_step (i := 11) rfl (by kernel_rfl) (by rfl) (fun K hK => ?_)
                go_simp
                (obtain ⟨B, hBe, hA⟩ := AlcB.newE hV; (try have hNB : B ≠ G := (by rw [hBe]; exact Ne.symm (Nat.ne_of_lt (hE.lt G rfl).2))); (try have hNS : 0 < x.n → b' ≠ B := fun hn => (by rw [hBe]; exact Nat.ne_of_lt (hS.lt hn))); (try have hNM : 0 < z.n → bm ≠ B := fun hn => (by rw [hBe]; exact Nat.ne_of_lt (hP.lt hn))); (try have hS0 := hS); (try have hP0 := hP); have hV0 := hV; (try replace hE := hE.alloc (.cells #[.int .i64 0, .int .i64 0, .slice none 0 0] 24)); (try replace hS := hS.alloc (.cells #[.int .i64 0, .int .i64 0, .slice none 0 0] 24)); (try replace hP := hP.alloc (.cells #[.int .i64 0, .int .i64 0, .slice none 0 0] 24)); replace hV := hV.alloc hV.size (.cells #[.int .i64 0, .int .i64 0, .slice none 0 0] 24))
                (refine hK _ _ (⟨fun _ _ => HF.out _ hV, fun h => absurd h (by decide)⟩) ?_; clear hK K)
                (refine wpAnyK_with (F := fun W => (W.cell? ⟨g1, k * 3, none⟩ = some (.int .i64 x.st) ∧ W.cell? ⟨g1, k * 3 + 1, none⟩ = some (.int .i64 x.gd) ∧ W.cell? ⟨g1, k * 3 + 2, none⟩ = some (.slice x.A x.n x.c)) ∧ W.cell? ⟨g2, k, none⟩ = some (.int .i64 y) ∧ W.cell? ⟨g3, k, none⟩ = some (.slice z.A z.n z.c)) (HF.out _ hV) (fun hF16 => ?_); clear hF15)
                try simp only [Act.put, List.setIfInBounds_toArray, List.set_cons_zero, List.set_cons_succ]
                refine wpAnyK_step (i := 12) rfl (by kernel_rfl) (by rfl) (fun K hK => ?_)
                go_simp
                (have f0 := hA.1.frozen 0; have f1 := hA.1.frozen 1; have f2 := hA.1.frozen 2; have c0 := hA.1.cell 0; have c1 := hA.1.cell 1; have c2 := hA.1.cell 2; (try simp only [World.size_alloc, World.size_drew] at hBe); subst hBe; obtain ⟨⟨hq1, _⟩, hq2⟩ := hA.store (u := .int .i64 x.st) (v := .int .i64 x.gd) (z := .slice A' x.n c') hV; have hS1 := hS.store3 hNS (.int .i64 x.st) (.int .i64 x.gd) (.slice A' x.n c'); have hP1 := hP.store3 hNM (.int .i64 x.st) (.int .i64 x.gd) (.slice A' x.n c'); obtain ⟨⟨hq3, _⟩, hq4⟩ := AlcB.last hV0 (.int .i64 x.st) (.int .i64 x.gd) (.slice A' x.n c'); (try have hS2 := hS0.alloc (.cells #[.int .i64 x.st, .int .i64 x.gd, .slice A' x.n c'] 24)); (try have hP2 := hP0.alloc (.cells #[.int .i64 x.st, .int .i64 x.gd, .slice A' x.n c'] 24)); (try simp only [World.size_alloc, World.size_drew] at hq3); go_simp)
                (refine hK _ _ (⟨fun _ _ => (by first | with_reducible exact HF.out _ hq2 | with_reducible exact HF.out _ hq4), fun h => absurd h (by decide)⟩) ?_; clear hK K)
                (refine wpAnyK_with (F := fun W => (W.cell? ⟨g1, k * 3, none⟩ = some (.int .i64 x.st) ∧ W.cell? ⟨g1, k * 3 + 1, none⟩ = some (.int .i64 x.gd) ∧ W.cell? ⟨g1, k * 3 + 2, none⟩ = some (.slice x.A x.n x.c)) ∧ W.cell? ⟨g2, k, none⟩ = some (.int .i64 y) ∧ W.cell? ⟨g3, k, none⟩ = some (.slice z.A z.n z.c)) ((by first | with_reducible exact HF.out _ hq2 | with_reducible exact HF.out _ hq4)) (fun hF17 => ?_); clear hF16)
                try simp only [Act.put, List.setIfInBounds_toArray, List.set_cons_zero, List.set_cons_succ]
                (refine wpAnyK_takeL Keep2.refl (i := 13) (v := ?_) rfl (by kernel_rfl) (by kernel_rfl) (by kernel_rfl) (fun _ _ _ h => h) (by rfl) ?_ ?_; rotate_left 1; focus (intro w; go_simp; try with_reducible rfl))
                try simp only [Act.put, List.setIfInBounds_toArray, List.set_cons_zero, List.set_cons_succ]
                refine wpAnyK_done (by kernel_rfl) ?_ _
                go_wp2_with fail
                go_meet
                refine ⟨_, b', bm, A', Am, c', cm, rfl, rfl, ?_, ?_, ?_, ?_⟩ <;> with_reducible assumption
              · refine wpOp_of rfl (by rfl) (fun K hK => ?_)
                go_simp
                (obtain ⟨B, hBe, hA⟩ := AlcB.newE hV; (try have hNB : B ≠ G := (by rw [hBe]; exact Ne.symm (Nat.ne_of_lt (hE.lt G rfl).2))); (try have hNS : 0 < x.n → b' ≠ B := fun hn => (by rw [hBe]; exact Nat.ne_of_lt (hS.lt hn))); (try have hNM : 0 < z.n → bm ≠ B := fun hn => (by rw [hBe]; exact Nat.ne_of_lt (hP.lt hn))); (try have hS0 := hS); (try have hP0 := hP); have hV0 := hV; (try replace hE := hE.alloc (.cells #[.int .i64 0, .int .i64 0, .slice none 0 0] 24)); (try replace hS := hS.alloc (.cells #[.int .i64 0, .int .i64 0, .slice none 0 0] 24)); (try replace hP := hP.alloc (.cells #[.int .i64 0, .int .i64 0, .slice none 0 0] 24)); replace hV := hV.alloc hV.size (.cells #[.int .i64 0, .int .i64 0, .slice none 0 0] 24))
                (refine hK _ _ ⟨⟨fun _ _ => HF.out _ hV, fun h => absurd h (by decide)⟩, ?_⟩; clear hK K)
                (refine wpAnyK_with (F := fun W => (W.cell? ⟨g1, k * 3, none⟩ = some (.int .i64 x.st) ∧ W.cell? ⟨g1, k * 3 + 1, none⟩ = some (.int .i64 x.gd) ∧ W.cell? ⟨g1, k * 3 + 2, none⟩ = some (.slice x.A x.n x.c)) ∧ W.cell? ⟨g2, k, none⟩ = some (.int .i64 y) ∧ W.cell? ⟨g3, k, none⟩ = some (.slice z.A z.n z.c)) (HF.out _ hV) (fun hF18 => ?_); clear hF14)
                try simp only [Act.put, List.setIfInBounds_toArray, List.set_cons_zero, List.set_cons_succ]
                refine wpAnyK_step (i := 10) rfl (by kernel_rfl) (by rfl) (fun K hK => ?_)
                ((try simp only [World.size_alloc, World.size_drew] at hGe); subst hGe; refine wp_append_sl _ _ _ rfl wr.heap.size 53 i0 _ 16 Try.underlying51 hi iz0 iz1 iz2 rfl (by omega) encP_len _ 0 [] (by rfl) hE z.b z.A z.n z.c z.l (by rfl) (HZ.out.old hV) oneP (by unfold maxLen; omega) (by omega) hV.size ?_; intro Am cm w9 hownm hgrow hat; simp only [Nat.zero_add, List.nil_append] at hownm hat; obtain ⟨bm, hbq, hbm, hP⟩ := append_block encP_len HZ.out.len hownm hat; (try have hNM : 0 < z.n → bm ≠ B := fun hn => (hbq hn).elim (fun e => (by rw [e]; exact Ne.symm hNB)) (fun e => (by rw [e]; exact Ne.symm (Nat.ne_of_lt hA.1.lt)))); replace hS := hS.grown hgrow (fun hn e => hNE hn (Option.some.inj e)); (try replace hA := hA.grown hgrow hNB); replace hV := below_own hE hgrow hV (Nat.le_refl _) (Nat.le_refl _); clear hE hownm hgrow hat hNE)
                (refine hK _ _ (⟨fun _ _ => HF.out _ hV, fun h => absurd h (by decide)⟩) ?_; clear hK K)
                (refine wpAnyK_with (F := fun W => (W.cell? ⟨g1, k * 3, none⟩ = some (.int .i64 x.st) ∧ W.cell? ⟨g1, k * 3 + 1, none⟩ = some (.int .i64 x.gd) ∧ W.cell? ⟨g1, k * 3 + 2, none⟩ = some (.slice x.A x.n x.c)) ∧ W.cell? ⟨g2, k, none⟩ = some (.int .i64 y) ∧ W.cell? ⟨g3, k, none⟩ = some (.slice z.A z.n z.c)) (HF.out _ hV) (fun hF19 => ?_); clear hF18)
                try simp only [Act.put, List.setIfInBounds_toArray, List.set_cons_zero, List.set_cons_succ]
                refine wpAnyK_step (i := 12) rfl (by kernel_rfl) (by rfl) (fun K hK => ?_)
                go_simp
                (have f0 := hA.1.frozen 0; have f1 := hA.1.frozen 1; have f2 := hA.1.frozen 2; have c0 := hA.1.cell 0; have c1 := hA.1.cell 1; have c2 := hA.1.cell 2; (try simp only [World.size_alloc, World.size_drew] at hBe); subst hBe; obtain ⟨⟨hq1, _⟩, hq2⟩ := hA.store (u := .int .i64 x.st) (v := .int .i64 x.gd) (z := .slice A' x.n c') hV; have hS1 := hS.store3 hNS (.int .i64 x.st) (.int .i64 x.gd) (.slice A' x.n c'); have hP1 := hP.store3 hNM (.int .i64 x.st) (.int .i64 x.gd) (.slice A' x.n c'); obtain ⟨⟨hq3, _⟩, hq4⟩ := AlcB.last hV0 (.int .i64 x.st) (.int .i64 x.gd) (.slice A' x.n c'); (try have hS2 := hS0.alloc (.cells #[.int .i64 x.st, .int .i64 x.gd, .slice A' x.n c'] 24)); (try have hP2 := hP0.alloc (.cells #[.int .i64 x.st, .int .i64 x.gd, .slice A' x.n c'] 24)); (try simp only [World.size_alloc, World.size_drew] at hq3); go_simp)
                (refine hK _ _ (⟨fun _ _ => (by first | with_reducible exact HF.out _ hq2 | with_reducible exact HF.out _ hq4), fun h => absurd h (by decide)⟩) ?_; clear hK K)
                (refine wpAnyK_with (F := fun W => (W.cell? ⟨g1, k * 3, none⟩ = some (.int .i64 x.st) ∧ W.cell? ⟨g1, k * 3 + 1, none⟩ = some (.int .i64 x.gd) ∧ W.cell? ⟨g1, k * 3 + 2, none⟩ = some (.slice x.A x.n x.c)) ∧ W.cell? ⟨g2, k, none⟩ = some (.int .i64 y) ∧ W.cell? ⟨g3, k, none⟩ = some (.slice z.A z.n z.c)) ((by first | with_reducible exact HF.out _ hq2 | with_reducible exact HF.out _ hq4)) (fun hF20 => ?_); clear hF19)
                try simp only [Act.put, List.setIfInBounds_toArray, List.set_cons_zero, List.set_cons_succ]
                (refine wpAnyK_takeL Keep2.refl (i := 13) (v := ?_) rfl (by kernel_rfl) (by kernel_rfl) (by kernel_rfl) (fun _ _ _ h => h) (by rfl) ?_ ?_; rotate_left 1; focus (intro w; go_simp; try with_reducible rfl))
                try simp only [Act.put, List.setIfInBounds_toArray, List.set_cons_zero, List.set_cons_succ]
                refine wpAnyK_done (by kernel_rfl) ?_ _
                go_wp2_with fail
                go_meet
                refine ⟨_, b', bm, A', Am, c', cm, rfl, rfl, ?_, ?_, ?_, ?_⟩ <;> with_reducible assumption
            · refine wpOp_of rfl (by rfl) (fun K hK => ?_)
              go_simp
              (obtain ⟨B, hBe, hA⟩ := AlcB.newE hV; (try have hNB : B ≠ G := (by rw [hBe]; exact Ne.symm (Nat.ne_of_lt (hE.lt G rfl).2))); (try have hNS : 0 < x.n → b' ≠ B := fun hn => (by rw [hBe]; exact Nat.ne_of_lt (hS.lt hn))); (try have hNM : 0 < z.n → bm ≠ B := fun hn => (by rw [hBe]; exact Nat.ne_of_lt (hP.lt hn))); (try have hS0 := hS); (try have hP0 := hP); have hV0 := hV; (try replace hE := hE.alloc (.cells #[.int .i64 0, .int .i64 0, .slice none 0 0] 24)); (try replace hS := hS.alloc (.cells #[.int .i64 0, .int .i64 0, .slice none 0 0] 24)); (try replace hP := hP.alloc (.cells #[.int .i64 0, .int .i64 0, .slice none 0 0] 24)); replace hV := hV.alloc hV.size (.cells #[.int .i64 0, .int .i64 0, .slice none 0 0] 24))
              (refine hK _ _ ⟨⟨fun _ _ => HF.out _ hV, fun h => absurd h (by decide)⟩, ?_⟩; clear hK K)
              (refine wpAnyK_with (F := fun W => (W.cell? ⟨g1, k * 3, none⟩ = some (.int .i64 x.st) ∧ W.cell? ⟨g1, k * 3 + 1, none⟩ = some (.int .i64 x.gd) ∧ W.cell? ⟨g1, k * 3 + 2, none⟩ = some (.slice x.A x.n x.c)) ∧ W.cell? ⟨g2, k, none⟩ = some (.int .i64 y) ∧ W.cell? ⟨g3, k, none⟩ = some (.slice z.A z.n z.c)) (HF.out _ hV) (fun hF21 => ?_); clear hF13)
              try simp only [Act.put, List.setIfInBounds_toArray, List.set_cons_zero, List.set_cons_succ]
              refine wpAnyK_step (i := 4) rfl (by kernel_rfl) (by rfl) (fun K hK => ?_)
              go_simp
              (refine (copyBook_any x.st x.gd x.b x.n x.c x.A x.l _ (HX.out.old hV) (by omega)).mono ?_; rintro e w7 ⟨A', c', rfl, hown, hB7⟩; obtain ⟨b', hb', hS⟩ := Sl.of_own encS_len HX.out.len hown; (try have hNE : 0 < x.n → b' ≠ G := fun _ => Ne.symm (Nat.ne_of_lt (Nat.lt_of_lt_of_le (hE.lt G rfl).2 hb'))); (try have hNS : 0 < x.n → b' ≠ B := fun _ => Ne.symm (Nat.ne_of_lt (Nat.lt_of_lt_of_le hA.1.lt hb'))); (try replace hE := ownsRow_below hE hB7 (Nat.le_refl _)); (try replace hA := hA.step hB7); replace hV := hV.trans (hB7.mono hV.size); clear hown hB7)
              (refine hK _ _ (⟨fun _ _ => HF.out _ hV, fun h => absurd h (by decide)⟩) ?_; clear hK K)
              (refine wpAnyK_with (F := fun W => (W.cell? ⟨g1, k * 3, none⟩ = some (.int .i64 x.st) ∧ W.cell? ⟨g1, k * 3 + 1, none⟩ = some (.int .i64 x.gd) ∧ W.cell? ⟨g1, k * 3 + 2, none⟩ = some (.slice x.A x.n x.c)) ∧ W.cell? ⟨g2, k, none⟩ = some (.int .i64 y) ∧ W.cell? ⟨g3, k, none⟩ = some (.slice z.A z.n z.c)) (HF.out _ hV) (fun hF22 => ?_); clear hF21)
              try simp only [Act.put, List.setIfInBounds_toArray, List.set_cons_zero, List.set_cons_succ]
              refine wpAnyK_step (i := 10) rfl (by kernel_rfl) (by rfl) (fun K hK => ?_)
              ((try simp only [World.size_alloc, World.size_drew] at hGe); subst hGe; refine wp_append_sl _ _ _ rfl wr.heap.size 53 i0 _ 16 Try.underlying51 hi iz0 iz1 iz2 rfl (by omega) encP_len _ 0 [] (by rfl) hE z.b z.A z.n z.c z.l (by rfl) (HZ.out.old hV) oneP (by unfold maxLen; omega) (by omega) hV.size ?_; intro Am cm w9 hownm hgrow hat; simp only [Nat.zero_add, List.nil_append] at hownm hat; obtain ⟨bm, hbq, hbm, hP⟩ := append_block encP_len HZ.out.len hownm hat; (try have hNM : 0 < z.n → bm ≠ B := fun hn => (hbq hn).elim (fun e => (by rw [e]; exact Ne.symm hNB)) (fun e => (by rw [e]; exact Ne.symm (Nat.ne_of_lt hA.1.lt)))); replace hS := hS.grown hgrow (fun hn e => hNE hn (Option.some.inj e)); (try replace hA := hA.grown hgrow hNB); replace hV := below_own hE hgrow hV (Nat.le_refl _) (Nat.le_refl _); clear hE hownm hgrow hat hNE)
              (refine hK _ _ (⟨fun _ _ => HF.out _ hV, fun h => absurd h (by decide)⟩) ?_; clear hK K)
              (refine wpAnyK_with (F := fun W => (W.cell? ⟨g1, k * 3, none⟩ = some (.int .i64 x.st) ∧ W.cell? ⟨g1, k * 3 + 1, none⟩ = some (.int .i64 x.gd) ∧ W.cell? ⟨g1, k * 3 + 2, none⟩ = some (.slice x.A x.n x.c)) ∧ W.cell? ⟨g2, k, none⟩ = some (.int .i64 y) ∧ W.cell? ⟨g3, k, none⟩ = some (.slice z.A z.n z.c)) (HF.out _ hV) (fun hF23 => ?_); clear hF22)
              try simp only [Act.put, List.setIfInBounds_toArray, List.set_cons_zero, List.set_cons_succ]
              refine wpAnyK_step (i := 12) rfl (by kernel_rfl) (by rfl) (fun K hK => ?_)
              go_simp
              (have f0 := hA.1.frozen 0; have f1 := hA.1.frozen 1; have f2 := hA.1.frozen 2; have c0 := hA.1.cell 0; have c1 := hA.1.cell 1; have c2 := hA.1.cell 2; (try simp only [World.size_alloc, World.size_drew] at hBe); subst hBe; obtain ⟨⟨hq1, _⟩, hq2⟩ := hA.store (u := .int .i64 x.st) (v := .int .i64 x.gd) (z := .slice A' x.n c') hV; have hS1 := hS.store3 hNS (.int .i64 x.st) (.int .i64 x.gd) (.slice A' x.n c'); have hP1 := hP.store3 hNM (.int .i64 x.st) (.int .i64 x.gd) (.slice A' x.n c'); obtain ⟨⟨hq3, _⟩, hq4⟩ := AlcB.last hV0 (.int .i64 x.st) (.int .i64 x.gd) (.slice A' x.n c'); (try have hS2 := hS0.alloc (.cells #[.int .i64 x.st, .int .i64 x.gd, .slice A' x.n c'] 24)); (try have hP2 := hP0.alloc (.cells #[.int .i64 x.st, .int .i64 x.gd, .slice A' x.n c'] 24)); (try simp only [World.size_alloc, World.size_drew] at hq3); go_simp)
              (refine hK _ _ (⟨fun _ _ => (by first | with_reducible exact HF.out _ hq2 | with_reducible exact HF.out _ hq4), fun h => absurd h (by decide)⟩) ?_; clear hK K)
              (refine wpAnyK_with (F := fun W => (W.cell? ⟨g1, k * 3, none⟩ = some (.int .i64 x.st) ∧ W.cell? ⟨g1, k * 3 + 1, none⟩ = some (.int .i64 x.gd) ∧ W.cell? ⟨g1, k * 3 + 2, none⟩ = some (.slice x.A x.n x.c)) ∧ W.cell? ⟨g2, k, none⟩ = some (.int .i64 y) ∧ W.cell? ⟨g3, k, none⟩ = some (.slice z.A z.n z.c)) ((by first | with_reducible exact HF.out _ hq2 | with_reducible exact HF.out _ hq4)) (fun hF24 => ?_); clear hF23)
              try simp only [Act.put, List.setIfInBounds_toArray, List.set_cons_zero, List.set_cons_succ]
              (refine wpAnyK_takeL Keep2.refl (i := 13) (v := ?_) rfl (by kernel_rfl) (by kernel_rfl) (by kernel_rfl) (fun _ _ _ h => h) (by rfl) ?_ ?_; rotate_left 1; focus (intro w; go_simp; try with_reducible rfl))
              try simp only [Act.put, List.setIfInBounds_toArray, List.set_cons_zero, List.set_cons_succ]
              refine wpAnyK_done (by kernel_rfl) ?_ _
              go_wp2_with fail
              go_meet
              refine ⟨_, b', bm, A', Am, c', cm, rfl, rfl, ?_, ?_, ?_, ?_⟩ <;> with_reducible assumption
          · refine wpOp_of rfl (by rfl) (fun K hK => ?_)
            go_simp
            (obtain ⟨B, hBe, hA⟩ := AlcB.newE hV; (try have hNB : B ≠ G := (by rw [hBe]; exact Ne.symm (Nat.ne_of_lt (hE.lt G rfl).2))); (try have hNS : 0 < x.n → b' ≠ B := fun hn => (by rw [hBe]; exact Nat.ne_of_lt (hS.lt hn))); (try have hNM : 0 < z.n → bm ≠ B := fun hn => (by rw [hBe]; exact Nat.ne_of_lt (hP.lt hn))); (try have hS0 := hS); (try have hP0 := hP); have hV0 := hV; (try replace hE := hE.alloc (.cells #[.int .i64 0, .int .i64 0, .slice none 0 0] 24)); (try replace hS := hS.alloc (.cells #[.int .i64 0, .int .i64 0, .slice none 0 0] 24)); (try replace hP := hP.alloc (.cells #[.int .i64 0, .int .i64 0, .slice none 0 0] 24)); replace hV := hV.alloc hV.size (.cells #[.int .i64 0, .int .i64 0, .slice none 0 0] 24))
            (refine hK _ _ ⟨⟨fun _ _ => HF.out _ hV, fun h => absurd h (by decide)⟩, ?_⟩; clear hK K)
            (refine wpAnyK_with (F := fun W => (W.cell? ⟨g1, k * 3, none⟩ = some (.int .i64 x.st) ∧ W.cell? ⟨g1, k * 3 + 1, none⟩ = some (.int .i64 x.gd) ∧ W.cell? ⟨g1, k * 3 + 2, none⟩ = some (.slice x.A x.n x.c)) ∧ W.cell? ⟨g2, k, none⟩ = some (.int .i64 y) ∧ W.cell? ⟨g3, k, none⟩ = some (.slice z.A z.n z.c)) (HF.out _ hV) (fun hF25 => ?_); clear hF0)
            try simp only [Act.put, List.setIfInBounds_toArray, List.set_cons_zero, List.set_cons_succ]
            refine wpAnyK_all (rs := [4, 5]) (by kernel_rfl) (by simp) ?_
            refine List.forall_mem_cons.2 ⟨?_, List.forall_mem_cons.2 ⟨?_, fun _ h => absurd h List.not_mem_nil⟩⟩
            · refine wpOp_of rfl (by rfl) (fun K hK => ?_)
              go_simp
              (refine (copyBook_any x.st x.gd x.b x.n x.c x.A x.l _ (HX.out.old hV) (by omega)).mono ?_; rintro e w7 ⟨A', c', rfl, hown, hB7⟩; obtain ⟨b', hb', hS⟩ := Sl.of_own encS_len HX.out.len hown; (try have hNE : 0 < x.n → b' ≠ G := fun _ => Ne.symm (Nat.ne_of_lt (Nat.lt_of_lt_of_le (hE.lt G rfl).2 hb'))); (try have hNS : 0 < x.n → b' ≠ B := fun _ => Ne.symm (Nat.ne_of_lt (Nat.lt_of_lt_of_le hA.1.lt hb'))); (try replace hE := ownsRow_below hE hB7 (Nat.le_refl _)); (try replace hA := hA.step hB7); replace hV := hV.trans (hB7.mono hV.size); clear hown hB7)
              (refine hK _ _ ⟨⟨fun _ _ => HF.out _ hV, fun h => absurd h (by decide)⟩, ?_⟩; clear hK K)
              (refine wpAnyK_with (F := fun W => (W.cell? ⟨g1, k * 3, none⟩ = some (.int .i64 x.st) ∧ W.cell? ⟨g1, k * 3 + 1, none⟩ = some (.int .i64 x.gd) ∧ W.cell? ⟨g1, k * 3 + 2, none⟩ = some (.slice x.A x.n x.c)) ∧ W.cell? ⟨g2, k, none⟩ = some (.int .i64 y) ∧ W.cell? ⟨g3, k, none⟩ = some (.slice z.A z.n z.c)) (HF.out _ hV) (fun hF26 => ?_); clear hF25)
              try simp only [Act.put, List.setIfInBounds_toArray, List.set_cons_zero, List.set_cons_succ]
              refine wpAnyK_step (i := 5) rfl (by kernel_rfl) (by rfl) (fun K hK => ?_)
              go_simp
              (obtain ⟨G, hGe, hE⟩ := own_emptyE 53 2 hV; (try have hNE : 0 < x.n → b' ≠ G := fun hn => (by rw [hGe]; exact Nat.ne_of_lt (hS.lt hn))); (try have hNB : B ≠ G := (by rw [hGe]; exact Nat.ne_of_lt hA.1.lt)); (try replace hS := hS.alloc (.cells #[] 53)); (try replace hA := hA.alloc (.cells #[] 53)); replace hV := hV.alloc hV.size (.cells #[] 53))
              (refine hK _ _ (⟨fun _ _ => HF.out _ hV, fun h => absurd h (by decide)⟩) ?_; clear hK K)
              (refine wpAnyK_with (F := fun W => (W.cell? ⟨g1, k * 3, none⟩ = some (.int .i64 x.st) ∧ W.cell? ⟨g1, k * 3 + 1, none⟩ = some (.int .i64 x.gd) ∧ W.cell? ⟨g1, k * 3 + 2, none⟩ = some (.slice x.A x.n x.c)) ∧ W.cell? ⟨g2, k, none⟩ = some (.int .i64 y) ∧ W.cell? ⟨g3, k, none⟩ = some (.slice z.A z.n z.c)) (HF.out _ hV) (fun hF27 => ?_); clear hF26)
              try simp only [Act.put, List.setIfInBounds_toArray, List.set_cons_zero, List.set_cons_succ]
              refine wpAnyK_step (i := 10) rfl (by kernel_rfl) (by rfl) (fun K hK => ?_)
              ((try simp only [World.size_alloc, World.size_drew] at hGe); subst hGe; refine wp_append_sl _ _ _ rfl wr.heap.size 53 i0 _ 16 Try.underlying51 hi iz0 iz1 iz2 rfl (by omega) encP_len _ 0 [] (by rfl) hE z.b z.A z.n z.c z.l (by rfl) (HZ.out.old hV) oneP (by unfold maxLen; omega) (by omega) hV.size ?_; intro Am cm w9 hownm hgrow hat; simp only [Nat.zero_add, List.nil_append] at hownm hat; obtain ⟨bm, hbq, hbm, hP⟩ := append_block encP_len HZ.out.len hownm hat; (try have hNM : 0 < z.n → bm ≠ B := fun hn => (hbq hn).elim (fun e => (by rw [e]; exact Ne.symm hNB)) (fun e => (by rw [e]; exact Ne.symm (Nat.ne_of_lt hA.1.lt)))); replace hS := hS.grown hgrow (fun hn e => hNE hn (Option.some.inj e)); (try replace hA := hA.grown hgrow hNB); replace hV := below_own hE hgrow hV (Nat.le_refl _) (Nat.le_refl _); clear hE hownm hgrow hat hNE)
              (refine hK _ _ (⟨fun _ _ => HF.out _ hV, fun h => absurd h (by decide)⟩) ?_; clear hK K)
              (refine wpAnyK_with (F := fun W => (W.cell? ⟨g1, k * 3, none⟩ = some (.int .i64 x.st) ∧ W.cell? ⟨g1, k * 3 + 1, none⟩ = some (.int .i64 x.gd) ∧ W.cell? ⟨g1, k * 3 + 2, none⟩ = some (.slice x.A x.n x.c)) ∧ W.cell? ⟨g2, k, none⟩ = some (.int .i64 y) ∧ W.cell? ⟨g3, k, none⟩ = some (.slice z.A z.n z.c)) (HF.out _ hV) (fun hF28 => ?_); clear hF27)
              try simp only [Act.put, List.setIfInBounds_toArray, List.set_cons_zero, List.set_cons_succ]
              refine wpAnyK_step (i := 12) rfl (by kernel_rfl) (by rfl) (fun K hK => ?_)
              go_simp
              (have f0 := hA.1.frozen 0; have f1 := hA.1.frozen 1; have f2 := hA.1.frozen 2; have c0 := hA.1.cell 0; have c1 := hA.1.cell 1; have c2 := hA.1.cell 2; (try simp only [World.size_alloc, World.size_drew] at hBe); subst hBe; obtain ⟨⟨hq1, _⟩, hq2⟩ := hA.store (u := .int .i64 x.st) (v := .int .i64 x.gd) (z := .slice A' x.n c') hV; have hS1 := hS.store3 hNS (.int .i64 x.st) (.int .i64 x.gd) (.slice A' x.n c'); have hP1 := hP.store3 hNM (.int .i64 x.st) (.int .i64 x.gd) (.slice A' x.n c'); obtain ⟨⟨hq3, _⟩, hq4⟩ := AlcB.last hV0 (.int .i64 x.st) (.int .i64 x.gd) (.slice A' x.n c'); (try have hS2 := hS0.alloc (.cells #[.int .i64 x.st, .int .i64 x.gd, .slice A' x.n c'] 24)); (try have hP2 := hP0.alloc (.cells #[.int .i64 x.st, .int .i64 x.gd, .slice A' x.n c'] 24)); (try simp only [World.size_alloc, World.size_drew] at hq3); go_simp)
              (refine hK _ _ (⟨fun _ _ => (by first | with_reducible exact HF.out _ hq2 | with_reducible exact HF.out _ hq4), fun h => absurd h (by decide)⟩) ?_; clear hK K)
              (refine wpAnyK_with (F := fun W => (W.cell? ⟨g1, k * 3, none⟩ = some (.int .i64 x.st) ∧ W.cell? ⟨g1, k * 3 + 1, none⟩ = some (.int .i64 x.gd) ∧ W.cell? ⟨g1, k * 3 + 2, none⟩ = some (.slice x.A x.n x.c)) ∧ W.cell? ⟨g2, k, none⟩ = some (.int .i64 y) ∧ W.cell? ⟨g3, k, none⟩ = some (.slice z.A z.n z.c)) ((by first | with_reducible exact HF.out _ hq2 | with_reducible exact HF.out _ hq4)) (fun hF29 => ?_); clear hF28)
              try simp only [Act.put, List.setIfInBounds_toArray, List.set_cons_zero, List.set_cons_succ]
              (refine wpAnyK_takeL Keep2.refl (i := 13) (v := ?_) rfl (by kernel_rfl) (by kernel_rfl) (by kernel_rfl) (fun _ _ _ h => h) (by rfl) ?_ ?_; rotate_left 1; focus (intro w; go_simp; try with_reducible rfl))
              try simp only [Act.put, List.setIfInBounds_toArray, List.set_cons_zero, List.set_cons_succ]
              refine wpAnyK_done (by kernel_rfl) ?_ _
              go_wp2_with fail
              go_meet
              refine ⟨_, b', bm, A', Am, c', cm, rfl, rfl, ?_, ?_, ?_, ?_⟩ <;> with_reducible assumption
            · refine wpOp_of rfl (by rfl) (fun K hK => ?_)
              go_simp
              (obtain ⟨G, hGe, hE⟩ := own_emptyE 53 2 hV; (try have hNE : 0 < x.n → b' ≠ G := fun hn => (by rw [hGe]; exact Nat.ne_of_lt (hS.lt hn))); (try have hNB : B ≠ G := (by rw [hGe]; exact Nat.ne_of_lt hA.1.lt)); (try replace hS := hS.alloc (.cells #[] 53)); (try replace hA := hA.alloc (.cells #[] 53)); replace hV := hV.alloc hV.size (.cells #[] 53))
              (refine hK _ _ ⟨⟨fun _ _ => HF.out _ hV, fun h => absurd h (by decide)⟩, ?_⟩; clear hK K)
              (refine wpAnyK_with (F := fun W => (W.cell? ⟨g1, k * 3, none⟩ = some (.int .i64 x.st) ∧ W.cell? ⟨g1, k * 3 + 1, none⟩ = some (.int .i64 x.gd) ∧ W.cell? ⟨g1, k * 3 + 2, none⟩ = some (.slice x.A x.n x.c)) ∧ W.cell? ⟨g2, k, none⟩ = some (.int .i64 y) ∧ W.cell? ⟨g3, k, none⟩ = some (.slice z.A z.n z.c)) (HF.out _ hV) (fun hF30 => ?_); clear hF25)
              try simp only [Act.put, List.setIfInBounds_toArray, List.set_cons_zero, List.set_cons_succ]
              refine wpAnyK_step (i := 4) rfl (by kernel_rfl) (by rfl) (fun K hK => ?_)
              go_simp
              (refine (copyBook_any x.st x.gd x.b x.n x.c x.A x.l _ (HX.out.old hV) (by omega)).mono ?_; rintro e w7 ⟨A', c', rfl, hown, hB7⟩; obtain ⟨b', hb', hS⟩ := Sl.of_own encS_len HX.out.len hown; (try have hNE : 0 < x.n → b' ≠ G := fun _ => Ne.symm (Nat.ne_of_lt (Nat.lt_of_lt_of_le (hE.lt G rfl).2 hb'))); (try have hNS : 0 < x.n → b' ≠ B := fun _ => Ne.symm (Nat.ne_of_lt (Nat.lt_of_lt_of_le hA.1.lt hb'))); (try replace hE := ownsRow_below hE hB7 (Nat.le_refl _)); (try replace hA := hA.step hB7); replace hV := hV.trans (hB7.mono hV.size); clear hown hB7)
              (refine hK _ _ (⟨fun _ _ => HF.out _ hV, fun h => absurd h (by decide)⟩) ?_; clear hK K)
              (refine wpAnyK_with (F := fun W => (W.cell? ⟨g1, k * 3, none⟩ = some (.int .i64 x.st) ∧ W.cell? ⟨g1, k * 3 + 1, none⟩ = some (.int .i64 x.gd) ∧ W.cell? ⟨g1, k * 3 + 2, none⟩ = some (.slice x.A x.n x.c)) ∧ W.cell? ⟨g2, k, none⟩ = some (.int .i64 y) ∧ W.cell? ⟨g3, k, none⟩ = some (.slice z.A z.n z.c)) (HF.out _ hV) (fun hF31 => ?_); clear hF30)
              try simp only [Act.put, List.setIfInBounds_toArray, List.set_cons_zero, List.set_cons_succ]
              refine wpAnyK_step (i := 10) rfl (by kernel_rfl) (by rfl) (fun K hK => ?_)
              ((try simp only [World.size_alloc, World.size_drew] at hGe); subst hGe; refine wp_append_sl _ _ _ rfl wr.heap.size 53 i0 _ 16 Try.underlying51 hi iz0 iz1 iz2 rfl (by omega) encP_len _ 0 [] (by rfl) hE z.b z.A z.n z.c z.l (by rfl) (HZ.out.old hV) oneP (by unfold maxLen; omega) (by omega) hV.size ?_; intro Am cm w9 hownm hgrow hat; simp only [Nat.zero_add, List.nil_append] at hownm hat; obtain ⟨bm, hbq, hbm, hP⟩ := append_block encP_len HZ.out.len hownm hat; (try have hNM : 0 < z.n → bm ≠ B := fun hn => (hbq hn).elim (fun e => (by rw [e]; exact Ne.symm hNB)) (fun e => (by rw [e]; exact Ne.symm (Nat.ne_of_lt hA.1.lt)))); replace hS := hS.grown hgrow (fun hn e => hNE hn (Option.some.inj e)); (try replace hA := hA.grown hgrow hNB); replace hV := below_own hE hgrow hV (Nat.le_refl _) (Nat.le_refl _); clear hE hownm hgrow hat hNE)
              (refine hK _ _ (⟨fun _ _ => HF.out _ hV, fun h => absurd h (by decide)⟩) ?_; clear hK K)
              (refine wpAnyK_with (F := fun W => (W.cell? ⟨g1, k * 3, none⟩ = some (.int .i64 x.st) ∧ W.cell? ⟨g1, k * 3 + 1, none⟩ = some (.int .i64 x.gd) ∧ W.cell? ⟨g1, k * 3 + 2, none⟩ = some (.slice x.A x.n x.c)) ∧ W.cell? ⟨g2, k, none⟩ = some (.int .i64 y) ∧ W.cell? ⟨g3, k, none⟩ = some (.slice z.A z.n z.c)) (HF.out _ hV) (fun hF32 => ?_); clear hF31)
              try simp only [Act.put, List.setIfInBounds_toArray, List.set_cons_zero, List.set_cons_succ]
              refine wpAnyK_step (i := 12) rfl (by kernel_rfl) (by rfl) (fun K hK => ?_)
              go_simp
              (have f0 := hA.1.frozen 0; have f1 := hA.1.frozen 1; have f2 := hA.1.frozen 2; have c0 := hA.1.cell 0; have c1 := hA.1.cell 1; have c2 := hA.1.cell 2; (try simp only [World.size_alloc, World.size_drew] at hBe); subst hBe; obtain ⟨⟨hq1, _⟩, hq2⟩ := hA.store (u := .int .i64 x.st) (v := .int .i64 x.gd) (z := .slice A' x.n c') hV; have hS1 := hS.store3 hNS (.int .i64 x.st) (.int .i64 x.gd) (.slice A' x.n c'); have hP1 := hP.store3 hNM (.int .i64 x.st) (.int .i64 x.gd) (.slice A' x.n c'); obtain ⟨⟨hq3, _⟩, hq4⟩ := AlcB.last hV0 (.int .i64 x.st) (.int .i64 x.gd) (.slice A' x.n c'); (try have hS2 := hS0.alloc (.cells #[.int .i64 x.st, .int .i64 x.gd, .slice A' x.n c'] 24)); (try have hP2 := hP0.alloc (.cells #[.int .i64 x.st, .int .i64 x.gd, .slice A' x.n c'] 24)); (try simp only [World.size_alloc, World.size_drew] at hq3); go_simp)
              (refine hK _ _ (⟨fun _ _ => (by first | with_reducible exact HF.out _ hq2 | with_reducible exact HF.out _ hq4), fun h => absurd h (by decide)⟩) ?_; clear hK K)
              (refine wpAnyK_with (F := fun W => (W.cell? ⟨g1, k * 3, none⟩ = some (.int .i64 x.st) ∧ W.cell? ⟨g1, k * 3 + 1, none⟩ = some (.int .i64 x.gd) ∧ W.cell? ⟨g1, k * 3 + 2, none⟩ = some (.slice x.A x.n x.c)) ∧ W.cell? ⟨g2, k, none⟩ = some (.int .i64 y) ∧ W.cell? ⟨g3, k, none⟩ = some (.slice z.A z.n z.c)) ((by first | with_reducible exact HF.out _ hq2 | with_reducible exact HF.out _ hq4)) (fun hF33 => ?_); clear hF32)
              try simp only [Act.put, List.setIfInBounds_toArray, List.set_cons_zero, List.set_cons_succ]
              (refine wpAnyK_takeL Keep2.refl (i := 13) (v := ?_) rfl (by kernel_rfl) (by kernel_rfl) (by kernel_rfl) (fun _ _ _ h => h) (by rfl) ?_ ?_; rotate_left 1; focus (intro w; go_simp; try with_reducible rfl))
              try simp only [Act.put, List.setIfInBounds_toArray, List.set_cons_zero, List.set_cons_succ]
              refine wpAnyK_done (by kernel_rfl) ?_ _
              go_wp2_with fail
              go_meet
              refine ⟨_, b', bm, A', Am, c', cm, rfl, rfl, ?_, ?_, ?_, ?_⟩ <;> with_reducible assumption
        case rest =>
          obtain ⟨B0, b', bm, A', Am, c', cm, rfl, rfl, hKB, hSB, hSM, hVB⟩ := hcut
          obtain ⟨V, rfl⟩ : ∃ V : World, V = wc := ⟨_, rfl⟩
          have KB := Lib.hid hKB
          have SB := Lib.hid hSB
          have SM := Lib.hid hSM
          have HVB := Lib.hid hVB
          have hzV : wr.heap.size ≤ V.heap.size := hVB.size
          have XV := Lib.hid (HX.out.old hVB)
          have ZV := Lib.hid (HZ.out.old hVB)
          clear hKB hSB hSM hVB
          have HFC := Lib.hid (fun (W : World) (hW : Below V.heap.size V W) => (show (W.cell? ⟨B0, 0, none⟩ = some (.int .i64 x.st) ∧ W.cell? ⟨B0, 1, none⟩ = some (.int .i64 x.gd) ∧ W.cell? ⟨B0, 2, none⟩ = some (.slice A' x.n c')) ∧ (W.cell? ⟨g1, k * 3, none⟩ = some (.int .i64 x.st) ∧ W.cell? ⟨g1, k * 3 + 1, none⟩ = some (.int .i64 x.gd) ∧ W.cell? ⟨g1, k * 3 + 2, none⟩ = some (.slice x.A x.n x.c)) ∧ W.cell? ⟨g2, k, none⟩ = some (.int .i64 y) ∧ W.cell? ⟨g3, k, none⟩ = some (.slice z.A z.n z.c) from
            ⟨⟨(KB.out.below hW KB.out.lt).cell 0, (KB.out.below hW KB.out.lt).cell 1, (KB.out.below hW KB.out.lt).cell 2⟩, HF.out W (HVB.out.trans (hW.mono hzV))⟩))
          obtain ⟨tq, htq⟩ : ∃ q, q = turnOut x.st x.gd y x.l := ⟨_, rfl⟩
          obtain ⟨te, hte⟩ : ∃ er, er = turnErr x.st x.gd y x.l := ⟨_, rfl⟩
          have HTQ := Lib.hid htq
          have HTE := Lib.hid hte
          clear htq hte
          go_upto_region 13 with fail
          go_cut [23, 24] from 92 to 101 (fun p v wx => ∃ B : Nat, p = .pointer (some ⟨B, 0, none⟩) ∧ v = .int .i64 te ∧ Alc V wx B tq.lo tq.hi ∧ Below V.heap.size V wx)
          case first =>
            have hV : Below V.heap.size V V.drew := (Below.refl _ V).drew
            refine wp_region_K2 [0, 4] [] (fun W => (W.cell? ⟨B0, 0, none⟩ = some (.int .i64 x.st) ∧ W.cell? ⟨B0, 1, none⟩ = some (.int .i64 x.gd) ∧ W.cell? ⟨B0, 2, none⟩ = some (.slice A' x.n c')) ∧ (W.cell? ⟨g1, k * 3, none⟩ = some (.int .i64 x.st) ∧ W.cell? ⟨g1, k * 3 + 1, none⟩ = some (.int .i64 x.gd) ∧ W.cell? ⟨g1, k * 3 + 2, none⟩ = some (.slice x.A x.n x.c)) ∧ W.cell? ⟨g2, k, none⟩ = some (.int .i64 y) ∧ W.cell? ⟨g3, k, none⟩ = some (.slice z.A z.n z.c)) (fun _ => True) rfl (by kernel_rfl) (HFC.out _ hV) (trivial) (fun hF0 hG0 => ?_)
            (refine wpAnyK_loadL Keep2.refl (i := 0) (v := ?_) rfl (Keep2.left (i := 0) (by rfl)) (by kernel_rfl) (by kernel_rfl) (by kernel_rfl) (fun _ _ _ h => h) hF0 (by rfl) ?_ ?_; rotate_left 1; focus (intro w hFw; (try dsimp only at hFw); go_split_ands; go_simp; try with_reducible rfl))
            try simp only [Act.put, List.setIfInBounds_toArray, List.set_cons_zero, List.set_cons_succ]
            (refine wpAnyK_takeL Keep2.refl (i := 1) (v := ?_) rfl (by kernel_rfl) (by kernel_rfl) (by kernel_rfl) (fun _ _ _ h => h) (by rfl) ?_ ?_; rotate_left 1; focus (intro w; go_simp; try with_reducible rfl))
            try simp only [Act.put, List.setIfInBounds_toArray, List.set_cons_zero, List.set_cons_succ]
            (refine wpAnyK_takeL Keep2.refl (i := 2) (v := ?_) rfl (by kernel_rfl) (by kernel_rfl) (by kernel_rfl) (fun _ _ _ h => h) (by rfl) ?_ ?_; rotate_left 1; focus (intro w; go_simp; try with_reducible rfl))
            try simp only [Act.put, List.setIfInBounds_toArray, List.set_cons_zero, List.set_cons_succ]
            (refine wpAnyK_takeL Keep2.refl (i := 3) (v := ?_) rfl (by kernel_rfl) (by kernel_rfl) (by kernel_rfl) (fun _ _ _ h => h) (by rfl) ?_ ?_; rotate_left 1; focus (intro w; go_simp; try with_reducible rfl))
            try simp only [Act.put, List.setIfInBounds_toArray, List.set_cons_zero, List.set_cons_succ]
            (refine wpAnyK_loadL Keep2.refl (i := 4) (v := ?_) rfl (Keep2.left (i := 4) (by rfl)) (by kernel_rfl) (by kernel_rfl) (by kernel_rfl) (fun _ _ _ h => h) hF0 (by rfl) ?_ ?_; rotate_left 1; focus (intro w hFw; (try dsimp only at hFw); go_split_ands; go_simp; try with_reducible rfl))
            try simp only [Act.put, List.setIfInBounds_toArray, List.set_cons_zero, List.set_cons_succ]
            refine wpAnyK_all (rs := [5, 9]) (by kernel_rfl) (by simp) ?_
            refine List.forall_mem_cons.2 ⟨?_, List.forall_mem_cons.2 ⟨?_, fun _ h => absurd h List.not_mem_nil⟩⟩
            · refine wpOp_of rfl (by rfl) (fun K hK => ?_)
              go_simp
              (refine (turnover_any x.st x.gd y b' x.n c' A' x.l _ (SB.out.old hV) (by omega)).mono ?_; rw [← HTQ.out, ← HTE.out]; rintro e w8 ⟨rfl, hB8⟩; (try replace hA := hA.step hB8); replace hV := hV.trans (hB8.mono hV.size))
              (refine hK _ _ ⟨Keep2.no (by kernel_rfl) (by kernel_rfl), ?_⟩; clear hK K)
              try simp only [Act.put, List.setIfInBounds_toArray, List.set_cons_zero, List.set_cons_succ]
              (refine wpAnyK_takeL Keep2.refl (i := 6) (v := ?_) rfl (by kernel_rfl) (by kernel_rfl) (by kernel_rfl) (fun _ _ _ h => h) (by rfl) ?_ ?_; rotate_left 1; focus (intro w; go_simp; try with_reducible rfl))
              try simp only [Act.put, List.setIfInBounds_toArray, List.set_cons_zero, List.set_cons_succ]
              (refine wpAnyK_takeL Keep2.refl (i := 7) (v := ?_) rfl (by kernel_rfl) (by kernel_rfl) (by kernel_rfl) (fun _ _ _ h => h) (by rfl) ?_ ?_; rotate_left 1; focus (intro w; go_simp; try with_reducible rfl))
              try simp only [Act.put, List.setIfInBounds_toArray, List.set_cons_zero, List.set_cons_succ]
              (refine wpAnyK_takeL Keep2.refl (i := 8) (v := ?_) rfl (by kernel_rfl) (by kernel_rfl) (by kernel_rfl) (fun _ _ _ h => h) (by rfl) ?_ ?_; rotate_left 1; focus (intro w; go_simp; try with_reducible rfl))
              try simp only [Act.put, List.setIfInBounds_toArray, List.set_cons_zero, List.set_cons_succ]
              refine wpAnyK_step (i := 9) rfl (by kernel_rfl) (by rfl) (fun K hK => ?_)
              go_simp
              (have hA := Alc.new hV; (try simp only [World.size_drew] at hA); have hV0 := hV; replace hV := hV.alloc hV.size (.cells #[.int .i64 0, .int .i64 0] 26))
              (refine hK _ _ (⟨fun _ _ => HFC.out _ hV, fun h => absurd h (by decide)⟩) ?_; clear hK K)
              (refine wpAnyK_with (F := fun W => (W.cell? ⟨B0, 0, none⟩ = some (.int .i64 x.st) ∧ W.cell? ⟨B0, 1, none⟩ = some (.int .i64 x.gd) ∧ W.cell? ⟨B0, 2, none⟩ = some (.slice A' x.n c')) ∧ (W.cell? ⟨g1, k * 3, none⟩ = some (.int .i64 x.st) ∧ W.cell? ⟨g1, k * 3 + 1, none⟩ = some (.int .i64 x.gd) ∧ W.cell? ⟨g1, k * 3 + 2, none⟩ = some (.slice x.A x.n x.c)) ∧ W.cell? ⟨g2, k, none⟩ = some (.int .i64 y) ∧ W.cell? ⟨g3, k, none⟩ = some (.slice z.A z.n z.c)) (HFC.out _ hV) (fun hF2 => ?_); clear hF0)
              try simp only [Act.put, List.setIfInBounds_toArray, List.set_cons_zero, List.set_cons_succ]
              refine wpAnyK_step (i := 10) rfl (by kernel_rfl) (by rfl) (fun K hK => ?_)
              go_simp
              (have f0 := hA.1.frozen 0; have f1 := hA.1.frozen 1; have c0 := hA.1.cell 0; have c1 := hA.1.cell 1; go_simp)
              (refine hK _ _ (Keep2.no (by kernel_rfl) (by kernel_rfl)) ?_; clear hK K)
              try simp only [Act.put, List.setIfInBounds_toArray, List.set_cons_zero, List.set_cons_succ]
              (refine wpAnyK_takeL Keep2.refl (i := 11) (v := ?_) rfl (by kernel_rfl) (by kernel_rfl) (by kernel_rfl) (fun _ _ _ h => h) (by rfl) ?_ ?_; rotate_left 1; focus (intro w; go_simp; try with_reducible rfl))
              try simp only [Act.put, List.setIfInBounds_toArray, List.set_cons_zero, List.set_cons_succ]
              refine wpAnyK_done (by kernel_rfl) ?_ _
              go_wp2_with fail
              go_meet
              first | exact ⟨_, rfl, rfl, (Alc.last hV0 _ _).1, (Alc.last hV0 _ _).2⟩ | exact ⟨_, rfl, rfl, (hA.store hV _ _).1, (hA.store hV _ _).2⟩
            · refine wpOp_of rfl (by rfl) (fun K hK => ?_)
              go_simp
              (have hA := Alc.new hV; (try simp only [World.size_drew] at hA); have hV0 := hV; replace hV := hV.alloc hV.size (.cells #[.int .i64 0, .int .i64 0] 26))
              (refine hK _ _ ⟨⟨fun _ _ => HFC.out _ hV, fun h => absurd h (by decide)⟩, ?_⟩; clear hK K)
              (refine wpAnyK_with (F := fun W => (W.cell? ⟨B0, 0, none⟩ = some (.int .i64 x.st) ∧ W.cell? ⟨B0, 1, none⟩ = some (.int .i64 x.gd) ∧ W.cell? ⟨B0, 2, none⟩ = some (.slice A' x.n c')) ∧ (W.cell? ⟨g1, k * 3, none⟩ = some (.int .i64 x.st) ∧ W.cell? ⟨g1, k * 3 + 1, none⟩ = some (.int .i64 x.gd) ∧ W.cell? ⟨g1, k * 3 + 2, none⟩ = some (.slice x.A x.n x.c)) ∧ W.cell? ⟨g2, k, none⟩ = some (.int .i64 y) ∧ W.cell? ⟨g3, k, none⟩ = some (.slice z.A z.n z.c)) (HFC.out _ hV) (fun hF4 => ?_); clear hF0)
              try simp only [Act.put, List.setIfInBounds_toArray, List.set_cons_zero, List.set_cons_succ]
              refine wpAnyK_step (i := 5) rfl (by kernel_rfl) (by rfl) (fun K hK => ?_)
              go_simp
              (refine (turnover_any x.st x.gd y b' x.n c' A' x.l _ (SB.out.old hV) (by omega)).mono ?_; rw [← HTQ.out, ← HTE.out]; rintro e w8 ⟨rfl, hB8⟩; (try replace hA := hA.step hB8); replace hV := hV.trans (hB8.mono hV.size))
              (refine hK _ _ (Keep2.no (by kernel_rfl) (by kernel_rfl)) ?_; clear hK K)
              try simp only [Act.put, List.setIfInBounds_toArray, List.set_cons_zero, List.set_cons_succ]
              (refine wpAnyK_takeL Keep2.refl (i := 6) (v := ?_) rfl (by kernel_rfl) (by kernel_rfl) (by kernel_rfl) (fun _ _ _ h => h) (by rfl) ?_ ?_; rotate_left 1; focus (intro w; go_simp; try with_reducible rfl))
              try simp only [Act.put, List.setIfInBounds_toArray, List.set_cons_zero, List.set_cons_succ]
              (refine wpAnyK_takeL Keep2.refl (i := 7) (v := ?_) rfl (by kernel_rfl) (by kernel_rfl) (by kernel_rfl) (fun _ _ _ h => h) (by rfl) ?_ ?_; rotate_left 1; focus (intro w; go_simp; try with_reducible rfl))
              try simp only [Act.put, List.setIfInBounds_toArray, List.set_cons_zero, List.set_cons_succ]
              (refine wpAnyK_takeL Keep2.refl (i := 8) (v := ?_) rfl (by kernel_rfl) (by kernel_rfl) (by kernel_rfl) (fun _ _ _ h => h) (by rfl) ?_ ?_; rotate_left 1; focus (intro w; go_simp; try with_reducible rfl))
              try simp only [Act.put, List.setIfInBounds_toArray, List.set_cons_zero, List.set_cons_succ]
              refine wpAnyK_step (i := 10) rfl (by kernel_rfl) (by rfl) (fun K hK => ?_)
              go_simp
              (have f0 := hA.1.frozen 0; have f1 := hA.1.frozen 1; have c0 := hA.1.cell 0; have c1 := hA.1.cell 1; go_simp)
              (refine hK _ _ (Keep2.no (by kernel_rfl) (by kernel_rfl)) ?_; clear hK K)
              try simp only [Act.put, List.setIfInBounds_toArray, List.set_cons_zero, List.set_cons_succ]
              (refine wpAnyK_takeL Keep2.refl (i := 11) (v := ?_) rfl (by kernel_rfl) (by kernel_rfl) (by kernel_rfl) (fun _ _ _ h => h) (by rfl) ?_ ?_; rotate_left 1; focus (intro w; go_simp; try with_reducible rfl))
              try simp only [Act.put, List.setIfInBounds_toArray, List.set_cons_zero, List.set_cons_succ]
              refine wpAnyK_done (by kernel_rfl) ?_ _
              go_wp2_with fail
              go_meet
              first | exact ⟨_, rfl, rfl, (Alc.last hV0 _ _).1, (Alc.last hV0 _ _).2⟩ | exact ⟨_, rfl, rfl, (hA.store hV _ _).1, (hA.store hV _ _).2⟩
          case rest =>
            obtain ⟨B1, rfl, rfl, hA1, hV1⟩ := hcut
            have HA1 := Lib.hid hA1
            have HV1 := Lib.hid hV1
            clear hA1 hV1
            go_upto_region 14 with fail
            have hzw : V.heap.size ≤ wc.heap.size := HV1.out.size
            obtain ⟨V1, rfl⟩ : ∃ V1 : World, V1 = wc := ⟨_, rfl⟩
            go_cut [25, 26] from 101 to 113 (fun p v wx => ∃ B : Nat, p = .pointer (some ⟨B, 0, none⟩) ∧ v = .int .i64 te ∧ Alc V1 wx B tq.lo tq.hi ∧ Below V1.heap.size V1 wx)
            case first =>
              have hV : Below V1.heap.size V1 V1.drew := (Below.refl _ V1).drew
              refine wp_region_K2 [3, 7] [] (fun W => (W.cell? ⟨B0, 0, none⟩ = some (.int .i64 x.st) ∧ W.cell? ⟨B0, 1, none⟩ = some (.int .i64 x.gd) ∧ W.cell? ⟨B0, 2, none⟩ = some (.slice A' x.n c')) ∧ (W.cell? ⟨g1, k * 3, none⟩ = some (.int .i64 x.st) ∧ W.cell? ⟨g1, k * 3 + 1, none⟩ = some (.int .i64 x.gd) ∧ W.cell? ⟨g1, k * 3 + 2, none⟩ = some (.slice x.A x.n x.c)) ∧ W.cell? ⟨g2, k, none⟩ = some (.int .i64 y) ∧ W.cell? ⟨g3, k, none⟩ = some (.slice z.A z.n z.c)) (fun _ => True) rfl (by kernel_rfl) (HFC.out _ (HV1.out.trans (hV.mono hzw))) (trivial) (fun hF0 hG0 => ?_)
              (refine wpAnyK_takeL Keep2.refl (i := 0) (v := ?_) rfl (by kernel_rfl) (by kernel_rfl) (by kernel_rfl) (fun _ _ _ h => h) (by rfl) ?_ ?_; rotate_left 1; focus (intro w; go_simp; try with_reducible rfl))
              try simp only [Act.put, List.setIfInBounds_toArray, List.set_cons_zero, List.set_cons_succ]
              (refine wpAnyK_takeL Keep2.refl (i := 1) (v := ?_) rfl (by kernel_rfl) (by kernel_rfl) (by kernel_rfl) (fun _ _ _ h => h) (by rfl) ?_ ?_; rotate_left 1; focus (intro w; go_simp; try with_reducible rfl))
              try simp only [Act.put, List.setIfInBounds_toArray, List.set_cons_zero, List.set_cons_succ]
              (refine wpAnyK_takeL Keep2.refl (i := 2) (v := ?_) rfl (by kernel_rfl) (by kernel_rfl) (by kernel_rfl) (fun _ _ _ h => h) (by rfl) ?_ ?_; rotate_left 1; focus (intro w; go_simp; try with_reducible rfl))
              try simp only [Act.put, List.setIfInBounds_toArray, List.set_cons_zero, List.set_cons_succ]
              (refine wpAnyK_loadL Keep2.refl (i := 3) (v := ?_) rfl (Keep2.left (i := 3) (by rfl)) (by kernel_rfl) (by kernel_rfl) (by kernel_rfl) (fun _ _ _ h => h) hF0 (by rfl) ?_ ?_; rotate_left 1; focus (intro w hFw; (try dsimp only at hFw); go_split_ands; go_simp; try with_reducible rfl))
              try simp only [Act.put, List.setIfInBounds_toArray, List.set_cons_zero, List.set_cons_succ]
              (refine wpAnyK_takeL Keep2.refl (i := 4) (v := ?_) rfl (by kernel_rfl) (by kernel_rfl) (by kernel_rfl) (fun _ _ _ h => h) (by rfl) ?_ ?_; rotate_left 1; focus (intro w; go_simp; try with_reducible rfl))
              try simp only [Act.put, List.setIfInBounds_toArray, List.set_cons_zero, List.set_cons_succ]
              (refine wpAnyK_takeL Keep2.refl (i := 5) (v := ?_) rfl (by kernel_rfl) (by kernel_rfl) (by kernel_rfl) (fun _ _ _ h => h) (by rfl) ?_ ?_; rotate_left 1; focus (intro w; go_simp; try with_reducible rfl))
              try simp only [Act.put, List.setIfInBounds_toArray, List.set_cons_zero, List.set_cons_succ]
              (refine wpAnyK_takeL Keep2.refl (i := 6) (v := ?_) rfl (by kernel_rfl) (by kernel_rfl) (by kernel_rfl) (fun _ _ _ h => h) (by rfl) ?_ ?_; rotate_left 1; focus (intro w; go_simp; try with_reducible rfl))
              try simp only [Act.put, List.setIfInBounds_toArray, List.set_cons_zero, List.set_cons_succ]
              (refine wpAnyK_loadL Keep2.refl (i := 7) (v := ?_) rfl (Keep2.left (i := 7) (by rfl)) (by kernel_rfl) (by kernel_rfl) (by kernel_rfl) (fun _ _ _ h => h) hF0 (by rfl) ?_ ?_; rotate_left 1; focus (intro w hFw; (try dsimp only at hFw); go_split_ands; go_simp; try with_reducible rfl))
              try simp only [Act.put, List.setIfInBounds_toArray, List.set_cons_zero, List.set_cons_succ]
              refine wpAnyK_all (rs := [8, 12]) (by kernel_rfl) (by simp) ?_
              refine List.forall_mem_cons.2 ⟨?_, List.forall_mem_cons.2 ⟨?_, fun _ h => absurd h List.not_mem_nil⟩⟩
              · refine wpOp_of rfl (by rfl) (fun K hK => ?_)
                go_simp
                (refine (rturnover_any x.st x.gd y x.b x.n x.c x.A x.l _ ((XV.out.old HV1.out).old hV) (by omega)).mono ?_; rw [← HTQ.out, ← HTE.out]; rintro e w8 ⟨rfl, hB8⟩; (try replace hA := hA.step hB8); replace hV := hV.trans (hB8.mono hV.size))
                (refine hK _ _ ⟨Keep2.no (by kernel_rfl) (by kernel_rfl), ?_⟩; clear hK K)
                try simp only [Act.put, List.setIfInBounds_toArray, List.set_cons_zero, List.set_cons_succ]
                (refine wpAnyK_takeL Keep2.refl (i := 9) (v := ?_) rfl (by kernel_rfl) (by kernel_rfl) (by kernel_rfl) (fun _ _ _ h => h) (by rfl) ?_ ?_; rotate_left 1; focus (intro w; go_simp; try with_reducible rfl))
                try simp only [Act.put, List.setIfInBounds_toArray, List.set_cons_zero, List.set_cons_succ]
                (refine wpAnyK_takeL Keep2.refl (i := 10) (v := ?_) rfl (by kernel_rfl) (by kernel_rfl) (by kernel_rfl) (fun _ _ _ h => h) (by rfl) ?_ ?_; rotate_left 1; focus (intro w; go_simp; try with_reducible rfl))
                try simp only [Act.put, List.setIfInBounds_toArray, List.set_cons_zero, List.set_cons_succ]
                (refine wpAnyK_takeL Keep2.refl (i := 11) (v := ?_) rfl (by kernel_rfl) (by kernel_rfl) (by kernel_rfl) (fun _ _ _ h => h) (by rfl) ?_ ?_; rotate_left 1; focus (intro w; go_simp; try with_reducible rfl))
                try simp only [Act.put, List.setIfInBounds_toArray, List.set_cons_zero, List.set_cons_succ]
                refine wpAnyK_step (i := 12) rfl (by kernel_rfl) (by rfl) (fun K hK => ?_)
                go_simp
                (have hA := Alc.new hV; (try simp only [World.size_drew] at hA); have hV0 := hV; replace hV := hV.alloc hV.size (.cells #[.int .i64 0, .int .i64 0] 26))
                (refine hK _ _ (⟨fun _ _ => HFC.out _ (HV1.out.trans (hV.mono hzw)), fun h => absurd h (by decide)⟩) ?_; clear hK K)
                (refine wpAnyK_with (F := fun W => (W.cell? ⟨B0, 0, none⟩ = some (.int .i64 x.st) ∧ W.cell? ⟨B0, 1, none⟩ = some (.int .i64 x.gd) ∧ W.cell? ⟨B0, 2, none⟩ = some (.slice A' x.n c')) ∧ (W.cell? ⟨g1, k * 3, none⟩ = some (.int .i64 x.st) ∧ W.cell? ⟨g1, k * 3 + 1, none⟩ = some (.int .i64 x.gd) ∧ W.cell? ⟨g1, k * 3 + 2, none⟩ = some (.slice x.A x.n x.c)) ∧ W.cell? ⟨g2, k, none⟩ = some (.int .i64 y) ∧ W.cell? ⟨g3, k, none⟩ = some (.slice z.A z.n z.c)) (HFC.out _ (HV1.out.trans (hV.mono hzw))) (fun hF2 => ?_); clear hF0)
                try simp only [Act.put, List.setIfInBounds_toArray, List.set_cons_zero, List.set_cons_succ]
                refine wpAnyK_step (i := 13) rfl (by kernel_rfl) (by rfl) (fun K hK => ?_)
                go_simp
                (have f0 := hA.1.frozen 0; have f1 := hA.1.frozen 1; have c0 := hA.1.cell 0; have c1 := hA.1.cell 1; go_simp)
                (refine hK _ _ (Keep2.no (by kernel_rfl) (by kernel_rfl)) ?_; clear hK K)
                try simp only [Act.put, List.setIfInBounds_toArray, List.set_cons_zero, List.set_cons_succ]
                (refine wpAnyK_takeL Keep2.refl (i := 14) (v := ?_) rfl (by kernel_rfl) (by kernel_rfl) (by kernel_rfl) (fun _ _ _ h => h) (by rfl) ?_ ?_; rotate_left 1; focus (intro w; go_simp; try with_reducible rfl))
                try simp only [Act.put, List.setIfInBounds_toArray, List.set_cons_zero, List.set_cons_succ]
                refine wpAnyK_done (by kernel_rfl) ?_ _
                go_wp2_with fail
                go_meet
                first | exact ⟨_, rfl, rfl, (Alc.last hV0 _ _).1, (Alc.last hV0 _ _).2⟩ | exact ⟨_, rfl, rfl, (hA.store hV _ _).1, (hA.store hV _ _).2⟩
              · refine wpOp_of rfl (by rfl) (fun K hK => ?_)
                go_simp
                (have hA := Alc.new hV; (try simp only [World.size_drew] at hA); have hV0 := hV; replace hV := hV.alloc hV.size (.cells #[.int .i64 0, .int .i64 0] 26))
                (refine hK _ _ ⟨⟨fun _ _ => HFC.out _ (HV1.out.trans (hV.mono hzw)), fun h => absurd h (by decide)⟩, ?_⟩; clear hK K)
                (refine wpAnyK_with (F := fun W => (W.cell? ⟨B0, 0, none⟩ = some (.int .i64 x.st) ∧ W.cell? ⟨B0, 1, none⟩ = some (.int .i64 x.gd) ∧ W.cell? ⟨B0, 2, none⟩ = some (.slice A' x.n c')) ∧ (W.cell? ⟨g1, k * 3, none⟩ = some (.int .i64 x.st) ∧ W.cell? ⟨g1, k * 3 + 1, none⟩ = some (.int .i64 x.gd) ∧ W.cell? ⟨g1, k * 3 + 2, none⟩ = some (.slice x.A x.n x.c)) ∧ W.cell? ⟨g2, k, none⟩ = some (.int .i64 y) ∧ W.cell? ⟨g3, k, none⟩ = some (.slice z.A z.n z.c)) (HFC.out _ (HV1.out.trans (hV.mono hzw))) (fun hF4 => ?_); clear hF0)
                try simp only [Act.put, List.setIfInBounds_toArray, List.set_cons_zero, List.set_cons_succ]
                refine wpAnyK_step (i := 8) rfl (by kernel_rfl) (by rfl) (fun K hK => ?_)
                go_simp
                (refine (rturnover_any x.st x.gd y x.b x.n x.c x.A x.l _ ((XV.out.old HV1.out).old hV) (by omega)).mono ?_; rw [← HTQ.out, ← HTE.out]; rintro e w8 ⟨rfl, hB8⟩; (try replace hA := hA.step hB8); replace hV := hV.trans (hB8.mono hV.size))
                (refine hK _ _ (Keep2.no (by kernel_rfl) (by kernel_rfl)) ?_; clear hK K)
                try simp only [Act.put, List.setIfInBounds_toArray, List.set_cons_zero, List.set_cons_succ]
                (refine wpAnyK_takeL Keep2.refl (i := 9) (v := ?_) rfl (by kernel_rfl) (by kernel_rfl) (by kernel_rfl) (fun _ _ _ h => h) (by rfl) ?_ ?_; rotate_left 1; focus (intro w; go_simp; try with_reducible rfl))
                try simp only [Act.put, List.setIfInBounds_toArray, List.set_cons_zero, List.set_cons_succ]
                (refine wpAnyK_takeL Keep2.refl (i := 10) (v := ?_) rfl (by kernel_rfl) (by kernel_rfl) (by kernel_rfl) (fun _ _ _ h => h) (by rfl) ?_ ?_; rotate_left 1; focus (intro w; go_simp; try with_reducible rfl))
                try simp only [Act.put, List.setIfInBounds_toArray, List.set_cons_zero, List.set_cons_succ]
                (refine wpAnyK_takeL Keep2.refl (i := 11) (v := ?_) rfl (by kernel_rfl) (by kernel_rfl) (by kernel_rfl) (fun _ _ _ h => h) (by rfl) ?_ ?_; rotate_left 1; focus (intro w; go_simp; try with_reducible rfl))
                try simp only [Act.put, List.setIfInBounds_toArray, List.set_cons_zero, List.set_cons_succ]
                refine wpAnyK_step (i := 13) rfl (by kernel_rfl) (by rfl) (fun K hK => ?_)
                go_simp
                (have f0 := hA.1.frozen 0; have f1 := hA.1.frozen 1; have c0 := hA.1.cell 0; have c1 := hA.1.cell 1; go_simp)
                (refine hK _ _ (Keep2.no (by kernel_rfl) (by kernel_rfl)) ?_; clear hK K)
                try simp only [Act.put, List.setIfInBounds_toArray, List.set_cons_zero, List.set_cons_succ]
                (refine wpAnyK_takeL Keep2.refl (i := 14) (v := ?_) rfl (by kernel_rfl) (by kernel_rfl) (by kernel_rfl) (fun _ _ _ h => h) (by rfl) ?_ ?_; rotate_left 1; focus (intro w; go_simp; try with_reducible rfl))
                try simp only [Act.put, List.setIfInBounds_toArray, List.set_cons_zero, List.set_cons_succ]
                refine wpAnyK_done (by kernel_rfl) ?_ _
                go_wp2_with fail
                go_meet
                first | exact ⟨_, rfl, rfl, (Alc.last hV0 _ _).1, (Alc.last hV0 _ _).2⟩ | exact ⟨_, rfl, rfl, (hA.store hV _ _).1, (hA.store hV _ _).2⟩
            case rest =>
              obtain ⟨B2, rfl, rfl, hA2, hV2⟩ := hcut
              have HA2 := Lib.hid hA2
              have HV2 := Lib.hid hV2
              have HV3 := Lib.hid (HV1.out.trans (hV2.mono hzw))
              have hzc : V.heap.size ≤ wc.heap.size := HV3.out.size
              obtain ⟨e0, e1, e2⟩ := (HFC.out _ HV3.out).1
              clear hA2 hV2
              obtain ⟨dq, hdq⟩ : ∃ q, q = duesOut x.st x.gd x.l z.l := ⟨_, rfl⟩
              obtain ⟨de, hde⟩ : ∃ er, er = duesErr x.st x.gd x.l z.l := ⟨_, rfl⟩
              have HDQ := Lib.hid hdq
              have HDE := Lib.hid hde
              clear hdq hde
              go_wp2_with fail
              refine (duesTop_any x.st x.gd b' x.n c' bm z.n cm A' Am x.l z.l _ (SB.out.old HV3.out) (SM.out.old HV3.out) (by omega) (by omega)).mono ?_
              rw [← HDQ.out, ← HDE.out]
              rintro e w6 ⟨A7, c7, b7, rfl, hs7, hB7⟩
              have Q7 := Lib.hid hs7
              have HV4 := Lib.hid (HV3.out.trans (hB7.mono hzc))
              have HA13 := Lib.hid ((HA1.out.step HV2.out).step hB7)
              have HA23 := Lib.hid (HA2.out.step hB7)
              have hz6 := HV4.out.size
              clear hs7 hB7 e0 e1 e2
              go_upto_region 16 with fail
              refine wp_region_PL [3, 7] (fun W => (W.cell? ⟨B0, 0, none⟩ = some (.int .i64 x.st) ∧ W.cell? ⟨B0, 1, none⟩ = some (.int .i64 x.gd) ∧ W.cell? ⟨B0, 2, none⟩ = some (.slice A' x.n c')) ∧ (W.cell? ⟨g1, k * 3, none⟩ = some (.int .i64 x.st) ∧ W.cell? ⟨g1, k * 3 + 1, none⟩ = some (.int .i64 x.gd) ∧ W.cell? ⟨g1, k * 3 + 2, none⟩ = some (.slice x.A x.n x.c)) ∧ W.cell? ⟨g2, k, none⟩ = some (.int .i64 y) ∧ W.cell? ⟨g3, k, none⟩ = some (.slice z.A z.n z.c)) rfl (by kernel_rfl) (HFC.out _ HV4.out.drew) (fun hF0 => ?_)
              (refine wpAnyP_takeL (i := 0) (v := ?_) rfl (by kernel_rfl) (by kernel_rfl) (by kernel_rfl) (fun _ _ _ h => h) (by rfl) ?_ ?_; rotate_left 1; focus (intro w; go_simp; try with_reducible rfl))
              try simp only [Act.put, List.setIfInBounds_toArray, List.set_cons_zero, List.set_cons_succ]
              (refine wpAnyP_takeL (i := 1) (v := ?_) rfl (by kernel_rfl) (by kernel_rfl) (by kernel_rfl) (fun _ _ _ h => h) (by rfl) ?_ ?_; rotate_left 1; focus (intro w; go_simp; try with_reducible rfl))
              try simp only [Act.put, List.setIfInBounds_toArray, List.set_cons_zero, List.set_cons_succ]
              (refine wpAnyP_takeL (i := 2) (v := ?_) rfl (by kernel_rfl) (by kernel_rfl) (by kernel_rfl) (fun _ _ _ h => h) (by rfl) ?_ ?_; rotate_left 1; focus (intro w; go_simp; try with_reducible rfl))
              try simp only [Act.put, List.setIfInBounds_toArray, List.set_cons_zero, List.set_cons_succ]
              (refine wpAnyP_loadL (i := 3) (v := ?_) rfl (by kernel_rfl) (by kernel_rfl) (by kernel_rfl) (by rfl) (fun _ _ _ h => h) hF0 (by rfl) ?_ ?_; rotate_left 1; focus (intro w hFw; (try dsimp only at hFw); go_split_ands; go_simp; try with_reducible rfl))
              try simp only [Act.put, List.setIfInBounds_toArray, List.set_cons_zero, List.set_cons_succ]
              (refine wpAnyP_takeL (i := 4) (v := ?_) rfl (by kernel_rfl) (by kernel_rfl) (by kernel_rfl) (fun _ _ _ h => h) (by rfl) ?_ ?_; rotate_left 1; focus (intro w; go_simp; try with_reducible rfl))
              try simp only [Act.put, List.setIfInBounds_toArray, List.set_cons_zero, List.set_cons_succ]
              (refine wpAnyP_takeL (i := 5) (v := ?_) rfl (by kernel_rfl) (by kernel_rfl) (by kernel_rfl) (fun _ _ _ h => h) (by rfl) ?_ ?_; rotate_left 1; focus (intro w; go_simp; try with_reducible rfl))
              try simp only [Act.put, List.setIfInBounds_toArray, List.set_cons_zero, List.set_cons_succ]
              (refine wpAnyP_takeL (i := 6) (v := ?_) rfl (by kernel_rfl) (by kernel_rfl) (by kernel_rfl) (fun _ _ _ h => h) (by rfl) ?_ ?_; rotate_left 1; focus (intro w; go_simp; try with_reducible rfl))
              try simp only [Act.put, List.setIfInBounds_toArray, List.set_cons_zero, List.set_cons_succ]
              (refine wpAnyP_loadL (i := 7) (v := ?_) rfl (by kernel_rfl) (by kernel_rfl) (by kernel_rfl) (by rfl) (fun _ _ _ h => h) hF0 (by rfl) ?_ ?_; rotate_left 1; focus (intro w hFw; (try dsimp only at hFw); go_split_ands; go_simp; try with_reducible rfl))
              try simp only [Act.put, List.setIfInBounds_toArray, List.set_cons_zero, List.set_cons_succ]
              refine wpAnyP_last (i := 8) rfl (by kernel_rfl) (by kernel_rfl) (by rfl) (fun K hK => ?_)
              go_simp
              (refine (rduesTop_any x.st x.gd x.b x.n x.c z.b z.n z.c x.A z.A x.l z.l _ (XV.out.old HV4.out.drew) (ZV.out.old HV4.out.drew) (by omega) (by omega)).mono ?_; rw [← HDQ.out, ← HDE.out]; rintro e w8 ⟨A8, c8, b8, rfl, hs8, hB8⟩; have Q8 := Lib.hid hs8; have Q78 := Lib.hid (Q7.out.drew.old hB8); have HV5 := Lib.hid (HV4.out.drew.trans (hB8.mono hz6)); have HA14 := Lib.hid ((show Alc V w6.drew B1 tq.lo tq.hi from HA13.out).step hB8); have HA24 := Lib.hid ((show Alc _ w6.drew B2 tq.lo tq.hi from HA23.out).step hB8); clear hs8 hB8)
              (refine hK _ _ ?_; clear hK K)
              try simp only [Act.put, List.setIfInBounds_toArray, List.set_cons_zero, List.set_cons_succ]
              (refine wpAnyP_takeL (i := 9) (v := ?_) rfl (by kernel_rfl) (by kernel_rfl) (by kernel_rfl) (fun _ _ _ h => h) (by rfl) ?_ ?_; rotate_left 1; focus (intro w; go_simp; try with_reducible rfl))
              try simp only [Act.put, List.setIfInBounds_toArray, List.set_cons_zero, List.set_cons_succ]
              (refine wpAnyP_takeL (i := 10) (v := ?_) rfl (by kernel_rfl) (by kernel_rfl) (by kernel_rfl) (fun _ _ _ h => h) (by rfl) ?_ ?_; rotate_left 1; focus (intro w; go_simp; try with_reducible rfl))
              try simp only [Act.put, List.setIfInBounds_toArray, List.set_cons_zero, List.set_cons_succ]
              (refine wpAnyP_takeL (i := 11) (v := ?_) rfl (by kernel_rfl) (by kernel_rfl) (by kernel_rfl) (fun _ _ _ h => h) (by rfl) ?_ ?_; rotate_left 1; focus (intro w; go_simp; try with_reducible rfl))
              try simp only [Act.put, List.setIfInBounds_toArray, List.set_cons_zero, List.set_cons_succ]
              (refine wpAnyP_takeL (i := 12) (v := ?_) rfl (by kernel_rfl) (by kernel_rfl) (by kernel_rfl) (fun _ _ _ h => h) (by rfl) ?_ ?_; rotate_left 1; focus (intro w; go_simp; try with_reducible rfl))
              try simp only [Act.put, List.setIfInBounds_toArray, List.set_cons_zero, List.set_cons_succ]
              (refine wpAnyP_takeL (i := 13) (v := ?_) rfl (by kernel_rfl) (by kernel_rfl) (by kernel_rfl) (fun _ _ _ h => h) (by rfl) ?_ ?_; rotate_left 1; focus (intro w; go_simp; try with_reducible rfl))
              try simp only [Act.put, List.setIfInBounds_toArray, List.set_cons_zero, List.set_cons_succ]
              refine wpAnyP_done (by kernel_rfl) ?_ _
              have hz8 := HV5.out.size
              have HF5 := Lib.hid (fun (W : World) (hW : Below w8.heap.size w8 W) => (show ((W.cell? ⟨B0, 0, none⟩ = some (.int .i64 x.st) ∧ W.cell? ⟨B0, 1, none⟩ = some (.int .i64 x.gd) ∧ W.cell? ⟨B0, 2, none⟩ = some (.slice A' x.n c')) ∧ (W.cell? ⟨g1, k * 3, none⟩ = some (.int .i64 x.st) ∧ W.cell? ⟨g1, k * 3 + 1, none⟩ = some (.int .i64 x.gd) ∧ W.cell? ⟨g1, k * 3 + 2, none⟩ = some (.slice x.A x.n x.c)) ∧ W.cell? ⟨g2, k, none⟩ = some (.int .i64 y) ∧ W.cell? ⟨g3, k, none⟩ = some (.slice z.A z.n z.c)) ∧ (W.cell? ⟨B1, 0, none⟩ = some (.int .i64 tq.lo) ∧ W.cell? ⟨B1, 1, none⟩ = some (.int .i64 tq.hi)) ∧ (W.cell? ⟨B2, 0, none⟩ = some (.int .i64 tq.lo) ∧ W.cell? ⟨B2, 1, none⟩ = some (.int .i64 tq.hi)) from
                ⟨HFC.out _ (HV5.out.trans (hW.mono hz8)), ⟨(HA14.out.step hW).1.cell 0, (HA14.out.step hW).1.cell 1⟩, ⟨(HA24.out.step hW).1.cell 0, (HA24.out.step hW).1.cell 1⟩⟩))
              have HDN := Lib.hid (show dq.length ≤ 1000000000000 by rw [HDQ.out]; exact duesOut_le _ _ _ _)
              go_upto_region 17 with fail
              refine wp_region_PL [0, 1, 20, 24] (fun W => ((W.cell? ⟨B0, 0, none⟩ = some (.int .i64 x.st) ∧ W.cell? ⟨B0, 1, none⟩ = some (.int .i64 x.gd) ∧ W.cell? ⟨B0, 2, none⟩ = some (.slice A' x.n c')) ∧ (W.cell? ⟨g1, k * 3, none⟩ = some (.int .i64 x.st) ∧ W.cell? ⟨g1, k * 3 + 1, none⟩ = some (.int .i64 x.gd) ∧ W.cell? ⟨g1, k * 3 + 2, none⟩ = some (.slice x.A x.n x.c)) ∧ W.cell? ⟨g2, k, none⟩ = some (.int .i64 y) ∧ W.cell? ⟨g3, k, none⟩ = some (.slice z.A z.n z.c)) ∧ (W.cell? ⟨B1, 0, none⟩ = some (.int .i64 tq.lo) ∧ W.cell? ⟨B1, 1, none⟩ = some (.int .i64 tq.hi)) ∧ (W.cell? ⟨B2, 0, none⟩ = some (.int .i64 tq.lo) ∧ W.cell? ⟨B2, 1, none⟩ = some (.int .i64 tq.hi))) rfl (by kernel_rfl) (HF5.out _ (Below.refl _ w8).drew) (fun hF0 => ?_)
              (refine wpAnyP_loadL (i := 0) (v := ?_) rfl (by kernel_rfl) (by kernel_rfl) (by kernel_rfl) (by rfl) (fun _ _ _ h => h) hF0 (by rfl) ?_ ?_; rotate_left 1; focus (intro w hFw; (try dsimp only at hFw); go_split_ands; go_simp; try with_reducible rfl))
              try simp only [Act.put, List.setIfInBounds_toArray, List.set_cons_zero, List.set_cons_succ]
              (refine wpAnyP_loadL (i := 1) (v := ?_) rfl (by kernel_rfl) (by kernel_rfl) (by kernel_rfl) (by rfl) (fun _ _ _ h => h) hF0 (by rfl) ?_ ?_; rotate_left 1; focus (intro w hFw; (try dsimp only at hFw); go_split_ands; go_simp; try with_reducible rfl))
              try simp only [Act.put, List.setIfInBounds_toArray, List.set_cons_zero, List.set_cons_succ]
              (refine wpAnyP_takeL (i := 2) (v := ?_) rfl (by kernel_rfl) (by kernel_rfl) (by kernel_rfl) (fun _ _ _ h => h) (by rfl) ?_ ?_; rotate_left 1; focus (intro w; go_simp; try with_reducible rfl))
              try simp only [Act.put, List.setIfInBounds_toArray, List.set_cons_zero, List.set_cons_succ]
              (refine wpAnyP_takeL (i := 3) (v := ?_) rfl (by kernel_rfl) (by kernel_rfl) (by kernel_rfl) (fun _ _ _ h => h) (by rfl) ?_ ?_; rotate_left 1; focus (intro w; go_simp; try with_reducible rfl))
              try simp only [Act.put, List.setIfInBounds_toArray, List.set_cons_zero, List.set_cons_succ]
              (refine wpAnyP_takeL (i := 4) (v := ?_) rfl (by kernel_rfl) (by kernel_rfl) (by kernel_rfl) (fun _ _ _ h => h) (by rfl) ?_ ?_; rotate_left 1; focus (intro w; go_simp; try with_reducible rfl))
              try simp only [Act.put, List.setIfInBounds_toArray, List.set_cons_zero, List.set_cons_succ]
              (refine wpAnyP_takeL (i := 5) (v := ?_) rfl (by kernel_rfl) (by kernel_rfl) (by kernel_rfl) (fun _ _ _ h => h) (by rfl) ?_ ?_; rotate_left 1; focus (intro w; go_simp; try with_reducible rfl))
              try simp only [Act.put, List.setIfInBounds_toArray, List.set_cons_zero, List.set_cons_succ]
              (refine wpAnyP_takeL (i := 6) (v := ?_) rfl (by kernel_rfl) (by kernel_rfl) (by kernel_rfl) (fun _ _ _ h => h) (by rfl) ?_ ?_; rotate_left 1; focus (intro w; go_simp; try with_reducible rfl))
              try simp only [Act.put, List.setIfInBounds_toArray, List.set_cons_zero, List.set_cons_succ]
              (refine wpAnyP_takeL (i := 7) (v := ?_) rfl (by kernel_rfl) (by kernel_rfl) (by kernel_rfl) (fun _ _ _ h => h) (by rfl) ?_ ?_; rotate_left 1; focus (intro w; go_simp; try with_reducible rfl))
              try simp only [Act.put, List.setIfInBounds_toArray, List.set_cons_zero, List.set_cons_succ]
              (refine wpAnyP_takeL (i := 8) (v := ?_) rfl (by kernel_rfl) (by kernel_rfl) (by kernel_rfl) (fun _ _ _ h => h) (by rfl) ?_ ?_; rotate_left 1; focus (intro w; go_simp; try with_reducible rfl))
              try simp only [Act.put, List.setIfInBounds_toArray, List.set_cons_zero, List.set_cons_succ]
              (refine wpAnyP_takeL (i := 9) (v := ?_) rfl (by kernel_rfl) (by kernel_rfl) (by kernel_rfl) (fun _ _ _ h => h) (by rfl) ?_ ?_; rotate_left 1; focus (intro w; go_simp; try with_reducible rfl))
              try simp only [Act.put, List.setIfInBounds_toArray, List.set_cons_zero, List.set_cons_succ]
              (refine wpAnyP_takeL (i := 10) (v := ?_) rfl (by kernel_rfl) (by kernel_rfl) (by kernel_rfl) (fun _ _ _ h => h) (by rfl) ?_ ?_; rotate_left 1; focus (intro w; go_simp; try with_reducible rfl))
              try simp only [Act.put, List.setIfInBounds_toArray, List.set_cons_zero, List.set_cons_succ]
              (refine wpAnyP_takeL (i := 11) (v := ?_) rfl (by kernel_rfl) (by kernel_rfl) (by kernel_rfl) (fun _ _ _ h => h) (by rfl) ?_ ?_; rotate_left 1; focus (intro w; go_simp; try with_reducible rfl))
              try simp only [Act.put, List.setIfInBounds_toArray, List.set_cons_zero, List.set_cons_succ]
              (refine wpAnyP_takeL (i := 12) (v := ?_) rfl (by kernel_rfl) (by kernel_rfl) (by kernel_rfl) (fun _ _ _ h => h) (by rfl) ?_ ?_; rotate_left 1; focus (intro w; go_simp; try with_reducible rfl))
              try simp only [Act.put, List.setIfInBounds_toArray, List.set_cons_zero, List.set_cons_succ]
              (refine wpAnyP_takeL (i := 13) (v := ?_) rfl (by kernel_rfl) (by kernel_rfl) (by kernel_rfl) (fun _ _ _ h => h) (by rfl) ?_ ?_; rotate_left 1; focus (intro w; go_simp; try with_reducible rfl))
              try simp only [Act.put, List.setIfInBounds_toArray, List.set_cons_zero, List.set_cons_succ]
              (refine wpAnyP_takeL (i := 14) (v := ?_) rfl (by kernel_rfl) (by kernel_rfl) (by kernel_rfl) (fun _ _ _ h => h) (by rfl) ?_ ?_; rotate_left 1; focus (intro w; go_simp; try with_reducible rfl))
              try simp only [Act.put, List.setIfInBounds_toArray, List.set_cons_zero, List.set_cons_succ]
              (refine wpAnyP_takeL (i := 15) (v := ?_) rfl (by kernel_rfl) (by kernel_rfl) (by kernel_rfl) (fun _ _ _ h => h) (by rfl) ?_ ?_; rotate_left 1; focus (intro w; go_simp; try with_reducible rfl))
              try simp only [Act.put, List.setIfInBounds_toArray, List.set_cons_zero, List.set_cons_succ]
              refine wpAnyP_step (i := 16) rfl (by kernel_rfl) (by rfl) (fun K hK => ?_)
              go_simp
              (refine (sameSpans_any b7 b8 dq.length dq.length c7 c8 A7 A8 dq dq _ (Q78.out.old (Below.refl _ w8).drew) (Q8.out.old (Below.refl _ w8).drew) HDN.out).mono ?_; rw [same_spans]; rintro e wd ⟨rfl, hBd⟩; have Hd := Lib.hid ((Below.refl w8.heap.size w8).drew.trans hBd); clear hBd)
              (refine hK _ _ (HF5.out _ Hd.out) (fun hF1 => ?_); clear hK K hF0)
              try simp only [Act.put, List.setIfInBounds_toArray, List.set_cons_zero, List.set_cons_succ]
              (refine wpAnyP_takeL (i := 17) (v := ?_) rfl (by kernel_rfl) (by kernel_rfl) (by kernel_rfl) (fun _ _ _ h => h) (by rfl) ?_ ?_; rotate_left 1; focus (intro w; go_simp; try with_reducible rfl))
              try simp only [Act.put, List.setIfInBounds_toArray, List.set_cons_zero, List.set_cons_succ]
              (refine wpAnyP_takeL (i := 18) (v := ?_) rfl (by kernel_rfl) (by kernel_rfl) (by kernel_rfl) (fun _ _ _ h => h) (by rfl) ?_ ?_; rotate_left 1; focus (intro w; go_simp; try with_reducible rfl))
              try simp only [Act.put, List.setIfInBounds_toArray, List.set_cons_zero, List.set_cons_succ]
              (refine wpAnyP_takeL (i := 19) (v := ?_) rfl (by kernel_rfl) (by kernel_rfl) (by kernel_rfl) (fun _ _ _ h => h) (by rfl) ?_ ?_; rotate_left 1; focus (intro w; go_simp; try with_reducible rfl))
              try simp only [Act.put, List.setIfInBounds_toArray, List.set_cons_zero, List.set_cons_succ]
              (refine wpAnyP_loadL (i := 20) (v := ?_) rfl (by kernel_rfl) (by kernel_rfl) (by kernel_rfl) (by rfl) (fun _ _ _ h => h) hF1 (by rfl) ?_ ?_; rotate_left 1; focus (intro w hFw; (try dsimp only at hFw); go_split_ands; go_simp; try with_reducible rfl))
              try simp only [Act.put, List.setIfInBounds_toArray, List.set_cons_zero, List.set_cons_succ]
              (refine wpAnyP_takeL (i := 21) (v := ?_) rfl (by kernel_rfl) (by kernel_rfl) (by kernel_rfl) (fun _ _ _ h => h) (by rfl) ?_ ?_; rotate_left 1; focus (intro w; go_simp; try with_reducible rfl))
              try simp only [Act.put, List.setIfInBounds_toArray, List.set_cons_zero, List.set_cons_succ]
              (refine wpAnyP_takeL (i := 22) (v := ?_) rfl (by kernel_rfl) (by kernel_rfl) (by kernel_rfl) (fun _ _ _ h => h) (by rfl) ?_ ?_; rotate_left 1; focus (intro w; go_simp; try with_reducible rfl))
              try simp only [Act.put, List.setIfInBounds_toArray, List.set_cons_zero, List.set_cons_succ]
              (refine wpAnyP_takeL (i := 23) (v := ?_) rfl (by kernel_rfl) (by kernel_rfl) (by kernel_rfl) (fun _ _ _ h => h) (by rfl) ?_ ?_; rotate_left 1; focus (intro w; go_simp; try with_reducible rfl))
              try simp only [Act.put, List.setIfInBounds_toArray, List.set_cons_zero, List.set_cons_succ]
              (refine wpAnyP_loadL (i := 24) (v := ?_) rfl (by kernel_rfl) (by kernel_rfl) (by kernel_rfl) (by rfl) (fun _ _ _ h => h) hF1 (by rfl) ?_ ?_; rotate_left 1; focus (intro w hFw; (try dsimp only at hFw); go_split_ands; go_simp; try with_reducible rfl))
              try simp only [Act.put, List.setIfInBounds_toArray, List.set_cons_zero, List.set_cons_succ]
              refine wpAnyP_step (i := 25) rfl (by kernel_rfl) (by rfl) (fun K hK => ?_)
              go_simp
              (refine (sameBooks_any x.st x.gd x.st x.gd b' x.b x.n x.n c' x.c A' x.A x.l x.l _ ((SB.out.old HV5.out).old Hd.out) ((XV.out.old HV5.out).old Hd.out) (by omega)).mono ?_; rw [same_true]; rintro e we ⟨rfl, hBe⟩; have He := Lib.hid (Hd.out.trans (hBe.mono Hd.out.size)); clear hBe)
              (refine hK _ _ (HF5.out _ He.out) (fun hF2 => ?_); clear hK K hF1)
              try simp only [Act.put, List.setIfInBounds_toArray, List.set_cons_zero, List.set_cons_succ]
              (refine wpAnyP_takeL (i := 26) (v := ?_) rfl (by kernel_rfl) (by kernel_rfl) (by kernel_rfl) (fun _ _ _ h => h) (by rfl) ?_ ?_; rotate_left 1; focus (intro w; go_simp; try with_reducible rfl))
              try simp only [Act.put, List.setIfInBounds_toArray, List.set_cons_zero, List.set_cons_succ]
              (refine wpAnyP_takeL (i := 27) (v := ?_) rfl (by kernel_rfl) (by kernel_rfl) (by kernel_rfl) (fun _ _ _ h => h) (by rfl) ?_ ?_; rotate_left 1; focus (intro w; go_simp; try with_reducible rfl))
              try simp only [Act.put, List.setIfInBounds_toArray, List.set_cons_zero, List.set_cons_succ]
              refine wpAnyP_done (by kernel_rfl) ?_ _
              have HV6 := Lib.hid (HV5.out.trans (He.out.mono hz8))
              have hz9 := HV6.out.size
              have M6 := Lib.hid (SM.out.old HV6.out)
              have Z6 := Lib.hid (ZV.out.old HV6.out)
              go_wp2_with fail
              obtain ⟨wo, rfl⟩ : ∃ wo : World, wo = we := ⟨_, rfl⟩
              go_loopw [31] (fun i ws => ∃ j : Nat, j ≤ z.n ∧ i = .int .i64 j ∧ Below wo.heap.size wo ws) (fun i _ => z.n - (intOf i).toNat)
              case atStart => exact ⟨0, by omega, rfl, Below.refl _ _⟩
              case round =>
                obtain ⟨j, hj, rfl, hBj⟩ := hrel
                have HBj := Lib.hid hBj
                clear hBj
                by_cases hltj : j < z.n
                · have hjl : j < z.l.length := by have := M6.out.len; omega
                  obtain ⟨om, rfl, hmz, u0, u1⟩ := (M6.out.old HBj.out).atP hjl
                  obtain ⟨oz, hzA, hzz, v0, v1⟩ := (Z6.out.old HBj.out).atP hjl
                  have fz := (HFC.out _ (HV6.out.trans (HBj.out.mono hz9))).2.2.2
                  rw [hzA] at fz
                  generalize z.l[j] = sp at u0 u1 v0 v1
                  have HZA := Lib.hid hzA
                  have ij0 : (0 : Int) ≤ (j : Int) := by omega
                  have ij1 : (j : Int) < (z.n : Int) := by omega
                  clear hzA hjl
                  go_upto_region 22 with fail
                  refine wp_region_PL [3, 7, 10] (fun W => (W.cell? ⟨bm, om + j * 2, none⟩ = some (.int .i64 sp.fr) ∧ W.cell? ⟨bm, om + j * 2 + 1, none⟩ = some (.int .i64 sp.sh)) ∧ (W.cell? ⟨z.b, oz + j * 2, none⟩ = some (.int .i64 sp.fr) ∧ W.cell? ⟨z.b, oz + j * 2 + 1, none⟩ = some (.int .i64 sp.sh)) ∧ W.cell? ⟨g3, k, none⟩ = some (.slice (some ⟨z.b, oz, none⟩) z.n z.c)) rfl (by kernel_rfl) (⟨⟨u0, u1⟩, ⟨v0, v1⟩, fz⟩) (fun hF0 => ?_)
                  (refine wpAnyP_takeL (i := 0) (v := ?_) rfl (by kernel_rfl) (by kernel_rfl) (by kernel_rfl) (fun _ _ _ h => h) (by rfl) ?_ ?_; rotate_left 1; focus (intro w; go_simp; try with_reducible rfl))
                  try simp only [Act.put, List.setIfInBounds_toArray, List.set_cons_zero, List.set_cons_succ]
                  (refine wpAnyP_takeL (i := 1) (v := ?_) rfl (by kernel_rfl) (by kernel_rfl) (by kernel_rfl) (fun _ _ _ h => h) (by rfl) ?_ ?_; rotate_left 1; focus (intro w; go_simp; try with_reducible rfl))
                  try simp only [Act.put, List.setIfInBounds_toArray, List.set_cons_zero, List.set_cons_succ]
                  (refine wpAnyP_takeL (i := 2) (v := ?_) rfl (by kernel_rfl) (by kernel_rfl) (by kernel_rfl) (fun _ _ _ h => h) (by rfl) ?_ ?_; rotate_left 1; focus (intro w; go_simp; try with_reducible rfl))
                  try simp only [Act.put, List.setIfInBounds_toArray, List.set_cons_zero, List.set_cons_succ]
                  (refine wpAnyP_loadL (i := 3) (v := ?_) rfl (by kernel_rfl) (by kernel_rfl) (by kernel_rfl) (by rfl) (fun _ _ _ h => h) hF0 (by rfl) ?_ ?_; rotate_left 1; focus (intro w hFw; (try dsimp only at hFw); go_split_ands; go_simp; try with_reducible rfl))
                  try simp only [Act.put, List.setIfInBounds_toArray, List.set_cons_zero, List.set_cons_succ]
                  (refine wpAnyP_takeL (i := 4) (v := ?_) rfl (by kernel_rfl) (by kernel_rfl) (by kernel_rfl) (fun _ _ _ h => h) (by rfl) ?_ ?_; rotate_left 1; focus (intro w; go_simp; try with_reducible rfl))
                  try simp only [Act.put, List.setIfInBounds_toArray, List.set_cons_zero, List.set_cons_succ]
                  (refine wpAnyP_takeL (i := 5) (v := ?_) rfl (by kernel_rfl) (by kernel_rfl) (by kernel_rfl) (fun _ _ _ h => h) (by rfl) ?_ ?_; rotate_left 1; focus (intro w; go_simp; try with_reducible rfl))
                  try simp only [Act.put, List.setIfInBounds_toArray, List.set_cons_zero, List.set_cons_succ]
                  (refine wpAnyP_takeL (i := 6) (v := ?_) rfl (by kernel_rfl) (by kernel_rfl) (by kernel_rfl) (fun _ _ _ h => h) (by rfl) ?_ ?_; rotate_left 1; focus (intro w; go_simp; try with_reducible rfl))
                  try simp only [Act.put, List.setIfInBounds_toArray, List.set_cons_zero, List.set_cons_succ]
                  (refine wpAnyP_loadL (i := 7) (v := ?_) rfl (by kernel_rfl) (by kernel_rfl) (by kernel_rfl) (by rfl) (fun _ _ _ h => h) hF0 (by rfl) ?_ ?_; rotate_left 1; focus (intro w hFw; (try dsimp only at hFw); go_split_ands; go_simp; try with_reducible rfl))
                  try simp only [Act.put, List.setIfInBounds_toArray, List.set_cons_zero, List.set_cons_succ]
                  (refine wpAnyP_takeL (i := 8) (v := ?_) rfl (by kernel_rfl) (by kernel_rfl) (by kernel_rfl) (fun _ _ _ h => h) (by rfl) ?_ ?_; rotate_left 1; focus (intro w; go_simp; try with_reducible rfl))
                  try simp only [Act.put, List.setIfInBounds_toArray, List.set_cons_zero, List.set_cons_succ]
                  (refine wpAnyP_takeL (i := 9) (v := ?_) rfl (by kernel_rfl) (by kernel_rfl) (by kernel_rfl) (fun _ _ _ h => h) (by rfl) ?_ ?_; rotate_left 1; focus (intro w; go_simp; try with_reducible rfl))
                  try simp only [Act.put, List.setIfInBounds_toArray, List.set_cons_zero, List.set_cons_succ]
                  (refine wpAnyP_loadL (i := 10) (v := ?_) rfl (by kernel_rfl) (by kernel_rfl) (by kernel_rfl) (by rfl) (fun _ _ _ h => h) hF0 (by rfl) ?_ ?_; rotate_left 1; focus (intro w hFw; (try dsimp only at hFw); go_split_ands; go_simp; try with_reducible rfl))
                  try simp only [Act.put, List.setIfInBounds_toArray, List.set_cons_zero, List.set_cons_succ]
                  (refine wpAnyP_takeL (i := 11) (v := ?_) rfl (by kernel_rfl) (by kernel_rfl) (by kernel_rfl) (fun _ _ _ h => h) (by rfl) ?_ ?_; rotate_left 1; focus (intro w; go_simp; try with_reducible rfl))
                  try simp only [Act.put, List.setIfInBounds_toArray, List.set_cons_zero, List.set_cons_succ]
                  refine wpAnyP_done (by kernel_rfl) ?_ _
                  go_wp2_with fail
                  go_roundw
                  case rel => exact ⟨j + 1, by omega, by go_num, HBj.out.drew⟩
                  case measure => simp [intOf]; omega
                · have HJ := Lib.hid (show z.n ≤ j by omega)
                  go_wp2_with fail
                  go_roundw
                  case rel => exact ⟨k + 1, by omega, by go_num, (HB.out.trans ((HVB.out.trans ((HV6.out.trans (HBj.out.mono hz9)).mono hzV)).mono hzr))⟩
                  case measure => simp [intOf]; omega
      · have HK := Lib.hid (show 4 ≤ k by omega)
        go_wp2_with fail
        refine (awake_any _).mono ?_
        rintro e w9 ⟨rfl, hB9⟩
        have L9 := Lib.hid (Below.step hB9 (Below.step HB.out HLow.out (Nat.le_refl _)) (Nat.le_refl _))
        clear hB9
        go_wp2_with fail
        go_ret
        exact ⟨rfl, L9.out⟩
end Go.Proofs.Ytkcdknjgjidnnaa
