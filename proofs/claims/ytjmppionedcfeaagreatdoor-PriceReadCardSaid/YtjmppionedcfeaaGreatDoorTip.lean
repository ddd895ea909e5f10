/-
  price.Price's closures: which of the grams weigh more.
-/
import Derived.Test.YtjmppionedcfeaaGreatDoorOf
set_option linter.unusedVariables false
set_option linter.unusedSimpArgs false
namespace Go.Proofs.YtjmppionedcfeaaGreatDoor
open Go.RowKit Go.Shelf
attribute [local go_sem] Oper.semAt_some

theorem low_any (lo hi : Int) (w : World) : Calls Tryz.prog 45 #[.agg #[.int .i64 lo, .int .i64 hi]] w fun e w' => e = .returned (.int .i64 lo) ∧ w' = w.alloc (.cells #[.int .i64 lo, .int .i64 hi] 42) := by
  go_enter Tryz.func45, Tryz.ntmps45
  go_wp2
  go_ret
  exact ⟨rfl, rfl⟩
theorem high_any (lo hi : Int) (w : World) : Calls Tryz.prog 46 #[.agg #[.int .i64 lo, .int .i64 hi]] w fun e w' => e = .returned (.int .i64 hi) ∧ w' = w.alloc (.cells #[.int .i64 lo, .int .i64 hi] 42) := by
  go_enter Tryz.func46, Tryz.ntmps46
  go_wp2
  go_ret
  exact ⟨rfl, rfl⟩
theorem tips_any (x y : Int) (w : World) : Calls Tryz.prog 44 #[.agg #[.int .i64 x, .int .i64 y]] w fun e w' => e = .returned (.bool (decide (y ≤ x))) ∧ Below w.heap.size w w' := by
  go_enter Tryz.func44, Tryz.ntmps44
  go_wp2
  go_ret
  exact ⟨by simp, by go_grown⟩

/-- which cents count, which grams of the first, which of the others -/
def ctsOf (d : Bool) (s : Sale) : Int := if d then s.ch else s.cl
def fstOf (d : Bool) (s : Sale) : Int := if d then s.gl else s.gh
def rstOf (d : Bool) (s : Sale) : Int := if d then s.gh else s.gl
def tipStep (d : Bool) (p : Int) (a : Int × Int) (s : Sale) : Int × Int := if ctsOf d s ≤ p then (IntKind.i64.wrap (a.1 + fstOf d s), a.2) else (a.1, IntKind.i64.wrap (a.2 + rstOf d s))
def tipSum (d : Bool) (p : Int) (l : List Sale) : Int × Int := l.foldl (tipStep d p) (0, 0)
theorem tipSum_snoc (d : Bool) (p : Int) (l : List Sale) (s : Sale) : tipSum d p (l ++ [s]) = tipStep d p (tipSum d p l) s := by simp [tipSum]

def viewV (d : Bool) : Array Value := if d then #[.func (.func 46) #[] #[], .func (.func 45) #[] #[], .func (.func 46) #[] #[]] else #[.func (.func 45) #[] #[], .func (.func 46) #[] #[], .func (.func 45) #[] #[]]

theorem blk_own {β : Type} (B : Nat) (t : TypeId) (f : β → Array Value) : Own (fun s W => Blk W B t (f s)) := fun s X Y row hs hg hrow =>
  Blk.grown hs hg (fun e' => by obtain ⟨o, ho, hc⟩ := hrow B e'.symm; rw [show X.heap[B]? = _ from hs] at ho; cases ho; cases hc)

set_option maxRecDepth 100000 in
set_option maxHeartbeats 2000000 in
theorem tipF_any (B1 B2 B3 : Nat) (st gd good p : Int) (b n c : Nat) (A : Option Addr) (l : List Sale) (w : World) (hn : n ≤ 1000000000) (hl : Sl encS 6 w b A n l)
    (h1 : Blk w B1 24 #[.int .i64 st, .int .i64 gd, .slice A n c]) (h2 : Blk w B2 3 #[.int .i64 good]) (h3 : Blk w B3 86 (viewV false)) :
    Calls Tryz.prog 43 #[.int .i64 p, .pointer (some ⟨B1, 0, none⟩), .pointer (some ⟨B2, 0, none⟩), .pointer (some ⟨B3, 0, none⟩)] w fun e w' =>
      e = .returned (.bool (decide ((tipSum false p (ofGood good l)).2 ≤ (tipSum false p (ofGood good l)).1))) ∧ Below w.heap.size w w' := by
  have HL := Lib.hid hl
  have H1 := Lib.hid h1
  have H2 := Lib.hid h2
  have H3 := Lib.hid h3
  have c10 := h1.cell 0
  have c11 := h1.cell 1
  have c12 := h1.cell 2
  have c20 := h2.cell 0
  have hb1 := h1.lt
  have hb2 := h2.lt
  have hb3 := h3.lt
  clear hl h1 h2 h3
  refine (callsIn_wide (n := 9)).1 ?_
  refine callsIn_of_wp_marks Tryz.func43 rfl trivial ?_ rfl
  simp only [Tryz.ntmps43, List.size_toArray, List.length_cons, List.length_nil, Nat.reduceAdd, Nat.reduceSub, Array.replicate_succ, Array.replicate_zero, List.push_toArray, List.append_toArray, List.nil_append, List.cons_append]
  gi_wp2_with (refine ⟨trivial, ?_⟩; gi_at_call 41; refine (callsIn_wide.2 (of_any _ _ _ _ _ _ _)).mono ?_; rintro e w' ⟨rfl, rfl⟩)
  have bP : Blk (w.alloc (.cells #[.int .i64 p] 3)) w.heap.size 3 #[.int .i64 p] := Blk.new _ _ _
  have bY : Blk ((w.alloc (.cells #[.int .i64 p] 3)).alloc (.cells #[.int .i64 0, .int .i64 0] 89)) (w.heap.size + 1) 89 #[.int .i64 0, .int .i64 0] := by have := Blk.new (w.alloc (.cells #[.int .i64 p] 3)) 89 #[.int .i64 0, .int .i64 0]; rwa [World.size_alloc] at this
  have bB := Blk.new ((w.alloc (.cells #[.int .i64 p] 3)).alloc (.cells #[.int .i64 0, .int .i64 0] 89)) 24 #[.int .i64 st, .int .i64 gd, .slice A n c]
  have bG := Blk.new (((w.alloc (.cells #[.int .i64 p] 3)).alloc (.cells #[.int .i64 0, .int .i64 0] 89)).alloc (.cells #[.int .i64 st, .int .i64 gd, .slice A n c] 24)) 3 #[.int .i64 good]
  simp only [World.size_alloc] at bB bG
  have hB0 : Below w.heap.size w ((((w.alloc (.cells #[.int .i64 p] 3)).alloc (.cells #[.int .i64 0, .int .i64 0] 89)).alloc (.cells #[.int .i64 st, .int .i64 gd, .slice A n c] 24)).alloc (.cells #[.int .i64 good] 3)) := by go_grown
  replace bP := ((bP.alloc (.cells #[.int .i64 0, .int .i64 0] 89)).alloc (.cells #[.int .i64 st, .int .i64 gd, .slice A n c] 24)).alloc (.cells #[.int .i64 good] 3)
  replace bY := (bY.alloc (.cells #[.int .i64 st, .int .i64 gd, .slice A n c] 24)).alloc (.cells #[.int .i64 good] 3)
  replace bB := bB.alloc (.cells #[.int .i64 good] 3)
  have hsz : ((((w.alloc (.cells #[.int .i64 p] 3)).alloc (.cells #[.int .i64 0, .int .i64 0] 89)).alloc (.cells #[.int .i64 st, .int .i64 gd, .slice A n c] 24)).alloc (.cells #[.int .i64 good] 3)).heap.size = w.heap.size + 4 := by simp
  obtain ⟨W0, hW0⟩ : ∃ W0, ((((w.alloc (.cells #[.int .i64 p] 3)).alloc (.cells #[.int .i64 0, .int .i64 0] 89)).alloc (.cells #[.int .i64 st, .int .i64 gd, .slice A n c] 24)).alloc (.cells #[.int .i64 good] 3)) = W0 := ⟨_, rfl⟩
  rw [hW0] at bP bY bB bG hB0 hsz ⊢
  clear hW0
  have hlt0 : 0 < n → b < w.heap.size := fun h => HL.out.lt h
  refine wpIn_rangeFunc_ownH rfl (by omega) (gf := 62) (lb := #[.pointer (some ⟨w.heap.size + 1 + 1, 0, none⟩), .pointer (some ⟨w.heap.size + 1 + 1 + 1, 0, none⟩)]) rfl trivial (enters_of Tryz.func62 (by kernel_rfl) rfl)
    (of1_stops _ (w.heap.size + 1 + 1) (w.heap.size + 1 + 1 + 1) w.heap.size st gd good b n c A l hn W0 (by omega) (by omega) hlt0 (by omega) bB bG (HL.out.old hB0)) KpOf.trans
    (fun W L' o o' hle hlo hc hw => ⟨belowK_b (w := W0) (by omega) W L' o o' hle hlo hc hw, World.putObj_heap_other (by omega)⟩) (Below.refl _ _) (fun _ => rfl)
    (fun pre W => (Blk W (w.heap.size + 1) 89 #[.int .i64 (tipSum false p pre).1, .int .i64 (tipSum false p pre).2] ∧ Blk W w.heap.size 3 #[.int .i64 p]) ∧ Below w.heap.size w W ∧ w.heap.size + 4 ≤ W.heap.size)
    (fun _ _ _ => False)
    (OwnFrom.and (OwnFrom.and (Own.from (blk_own _ _ _) _) (Own.from (blk_own _ _ _) _)) (OwnFrom.and (ownFrom_below (Nat.le_refl _) (by omega)) (fun _ _ _ _ hs hg _ => Nat.le_trans hs hg.size)))
    (fun _ _ _ _ _ hs _ _ => hs)
    ⟨⟨bY, bP⟩, hB0, by omega⟩
    (fun x a' W => ∃ Bx, w.heap.size + 4 ≤ Bx ∧ Blk W Bx 59 #[.int .i64 x.st, .int .i64 x.gd, .int .i64 x.gl, .int .i64 x.gh, .int .i64 x.cl, .int .i64 x.ch] ∧ a' = { tmps := #[.int .i64 p, .pointer (some ⟨B1, 0, none⟩), .pointer (some ⟨B2, 0, none⟩), .pointer (some ⟨B3, 0, none⟩), .pointer (some ⟨w.heap.size, 0, none⟩), .bool false, .pointer (some ⟨w.heap.size + 1, 0, none⟩), .pointer (some ⟨Bx, 0, none⟩),
      .agg #[.int .i64 st, .int .i64 gd, .slice A n c], .int .i64 good, .func (.func 62) #[] #[.pointer (some ⟨w.heap.size + 1 + 1, 0, none⟩), .pointer (some ⟨w.heap.size + 1 + 1 + 1, 0, none⟩)],
      .agg #[.int .i64 x.st, .int .i64 x.gd, .int .i64 x.gl, .int .i64 x.gh, .int .i64 x.cl, .int .i64 x.ch], undef, undef, undef, undef, undef, undef, undef, undef, undef, undef, undef, undef, undef, undef, undef, undef, undef, undef, undef, undef, undef, undef, undef, undef, undef, undef, undef], defers := [] })
    (fun x a' => fun s X Y row hs hg hr => by
      obtain ⟨Bx, h1, h2, h3⟩ := hs
      exact ⟨Bx, h1, (blk_own Bx _ (fun _ : Unit => _)) s X Y row h2 hg (fun r e => (hr r e).2), h3⟩) ?assign ?body ?done ?stop
  case assign =>
    rintro L pre x W K ⟨⟨hY, hP⟩, hB, hS⟩ hK
    have hz := hB.size
    unfold saleV
    gi_wp2
    exact hK _ _ ((KeepsOthers.alloc _ _).from _) ((KpOf.refl _ _ W).alloc hz (by omega) _) ⟨⟨hY.alloc _, hP.alloc _⟩, hB.alloc hz _, by simp; omega⟩ ⟨W.heap.size, hS, Blk.new _ _ _, rfl⟩
  case body =>
    rintro L pre x a' W hl0 ⟨r, hr⟩ ⟨⟨hY, hP⟩, hB, hS⟩ ⟨Bx, hBx, bX, rfl⟩ hlt
    have HY := Lib.hid (hY.drew)
    have HYp := Lib.hid hY
    have HPp := Lib.hid hP
    have HX := Lib.hid (bX.drew)
    have HP := Lib.hid (hP.drew)
    have HV := Lib.hid ((H3.out.below hB hb3).drew)
    have HB := Lib.hid hB
    clear hY hP bX hr hB
    gi_wp2
    refine wpIn_region_PL [1, 3, 5] (fun w' => w'.cell? ⟨B3, 0, none⟩ = some (.func (.func 45) #[] #[]) ∧ w'.cell? ⟨Bx, 4, none⟩ = some (.int .i64 x.cl) ∧ w'.cell? ⟨Bx, 5, none⟩ = some (.int .i64 x.ch) ∧ w'.cell? ⟨w.heap.size, 0, none⟩ = some (.int .i64 p)) rfl (by kernel_rfl) (by kernel_rfl) (fun ⟨_, _, h⟩ => h) (⟨HV.out.cell 0, HX.out.cell 4, HX.out.cell 5, HP.out.cell 0⟩) (fun hF0 => ?_)
    (refine wpAnyP_takeL (i := 0) (v := ?_) rfl (by kernel_rfl) (by kernel_rfl) (by kernel_rfl) (fun _ _ _ h => h) (by rfl) ?_ ?_; rotate_left 1; focus (intro w; go_simp; try with_reducible rfl))
    try simp only [Act.put, List.setIfInBounds_toArray, List.set_cons_zero, List.set_cons_succ]
    (refine wpAnyP_loadL (i := 1) (v := ?_) rfl (by kernel_rfl) (by kernel_rfl) (by kernel_rfl) (by rfl) (fun _ _ _ h => h) hF0 (by rfl) ?_ ?_; rotate_left 1; focus (intro w hFw; (try dsimp only at hFw); go_split_ands; go_simp; try with_reducible rfl))
    try simp only [Act.put, List.setIfInBounds_toArray, List.set_cons_zero, List.set_cons_succ]
    (refine wpAnyP_takeL (i := 2) (v := ?_) rfl (by kernel_rfl) (by kernel_rfl) (by kernel_rfl) (fun _ _ _ h => h) (by rfl) ?_ ?_; rotate_left 1; focus (intro w; go_simp; try with_reducible rfl))
    try simp only [Act.put, List.setIfInBounds_toArray, List.set_cons_zero, List.set_cons_succ]
    (refine wpAnyP_loadL (i := 3) (v := ?_) rfl (by kernel_rfl) (by kernel_rfl) (by kernel_rfl) (by rfl) (fun _ _ _ h => h) hF0 (by rfl) ?_ ?_; rotate_left 1; focus (intro w hFw; (try dsimp only at hFw); go_split_ands; go_simp; try with_reducible rfl))
    try simp only [Act.put, List.setIfInBounds_toArray, List.set_cons_zero, List.set_cons_succ]
    (refine wpAnyP_loadL (i := 5) (v := ?_) rfl (by kernel_rfl) (by kernel_rfl) (by kernel_rfl) (by rfl) (fun _ _ _ h => h) hF0 (by rfl) ?_ ?_; rotate_left 1; focus (intro w hFw; (try dsimp only at hFw); go_split_ands; go_simp; try with_reducible rfl))
    try simp only [Act.put, List.setIfInBounds_toArray, List.set_cons_zero, List.set_cons_succ]
    refine wpAnyP_step (i := 4) rfl (by kernel_rfl) (by rfl) (fun K hK => ?_)
    go_simp
    (refine (low_any _ _ _).mono ?_; rintro e w4 ⟨rfl, rfl⟩)
    (refine hK _ _ (⟨(HV.out.alloc _).cell 0, (HX.out.alloc _).cell 4, (HX.out.alloc _).cell 5, (HP.out.alloc _).cell 0⟩) (fun hF1 => ?_); clear hK K hF0)
    try simp only [Act.put, List.setIfInBounds_toArray, List.set_cons_zero, List.set_cons_succ]
    (refine wpAnyP_takeL (i := 6) (v := ?_) rfl (by kernel_rfl) (by kernel_rfl) (by kernel_rfl) (fun _ _ _ h => h) (by rfl) ?_ ?_; rotate_left 1; focus (intro w; go_simp; try with_reducible rfl))
    try simp only [Act.put, List.setIfInBounds_toArray, List.set_cons_zero, List.set_cons_succ]
    refine wpAnyP_done (by kernel_rfl) ?_ _
    have HY1 := Lib.hid ((HY.out.alloc (.cells #[.int .i64 x.cl, .int .i64 x.ch] 42)).drew)
    have HX1 := Lib.hid ((HX.out.alloc (.cells #[.int .i64 x.cl, .int .i64 x.ch] 42)).drew)
    have HP1 := Lib.hid ((HP.out.alloc (.cells #[.int .i64 x.cl, .int .i64 x.ch] 42)).drew)
    have HV1 := Lib.hid ((HV.out.alloc (.cells #[.int .i64 x.cl, .int .i64 x.ch] 42)).drew)
    gi_wp2
    · have hc : x.cl ≤ p := by assumption
      refine wpIn_region_PL [1, 3, 5] (fun w' => w'.cell? ⟨w.heap.size + 1, 0, none⟩ = some (.int .i64 (tipSum false p pre).1) ∧ w'.cell? ⟨B3, 1, none⟩ = some (.func (.func 46) #[] #[]) ∧ w'.cell? ⟨Bx, 2, none⟩ = some (.int .i64 x.gl) ∧ w'.cell? ⟨Bx, 3, none⟩ = some (.int .i64 x.gh)) rfl (by kernel_rfl) (by kernel_rfl) (fun ⟨_, _, h⟩ => h) (⟨HY1.out.cell 0, HV1.out.cell 1, HX1.out.cell 2, HX1.out.cell 3⟩) (fun hF0 => ?_)
      (refine wpAnyP_takeL (i := 0) (v := ?_) rfl (by kernel_rfl) (by kernel_rfl) (by kernel_rfl) (fun _ _ _ h => h) (by rfl) ?_ ?_; rotate_left 1; focus (intro w; go_simp; try with_reducible rfl))
      try simp only [Act.put, List.setIfInBounds_toArray, List.set_cons_zero, List.set_cons_succ]
      (refine wpAnyP_loadL (i := 1) (v := ?_) rfl (by kernel_rfl) (by kernel_rfl) (by kernel_rfl) (by rfl) (fun _ _ _ h => h) hF0 (by rfl) ?_ ?_; rotate_left 1; focus (intro w hFw; (try dsimp only at hFw); go_split_ands; go_simp; try with_reducible rfl))
      try simp only [Act.put, List.setIfInBounds_toArray, List.set_cons_zero, List.set_cons_succ]
      (refine wpAnyP_takeL (i := 2) (v := ?_) rfl (by kernel_rfl) (by kernel_rfl) (by kernel_rfl) (fun _ _ _ h => h) (by rfl) ?_ ?_; rotate_left 1; focus (intro w; go_simp; try with_reducible rfl))
      try simp only [Act.put, List.setIfInBounds_toArray, List.set_cons_zero, List.set_cons_succ]
      (refine wpAnyP_loadL (i := 3) (v := ?_) rfl (by kernel_rfl) (by kernel_rfl) (by kernel_rfl) (by rfl) (fun _ _ _ h => h) hF0 (by rfl) ?_ ?_; rotate_left 1; focus (intro w hFw; (try dsimp only at hFw); go_split_ands; go_simp; try with_reducible rfl))
      try simp only [Act.put, List.setIfInBounds_toArray, List.set_cons_zero, List.set_cons_succ]
      (refine wpAnyP_takeL (i := 4) (v := ?_) rfl (by kernel_rfl) (by kernel_rfl) (by kernel_rfl) (fun _ _ _ h => h) (by rfl) ?_ ?_; rotate_left 1; focus (intro w; go_simp; try with_reducible rfl))
      try simp only [Act.put, List.setIfInBounds_toArray, List.set_cons_zero, List.set_cons_succ]
      (refine wpAnyP_loadL (i := 5) (v := ?_) rfl (by kernel_rfl) (by kernel_rfl) (by kernel_rfl) (by rfl) (fun _ _ _ h => h) hF0 (by rfl) ?_ ?_; rotate_left 1; focus (intro w hFw; (try dsimp only at hFw); go_split_ands; go_simp; try with_reducible rfl))
      try simp only [Act.put, List.setIfInBounds_toArray, List.set_cons_zero, List.set_cons_succ]
      refine wpAnyP_step (i := 6) rfl (by kernel_rfl) (by rfl) (fun K hK => ?_)
      go_simp
      (refine (high_any _ _ _).mono ?_; rintro e w5 ⟨rfl, rfl⟩)
      (refine hK _ _ (⟨(HY1.out.alloc _).cell 0, (HV1.out.alloc _).cell 1, (HX1.out.alloc _).cell 2, (HX1.out.alloc _).cell 3⟩) (fun hF1 => ?_); clear hK K hF0)
      try simp only [Act.put, List.setIfInBounds_toArray, List.set_cons_zero, List.set_cons_succ]
      (refine wpAnyP_takeL (i := 7) (v := ?_) rfl (by kernel_rfl) (by kernel_rfl) (by kernel_rfl) (fun _ _ _ h => h) (by rfl) ?_ ?_; rotate_left 1; focus (intro w; go_simp; try with_reducible rfl))
      try simp only [Act.put, List.setIfInBounds_toArray, List.set_cons_zero, List.set_cons_succ]
      (refine wpAnyP_takeL (i := 8) (v := ?_) rfl (by kernel_rfl) (by kernel_rfl) (by kernel_rfl) (fun _ _ _ h => h) (by rfl) ?_ ?_; rotate_left 1; focus (intro w; go_simp; try with_reducible rfl))
      try simp only [Act.put, List.setIfInBounds_toArray, List.set_cons_zero, List.set_cons_succ]
      refine wpAnyP_last (i := 9) rfl (by kernel_rfl) (by kernel_rfl) (by rfl) (fun K hK => ?_)
      go_simp
      (have f0 := ((HYp.out.alloc (.cells #[.int .i64 x.cl, .int .i64 x.ch] 42)).alloc (.cells #[.int .i64 x.gl, .int .i64 x.gh] 42)).frozen 0; have k0 := ((HYp.out.alloc (.cells #[.int .i64 x.cl, .int .i64 x.ch] 42)).alloc (.cells #[.int .i64 x.gl, .int .i64 x.gh] 42)).cell 0; go_simp; clear f0 k0)
      (refine hK _ _ ?_; clear hK K)
      try simp only [Act.put, List.setIfInBounds_toArray, List.set_cons_zero, List.set_cons_succ]
      refine wpAnyP_done (by kernel_rfl) ?_ _
      have HY2 := Lib.hid (((HYp.out.alloc (.cells #[.int .i64 x.cl, .int .i64 x.ch] 42)).alloc (.cells #[.int .i64 x.gl, .int .i64 x.gh] 42)).set_ 0 (.int .i64 (IntKind.i64.wrap ((tipSum false p pre).1 + x.gh))))
      have HP2 := Lib.hid (((HPp.out.alloc (.cells #[.int .i64 x.cl, .int .i64 x.ch] 42)).alloc (.cells #[.int .i64 x.gl, .int .i64 x.gh] 42)).far (p := ⟨w.heap.size + 1, 0, none⟩) (by simp) (.int .i64 (IntKind.i64.wrap ((tipSum false p pre).1 + x.gh))))
      gi_wp2
      have hz1 : w.heap.size ≤ (W.alloc (.cells #[.int .i64 x.cl, .int .i64 x.ch] 42)).heap.size := by simp; omega
      refine ⟨(((((KeepsOthers.alloc W _).trans (KeepsOthers.alloc _ _)).trans (KeepsOthers.setCell _ _ _)).trans (KeepsOthers.drew _)).trans (KeepsOthers.drew _)).from _,
        ⟨((((((Below.refl _ W).alloc HB.out.size _).alloc hz1 _).setCell (p := ⟨w.heap.size + 1, 0, none⟩) (Nat.le_succ _) _).drew).drew), ?_⟩, ⟨?_, ?_⟩,
        ((((((HB.out).alloc HB.out.size _).alloc hz1 _).setCell (p := ⟨w.heap.size + 1, 0, none⟩) (Nat.le_succ _) _).drew).drew), by simp; omega⟩
      · exact (Below.heap_setCell _ _ _ _ (by show w.heap.size + 1 + 1 + 1 ≠ w.heap.size + 1; omega)).trans ((Below.heap_alloc _ _ _ (by simp; omega)).trans (Below.heap_alloc _ _ _ (by omega)))
      · rw [tipSum_snoc]
        have e : tipStep false p (tipSum false p pre) x = (IntKind.i64.wrap ((tipSum false p pre).1 + x.gh), (tipSum false p pre).2) := by simp only [tipStep, ctsOf, fstOf, rstOf]; exact if_pos hc
        rw [e]
        exact HY2.out
      · exact HP2.out
    · have hc : p < x.cl := by assumption
      refine wpIn_region_PL [1, 3, 5] (fun w' => w'.cell? ⟨w.heap.size + 1, 1, none⟩ = some (.int .i64 (tipSum false p pre).2) ∧ w'.cell? ⟨B3, 2, none⟩ = some (.func (.func 45) #[] #[]) ∧ w'.cell? ⟨Bx, 2, none⟩ = some (.int .i64 x.gl) ∧ w'.cell? ⟨Bx, 3, none⟩ = some (.int .i64 x.gh)) rfl (by kernel_rfl) (by kernel_rfl) (fun ⟨_, _, h⟩ => h) (⟨HY1.out.cell 1, HV1.out.cell 2, HX1.out.cell 2, HX1.out.cell 3⟩) (fun hF0 => ?_)
      (refine wpAnyP_takeL (i := 0) (v := ?_) rfl (by kernel_rfl) (by kernel_rfl) (by kernel_rfl) (fun _ _ _ h => h) (by rfl) ?_ ?_; rotate_left 1; focus (intro w; go_simp; try with_reducible rfl))
      try simp only [Act.put, List.setIfInBounds_toArray, List.set_cons_zero, List.set_cons_succ]
      (refine wpAnyP_loadL (i := 1) (v := ?_) rfl (by kernel_rfl) (by kernel_rfl) (by kernel_rfl) (by rfl) (fun _ _ _ h => h) hF0 (by rfl) ?_ ?_; rotate_left 1; focus (intro w hFw; (try dsimp only at hFw); go_split_ands; go_simp; try with_reducible rfl))
      try simp only [Act.put, List.setIfInBounds_toArray, List.set_cons_zero, List.set_cons_succ]
      (refine wpAnyP_takeL (i := 2) (v := ?_) rfl (by kernel_rfl) (by kernel_rfl) (by kernel_rfl) (fun _ _ _ h => h) (by rfl) ?_ ?_; rotate_left 1; focus (intro w; go_simp; try with_reducible rfl))
      try simp only [Act.put, List.setIfInBounds_toArray, List.set_cons_zero, List.set_cons_succ]
      (refine wpAnyP_loadL (i := 3) (v := ?_) rfl (by kernel_rfl) (by kernel_rfl) (by kernel_rfl) (by rfl) (fun _ _ _ h => h) hF0 (by rfl) ?_ ?_; rotate_left 1; focus (intro w hFw; (try dsimp only at hFw); go_split_ands; go_simp; try with_reducible rfl))
      try simp only [Act.put, List.setIfInBounds_toArray, List.set_cons_zero, List.set_cons_succ]
      (refine wpAnyP_takeL (i := 4) (v := ?_) rfl (by kernel_rfl) (by kernel_rfl) (by kernel_rfl) (fun _ _ _ h => h) (by rfl) ?_ ?_; rotate_left 1; focus (intro w; go_simp; try with_reducible rfl))
      try simp only [Act.put, List.setIfInBounds_toArray, List.set_cons_zero, List.set_cons_succ]
      (refine wpAnyP_loadL (i := 5) (v := ?_) rfl (by kernel_rfl) (by kernel_rfl) (by kernel_rfl) (by rfl) (fun _ _ _ h => h) hF0 (by rfl) ?_ ?_; rotate_left 1; focus (intro w hFw; (try dsimp only at hFw); go_split_ands; go_simp; try with_reducible rfl))
      try simp only [Act.put, List.setIfInBounds_toArray, List.set_cons_zero, List.set_cons_succ]
      refine wpAnyP_step (i := 6) rfl (by kernel_rfl) (by rfl) (fun K hK => ?_)
      go_simp
      (refine (low_any _ _ _).mono ?_; rintro e w5 ⟨rfl, rfl⟩)
      (refine hK _ _ (⟨(HY1.out.alloc _).cell 1, (HV1.out.alloc _).cell 2, (HX1.out.alloc _).cell 2, (HX1.out.alloc _).cell 3⟩) (fun hF1 => ?_); clear hK K hF0)
      try simp only [Act.put, List.setIfInBounds_toArray, List.set_cons_zero, List.set_cons_succ]
      (refine wpAnyP_takeL (i := 7) (v := ?_) rfl (by kernel_rfl) (by kernel_rfl) (by kernel_rfl) (fun _ _ _ h => h) (by rfl) ?_ ?_; rotate_left 1; focus (intro w; go_simp; try with_reducible rfl))
      try simp only [Act.put, List.setIfInBounds_toArray, List.set_cons_zero, List.set_cons_succ]
      (refine wpAnyP_takeL (i := 8) (v := ?_) rfl (by kernel_rfl) (by kernel_rfl) (by kernel_rfl) (fun _ _ _ h => h) (by rfl) ?_ ?_; rotate_left 1; focus (intro w; go_simp; try with_reducible rfl))
      try simp only [Act.put, List.setIfInBounds_toArray, List.set_cons_zero, List.set_cons_succ]
      refine wpAnyP_last (i := 9) rfl (by kernel_rfl) (by kernel_rfl) (by rfl) (fun K hK => ?_)
      go_simp
      (have f0 := ((HYp.out.alloc (.cells #[.int .i64 x.cl, .int .i64 x.ch] 42)).alloc (.cells #[.int .i64 x.gl, .int .i64 x.gh] 42)).frozen 1; have k0 := ((HYp.out.alloc (.cells #[.int .i64 x.cl, .int .i64 x.ch] 42)).alloc (.cells #[.int .i64 x.gl, .int .i64 x.gh] 42)).cell 1; go_simp; clear f0 k0)
      (refine hK _ _ ?_; clear hK K)
      try simp only [Act.put, List.setIfInBounds_toArray, List.set_cons_zero, List.set_cons_succ]
      refine wpAnyP_done (by kernel_rfl) ?_ _
      have HY2 := Lib.hid (((HYp.out.alloc (.cells #[.int .i64 x.cl, .int .i64 x.ch] 42)).alloc (.cells #[.int .i64 x.gl, .int .i64 x.gh] 42)).set_ 1 (.int .i64 (IntKind.i64.wrap ((tipSum false p pre).2 + x.gl))))
      have HP2 := Lib.hid (((HPp.out.alloc (.cells #[.int .i64 x.cl, .int .i64 x.ch] 42)).alloc (.cells #[.int .i64 x.gl, .int .i64 x.gh] 42)).far (p := ⟨w.heap.size + 1, 1, none⟩) (by simp) (.int .i64 (IntKind.i64.wrap ((tipSum false p pre).2 + x.gl))))
      gi_wp2
      have hz1 : w.heap.size ≤ (W.alloc (.cells #[.int .i64 x.cl, .int .i64 x.ch] 42)).heap.size := by simp; omega
      refine ⟨(((((KeepsOthers.alloc W _).trans (KeepsOthers.alloc _ _)).trans (KeepsOthers.setCell _ _ _)).trans (KeepsOthers.drew _)).trans (KeepsOthers.drew _)).from _,
        ⟨((((((Below.refl _ W).alloc HB.out.size _).alloc hz1 _).setCell (p := ⟨w.heap.size + 1, 1, none⟩) (Nat.le_succ _) _).drew).drew), ?_⟩, ⟨?_, ?_⟩,
        ((((((HB.out).alloc HB.out.size _).alloc hz1 _).setCell (p := ⟨w.heap.size + 1, 1, none⟩) (Nat.le_succ _) _).drew).drew), by simp; omega⟩
      · exact (Below.heap_setCell _ _ _ _ (by show w.heap.size + 1 + 1 + 1 ≠ w.heap.size + 1; omega)).trans ((Below.heap_alloc _ _ _ (by simp; omega)).trans (Below.heap_alloc _ _ _ (by omega)))
      · rw [tipSum_snoc]
        have e : tipStep false p (tipSum false p pre) x = ((tipSum false p pre).1, IntKind.i64.wrap ((tipSum false p pre).2 + x.gl)) := by simp only [tipStep, ctsOf, fstOf, rstOf]; exact if_neg (by show ¬ x.cl ≤ p; omega)
        rw [e]
        exact HY2.out
      · exact HP2.out
  case done =>
    rintro D ys W hD rfl ⟨⟨hY, hP⟩, hB, hS⟩ hK
    have y0 := hY.cell 0
    have y1 := hY.cell 1
    gi_wp2_with (refine ⟨trivial, ?_⟩; gi_at_call 44; refine (callsIn_wide.2 (tips_any _ _ _)).mono ?_; rintro e w' ⟨rfl, hb⟩)
    have hK' : w'.heap[D]? = some (.deferred (some [])) := (hb.block D (Array.getElem?_eq_some_iff.1 hK).1).trans hK
    refine ⟨by simp, .inl ⟨_, _, rfl, run_takeDeferred hK', ?_⟩⟩
    exact ⟨_, results_tmp rfl _ _ _, rfl, (Below.step hb hB (Nat.le_refl _)).trans (belowK_b (w := w) (Nat.le_refl _) w' D _ _ (by omega) hK' rfl rfl)⟩
  case stop =>
    rintro D c pre W _ _ h _
    exact h.elim
set_option maxRecDepth 100000 in
set_option maxHeartbeats 2000000 in
theorem tipT_any (B1 B2 B3 : Nat) (st gd good p : Int) (b n c : Nat) (A : Option Addr) (l : List Sale) (w : World) (hn : n ≤ 1000000000) (hl : Sl encS 6 w b A n l)
    (h1 : Blk w B1 24 #[.int .i64 st, .int .i64 gd, .slice A n c]) (h2 : Blk w B2 3 #[.int .i64 good]) (h3 : Blk w B3 86 (viewV true)) :
    Calls Tryz.prog 43 #[.int .i64 p, .pointer (some ⟨B1, 0, none⟩), .pointer (some ⟨B2, 0, none⟩), .pointer (some ⟨B3, 0, none⟩)] w fun e w' =>
      e = .returned (.bool (decide ((tipSum true p (ofGood good l)).2 ≤ (tipSum true p (ofGood good l)).1))) ∧ Below w.heap.size w w' := by
  have HL := Lib.hid hl
  have H1 := Lib.hid h1
  have H2 := Lib.hid h2
  have H3 := Lib.hid h3
  have c10 := h1.cell 0
  have c11 := h1.cell 1
  have c12 := h1.cell 2
  have c20 := h2.cell 0
  have hb1 := h1.lt
  have hb2 := h2.lt
  have hb3 := h3.lt
  clear hl h1 h2 h3
  refine (callsIn_wide (n := 9)).1 ?_
  refine callsIn_of_wp_marks Tryz.func43 rfl trivial ?_ rfl
  simp only [Tryz.ntmps43, List.size_toArray, List.length_cons, List.length_nil, Nat.reduceAdd, Nat.reduceSub, Array.replicate_succ, Array.replicate_zero, List.push_toArray, List.append_toArray, List.nil_append, List.cons_append]
  gi_wp2_with (refine ⟨trivial, ?_⟩; gi_at_call 41; refine (callsIn_wide.2 (of_any _ _ _ _ _ _ _)).mono ?_; rintro e w' ⟨rfl, rfl⟩)
  have bP : Blk (w.alloc (.cells #[.int .i64 p] 3)) w.heap.size 3 #[.int .i64 p] := Blk.new _ _ _
  have bY : Blk ((w.alloc (.cells #[.int .i64 p] 3)).alloc (.cells #[.int .i64 0, .int .i64 0] 89)) (w.heap.size + 1) 89 #[.int .i64 0, .int .i64 0] := by have := Blk.new (w.alloc (.cells #[.int .i64 p] 3)) 89 #[.int .i64 0, .int .i64 0]; rwa [World.size_alloc] at this
  have bB := Blk.new ((w.alloc (.cells #[.int .i64 p] 3)).alloc (.cells #[.int .i64 0, .int .i64 0] 89)) 24 #[.int .i64 st, .int .i64 gd, .slice A n c]
  have bG := Blk.new (((w.alloc (.cells #[.int .i64 p] 3)).alloc (.cells #[.int .i64 0, .int .i64 0] 89)).alloc (.cells #[.int .i64 st, .int .i64 gd, .slice A n c] 24)) 3 #[.int .i64 good]
  simp only [World.size_alloc] at bB bG
  have hB0 : Below w.heap.size w ((((w.alloc (.cells #[.int .i64 p] 3)).alloc (.cells #[.int .i64 0, .int .i64 0] 89)).alloc (.cells #[.int .i64 st, .int .i64 gd, .slice A n c] 24)).alloc (.cells #[.int .i64 good] 3)) := by go_grown
  replace bP := ((bP.alloc (.cells #[.int .i64 0, .int .i64 0] 89)).alloc (.cells #[.int .i64 st, .int .i64 gd, .slice A n c] 24)).alloc (.cells #[.int .i64 good] 3)
  replace bY := (bY.alloc (.cells #[.int .i64 st, .int .i64 gd, .slice A n c] 24)).alloc (.cells #[.int .i64 good] 3)
  replace bB := bB.alloc (.cells #[.int .i64 good] 3)
  have hsz : ((((w.alloc (.cells #[.int .i64 p] 3)).alloc (.cells #[.int .i64 0, .int .i64 0] 89)).alloc (.cells #[.int .i64 st, .int .i64 gd, .slice A n c] 24)).alloc (.cells #[.int .i64 good] 3)).heap.size = w.heap.size + 4 := by simp
  obtain ⟨W0, hW0⟩ : ∃ W0, ((((w.alloc (.cells #[.int .i64 p] 3)).alloc (.cells #[.int .i64 0, .int .i64 0] 89)).alloc (.cells #[.int .i64 st, .int .i64 gd, .slice A n c] 24)).alloc (.cells #[.int .i64 good] 3)) = W0 := ⟨_, rfl⟩
  rw [hW0] at bP bY bB bG hB0 hsz ⊢
  clear hW0
  have hlt0 : 0 < n → b < w.heap.size := fun h => HL.out.lt h
  refine wpIn_rangeFunc_ownH rfl (by omega) (gf := 62) (lb := #[.pointer (some ⟨w.heap.size + 1 + 1, 0, none⟩), .pointer (some ⟨w.heap.size + 1 + 1 + 1, 0, none⟩)]) rfl trivial (enters_of Tryz.func62 (by kernel_rfl) rfl)
    (of1_stops _ (w.heap.size + 1 + 1) (w.heap.size + 1 + 1 + 1) w.heap.size st gd good b n c A l hn W0 (by omega) (by omega) hlt0 (by omega) bB bG (HL.out.old hB0)) KpOf.trans
    (fun W L' o o' hle hlo hc hw => ⟨belowK_b (w := W0) (by omega) W L' o o' hle hlo hc hw, World.putObj_heap_other (by omega)⟩) (Below.refl _ _) (fun _ => rfl)
    (fun pre W => (Blk W (w.heap.size + 1) 89 #[.int .i64 (tipSum true p pre).1, .int .i64 (tipSum true p pre).2] ∧ Blk W w.heap.size 3 #[.int .i64 p]) ∧ Below w.heap.size w W ∧ w.heap.size + 4 ≤ W.heap.size)
    (fun _ _ _ => False)
    (OwnFrom.and (OwnFrom.and (Own.from (blk_own _ _ _) _) (Own.from (blk_own _ _ _) _)) (OwnFrom.and (ownFrom_below (Nat.le_refl _) (by omega)) (fun _ _ _ _ hs hg _ => Nat.le_trans hs hg.size)))
    (fun _ _ _ _ _ hs _ _ => hs)
    ⟨⟨bY, bP⟩, hB0, by omega⟩
    (fun x a' W => ∃ Bx, w.heap.size + 4 ≤ Bx ∧ Blk W Bx 59 #[.int .i64 x.st, .int .i64 x.gd, .int .i64 x.gl, .int .i64 x.gh, .int .i64 x.cl, .int .i64 x.ch] ∧ a' = { tmps := #[.int .i64 p, .pointer (some ⟨B1, 0, none⟩), .pointer (some ⟨B2, 0, none⟩), .pointer (some ⟨B3, 0, none⟩), .pointer (some ⟨w.heap.size, 0, none⟩), .bool false, .pointer (some ⟨w.heap.size + 1, 0, none⟩), .pointer (some ⟨Bx, 0, none⟩),
      .agg #[.int .i64 st, .int .i64 gd, .slice A n c], .int .i64 good, .func (.func 62) #[] #[.pointer (some ⟨w.heap.size + 1 + 1, 0, none⟩), .pointer (some ⟨w.heap.size + 1 + 1 + 1, 0, none⟩)],
      .agg #[.int .i64 x.st, .int .i64 x.gd, .int .i64 x.gl, .int .i64 x.gh, .int .i64 x.cl, .int .i64 x.ch], undef, undef, undef, undef, undef, undef, undef, undef, undef, undef, undef, undef, undef, undef, undef, undef, undef, undef, undef, undef, undef, undef, undef, undef, undef, undef, undef], defers := [] })
    (fun x a' => fun s X Y row hs hg hr => by
      obtain ⟨Bx, h1, h2, h3⟩ := hs
      exact ⟨Bx, h1, (blk_own Bx _ (fun _ : Unit => _)) s X Y row h2 hg (fun r e => (hr r e).2), h3⟩) ?assign ?body ?done ?stop
  case assign =>
    rintro L pre x W K ⟨⟨hY, hP⟩, hB, hS⟩ hK
    have hz := hB.size
    unfold saleV
    gi_wp2
    exact hK _ _ ((KeepsOthers.alloc _ _).from _) ((KpOf.refl _ _ W).alloc hz (by omega) _) ⟨⟨hY.alloc _, hP.alloc _⟩, hB.alloc hz _, by simp; omega⟩ ⟨W.heap.size, hS, Blk.new _ _ _, rfl⟩
  case body =>
    rintro L pre x a' W hl0 ⟨r, hr⟩ ⟨⟨hY, hP⟩, hB, hS⟩ ⟨Bx, hBx, bX, rfl⟩ hlt
    have HY := Lib.hid (hY.drew)
    have HYp := Lib.hid hY
    have HPp := Lib.hid hP
    have HX := Lib.hid (bX.drew)
    have HP := Lib.hid (hP.drew)
    have HV := Lib.hid ((H3.out.below hB hb3).drew)
    have HB := Lib.hid hB
    clear hY hP bX hr hB
    gi_wp2
    refine wpIn_region_PL [1, 3, 5] (fun w' => w'.cell? ⟨B3, 0, none⟩ = some (.func (.func 46) #[] #[]) ∧ w'.cell? ⟨Bx, 4, none⟩ = some (.int .i64 x.cl) ∧ w'.cell? ⟨Bx, 5, none⟩ = some (.int .i64 x.ch) ∧ w'.cell? ⟨w.heap.size, 0, none⟩ = some (.int .i64 p)) rfl (by kernel_rfl) (by kernel_rfl) (fun ⟨_, _, h⟩ => h) (⟨HV.out.cell 0, HX.out.cell 4, HX.out.cell 5, HP.out.cell 0⟩) (fun hF0 => ?_)
    (refine wpAnyP_takeL (i := 0) (v := ?_) rfl (by kernel_rfl) (by kernel_rfl) (by kernel_rfl) (fun _ _ _ h => h) (by rfl) ?_ ?_; rotate_left 1; focus (intro w; go_simp; try with_reducible rfl))
    try simp only [Act.put, List.setIfInBounds_toArray, List.set_cons_zero, List.set_cons_succ]
    (refine wpAnyP_loadL (i := 1) (v := ?_) rfl (by kernel_rfl) (by kernel_rfl) (by kernel_rfl) (by rfl) (fun _ _ _ h => h) hF0 (by rfl) ?_ ?_; rotate_left 1; focus (intro w hFw; (try dsimp only at hFw); go_split_ands; go_simp; try with_reducible rfl))
    try simp only [Act.put, List.setIfInBounds_toArray, List.set_cons_zero, List.set_cons_succ]
    (refine wpAnyP_takeL (i := 2) (v := ?_) rfl (by kernel_rfl) (by kernel_rfl) (by kernel_rfl) (fun _ _ _ h => h) (by rfl) ?_ ?_; rotate_left 1; focus (intro w; go_simp; try with_reducible rfl))
    try simp only [Act.put, List.setIfInBounds_toArray, List.set_cons_zero, List.set_cons_succ]
    (refine wpAnyP_loadL (i := 3) (v := ?_) rfl (by kernel_rfl) (by kernel_rfl) (by kernel_rfl) (by rfl) (fun _ _ _ h => h) hF0 (by rfl) ?_ ?_; rotate_left 1; focus (intro w hFw; (try dsimp only at hFw); go_split_ands; go_simp; try with_reducible rfl))
    try simp only [Act.put, List.setIfInBounds_toArray, List.set_cons_zero, List.set_cons_succ]
    (refine wpAnyP_loadL (i := 5) (v := ?_) rfl (by kernel_rfl) (by kernel_rfl) (by kernel_rfl) (by rfl) (fun _ _ _ h => h) hF0 (by rfl) ?_ ?_; rotate_left 1; focus (intro w hFw; (try dsimp only at hFw); go_split_ands; go_simp; try with_reducible rfl))
    try simp only [Act.put, List.setIfInBounds_toArray, List.set_cons_zero, List.set_cons_succ]
    refine wpAnyP_step (i := 4) rfl (by kernel_rfl) (by rfl) (fun K hK => ?_)
    go_simp
    (refine (high_any _ _ _).mono ?_; rintro e w4 ⟨rfl, rfl⟩)
    (refine hK _ _ (⟨(HV.out.alloc _).cell 0, (HX.out.alloc _).cell 4, (HX.out.alloc _).cell 5, (HP.out.alloc _).cell 0⟩) (fun hF1 => ?_); clear hK K hF0)
    try simp only [Act.put, List.setIfInBounds_toArray, List.set_cons_zero, List.set_cons_succ]
    (refine wpAnyP_takeL (i := 6) (v := ?_) rfl (by kernel_rfl) (by kernel_rfl) (by kernel_rfl) (fun _ _ _ h => h) (by rfl) ?_ ?_; rotate_left 1; focus (intro w; go_simp; try with_reducible rfl))
    try simp only [Act.put, List.setIfInBounds_toArray, List.set_cons_zero, List.set_cons_succ]
    refine wpAnyP_done (by kernel_rfl) ?_ _
    have HY1 := Lib.hid ((HY.out.alloc (.cells #[.int .i64 x.cl, .int .i64 x.ch] 42)).drew)
    have HX1 := Lib.hid ((HX.out.alloc (.cells #[.int .i64 x.cl, .int .i64 x.ch] 42)).drew)
    have HP1 := Lib.hid ((HP.out.alloc (.cells #[.int .i64 x.cl, .int .i64 x.ch] 42)).drew)
    have HV1 := Lib.hid ((HV.out.alloc (.cells #[.int .i64 x.cl, .int .i64 x.ch] 42)).drew)
    gi_wp2
    · have hc : x.ch ≤ p := by assumption
      refine wpIn_region_PL [1, 3, 5] (fun w' => w'.cell? ⟨w.heap.size + 1, 0, none⟩ = some (.int .i64 (tipSum true p pre).1) ∧ w'.cell? ⟨B3, 1, none⟩ = some (.func (.func 45) #[] #[]) ∧ w'.cell? ⟨Bx, 2, none⟩ = some (.int .i64 x.gl) ∧ w'.cell? ⟨Bx, 3, none⟩ = some (.int .i64 x.gh)) rfl (by kernel_rfl) (by kernel_rfl) (fun ⟨_, _, h⟩ => h) (⟨HY1.out.cell 0, HV1.out.cell 1, HX1.out.cell 2, HX1.out.cell 3⟩) (fun hF0 => ?_)
      (refine wpAnyP_takeL (i := 0) (v := ?_) rfl (by kernel_rfl) (by kernel_rfl) (by kernel_rfl) (fun _ _ _ h => h) (by rfl) ?_ ?_; rotate_left 1; focus (intro w; go_simp; try with_reducible rfl))
      try simp only [Act.put, List.setIfInBounds_toArray, List.set_cons_zero, List.set_cons_succ]
      (refine wpAnyP_loadL (i := 1) (v := ?_) rfl (by kernel_rfl) (by kernel_rfl) (by kernel_rfl) (by rfl) (fun _ _ _ h => h) hF0 (by rfl) ?_ ?_; rotate_left 1; focus (intro w hFw; (try dsimp only at hFw); go_split_ands; go_simp; try with_reducible rfl))
      try simp only [Act.put, List.setIfInBounds_toArray, List.set_cons_zero, List.set_cons_succ]
      (refine wpAnyP_takeL (i := 2) (v := ?_) rfl (by kernel_rfl) (by kernel_rfl) (by kernel_rfl) (fun _ _ _ h => h) (by rfl) ?_ ?_; rotate_left 1; focus (intro w; go_simp; try with_reducible rfl))
      try simp only [Act.put, List.setIfInBounds_toArray, List.set_cons_zero, List.set_cons_succ]
      (refine wpAnyP_loadL (i := 3) (v := ?_) rfl (by kernel_rfl) (by kernel_rfl) (by kernel_rfl) (by rfl) (fun _ _ _ h => h) hF0 (by rfl) ?_ ?_; rotate_left 1; focus (intro w hFw; (try dsimp only at hFw); go_split_ands; go_simp; try with_reducible rfl))
      try simp only [Act.put, List.setIfInBounds_toArray, List.set_cons_zero, List.set_cons_succ]
      (refine wpAnyP_takeL (i := 4) (v := ?_) rfl (by kernel_rfl) (by kernel_rfl) (by kernel_rfl) (fun _ _ _ h => h) (by rfl) ?_ ?_; rotate_left 1; focus (intro w; go_simp; try with_reducible rfl))
      try simp only [Act.put, List.setIfInBounds_toArray, List.set_cons_zero, List.set_cons_succ]
      (refine wpAnyP_loadL (i := 5) (v := ?_) rfl (by kernel_rfl) (by kernel_rfl) (by kernel_rfl) (by rfl) (fun _ _ _ h => h) hF0 (by rfl) ?_ ?_; rotate_left 1; focus (intro w hFw; (try dsimp only at hFw); go_split_ands; go_simp; try with_reducible rfl))
      try simp only [Act.put, List.setIfInBounds_toArray, List.set_cons_zero, List.set_cons_succ]
      refine wpAnyP_step (i := 6) rfl (by kernel_rfl) (by rfl) (fun K hK => ?_)
      go_simp
      (refine (low_any _ _ _).mono ?_; rintro e w5 ⟨rfl, rfl⟩)
      (refine hK _ _ (⟨(HY1.out.alloc _).cell 0, (HV1.out.alloc _).cell 1, (HX1.out.alloc _).cell 2, (HX1.out.alloc _).cell 3⟩) (fun hF1 => ?_); clear hK K hF0)
      try simp only [Act.put, List.setIfInBounds_toArray, List.set_cons_zero, List.set_cons_succ]
      (refine wpAnyP_takeL (i := 7) (v := ?_) rfl (by kernel_rfl) (by kernel_rfl) (by kernel_rfl) (fun _ _ _ h => h) (by rfl) ?_ ?_; rotate_left 1; focus (intro w; go_simp; try with_reducible rfl))
      try simp only [Act.put, List.setIfInBounds_toArray, List.set_cons_zero, List.set_cons_succ]
      (refine wpAnyP_takeL (i := 8) (v := ?_) rfl (by kernel_rfl) (by kernel_rfl) (by kernel_rfl) (fun _ _ _ h => h) (by rfl) ?_ ?_; rotate_left 1; focus (intro w; go_simp; try with_reducible rfl))
      try simp only [Act.put, List.setIfInBounds_toArray, List.set_cons_zero, List.set_cons_succ]
      refine wpAnyP_last (i := 9) rfl (by kernel_rfl) (by kernel_rfl) (by rfl) (fun K hK => ?_)
      go_simp
      (have f0 := ((HYp.out.alloc (.cells #[.int .i64 x.cl, .int .i64 x.ch] 42)).alloc (.cells #[.int .i64 x.gl, .int .i64 x.gh] 42)).frozen 0; have k0 := ((HYp.out.alloc (.cells #[.int .i64 x.cl, .int .i64 x.ch] 42)).alloc (.cells #[.int .i64 x.gl, .int .i64 x.gh] 42)).cell 0; go_simp; clear f0 k0)
      (refine hK _ _ ?_; clear hK K)
      try simp only [Act.put, List.setIfInBounds_toArray, List.set_cons_zero, List.set_cons_succ]
      refine wpAnyP_done (by kernel_rfl) ?_ _
      have HY2 := Lib.hid (((HYp.out.alloc (.cells #[.int .i64 x.cl, .int .i64 x.ch] 42)).alloc (.cells #[.int .i64 x.gl, .int .i64 x.gh] 42)).set_ 0 (.int .i64 (IntKind.i64.wrap ((tipSum true p pre).1 + x.gl))))
      have HP2 := Lib.hid (((HPp.out.alloc (.cells #[.int .i64 x.cl, .int .i64 x.ch] 42)).alloc (.cells #[.int .i64 x.gl, .int .i64 x.gh] 42)).far (p := ⟨w.heap.size + 1, 0, none⟩) (by simp) (.int .i64 (IntKind.i64.wrap ((tipSum true p pre).1 + x.gl))))
      gi_wp2
      have hz1 : w.heap.size ≤ (W.alloc (.cells #[.int .i64 x.cl, .int .i64 x.ch] 42)).heap.size := by simp; omega
      refine ⟨(((((KeepsOthers.alloc W _).trans (KeepsOthers.alloc _ _)).trans (KeepsOthers.setCell _ _ _)).trans (KeepsOthers.drew _)).trans (KeepsOthers.drew _)).from _,
        ⟨((((((Below.refl _ W).alloc HB.out.size _).alloc hz1 _).setCell (p := ⟨w.heap.size + 1, 0, none⟩) (Nat.le_succ _) _).drew).drew), ?_⟩, ⟨?_, ?_⟩,
        ((((((HB.out).alloc HB.out.size _).alloc hz1 _).setCell (p := ⟨w.heap.size + 1, 0, none⟩) (Nat.le_succ _) _).drew).drew), by simp; omega⟩
      · exact (Below.heap_setCell _ _ _ _ (by show w.heap.size + 1 + 1 + 1 ≠ w.heap.size + 1; omega)).trans ((Below.heap_alloc _ _ _ (by simp; omega)).trans (Below.heap_alloc _ _ _ (by omega)))
      · rw [tipSum_snoc]
        have e : tipStep true p (tipSum true p pre) x = (IntKind.i64.wrap ((tipSum true p pre).1 + x.gl), (tipSum true p pre).2) := by simp only [tipStep, ctsOf, fstOf, rstOf]; exact if_pos hc
        rw [e]
        exact HY2.out
      · exact HP2.out
    · have hc : p < x.ch := by assumption
      refine wpIn_region_PL [1, 3, 5] (fun w' => w'.cell? ⟨w.heap.size + 1, 1, none⟩ = some (.int .i64 (tipSum true p pre).2) ∧ w'.cell? ⟨B3, 2, none⟩ = some (.func (.func 46) #[] #[]) ∧ w'.cell? ⟨Bx, 2, none⟩ = some (.int .i64 x.gl) ∧ w'.cell? ⟨Bx, 3, none⟩ = some (.int .i64 x.gh)) rfl (by kernel_rfl) (by kernel_rfl) (fun ⟨_, _, h⟩ => h) (⟨HY1.out.cell 1, HV1.out.cell 2, HX1.out.cell 2, HX1.out.cell 3⟩) (fun hF0 => ?_)
      (refine wpAnyP_takeL (i := 0) (v := ?_) rfl (by kernel_rfl) (by kernel_rfl) (by kernel_rfl) (fun _ _ _ h => h) (by rfl) ?_ ?_; rotate_left 1; focus (intro w; go_simp; try with_reducible rfl))
      try simp only [Act.put, List.setIfInBounds_toArray, List.set_cons_zero, List.set_cons_succ]
      (refine wpAnyP_loadL (i := 1) (v := ?_) rfl (by kernel_rfl) (by kernel_rfl) (by kernel_rfl) (by rfl) (fun _ _ _ h => h) hF0 (by rfl) ?_ ?_; rotate_left 1; focus (intro w hFw; (try dsimp only at hFw); go_split_ands; go_simp; try with_reducible rfl))
      try simp only [Act.put, List.setIfInBounds_toArray, List.set_cons_zero, List.set_cons_succ]
      (refine wpAnyP_takeL (i := 2) (v := ?_) rfl (by kernel_rfl) (by kernel_rfl) (by kernel_rfl) (fun _ _ _ h => h) (by rfl) ?_ ?_; rotate_left 1; focus (intro w; go_simp; try with_reducible rfl))
      try simp only [Act.put, List.setIfInBounds_toArray, List.set_cons_zero, List.set_cons_succ]
      (refine wpAnyP_loadL (i := 3) (v := ?_) rfl (by kernel_rfl) (by kernel_rfl) (by kernel_rfl) (by rfl) (fun _ _ _ h => h) hF0 (by rfl) ?_ ?_; rotate_left 1; focus (intro w hFw; (try dsimp only at hFw); go_split_ands; go_simp; try with_reducible rfl))
      try simp only [Act.put, List.setIfInBounds_toArray, List.set_cons_zero, List.set_cons_succ]
      (refine wpAnyP_takeL (i := 4) (v := ?_) rfl (by kernel_rfl) (by kernel_rfl) (by kernel_rfl) (fun _ _ _ h => h) (by rfl) ?_ ?_; rotate_left 1; focus (intro w; go_simp; try with_reducible rfl))
      try simp only [Act.put, List.setIfInBounds_toArray, List.set_cons_zero, List.set_cons_succ]
      (refine wpAnyP_loadL (i := 5) (v := ?_) rfl (by kernel_rfl) (by kernel_rfl) (by kernel_rfl) (by rfl) (fun _ _ _ h => h) hF0 (by rfl) ?_ ?_; rotate_left 1; focus (intro w hFw; (try dsimp only at hFw); go_split_ands; go_simp; try with_reducible rfl))
      try simp only [Act.put, List.setIfInBounds_toArray, List.set_cons_zero, List.set_cons_succ]
      refine wpAnyP_step (i := 6) rfl (by kernel_rfl) (by rfl) (fun K hK => ?_)
      go_simp
      (refine (high_any _ _ _).mono ?_; rintro e w5 ⟨rfl, rfl⟩)
      (refine hK _ _ (⟨(HY1.out.alloc _).cell 1, (HV1.out.alloc _).cell 2, (HX1.out.alloc _).cell 2, (HX1.out.alloc _).cell 3⟩) (fun hF1 => ?_); clear hK K hF0)
      try simp only [Act.put, List.setIfInBounds_toArray, List.set_cons_zero, List.set_cons_succ]
      (refine wpAnyP_takeL (i := 7) (v := ?_) rfl (by kernel_rfl) (by kernel_rfl) (by kernel_rfl) (fun _ _ _ h => h) (by rfl) ?_ ?_; rotate_left 1; focus (intro w; go_simp; try with_reducible rfl))
      try simp only [Act.put, List.setIfInBounds_toArray, List.set_cons_zero, List.set_cons_succ]
      (refine wpAnyP_takeL (i := 8) (v := ?_) rfl (by kernel_rfl) (by kernel_rfl) (by kernel_rfl) (fun _ _ _ h => h) (by rfl) ?_ ?_; rotate_left 1; focus (intro w; go_simp; try with_reducible rfl))
      try simp only [Act.put, List.setIfInBounds_toArray, List.set_cons_zero, List.set_cons_succ]
      refine wpAnyP_last (i := 9) rfl (by kernel_rfl) (by kernel_rfl) (by rfl) (fun K hK => ?_)
      go_simp
      (have f0 := ((HYp.out.alloc (.cells #[.int .i64 x.cl, .int .i64 x.ch] 42)).alloc (.cells #[.int .i64 x.gl, .int .i64 x.gh] 42)).frozen 1; have k0 := ((HYp.out.alloc (.cells #[.int .i64 x.cl, .int .i64 x.ch] 42)).alloc (.cells #[.int .i64 x.gl, .int .i64 x.gh] 42)).cell 1; go_simp; clear f0 k0)
      (refine hK _ _ ?_; clear hK K)
      try simp only [Act.put, List.setIfInBounds_toArray, List.set_cons_zero, List.set_cons_succ]
      refine wpAnyP_done (by kernel_rfl) ?_ _
      have HY2 := Lib.hid (((HYp.out.alloc (.cells #[.int .i64 x.cl, .int .i64 x.ch] 42)).alloc (.cells #[.int .i64 x.gl, .int .i64 x.gh] 42)).set_ 1 (.int .i64 (IntKind.i64.wrap ((tipSum true p pre).2 + x.gh))))
      have HP2 := Lib.hid (((HPp.out.alloc (.cells #[.int .i64 x.cl, .int .i64 x.ch] 42)).alloc (.cells #[.int .i64 x.gl, .int .i64 x.gh] 42)).far (p := ⟨w.heap.size + 1, 1, none⟩) (by simp) (.int .i64 (IntKind.i64.wrap ((tipSum true p pre).2 + x.gh))))
      gi_wp2
      have hz1 : w.heap.size ≤ (W.alloc (.cells #[.int .i64 x.cl, .int .i64 x.ch] 42)).heap.size := by simp; omega
      refine ⟨(((((KeepsOthers.alloc W _).trans (KeepsOthers.alloc _ _)).trans (KeepsOthers.setCell _ _ _)).trans (KeepsOthers.drew _)).trans (KeepsOthers.drew _)).from _,
        ⟨((((((Below.refl _ W).alloc HB.out.size _).alloc hz1 _).setCell (p := ⟨w.heap.size + 1, 1, none⟩) (Nat.le_succ _) _).drew).drew), ?_⟩, ⟨?_, ?_⟩,
        ((((((HB.out).alloc HB.out.size _).alloc hz1 _).setCell (p := ⟨w.heap.size + 1, 1, none⟩) (Nat.le_succ _) _).drew).drew), by simp; omega⟩
      · exact (Below.heap_setCell _ _ _ _ (by show w.heap.size + 1 + 1 + 1 ≠ w.heap.size + 1; omega)).trans ((Below.heap_alloc _ _ _ (by simp; omega)).trans (Below.heap_alloc _ _ _ (by omega)))
      · rw [tipSum_snoc]
        have e : tipStep true p (tipSum true p pre) x = ((tipSum true p pre).1, IntKind.i64.wrap ((tipSum true p pre).2 + x.gh)) := by simp only [tipStep, ctsOf, fstOf, rstOf]; exact if_neg (by show ¬ x.ch ≤ p; omega)
        rw [e]
        exact HY2.out
      · exact HP2.out
  case done =>
    rintro D ys W hD rfl ⟨⟨hY, hP⟩, hB, hS⟩ hK
    have y0 := hY.cell 0
    have y1 := hY.cell 1
    gi_wp2_with (refine ⟨trivial, ?_⟩; gi_at_call 44; refine (callsIn_wide.2 (tips_any _ _ _)).mono ?_; rintro e w' ⟨rfl, hb⟩)
    have hK' : w'.heap[D]? = some (.deferred (some [])) := (hb.block D (Array.getElem?_eq_some_iff.1 hK).1).trans hK
    refine ⟨by simp, .inl ⟨_, _, rfl, run_takeDeferred hK', ?_⟩⟩
    exact ⟨_, results_tmp rfl _ _ _, rfl, (Below.step hb hB (Nat.le_refl _)).trans (belowK_b (w := w) (Nat.le_refl _) w' D _ _ (by omega) hK' rfl rfl)⟩
  case stop =>
    rintro D c pre W _ _ h _
    exact h.elim
end Go.Proofs.YtjmppionedcfeaaGreatDoor
