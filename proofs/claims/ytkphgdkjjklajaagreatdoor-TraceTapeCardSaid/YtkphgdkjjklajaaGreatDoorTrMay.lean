/-
  Places as keys of maps. trace.most's add: so many grams more may go from a place to another one. trace.most's push: as much as can be is brought from a place to the sink, on one way; or all places that can be come to have been met. trace.most: how much of some origins a batch may have, at most. maps.Keys of a set of numbers; Collect, Sorted of them: in an order that is drawn; sorted. trace.without, trace.but: a list without some numbers; the batches that are not among some. trace.checkOrigins: which origins are valid. trace.may: how much of some origins a batch may have.
-/
import Derived.Test.YtkphgdkjjklajaaGreatDoorNetMap
import Derived.DeepKeys4
import Derived.WideKeyArgs2
import Derived.Test.YtkphgdkjjklajaaGreatDoorReg
import Derived.BigQuiet
import Derived.Deep.CutRange
import Derived.Test.YtkphgdkjjklajaaGreatDoorPushLaw
import Derived.Outline
import Derived.Test.YtkphgdkjjklajaaGreatDoorMostLaw
import Derived.Test.YtkphgdkjjklajaaGreatDoorTrEdges
import Derived.Laws.EntriesVeiled
import Derived.Test.YtkphgdkjjklajaaGreatDoorTrSet
import Derived.Test.YtkphgdkjjklajaaGreatDoorSortLay
import Derived.RangeFuncNested
import Derived.RangeFuncBound
import Derived.RangeFuncBox
import Derived.RangeFuncCalls
import Derived.RangeFuncLeaves
import Derived.Shelf.Abstract
import Derived.Shelf.RegionOpen
import Derived.OwnWalkIn
import Derived.TacticsInMore
import Derived.LoopNIn
import Derived.LoopIn
import Derived.Maps.AppendAt
import Derived.Shelf.SortM.Plain
import Derived.Shelf.SortM.SortNone
import Derived.Ground.SlgmProg
import Derived.Sort.OwnSorted
import Derived.Shelf.SlIterI.Sorted
import Derived.Test.YtkphgdkjjklajaaGreatDoorFunLay
import Derived.Test.YtkphgdkjjklajaaGreatDoorTraceLaw
import Derived.Shelf.SlicesE.DeleteFunc
import Derived.Lib.SliceRun
import Derived.Test.YtkphgdkjjklajaaGreatDoorTrChk
set_option linter.unusedVariables false
set_option linter.unusedSimpArgs false
namespace Go.Proofs.YtkphgdkjjklajaaGreatDoor
open Go.RowKit

theorem laidOut : laidOutB Tryz.prog = true := by kernel_rfl
theorem rowPl : (124 : TypeId) < Tryz.prog.types.size := of_decide_eq_true (by kernel_rfl)
theorem widePl : (match Tryz.prog.underlying 124 with | some (.array _ _) | some (.struct _) => true | _ => false) = true := by rw [Tryz.underlying124]
set_option maxRecDepth 100000 in
theorem lawPl : WideMaps.KeyLaw Tryz.prog 124 := deep_law_laid laidOut (m := 2) (by omega) rowPl (by kernel_rfl) widePl
theorem keyPl (p : Pl) (h : okV p) : ∃ l, keyOf Tryz.prog 124 (plV p) = some l := by
  have hk : Tryz.prog.keyType 124 = true := by kernel_rfl
  have hc : Tryz.prog.cellsOf 124 = 2 := by kernel_rfl
  have hi : Tryz.prog.cellsOf 3 = 1 := by kernel_rfl
  have hs : ∃ m, Tryz.prog.types.size = m + 1 := ⟨Tryz.prog.types.size - 1, by have h1 : (124 : Nat) < Tryz.prog.types.size := rowPl; omega⟩
  obtain ⟨m, hm⟩ := hs
  refine ⟨.string (keyBytes [.int .i64 p.1, .int .i64 p.2]), ?_⟩
  unfold keyOf
  simp only [Tryz.underlying124]
  rw [if_pos (by simp [hk, Value.formed, Tryz.underlying124, hc]), hm]
  unfold Program.keyLits
  simp only [Tryz.underlying124, Value.cells]
  simp [hc, hi, Program.keyLits, Tryz.underlying3, h.1, h.2]
theorem kkPl : KeyK Tryz.prog 124 plV okV := ⟨Go.Maps.Keyed.of_law lawPl, keyPl, fun a b h => by
  injection h with h
  have h1 := congrArg Array.toList h
  simp only [List.cons.injEq, Value.int.injEq, true_and, and_true] at h1
  exact Prod.ext h1.1 h1.2⟩
theorem kkInt : KeyK Tryz.prog 3 (Value.int .i64) (fun a => (Lit.int .i64 a).wf = true) := keyK_int Tryz.underlying3
end Go.Proofs.YtkphgdkjjklajaaGreatDoor

namespace Go.Proofs.YtkphgdkjjklajaaGreatDoor
open Go.RowKit

theorem zeroPI (w : World) : (zeroValue 125).run Tryz.prog w = .ok (.map none) w := by kernel_rfl
theorem zeroI (w : World) : (zeroValue 3).run Tryz.prog w = .ok (.int .i64 0) w := by kernel_rfl
theorem zeroB (w : World) : (zeroValue 4).run Tryz.prog w = .ok (.bool false) w := by kernel_rfl

theorem eqPI_some (b : Nat) (w : World) : (binOp BinOp.eql 125 (.map (some b)) (.map none)).run Tryz.prog w = .ok (.bool false) w := by kernel_rfl
theorem eqPI_none (w : World) : (binOp BinOp.eql 125 (.map none) (.map none)).run Tryz.prog w = .ok (.bool true) w := by kernel_rfl
abbrev kPl (u : Pl) : Obj := .cells #[.int .i64 u.1, .int .i64 u.2] 124

theorem wp_entryK {P : Program} {K E T : TypeId} {α : Type} [DecidableEq α] {enc : α → Value} {ok : α → Prop} {w : World} {o : Oper} {a : Act} {K' : Act → World → Prop} {Q : Exit → Act → World → Prop} (m x : Operand) (hop : o.op = Op.mapEntry T m x)
    (KK : KeyK P K enc ok) (ht : P.underlying T = some (.map K E)) {Z : Value} (hZ : ∀ w, (zeroValue E).run P w = .ok Z w) (b : Nat) (c : α → Option Value) (hm : a.eval m = .map (some b)) (h : KMap enc ok w b c) (q : α) (hx : a.eval x = enc q) (hq : ok q)
    (y : Value) (hy : (c q).getD Z = y)
    (hK : ∀ (w1 : World) (st : Nat), KMap enc ok w1 b (updK c q y) → w.grownBy w1 (some b) → w1.heap.size = w.heap.size →
      (∀ v : Value, ∃ w2, (Instr.entryStore T (.map (some b)) (goInt st) v).run P w1 = .ok () w2 ∧ KMap enc ok w2 b (updK c q v) ∧ w.grownBy w2 (some b) ∧ w2.heap.size = w.heap.size) → K' (a.put o.dst (.tuple #[y, goInt st])) w1) : o.wp P a w K' Q := by
  obtain ⟨w1, st, hrun, r1, r2, r3, r4⟩ := run_entryK KK ht hZ h q hq
  rw [hy] at hrun r1
  unfold Oper.wp
  simp [execOp, hop, hm, hx, hrun, Result.andThen]
  exact hK w1 st r1 r2 r3 r4
theorem wp_storeK {P : Program} {T : TypeId} {w : World} {o : Oper} {a : Act} {K' : Act → World → Prop} {Q : Exit → Act → World → Prop} (m s v : Operand) (hop : o.op = Op.entryStore T m s v) (b st : Nat) (y : Value) (hm : a.eval m = .map (some b))
    (hs : a.eval s = goInt st) (hv : a.eval v = y) {w2 : World} (hrun : (Instr.entryStore T (.map (some b)) (goInt st) y).run P w = .ok () w2) (hK : K' (a.put o.dst undef) w2) : o.wp P a w K' Q := by
  unfold Oper.wp
  simp [execOp, hop, hm, hs, hv, hrun, Result.andThen]
  exact hK

set_option maxRecDepth 100000 in
set_option maxHeartbeats 1000000 in
/-- the place has a map -/
theorem add_some (n₀ : Nat) (vs : List Pl) (av B Bl b : Nat) (R : Pl → Pl → Int) (m : Pl → Option Nat) (c : Pl → Pl → Option Int) (u v : Pl) (g : Int) (w : World) (hL : LeftAt n₀ vs av w B R m c) (hb : m u = some b)
    (hBl : Blk w Bl 122 #[.map (some B)]) (hn : n₀ ≤ w.heap.size) (hu : okV u) (hv : okV v) (hvs : v ∈ vs) (h1 : -1152921504606846976 ≤ R u v) (h2 : R u v ≤ 1152921504606846976) (h3 : -1152921504606846976 ≤ g) (h4 : g ≤ 1152921504606846976) :
    Calls Tryz.prog 80 #[plV u, plV v, .int .i64 g, .pointer (some ⟨Bl, 0, none⟩)] w fun e w' => e = .returned (.tuple #[]) ∧ Left n₀ vs av w' B (updR R u v g) ∧ Kc n₀ w w' := by
  have hlt := hL.outer.lt
  have hblt := hBl.lt
  have hin := hL.inner u b hb
  have hilt := hin.lt
  rw [hL.val] at h1 h2
  obtain ⟨x, hx⟩ : ∃ x, x = (c u v).getD 0 := ⟨_, rfl⟩
  rw [← hx] at h1 h2
  have hwr : IntKind.i64.wrap (x + g) = x + g := IntWalk.i64_in _ (by omega)
  have hL2 := (hL.alloc (kPl u)).alloc (kPl v)
  have hB2 := (hBl.alloc (kPl u)).alloc (kPl v)
  have hU := (Blk.new w 124 #[.int .i64 u.1, .int .i64 u.2]).alloc (kPl v)
  have hV := Blk.new (w.alloc (kPl u)) 124 #[.int .i64 v.1, .int .i64 v.2]
  have e10 := eqPI_some b ((w.alloc (kPl u)).alloc (kPl v))
  have HB := Lib.hid hb
  have HX := Lib.hid hx
  have hlk1 : ∀ W, KMap plV okV W B (fun u => (m u).map fun b => .map (some b)) → (Instr.lookup 122 (.map (some B)) (plV u) false).run Tryz.prog W = .ok (.map (some b)) W := fun W h => by
    have := run_lookupK kkPl Tryz.underlying122 zeroPI h u hu
    rw [hb] at this; exact this
  have hlk2 : ∀ W d, KMap plV okV W b d → (d v).getD (.int .i64 0) = .int .i64 x → (Instr.lookup 125 (.map (some b)) (plV v) false).run Tryz.prog W = .ok (.int .i64 x) W := fun W d h h' => by
    have := run_lookupK kkPl Tryz.underlying125 zeroI h v hv
    rw [h'] at this; exact this
  have hdv : ((fun v => (c u v).map (Value.int .i64)) v).getD (.int .i64 0) = .int .i64 x := by
    show ((c u v).map (Value.int .i64)).getD (.int .i64 0) = .int .i64 x
    rw [hx]
    generalize c u v = z
    cases z <;> rfl
  have LK1 := Lib.hid hlk1
  have LK2 := Lib.hid hlk2
  have HDV := Lib.hid hdv
  have c3 := hB2.cell 0
  have l1 := hlk1 _ hL2.outer
  have HL2 := Lib.hid hL2
  have HU := Lib.hid hU
  have HV := Lib.hid hV
  have HB2 := Lib.hid hB2
  clear hL hin hb hx hlk1 hlk2 hdv hL2 hU hV hB2 hBl
  go_enter Tryz.func80, Tryz.ntmps80
  go_upto_region 3 with (fail)
  clear c3 e10 l1
  obtain ⟨W, hW⟩ : ∃ W, ((w.alloc (kPl u)).alloc (kPl v)) = W := ⟨_, rfl⟩
  have hz : W.heap.size = w.heap.size + 2 := by rw [← hW]; simp
  have hK0 : Kc n₀ w W := by rw [← hW]; exact ((Kc.refl n₀ w).alloc hn _).alloc (by simp; omega) _
  simp only [World.size_alloc] at HV
  rw [hW] at HL2 HU HV HB2 ⊢
  have hnb : b ≠ B := (HL2.out.n0b u b HB.out).2.1
  have hbu : w.heap.size ≠ b := by omega
  have hbv : w.heap.size + 1 ≠ b := by omega
  have hbl : Bl ≠ b := fun e => (HL2.out.inner u b HB.out).notB HB2.out e.symm
  have HK0 := Lib.hid hK0
  clear hW hz hK0
  refine wp_region_PL [0, 1, 2, 3, 4] (fun w' => w'.cell? ⟨Bl, 0, none⟩ = some (.map (some B)) ∧ w'.cell? ⟨w.heap.size, 0, none⟩ = some (.int .i64 u.1) ∧ w'.cell? ⟨w.heap.size, 1, none⟩ = some (.int .i64 u.2) ∧ w'.cell? ⟨w.heap.size + 1, 0, none⟩ = some (.int .i64 v.1) ∧ w'.cell? ⟨w.heap.size + 1, 1, none⟩ = some (.int .i64 v.2) ∧ (Instr.lookup 122 (.map (some B)) (.agg #[.int .i64 u.1, .int .i64 u.2]) false).run Tryz.prog w' = .ok (.map (some b)) w' ∧ (Instr.lookup 125 (.map (some b)) (.agg #[.int .i64 v.1, .int .i64 v.2]) false).run Tryz.prog w' = .ok (.int .i64 x) w') rfl (by kernel_rfl) (⟨HB2.out.cell 0, HU.out.cell 0, HU.out.cell 1, HV.out.cell 0, HV.out.cell 1, LK1.out _ HL2.out.drew.outer, LK2.out _ _ (HL2.out.drew.inner u b HB.out) HDV.out⟩) (fun hF0 => ?_)
  (refine wpAnyP_loadL (i := 0) (v := ?_) rfl (by kernel_rfl) (by kernel_rfl) (by kernel_rfl) (by rfl) (fun _ _ _ h => h) hF0 (by rfl) ?_ ?_; rotate_left 1; focus (intro w hFw; (try dsimp only at hFw); go_split_ands; go_simp; try with_reducible rfl))
  try simp only [Act.put, List.setIfInBounds_toArray, List.set_cons_zero, List.set_cons_succ]
  (refine wpAnyP_loadL (i := 1) (v := ?_) rfl (by kernel_rfl) (by kernel_rfl) (by kernel_rfl) (by rfl) (fun _ _ _ h => h) hF0 (by rfl) ?_ ?_; rotate_left 1; focus (intro w hFw; (try dsimp only at hFw); go_split_ands; go_simp; try with_reducible rfl))
  try simp only [Act.put, List.setIfInBounds_toArray, List.set_cons_zero, List.set_cons_succ]
  (refine wpAnyP_loadL (i := 2) (v := ?_) rfl (by kernel_rfl) (by kernel_rfl) (by kernel_rfl) (by rfl) (fun _ _ _ h => h) hF0 (by rfl) ?_ ?_; rotate_left 1; focus (intro w hFw; (try dsimp only at hFw); go_split_ands; go_simp; try with_reducible rfl))
  try simp only [Act.put, List.setIfInBounds_toArray, List.set_cons_zero, List.set_cons_succ]
  (refine wpAnyP_loadL (i := 3) (v := ?_) rfl (by kernel_rfl) (by kernel_rfl) (by kernel_rfl) (by rfl) (fun _ _ _ h => h) hF0 (by rfl) ?_ ?_; rotate_left 1; focus (intro w hFw; (try dsimp only at hFw); go_split_ands; go_simp; try with_reducible rfl))
  try simp only [Act.put, List.setIfInBounds_toArray, List.set_cons_zero, List.set_cons_succ]
  (refine wpAnyP_loadL (i := 4) (v := ?_) rfl (by kernel_rfl) (by kernel_rfl) (by kernel_rfl) (by rfl) (fun _ _ _ h => h) hF0 (by rfl) ?_ ?_; rotate_left 1; focus (intro w hFw; (try dsimp only at hFw); go_split_ands; go_simp; try with_reducible rfl))
  try simp only [Act.put, List.setIfInBounds_toArray, List.set_cons_zero, List.set_cons_succ]
  (refine wpAnyP_takeL (i := 5) (v := ?_) rfl (by kernel_rfl) (by kernel_rfl) (by kernel_rfl) (fun _ _ _ h => h) (by rfl) ?_ ?_; rotate_left 1; focus (intro w; go_simp; try with_reducible rfl))
  try simp only [Act.put, List.setIfInBounds_toArray, List.set_cons_zero, List.set_cons_succ]
  (refine wpAnyP_takeL (i := 6) (v := ?_) rfl (by kernel_rfl) (by kernel_rfl) (by kernel_rfl) (fun _ _ _ h => h) (by rfl) ?_ ?_; rotate_left 1; focus (intro w; go_simp; try with_reducible rfl))
  try simp only [Act.put, List.setIfInBounds_toArray, List.set_cons_zero, List.set_cons_succ]
  refine wpAnyP_step (i := 7) rfl (by kernel_rfl) (by rfl) (fun K hK => ?_)
  (refine wp_entryK _ _ rfl kkPl Tryz.underlying125 zeroI b _ rfl (HL2.out.drew.inner u b HB.out) v rfl hv _ HDV.out ?_; intro w1 st hk1 hg1 hs1 hst; have HG1 := Lib.hid hg1; have HK1 := Lib.hid hk1; have HST := Lib.hid hst; clear hg1 hk1 hst)
  (refine hK _ _ (⟨(HB2.out.drew.grown HG1.out (fun e => by injection e with e; exact hbl e)).cell 0, (HU.out.drew.grown HG1.out (fun e => by injection e with e; exact hbu e)).cell 0, (HU.out.drew.grown HG1.out (fun e => by injection e with e; exact hbu e)).cell 1, (HV.out.drew.grown HG1.out (fun e => by injection e with e; exact hbv e)).cell 0, (HV.out.drew.grown HG1.out (fun e => by injection e with e; exact hbv e)).cell 1, LK1.out _ (HL2.out.drew.outer.grown HG1.out (fun e => by injection e with e; exact hnb e.symm)), LK2.out _ _ HK1.out (by simp [updK])⟩) (fun hF1 => ?_); clear hK K hF0)
  try simp only [Act.put, List.setIfInBounds_toArray, List.set_cons_zero, List.set_cons_succ]
  (refine wpAnyP_takeL (i := 8) (v := ?_) rfl (by kernel_rfl) (by kernel_rfl) (by kernel_rfl) (fun _ _ _ h => h) (by rfl) ?_ ?_; rotate_left 1; focus (intro w; go_simp; try with_reducible rfl))
  try simp only [Act.put, List.setIfInBounds_toArray, List.set_cons_zero, List.set_cons_succ]
  refine wpAnyP_last (i := 9) rfl (by kernel_rfl) (by kernel_rfl) (by rfl) (fun K hK => ?_)
  (obtain ⟨w2, hr2, hk2, hg2, hs2⟩ := HST.out (.int .i64 (x + g)); refine wp_storeK _ _ _ rfl b st (.int .i64 (x + g)) rfl rfl rfl hr2 ?_)
  (refine hK _ _ ?_; clear hK K)
  try simp only [Act.put, List.setIfInBounds_toArray, List.set_cons_zero, List.set_cons_succ]
  refine wpAnyP_done (by kernel_rfl) ?_ _
  go_wp2_with fail
  go_end0
  have hX := HX.out
  refine ⟨rfl, ⟨_, _, HL2.out.drew.write hvs HB.out g (by rw [← hX]; exact hk2) hg2⟩, HK0.out.drew.trans (Kc.of_grown hg2 (Nat.le_trans hn HK0.out.size) fun b' e => ?_)⟩
  cases e
  exact ⟨(HL2.out.n0b u b HB.out).1, (HL2.out.drew.inner u b HB.out).soft⟩

set_option maxRecDepth 100000 in
set_option maxHeartbeats 1000000 in
/-- the place has none yet -/
theorem add_none (n₀ : Nat) (vs : List Pl) (av B Bl : Nat) (R : Pl → Pl → Int) (m₀ : Pl → Option Nat) (c : Pl → Pl → Option Int) (u v : Pl) (g : Int) (w : World) (hL : LeftAt n₀ vs av w B R m₀ c) (hb : m₀ u = none)
    (hBl : Blk w Bl 122 #[.map (some B)]) (hn : n₀ ≤ w.heap.size) (hu : okV u) (hv : okV v) (hvs : v ∈ vs) (h3 : -1152921504606846976 ≤ g) (h4 : g ≤ 1152921504606846976) :
    Calls Tryz.prog 80 #[plV u, plV v, .int .i64 g, .pointer (some ⟨Bl, 0, none⟩)] w fun e w' => e = .returned (.tuple #[]) ∧ Left n₀ vs av w' B (updR R u v g) ∧ Kc n₀ w w' := by
  have hlt := hL.outer.lt
  have hblt := hBl.lt
  obtain ⟨x, hx⟩ : ∃ x, x = (c u v).getD 0 := ⟨_, rfl⟩
  have hx0 : x = 0 := by rw [hx, hL.no u hb v]; rfl
  have hwr : IntKind.i64.wrap (x + g) = x + g := IntWalk.i64_in _ (by omega)
  have hL2 := (hL.alloc (kPl u)).alloc (kPl v)
  have hB2 := (hBl.alloc (kPl u)).alloc (kPl v)
  have hU := (Blk.new w 124 #[.int .i64 u.1, .int .i64 u.2]).alloc (kPl v)
  have hV := Blk.new (w.alloc (kPl u)) 124 #[.int .i64 v.1, .int .i64 v.2]
  have e10 := eqPI_none ((w.alloc (kPl u)).alloc (kPl v))
  have hmm := @run_makeMap Tryz.prog
  have HX := Lib.hid hx
  have hdv : ((fun v => (c u v).map (Value.int .i64)) v).getD (.int .i64 0) = .int .i64 x := by
    show ((c u v).map (Value.int .i64)).getD (.int .i64 0) = .int .i64 x
    rw [hx]
    generalize c u v = z
    cases z <;> rfl
  have l1 : (Instr.lookup 122 (.map (some B)) (plV u) false).run Tryz.prog ((w.alloc (kPl u)).alloc (kPl v)) = .ok (.map none) ((w.alloc (kPl u)).alloc (kPl v)) := by
    have := run_lookupK kkPl Tryz.underlying122 zeroPI hL2.outer u hu
    rw [hb] at this; exact this
  have HDV := Lib.hid hdv
  have c3 := hB2.cell 0
  have HL2 := Lib.hid hL2
  have HU := Lib.hid hU
  have HV := Lib.hid hV
  have HB2 := Lib.hid hB2
  have HB0 := Lib.hid hb
  have HX0 := Lib.hid hx0
  clear hL hx hdv hL2 hU hV hB2 hBl hb hx0
  go_enter Tryz.func80, Tryz.ntmps80
  go_upto_region 3 with (at_mapUpdate; refine wpList_updateK _ rfl _ _ _ 122 125 rfl kkPl Tryz.underlying122 B _ rfl ((HL2.out.alloc (.map #[] 0)).outer) u rfl hu (.map (some (w.heap.size + 2))) rfl ?_; intro W hkW hgW hsW)
  clear c3 e10 l1 hmm
  have hBB : Bl ≠ B := fun e => HL2.out.outer.notB HB2.out e.symm
  obtain ⟨b, hbdef⟩ : ∃ b, b = w.heap.size + 1 + 1 := ⟨_, rfl⟩
  obtain ⟨m, hm⟩ : ∃ m : Pl → Option Nat, m = fun u' => if u' = u then some b else m₀ u' := ⟨_, rfl⟩
  have hb : m u = some b := by rw [hm]; simp
  have hz2 : ((w.alloc (kPl u)).alloc (kPl v)).heap.size = b := by simp [hbdef]
  have hfr : LeftAt n₀ vs av W B R m c := by
    rw [hm, ← hz2]
    exact HL2.out.fresh (by simp; omega) HB0.out (by rw [hz2, hbdef]; exact hkW) hgW
  have hK0 : Kc n₀ w W := (((((Kc.refl n₀ w).alloc hn _).alloc (by simp; omega) _).alloc (by simp; omega) _)).trans (Kc.of_grown hgW (by simp; omega) fun b' e => by cases e; exact ⟨HL2.out.n0B, (HL2.out.outer.alloc _).soft⟩)
  simp only [World.size_alloc] at HV hsW
  replace HU := Lib.hid ((HU.out.alloc (.map #[] 0)).grown hgW (fun e => by injection e with e; omega))
  replace HV := Lib.hid ((HV.out.alloc (.map #[] 0)).grown hgW (fun e => by injection e with e; omega))
  replace HB2 := Lib.hid ((HB2.out.alloc (.map #[] 0)).grown hgW (fun e => by injection e with e; exact hBB e))
  replace HL2 := Lib.hid hfr
  have HB := Lib.hid hb
  have HK0 := Lib.hid hK0
  have hnb : b ≠ B := (HL2.out.n0b u b HB.out).2.1
  have hbu : w.heap.size ≠ b := by omega
  have hbv : w.heap.size + 1 ≠ b := by omega
  have hbl : Bl ≠ b := by omega
  have LK1 := Lib.hid (show ∀ W, KMap plV okV W B (fun u => (m u).map fun b => .map (some b)) → (Instr.lookup 122 (.map (some B)) (plV u) false).run Tryz.prog W = .ok (.map (some b)) W from fun W h => by
    have := run_lookupK kkPl Tryz.underlying122 zeroPI h u hu
    rw [hb] at this; exact this)
  have LK2 := Lib.hid (show ∀ W d, KMap plV okV W b d → (d v).getD (.int .i64 0) = .int .i64 x → (Instr.lookup 125 (.map (some b)) (plV v) false).run Tryz.prog W = .ok (.int .i64 x) W from fun W d h h' => by
    have := run_lookupK kkPl Tryz.underlying125 zeroI h v hv
    rw [h'] at this; exact this)
  rw [← hbdef]
  clear hkW hgW hsW hBB hm hb hz2 hfr hK0 hbdef
  simp only [Act.put]
  refine wp_region_PL [0, 1, 2, 3, 4] (fun w' => w'.cell? ⟨Bl, 0, none⟩ = some (.map (some B)) ∧ w'.cell? ⟨w.heap.size, 0, none⟩ = some (.int .i64 u.1) ∧ w'.cell? ⟨w.heap.size, 1, none⟩ = some (.int .i64 u.2) ∧ w'.cell? ⟨w.heap.size + 1, 0, none⟩ = some (.int .i64 v.1) ∧ w'.cell? ⟨w.heap.size + 1, 1, none⟩ = some (.int .i64 v.2) ∧ (Instr.lookup 122 (.map (some B)) (.agg #[.int .i64 u.1, .int .i64 u.2]) false).run Tryz.prog w' = .ok (.map (some b)) w' ∧ (Instr.lookup 125 (.map (some b)) (.agg #[.int .i64 v.1, .int .i64 v.2]) false).run Tryz.prog w' = .ok (.int .i64 x) w') rfl (by kernel_rfl) (⟨HB2.out.cell 0, HU.out.cell 0, HU.out.cell 1, HV.out.cell 0, HV.out.cell 1, LK1.out _ HL2.out.drew.outer, LK2.out _ _ (HL2.out.drew.inner u b HB.out) HDV.out⟩) (fun hF0 => ?_)
  (refine wpAnyP_loadL (i := 0) (v := ?_) rfl (by kernel_rfl) (by kernel_rfl) (by kernel_rfl) (by rfl) (fun _ _ _ h => h) hF0 (by rfl) ?_ ?_; rotate_left 1; focus (intro w hFw; (try dsimp only at hFw); go_split_ands; go_simp; try with_reducible rfl))
  try simp only [Act.put, List.setIfInBounds_toArray, List.set_cons_zero, List.set_cons_succ]
  (refine wpAnyP_loadL (i := 1) (v := ?_) rfl (by kernel_rfl) (by kernel_rfl) (by kernel_rfl) (by rfl) (fun _ _ _ h => h) hF0 (by rfl) ?_ ?_; rotate_left 1; focus (intro w hFw; (try dsimp only at hFw); go_split_ands; go_simp; try with_reducible rfl))
  try simp only [Act.put, List.setIfInBounds_toArray, List.set_cons_zero, List.set_cons_succ]
  (refine wpAnyP_loadL (i := 2) (v := ?_) rfl (by kernel_rfl) (by kernel_rfl) (by kernel_rfl) (by rfl) (fun _ _ _ h => h) hF0 (by rfl) ?_ ?_; rotate_left 1; focus (intro w hFw; (try dsimp only at hFw); go_split_ands; go_simp; try with_reducible rfl))
  try simp only [Act.put, List.setIfInBounds_toArray, List.set_cons_zero, List.set_cons_succ]
  (refine wpAnyP_loadL (i := 3) (v := ?_) rfl (by kernel_rfl) (by kernel_rfl) (by kernel_rfl) (by rfl) (fun _ _ _ h => h) hF0 (by rfl) ?_ ?_; rotate_left 1; focus (intro w hFw; (try dsimp only at hFw); go_split_ands; go_simp; try with_reducible rfl))
  try simp only [Act.put, List.setIfInBounds_toArray, List.set_cons_zero, List.set_cons_succ]
  (refine wpAnyP_loadL (i := 4) (v := ?_) rfl (by kernel_rfl) (by kernel_rfl) (by kernel_rfl) (by rfl) (fun _ _ _ h => h) hF0 (by rfl) ?_ ?_; rotate_left 1; focus (intro w hFw; (try dsimp only at hFw); go_split_ands; go_simp; try with_reducible rfl))
  try simp only [Act.put, List.setIfInBounds_toArray, List.set_cons_zero, List.set_cons_succ]
  (refine wpAnyP_takeL (i := 5) (v := ?_) rfl (by kernel_rfl) (by kernel_rfl) (by kernel_rfl) (fun _ _ _ h => h) (by rfl) ?_ ?_; rotate_left 1; focus (intro w; go_simp; try with_reducible rfl))
  try simp only [Act.put, List.setIfInBounds_toArray, List.set_cons_zero, List.set_cons_succ]
  (refine wpAnyP_takeL (i := 6) (v := ?_) rfl (by kernel_rfl) (by kernel_rfl) (by kernel_rfl) (fun _ _ _ h => h) (by rfl) ?_ ?_; rotate_left 1; focus (intro w; go_simp; try with_reducible rfl))
  try simp only [Act.put, List.setIfInBounds_toArray, List.set_cons_zero, List.set_cons_succ]
  refine wpAnyP_step (i := 7) rfl (by kernel_rfl) (by rfl) (fun K hK => ?_)
  (refine wp_entryK _ _ rfl kkPl Tryz.underlying125 zeroI b _ rfl (HL2.out.drew.inner u b HB.out) v rfl hv _ HDV.out ?_; intro w1 st hk1 hg1 hs1 hst; have HG1 := Lib.hid hg1; have HK1 := Lib.hid hk1; have HST := Lib.hid hst; clear hg1 hk1 hst)
  (refine hK _ _ (⟨(HB2.out.drew.grown HG1.out (fun e => by injection e with e; exact hbl e)).cell 0, (HU.out.drew.grown HG1.out (fun e => by injection e with e; exact hbu e)).cell 0, (HU.out.drew.grown HG1.out (fun e => by injection e with e; exact hbu e)).cell 1, (HV.out.drew.grown HG1.out (fun e => by injection e with e; exact hbv e)).cell 0, (HV.out.drew.grown HG1.out (fun e => by injection e with e; exact hbv e)).cell 1, LK1.out _ (HL2.out.drew.outer.grown HG1.out (fun e => by injection e with e; exact hnb e.symm)), LK2.out _ _ HK1.out (by simp [updK])⟩) (fun hF1 => ?_); clear hK K hF0)
  try simp only [Act.put, List.setIfInBounds_toArray, List.set_cons_zero, List.set_cons_succ]
  (refine wpAnyP_takeL (i := 8) (v := ?_) rfl (by kernel_rfl) (by kernel_rfl) (by kernel_rfl) (fun _ _ _ h => h) (by rfl) ?_ ?_; rotate_left 1; focus (intro w; go_simp; try with_reducible rfl))
  try simp only [Act.put, List.setIfInBounds_toArray, List.set_cons_zero, List.set_cons_succ]
  refine wpAnyP_last (i := 9) rfl (by kernel_rfl) (by kernel_rfl) (by rfl) (fun K hK => ?_)
  (obtain ⟨w2, hr2, hk2, hg2, hs2⟩ := HST.out (.int .i64 (x + g)); refine wp_storeK _ _ _ rfl b st (.int .i64 (x + g)) rfl rfl rfl hr2 ?_)
  (refine hK _ _ ?_; clear hK K)
  try simp only [Act.put, List.setIfInBounds_toArray, List.set_cons_zero, List.set_cons_succ]
  refine wpAnyP_done (by kernel_rfl) ?_ _
  go_wp2_with fail
  go_end0
  have hX := HX.out
  refine ⟨rfl, ⟨_, _, HL2.out.drew.write hvs HB.out g (by rw [← hX]; exact hk2) hg2⟩, HK0.out.drew.trans (Kc.of_grown hg2 (Nat.le_trans hn HK0.out.size) fun b' e => ?_)⟩
  cases e
  exact ⟨(HL2.out.n0b u b HB.out).1, (HL2.out.drew.inner u b HB.out).soft⟩

/-- so many grams more may go from a place to another one -/
theorem add_any (n₀ : Nat) (vs : List Pl) (av B Bl : Nat) (R : Pl → Pl → Int) (u v : Pl) (g : Int) (w : World) (hL : Left n₀ vs av w B R)
    (hBl : Blk w Bl 122 #[.map (some B)]) (hn : n₀ ≤ w.heap.size) (hu : okV u) (hv : okV v) (hvs : v ∈ vs) (h1 : -1152921504606846976 ≤ R u v) (h2 : R u v ≤ 1152921504606846976) (h3 : -1152921504606846976 ≤ g) (h4 : g ≤ 1152921504606846976) :
    Calls Tryz.prog 80 #[plV u, plV v, .int .i64 g, .pointer (some ⟨Bl, 0, none⟩)] w fun e w' => e = .returned (.tuple #[]) ∧ Left n₀ vs av w' B (updR R u v g) ∧ Kc n₀ w w' := by
  obtain ⟨m, c, hL⟩ := hL
  cases hb : m u with
  | none => exact add_none n₀ vs av B Bl R m c u v g w hL hb hBl hn hu hv hvs h3 h4
  | some b => exact add_some n₀ vs av B Bl b R m c u v g w hL hb hBl hn hu hv hvs h1 h2 h3 h4
end Go.Proofs.YtkphgdkjjklajaaGreatDoor

namespace Go.Proofs.YtkphgdkjjklajaaGreatDoor
open Go.RowKit

theorem eqPl (p q : Pl) (w : World) : (binOp BinOp.eql 124 (plV p) (plV q)).run Tryz.prog w = .ok (.bool (decide (p.1 = q.1) && decide (p.2 = q.2))) w := by
  go_simp
  by_cases hp : p.1 = q.1 <;> by_cases hq : p.2 = q.2 <;> simp [hp, hq]
theorem eqPl_g (x y : Operand) (p q : Pl) (w : World) : (eqGuard BinOp.eql 124 x y (plV p) (plV q)).run Tryz.prog w = .ok () w := by
  go_simp
theorem eqPl_t (p : Pl) (w : World) : (binOp BinOp.eql 124 (plV p) (plV p)).run Tryz.prog w = .ok (.bool true) w := by rw [eqPl]; simp
theorem eqPl_f {p q : Pl} (h : p ≠ q) (w : World) : (binOp BinOp.eql 124 (plV p) (plV q)).run Tryz.prog w = .ok (.bool false) w := by
  rw [eqPl]
  have : (decide (p.1 = q.1) && decide (p.2 = q.2)) = false := by
    cases h1 : (decide (p.1 = q.1) && decide (p.2 = q.2))
    · rfl
    · simp at h1; exact absurd (Prod.ext h1.1 h1.2) h
  rw [this]

/-- '==' by what it comes to -/
theorem wpList_eqK {P : Program} {w : World} {ops : Array Oper} {rest : List Oper} {o : Oper} {a : Act} {Q : Exit → Act → World → Prop} (hg : o.guard = none) (x y : Operand) (T ty : TypeId) (hop : o.op = Op.binOp .eql T x y ty)
    {u v r : Value} (hx : a.eval x = u) (hy : a.eval y = v) (hgd : (eqGuard BinOp.eql T x y u v).run P w = .ok () w) (hrun : (binOp BinOp.eql T u v).run P w = .ok r w) (hK : wpList P ops Q rest (a.put o.dst r) w) : wpList P ops Q (o :: rest) a w := by
  refine wpList_plain hg fun K' hK' => ?_
  unfold Oper.wp
  simp [execOp, hop, hx, hy, hgd, hrun, Result.andThen]
  exact hK' _ _ hK

/-- what push captures -/
structure PEnv (w : World) (Bs Bt Bl Bk Bp Ba Bm B : Nat) (z : Pl) (k : Int) : Prop where
  s : Blk w Bs 124 #[.int .i64 z.1, .int .i64 z.2]
  t : Blk w Bt 132 #[.map (some Bm)]
  l : Blk w Bl 122 #[.map (some B)]
  k : Blk w Bk 3 #[.int .i64 k]
  p : Blk w Bp 133 #[.func (.func 82) #[] #[.pointer (some ⟨Bs, 0, none⟩), .pointer (some ⟨Bt, 0, none⟩), .pointer (some ⟨Bl, 0, none⟩), .pointer (some ⟨Bk, 0, none⟩), .pointer (some ⟨Bp, 0, none⟩), .pointer (some ⟨Ba, 0, none⟩)]]
  a : Blk w Ba 126 #[.func (.func 80) #[] #[.pointer (some ⟨Bl, 0, none⟩)]]
section
variable {w w' : World} {Bs Bt Bl Bk Bp Ba Bm B : Nat} {z : Pl} {k : Int}
theorem PEnv.kc {n₀ : Nat} (h : PEnv w Bs Bt Bl Bk Bp Ba Bm B z k) (hk : Kc n₀ w w') : PEnv w' Bs Bt Bl Bk Bp Ba Bm B z k :=
  ⟨h.s.kc hk, h.t.kc hk, h.l.kc hk, h.k.kc hk, h.p.kc hk, h.a.kc hk⟩
end

/-- how push ends -/
def PushPost (n₀ : Nat) (vs : List Pl) (cap : Pl → Pl → Int) (B Bm : Nat) (z : Pl) (k : Int) (M : Pl → Bool) (a : Pl) (g : Int) (R : Pl → Pl → Int) (w : World) (e : Ending) (w' : World) : Prop :=
  ∃ (n : Int) (R' : Pl → Pl → Int) (M' : Pl → Bool), e = .returned (.int .i64 n) ∧ Push vs cap R R' M M' a z k g n ∧ Left n₀ vs Bm w' B R' ∧ Kc n₀ w w' ∧ (n = 0 → KMap plV okV w' Bm (metF M') ∧ w.grownBy w' (some Bm))

/-- between two rounds of push's loop -/
structure PLoop (n₀ : Nat) (vs : List Pl) (R : Pl → Pl → Int) (m : Pl → Option Nat) (c : Pl → Pl → Option Int) (a : Pl) (Bm B r : Nat) (w wr : World) (M1 : Pl → Bool) (left : Pl → Prop) (cnt : Nat) : Prop where
  la : LeftAt n₀ vs Bm wr B R m c
  met : KMap plV okV wr Bm (metF M1)
  it : KIt plV okV wr r (m a) (fun v => (c a v).map (.int .i64)) left cnt
  kc : Kc n₀ w wr
  gr : w.grownBy wr (some Bm)
  u : Blk wr w.heap.size 124 #[.int .i64 a.1, .int .i64 a.2]
section
variable {n₀ : Nat} {vs : List Pl} {R : Pl → Pl → Int} {m : Pl → Option Nat} {c : Pl → Pl → Option Int} {a : Pl} {Bm B r : Nat} {w wr w' : World} {M1 M2 : Pl → Bool} {left left' : Pl → Prop} {cnt cnt' : Nat}
theorem PLoop.next (h : PLoop n₀ vs R m c a Bm B r w wr M1 left cnt) (hg : wr.grownBy w' (some r)) (hit : KIt plV okV w' r (m a) (fun v => (c a v).map (.int .i64)) left' cnt') (hn : n₀ ≤ w.heap.size) (hr : w.heap.size < r) :
    PLoop n₀ vs R m c a Bm B r w w' M1 left' cnt' := by
  have hno : NoMap wr (some r) := fun r' e => by cases e; exact h.it.noMap
  exact ⟨h.la.step hg hno, h.met.step hg hno, hit, h.kc.trans (Kc.of_grown hg (Nat.le_trans hn h.gr.size) fun b' e => by cases e; exact ⟨by omega, h.it.soft⟩),
    only_step hg h.gr (.inr (by omega)), h.u.grown hg (fun e => by injection e with e; omega)⟩
theorem PLoop.alloc (h : PLoop n₀ vs R m c a Bm B r w wr M1 left cnt) (hn : n₀ ≤ w.heap.size) (o : Obj) : PLoop n₀ vs R m c a Bm B r w (wr.alloc o) M1 left cnt :=
  ⟨h.la.alloc o, h.met.alloc o, h.it.grown (World.grownBy_alloc wr o none) (fun e => by cases e) (fun _ _ e => by cases e), h.kc.alloc (Nat.le_trans hn h.gr.size) o, only_alloc h.gr o, h.u.alloc o⟩
theorem PLoop.sub (h : PLoop n₀ vs R m c a Bm B r w wr M1 left cnt) (hg : wr.grownBy w' (some Bm)) (hm : KMap plV okV w' Bm (metF M2)) (hn : n₀ ≤ w.heap.size) (hb : n₀ ≤ Bm) : PLoop n₀ vs R m c a Bm B r w w' M2 left cnt :=
  ⟨h.la.other hg h.la.avB.symm (fun u b hb => (h.la.n0b u b hb).2.2.symm), hm, h.it.grown hg (fun e => by
      injection e with e
      obtain ⟨es, c, h1⟩ := h.met.isMap
      subst e
      exact h.it.noMap es c h1) (fun bm e e' => by injection e' with e'; exact (h.la.n0b a bm e).2.2 e'),
    h.kc.trans (Kc.of_grown hg (Nat.le_trans hn h.gr.size) fun b' e => by cases e; exact ⟨hb, h.met.soft⟩), only_trans h.gr hg, h.u.grown hg (fun e => by
      injection e with e
      exact h.met.notB h.u e.symm)⟩
end
theorem KMap.gr {n₀ : Nat} {w w' : World} {b : Nat} {m : Pl → Option Value} (h : KMap plV okV w b m) (hg : w.grownBy w' (some b)) (hn : n₀ ≤ b) : Kc n₀ w w' :=
  Kc.of_grown hg (by have := h.lt; omega) fun b' e => by cases e; exact ⟨hn, h.soft⟩

set_option maxRecDepth 100000 in
set_option maxHeartbeats 4000000 in
theorem push_any (n₀ : Nat) (vs : List Pl) (cap : Pl → Pl → Int) (Bs Bt Bl Bk Bp Ba Bm B : Nat) (z : Pl) (k : Int) (hvs : ∀ v ∈ vs, okV v) (hnd : vs.Nodup) (hk : 1 ≤ k) (hcap : ∀ u v, cap u v ≤ 1000000000) (hm0 : n₀ ≤ Bm) (N : Nat) :
    ∀ (M : Pl → Bool) (a : Pl) (g : Int) (R : Pl → Pl → Int) (D : Pl → Int) (w : World), unmet vs M ≤ N → PEnv w Bs Bt Bl Bk Bp Ba Bm B z k → Left n₀ vs Bm w B R → KMap plV okV w Bm (metF M) → n₀ ≤ w.heap.size →
      ResD vs cap R D → a ∈ vs → M a = false → M z = false → 1 ≤ g → g ≤ 1099511627776 →
    Calls Tryz.prog 82 #[plV a, .int .i64 g, .pointer (some ⟨Bs, 0, none⟩), .pointer (some ⟨Bt, 0, none⟩), .pointer (some ⟨Bl, 0, none⟩), .pointer (some ⟨Bk, 0, none⟩), .pointer (some ⟨Bp, 0, none⟩), .pointer (some ⟨Ba, 0, none⟩)] w
      (PushPost n₀ vs cap B Bm z k M a g R w) := by
  induction N with
  | zero =>
    intro M a g R D w hN _ _ _ _ _ ha hMa
    have : 0 < unmet vs M := Nat.lt_of_le_of_lt (Nat.zero_le _) (unmet_lt (M' := putM M a) (fun v h => putM_iff.2 (Or.inl h)) ha hMa (putM_self M a))
    omega
  | succ N ih =>
    intro M a g R D w hN hE hL hM hn hD ha hMa hMz hg1 hg2
    have hlt := hL.ltB
    have HE := Lib.hid hE
    have HL := Lib.hid hL
    have HM := Lib.hid hM
    have hU := Blk.new w 124 #[.int .i64 a.1, .int .i64 a.2]
    have hK1 : Kc n₀ w (w.alloc (kPl a)) := (Kc.refl n₀ w).alloc hn _
    have hE1 := hE.kc hK1
    have s0 := hE1.s.cell 0
    have s1 := hE1.s.cell 1
    have hT1 := hE1.t
    have u0 := hU.cell 0
    have u1 := hU.cell 1
    have HIH := Lib.hid ih
    have HD := Lib.hid hD
    have HVS := Lib.hid hvs
    have HCAP := Lib.hid hcap
    have HN := Lib.hid hN
    clear hE hL hM hE1 ih hD hU hvs hcap hN
    by_cases haz : a = z
    · subst haz
      go_enter Tryz.func82, Tryz.ntmps82
      go_wp2_with (refine wpList_eqK rfl (.tmp 14) (.tmp 15) 124 124 rfl rfl rfl (eqPl_g _ _ _ _ _) (eqPl_t a _) ?_)
      go_ret
      exact ⟨g, R, M, rfl, Push.here vs cap R M a k g (by omega), HL.out.alloc _, hK1, fun h => by omega⟩
    · have HAZ := Lib.hid haz
      clear haz
      have t0 := hT1.cell 0
      have hua : okV a := HVS.out a ha
      go_enter Tryz.func82, Tryz.ntmps82
      go_upto_region 4 with (first | (refine wpList_eqK rfl (.tmp 14) (.tmp 15) 124 124 rfl rfl rfl (eqPl_g _ _ _ _ _) (eqPl_f HAZ.out _) ?_) | (at_mapUpdate; refine wpList_updateK _ rfl _ _ _ 132 4 rfl kkPl Tryz.underlying132 Bm _ rfl (HM.out.alloc (kPl a)) a rfl hua (.bool true) rfl ?_; intro w1 hk1 hg1 hs1))
      obtain ⟨m, c, hLA⟩ := HL.out
      have hKm : Kc n₀ (w.alloc (kPl a)) w1 := (HM.out.alloc _).gr hg1 hm0
      have hE2 := (HE.out.kc hK1).kc hKm
      have hU2 : Blk w1 w.heap.size 124 #[.int .i64 a.1, .int .i64 a.2] := (Blk.new w _ _).kc hKm
      have hLA1 : LeftAt n₀ vs Bm w1 B R m c := (hLA.alloc _).other hg1 hLA.avB.symm (fun u b h => (hLA.n0b u b h).2.2.symm)
      have l22 : (Instr.lookup 122 (.map (some B)) (plV a) false).run Tryz.prog w1 = .ok (.map (m a)) w1 := by
        have := run_lookupK kkPl Tryz.underlying122 zeroPI hLA1.outer a hua
        rw [this]; cases m a <;> rfl
      have hO : KMapO plV okV w1 (m a) (fun v => (c a v).map (.int .i64)) := by
        cases hm : m a with
        | none => exact fun v => by show (c a v).map _ = none; rw [hLA.no a hm v]; rfl
        | some b => exact hLA1.inner a b hm
      have hGA : w.grownBy w1 (some Bm) := only_step hg1 (only_alloc (only_refl w Bm) _) (.inl rfl)
      have hKA := hK1.trans hKm
      rw [metF_put] at hk1
      have q0 := hE2.l.cell 0
      have v0 := hU2.cell 0
      have v1 := hU2.cell 1
      have HLA := Lib.hid hLA1
      have HO := Lib.hid hO
      have HK := Lib.hid hk1
      have HGA := Lib.hid hGA
      have HKA := Lib.hid hKA
      have HU := Lib.hid hU2
      have hz1 : w1.heap.size = w.heap.size + 1 := by rw [hs1]; simp
      have HZ := Lib.hid hz1
      clear hK1 hKm hE2 hU2 hLA1 hLA hO hk1 hGA hKA s0 s1 hT1 u0 u1 t0 hg1 hs1 hz1
      simp only [Act.put]
      go_wp2_with (refine wpList_rangeK _ rfl (.tmp 22) 125 3 rfl Tryz.underlying125 (m a) (fun v => (c a v).map (.int .i64)) rfl HO.out ?_; intro w2 cnt hit hg2 hs2)
      have HIT := Lib.hid hit
      have HG2 := Lib.hid hg2
      clear hit hg2 l22 q0 v0 v1
      go_frame
      go_loopw [11] (fun _ wr => ∃ M1 left cnt, PLoop n₀ vs R m c a Bm B w1.heap.size w wr M1 left cnt ∧ Turn vs R M M1 a z k left) (fun _ wr => itLeft wr w1.heap.size)
      case atStart =>
        refine ⟨putM M a, _, cnt, ⟨HLA.out.step HG2.out (NoMap.none _), HK.out.step HG2.out (NoMap.none _), HIT.out, HKA.out.trans (Kc.of_grown HG2.out (Nat.le_trans hn HKA.out.size) fun _ e => by cases e), ?_, HU.out.grown HG2.out (fun e => by cases e)⟩, ?_⟩
        rotate_left 1
        · refine Turn.start HAZ.out ha hMz fun v hv => ?_
          have : c a v = none := by
            cases h : c a v with
            | none => rfl
            | some x => exact absurd (by show ((c a v).map _).isSome = true; rw [h]; rfl) hv
          rw [HLA.out.val, this]
          show (0 : Int) < k
          omega
        · exact only_trans HGA.out (only_of_below ⟨HG2.out.os, HG2.out.tape, HG2.out.output, HG2.out.size, fun i hi => HG2.out.block i hi (fun e => by cases e)⟩ _)
      case round =>
        obtain ⟨M1, left, cnt, hP, hT⟩ := hrel
        have HP := Lib.hid hP
        have HT := Lib.hid hT
        have hit := hP.it
        have HCN := Lib.hid hit.cnt_eq
        have hr : w1.heap.size < wr.heap.size := hit.ltR
        rcases hit.next kkPl 0 with ⟨hl, hrun⟩ | ⟨q, x, w3, cnt', hq, hcq, hrun, hit3, hcnt, hg3, hs3, hent⟩
        · have HLl := Lib.hid hl
          clear hP hit hl hT
          go_wp2_with fail
          go_ret
          have h := HP.out
          exact ⟨0, R, M1, rfl, HT.out.end_ HLl.out (by omega), ⟨m, c, h.la⟩, h.kc, fun _ => ⟨h.met, h.gr⟩⟩
        · obtain ⟨x, rfl, hx⟩ : ∃ y, x = .int .i64 y ∧ c a q = some y := by
            cases h : c a q with
            | none => rw [h] at hcq; cases hcq
            | some y => rw [h] at hcq; injection hcq with e; exact ⟨y, e.symm, rfl⟩
          have hRx : R a q = x := by rw [HLA.out.val, hx]; rfl
          have hqv := HLA.out.keys a q x hx
          have hx0 := HD.out.nn a q
          have hx1 : R a q ≤ 2000000000 := by have h1 := HD.out.sy a q; have h2 := HD.out.nn q a; have h3 := HCAP.out a q; have h4 := HCAP.out q a; omega
          rw [hRx] at hx0 hx1
          have hP3 := hP.next hg3 hit3 hn (by have := HZ.out; omega)
          have hP4 := hP3.alloc hn (kPl q)
          have hE4 := HE.out.kc hP4.kc
          have hQ4 := Blk.new w3 124 #[.int .i64 q.1, .int .i64 q.2]
          have q0 := hQ4.cell 0
          have q1 := hQ4.cell 1
          have k0 := hE4.k.cell 0
          have t0 := hE4.t.cell 0
          have p0 := hE4.p.cell 0
          have a0 := hE4.a.cell 0
          have hsz4 : (w3.alloc (kPl q)).heap.size = w3.heap.size + 1 := by simp
          have hm4 : itLeft (w3.alloc (kPl q)) w1.heap.size = cnt' := hP4.it.cnt_eq
          have HP4 := Lib.hid hP4
          have HQ4 := Lib.hid hQ4
          have HE4 := Lib.hid hE4
          have HRX := Lib.hid hRx
          have HM4 := Lib.hid hm4
          have HS3 := Lib.hid hs3
          have hlk : (Instr.lookup 132 (.map (some Bm)) (plV q) false).run Tryz.prog (w3.alloc (kPl q)) = .ok (.bool (M1 q)) (w3.alloc (kPl q)) := by
            have := run_lookupK kkPl Tryz.underlying132 zeroB hP4.met q hq
            rw [this]
            unfold metF
            cases M1 q <;> rfl
          clear hP hit hT hx hcq hRx hit3 hg3 hP3 hP4 hE4 hQ4 hsz4 hm4 hs3
          by_cases hxk : x < k
          · clear hlk
            go_wp2_with fail
            go_roundw
            case rel => exact ⟨M1, _, cnt', HP4.out, HT.out.skip (v := q) (fun y h1 h2 => ⟨h1, h2⟩) (.inl (by rw [HRX.out]; exact hxk))⟩
            case measure => rw [HM4.out, HCN.out]; exact hcnt
          · cases hmq : M1 q with
            | true =>
              rw [hmq] at hlk
              have HMQ := Lib.hid hmq
              clear hmq
              go_wp2_with fail
              go_roundw
              case rel => exact ⟨M1, _, cnt', HP4.out, HT.out.skip (v := q) (fun y h1 h2 => ⟨h1, h2⟩) (.inr HMQ.out)⟩
              case measure => rw [HM4.out, HCN.out]; exact hcnt
            | false =>
              rw [hmq] at hlk
              have HMQ := Lib.hid hmq
              clear hmq
              have hun : unmet vs M1 ≤ N := by
                have := unmet_lt (vs := vs) HT.out.up ha hMa HT.out.at_
                have := HN.out
                omega
              have hzz := HT.out.z
              by_cases hgx : g ≤ x
              all_goals
                go_upto_region 9 with (go_at_call 82; refine (HIH.out M1 q _ R D _ hun HE4.out ⟨m, c, HP4.out.la⟩ HP4.out.met (Nat.le_trans hn HP4.out.gr.size) HD.out hqv HMQ.out hzz (by omega) (by omega)).mono ?_; rintro e w5 ⟨n, R1, M2, rfl, hPu, hL5, hK5, hN5⟩)
                have HPU := Lib.hid (show Push vs cap R R1 M1 M2 q z k (min g x) n by first | (rw [show min g x = g by omega]; exact hPu) | (rw [show min g x = x by omega]; exact hPu))
                have hn0 := hPu.n0
                have hn1 := hPu.n1
                have HL5 := Lib.hid hL5
                have HK5 := Lib.hid hK5
                have HN5 := Lib.hid hN5
                clear hPu hL5 hK5 hN5 hzz hun hlk hrun hent q0 q1 k0 t0 p0 a0
                by_cases hnz : n = 0
                · subst hnz
                  have hG := HN5.out rfl
                  have hP5 := HP4.out.sub hG.2 hG.1 hn hm0
                  have HM5 := Lib.hid hP5.it.cnt_eq
                  have HP5 := Lib.hid hP5
                  clear hG hP5
                  go_wp2_with fail
                  go_roundw
                  case rel => exact ⟨M2, _, cnt', HP5.out, HT.out.none (v := q) (fun y h1 h2 => ⟨h1, h2⟩) HPU.out⟩
                  case measure => rw [HM5.out, HCN.out]; exact hcnt
                · have hpos : 0 < n := by omega
                  have hE5 := HE4.out.kc HK5.out
                  have hU5 := HP4.out.u.kc HK5.out
                  have hQ5 := HQ4.out.kc HK5.out
                  have hD5 := HPU.out.yes hpos D HD.out
                  have hR5 : 0 ≤ R1 a q ∧ R1 a q ≤ 2000000000 := ⟨hD5.nn a q, by have h1 := hD5.sy a q; have h2 := hD5.nn q a; have h3 := HCAP.out a q; have h4 := HCAP.out q a; omega⟩
                  have hR6 : 0 ≤ R1 q a ∧ R1 q a ≤ 2000000000 := ⟨hD5.nn q a, by have h1 := hD5.sy q a; have h2 := hD5.nn a q; have h3 := HCAP.out a q; have h4 := HCAP.out q a; omega⟩
                  have HR7 := Lib.hid (show -2000000000000 ≤ updR R1 a q (-n) q a ∧ updR R1 a q (-n) q a ≤ 2000000000000 by unfold updR; split <;> omega)
                  obtain ⟨r5, r6⟩ := hR5
                  have hn5 : n₀ ≤ w5.heap.size := Nat.le_trans hn (Nat.le_trans HP4.out.gr.size HK5.out.size)
                  have a0 := hE5.a.cell 0
                  have u0 := hU5.cell 0
                  have u1 := hU5.cell 1
                  have q0 := hQ5.cell 0
                  have q1 := hQ5.cell 1
                  have hl5 := hE5.l
                  have HE5 := Lib.hid hE5
                  have HU5 := Lib.hid hU5
                  have HQ5 := Lib.hid hQ5
                  clear hE5 hU5 hQ5 hD5 hR6
                  go_upto_region 11 with (go_at_call 80; refine (add_any n₀ vs Bm B Bl R1 a q (-n) w5 HL5.out hl5 hn5 hua hq hqv (by omega) (by omega) (by omega) (by omega)).mono ?_; rintro e w6 ⟨rfl, hL6, hK6⟩)
                  have hE6 := HE5.out.kc hK6
                  have hU6 := HU5.out.kc hK6
                  have hQ6 := HQ5.out.kc hK6
                  have b0 := hE6.a.cell 0
                  have x0 := hU6.cell 0
                  have x1 := hU6.cell 1
                  have y0 := hQ6.cell 0
                  have y1 := hQ6.cell 1
                  have hl6 := hE6.l
                  have HL6 := Lib.hid hL6
                  have HK6 := Lib.hid hK6
                  have hn6 : n₀ ≤ w6.heap.size := Nat.le_trans hn5 hK6.size
                  clear hE6 hU6 hQ6 hL6 hK6 a0 u0 u1 q0 q1 hl5
                  go_wp2_with (go_at_call 80; refine (add_any n₀ vs Bm B Bl (updR R1 a q (-n)) q a n w6 HL6.out hl6 hn6 hq hua ha (by have := HR7.out.1; omega) (by have := HR7.out.2; omega) (by omega) (by omega)).mono ?_; rintro e w7 ⟨rfl, hL7, hK7⟩)
                  go_ret
                  exact ⟨n, _, M2, rfl, HT.out.hit hnd hMa ha hqv HMQ.out HRX.out HPU.out hpos, hL7, HP4.out.kc.trans (HK5.out.trans (HK6.out.trans hK7)), fun e => absurd e hnz⟩
end Go.Proofs.YtkphgdkjjklajaaGreatDoor

namespace Go.Proofs.YtkphgdkjjklajaaGreatDoor
open Go.RowKit Go.Shelf
attribute [local go_sem] Oper.semAt_some

theorem Left.new (n₀ : Nat) (vs : List Pl) (av : Nat) (w : World) (hn : n₀ ≤ w.heap.size) (o : Obj) (ha : av = w.heap.size + 1) : Left n₀ vs av ((w.alloc (.map #[] 0)).alloc o) w.heap.size (fun _ _ => 0) := by
  refine ⟨fun _ => none, fun _ _ => none, ⟨(KMap.new w).alloc o, hn, by omega, by simp; omega, ?_, ?_, ?_, fun _ _ _ => rfl, fun _ _ => rfl, ?_⟩⟩
  · intro u b h; cases h
  · intro u b h; cases h
  · intro u v b h; cases h
  · intro u v x h; cases h

/-- what most keeps: what is left of the room, the variables -/
structure MEnv (vs : List Pl) (w W : World) (Ab Am : Option Addr) (nb cb nm cm : Nat) (R : Pl → Pl → Int) : Prop where
  left : Left w.heap.size vs (w.heap.size + 1 + 1) W (w.heap.size + 1) R
  l : Blk W (w.heap.size + 1 + 1) 122 #[.map (some (w.heap.size + 1))]
  a : Blk W (w.heap.size + 1 + 1 + 1) 126 #[.func (.func 80) #[] #[.pointer (some ⟨w.heap.size + 1 + 1, 0, none⟩)]]
  n : Blk W w.heap.size 25 #[.slice Ab nb cb, .slice Am nm cm]
  kc : Kc w.heap.size w W
section
variable {vs : List Pl} {w W W' : World} {Ab Am : Option Addr} {nb cb nm cm : Nat} {R R' : Pl → Pl → Int}
theorem MEnv.row (h : MEnv vs w W Ab Am nb cb nm cm R) {row : Option Nat} (hg : W.grownBy W' row) (hr : ∀ r, row = some r → w.heap.size + 6 ≤ r ∧ ∃ o, W.heap[r]? = some o ∧ soft o = false) : MEnv vs w W' Ab Am nb cb nm cm R :=
  ⟨h.left.step hg (fun r e es c h1 => by obtain ⟨_, o, h2, h3⟩ := hr r e; rw [h1] at h2; cases h2; cases h3), h.l.grown hg (fun e => by have := (hr _ e.symm).1; omega), h.a.grown hg (fun e => by have := (hr _ e.symm).1; omega), h.n.grown hg (fun e => by have := (hr _ e.symm).1; omega),
    h.kc.row hg (fun r e => by have := (hr r e).1; omega) (Nat.le_refl _)⟩
theorem MEnv.alloc (h : MEnv vs w W Ab Am nb cb nm cm R) (o : Obj) : MEnv vs w (W.alloc o) Ab Am nb cb nm cm R := h.row (World.grownBy_alloc W o none) fun _ e => by cases e
theorem MEnv.drew (h : MEnv vs w W Ab Am nb cb nm cm R) : MEnv vs w W.drew Ab Am nb cb nm cm R := ⟨h.left.drew, h.l, h.a, h.n, h.kc.drew⟩
theorem MEnv.turn (h : MEnv vs w W Ab Am nb cb nm cm R) (hk : Kc w.heap.size W W') (hl : Left w.heap.size vs (w.heap.size + 1 + 1) W' (w.heap.size + 1) R') : MEnv vs w W' Ab Am nb cb nm cm R' :=
  ⟨hl, h.l.kc hk, h.a.kc hk, h.n.kc hk, h.kc.trans hk⟩
end
/-- .. and where goods come from, and where they are sought -/
structure MSt (vs : List Pl) (w W : World) (Ab Am : Option Addr) (nb cb nm cm : Nat) (H D : Nat) (z : Pl) (R : Pl → Pl → Int) : Prop where
  env : MEnv vs w W Ab Am nb cb nm cm R
  s : Blk W H 124 #[.int .i64 (-1), .int .i64 (-1)]
  z : Blk W (H + 1) 124 #[.int .i64 z.1, .int .i64 z.2]
  d : W.heap[D]? = some (.deferred (some []))
section
variable {vs : List Pl} {w W W' : World} {Ab Am : Option Addr} {nb cb nm cm : Nat} {H D : Nat} {z : Pl} {R R' : Pl → Pl → Int}
theorem MSt.turn (h : MSt vs w W Ab Am nb cb nm cm H D z R) (hk : Kc w.heap.size W W') (hl : Left w.heap.size vs (w.heap.size + 1 + 1) W' (w.heap.size + 1) R') : MSt vs w W' Ab Am nb cb nm cm H D z R' :=
  ⟨h.env.turn hk hl, h.s.kc hk, h.z.kc hk, hk.rest D _ h.d rfl⟩
theorem MSt.drew (h : MSt vs w W Ab Am nb cb nm cm H D z R) : MSt vs w W.drew Ab Am nb cb nm cm H D z R := ⟨h.env.drew, h.s, h.z, h.d⟩
theorem MSt.alloc (h : MSt vs w W Ab Am nb cb nm cm H D z R) (o : Obj) : MSt vs w (W.alloc o) Ab Am nb cb nm cm H D z R :=
  ⟨h.env.alloc o, h.s.alloc o, h.z.alloc o, (Below.heap_alloc W o D (Array.getElem?_eq_some_iff.1 h.d).1).trans h.d⟩
end
theorem eSrc_snoc (bs : Int → Int) (l : List Int) (k : Nat) (hk : k < l.length) : eSrc srcP ndP bs (l.take (k + 1)) = eSrc srcP ndP bs (l.take k) ++ [(srcP, ndP l[k] 0, bs l[k])] := by
  unfold eSrc
  rw [List.take_succ_eq_append_getElem hk, List.map_append]; rfl
/-- another block to stay away from: one that holds cells -/
theorem Left.avC {n₀ av av' B : Nat} {vs : List Pl} {w : World} {R : Pl → Pl → Int} (h : Left n₀ vs av w B R) {t : TypeId} {cs : Array Value} (hb : Blk w av' t cs) : Left n₀ vs av' w B R := by
  obtain ⟨m, c, h1⟩ := h
  exact ⟨m, c, { h1 with avB := h1.outer.notB hb, avlt := hb.lt, n0b := fun u b hu => ⟨(h1.n0b u b hu).1, (h1.n0b u b hu).2.1, (h1.inner u b hu).notB hb⟩ }⟩
/-- the number in the cell that a value points at -/
def ptrNat (wr : World) : Value → Nat
  | .pointer (some a) => match wr.cell? a with
    | some v => (intOf v).toNat
    | none => 0
  | _ => 0
theorem ptrNat_eq {wr : World} {g : Nat} {t : TypeId} {c : Int} (h : Blk wr g t #[.int .i64 c]) : ptrNat wr (.pointer (some ⟨g, 0, none⟩)) = c.toNat := by
  have := h.cell 0
  simp [ptrNat, this, intOf]
/-- no panic comes -/
def npQ (Q : Exit → Act → World → Prop) : Exit → Act → World → Prop
  | .panic _, _, _ => False
  | e, a, w => Q e a w
theorem npQ_le {Q : Exit → Act → World → Prop} : ∀ e a w, npQ Q e a w → Q e a w := fun e a w h => by cases e <;> first | exact h | exact h.elim
theorem capE_pre {E : List Edge} (h : ∀ e ∈ E, 0 ≤ e.2.2 ∧ e.2.2 ≤ 8000000) {pre rest : List Edge} {x : Edge} (hx : E = pre ++ x :: rest) (hlen : E.length ≤ 116) (u v : Pl) : 0 ≤ capE pre u v ∧ capE pre u v ≤ 1000000000 := by
  have h1 := capE_le (E := pre) (fun e he => h e (by rw [hx]; exact List.mem_append_left _ he)) u v
  have h2 : pre.length ≤ E.length := by rw [hx]; simp
  omega

set_option maxRecDepth 100000 in
set_option maxHeartbeats 4000000 in
theorem most_any (b1 b2 b3 : Nat) (Ab Am Ao : Option Addr) (nb cb nm cm no co T : Nat) (bs : List Int) (ms : List Mv) (l : List Int) (batch : Nat) (w : World) (hN : NetIn bs ms) (hM : NetM w b1 b2 Ab Am nb cb nm cm bs ms) (hT : T ≤ ms.length)
    (hO : Sl encI 1 w b3 Ao no l) (hl : ∀ o ∈ l, 0 ≤ o ∧ o < bs.length) (hnd : l.Nodup) (hb : batch < bs.length) :
    Calls Tryz.prog 61 #[netV Ab Am nb cb nm cm, .slice Ao no co, .int .i64 batch, .int .i64 T] w fun e w' => e = .returned (.int .i64 (mostF bs.length (bsF bs) l (ms.take T) batch)) ∧ Below w.heap.size w w' := by
  have h1n : 0 < nb → b1 < w.heap.size := fun h => hM.b.lt h
  have h2n : 0 < nm → b2 < w.heap.size := fun h => hM.m.lt h
  have hmm := @run_makeMap Tryz.prog
  have hmf : ∀ (fn : Fn) (first cap : Array Value) (w : World), (Instr.makeFunc fn first cap).run Tryz.prog w = .ok (.func fn first cap) w := fun _ _ _ _ => rfl
  have HM := Lib.hid hM
  have HN := Lib.hid hN
  have HO := Lib.hid hO
  have HOL := Lib.hid hl
  have HND := Lib.hid hnd
  clear hM hN hO hl hnd
  refine (callsIn_wide (n := 9)).1 ?_
  refine callsIn_of_wp_marks Tryz.func61 rfl trivial ?_ rfl
  simp only [Tryz.ntmps61, List.size_toArray, List.length_cons, List.length_nil, Nat.reduceAdd, Nat.reduceSub, Array.replicate_succ, Array.replicate_zero, List.push_toArray, List.append_toArray, List.nil_append, List.cons_append]
  gi_wp2_with (refine ⟨trivial, ?_⟩; gi_at_call 81; refine (callsIn_wide.2 (edges_any _ _ _ _ _ _ _ _)).mono ?_; rintro e w' ⟨rfl, rfl⟩)
  rename_i K aK
  have hE := eLay_ok (HN.out.take T)
  have hTl : (ms.take T).length = T := by rw [List.length_take]; omega
  rw [hTl] at hE
  have HE := Lib.hid hE
  have HTL := Lib.hid hTl
  have hvs := vsP_ok (n := bs.length) (T := T) HN.out.n1 (by have := HN.out.m1; omega)
  have HVS := Lib.hid hvs
  have hEl : (eLay ndP bs.length (bsF bs) 0 (ms.take T)).length ≤ 116 := by
    have := edP_len (HN.out.take T) (l := []) (by simp)
    simpa [edP, eSrc] using this
  have hm0 : MEnv (vsP bs.length T) w ((((((w.alloc (.cells #[.slice Ab nb cb, .slice Am nm cm] 25)).alloc (.map #[] 0)).alloc (.cells #[.map (some (w.heap.size + 1))] 122)).alloc (.cells #[.func (.func 80) #[] #[.pointer (some ⟨w.heap.size + 1 + 1, 0, none⟩)]] 126)).alloc (.cells #[.slice Ab nb cb, .slice Am nm cm] 25)).alloc (.cells #[.int .i64 T] 3)) Ab Am nb cb nm cm (capE []) := by
    have g1 := Left.new w.heap.size (vsP bs.length T) (w.heap.size + 1 + 1) (w.alloc (.cells #[.slice Ab nb cb, .slice Am nm cm] 25)) (by simp) (.cells #[.map (some (w.heap.size + 1))] 122) (by simp)
    have g2 := Blk.new ((w.alloc (.cells #[.slice Ab nb cb, .slice Am nm cm] 25)).alloc (.map #[] 0)) 122 #[.map (some (w.heap.size + 1))]
    have g3 := Blk.new (((w.alloc (.cells #[.slice Ab nb cb, .slice Am nm cm] 25)).alloc (.map #[] 0)).alloc (.cells #[.map (some (w.heap.size + 1))] 122)) 126 #[.func (.func 80) #[] #[.pointer (some ⟨w.heap.size + 1 + 1, 0, none⟩)]]
    have g4 := Blk.new w 25 #[.slice Ab nb cb, .slice Am nm cm]
    simp only [World.size_alloc] at g1 g2 g3
    exact ⟨((g1.alloc _).alloc _).alloc _, ((g2.alloc _).alloc _).alloc _, (g3.alloc _).alloc _, ((((g4.alloc _).alloc _).alloc _).alloc _).alloc _,
      ((((((Kc.refl w.heap.size w).alloc (Nat.le_refl _) _).alloc (by simp) _).alloc (by simp; omega) _).alloc (by simp; omega) _).alloc (by simp; omega) _).alloc (by simp; omega) _⟩
  have hbn := (Blk.new ((((w.alloc (.cells #[.slice Ab nb cb, .slice Am nm cm] 25)).alloc (.map #[] 0)).alloc (.cells #[.map (some (w.heap.size + 1))] 122)).alloc (.cells #[.func (.func 80) #[] #[.pointer (some ⟨w.heap.size + 1 + 1, 0, none⟩)]] 126)) 25 #[.slice Ab nb cb, .slice Am nm cm]).alloc (.cells #[.int .i64 T] 3)
  have hbt := Blk.new (((((w.alloc (.cells #[.slice Ab nb cb, .slice Am nm cm] 25)).alloc (.map #[] 0)).alloc (.cells #[.map (some (w.heap.size + 1))] 122)).alloc (.cells #[.func (.func 80) #[] #[.pointer (some ⟨w.heap.size + 1 + 1, 0, none⟩)]] 126)).alloc (.cells #[.slice Ab nb cb, .slice Am nm cm] 25)) 3 #[.int .i64 T]
  simp only [World.size_alloc] at hbn hbt
  have hsz : ((((((w.alloc (.cells #[.slice Ab nb cb, .slice Am nm cm] 25)).alloc (.map #[] 0)).alloc (.cells #[.map (some (w.heap.size + 1))] 122)).alloc (.cells #[.func (.func 80) #[] #[.pointer (some ⟨w.heap.size + 1 + 1, 0, none⟩)]] 126)).alloc (.cells #[.slice Ab nb cb, .slice Am nm cm] 25)).alloc (.cells #[.int .i64 T] 3)).heap.size = w.heap.size + 6 := by simp
  obtain ⟨W0, hW0⟩ : ∃ W0, ((((((w.alloc (.cells #[.slice Ab nb cb, .slice Am nm cm] 25)).alloc (.map #[] 0)).alloc (.cells #[.map (some (w.heap.size + 1))] 122)).alloc (.cells #[.func (.func 80) #[] #[.pointer (some ⟨w.heap.size + 1 + 1, 0, none⟩)]] 126)).alloc (.cells #[.slice Ab nb cb, .slice Am nm cm] 25)).alloc (.cells #[.int .i64 T] 3)) = W0 := ⟨_, rfl⟩
  rw [hW0] at hm0 hbn hbt hsz ⊢
  have HSZ := Lib.hid hsz
  clear hW0 hmm hmf
  have hM0 : NetM W0 b1 b2 Ab Am nb cb nm cm bs ms := HM.out.old hm0.kc.toBelow
  refine wpIn_range_on rfl (by omega) (gf := 99) (lb := #[.pointer (some ⟨w.heap.size + 1 + 1 + 1 + 1, 0, none⟩), .pointer (some ⟨w.heap.size + 1 + 1 + 1 + 1 + 1, 0, none⟩)]) rfl trivial (enters_of Tryz.func99 (by kernel_rfl) rfl)
    (edges_hands _ (w.heap.size + 1 + 1 + 1 + 1) (w.heap.size + 1 + 1 + 1 + 1 + 1) b1 b2 w.heap.size Ab Am nb cb nm cm T bs ms W0 HN.out hT (by omega) h1n h2n hbn hbt hM0) Kd.trans
    (fun W L o o' hle hlo hrec => Kx.of_grown' (grownBy_putObj' W L o') (by have := (Array.getElem?_eq_some_iff.1 hlo).1; omega) (fun b e => by cases e; exact ⟨by omega, fun o2 h2 => by rw [hlo] at h2; cases h2; cases o <;> first | rfl | cases hrec⟩)) (Below.refl _ _) (fun _ => rfl)
    (fun pre W => MEnv (vsP bs.length T) w W Ab Am nb cb nm cm (capE pre)) (fun pre X Y row h hg hr => h.row hg fun r e => by obtain ⟨h1, h2⟩ := hr r e; exact ⟨by omega, h2⟩) hm0
    (fun x a' W => ∃ Bx, Blk W Bx 131 #[.int .i64 x.1.1, .int .i64 x.1.2, .int .i64 x.2.1.1, .int .i64 x.2.1.2, .int .i64 x.2.2] ∧ a' = { tmps := #[netV Ab Am nb cb nm cm, .slice Ao no co, .int .i64 batch, .int .i64 T, .pointer (some ⟨w.heap.size, 0, none⟩), undef, undef, undef, .int .i64 0, .pointer (some ⟨w.heap.size + 1 + 1, 0, none⟩), .pointer (some ⟨w.heap.size + 1 + 1 + 1, 0, none⟩), .pointer (some ⟨Bx, 0, none⟩), undef, undef, undef, undef, undef, undef, undef, undef, undef, .map (some (w.heap.size + 1)), .func (.func 80) #[] #[.pointer (some ⟨w.heap.size + 1 + 1, 0, none⟩)], .agg #[.slice Ab nb cb, .slice Am nm cm], .int .i64 T, .func (.func 99) #[] #[.pointer (some ⟨w.heap.size + 1 + 1 + 1 + 1, 0, none⟩), .pointer (some ⟨w.heap.size + 1 + 1 + 1 + 1 + 1, 0, none⟩)], .agg #[.int .i64 x.1.1, .int .i64 x.1.2, .int .i64 x.2.1.1, .int .i64 x.2.1.2, .int .i64 x.2.2], undef, undef, undef, undef, undef, undef, undef, undef, undef, undef, undef, undef, undef, undef, undef, undef, undef, undef, undef, undef, undef, undef, undef, undef, undef, undef, undef, undef, undef, undef, undef, undef, undef, undef, undef, undef, undef, undef, undef, undef, undef, undef, undef, undef, undef], defers := [] })
    (fun x a' W L o o' hs hle hlo hrec => by
      obtain ⟨Bx, h1, h2⟩ := hs
      exact ⟨Bx, h1.grown (grownBy_putObj' W L o') (fun e => by injection e with e; subst e; rw [show W.heap[Bx]? = _ from h1] at hlo; cases hlo; cases hrec), h2⟩) ?assign ?body ?done
  case assign =>
    intro L pre x W K2 hI hK2
    gi_wp2
    exact hK2 _ _ (Kc.keepsRec ((Kc.refl 0 W).alloc (Nat.zero_le _) _)) ((Kx.refl w.heap.size W).alloc (by have := hI.kc.size; omega) _) (hI.alloc _) ⟨W.heap.size, Blk.new W _ _, rfl⟩
  case body =>
    rintro L pre x rest a' W hxs hI ⟨Bx, bX, rfl⟩
    have HXS := Lib.hid hxs
    have HI := Lib.hid hI
    have x0 := bX.cell 0
    have x1 := bX.cell 1
    have x2 := bX.cell 2
    have x3 := bX.cell 3
    have x4 := bX.cell 4
    have a0 := hI.a.cell 0
    have hxm : x ∈ eLay ndP bs.length (bsF bs) 0 (ms.take T) := by rw [hxs]; simp
    have hx := HE.out x hxm
    have hcap := capE_pre (fun e he => ⟨(HE.out e he).g0, (HE.out e he).g1⟩) hxs hEl x.1 x.2.1
    have hx0 := hx.g0
    have hx1 := hx.g1
    obtain ⟨hc0, hc1⟩ := hcap
    have HXO := Lib.hid hx
    clear hI hxs hxm hx bX
    gi_wp2_with (refine ⟨trivial, ?_⟩; refine (CallsIn.inRound L (callsIn_wide.2 (add_any w.heap.size (vsP bs.length T) (w.heap.size + 1 + 1) (w.heap.size + 1) (w.heap.size + 1 + 1) (capE pre) x.1 x.2.1 x.2.2 W HI.out.left HI.out.l HI.out.kc.size (hvs _ HXO.out.u) (hvs _ HXO.out.v) HXO.out.v (by omega) (by omega) (by omega) (by omega)))).mono ?_; rintro e w' ⟨rfl, hL, hk⟩)
    gi_wp2
    refine ⟨hk.keepsRec, hk.toKd, ?_⟩
    have := HI.out.turn hk hL
    rwa [capE_snoc] at this
  case done =>
    intro D W hD hI hK
    show K _ _
    refine aK _ _ (wpIn_wide.2 (Code.wp_mono npQ_le ?_))
    clear aK
    simp only []
    have HI := Lib.hid hI
    have HK := Lib.hid hK
    clear hI hK hbn hbt hm0 hM0 hE hTl
    go_upto_region 7 with fail
    have hS0 : MSt (vsP bs.length T) w ((W.alloc (.cells #[.int .i64 (-1), .int .i64 (-1)] 124)).alloc (.cells #[.int .i64 (batch : Int), .int .i64 T] 124)) Ab Am nb cb nm cm W.heap.size D ((batch : Int), (T : Int)) (capE (eLay ndP bs.length (bsF bs) 0 (ms.take T) ++ eSrc srcP ndP (bsF bs) (l.take 0))) := by
      have g1 := Blk.new (W.alloc (.cells #[.int .i64 (-1), .int .i64 (-1)] 124)) 124 #[.int .i64 (batch : Int), .int .i64 T]
      simp only [World.size_alloc] at g1
      have hd := (Below.heap_alloc (W.alloc (.cells #[.int .i64 (-1), .int .i64 (-1)] 124)) (.cells #[.int .i64 (batch : Int), .int .i64 T] 124) D (by have := (Array.getElem?_eq_some_iff.1 HK.out).1; simp; omega)).trans ((Below.heap_alloc W (.cells #[.int .i64 (-1), .int .i64 (-1)] 124) D (Array.getElem?_eq_some_iff.1 HK.out).1).trans HK.out)
      have e : eLay ndP bs.length (bsF bs) 0 (ms.take T) ++ eSrc srcP ndP (bsF bs) (l.take 0) = eLay ndP bs.length (bsF bs) 0 (ms.take T) := by simp [eSrc]
      rw [e]
      exact ⟨(HI.out.alloc _).alloc _, (Blk.new W _ _).alloc _, g1, hd⟩
    obtain ⟨W1, hW1⟩ : ∃ W1, ((W.alloc (.cells #[.int .i64 (-1), .int .i64 (-1)] 124)).alloc (.cells #[.int .i64 (batch : Int), .int .i64 T] 124)) = W1 := ⟨_, rfl⟩
    rw [hW1] at hS0 ⊢
    have HS0 := Lib.hid hS0
    have hno := HO.out.len
    have HNO := Lib.hid hno
    have hno8 : no ≤ 8 := by have := orig_len HND.out HOL.out HN.out.n1; omega
    have hnb := HM.out.b.len
    have HNB := Lib.hid hnb
    have hnb8 : nb ≤ 8 := by have := HN.out.n1; omega
    clear hS0 hW1 hno hnb
    go_wp2_with fail
    go_loopw [41] (fun i wr => ∃ k : Nat, k ≤ no ∧ i = .int .i64 k ∧ MSt (vsP bs.length T) w wr Ab Am nb cb nm cm W.heap.size D ((batch : Int), (T : Int)) (capE (eLay ndP bs.length (bsF bs) 0 (ms.take T) ++ eSrc srcP ndP (bsF bs) (l.take k)))) (fun i _ => no - (intOf i).toNat)
    case atStart => exact ⟨0, Nat.zero_le _, rfl, HS0.out⟩
    case round =>
      obtain ⟨k, hk, rfl, hS⟩ := hrel
      have HS := Lib.hid hS
      clear hS
      by_cases hlt : k < no
      · have hkl : k < l.length := by have := HNO.out; omega
        obtain ⟨off, rfl, hb3, o0⟩ := (HO.out.below HS.out.env.kc.toBelow (fun h => HO.out.lt h)).atI hkl
        have hoR := HOL.out l[k] (List.getElem_mem hkl)
        obtain ⟨on, hon⟩ := Int.eq_ofNat_of_zero_le hoR.1
        rw [hon] at o0
        have honb : on < bs.length := by have := hoR.2; omega
        have honn : on < nb := by have := HNB.out; omega
        obtain ⟨off1, rfl, hb1, o1⟩ := (HM.out.b.below HS.out.env.kc.toBelow (fun h => h1n h)).atI honb
        have HEK := Lib.hid (eSrc_snoc (bsF bs) l k hkl)
        have HBS := Lib.hid (bsF_get (bs := bs) honb)
        have hbd := bsF_in HN.out.gr on
        obtain ⟨x, hx⟩ : ∃ x, x = bsF bs on := ⟨_, rfl⟩
        rw [← bsF_get honb, ← hx] at o1
        rw [← hx] at hbd
        obtain ⟨hx0, hx1⟩ := hbd
        have HX := Lib.hid hx
        have HON := Lib.hid hon
        have hcap := capE_le (E := eLay ndP bs.length (bsF bs) 0 (ms.take T) ++ eSrc srcP ndP (bsF bs) (l.take k)) (fun e he => by
          have h1 := edP_ok (HN.out.take T) (l := l.take k) (fun o ho => HOL.out o (List.mem_of_mem_take ho)) e he
          exact ⟨h1.g0, h1.g1⟩) srcP (ndP on 0)
        have hcl := edP_len (HN.out.take T) (l := l.take k) (by rw [List.length_take]; omega)
        unfold edP at hcl
        obtain ⟨hc0, hc1⟩ := hcap
        have hon0 : (0 : Int) ≤ (on : Int) := by omega
        have hon1 : (on : Int) < (nb : Int) := by omega
        clear hx hon hoR
        go_upto_region 10 with fail
        refine wp_region_PL [0, 1, 5, 8] (fun w' => w'.cell? ⟨w.heap.size + 1 + 1 + 1, 0, none⟩ = some (.func (.func 80) #[] #[.pointer (some ⟨w.heap.size + 1 + 1, 0, none⟩)]) ∧ w'.cell? ⟨W.heap.size, 0, none⟩ = some (.int .i64 (-1)) ∧ w'.cell? ⟨W.heap.size, 1, none⟩ = some (.int .i64 (-1)) ∧ w'.cell? ⟨w.heap.size, 0, none⟩ = some (.slice (some ⟨b1, off1, none⟩) nb cb) ∧ w'.cell? ⟨b1, off1 + on, none⟩ = some (.int .i64 x)) rfl (by kernel_rfl) (⟨HS.out.env.a.cell 0, HS.out.s.cell 0, HS.out.s.cell 1, HS.out.env.n.cell 0, o1⟩) (fun hF0 => ?_)
        (refine wpAnyP_loadL (i := 0) (v := ?_) rfl (by kernel_rfl) (by kernel_rfl) (by kernel_rfl) (by rfl) (fun _ _ _ h => h) hF0 (by rfl) ?_ ?_; rotate_left 1; focus (intro w hFw; (try dsimp only at hFw); go_split_ands; go_simp; try with_reducible rfl))
        try simp only [Act.put, List.setIfInBounds_toArray, List.set_cons_zero, List.set_cons_succ]
        (refine wpAnyP_loadL (i := 1) (v := ?_) rfl (by kernel_rfl) (by kernel_rfl) (by kernel_rfl) (by rfl) (fun _ _ _ h => h) hF0 (by rfl) ?_ ?_; rotate_left 1; focus (intro w hFw; (try dsimp only at hFw); go_split_ands; go_simp; try with_reducible rfl))
        try simp only [Act.put, List.setIfInBounds_toArray, List.set_cons_zero, List.set_cons_succ]
        (refine wpAnyP_takeL (i := 2) (v := ?_) rfl (by kernel_rfl) (by kernel_rfl) (by kernel_rfl) (fun _ _ _ h => h) (by rfl) ?_ ?_; rotate_left 1; focus (intro w; go_simp; try with_reducible rfl))
        try simp only [Act.put, List.setIfInBounds_toArray, List.set_cons_zero, List.set_cons_succ]
        (refine wpAnyP_takeL (i := 3) (v := ?_) rfl (by kernel_rfl) (by kernel_rfl) (by kernel_rfl) (fun _ _ _ h => h) (by rfl) ?_ ?_; rotate_left 1; focus (intro w; go_simp; try with_reducible rfl))
        try simp only [Act.put, List.setIfInBounds_toArray, List.set_cons_zero, List.set_cons_succ]
        (refine wpAnyP_takeL (i := 4) (v := ?_) rfl (by kernel_rfl) (by kernel_rfl) (by kernel_rfl) (fun _ _ _ h => h) (by rfl) ?_ ?_; rotate_left 1; focus (intro w; go_simp; try with_reducible rfl))
        try simp only [Act.put, List.setIfInBounds_toArray, List.set_cons_zero, List.set_cons_succ]
        (refine wpAnyP_loadL (i := 5) (v := ?_) rfl (by kernel_rfl) (by kernel_rfl) (by kernel_rfl) (by rfl) (fun _ _ _ h => h) hF0 (by rfl) ?_ ?_; rotate_left 1; focus (intro w hFw; (try dsimp only at hFw); go_split_ands; go_simp; try with_reducible rfl))
        try simp only [Act.put, List.setIfInBounds_toArray, List.set_cons_zero, List.set_cons_succ]
        (refine wpAnyP_takeL (i := 6) (v := ?_) rfl (by kernel_rfl) (by kernel_rfl) (by kernel_rfl) (fun _ _ _ h => h) (by rfl) ?_ ?_; rotate_left 1; focus (intro w; go_simp; try with_reducible rfl))
        try simp only [Act.put, List.setIfInBounds_toArray, List.set_cons_zero, List.set_cons_succ]
        (refine wpAnyP_takeL (i := 7) (v := ?_) rfl (by kernel_rfl) (by kernel_rfl) (by kernel_rfl) (fun _ _ _ h => h) (by rfl) ?_ ?_; rotate_left 1; focus (intro w; go_simp; try with_reducible rfl))
        try simp only [Act.put, List.setIfInBounds_toArray, List.set_cons_zero, List.set_cons_succ]
        (refine wpAnyP_loadL (i := 8) (v := ?_) rfl (by kernel_rfl) (by kernel_rfl) (by kernel_rfl) (by rfl) (fun _ _ _ h => h) hF0 (by rfl) ?_ ?_; rotate_left 1; focus (intro w hFw; (try dsimp only at hFw); go_split_ands; go_simp; try with_reducible rfl))
        try simp only [Act.put, List.setIfInBounds_toArray, List.set_cons_zero, List.set_cons_succ]
        refine wpAnyP_step (i := 9) rfl (by kernel_rfl) (by rfl) (fun K hK => ?_)
        go_simp
        (refine (add_any w.heap.size (vsP bs.length T) (w.heap.size + 1 + 1) (w.heap.size + 1) (w.heap.size + 1 + 1) _ srcP (ndP on 0) x _ HS.out.env.left.drew HS.out.env.l HS.out.env.kc.size (hvs _ (vsP_src _ _)) (hvs _ (vsP_mem (t := 0) hon0 (by omega) (Nat.zero_le _))) (vsP_mem (t := 0) hon0 (by omega) (Nat.zero_le _)) (by omega) (by omega) (by omega) (by omega)).mono ?_; rintro e w6 ⟨rfl, hL, hk6⟩)
        (refine hK _ _ (⟨(HS.out.env.a.drew.kc hk6).cell 0, (HS.out.s.drew.kc hk6).cell 0, (HS.out.s.drew.kc hk6).cell 1, (HS.out.env.n.drew.kc hk6).cell 0, (World.cell?_of_block (w := wr.drew) (a := ⟨b1, off1 + on, none⟩) (hk6.below b1 (h1n (by omega)))).trans o1⟩) (fun hF1 => ?_); clear hK K hF0)
        try simp only [Act.put, List.setIfInBounds_toArray, List.set_cons_zero, List.set_cons_succ]
        refine wpAnyP_done (by kernel_rfl) ?_ _
        have HSN := Lib.hid (show MSt (vsP bs.length T) w w6 (some ⟨b1, off1, none⟩) Am nb cb nm cm W.heap.size D ((batch : Int), (T : Int)) (capE (eLay ndP bs.length (bsF bs) 0 (ms.take T) ++ eSrc srcP ndP (bsF bs) (l.take (k + 1)))) by
          have h1 := HS.out.drew.turn hk6 hL
          have e := capE_snoc (eLay ndP bs.length (bsF bs) 0 (ms.take T) ++ eSrc srcP ndP (bsF bs) (l.take k)) (srcP, ndP on 0, x)
          rw [e] at h1
          rw [HEK.out, HON.out, ← HX.out, ← List.append_assoc]
          exact h1)
        clear hL hk6 o0 o1
        go_wp2_with fail
        go_roundw
        case rel => exact ⟨k + 1, by omega, by go_num, HSN.out⟩
        case measure => simp [intOf]; omega
      · obtain rfl : k = no := by omega
        have hlk : l.take k = l := List.take_of_length_le (by have := HNO.out; omega)
        have HSE := Lib.hid (show MSt (vsP bs.length T) w wr Ab Am nb cb nm cm W.heap.size D ((batch : Int), (T : Int)) (capE (edP bs (ms.take T) l)) by have := HS.out; rw [hlk] at this; exact this)
        have HNT := Lib.hid (HN.out.take T)
        obtain ⟨MF, hMF⟩ : ∃ MF, MF = mostF bs.length (bsF bs) l (ms.take T) batch := ⟨_, rfl⟩
        have hMF0 : 0 ≤ MF := by rw [hMF]; exact mostF_nonneg HN.out.pos HNT.out.ms l batch
        have hMF1 : MF ≤ 8000000 := by
          have := mostF_le_sum HN.out.pos HNT.out.ms l (batch := batch) (by omega) (by omega)
          have := HN.out.sum
          rw [hMF]; omega

        have HMF := Lib.hid hMF
        have hcap : ∀ u v, capE (edP bs (ms.take T) l) u v ≤ 1000000000 := fun u v => by
          have h1 := (capE_le (E := edP bs (ms.take T) l) (fun e he => ⟨(edP_ok HNT.out HOL.out e he).g0, (edP_ok HNT.out HOL.out e he).g1⟩) u v).2
          have h2 := edP_len HNT.out (l := l) (orig_len HND.out HOL.out HN.out.n1)
          omega
        have HCAP := Lib.hid hcap
        clear hlk HS hMF hcap
        go_wp2_with fail
        obtain ⟨wo, rfl⟩ : ∃ wo : World, wo = wr := ⟨_, rfl⟩
        have HS1 := Lib.hid (HSE.out.alloc (.cells #[.int .i64 8388608] 3))
        have HC1 := Lib.hid (Blk.new wo 3 #[.int .i64 8388608])
        go_loopw [16, 17] (fun tv pv wr => ∃ (tot c : Int) (Bk : Nat) (R : Pl → Pl → Int) (D' : Pl → Int), tv = .int .i64 tot ∧ pv = .pointer (some ⟨Bk, 0, none⟩) ∧ Blk wr Bk 3 #[.int .i64 c] ∧ 0 ≤ c ∧ c ≤ 8388608 ∧ 0 ≤ tot ∧ (c = 0 → tot = MF) ∧ MSt (vsP bs.length T) w wr Ab Am nb cb nm cm W.heap.size D ((batch : Int), (T : Int)) R ∧ Come bs (ms.take T) l batch R D' tot) (fun _ pv wr => ptrNat wr pv)
        case atStart => exact ⟨0, 8388608, _, _, _, rfl, rfl, HC1.out, by omega, by omega, by omega, fun h => by omega, HS1.out, Come.start HNT.out HOL.out⟩
        case round =>
          obtain ⟨tot, c, Bk, R, D', rfl, rfl, hC, hc0, hc1, ht0, hcz, hS, hCo⟩ := hrel
          have k0 := hC.cell 0
          have HC := Lib.hid hC
          have HS := Lib.hid hS
          have HCO := Lib.hid hCo
          have HCZ := Lib.hid hcz
          clear hC hS hCo hcz
          by_cases hcp : 0 < c
          · have hmm := @run_makeMap Tryz.prog
            have hmf : ∀ (fn : Fn) (first cap : Array Value) (w : World), (Instr.makeFunc fn first cap).run Tryz.prog w = .ok (.func fn first cap) w := fun _ _ _ _ => rfl
            go_wp2_with fail
            obtain ⟨wq, rfl⟩ : ∃ wq : World, wq = wr := ⟨_, rfl⟩
            clear k0
            go_loopw [16] (fun tv wr => ∃ (tot : Int) (R : Pl → Pl → Int) (D' : Pl → Int), tv = .int .i64 tot ∧ 0 ≤ tot ∧ Blk wr Bk 3 #[.int .i64 c] ∧ MSt (vsP bs.length T) w wr Ab Am nb cb nm cm W.heap.size D ((batch : Int), (T : Int)) R ∧ Come bs (ms.take T) l batch R D' tot) (fun tv _ => (MF - intOf tv).toNat)
            case atStart => exact ⟨tot, R, D', rfl, ht0, HC.out, HS.out, HCO.out⟩
            case round =>
              obtain ⟨tot, R, D', rfl, ht0, hC, hS, hCo⟩ := hrel
              have hS3 := ((hS.alloc (.map #[] 0)).alloc (.cells #[.map (some wr.heap.size)] 132)).alloc (.cells #[.func (.func 82) #[] #[.pointer (some ⟨W.heap.size + 1, 0, none⟩), .pointer (some ⟨wr.heap.size + 1, 0, none⟩), .pointer (some ⟨w.heap.size + 1 + 1, 0, none⟩), .pointer (some ⟨Bk, 0, none⟩), .pointer (some ⟨wr.heap.size + 1 + 1, 0, none⟩), .pointer (some ⟨w.heap.size + 1 + 1 + 1, 0, none⟩)]] 133)
              have hC3 := ((hC.alloc (.map #[] 0)).alloc (.cells #[.map (some wr.heap.size)] 132)).alloc (.cells #[.func (.func 82) #[] #[.pointer (some ⟨W.heap.size + 1, 0, none⟩), .pointer (some ⟨wr.heap.size + 1, 0, none⟩), .pointer (some ⟨w.heap.size + 1 + 1, 0, none⟩), .pointer (some ⟨Bk, 0, none⟩), .pointer (some ⟨wr.heap.size + 1 + 1, 0, none⟩), .pointer (some ⟨w.heap.size + 1 + 1 + 1, 0, none⟩)]] 133)
              have hT3 := (Blk.new (wr.alloc (.map #[] 0)) 132 #[.map (some wr.heap.size)]).alloc (.cells #[.func (.func 82) #[] #[.pointer (some ⟨W.heap.size + 1, 0, none⟩), .pointer (some ⟨wr.heap.size + 1, 0, none⟩), .pointer (some ⟨w.heap.size + 1 + 1, 0, none⟩), .pointer (some ⟨Bk, 0, none⟩), .pointer (some ⟨wr.heap.size + 1 + 1, 0, none⟩), .pointer (some ⟨w.heap.size + 1 + 1 + 1, 0, none⟩)]] 133)
              have hP3 := Blk.new ((wr.alloc (.map #[] 0)).alloc (.cells #[.map (some wr.heap.size)] 132)) 133 #[.func (.func 82) #[] #[.pointer (some ⟨W.heap.size + 1, 0, none⟩), .pointer (some ⟨wr.heap.size + 1, 0, none⟩), .pointer (some ⟨w.heap.size + 1 + 1, 0, none⟩), .pointer (some ⟨Bk, 0, none⟩), .pointer (some ⟨wr.heap.size + 1 + 1, 0, none⟩), .pointer (some ⟨w.heap.size + 1 + 1 + 1, 0, none⟩)]]
              have hM3 := ((KMap.new (enc := plV) (ok := okV) wr).alloc (.cells #[.map (some wr.heap.size)] 132)).alloc (.cells #[.func (.func 82) #[] #[.pointer (some ⟨W.heap.size + 1, 0, none⟩), .pointer (some ⟨wr.heap.size + 1, 0, none⟩), .pointer (some ⟨w.heap.size + 1 + 1, 0, none⟩), .pointer (some ⟨Bk, 0, none⟩), .pointer (some ⟨wr.heap.size + 1 + 1, 0, none⟩), .pointer (some ⟨w.heap.size + 1 + 1 + 1, 0, none⟩)]] 133)
              have hL3 := ((hS.env.left.av (.map #[] 0)).alloc (.cells #[.map (some wr.heap.size)] 132)).alloc (.cells #[.func (.func 82) #[] #[.pointer (some ⟨W.heap.size + 1, 0, none⟩), .pointer (some ⟨wr.heap.size + 1, 0, none⟩), .pointer (some ⟨w.heap.size + 1 + 1, 0, none⟩), .pointer (some ⟨Bk, 0, none⟩), .pointer (some ⟨wr.heap.size + 1 + 1, 0, none⟩), .pointer (some ⟨w.heap.size + 1 + 1 + 1, 0, none⟩)]] 133)
              simp only [World.size_alloc] at hT3 hP3
              have hE3 : PEnv (((wr.alloc (.map #[] 0)).alloc (.cells #[.map (some wr.heap.size)] 132)).alloc (.cells #[.func (.func 82) #[] #[.pointer (some ⟨W.heap.size + 1, 0, none⟩), .pointer (some ⟨wr.heap.size + 1, 0, none⟩), .pointer (some ⟨w.heap.size + 1 + 1, 0, none⟩), .pointer (some ⟨Bk, 0, none⟩), .pointer (some ⟨wr.heap.size + 1 + 1, 0, none⟩), .pointer (some ⟨w.heap.size + 1 + 1 + 1, 0, none⟩)]] 133)) (W.heap.size + 1) (wr.heap.size + 1) (w.heap.size + 1 + 1) Bk (wr.heap.size + 1 + 1) (w.heap.size + 1 + 1 + 1) wr.heap.size (w.heap.size + 1) ((batch : Int), (T : Int)) c := ⟨hS3.z, hT3, hS3.env.l, hC3, hP3, hS3.env.a⟩
              have s0 := hS3.s.cell 0
              have s1 := hS3.s.cell 1
              have hmet : (metF fun _ => false) = fun _ : Pl => none := rfl
              rw [← hmet] at hM3
              have HS3 := Lib.hid hS3
              have HC3 := Lib.hid hC3
              have HM3 := Lib.hid hM3
              have HL3 := Lib.hid hL3
              have HE3 := Lib.hid hE3
              have HCo := Lib.hid hCo
              have hsw : w.heap.size ≤ wr.heap.size := hS.env.kc.size
              have hp0 := hP3.cell 0
              have hvT : vsP bs.length (ms.take T).length = vsP bs.length T := by rw [HTL.out]
              have HVT := Lib.hid hvT
              clear hS3 hC3 hT3 hP3 hM3 hL3 hE3 hC hS hCo hmet hvT
              go_upto_region 20 with (go_at_call 82; refine (push_any w.heap.size (vsP bs.length T) (capE (edP bs (ms.take T) l)) (W.heap.size + 1) (wr.heap.size + 1) (w.heap.size + 1 + 1) Bk (wr.heap.size + 1 + 1) (w.heap.size + 1 + 1 + 1) wr.heap.size (w.heap.size + 1) ((batch : Int), (T : Int)) c HVS.out (vsP_nodup _ _) (by omega) HCAP.out hsw _ (fun _ => false) srcP 1099511627776 R D' _ (Nat.le_refl _) HE3.out HL3.out HM3.out HS3.out.env.kc.size (by have := HCo.out.res; rw [HVT.out] at this; exact this) (vsP_src _ _) rfl rfl (by omega) (by omega)).mono ?_; rintro e w5 ⟨n, R1, M1, rfl, hPu, hL5, hK5, hN5⟩)
              have HPU := Lib.hid hPu
              have hn0 := hPu.n0
              have HL5 := Lib.hid hL5
              have HK5 := Lib.hid hK5
              have HS5 := Lib.hid (show MSt (vsP bs.length T) w w5 Ab Am nb cb nm cm W.heap.size D ((batch : Int), (T : Int)) R1 from HS3.out.turn hK5 (hL5.avC (HS3.out.env.l.kc hK5)))
              have HC5 := Lib.hid (HC3.out.kc hK5)
              clear hPu hL5 hK5 hN5 s0 s1 hp0
              by_cases hnz : n = 0
              · subst hnz
                have hR1 : R1 = R := (HPU.out.no rfl).1
                have HCo5 := Lib.hid (show Come bs (ms.take T) l batch R1 D' tot by rw [hR1]; exact HCo.out)
                have c0 := HC5.out.cell 0
                have HCQ := Lib.hid (show c = 1 → tot = MF from fun h1 => by
                  have h2 := HPU.out
                  rw [h1] at h2
                  have h3 : Push (vsP bs.length (ms.take T).length) (capE (edP bs (ms.take T) l)) R R1 (fun _ => false) M1 srcP (ndP batch ((ms.take T).length : Nat)) 1 1099511627776 0 := by rw [HTL.out]; exact h2
                  rw [HMF.out]
                  exact HCo.out.eq HNT.out HOL.out HND.out (by omega) h3)
                clear hR1 hmm hmf
                go_wp2_with fail
                refine ⟨⟨tot, c / 2, w5.heap.size, R1, D', rfl, rfl, Blk.new _ _ _, by omega, by omega, ht0, fun h => HCQ.out (by omega), HS5.out.alloc _, HCo5.out⟩, ?_⟩
                rw [ptrNat_eq (Blk.new w5 3 #[.int .i64 (c / 2)]), ptrNat_eq HC.out]
                omega
              · have hpos : 0 < n := by omega
                have h3 : Push (vsP bs.length (ms.take T).length) (capE (edP bs (ms.take T) l)) R R1 (fun _ => false) M1 srcP (ndP batch ((ms.take T).length : Nat)) c 1099511627776 n := by rw [HTL.out]; exact HPU.out
                have HCo5 := Lib.hid (HCo.out.push h3 hpos)
                have hle := HCo5.out.le HNT.out HOL.out HND.out (by omega)
                rw [← HMF.out] at hle
                clear h3 hmm hmf
                go_wp2_with fail
                go_roundw
                case rel => exact ⟨tot + n, R1, _, rfl, by omega, HC5.out, HS5.out, HCo5.out⟩
                case measure => simp [intOf]; omega
          · have hcz : c = 0 := by omega
            have HTE := Lib.hid (HCZ.out hcz)
            go_wp2_with fail
            refine ⟨by simp, .inl ⟨_, _, rfl, run_takeDeferred HS.out.d, ?_⟩⟩
            refine ⟨_, results_tmp rfl _ _ _, ?_, ?_⟩
            · exact ret_int (HTE.out.trans HMF.out)
            exact HS.out.env.kc.toBelow.trans (belowK_b (w := w) (Nat.le_refl _) wr D _ _ (by omega) HS.out.d rfl rfl)
end Go.Proofs.YtkphgdkjjklajaaGreatDoor

namespace Go.Proofs.YtkphgdkjjklajaaGreatDoor
open Go.RowKit Go.Shelf Go.Sort
attribute [local go_sem] Oper.semAt_some

/-- a list of a set's numbers, each once -/
def KeysOf (l ys : List Int) : Prop := ys.Nodup ∧ ∀ x, x ∈ ys ↔ x ∈ l
theorem keysOf_len {l ys : List Int} (h : ys.Nodup) (hs : ∀ x ∈ ys, x ∈ l) : ys.length ≤ l.length := by
  induction ys generalizing l with
  | nil => simp
  | cons a q ih =>
    rw [List.nodup_cons] at h
    have h1 := hs a (List.mem_cons_self ..)
    have h2 := ih (l := l.erase a) h.2 fun v hv => (List.mem_erase_of_ne fun e => h.1 (by rw [← e]; exact hv)).2 (hs v (List.mem_cons_of_mem _ hv))
    rw [List.length_erase_of_mem h1] at h2
    have := List.length_pos_of_mem h1
    simp only [List.length_cons]
    omega
theorem setF_some {l : List Int} {x : Int} {v : Value} : setF l x = some v → x ∈ l := fun h => by
  unfold setF at h
  by_cases hx : x ∈ l
  · exact hx
  · rw [if_neg hx] at h; cases h

set_option maxRecDepth 100000 in
set_option maxHeartbeats 2000000 in
theorem keys1_in (m L Bb B : Nat) (l : List Int) (J Jx : List Int → World → Prop) (W : World) (hJ : AbidesFrom W.heap.size J)
    (hY : ∀ pre x W1, J pre W1 → pre.length < l.length → YieldAt Fence.wide (m - 1) Tryz.prog L #[.int .i64 x] W1 fun e W' =>
      (e = .returned (.bool true) ∧ J (pre ++ [x]) W' ∧ KeepsWalks W1 W') ∨ (e = .returned (.bool false) ∧ Jx (pre ++ [x]) W'))
    (hBb : Blk W Bb 85 #[.map (some B)]) (hM : KMap (Value.int .i64) okI W B (setF l)) (h0 : J [] W) :
    CallsIn Fence.wide m Tryz.prog 65 #[.func (.yield L) #[] #[], .pointer (some ⟨Bb, 0, none⟩)] W fun e W' => (∃ v, e = .returned v) ∧
      ((∃ ys, KeysOf l ys ∧ J ys W') ∨ (∃ pre, True ∧ Jx pre W')) := by
  have c0 := hBb.cell 0
  obtain ⟨W1, hrun, ⟨cnt0, hit0⟩, o1, hW1⟩ := run_rangeK (P := Tryz.prog) (enc := Value.int .i64) (ok := okI) Tryz.underlying85 (w := W) (b := some B) (m := setF l) hM
  have hlB := hM.lt
  have HJ := Lib.hid hJ
  have HY := Lib.hid hY
  have HM := Lib.hid hM
  have H0 := Lib.hid h0
  have HIT := Lib.hid hit0
  have HW1 := Lib.hid hW1
  clear hJ hY hM h0 hit0 hBb hW1
  refine callsIn_of_wp Tryz.func65 rfl trivial ?_ rfl
  simp only [Tryz.ntmps65, List.size_toArray, List.length_cons, List.length_nil, Nat.reduceAdd, Nat.reduceSub, Array.replicate_succ, Array.replicate_zero, List.push_toArray, List.append_toArray, List.nil_append, List.cons_append]
  gi_wp2
  gi_loopw [3] (fun _ wr => ∃ (pre : List Int) (left : Int → Prop) (cnt : Nat), J pre wr ∧ KIt (Value.int .i64) okI wr W.heap.size (some B) (setF l) left cnt ∧ pre.Nodup ∧ (∀ x, x ∈ pre ↔ x ∈ l ∧ ¬ left x)) (fun _ wr => itLeft wr W.heap.size)
  case atStart =>
    refine ⟨[], _, cnt0, by rw [HW1.out]; exact HJ.out _ _ _ none H0.out (World.grownBy_alloc W o1 none) (fun _ e => by cases e), HIT.out, by simp, fun x => ?_⟩
    simp only [List.not_mem_nil, false_iff, not_and, Decidable.not_not]
    intro hx
    show (setF l x).isSome = true
    unfold setF; rw [if_pos hx]; rfl
  case round =>
    obtain ⟨pre, left, cnt, hJp, hit, hnd, hpre⟩ := hrel
    have HJP := Lib.hid hJp
    have HI := Lib.hid hit
    have HND := Lib.hid hnd
    have HPRE := Lib.hid hpre
    clear hJp hnd hpre
    rcases hit.next2 kkI 0 with ⟨hl, hrun2⟩ | ⟨q, v, w3, cnt', hq, hcq, hlq, hrun2, hit3, hcnt, hg3, hs3, hent⟩
    · have HL := Lib.hid hl
      clear hit hl
      gi_wp2
      go_end0
      exact ⟨⟨_, rfl⟩, .inl ⟨pre, ⟨HND.out, fun x => by rw [HPRE.out x]; exact ⟨fun h => h.1, fun h => ⟨h, HL.out x⟩⟩⟩, HJP.out⟩⟩
    · have hql := setF_some hcq
      have hqp : q ∉ pre := fun h => ((HPRE.out q).1 h).2 hlq
      have hnd2 : (pre ++ [q]).Nodup := by
        rw [List.nodup_append]
        exact ⟨HND.out, by simp, fun a ha b hb => by simp at hb; subst hb; exact fun e => hqp (e ▸ ha)⟩
      have hlen : pre.length < l.length := by
        have := keysOf_len hnd2 (l := l) fun x hx => by
          rcases List.mem_append.1 hx with h | h
          · exact ((HPRE.out x).1 h).1
          · simp at h; subst h; exact hql
        simp at this
        omega
      have hJ3 := HJ.out _ _ _ _ HJP.out hg3 (fun r e => by cases e; obtain ⟨b', s', sn, c', h'⟩ := hit.isIt; exact ⟨Nat.le_refl _, _, h', rfl⟩)
      obtain ⟨fn, tmps, assign, body, hy, hR⟩ := HY.out pre q w3 hJ3 hlen
      have HR := Lib.hid hR
      have HIT3 := Lib.hid hit3
      have HN2 := Lib.hid hnd2
      have HCN := Lib.hid hit.cnt_eq
      have HQ := Lib.hid hql
      clear hR hit3 hnd2 hJ3 hit hqp hcq hlq hg3
      gi_wp2
      refine ⟨fun h => by simp [Fence.wide] at h, HR.out.mono ?_⟩
      rintro e W4 (⟨rfl, hJ4, hk4⟩ | ⟨rfl, hJx4⟩)
      · have hit4 : KIt (Value.int .i64) okI W4 W.heap.size (some B) (setF l) (fun x => left x ∧ x ≠ q) cnt' := by
          obtain ⟨b', s', sn, c', h'⟩ := HIT3.out.isIt
          refine HIT3.out.keep (by rw [hk4.same _ _ h' rfl, h']) fun bm e => ?_
          injection e with e
          subst e
          rcases HIT3.out with ⟨h0, _⟩ | ⟨bm', es, clock, since, seen, c0, h0, h1, _⟩
          · cases h0
          · cases h0
            rw [hk4.same _ _ h1 rfl, h1]
        have HIT4 := Lib.hid hit4
        have HC4 := Lib.hid hit4.cnt_eq
        have HJ4 := Lib.hid hJ4
        clear hit4 hJ4 hk4 hy HR hrun2 hent
        gi_wp2
        go_roundw
        case rel =>
          refine ⟨pre ++ [q], _, cnt', HJ4.out, HIT4.out, HN2.out, fun x => ?_⟩
          have := HPRE.out x
          have hq := HQ.out
          simp only [List.mem_append, List.mem_singleton, this]
          constructor
          · rintro (⟨h1, h2⟩ | rfl)
            · exact ⟨h1, fun h => h2 h.1⟩
            · exact ⟨hq, fun h => h.2 rfl⟩
          · rintro ⟨h1, h2⟩
            by_cases e : x = q
            · exact .inr e
            · exact .inl ⟨h1, fun h => h2 ⟨h, e⟩⟩
        case measure => rw [HC4.out, HCN.out]; exact hcnt
      · gi_wp2
        refine bodyPost_ret (results_none rfl _ _ _) rfl ?_
        exact ⟨⟨_, rfl⟩, .inr ⟨_, trivial, hJx4⟩⟩

theorem keys1_stops (m Bb B : Nat) (l : List Int) (w : World) (hBb : Blk w Bb 85 #[.map (some B)]) (hM : KMap (Value.int .i64) okI w B (setF l)) :
    SeqStopsK Fence.wide m Tryz.prog 65 #[.pointer (some ⟨Bb, 0, none⟩)] (fun x : Int => #[Value.int .i64 x]) KeepsWalks (KeysOf l) (fun _ => True) l.length w := fun L J Jx W hW hJ _ hY h0 =>
  keys1_in m L Bb B l J Jx W hJ hY (hBb.below hW hBb.lt) (hM.keep (hW.block B hM.lt)) h0

theorem keys_any (B : Nat) (w : World) : Calls Tryz.prog 43 #[.map (some B)] w fun e w' => e = .returned (.func (.func 65) #[] #[.pointer (some ⟨w.heap.size, 0, none⟩)]) ∧ w' = w.alloc (.cells #[.map (some B)] 85) := by
  go_enter Tryz.func43, Tryz.ntmps43
  go_wp2
  go_ret
  exact ⟨rfl, rfl⟩

set_option maxRecDepth 100000 in
set_option maxHeartbeats 2000000 in
theorem appendSeqK_any (Bb B : Nat) (l : List Int) (hn : l.length ≤ 1000000) (w : World) (hBb : Blk w Bb 85 #[.map (some B)]) (hM : KMap (Value.int .i64) okI w B (setF l)) :
    Calls Tryz.prog 85 #[.slice none 0 0, .func (.func 65) #[] #[.pointer (some ⟨Bb, 0, none⟩)]] w fun e w' => ∃ v ys, KeysOf l ys ∧ e = .returned v ∧ w'.ownsRow w.heap.size 3 1 v ys.length (ys.map (Value.int .i64)) ∧ Below w.heap.size w w' := by
  obtain ⟨i0, hi, hz0, hz1, hz2⟩ := info_parts info_int
  refine (callsIn_wide (n := 9)).1 ?_
  refine callsIn_of_wp_marks Tryz.func85 rfl trivial ?_ rfl
  simp only [Tryz.ntmps85, List.size_toArray, List.length_cons, List.length_nil, Nat.reduceAdd, Nat.reduceSub, Array.replicate_succ, Array.replicate_zero, List.push_toArray, List.append_toArray, List.nil_append, List.cons_append]
  gi_wp2
  have bO : Boxed (w.alloc (.cells #[.slice none 0 0] 22)) w.heap.size 22 (.slice none 0 0) := Boxed.new w 22 (.slice none 0 0)
  have hB0 : Below w.heap.size w (w.alloc (.cells #[.slice none 0 0] 22)) := (Below.refl _ w).alloc (Nat.le_refl _) _
  refine wpIn_rangeFunc_ownG rfl (by omega) (gf := 65) (lb := #[.pointer (some ⟨Bb, 0, none⟩)]) rfl trivial (enters_of Tryz.func65 (by kernel_rfl) rfl)
    (keys1_stops _ Bb B l _ (hBb.alloc _) (hM.alloc _)) walksK_t walksK_b (Below.refl _ _) (fun _ => rfl)
    (fun pre W => (∃ v, Boxed W w.heap.size 22 v ∧ W.ownsRow w.heap.size 3 1 v pre.length (pre.map (Value.int .i64)) ∧ True) ∧ Below w.heap.size w W)
    (fun _ _ _ => False)
    (OwnFrom.and (Own.from (holdsRow_own w.heap.size w.heap.size 22 3 1 (fun pre : List Int => pre.length) (fun pre => pre.map (Value.int .i64)) (fun _ _ => True)) _) (ownFrom_below (Nat.le_refl _) (by simp)))
    (fun _ _ _ _ _ hs _ _ => hs)
    ⟨⟨_, bO, World.ownsRow_nil _ _ _ _, trivial⟩, hB0⟩
    (fun x => { tmps := #[.slice none 0 0, .func (.func 65) #[] #[.pointer (some ⟨Bb, 0, none⟩)], .pointer (some ⟨w.heap.size, 0, none⟩), undef, .slice none 0 0, .int .i64 x, .func (.func 65) #[] #[.pointer (some ⟨Bb, 0, none⟩)], .int .i64 x, undef, undef, undef, undef, undef], defers := [] }) ?assign ?body ?done ?stop
  case assign =>
    intro L x W K hK
    gi_wp2
    exact hK
  case body =>
    rintro L pre x W ⟨⟨v, hv, hrow, _⟩, hB⟩ hlt
    have hc := hv.cell
    gi_wp2_with (gi_at_builtin; refine wpListIn_append_own _ rfl _ _ 22 rfl w.heap.size 3 i0 (.int .i64 0) 1 8 Tryz.underlying22 hi hz0 hz1 hz2 rfl (by decide) _ _ _ rfl (hrow.alloc _) ⟨W.heap.size, 0, none⟩ 1 1 [.int .i64 x] rfl rfl (cell_one_new _ _ _) (by simp [Value.oneCell']) (by have : maxLen = 9223372036854775807 := rfl; omega) (by omega) (by have := hB.size; simp; omega) ?_; intro v' w1 hown' hgrow _; obtain ⟨g', cap', rfl⟩ := ownsRow_succ hown'; obtain ⟨hv1, hv2, hr2, hk2, hb2⟩ := hv.appended (by decide) hrow hB.size (Nat.le_refl _) hown' hgrow; have hc1 := hv1.cell; have hf1 := hv1.frozen)
    exact ⟨hk2.from _, ⟨hk2.size, fun k o hk ho => hk2.same k o hk (Obj.not_cells_of_walk ho)⟩, ⟨_, hv2, by simpa using hr2, trivial⟩, hB.trans hb2⟩
  case done =>
    rintro D ys W hD hys ⟨⟨v, hv, hrow, _⟩, hB⟩ hK
    have hc := hv.cell
    gi_wp2
    refine ⟨by simp, .inl ⟨_, _, rfl, run_takeDeferred hK, ?_⟩⟩
    exact ⟨_, results_tmp rfl _ _ _, v, ys, hys, rfl, ownsRow_putObj hrow _ hK rfl, hB.trans (belowK_b (w := w) (Nat.le_refl _) W D _ _ (by simp at hD; omega) hK rfl rfl)⟩
  case stop =>
    rintro D c pre W _ _ h _
    exact h.elim

set_option maxHeartbeats 1000000 in
theorem collectK_any (Bb B : Nat) (l : List Int) (hn : l.length ≤ 1000000) (w : World) (hBb : Blk w Bb 85 #[.map (some B)]) (hM : KMap (Value.int .i64) okI w B (setF l)) :
    Calls Tryz.prog 63 #[.func (.func 65) #[] #[.pointer (some ⟨Bb, 0, none⟩)]] w fun e w' => ∃ v ys, KeysOf l ys ∧ e = .returned v ∧ w'.ownsRow w.heap.size 3 1 v ys.length (ys.map (Value.int .i64)) ∧ Below w.heap.size w w' := by
  go_enter Tryz.func63, Tryz.ntmps63
  go_wp2_with fail
  refine (appendSeqK_any Bb B l hn _ hBb hM).mono ?_
  rintro e w' ⟨v, ys, hys, rfl, hrow, hb⟩
  go_wp2_with fail
  go_ret
  exact ⟨v, ys, hys, rfl, hrow, hb⟩

/-- sorted -/
def srt (l : List Int) : List Int := l.mergeSort (fun x y => decide (x ≤ y))
theorem srt_perm (l : List Int) : (srt l).Perm l := List.mergeSort_perm _ _
theorem srt_len (l : List Int) : (srt l).length = l.length := (srt_perm l).length_eq

theorem srt_up {l : List Int} (h : l.Nodup) : (srt l).Pairwise (· < ·) := by
  have h1 : (srt l).Pairwise (fun x y => decide (x ≤ y) = true) := List.pairwise_mergeSort (fun a b c h1 h2 => by simp at h1 h2 ⊢; omega) (fun a b => by simp; omega) l
  have h2 : (srt l).Nodup := (srt_perm l).nodup_iff.2 h
  rw [List.nodup_iff_pairwise_ne] at h2
  exact h1.imp₂ (fun a b h3 h4 => by simp at h3; omega) h2

set_option maxRecDepth 100000 in
set_option maxHeartbeats 2000000 in
/-- a row of one's own is sorted -/
theorem sortI_any (base g cap : Nat) (l : List Int) (w0 w : World) (hn : l.length ≤ 1000000) (hrow : w.ownsRow base 3 1 (.slice (some ⟨g, 0, none⟩) l.length cap) l.length (l.map (Value.int .i64))) (hB : Below w0.heap.size w0 w) (hb : w0.heap.size ≤ base) :
    Calls Tryz.prog 64 #[.slice (some ⟨g, 0, none⟩) l.length cap] w fun e w' => e = .returned (.tuple #[]) ∧ w'.ownsRow base 3 1 (.slice (some ⟨g, 0, none⟩) l.length cap) l.length ((srt l).map (Value.int .i64)) ∧ Below w0.heap.size w0 w' := by
  rcases hrow.2 with ⟨hv, hz⟩ | ⟨gb, cap', cur, hv, hbase, hgb, r1, r2, r3, r4⟩
  · injection hv with hv; cases hv
  · injection hv with h1 h2 h3
    injection h1 with h1
    injection h1 with h1
    subst h1
    subst h3
    have hH : Holds encZ w g 0 l.toArray := holds_of_block_i hgb (by simpa [encZ] using r4)
    have hgl : g < w.heap.size := (Array.getElem?_eq_some_iff.1 hgb).1
    refine (AnyM.slices_Sort_int Tryz.sortInts g 0 cap l w hH hgl (by omega)).mono ?_
    rintro e w2 ⟨rfl, k, os, rfl⟩
    exact ⟨rfl, ownsRow_sorted_i (by simp) hbase hgb r1 r2 r3, hB.grown (grownBy_sorted_i _) hB.size (fun j hj => by cases hj; omega)⟩
end Go.Proofs.YtkphgdkjjklajaaGreatDoor

namespace Go.Proofs.YtkphgdkjjklajaaGreatDoor
open Go.RowKit Go.Shelf Go.Sort

theorem zeroB' (w : World) : (zeroValue 4).run Tryz.prog w = .ok (.bool false) w := by kernel_rfl
/-- a number that can be -/
def clI (x : Int) : Int := if okI x then x else 0
theorem clI_ok (x : Int) : okI (clI x) := by
  unfold clI
  by_cases h : okI x
  · rw [if_pos h]; exact h
  · rw [if_neg h]; decide
theorem clI_eq {x : Int} (h : okI x) : clI x = x := if_pos h
def encC (x : Int) : Value := .int .i64 (clI x)
theorem putC_eq (d : Array Int) (cur : Array Value) (h : ∀ j, j < d.size → okI d[j]!) : putCells encC 0 d cur = putCells encZ 0 d cur := by
  unfold putCells
  apply Array.ext_getElem?
  intro k
  rw [Array.getElem?_mapIdx, Array.getElem?_mapIdx]
  congr 1
  funext x
  by_cases hk : 0 ≤ k ∧ k < 0 + d.size
  · rw [if_pos hk, if_pos hk]
    unfold encC
    rw [clI_eq (h _ (by omega))]
    try rfl
  · rw [if_neg hk, if_neg hk]

theorem without1_any (Bb B : Nat) (gone : List Int) (x : Int) (hx : okI x) (w : World) (hBb : w.cell? ⟨Bb, 0, none⟩ = some (.map (some B))) (hM : KMap (Value.int .i64) okI w B (setF gone)) :
    Calls Tryz.prog 101 #[.int .i64 x, .pointer (some ⟨Bb, 0, none⟩)] w fun e w' => e = .returned (.bool (decide (x ∈ gone))) ∧ ∃ q, w' = w.drewN q := by
  have lk : (Instr.lookup 85 (.map (some B)) (.int .i64 x) false).run Tryz.prog w = .ok (.bool (decide (x ∈ gone))) w := by
    have := run_lookupK kkI Tryz.underlying85 zeroB' hM x hx
    rw [this]
    unfold setF
    by_cases h : x ∈ gone <;> simp [h]
  go_enter Tryz.func101, Tryz.ntmps101
  go_wp2
  go_ret
  exact ⟨rfl, 0, rfl⟩

theorem own_take {w : World} {base g n k cap : Nat} {l : List Value} (h : w.ownsRow base 3 1 (.slice (some ⟨g, 0, none⟩) n cap) n l) (hk : k ≤ n) : w.ownsRow base 3 1 (.slice (some ⟨g, 0, none⟩) k cap) k (l.take k) := by
  obtain ⟨h0, h⟩ := h
  rcases h with ⟨hv, _⟩ | ⟨g', cap', cur, hv, h1, h2, h3, h4, h5, h6⟩
  · injection hv with hv; cases hv
  · injection hv with e1 e2 e3
    injection e1 with e1
    injection e1 with e1
    subst e1
    subst e3
    refine ⟨by simp; omega, .inr ⟨g, cap, cur, rfl, h1, h2, by omega, h4, h5, ?_⟩⟩
    rw [← h6, List.take_take, Nat.mul_one, Nat.mul_one, Nat.min_eq_left hk]

set_option maxRecDepth 100000 in
set_option maxHeartbeats 1000000 in
theorem without_any (b n c b2 n2 c2 : Nat) (A A2 : Option Addr) (l gone : List Int) (hn : n ≤ 100000) (hn2 : n2 ≤ 100000) (hn0 : 0 < n) (hok : ∀ x ∈ l, okI x) (hok2 : ∀ x ∈ gone, okI x) (w : World) (hl : Sl encI 1 w b A n l) (hl2 : Sl encI 1 w b2 A2 n2 gone) :
    Calls Tryz.prog 83 #[.slice A n c, .slice A2 n2 c2] w fun e w' => ∃ g k cap, e = .returned (.slice (some ⟨g, 0, none⟩) k cap) ∧ w'.ownsRow w.heap.size 3 1 (.slice (some ⟨g, 0, none⟩) k cap) k ((srt (l.filter fun x => !decide (x ∈ gone))).map (Value.int .i64)) ∧ Below w.heap.size w w' := by
  have hmf : ∀ (fn : Fn) (first cap : Array Value) (w : World), (Instr.makeFunc fn first cap).run Tryz.prog w = .ok (.func fn first cap) w := fun _ _ _ _ => rfl
  have HL := Lib.hid hl
  have HL2 := Lib.hid hl2
  have HOK := Lib.hid hok
  have HOK2 := Lib.hid hok2
  have HLEN := Lib.hid hl.len
  clear hl hl2 hok hok2
  go_enter Tryz.func83, Tryz.ntmps83
  go_upto_region 2 with (go_at_call 44; refine (set_any b2 n2 c2 A2 gone (by omega) HOK2.out _ HL2.out).mono ?_; rintro e w1 ⟨B, rfl, hB1, hM1, hb1⟩)
  have hz1 := hb1.size
  have hMl := hM1.lt
  have HB1 := Lib.hid hb1
  have HM1 := Lib.hid hM1
  have hl3 := (HL.out.old hb1).alloc (.cells #[.map (some B)] 85)
  have hbx := Blk.new w1 85 #[.map (some B)]
  have HL3 := Lib.hid hl3
  have HBX := Lib.hid hbx
  clear hb1 hM1 hl3 hbx
  go_wp2_with (go_at_call 68; refine (cloneI_any b n c A l (by omega) hn0 _ HL3.out).mono ?_; rintro e w2 ⟨g, c', rfl, hown, hb2⟩)
  have hz2 := hb2.size
  rw [World.size_alloc] at hz2
  have hbx2 := HBX.out.below hb2 HBX.out.lt
  have hM2 : KMap (Value.int .i64) okI w2 B (setF gone) := (HM1.out.alloc _).keep (hb2.block B (by simp; omega))
  obtain ⟨h0, hrow⟩ := hown
  rcases hrow with ⟨hv, _⟩ | ⟨g', cap', cur, hv, hbase, hgb, r1, r2, r3, r4⟩
  · injection hv with hv; cases hv
  injection hv with e1 e2 e3
  injection e1 with e1
  injection e1 with e1
  subst e1
  subst e3
  rw [World.size_alloc] at hbase
  have hflat : l.flatMap encI = l.map (Value.int .i64) := by rw [List.map_eq_flatMap]; rfl
  rw [hflat, Nat.mul_one] at r4
  have hgl : g < w2.heap.size := (Array.getElem?_eq_some_iff.1 hgb).1
  have hlen := HLEN.out
  have hHz : Holds encZ w2 g 0 l.toArray := holds_of_block_i hgb (by rw [← hlen]; simpa [encZ] using r4)
  have hHc : Holds encC w2 g 0 l.toArray := fun j hj => by
    have h1 := hHz j hj
    have h2 : okI l.toArray[j]! := HOK.out _ (by rw [getElem!_pos l.toArray j hj]; simp)
    unfold encC
    rw [clI_eq h2]; exact h1
  have hp : PredAt Tryz.prog 101 #[.pointer (some ⟨w1.heap.size, 0, none⟩)] encC (fun x => decide (clI x ∈ gone)) w2 := fun W x hb => without1_any w1.heap.size B gone (clI x) (clI_ok x) W ((hbx2.below hb hbx2.lt).cell 0) (hM2.keep (hb.block B hM2.lt))
  have hpo : PredOver Tryz.prog 101 #[.pointer (some ⟨w1.heap.size, 0, none⟩)] encC (fun x => decide (clI x ∈ gone)) g 0 l.toArray.size w2 := fun q os dk x _ => by
    refine without1_any w1.heap.size B gone (clI x) (clI_ok x) _ ?_ (hM2.keep ?_)
    · unfold sortWorld
      rw [cell?_grow _ _ _ (by show w1.heap.size < (putRow _ _ _ _ _).heap.size; rw [size_putRow]; exact hbx2.lt), cell?_putRow_other _ _ g 0 _ _ (Or.inl (by show w1.heap.size ≠ g; omega))]
      exact hbx2.cell 0
    · unfold sortWorld
      rw [heap_grow_old _ _ (by rw [size_putRow]; exact hM2.lt)]
      have : g ≠ B := by omega
      simp [putRow, mapBlock, Sort.ahead, Array.getElem?_modify, this]
  have hcon := AnyE.slices_DeleteFunc Tryz.delFunc encC (fun _ => rfl) (fun x => decide (clI x ∈ gone)) 101 #[.pointer (some ⟨w1.heap.size, 0, none⟩)] (enters_of Tryz.func101 (by kernel_rfl) rfl) 0 (fun w => by kernel_rfl) g 0 c' l.toArray w2 hp hpo hHc (by simp; omega) (by simp; omega)
  change Calls Tryz.prog 100 _ _ _ at hcon
  have hfil : (l.toArray.toList.filter fun x => !decide (clI x ∈ gone)) = l.filter fun x => !decide (x ∈ gone) := by
    show l.filter _ = _
    exact List.filter_congr fun x hx => by rw [clI_eq (HOK.out x hx)]
  rw [hfil] at hcon
  obtain ⟨r, hr⟩ : ∃ r, r = l.filter fun x => !decide (x ∈ gone) := ⟨_, rfl⟩
  rw [← hr] at hcon
  have hrl : r.length ≤ n := by rw [hr, hlen]; exact List.length_filter_le _ _
  have hrok : ∀ x ∈ r, okI x := fun x hx => HOK.out x (by rw [hr] at hx; exact (List.mem_filter.1 hx).1)
  have hsz : l.toArray.size = n := by simp [hlen]
  rw [hsz] at hcon
  have HCON := Lib.hid hcon
  have HR := Lib.hid hr
  have HGB := Lib.hid hgb
  have HB2 := Lib.hid hb2
  have hn2 : n ≤ c' := r1
  clear hcon hr hp hpo hHz hHc hfil hflat hbx2 hM2 hgb hb2 hsz hlen
  go_upto_region 3 with (go_at_call 100; refine HCON.out.mono ?_; rintro e w3 ⟨rfl, q, rfl⟩)
  have hcells : putCells encC 0 (r ++ List.replicate (n - r.length) 0).toArray cur = putCells encZ 0 (r ++ List.replicate (n - r.length) 0).toArray cur := putC_eq _ _ fun j hj => by
    rw [getElem!_pos _ j hj]
    have hm : ((r ++ List.replicate (n - r.length) 0).toArray[j]) ∈ (r ++ List.replicate (n - r.length) (0 : Int)) := by simp
    rcases List.mem_append.1 hm with h | h
    · exact hrok _ h
    · rw [(List.mem_replicate.1 h).2]; decide
  have hls : (r ++ List.replicate (n - r.length) (0 : Int)).length = n := by simp; omega
  have HE3 : putRow encC (Sort.ahead w2 q) g 0 (r ++ List.replicate (n - r.length) 0).toArray = grow (putRow encZ (Sort.ahead w2 q) g 0 (r ++ List.replicate (n - r.length) 0).toArray) #[] := by
    rw [grow_empty]
    unfold putRow mapBlock
    congr 1
    apply Array.ext_getElem?
    intro k
    rw [Array.getElem?_modify, Array.getElem?_modify]
    split
    · rename_i hk
      subst hk
      show Option.map _ w2.heap[g]? = Option.map _ w2.heap[g]?
      rw [HGB.out]
      show some (Obj.cells (putCells encC 0 (r ++ List.replicate (n - r.length) 0).toArray cur) _ _) = some (Obj.cells (putCells encZ 0 (r ++ List.replicate (n - r.length) 0).toArray cur) _ _)
      rw [hcells]
    · rfl
  have hown3 : (grow (putRow encZ (Sort.ahead w2 q) g 0 (r ++ List.replicate (n - r.length) 0).toArray) #[]).ownsRow (w1.heap.size + 1) 3 1 (.slice (some ⟨g, 0, none⟩) n c') n ((r ++ List.replicate (n - r.length) 0).map encZ) := by
    have := ownsRow_sorted_i (n := q) (os := #[]) (ss := l) (ts := r ++ List.replicate (n - r.length) 0) (base := w1.heap.size + 1) (e := 3) (cap := c') (by rw [hls, HLEN.out]) hbase HGB.out (by rw [← HLEN.out]; exact r1) r2 r3
    rw [← HLEN.out] at this
    exact this
  have hown4 := own_take hown3 hrl
  rw [← List.map_take, List.take_left'] at hown4
  rotate_left 1
  · rfl
  have hB3 : Below w.heap.size w (putRow encC (Sort.ahead w2 q) g 0 (r ++ List.replicate (n - r.length) 0).toArray) := by
    rw [HE3]
    exact (((HB1.out.alloc hz1 _).trans (HB2.out.mono (by simp; omega)))).grown (grownBy_sorted_i _) (by omega) (fun j hj => by cases hj; omega)
  rw [← HE3] at hown4
  have HO4 := Lib.hid hown4
  have HB3 := Lib.hid hB3
  clear hown3 hown4 hcells hB3 HE3
  go_wp2_with (go_at_call 64; refine (sortI_any (w1.heap.size + 1) g c' r w _ (by omega) HO4.out HB3.out (by omega)).mono ?_; rintro e w4 ⟨rfl, hown5, hb5⟩)
  go_ret
  exact ⟨g, r.length, c', rfl, by
    rw [← HR.out]
    have h6 := ownsRow_base hown5 (base' := w.heap.size) (by omega)
    exact h6, hb5⟩

theorem srt_eq {l k : List Int} (hl : l.Nodup) (hk : k.Pairwise (· < ·)) (h : ∀ x, x ∈ l ↔ x ∈ k) : srt l = k :=
  sorted_ext (srt_up hl) hk fun x => by rw [(srt_perm l).mem_iff]; exact h x
theorem ok_rg {n : Nat} (hn : n ≤ 1000) : ∀ x ∈ rg n, okI x := fun x hx => by
  obtain ⟨h0, h1⟩ := mem_rg.1 hx
  exact WalkArith.wf_i64 (by omega)

set_option maxRecDepth 100000 in
set_option maxHeartbeats 1000000 in
theorem but_any (Ab Am Ao : Option Addr) (nb cb nm cm no co b3 : Nat) (l : List Int) (w : World) (hnb : nb ≤ 8) (hnb0 : 0 < nb) (hno : no ≤ 100000) (hl : ∀ o ∈ l, 0 ≤ o ∧ o < nb) (hO : Sl encI 1 w b3 Ao no l) :
    Calls Tryz.prog 62 #[netV Ab Am nb cb nm cm, .slice Ao no co] w fun e w' => ∃ g k cap, e = .returned (.slice (some ⟨g, 0, none⟩) k cap) ∧ w'.ownsRow w.heap.size 3 1 (.slice (some ⟨g, 0, none⟩) k cap) k ((othersT nb l).map (Value.int .i64)) ∧ Below w.heap.size w w' := by
  have hbn := Blk.new w 25 #[.slice Ab nb cb, .slice Am nm cm]
  have c0 := hbn.cell 0
  have hok2 : ∀ x ∈ l, okI x := fun x hx => by obtain ⟨h0, h1⟩ := hl x hx; exact WalkArith.wf_i64 (by omega)
  have HL := Lib.hid (hO.alloc (.cells #[.slice Ab nb cb, .slice Am nm cm] 25))
  clear hO hbn
  go_enter Tryz.func62, Tryz.ntmps62
  go_wp2_with fail
  refine (numbers_any nb (by omega) _).mono ?_
  rintro e w1 ⟨A1, c1, rfl, hown1, hb1⟩
  rw [World.size_alloc] at hown1
  obtain ⟨g1, hg1, hsl1⟩ := Sl.of_own (enc := encI) encI_len (l := rg nb) (by simp [rg]) hown1
  have HB1 := Lib.hid hb1
  have HS1 := Lib.hid hsl1
  have hz1 := hb1.size
  clear hown1 hsl1 hb1 c0
  go_wp2_with fail
  refine (set_any g1 nb c1 A1 (rg nb) (by omega) (ok_rg (by omega)) _ HS1.out).mono ?_
  rintro e w2 ⟨B, rfl, hB2, hM2, hb2⟩
  have HB2 := Lib.hid hb2
  have HM2 := Lib.hid hM2
  have hz2 := hb2.size
  clear hM2 hb2
  go_wp2_with fail
  refine (keys_any B _).mono ?_
  rintro e w3 ⟨rfl, rfl⟩
  go_wp2_with fail
  refine (collectK_any w2.heap.size B (rg nb) (by rw [rg_length]; omega) _ (Blk.new _ _ _) (HM2.out.alloc _)).mono ?_
  rintro e w4 ⟨v4, ys, hys, rfl, hown4, hb4⟩
  have hz4 := hb4.size
  rw [World.size_alloc] at hz4 hown4
  have hyl : ys.length = nb := by
    have h1 := keysOf_len hys.1 (fun x hx => (hys.2 x).1 hx)
    have h2 := keysOf_len (rg_nodup nb) (fun x hx => (hys.2 x).2 hx)
    rw [rg_length] at h1 h2
    omega
  obtain ⟨g4, cap4, rfl⟩ : ∃ g4 cap4, v4 = .slice (some ⟨g4, 0, none⟩) ys.length cap4 := by
    rcases hown4.2 with ⟨_, h0⟩ | ⟨g, cap, cur, hv, _⟩
    · omega
    · exact ⟨g, cap, hv⟩
  have hsl4 : ∃ b4, w2.heap.size + 1 ≤ b4 ∧ Sl encI 1 w4 b4 (some ⟨g4, 0, none⟩) ys.length ys := Sl.of_own encI_len rfl (by have e : ys.flatMap encI = ys.map (Value.int .i64) := by { rw [List.map_eq_flatMap]; rfl }
                                                                                                                            rw [e]; exact hown4)
  obtain ⟨b4, hb4', hsl4⟩ := hsl4
  have hBW : Below w.heap.size w w4 := (((((Below.refl _ w).alloc (Nat.le_refl _) _).trans (HB1.out.mono (by simp))).trans (HB2.out.mono (by simp at hz1; omega))).alloc (by simp at hz1; omega) _).trans (hb4.mono (by simp at hz1 ⊢; omega))
  have hl4 : Sl encI 1 w4 b3 Ao no l := by
    have h1 := (HL.out.old HB1.out).old HB2.out
    exact (h1.alloc _).old hb4
  have HYS := Lib.hid hys
  have HS4 := Lib.hid hsl4
  have HL4 := Lib.hid hl4
  have HBW := Lib.hid hBW
  have HYL := Lib.hid hyl
  have hyn : ys.length ≤ 100000 := by omega
  have hyn0 : 0 < ys.length := by omega
  have hokys : ∀ x ∈ ys, okI x := fun x hx => ok_rg (by omega) x ((hys.2 x).1 hx)
  clear hys hsl4 hl4 hBW hyl hown4 hb4
  go_wp2_with fail
  refine (without_any b4 _ cap4 b3 no co _ Ao ys l hyn hno hyn0 hokys hok2 _ HS4.out HL4.out).mono ?_
  rintro e w5 ⟨g, k, cap, rfl, hown5, hb5⟩
  go_wp2_with fail
  go_ret
  refine ⟨g, k, cap, rfl, ?_, HBW.out.trans (hb5.mono HBW.out.size)⟩
  have e : srt (ys.filter fun x => !decide (x ∈ l)) = othersT nb l := srt_eq (HYS.out.1.filter _) (others_in nb l).up fun x => by
    rw [List.mem_filter, mem_others, HYS.out.2 x, mem_rg]; simp
  rw [e] at hown5
  exact ownsRow_base hown5 HBW.out.size
end Go.Proofs.YtkphgdkjjklajaaGreatDoor

namespace Go.Proofs.YtkphgdkjjklajaaGreatDoor
open Go.RowKit

/-- the origin before -/
def prevO (l : List Int) (k : Nat) : Int := if k = 0 then -1 else l.getD (k - 1) 0
theorem chkOs_step (n : Nat) (l : List Int) (k : Nat) (hk : k < l.length) (h1 : 0 ≤ l[k] ∧ l[k] ≤ (n : Int) - 1) (h2 : prevO l k < l[k]) : chkOs n (prevO l k) (l.drop k) = chkOs n (prevO l (k + 1)) (l.drop (k + 1)) := by
  rw [← List.getElem_cons_drop hk]
  simp only [chkOs]
  have hr : inR n l[k] = true := inR_iff.2 (by omega)
  rw [if_neg (by rw [hr]; decide), if_neg (by omega)]
  have e : prevO l (k + 1) = l[k] := by unfold prevO; rw [if_neg (by omega)]; simp [List.getD_eq_getElem?_getD, hk]
  rw [e]
theorem chkOs_bad (n : Nat) (l : List Int) (k : Nat) (hk : k < l.length) (h1 : ¬ (0 ≤ l[k] ∧ l[k] ≤ (n : Int) - 1)) : chkOs n (prevO l k) (l.drop k) = 3 := by
  rw [← List.getElem_cons_drop hk]
  simp only [chkOs]
  have hr : inR n l[k] = false := by
    cases h : inR n l[k]
    · rfl
    · exact absurd (inR_iff.1 h) (by omega)
  rw [if_pos hr]
theorem chkOs_ord (n : Nat) (l : List Int) (k : Nat) (hk : k < l.length) (h1 : 0 ≤ l[k] ∧ l[k] ≤ (n : Int) - 1) (h2 : l[k] ≤ prevO l k) : chkOs n (prevO l k) (l.drop k) = 5 := by
  rw [← List.getElem_cons_drop hk]
  simp only [chkOs]
  have hr : inR n l[k] = true := inR_iff.2 (by omega)
  rw [if_neg (by rw [hr]; decide), if_pos h2]

set_option maxRecDepth 100000 in
set_option maxHeartbeats 2000000 in
theorem checkOrigins_any (b1 b2 b3 : Nat) (Ab Am Ao : Option Addr) (nb cb nm cm no co : Nat) (bs : List Int) (ms : List Mv) (l : List Int) (w : World) (hM : NetM w b1 b2 Ab Am nb cb nm cm bs ms) (hnb : nb ≤ 100000) (hnm : nm ≤ 100000) (hO : Sl encI 1 w b3 Ao no l) (hno : no ≤ 100000) :
    Calls Tryz.prog 39 #[netV Ab Am nb cb nm cm, .slice Ao no co] w fun e w' => e = .returned (.int .i64 (chkO bs ms l)) ∧ Below w.heap.size w w' := by
  have hBn := Blk.new w 25 #[.slice Ab nb cb, .slice Am nm cm]
  have c0 := hBn.cell 0
  have c1 := hBn.cell 1
  have hb0 : Below w.heap.size w (w.alloc (.cells #[.slice Ab nb cb, .slice Am nm cm] 25)) := (Below.refl _ w).alloc (Nat.le_refl _) _
  have HB0 := Lib.hid hb0
  have HBN := Lib.hid hBn
  have HNB := Lib.hid hM.b.len
  have HNO := Lib.hid hO.len
  have hMo := hM.old hb0
  have HM := Lib.hid hM
  have HMO := Lib.hid hMo
  have HO := Lib.hid hO
  clear hM hBn hO hMo hb0
  by_cases hc : chkNet bs ms = 0
  · have hcon := check_any b1 b2 Ab Am nb cb nm cm bs ms _ HMO.out hnb hnm
    rw [hc] at hcon
    have HC := Lib.hid hcon
    have HCN := Lib.hid (show chkO bs ms l = chkOs bs.length (prevO l 0) (l.drop 0) by unfold chkO; rw [if_pos hc]; rfl)
    clear hcon hc
    go_enter Tryz.func39, Tryz.ntmps39
    go_upto_region 4 with (go_at_call 28; refine HC.out.mono ?_; rintro e w1 ⟨rfl, hb1⟩; have HB1 := Lib.hid hb1; clear hb1)
    have hbn1 := HBN.out.below HB1.out HBN.out.lt
    have hbw1 := HB0.out.trans (HB1.out.mono (by simp))
    have c2 := hbn1.cell 0
    have HL1 := Lib.hid (HO.out.old hbw1)
    have HBW := Lib.hid hbw1
    clear c0 c1 hbn1 hbw1
    go_wp2_with fail
    go_loop [15] (fun i => ∃ k : Nat, k ≤ no ∧ i = .int .i64 k ∧ chkO bs ms l = chkOs bs.length (prevO l k) (l.drop k)) (fun i => no - (intOf i).toNat)
    case atStart => exact ⟨0, Nat.zero_le _, rfl, HCN.out⟩
    case round =>
      obtain ⟨k, hk, rfl, hcs⟩ := hrel
      have HCS := Lib.hid hcs
      clear hcs
      by_cases hlt : k < no
      · have hkl : k < l.length := by have := HNO.out; omega
        obtain ⟨o, rfl, hbz, s0⟩ := HL1.out.atI hkl
        by_cases hin : 0 ≤ l[k] ∧ l[k] ≤ (nb : Int) - 1
        · have HST := Lib.hid (fun h => chkOs_step bs.length l k hkl (by have := HNB.out; omega) h)
          have HOD := Lib.hid (fun h => chkOs_ord bs.length l k hkl (by have := HNB.out; omega) h)
          cases k with
          | zero =>
            have hp : prevO l 0 = -1 := rfl
            have HNX := Lib.hid (show chkO bs ms l = chkOs bs.length (prevO l 1) (l.drop 1) by rw [HCS.out]; exact HST.out (by rw [hp]; omega))
            obtain ⟨x, hx⟩ : ∃ x, x = l[0] := ⟨_, rfl⟩
            rw [← hx] at s0 hin
            rw [Nat.add_zero] at s0
            clear hx hp HST HOD
            go_wp2_with (go_at_call 50; with_reducible refine (tin_t x 0 ((nb : Int) - 1) hin _).mono ?_; rintro e w' ⟨rfl, rfl⟩)
            go_round
            case rel => exact ⟨1, by omega, by simp, HNX.out⟩
            case measure => simp [intOf]; omega
          | succ k =>
            have hkl' : k < l.length := by omega
            obtain ⟨o', ho', _, s1⟩ := HL1.out.atI hkl'
            injection ho' with ho'
            injection ho' with _ ho'
            subst ho'
            have hp : prevO l (k + 1) = l[k] := by unfold prevO; rw [if_neg (by omega)]; simp [List.getD_eq_getElem?_getD, hkl']
            by_cases hle : l[k + 1] ≤ l[k]
            · have HE := Lib.hid (show (5 : Int) = chkO bs ms l by rw [HCS.out]; exact (HOD.out (by rw [hp]; exact hle)).symm)
              obtain ⟨x, hx⟩ : ∃ x, x = l[k + 1] := ⟨_, rfl⟩
              obtain ⟨y, hy⟩ : ∃ y, y = l[k] := ⟨_, rfl⟩
              rw [← hx] at s0 hin hle
              rw [← hy] at s1 hle
              have hkk : ((k + 1 : Nat) : Int) = (k : Int) + 1 := by simp
              clear hx hy hp HST HOD
              go_wp2_with (go_at_call 50; with_reducible refine (tin_t x 0 ((nb : Int) - 1) hin _).mono ?_; rintro e w' ⟨rfl, rfl⟩)
              go_ret
              exact ⟨ret_int HE.out, HBW.out⟩
            · have HNX := Lib.hid (show chkO bs ms l = chkOs bs.length (prevO l (k + 1 + 1)) (l.drop (k + 1 + 1)) by rw [HCS.out]; exact HST.out (by rw [hp]; omega))
              obtain ⟨x, hx⟩ : ∃ x, x = l[k + 1] := ⟨_, rfl⟩
              obtain ⟨y, hy⟩ : ∃ y, y = l[k] := ⟨_, rfl⟩
              rw [← hx] at s0 hin hle
              rw [← hy] at s1 hle
              clear hx hy hp HST HOD
              go_wp2_with (go_at_call 50; with_reducible refine (tin_t x 0 ((nb : Int) - 1) hin _).mono ?_; rintro e w' ⟨rfl, rfl⟩)
              go_round
              case rel => exact ⟨k + 1 + 1, by omega, by simp, HNX.out⟩
              case measure => simp [intOf]; omega
        · have HE := Lib.hid (show (3 : Int) = chkO bs ms l by rw [HCS.out, chkOs_bad _ l k hkl (by have := HNB.out; omega)])
          obtain ⟨x, hx⟩ : ∃ x, x = l[k] := ⟨_, rfl⟩
          rw [← hx] at s0 hin
          clear hx
          go_wp2_with (go_at_call 50; with_reducible refine (tin_f x 0 ((nb : Int) - 1) hin _).mono ?_; rintro e w' ⟨rfl, rfl⟩)
          go_ret
          exact ⟨ret_int HE.out, HBW.out⟩
      · obtain rfl : k = no := by omega
        have HE := Lib.hid (show (0 : Int) = chkO bs ms l by rw [HCS.out, List.drop_eq_nil_of_le (by have := HNO.out; omega)]; rfl)
        go_wp2_with fail
        go_ret
        exact ⟨ret_int HE.out, HBW.out⟩
  · have hcon := check_any b1 b2 Ab Am nb cb nm cm bs ms _ HMO.out hnb hnm
    have hE : chkO bs ms l = chkNet bs ms := by unfold chkO; rw [if_neg hc]
    rw [hE]
    obtain ⟨x, hx⟩ : ∃ x, x = chkNet bs ms := ⟨_, rfl⟩
    rw [← hx] at hcon hc ⊢
    have hxx : (x == 0) = false := by simp [hc]
    have hxx2 : (x != 0) = true := by simp [hc]
    have HC := Lib.hid hcon
    clear hcon hx hE hc
    go_enter Tryz.func39, Tryz.ntmps39
    go_wp2_with (go_at_call 28; refine HC.out.mono ?_; rintro e w1 ⟨rfl, hb1⟩; have HB1 := Lib.hid hb1; clear hb1)
    go_ret
    exact ⟨rfl, HB0.out.trans (HB1.out.mono (by simp))⟩
end Go.Proofs.YtkphgdkjjklajaaGreatDoor

namespace Go.Proofs.YtkphgdkjjklajaaGreatDoor
open Go.RowKit Go.Shelf

theorem others_oi {n : Nat} (l : List Int) : (∀ o ∈ othersT n l, 0 ≤ o ∧ o < n) ∧ (othersT n l).Nodup := ⟨(others_in n l).rg, (others_in n l).nodup⟩
/-- between two rounds of may -/
structure MaySt (bs : List Int) (ms : List Mv) (w V : World) (Ba : Nat) (k : Nat) (wr : World) : Prop where
  a : Blk wr Ba 96 (amA (hasAt (bsF bs) (ms.take k)))
  b : Below V.heap.size V wr
  lo : V.heap.size ≤ Ba

theorem flatI (l : List Int) : l.flatMap encI = l.map (Value.int .i64) := by rw [List.map_eq_flatMap]; rfl
theorem info_span2 : (Tryz.prog.info? 50).map (·.size) = some 2 := by kernel_rfl
set_option maxRecDepth 100000 in
set_option maxHeartbeats 4000000 in
theorem may_any (b1 b2 b3 : Nat) (Ab Am Ao : Option Addr) (nb cb nm cm no co T : Nat) (bs : List Int) (ms : List Mv) (l : List Int) (batch : Nat) (w : World) (hN : NetIn bs ms) (hM : NetM w b1 b2 Ab Am nb cb nm cm bs ms) (hT : T ≤ ms.length)
    (hO : Sl encI 1 w b3 Ao no l) (hl : OrgIn bs.length l) (hb : batch < bs.length) :
    Calls Tryz.prog 60 #[netV Ab Am nb cb nm cm, .slice Ao no co, .int .i64 batch, .int .i64 T] w fun e w' => e = .returned (.agg #[.int .i64 (mayT bs l (ms.take T) batch).lo, .int .i64 (mayT bs l (ms.take T) batch).hi]) ∧ Below w.heap.size w w' := by
  have hBn := (Blk.new w 25 #[.slice Ab nb cb, .slice Am nm cm]).alloc (.cells #[.int .i64 0, .int .i64 0] 50)
  have hRn := Blk.new (w.alloc (.cells #[.slice Ab nb cb, .slice Am nm cm] 25)) 50 #[.int .i64 0, .int .i64 0]
  rw [World.size_alloc] at hRn
  have c0 := hBn.cell 0
  have c1 := hBn.cell 1
  have hb0 : Below w.heap.size w ((w.alloc (.cells #[.slice Ab nb cb, .slice Am nm cm] 25)).alloc (.cells #[.int .i64 0, .int .i64 0] 50)) := ((Below.refl _ w).alloc (Nat.le_refl _) _).alloc (by simp) _
  obtain ⟨V, hV⟩ : ∃ V, ((w.alloc (.cells #[.slice Ab nb cb, .slice Am nm cm] 25)).alloc (.cells #[.int .i64 0, .int .i64 0] 50)) = V := ⟨_, rfl⟩
  have hz : V.heap.size = w.heap.size + 2 := by rw [← hV]; simp
  rw [hV] at hBn hRn c0 c1 hb0
  have hMV := hM.old hb0
  have hOV := hO.old hb0
  have hnb8 : nb ≤ 8 := by have := hM.b.len; have := hN.n1; omega
  have hTc : T ≤ cm := by have := hM.m.len; have := hM.cm; omega
  have hT12 : T ≤ 12 := by have := hN.m1; omega
  have HNB := Lib.hid hM.b.len
  have HNM := Lib.hid hM.m.len
  have HNO := Lib.hid hO.len
  have HV := Lib.hid hV
  have HZ := Lib.hid hz
  have HB0 := Lib.hid hb0
  have HBN := Lib.hid hBn
  have HRN := Lib.hid hRn
  have HMV := Lib.hid hMV
  have HOV := Lib.hid hOV
  have HN := Lib.hid hN
  have HOL := Lib.hid hl
  clear hBn hRn hb0 hM hMV hOV hO hV hz hl hN
  go_enter Tryz.func60, Tryz.ntmps60
  go_upto_region 1 with fail
  rw [show ((w.alloc (.cells #[.slice Ab nb cb, .slice Am nm cm] 25)).alloc (.cells #[.int .i64 0, .int .i64 0] 50)) = V from HV.out]
  go_upto_region 2 with (first
    | (go_at_call 51; refine (begin_any Ab Am nb cb nm cm b1 bs _ HMV.out.b hnb8).mono ?_; rintro e w1 ⟨rfl, hb1⟩; have hA1 := Blk.new w1 96 (amA fun _ => 0); have HA1 := Lib.hid hA1; have HB1 := Lib.hid hb1; clear hb1 hA1)
    | (refine wpList_store_row rfl 96 (.tmp 9) (.tmp 13) rfl w1.heap.size (amA (bsF bs)) rfl rfl 96 _ HA1.out info_am rfl (amA_cells _) ?_))
  obtain ⟨W2, hW2⟩ : ∃ W2, (w1.alloc (.cells #[.int .i64 0, .int .i64 0, .int .i64 0, .int .i64 0, .int .i64 0, .int .i64 0, .int .i64 0, .int .i64 0] 96)).setRow w1.heap.size (amA (bsF bs)) = W2 := ⟨_, rfl⟩
  have hS0 : MaySt bs ms w V w1.heap.size 0 W2 := by
    rw [← hW2]
    exact ⟨HA1.out.setRow _, (HB1.out.alloc HB1.out.size _).grown (grown_setRow _ _ _) (by have := HB1.out.size; simp; omega) (fun j e => by cases e; exact HB1.out.size), HB1.out.size⟩
  rw [hW2]
  have HS0 := Lib.hid hS0
  have c2 := (HBN.out.below hS0.b HBN.out.lt).cell 1
  clear hS0 hW2 c0 c1
  simp only [Act.put]
  go_wp2_with fail
  clear c2
  go_loopw [19] (fun i wr => ∃ k : Nat, k ≤ T ∧ i = .int .i64 k ∧ MaySt bs ms w V w1.heap.size k wr) (fun i _ => T - (intOf i).toNat)
  case atStart => exact ⟨0, Nat.zero_le _, rfl, HS0.out⟩
  case round =>
    obtain ⟨k, hk, rfl, hS⟩ := hrel
    have HS := Lib.hid hS
    clear hS
    by_cases hlt : k < T
    · as_aux_lemma =>
      have hkm : k < ms.length := by omega
      obtain ⟨o, rfl, hbz, s0, s1, s2⟩ := (HMV.out.m.old HS.out.b).atM hkm
      have HOK := Lib.hid (HN.out.at_ hkm)
      have HTK := Lib.hid (show hasAt (bsF bs) (ms.take (k + 1)) = mvd (hasAt (bsF bs) (ms.take k)) ms[k] by rw [List.take_succ_eq_append_getElem hkm, hasAt_snoc])
      generalize hmk : ms[k] = mv at s0 s1 s2 HOK HTK
      clear hmk
      have hf0 := HOK.out.f0; have hf1 := HOK.out.f1; have ht0 := HOK.out.t0; have ht1 := HOK.out.t1; have hg0 := HOK.out.g0
      have hg1 : mv.g ≤ 8000000 := by have := HOK.out.g1; have := (HN.out.has_bd k mv.fr).2; omega
      have hn1 := HN.out.n1
      have hX := Blk.new wr 58 #[.int .i64 mv.fr, .int .i64 mv.to, .int .i64 mv.g]
      have m0 := hX.cell 0
      have m1 := hX.cell 1
      have m2 := hX.cell 2
      have HAD := Lib.hid (HS.out.a.alloc (.cells #[.int .i64 mv.fr, .int .i64 mv.to, .int .i64 mv.g] 58))
      clear hX
      go_wp2_with (first
        | (go_at_call 52; refine (moved_any (hasAt (bsF bs) (ms.take k)) mv _ hf0 (by omega) ht0 (by omega) (fun b => by have := HN.out.has_bd k b; omega) (by omega) (by omega)).mono ?_; rintro e w5 ⟨rfl, hb5⟩; have hA5 := HAD.out.below hb5 HAD.out.lt; have HB5 := Lib.hid hb5; have HA5 := Lib.hid hA5; clear hb5 hA5)
        | (refine wpList_load_row rfl 96 (.tmp 9) rfl w1.heap.size rfl 96 (amA (hasAt (bsF bs) (ms.take k))) (0, 0) _ HAD.out Tryz.underlying96 rfl info_am ?_)
        | (refine wpList_store_row rfl 96 (.tmp 9) (.tmp 25) rfl w1.heap.size _ rfl rfl 96 _ HA5.out info_am rfl (amA_cells _) ?_))
      refine ⟨⟨k + 1, by omega, by go_num, ⟨by rw [HTK.out]; exact HA5.out.setRow _, ?_, HS.out.lo⟩⟩, by simp [intOf]; omega⟩
      exact ((HS.out.b.alloc HS.out.b.size _).trans (HB5.out.mono (Nat.le_trans HS.out.b.size (by simp)))).grown (grown_setRow _ _ _) (Nat.le_trans (Nat.le_trans HS.out.b.size (by simp)) HB5.out.size) (fun j e => by cases e; exact HS.out.lo)
    · as_aux_lemma =>
      obtain rfl : k = T := by omega
      have hTl : (ms.take k).length = k := by rw [List.length_take]; omega
      obtain ⟨x, hx⟩ : ∃ x, x = hasAt (bsF bs) (ms.take k) batch := ⟨_, rfl⟩
      obtain ⟨p, hp⟩ : ∃ p, p = mostF bs.length (bsF bs) (othersT bs.length l) (ms.take k) batch := ⟨_, rfl⟩
      obtain ⟨q, hq⟩ : ∃ q, q = mostF bs.length (bsF bs) l (ms.take k) batch := ⟨_, rfl⟩
      have hNT := HN.out.take k
      have hx1 := HN.out.has_bd k batch
      have hp0 : 0 ≤ p := by rw [hp]; exact mostF_nonneg HN.out.pos hNT.ms _ _
      have hp1 : p ≤ 8000000 := by have := mostF_le_sum HN.out.pos hNT.ms (othersT bs.length l) (batch := batch) (by omega) (by omega); have := HN.out.sum; rw [hp]; omega
      rw [← hx] at hx1
      obtain ⟨hx2, hx3⟩ := hx1
      have hbt8 : batch < 8 := by have := HN.out.n1; omega
      have ax : wr.cell? ⟨w1.heap.size, batch, none⟩ = some (.int .i64 x) := by
        have := HS.out.a.cell batch
        rw [this, amA_get _ batch hbt8, hx]
      have HX := Lib.hid hx
      have HP := Lib.hid hp
      have HQ := Lib.hid hq
      have hbi0 : (0 : Int) ≤ (batch : Int) := by omega
      have hbi1 : (batch : Int) < 8 := by omega
      have hmo : ∀ (Ax : Option Addr) (nx cx bx : Nat) (lx : List Int) (W : World), Below V.heap.size V W → Sl encI 1 W bx Ax nx lx → (∀ o ∈ lx, 0 ≤ o ∧ o < bs.length) → lx.Nodup → Calls Tryz.prog 61 #[netV Ab Am nb cb nm cm, .slice Ax nx cx, .int .i64 batch, .int .i64 k] W fun e w' => e = .returned (.int .i64 (mostF bs.length (bsF bs) lx (ms.take k) batch)) ∧ Below W.heap.size W w' :=
        fun Ax nx cx bx lx W hW hs h1 h2 => most_any b1 b2 bx Ab Am Ax nb cb nm cm nx cx k bs ms lx batch W HN.out (HMV.out.old hW) hT hs h1 h2 hb
      have HMO := Lib.hid hmo
      have HBU := Lib.hid (fun (W : World) (hW : Below V.heap.size V W) => but_any Ab Am Ao nb cb nm cm no co b3 l W hnb8 (by have := HNB.out; have := HN.out.n0; omega) (by have := HNO.out; have := orig_len HOL.out.nodup HOL.out.rg HN.out.n1; omega) (by rw [HNB.out]; exact HOL.out.rg) (HOV.out.old hW))
      clear hx hp hq hmo hNT
      go_upto_region 7 with fail
      have hw : IntKind.i64.wrap (x - mostF bs.length (bsF bs) (othersT bs.length l) (ms.take k) batch) = x - mostF bs.length (bsF bs) (othersT bs.length l) (ms.take k) batch := IntWalk.i64_in _ (by rw [← HP.out]; omega)
      have hM : Below wr.heap.size wr wr.drew := (Below.refl _ wr).drew
      have HLV := Lib.hid (fun (W : World) (h : Below wr.heap.size wr W) => show Below V.heap.size V W from HS.out.b.trans (h.mono HS.out.b.size))
      have HCL := Lib.hid (fun (W : World) (h : Below wr.heap.size wr W) => show W.cell? ⟨w.heap.size, 0, none⟩ = some (.slice Ab nb cb) ∧ W.cell? ⟨w.heap.size, 1, none⟩ = some (.slice Am nm cm) ∧ W.cell? ⟨w1.heap.size, batch, none⟩ = some (.int .i64 x) from
        ⟨(HBN.out.below (HLV.out W h) HBN.out.lt).cell 0, (HBN.out.below (HLV.out W h) HBN.out.lt).cell 1, (h.cell (p := ⟨w1.heap.size, batch, none⟩) HS.out.a.lt).trans ax⟩)
      clear ax
      refine wp_region_K2 [2, 3, 4, 11] [] (fun W => W.cell? ⟨w.heap.size, 0, none⟩ = some (.slice Ab nb cb) ∧ W.cell? ⟨w.heap.size, 1, none⟩ = some (.slice Am nm cm) ∧ W.cell? ⟨w1.heap.size, batch, none⟩ = some (.int .i64 x)) (fun _ => True) rfl (by kernel_rfl) (HCL.out _ hM) (trivial) (fun hF0 hG0 => ?_)
      (refine wpAnyK_takeL Keep2.refl (i := 0) (v := ?_) rfl (by kernel_rfl) (by kernel_rfl) (by kernel_rfl) (fun _ _ _ h => h) (by rfl) ?_ ?_; rotate_left 1; focus (intro w; go_simp; try with_reducible rfl))
      try simp only [Act.put, List.setIfInBounds_toArray, List.set_cons_zero, List.set_cons_succ]
      (refine wpAnyK_takeL Keep2.refl (i := 1) (v := ?_) rfl (by kernel_rfl) (by kernel_rfl) (by kernel_rfl) (fun _ _ _ h => h) (by rfl) ?_ ?_; rotate_left 1; focus (intro w; go_simp; try with_reducible rfl))
      try simp only [Act.put, List.setIfInBounds_toArray, List.set_cons_zero, List.set_cons_succ]
      (refine wpAnyK_loadL Keep2.refl (i := 2) (v := ?_) rfl (Keep2.left (i := 2) (by rfl)) (by kernel_rfl) (by kernel_rfl) (by kernel_rfl) (fun _ _ _ h => h) hF0 (by rfl) ?_ ?_; rotate_left 1; focus (intro w hFw; (try dsimp only at hFw); go_split_ands; go_simp; try with_reducible rfl))
      try simp only [Act.put, List.setIfInBounds_toArray, List.set_cons_zero, List.set_cons_succ]
      (refine wpAnyK_loadL Keep2.refl (i := 3) (v := ?_) rfl (Keep2.left (i := 3) (by rfl)) (by kernel_rfl) (by kernel_rfl) (by kernel_rfl) (fun _ _ _ h => h) hF0 (by rfl) ?_ ?_; rotate_left 1; focus (intro w hFw; (try dsimp only at hFw); go_split_ands; go_simp; try with_reducible rfl))
      try simp only [Act.put, List.setIfInBounds_toArray, List.set_cons_zero, List.set_cons_succ]
      (refine wpAnyK_loadL Keep2.refl (i := 4) (v := ?_) rfl (Keep2.left (i := 4) (by rfl)) (by kernel_rfl) (by kernel_rfl) (by kernel_rfl) (fun _ _ _ h => h) hF0 (by rfl) ?_ ?_; rotate_left 1; focus (intro w hFw; (try dsimp only at hFw); go_split_ands; go_simp; try with_reducible rfl))
      try simp only [Act.put, List.setIfInBounds_toArray, List.set_cons_zero, List.set_cons_succ]
      (refine wpAnyK_takeL Keep2.refl (i := 5) (v := ?_) rfl (by kernel_rfl) (by kernel_rfl) (by kernel_rfl) (fun _ _ _ h => h) (by rfl) ?_ ?_; rotate_left 1; focus (intro w; go_simp; try with_reducible rfl))
      try simp only [Act.put, List.setIfInBounds_toArray, List.set_cons_zero, List.set_cons_succ]
      (refine wpAnyK_takeL Keep2.refl (i := 7) (v := ?_) rfl (by kernel_rfl) (by kernel_rfl) (by kernel_rfl) (fun _ _ _ h => h) (by rfl) ?_ ?_; rotate_left 1; focus (intro w; go_simp; try with_reducible rfl))
      try simp only [Act.put, List.setIfInBounds_toArray, List.set_cons_zero, List.set_cons_succ]
      (refine wpAnyK_takeL Keep2.refl (i := 8) (v := ?_) rfl (by kernel_rfl) (by kernel_rfl) (by kernel_rfl) (fun _ _ _ h => h) (by rfl) ?_ ?_; rotate_left 1; focus (intro w; go_simp; try with_reducible rfl))
      try simp only [Act.put, List.setIfInBounds_toArray, List.set_cons_zero, List.set_cons_succ]
      (refine wpAnyK_loadL Keep2.refl (i := 11) (v := ?_) rfl (Keep2.left (i := 11) (by rfl)) (by kernel_rfl) (by kernel_rfl) (by kernel_rfl) (fun _ _ _ h => h) hF0 (by rfl) ?_ ?_; rotate_left 1; focus (intro w hFw; (try dsimp only at hFw); go_split_ands; go_simp; try with_reducible rfl))
      try simp only [Act.put, List.setIfInBounds_toArray, List.set_cons_zero, List.set_cons_succ]
      (refine wpAnyK_takeL Keep2.refl (i := 12) (v := ?_) rfl (by kernel_rfl) (by kernel_rfl) (by kernel_rfl) (fun _ _ _ h => h) (by rfl) ?_ ?_; rotate_left 1; focus (intro w; go_simp; try with_reducible rfl))
      try simp only [Act.put, List.setIfInBounds_toArray, List.set_cons_zero, List.set_cons_succ]
      (refine wpAnyK_takeL Keep2.refl (i := 13) (v := ?_) rfl (by kernel_rfl) (by kernel_rfl) (by kernel_rfl) (fun _ _ _ h => h) (by rfl) ?_ ?_; rotate_left 1; focus (intro w; go_simp; try with_reducible rfl))
      try simp only [Act.put, List.setIfInBounds_toArray, List.set_cons_zero, List.set_cons_succ]
      (refine wpAnyK_takeL Keep2.refl (i := 14) (v := ?_) rfl (by kernel_rfl) (by kernel_rfl) (by kernel_rfl) (fun _ _ _ h => h) (by rfl) ?_ ?_; rotate_left 1; focus (intro w; go_simp; try with_reducible rfl))
      try simp only [Act.put, List.setIfInBounds_toArray, List.set_cons_zero, List.set_cons_succ]
      refine wpAnyK_step (i := 6) rfl (by kernel_rfl) (by rfl) (fun K hK => ?_)
      go_simp
      (refine (HBU.out _ (HLV.out _ hM)).mono ?_; rintro e wA ⟨g, kk, cap, rfl, hown, hBA⟩; have hkk : kk = (othersT nb l).length := (by have := hown.1; simpa using this.symm); obtain ⟨bO, hbO, hsO⟩ := Sl.of_own (enc := encI) encI_len hkk (by rw [flatI]; exact hown); have hM := hM.trans (hBA.mono hM.size); rw [HNB.out] at hsO; clear hown hkk)
      (refine hK _ _ (⟨fun _ _ => HCL.out _ hM, fun h => absurd h (by decide)⟩) ?_; clear hK K)
      (refine wpAnyK_with (F := fun W => W.cell? ⟨w.heap.size, 0, none⟩ = some (.slice Ab nb cb) ∧ W.cell? ⟨w.heap.size, 1, none⟩ = some (.slice Am nm cm) ∧ W.cell? ⟨w1.heap.size, batch, none⟩ = some (.int .i64 x)) (HCL.out _ hM) (fun hF1 => ?_); clear hF0)
      try simp only [Act.put, List.setIfInBounds_toArray, List.set_cons_zero, List.set_cons_succ]
      refine wpAnyK_step (i := 9) rfl (by kernel_rfl) (by rfl) (fun K hK => ?_)
      go_simp
      (refine (HMO.out _ kk cap bO (othersT bs.length l) _ (HLV.out _ hM) hsO (others_oi l).1 (others_oi l).2).mono ?_; rintro e wB ⟨rfl, hBB⟩; have hM := hM.trans (hBB.mono hM.size))
      (refine hK _ _ (⟨fun _ _ => HCL.out _ hM, fun h => absurd h (by decide)⟩) ?_; clear hK K)
      (refine wpAnyK_with (F := fun W => W.cell? ⟨w.heap.size, 0, none⟩ = some (.slice Ab nb cb) ∧ W.cell? ⟨w.heap.size, 1, none⟩ = some (.slice Am nm cm) ∧ W.cell? ⟨w1.heap.size, batch, none⟩ = some (.int .i64 x)) (HCL.out _ hM) (fun hF2 => ?_); clear hF1)
      try simp only [Act.put, List.setIfInBounds_toArray, List.set_cons_zero, List.set_cons_succ]
      (refine wpAnyK_takeL Keep2.refl (i := 10) (v := ?_) rfl (by kernel_rfl) (by kernel_rfl) (by kernel_rfl) (fun _ _ _ h => h) (by rfl) ?_ ?_; rotate_left 1; focus (intro w; go_simp; try with_reducible rfl))
      try simp only [Act.put, List.setIfInBounds_toArray, List.set_cons_zero, List.set_cons_succ]
      refine wpAnyK_step (i := 15) rfl (by kernel_rfl) (by rfl) (fun K hK => ?_)
      go_simp
      (refine (HMO.out Ao no co b3 l _ (HLV.out _ hM) (HOV.out.old (HLV.out _ hM)) HOL.out.rg HOL.out.nodup).mono ?_; rintro e wC ⟨rfl, hBC⟩; (try replace hsO := hsO.old hBC); have hM := hM.trans (hBC.mono hM.size))
      (refine hK _ _ (⟨fun _ _ => HCL.out _ hM, fun h => absurd h (by decide)⟩) ?_; clear hK K)
      (refine wpAnyK_with (F := fun W => W.cell? ⟨w.heap.size, 0, none⟩ = some (.slice Ab nb cb) ∧ W.cell? ⟨w.heap.size, 1, none⟩ = some (.slice Am nm cm) ∧ W.cell? ⟨w1.heap.size, batch, none⟩ = some (.int .i64 x)) (HCL.out _ hM) (fun hF3 => ?_); clear hF2)
      try simp only [Act.put, List.setIfInBounds_toArray, List.set_cons_zero, List.set_cons_succ]
      (refine wpAnyK_takeL Keep2.refl (i := 16) (v := ?_) rfl (by kernel_rfl) (by kernel_rfl) (by kernel_rfl) (fun _ _ _ h => h) (by rfl) ?_ ?_; rotate_left 1; focus (intro w; go_simp; try with_reducible rfl))
      try simp only [Act.put, List.setIfInBounds_toArray, List.set_cons_zero, List.set_cons_succ]
      refine wpAnyK_step (i := 17) rfl (by kernel_rfl) (by rfl) (fun K hK => ?_)
      (refine wp_store_row 50 (.tmp 8) (.tmp 43) rfl (w.heap.size + 1) #[.int .i64 (x - mostF bs.length (bsF bs) (othersT bs.length l) (ms.take k) batch), .int .i64 (mostF bs.length (bsF bs) l (ms.take k) batch)] rfl rfl 50 _ (HRN.out.below (HLV.out _ hM) HRN.out.lt) info_span2 rfl (by simp [Value.oneCell']) ?_)
      (refine hK _ _ (Keep2.no (by kernel_rfl) (by kernel_rfl)) ?_; clear hK K)
      try simp only [Act.put, List.setIfInBounds_toArray, List.set_cons_zero, List.set_cons_succ]
      refine wpAnyK_done (by kernel_rfl) ?_ _
      go_wp2_with fail
      refine bodyPost_ret (v := .agg #[.int .i64 (x - mostF bs.length (bsF bs) (othersT bs.length l) (ms.take k) batch), .int .i64 (mostF bs.length (bsF bs) l (ms.take k) batch)]) (results_cell_row rfl _ _ (w.heap.size + 1) 50 #[.int .i64 (x - mostF bs.length (bsF bs) (othersT bs.length l) (ms.take k) batch), .int .i64 (mostF bs.length (bsF bs) l (ms.take k) batch)] (0, 0) _ rfl ((HRN.out.below (HLV.out _ hM) HRN.out.lt).setRow _) Tryz.underlying50 rfl info_span2) rfl ⟨by rw [HX.out]; rfl, ?_⟩
      have hF := HB0.out.trans ((HLV.out _ hM).mono (by have := HZ.out; omega))
      exact hF.grown (grown_setRow _ _ _) hF.size (fun j e => by cases e; omega)
end Go.Proofs.YtkphgdkjjklajaaGreatDoor
