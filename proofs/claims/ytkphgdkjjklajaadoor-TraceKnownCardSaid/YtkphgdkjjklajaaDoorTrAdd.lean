/-
  Places as keys of maps. trace.most's add: so many grams more may go from a place to another one.
-/
import Derived.Test.YtkphgdkjjklajaaDoorNetMap
import Derived.DeepKeys4
import Derived.WideKeyArgs2
import Derived.Test.YtkphgdkjjklajaaDoorReg
import Derived.BigQuiet
import Derived.Deep.CutRange
set_option linter.unusedVariables false
set_option linter.unusedSimpArgs false
namespace Go.Proofs.YtkphgdkjjklajaaDoor
open Go.RowKit

theorem laidOut : laidOutB Tryd.prog = true := by kernel_rfl
theorem rowPl : (84 : TypeId) < Tryd.prog.types.size := of_decide_eq_true (by kernel_rfl)
theorem widePl : (match Tryd.prog.underlying 84 with | some (.array _ _) | some (.struct _) => true | _ => false) = true := by rw [Tryd.underlying84]
set_option maxRecDepth 100000 in
theorem lawPl : WideMaps.KeyLaw Tryd.prog 84 := deep_law_laid laidOut (m := 2) (by omega) rowPl (by kernel_rfl) widePl
theorem keyPl (p : Pl) (h : okV p) : ∃ l, keyOf Tryd.prog 84 (plV p) = some l := by
  have hk : Tryd.prog.keyType 84 = true := by kernel_rfl
  have hc : Tryd.prog.cellsOf 84 = 2 := by kernel_rfl
  have hi : Tryd.prog.cellsOf 3 = 1 := by kernel_rfl
  have hs : ∃ m, Tryd.prog.types.size = m + 1 := ⟨Tryd.prog.types.size - 1, by have h1 : (84 : Nat) < Tryd.prog.types.size := rowPl; omega⟩
  obtain ⟨m, hm⟩ := hs
  refine ⟨.string (keyBytes [.int .i64 p.1, .int .i64 p.2]), ?_⟩
  unfold keyOf
  simp only [Tryd.underlying84]
  rw [if_pos (by simp [hk, Value.formed, Tryd.underlying84, hc]), hm]
  unfold Program.keyLits
  simp only [Tryd.underlying84, Value.cells]
  simp [hc, hi, Program.keyLits, Tryd.underlying3, h.1, h.2]
theorem kkPl : KeyK Tryd.prog 84 plV okV := ⟨Go.Maps.Keyed.of_law lawPl, keyPl, fun a b h => by
  injection h with h
  have h1 := congrArg Array.toList h
  simp only [List.cons.injEq, Value.int.injEq, true_and, and_true] at h1
  exact Prod.ext h1.1 h1.2⟩
theorem kkInt : KeyK Tryd.prog 3 (Value.int .i64) (fun a => (Lit.int .i64 a).wf = true) := keyK_int Tryd.underlying3
end Go.Proofs.YtkphgdkjjklajaaDoor

namespace Go.Proofs.YtkphgdkjjklajaaDoor
open Go.RowKit

theorem zeroPI (w : World) : (zeroValue 85).run Tryd.prog w = .ok (.map none) w := by kernel_rfl
theorem zeroI (w : World) : (zeroValue 3).run Tryd.prog w = .ok (.int .i64 0) w := by kernel_rfl
theorem zeroB (w : World) : (zeroValue 4).run Tryd.prog w = .ok (.bool false) w := by kernel_rfl

theorem eqPI_some (b : Nat) (w : World) : (binOp BinOp.eql 85 (.map (some b)) (.map none)).run Tryd.prog w = .ok (.bool false) w := by kernel_rfl
theorem eqPI_none (w : World) : (binOp BinOp.eql 85 (.map none) (.map none)).run Tryd.prog w = .ok (.bool true) w := by kernel_rfl
abbrev kPl (u : Pl) : Obj := .cells #[.int .i64 u.1, .int .i64 u.2] 84

theorem wp_entryK {P : Program} {K E T : TypeId} {α : Type} [DecidableEq α] {enc : α → Value} {ok : α → Prop} {w : World} {o : Oper} {a : Act} {K' : Act → World → Prop} {Q : Exit → Act → World → Prop} (m x : Operand) (hop : o.op = Op.mapEntry T m x)
    (KK : KeyK P K enc ok) (ht : P.underlying T = some (.map K E)) {Z : Value} (hZ : ∀ w, (zeroValue E).run P w = .ok Z w) (b : Nat) (c : α → Option Value) (hm : a.eval m = .map (some b)) (h : KMap enc ok w b c) (q : α) (hx : a.eval x = enc q) (hq : ok q)
    (y : Value) (hy : (c q).getD Z = y)
    (hK : ∀ (w1 : World) (st : Nat), KMap enc ok w1 b (updK c q y) → w.grownBy w1 (some b) → w1.heap.size = w.heap.size →
      (∀ v : Value, ∃ w2, (Instr.entryStore T (.map (some b)) (goInt st) v).run P w1 = .ok () w2 ∧ KMap enc ok w2 b (updK c q v) ∧ w.grownBy w2 (some b) ∧ w2.heap.size = w.heap.size) → K' (a.put o.dst (.tuple #[y, goInt st])) w1) : o.wp P a w K' Q := by
  obtain ⟨w1, st, hrun, r1, r2, r3, r4⟩ := run_entryK KK ht hZ h q hq
  rw [hy] at hrun r1
  unfold Oper.wp
  simp [execOp, hop, hm, hx, hrun, Result.andThen]
  exact hK w1 st r1 r2 r3 r4
theorem wp_storeK {P : Program} {T : TypeId} {w : World} {o : Oper} {a : Act} {K' : Act → World → Prop} {Q : Exit → Act → World → Prop} (m s v : Operand) (hop : o.op = Op.entryStore T m s v) (b st : Nat) (y : Value) (hm : a.eval m = .map (some b))
    (hs : a.eval s = goInt st) (hv : a.eval v = y) {w2 : World} (hrun : (Instr.entryStore T (.map (some b)) (goInt st) y).run P w = .ok () w2) (hK : K' (a.put o.dst undef) w2) : o.wp P a w K' Q := by
  unfold Oper.wp
  simp [execOp, hop, hm, hs, hv, hrun, Result.andThen]
  exact hK

set_option maxRecDepth 100000 in
set_option maxHeartbeats 1000000 in
/-- the place has a map -/
theorem add_some (n₀ : Nat) (vs : List Pl) (av B Bl b : Nat) (R : Pl → Pl → Int) (m : Pl → Option Nat) (c : Pl → Pl → Option Int) (u v : Pl) (g : Int) (w : World) (hL : LeftAt n₀ vs av w B R m c) (hb : m u = some b)
    (hBl : Blk w Bl 82 #[.map (some B)]) (hn : n₀ ≤ w.heap.size) (hu : okV u) (hv : okV v) (hvs : v ∈ vs) (h1 : -1152921504606846976 ≤ R u v) (h2 : R u v ≤ 1152921504606846976) (h3 : -1152921504606846976 ≤ g) (h4 : g ≤ 1152921504606846976) :
    Calls Tryd.prog 42 #[plV u, plV v, .int .i64 g, .pointer (some ⟨Bl, 0, none⟩)] w fun e w' => e = .returned (.tuple #[]) ∧ Left n₀ vs av w' B (updR R u v g) ∧ Kc n₀ w w' := by
  have hlt := hL.outer.lt
  have hblt := hBl.lt
  have hin := hL.inner u b hb
  have hilt := hin.lt
  rw [hL.val] at h1 h2
  obtain ⟨x, hx⟩ : ∃ x, x = (c u v).getD 0 := ⟨_, rfl⟩
  rw [← hx] at h1 h2
  have hwr : IntKind.i64.wrap (x + g) = x + g := IntWalk.i64_in _ (by omega)
  have hL2 := (hL.alloc (kPl u)).alloc (kPl v)
  have hB2 := (hBl.alloc (kPl u)).alloc (kPl v)
  have hU := (Blk.new w 84 #[.int .i64 u.1, .int .i64 u.2]).alloc (kPl v)
  have hV := Blk.new (w.alloc (kPl u)) 84 #[.int .i64 v.1, .int .i64 v.2]
  have e10 := eqPI_some b ((w.alloc (kPl u)).alloc (kPl v))
  have HB := Lib.hid hb
  have HX := Lib.hid hx
  have hlk1 : ∀ W, KMap plV okV W B (fun u => (m u).map fun b => .map (some b)) → (Instr.lookup 82 (.map (some B)) (plV u) false).run Tryd.prog W = .ok (.map (some b)) W := fun W h => by
    have := run_lookupK kkPl Tryd.underlying82 zeroPI h u hu
    rw [hb] at this; exact this
  have hlk2 : ∀ W d, KMap plV okV W b d → (d v).getD (.int .i64 0) = .int .i64 x → (Instr.lookup 85 (.map (some b)) (plV v) false).run Tryd.prog W = .ok (.int .i64 x) W := fun W d h h' => by
    have := run_lookupK kkPl Tryd.underlying85 zeroI h v hv
    rw [h'] at this; exact this
  have hdv : ((fun v => (c u v).map (Value.int .i64)) v).getD (.int .i64 0) = .int .i64 x := by
    show ((c u v).map (Value.int .i64)).getD (.int .i64 0) = .int .i64 x
    rw [hx]
    generalize c u v = z
    cases z <;> rfl
  have LK1 := Lib.hid hlk1
  have LK2 := Lib.hid hlk2
  have HDV := Lib.hid hdv
  have c3 := hB2.cell 0
  have l1 := hlk1 _ hL2.outer
  have HL2 := Lib.hid hL2
  have HU := Lib.hid hU
  have HV := Lib.hid hV
  have HB2 := Lib.hid hB2
  clear hL hin hb hx hlk1 hlk2 hdv hL2 hU hV hB2 hBl
  go_enter Tryd.func42, Tryd.ntmps42
  go_upto_region 3 with (fail)
  clear c3 e10 l1
  obtain ⟨W, hW⟩ : ∃ W, ((w.alloc (kPl u)).alloc (kPl v)) = W := ⟨_, rfl⟩
  have hz : W.heap.size = w.heap.size + 2 := by rw [← hW]; simp
  have hK0 : Kc n₀ w W := by rw [← hW]; exact ((Kc.refl n₀ w).alloc hn _).alloc (by simp; omega) _
  simp only [World.size_alloc] at HV
  rw [hW] at HL2 HU HV HB2 ⊢
  have hnb : b ≠ B := (HL2.out.n0b u b HB.out).2.1
  have hbu : w.heap.size ≠ b := by omega
  have hbv : w.heap.size + 1 ≠ b := by omega
  have hbl : Bl ≠ b := fun e => (HL2.out.inner u b HB.out).notB HB2.out e.symm
  have HK0 := Lib.hid hK0
  clear hW hz hK0
  refine wp_region_PL [0, 1, 2, 3, 4] (fun w' => w'.cell? ⟨Bl, 0, none⟩ = some (.map (some B)) ∧ w'.cell? ⟨w.heap.size, 0, none⟩ = some (.int .i64 u.1) ∧ w'.cell? ⟨w.heap.size, 1, none⟩ = some (.int .i64 u.2) ∧ w'.cell? ⟨w.heap.size + 1, 0, none⟩ = some (.int .i64 v.1) ∧ w'.cell? ⟨w.heap.size + 1, 1, none⟩ = some (.int .i64 v.2) ∧ (Instr.lookup 82 (.map (some B)) (.agg #[.int .i64 u.1, .int .i64 u.2]) false).run Tryd.prog w' = .ok (.map (some b)) w' ∧ (Instr.lookup 85 (.map (some b)) (.agg #[.int .i64 v.1, .int .i64 v.2]) false).run Tryd.prog w' = .ok (.int .i64 x) w') rfl (by kernel_rfl) (⟨HB2.out.cell 0, HU.out.cell 0, HU.out.cell 1, HV.out.cell 0, HV.out.cell 1, LK1.out _ HL2.out.drew.outer, LK2.out _ _ (HL2.out.drew.inner u b HB.out) HDV.out⟩) (fun hF0 => ?_)
  (refine wpAnyP_loadL (i := 0) (v := ?_) rfl (by kernel_rfl) (by kernel_rfl) (by kernel_rfl) (by rfl) (fun _ _ _ h => h) hF0 (by rfl) ?_ ?_; rotate_left 1; focus (intro w hFw; (try dsimp only at hFw); go_split_ands; go_simp; try with_reducible rfl))
  try simp only [Act.put, List.setIfInBounds_toArray, List.set_cons_zero, List.set_cons_succ]
  (refine wpAnyP_loadL (i := 1) (v := ?_) rfl (by kernel_rfl) (by kernel_rfl) (by kernel_rfl) (by rfl) (fun _ _ _ h => h) hF0 (by rfl) ?_ ?_; rotate_left 1; focus (intro w hFw; (try dsimp only at hFw); go_split_ands; go_simp; try with_reducible rfl))
  try simp only [Act.put, List.setIfInBounds_toArray, List.set_cons_zero, List.set_cons_succ]
  (refine wpAnyP_loadL (i := 2) (v := ?_) rfl (by kernel_rfl) (by kernel_rfl) (by kernel_rfl) (by rfl) (fun _ _ _ h => h) hF0 (by rfl) ?_ ?_; rotate_left 1; focus (intro w hFw; (try dsimp only at hFw); go_split_ands; go_simp; try with_reducible rfl))
  try simp only [Act.put, List.setIfInBounds_toArray, List.set_cons_zero, List.set_cons_succ]
  (refine wpAnyP_loadL (i := 3) (v := ?_) rfl (by kernel_rfl) (by kernel_rfl) (by kernel_rfl) (by rfl) (fun _ _ _ h => h) hF0 (by rfl) ?_ ?_; rotate_left 1; focus (intro w hFw; (try dsimp only at hFw); go_split_ands; go_simp; try with_reducible rfl))
  try simp only [Act.put, List.setIfInBounds_toArray, List.set_cons_zero, List.set_cons_succ]
  (refine wpAnyP_loadL (i := 4) (v := ?_) rfl (by kernel_rfl) (by kernel_rfl) (by kernel_rfl) (by rfl) (fun _ _ _ h => h) hF0 (by rfl) ?_ ?_; rotate_left 1; focus (intro w hFw; (try dsimp only at hFw); go_split_ands; go_simp; try with_reducible rfl))
  try simp only [Act.put, List.setIfInBounds_toArray, List.set_cons_zero, List.set_cons_succ]
  (refine wpAnyP_takeL (i := 5) (v := ?_) rfl (by kernel_rfl) (by kernel_rfl) (by kernel_rfl) (fun _ _ _ h => h) (by rfl) ?_ ?_; rotate_left 1; focus (intro w; go_simp; try with_reducible rfl))
  try simp only [Act.put, List.setIfInBounds_toArray, List.set_cons_zero, List.set_cons_succ]
  (refine wpAnyP_takeL (i := 6) (v := ?_) rfl (by kernel_rfl) (by kernel_rfl) (by kernel_rfl) (fun _ _ _ h => h) (by rfl) ?_ ?_; rotate_left 1; focus (intro w; go_simp; try with_reducible rfl))
  try simp only [Act.put, List.setIfInBounds_toArray, List.set_cons_zero, List.set_cons_succ]
  refine wpAnyP_step (i := 7) rfl (by kernel_rfl) (by rfl) (fun K hK => ?_)
  (refine wp_entryK _ _ rfl kkPl Tryd.underlying85 zeroI b _ rfl (HL2.out.drew.inner u b HB.out) v rfl hv _ HDV.out ?_; intro w1 st hk1 hg1 hs1 hst; have HG1 := Lib.hid hg1; have HK1 := Lib.hid hk1; have HST := Lib.hid hst; clear hg1 hk1 hst)
  (refine hK _ _ (⟨(HB2.out.drew.grown HG1.out (fun e => by injection e with e; exact hbl e)).cell 0, (HU.out.drew.grown HG1.out (fun e => by injection e with e; exact hbu e)).cell 0, (HU.out.drew.grown HG1.out (fun e => by injection e with e; exact hbu e)).cell 1, (HV.out.drew.grown HG1.out (fun e => by injection e with e; exact hbv e)).cell 0, (HV.out.drew.grown HG1.out (fun e => by injection e with e; exact hbv e)).cell 1, LK1.out _ (HL2.out.drew.outer.grown HG1.out (fun e => by injection e with e; exact hnb e.symm)), LK2.out _ _ HK1.out (by simp [updK])⟩) (fun hF1 => ?_); clear hK K hF0)
  try simp only [Act.put, List.setIfInBounds_toArray, List.set_cons_zero, List.set_cons_succ]
  (refine wpAnyP_takeL (i := 8) (v := ?_) rfl (by kernel_rfl) (by kernel_rfl) (by kernel_rfl) (fun _ _ _ h => h) (by rfl) ?_ ?_; rotate_left 1; focus (intro w; go_simp; try with_reducible rfl))
  try simp only [Act.put, List.setIfInBounds_toArray, List.set_cons_zero, List.set_cons_succ]
  refine wpAnyP_last (i := 9) rfl (by kernel_rfl) (by kernel_rfl) (by rfl) (fun K hK => ?_)
  (obtain ⟨w2, hr2, hk2, hg2, hs2⟩ := HST.out (.int .i64 (x + g)); refine wp_storeK _ _ _ rfl b st (.int .i64 (x + g)) rfl rfl rfl hr2 ?_)
  (refine hK _ _ ?_; clear hK K)
  try simp only [Act.put, List.setIfInBounds_toArray, List.set_cons_zero, List.set_cons_succ]
  refine wpAnyP_done (by kernel_rfl) ?_ _
  go_wp2_with fail
  go_end0
  have hX := HX.out
  refine ⟨rfl, ⟨_, _, HL2.out.drew.write hvs HB.out g (by rw [← hX]; exact hk2) hg2⟩, HK0.out.drew.trans (Kc.of_grown hg2 (Nat.le_trans hn HK0.out.size) fun b' e => ?_)⟩
  cases e
  exact ⟨(HL2.out.n0b u b HB.out).1, (HL2.out.drew.inner u b HB.out).soft⟩

set_option maxRecDepth 100000 in
set_option maxHeartbeats 1000000 in
/-- the place has none yet -/
theorem add_none (n₀ : Nat) (vs : List Pl) (av B Bl : Nat) (R : Pl → Pl → Int) (m₀ : Pl → Option Nat) (c : Pl → Pl → Option Int) (u v : Pl) (g : Int) (w : World) (hL : LeftAt n₀ vs av w B R m₀ c) (hb : m₀ u = none)
    (hBl : Blk w Bl 82 #[.map (some B)]) (hn : n₀ ≤ w.heap.size) (hu : okV u) (hv : okV v) (hvs : v ∈ vs) (h3 : -1152921504606846976 ≤ g) (h4 : g ≤ 1152921504606846976) :
    Calls Tryd.prog 42 #[plV u, plV v, .int .i64 g, .pointer (some ⟨Bl, 0, none⟩)] w fun e w' => e = .returned (.tuple #[]) ∧ Left n₀ vs av w' B (updR R u v g) ∧ Kc n₀ w w' := by
  have hlt := hL.outer.lt
  have hblt := hBl.lt
  obtain ⟨x, hx⟩ : ∃ x, x = (c u v).getD 0 := ⟨_, rfl⟩
  have hx0 : x = 0 := by rw [hx, hL.no u hb v]; rfl
  have hwr : IntKind.i64.wrap (x + g) = x + g := IntWalk.i64_in _ (by omega)
  have hL2 := (hL.alloc (kPl u)).alloc (kPl v)
  have hB2 := (hBl.alloc (kPl u)).alloc (kPl v)
  have hU := (Blk.new w 84 #[.int .i64 u.1, .int .i64 u.2]).alloc (kPl v)
  have hV := Blk.new (w.alloc (kPl u)) 84 #[.int .i64 v.1, .int .i64 v.2]
  have e10 := eqPI_none ((w.alloc (kPl u)).alloc (kPl v))
  have hmm := @run_makeMap Tryd.prog
  have HX := Lib.hid hx
  have hdv : ((fun v => (c u v).map (Value.int .i64)) v).getD (.int .i64 0) = .int .i64 x := by
    show ((c u v).map (Value.int .i64)).getD (.int .i64 0) = .int .i64 x
    rw [hx]
    generalize c u v = z
    cases z <;> rfl
  have l1 : (Instr.lookup 82 (.map (some B)) (plV u) false).run Tryd.prog ((w.alloc (kPl u)).alloc (kPl v)) = .ok (.map none) ((w.alloc (kPl u)).alloc (kPl v)) := by
    have := run_lookupK kkPl Tryd.underlying82 zeroPI hL2.outer u hu
    rw [hb] at this; exact this
  have HDV := Lib.hid hdv
  have c3 := hB2.cell 0
  have HL2 := Lib.hid hL2
  have HU := Lib.hid hU
  have HV := Lib.hid hV
  have HB2 := Lib.hid hB2
  have HB0 := Lib.hid hb
  have HX0 := Lib.hid hx0
  clear hL hx hdv hL2 hU hV hB2 hBl hb hx0
  go_enter Tryd.func42, Tryd.ntmps42
  go_upto_region 3 with (at_mapUpdate; refine wpList_updateK _ rfl _ _ _ 82 85 rfl kkPl Tryd.underlying82 B _ rfl ((HL2.out.alloc (.map #[] 0)).outer) u rfl hu (.map (some (w.heap.size + 2))) rfl ?_; intro W hkW hgW hsW)
  clear c3 e10 l1 hmm
  have hBB : Bl ≠ B := fun e => HL2.out.outer.notB HB2.out e.symm
  obtain ⟨b, hbdef⟩ : ∃ b, b = w.heap.size + 1 + 1 := ⟨_, rfl⟩
  obtain ⟨m, hm⟩ : ∃ m : Pl → Option Nat, m = fun u' => if u' = u then some b else m₀ u' := ⟨_, rfl⟩
  have hb : m u = some b := by rw [hm]; simp
  have hz2 : ((w.alloc (kPl u)).alloc (kPl v)).heap.size = b := by simp [hbdef]
  have hfr : LeftAt n₀ vs av W B R m c := by
    rw [hm, ← hz2]
    exact HL2.out.fresh (by simp; omega) HB0.out (by rw [hz2, hbdef]; exact hkW) hgW
  have hK0 : Kc n₀ w W := (((((Kc.refl n₀ w).alloc hn _).alloc (by simp; omega) _).alloc (by simp; omega) _)).trans (Kc.of_grown hgW (by simp; omega) fun b' e => by cases e; exact ⟨HL2.out.n0B, (HL2.out.outer.alloc _).soft⟩)
  simp only [World.size_alloc] at HV hsW
  replace HU := Lib.hid ((HU.out.alloc (.map #[] 0)).grown hgW (fun e => by injection e with e; omega))
  replace HV := Lib.hid ((HV.out.alloc (.map #[] 0)).grown hgW (fun e => by injection e with e; omega))
  replace HB2 := Lib.hid ((HB2.out.alloc (.map #[] 0)).grown hgW (fun e => by injection e with e; exact hBB e))
  replace HL2 := Lib.hid hfr
  have HB := Lib.hid hb
  have HK0 := Lib.hid hK0
  have hnb : b ≠ B := (HL2.out.n0b u b HB.out).2.1
  have hbu : w.heap.size ≠ b := by omega
  have hbv : w.heap.size + 1 ≠ b := by omega
  have hbl : Bl ≠ b := by omega
  have LK1 := Lib.hid (show ∀ W, KMap plV okV W B (fun u => (m u).map fun b => .map (some b)) → (Instr.lookup 82 (.map (some B)) (plV u) false).run Tryd.prog W = .ok (.map (some b)) W from fun W h => by
    have := run_lookupK kkPl Tryd.underlying82 zeroPI h u hu
    rw [hb] at this; exact this)
  have LK2 := Lib.hid (show ∀ W d, KMap plV okV W b d → (d v).getD (.int .i64 0) = .int .i64 x → (Instr.lookup 85 (.map (some b)) (plV v) false).run Tryd.prog W = .ok (.int .i64 x) W from fun W d h h' => by
    have := run_lookupK kkPl Tryd.underlying85 zeroI h v hv
    rw [h'] at this; exact this)
  rw [← hbdef]
  clear hkW hgW hsW hBB hm hb hz2 hfr hK0 hbdef
  simp only [Act.put]
  refine wp_region_PL [0, 1, 2, 3, 4] (fun w' => w'.cell? ⟨Bl, 0, none⟩ = some (.map (some B)) ∧ w'.cell? ⟨w.heap.size, 0, none⟩ = some (.int .i64 u.1) ∧ w'.cell? ⟨w.heap.size, 1, none⟩ = some (.int .i64 u.2) ∧ w'.cell? ⟨w.heap.size + 1, 0, none⟩ = some (.int .i64 v.1) ∧ w'.cell? ⟨w.heap.size + 1, 1, none⟩ = some (.int .i64 v.2) ∧ (Instr.lookup 82 (.map (some B)) (.agg #[.int .i64 u.1, .int .i64 u.2]) false).run Tryd.prog w' = .ok (.map (some b)) w' ∧ (Instr.lookup 85 (.map (some b)) (.agg #[.int .i64 v.1, .int .i64 v.2]) false).run Tryd.prog w' = .ok (.int .i64 x) w') rfl (by kernel_rfl) (⟨HB2.out.cell 0, HU.out.cell 0, HU.out.cell 1, HV.out.cell 0, HV.out.cell 1, LK1.out _ HL2.out.drew.outer, LK2.out _ _ (HL2.out.drew.inner u b HB.out) HDV.out⟩) (fun hF0 => ?_)
  (refine wpAnyP_loadL (i := 0) (v := ?_) rfl (by kernel_rfl) (by kernel_rfl) (by kernel_rfl) (by rfl) (fun _ _ _ h => h) hF0 (by rfl) ?_ ?_; rotate_left 1; focus (intro w hFw; (try dsimp only at hFw); go_split_ands; go_simp; try with_reducible rfl))
  try simp only [Act.put, List.setIfInBounds_toArray, List.set_cons_zero, List.set_cons_succ]
  (refine wpAnyP_loadL (i := 1) (v := ?_) rfl (by kernel_rfl) (by kernel_rfl) (by kernel_rfl) (by rfl) (fun _ _ _ h => h) hF0 (by rfl) ?_ ?_; rotate_left 1; focus (intro w hFw; (try dsimp only at hFw); go_split_ands; go_simp; try with_reducible rfl))
  try simp only [Act.put, List.setIfInBounds_toArray, List.set_cons_zero, List.set_cons_succ]
  (refine wpAnyP_loadL (i := 2) (v := ?_) rfl (by kernel_rfl) (by kernel_rfl) (by kernel_rfl) (by rfl) (fun _ _ _ h => h) hF0 (by rfl) ?_ ?_; rotate_left 1; focus (intro w hFw; (try dsimp only at hFw); go_split_ands; go_simp; try with_reducible rfl))
  try simp only [Act.put, List.setIfInBounds_toArray, List.set_cons_zero, List.set_cons_succ]
  (refine wpAnyP_loadL (i := 3) (v := ?_) rfl (by kernel_rfl) (by kernel_rfl) (by kernel_rfl) (by rfl) (fun _ _ _ h => h) hF0 (by rfl) ?_ ?_; rotate_left 1; focus (intro w hFw; (try dsimp only at hFw); go_split_ands; go_simp; try with_reducible rfl))
  try simp only [Act.put, List.setIfInBounds_toArray, List.set_cons_zero, List.set_cons_succ]
  (refine wpAnyP_loadL (i := 4) (v := ?_) rfl (by kernel_rfl) (by kernel_rfl) (by kernel_rfl) (by rfl) (fun _ _ _ h => h) hF0 (by rfl) ?_ ?_; rotate_left 1; focus (intro w hFw; (try dsimp only at hFw); go_split_ands; go_simp; try with_reducible rfl))
  try simp only [Act.put, List.setIfInBounds_toArray, List.set_cons_zero, List.set_cons_succ]
  (refine wpAnyP_takeL (i := 5) (v := ?_) rfl (by kernel_rfl) (by kernel_rfl) (by kernel_rfl) (fun _ _ _ h => h) (by rfl) ?_ ?_; rotate_left 1; focus (intro w; go_simp; try with_reducible rfl))
  try simp only [Act.put, List.setIfInBounds_toArray, List.set_cons_zero, List.set_cons_succ]
  (refine wpAnyP_takeL (i := 6) (v := ?_) rfl (by kernel_rfl) (by kernel_rfl) (by kernel_rfl) (fun _ _ _ h => h) (by rfl) ?_ ?_; rotate_left 1; focus (intro w; go_simp; try with_reducible rfl))
  try simp only [Act.put, List.setIfInBounds_toArray, List.set_cons_zero, List.set_cons_succ]
  refine wpAnyP_step (i := 7) rfl (by kernel_rfl) (by rfl) (fun K hK => ?_)
  (refine wp_entryK _ _ rfl kkPl Tryd.underlying85 zeroI b _ rfl (HL2.out.drew.inner u b HB.out) v rfl hv _ HDV.out ?_; intro w1 st hk1 hg1 hs1 hst; have HG1 := Lib.hid hg1; have HK1 := Lib.hid hk1; have HST := Lib.hid hst; clear hg1 hk1 hst)
  (refine hK _ _ (⟨(HB2.out.drew.grown HG1.out (fun e => by injection e with e; exact hbl e)).cell 0, (HU.out.drew.grown HG1.out (fun e => by injection e with e; exact hbu e)).cell 0, (HU.out.drew.grown HG1.out (fun e => by injection e with e; exact hbu e)).cell 1, (HV.out.drew.grown HG1.out (fun e => by injection e with e; exact hbv e)).cell 0, (HV.out.drew.grown HG1.out (fun e => by injection e with e; exact hbv e)).cell 1, LK1.out _ (HL2.out.drew.outer.grown HG1.out (fun e => by injection e with e; exact hnb e.symm)), LK2.out _ _ HK1.out (by simp [updK])⟩) (fun hF1 => ?_); clear hK K hF0)
  try simp only [Act.put, List.setIfInBounds_toArray, List.set_cons_zero, List.set_cons_succ]
  (refine wpAnyP_takeL (i := 8) (v := ?_) rfl (by kernel_rfl) (by kernel_rfl) (by kernel_rfl) (fun _ _ _ h => h) (by rfl) ?_ ?_; rotate_left 1; focus (intro w; go_simp; try with_reducible rfl))
  try simp only [Act.put, List.setIfInBounds_toArray, List.set_cons_zero, List.set_cons_succ]
  refine wpAnyP_last (i := 9) rfl (by kernel_rfl) (by kernel_rfl) (by rfl) (fun K hK => ?_)
  (obtain ⟨w2, hr2, hk2, hg2, hs2⟩ := HST.out (.int .i64 (x + g)); refine wp_storeK _ _ _ rfl b st (.int .i64 (x + g)) rfl rfl rfl hr2 ?_)
  (refine hK _ _ ?_; clear hK K)
  try simp only [Act.put, List.setIfInBounds_toArray, List.set_cons_zero, List.set_cons_succ]
  refine wpAnyP_done (by kernel_rfl) ?_ _
  go_wp2_with fail
  go_end0
  have hX := HX.out
  refine ⟨rfl, ⟨_, _, HL2.out.drew.write hvs HB.out g (by rw [← hX]; exact hk2) hg2⟩, HK0.out.drew.trans (Kc.of_grown hg2 (Nat.le_trans hn HK0.out.size) fun b' e => ?_)⟩
  cases e
  exact ⟨(HL2.out.n0b u b HB.out).1, (HL2.out.drew.inner u b HB.out).soft⟩

/-- so many grams more may go from a place to another one -/
theorem add_any (n₀ : Nat) (vs : List Pl) (av B Bl : Nat) (R : Pl → Pl → Int) (u v : Pl) (g : Int) (w : World) (hL : Left n₀ vs av w B R)
    (hBl : Blk w Bl 82 #[.map (some B)]) (hn : n₀ ≤ w.heap.size) (hu : okV u) (hv : okV v) (hvs : v ∈ vs) (h1 : -1152921504606846976 ≤ R u v) (h2 : R u v ≤ 1152921504606846976) (h3 : -1152921504606846976 ≤ g) (h4 : g ≤ 1152921504606846976) :
    Calls Tryd.prog 42 #[plV u, plV v, .int .i64 g, .pointer (some ⟨Bl, 0, none⟩)] w fun e w' => e = .returned (.tuple #[]) ∧ Left n₀ vs av w' B (updR R u v g) ∧ Kc n₀ w w' := by
  obtain ⟨m, c, hL⟩ := hL
  cases hb : m u with
  | none => exact add_none n₀ vs av B Bl R m c u v g w hL hb hBl hn hu hv hvs h3 h4
  | some b => exact add_some n₀ vs av B Bl b R m c u v g w hL hb hBl hn hu hv hvs h1 h2 h3 h4
end Go.Proofs.YtkphgdkjjklajaaDoor
