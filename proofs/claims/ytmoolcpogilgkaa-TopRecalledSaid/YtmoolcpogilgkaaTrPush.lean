/-
  Places as keys of maps. trace.most's add: so many grams more may go from a place to another one. trace.most's push: as much as can be is brought from a place to the sink, on one way; or all places that can be come to have been met.
-/
import Derived.Test.YtmoolcpogilgkaaNetMap
import Derived.DeepKeys4
import Derived.WideKeyArgs2
import Derived.Test.YtmoolcpogilgkaaReg
import Derived.BigQuiet
import Derived.Deep.CutRange
import Derived.Test.YtmoolcpogilgkaaPushLaw
import Derived.Outline
set_option linter.unusedVariables false
set_option linter.unusedSimpArgs false
namespace Go.Proofs.Ytmoolcpogilgkaa
open Go.RowKit

theorem laidOut : laidOutB Try.prog = true := by kernel_rfl
theorem rowPl : (125 : TypeId) < Try.prog.types.size := of_decide_eq_true (by kernel_rfl)
theorem widePl : (match Try.prog.underlying 125 with | some (.array _ _) | some (.struct _) => true | _ => false) = true := by rw [Try.underlying125]
set_option maxRecDepth 100000 in
theorem lawPl : WideMaps.KeyLaw Try.prog 125 := deep_law_laid laidOut (m := 2) (by omega) rowPl (by kernel_rfl) widePl
theorem keyPl (p : Pl) (h : okV p) : ∃ l, keyOf Try.prog 125 (plV p) = some l := by
  have hk : Try.prog.keyType 125 = true := by kernel_rfl
  have hc : Try.prog.cellsOf 125 = 2 := by kernel_rfl
  have hi : Try.prog.cellsOf 3 = 1 := by kernel_rfl
  have hs : ∃ m, Try.prog.types.size = m + 1 := ⟨Try.prog.types.size - 1, by have h1 : (125 : Nat) < Try.prog.types.size := rowPl; omega⟩
  obtain ⟨m, hm⟩ := hs
  refine ⟨.string (keyBytes [.int .i64 p.1, .int .i64 p.2]), ?_⟩
  unfold keyOf
  simp only [Try.underlying125]
  rw [if_pos (by simp [hk, Value.formed, Try.underlying125, hc]), hm]
  unfold Program.keyLits
  simp only [Try.underlying125, Value.cells]
  simp [hc, hi, Program.keyLits, Try.underlying3, h.1, h.2]
theorem kkPl : KeyK Try.prog 125 plV okV := ⟨Go.Maps.Keyed.of_law lawPl, keyPl, fun a b h => by
  injection h with h
  have h1 := congrArg Array.toList h
  simp only [List.cons.injEq, Value.int.injEq, true_and, and_true] at h1
  exact Prod.ext h1.1 h1.2⟩
theorem kkInt : KeyK Try.prog 3 (Value.int .i64) (fun a => (Lit.int .i64 a).wf = true) := keyK_int Try.underlying3
end Go.Proofs.Ytmoolcpogilgkaa

namespace Go.Proofs.Ytmoolcpogilgkaa
open Go.RowKit

theorem zeroPI (w : World) : (zeroValue 126).run Try.prog w = .ok (.map none) w := by kernel_rfl
theorem zeroI (w : World) : (zeroValue 3).run Try.prog w = .ok (.int .i64 0) w := by kernel_rfl
theorem zeroB (w : World) : (zeroValue 4).run Try.prog w = .ok (.bool false) w := by kernel_rfl

theorem eqPI_some (b : Nat) (w : World) : (binOp BinOp.eql 126 (.map (some b)) (.map none)).run Try.prog w = .ok (.bool false) w := by kernel_rfl
theorem eqPI_none (w : World) : (binOp BinOp.eql 126 (.map none) (.map none)).run Try.prog w = .ok (.bool true) w := by kernel_rfl
abbrev kPl (u : Pl) : Obj := .cells #[.int .i64 u.1, .int .i64 u.2] 125

theorem wp_entryK {P : Program} {K E T : TypeId} {α : Type} [DecidableEq α] {enc : α → Value} {ok : α → Prop} {w : World} {o : Oper} {a : Act} {K' : Act → World → Prop} {Q : Exit → Act → World → Prop} (m x : Operand) (hop : o.op = Op.mapEntry T m x)
    (KK : KeyK P K enc ok) (ht : P.underlying T = some (.map K E)) {Z : Value} (hZ : ∀ w, (zeroValue E).run P w = .ok Z w) (b : Nat) (c : α → Option Value) (hm : a.eval m = .map (some b)) (h : KMap enc ok w b c) (q : α) (hx : a.eval x = enc q) (hq : ok q)
    (y : Value) (hy : (c q).getD Z = y)
    (hK : ∀ (w1 : World) (st : Nat), KMap enc ok w1 b (updK c q y) → w.grownBy w1 (some b) → w1.heap.size = w.heap.size →
      (∀ v : Value, ∃ w2, (Instr.entryStore T (.map (some b)) (goInt st) v).run P w1 = .ok () w2 ∧ KMap enc ok w2 b (updK c q v) ∧ w.grownBy w2 (some b) ∧ w2.heap.size = w.heap.size) → K' (a.put o.dst (.tuple #[y, goInt st])) w1) : o.wp P a w K' Q := by
  obtain ⟨w1, st, hrun, r1, r2, r3, r4⟩ := run_entryK KK ht hZ h q hq
  rw [hy] at hrun r1
  unfold Oper.wp
  simp [execOp, hop, hm, hx, hrun, Result.andThen]
  exact hK w1 st r1 r2 r3 r4
theorem wp_storeK {P : Program} {T : TypeId} {w : World} {o : Oper} {a : Act} {K' : Act → World → Prop} {Q : Exit → Act → World → Prop} (m s v : Operand) (hop : o.op = Op.entryStore T m s v) (b st : Nat) (y : Value) (hm : a.eval m = .map (some b))
    (hs : a.eval s = goInt st) (hv : a.eval v = y) {w2 : World} (hrun : (Instr.entryStore T (.map (some b)) (goInt st) y).run P w = .ok () w2) (hK : K' (a.put o.dst undef) w2) : o.wp P a w K' Q := by
  unfold Oper.wp
  simp [execOp, hop, hm, hs, hv, hrun, Result.andThen]
  exact hK

set_option maxRecDepth 100000 in
set_option maxHeartbeats 1000000 in
/-- the place has a map -/
theorem add_some (n₀ : Nat) (vs : List Pl) (av B Bl b : Nat) (R : Pl → Pl → Int) (m : Pl → Option Nat) (c : Pl → Pl → Option Int) (u v : Pl) (g : Int) (w : World) (hL : LeftAt n₀ vs av w B R m c) (hb : m u = some b)
    (hBl : Blk w Bl 123 #[.map (some B)]) (hn : n₀ ≤ w.heap.size) (hu : okV u) (hv : okV v) (hvs : v ∈ vs) (h1 : -1152921504606846976 ≤ R u v) (h2 : R u v ≤ 1152921504606846976) (h3 : -1152921504606846976 ≤ g) (h4 : g ≤ 1152921504606846976) :
    Calls Try.prog 57 #[plV u, plV v, .int .i64 g, .pointer (some ⟨Bl, 0, none⟩)] w fun e w' => e = .returned (.tuple #[]) ∧ Left n₀ vs av w' B (updR R u v g) ∧ Kc n₀ w w' := by
  have hlt := hL.outer.lt
  have hblt := hBl.lt
  have hin := hL.inner u b hb
  have hilt := hin.lt
  rw [hL.val] at h1 h2
  obtain ⟨x, hx⟩ : ∃ x, x = (c u v).getD 0 := ⟨_, rfl⟩
  rw [← hx] at h1 h2
  have hwr : IntKind.i64.wrap (x + g) = x + g := IntWalk.i64_in _ (by omega)
  have hL2 := (hL.alloc (kPl u)).alloc (kPl v)
  have hB2 := (hBl.alloc (kPl u)).alloc (kPl v)
  have hU := (Blk.new w 125 #[.int .i64 u.1, .int .i64 u.2]).alloc (kPl v)
  have hV := Blk.new (w.alloc (kPl u)) 125 #[.int .i64 v.1, .int .i64 v.2]
  have e10 := eqPI_some b ((w.alloc (kPl u)).alloc (kPl v))
  have HB := Lib.hid hb
  have HX := Lib.hid hx
  have hlk1 : ∀ W, KMap plV okV W B (fun u => (m u).map fun b => .map (some b)) → (Instr.lookup 123 (.map (some B)) (plV u) false).run Try.prog W = .ok (.map (some b)) W := fun W h => by
    have := run_lookupK kkPl Try.underlying123 zeroPI h u hu
    rw [hb] at this; exact this
  have hlk2 : ∀ W d, KMap plV okV W b d → (d v).getD (.int .i64 0) = .int .i64 x → (Instr.lookup 126 (.map (some b)) (plV v) false).run Try.prog W = .ok (.int .i64 x) W := fun W d h h' => by
    have := run_lookupK kkPl Try.underlying126 zeroI h v hv
    rw [h'] at this; exact this
  have hdv : ((fun v => (c u v).map (Value.int .i64)) v).getD (.int .i64 0) = .int .i64 x := by
    show ((c u v).map (Value.int .i64)).getD (.int .i64 0) = .int .i64 x
    rw [hx]
    generalize c u v = z
    cases z <;> rfl
  have LK1 := Lib.hid hlk1
  have LK2 := Lib.hid hlk2
  have HDV := Lib.hid hdv
  have c3 := hB2.cell 0
  have l1 := hlk1 _ hL2.outer
  have HL2 := Lib.hid hL2
  have HU := Lib.hid hU
  have HV := Lib.hid hV
  have HB2 := Lib.hid hB2
  clear hL hin hb hx hlk1 hlk2 hdv hL2 hU hV hB2 hBl
  go_enter Try.func57, Try.ntmps57
  go_upto_region 3 with (fail)
  clear c3 e10 l1
  obtain ⟨W, hW⟩ : ∃ W, ((w.alloc (kPl u)).alloc (kPl v)) = W := ⟨_, rfl⟩
  have hz : W.heap.size = w.heap.size + 2 := by rw [← hW]; simp
  have hK0 : Kc n₀ w W := by rw [← hW]; exact ((Kc.refl n₀ w).alloc hn _).alloc (by simp; omega) _
  simp only [World.size_alloc] at HV
  rw [hW] at HL2 HU HV HB2 ⊢
  have hnb : b ≠ B := (HL2.out.n0b u b HB.out).2.1
  have hbu : w.heap.size ≠ b := by omega
  have hbv : w.heap.size + 1 ≠ b := by omega
  have hbl : Bl ≠ b := fun e => (HL2.out.inner u b HB.out).notB HB2.out e.symm
  have HK0 := Lib.hid hK0
  clear hW hz hK0
  refine wp_region_PL [0, 1, 2, 3, 4] (fun w' => w'.cell? ⟨Bl, 0, none⟩ = some (.map (some B)) ∧ w'.cell? ⟨w.heap.size, 0, none⟩ = some (.int .i64 u.1) ∧ w'.cell? ⟨w.heap.size, 1, none⟩ = some (.int .i64 u.2) ∧ w'.cell? ⟨w.heap.size + 1, 0, none⟩ = some (.int .i64 v.1) ∧ w'.cell? ⟨w.heap.size + 1, 1, none⟩ = some (.int .i64 v.2) ∧ (Instr.lookup 123 (.map (some B)) (.agg #[.int .i64 u.1, .int .i64 u.2]) false).run Try.prog w' = .ok (.map (some b)) w' ∧ (Instr.lookup 126 (.map (some b)) (.agg #[.int .i64 v.1, .int .i64 v.2]) false).run Try.prog w' = .ok (.int .i64 x) w') rfl (by kernel_rfl) (⟨HB2.out.cell 0, HU.out.cell 0, HU.out.cell 1, HV.out.cell 0, HV.out.cell 1, LK1.out _ HL2.out.drew.outer, LK2.out _ _ (HL2.out.drew.inner u b HB.out) HDV.out⟩) (fun hF0 => ?_)
  (refine wpAnyP_loadL (i := 0) (v := ?_) rfl (by kernel_rfl) (by kernel_rfl) (by kernel_rfl) (by rfl) (fun _ _ _ h => h) hF0 (by rfl) ?_ ?_; rotate_left 1; focus (intro w hFw; (try dsimp only at hFw); go_split_ands; go_simp; try with_reducible rfl))
  try simp only [Act.put, List.setIfInBounds_toArray, List.set_cons_zero, List.set_cons_succ]
  (refine wpAnyP_loadL (i := 1) (v := ?_) rfl (by kernel_rfl) (by kernel_rfl) (by kernel_rfl) (by rfl) (fun _ _ _ h => h) hF0 (by rfl) ?_ ?_; rotate_left 1; focus (intro w hFw; (try dsimp only at hFw); go_split_ands; go_simp; try with_reducible rfl))
  try simp only [Act.put, List.setIfInBounds_toArray, List.set_cons_zero, List.set_cons_succ]
  (refine wpAnyP_loadL (i := 2) (v := ?_) rfl (by kernel_rfl) (by kernel_rfl) (by kernel_rfl) (by rfl) (fun _ _ _ h => h) hF0 (by rfl) ?_ ?_; rotate_left 1; focus (intro w hFw; (try dsimp only at hFw); go_split_ands; go_simp; try with_reducible rfl))
  try simp only [Act.put, List.setIfInBounds_toArray, List.set_cons_zero, List.set_cons_succ]
  (refine wpAnyP_loadL (i := 3) (v := ?_) rfl (by kernel_rfl) (by kernel_rfl) (by kernel_rfl) (by rfl) (fun _ _ _ h => h) hF0 (by rfl) ?_ ?_; rotate_left 1; focus (intro w hFw; (try dsimp only at hFw); go_split_ands; go_simp; try with_reducible rfl))
  try simp only [Act.put, List.setIfInBounds_toArray, List.set_cons_zero, List.set_cons_succ]
  (refine wpAnyP_loadL (i := 4) (v := ?_) rfl (by kernel_rfl) (by kernel_rfl) (by kernel_rfl) (by rfl) (fun _ _ _ h => h) hF0 (by rfl) ?_ ?_; rotate_left 1; focus (intro w hFw; (try dsimp only at hFw); go_split_ands; go_simp; try with_reducible rfl))
  try simp only [Act.put, List.setIfInBounds_toArray, List.set_cons_zero, List.set_cons_succ]
  (refine wpAnyP_takeL (i := 5) (v := ?_) rfl (by kernel_rfl) (by kernel_rfl) (by kernel_rfl) (fun _ _ _ h => h) (by rfl) ?_ ?_; rotate_left 1; focus (intro w; go_simp; try with_reducible rfl))
  try simp only [Act.put, List.setIfInBounds_toArray, List.set_cons_zero, List.set_cons_succ]
  (refine wpAnyP_takeL (i := 6) (v := ?_) rfl (by kernel_rfl) (by kernel_rfl) (by kernel_rfl) (fun _ _ _ h => h) (by rfl) ?_ ?_; rotate_left 1; focus (intro w; go_simp; try with_reducible rfl))
  try simp only [Act.put, List.setIfInBounds_toArray, List.set_cons_zero, List.set_cons_succ]
  refine wpAnyP_step (i := 7) rfl (by kernel_rfl) (by rfl) (fun K hK => ?_)
  (refine wp_entryK _ _ rfl kkPl Try.underlying126 zeroI b _ rfl (HL2.out.drew.inner u b HB.out) v rfl hv _ HDV.out ?_; intro w1 st hk1 hg1 hs1 hst; have HG1 := Lib.hid hg1; have HK1 := Lib.hid hk1; have HST := Lib.hid hst; clear hg1 hk1 hst)
  (refine hK _ _ (⟨(HB2.out.drew.grown HG1.out (fun e => by injection e with e; exact hbl e)).cell 0, (HU.out.drew.grown HG1.out (fun e => by injection e with e; exact hbu e)).cell 0, (HU.out.drew.grown HG1.out (fun e => by injection e with e; exact hbu e)).cell 1, (HV.out.drew.grown HG1.out (fun e => by injection e with e; exact hbv e)).cell 0, (HV.out.drew.grown HG1.out (fun e => by injection e with e; exact hbv e)).cell 1, LK1.out _ (HL2.out.drew.outer.grown HG1.out (fun e => by injection e with e; exact hnb e.symm)), LK2.out _ _ HK1.out (by simp [updK])⟩) (fun hF1 => ?_); clear hK K hF0)
  try simp only [Act.put, List.setIfInBounds_toArray, List.set_cons_zero, List.set_cons_succ]
  (refine wpAnyP_takeL (i := 8) (v := ?_) rfl (by kernel_rfl) (by kernel_rfl) (by kernel_rfl) (fun _ _ _ h => h) (by rfl) ?_ ?_; rotate_left 1; focus (intro w; go_simp; try with_reducible rfl))
  try simp only [Act.put, List.setIfInBounds_toArray, List.set_cons_zero, List.set_cons_succ]
  refine wpAnyP_last (i := 9) rfl (by kernel_rfl) (by kernel_rfl) (by rfl) (fun K hK => ?_)
  (obtain ⟨w2, hr2, hk2, hg2, hs2⟩ := HST.out (.int .i64 (x + g)); refine wp_storeK _ _ _ rfl b st (.int .i64 (x + g)) rfl rfl rfl hr2 ?_)
  (refine hK _ _ ?_; clear hK K)
  try simp only [Act.put, List.setIfInBounds_toArray, List.set_cons_zero, List.set_cons_succ]
  refine wpAnyP_done (by kernel_rfl) ?_ _
  go_wp2_with fail
  go_end0
  have hX := HX.out
  refine ⟨rfl, ⟨_, _, HL2.out.drew.write hvs HB.out g (by rw [← hX]; exact hk2) hg2⟩, HK0.out.drew.trans (Kc.of_grown hg2 (Nat.le_trans hn HK0.out.size) fun b' e => ?_)⟩
  cases e
  exact ⟨(HL2.out.n0b u b HB.out).1, (HL2.out.drew.inner u b HB.out).soft⟩

set_option maxRecDepth 100000 in
set_option maxHeartbeats 1000000 in
/-- the place has none yet -/
theorem add_none (n₀ : Nat) (vs : List Pl) (av B Bl : Nat) (R : Pl → Pl → Int) (m₀ : Pl → Option Nat) (c : Pl → Pl → Option Int) (u v : Pl) (g : Int) (w : World) (hL : LeftAt n₀ vs av w B R m₀ c) (hb : m₀ u = none)
    (hBl : Blk w Bl 123 #[.map (some B)]) (hn : n₀ ≤ w.heap.size) (hu : okV u) (hv : okV v) (hvs : v ∈ vs) (h3 : -1152921504606846976 ≤ g) (h4 : g ≤ 1152921504606846976) :
    Calls Try.prog 57 #[plV u, plV v, .int .i64 g, .pointer (some ⟨Bl, 0, none⟩)] w fun e w' => e = .returned (.tuple #[]) ∧ Left n₀ vs av w' B (updR R u v g) ∧ Kc n₀ w w' := by
  have hlt := hL.outer.lt
  have hblt := hBl.lt
  obtain ⟨x, hx⟩ : ∃ x, x = (c u v).getD 0 := ⟨_, rfl⟩
  have hx0 : x = 0 := by rw [hx, hL.no u hb v]; rfl
  have hwr : IntKind.i64.wrap (x + g) = x + g := IntWalk.i64_in _ (by omega)
  have hL2 := (hL.alloc (kPl u)).alloc (kPl v)
  have hB2 := (hBl.alloc (kPl u)).alloc (kPl v)
  have hU := (Blk.new w 125 #[.int .i64 u.1, .int .i64 u.2]).alloc (kPl v)
  have hV := Blk.new (w.alloc (kPl u)) 125 #[.int .i64 v.1, .int .i64 v.2]
  have e10 := eqPI_none ((w.alloc (kPl u)).alloc (kPl v))
  have hmm := @run_makeMap Try.prog
  have HX := Lib.hid hx
  have hdv : ((fun v => (c u v).map (Value.int .i64)) v).getD (.int .i64 0) = .int .i64 x := by
    show ((c u v).map (Value.int .i64)).getD (.int .i64 0) = .int .i64 x
    rw [hx]
    generalize c u v = z
    cases z <;> rfl
  have l1 : (Instr.lookup 123 (.map (some B)) (plV u) false).run Try.prog ((w.alloc (kPl u)).alloc (kPl v)) = .ok (.map none) ((w.alloc (kPl u)).alloc (kPl v)) := by
    have := run_lookupK kkPl Try.underlying123 zeroPI hL2.outer u hu
    rw [hb] at this; exact this
  have HDV := Lib.hid hdv
  have c3 := hB2.cell 0
  have HL2 := Lib.hid hL2
  have HU := Lib.hid hU
  have HV := Lib.hid hV
  have HB2 := Lib.hid hB2
  have HB0 := Lib.hid hb
  have HX0 := Lib.hid hx0
  clear hL hx hdv hL2 hU hV hB2 hBl hb hx0
  go_enter Try.func57, Try.ntmps57
  go_upto_region 3 with (at_mapUpdate; refine wpList_updateK _ rfl _ _ _ 123 126 rfl kkPl Try.underlying123 B _ rfl ((HL2.out.alloc (.map #[] 0)).outer) u rfl hu (.map (some (w.heap.size + 2))) rfl ?_; intro W hkW hgW hsW)
  clear c3 e10 l1 hmm
  have hBB : Bl ≠ B := fun e => HL2.out.outer.notB HB2.out e.symm
  obtain ⟨b, hbdef⟩ : ∃ b, b = w.heap.size + 1 + 1 := ⟨_, rfl⟩
  obtain ⟨m, hm⟩ : ∃ m : Pl → Option Nat, m = fun u' => if u' = u then some b else m₀ u' := ⟨_, rfl⟩
  have hb : m u = some b := by rw [hm]; simp
  have hz2 : ((w.alloc (kPl u)).alloc (kPl v)).heap.size = b := by simp [hbdef]
  have hfr : LeftAt n₀ vs av W B R m c := by
    rw [hm, ← hz2]
    exact HL2.out.fresh (by simp; omega) HB0.out (by rw [hz2, hbdef]; exact hkW) hgW
  have hK0 : Kc n₀ w W := (((((Kc.refl n₀ w).alloc hn _).alloc (by simp; omega) _).alloc (by simp; omega) _)).trans (Kc.of_grown hgW (by simp; omega) fun b' e => by cases e; exact ⟨HL2.out.n0B, (HL2.out.outer.alloc _).soft⟩)
  simp only [World.size_alloc] at HV hsW
  replace HU := Lib.hid ((HU.out.alloc (.map #[] 0)).grown hgW (fun e => by injection e with e; omega))
  replace HV := Lib.hid ((HV.out.alloc (.map #[] 0)).grown hgW (fun e => by injection e with e; omega))
  replace HB2 := Lib.hid ((HB2.out.alloc (.map #[] 0)).grown hgW (fun e => by injection e with e; exact hBB e))
  replace HL2 := Lib.hid hfr
  have HB := Lib.hid hb
  have HK0 := Lib.hid hK0
  have hnb : b ≠ B := (HL2.out.n0b u b HB.out).2.1
  have hbu : w.heap.size ≠ b := by omega
  have hbv : w.heap.size + 1 ≠ b := by omega
  have hbl : Bl ≠ b := by omega
  have LK1 := Lib.hid (show ∀ W, KMap plV okV W B (fun u => (m u).map fun b => .map (some b)) → (Instr.lookup 123 (.map (some B)) (plV u) false).run Try.prog W = .ok (.map (some b)) W from fun W h => by
    have := run_lookupK kkPl Try.underlying123 zeroPI h u hu
    rw [hb] at this; exact this)
  have LK2 := Lib.hid (show ∀ W d, KMap plV okV W b d → (d v).getD (.int .i64 0) = .int .i64 x → (Instr.lookup 126 (.map (some b)) (plV v) false).run Try.prog W = .ok (.int .i64 x) W from fun W d h h' => by
    have := run_lookupK kkPl Try.underlying126 zeroI h v hv
    rw [h'] at this; exact this)
  rw [← hbdef]
  clear hkW hgW hsW hBB hm hb hz2 hfr hK0 hbdef
  simp only [Act.put]
  refine wp_region_PL [0, 1, 2, 3, 4] (fun w' => w'.cell? ⟨Bl, 0, none⟩ = some (.map (some B)) ∧ w'.cell? ⟨w.heap.size, 0, none⟩ = some (.int .i64 u.1) ∧ w'.cell? ⟨w.heap.size, 1, none⟩ = some (.int .i64 u.2) ∧ w'.cell? ⟨w.heap.size + 1, 0, none⟩ = some (.int .i64 v.1) ∧ w'.cell? ⟨w.heap.size + 1, 1, none⟩ = some (.int .i64 v.2) ∧ (Instr.lookup 123 (.map (some B)) (.agg #[.int .i64 u.1, .int .i64 u.2]) false).run Try.prog w' = .ok (.map (some b)) w' ∧ (Instr.lookup 126 (.map (some b)) (.agg #[.int .i64 v.1, .int .i64 v.2]) false).run Try.prog w' = .ok (.int .i64 x) w') rfl (by kernel_rfl) (⟨HB2.out.cell 0, HU.out.cell 0, HU.out.cell 1, HV.out.cell 0, HV.out.cell 1, LK1.out _ HL2.out.drew.outer, LK2.out _ _ (HL2.out.drew.inner u b HB.out) HDV.out⟩) (fun hF0 => ?_)
  (refine wpAnyP_loadL (i := 0) (v := ?_) rfl (by kernel_rfl) (by kernel_rfl) (by kernel_rfl) (by rfl) (fun _ _ _ h => h) hF0 (by rfl) ?_ ?_; rotate_left 1; focus (intro w hFw; (try dsimp only at hFw); go_split_ands; go_simp; try with_reducible rfl))
  try simp only [Act.put, List.setIfInBounds_toArray, List.set_cons_zero, List.set_cons_succ]
  (refine wpAnyP_loadL (i := 1) (v := ?_) rfl (by kernel_rfl) (by kernel_rfl) (by kernel_rfl) (by rfl) (fun _ _ _ h => h) hF0 (by rfl) ?_ ?_; rotate_left 1; focus (intro w hFw; (try dsimp only at hFw); go_split_ands; go_simp; try with_reducible rfl))
  try simp only [Act.put, List.setIfInBounds_toArray, List.set_cons_zero, List.set_cons_succ]
  (refine wpAnyP_loadL (i := 2) (v := ?_) rfl (by kernel_rfl) (by kernel_rfl) (by kernel_rfl) (by rfl) (fun _ _ _ h => h) hF0 (by rfl) ?_ ?_; rotate_left 1; focus (intro w hFw; (try dsimp only at hFw); go_split_ands; go_simp; try with_reducible rfl))
  try simp only [Act.put, List.setIfInBounds_toArray, List.set_cons_zero, List.set_cons_succ]
  (refine wpAnyP_loadL (i := 3) (v := ?_) rfl (by kernel_rfl) (by kernel_rfl) (by kernel_rfl) (by rfl) (fun _ _ _ h => h) hF0 (by rfl) ?_ ?_; rotate_left 1; focus (intro w hFw; (try dsimp only at hFw); go_split_ands; go_simp; try with_reducible rfl))
  try simp only [Act.put, List.setIfInBounds_toArray, List.set_cons_zero, List.set_cons_succ]
  (refine wpAnyP_loadL (i := 4) (v := ?_) rfl (by kernel_rfl) (by kernel_rfl) (by kernel_rfl) (by rfl) (fun _ _ _ h => h) hF0 (by rfl) ?_ ?_; rotate_left 1; focus (intro w hFw; (try dsimp only at hFw); go_split_ands; go_simp; try with_reducible rfl))
  try simp only [Act.put, List.setIfInBounds_toArray, List.set_cons_zero, List.set_cons_succ]
  (refine wpAnyP_takeL (i := 5) (v := ?_) rfl (by kernel_rfl) (by kernel_rfl) (by kernel_rfl) (fun _ _ _ h => h) (by rfl) ?_ ?_; rotate_left 1; focus (intro w; go_simp; try with_reducible rfl))
  try simp only [Act.put, List.setIfInBounds_toArray, List.set_cons_zero, List.set_cons_succ]
  (refine wpAnyP_takeL (i := 6) (v := ?_) rfl (by kernel_rfl) (by kernel_rfl) (by kernel_rfl) (fun _ _ _ h => h) (by rfl) ?_ ?_; rotate_left 1; focus (intro w; go_simp; try with_reducible rfl))
  try simp only [Act.put, List.setIfInBounds_toArray, List.set_cons_zero, List.set_cons_succ]
  refine wpAnyP_step (i := 7) rfl (by kernel_rfl) (by rfl) (fun K hK => ?_)
  (refine wp_entryK _ _ rfl kkPl Try.underlying126 zeroI b _ rfl (HL2.out.drew.inner u b HB.out) v rfl hv _ HDV.out ?_; intro w1 st hk1 hg1 hs1 hst; have HG1 := Lib.hid hg1; have HK1 := Lib.hid hk1; have HST := Lib.hid hst; clear hg1 hk1 hst)
  (refine hK _ _ (⟨(HB2.out.drew.grown HG1.out (fun e => by injection e with e; exact hbl e)).cell 0, (HU.out.drew.grown HG1.out (fun e => by injection e with e; exact hbu e)).cell 0, (HU.out.drew.grown HG1.out (fun e => by injection e with e; exact hbu e)).cell 1, (HV.out.drew.grown HG1.out (fun e => by injection e with e; exact hbv e)).cell 0, (HV.out.drew.grown HG1.out (fun e => by injection e with e; exact hbv e)).cell 1, LK1.out _ (HL2.out.drew.outer.grown HG1.out (fun e => by injection e with e; exact hnb e.symm)), LK2.out _ _ HK1.out (by simp [updK])⟩) (fun hF1 => ?_); clear hK K hF0)
  try simp only [Act.put, List.setIfInBounds_toArray, List.set_cons_zero, List.set_cons_succ]
  (refine wpAnyP_takeL (i := 8) (v := ?_) rfl (by kernel_rfl) (by kernel_rfl) (by kernel_rfl) (fun _ _ _ h => h) (by rfl) ?_ ?_; rotate_left 1; focus (intro w; go_simp; try with_reducible rfl))
  try simp only [Act.put, List.setIfInBounds_toArray, List.set_cons_zero, List.set_cons_succ]
  refine wpAnyP_last (i := 9) rfl (by kernel_rfl) (by kernel_rfl) (by rfl) (fun K hK => ?_)
  (obtain ⟨w2, hr2, hk2, hg2, hs2⟩ := HST.out (.int .i64 (x + g)); refine wp_storeK _ _ _ rfl b st (.int .i64 (x + g)) rfl rfl rfl hr2 ?_)
  (refine hK _ _ ?_; clear hK K)
  try simp only [Act.put, List.setIfInBounds_toArray, List.set_cons_zero, List.set_cons_succ]
  refine wpAnyP_done (by kernel_rfl) ?_ _
  go_wp2_with fail
  go_end0
  have hX := HX.out
  refine ⟨rfl, ⟨_, _, HL2.out.drew.write hvs HB.out g (by rw [← hX]; exact hk2) hg2⟩, HK0.out.drew.trans (Kc.of_grown hg2 (Nat.le_trans hn HK0.out.size) fun b' e => ?_)⟩
  cases e
  exact ⟨(HL2.out.n0b u b HB.out).1, (HL2.out.drew.inner u b HB.out).soft⟩

/-- so many grams more may go from a place to another one -/
theorem add_any (n₀ : Nat) (vs : List Pl) (av B Bl : Nat) (R : Pl → Pl → Int) (u v : Pl) (g : Int) (w : World) (hL : Left n₀ vs av w B R)
    (hBl : Blk w Bl 123 #[.map (some B)]) (hn : n₀ ≤ w.heap.size) (hu : okV u) (hv : okV v) (hvs : v ∈ vs) (h1 : -1152921504606846976 ≤ R u v) (h2 : R u v ≤ 1152921504606846976) (h3 : -1152921504606846976 ≤ g) (h4 : g ≤ 1152921504606846976) :
    Calls Try.prog 57 #[plV u, plV v, .int .i64 g, .pointer (some ⟨Bl, 0, none⟩)] w fun e w' => e = .returned (.tuple #[]) ∧ Left n₀ vs av w' B (updR R u v g) ∧ Kc n₀ w w' := by
  obtain ⟨m, c, hL⟩ := hL
  cases hb : m u with
  | none => exact add_none n₀ vs av B Bl R m c u v g w hL hb hBl hn hu hv hvs h3 h4
  | some b => exact add_some n₀ vs av B Bl b R m c u v g w hL hb hBl hn hu hv hvs h1 h2 h3 h4
end Go.Proofs.Ytmoolcpogilgkaa

namespace Go.Proofs.Ytmoolcpogilgkaa
open Go.RowKit

theorem eqPl (p q : Pl) (w : World) : (binOp BinOp.eql 125 (plV p) (plV q)).run Try.prog w = .ok (.bool (decide (p.1 = q.1) && decide (p.2 = q.2))) w := by
  go_simp
  by_cases hp : p.1 = q.1 <;> by_cases hq : p.2 = q.2 <;> simp [hp, hq]
theorem eqPl_g (x y : Operand) (p q : Pl) (w : World) : (eqGuard BinOp.eql 125 x y (plV p) (plV q)).run Try.prog w = .ok () w := by
  go_simp
theorem eqPl_t (p : Pl) (w : World) : (binOp BinOp.eql 125 (plV p) (plV p)).run Try.prog w = .ok (.bool true) w := by rw [eqPl]; simp
theorem eqPl_f {p q : Pl} (h : p ≠ q) (w : World) : (binOp BinOp.eql 125 (plV p) (plV q)).run Try.prog w = .ok (.bool false) w := by
  rw [eqPl]
  have : (decide (p.1 = q.1) && decide (p.2 = q.2)) = false := by
    cases h1 : (decide (p.1 = q.1) && decide (p.2 = q.2))
    · rfl
    · simp at h1; exact absurd (Prod.ext h1.1 h1.2) h
  rw [this]

/-- '==' by what it comes to -/
theorem wpList_eqK {P : Program} {w : World} {ops : Array Oper} {rest : List Oper} {o : Oper} {a : Act} {Q : Exit → Act → World → Prop} (hg : o.guard = none) (x y : Operand) (T ty : TypeId) (hop : o.op = Op.binOp .eql T x y ty)
    {u v r : Value} (hx : a.eval x = u) (hy : a.eval y = v) (hgd : (eqGuard BinOp.eql T x y u v).run P w = .ok () w) (hrun : (binOp BinOp.eql T u v).run P w = .ok r w) (hK : wpList P ops Q rest (a.put o.dst r) w) : wpList P ops Q (o :: rest) a w := by
  refine wpList_plain hg fun K' hK' => ?_
  unfold Oper.wp
  simp [execOp, hop, hx, hy, hgd, hrun, Result.andThen]
  exact hK' _ _ hK

/-- what push captures -/
structure PEnv (w : World) (Bs Bt Bl Bk Bp Ba Bm B : Nat) (z : Pl) (k : Int) : Prop where
  s : Blk w Bs 125 #[.int .i64 z.1, .int .i64 z.2]
  t : Blk w Bt 133 #[.map (some Bm)]
  l : Blk w Bl 123 #[.map (some B)]
  k : Blk w Bk 3 #[.int .i64 k]
  p : Blk w Bp 134 #[.func (.func 59) #[] #[.pointer (some ⟨Bs, 0, none⟩), .pointer (some ⟨Bt, 0, none⟩), .pointer (some ⟨Bl, 0, none⟩), .pointer (some ⟨Bk, 0, none⟩), .pointer (some ⟨Bp, 0, none⟩), .pointer (some ⟨Ba, 0, none⟩)]]
  a : Blk w Ba 127 #[.func (.func 57) #[] #[.pointer (some ⟨Bl, 0, none⟩)]]
section
variable {w w' : World} {Bs Bt Bl Bk Bp Ba Bm B : Nat} {z : Pl} {k : Int}
theorem PEnv.kc {n₀ : Nat} (h : PEnv w Bs Bt Bl Bk Bp Ba Bm B z k) (hk : Kc n₀ w w') : PEnv w' Bs Bt Bl Bk Bp Ba Bm B z k :=
  ⟨h.s.kc hk, h.t.kc hk, h.l.kc hk, h.k.kc hk, h.p.kc hk, h.a.kc hk⟩
end

/-- how push ends -/
def PushPost (n₀ : Nat) (vs : List Pl) (cap : Pl → Pl → Int) (B Bm : Nat) (z : Pl) (k : Int) (M : Pl → Bool) (a : Pl) (g : Int) (R : Pl → Pl → Int) (w : World) (e : Ending) (w' : World) : Prop :=
  ∃ (n : Int) (R' : Pl → Pl → Int) (M' : Pl → Bool), e = .returned (.int .i64 n) ∧ Push vs cap R R' M M' a z k g n ∧ Left n₀ vs Bm w' B R' ∧ Kc n₀ w w' ∧ (n = 0 → KMap plV okV w' Bm (metF M') ∧ w.grownBy w' (some Bm))

/-- between two rounds of push's loop -/
structure PLoop (n₀ : Nat) (vs : List Pl) (R : Pl → Pl → Int) (m : Pl → Option Nat) (c : Pl → Pl → Option Int) (a : Pl) (Bm B r : Nat) (w wr : World) (M1 : Pl → Bool) (left : Pl → Prop) (cnt : Nat) : Prop where
  la : LeftAt n₀ vs Bm wr B R m c
  met : KMap plV okV wr Bm (metF M1)
  it : KIt plV okV wr r (m a) (fun v => (c a v).map (.int .i64)) left cnt
  kc : Kc n₀ w wr
  gr : w.grownBy wr (some Bm)
  u : Blk wr w.heap.size 125 #[.int .i64 a.1, .int .i64 a.2]
section
variable {n₀ : Nat} {vs : List Pl} {R : Pl → Pl → Int} {m : Pl → Option Nat} {c : Pl → Pl → Option Int} {a : Pl} {Bm B r : Nat} {w wr w' : World} {M1 M2 : Pl → Bool} {left left' : Pl → Prop} {cnt cnt' : Nat}
theorem PLoop.next (h : PLoop n₀ vs R m c a Bm B r w wr M1 left cnt) (hg : wr.grownBy w' (some r)) (hit : KIt plV okV w' r (m a) (fun v => (c a v).map (.int .i64)) left' cnt') (hn : n₀ ≤ w.heap.size) (hr : w.heap.size < r) :
    PLoop n₀ vs R m c a Bm B r w w' M1 left' cnt' := by
  have hno : NoMap wr (some r) := fun r' e => by cases e; exact h.it.noMap
  exact ⟨h.la.step hg hno, h.met.step hg hno, hit, h.kc.trans (Kc.of_grown hg (Nat.le_trans hn h.gr.size) fun b' e => by cases e; exact ⟨by omega, h.it.soft⟩),
    only_step hg h.gr (.inr (by omega)), h.u.grown hg (fun e => by injection e with e; omega)⟩
theorem PLoop.alloc (h : PLoop n₀ vs R m c a Bm B r w wr M1 left cnt) (hn : n₀ ≤ w.heap.size) (o : Obj) : PLoop n₀ vs R m c a Bm B r w (wr.alloc o) M1 left cnt :=
  ⟨h.la.alloc o, h.met.alloc o, h.it.grown (World.grownBy_alloc wr o none) (fun e => by cases e) (fun _ _ e => by cases e), h.kc.alloc (Nat.le_trans hn h.gr.size) o, only_alloc h.gr o, h.u.alloc o⟩
theorem PLoop.sub (h : PLoop n₀ vs R m c a Bm B r w wr M1 left cnt) (hg : wr.grownBy w' (some Bm)) (hm : KMap plV okV w' Bm (metF M2)) (hn : n₀ ≤ w.heap.size) (hb : n₀ ≤ Bm) : PLoop n₀ vs R m c a Bm B r w w' M2 left cnt :=
  ⟨h.la.other hg h.la.avB.symm (fun u b hb => (h.la.n0b u b hb).2.2.symm), hm, h.it.grown hg (fun e => by
      injection e with e
      obtain ⟨es, c, h1⟩ := h.met.isMap
      subst e
      exact h.it.noMap es c h1) (fun bm e e' => by injection e' with e'; exact (h.la.n0b a bm e).2.2 e'),
    h.kc.trans (Kc.of_grown hg (Nat.le_trans hn h.gr.size) fun b' e => by cases e; exact ⟨hb, h.met.soft⟩), only_trans h.gr hg, h.u.grown hg (fun e => by
      injection e with e
      exact h.met.notB h.u e.symm)⟩
end
theorem KMap.gr {n₀ : Nat} {w w' : World} {b : Nat} {m : Pl → Option Value} (h : KMap plV okV w b m) (hg : w.grownBy w' (some b)) (hn : n₀ ≤ b) : Kc n₀ w w' :=
  Kc.of_grown hg (by have := h.lt; omega) fun b' e => by cases e; exact ⟨hn, h.soft⟩

set_option maxRecDepth 100000 in
set_option maxHeartbeats 4000000 in
theorem push_any (n₀ : Nat) (vs : List Pl) (cap : Pl → Pl → Int) (Bs Bt Bl Bk Bp Ba Bm B : Nat) (z : Pl) (k : Int) (hvs : ∀ v ∈ vs, okV v) (hnd : vs.Nodup) (hk : 1 ≤ k) (hcap : ∀ u v, cap u v ≤ 1000000000) (hm0 : n₀ ≤ Bm) (N : Nat) :
    ∀ (M : Pl → Bool) (a : Pl) (g : Int) (R : Pl → Pl → Int) (D : Pl → Int) (w : World), unmet vs M ≤ N → PEnv w Bs Bt Bl Bk Bp Ba Bm B z k → Left n₀ vs Bm w B R → KMap plV okV w Bm (metF M) → n₀ ≤ w.heap.size →
      ResD vs cap R D → a ∈ vs → M a = false → M z = false → 1 ≤ g → g ≤ 1099511627776 →
    Calls Try.prog 59 #[plV a, .int .i64 g, .pointer (some ⟨Bs, 0, none⟩), .pointer (some ⟨Bt, 0, none⟩), .pointer (some ⟨Bl, 0, none⟩), .pointer (some ⟨Bk, 0, none⟩), .pointer (some ⟨Bp, 0, none⟩), .pointer (some ⟨Ba, 0, none⟩)] w
      (PushPost n₀ vs cap B Bm z k M a g R w) := by
  induction N with
  | zero =>
    intro M a g R D w hN _ _ _ _ _ ha hMa
    have : 0 < unmet vs M := Nat.lt_of_le_of_lt (Nat.zero_le _) (unmet_lt (M' := putM M a) (fun v h => putM_iff.2 (Or.inl h)) ha hMa (putM_self M a))
    omega
  | succ N ih =>
    intro M a g R D w hN hE hL hM hn hD ha hMa hMz hg1 hg2
    have hlt := hL.ltB
    have HE := Lib.hid hE
    have HL := Lib.hid hL
    have HM := Lib.hid hM
    have hU := Blk.new w 125 #[.int .i64 a.1, .int .i64 a.2]
    have hK1 : Kc n₀ w (w.alloc (kPl a)) := (Kc.refl n₀ w).alloc hn _
    have hE1 := hE.kc hK1
    have s0 := hE1.s.cell 0
    have s1 := hE1.s.cell 1
    have hT1 := hE1.t
    have u0 := hU.cell 0
    have u1 := hU.cell 1
    have HIH := Lib.hid ih
    have HD := Lib.hid hD
    have HVS := Lib.hid hvs
    have HCAP := Lib.hid hcap
    have HN := Lib.hid hN
    clear hE hL hM hE1 ih hD hU hvs hcap hN
    by_cases haz : a = z
    · subst haz
      go_enter Try.func59, Try.ntmps59
      go_wp2_with (refine wpList_eqK rfl (.tmp 14) (.tmp 15) 125 125 rfl rfl rfl (eqPl_g _ _ _ _ _) (eqPl_t a _) ?_)
      go_ret
      exact ⟨g, R, M, rfl, Push.here vs cap R M a k g (by omega), HL.out.alloc _, hK1, fun h => by omega⟩
    · have HAZ := Lib.hid haz
      clear haz
      have t0 := hT1.cell 0
      have hua : okV a := HVS.out a ha
      go_enter Try.func59, Try.ntmps59
      go_upto_region 4 with (first | (refine wpList_eqK rfl (.tmp 14) (.tmp 15) 125 125 rfl rfl rfl (eqPl_g _ _ _ _ _) (eqPl_f HAZ.out _) ?_) | (at_mapUpdate; refine wpList_updateK _ rfl _ _ _ 133 4 rfl kkPl Try.underlying133 Bm _ rfl (HM.out.alloc (kPl a)) a rfl hua (.bool true) rfl ?_; intro w1 hk1 hg1 hs1))
      obtain ⟨m, c, hLA⟩ := HL.out
      have hKm : Kc n₀ (w.alloc (kPl a)) w1 := (HM.out.alloc _).gr hg1 hm0
      have hE2 := (HE.out.kc hK1).kc hKm
      have hU2 : Blk w1 w.heap.size 125 #[.int .i64 a.1, .int .i64 a.2] := (Blk.new w _ _).kc hKm
      have hLA1 : LeftAt n₀ vs Bm w1 B R m c := (hLA.alloc _).other hg1 hLA.avB.symm (fun u b h => (hLA.n0b u b h).2.2.symm)
      have l22 : (Instr.lookup 123 (.map (some B)) (plV a) false).run Try.prog w1 = .ok (.map (m a)) w1 := by
        have := run_lookupK kkPl Try.underlying123 zeroPI hLA1.outer a hua
        rw [this]; cases m a <;> rfl
      have hO : KMapO plV okV w1 (m a) (fun v => (c a v).map (.int .i64)) := by
        cases hm : m a with
        | none => exact fun v => by show (c a v).map _ = none; rw [hLA.no a hm v]; rfl
        | some b => exact hLA1.inner a b hm
      have hGA : w.grownBy w1 (some Bm) := only_step hg1 (only_alloc (only_refl w Bm) _) (.inl rfl)
      have hKA := hK1.trans hKm
      rw [metF_put] at hk1
      have q0 := hE2.l.cell 0
      have v0 := hU2.cell 0
      have v1 := hU2.cell 1
      have HLA := Lib.hid hLA1
      have HO := Lib.hid hO
      have HK := Lib.hid hk1
      have HGA := Lib.hid hGA
      have HKA := Lib.hid hKA
      have HU := Lib.hid hU2
      have hz1 : w1.heap.size = w.heap.size + 1 := by rw [hs1]; simp
      have HZ := Lib.hid hz1
      clear hK1 hKm hE2 hU2 hLA1 hLA hO hk1 hGA hKA s0 s1 hT1 u0 u1 t0 hg1 hs1 hz1
      simp only [Act.put]
      go_wp2_with (refine wpList_rangeK _ rfl (.tmp 22) 126 3 rfl Try.underlying126 (m a) (fun v => (c a v).map (.int .i64)) rfl HO.out ?_; intro w2 cnt hit hg2 hs2)
      have HIT := Lib.hid hit
      have HG2 := Lib.hid hg2
      clear hit hg2 l22 q0 v0 v1
      go_frame
      go_loopw [11] (fun _ wr => ∃ M1 left cnt, PLoop n₀ vs R m c a Bm B w1.heap.size w wr M1 left cnt ∧ Turn vs R M M1 a z k left) (fun _ wr => itLeft wr w1.heap.size)
      case atStart =>
        refine ⟨putM M a, _, cnt, ⟨HLA.out.step HG2.out (NoMap.none _), HK.out.step HG2.out (NoMap.none _), HIT.out, HKA.out.trans (Kc.of_grown HG2.out (Nat.le_trans hn HKA.out.size) fun _ e => by cases e), ?_, HU.out.grown HG2.out (fun e => by cases e)⟩, ?_⟩
        rotate_left 1
        · refine Turn.start HAZ.out ha hMz fun v hv => ?_
          have : c a v = none := by
            cases h : c a v with
            | none => rfl
            | some x => exact absurd (by show ((c a v).map _).isSome = true; rw [h]; rfl) hv
          rw [HLA.out.val, this]
          show (0 : Int) < k
          omega
        · exact only_trans HGA.out (only_of_below ⟨HG2.out.os, HG2.out.tape, HG2.out.output, HG2.out.size, fun i hi => HG2.out.block i hi (fun e => by cases e)⟩ _)
      case round =>
        obtain ⟨M1, left, cnt, hP, hT⟩ := hrel
        have HP := Lib.hid hP
        have HT := Lib.hid hT
        have hit := hP.it
        have HCN := Lib.hid hit.cnt_eq
        have hr : w1.heap.size < wr.heap.size := hit.ltR
        rcases hit.next kkPl 0 with ⟨hl, hrun⟩ | ⟨q, x, w3, cnt', hq, hcq, hrun, hit3, hcnt, hg3, hs3, hent⟩
        · have HLl := Lib.hid hl
          clear hP hit hl hT
          go_wp2_with fail
          go_ret
          have h := HP.out
          exact ⟨0, R, M1, rfl, HT.out.end_ HLl.out (by omega), ⟨m, c, h.la⟩, h.kc, fun _ => ⟨h.met, h.gr⟩⟩
        · obtain ⟨x, rfl, hx⟩ : ∃ y, x = .int .i64 y ∧ c a q = some y := by
            cases h : c a q with
            | none => rw [h] at hcq; cases hcq
            | some y => rw [h] at hcq; injection hcq with e; exact ⟨y, e.symm, rfl⟩
          have hRx : R a q = x := by rw [HLA.out.val, hx]; rfl
          have hqv := HLA.out.keys a q x hx
          have hx0 := HD.out.nn a q
          have hx1 : R a q ≤ 2000000000 := by have h1 := HD.out.sy a q; have h2 := HD.out.nn q a; have h3 := HCAP.out a q; have h4 := HCAP.out q a; omega
          rw [hRx] at hx0 hx1
          have hP3 := hP.next hg3 hit3 hn (by have := HZ.out; omega)
          have hP4 := hP3.alloc hn (kPl q)
          have hE4 := HE.out.kc hP4.kc
          have hQ4 := Blk.new w3 125 #[.int .i64 q.1, .int .i64 q.2]
          have q0 := hQ4.cell 0
          have q1 := hQ4.cell 1
          have k0 := hE4.k.cell 0
          have t0 := hE4.t.cell 0
          have p0 := hE4.p.cell 0
          have a0 := hE4.a.cell 0
          have hsz4 : (w3.alloc (kPl q)).heap.size = w3.heap.size + 1 := by simp
          have hm4 : itLeft (w3.alloc (kPl q)) w1.heap.size = cnt' := hP4.it.cnt_eq
          have HP4 := Lib.hid hP4
          have HQ4 := Lib.hid hQ4
          have HE4 := Lib.hid hE4
          have HRX := Lib.hid hRx
          have HM4 := Lib.hid hm4
          have HS3 := Lib.hid hs3
          have hlk : (Instr.lookup 133 (.map (some Bm)) (plV q) false).run Try.prog (w3.alloc (kPl q)) = .ok (.bool (M1 q)) (w3.alloc (kPl q)) := by
            have := run_lookupK kkPl Try.underlying133 zeroB hP4.met q hq
            rw [this]
            unfold metF
            cases M1 q <;> rfl
          clear hP hit hT hx hcq hRx hit3 hg3 hP3 hP4 hE4 hQ4 hsz4 hm4 hs3
          by_cases hxk : x < k
          · clear hlk
            go_wp2_with fail
            go_roundw
            case rel => exact ⟨M1, _, cnt', HP4.out, HT.out.skip (v := q) (fun y h1 h2 => ⟨h1, h2⟩) (.inl (by rw [HRX.out]; exact hxk))⟩
            case measure => rw [HM4.out, HCN.out]; exact hcnt
          · cases hmq : M1 q with
            | true =>
              rw [hmq] at hlk
              have HMQ := Lib.hid hmq
              clear hmq
              go_wp2_with fail
              go_roundw
              case rel => exact ⟨M1, _, cnt', HP4.out, HT.out.skip (v := q) (fun y h1 h2 => ⟨h1, h2⟩) (.inr HMQ.out)⟩
              case measure => rw [HM4.out, HCN.out]; exact hcnt
            | false =>
              rw [hmq] at hlk
              have HMQ := Lib.hid hmq
              clear hmq
              have hun : unmet vs M1 ≤ N := by
                have := unmet_lt (vs := vs) HT.out.up ha hMa HT.out.at_
                have := HN.out
                omega
              have hzz := HT.out.z
              by_cases hgx : g ≤ x
              all_goals
                go_upto_region 9 with (go_at_call 59; refine (HIH.out M1 q _ R D _ hun HE4.out ⟨m, c, HP4.out.la⟩ HP4.out.met (Nat.le_trans hn HP4.out.gr.size) HD.out hqv HMQ.out hzz (by omega) (by omega)).mono ?_; rintro e w5 ⟨n, R1, M2, rfl, hPu, hL5, hK5, hN5⟩)
                have HPU := Lib.hid (show Push vs cap R R1 M1 M2 q z k (min g x) n by first | (rw [show min g x = g by omega]; exact hPu) | (rw [show min g x = x by omega]; exact hPu))
                have hn0 := hPu.n0
                have hn1 := hPu.n1
                have HL5 := Lib.hid hL5
                have HK5 := Lib.hid hK5
                have HN5 := Lib.hid hN5
                clear hPu hL5 hK5 hN5 hzz hun hlk hrun hent q0 q1 k0 t0 p0 a0
                by_cases hnz : n = 0
                · subst hnz
                  have hG := HN5.out rfl
                  have hP5 := HP4.out.sub hG.2 hG.1 hn hm0
                  have HM5 := Lib.hid hP5.it.cnt_eq
                  have HP5 := Lib.hid hP5
                  clear hG hP5
                  go_wp2_with fail
                  go_roundw
                  case rel => exact ⟨M2, _, cnt', HP5.out, HT.out.none (v := q) (fun y h1 h2 => ⟨h1, h2⟩) HPU.out⟩
                  case measure => rw [HM5.out, HCN.out]; exact hcnt
                · have hpos : 0 < n := by omega
                  have hE5 := HE4.out.kc HK5.out
                  have hU5 := HP4.out.u.kc HK5.out
                  have hQ5 := HQ4.out.kc HK5.out
                  have hD5 := HPU.out.yes hpos D HD.out
                  have hR5 : 0 ≤ R1 a q ∧ R1 a q ≤ 2000000000 := ⟨hD5.nn a q, by have h1 := hD5.sy a q; have h2 := hD5.nn q a; have h3 := HCAP.out a q; have h4 := HCAP.out q a; omega⟩
                  have hR6 : 0 ≤ R1 q a ∧ R1 q a ≤ 2000000000 := ⟨hD5.nn q a, by have h1 := hD5.sy q a; have h2 := hD5.nn a q; have h3 := HCAP.out a q; have h4 := HCAP.out q a; omega⟩
                  have HR7 := Lib.hid (show -2000000000000 ≤ updR R1 a q (-n) q a ∧ updR R1 a q (-n) q a ≤ 2000000000000 by unfold updR; split <;> omega)
                  obtain ⟨r5, r6⟩ := hR5
                  have hn5 : n₀ ≤ w5.heap.size := Nat.le_trans hn (Nat.le_trans HP4.out.gr.size HK5.out.size)
                  have a0 := hE5.a.cell 0
                  have u0 := hU5.cell 0
                  have u1 := hU5.cell 1
                  have q0 := hQ5.cell 0
                  have q1 := hQ5.cell 1
                  have hl5 := hE5.l
                  have HE5 := Lib.hid hE5
                  have HU5 := Lib.hid hU5
                  have HQ5 := Lib.hid hQ5
                  clear hE5 hU5 hQ5 hD5 hR6
                  go_upto_region 11 with (go_at_call 57; refine (add_any n₀ vs Bm B Bl R1 a q (-n) w5 HL5.out hl5 hn5 hua hq hqv (by omega) (by omega) (by omega) (by omega)).mono ?_; rintro e w6 ⟨rfl, hL6, hK6⟩)
                  have hE6 := HE5.out.kc hK6
                  have hU6 := HU5.out.kc hK6
                  have hQ6 := HQ5.out.kc hK6
                  have b0 := hE6.a.cell 0
                  have x0 := hU6.cell 0
                  have x1 := hU6.cell 1
                  have y0 := hQ6.cell 0
                  have y1 := hQ6.cell 1
                  have hl6 := hE6.l
                  have HL6 := Lib.hid hL6
                  have HK6 := Lib.hid hK6
                  have hn6 : n₀ ≤ w6.heap.size := Nat.le_trans hn5 hK6.size
                  clear hE6 hU6 hQ6 hL6 hK6 a0 u0 u1 q0 q1 hl5
                  go_wp2_with (go_at_call 57; refine (add_any n₀ vs Bm B Bl (updR R1 a q (-n)) q a n w6 HL6.out hl6 hn6 hq hua ha (by have := HR7.out.1; omega) (by have := HR7.out.2; omega) (by omega) (by omega)).mono ?_; rintro e w7 ⟨rfl, hL7, hK7⟩)
                  go_ret
                  exact ⟨n, _, M2, rfl, HT.out.hit hnd hMa ha hqv HMQ.out HRX.out HPU.out hpos, hL7, HP4.out.kc.trans (HK5.out.trans (HK6.out.trans hK7)), fun e => absurd e hnz⟩
end Go.Proofs.Ytmoolcpogilgkaa
