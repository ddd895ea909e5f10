/-
  cold.lost: what a lot may have lost at each hour.
-/
import Derived.Test.YtmoolcpogilgkaaCold3
import Derived.Test.YtmoolcpogilgkaaRegIn
import Derived.Test.YtmoolcpogilgkaaKeepR
import Derived.Deep.CutRange
set_option linter.unusedVariables false
set_option linter.unusedSimpArgs false
namespace Go.Proofs.Ytmoolcpogilgkaa
open Go.RowKit Go.Shelf
attribute [local go_sem] Oper.semAt_some

def markC (D : Nat) : Deferred := { target := .collected D, args := #[] }
/-- the marks of ranges that are over -/
structure MarksC (B : Nat) (W : World) (ds : List Nat) : Prop where
  nd : ds.Nodup
  at_ : ∀ D ∈ ds, B ≤ D ∧ W.heap[D]? = some (.deferred (some []))
theorem MarksC.below {B : Nat} {W W' : World} {ds : List Nat} (h : MarksC B W ds) (hb : Below W.heap.size W W') : MarksC B W' ds :=
  ⟨h.nd, fun D hD => ⟨(h.at_ D hD).1, (hb.block D (Array.getElem?_eq_some_iff.1 (h.at_ D hD).2).1).trans (h.at_ D hD).2⟩⟩
theorem MarksC.grown {B : Nat} {W W' : World} {ds : List Nat} {row : Option Nat} (h : MarksC B W ds) (hg : W.grownBy W' row) (hn : ∀ D ∈ ds, some D ≠ row) : MarksC B W' ds :=
  ⟨h.nd, fun D hD => ⟨(h.at_ D hD).1, (hg.block D (Array.getElem?_eq_some_iff.1 (h.at_ D hD).2).1 (hn D hD)).trans (h.at_ D hD).2⟩⟩
theorem MarksC.more {B : Nat} {W : World} {ds : List Nat} {D : Nat} (h : MarksC B W ds) (hD : ∀ d ∈ ds, d < D) (hB : B ≤ D) (hd : W.heap[D]? = some (.deferred (some []))) : MarksC B W (D :: ds) :=
  ⟨List.nodup_cons.2 ⟨fun hm => Nat.lt_irrefl _ (hD D hm), h.nd⟩, fun d hd' => by
    rcases List.mem_cons.1 hd' with rfl | h2
    · exact ⟨hB, hd⟩
    · exact h.at_ d h2⟩
theorem leaves_marksC {F : Fence} {n : Nat} {P : Program} {fn : Func} {tmps : Array Value} {R : Ending → World → Prop} {B : Nat} (Z : World → Prop)
    (hZ : ∀ (W : World) (D : Nat), Z W → B ≤ D → W.heap[D]? = some (.deferred (some [])) → Z (W.putObj D (.deferred none)))
    (hR : ∀ W, Z W → ∃ v, (results fn tmps).run P W = .ok v W ∧ R (.returned v) W) :
    ∀ (ds : List Nat) (W : World), MarksC B W ds → Z W → LeavesInM F n P fn tmps R (ds.map markC) .returning W
  | [], W, _, hz => hR W hz
  | D :: ds, W, hm, hz => by
    have h1 := hm.at_ D (List.mem_cons_self ..)
    refine ⟨by simp, .inl ⟨D, _, rfl, run_takeDeferred h1.2, leaves_marksC Z hZ hR ds _ ⟨(List.nodup_cons.1 hm.nd).2, fun d hd => ?_⟩ (hZ W D hz h1.1 h1.2)⟩⟩
    have h2 := hm.at_ d (List.mem_cons_of_mem _ hd)
    refine ⟨h2.1, ?_⟩
    rw [World.putObj_heap_other (by rintro rfl; exact (List.nodup_cons.1 hm.nd).1 hd)]
    exact h2.2
theorem wp_updateC {α : Type} {enc : α → Value} {ok : α → Prop} {P : Program} {K0 : TypeId} [DecidableEq α] {o : Oper} {a : Act} {w : World} {K : Act → World → Prop} {Q : Exit → Act → World → Prop} (m x v : Operand) (T E : TypeId) (hop : o.op = Op.mapUpdate T m x v) (KK : KeyK P K0 enc ok) (ht : P.underlying T = some (.map K0 E))
    (b : Nat) (c : α → Option Value) (hm : a.eval m = .map (some b)) (h : KMap enc ok w b c) (q : α) (hx : a.eval x = enc q) (hq : ok q) (y : Value) (hv : a.eval v = y)
    (hK : ∀ w', KMap enc ok w' b (updK c q y) → w.grownBy w' (some b) → w'.heap.size = w.heap.size → K (a.put o.dst undef) w') : o.wp P a w K Q := by
  obtain ⟨w', hrun, r1, r2, r3⟩ := run_updateK KK ht h q hq y
  unfold Oper.wp
  simp [execOp, hop, hm, hx, hv, hrun, Result.andThen]
  exact hK w' r1 r2 r3

theorem info_spanC : (Try.prog.info? 32).map (fun i => (i.zero, i.size, i.bytes)) = some (some (.agg #[.int .i64 0, .int .i64 0]), 2, 16) := by kernel_rfl
/-- no panic comes -/
def npQC (Q : Exit → Act → World → Prop) : Exit → Act → World → Prop
  | .panic _, _, _ => False
  | e, a, w => Q e a w
theorem npQC_le {Q : Exit → Act → World → Prop} : ∀ e a w, npQC Q e a w → Q e a w := fun e a w h => by cases e <;> first | exact h | exact h.elim
/-- what stands all the while lost works -/
structure LoE (w : World) (p : CelP) (c : CelT) (q : LotP) (l : LotT) (W : World) : Prop where
  low : Below w.heap.size w W
  c : Blk W w.heap.size 37 (celA p c)
  l : Blk W (w.heap.size + 1) 46 (lotA q l)
  t : Blk W (w.heap.size + 1 + 1 + 1) 104 #[.map (some (w.heap.size + 1 + 1))]
section
variable {w W W' : World} {p : CelP} {c : CelT} {q : LotP} {l : LotT}
theorem LoE.below (h : LoE w p c q l W) (hb : Below W.heap.size W W') : LoE w p c q l W' := ⟨h.low.trans (hb.mono h.low.size), h.c.below hb h.c.lt, h.l.below hb h.l.lt, h.t.below hb h.t.lt⟩
theorem LoE.alloc (h : LoE w p c q l W) (o : Obj) : LoE w p c q l (W.alloc o) := h.below ((Below.refl _ W).alloc (Nat.le_refl _) o)
theorem LoE.grown (h : LoE w p c q l W) {row : Option Nat} (hg : W.grownBy W' row) (hr : ∀ r, row = some r → w.heap.size ≤ r ∧ r ≠ w.heap.size ∧ r ≠ w.heap.size + 1 ∧ r ≠ w.heap.size + 1 + 1 + 1) : LoE w p c q l W' :=
  ⟨h.low.grown hg h.low.size (fun j e => (hr j e).1), h.c.grown hg (fun e => (hr _ e.symm).2.1 rfl), h.l.grown hg (fun e => (hr _ e.symm).2.2.1 rfl), h.t.grown hg (fun e => (hr _ e.symm).2.2.2 rfl)⟩
end
/-- the boxes that are done -/
def PrevM (W : World) (c : CelT) (m : Int → Option Value) (k lim : Nat) : Prop := ∀ j, j < k → ∃ A cp g, m (j : Int) = some (.slice A 240 cp) ∧ Sl encI 1 W g A 240 (verdL c j) ∧ g < lim
theorem PrevM.grown {W W' : World} {c : CelT} {m : Int → Option Value} {k lim : Nat} {row : Option Nat} (h : PrevM W c m k lim) (hg : W.grownBy W' row) (hr : ∀ r, row = some r → lim ≤ r) : PrevM W' c m k lim := fun j hj => by
  obtain ⟨A, cp, g, h1, h2, h3⟩ := h j hj
  exact ⟨A, cp, g, h1, h2.grown hg (fun _ e => by have := hr g e.symm; omega), h3⟩
theorem PrevM.grownM {W W' : World} {c : CelT} {m : Int → Option Value} {k lim b : Nat} (h : PrevM W c m k lim) (hg : W.grownBy W' (some b)) (hb : ∃ m', KMap (Value.int .i64) okI W b m') : PrevM W' c m k lim := fun j hj => by
  obtain ⟨A, cp, g, h1, h2, h3⟩ := h j hj
  obtain ⟨m', es, cl, h4, _⟩ := hb
  refine ⟨A, cp, g, h1, h2.grown hg (fun _ e => ?_), h3⟩
  injection e with e
  subst e
  obtain ⟨o, _, _, hc⟩ := h2.atI (k := 0) (by rw [verdL_len]; omega)
  unfold World.cell? at hc
  rw [h4] at hc
  simp at hc
theorem own_isInt {W : World} {base n g : Nat} {v : Value} {xs : List Value} (h : W.ownsRow base 3 1 v n xs) (hv : Value.ownBlock v = some g) : ∃ cs f, W.heap[g]? = some (.cells cs 3 f) := by
  rcases h.2 with ⟨rfl, _⟩ | ⟨g', cap, cur, rfl, hb, hg, _⟩
  · cases hv
  · have e : some g' = some g := hv
    injection e with e
    subst e
    exact ⟨cur, _, hg⟩
/-- while a box's hours are gone through -/
structure LoI (w W3 : World) (p : CelP) (c : CelT) (q : LotP) (l : LotT) (Bx k : Nat) (ds : List Nat) (pre : List (Nat × (Int × Int))) (m : Int → Option Value) (A : Option Addr) (cA : Nat) (X : World) : Prop where
  e : LoE w p c q l X
  x : Blk X Bx 3 #[.int .i64 k]
  d : MarksC (w.heap.size + 4) X ds
  mp : KMap (Value.int .i64) okI X (w.heap.size + 1 + 1) m
  pv : PrevM X c m k W3.heap.size
  z : ∀ j : Nat, k < j → m (j : Int) = none
  v : (m (k : Int)).getD (.slice none 0 0) = .slice A pre.length cA
  o : X.ownsRow W3.heap.size 3 1 (.slice A pre.length cA) pre.length ((pre.map fun x => coldV x.2).flatMap encI)
  sz : W3.heap.size ≤ X.heap.size
section
variable {w W3 X Y : World} {p : CelP} {c : CelT} {q : LotP} {l : LotT} {Bx k cA : Nat} {ds : List Nat} {pre : List (Nat × (Int × Int))} {m : Int → Option Value} {A : Option Addr}
theorem LoI.step (h : LoI w W3 p c q l Bx k ds pre m A cA X) (hw : w.heap.size + 4 ≤ Bx) (hb : Bx < W3.heap.size) (hds : ∀ D ∈ ds, D < W3.heap.size) {row : Option Nat} (hg : X.grownBy Y row) (hr : ∀ r, row = some r → W3.heap.size ≤ r ∧ ∃ o, X.heap[r]? = some o ∧ mineQ o = true) : LoI w W3 p c q l Bx k ds pre m A cA Y := by
  refine ⟨h.e.grown hg (fun r e => by have := (hr r e).1; omega), h.x.grown hg (fun e => by have := (hr _ e.symm).1; omega), h.d.grown hg (fun D hD e => by have := (hr _ e.symm).1; have := hds D hD; omega), h.mp.grown hg (fun e => by have := (hr _ e.symm).1; omega), h.pv.grown hg (fun r e => (hr r e).1), h.z, h.v, h.o.kept hg ?_, Nat.le_trans h.sz hg.size⟩
  cases hv : Value.ownBlock (.slice A pre.length cA) with
  | none => exact .inl rfl
  | some g => exact .inr (fun e => by
      obtain ⟨_, o, h1, h2⟩ := hr g e.symm
      obtain ⟨cs, f, h3⟩ := own_isInt h.o hv
      rw [h3] at h1
      injection h1 with h1
      subst h1
      simp [mineQ] at h2)
theorem LoI.rest (h : LoI w W3 p c q l Bx k ds pre m A cA X) (hw : w.heap.size + 4 ≤ Bx) (hb : Bx < W3.heap.size) (hds : ∀ D ∈ ds, D < W3.heap.size) {row : Option Nat} (hg : X.grownBy Y row) (hr : ∀ r, row = some r → W3.heap.size ≤ r) :
    LoE w p c q l Y ∧ Blk Y Bx 3 #[.int .i64 k] ∧ MarksC (w.heap.size + 4) Y ds ∧ KMap (Value.int .i64) okI Y (w.heap.size + 1 + 1) m ∧ PrevM Y c m k W3.heap.size :=
  ⟨h.e.grown hg (fun r e => by have := hr r e; omega), h.x.grown hg (fun e => by have := hr _ e.symm; omega), h.d.grown hg (fun D hD e => by have := hr _ e.symm; have := hds D hD; omega), h.mp.grown hg (fun e => by have := hr _ e.symm; omega), h.pv.grown hg hr⟩
theorem LoI.below (h : LoI w W3 p c q l Bx k ds pre m A cA X) (hw : w.heap.size + 4 ≤ Bx) (hb : Bx < W3.heap.size) (hds : ∀ D ∈ ds, D < W3.heap.size) (hB : Below X.heap.size X Y) : LoI w W3 p c q l Bx k ds pre m A cA Y :=
  h.step hw hb hds (row := none) ⟨hB.os, hB.tape, hB.output, hB.size, fun i hi _ => hB.block i hi⟩ (fun r e => by cases e)
end

set_option maxRecDepth 100000 in
set_option maxHeartbeats 4000000 in
theorem lost_any (p : CelP) (c : CelT) (q : LotP) (l : LotT) (w : World) (hc : CelOk c) (hlo : LotOk c.boxes.length l) (hM : CelM w p c) (hL : LotM w q l) :
    Calls Try.prog 29 #[.agg (celA p c), .agg (lotA q l)] w fun e w' => ∃ A n cA b, e = .returned (.slice A n cA) ∧ Sl encR 2 w' b A n (lostL c l) ∧ Below w.heap.size w w' := by
  have hmm := @run_makeMap Try.prog
  have HC := Lib.hid hc
  have HLO := Lib.hid hlo
  have HM := Lib.hid hM
  have HL := Lib.hid hL
  clear hc hlo hM hL
  refine (callsIn_wide (n := 9)).1 ?_
  refine callsIn_of_wp_marks Try.func29 rfl trivial ?_ rfl
  simp only [Try.ntmps29, List.size_toArray, List.length_cons, List.length_nil, Nat.reduceAdd, Nat.reduceSub, Array.replicate_succ, Array.replicate_zero, List.push_toArray, List.append_toArray, List.nil_append, List.cons_append]
  refine wpIn_wide.2 (Code.wp_mono npQC_le ?_)
  have hE0 : LoE w p c q l ((((w.alloc (.cells (celA p c) 37)).alloc (.cells (lotA q l) 46)).alloc (.map #[] 0)).alloc (.cells #[.map (some (w.heap.size + 1 + 1))] 104)) := by
    have g1 := ((Blk.new (w.alloc (.cells (celA p c) 37)) 46 (lotA q l)).alloc (.map #[] 0)).alloc (.cells #[.map (some (w.heap.size + 1 + 1))] 104)
    have g2 := Blk.new (((w.alloc (.cells (celA p c) 37)).alloc (.cells (lotA q l) 46)).alloc (.map #[] 0)) 104 #[.map (some (w.heap.size + 1 + 1))]
    simp only [World.size_alloc] at g1 g2
    exact ⟨((((Below.refl _ w).alloc (Nat.le_refl _) _).alloc (by simp) _).alloc (by simp; omega) _).alloc (by simp; omega) _, (((Blk.new w _ _).alloc _).alloc _).alloc _, g1, g2⟩
  have hM0 : KMap (Value.int .i64) okI ((((w.alloc (.cells (celA p c) 37)).alloc (.cells (lotA q l) 46)).alloc (.map #[] 0)).alloc (.cells #[.map (some (w.heap.size + 1 + 1))] 104)) (w.heap.size + 1 + 1) (fun _ => none) := by
    have := (KMap.new (enc := Value.int .i64) (ok := okI) ((w.alloc (.cells (celA p c) 37)).alloc (.cells (lotA q l) 46))).alloc (.cells #[.map (some (w.heap.size + 1 + 1))] 104)
    simpa only [World.size_alloc] using this
  have c2 : ((((w.alloc (.cells (celA p c) 37)).alloc (.cells (lotA q l) 46)).alloc (.map #[] 0)).alloc (.cells #[.map (some (w.heap.size + 1 + 1))] 104)).cell? ⟨w.heap.size, 2, none⟩ = some (.slice p.Ab p.nb p.cb) := hE0.c.cell 2
  go_wp2_with fail
  have HE0 := Lib.hid hE0
  have HM0 := Lib.hid hM0
  obtain ⟨W0, hW0⟩ : ∃ W0, ((((w.alloc (.cells (celA p c) 37)).alloc (.cells (lotA q l) 46)).alloc (.map #[] 0)).alloc (.cells #[.map (some (w.heap.size + 1 + 1))] 104)) = W0 := ⟨_, rfl⟩
  have hz0 : W0.heap.size = w.heap.size + 4 := by rw [← hW0]; simp
  rw [hW0] at HE0 HM0 ⊢
  have HZ0 := Lib.hid hz0
  clear hE0 hM0 c2 hW0 hz0
  have HNB := Lib.hid HM.out.b.len
  have hnb6 : p.nb ≤ 6 := by have := HNB.out; have := HC.out.bn; omega
  refine wp_loop (fun a W => ∃ (k : Nat) (ds : List Nat) (v6 v17 v18 v19 v20 v21 v33 : Value) (m : Int → Option Value), a = { tmps := #[.agg (celA p c), .agg (lotA q l), .pointer (some ⟨w.heap.size, 0, none⟩), .pointer (some ⟨w.heap.size + 1, 0, none⟩), .slice none 0 0, .pointer (some ⟨w.heap.size + 1 + 1 + 1, 0, none⟩), v6, undef, undef, undef, undef, undef, .map (some (w.heap.size + 1 + 1)), .pointer (some ⟨w.heap.size, 2, none⟩), .slice p.Ab p.nb p.cb, .int .i64 p.nb, .int .i64 k, v17, v18, v19, v20, v21, undef, undef, undef, undef, undef, undef, undef, undef, undef, undef, undef, v33, undef, undef, undef, undef, undef, undef, undef, undef, undef, undef, undef, undef, undef, undef, undef, undef, undef, undef, undef, undef, undef, undef, undef, undef, undef, undef, undef, undef, undef, undef, undef, undef, undef, undef], defers := ds.map markC } ∧ k ≤ p.nb ∧ LoE w p c q l W ∧ MarksC (w.heap.size + 4) W ds ∧ KMap (Value.int .i64) okI W (w.heap.size + 1 + 1) m ∧ PrevM W c m k W.heap.size ∧ (∀ j : Nat, k ≤ j → m (j : Int) = none) ∧ w.heap.size + 4 ≤ W.heap.size)
    (fun a _ => p.nb - (intOf (a.tmps.getD 16 undef)).toNat) ⟨0, [], undef, undef, undef, undef, undef, undef, undef, fun _ => none, rfl, by omega, HE0.out, ⟨List.nodup_nil, fun D hD => by cases hD⟩, HM0.out, fun j hj => absurd hj (Nat.not_lt_zero _), fun _ _ => rfl, by rw [HZ0.out]; omega⟩ ?_
  rintro a W ⟨k, ds, v6, v17, v18, v19, v20, v21, v33, m, rfl, hk, hE, hD, hm, hpv, hz, hsz⟩
  have HE := Lib.hid hE
  have HD := Lib.hid hD
  have HMP := Lib.hid hm
  have HPV := Lib.hid hpv
  have HZN := Lib.hid hz
  have c0 : (W.alloc (.cells #[.int .i64 k] 3)).cell? ⟨w.heap.size, 0, none⟩ = some (.int .i64 c.hlo) := (hE.alloc (.cells #[.int .i64 k] 3)).c.cell 0
  have c1 : (W.alloc (.cells #[.int .i64 k] 3)).cell? ⟨w.heap.size, 1, none⟩ = some (.int .i64 c.hhi) := (hE.alloc (.cells #[.int .i64 k] 3)).c.cell 1
  have c2 : (W.alloc (.cells #[.int .i64 k] 3)).cell? ⟨w.heap.size, 2, none⟩ = some (.slice p.Ab p.nb p.cb) := (hE.alloc (.cells #[.int .i64 k] 3)).c.cell 2
  have c3 : (W.alloc (.cells #[.int .i64 k] 3)).cell? ⟨w.heap.size, 3, none⟩ = some (.slice p.Af p.nf p.cf) := (hE.alloc (.cells #[.int .i64 k] 3)).c.cell 3
  have c4 : (W.alloc (.cells #[.int .i64 k] 3)).cell? ⟨w.heap.size, 4, none⟩ = some (.slice p.Ar p.nr p.cr) := (hE.alloc (.cells #[.int .i64 k] 3)).c.cell 4
  clear hE hD hm hpv hz
  by_cases hlt : k < p.nb
  · have hlti : decide ((k : Int) < (p.nb : Int)) = true := by simp; omega
    go_wp2_with (go_at_call 45; refine (hours_any p c k _).mono ?_; rintro e w' ⟨rfl, rfl⟩)
    have hcb : k < c.boxes.length := by have := HNB.out; omega
    have hb3 : Below W.heap.size W (((W.alloc (.cells #[.int .i64 k] 3)).alloc (.cells (celA p c) 37)).alloc (.cells #[.int .i64 k] 3)) := (((Below.refl _ W).alloc (Nat.le_refl _) _).alloc (by simp) _).alloc (by simp; omega) _
    have hbx := ((Blk.new W 3 #[.int .i64 k]).alloc (.cells (celA p c) 37)).alloc (.cells #[.int .i64 k] 3)
    have hbc := (Blk.new (W.alloc (.cells #[.int .i64 k] 3)) 37 (celA p c)).alloc (.cells #[.int .i64 k] 3)
    have hbb := Blk.new ((W.alloc (.cells #[.int .i64 k] 3)).alloc (.cells (celA p c) 37)) 3 #[.int .i64 k]
    have hz3 : (((W.alloc (.cells #[.int .i64 k] 3)).alloc (.cells (celA p c) 37)).alloc (.cells #[.int .i64 k] 3)).heap.size = W.heap.size + 3 := by simp
    simp only [World.size_alloc] at hbc hbb
    have hWW : ((((W.alloc (.cells #[.int .i64 k] 3)).alloc (.cells (celA p c) 37)).alloc (.cells #[.int .i64 k] 3)) : World) = ((W.alloc (.cells #[.int .i64 k] 3)).alloc (.cells #[.int .i64 c.hlo, .int .i64 c.hhi, .slice p.Ab p.nb p.cb, .slice p.Af p.nf p.cf, .slice p.Ar p.nr p.cr] 37)).alloc (.cells #[.int .i64 k] 3) := rfl
    obtain ⟨W3, hW3⟩ : ∃ W3, (((W.alloc (.cells #[.int .i64 k] 3)).alloc (.cells (celA p c) 37)).alloc (.cells #[.int .i64 k] 3)) = W3 := ⟨_, rfl⟩
    rw [hW3] at hb3 hbx hbc hbb hz3 hWW
    first | rw [← hWW] | rw [hW3] | skip
    have HB3 := Lib.hid hb3
    have HBX := Lib.hid hbx
    have HBC := Lib.hid hbc
    have HBB := Lib.hid hbb
    have HZ3 := Lib.hid hz3
    have hM3 : CelM W3 p c := HM.out.old (HE.out.low.trans (hb3.mono HE.out.low.size))
    have hds : ∀ D ∈ ds, D < W3.heap.size := fun D hD => by have := (Array.getElem?_eq_some_iff.1 (HD.out.at_ D hD).2).1; omega
    have HDS := Lib.hid hds
    obtain ⟨i0, hi, iz0, iz1, iz2⟩ := info_parts info_int
    have hbbn : p.bb < w.heap.size := HM.out.b.lt (by omega)
    have hbfn : 0 < p.nf → p.bf < w.heap.size := fun h => HM.out.f.lt h
    clear c0 c1 c2 c3 c4 hWW hW3 hb3 hbx hbc hbb hz3 hds
    rename_i K3 aK3
    refine wpIn_wide.1 (wpIn_range_onQ (n := 9) mineQ_rec rfl (by omega) (gf := 69) (lb := #[.pointer (some ⟨W.heap.size + 1, 0, none⟩), .pointer (some ⟨W.heap.size + 1 + 1, 0, none⟩)]) rfl trivial (enters_of Try.func69 (by kernel_rfl) rfl)
      (hours_hands _ (W.heap.size + 1) (W.heap.size + 1 + 1) w.heap.size p c k W3 HC.out hcb (by have := HZ3.out; omega) hbbn hbfn HBC.out HBB.out hM3) KpH.trans
      (fun X L o o' hle hlo hrec => KpH.of_grown (grownBy_putObj' X L o') (by have := (Array.getElem?_eq_some_iff.1 hlo).1; have := HZ3.out; omega) (by have := (Array.getElem?_eq_some_iff.1 hlo).1; have := HZ3.out; omega) (fun b e => by cases e; exact ⟨by have := HZ3.out; omega, by have := HZ3.out; omega, fun o2 h2 => by rw [hlo] at h2; cases h2; cases o <;> first | rfl | cases hrec⟩)) (Below.refl _ _) (fun _ => rfl)
      (fun pre X => ∃ m A cA, LoI w W3 p c q l W.heap.size k ds pre m A cA X)
      (fun pre X Y row h hg hr => by obtain ⟨m, A, cA, h⟩ := h; exact ⟨m, A, cA, h.step (by omega) (by have := HZ3.out; omega) HDS.out hg hr⟩)
      ⟨m, none, 0, ⟨HE.out.below HB3.out, HBX.out, HD.out.below HB3.out, HMP.out.keep (HB3.out.block _ HMP.out.lt), fun j hj => by obtain ⟨A, cp, g, h1, h2, h3⟩ := HPV.out j hj; exact ⟨A, cp, g, h1, h2.old HB3.out, by have := HZ3.out; omega⟩, fun j hj => HZN.out j (by omega), by rw [HZN.out k (Nat.le_refl _)]; rfl, World.ownsRow_nil _ _ _ _, Nat.le_refl _⟩⟩
      (fun x a' X => ∃ Bi, Blk X Bi 109 #[.int .i64 x.2.1, .int .i64 x.2.2] ∧ a' = { tmps := #[.agg (celA p c), .agg (lotA q l), .pointer (some ⟨w.heap.size, 0, none⟩), .pointer (some ⟨w.heap.size + 1, 0, none⟩), .slice none 0 0, .pointer (some ⟨w.heap.size + 1 + 1 + 1, 0, none⟩), .pointer (some ⟨W.heap.size, 0, none⟩), undef, .pointer (some ⟨Bi, 0, none⟩), undef, undef, undef, .map (some (w.heap.size + 1 + 1)), .pointer (some ⟨w.heap.size, 2, none⟩), .slice p.Ab p.nb p.cb, .int .i64 p.nb, .int .i64 k, .bool true, .int .i64 k, .agg (celA p c), .int .i64 k, .func (.func 69) #[] #[.pointer (some ⟨W.heap.size + 1, 0, none⟩), .pointer (some ⟨W.heap.size + 1 + 1, 0, none⟩)], .int .i64 x.1, iceV x.2, undef, undef, undef, undef, undef, undef, undef, undef, undef, v33, undef, undef, undef, undef, undef, undef, undef, undef, undef, undef, undef, undef, undef, undef, undef, undef, undef, undef, undef, undef, undef, undef, undef, undef, undef, undef, undef, undef, undef, undef, undef, undef, undef, undef], defers := [] })
      (fun x a' X L o o' hs hle hlo hrec => by
        obtain ⟨Bi, h1, h2⟩ := hs
        exact ⟨Bi, h1.grown (grownBy_putObj' X L o') (fun e => by injection e with e; subst e; rw [show X.heap[Bi]? = _ from h1] at hlo; cases hlo; cases hrec), h2⟩) ?assign ?body ?done)
    case assign =>
      intro L pre x X K2 hI hK2
      unfold hourV iceV
      gi_wp2
      obtain ⟨m1, A1, cA1, hI⟩ := hI
      have hbz : Below X.heap.size X (X.alloc (.cells #[.int .i64 x.2.1, .int .i64 x.2.2] 109)) := (Below.refl _ X).alloc (Nat.le_refl _) _
      exact hK2 _ _ ⟨hbz.size, fun k o hk _ => (hbz.block k (Array.getElem?_eq_some_iff.1 hk).1).trans hk⟩ (KpH.of_grown (World.grownBy_alloc X _ none) (by have := hI.e.low.size; omega) (by have := hI.sz; have := HZ3.out; omega) (fun b e => by cases e))
        ⟨m1, A1, cA1, hI.below (by omega) (by have := HZ3.out; omega) HDS.out hbz⟩ ⟨X.heap.size, Blk.new X _ _, rfl⟩
    case body =>
      rintro L pre x rest a' X hxs ⟨m1, A1, cA1, hI⟩ ⟨Bi, bI, rfl⟩
      have hlen : pre.length < 240 := by have := hoursT_len c k; rw [hxs] at this; simp at this; omega
      have HI := Lib.hid hI
      have HBI := Lib.hid bI
      have hkI : okI (k : Int) := WalkArith.wf_i64 (by omega)
      have hwb : w.heap.size + 4 ≤ W.heap.size := hsz
      have hwx : W.heap.size < W3.heap.size := by have := HZ3.out; omega
      have hz3x := hI.sz
      have HLK := Lib.hid (fun Y (hY : KMap (Value.int .i64) okI Y (w.heap.size + 1 + 1) m1) => (show (Instr.lookup 104 (.map (some (w.heap.size + 1 + 1))) (.int .i64 k) false).run Try.prog Y = .ok (.slice A1 pre.length cA1) Y by
        have := run_lookupK kkI Try.underlying104 zeroIs hY (k : Int) hkI
        rw [HI.out.v] at this
        exact this))
      clear hI bI hxs
      gi_wp2
      refine wpIn_region_PL [0, 1, 2, 3, 4, 5] (fun w' => w'.cell? ⟨w.heap.size + 1 + 1 + 1, 0, none⟩ = some (.map (some (w.heap.size + 1 + 1))) ∧ w'.cell? ⟨W.heap.size, 0, none⟩ = some (.int .i64 k) ∧ w'.cell? ⟨Bi, 0, none⟩ = some (.int .i64 x.2.1) ∧ w'.cell? ⟨Bi, 1, none⟩ = some (.int .i64 x.2.2) ∧ (Instr.lookup 104 (.map (some (w.heap.size + 1 + 1))) (.int .i64 k) false).run Try.prog w' = .ok (.slice A1 pre.length cA1) w') rfl (by kernel_rfl) (by kernel_rfl) (fun ⟨_, _, h⟩ => h) (⟨HI.out.e.t.cell 0, HI.out.x.cell 0, HBI.out.cell 0, HBI.out.cell 1, HLK.out _ HI.out.mp.drew⟩) (fun hF0 => ?_)
      (refine wpAnyP_loadL (i := 0) (v := ?_) rfl (by kernel_rfl) (by kernel_rfl) (by kernel_rfl) (by rfl) (fun _ _ _ h => h) hF0 (by rfl) ?_ ?_; rotate_left 1; focus (intro w hFw; (try dsimp only at hFw); go_split_ands; go_simp; try with_reducible rfl))
      try simp only [Act.put, List.setIfInBounds_toArray, List.set_cons_zero, List.set_cons_succ]
      (refine wpAnyP_loadL (i := 1) (v := ?_) rfl (by kernel_rfl) (by kernel_rfl) (by kernel_rfl) (by rfl) (fun _ _ _ h => h) hF0 (by rfl) ?_ ?_; rotate_left 1; focus (intro w hFw; (try dsimp only at hFw); go_split_ands; go_simp; try with_reducible rfl))
      try simp only [Act.put, List.setIfInBounds_toArray, List.set_cons_zero, List.set_cons_succ]
      (refine wpAnyP_loadL (i := 2) (v := ?_) rfl (by kernel_rfl) (by kernel_rfl) (by kernel_rfl) (by rfl) (fun _ _ _ h => h) hF0 (by rfl) ?_ ?_; rotate_left 1; focus (intro w hFw; (try dsimp only at hFw); go_split_ands; go_simp; try with_reducible rfl))
      try simp only [Act.put, List.setIfInBounds_toArray, List.set_cons_zero, List.set_cons_succ]
      (refine wpAnyP_loadL (i := 3) (v := ?_) rfl (by kernel_rfl) (by kernel_rfl) (by kernel_rfl) (by rfl) (fun _ _ _ h => h) hF0 (by rfl) ?_ ?_; rotate_left 1; focus (intro w hFw; (try dsimp only at hFw); go_split_ands; go_simp; try with_reducible rfl))
      try simp only [Act.put, List.setIfInBounds_toArray, List.set_cons_zero, List.set_cons_succ]
      (refine wpAnyP_loadL (i := 4) (v := ?_) rfl (by kernel_rfl) (by kernel_rfl) (by kernel_rfl) (by rfl) (fun _ _ _ h => h) hF0 (by rfl) ?_ ?_; rotate_left 1; focus (intro w hFw; (try dsimp only at hFw); go_split_ands; go_simp; try with_reducible rfl))
      try simp only [Act.put, List.setIfInBounds_toArray, List.set_cons_zero, List.set_cons_succ]
      (refine wpAnyP_loadL (i := 5) (v := ?_) rfl (by kernel_rfl) (by kernel_rfl) (by kernel_rfl) (by rfl) (fun _ _ _ h => h) hF0 (by rfl) ?_ ?_; rotate_left 1; focus (intro w hFw; (try dsimp only at hFw); go_split_ands; go_simp; try with_reducible rfl))
      try simp only [Act.put, List.setIfInBounds_toArray, List.set_cons_zero, List.set_cons_succ]
      refine wpAnyP_step (i := 6) rfl (by kernel_rfl) (by rfl) (fun K hK => ?_)
      go_simp
      (refine (cold_any x.2 _).mono ?_; rintro e w4 ⟨rfl, hb4⟩; have HB4 := Lib.hid (show Below X.heap.size X w4 from (Below.refl _ X).drew.trans hb4); have HI4 := Lib.hid (HI.out.below hwb hwx HDS.out HB4.out); have HBI4 := Lib.hid (HBI.out.below HB4.out HBI.out.lt); clear hb4)
      (refine hK _ _ (⟨HI4.out.e.t.cell 0, HI4.out.x.cell 0, HBI4.out.cell 0, HBI4.out.cell 1, HLK.out _ HI4.out.mp⟩) (fun hF1 => ?_); clear hK K hF0)
      try simp only [Act.put, List.setIfInBounds_toArray, List.set_cons_zero, List.set_cons_succ]
      refine wpAnyP_step (i := 7) rfl (by kernel_rfl) (by rfl) (fun K hK => ?_)
      go_simp
      (have HA5 := Lib.hid ((Below.refl _ w4).alloc (Nat.le_refl _) (.cells #[.int .i64 (coldV x.2)] 3)); have HI5 := Lib.hid (HI4.out.below hwb hwx HDS.out HA5.out); have HBI5 := Lib.hid (HBI4.out.below HA5.out HBI4.out.lt); have HNS := Lib.hid (Sl.newI w4 [coldV x.2] 3))
      (refine hK _ _ (⟨HI5.out.e.t.cell 0, HI5.out.x.cell 0, HBI5.out.cell 0, HBI5.out.cell 1, HLK.out _ HI5.out.mp⟩) (fun hF2 => ?_); clear hK K hF1)
      try simp only [Act.put, List.setIfInBounds_toArray, List.set_cons_zero, List.set_cons_succ]
      refine wpAnyP_step (i := 8) rfl (by kernel_rfl) (by rfl) (fun K hK => ?_)
      (refine wp_append_sl _ _ 22 rfl W3.heap.size 3 i0 _ 8 Try.underlying22 hi iz0 iz1 iz2 rfl (by omega) encI_len _ pre.length _ (by rfl) HI5.out.o w4.heap.size (some ⟨w4.heap.size, 0, none⟩) 1 1 [coldV x.2] (by rfl) HNS.out oneI (by unfold maxLen; omega) (by omega) HI5.out.sz ?_; intro A6 c6 w6 hown6 hg6 _; have HR6 := Lib.hid (HI5.out.rest hwb hwx HDS.out hg6 (fun r e => (HI5.out.o.lt r e).1)); have HO6 := Lib.hid hown6; have HG6 := Lib.hid hg6; have HBI6 := Lib.hid (HBI5.out.grown hg6 (fun e => by obtain ⟨cs, f, h3⟩ := own_isInt HI5.out.o e.symm; rw [show (w4.alloc (.cells #[.int .i64 (coldV x.2)] 3)).heap[Bi]? = _ from HBI5.out] at h3; cases h3)); clear hown6 hg6)
      (refine hK _ _ (⟨HR6.out.1.t.cell 0, HR6.out.2.1.cell 0, HBI6.out.cell 0, HBI6.out.cell 1, HLK.out _ HR6.out.2.2.2.1⟩) (fun hF3 => ?_); clear hK K hF2)
      try simp only [Act.put, List.setIfInBounds_toArray, List.set_cons_zero, List.set_cons_succ]
      refine wpAnyP_last (i := 9) rfl (by kernel_rfl) (by kernel_rfl) (by rfl) (fun K hK => ?_)
      (refine wp_updateC _ _ _ 104 22 rfl kkI Try.underlying104 (w.heap.size + 1 + 1) m1 (by rfl) HR6.out.2.2.2.1 (k : Int) (by rfl) hkI (.slice A6 (pre.length + 1) c6) (by rfl) ?_; intro w7 hk7 hg7 hs7; have HK7 := Lib.hid hk7; have HG7 := Lib.hid hg7; clear hk7 hg7)
      (refine hK _ _ ?_; clear hK K)
      try simp only [Act.put, List.setIfInBounds_toArray, List.set_cons_zero, List.set_cons_succ]
      refine wpAnyP_done (by kernel_rfl) ?_ _
      gi_wp2
      obtain ⟨r1, r2, r3, r4, r5⟩ := HR6.out
      have hown : ∀ r, Value.ownBlock (.slice A1 pre.length cA1) = some r → W3.heap.size ≤ r := fun r e => (HI5.out.o.lt r e).1
      have hz4 : X.heap.size ≤ (w4.alloc (.cells #[.int .i64 (coldV x.2)] 3)).heap.size := by have h1 := HB4.out.size; have h2 := HA5.out.size; omega
      have hbz : Below X.heap.size X (w4.alloc (.cells #[.int .i64 (coldV x.2)] 3)) := HB4.out.trans (HA5.out.mono HB4.out.size)
      have hkr : KeepsRec X w7 := by
        refine ((⟨hbz.size, fun k o hk _ => (hbz.block k (Array.getElem?_eq_some_iff.1 hk).1).trans hk⟩ : KeepsRec X _).trans (KeepsRec.of_grown HG6.out fun r e o ho => ?_)).trans (KeepsRec.of_grown HG7.out fun r e o ho => ?_)
        · obtain ⟨cs, f, h3⟩ := own_isInt HI5.out.o e
          rw [h3] at ho; cases ho; rfl
        · cases e
          have := r4.soft o ho
          cases o <;> first | rfl | cases this
      have hkp : KpH w.heap.size (W.heap.size + 1 + 1) X w7 := by
        have hzz := HZ3.out
        refine ((KpH.of_grown (row := none) ⟨hbz.os, hbz.tape, hbz.output, hbz.size, fun i hi _ => hbz.block i hi⟩ (by omega) (by omega) (fun b e => by cases e)).trans (KpH.of_grown HG6.out (by omega) (by omega) fun r e => ⟨by have := hown r e; omega, by have := hown r e; omega, fun o ho => ?_⟩)).trans (KpH.of_grown HG7.out (by have := HG6.out.size; omega) (by have := HG6.out.size; omega) fun r e => ⟨by cases e; omega, by cases e; omega, fun o ho => ?_⟩)
        · obtain ⟨cs, f, h3⟩ := own_isInt HI5.out.o e
          rw [h3] at ho; cases ho; simp [notInt]
        · cases e
          have := r4.soft o ho
          cases o <;> first | rfl | cases this
      refine ⟨hkr, hkp, updK m1 (k : Int) (.slice A6 (pre.length + 1) c6), A6, c6, ?_⟩
      have hpl : (pre ++ [x]).length = pre.length + 1 := by simp
      refine ⟨r1.grown HG7.out (fun r e => by cases e; omega), r2.grown HG7.out (fun e => by injection e; omega), r3.grown HG7.out (fun D hD e => by injection e with e; have := (r3.at_ D hD).1; omega), HK7.out, ?_, ?_, ?_, ?_, ?_⟩
      · intro j hj
        obtain ⟨A, cp, g, h1, h2, h3⟩ := (r5.grownM HG7.out ⟨_, r4⟩) j hj
        exact ⟨A, cp, g, by unfold updK; rw [if_neg (by omega)]; exact h1, h2, h3⟩
      · intro j hj
        unfold updK
        rw [if_neg (by omega)]
        exact HI.out.z j hj
      · rw [hpl]
        simp [updK]
      · rw [hpl, List.map_append, List.flatMap_append]
        refine HO6.out.kept HG7.out ?_
        cases hv : Value.ownBlock (.slice A6 (pre.length + 1) c6) with
        | none => exact .inl rfl
        | some g => exact .inr (fun e => by injection e with e; have := (HO6.out.lt g hv).1; omega)
      · have := HG6.out.size; have := HG7.out.size; omega
    case done =>
      rintro D Wd hD ⟨m1, A1, cA1, hI⟩ hdef
      have h240 := hoursT_len c k
      have hmk : m1 (k : Int) = some (.slice A1 240 cA1) := by
        have h1 := hI.v
        rw [h240] at h1
        cases hm : m1 (k : Int) with
        | none => rw [hm] at h1; simp at h1
        | some v => rw [hm] at h1; simp at h1; rw [h1]
      obtain ⟨bk, hbk, hsk⟩ := Sl.of_own (enc := encI) (l := verdL c k) encI_len (verdL_len c k).symm (by have h1 := hI.o; rw [h240] at h1; exact h1)
      have hz3 := HZ3.out
      have HE4 := Lib.hid hI.e
      have HD4 := Lib.hid (hI.d.more (D := D) (fun d hd => by have := HDS.out d hd; omega) (by omega) hdef)
      have HM4 := Lib.hid hI.mp
      have HS4 := Lib.hid (show PrevM Wd c m1 (k + 1) Wd.heap.size from fun j hj => by
        by_cases hjk : j = k
        · subst hjk
          exact ⟨A1, cA1, bk, hmk, hsk, hsk.lt (by omega)⟩
        · obtain ⟨A, cp, g, h1, h2, h3⟩ := hI.pv j (by omega)
          exact ⟨A, cp, g, h1, h2, by have := hI.sz; omega⟩)
      have HZ4 := Lib.hid (fun (j : Nat) (hj : k + 1 ≤ j) => hI.z j (by omega))
      have hsz4 := hI.sz
      clear hI hdef hmk hbk hsk h240
      show K3 _ _
      refine aK3 _ _ ?_
      go_wp2_with fail
      refine ⟨⟨k + 1, D :: ds, _, _, _, _, _, _, _, m1, rfl, by omega, HE4.out, HD4.out, HM4.out, HS4.out, HZ4.out, by omega⟩, ?_⟩
      simp [intOf]; omega
  · obtain rfl : k = p.nb := by omega
    have hlti : decide ((p.nb : Int) < (p.nb : Int)) = false := by simp
    have HST := Lib.hid (show StM W (w.heap.size + 1 + 1) c from ⟨m, HMP.out, fun j hj => by obtain ⟨A, cp, g, h1, h2, _⟩ := HPV.out j (by rw [HNB.out]; exact hj); exact ⟨A, cp, g, h1, h2⟩⟩)
    clear c0 c1 c2 c3 c4
    have b0 : (W.alloc (.cells #[.int .i64 0, .int .i64 0] 32)).cell? ⟨w.heap.size + 1, 0, none⟩ = some (.int .i64 l.born) := (HE.out.alloc (.cells #[.int .i64 0, .int .i64 0] 32)).l.cell 0
    go_wp2_with fail
    clear b0
    obtain ⟨bn, hbn⟩ := Int.eq_ofNat_of_zero_le HLO.out.born.1
    have hbn9 : bn ≤ 239 := by have := HLO.out.born.2; omega
    rw [hbn]
    have HBN := Lib.hid hbn
    have HE1 := Lib.hid (HE.out.alloc (.cells #[.int .i64 0, .int .i64 0] 32))
    have HD1 := Lib.hid (HD.out.below ((Below.refl _ W).alloc (Nat.le_refl _) (.cells #[.int .i64 0, .int .i64 0] 32)))
    have HS1 := Lib.hid (And.intro (HMP.out.alloc (.cells #[.int .i64 0, .int .i64 0] 32)) (HPV.out.grown (World.grownBy_alloc W (.cells #[.int .i64 0, .int .i64 0] 32) none) (fun r e => by cases e)))
    have HO1 := Lib.hid (show (W.alloc (.cells #[.int .i64 0, .int .i64 0] 32)).ownsRow W.heap.size 32 2 (.slice (some ⟨W.heap.size, 0, none⟩) 1 1) 1 (((List.range (0 + 1)).map (lostT c l)).flatMap encR) from
      ⟨rfl, .inr ⟨W.heap.size, 1, #[.int .i64 0, .int .i64 0], rfl, Nat.le_refl _, Blk.new W _ _, Nat.le_refl _, by unfold maxLen; omega, rfl, rfl⟩⟩)
    have hwz : w.heap.size + 4 ≤ W.heap.size := hsz
    obtain ⟨is, his, jz0, jz1, jz2⟩ := info_parts info_spanC
    have hnr : p.nr ≤ 1000000 := by have h1 := HM.out.r.len; have h2 := HC.out.rn; omega
    have hbelow : ∀ D ∈ ds, D < W.heap.size := fun D hD => (Array.getElem?_eq_some_iff.1 (HD.out.at_ D hD).2).1
    have HDL := Lib.hid hbelow
    clear hbn hbelow hlti
    go_loopw [9, 10] (fun v i wr => ∃ (k cA g : Nat), bn + k ≤ 240 ∧ i = .int .i64 ((bn : Int) + (k : Int)) ∧ v = .slice (some ⟨g, 0, none⟩) (k + 1) cA ∧ wr.ownsRow W.heap.size 32 2 (.slice (some ⟨g, 0, none⟩) (k + 1) cA) (k + 1) (((List.range (k + 1)).map (lostT c l)).flatMap encR) ∧ LoE w p c q l wr ∧ MarksC (w.heap.size + 4) wr ds ∧ (KMap (Value.int .i64) okI wr (w.heap.size + 1 + 1) m ∧ PrevM wr c m p.nb W.heap.size) ∧ W.heap.size ≤ wr.heap.size) (fun _ i _ => 240 - (intOf i).toNat)
    case atStart => exact ⟨0, 1, W.heap.size, by omega, by simp, rfl, HO1.out, HE1.out, HD1.out, HS1.out, by simp⟩
    case round =>
      obtain ⟨k, cA, g, hk, rfl, rfl, hO, hE, hD, hS, hz⟩ := hrel
      have HO := Lib.hid hO
      have HEr := Lib.hid hE
      have HDr := Lib.hid hD
      have HSr := Lib.hid hS
      have HSM := Lib.hid (show StM wr (w.heap.size + 1 + 1) c from ⟨m, hS.1, fun j hj => by obtain ⟨A, cp, g, h1, h2, _⟩ := hS.2 j (by rw [HNB.out]; exact hj); exact ⟨A, cp, g, h1, h2⟩⟩)
      have d0 : wr.cell? ⟨w.heap.size, 0, none⟩ = some (.int .i64 c.hlo) := hE.c.cell 0
      have d1 : wr.cell? ⟨w.heap.size, 1, none⟩ = some (.int .i64 c.hhi) := hE.c.cell 1
      have d2 : wr.cell? ⟨w.heap.size, 2, none⟩ = some (.slice p.Ab p.nb p.cb) := hE.c.cell 2
      have d3 : wr.cell? ⟨w.heap.size, 3, none⟩ = some (.slice p.Af p.nf p.cf) := hE.c.cell 3
      have d4 : wr.cell? ⟨w.heap.size, 4, none⟩ = some (.slice p.Ar p.nr p.cr) := hE.c.cell 4
      have e0 : wr.cell? ⟨w.heap.size + 1, 0, none⟩ = some (.int .i64 l.born) := hE.l.cell 0
      have e1 : wr.cell? ⟨w.heap.size + 1, 1, none⟩ = some (.int .i64 l.keeps) := hE.l.cell 1
      have e2 : wr.cell? ⟨w.heap.size + 1, 2, none⟩ = some (.slice q.As q.ns q.cs) := hE.l.cell 2
      have t0 : wr.cell? ⟨w.heap.size + 1 + 1 + 1, 0, none⟩ = some (.map (some (w.heap.size + 1 + 1))) := hE.t.cell 0
      clear hO hE hD hS HE1 HD1 HS1 HO1
      by_cases hlt : bn + k < 240
      · have hlti : decide ((bn : Int) + (k : Int) < 240) = true := by simp; omega
        have hair := air_any p c q l (w.heap.size + 1 + 1) (bn + k) wr HC.out HLO.out hlt (HM.out.old HEr.out.low) (show LotM wr q l from HL.out.old HEr.out.low) HSM.out
        rw [show ((bn + k : Nat) : Int) = (bn : Int) + (k : Int) by omega] at hair
        have HAIR := Lib.hid hair
        clear hair
        go_wp2_with fail
        refine HAIR.out.mono ?_
        rintro e w5 ⟨rfl, hb5⟩
        obtain ⟨a, ha⟩ : ∃ a, a = airT c l ((bn : Int) + (k : Int)) := ⟨_, rfl⟩
        rw [← ha]
        obtain ⟨x, hx⟩ : ∃ x, x = lostT c l k := ⟨_, rfl⟩
        have HNX := Lib.hid (show lostT c l (k + 1) = stepL c a x by rw [lostT, ha, hx, HBN.out])
        have hxb := lostT_bd HC.out l k
        rw [← hx] at hxb
        have hB6 : Below wr.heap.size wr (w5.alloc (.cells #[.int .i64 a.lo, .int .i64 a.hi] 32)) := hb5.alloc hb5.size _
        have HX := Lib.hid (Blk.new w5 32 #[.int .i64 a.lo, .int .i64 a.hi])
        have HE6 := Lib.hid (HEr.out.below hB6)
        have HD6 := Lib.hid (HDr.out.below hB6)
        have hG6 : wr.grownBy (w5.alloc (.cells #[.int .i64 a.lo, .int .i64 a.hi] 32)) none := ⟨hB6.os, hB6.tape, hB6.output, hB6.size, fun i hi _ => hB6.block i hi⟩
        have HS6 := Lib.hid (And.intro (HSr.out.1.grown hG6 (fun e => by cases e)) (HSr.out.2.grown hG6 (fun r e => by cases e)))
        clear hG6
        have HO6 := Lib.hid (ownsRow_below HO.out hB6 (Nat.le_refl _))
        have hz6 := hB6.size
        have hw5 := hb5.size
        have hfl := flat_at (enc := encR) encR_len ((List.range (k + 1)).map (lostT c l)) k (by simp)
        rw [show ((List.range (k + 1)).map (lostT c l))[k]'(by simp) = x by simp [hx]] at hfl
        have hadd : ∀ j : Nat, (⟨g, 0, none⟩ : Addr).add j = ⟨g, j, none⟩ := fun j => by unfold Addr.add; split <;> simp_all
        have hgl := HO.out.lt g rfl
        have y0 := HO6.out.cells (g := g) rfl (k * 2) (.int .i64 x.lo) (by simpa using hfl 0 _ rfl)
        have y1 := HO6.out.cells (g := g) rfl (k * 2 + 1) (.int .i64 x.hi) (hfl 1 _ rfl)
        rw [hadd] at y0 y1
        have HFL := Lib.hid (And.intro (show (((List.range (k + 1)).map (lostT c l)).flatMap encR)[k * 2]? = some (.int .i64 x.lo) by simpa using hfl 0 _ rfl) (show (((List.range (k + 1)).map (lostT c l)).flatMap encR)[k * 2 + 1]? = some (.int .i64 x.hi) from hfl 1 _ rfl))
        obtain ⟨hg1, hg2⟩ := hgl
        have hboz : g < (w5.alloc (.cells #[.int .i64 a.lo, .int .i64 a.hi] 32)).heap.size := by omega
        have HHX := Lib.hid hx
        unfold spanV
        clear d0 d1 d2 d3 d4 e0 e1 e2 t0 hb5 ha hx hfl hadd HAIR
        go_upto_region 14 with fail
        obtain ⟨V, hV⟩ : ∃ V, (w5.alloc (.cells #[.int .i64 a.lo, .int .i64 a.hi] 32)) = V := ⟨_, rfl⟩
        rw [hV] at hB6 HX HE6 HD6 HS6 HO6 hz6 hboz y0 y1 ⊢
        have HVZ := Lib.hid (show V.heap.size = w5.heap.size + 1 by rw [← hV]; simp)
        have HYY := Lib.hid (And.intro y0 y1)
        have HKF := Lib.hid (fun (Y : World) (hY : Below V.heap.size V Y) => (show Y.cell? ⟨w.heap.size, 0, none⟩ = some (.int .i64 c.hlo) ∧ Y.cell? ⟨w.heap.size, 1, none⟩ = some (.int .i64 c.hhi) ∧ Y.cell? ⟨w.heap.size, 2, none⟩ = some (.slice p.Ab p.nb p.cb) ∧ Y.cell? ⟨w.heap.size, 3, none⟩ = some (.slice p.Af p.nf p.cf) ∧ Y.cell? ⟨w.heap.size, 4, none⟩ = some (.slice p.Ar p.nr p.cr) ∧ Y.cell? ⟨w5.heap.size, 0, none⟩ = some (.int .i64 a.lo) ∧ Y.cell? ⟨w5.heap.size, 1, none⟩ = some (.int .i64 a.hi) ∧ Y.cell? ⟨g, k * 2, none⟩ = some (.int .i64 x.lo) ∧ Y.cell? ⟨g, k * 2 + 1, none⟩ = some (.int .i64 x.hi) from
          let h1 := HE6.out.below hY; let h2 := HX.out.below hY HX.out.lt
          ⟨h1.c.cell 0, h1.c.cell 1, h1.c.cell 2, h1.c.cell 3, h1.c.cell 4, h2.cell 0, h2.cell 1, (World.cell?_of_block (w := V) (a := ⟨g, k * 2, none⟩) (hY.block g hboz)).trans HYY.out.1, (World.cell?_of_block (w := V) (a := ⟨g, k * 2 + 1, none⟩) (hY.block g hboz)).trans HYY.out.2⟩))
        have hcm : ∀ Y, Below V.heap.size V Y → CelM Y p c := fun Y hY => HM.out.old ((HE6.out.below hY).low)
        have HCM := Lib.hid hcm
        have hl1 := lossT_bd HC.out.rs a.lo
        have hl2 := lossT_bd HC.out.rs a.hi
        have ik0 : (0 : Int) ≤ (k : Int) := by omega
        have ik1 : (k : Int) < (k : Int) + 1 := by omega
        have hwk : IntKind.i64.wrap (k : Int) = k := IntWalk.i64_in _ (by omega)
        clear hV y0 y1 hcm
        refine wp_region_PL [1, 3, 5, 7, 16] (fun w' => w'.cell? ⟨w.heap.size, 0, none⟩ = some (.int .i64 c.hlo) ∧ w'.cell? ⟨w.heap.size, 1, none⟩ = some (.int .i64 c.hhi) ∧ w'.cell? ⟨w.heap.size, 2, none⟩ = some (.slice p.Ab p.nb p.cb) ∧ w'.cell? ⟨w.heap.size, 3, none⟩ = some (.slice p.Af p.nf p.cf) ∧ w'.cell? ⟨w.heap.size, 4, none⟩ = some (.slice p.Ar p.nr p.cr) ∧ w'.cell? ⟨w5.heap.size, 0, none⟩ = some (.int .i64 a.lo) ∧ w'.cell? ⟨w5.heap.size, 1, none⟩ = some (.int .i64 a.hi) ∧ w'.cell? ⟨g, k * 2, none⟩ = some (.int .i64 x.lo) ∧ w'.cell? ⟨g, k * 2 + 1, none⟩ = some (.int .i64 x.hi)) rfl (by kernel_rfl) (HKF.out _ (Below.refl _ V).drew) (fun hF0 => ?_)
        (refine wpAnyP_takeL (i := 0) (v := ?_) rfl (by kernel_rfl) (by kernel_rfl) (by kernel_rfl) (fun _ _ _ h => h) (by rfl) ?_ ?_; rotate_left 1; focus (intro w; go_simp; try with_reducible rfl))
        try simp only [Act.put, List.setIfInBounds_toArray, List.set_cons_zero, List.set_cons_succ]
        (refine wpAnyP_loadL (i := 1) (v := ?_) rfl (by kernel_rfl) (by kernel_rfl) (by kernel_rfl) (by rfl) (fun _ _ _ h => h) hF0 (by rfl) ?_ ?_; rotate_left 1; focus (intro w hFw; (try dsimp only at hFw); go_split_ands; go_simp; try with_reducible rfl))
        try simp only [Act.put, List.setIfInBounds_toArray, List.set_cons_zero, List.set_cons_succ]
        (refine wpAnyP_takeL (i := 2) (v := ?_) rfl (by kernel_rfl) (by kernel_rfl) (by kernel_rfl) (fun _ _ _ h => h) (by rfl) ?_ ?_; rotate_left 1; focus (intro w; go_simp; try with_reducible rfl))
        try simp only [Act.put, List.setIfInBounds_toArray, List.set_cons_zero, List.set_cons_succ]
        (refine wpAnyP_loadL (i := 3) (v := ?_) rfl (by kernel_rfl) (by kernel_rfl) (by kernel_rfl) (by rfl) (fun _ _ _ h => h) hF0 (by rfl) ?_ ?_; rotate_left 1; focus (intro w hFw; (try dsimp only at hFw); go_split_ands; go_simp; try with_reducible rfl))
        try simp only [Act.put, List.setIfInBounds_toArray, List.set_cons_zero, List.set_cons_succ]
        (refine wpAnyP_loadL (i := 5) (v := ?_) rfl (by kernel_rfl) (by kernel_rfl) (by kernel_rfl) (by rfl) (fun _ _ _ h => h) hF0 (by rfl) ?_ ?_; rotate_left 1; focus (intro w hFw; (try dsimp only at hFw); go_split_ands; go_simp; try with_reducible rfl))
        try simp only [Act.put, List.setIfInBounds_toArray, List.set_cons_zero, List.set_cons_succ]
        (refine wpAnyP_takeL (i := 6) (v := ?_) rfl (by kernel_rfl) (by kernel_rfl) (by kernel_rfl) (fun _ _ _ h => h) (by rfl) ?_ ?_; rotate_left 1; focus (intro w; go_simp; try with_reducible rfl))
        try simp only [Act.put, List.setIfInBounds_toArray, List.set_cons_zero, List.set_cons_succ]
        (refine wpAnyP_loadL (i := 7) (v := ?_) rfl (by kernel_rfl) (by kernel_rfl) (by kernel_rfl) (by rfl) (fun _ _ _ h => h) hF0 (by rfl) ?_ ?_; rotate_left 1; focus (intro w hFw; (try dsimp only at hFw); go_split_ands; go_simp; try with_reducible rfl))
        try simp only [Act.put, List.setIfInBounds_toArray, List.set_cons_zero, List.set_cons_succ]
        (refine wpAnyP_takeL (i := 11) (v := ?_) rfl (by kernel_rfl) (by kernel_rfl) (by kernel_rfl) (fun _ _ _ h => h) (by rfl) ?_ ?_; rotate_left 1; focus (intro w; go_simp; try with_reducible rfl))
        try simp only [Act.put, List.setIfInBounds_toArray, List.set_cons_zero, List.set_cons_succ]
        (refine wpAnyP_takeL (i := 12) (v := ?_) rfl (by kernel_rfl) (by kernel_rfl) (by kernel_rfl) (fun _ _ _ h => h) (by rfl) ?_ ?_; rotate_left 1; focus (intro w; go_simp; try with_reducible rfl))
        try simp only [Act.put, List.setIfInBounds_toArray, List.set_cons_zero, List.set_cons_succ]
        (refine wpAnyP_takeL (i := 13) (v := ?_) rfl (by kernel_rfl) (by kernel_rfl) (by kernel_rfl) (fun _ _ _ h => h) (by rfl) ?_ ?_; rotate_left 1; focus (intro w; go_simp; try with_reducible rfl))
        try simp only [Act.put, List.setIfInBounds_toArray, List.set_cons_zero, List.set_cons_succ]
        (refine wpAnyP_takeL (i := 14) (v := ?_) rfl (by kernel_rfl) (by kernel_rfl) (by kernel_rfl) (fun _ _ _ h => h) (by rfl) ?_ ?_; rotate_left 1; focus (intro w; go_simp; try with_reducible rfl))
        try simp only [Act.put, List.setIfInBounds_toArray, List.set_cons_zero, List.set_cons_succ]
        (refine wpAnyP_takeL (i := 15) (v := ?_) rfl (by kernel_rfl) (by kernel_rfl) (by kernel_rfl) (fun _ _ _ h => h) (by rfl) ?_ ?_; rotate_left 1; focus (intro w; go_simp; try with_reducible rfl))
        try simp only [Act.put, List.setIfInBounds_toArray, List.set_cons_zero, List.set_cons_succ]
        (refine wpAnyP_loadL (i := 16) (v := ?_) rfl (by kernel_rfl) (by kernel_rfl) (by kernel_rfl) (by rfl) (fun _ _ _ h => h) hF0 (by rfl) ?_ ?_; rotate_left 1; focus (intro w hFw; (try dsimp only at hFw); go_split_ands; go_simp; try with_reducible rfl))
        try simp only [Act.put, List.setIfInBounds_toArray, List.set_cons_zero, List.set_cons_succ]
        refine wpAnyP_step (i := 4) rfl (by kernel_rfl) (by rfl) (fun K hK => ?_)
        go_simp
        (refine (loss_any p c a.lo _ (HCM.out _ (Below.refl _ V).drew) hnr).mono ?_; rintro e w6 ⟨rfl, hb6⟩; have HB6 := Lib.hid ((Below.refl _ V).drew.trans hb6); clear hb6)
        (refine hK _ _ (HKF.out _ HB6.out) (fun hF1 => ?_); clear hK K hF0)
        try simp only [Act.put, List.setIfInBounds_toArray, List.set_cons_zero, List.set_cons_succ]
        refine wpAnyP_step (i := 8) rfl (by kernel_rfl) (by rfl) (fun K hK => ?_)
        go_simp
        (refine (loss_any p c a.hi _ (HCM.out _ HB6.out) hnr).mono ?_; rintro e w7 ⟨rfl, hb7⟩; have HB7 := Lib.hid (HB6.out.trans (hb7.mono HB6.out.size)); clear hb7)
        (refine hK _ _ (HKF.out _ HB7.out) (fun hF2 => ?_); clear hK K hF1)
        try simp only [Act.put, List.setIfInBounds_toArray, List.set_cons_zero, List.set_cons_succ]
        (refine wpAnyP_takeL (i := 9) (v := ?_) rfl (by kernel_rfl) (by kernel_rfl) (by kernel_rfl) (fun _ _ _ h => h) (by rfl) ?_ ?_; rotate_left 1; focus (intro w; go_simp; try with_reducible rfl))
        try simp only [Act.put, List.setIfInBounds_toArray, List.set_cons_zero, List.set_cons_succ]
        refine wpAnyP_step (i := 10) rfl (by kernel_rfl) (by rfl) (fun K hK => ?_)
        go_simp
        (have HB8 := Lib.hid (HB7.out.alloc HB7.out.size (.cells #[.int .i64 (lossT c.rates a.lo), .int .i64 (lossT c.rates a.hi)] 32)); have HSY := Lib.hid (Sl.new encR_len w7 [(⟨lossT c.rates a.lo, lossT c.rates a.hi⟩ : Span)] 32 #[.int .i64 (lossT c.rates a.lo), .int .i64 (lossT c.rates a.hi)] rfl))
        (refine hK _ _ (HKF.out _ HB8.out) (fun hF3 => ?_); clear hK K hF2)
        try simp only [Act.put, List.setIfInBounds_toArray, List.set_cons_zero, List.set_cons_succ]
        refine wpAnyP_step (i := 17) rfl (by kernel_rfl) (by rfl) (fun K hK => ?_)
        go_simp
        (refine (joined_any w7.heap.size ⟨lossT c.rates a.lo, lossT c.rates a.hi⟩ x _ HSY.out (by omega) (by simp only; omega)).mono ?_; rintro e w9 ⟨rfl, hb9⟩; have HB9 := Lib.hid (HB8.out.trans (hb9.mono HB8.out.size)); clear hb9)
        (refine hK _ _ (HKF.out _ HB9.out) (fun hF4 => ?_); clear hK K hF3)
        try simp only [Act.put, List.setIfInBounds_toArray, List.set_cons_zero, List.set_cons_succ]
        refine wpAnyP_step (i := 18) rfl (by kernel_rfl) (by rfl) (fun K hK => ?_)
        go_simp
        (have HB10 := Lib.hid (HB9.out.alloc HB9.out.size (.cells #[.int .i64 (x.lo + lossT c.rates a.lo), .int .i64 (x.hi + lossT c.rates a.hi)] 32)); have HBN9 := Lib.hid (Blk.new w9 32 #[.int .i64 (x.lo + lossT c.rates a.lo), .int .i64 (x.hi + lossT c.rates a.hi)]))
        (refine hK _ _ (HKF.out _ HB10.out) (fun hF5 => ?_); clear hK K hF4)
        try simp only [Act.put, List.setIfInBounds_toArray, List.set_cons_zero, List.set_cons_succ]
        refine wpAnyP_step (i := 19) rfl (by kernel_rfl) (by rfl) (fun K hK => ?_)
        (refine wp_pushR _ _ rfl W.heap.size g (k + 1) cA ((List.range (k + 1)).map (lostT c l)) (by rfl) (ownsRow_below HO6.out HB10.out (Nat.le_refl _)) w9.heap.size (stepL c a x) (by rfl) (Blk.cell (HBN9.out) 0) (Blk.cell (HBN9.out) 1) (by omega) (by have := HB10.out.size; omega) ?_; intro A11 c11 w11 hown11 hg11 hA11 hk11; have HO11 := Lib.hid hown11; have HG11 := Lib.hid hg11; have HA11 := Lib.hid hA11; have HE11 := Lib.hid ((HE6.out.below HB10.out).grown hg11 (fun r e => (by cases e; omega))); have HX11 := Lib.hid ((HX.out.below HB10.out HX.out.lt).grown hg11 (fun e => by injection e; omega)); have HK11 := Lib.hid (And.intro (hk11 (k * 2) (.int .i64 x.lo) HFL.out.1) (hk11 (k * 2 + 1) (.int .i64 x.hi) HFL.out.2)); clear hown11 hg11 hA11 hk11)
        (refine hK _ _ (⟨HE11.out.c.cell 0, HE11.out.c.cell 1, HE11.out.c.cell 2, HE11.out.c.cell 3, HE11.out.c.cell 4, HX11.out.cell 0, HX11.out.cell 1, HK11.out.1, HK11.out.2⟩) (fun hF6 => ?_); clear hK K hF5)
        try simp only [Act.put, List.setIfInBounds_toArray, List.set_cons_zero, List.set_cons_succ]
        (refine wpAnyP_takeL (i := 20) (v := ?_) rfl (by kernel_rfl) (by kernel_rfl) (by kernel_rfl) (fun _ _ _ h => h) (by rfl) ?_ ?_; rotate_left 1; focus (intro w; go_simp; try with_reducible rfl))
        try simp only [Act.put, List.setIfInBounds_toArray, List.set_cons_zero, List.set_cons_succ]
        refine wpAnyP_done (by kernel_rfl) ?_ _
        obtain ⟨g11, hg11e⟩ : ∃ g11, A11 = some ⟨g11, 0, none⟩ := by
          rcases HA11.out with h | h
          · exact ⟨_, h⟩
          · exact ⟨_, h⟩
        subst hg11e
        have hg10 : V.grownBy w9 none := ⟨HB9.out.os, HB9.out.tape, HB9.out.output, HB9.out.size, fun i hi _ => HB9.out.block i hi⟩
        have hgA : V.grownBy (w9.alloc (.cells #[.int .i64 (x.lo + lossT c.rates a.lo), .int .i64 (x.hi + lossT c.rates a.hi)] 32)) none := ⟨HB10.out.os, HB10.out.tape, HB10.out.output, HB10.out.size, fun i hi _ => HB10.out.block i hi⟩
        have HS11 := Lib.hid (And.intro ((HS6.out.1.grown hgA (fun e => by cases e)).grown HG11.out (fun e => by injection e; omega)) ((HS6.out.2.grown hgA (fun r e => by cases e)).grown HG11.out (fun r e => by cases e; omega)))
        have HD11 := Lib.hid ((HD6.out.below HB10.out).grown HG11.out (fun D hD e => by injection e with e; have := HDL.out D hD; omega))
        have HRN := Lib.hid (show (List.range (k + 1 + 1)).map (lostT c l) = (List.range (k + 1)).map (lostT c l) ++ [stepL c a x] by rw [List.range_succ (n := k + 1), List.map_append, ← HNX.out]; rfl)
        have hsz11 : W.heap.size ≤ w11.heap.size := by have := HB10.out.size; have := HG11.out.size; omega
        clear hg10 hgA ik0 ik1 hwk
        go_wp2_with fail
        go_roundw
        case rel => exact ⟨k + 1, c11, g11, by omega, by rw [show (bn : Int) + ((k + 1 : Nat) : Int) = (bn : Int) + (k : Int) + 1 by omega], rfl, by rw [HRN.out]; exact HO11.out, HE11.out, HD11.out, HS11.out, hsz11⟩
        case measure => simp [intOf]; omega
      · have hk240 : bn + k = 240 := by omega
        have hlti : decide ((bn : Int) + (k : Int) < 240) = false := by simp; omega
        have HLL := Lib.hid (show (List.range (k + 1)).map (lostT c l) = lostL c l by unfold lostL hoursL; rw [HBN.out, show 240 - (bn : Int).toNat + 1 = k + 1 by simp; omega])
        obtain ⟨bo, hbo, hso⟩ := Sl.of_own (enc := encR) (l := lostL c l) encR_len (by rw [← HLL.out, List.length_map, List.length_range]) (by have h := HO.out; rw [HLL.out] at h; exact h)
        have HSO := Lib.hid hso
        clear d0 d1 d2 d3 d4 e0 e1 e2 t0 hso
        go_wp2_with fail
        refine leaves_marksC (B := w.heap.size + 4) (fun W' => Sl encR 2 W' bo (some ⟨g, 0, none⟩) (k + 1) (lostL c l) ∧ Below w.heap.size w W') (fun X D h hD hd => ?_) (fun X h => ?_) ds _ HDr.out ⟨HSO.out, HEr.out.low⟩
        · have hg := grownBy_putObj' X D (.deferred none)
          refine ⟨h.1.grown hg (fun hn e => ?_), h.2.grown hg h.2.size (fun j e => by cases e; omega)⟩
          injection e with e
          subst e
          obtain ⟨o, _, _, hc, _⟩ := h.1.atR (k := 0) (by have := h.1.len; omega)
          unfold World.cell? at hc
          rw [hd] at hc
          simp at hc
        · exact ⟨_, results_tmp rfl _ _ _, _, _, _, bo, rfl, h.1, h.2⟩
end Go.Proofs.Ytmoolcpogilgkaa
