/-
  A range over a function whose rounds all go on: what a round may write are maps too, those of the loop's own rounds among them.
-/
import Derived.Test.YtmoolcpogilgkaaNetMap
import Derived.RangeFuncNested
import Derived.RangeFuncBound
import Derived.RangeFuncCalls
import Derived.RangeFuncLeaves
import Derived.RangeFuncBox
set_option linter.unusedVariables false
set_option linter.unusedSimpArgs false
namespace Go.Proofs.Ytmoolcpogilgkaa
open Go.RowKit

/-- a record of a loop over a function -/
def isRec : Obj → Bool
  | .loop _ => true
  | .deferred _ => true
  | _ => false
structure KeepsRec (W W' : World) : Prop where
  size : W.heap.size ≤ W'.heap.size
  same : ∀ (k : Nat) (o : Obj), W.heap[k]? = some o → isRec o = true → W'.heap[k]? = some o
theorem KeepsRec.refl (W : World) : KeepsRec W W := ⟨Nat.le_refl _, fun _ _ h _ => h⟩
theorem KeepsRec.trans {A B C : World} (h : KeepsRec A B) (k : KeepsRec B C) : KeepsRec A C := ⟨Nat.le_trans h.size k.size, fun i o hi ho => k.same i o (h.same i o hi ho) ho⟩
theorem Kc.keepsRec {n₀ : Nat} {A B : World} (h : Kc n₀ A B) : KeepsRec A B := ⟨h.size, fun k o hk ho => h.rest k o hk (by cases o <;> first | rfl | cases ho)⟩
theorem KeepsRec.of_grown {A B : World} {row : Option Nat} (h : A.grownBy B row) (hr : ∀ r, row = some r → ∀ o, A.heap[r]? = some o → isRec o = false) : KeepsRec A B :=
  ⟨h.size, fun k o hk ho => (h.block k (Array.getElem?_eq_some_iff.1 hk).1 (fun e => by rw [hr k e.symm o hk] at ho; cases ho)).trans hk⟩

/-- what an invariant of the iterator's caller lets the iterator do: lay blocks, write cells that it laid itself -/
def Abides2 {α : Type} (B : Nat) (J : List α → World → Prop) : Prop :=
  ∀ pre X Y row, J pre X → X.grownBy Y row → (∀ r, row = some r → B ≤ r ∧ ∃ cs t f, X.heap[r]? = some (.cells cs t f)) → J pre Y
/-- what the law's caller lets the law do: whatever is no map and no iterator of one -/
def Abides3 {α : Type} (B : Nat) (J : List α → World → Prop) : Prop :=
  ∀ pre X Y row, J pre X → X.grownBy Y row → (∀ r, row = some r → B ≤ r ∧ ∃ o, X.heap[r]? = some o ∧ soft o = false) → J pre Y

/-- the iterator hands out just the list xs, to a loop that never leaves -/
def Hands {α : Type} (F : Fence) (n : Nat) (P : Program) (g : Nat) (lb : Array Value) (encs : α → Array Value) (Kp : World → World → Prop) (xs : List α) (w : World) : Prop :=
  ∀ (l : Nat) (J : List α → World → Prop) (W : World), Below w.heap.size w W → Abides2 W.heap.size J →
    (∀ pre x rest W1, xs = pre ++ x :: rest → J pre W1 → YieldAt F (n - 1) P l (encs x) W1 fun e W' => e = .returned (.bool true) ∧ J (pre ++ [x]) W' ∧ Kp W1 W') →
    J [] W → CallsIn F n P g (#[.func (.yield l) #[] #[]] ++ lb) W fun e W' => (∃ v, e = .returned v) ∧ J xs W'

def onPost {α : Type} (Kp : World → World → Prop) (I : List α → World → Prop) (xs : List α) (W : World) : Exit → Act → World → Prop
  | .normal, _, W' => KeepsRec W W' ∧ Kp W W' ∧ I xs W'
  | _, _, _ => False

variable {F : Fence} {n : Nat} {P : Program}

theorem wpIn_range_on {α : Type} {g : Operand} {ps : Array Tmp} {assign body : Code} {Q : Exit → Act → World → Prop} {a : Act} {w : World}
    (hro : F.round = none) (h1 : 1 ≤ n) {gf : Nat} {lb : Array Value} (hg : a.eval g = .func (.func gf) #[] lb) (hFg : F.fn gf) (eg : ∀ args w, (callFunc gf args).run P w = .ok (.enter gf args) w)
    {encs : α → Array Value} {Kp : World → World → Prop} {xs : List α} {w0 : World} (hseq : Hands F (n - 1) P gf lb encs Kp xs w0)
    (hKt : ∀ {A B C : World}, Kp A B → Kp B C → Kp A C) (hKb : ∀ (W : World) (l : Nat) (o o' : Obj), w.heap.size ≤ l → W.heap[l]? = some o → isRec o = true → Kp W (W.putObj l o'))
    (hb0 : Below w0.heap.size w0 w) (hps : ∀ x, (encs x).size = ps.size)
    (I : List α → World → Prop) (hI : Abides3 w.heap.size I) (h0 : I [] w) (Ax : α → Act → World → Prop) (hAx : ∀ x a' (W : World) (l : Nat) (o o' : Obj), Ax x a' W → w.heap.size ≤ l → W.heap[l]? = some o → isRec o = true → Ax x a' (W.putObj l o'))
    (hassign : ∀ (l : Nat) (pre : List α) (x : α) (W : World) (K : Act → World → Prop), I pre W → (∀ a' W', KeepsRec W W' → Kp W W' → I pre W' → Ax x a' W' → K a' W') →
      assign.wpIn (F.inRound l) (n - 1 - 1) P (Exit.then K (fun _ _ _ => False)) { tmps := (ps.zip (encs x)).foldl (fun t (p, v) => t.setIfInBounds p v) a.tmps, defers := [] } W)
    (hbody : ∀ (l : Nat) (pre : List α) (x : α) (rest : List α) (a' : Act) (W : World), xs = pre ++ x :: rest → I pre W → Ax x a' W → body.wpIn (F.inRound l) (n - 1 - 1) P (onPost Kp I (pre ++ [x]) W) a' W)
    (hdone : ∀ (D : Nat) (W : World), w.heap.size ≤ D → I xs W → W.heap[D]? = some (.deferred (some [])) → Q .normal { a with defers := { target := .collected D, args := #[] } :: a.defers } W) :
    (Code.rangeFunc g ps assign body).wpIn F n P Q a w := by
  refine wpIn_rangeFunc fun fn hfn => ?_
  rw [hro]
  let rc : LoopState → Loop := fun st => { state := st, pending := none, fn := fn, tmps := a.tmps, params := ps, assign := assign, body := body, defers := w.heap.size }
  let w1 := (w.alloc (.deferred (some []))).alloc (.loop (rc .ready))
  have hD0 : w1.heap[w.heap.size]? = some (.deferred (some [])) := (Below.heap_alloc _ _ _ (by simp)).trans (World.alloc_heap_new w _)
  have hR0 : w1.heap[w.heap.size + 1]? = some (.loop (rc .ready)) := by
    have := World.alloc_heap_new (w.alloc (.deferred (some []))) (.loop (rc .ready))
    rwa [World.size_alloc] at this
  have hgr : ∀ {X : World} {o : Obj} (o' : Obj) {r : Nat} {pre : List α}, X.heap[r]? = some o → soft o = false → w.heap.size ≤ r → I pre X → I pre (X.putObj r o') := fun {X o} o' {r pre} h1 h2 h3 h4 =>
    hI pre _ _ (some r) h4 (grownBy_putObj' X r o') fun k e => by cases e; exact ⟨h3, o, h1, h2⟩
  refine ⟨w.heap.size + 1, [{ target := .collected w.heap.size, args := #[] }], w1, { target := .fn (.func gf) lb, args := #[.func (.yield (w.heap.size + 1)) #[] #[]] }, w1, gf,
    #[.func (.yield (w.heap.size + 1)) #[] #[]] ++ lb, w1, run_enterLoop_outer _ _ _ _ _, ?_, ?_, ?_, fun _ => h1, ?_⟩
  · simp only [resolve, hg]
    simp [go_sem]
  · intro f hf
    simp [Target.leads] at hf
    subst hf; exact hFg
  · simp [invoke, go_sem, eg]
  refine (hseq (w.heap.size + 1) (fun pre W => I pre W ∧ W.heap[w.heap.size + 1]? = some (.loop (rc .ready)) ∧ W.heap[w.heap.size]? = some (.deferred (some [])) ∧ w.heap.size + 2 ≤ W.heap.size) w1
    (hb0.trans ((((Below.refl _ w).alloc (Nat.le_refl _) _).alloc (by simp) _).mono hb0.size)) ?_ ?_ ⟨?_, hR0, hD0, by simp [w1]⟩).mono ?_
  · -- what the iterator does
    rintro pre X Y row ⟨k1, k2, k3, k4⟩ hgrow hrow
    have hw1 : w1.heap.size = w.heap.size + 2 := by simp [w1]
    have hne : ∀ k, k < w.heap.size + 2 → some k ≠ row := fun k hk e => by
      have := (hrow k e.symm).1; omega
    refine ⟨hI pre _ _ row k1 hgrow fun r e => ?_, (hgrow.block _ (by omega) (hne _ (by omega))).trans k2, (hgrow.block _ (by omega) (hne _ (by omega))).trans k3, Nat.le_trans k4 hgrow.size⟩
    obtain ⟨h2, cs, t, f, h3⟩ := hrow r e
    exact ⟨by omega, _, h3, rfl⟩
  · -- a round
    rintro pre x rest W hxs ⟨k1, k2, k3, k4⟩
    refine ⟨fn, _, assign, body, run_yield k2 (hps x), roundIn_of_wpIn hfn (hassign _ pre x W _ k1 ?_)⟩
    rintro a' Wa hka hkp hia hax
    have l1 := hka.same _ _ k2 rfl
    have l2 := hka.same _ _ k3 rfl
    have hlt : w.heap.size + 1 < Wa.heap.size := (Array.getElem?_eq_some_iff.1 l1).1
    refine ⟨_, run_beginRound l1 rfl, ?_⟩
    let Wb := Wa.putObj (w.heap.size + 1) (.loop (rc .busy))
    have b1 : Wb.heap[w.heap.size + 1]? = some (.loop (rc .busy)) := World.putObj_heap_same hlt
    have b2 : Wb.heap[w.heap.size]? = some (.deferred (some [])) := (World.putObj_heap_other (by omega)).trans l2
    have kb : Kp Wa Wb := hKb _ _ _ _ (by omega) l1 rfl
    have ib : I pre Wb := hgr _ l1 rfl (by omega) hia
    have ab : Ax x a' Wb := hAx x a' _ _ _ _ hax (by omega) l1 rfl
    refine wpIn_mono (hbody (w.heap.size + 1) pre x rest a' Wb hxs ib ab) ?_
    rintro e a3 W3 hp
    cases e with
    | normal =>
      obtain ⟨c1, c2, c3⟩ := hp
      have d1 := c1.same _ _ b1 rfl
      have d2 := c1.same _ _ b2 rfl
      have hlt3 : w.heap.size + 1 < W3.heap.size := (Array.getElem?_eq_some_iff.1 d1).1
      have e1 := run_endRound (P := P) none d1
      refine ⟨_, _, e1, rfl, ⟨hgr _ d1 rfl (by omega) c3, World.putObj_heap_same hlt3, (World.putObj_heap_other (by omega)).trans d2, by simp; omega⟩, hKt hkp (hKt (hKt kb c2) (hKb _ _ _ _ (by omega) d1 rfl))⟩
    | ret => exact hp.elim
    | exit _ => exact hp.elim
    | goto _ => exact hp.elim
    | panic _ => exact hp.elim
    | outgrown => exact hp.elim
  · exact hI [] _ _ none (hI [] _ _ none h0 (World.grownBy_alloc w _ none) fun _ e => by cases e) (World.grownBy_alloc _ _ none) fun _ e => by cases e
  · rintro e W2 ⟨⟨v, rfl⟩, k1, k2, k3, k4⟩
    exact ⟨none, _, run_endLoop (P := P) k2 (by simp [rc]), hdone _ _ (Nat.le_refl _) (hgr _ k2 rfl (by omega) k1) ((World.putObj_heap_other (by omega)).trans k3)⟩
end Go.Proofs.Ytmoolcpogilgkaa
