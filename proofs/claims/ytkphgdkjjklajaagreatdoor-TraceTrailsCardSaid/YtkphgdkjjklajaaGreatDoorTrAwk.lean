/-
  What appends onto a row leave: the cells of all other blocks, and the row's own first cells. A range over a function that hands out what lies in memory: each round knows what it holds; rounds may return. trace.choices: the iterator over all lists of some numbers below n, in order. Whether a sample tells two suspects apart; whether one of some samples does (slices.ContainsFunc with a predicate that lays blocks). trace.Samples: the fewest samples that tell all suspects apart. trace.Samples: the walk. The chapter's example net; that the chapter's examples hold, in plain words. The chapter's example net is made; the chapter's examples hold: the walk.
-/
import Derived.Test.YtkphgdkjjklajaaGreatDoorTrSet
import Derived.Test.YtkphgdkjjklajaaGreatDoorTrArr
import Derived.Maps.AppendAt
import Derived.Test.YtkphgdkjjklajaaGreatDoorGoOn
import Derived.Test.YtkphgdkjjklajaaGreatDoorTrHol
import Derived.OwnWalkIn
import Derived.TacticsInMore
import Derived.LoopNIn
import Derived.LoopIn
import Derived.Test.YtkphgdkjjklajaaGreatDoorSame
import Derived.Deep.QuietTactic
import Derived.BigQuiet
set_option linter.unusedVariables false
set_option linter.unusedSimpArgs false
namespace Go.Proofs.YtkphgdkjjklajaaGreatDoor
open Go.RowKit Go.Shelf

/-- every block of cells lies as it lay -/
structure Ks (W W' : World) : Prop where
  size : W.heap.size ≤ W'.heap.size
  all : ∀ (k : Nat) (cs : Array Value) (t : TypeId) (f : Nat × Nat), W.heap[k]? = some (.cells cs t f) → W'.heap[k]? = some (.cells cs t f)
theorem Ks.refl (W : World) : Ks W W := ⟨Nat.le_refl _, fun _ _ _ _ h => h⟩
theorem Ks.trans {A B C : World} (h : Ks A B) (k : Ks B C) : Ks A C := ⟨Nat.le_trans h.size k.size, fun i cs t f hi => k.all i cs t f (h.all i cs t f hi)⟩
theorem Ks.of_below {A B : World} (h : Below A.heap.size A B) : Ks A B := ⟨h.size, fun i _ _ _ hi => (h.block i (Array.getElem?_eq_some_iff.1 hi).1).trans hi⟩
theorem Ks.blk {W W' : World} {g : Nat} {t : TypeId} {cs : Array Value} (h : Ks W W') (hb : Blk W g t cs) : Blk W' g t cs := h.all _ _ _ _ hb

/-- all cells lie as they lay, but those of block g from its n-th on -/
structure Kq (g : Option Nat) (n : Nat) (W W' : World) : Prop where
  size : W.heap.size ≤ W'.heap.size
  other : ∀ (k : Nat) (cs : Array Value) (t : TypeId) (f : Nat × Nat), W.heap[k]? = some (.cells cs t f) → some k ≠ g → W'.heap[k]? = some (.cells cs t f)
  own : ∀ (k : Nat) (cs : Array Value) (t : TypeId) (f : Nat × Nat), W.heap[k]? = some (.cells cs t f) → some k = g → ∃ cs', W'.heap[k]? = some (.cells cs' t f) ∧ cs'.size = cs.size ∧ cs'.toList.take n = cs.toList.take n
theorem Ks.toKq {W W' : World} (h : Ks W W') (g : Option Nat) (n : Nat) : Kq g n W W' := ⟨h.size, fun k cs t f hk _ => h.all k cs t f hk, fun k cs t f hk _ => ⟨cs, h.all k cs t f hk, rfl, rfl⟩⟩
theorem Kq.refl (g : Option Nat) (n : Nat) (W : World) : Kq g n W W := (Ks.refl W).toKq g n
theorem Kq.trans {g : Option Nat} {n : Nat} {A B C : World} (h : Kq g n A B) (k : Kq g n B C) : Kq g n A C :=
  ⟨Nat.le_trans h.size k.size, fun i cs t f hi hn => k.other i cs t f (h.other i cs t f hi hn) hn, fun i cs t f hi hn => by
    obtain ⟨c1, h1, h2, h3⟩ := h.own i cs t f hi hn
    obtain ⟨c2, k1, k2, k3⟩ := k.own i c1 t f h1 hn
    exact ⟨c2, k1, k2.trans h2, k3.trans h3⟩⟩
theorem Kq.blk {g0 : Option Nat} {n : Nat} {W W' : World} {g : Nat} {t : TypeId} {cs : Array Value} (h : Kq g0 n W W') (hb : Blk W g t cs) (hn : some g ≠ g0) : Blk W' g t cs := h.other _ _ _ _ hb hn
theorem Kq.row {W W' : World} {base : Nat} {e : TypeId} {v : Value} {n : Nat} {xs : List Value} (h : Kq v.ownBlock n W W') (ho : W.ownsRow base e 1 v n xs) : W'.ownsRow base e 1 v n xs := by
  refine ⟨ho.1, ?_⟩
  rcases ho.2 with hn | ⟨g, cap, cur, rfl, hb, hg, h1, h2, h3, h4⟩
  · exact .inl hn
  · obtain ⟨cs', k1, k2, k3⟩ := h.own g cur e (0, 0) hg rfl
    exact .inr ⟨g, cap, cs', rfl, hb, k1, h1, h2, by rw [k2, h3], by rw [Nat.mul_one] at h4 ⊢; rw [k3, h4]⟩
theorem Kq.none {W W' : World} {n : Nat} (h : Kq none n W W') : Ks W W' := ⟨h.size, fun k cs t f hk => h.other k cs t f hk (by simp)⟩

/-- an append of one number onto a row of one's own -/
theorem run_appendK (w : World) (base : Nat) (ty : TypeId) (v : Value) (n : Nat) (xs : List Value) (hown : w.ownsRow base 3 1 v n xs) (a : Addr) (c : Nat) (x : Int) (hx : w.cell? a = some (.int .i64 x)) (hn : n ≤ 1000000) (hbase : base ≤ w.heap.size) :
    ∃ A' c' w', (Builtin.append_ #[22, 22] ty #[v, .slice (some a) 1 c]).run Tryz.prog w = .ok (.slice A' (n + 1) c') w' ∧ w'.ownsRow base 3 1 (.slice A' (n + 1) c') (n + 1) (xs ++ [.int .i64 x]) ∧ w.grownBy w' v.ownBlock ∧
      (∀ w2, Kq (Value.ownBlock (.slice A' (n + 1) c')) (n + 1) w' w2 → Kq v.ownBlock n w w2) := by
  obtain ⟨i0, hi, iz0, iz1, iz2⟩ := info_parts info_int
  have hnews : ∀ j u, [Value.int .i64 x][j]? = some u → w.cell? (a.add j) = some u := by
    intro j u hu
    rcases j with _ | j
    · have e : a.add 0 = a := by unfold Addr.add; split <;> simp_all
      rw [e, hx]; simpa using hu
    · simp at hu
  have hone : ∀ u ∈ [Value.int .i64 x], u.oneCell' = true := by simp [Value.oneCell']
  have hfresh : ∀ (cs : Array Value) (w2 : World), Kq (some w.heap.size) (n + 1) (w.drew.alloc (.cells cs 3)) w2 → Ks w w2 := fun cs w2 h =>
    ⟨by have := h.size; simp at this; omega, fun k cs' t f hk => h.other k cs' t f ((Below.heap_alloc w.drew _ k (Array.getElem?_eq_some_iff.1 hk).1).trans hk) (fun e => by injection e with e; have := (Array.getElem?_eq_some_iff.1 hk).1; omega)⟩
  have hgrow : ∀ (cs : Array Value) (row : Option Nat), w.grownBy (w.drew.alloc (.cells cs 3)) row := fun cs row => ⟨rfl, rfl, rfl, by simp, fun k hk _ => Below.heap_alloc w.drew _ k hk⟩
  have hge : ∀ old, n + 1 ≤ grownCap w (n + 1) old 3 := fun old => grownCap_ge w (n + 1) old _
  have hlem : ∀ old, grownCap w (n + 1) old 3 ≤ maxLen := fun old => grownCap_le_maxLen w (n + 1) old _ (by unfold maxLen; omega)
  rcases hown.2 with ⟨rfl, rfl⟩ | ⟨g, cap, cur, rfl, hbg, hg, hnc, hcm, hcs, htake⟩
  · obtain rfl : xs = [] := List.eq_nil_of_length_eq_zero (by simpa using hown.1)
    have hr := run_append_nil (P := Tryz.prog) w 22 ty 3 i0 _ Tryz.underlying22 hi iz0 a 1 c [.int .i64 x] (by rw [iz1]; rfl) hnews (by omega) (by omega) (by rw [iz2]; omega)
    refine ⟨_, _, _, hr, ⟨rfl, .inr ⟨w.heap.size, _, _, rfl, hbase, Blk.new w.drew 3 _, hge 0, hlem 0, ?_, ?_⟩⟩, hgrow _ _, fun w2 h => (hfresh _ w2 h).toKq _ _⟩
    · have := hge 0
      simp only [Nat.zero_add] at this ⊢
      simp [size_zeroCells, Value.cells]; omega
    · simp
  · by_cases hroom : n + 1 ≤ cap
    · have hr := run_append_room (P := Tryz.prog) w 22 ty 3 i0 Tryz.underlying22 hi g n cap cur hg a 1 c [.int .i64 x] (by rw [iz1]; rfl) hnews hone hroom (by rw [iz1, hcs]; simp; omega)
      have hlen := hown.1
      rw [iz1] at hr
      refine ⟨_, _, _, hr, ⟨by simp [hlen], .inr ⟨g, cap, _, rfl, hbg, setRow_heap w g cur _ 3 _ hg, hroom, hcm, ?_, ?_⟩⟩, grown_setRow _ _ _, fun w2 h => ?_⟩
      · simp only [List.size_toArray, List.length_append, List.length_take, List.length_drop, Array.length_toList, List.length_singleton]; omega
      · rw [htake, ← show (xs ++ [Value.int .i64 x]).length = (n + 1) * 1 by simp [hlen]]; exact List.take_left
      · refine ⟨by have := h.size; simpa [World.setRow] using this, fun k cs t f hk hne => ?_, fun k cs t f hk he => ?_⟩
        · exact h.other k cs t f ((setRow_other w g k _ (fun e => hne (by rw [e]; rfl))).trans hk) hne
        · have he' : k = g := by simpa [Value.ownBlock] using he
          subst he'
          rw [hg] at hk
          injection hk with hk
          injection hk with k1 k2 k3
          subst k1; subst k2; subst k3
          obtain ⟨c2, m1, m2, m3⟩ := h.own k _ _ _ (setRow_heap w k cur _ 3 _ hg) rfl
          refine ⟨c2, m1, ?_, ?_⟩
          · rw [m2]; simp; omega
          · have e := congrArg (List.take n) m3
            rw [List.take_take, List.take_take, Nat.min_eq_left (by omega)] at e
            rw [e]
            rw [Nat.mul_one] at htake
            simp [htake, hlen]
    · have holds : ∀ j u, xs[j]? = some u → w.cell? ((⟨g, 0, none⟩ : Addr).add j) = some u := hown.cells (g := g) rfl
      have hr := run_append_grow (P := Tryz.prog) w 22 ty 3 i0 _ Tryz.underlying22 hi iz0 ⟨g, 0, none⟩ n cap xs (by rw [iz1]; exact hown.1) holds a 1 c [.int .i64 x] (by rw [iz1]; rfl) hnews (by omega) (by omega) (growslice_fits (by omega) (by rw [iz2]; omega))
      have hlen := hown.1
      refine ⟨_, _, _, hr, ⟨by simp [hlen], .inr ⟨w.heap.size, _, _, rfl, hbase, Blk.new w.drew 3 _, hge cap, hlem cap, ?_, ?_⟩⟩, hgrow _ _, fun w2 h => (hfresh _ w2 h).toKq _ _⟩
      · have := hge cap
        simp [size_zeroCells, Value.cells, hlen]; omega
      · have hl2 : xs.length = n := by simpa using hlen
        simp [List.take_append, hl2, List.take_of_length_le (show xs.length ≤ n + 1 by omega)]
theorem wp_appendK {o : Oper} {a : Act} {w : World} {K : Act → World → Prop} {Q : Exit → Act → World → Prop} (s x : Operand)
    (ho : o.op = .call { callee := .builtin .append, args := #[s, x], argTypes := #[22, 22] })
    (base : Nat) (v : Value) (n : Nat) (xs : List Value) (hs : a.eval s = v) (hown : w.ownsRow base 3 1 v n xs) (p : Addr) (c : Nat) (y : Int) (hx : a.eval x = .slice (some p) 1 c) (hy : w.cell? p = some (.int .i64 y))
    (hn : n ≤ 1000000) (hbase : base ≤ w.heap.size)
    (h : ∀ A' c' w', w'.ownsRow base 3 1 (.slice A' (n + 1) c') (n + 1) (xs ++ [.int .i64 y]) → w.grownBy w' v.ownBlock → (∀ w2, Kq (Value.ownBlock (.slice A' (n + 1) c')) (n + 1) w' w2 → Kq v.ownBlock n w w2) →
      K (a.put o.dst (.slice A' (n + 1) c')) w') : o.wp Tryz.prog a w K Q := by
  obtain ⟨A', c', w', hrun, h2, h3, h4⟩ := run_appendK w base o.type v n xs hown p c y hy hn hbase
  unfold Oper.wp execOp
  simp only [ho, resolve, invoke, builtin, Sem.run_bind, Sem.run_pure, Result.andThen_ok, List.map_toArray, List.map_cons, List.map_nil, hs, hx, hrun]
  exact h A' c' w' h2 h3 h4
end Go.Proofs.YtkphgdkjjklajaaGreatDoor

namespace Go.Proofs.YtkphgdkjjklajaaGreatDoor
open Go.RowKit

/-- what lies when a round has returned: the iterator may lay blocks -/
def AbidesR (Jx : World → Prop) : Prop := ∀ X Y, Jx X → X.grownBy Y none → Jx Y
/-- .. and the law may write its records -/
def AbidesX (B : Nat) (Ix : World → Prop) : Prop := ∀ X Y row, Ix X → X.grownBy Y row → (∀ r, row = some r → B ≤ r ∧ ∃ o, X.heap[r]? = some o ∧ isRec o = true) → Ix Y

/-- the iterator hands out values of the contents xs, one by one; G says what lies where a value points -/
def Gives {α β : Type} (F : Fence) (n : Nat) (P : Program) (g : Nat) (lb : Array Value) (encs : α → Array Value) (con : α → β) (G : α → World → Prop) (Kp : World → World → Prop) (xs : List β) (w : World) : Prop :=
  ∀ (l : Nat) (J : List β → World → Prop) (Jx : World → Prop) (W : World), Below w.heap.size w W → Abides2 W.heap.size J → AbidesR Jx →
    (∀ pre x rest W1, xs = pre ++ con x :: rest → G x W1 → J pre W1 → YieldAt F (n - 1) P l (encs x) W1 fun e W' => (e = .returned (.bool true) ∧ J (pre ++ [con x]) W' ∧ Kp W1 W') ∨ (e = .returned (.bool false) ∧ Jx W')) →
    J [] W → CallsIn F n P g (#[.func (.yield l) #[] #[]] ++ lb) W fun e W' => (∃ v, e = .returned v) ∧ (J xs W' ∨ Jx W')

def gvPost {β : Type} (Kp : World → World → Prop) (I : List β → World → Prop) (Ix : World → Prop) (xs : List β) (W : World) : Exit → Act → World → Prop
  | .normal, _, W' => KeepsRec W W' ∧ Kp W W' ∧ I xs W'
  | .ret, _, W' => KeepsRec W W' ∧ Ix W'
  | _, _, _ => False

variable {F : Fence} {n : Nat} {P : Program}

theorem wpIn_range_gv {α β : Type} {g : Operand} {ps : Array Tmp} {assign body : Code} {Q : Exit → Act → World → Prop} {a : Act} {w : World}
    (hro : F.round = none) (h1 : 1 ≤ n) {gf : Nat} {lb : Array Value} (hg : a.eval g = .func (.func gf) #[] lb) (hFg : F.fn gf) (eg : ∀ args w, (callFunc gf args).run P w = .ok (.enter gf args) w)
    {encs : α → Array Value} {con : α → β} {G : α → World → Prop} {Kp : World → World → Prop} {xs : List β} {w0 : World} (hseq : Gives F (n - 1) P gf lb encs con G Kp xs w0)
    (hKt : ∀ {A B C : World}, Kp A B → Kp B C → Kp A C) (hKb : ∀ (W : World) (l : Nat) (o o' : Obj), w.heap.size ≤ l → W.heap[l]? = some o → isRec o = true → Kp W (W.putObj l o'))
    (hG : ∀ x (A B : World), Kp A B → G x A → G x B)
    (hb0 : Below w0.heap.size w0 w) (hps : ∀ x, (encs x).size = ps.size)
    (I : List β → World → Prop) (Ix : World → Prop) (hI : Abides3 w.heap.size I) (hIx : AbidesX w.heap.size Ix) (h0 : I [] w) (Ax : α → Act → World → Prop) (hAx : ∀ x a' (W : World) (l : Nat) (o o' : Obj), Ax x a' W → w.heap.size ≤ l → W.heap[l]? = some o → isRec o = true → Ax x a' (W.putObj l o'))
    (hassign : ∀ (l : Nat) (pre : List β) (x : α) (W : World) (K : Act → World → Prop), I pre W → (∀ a' W', KeepsRec W W' → Kp W W' → I pre W' → Ax x a' W' → K a' W') →
      assign.wpIn (F.inRound l) (n - 1 - 1) P (Exit.then K (fun _ _ _ => False)) { tmps := (ps.zip (encs x)).foldl (fun t (p, v) => t.setIfInBounds p v) a.tmps, defers := [] } W)
    (hbody : ∀ (l : Nat) (pre : List β) (x : α) (rest : List β) (a' : Act) (W : World), xs = pre ++ con x :: rest → G x W → I pre W → Ax x a' W → body.wpIn (F.inRound l) (n - 1 - 1) P (gvPost Kp I Ix (pre ++ [con x]) W) a' W)
    (hdone : ∀ (D : Nat) (W : World), w.heap.size ≤ D → I xs W → W.heap[D]? = some (.deferred (some [])) → Q .normal { a with defers := { target := .collected D, args := #[] } :: a.defers } W)
    (hstop : ∀ (D : Nat) (W : World), w.heap.size ≤ D → Ix W → W.heap[D]? = some (.deferred (some [])) → Code.ret.wpIn F n P Q { a with defers := { target := .collected D, args := #[] } :: a.defers } W) :
    (Code.rangeFunc g ps assign body).wpIn F n P Q a w := by
  refine wpIn_rangeFunc fun fn hfn => ?_
  rw [hro]
  let rc : LoopState → Option Code → Loop := fun st pe => { state := st, pending := pe, fn := fn, tmps := a.tmps, params := ps, assign := assign, body := body, defers := w.heap.size }
  let w1 := (w.alloc (.deferred (some []))).alloc (.loop (rc .ready none))
  have hD0 : w1.heap[w.heap.size]? = some (.deferred (some [])) := (Below.heap_alloc _ _ _ (by simp)).trans (World.alloc_heap_new w _)
  have hR0 : w1.heap[w.heap.size + 1]? = some (.loop (rc .ready none)) := by
    have := World.alloc_heap_new (w.alloc (.deferred (some []))) (.loop (rc .ready none))
    rwa [World.size_alloc] at this
  have hgr : ∀ {X : World} {o : Obj} (o' : Obj) {r : Nat} {pre : List β}, X.heap[r]? = some o → soft o = false → w.heap.size ≤ r → I pre X → I pre (X.putObj r o') := fun {X o} o' {r pre} h1 h2 h3 h4 =>
    hI pre _ _ (some r) h4 (grownBy_putObj' X r o') fun k e => by cases e; exact ⟨h3, o, h1, h2⟩
  have hgx : ∀ {X : World} {o : Obj} (o' : Obj) {r : Nat}, X.heap[r]? = some o → isRec o = true → w.heap.size ≤ r → Ix X → Ix (X.putObj r o') := fun {X o} o' {r} h1 h2 h3 h4 =>
    hIx _ _ (some r) h4 (grownBy_putObj' X r o') fun k e => by cases e; exact ⟨h3, o, h1, h2⟩
  refine ⟨w.heap.size + 1, [{ target := .collected w.heap.size, args := #[] }], w1, { target := .fn (.func gf) lb, args := #[.func (.yield (w.heap.size + 1)) #[] #[]] }, w1, gf,
    #[.func (.yield (w.heap.size + 1)) #[] #[]] ++ lb, w1, run_enterLoop_outer _ _ _ _ _, ?_, ?_, ?_, fun _ => h1, ?_⟩
  · simp only [resolve, hg]
    simp [go_sem]
  · intro f hf
    simp [Target.leads] at hf
    subst hf; exact hFg
  · simp [invoke, go_sem, eg]
  refine (hseq (w.heap.size + 1) (fun pre W => I pre W ∧ W.heap[w.heap.size + 1]? = some (.loop (rc .ready none)) ∧ W.heap[w.heap.size]? = some (.deferred (some [])) ∧ w.heap.size + 2 ≤ W.heap.size)
    (fun W => Ix W ∧ W.heap[w.heap.size + 1]? = some (.loop (rc .done (some .ret))) ∧ W.heap[w.heap.size]? = some (.deferred (some [])) ∧ w.heap.size + 2 ≤ W.heap.size) w1
    (hb0.trans ((((Below.refl _ w).alloc (Nat.le_refl _) _).alloc (by simp) _).mono hb0.size)) ?_ ?_ ?_ ⟨?_, hR0, hD0, by simp [w1]⟩).mono ?_
  · rintro pre X Y row ⟨k1, k2, k3, k4⟩ hgrow hrow
    have hw1 : w1.heap.size = w.heap.size + 2 := by simp [w1]
    have hne : ∀ k, k < w.heap.size + 2 → some k ≠ row := fun k hk e => by
      have := (hrow k e.symm).1; omega
    refine ⟨hI pre _ _ row k1 hgrow fun r e => ?_, (hgrow.block _ (by omega) (hne _ (by omega))).trans k2, (hgrow.block _ (by omega) (hne _ (by omega))).trans k3, Nat.le_trans k4 hgrow.size⟩
    obtain ⟨h2, cs, t, f, h3⟩ := hrow r e
    exact ⟨by omega, _, h3, rfl⟩
  · rintro X Y hx hgrow
    obtain ⟨k1, k2, k3, k4⟩ := hx
    exact ⟨hIx _ _ none k1 hgrow (fun r e => (by cases e)), (hgrow.block _ (by omega) (by simp)).trans k2, (hgrow.block _ (by omega) (by simp)).trans k3, Nat.le_trans k4 hgrow.size⟩
  · -- a round
    rintro pre x rest W hxs hgx0 ⟨k1, k2, k3, k4⟩
    refine ⟨fn, _, assign, body, run_yield k2 (hps x), roundIn_of_wpIn hfn (hassign _ pre x W _ k1 ?_)⟩
    rintro a' Wa hka hkp hia hax
    have l1 := hka.same _ _ k2 rfl
    have l2 := hka.same _ _ k3 rfl
    have hlt : w.heap.size + 1 < Wa.heap.size := (Array.getElem?_eq_some_iff.1 l1).1
    refine ⟨_, run_beginRound l1 rfl, ?_⟩
    let Wb := Wa.putObj (w.heap.size + 1) (.loop (rc .busy none))
    have b1 : Wb.heap[w.heap.size + 1]? = some (.loop (rc .busy none)) := World.putObj_heap_same hlt
    have b2 : Wb.heap[w.heap.size]? = some (.deferred (some [])) := (World.putObj_heap_other (by omega)).trans l2
    have kb : Kp Wa Wb := hKb _ _ _ _ (by omega) l1 rfl
    have ib : I pre Wb := hgr _ l1 rfl (by omega) hia
    have ab : Ax x a' Wb := hAx x a' _ _ _ _ hax (by omega) l1 rfl
    refine wpIn_mono (hbody (w.heap.size + 1) pre x rest a' Wb hxs (hG x _ _ (hKt hkp kb) hgx0) ib ab) ?_
    rintro e a3 W3 hp
    cases e with
    | normal =>
      obtain ⟨c1, c2, c3⟩ := hp
      have d1 := c1.same _ _ b1 rfl
      have d2 := c1.same _ _ b2 rfl
      have hlt3 : w.heap.size + 1 < W3.heap.size := (Array.getElem?_eq_some_iff.1 d1).1
      have e1 := run_endRound (P := P) none d1
      refine ⟨_, _, e1, .inl ⟨rfl, ⟨hgr _ d1 rfl (by omega) c3, World.putObj_heap_same hlt3, (World.putObj_heap_other (by omega)).trans d2, by simp; omega⟩, hKt hkp (hKt (hKt kb c2) (hKb _ _ _ _ (by omega) d1 rfl))⟩⟩
    | ret =>
      obtain ⟨c1, c3⟩ := hp
      have d1 := c1.same _ _ b1 rfl
      have d2 := c1.same _ _ b2 rfl
      have hlt3 : w.heap.size + 1 < W3.heap.size := (Array.getElem?_eq_some_iff.1 d1).1
      have e1 := run_endRound (P := P) (some .ret) d1
      refine ⟨_, _, e1, .inr ⟨rfl, hgx _ d1 rfl (by omega) c3, World.putObj_heap_same hlt3, (World.putObj_heap_other (by omega)).trans d2, by simp; omega⟩⟩
    | exit _ => exact hp.elim
    | goto _ => exact hp.elim
    | panic _ => exact hp.elim
    | outgrown => exact hp.elim
  · exact hI [] _ _ none (hI [] _ _ none h0 (World.grownBy_alloc w _ none) fun _ e => by cases e) (World.grownBy_alloc _ _ none) fun _ e => by cases e
  · rintro e W2 ⟨⟨v, rfl⟩, (⟨k1, k2, k3, k4⟩ | ⟨k1, k2, k3, k4⟩)⟩
    · exact ⟨none, _, run_endLoop (P := P) k2 (by simp [rc]), hdone _ _ (Nat.le_refl _) (hgr _ k2 rfl (by omega) k1) ((World.putObj_heap_other (by omega)).trans k3)⟩
    · exact ⟨some .ret, _, run_endLoop (P := P) k2 (by simp [rc]), hstop _ _ (Nat.le_refl _) (hgx _ k2 rfl (by omega) k1) ((World.putObj_heap_other (by omega)).trans k3)⟩
end Go.Proofs.YtkphgdkjjklajaaGreatDoor

namespace Go.Proofs.YtkphgdkjjklajaaGreatDoor
open Go.RowKit Go.Shelf Go.Sort
attribute [local go_sem] Oper.semAt_some

set_option maxRecDepth 100000 in
set_option maxHeartbeats 1000000 in
theorem clone_nil (w : World) : Calls Tryz.prog 68 #[.slice none 0 0] w fun e w' => e = .returned (.slice none 0 0) ∧ w' = w := by
  have en := fun w : World => Lib.run_eql_slice_nil (P := Tryz.prog) w 22 3 none 0 0 0 0 Tryz.underlying22
  go_enter Tryz.func68, Tryz.ntmps68
  go_wp2
  go_ret
  exact ⟨rfl, rfl⟩
/-- a copy of a row of one's own -/
theorem clone_row (base n c : Nat) (A : Option Addr) (l : List Int) (hn : n ≤ 1000000) (h0 : n = 0 → A = none ∧ c = 0) (w : World) (hl : w.ownsRow base 3 1 (.slice A n c) n (l.flatMap encI)) :
    Calls Tryz.prog 68 #[.slice A n c] w fun e w' => ∃ A' c', e = .returned (.slice A' n c') ∧ w'.ownsRow w.heap.size 3 1 (.slice A' n c') n (l.flatMap encI) ∧ Below w.heap.size w w' := by
  have hlen : n = l.length := by have := hl.1; rw [flat_len encI_len] at this; omega
  rcases Nat.eq_zero_or_pos n with hz | hz
  · obtain ⟨rfl, rfl⟩ := h0 hz
    subst hz
    obtain rfl : l = [] := List.length_eq_zero_iff.1 hlen.symm
    refine (clone_nil w).mono ?_
    rintro e w' ⟨rfl, rfl⟩
    exact ⟨none, 0, rfl, World.ownsRow_nil _ _ _ _, Below.refl _ _⟩
  · obtain ⟨b, _, hs⟩ := Sl.of_own (enc := encI) encI_len hlen hl
    refine (cloneI_any b n c A l hn hz w hs).mono ?_
    rintro e w' ⟨g, c', rfl, h1, h2⟩
    exact ⟨_, c', rfl, h1, h2⟩

/-- a list that is handed out: its address, length, room, content -/
structure HdL where
  A : Option Addr
  n : Nat
  c : Nat
  l : List Int
/-- as it lies -/
def giveL (n₀ : Nat) (x : HdL) (W : World) : Prop := W.ownsRow n₀ 3 1 (.slice x.A x.n x.c) x.n (x.l.flatMap encI)
theorem giveL_ks (n₀ : Nat) (x : HdL) (A B : World) (h : Ks A B) (hg : giveL n₀ x A) : giveL n₀ x B := (h.toKq _ _).row hg

theorem choT_succ (n many : Nat) (from_ : Int) : choT n (many + 1) from_ = ((rg n).filter fun i => decide (from_ ≤ i)).flatMap fun i => (choT n many (i + 1)).map (i :: ·) := rfl
/-- from the k-th on -/
theorem choT_step (n many k : Nat) (hk : k < n) : choT n (many + 1) k = (choT n many (k + 1)).map ((k : Int) :: ·) ++ choT n (many + 1) (k + 1 : Nat) := by
  have e : ((rg n).filter fun i => decide ((k : Int) ≤ i)) = (k : Int) :: ((rg n).filter fun i => decide (((k + 1 : Nat) : Int) ≤ i)) := by
    have h1 : ((rg n).filter fun i => decide ((k : Int) ≤ i)).Pairwise (· < ·) := (rg_pairwise n).filter _
    have h2 : ((k : Int) :: ((rg n).filter fun i => decide (((k + 1 : Nat) : Int) ≤ i))).Pairwise (· < ·) := by
      rw [List.pairwise_cons]
      refine ⟨fun a ha => ?_, (rg_pairwise n).filter _⟩
      have := (List.mem_filter.1 ha).2
      simp only [decide_eq_true_eq] at this
      omega
    refine sorted_ext h1 h2 fun x => ?_
    simp only [List.mem_filter, List.mem_cons, mem_rg, decide_eq_true_eq]
    omega
  rw [choT_succ, e, List.flatMap_cons, choT_succ]
theorem choT_end (n many : Nat) : choT n (many + 1) n = [] := by
  rw [choT_succ, show ((rg n).filter fun i => decide ((n : Int) ≤ i)) = [] from List.filter_eq_nil_iff.2 fun x hx => by have := (mem_rg.1 hx).2; simp; omega]
  rfl

theorem wpIn_append1 {F : Fence} {n : Nat} {P : Program} {o : Oper} {a : Act} {w w' : World} {K : Act → World → Prop} {Q : Exit → Act → World → Prop} (hro : F.round = none) (s x : Operand) (t : TypeId)
    (ho : o.op = .call { callee := .builtin .append, args := #[s, x], argTypes := #[t, t] }) {vs vx v : Value} (hs : a.eval s = vs) (hx : a.eval x = vx)
    (hr : (Builtin.append_ #[t, t] o.type #[vs, vx]).run P w = .ok v w') (ha : o.about P w a.eval = none) (h : K (a.put o.dst v) w') : o.wpIn F n P a w K Q := by
  refine ⟨fun f hf => (by rw [ha] at hf; cases hf), ?_⟩
  · rw [hro]
    unfold Oper.semAt execOp
    simp only [ho, resolve, invoke, builtin, Sem.run_bind, Sem.run_pure, Result.andThen_ok, List.map_toArray, List.map_cons, List.map_nil, hs, hx, hr]
    exact h

/-- what the walk has captured -/
structure ChEnv (W : World) (Bm Bt Bn Bp L many n : Nat) : Prop where
  m : Blk W Bm 3 #[.int .i64 many]
  y : Blk W Bt 108 #[.func (.yield L) #[] #[]]
  n : Blk W Bn 3 #[.int .i64 n]
  p : Blk W Bp 109 #[.func (.func 67) #[] #[.pointer (some ⟨Bm, 0, none⟩), .pointer (some ⟨Bt, 0, none⟩), .pointer (some ⟨Bn, 0, none⟩), .pointer (some ⟨Bp, 0, none⟩)]]
theorem ChEnv.kq {W W' : World} {Bm Bt Bn Bp L many n : Nat} (h : ChEnv W Bm Bt Bn Bp L many n) {g : Option Nat} {k : Nat} (hk : Kq g k W W') (h1 : some Bm ≠ g) (h2 : some Bt ≠ g) (h3 : some Bn ≠ g) (h4 : some Bp ≠ g) : ChEnv W' Bm Bt Bn Bp L many n :=
  ⟨hk.blk h.m h1, hk.blk h.y h2, hk.blk h.n h3, hk.blk h.p h4⟩
theorem ChEnv.ks {W W' : World} {Bm Bt Bn Bp L many n : Nat} (h : ChEnv W Bm Bt Bn Bp L many n) (hk : Ks W W') : ChEnv W' Bm Bt Bn Bp L many n := h.kq (hk.toKq none 0) (by simp) (by simp) (by simp) (by simp)

theorem yes_no {e : Ending} {A B : Prop} (h : (e = .returned (.bool true) ∧ A) ∨ (e = .returned (.bool false) ∧ B)) : ∃ bv, e = .returned (.bool bv) ∧ ((bv = true ∧ A) ∨ (bv = false ∧ B)) := by
  rcases h with ⟨h, k⟩ | ⟨h, k⟩
  · exact ⟨true, h, .inl ⟨rfl, k⟩⟩
  · exact ⟨false, h, .inr ⟨rfl, k⟩⟩
def WalkPost (J : List (List Int) → World → Prop) (Jx : World → Prop) (A : Option Addr) (c : Nat) (l : List Int) (ys : List (List Int)) (W : World) (e : Ending) (W' : World) : Prop :=
  (e = .returned (.bool true) ∧ J ys W' ∧ Kq (Value.ownBlock (.slice A l.length c)) l.length W W') ∨ (e = .returned (.bool false) ∧ Jx W')

set_option maxRecDepth 100000 in
set_option maxHeartbeats 2000000 in
theorem walk_in (L base many n Bm Bt Bn Bp : Nat) (h1 : Bm < base) (h2 : Bt < base) (h3 : Bn < base) (h4 : Bp < base) (hn : n ≤ 8) (hmany : many ≤ 8) (J : List (List Int) → World → Prop) (Jx : World → Prop) (xs : List (List Int)) (hJ : Abides2 base J) (hJx : AbidesR Jx)
    (hY : ∀ m pre (x : HdL) rest W1, xs = pre ++ x.l :: rest → giveL base x W1 → J pre W1 → YieldAt Fence.wide m Tryz.prog L #[.slice x.A x.n x.c] W1 fun e W' => (e = .returned (.bool true) ∧ J (pre ++ [x.l]) W' ∧ Ks W1 W') ∨ (e = .returned (.bool false) ∧ Jx W')) :
    ∀ (d m : Nat) (A : Option Addr) (c : Nat) (l : List Int) (from_ : Nat) (pre rest : List (List Int)) (W : World), l.length + d = many → (l.length = 0 → A = none ∧ c = 0) → from_ ≤ n → W.ownsRow base 3 1 (.slice A l.length c) l.length (l.flatMap encI) → ChEnv W Bm Bt Bn Bp L many n → base ≤ W.heap.size →
      xs = pre ++ (choT n d from_).map (l ++ ·) ++ rest → J pre W →
      CallsIn Fence.wide m Tryz.prog 67 #[.slice A l.length c, .int .i64 from_, .pointer (some ⟨Bm, 0, none⟩), .pointer (some ⟨Bt, 0, none⟩), .pointer (some ⟨Bn, 0, none⟩), .pointer (some ⟨Bp, 0, none⟩)] W (WalkPost J Jx A c l (pre ++ (choT n d from_).map (l ++ ·)) W) := by
  intro d
  induction d with
  | zero =>
    intro m A c l from_ pre rest W hd h0 hf hown hE hb hxs hj
    obtain rfl : l.length = many := by omega
    have c0 := hE.m.cell 0
    have c1 := hE.y.cell 0
    have HOWN := Lib.hid hown
    have HE := Lib.hid hE
    have hcl := clone_row base l.length c A l (by omega) h0 W.drew hown
    have HCL := Lib.hid hcl
    have hxs2 : xs = pre ++ l :: rest := by rw [hxs]; simp [choT]
    have hyy : ∀ A' c' w1, w1.ownsRow W.drew.heap.size 3 1 (.slice A' l.length c') l.length (l.flatMap encI) → Below W.drew.heap.size W.drew w1 → YieldAt Fence.wide (m - 1) Tryz.prog L #[.slice A' l.length c'] w1 fun e W' => (e = .returned (.bool true) ∧ J (pre ++ [l]) W' ∧ Ks w1 W') ∨ (e = .returned (.bool false) ∧ Jx W') := fun A' c' w1 ho hbw =>
      hY (m - 1) pre ⟨A', l.length, c', l⟩ rest w1 hxs2 (ownsRow_base ho hb) (hJ pre W w1 none hj ⟨hbw.os, hbw.tape, hbw.output, hbw.size, fun i hi _ => hbw.block i hi⟩ (fun r e => by cases e))
    have HYY := Lib.hid hyy
    have HW := Lib.hid (fun (w1 : World) (hbw : Below W.drew.heap.size W.drew w1) => show w1.cell? ⟨Bt, 0, none⟩ = some (.func (.yield L) #[] #[]) from (Blk.below (w := W.drew) (show Blk W.drew Bt 108 #[.func (.yield L) #[] #[]] from hE.y) hbw (by show Bt < W.heap.size; omega)).cell 0)
    clear hcl hxs2 hyy
    refine callsIn_of_wp Tryz.func67 rfl trivial ?_ rfl
    simp only [Tryz.ntmps67, List.size_toArray, List.length_cons, List.length_nil, Nat.reduceAdd, Nat.reduceSub, Array.replicate_succ, Array.replicate_zero, List.push_toArray, List.append_toArray, List.nil_append, List.cons_append]
    clear hE hown hxs hj hY
    gi_wp2
    gi_region_with (first
      | (refine ⟨trivial, fun h => by simp [Fence.wide] at h, ?_⟩; refine (callsIn_wide.2 HCL.out).mono ?_; rintro e w1 ⟨A', c', rfl, ho1, hb1⟩; have y1 := HW.out w1 hb1; obtain ⟨fn, tmps, assign, body, hy, hR⟩ := HYY.out A' c' w1 ho1 hb1)
      | (refine ⟨fun h => by simp [Fence.wide] at h, ?_⟩; refine hR.mono ?_; rintro e W2 hh; obtain ⟨bv, rfl, hh2⟩ := yes_no hh))
    all_goals
      clear hy hR hh
      have HH2 := Lib.hid hh2
      have HB1 := Lib.hid hb1
      clear hh2 hb1 ho1
      gi_wp2
      go_ret
      have hks : Ks W w1 := ⟨HB1.out.size, (Ks.of_below (A := W.drew) HB1.out).all⟩
      rcases HH2.out with ⟨rfl, k1, k2⟩ | ⟨rfl, k1⟩
      · exact .inl ⟨rfl, by simpa [choT] using k1, (hks.trans k2).toKq _ _⟩
      · exact .inr ⟨rfl, k1⟩
  | succ d ih =>
    intro m A c l from_ pre rest W hd h0 hf hown hE hb hxs hj
    have hlm : ¬ l.length = many := by omega
    have hdl : decide ((l.length : Int) = (many : Int)) = false := by simp; omega
    have c0 := hE.m.cell 0
    have c2 := hE.n.cell 0
    have HOWN := Lib.hid hown
    have HE := Lib.hid hE
    have HXS := Lib.hid hxs
    have HJ0 := Lib.hid hj
    have HIH := Lib.hid ih
    have hgl : ∀ g, Value.ownBlock (.slice A l.length c) = some g → base ≤ g := fun g e => (hown.lt g e).1
    have HGL := Lib.hid hgl
    have hl8 : l.length ≤ 8 := by omega
    rw [callsIn_wide]
    clear hE hown hxs hj hY ih hgl
    go_enter Tryz.func67, Tryz.ntmps67
    go_wp2_with fail
    go_loopw [9] (fun i wr => ∃ (k : Nat) (dn : List (List Int)), from_ ≤ k ∧ k ≤ n ∧ i = .int .i64 k ∧ (choT n (d + 1) from_).map (l ++ ·) = dn ++ (choT n (d + 1) k).map (l ++ ·) ∧ J (pre ++ dn) wr ∧ Kq (Value.ownBlock (.slice A l.length c)) l.length W wr) (fun i _ => n - (intOf i).toNat)
    case atStart => exact ⟨from_, [], Nat.le_refl _, hf, rfl, by simp, by simpa using HJ0.out, Kq.refl _ _ _⟩
    case round =>
      obtain ⟨k, dn, hk0, hk, rfl, hdn, hjk, hkq⟩ := hrel
      have hneg : ∀ b, b < base → some b ≠ Value.ownBlock (.slice A l.length c) := fun b hbb e => by have := HGL.out b e.symm; omega
      have hE := HE.out.kq hkq (hneg _ h1) (hneg _ h2) (hneg _ h3) (hneg _ h4)
      have hown := hkq.row HOWN.out
      have hz := hkq.size
      have d2 := hE.n.cell 0
      have HNEG := Lib.hid hneg
      have HKQ := Lib.hid hkq
      have HDN := Lib.hid hdn
      have HJK := Lib.hid hjk
      have HE3 := Lib.hid hE
      have HW3 := Lib.hid hown
      by_cases hlt : k < n
      · clear hE hown hkq hdn hjk hneg c0 c2
        have hHE : HE3.out.p.cell 0 = HE3.out.p.cell 0 := rfl
        have e0 : wr.drew.cell? ⟨Bp, 0, none⟩ = some (.func (.func 67) #[] #[.pointer (some ⟨Bm, 0, none⟩), .pointer (some ⟨Bt, 0, none⟩), .pointer (some ⟨Bn, 0, none⟩), .pointer (some ⟨Bp, 0, none⟩)]) := HE3.out.p.cell 0
        have e1 : (wr.drew.alloc (.cells #[.int .i64 (k : Int)] 3)).cell? ⟨Bp, 0, none⟩ = some (.func (.func 67) #[] #[.pointer (some ⟨Bm, 0, none⟩), .pointer (some ⟨Bt, 0, none⟩), .pointer (some ⟨Bn, 0, none⟩), .pointer (some ⟨Bp, 0, none⟩)]) := (HE3.out.p.alloc _).cell 0
        have E0 := Lib.hid e0
        have E1 := Lib.hid e1
        have HX := Lib.hid ((Blk.new wr.drew 3 #[.int .i64 (k : Int)]).cell 0)
        have HOD := Lib.hid (show (wr.drew.alloc (.cells #[.int .i64 (k : Int)] 3)).ownsRow base 3 1 (.slice A l.length c) l.length (l.flatMap encI) from World.ownsRow.alloc (w := wr.drew) HW3.out _)
        have HNX := Lib.hid (fun (A1 : Option Addr) (c1 : Nat) (w2 : World) (hown2 : w2.ownsRow base 3 1 (.slice A1 (l.length + 1) c1) (l.length + 1) (l.flatMap encI ++ [.int .i64 (k : Int)])) (hgrow2 : (wr.drew.alloc (.cells #[.int .i64 (k : Int)] 3)).grownBy w2 (Value.ownBlock (.slice A l.length c)))
            (hkq2 : ∀ w3, Kq (Value.ownBlock (.slice A1 (l.length + 1) c1)) (l.length + 1) w2 w3 → Kq (Value.ownBlock (.slice A l.length c)) l.length (wr.drew.alloc (.cells #[.int .i64 (k : Int)] 3)) w3) =>
          have hks1 : Ks wr (wr.drew.alloc (.cells #[.int .i64 (k : Int)] 3)) := ⟨by simp, (Ks.of_below (A := wr.drew) ((Below.refl _ wr.drew).alloc (Nat.le_refl _) _)).all⟩
          have hkq3 : Kq (Value.ownBlock (.slice A l.length c)) l.length wr w2 := (hks1.toKq _ _).trans (hkq2 w2 (Kq.refl _ _ _))
          have hE2 : ChEnv w2 Bm Bt Bn Bp L many n := HE3.out.kq hkq3 (HNEG.out _ h1) (HNEG.out _ h2) (HNEG.out _ h3) (HNEG.out _ h4)
          have hz2 := hkq3.size
          have hja : J (pre ++ dn) (wr.drew.alloc (.cells #[.int .i64 (k : Int)] 3)) := hJ _ wr _ none HJK.out ⟨rfl, rfl, rfl, by simp, fun i hi _ => Below.heap_alloc wr.drew _ i hi⟩ (fun r e => by cases e)
          have hj1 : J (pre ++ dn) w2 := hJ _ _ _ (Value.ownBlock (.slice A l.length c)) hja hgrow2 (fun r e => by
            obtain ⟨q1, q2⟩ := HOD.out.lt r e
            refine ⟨q1, ?_⟩
            rcases HOD.out.2 with ⟨hv, _⟩ | ⟨g, cap, cur, hv, _, hg, _⟩
            · rw [hv] at e; cases e
            · rw [hv] at e; injection e with e; subst e; exact ⟨_, _, _, hg⟩)
          have hle : (l ++ [(k : Int)]).length = l.length + 1 := by simp
          have hcall := HIH.out (0 : Nat) A1 c1 (l ++ [(k : Int)]) (k + 1) (pre ++ dn) ((choT n (d + 1) (k + 1 : Nat)).map (l ++ ·) ++ rest) w2 (by rw [hle]; omega) (fun h => by rw [hle] at h; omega) (by omega)
            (by rw [hle, List.flatMap_append]; exact hown2) hE2 (by omega) (by rw [HXS.out, HDN.out, choT_step n d k hlt]; simp [List.map_map, Function.comp_def]) hj1
          show w2.cell? ⟨Bp, 0, none⟩ = some (.func (.func 67) #[] #[.pointer (some ⟨Bm, 0, none⟩), .pointer (some ⟨Bt, 0, none⟩), .pointer (some ⟨Bn, 0, none⟩), .pointer (some ⟨Bp, 0, none⟩)]) ∧
            Calls Tryz.prog 67 #[.slice A1 (l.length + 1) c1, .int .i64 ((k + 1 : Nat) : Int), .pointer (some ⟨Bm, 0, none⟩), .pointer (some ⟨Bt, 0, none⟩), .pointer (some ⟨Bn, 0, none⟩), .pointer (some ⟨Bp, 0, none⟩)] w2 fun e w3 =>
              ∃ bv, e = .returned (.bool bv) ∧ ((bv = true ∧ J (pre ++ (dn ++ (choT n d (k + 1 : Nat)).map (fun x => l ++ ((k : Int) :: x)))) w3 ∧ Kq (Value.ownBlock (.slice A l.length c)) l.length W w3) ∨ (bv = false ∧ Jx w3)) from
            ⟨hE2.p.cell 0, (callsIn_wide.1 (by rw [hle] at hcall; exact hcall)).mono fun e w3 hh => by
              unfold WalkPost at hh
              rcases hh with ⟨he, k1, k2⟩ | ⟨he, k1⟩
              · refine ⟨true, he, .inl ⟨rfl, by simpa [List.append_assoc] using k1, HKQ.out.trans ((hks1.toKq _ _).trans (hkq2 w3 ?_))⟩⟩
                rw [hle] at k2
                exact k2
              · exact ⟨false, he, .inr ⟨rfl, k1⟩⟩⟩)
        have HSTEP := Lib.hid (choT_step n d k hlt)
        clear e0 e1 hHE
        go_wp2_with fail
        have hki : IntKind.i64.wrap ((k : Int) + 1) = ((k + 1 : Nat) : Int) := by rw [IntWalk.i64_in _ (by omega)]; omega
        have HKI := Lib.hid hki
        clear hki
        refine wp_region_PL [0] (fun W => W.cell? ⟨Bp, 0, none⟩ = some (.func (.func 67) #[] #[.pointer (some ⟨Bm, 0, none⟩), .pointer (some ⟨Bt, 0, none⟩), .pointer (some ⟨Bn, 0, none⟩), .pointer (some ⟨Bp, 0, none⟩)])) rfl (by kernel_rfl) (E0.out) (fun hF0 => ?_)
        (refine wpAnyP_loadL (i := 0) (v := ?_) rfl (by kernel_rfl) (by kernel_rfl) (by kernel_rfl) (by rfl) (fun _ _ _ h => h) hF0 (by rfl) ?_ ?_; rotate_left 1; focus (intro w hFw; (try dsimp only at hFw); go_split_ands; go_simp; try with_reducible rfl))
        try simp only [Act.put, List.setIfInBounds_toArray, List.set_cons_zero, List.set_cons_succ]
        (refine wpAnyP_takeL (i := 1) (v := ?_) rfl (by kernel_rfl) (by kernel_rfl) (by kernel_rfl) (fun _ _ _ h => h) (by rfl) ?_ ?_; rotate_left 1; focus (intro w; go_simp; try with_reducible rfl))
        try simp only [Act.put, List.setIfInBounds_toArray, List.set_cons_zero, List.set_cons_succ]
        (refine wpAnyP_takeL (i := 2) (v := ?_) rfl (by kernel_rfl) (by kernel_rfl) (by kernel_rfl) (fun _ _ _ h => h) (by rfl) ?_ ?_; rotate_left 1; focus (intro w; go_simp; try with_reducible rfl))
        try simp only [Act.put, List.setIfInBounds_toArray, List.set_cons_zero, List.set_cons_succ]
        (refine wpAnyP_takeL (i := 5) (v := ?_) rfl (by kernel_rfl) (by kernel_rfl) (by kernel_rfl) (fun _ _ _ h => h) (by rfl) ?_ ?_; rotate_left 1; focus (intro w; go_simp; try with_reducible rfl))
        try simp only [Act.put, List.setIfInBounds_toArray, List.set_cons_zero, List.set_cons_succ]
        (refine wpAnyP_takeL (i := 6) (v := ?_) rfl (by kernel_rfl) (by kernel_rfl) (by kernel_rfl) (fun _ _ _ h => h) (by rfl) ?_ ?_; rotate_left 1; focus (intro w; go_simp; (rw [HKI.out])))
        try simp only [Act.put, List.setIfInBounds_toArray, List.set_cons_zero, List.set_cons_succ]
        refine wpAnyP_step (i := 3) rfl (by kernel_rfl) (by rfl) (fun K hK => ?_)
        go_simp
        (refine hK _ _ (E1.out) (fun hF1 => ?_); clear hK K hF0)
        try simp only [Act.put, List.setIfInBounds_toArray, List.set_cons_zero, List.set_cons_succ]
        refine wpAnyP_step (i := 4) rfl (by kernel_rfl) (by rfl) (fun K hK => ?_)
        (refine wp_appendK _ _ rfl base _ l.length _ (by rfl) HOD.out ⟨wr.heap.size, 0, none⟩ 1 (k : Int) (by rfl) HX.out (by omega) (by simp; omega) ?_; intro A1 c1 w2 o2 g2 q2; obtain ⟨hcc, hcl⟩ := HNX.out A1 c1 w2 o2 g2 q2; have HCL := Lib.hid hcl; clear o2 g2 q2 hcl)
        (refine hK _ _ (hcc) (fun hF2 => ?_); clear hK K hF1)
        try simp only [Act.put, List.setIfInBounds_toArray, List.set_cons_zero, List.set_cons_succ]
        refine wpAnyP_last (i := 7) rfl (by kernel_rfl) (by kernel_rfl) (by rfl) (fun K hK => ?_)
        go_simp
        (refine HCL.out.mono ?_; rintro e w3 ⟨bv, rfl, hh⟩; have HH := Lib.hid hh; clear hh)
        (refine hK _ _ ?_; clear hK K)
        try simp only [Act.put, List.setIfInBounds_toArray, List.set_cons_zero, List.set_cons_succ]
        (refine wpAnyP_takeL (i := 8) (v := ?_) rfl (by kernel_rfl) (by kernel_rfl) (by kernel_rfl) (fun _ _ _ h => h) (by rfl) ?_ ?_; rotate_left 1; focus (intro w; go_simp; try with_reducible rfl))
        try simp only [Act.put, List.setIfInBounds_toArray, List.set_cons_zero, List.set_cons_succ]
        refine wpAnyP_done (by kernel_rfl) ?_ _
        cases bv
        · have h9 := HH.out
          simp only [Bool.false_eq_true, false_and, true_and, false_or] at h9
          have H9 := Lib.hid h9
          clear h9
          go_wp2_with fail
          go_ret
          exact .inr ⟨rfl, H9.out⟩
        · have h9 := HH.out
          simp only [Bool.true_eq_false, false_and, true_and, or_false] at h9
          have H9 := Lib.hid h9
          clear h9
          go_wp2_with fail
          go_roundw
          case rel => exact ⟨k + 1, dn ++ (choT n d (k + 1 : Nat)).map (fun x => l ++ ((k : Int) :: x)), by omega, by omega, by go_num, by rw [HDN.out, HSTEP.out]; simp [List.map_map, Function.comp_def], H9.out.1, H9.out.2⟩
          case measure => simp [intOf]; omega
      · obtain rfl : k = n := by omega
        clear hkq hdn hjk hE hown hneg
        go_wp2_with fail
        go_ret
        have e := HDN.out
        rw [choT_end, List.map_nil, List.append_nil] at e
        exact .inl ⟨rfl, by rw [e]; exact HJK.out, HKQ.out⟩

theorem yield_wide {m m' : Nat} {P : Program} {l : Nat} {args : Array Value} {W : World} {R : Ending → World → Prop} (h : YieldAt Fence.wide m P l args W R) : YieldAt Fence.wide m' P l args W R := by
  obtain ⟨fn, tmps, assign, body, h1, h2, h3⟩ := h
  exact ⟨fn, tmps, assign, body, h1, h2, fun c cs _ => h3 c cs (room_wide _)⟩

theorem choices_any (n many : Nat) (w : World) : Calls Tryz.prog 46 #[.int .i64 n, .int .i64 many] w fun e w' => e = .returned (.func (.func 66) #[] #[.pointer (some ⟨w.heap.size + 1, 0, none⟩), .pointer (some ⟨w.heap.size, 0, none⟩)]) ∧
    w' = (w.alloc (.cells #[.int .i64 n] 3)).alloc (.cells #[.int .i64 many] 3) := by
  go_enter Tryz.func46, Tryz.ntmps46
  go_wp2
  go_ret
  simp

theorem gives_any (m Bn Bm many n : Nat) (hn : n ≤ 8) (hmany : many ≤ 8) (w : World) (hBn : Blk w Bn 3 #[.int .i64 n]) (hBm : Blk w Bm 3 #[.int .i64 many]) :
    Gives Fence.wide m Tryz.prog 66 #[.pointer (some ⟨Bm, 0, none⟩), .pointer (some ⟨Bn, 0, none⟩)] (fun x : HdL => #[.slice x.A x.n x.c]) HdL.l (giveL w.heap.size) Ks (choT n many 0) w := by
  intro L J Jx W hW hJ hJx hY h0
  have hBnW := hBn.below hW hBn.lt
  have hBmW := hBm.below hW hBm.lt
  have hz := hW.size
  have z1 := hBnW.lt
  have z2 := hBmW.lt
  obtain ⟨V, hV⟩ : ∃ V, V = ((W.alloc (.cells #[.func (.yield L) #[] #[]] 108)).alloc (.cells #[.func (.func 67) #[] #[.pointer (some ⟨Bm, 0, none⟩), .pointer (some ⟨W.heap.size, 0, none⟩), .pointer (some ⟨Bn, 0, none⟩), .pointer (some ⟨W.heap.size + 1, 0, none⟩)]] 109)) := ⟨_, rfl⟩
  have hVz : V.heap.size = W.heap.size + 2 := by rw [hV]; simp
  have hg : W.grownBy V none := by
    rw [hV]
    exact (World.grownBy_alloc W _ none).trans (World.grownBy_alloc _ _ none)
  have hjV : J [] V := hJ _ _ _ none h0 hg (fun r e => by cases e)
  have hE : ChEnv V Bm W.heap.size Bn (W.heap.size + 1) L many n := by
    rw [hV]
    refine ⟨(hBmW.alloc _).alloc _, (Blk.new W _ _).alloc _, (hBnW.alloc _).alloc _, ?_⟩
    have := Blk.new (W.alloc (.cells #[.func (.yield L) #[] #[]] 108)) 109 #[.func (.func 67) #[] #[.pointer (some ⟨Bm, 0, none⟩), .pointer (some ⟨W.heap.size, 0, none⟩), .pointer (some ⟨Bn, 0, none⟩), .pointer (some ⟨W.heap.size + 1, 0, none⟩)]]
    rwa [World.size_alloc] at this
  have hcall := walk_in L V.heap.size many n Bm W.heap.size Bn (W.heap.size + 1) (by omega) (by omega) (by omega) (by omega) hn hmany J Jx (choT n many 0) (fun pre X Y row h hg hr => hJ pre X Y row h hg fun r e => by obtain ⟨q1, q2⟩ := hr r e; exact ⟨by omega, q2⟩) hJx
    (fun mm pre x rest W1 hxs hgv hj => by
      exact yield_wide (hY pre x rest W1 hxs (ownsRow_base hgv (by omega)) hj))
    many 0 none 0 [] 0 [] [] V (by simp) (fun _ => ⟨rfl, rfl⟩) (Nat.zero_le _) (World.ownsRow_nil _ _ _ _) hE (Nat.le_refl _) (by simp) hjV
  rw [callsIn_wide] at hcall ⊢
  rw [hV] at hcall
  have HC := Lib.hid hcall
  clear hcall hV hY hJ hJx h0 hE hjV hg
  go_enter Tryz.func66, Tryz.ntmps66
  go_wp2_with (go_at_call 67; refine HC.out.mono ?_; rintro e w3 hh; have HH := Lib.hid hh; obtain ⟨bv, rfl⟩ : ∃ bv, e = .returned (.bool bv) := (by rcases hh with ⟨h, _⟩ | ⟨h, _⟩ <;> exact ⟨_, h⟩); clear hh)
  go_end0
  refine ⟨⟨_, rfl⟩, ?_⟩
  rcases HH.out with ⟨_, k1, _⟩ | ⟨_, k1⟩
  · exact .inl (by simpa using k1)
  · exact .inr k1
end Go.Proofs.YtkphgdkjjklajaaGreatDoor

namespace Go.Proofs.YtkphgdkjjklajaaGreatDoor
open Go.RowKit Go.Shelf Go.Sort

set_option maxRecDepth 100000 in
set_option maxHeartbeats 1000000 in
/-- slices.IndexFunc, ContainsFunc, whose predicate may lay blocks -/
theorem idxB_any (b n c : Nat) (A : Option Addr) (l : List Int) (g : Nat) (lb : Array Value) (p : Int → Bool) (w : World) (hl : Sl encI 1 w b A n l) (hn : n ≤ 1000000)
    (eg : ∀ args w, (callFunc g args).run Tryz.prog w = .ok (.enter g args) w)
    (hp : ∀ (W : World) (x : Int), Below w.heap.size w W → x ∈ l → Calls Tryz.prog g (#[.int .i64 x] ++ lb) W fun e W' => e = .returned (.bool (p x)) ∧ Below W.heap.size W W') :
    Calls Tryz.prog 69 #[.slice A n c, .func (.func g) #[] lb] w fun e w' => ∃ i : Int, e = .returned (.int .i64 i) ∧ decide (0 ≤ i) = l.any p ∧ Below w.heap.size w w' := by
  have HL := Lib.hid hl
  have HLN := Lib.hid hl.len
  have HP := Lib.hid hp
  clear hl hp
  go_enter Tryz.func69, Tryz.ntmps69
  go_wp2_with fail
  go_loopw [5, 8] (fun _ i wr => ∃ k : Nat, k ≤ n ∧ i = .int .i64 k ∧ (l.take k).any p = false ∧ Below w.heap.size w wr) (fun _ i _ => n - (intOf i).toNat)
  case atStart => exact ⟨0, by omega, rfl, rfl, Below.refl _ _⟩
  case round =>
    obtain ⟨k, hk, rfl, hno, hB⟩ := hrel
    have HNO := Lib.hid hno
    have HB := Lib.hid hB
    have hz := hB.size
    by_cases hlt : k < n
    · have hkl : k < l.length := by have := HLN.out; omega
      obtain ⟨o, rfl, hbz, s0⟩ := (HL.out.old hB).atI hkl
      have hcall := HP.out wr l[k] hB (List.getElem_mem hkl)
      have HTK := Lib.hid (show (l.take (k + 1)).any p = (p l[k] || false) from by rw [List.take_succ_eq_append_getElem hkl, List.any_append, hno]; simp)
      have HAN := Lib.hid (show p l[k] = true → l.any p = true from fun h => List.any_eq_true.2 ⟨_, List.getElem_mem hkl, h⟩)
      generalize l[k] = x at s0 hcall HTK HAN
      have i0 : (0 : Int) ≤ (k : Int) := by omega
      have i1 : (k : Int) < (n : Int) := by omega
      cases hq : p x with
      | true =>
        rw [hq] at hcall
        have HQ := Lib.hid (HAN.out hq)
        have HC := Lib.hid hcall
        clear hno hB hq hcall
        go_wp2_with (go_at_fn g; refine HC.out.mono ?_; rintro e w1 ⟨rfl, hb1⟩)
        go_ret
        exact ⟨k, rfl, by rw [HQ.out]; simp, HB.out.trans (hb1.mono hz)⟩
      | false =>
        rw [hq] at hcall HTK
        have HC := Lib.hid hcall
        clear hno hB hq hcall
        go_wp2_with (go_at_fn g; refine HC.out.mono ?_; rintro e w1 ⟨rfl, hb1⟩; have HB1 := Lib.hid hb1; clear hb1)
        go_roundw
        case rel => exact ⟨k + 1, by omega, by go_num, HTK.out, HB.out.trans (HB1.out.mono hz)⟩
        case measure => simp [intOf]; omega
    · obtain rfl : k = n := by omega
      clear hno hB
      go_wp2_with fail
      go_ret
      have h := HNO.out
      rw [HLN.out, List.take_length] at h
      exact ⟨-1, rfl, by rw [h]; decide, HB.out⟩
theorem hasB_any (b n c : Nat) (A : Option Addr) (l : List Int) (g : Nat) (lb : Array Value) (p : Int → Bool) (w : World) (hl : Sl encI 1 w b A n l) (hn : n ≤ 1000000)
    (eg : ∀ args w, (callFunc g args).run Tryz.prog w = .ok (.enter g args) w)
    (hp : ∀ (W : World) (x : Int), Below w.heap.size w W → x ∈ l → Calls Tryz.prog g (#[.int .i64 x] ++ lb) W fun e W' => e = .returned (.bool (p x)) ∧ Below W.heap.size W W') :
    Calls Tryz.prog 47 #[.slice A n c, .func (.func g) #[] lb] w fun e w' => e = .returned (.bool (l.any p)) ∧ Below w.heap.size w w' := by
  have hcon := idxB_any b n c A l g lb p w hl hn eg hp
  have HC := Lib.hid hcon
  clear hcon hl hp
  go_enter Tryz.func47, Tryz.ntmps47
  go_wp2_with (go_at_call 69; refine HC.out.mono ?_; rintro e w1 ⟨i, rfl, hi, hb⟩; have HI := Lib.hid hi; clear hi)
  go_ret
  exact ⟨by show Ending.returned (.bool (decide (0 ≤ i))) = _; rw [HI.out], hb⟩

/-- what a map holds of each suspect: where the spans lie -/
structure SpD where
  A : Option Addr
  b : Nat
  c : Nat
def toldM (T : Int → SpD) (nb : Nat) (S : List Int) : Int → Option Value := fun a => if a ∈ S then some (.slice (T a).A nb (T a).c) else none
structure Told (W : World) (Bt Bm : Nat) (T : Int → SpD) (nb : Nat) (X : Int → List Span) (S : List Int) : Prop where
  t : Blk W Bt 87 #[.map (some Bm)]
  m : KMap (Value.int .i64) okI W Bm (toldM T nb S)
  r : ∀ a ∈ S, Sl encR 2 W (T a).b (T a).A nb (X a)
section
variable {W W' : World} {Bt Bm : Nat} {T : Int → SpD} {nb : Nat} {X : Int → List Span} {S : List Int}
theorem Told.below (h : Told W Bt Bm T nb X S) (hb : Below W.heap.size W W') : Told W' Bt Bm T nb X S :=
  ⟨h.t.below hb h.t.lt, h.m.keep (hb.block _ h.m.lt), fun a ha => (h.r a ha).old hb⟩
theorem Told.drew (h : Told W Bt Bm T nb X S) : Told W.drew Bt Bm T nb X S := h.below (Below.refl _ W).drew
/-- the loads of a look-up -/
theorem Told.at_ (h : Told W Bt Bm T nb X S) {a : Int} (ha : a ∈ S) {k : Nat} (hk : k < nb) (hX : (X a).length = nb) :
    ∃ o, (T a).A = some ⟨(T a).b, o, none⟩ ∧ W.cell? ⟨(T a).b, o + k * 2, none⟩ = some (.int .i64 (spanAt (X a) k).lo) ∧ W.cell? ⟨(T a).b, o + k * 2 + 1, none⟩ = some (.int .i64 (spanAt (X a) k).hi) := by
  obtain ⟨o, h1, h2, h3, h4⟩ := (h.r a ha).atR (k := k) (by omega)
  have e : spanAt (X a) k = (X a)[k]'(by omega) := by
    unfold spanAt
    rw [Int.toNat_natCast, List.getD_eq_getElem?_getD, List.getElem?_eq_getElem (by omega)]; rfl
  rw [e]
  exact ⟨o, h1, h3, h4⟩
end

theorem hMS : Tryz.prog.underlying 87 = some (.map 3 42) := by kernel_rfl
theorem zeroSp (w : World) : (zeroValue 42).run Tryz.prog w = .ok (.slice none 0 0) w := by kernel_rfl

set_option maxRecDepth 100000 in
set_option maxHeartbeats 2000000 in
theorem apart_any (Bt Bm : Nat) (T : Int → SpD) (nb : Nat) (X : Int → List Span) (S : List Int) (k : Nat) (a b : Int) (w : World) (hT : Told w Bt Bm T nb X S) (hk : k < nb) (hnb : nb ≤ 8) (ha : a ∈ S) (hb : b ∈ S) (hXa : (X a).length = nb) (hXb : (X b).length = nb)
    (oka : okI a) (okb : okI b) :
    Calls Tryz.prog 45 #[.int .i64 k, .int .i64 a, .int .i64 b, .pointer (some ⟨Bt, 0, none⟩)] w fun e w' => e = .returned (.bool (tellsT (spanAt (X a) k) (spanAt (X b) k))) ∧ Below w.heap.size w w' := by
  obtain ⟨o1, e1, x0, x1⟩ := hT.at_ ha hk hXa
  obtain ⟨o2, e2, y0, y1⟩ := hT.at_ hb hk hXb
  have HT := Lib.hid hT
  have HE1 := Lib.hid e1
  have HE2 := Lib.hid e2
  have hz1 : (T a).b < w.heap.size := (hT.r a ha).lt (by omega)
  have hz2 : (T b).b < w.heap.size := (hT.r b hb).lt (by omega)
  have i0 : (0 : Int) ≤ (k : Int) := by omega
  have i1 : (k : Int) < (nb : Int) := by omega
  clear hT e1 e2 hXa hXb
  generalize spanAt (X a) k = x at x0 x1 ⊢
  generalize spanAt (X b) k = y at y0 y1 ⊢
  have HX0 := Lib.hid x0
  have HX1 := Lib.hid x1
  have hF : ∀ W, Below w.heap.size w W → W.cell? ⟨Bt, 0, none⟩ = some (.map (some Bm)) ∧ (Instr.lookup 87 (.map (some Bm)) (.int .i64 a) false).run Tryz.prog W = .ok (.slice (some ⟨(T a).b, o1, none⟩) nb (T a).c) W ∧ (Instr.lookup 87 (.map (some Bm)) (.int .i64 b) false).run Tryz.prog W = .ok (.slice (some ⟨(T b).b, o2, none⟩) nb (T b).c) W ∧
      W.cell? ⟨(T a).b, o1 + k * 2, none⟩ = some (.int .i64 x.lo) ∧ W.cell? ⟨(T a).b, o1 + k * 2 + 1, none⟩ = some (.int .i64 x.hi) ∧ W.cell? ⟨(T b).b, o2 + k * 2, none⟩ = some (.int .i64 y.lo) ∧ W.cell? ⟨(T b).b, o2 + k * 2 + 1, none⟩ = some (.int .i64 y.hi) := fun W hW =>
    have h := HT.out.below hW
    ⟨h.t.cell 0, by rw [run_lookupK kkI Tryz.underlying87 zeroSp h.m a oka]; simp [toldM, ha, HE1.out], by rw [run_lookupK kkI Tryz.underlying87 zeroSp h.m b okb]; simp [toldM, hb, HE2.out],
      (hW.cell (p := ⟨(T a).b, o1 + k * 2, none⟩) hz1).trans x0, (hW.cell (p := ⟨(T a).b, o1 + k * 2 + 1, none⟩) hz1).trans x1, (hW.cell (p := ⟨(T b).b, o2 + k * 2, none⟩) hz2).trans y0, (hW.cell (p := ⟨(T b).b, o2 + k * 2 + 1, none⟩) hz2).trans y1⟩
  have HF := Lib.hid hF
  have HB0 := Lib.hid ((Blk.new w.drew 50 #[.int .i64 0, .int .i64 0]).alloc (.cells #[.int .i64 0, .int .i64 0] 50))
  have hb1 := Blk.new (w.drew.alloc (.cells #[.int .i64 0, .int .i64 0] 50)) 50 #[.int .i64 0, .int .i64 0]
  rw [World.size_alloc] at hb1
  have HB1 := Lib.hid hb1
  have HV := Lib.hid (((show Below w.heap.size w w.drew from (Below.refl _ w).drew).alloc (Nat.le_refl _) (.cells #[.int .i64 0, .int .i64 0] 50)).alloc (by simp) (.cells #[.int .i64 0, .int .i64 0] 50))
  have hM : Below w.heap.size w w.drew := (Below.refl _ w).drew
  clear hF hb1 x0 x1 y0 y1
  have HR := Lib.hid (show tellsT x y = ((decide (0 < x.lo) && (y.hi == 0)) || (decide (0 < y.lo) && (x.hi == 0))) from by unfold tellsT; rw [Bool.eq_iff_iff]; simp)
  go_enter Tryz.func45, Tryz.ntmps45
  go_wp2_with fail
  rename_i Q K aK
  have HEND := Lib.hid (show ∀ (B8 B9 : Nat) (V : World), Below w.heap.size w V → V.cell? ⟨B8, 0, none⟩ = some (.int .i64 x.lo) → V.cell? ⟨B8, 1, none⟩ = some (.int .i64 x.hi) → V.cell? ⟨B9, 0, none⟩ = some (.int .i64 y.lo) → V.cell? ⟨B9, 1, none⟩ = some (.int .i64 y.hi) →
      K { tmps := #[.int .i64 k, .int .i64 a, .int .i64 b, .pointer (some ⟨Bt, 0, none⟩), undef, undef, undef, .bool false, .pointer (some ⟨B8, 0, none⟩), .pointer (some ⟨B9, 0, none⟩), .map (some Bm), .int .i64 a, .slice (some ⟨(T a).b, o1, none⟩) nb (T a).c, .int .i64 k, .pointer (some ⟨(T a).b, o1 + k * 2, none⟩),
        .agg #[.int .i64 x.lo, .int .i64 x.hi], .map (some Bm), .int .i64 b, .slice (some ⟨(T b).b, o2, none⟩) nb (T b).c, .int .i64 k, .pointer (some ⟨(T b).b, o2 + k * 2, none⟩), .agg #[.int .i64 y.lo, .int .i64 y.hi], undef, undef, undef, undef, undef, undef, undef, undef, undef, undef, undef, undef, undef, undef, undef, undef, undef, undef], defers := [] } V from by
    intro B8 B9 V hV p0 p1 q0 q1
    refine aK _ _ ?_
    clear aK HF HB0 HB1 HV hM HX0 HX1 HT HE1 HE2
    have HVV := Lib.hid hV
    clear hV
    cases hb1 : decide (0 < x.lo)
    · cases hb3 : decide (0 < y.lo)
      · rw [hb1, hb3] at HR
        go_wp2_with fail
        go_ret
        exact ⟨by rw [HR.out]; rfl, HVV.out⟩
      · cases hb4 : (x.hi == 0)
        all_goals
          rw [hb1, hb3, hb4] at HR
          go_wp2_with fail
          go_ret
          exact ⟨by rw [HR.out]; rfl, HVV.out⟩
    · cases hb2 : (y.hi == 0)
      · cases hb3 : decide (0 < y.lo)
        · rw [hb1, hb2, hb3] at HR
          go_wp2_with fail
          go_ret
          exact ⟨by rw [HR.out]; rfl, HVV.out⟩
        · cases hb4 : (x.hi == 0)
          all_goals
            rw [hb1, hb2, hb3, hb4] at HR
            go_wp2_with fail
            go_ret
            exact ⟨by rw [HR.out]; rfl, HVV.out⟩
      · rw [hb1, hb2] at HR
        go_wp2_with fail
        go_ret
        exact ⟨by rw [HR.out]; rfl, HVV.out⟩)
  clear aK
  refine wp_region_K2 [0, 2, 5, 6, 8, 11] [] (fun W => W.cell? ⟨Bt, 0, none⟩ = some (.map (some Bm)) ∧ (Instr.lookup 87 (.map (some Bm)) (.int .i64 a) false).run Tryz.prog W = .ok (.slice (some ⟨(T a).b, o1, none⟩) nb (T a).c) W ∧ (Instr.lookup 87 (.map (some Bm)) (.int .i64 b) false).run Tryz.prog W = .ok (.slice (some ⟨(T b).b, o2, none⟩) nb (T b).c) W ∧ W.cell? ⟨(T a).b, o1 + k * 2, none⟩ = some (.int .i64 x.lo) ∧ W.cell? ⟨(T a).b, o1 + k * 2 + 1, none⟩ = some (.int .i64 x.hi) ∧ W.cell? ⟨(T b).b, o2 + k * 2, none⟩ = some (.int .i64 y.lo) ∧ W.cell? ⟨(T b).b, o2 + k * 2 + 1, none⟩ = some (.int .i64 y.hi)) (fun _ => True) rfl (by kernel_rfl) (HF.out _ hM) (trivial) (fun hF0 hG0 => ?_)
  (refine wpAnyK_loadL Keep2.refl (i := 0) (v := ?_) rfl (Keep2.left (i := 0) (by rfl)) (by kernel_rfl) (by kernel_rfl) (by kernel_rfl) (fun _ _ _ h => h) hF0 (by rfl) ?_ ?_; rotate_left 1; focus (intro w hFw; (try dsimp only at hFw); go_split_ands; go_simp; try with_reducible rfl))
  try simp only [Act.put, List.setIfInBounds_toArray, List.set_cons_zero, List.set_cons_succ]
  (refine wpAnyK_takeL Keep2.refl (i := 1) (v := ?_) rfl (by kernel_rfl) (by kernel_rfl) (by kernel_rfl) (fun _ _ _ h => h) (by rfl) ?_ ?_; rotate_left 1; focus (intro w; go_simp; try with_reducible rfl))
  try simp only [Act.put, List.setIfInBounds_toArray, List.set_cons_zero, List.set_cons_succ]
  (refine wpAnyK_loadL Keep2.refl (i := 2) (v := ?_) rfl (Keep2.left (i := 2) (by rfl)) (by kernel_rfl) (by kernel_rfl) (by kernel_rfl) (fun _ _ _ h => h) hF0 (by rfl) ?_ ?_; rotate_left 1; focus (intro w hFw; (try dsimp only at hFw); go_split_ands; go_simp; try with_reducible rfl))
  try simp only [Act.put, List.setIfInBounds_toArray, List.set_cons_zero, List.set_cons_succ]
  (refine wpAnyK_takeL Keep2.refl (i := 3) (v := ?_) rfl (by kernel_rfl) (by kernel_rfl) (by kernel_rfl) (fun _ _ _ h => h) (by rfl) ?_ ?_; rotate_left 1; focus (intro w; go_simp; try with_reducible rfl))
  try simp only [Act.put, List.setIfInBounds_toArray, List.set_cons_zero, List.set_cons_succ]
  (refine wpAnyK_takeL Keep2.refl (i := 4) (v := ?_) rfl (by kernel_rfl) (by kernel_rfl) (by kernel_rfl) (fun _ _ _ h => h) (by rfl) ?_ ?_; rotate_left 1; focus (intro w; go_simp; try with_reducible rfl))
  try simp only [Act.put, List.setIfInBounds_toArray, List.set_cons_zero, List.set_cons_succ]
  (refine wpAnyK_loadL Keep2.refl (i := 5) (v := ?_) rfl (Keep2.left (i := 5) (by rfl)) (by kernel_rfl) (by kernel_rfl) (by kernel_rfl) (fun _ _ _ h => h) hF0 (by rfl) ?_ ?_; rotate_left 1; focus (intro w hFw; (try dsimp only at hFw); go_split_ands; go_simp; try with_reducible rfl))
  try simp only [Act.put, List.setIfInBounds_toArray, List.set_cons_zero, List.set_cons_succ]
  (refine wpAnyK_loadL Keep2.refl (i := 6) (v := ?_) rfl (Keep2.left (i := 6) (by rfl)) (by kernel_rfl) (by kernel_rfl) (by kernel_rfl) (fun _ _ _ h => h) hF0 (by rfl) ?_ ?_; rotate_left 1; focus (intro w hFw; (try dsimp only at hFw); go_split_ands; go_simp; try with_reducible rfl))
  try simp only [Act.put, List.setIfInBounds_toArray, List.set_cons_zero, List.set_cons_succ]
  (refine wpAnyK_takeL Keep2.refl (i := 7) (v := ?_) rfl (by kernel_rfl) (by kernel_rfl) (by kernel_rfl) (fun _ _ _ h => h) (by rfl) ?_ ?_; rotate_left 1; focus (intro w; go_simp; try with_reducible rfl))
  try simp only [Act.put, List.setIfInBounds_toArray, List.set_cons_zero, List.set_cons_succ]
  (refine wpAnyK_loadL Keep2.refl (i := 8) (v := ?_) rfl (Keep2.left (i := 8) (by rfl)) (by kernel_rfl) (by kernel_rfl) (by kernel_rfl) (fun _ _ _ h => h) hF0 (by rfl) ?_ ?_; rotate_left 1; focus (intro w hFw; (try dsimp only at hFw); go_split_ands; go_simp; try with_reducible rfl))
  try simp only [Act.put, List.setIfInBounds_toArray, List.set_cons_zero, List.set_cons_succ]
  (refine wpAnyK_takeL Keep2.refl (i := 9) (v := ?_) rfl (by kernel_rfl) (by kernel_rfl) (by kernel_rfl) (fun _ _ _ h => h) (by rfl) ?_ ?_; rotate_left 1; focus (intro w; go_simp; try with_reducible rfl))
  try simp only [Act.put, List.setIfInBounds_toArray, List.set_cons_zero, List.set_cons_succ]
  (refine wpAnyK_takeL Keep2.refl (i := 10) (v := ?_) rfl (by kernel_rfl) (by kernel_rfl) (by kernel_rfl) (fun _ _ _ h => h) (by rfl) ?_ ?_; rotate_left 1; focus (intro w; go_simp; try with_reducible rfl))
  try simp only [Act.put, List.setIfInBounds_toArray, List.set_cons_zero, List.set_cons_succ]
  (refine wpAnyK_loadL Keep2.refl (i := 11) (v := ?_) rfl (Keep2.left (i := 11) (by rfl)) (by kernel_rfl) (by kernel_rfl) (by kernel_rfl) (fun _ _ _ h => h) hF0 (by rfl) ?_ ?_; rotate_left 1; focus (intro w hFw; (try dsimp only at hFw); go_split_ands; go_simp; try with_reducible rfl))
  try simp only [Act.put, List.setIfInBounds_toArray, List.set_cons_zero, List.set_cons_succ]
  refine wpAnyK_all (rs := [12, 13]) (by kernel_rfl) (by simp) ?_
  refine List.forall_mem_cons.2 ⟨?_, List.forall_mem_cons.2 ⟨?_, fun _ h => absurd h List.not_mem_nil⟩⟩
  · refine wpOp_of rfl (by rfl) (fun K hK => ?_)
    go_simp
    (have hM := hM.alloc hM.size (.cells #[.int .i64 0, .int .i64 0] 50))
    (refine hK _ _ ⟨⟨fun _ _ => HF.out _ hM, fun h => absurd h (by decide)⟩, ?_⟩; clear hK K)
    (refine wpAnyK_with (F := fun W => W.cell? ⟨Bt, 0, none⟩ = some (.map (some Bm)) ∧ (Instr.lookup 87 (.map (some Bm)) (.int .i64 a) false).run Tryz.prog W = .ok (.slice (some ⟨(T a).b, o1, none⟩) nb (T a).c) W ∧ (Instr.lookup 87 (.map (some Bm)) (.int .i64 b) false).run Tryz.prog W = .ok (.slice (some ⟨(T b).b, o2, none⟩) nb (T b).c) W ∧ W.cell? ⟨(T a).b, o1 + k * 2, none⟩ = some (.int .i64 x.lo) ∧ W.cell? ⟨(T a).b, o1 + k * 2 + 1, none⟩ = some (.int .i64 x.hi) ∧ W.cell? ⟨(T b).b, o2 + k * 2, none⟩ = some (.int .i64 y.lo) ∧ W.cell? ⟨(T b).b, o2 + k * 2 + 1, none⟩ = some (.int .i64 y.hi)) (HF.out _ hM) (fun hF1 => ?_); clear hF0)
    try simp only [Act.put, List.setIfInBounds_toArray, List.set_cons_zero, List.set_cons_succ]
    refine wpAnyK_step (i := 13) rfl (by kernel_rfl) (by rfl) (fun K hK => ?_)
    go_simp
    (have hM := hM.alloc hM.size (.cells #[.int .i64 0, .int .i64 0] 50))
    (refine hK _ _ (⟨fun _ _ => HF.out _ hM, fun h => absurd h (by decide)⟩) ?_; clear hK K)
    (refine wpAnyK_with (F := fun W => W.cell? ⟨Bt, 0, none⟩ = some (.map (some Bm)) ∧ (Instr.lookup 87 (.map (some Bm)) (.int .i64 a) false).run Tryz.prog W = .ok (.slice (some ⟨(T a).b, o1, none⟩) nb (T a).c) W ∧ (Instr.lookup 87 (.map (some Bm)) (.int .i64 b) false).run Tryz.prog W = .ok (.slice (some ⟨(T b).b, o2, none⟩) nb (T b).c) W ∧ W.cell? ⟨(T a).b, o1 + k * 2, none⟩ = some (.int .i64 x.lo) ∧ W.cell? ⟨(T a).b, o1 + k * 2 + 1, none⟩ = some (.int .i64 x.hi) ∧ W.cell? ⟨(T b).b, o2 + k * 2, none⟩ = some (.int .i64 y.lo) ∧ W.cell? ⟨(T b).b, o2 + k * 2 + 1, none⟩ = some (.int .i64 y.hi)) (HF.out _ hM) (fun hF2 => ?_); clear hF1)
    try simp only [Act.put, List.setIfInBounds_toArray, List.set_cons_zero, List.set_cons_succ]
    refine wpAnyK_step (i := 14) rfl (by kernel_rfl) (by rfl) (fun K hK => ?_)
    (first | (refine wp_store_row 50 (.tmp 8) (.tmp 15) rfl (w.heap.size) #[.int .i64 x.lo, .int .i64 x.hi] rfl rfl 50 _ HB0.out info_span2 rfl (by simp [Value.oneCell']) ?_; have K8 := Lib.hid (HB0.out.setRow #[.int .i64 x.lo, .int .i64 x.hi]); have K9 := Lib.hid (HB1.out.grown (grown_setRow _ w.heap.size #[.int .i64 x.lo, .int .i64 x.hi]) (fun e => by injection e with e; exact absurd e (Nat.succ_ne_self _))); have hM := HV.out.grown (grown_setRow _ (w.heap.size) #[.int .i64 x.lo, .int .i64 x.hi]) (by simp [World.setRow]; omega) (fun j e => by cases e; first | exact Nat.le_refl _ | exact Nat.le_succ _)) | (refine wp_store_row 50 (.tmp 8) (.tmp 15) rfl (w.heap.size + 1) #[.int .i64 x.lo, .int .i64 x.hi] rfl rfl 50 _ HB1.out info_span2 rfl (by simp [Value.oneCell']) ?_; have K8 := Lib.hid (HB1.out.setRow #[.int .i64 x.lo, .int .i64 x.hi]); have K9 := Lib.hid (HB0.out.grown (grown_setRow _ (w.heap.size + 1) #[.int .i64 x.lo, .int .i64 x.hi]) (fun e => by injection e with e; exact absurd e.symm (Nat.succ_ne_self _))); have hM := HV.out.grown (grown_setRow _ (w.heap.size + 1) #[.int .i64 x.lo, .int .i64 x.hi]) (by simp [World.setRow]; omega) (fun j e => by cases e; first | exact Nat.le_refl _ | exact Nat.le_succ _)))
    (refine hK _ _ (⟨fun _ _ => HF.out _ hM, fun h => absurd h (by decide)⟩) ?_; clear hK K)
    (refine wpAnyK_with (F := fun W => W.cell? ⟨Bt, 0, none⟩ = some (.map (some Bm)) ∧ (Instr.lookup 87 (.map (some Bm)) (.int .i64 a) false).run Tryz.prog W = .ok (.slice (some ⟨(T a).b, o1, none⟩) nb (T a).c) W ∧ (Instr.lookup 87 (.map (some Bm)) (.int .i64 b) false).run Tryz.prog W = .ok (.slice (some ⟨(T b).b, o2, none⟩) nb (T b).c) W ∧ W.cell? ⟨(T a).b, o1 + k * 2, none⟩ = some (.int .i64 x.lo) ∧ W.cell? ⟨(T a).b, o1 + k * 2 + 1, none⟩ = some (.int .i64 x.hi) ∧ W.cell? ⟨(T b).b, o2 + k * 2, none⟩ = some (.int .i64 y.lo) ∧ W.cell? ⟨(T b).b, o2 + k * 2 + 1, none⟩ = some (.int .i64 y.hi)) (HF.out _ hM) (fun hF3 => ?_); clear hF2)
    try simp only [Act.put, List.setIfInBounds_toArray, List.set_cons_zero, List.set_cons_succ]
    refine wpAnyK_step (i := 15) rfl (by kernel_rfl) (by rfl) (fun K hK => ?_)
    (first | (refine wp_store_row 50 (.tmp 9) (.tmp 21) rfl (w.heap.size + 1) #[.int .i64 y.lo, .int .i64 y.hi] rfl rfl 50 _ K9.out info_span2 rfl (by simp [Value.oneCell']) ?_; have L8 := Lib.hid (K8.out.grown (grown_setRow _ (w.heap.size + 1) #[.int .i64 y.lo, .int .i64 y.hi]) (fun e => by injection e with e; exact absurd e.symm (Nat.succ_ne_self _))); have L9 := Lib.hid (K9.out.setRow #[.int .i64 y.lo, .int .i64 y.hi]); have hM := hM.grown (grown_setRow _ (w.heap.size + 1) #[.int .i64 y.lo, .int .i64 y.hi]) (by simp [World.setRow]; omega) (fun j e => by cases e; first | exact Nat.le_refl _ | exact Nat.le_succ _)) | (refine wp_store_row 50 (.tmp 9) (.tmp 21) rfl (w.heap.size) #[.int .i64 y.lo, .int .i64 y.hi] rfl rfl 50 _ K9.out info_span2 rfl (by simp [Value.oneCell']) ?_; have L8 := Lib.hid (K8.out.grown (grown_setRow _ w.heap.size #[.int .i64 y.lo, .int .i64 y.hi]) (fun e => by injection e with e; exact absurd e (Nat.succ_ne_self _))); have L9 := Lib.hid (K9.out.setRow #[.int .i64 y.lo, .int .i64 y.hi]); have hM := hM.grown (grown_setRow _ (w.heap.size) #[.int .i64 y.lo, .int .i64 y.hi]) (by simp [World.setRow]; omega) (fun j e => by cases e; first | exact Nat.le_refl _ | exact Nat.le_succ _)))
    (refine hK _ _ (Keep2.no (by kernel_rfl) (by kernel_rfl)) ?_; clear hK K)
    try simp only [Act.put, List.setIfInBounds_toArray, List.set_cons_zero, List.set_cons_succ]
    refine wpAnyK_done (by kernel_rfl) ?_ _
    exact HEND.out _ _ _ hM (L8.out.cell 0) (L8.out.cell 1) (L9.out.cell 0) (L9.out.cell 1)
  · refine wpOp_of rfl (by rfl) (fun K hK => ?_)
    go_simp
    (have hM := hM.alloc hM.size (.cells #[.int .i64 0, .int .i64 0] 50))
    (refine hK _ _ ⟨⟨fun _ _ => HF.out _ hM, fun h => absurd h (by decide)⟩, ?_⟩; clear hK K)
    (refine wpAnyK_with (F := fun W => W.cell? ⟨Bt, 0, none⟩ = some (.map (some Bm)) ∧ (Instr.lookup 87 (.map (some Bm)) (.int .i64 a) false).run Tryz.prog W = .ok (.slice (some ⟨(T a).b, o1, none⟩) nb (T a).c) W ∧ (Instr.lookup 87 (.map (some Bm)) (.int .i64 b) false).run Tryz.prog W = .ok (.slice (some ⟨(T b).b, o2, none⟩) nb (T b).c) W ∧ W.cell? ⟨(T a).b, o1 + k * 2, none⟩ = some (.int .i64 x.lo) ∧ W.cell? ⟨(T a).b, o1 + k * 2 + 1, none⟩ = some (.int .i64 x.hi) ∧ W.cell? ⟨(T b).b, o2 + k * 2, none⟩ = some (.int .i64 y.lo) ∧ W.cell? ⟨(T b).b, o2 + k * 2 + 1, none⟩ = some (.int .i64 y.hi)) (HF.out _ hM) (fun hF5 => ?_); clear hF0)
    try simp only [Act.put, List.setIfInBounds_toArray, List.set_cons_zero, List.set_cons_succ]
    refine wpAnyK_step (i := 12) rfl (by kernel_rfl) (by rfl) (fun K hK => ?_)
    go_simp
    (have hM := hM.alloc hM.size (.cells #[.int .i64 0, .int .i64 0] 50))
    (refine hK _ _ (⟨fun _ _ => HF.out _ hM, fun h => absurd h (by decide)⟩) ?_; clear hK K)
    (refine wpAnyK_with (F := fun W => W.cell? ⟨Bt, 0, none⟩ = some (.map (some Bm)) ∧ (Instr.lookup 87 (.map (some Bm)) (.int .i64 a) false).run Tryz.prog W = .ok (.slice (some ⟨(T a).b, o1, none⟩) nb (T a).c) W ∧ (Instr.lookup 87 (.map (some Bm)) (.int .i64 b) false).run Tryz.prog W = .ok (.slice (some ⟨(T b).b, o2, none⟩) nb (T b).c) W ∧ W.cell? ⟨(T a).b, o1 + k * 2, none⟩ = some (.int .i64 x.lo) ∧ W.cell? ⟨(T a).b, o1 + k * 2 + 1, none⟩ = some (.int .i64 x.hi) ∧ W.cell? ⟨(T b).b, o2 + k * 2, none⟩ = some (.int .i64 y.lo) ∧ W.cell? ⟨(T b).b, o2 + k * 2 + 1, none⟩ = some (.int .i64 y.hi)) (HF.out _ hM) (fun hF6 => ?_); clear hF5)
    try simp only [Act.put, List.setIfInBounds_toArray, List.set_cons_zero, List.set_cons_succ]
    refine wpAnyK_step (i := 14) rfl (by kernel_rfl) (by rfl) (fun K hK => ?_)
    (first | (refine wp_store_row 50 (.tmp 8) (.tmp 15) rfl (w.heap.size) #[.int .i64 x.lo, .int .i64 x.hi] rfl rfl 50 _ HB0.out info_span2 rfl (by simp [Value.oneCell']) ?_; have K8 := Lib.hid (HB0.out.setRow #[.int .i64 x.lo, .int .i64 x.hi]); have K9 := Lib.hid (HB1.out.grown (grown_setRow _ w.heap.size #[.int .i64 x.lo, .int .i64 x.hi]) (fun e => by injection e with e; exact absurd e (Nat.succ_ne_self _))); have hM := HV.out.grown (grown_setRow _ (w.heap.size) #[.int .i64 x.lo, .int .i64 x.hi]) (by simp [World.setRow]; omega) (fun j e => by cases e; first | exact Nat.le_refl _ | exact Nat.le_succ _)) | (refine wp_store_row 50 (.tmp 8) (.tmp 15) rfl (w.heap.size + 1) #[.int .i64 x.lo, .int .i64 x.hi] rfl rfl 50 _ HB1.out info_span2 rfl (by simp [Value.oneCell']) ?_; have K8 := Lib.hid (HB1.out.setRow #[.int .i64 x.lo, .int .i64 x.hi]); have K9 := Lib.hid (HB0.out.grown (grown_setRow _ (w.heap.size + 1) #[.int .i64 x.lo, .int .i64 x.hi]) (fun e => by injection e with e; exact absurd e.symm (Nat.succ_ne_self _))); have hM := HV.out.grown (grown_setRow _ (w.heap.size + 1) #[.int .i64 x.lo, .int .i64 x.hi]) (by simp [World.setRow]; omega) (fun j e => by cases e; first | exact Nat.le_refl _ | exact Nat.le_succ _)))
    (refine hK _ _ (⟨fun _ _ => HF.out _ hM, fun h => absurd h (by decide)⟩) ?_; clear hK K)
    (refine wpAnyK_with (F := fun W => W.cell? ⟨Bt, 0, none⟩ = some (.map (some Bm)) ∧ (Instr.lookup 87 (.map (some Bm)) (.int .i64 a) false).run Tryz.prog W = .ok (.slice (some ⟨(T a).b, o1, none⟩) nb (T a).c) W ∧ (Instr.lookup 87 (.map (some Bm)) (.int .i64 b) false).run Tryz.prog W = .ok (.slice (some ⟨(T b).b, o2, none⟩) nb (T b).c) W ∧ W.cell? ⟨(T a).b, o1 + k * 2, none⟩ = some (.int .i64 x.lo) ∧ W.cell? ⟨(T a).b, o1 + k * 2 + 1, none⟩ = some (.int .i64 x.hi) ∧ W.cell? ⟨(T b).b, o2 + k * 2, none⟩ = some (.int .i64 y.lo) ∧ W.cell? ⟨(T b).b, o2 + k * 2 + 1, none⟩ = some (.int .i64 y.hi)) (HF.out _ hM) (fun hF7 => ?_); clear hF6)
    try simp only [Act.put, List.setIfInBounds_toArray, List.set_cons_zero, List.set_cons_succ]
    refine wpAnyK_step (i := 15) rfl (by kernel_rfl) (by rfl) (fun K hK => ?_)
    (first | (refine wp_store_row 50 (.tmp 9) (.tmp 21) rfl (w.heap.size + 1) #[.int .i64 y.lo, .int .i64 y.hi] rfl rfl 50 _ K9.out info_span2 rfl (by simp [Value.oneCell']) ?_; have L8 := Lib.hid (K8.out.grown (grown_setRow _ (w.heap.size + 1) #[.int .i64 y.lo, .int .i64 y.hi]) (fun e => by injection e with e; exact absurd e.symm (Nat.succ_ne_self _))); have L9 := Lib.hid (K9.out.setRow #[.int .i64 y.lo, .int .i64 y.hi]); have hM := hM.grown (grown_setRow _ (w.heap.size + 1) #[.int .i64 y.lo, .int .i64 y.hi]) (by simp [World.setRow]; omega) (fun j e => by cases e; first | exact Nat.le_refl _ | exact Nat.le_succ _)) | (refine wp_store_row 50 (.tmp 9) (.tmp 21) rfl (w.heap.size) #[.int .i64 y.lo, .int .i64 y.hi] rfl rfl 50 _ K9.out info_span2 rfl (by simp [Value.oneCell']) ?_; have L8 := Lib.hid (K8.out.grown (grown_setRow _ w.heap.size #[.int .i64 y.lo, .int .i64 y.hi]) (fun e => by injection e with e; exact absurd e (Nat.succ_ne_self _))); have L9 := Lib.hid (K9.out.setRow #[.int .i64 y.lo, .int .i64 y.hi]); have hM := hM.grown (grown_setRow _ (w.heap.size) #[.int .i64 y.lo, .int .i64 y.hi]) (by simp [World.setRow]; omega) (fun j e => by cases e; first | exact Nat.le_refl _ | exact Nat.le_succ _)))
    (refine hK _ _ (Keep2.no (by kernel_rfl) (by kernel_rfl)) ?_; clear hK K)
    try simp only [Act.put, List.setIfInBounds_toArray, List.set_cons_zero, List.set_cons_succ]
    refine wpAnyK_done (by kernel_rfl) ?_ _
    exact HEND.out _ _ _ hM (L8.out.cell 0) (L8.out.cell 1) (L9.out.cell 0) (L9.out.cell 1)
end Go.Proofs.YtkphgdkjjklajaaGreatDoor

namespace Go.Proofs.YtkphgdkjjklajaaGreatDoor
open Go.RowKit Go.Shelf Go.Sort

theorem choT_mem {n : Nat} : ∀ {many : Nat} {f : Int} {x : List Int}, x ∈ choT n many f → ∀ b ∈ x, 0 ≤ b ∧ b < n
  | 0, _, x, h, b, hb => by simp [choT] at h; subst h; cases hb
  | many + 1, f, x, h, b, hb => by
    rw [choT_succ] at h
    obtain ⟨i, hi, h⟩ := List.mem_flatMap.1 h
    obtain ⟨y, hy, rfl⟩ := List.mem_map.1 h
    have hir := mem_rg.1 (List.mem_filter.1 hi).1
    rcases List.mem_cons.1 hb with rfl | hb
    · exact hir
    · exact choT_mem hy b hb
theorem choT_len {n : Nat} : ∀ {many : Nat} {f : Int} {x : List Int}, x ∈ choT n many f → x.length = many
  | 0, _, x, h => by simp [choT] at h; subst h; rfl
  | many + 1, f, x, h => by
    rw [choT_succ] at h
    obtain ⟨i, hi, h⟩ := List.mem_flatMap.1 h
    obtain ⟨y, hy, rfl⟩ := List.mem_map.1 h
    simp [choT_len hy]
theorem samp_hit {n : Nat} {known : List (List Span)} {many : Nat} (hm : many ≤ n) (h : ∀ j, j < many → ∀ y ∈ choT n j 0, apartT known y = false) {pre rest : List (List Int)} {x : List Int} (hx : choT n many 0 = pre ++ x :: rest)
    (hp : ∀ y ∈ pre, apartT known y = false) (ha : apartT known x = true) : sampT n known = some x := by
  unfold sampT
  rw [List.find?_eq_some_iff_append]
  obtain ⟨k, rfl⟩ := Nat.exists_eq_add_of_le hm
  refine ⟨ha, (List.range many).flatMap (fun j => choT (many + k) j 0) ++ pre, rest ++ ((List.range k).map (fun j => many + (j + 1))).flatMap (fun j => choT (many + k) j 0), ?_, fun y hy => ?_⟩
  · rw [show many + k + 1 = many + (k + 1) by omega, List.range_add, List.flatMap_append, List.range_succ_eq_map, List.map_cons, List.flatMap_cons, Nat.add_zero, hx, List.map_map]
    simp [Function.comp_def]
  · rcases List.mem_append.1 hy with h1 | h1
    · obtain ⟨j, hj, h2⟩ := List.mem_flatMap.1 h1
      rw [h j (List.mem_range.1 hj) y h2]; rfl
    · rw [hp y h1]; rfl
theorem samp_none {n : Nat} {known : List (List Span)} (h : ∀ j, j < n + 1 → ∀ y ∈ choT n j 0, apartT known y = false) : sampT n known = none := by
  unfold sampT
  rw [List.find?_eq_none]
  intro y hy
  obtain ⟨j, hj, h2⟩ := List.mem_flatMap.1 hy
  rw [h j (List.mem_range.1 hj) y h2]; simp

/-- does one of the samples tell the i-th from the k-th -/
def tellI (X : Int → List Span) (l x : List Int) (i k : Nat) : Bool := x.any fun b => tellsT (spanAt (X (l.getD i 0)) b) (spanAt (X (l.getD k 0)) b)
theorem known_get (X : Int → List Span) (l : List Int) {i : Nat} (h : i < l.length) : (l.map X).getD i [] = X (l.getD i 0) := by
  simp [List.getD_eq_getElem?_getD, h]
theorem apart_yes {X : Int → List Span} {l x : List Int} (h : ∀ i, i < l.length → ∀ k, k < i → tellI X l x i k = true) : apartT (l.map X) x = true := by
  unfold apartT
  rw [List.all_eq_true]
  intro i hi
  rw [List.all_eq_true]
  intro k hk
  rw [List.length_map] at hi
  have hi := List.mem_range.1 hi
  have hk := List.mem_range.1 hk
  rw [known_get X l hi, known_get X l (by omega)]
  exact h i hi k hk
theorem apart_no {X : Int → List Span} {l x : List Int} {i k : Nat} (hi : i < l.length) (hk : k < i) (h : tellI X l x i k = false) : apartT (l.map X) x = false := by
  cases h2 : apartT (l.map X) x with
  | false => rfl
  | true =>
    unfold apartT at h2
    rw [List.all_eq_true] at h2
    have h3 := h2 i (List.mem_range.2 (by simpa using hi))
    rw [List.all_eq_true] at h3
    have h4 := h3 k (List.mem_range.2 hk)
    rw [known_get X l hi, known_get X l (by omega)] at h4
    unfold tellI at h
    rw [h4] at h
    cases h

theorem wp_updateK {α : Type} {enc : α → Value} {ok : α → Prop} {P : Program} {K0 : TypeId} [DecidableEq α] {o : Oper} {a : Act} {w : World} {K : Act → World → Prop} {Q : Exit → Act → World → Prop} (m x v : Operand) (T E : TypeId) (hop : o.op = Op.mapUpdate T m x v) (KK : KeyK P K0 enc ok) (ht : P.underlying T = some (.map K0 E))
    (b : Nat) (c : α → Option Value) (hm : a.eval m = .map (some b)) (h : KMap enc ok w b c) (q : α) (hx : a.eval x = enc q) (hq : ok q) (y : Value) (hv : a.eval v = y)
    (hK : ∀ w', KMap enc ok w' b (updK c q y) → w.grownBy w' (some b) → w'.heap.size = w.heap.size → K (a.put o.dst undef) w') : o.wp P a w K Q := by
  obtain ⟨w', hrun, r1, r2, r3⟩ := run_updateK KK ht h q hq y
  unfold Oper.wp
  simp [execOp, hop, hm, hx, hv, hrun, Result.andThen]
  exact hK w' r1 r2 r3

theorem told_snoc (T : Int → SpD) (nb : Nat) (S : List Int) (a : Int) (d : SpD) : toldM (fun q => if q = a then d else T q) nb (S ++ [a]) = updK (toldM T nb S) a (.slice d.A nb d.c) := by
  funext q
  unfold toldM updK
  by_cases h : q = a <;> simp [h]
theorem Sl.off_map {α : Type} {enc : α → List Value} {sz : Nat} {w : World} {b n : Nat} {A : Option Addr} {l : List α} (h : Sl enc sz w b A n l) (hn : 0 < n) (hs : ∀ x, (enc x).length = sz) (hz : 0 < sz) {Bm : Nat} {es : Array MapEntry} {c : Nat} (hm : w.heap[Bm]? = some (.map es c)) : b ≠ Bm := by
  rintro rfl
  obtain ⟨o, _, _, hc⟩ := h.2 hn
  have hl := h.len
  have h0 : 0 < l.length := by omega
  have hx := hs l[0]
  obtain ⟨u, hu⟩ : ∃ u, (enc l[0])[0]? = some u := ⟨(enc l[0])[0]'(by omega), List.getElem?_eq_getElem _⟩
  have := hc 0 h0 0 u hu
  simp [World.cell?, hm] at this
theorem Told.turn {W W' : World} {Bt Bm : Nat} {T : Int → SpD} {nb : Nat} {X : Int → List Span} {S : List Int} (h : Told W Bt Bm T nb X S) (hn : 0 < nb) {a : Int} {d : SpD} (hd : Sl encR 2 W d.b d.A nb (X a)) (hg : W.grownBy W' (some Bm)) (hm : KMap (Value.int .i64) okI W' Bm (updK (toldM T nb S) a (.slice d.A nb d.c))) :
    Told W' Bt Bm (fun q => if q = a then d else T q) nb X (S ++ [a]) := by
  obtain ⟨es, clock, h1, _⟩ := h.m
  have hbt : Bt ≠ Bm := by
    rintro rfl
    have := h.t
    unfold Blk at this
    rw [h1] at this
    cases this
  refine ⟨h.t.grown hg (fun e => hbt (by injection e)), by rw [told_snoc]; exact hm, fun q hq => ?_⟩
  by_cases hqa : q = a
  · subst hqa
    simp only [if_true]
    exact hd.grown hg (fun _ e => (hd.off_map hn encR_len (by omega) h1) (by injection e))
  · simp only [if_neg hqa]
    have hqS : q ∈ S := by
      rcases List.mem_append.1 hq with h2 | h2
      · exact h2
      · exact absurd (List.mem_singleton.1 h2) hqa
    exact (h.r q hqS).grown hg (fun _ e => ((h.r q hqS).off_map hn encR_len (by omega) h1) (by injection e))

set_option maxRecDepth 100000 in
set_option maxHeartbeats 1000000 in
theorem sam2_any (B10 B14 B16 Bt Bm : Nat) (T : Int → SpD) (nb : Nat) (X : Int → List Span) (S : List Int) (k : Nat) (a b : Int) (w : World) (hT : Told w Bt Bm T nb X S) (hk : k < nb) (hnb : nb ≤ 8) (ha : a ∈ S) (hb : b ∈ S) (hXa : (X a).length = nb) (hXb : (X b).length = nb)
    (oka : okI a) (okb : okI b) (h10 : Blk w B10 88 #[.func (.func 45) #[] #[.pointer (some ⟨Bt, 0, none⟩)]]) (h14 : Blk w B14 3 #[.int .i64 a]) (h16 : Blk w B16 3 #[.int .i64 b]) :
    Calls Tryz.prog 48 #[.int .i64 k, .pointer (some ⟨B10, 0, none⟩), .pointer (some ⟨B14, 0, none⟩), .pointer (some ⟨B16, 0, none⟩)] w fun e w' => e = .returned (.bool (tellsT (spanAt (X a) k) (spanAt (X b) k))) ∧ Below w.heap.size w w' := by
  have c10 := h10.cell 0
  have c14 := h14.cell 0
  have c16 := h16.cell 0
  have hcon := apart_any Bt Bm T nb X S k a b w hT hk hnb ha hb hXa hXb oka okb
  have HC := Lib.hid hcon
  clear hcon hT h10 h14 h16
  go_enter Tryz.func48, Tryz.ntmps48
  go_wp2_with (go_at_call 45; refine HC.out.mono ?_; rintro e w1 ⟨rfl, hb1⟩)
  go_ret
  exact ⟨rfl, hb1⟩

/-- where things lie in Samples -/
structure SamEnv (w W : World) (Ab Am Ao : Option Addr) (nb cb nm cm no co : Nat) : Prop where
  low : Below w.heap.size w W
  n : Blk W w.heap.size 25 #[.slice Ab nb cb, .slice Am nm cm]
  s : Blk W (w.heap.size + 1) 22 #[.slice Ao no co]
  r4 : Blk W (w.heap.size + 2) 22 #[.slice none 0 0]
  r5 : Blk W (w.heap.size + 3) 33 #[.int .i64 0]
section
variable {w W W' : World} {Ab Am Ao : Option Addr} {nb cb nm cm no co : Nat}
theorem SamEnv.below (h : SamEnv w W Ab Am Ao nb cb nm cm no co) (hb : Below W.heap.size W W') : SamEnv w W' Ab Am Ao nb cb nm cm no co :=
  ⟨h.low.trans (hb.mono h.low.size), h.n.below hb h.n.lt, h.s.below hb h.s.lt, h.r4.below hb h.r4.lt, h.r5.below hb h.r5.lt⟩
theorem SamEnv.grown (h : SamEnv w W Ab Am Ao nb cb nm cm no co) {g : Nat} (hg : W.grownBy W' (some g)) (hz : w.heap.size + 3 < g) : SamEnv w W' Ab Am Ao nb cb nm cm no co :=
  ⟨h.low.grown hg h.low.size (fun j e => by cases e; omega), h.n.grown hg (fun e => by injection e; omega), h.s.grown hg (fun e => by injection e; omega), h.r4.grown hg (fun e => by injection e; omega), h.r5.grown hg (fun e => by injection e; omega)⟩
theorem SamEnv.new (w : World) : SamEnv w ((((w.alloc (.cells #[.slice Ab nb cb, .slice Am nm cm] 25)).alloc (.cells #[.slice Ao no co] 22)).alloc (.cells #[.slice none 0 0] 22)).alloc (.cells #[.int .i64 0] 33)) Ab Am Ao nb cb nm cm no co := by
  have h0 : Below w.heap.size w (w.alloc (.cells #[.slice Ab nb cb, .slice Am nm cm] 25)) := (Below.refl _ w).alloc (Nat.le_refl _) _
  have b0 := Blk.new w 25 #[.slice Ab nb cb, .slice Am nm cm]
  have b1 := Blk.new (w.alloc (.cells #[.slice Ab nb cb, .slice Am nm cm] 25)) 22 #[.slice Ao no co]
  have b2 := Blk.new ((w.alloc (.cells #[.slice Ab nb cb, .slice Am nm cm] 25)).alloc (.cells #[.slice Ao no co] 22)) 22 #[.slice none 0 0]
  have b3 := Blk.new (((w.alloc (.cells #[.slice Ab nb cb, .slice Am nm cm] 25)).alloc (.cells #[.slice Ao no co] 22)).alloc (.cells #[.slice none 0 0] 22)) 33 #[.int .i64 0]
  simp only [World.size_alloc] at b1 b2 b3
  exact ⟨((h0.alloc (by simp) _).alloc (by simp; omega) _).alloc (by simp; omega) _, ((b0.alloc _).alloc _).alloc _, (b1.alloc _).alloc _, b2.alloc _, b3⟩
end

def SamPost (bs : List Int) (ms : List Mv) (l : List Int) (w : World) (e : Ending) (w' : World) : Prop :=
  ((∃ xs A c, samplesT bs ms l = some xs ∧ e = .returned (.tuple #[.slice A xs.length c, .int .i64 0]) ∧ w'.ownsRow w.heap.size 3 1 (.slice A xs.length c) xs.length (xs.flatMap encI)) ∨ (samplesT bs ms l = none ∧ e = .returned (.tuple #[.slice none 0 0, .int .i64 3]))) ∧ Below w.heap.size w w'

def markD (D : Nat) : Deferred := { target := .collected D, args := #[] }
/-- the marks of ranges that are over -/
structure Marks (B : Nat) (W : World) (ds : List Nat) : Prop where
  nd : ds.Nodup
  at_ : ∀ D ∈ ds, B ≤ D ∧ W.heap[D]? = some (.deferred (some []))
theorem Marks.below {B : Nat} {W W' : World} {ds : List Nat} (h : Marks B W ds) (hb : Below W.heap.size W W') : Marks B W' ds :=
  ⟨h.nd, fun D hD => ⟨(h.at_ D hD).1, (hb.block D (Array.getElem?_eq_some_iff.1 (h.at_ D hD).2).1).trans (h.at_ D hD).2⟩⟩
theorem Marks.more {B : Nat} {W : World} {ds : List Nat} {D : Nat} (h : Marks B W ds) (hD : ∀ d ∈ ds, d < D) (hB : B ≤ D) (hd : W.heap[D]? = some (.deferred (some []))) : Marks B W (D :: ds) :=
  ⟨List.nodup_cons.2 ⟨fun hm => Nat.lt_irrefl _ (hD D hm), h.nd⟩, fun d hd' => by
    rcases List.mem_cons.1 hd' with rfl | h2
    · exact ⟨hB, hd⟩
    · exact h.at_ d h2⟩
theorem leaves_marks {F : Fence} {n : Nat} {P : Program} {fn : Func} {tmps : Array Value} {R : Ending → World → Prop} {B : Nat} (Z : World → Prop)
    (hZ : ∀ (W : World) (D : Nat), Z W → B ≤ D → W.heap[D]? = some (.deferred (some [])) → Z (W.putObj D (.deferred none)))
    (hR : ∀ W, Z W → ∃ v, (results fn tmps).run P W = .ok v W ∧ R (.returned v) W) :
    ∀ (ds : List Nat) (W : World), Marks B W ds → Z W → LeavesInM F n P fn tmps R (ds.map markD) .returning W
  | [], W, _, hz => hR W hz
  | D :: ds, W, hm, hz => by
    have h1 := hm.at_ D (List.mem_cons_self ..)
    refine ⟨by simp, .inl ⟨D, _, rfl, run_takeDeferred h1.2, leaves_marks Z hZ hR ds _ ⟨(List.nodup_cons.1 hm.nd).2, fun d hd => ?_⟩ (hZ W D hz h1.1 h1.2)⟩⟩
    have h2 := hm.at_ d (List.mem_cons_of_mem _ hd)
    refine ⟨h2.1, ?_⟩
    rw [World.putObj_heap_other (by rintro rfl; exact (List.nodup_cons.1 hm.nd).1 hd)]
    exact h2.2

theorem Ks.putRec {W : World} {l : Nat} {o o' : Obj} (h : W.heap[l]? = some o) (hr : isRec o = true) : Ks W (W.putObj l o') :=
  ⟨by simp, fun k cs t f hk => by
    by_cases hkl : k = l
    · subst hkl
      rw [hk] at h
      injection h with h
      subst h
      cases hr
    · exact (World.putObj_heap_other hkl).trans hk⟩
/-- the first list that tells all apart has been found, and is the result -/
structure SamHit (bs : List Int) (ms : List Mv) (l : List Int) (w : World) (nb many B3 B2 : Nat) (ds : List Nat) (W : World) : Prop where
  hit : ∃ (pre rest : List (List Int)) (x : HdL), choT nb many 0 = pre ++ x.l :: rest ∧ (∀ y ∈ pre, apartT (l.map fun s => reachT bs ms [s]) y = false) ∧ apartT (l.map fun s => reachT bs ms [s]) x.l = true ∧ giveL B3 x W ∧ Blk W (w.heap.size + 1 + 1) 22 #[.slice x.A x.n x.c]
  r5 : Blk W (w.heap.size + 1 + 1 + 1) 33 #[.int .i64 0]
  low : Below w.heap.size w W
  mks : Marks B2 W ds
theorem giveL_rec {B : Nat} {x : HdL} {X Y : World} {row : Option Nat} (h : giveL B x X) (hg : X.grownBy Y row) (hr : ∀ r, row = some r → ∃ o, X.heap[r]? = some o ∧ isRec o = true) : giveL B x Y := by
  refine giveL_ks B x X Y ⟨hg.size, fun k cs t f hk => (hg.block k (Array.getElem?_eq_some_iff.1 hk).1 fun e => ?_).trans hk⟩ h
  obtain ⟨o, h1, h2⟩ := hr k e.symm
  rw [hk] at h1
  injection h1 with h1
  subst h1
  cases h2
theorem SamHit.rec_ {bs : List Int} {ms : List Mv} {l : List Int} {w : World} {nb many B3 B2 : Nat} {ds : List Nat} {X Y : World} {row : Option Nat} (h : SamHit bs ms l w nb many B3 B2 ds X) (hg : X.grownBy Y row) (hds : ∀ D ∈ ds, some D ≠ row)
    (hr : ∀ r, row = some r → w.heap.size ≤ r ∧ ∃ o, X.heap[r]? = some o ∧ isRec o = true) : SamHit bs ms l w nb many B3 B2 ds Y := by
  have hcell : ∀ {k : Nat} {t : TypeId} {cs : Array Value}, Blk X k t cs → Blk Y k t cs := fun {k t cs} hb => hb.grown hg fun e => by
    obtain ⟨_, o, h1, h2⟩ := hr k e.symm
    unfold Blk at hb
    rw [hb] at h1
    injection h1 with h1
    subst h1
    cases h2
  obtain ⟨pre, rest, x, h1, h2, h3, h4, h5⟩ := h.hit
  refine ⟨⟨pre, rest, x, h1, h2, h3, giveL_rec h4 hg fun r e => (hr r e).2, hcell h5⟩, hcell h.r5, h.low.grown hg h.low.size (fun j e => (hr j e).1), h.mks.nd, fun D hD => ⟨(h.mks.at_ D hD).1, ?_⟩⟩
  have h6 := (h.mks.at_ D hD).2
  exact (hg.block D (Array.getElem?_eq_some_iff.1 h6).1 (hds D hD)).trans h6

theorem KeepsRec.cell {W : World} {g i : Nat} {t : TypeId} {cs : Array Value} (h : Blk W g t cs) (v : Value) : KeepsRec W (W.setCell ⟨g, i, none⟩ v) :=
  ⟨by simp, fun k o hk hr => by
    by_cases hkg : k = g
    · subst hkg
      unfold Blk at h
      rw [h] at hk
      injection hk with hk
      subst hk
      cases hr
    · rw [Below.heap_setCell _ _ _ _ hkg]; exact hk⟩
theorem KeepsRec.below {A B : World} (h : Below A.heap.size A B) : KeepsRec A B := ⟨h.size, fun k o hk _ => (h.block k (Array.getElem?_eq_some_iff.1 hk).1).trans hk⟩
end Go.Proofs.YtkphgdkjjklajaaGreatDoor

namespace Go.Proofs.YtkphgdkjjklajaaGreatDoor
open Go.RowKit Go.Shelf Go.Sort
attribute [local go_sem] Oper.semAt_some

theorem results_S {tmps : Array Value} {W : World} {a b : Nat} {u v : Value} (h4 : tmps[4]?.getD undef = .pointer (some ⟨a, 0, none⟩)) (h5 : tmps[5]?.getD undef = .pointer (some ⟨b, 0, none⟩)) (q4 : W.cell? ⟨a, 0, none⟩ = some u) (q5 : W.cell? ⟨b, 0, none⟩ = some v) :
    (results Tryz.f18 tmps).run Tryz.prog W = .ok (.tuple #[u, v]) W := by
  simp [results, Tryz.results18, go_sem, h4, h5, q4, q5]

set_option maxRecDepth 100000 in
set_option maxHeartbeats 2000000 in
theorem Samples_err (b1 b2 b3 : Nat) (Ab Am Ao : Option Addr) (nb cb nm cm no co : Nat) (bs : List Int) (ms : List Mv) (l : List Int) (w : World) (hM : NetM w b1 b2 Ab Am nb cb nm cm bs ms) (hnb : nb ≤ 100000) (hnm : nm ≤ 100000) (hO : Sl encI 1 w b3 Ao no l) (hno : no ≤ 100000) (hc : chkO bs ms l ≠ 0) :
    Calls Tryz.prog 18 #[netV Ab Am nb cb nm cm, .slice Ao no co] w fun e w' => e = .returned (.tuple #[.slice none 0 0, .int .i64 (chkO bs ms l)]) ∧ Below w.heap.size w w' := by
  have hE := SamEnv.new w (Ab := Ab) (Am := Am) (Ao := Ao) (nb := nb) (cb := cb) (nm := nm) (cm := cm) (no := no) (co := co)
  have c0 := hE.n.cell 0
  have c1 := hE.n.cell 1
  have c2 := hE.s.cell 0
  have hcon := checkOrigins_any b1 b2 b3 Ab Am Ao nb cb nm cm no co bs ms l _ (hM.old hE.low) hnb hnm (hO.old hE.low) hno
  obtain ⟨x, hx⟩ : ∃ x, x = chkO bs ms l := ⟨_, rfl⟩
  rw [← hx] at hcon hc ⊢
  have hxx : (x == 0) = false := by simp [hc]
  have hxx2 : (x != 0) = true := by simp [hc]
  have HE := Lib.hid hE
  have HC := Lib.hid hcon
  clear hE hcon hM hO hx hc
  go_enter Tryz.func18, Tryz.ntmps18
  go_upto_region 3 with (go_at_call 39; refine HC.out.mono ?_; rintro e w1 ⟨rfl, hb1⟩; have HB1 := Lib.hid hb1; clear hb1)
  have hE1 := HE.out.below HB1.out
  have HE1 := Lib.hid hE1
  clear c0 c1 c2
  have f4 := hE1.r4.frozen 0
  have f5 := hE1.r5.frozen 0
  have g5 := (hE1.r4.set_ 0 (.slice none 0 0))
  have g6 := (hE1.r5.far (p := ⟨w.heap.size + 2, 0, none⟩) (by show w.heap.size + 3 ≠ w.heap.size + 2; omega) (.slice none 0 0))
  have f6 := g6.frozen 0
  have e4 := hE1.r4.cell 0
  have e6 := g6.cell 0
  have q4 := (g5.far (p := ⟨w.heap.size + 3, 0, none⟩) (by show w.heap.size + 2 ≠ w.heap.size + 3; omega) (.int .i64 x)).cell 0
  have q5 := (g6.set_ 0 (.int .i64 x)).cell 0
  have HQ := Lib.hid (And.intro q4 q5)
  clear hE1 g5 g6 q4 q5
  go_wp2_with fail
  obtain ⟨q4, q5⟩ := HQ.out
  refine bodyPost_ret (v := .tuple #[.slice none 0 0, .int .i64 x]) (results_S rfl rfl q4 q5) rfl ?_
  exact ⟨rfl, (HE1.out.low.setCell (p := ⟨w.heap.size + 2, 0, none⟩) (by show w.heap.size ≤ w.heap.size + 2; omega) _).setCell (p := ⟨w.heap.size + 3, 0, none⟩) (by show w.heap.size ≤ w.heap.size + 3; omega) _⟩

set_option maxRecDepth 100000 in
set_option maxHeartbeats 8000000 in
theorem Samples_ok (b1 b2 b3 : Nat) (Ab Am Ao : Option Addr) (nb cb nm cm no co : Nat) (bs : List Int) (ms : List Mv) (l : List Int) (w : World) (hM : NetM w b1 b2 Ab Am nb cb nm cm bs ms) (hO : Sl encI 1 w b3 Ao no l) (hco : no ≤ co) (hc : chkO bs ms l = 0) :
    Calls Tryz.prog 18 #[netV Ab Am nb cb nm cm, .slice Ao no co] w (SamPost bs ms l w) := by
  obtain ⟨hN, hl⟩ := chkO_in hc
  have hmm := @run_makeMap Tryz.prog
  have hmf : ∀ (fn : Fn) (first cap : Array Value) (w : World), (Instr.makeFunc fn first cap).run Tryz.prog w = .ok (.func fn first cap) w := fun _ _ _ _ => rfl
  have hE := SamEnv.new w (Ab := Ab) (Am := Am) (Ao := Ao) (nb := nb) (cb := cb) (nm := nm) (cm := cm) (no := no) (co := co)
  have c0 := hE.n.cell 0
  have c1 := hE.n.cell 1
  have c2 := hE.s.cell 0
  have hno8 : no ≤ 8 := by have := hO.len; have := orig_len hl.nodup hl.rg hN.n1; omega
  have hnb8 : nb ≤ 8 := by have := hM.b.len; have := hN.n1; omega
  have hnb0 : 0 < nb := by have := hM.b.len; have := hN.n0; omega
  have hcon := checkOrigins_any b1 b2 b3 Ab Am Ao nb cb nm cm no co bs ms l _ (hM.old hE.low) (by omega) (by have := hM.m.len; have := hN.m1; omega) (hO.old hE.low) (by omega)
  rw [hc] at hcon
  have HNB := Lib.hid hM.b.len
  have HNO := Lib.hid hO.len
  have HE := Lib.hid hE
  have HC := Lib.hid hcon
  have HM := Lib.hid hM
  have HO := Lib.hid hO
  have HN := Lib.hid hN
  have HL := Lib.hid hl
  clear hE hcon hM hO hc hN hl
  refine (callsIn_wide (n := 9)).1 (callsIn_of_wp_marks Tryz.func18 rfl trivial (wpIn_wide.2 (Code.wp_mono npQ_le ?_)) rfl)
  simp only [Tryz.ntmps18, List.size_toArray, List.length_cons, List.length_nil, Nat.reduceAdd, Nat.reduceSub, Array.replicate_succ, Array.replicate_zero, List.push_toArray, List.append_toArray, List.nil_append, List.cons_append]
  go_upto_region 4 with (go_at_call 39; refine HC.out.mono ?_; rintro e w1 ⟨rfl, hb1⟩; have HB1 := Lib.hid hb1; clear hb1)
  have hE1 := HE.out.below HB1.out
  have HE1 := Lib.hid hE1
  clear c0 c1 c2 hE1
  go_upto_region 5 with fail
  have hz1 : w.heap.size + 3 < w1.heap.size := HE1.out.r5.lt
  have hb2 : Below w1.heap.size w1 ((w1.alloc (.map #[] 0)).alloc (.cells #[.map (some w1.heap.size)] 87)) := ((Below.refl _ w1).alloc (Nat.le_refl _) _).alloc (by simp) _
  have hT0 : Told ((w1.alloc (.map #[] 0)).alloc (.cells #[.map (some w1.heap.size)] 87)) (w1.heap.size + 1) w1.heap.size (fun _ => ⟨none, 0, 0⟩) nb (fun s => reachT bs ms [s]) [] := by
    have b := Blk.new (w1.alloc (.map #[] 0)) 87 #[.map (some w1.heap.size)]
    rw [World.size_alloc] at b
    refine ⟨b, ?_, fun a ha => by cases ha⟩
    exact (KMap.new w1).alloc _
  have hE2 := HE1.out.below hb2
  obtain ⟨V0, hV0⟩ : ∃ V0, (w1.alloc (.map #[] 0)).alloc (.cells #[.map (some w1.heap.size)] 87) = V0 := ⟨_, rfl⟩
  rw [hV0] at hT0 hE2 ⊢
  rw [hV0] at hb2
  have c2 := hE2.s.cell 0
  have HB2 := Lib.hid hb2
  have HT0 := Lib.hid hT0
  have HE2 := Lib.hid hE2
  clear hT0 hE2 hV0 hb2
  go_wp2_with fail
  clear c2
  have hX : ∀ a, (reachT bs ms [a]).length = nb := fun a => by unfold reachT; rw [List.length_map, rg_length, ← HNB.out]
  have HX := Lib.hid hX
  have hrc : ∀ (W : World) (a : Int) (Ba : Nat) (Aa : Option Addr) (ca : Nat), Below w.heap.size w W → a ∈ l → Sl encI 1 W Ba Aa 1 [a] → Calls Tryz.prog 40 #[netV Ab Am nb cb nm cm, .slice Aa 1 ca] W fun e w' => ∃ A c, e = .returned (.slice A nb c) ∧ w'.ownsRow W.heap.size 50 2 (.slice A nb c) nb ((reachT bs ms [a]).flatMap encR) ∧ Below W.heap.size W w' :=
    fun W a Ba Aa ca hW ha hs => reach_any b1 b2 Ba Ab Am Aa nb cb nm cm 1 ca bs ms [a] W HN.out (HM.out.old hW) hs ⟨fun o ho => by rw [List.mem_singleton.1 ho]; exact HL.out.rg a ha, List.pairwise_singleton ..⟩
  have HRC := Lib.hid hrc
  have hok : ∀ a ∈ l, okI a := fun a ha => by
    obtain ⟨h0, h1⟩ := HL.out.rg a ha
    have := HN.out.n1
    exact WalkArith.wf_i64 (by omega)
  have HOK := Lib.hid hok
  clear hX hrc hok
  have hbt : w1.heap.size + 1 < V0.heap.size := HT0.out.t.lt
  go_loopw [26] (fun i wr => ∃ (k : Nat) (T : Int → SpD), k ≤ no ∧ i = .int .i64 k ∧ Told wr (w1.heap.size + 1) w1.heap.size T nb (fun s => reachT bs ms [s]) (l.take k) ∧ SamEnv w wr Ab Am Ao nb cb nm cm no co ∧ Below w1.heap.size w1 wr) (fun i _ => no - (intOf i).toNat)
  case atStart => exact ⟨0, _, Nat.zero_le _, rfl, HT0.out, HE2.out, HB2.out⟩
  case round =>
    obtain ⟨k, T, hk, rfl, hT, hE, hB⟩ := hrel
    have HT := Lib.hid hT
    have HE := Lib.hid hE
    have HB := Lib.hid hB
    by_cases hlt : k < no
    · have hkl : k < l.length := by have := HNO.out; omega
      obtain ⟨o, rfl, hbz, s0⟩ := (HO.out.old hE.low).atI hkl
      have hal := List.getElem_mem hkl
      have HTK := Lib.hid (List.take_succ_eq_append_getElem hkl)
      generalize l[k] = a at s0 hal HTK
      have i0 : (0 : Int) ≤ (k : Int) := by omega
      have i1 : (k : Int) < (no : Int) := by omega
      clear hT hE hB
      go_upto_region 8 with fail
      obtain ⟨V, hV⟩ : ∃ V, V = wr.drew := ⟨_, rfl⟩
      have hF : ∀ W, Below wr.heap.size wr W → W.cell? ⟨w1.heap.size + 1, 0, none⟩ = some (.map (some w1.heap.size)) ∧ W.cell? ⟨w.heap.size, 0, none⟩ = some (.slice Ab nb cb) ∧ W.cell? ⟨w.heap.size, 1, none⟩ = some (.slice Am nm cm) := fun W hW =>
        ⟨(HT.out.below hW).t.cell 0, (HE.out.below hW).n.cell 0, (HE.out.below hW).n.cell 1⟩
      have HF := Lib.hid hF
      have hB0 : Below wr.heap.size wr wr.drew := (Below.refl _ wr).drew
      have hB1 : Below wr.heap.size wr (wr.drew.alloc (.cells #[.int .i64 a] 3)) := hB0.alloc (Nat.le_refl _) _
      have hcon := HRC.out (wr.drew.alloc (.cells #[.int .i64 a] 3)) a wr.heap.size (some ⟨wr.heap.size, 0, none⟩) 1 (HE.out.low.trans (hB1.mono HE.out.low.size)) hal (Sl.newI wr.drew [a] 3)
      have HRE := Lib.hid hcon
      have HB0 := Lib.hid hB0
      have HB1' := Lib.hid hB1
      have hoka := HOK.out a hal
      clear hF hV hB0 hB1 hcon
      refine wp_region_PL [0, 2] (fun W => W.cell? ⟨w1.heap.size + 1, 0, none⟩ = some (.map (some w1.heap.size)) ∧ W.cell? ⟨w.heap.size, 0, none⟩ = some (.slice Ab nb cb) ∧ W.cell? ⟨w.heap.size, 1, none⟩ = some (.slice Am nm cm)) rfl (by kernel_rfl) (HF.out _ HB0.out) (fun hF0 => ?_)
      (refine wpAnyP_loadL (i := 0) (v := ?_) rfl (by kernel_rfl) (by kernel_rfl) (by kernel_rfl) (by rfl) (fun _ _ _ h => h) hF0 (by rfl) ?_ ?_; rotate_left 1; focus (intro w hFw; (try dsimp only at hFw); go_split_ands; go_simp; try with_reducible rfl))
      try simp only [Act.put, List.setIfInBounds_toArray, List.set_cons_zero, List.set_cons_succ]
      (refine wpAnyP_takeL (i := 1) (v := ?_) rfl (by kernel_rfl) (by kernel_rfl) (by kernel_rfl) (fun _ _ _ h => h) (by rfl) ?_ ?_; rotate_left 1; focus (intro w; go_simp; try with_reducible rfl))
      try simp only [Act.put, List.setIfInBounds_toArray, List.set_cons_zero, List.set_cons_succ]
      (refine wpAnyP_loadL (i := 2) (v := ?_) rfl (by kernel_rfl) (by kernel_rfl) (by kernel_rfl) (by rfl) (fun _ _ _ h => h) hF0 (by rfl) ?_ ?_; rotate_left 1; focus (intro w hFw; (try dsimp only at hFw); go_split_ands; go_simp; try with_reducible rfl))
      try simp only [Act.put, List.setIfInBounds_toArray, List.set_cons_zero, List.set_cons_succ]
      (refine wpAnyP_takeL (i := 3) (v := ?_) rfl (by kernel_rfl) (by kernel_rfl) (by kernel_rfl) (fun _ _ _ h => h) (by rfl) ?_ ?_; rotate_left 1; focus (intro w; go_simp; try with_reducible rfl))
      try simp only [Act.put, List.setIfInBounds_toArray, List.set_cons_zero, List.set_cons_succ]
      refine wpAnyP_step (i := 4) rfl (by kernel_rfl) (by rfl) (fun K hK => ?_)
      go_simp
      (refine hK _ _ (HF.out _ HB1'.out) (fun hF1 => ?_); clear hK K hF0)
      try simp only [Act.put, List.setIfInBounds_toArray, List.set_cons_zero, List.set_cons_succ]
      refine wpAnyP_step (i := 5) rfl (by kernel_rfl) (by rfl) (fun K hK => ?_)
      go_simp
      (refine HRE.out.mono ?_; rintro e wA ⟨A1, c1, rfl, hown, hBA⟩; have hMA := HB1'.out.trans (hBA.mono HB1'.out.size))
      (refine hK _ _ (HF.out _ hMA) (fun hF2 => ?_); clear hK K hF1)
      try simp only [Act.put, List.setIfInBounds_toArray, List.set_cons_zero, List.set_cons_succ]
      refine wpAnyP_last (i := 6) rfl (by kernel_rfl) (by kernel_rfl) (by rfl) (fun K hK => ?_)
      (refine wp_updateK _ _ _ 87 42 rfl kkI Tryz.underlying87 w1.heap.size _ (by rfl) (HT.out.below hMA).m a (by rfl) hoka (.slice A1 nb c1) (by rfl) ?_; intro w2 hk2 hg2 hs2)
      (refine hK _ _ ?_; clear hK K)
      try simp only [Act.put, List.setIfInBounds_toArray, List.set_cons_zero, List.set_cons_succ]
      refine wpAnyP_done (by kernel_rfl) ?_ _
      have HW2 := Lib.hid (And.intro hk2 (And.intro hg2 hs2))
      have HOW := Lib.hid hown
      have HBA := Lib.hid hBA
      have HMA := Lib.hid hMA
      clear hk2 hg2 hs2 hown hBA hMA
      go_wp2_with fail
      go_roundw
      case rel =>
        obtain ⟨hk2, hg2, hs2⟩ := HW2.out
        obtain ⟨bA, hbA, hsA⟩ := Sl.of_own (enc := encR) encR_len (by rw [HX.out]) HOW.out
        refine ⟨k + 1, (fun q => if q = a then ⟨A1, bA, c1⟩ else T q), by omega, by go_num, ?_, ?_, ?_⟩
        · rw [HTK.out]
          exact (HT.out.below HMA.out).turn hnb0 hsA hg2 hk2
        · exact (HE.out.below HMA.out).grown hg2 hz1
        · exact (HB.out.trans (HMA.out.mono HB.out.size)).grown hg2 (Nat.le_trans HB.out.size HMA.out.size) (fun j e => by cases e; exact Nat.le_refl _)
      case measure => simp [intOf]; omega
    · obtain rfl : k = no := by omega
      have hTl : Told wr (w1.heap.size + 1) w1.heap.size T nb (fun s => reachT bs ms [s]) l := by
        have h := hT
        rwa [HNO.out, List.take_length] at h
      have HTL := Lib.hid hTl
      clear hT hE hB hTl
      obtain ⟨wa, rfl⟩ : ∃ wa : World, wa = wr := ⟨_, rfl⟩
      have e1 := hmf (.func 45) #[] #[.pointer (some ⟨w1.heap.size + 1, 0, none⟩)]
      go_wp2_with fail
      have hE := HE.out.below ((Below.refl _ wa).alloc (Nat.le_refl _) (.cells #[.func (.func 45) #[] #[.pointer (some ⟨w1.heap.size + 1, 0, none⟩)]] 88))
      have hT := HTL.out.below ((Below.refl _ wa).alloc (Nat.le_refl _) (.cells #[.func (.func 45) #[] #[.pointer (some ⟨w1.heap.size + 1, 0, none⟩)]] 88))
      have h10 := Blk.new wa 88 #[.func (.func 45) #[] #[.pointer (some ⟨w1.heap.size + 1, 0, none⟩)]]
      obtain ⟨V2, hV2⟩ : ∃ V2, wa.alloc (.cells #[.func (.func 45) #[] #[.pointer (some ⟨w1.heap.size + 1, 0, none⟩)]] 88) = V2 := ⟨_, rfl⟩
      rw [hV2] at hE hT h10 ⊢
      have hz2 : w.heap.size + 3 < V2.heap.size := hE.r5.lt
      have HE3 := Lib.hid hE
      have HT3 := Lib.hid hT
      have H10 := Lib.hid h10
      clear hE hT h10 hV2 e1
      refine wp_loop (fun a W => ∃ (many : Nat) (ds : List Nat) (v38 v39 v40 v41 v42 v43 v44 v45 v46 v47 v48 v49 : Value), a = { tmps := #[netV Ab Am nb cb nm cm, .slice Ao k co, .pointer (some ⟨w.heap.size, 0, none⟩), .pointer (some ⟨w.heap.size + 1, 0, none⟩), .pointer (some ⟨w.heap.size + 1 + 1, 0, none⟩), .pointer (some ⟨w.heap.size + 1 + 1 + 1, 0, none⟩), .int .i64 0, .pointer (some ⟨w1.heap.size + 1, 0, none⟩), undef, u9, .pointer (some ⟨wa.heap.size, 0, none⟩), .int .i64 many, undef, undef, undef, undef, undef, .agg #[.slice Ab nb cb, .slice Am nm cm], .slice Ao k co, .int .i64 0, .int .i64 0, .bool false, undef, .map (some w1.heap.size), .slice Ao k co, .int .i64 k, .int .i64 k, .bool false, u28, u29, u30, u31, u32, u33, u34, u35, u36, .func (.func 45) #[] #[.pointer (some ⟨w1.heap.size + 1, 0, none⟩)], v38, v39, v40, v41, v42, v43, v44, v45, v46, v47, v48, v49, undef, undef, undef, undef, undef, undef, undef, undef, undef, undef, undef, undef, undef, undef, undef, undef, undef, undef, undef, undef, undef, undef, undef], defers := ds.map markD } ∧ many ≤ nb + 1 ∧ Below V2.heap.size V2 W ∧ Marks V2.heap.size W ds ∧ ∀ j, j < many → ∀ y ∈ choT nb j 0, apartT (l.map fun s => reachT bs ms [s]) y = false)
        (fun a _ => nb + 1 - (intOf (a.tmps.getD 11 undef)).toNat) ⟨0, [], undef, undef, undef, undef, undef, undef, undef, undef, undef, undef, undef, undef, rfl, by omega, Below.refl _ _, ⟨List.nodup_nil, fun D hD => by cases hD⟩, fun j hj => absurd hj (Nat.not_lt_zero _)⟩ ?_
      rintro a W ⟨many, ds, v38, v39, v40, v41, v42, v43, v44, v45, v46, v47, v48, v49, rfl, hmany, hB, hMk, hno⟩
      have HBW := Lib.hid hB
      have HMK := Lib.hid hMk
      have HNF := Lib.hid hno
      have d0 := (HE3.out.below hB).n.cell 0
      have d1 := (HE3.out.below hB).n.cell 1
      clear hB hMk hno
      by_cases hle : many ≤ nb
      · have hle2 : (many : Int) ≤ (nb : Int) := by omega
        go_wp2_with fail
        refine wp_scope_straight ?_
        refine wp_seq (wp_label ?_)
        go_wp2_with (go_at_call 46; refine (choices_any nb many _).mono ?_; rintro e w' ⟨rfl, rfl⟩)
        have hgz : ((W.alloc (.cells #[.int .i64 nb] 3)).alloc (.cells #[.int .i64 many] 3)).heap.size = W.heap.size + 2 := by simp
        have hb3 : Below W.heap.size W ((W.alloc (.cells #[.int .i64 nb] 3)).alloc (.cells #[.int .i64 many] 3)) := ((Below.refl _ W).alloc (Nat.le_refl _) _).alloc (by simp) _
        have hn3 := (Blk.new W 3 #[.int .i64 nb]).alloc (.cells #[.int .i64 many] 3)
        have hm3 := Blk.new (W.alloc (.cells #[.int .i64 nb] 3)) 3 #[.int .i64 many]
        rw [World.size_alloc] at hm3
        obtain ⟨W3, hW3⟩ : ∃ W3, (W.alloc (.cells #[.int .i64 nb] 3)).alloc (.cells #[.int .i64 many] 3) = W3 := ⟨_, rfl⟩
        rw [hW3] at hgz hb3 hn3 hm3 ⊢
        have HB3 := Lib.hid hb3
        have HN3 := Lib.hid hn3
        have HM3 := Lib.hid hm3
        clear hW3 hb3 hn3 hm3
        have hds : ∀ D ∈ ds, D < W3.heap.size := fun D hD => by have := (Array.getElem?_eq_some_iff.1 (HMK.out.at_ D hD).2).1; omega
        have HDS := Lib.hid hds
        have hzW : V2.heap.size ≤ W.heap.size := HBW.out.size
        rename_i K3 aK3
        refine wpIn_wide.1 (wpIn_range_gv (n := 9) rfl (by omega) (gf := 66) (lb := #[.pointer (some ⟨W.heap.size + 1, 0, none⟩), .pointer (some ⟨W.heap.size, 0, none⟩)]) rfl trivial (enters_of Tryz.func66 (by kernel_rfl) rfl)
          (gives_any _ W.heap.size (W.heap.size + 1) many nb hnb8 (by omega) W3 HN3.out HM3.out) Ks.trans (fun W L o o' _ h1 h2 => Ks.putRec h1 h2) (fun x A B h hg => giveL_ks _ x A B h hg) (Below.refl _ _) (fun _ => rfl)
          (fun pre W' => Below W3.heap.size W3 W' ∧ ∀ y ∈ pre, apartT (l.map fun s => reachT bs ms [s]) y = false) (SamHit bs ms l w nb many W3.heap.size V2.heap.size ds)
          (fun pre X Y row h hg hr => ⟨h.1.grown hg h.1.size (fun j e => (hr j e).1), h.2⟩) (fun X Y row h hg hr => h.rec_ hg (fun D hD e => by have := (hr D e.symm).1; have := HDS.out D hD; omega) (fun r e => ⟨by have := (hr r e).1; omega, (hr r e).2⟩)) ⟨Below.refl _ _, fun y hy => by cases hy⟩
          (fun x a' _ => a' = { tmps := #[netV Ab Am nb cb nm cm, .slice Ao k co, .pointer (some ⟨w.heap.size, 0, none⟩), .pointer (some ⟨w.heap.size + 1, 0, none⟩), .pointer (some ⟨w.heap.size + 1 + 1, 0, none⟩), .pointer (some ⟨w.heap.size + 1 + 1 + 1, 0, none⟩), .int .i64 0, .pointer (some ⟨w1.heap.size + 1, 0, none⟩), undef, u9, .pointer (some ⟨wa.heap.size, 0, none⟩), .int .i64 many, .slice x.A x.n x.c, undef, undef, undef, undef, .agg #[.slice Ab nb cb, .slice Am nm cm], .slice Ao k co, .int .i64 0, .int .i64 0, .bool false, undef, .map (some w1.heap.size), .slice Ao k co, .int .i64 k, .int .i64 k, .bool false, u28, u29, u30, u31, u32, u33, u34, u35, u36, .func (.func 45) #[] #[.pointer (some ⟨w1.heap.size + 1, 0, none⟩)], .int .i64 many, .pointer (some ⟨w.heap.size, 0, none⟩), .slice Ab nb cb, .int .i64 nb, .bool true, v43, v44, .pointer (some ⟨w.heap.size, 0, none⟩), .slice Ab nb cb, .int .i64 nb, .int .i64 many, .func (.func 66) #[] #[.pointer (some ⟨W.heap.size + 1, 0, none⟩), .pointer (some ⟨W.heap.size, 0, none⟩)], .slice x.A x.n x.c, undef, undef, undef, undef, undef, undef, undef, undef, undef, undef, undef, undef, undef, undef, undef, undef, undef, undef, undef, undef, undef, undef], defers := [] }) (fun x a' W L o o' h _ _ _ => h) ?assign ?body ?done ?stop)
        case assign =>
          intro L pre x W K2 hI hK2
          gi_wp2
          exact hK2 _ _ (KeepsRec.refl _) (Ks.refl _) hI rfl
        case body =>
          rintro L pre x rest a' Wb hxs hgv ⟨hBb, hpre⟩ rfl
          have hB2b : Below V2.heap.size V2 Wb := (HBW.out.trans (HB3.out.mono hzW)).trans (hBb.mono (by omega))
          have HEB := Lib.hid (HE3.out.below hB2b)
          have HTB := Lib.hid (HT3.out.below hB2b)
          have HBB := Lib.hid hBb
          have HB2B := Lib.hid hB2b
          have H10B := Lib.hid (H10.out.below hB2b H10.out.lt)
          have HGV := Lib.hid hgv
          have HXS := Lib.hid hxs
          have HPRE := Lib.hid hpre
          have hxm : x.l ∈ choT nb many 0 := by rw [hxs]; simp
          have HXM := Lib.hid (choT_mem hxm)
          have hxn : x.n = x.l.length := by have := hgv.1; rw [flat_len encI_len] at this; omega
          have hxn8 : x.n ≤ 8 := by have := choT_len hxm; omega
          obtain ⟨bx, hbx, hsx⟩ := Sl.of_own (enc := encI) encI_len hxn hgv
          have HSX := Lib.hid hsx
          have hbo : 0 < k → b3 < w.heap.size := fun h => HO.out.lt h
          have c2 := HEB.out.s.cell 0
          clear hBb hpre hB2b hgv hxs hxm hsx d0 d1
          gi_wp2
          gi_loopw [53] (fun i wi => ∃ i0 : Nat, i0 ≤ k ∧ i = .int .i64 i0 ∧ Below Wb.heap.size Wb wi ∧ ∀ i, i < i0 → ∀ j, j < i → tellI (fun s => reachT bs ms [s]) l x.l i j = true) (fun i _ => k - (intOf i).toNat)
          case atStart => exact ⟨0, Nat.zero_le _, rfl, Below.refl _ _, fun i hi => absurd hi (Nat.not_lt_zero _)⟩
          case round =>
            obtain ⟨i0, hi0, rfl, hBi, hti⟩ := hrel
            have HBI := Lib.hid hBi
            have HTI := Lib.hid hti
            have c2i := (HEB.out.below hBi).s.cell 0
            clear hBi hti c2
            by_cases hlt : i0 < k
            · have hkl : i0 < l.length := by have := HNO.out; omega
              obtain ⟨o, rfl, hbz, s0⟩ := (HO.out.old (HEB.out.below HBI.out).low).atI hkl
              have hal := List.getElem_mem hkl
              have HGA := Lib.hid (show l[i0] = l.getD i0 0 by simp [List.getD_eq_getElem?_getD, hkl])
              obtain ⟨a, ha⟩ : ∃ a, a = l[i0] := ⟨_, rfl⟩
              rw [← ha] at s0 hal HGA
              have j0 : (0 : Int) ≤ (i0 : Int) := by omega
              have j1 : (i0 : Int) < (k : Int) := by omega
              have j2 : i0 ≤ co := by omega
              have hA0 := Blk.new wr 3 #[.int .i64 a]
              have HA0 := Lib.hid hA0
              have c3 := (HEB.out.below (HBI.out.alloc HBI.out.size (.cells #[.int .i64 a] 3))).s.cell 0
              clear hA0 ha
              gi_wp2
              have hB4 : Below Wb.heap.size Wb (wr.alloc (.cells #[.int .i64 a] 3)) := HBI.out.alloc HBI.out.size _
              have hA4 := HA0.out
              obtain ⟨B14, hB14⟩ : ∃ B, B = wr.heap.size := ⟨_, rfl⟩
              obtain ⟨W4, hW4⟩ : ∃ W4, wr.alloc (.cells #[.int .i64 a] 3) = W4 := ⟨_, rfl⟩
              rw [hW4, ← hB14] at hA4 ⊢
              rw [hW4] at hB4
              have HA4 := Lib.hid hA4
              have HB4 := Lib.hid hB4
              have hnoi : ∀ W', Below W4.heap.size W4 W' → Below Wb.heap.size Wb W' := fun W' h => HB4.out.trans (h.mono HB4.out.size)
              have HNI := Lib.hid hnoi
              clear hB4 hA4 hW4 hB14 c3 c2i hnoi
              have hmf2 := hmf
              gi_loopw [62] (fun i wj => ∃ j0 : Nat, j0 ≤ i0 ∧ i = .int .i64 j0 ∧ Below W4.heap.size W4 wj ∧ ∀ j, j < j0 → tellI (fun s => reachT bs ms [s]) l x.l i0 j = true) (fun i _ => i0 - (intOf i).toNat)
              case atStart => exact ⟨0, Nat.zero_le _, rfl, Below.refl _ _, fun i hi => absurd hi (Nat.not_lt_zero _)⟩
              case round =>
                obtain ⟨jj, hj0, rfl, hBj, htj⟩ := hrel
                have HBJ := Lib.hid hBj
                have HTJ := Lib.hid htj
                clear htj
                by_cases hlt2 : jj < i0
                · have hjl : jj < l.length := by omega
                  have hEj := HEB.out.below (HNI.out _ hBj)
                  obtain ⟨o2, ho2, hbz2, s1⟩ := (HO.out.old hEj.low).atI hjl
                  obtain rfl : o2 = o := by injection ho2 with h; injection h with _ h; exact h.symm
                  have hbl := List.getElem_mem hjl
                  have HGB := Lib.hid (show l[jj] = l.getD jj 0 by simp [List.getD_eq_getElem?_getD, hjl])
                  obtain ⟨b, hb⟩ : ∃ b, b = l[jj] := ⟨_, rfl⟩
                  rw [← hb] at s1 hbl HGB
                  have m0 : (0 : Int) ≤ (jj : Int) := by omega
                  have m1 : (jj : Int) < (i0 : Int) := by omega
                  have hB6 : Below W4.heap.size W4 (wr.alloc (.cells #[.int .i64 b] 3)) := hBj.alloc hBj.size _
                  have HB6 := Lib.hid hB6
                  have HK6 := Lib.hid (Blk.new wr 3 #[.int .i64 b])
                  have hsx2 : Sl encI 1 Wb bx x.A x.l.length x.l := by have := HSX.out; rwa [hxn] at this
                  have hcon := hasB_any bx x.l.length x.c x.A x.l 48 #[.pointer (some ⟨wa.heap.size, 0, none⟩), .pointer (some ⟨B14, 0, none⟩), .pointer (some ⟨wr.heap.size, 0, none⟩)] (fun y => tellsT (spanAt (reachT bs ms [a]) y) (spanAt (reachT bs ms [b]) y)) (wr.alloc (.cells #[.int .i64 b] 3)) (hsx2.old (HNI.out _ hB6)) (by omega) (enters_of Tryz.func48 (by kernel_rfl) rfl) (fun W' y hW' hy => by
                    obtain ⟨hy0, hy1⟩ := HXM.out y hy
                    obtain ⟨yk, rfl⟩ := Int.eq_ofNat_of_zero_le hy0
                    have hb6 := HNI.out _ (HB6.out.trans (hW'.mono HB6.out.size))
                    show Calls Tryz.prog 48 #[.int .i64 yk, .pointer (some ⟨wa.heap.size, 0, none⟩), .pointer (some ⟨B14, 0, none⟩), .pointer (some ⟨wr.heap.size, 0, none⟩)] _ _
                    exact sam2_any wa.heap.size B14 wr.heap.size _ _ _ nb (fun s => reachT bs ms [s]) l yk a b W' (HTB.out.below hb6) (by omega) hnb8 hal hbl (HX.out a) (HX.out b) (HOK.out a hal) (HOK.out b hbl) (H10B.out.below hb6 H10B.out.lt) (HA4.out.below (HB6.out.trans (hW'.mono HB6.out.size)) HA4.out.lt) (HK6.out.below hW' HK6.out.lt))
                  have HC := Lib.hid hcon
                  have HTE := Lib.hid (show tellI (fun s => reachT bs ms [s]) l x.l i0 jj = x.l.any fun y => tellsT (spanAt (reachT bs ms [a]) y) (spanAt (reachT bs ms [b]) y) by unfold tellI; rw [← HGA.out, ← HGB.out])
                  generalize (x.l.any fun y => tellsT (spanAt (reachT bs ms [a]) y) (spanAt (reachT bs ms [b]) y)) = res at HC HTE
                  clear hcon hsx2 hB6 hBj hEj ho2 hb
                  cases res with
                  | true =>
                    gi_wp2_with (refine ⟨trivial, ?_⟩; refine (CallsIn.inRound L (callsIn_wide.2 HC.out)).mono ?_; rintro e w7 ⟨rfl, hb7⟩; have HB7 := Lib.hid hb7; clear hb7)
                    refine ⟨⟨jj + 1, by omega, by go_num, HB6.out.trans (HB7.out.mono HB6.out.size), fun j hj => ?_⟩, by simp [intOf]; omega⟩
                    by_cases hjj : j = jj
                    · subst hjj; exact HTE.out
                    · exact HTJ.out j (by omega)
                  | false =>
                    gi_wp2_with (refine ⟨trivial, ?_⟩; refine (CallsIn.inRound L (callsIn_wide.2 HC.out)).mono ?_; rintro e w7 ⟨rfl, hb7⟩; have HB7 := Lib.hid hb7; clear hb7)
                    have hfin := HNI.out _ (HB6.out.trans (HB7.out.mono HB6.out.size))
                    refine ⟨KeepsRec.below hfin, Ks.of_below hfin, HBB.out.trans (hfin.mono HBB.out.size), fun y hy => ?_⟩
                    rcases List.mem_append.1 hy with h1 | h1
                    · exact HPRE.out y h1
                    · rw [List.mem_singleton.1 h1]
                      exact apart_no (i := i0) (k := jj) hkl hlt2 HTE.out
                · obtain rfl : jj = i0 := by omega
                  clear hBj
                  gi_wp2
                  refine ⟨⟨jj + 1, by omega, by go_num, HNI.out _ HBJ.out, fun i hi j hj => ?_⟩, by simp [intOf]; omega⟩
                  by_cases hii : i = jj
                  · subst hii; exact HTJ.out j hj
                  · exact HTI.out i (by omega) j hj
            · obtain rfl : i0 = k := by omega
              have HAP := Lib.hid (apart_yes (X := fun s => reachT bs ms [s]) (l := l) (x := x.l) (by rw [← HNO.out]; exact HTI.out))
              have hE9 := HEB.out.below HBI.out
              have HE9 := Lib.hid hE9
              have f4 := hE9.r4.frozen 0
              have g5 := hE9.r4.set_ 0 (.slice x.A x.l.length x.c)
              have g6 := hE9.r5.far (p := ⟨w.heap.size + 2, 0, none⟩) (by show w.heap.size + 3 ≠ w.heap.size + 2; omega) (.slice x.A x.l.length x.c)
              have f5 := hE9.r5.frozen 0
              have f6 := g6.frozen 0
              have e4 := hE9.r4.cell 0
              have e6 := g6.cell 0
              have b4 := g5.far (p := ⟨w.heap.size + 3, 0, none⟩) (by show w.heap.size + 2 ≠ w.heap.size + 3; omega) (.int .i64 0)
              have b5 := g6.set_ 0 (.int .i64 0)
              have HB4 := Lib.hid b4
              have HB5 := Lib.hid b5
              have HG6 := Lib.hid g6
              clear hE9 g5 g6 b4 b5
              gi_wp2
              refine ⟨((KeepsRec.below HBI.out).trans (KeepsRec.cell HE9.out.r4 _)).trans (KeepsRec.cell HG6.out _), ⟨pre, rest, x, HXS.out, HPRE.out, HAP.out, ?_, ?_⟩, HB5.out, ?_, ?_⟩
              · have h1 := (giveL_ks _ x _ _ (Ks.of_below HBI.out) HGV.out)
                exact ownsRow_setCell (ownsRow_setCell h1 (p := ⟨w.heap.size + 1 + 1, 0, none⟩) (by show w.heap.size + 1 + 1 < W3.heap.size; omega) _) (p := ⟨w.heap.size + 1 + 1 + 1, 0, none⟩) (by show w.heap.size + 1 + 1 + 1 < W3.heap.size; omega) _
              · have h1 := HB4.out
                rw [← hxn] at h1 ⊢
                exact h1
              · exact (HE9.out.low.setCell (p := ⟨w.heap.size + 2, 0, none⟩) (by show w.heap.size ≤ w.heap.size + 2; omega) _).setCell (p := ⟨w.heap.size + 3, 0, none⟩) (by show w.heap.size ≤ w.heap.size + 3; omega) _
              · have hm := ((HMK.out.below HB3.out).below HBB.out).below HBI.out
                refine ⟨hm.nd, fun D hD => ⟨(hm.at_ D hD).1, ?_⟩⟩
                rw [Below.heap_setCell _ _ _ _ (by show D ≠ w.heap.size + 3; have := (hm.at_ D hD).1; omega), Below.heap_setCell _ _ _ _ (by show D ≠ w.heap.size + 2; have := (hm.at_ D hD).1; omega)]
                exact (hm.at_ D hD).2
        case done =>
          rintro D Wd hD ⟨hBd, hall⟩ hdef
          have hB2d : Below V2.heap.size V2 Wd := (HBW.out.trans (HB3.out.mono hzW)).trans (hBd.mono (by omega))
          have HM4 := Lib.hid (((HMK.out.below HB3.out).below hBd).more (D := D) (fun d hd => by have := HDS.out d hd; omega) (by omega) hdef)
          have HB4 := Lib.hid hB2d
          have HAL := Lib.hid hall
          clear hBd hB2d hall hdef
          show K3 _ _
          refine aK3 _ _ ?_
          go_wp2_with fail
          refine ⟨⟨many + 1, D :: ds, _, _, _, _, _, _, _, _, _, _, _, _, rfl, by omega, HB4.out, HM4.out, fun j hj y hy => ?_⟩, ?_⟩
          · by_cases hjm : j = many
            · subst hjm; exact HAL.out y hy
            · exact HNF.out j (by omega) y hy
          · simp [intOf]; omega
        case stop =>
          rintro D Wd hD hit hdef
          have HIT := Lib.hid hit
          have hmk2 : Marks V2.heap.size Wd (D :: ds) := hit.mks.more (fun d hd => by have := HDS.out d hd; omega) (by omega) hdef
          have HM4 := Lib.hid hmk2
          clear hit hdef hmk2
          refine wpIn_ret ?_
          refine leaves_marks (B := V2.heap.size) (fun W => SamHit bs ms l w nb many W3.heap.size V2.heap.size [] W) (fun W D h hD hd => h.rec_ (grownBy_putObj' W D _) (fun D hD => by cases hD) (fun r e => by cases e; exact ⟨by omega, _, hd, rfl⟩)) (fun W h => ?_) (D :: ds) Wd HM4.out ⟨HIT.out.hit, HIT.out.r5, HIT.out.low, ⟨List.nodup_nil, fun D hD => by cases hD⟩⟩
          obtain ⟨pre, rest, x, h1, h2, h3, h4, h5⟩ := h.hit
          have hxn : x.n = x.l.length := by have := h4.1; rw [flat_len encI_len] at this; omega
          refine ⟨_, results_S rfl rfl (h5.cell 0) (h.r5.cell 0), .inl ⟨x.l, x.A, x.c, ?_, by rw [hxn]; rfl, ?_⟩, h.low⟩
          · have := samp_hit hle HNF.out h1 h2 h3
            unfold samplesT
            rw [← HNB.out]
            exact this
          · rw [← hxn]; exact ownsRow_base h4 (by omega)
      · have hle2 : ¬ (many : Int) ≤ (nb : Int) := by omega
        have hmn : many = nb + 1 := by omega
        have HMN := Lib.hid hmn
        have hE9 := HE3.out.below HBW.out
        have HE9 := Lib.hid hE9
        have f4 := hE9.r4.frozen 0
        have g5 := hE9.r4.set_ 0 (.slice none 0 0)
        have g6 := hE9.r5.far (p := ⟨w.heap.size + 2, 0, none⟩) (by show w.heap.size + 3 ≠ w.heap.size + 2; omega) (.slice none 0 0)
        have f5 := hE9.r5.frozen 0
        have f6 := g6.frozen 0
        have e4 := hE9.r4.cell 0
        have e6 := g6.cell 0
        have b4 := g5.far (p := ⟨w.heap.size + 3, 0, none⟩) (by show w.heap.size + 2 ≠ w.heap.size + 3; omega) (.int .i64 3)
        have b5 := g6.set_ 0 (.int .i64 3)
        have HB4 := Lib.hid b4
        have HB5 := Lib.hid b5
        clear hE9 g5 g6 b4 b5 hmn
        go_wp2_with fail
        refine leaves_marks (B := V2.heap.size) (fun W' => Blk W' (w.heap.size + 1 + 1) 22 #[.slice none 0 0] ∧ Blk W' (w.heap.size + 1 + 1 + 1) 33 #[.int .i64 3] ∧ Below w.heap.size w W') (fun W D h hD hd => ?_) (fun W h => ?_) ds _ ?_ ⟨HB4.out, HB5.out, ?_⟩
        · have hne : ∀ (k : Nat) (t : TypeId) (cs : Array Value), Blk W k t cs → some k ≠ some D := fun k t cs hb e => by
            injection e with e
            subst e
            unfold Blk at hb
            rw [hb] at hd
            cases hd
          have hg := grownBy_putObj' W D (.deferred none)
          exact ⟨h.1.grown hg (hne _ _ _ h.1), h.2.1.grown hg (hne _ _ _ h.2.1), h.2.2.grown hg h.2.2.size (fun j e => by cases e; omega)⟩
        · exact ⟨_, results_S rfl rfl (h.1.cell 0) (h.2.1.cell 0), .inr ⟨by
            unfold samplesT
            rw [← HNB.out]
            refine samp_none fun j hj => HNF.out j (by have := HMN.out; omega), rfl⟩, h.2.2⟩
        · refine ⟨HMK.out.nd, fun D hD => ⟨(HMK.out.at_ D hD).1, ?_⟩⟩
          rw [Below.heap_setCell _ _ _ _ (by show D ≠ w.heap.size + 3; have := (HMK.out.at_ D hD).1; omega), Below.heap_setCell _ _ _ _ (by show D ≠ w.heap.size + 2; have := (HMK.out.at_ D hD).1; omega)]
          exact (HMK.out.at_ D hD).2
        · exact (HE9.out.low.setCell (p := ⟨w.heap.size + 2, 0, none⟩) (by show w.heap.size ≤ w.heap.size + 2; omega) _).setCell (p := ⟨w.heap.size + 3, 0, none⟩) (by show w.heap.size ≤ w.heap.size + 3; omega) _
end Go.Proofs.YtkphgdkjjklajaaGreatDoor

namespace Go.Proofs.YtkphgdkjjklajaaGreatDoor
open Go.RowKit Go.Shelf Go.Sort

def netB : List Int := [100, 50, 0, 20, 0, 0]
def netMv : List Mv := [⟨0, 2, 60⟩, ⟨1, 2, 30⟩, ⟨2, 4, 50⟩, ⟨3, 4, 10⟩, ⟨2, 5, 40⟩]
theorem netA_chk1 : chkO netB netMv [1] = 0 := by kernel_rfl
theorem netA_chk3 : chkO netB netMv [0, 1, 3] = 0 := by kernel_rfl
theorem netA_reach : reachT netB netMv [1] = [⟨0, 0⟩, ⟨20, 20⟩, ⟨0, 0⟩, ⟨0, 0⟩, ⟨0, 30⟩, ⟨0, 30⟩] := by kernel_rfl
theorem netA_recall : recallT netB netMv [1] = [1, 2, 4, 5] := by kernel_rfl
theorem netA_samples : samplesT netB netMv [0, 1, 3] = some [0, 1] := by kernel_rfl
end Go.Proofs.YtkphgdkjjklajaaGreatDoor

namespace Go.Proofs.YtkphgdkjjklajaaGreatDoor
open Go.RowKit Go.Shelf Go.Sort

theorem info_netA : (Tryz.prog.info? 25).map (·.size) = some 2 := by kernel_rfl
theorem kspan_any (lo hi : Int) (w : World) : Calls Tryz.prog 20 #[.int .i64 lo, .int .i64 hi] w fun e w' => e = .returned (.agg #[.int .i64 lo, .int .i64 hi]) ∧ Below w.heap.size w w' := by
  have b0 := (Blk.new w 50 #[.int .i64 0, .int .i64 0])
  have bR := ((b0.set_ 0 (.int .i64 lo)).set_ 1 (.int .i64 hi))
  have q0 := bR.cell 0
  have q1 := bR.cell 1
  clear b0 bR
  go_enter Tryz.func20, Tryz.ntmps20
  go_wp2
  refine bodyPost_ret (v := .agg #[.int .i64 lo, .int .i64 hi]) (by simp [results, Tryz.results20, go_sem, q0, q1]) rfl ?_
  exact ⟨rfl, by go_grown⟩

set_option maxRecDepth 100000 in
set_option maxHeartbeats 1000000 in
theorem net_any (w : World) : Calls Tryz.prog 16 #[] w fun e w' => ∃ b1 b2 A1 A2, e = .returned (netV A1 A2 6 6 5 5) ∧ NetM w' b1 b2 A1 A2 6 6 5 5 netB netMv ∧ w.heap.size ≤ b1 ∧ w.heap.size ≤ b2 ∧ Below w.heap.size w w' := by
  have b0 := Blk.new w 25 #[.slice none 0 0, .slice none 0 0]
  have f0 := b0.frozen 0
  go_enter Tryz.func16, Tryz.ntmps16
  go_wp2
  have hR := (((Blk.new w 25 #[.slice (some ⟨w.heap.size + 1, 0, none⟩) 6 6, .slice (some ⟨w.heap.size + 1 + 1, 0, none⟩) 5 5]).alloc (.cells (netB.flatMap encI).toArray 3)).alloc (.cells (netMv.flatMap encM).toArray 58))
  have h1 := (Sl.new encI_len (w.alloc (.cells #[.slice (some ⟨w.heap.size + 1, 0, none⟩) 6 6, .slice (some ⟨w.heap.size + 1 + 1, 0, none⟩) 5 5] 25)) netB 3 (netB.flatMap encI).toArray rfl).alloc (.cells (netMv.flatMap encM).toArray 58)
  have h2 := (Sl.new encM_len ((w.alloc (.cells #[.slice (some ⟨w.heap.size + 1, 0, none⟩) 6 6, .slice (some ⟨w.heap.size + 1 + 1, 0, none⟩) 5 5] 25)).alloc (.cells (netB.flatMap encI).toArray 3)) netMv 58 (netMv.flatMap encM).toArray rfl)
  rw [World.size_alloc] at h1 h2
  rw [World.size_alloc] at h2
  refine bodyPost_ret (v := netV (some ⟨w.heap.size + 1, 0, none⟩) (some ⟨w.heap.size + 1 + 1, 0, none⟩) 6 6 5 5) (results_cell_row rfl _ _ w.heap.size 25 #[.slice (some ⟨w.heap.size + 1, 0, none⟩) 6 6, .slice (some ⟨w.heap.size + 1 + 1, 0, none⟩) 5 5] (0, 0) _ rfl hR Tryz.underlying25 rfl info_netA) rfl ?_
  exact ⟨_, _, _, _, rfl, ⟨h1, h2, by omega, by omega⟩, by omega, by omega, (((Below.refl _ w).alloc (Nat.le_refl _) _).alloc (by simp) _).alloc (by simp; omega) _⟩

set_option maxRecDepth 100000 in
set_option maxHeartbeats 4000000 in
theorem kawake_any (w : World) : Calls Tryz.prog 6 #[] w fun e w' => e = .returned (.bool true) ∧ Below w.heap.size w w' := by
  go_enter Tryz.func6, Tryz.ntmps6
  go_wp2_with fail
  refine (net_any w).mono ?_
  rintro e w1 ⟨b1, b2, A1, A2, rfl, hN1, _, _, hB1⟩
  have HN1 := Lib.hid (hN1.old ((Below.refl _ w1).alloc (Nat.le_refl _) (.cells #[.int .i64 1] 3)))
  have HB1 := Lib.hid (hB1.alloc hB1.size (.cells #[.int .i64 1] 3))
  have HS1 := Lib.hid (Sl.newI w1 [1] 3)
  clear hN1 hB1
  go_wp2_with fail
  refine (Reach_ok b1 b2 w1.heap.size A1 A2 (some ⟨w1.heap.size, 0, none⟩) 6 6 5 5 1 1 netB netMv [1] _ HN1.out HS1.out netA_chk1).mono ?_
  rintro e w2 ⟨AR, cR, rfl, hoR, hB2⟩
  rw [netA_reach] at hoR
  obtain ⟨bR, _, hsR⟩ := Sl.of_own (enc := encR) encR_len (by rfl) hoR
  have HB2 := Lib.hid (HB1.out.trans (hB2.mono HB1.out.size))
  have HSR := Lib.hid hsR
  clear hoR hB2 hsR HN1 HS1
  go_wp2_with fail
  refine (net_any w2).mono ?_
  rintro e w3 ⟨b3, b4, A3, A4, rfl, hN3, _, _, hB3⟩
  have HN3 := Lib.hid (hN3.old ((Below.refl _ w3).alloc (Nat.le_refl _) (.cells #[.int .i64 1] 3)))
  have hb3 := hB3.alloc hB3.size (.cells #[.int .i64 1] 3)
  have HB3 := Lib.hid (HB2.out.trans (hb3.mono HB2.out.size))
  have HSR3 := Lib.hid (HSR.out.old hb3)
  have HS3 := Lib.hid (Sl.newI w3 [1] 3)
  clear hN3 hB3 hb3
  go_wp2_with fail
  refine (Recall_ok b3 b4 w3.heap.size A3 A4 (some ⟨w3.heap.size, 0, none⟩) 6 6 5 5 1 1 netB netMv [1] _ HN3.out HS3.out netA_chk1).mono ?_
  rintro e w4 ⟨AL, cL, rfl, hoL, hB4⟩
  rw [netA_recall] at hoL ⊢
  obtain ⟨bL, _, hsL⟩ := Sl.of_own (enc := encI) encI_len (by rfl) (by rw [flatI]; exact hoL)
  have HB4 := Lib.hid (HB3.out.trans (hB4.mono HB3.out.size))
  have HSR4 := Lib.hid (HSR3.out.old hB4)
  have HSL := Lib.hid hsL
  clear hoL hB4 hsL HN3 HS3
  go_wp2_with fail
  refine (net_any w4).mono ?_
  rintro e w5 ⟨b5, b6, A5, A6, rfl, hN5, _, _, hB5⟩
  have HN5 := Lib.hid (hN5.old ((Below.refl _ w5).alloc (Nat.le_refl _) (.cells #[.int .i64 0, .int .i64 1, .int .i64 3] 3)))
  have hb5 := hB5.alloc hB5.size (.cells #[.int .i64 0, .int .i64 1, .int .i64 3] 3)
  have HB5 := Lib.hid (HB4.out.trans (hb5.mono HB4.out.size))
  have HSR5 := Lib.hid (HSR4.out.old hb5)
  have HSL5 := Lib.hid (HSL.out.old hb5)
  have HS5 := Lib.hid (Sl.newI w5 [0, 1, 3] 3)
  clear hN5 hB5 hb5
  go_wp2_with fail
  refine (Samples_ok b5 b6 w5.heap.size A5 A6 (some ⟨w5.heap.size, 0, none⟩) 6 6 5 5 3 3 netB netMv [0, 1, 3] _ HN5.out HS5.out (by omega) netA_chk3).mono ?_
  rintro e w6 ⟨hS, hB6⟩
  rw [netA_samples] at hS
  rcases hS with ⟨xs, AX, cX, hx, rfl, hoX⟩ | ⟨hx, _⟩
  case inr => cases hx
  injection hx with hx
  subst hx
  obtain ⟨bX, _, hsX⟩ := Sl.of_own (enc := encI) encI_len (by rfl) hoX
  have HB6 := Lib.hid (HB5.out.trans (hB6.mono HB5.out.size))
  have HSR6 := Lib.hid (HSR5.out.old hB6)
  have HSL6 := Lib.hid (HSL5.out.old hB6)
  have HSX := Lib.hid hsX
  clear hoX hB6 hsX HN5 HS5
  go_wp2_with fail
  refine (kspan_any _ _ _).mono ?_
  rintro e w7 ⟨rfl, hB7⟩
  have HB7 := Lib.hid (HB6.out.trans (hB7.mono HB6.out.size))
  have HSR7 := Lib.hid (HSR6.out.old hB7)
  have HSL7 := Lib.hid (HSL6.out.old hB7)
  have HSX7 := Lib.hid (HSX.out.old hB7)
  clear hB7
  go_wp2_with fail
  refine (kspan_any _ _ _).mono ?_
  rintro e w8 ⟨rfl, hB8⟩
  have HB8 := Lib.hid (HB7.out.trans (hB8.mono HB7.out.size))
  have HSR8 := Lib.hid (HSR7.out.old hB8)
  have HSL8 := Lib.hid (HSL7.out.old hB8)
  have HSX8 := Lib.hid (HSX7.out.old hB8)
  clear hB8
  go_wp2_with fail
  refine (kspan_any _ _ _).mono ?_
  rintro e w9 ⟨rfl, hB9⟩
  have hb9 := hB9.alloc hB9.size (.cells ([⟨0, 0⟩, ⟨20, 20⟩, ⟨0, 0⟩, ⟨0, 0⟩, ⟨0, 30⟩, ⟨0, 30⟩].flatMap encR).toArray 50)
  have HB9 := Lib.hid (HB8.out.trans (hb9.mono HB8.out.size))
  have HSR9 := Lib.hid (HSR8.out.old hb9)
  have HSL9 := Lib.hid (HSL8.out.old hb9)
  have HSX9 := Lib.hid (HSX8.out.old hb9)
  have HSQ9 := Lib.hid (Sl.new encR_len w9 [⟨0, 0⟩, ⟨20, 20⟩, ⟨0, 0⟩, ⟨0, 0⟩, ⟨0, 30⟩, ⟨0, 30⟩] 50 _ rfl)
  clear hB9 hb9
  go_wp2_with fail
  refine (sameSpans_any bR w9.heap.size 6 6 cR 6 AR (some ⟨w9.heap.size, 0, none⟩) _ [⟨0, 0⟩, ⟨20, 20⟩, ⟨0, 0⟩, ⟨0, 0⟩, ⟨0, 30⟩, ⟨0, 30⟩] _ HSR9.out HSQ9.out (by omega)).mono ?_
  rintro e w10 ⟨rfl, hB10⟩
  have hb10 := hB10.alloc hB10.size (.cells #[.int .i64 1, .int .i64 2, .int .i64 4, .int .i64 5] 3)
  have HB10 := Lib.hid (HB9.out.trans (hb10.mono HB9.out.size))
  have HSL10 := Lib.hid (HSL9.out.old hb10)
  have HSX10 := Lib.hid (HSX9.out.old hb10)
  have HSQ10 := Lib.hid (Sl.newI w10 [1, 2, 4, 5] 3)
  clear hB10 hb10
  rw [decide_eq_true (by rfl : [⟨0, 0⟩, ⟨20, 20⟩, ⟨0, 0⟩, ⟨0, 0⟩, ⟨0, 30⟩, ⟨0, 30⟩] = ([⟨0, 0⟩, ⟨20, 20⟩, ⟨0, 0⟩, ⟨0, 0⟩, ⟨0, 30⟩, ⟨0, 30⟩] : List Span))]
  go_wp2_with fail
  refine (sameInts_any bL w10.heap.size 4 4 cL 4 AL (some ⟨w10.heap.size, 0, none⟩) _ [1, 2, 4, 5] _ HSL10.out HSQ10.out (by omega)).mono ?_
  rintro e w11 ⟨rfl, hB11⟩
  have hb11 := hB11.alloc hB11.size (.cells #[.int .i64 0, .int .i64 1] 3)
  have HB11 := Lib.hid (HB10.out.trans (hb11.mono HB10.out.size))
  have HSX11 := Lib.hid (HSX10.out.old hb11)
  have HSQ11 := Lib.hid (Sl.newI w11 [0, 1] 3)
  clear hB11 hb11
  rw [decide_eq_true (by rfl : [1, 2, 4, 5] = ([1, 2, 4, 5] : List Int))]
  go_wp2_with fail
  refine (sameInts_any bX w11.heap.size 2 2 cX 2 AX (some ⟨w11.heap.size, 0, none⟩) _ [0, 1] _ HSX11.out HSQ11.out (by omega)).mono ?_
  rintro e w12 ⟨rfl, hB12⟩
  have HB12 := Lib.hid (HB11.out.trans (hB12.mono HB11.out.size))
  clear hB12
  rw [decide_eq_true (by rfl : [0, 1] = ([0, 1] : List Int))]
  go_wp2_with fail
  go_ret
  exact ⟨rfl, HB12.out⟩
end Go.Proofs.YtkphgdkjjklajaaGreatDoor
