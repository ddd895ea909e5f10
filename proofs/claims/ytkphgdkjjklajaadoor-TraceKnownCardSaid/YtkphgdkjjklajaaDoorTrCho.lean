/-
  What appends onto a row leave: the cells of all other blocks, and the row's own first cells. A range over a function that hands out what lies in memory: each round knows what it holds; rounds may return. trace.choices: the iterator over all lists of some numbers below n, in order.
-/
import Derived.Test.YtkphgdkjjklajaaDoorTrSet
import Derived.Test.YtkphgdkjjklajaaDoorTrArr
import Derived.Maps.AppendAt
import Derived.Test.YtkphgdkjjklajaaDoorGoOn
import Derived.Test.YtkphgdkjjklajaaDoorTrHol
import Derived.OwnWalkIn
import Derived.TacticsInMore
import Derived.LoopNIn
import Derived.LoopIn
set_option linter.unusedVariables false
set_option linter.unusedSimpArgs false
namespace Go.Proofs.YtkphgdkjjklajaaDoor
open Go.RowKit Go.Shelf

/-- every block of cells lies as it lay -/
structure Ks (W W' : World) : Prop where
  size : W.heap.size ≤ W'.heap.size
  all : ∀ (k : Nat) (cs : Array Value) (t : TypeId) (f : Nat × Nat), W.heap[k]? = some (.cells cs t f) → W'.heap[k]? = some (.cells cs t f)
theorem Ks.refl (W : World) : Ks W W := ⟨Nat.le_refl _, fun _ _ _ _ h => h⟩
theorem Ks.trans {A B C : World} (h : Ks A B) (k : Ks B C) : Ks A C := ⟨Nat.le_trans h.size k.size, fun i cs t f hi => k.all i cs t f (h.all i cs t f hi)⟩
theorem Ks.of_below {A B : World} (h : Below A.heap.size A B) : Ks A B := ⟨h.size, fun i _ _ _ hi => (h.block i (Array.getElem?_eq_some_iff.1 hi).1).trans hi⟩
theorem Ks.blk {W W' : World} {g : Nat} {t : TypeId} {cs : Array Value} (h : Ks W W') (hb : Blk W g t cs) : Blk W' g t cs := h.all _ _ _ _ hb

/-- all cells lie as they lay, but those of block g from its n-th on -/
structure Kq (g : Option Nat) (n : Nat) (W W' : World) : Prop where
  size : W.heap.size ≤ W'.heap.size
  other : ∀ (k : Nat) (cs : Array Value) (t : TypeId) (f : Nat × Nat), W.heap[k]? = some (.cells cs t f) → some k ≠ g → W'.heap[k]? = some (.cells cs t f)
  own : ∀ (k : Nat) (cs : Array Value) (t : TypeId) (f : Nat × Nat), W.heap[k]? = some (.cells cs t f) → some k = g → ∃ cs', W'.heap[k]? = some (.cells cs' t f) ∧ cs'.size = cs.size ∧ cs'.toList.take n = cs.toList.take n
theorem Ks.toKq {W W' : World} (h : Ks W W') (g : Option Nat) (n : Nat) : Kq g n W W' := ⟨h.size, fun k cs t f hk _ => h.all k cs t f hk, fun k cs t f hk _ => ⟨cs, h.all k cs t f hk, rfl, rfl⟩⟩
theorem Kq.refl (g : Option Nat) (n : Nat) (W : World) : Kq g n W W := (Ks.refl W).toKq g n
theorem Kq.trans {g : Option Nat} {n : Nat} {A B C : World} (h : Kq g n A B) (k : Kq g n B C) : Kq g n A C :=
  ⟨Nat.le_trans h.size k.size, fun i cs t f hi hn => k.other i cs t f (h.other i cs t f hi hn) hn, fun i cs t f hi hn => by
    obtain ⟨c1, h1, h2, h3⟩ := h.own i cs t f hi hn
    obtain ⟨c2, k1, k2, k3⟩ := k.own i c1 t f h1 hn
    exact ⟨c2, k1, k2.trans h2, k3.trans h3⟩⟩
theorem Kq.blk {g0 : Option Nat} {n : Nat} {W W' : World} {g : Nat} {t : TypeId} {cs : Array Value} (h : Kq g0 n W W') (hb : Blk W g t cs) (hn : some g ≠ g0) : Blk W' g t cs := h.other _ _ _ _ hb hn
theorem Kq.row {W W' : World} {base : Nat} {e : TypeId} {v : Value} {n : Nat} {xs : List Value} (h : Kq v.ownBlock n W W') (ho : W.ownsRow base e 1 v n xs) : W'.ownsRow base e 1 v n xs := by
  refine ⟨ho.1, ?_⟩
  rcases ho.2 with hn | ⟨g, cap, cur, rfl, hb, hg, h1, h2, h3, h4⟩
  · exact .inl hn
  · obtain ⟨cs', k1, k2, k3⟩ := h.own g cur e (0, 0) hg rfl
    exact .inr ⟨g, cap, cs', rfl, hb, k1, h1, h2, by rw [k2, h3], by rw [Nat.mul_one] at h4 ⊢; rw [k3, h4]⟩
theorem Kq.none {W W' : World} {n : Nat} (h : Kq none n W W') : Ks W W' := ⟨h.size, fun k cs t f hk => h.other k cs t f hk (by simp)⟩

/-- an append of one number onto a row of one's own -/
theorem run_appendK (w : World) (base : Nat) (ty : TypeId) (v : Value) (n : Nat) (xs : List Value) (hown : w.ownsRow base 3 1 v n xs) (a : Addr) (c : Nat) (x : Int) (hx : w.cell? a = some (.int .i64 x)) (hn : n ≤ 1000000) (hbase : base ≤ w.heap.size) :
    ∃ A' c' w', (Builtin.append_ #[22, 22] ty #[v, .slice (some a) 1 c]).run Tryd.prog w = .ok (.slice A' (n + 1) c') w' ∧ w'.ownsRow base 3 1 (.slice A' (n + 1) c') (n + 1) (xs ++ [.int .i64 x]) ∧ w.grownBy w' v.ownBlock ∧
      (∀ w2, Kq (Value.ownBlock (.slice A' (n + 1) c')) (n + 1) w' w2 → Kq v.ownBlock n w w2) := by
  obtain ⟨i0, hi, iz0, iz1, iz2⟩ := info_parts info_int
  have hnews : ∀ j u, [Value.int .i64 x][j]? = some u → w.cell? (a.add j) = some u := by
    intro j u hu
    rcases j with _ | j
    · have e : a.add 0 = a := by unfold Addr.add; split <;> simp_all
      rw [e, hx]; simpa using hu
    · simp at hu
  have hone : ∀ u ∈ [Value.int .i64 x], u.oneCell' = true := by simp [Value.oneCell']
  have hfresh : ∀ (cs : Array Value) (w2 : World), Kq (some w.heap.size) (n + 1) (w.drew.alloc (.cells cs 3)) w2 → Ks w w2 := fun cs w2 h =>
    ⟨by have := h.size; simp at this; omega, fun k cs' t f hk => h.other k cs' t f ((Below.heap_alloc w.drew _ k (Array.getElem?_eq_some_iff.1 hk).1).trans hk) (fun e => by injection e with e; have := (Array.getElem?_eq_some_iff.1 hk).1; omega)⟩
  have hgrow : ∀ (cs : Array Value) (row : Option Nat), w.grownBy (w.drew.alloc (.cells cs 3)) row := fun cs row => ⟨rfl, rfl, rfl, by simp, fun k hk _ => Below.heap_alloc w.drew _ k hk⟩
  have hge : ∀ old, n + 1 ≤ grownCap w (n + 1) old 3 := fun old => grownCap_ge w (n + 1) old _
  have hlem : ∀ old, grownCap w (n + 1) old 3 ≤ maxLen := fun old => grownCap_le_maxLen w (n + 1) old _ (by unfold maxLen; omega)
  rcases hown.2 with ⟨rfl, rfl⟩ | ⟨g, cap, cur, rfl, hbg, hg, hnc, hcm, hcs, htake⟩
  · obtain rfl : xs = [] := List.eq_nil_of_length_eq_zero (by simpa using hown.1)
    have hr := run_append_nil (P := Tryd.prog) w 22 ty 3 i0 _ Tryd.underlying22 hi iz0 a 1 c [.int .i64 x] (by rw [iz1]; rfl) hnews (by omega) (by omega) (by rw [iz2]; omega)
    refine ⟨_, _, _, hr, ⟨rfl, .inr ⟨w.heap.size, _, _, rfl, hbase, Blk.new w.drew 3 _, hge 0, hlem 0, ?_, ?_⟩⟩, hgrow _ _, fun w2 h => (hfresh _ w2 h).toKq _ _⟩
    · have := hge 0
      simp only [Nat.zero_add] at this ⊢
      simp [size_zeroCells, Value.cells]; omega
    · simp
  · by_cases hroom : n + 1 ≤ cap
    · have hr := run_append_room (P := Tryd.prog) w 22 ty 3 i0 Tryd.underlying22 hi g n cap cur hg a 1 c [.int .i64 x] (by rw [iz1]; rfl) hnews hone hroom (by rw [iz1, hcs]; simp; omega)
      have hlen := hown.1
      rw [iz1] at hr
      refine ⟨_, _, _, hr, ⟨by simp [hlen], .inr ⟨g, cap, _, rfl, hbg, setRow_heap w g cur _ 3 _ hg, hroom, hcm, ?_, ?_⟩⟩, grown_setRow _ _ _, fun w2 h => ?_⟩
      · simp only [List.size_toArray, List.length_append, List.length_take, List.length_drop, Array.length_toList, List.length_singleton]; omega
      · rw [htake, ← show (xs ++ [Value.int .i64 x]).length = (n + 1) * 1 by simp [hlen]]; exact List.take_left
      · refine ⟨by have := h.size; simpa [World.setRow] using this, fun k cs t f hk hne => ?_, fun k cs t f hk he => ?_⟩
        · exact h.other k cs t f ((setRow_other w g k _ (fun e => hne (by rw [e]; rfl))).trans hk) hne
        · have he' : k = g := by simpa [Value.ownBlock] using he
          subst he'
          rw [hg] at hk
          injection hk with hk
          injection hk with k1 k2 k3
          subst k1; subst k2; subst k3
          obtain ⟨c2, m1, m2, m3⟩ := h.own k _ _ _ (setRow_heap w k cur _ 3 _ hg) rfl
          refine ⟨c2, m1, ?_, ?_⟩
          · rw [m2]; simp; omega
          · have e := congrArg (List.take n) m3
            rw [List.take_take, List.take_take, Nat.min_eq_left (by omega)] at e
            rw [e]
            rw [Nat.mul_one] at htake
            simp [htake, hlen]
    · have holds : ∀ j u, xs[j]? = some u → w.cell? ((⟨g, 0, none⟩ : Addr).add j) = some u := hown.cells (g := g) rfl
      have hr := run_append_grow (P := Tryd.prog) w 22 ty 3 i0 _ Tryd.underlying22 hi iz0 ⟨g, 0, none⟩ n cap xs (by rw [iz1]; exact hown.1) holds a 1 c [.int .i64 x] (by rw [iz1]; rfl) hnews (by omega) (by omega) (growslice_fits (by omega) (by rw [iz2]; omega))
      have hlen := hown.1
      refine ⟨_, _, _, hr, ⟨by simp [hlen], .inr ⟨w.heap.size, _, _, rfl, hbase, Blk.new w.drew 3 _, hge cap, hlem cap, ?_, ?_⟩⟩, hgrow _ _, fun w2 h => (hfresh _ w2 h).toKq _ _⟩
      · have := hge cap
        simp [size_zeroCells, Value.cells, hlen]; omega
      · have hl2 : xs.length = n := by simpa using hlen
        simp [List.take_append, hl2, List.take_of_length_le (show xs.length ≤ n + 1 by omega)]
theorem wp_appendK {o : Oper} {a : Act} {w : World} {K : Act → World → Prop} {Q : Exit → Act → World → Prop} (s x : Operand)
    (ho : o.op = .call { callee := .builtin .append, args := #[s, x], argTypes := #[22, 22] })
    (base : Nat) (v : Value) (n : Nat) (xs : List Value) (hs : a.eval s = v) (hown : w.ownsRow base 3 1 v n xs) (p : Addr) (c : Nat) (y : Int) (hx : a.eval x = .slice (some p) 1 c) (hy : w.cell? p = some (.int .i64 y))
    (hn : n ≤ 1000000) (hbase : base ≤ w.heap.size)
    (h : ∀ A' c' w', w'.ownsRow base 3 1 (.slice A' (n + 1) c') (n + 1) (xs ++ [.int .i64 y]) → w.grownBy w' v.ownBlock → (∀ w2, Kq (Value.ownBlock (.slice A' (n + 1) c')) (n + 1) w' w2 → Kq v.ownBlock n w w2) →
      K (a.put o.dst (.slice A' (n + 1) c')) w') : o.wp Tryd.prog a w K Q := by
  obtain ⟨A', c', w', hrun, h2, h3, h4⟩ := run_appendK w base o.type v n xs hown p c y hy hn hbase
  unfold Oper.wp execOp
  simp only [ho, resolve, invoke, builtin, Sem.run_bind, Sem.run_pure, Result.andThen_ok, List.map_toArray, List.map_cons, List.map_nil, hs, hx, hrun]
  exact h A' c' w' h2 h3 h4
end Go.Proofs.YtkphgdkjjklajaaDoor

namespace Go.Proofs.YtkphgdkjjklajaaDoor
open Go.RowKit

/-- what lies when a round has returned: the iterator may lay blocks -/
def AbidesR (Jx : World → Prop) : Prop := ∀ X Y, Jx X → X.grownBy Y none → Jx Y
/-- .. and the law may write its records -/
def AbidesX (B : Nat) (Ix : World → Prop) : Prop := ∀ X Y row, Ix X → X.grownBy Y row → (∀ r, row = some r → B ≤ r ∧ ∃ o, X.heap[r]? = some o ∧ isRec o = true) → Ix Y

/-- the iterator hands out values of the contents xs, one by one; G says what lies where a value points -/
def Gives {α β : Type} (F : Fence) (n : Nat) (P : Program) (g : Nat) (lb : Array Value) (encs : α → Array Value) (con : α → β) (G : α → World → Prop) (Kp : World → World → Prop) (xs : List β) (w : World) : Prop :=
  ∀ (l : Nat) (J : List β → World → Prop) (Jx : World → Prop) (W : World), Below w.heap.size w W → Abides2 W.heap.size J → AbidesR Jx →
    (∀ pre x rest W1, xs = pre ++ con x :: rest → G x W1 → J pre W1 → YieldAt F (n - 1) P l (encs x) W1 fun e W' => (e = .returned (.bool true) ∧ J (pre ++ [con x]) W' ∧ Kp W1 W') ∨ (e = .returned (.bool false) ∧ Jx W')) →
    J [] W → CallsIn F n P g (#[.func (.yield l) #[] #[]] ++ lb) W fun e W' => (∃ v, e = .returned v) ∧ (J xs W' ∨ Jx W')

def gvPost {β : Type} (Kp : World → World → Prop) (I : List β → World → Prop) (Ix : World → Prop) (xs : List β) (W : World) : Exit → Act → World → Prop
  | .normal, _, W' => KeepsRec W W' ∧ Kp W W' ∧ I xs W'
  | .ret, _, W' => KeepsRec W W' ∧ Ix W'
  | _, _, _ => False

variable {F : Fence} {n : Nat} {P : Program}

theorem wpIn_range_gv {α β : Type} {g : Operand} {ps : Array Tmp} {assign body : Code} {Q : Exit → Act → World → Prop} {a : Act} {w : World}
    (hro : F.round = none) (h1 : 1 ≤ n) {gf : Nat} {lb : Array Value} (hg : a.eval g = .func (.func gf) #[] lb) (hFg : F.fn gf) (eg : ∀ args w, (callFunc gf args).run P w = .ok (.enter gf args) w)
    {encs : α → Array Value} {con : α → β} {G : α → World → Prop} {Kp : World → World → Prop} {xs : List β} {w0 : World} (hseq : Gives F (n - 1) P gf lb encs con G Kp xs w0)
    (hKt : ∀ {A B C : World}, Kp A B → Kp B C → Kp A C) (hKb : ∀ (W : World) (l : Nat) (o o' : Obj), w.heap.size ≤ l → W.heap[l]? = some o → isRec o = true → Kp W (W.putObj l o'))
    (hG : ∀ x (A B : World), Kp A B → G x A → G x B)
    (hb0 : Below w0.heap.size w0 w) (hps : ∀ x, (encs x).size = ps.size)
    (I : List β → World → Prop) (Ix : World → Prop) (hI : Abides3 w.heap.size I) (hIx : AbidesX w.heap.size Ix) (h0 : I [] w) (Ax : α → Act → World → Prop) (hAx : ∀ x a' (W : World) (l : Nat) (o o' : Obj), Ax x a' W → w.heap.size ≤ l → W.heap[l]? = some o → isRec o = true → Ax x a' (W.putObj l o'))
    (hassign : ∀ (l : Nat) (pre : List β) (x : α) (W : World) (K : Act → World → Prop), I pre W → (∀ a' W', KeepsRec W W' → Kp W W' → I pre W' → Ax x a' W' → K a' W') →
      assign.wpIn (F.inRound l) (n - 1 - 1) P (Exit.then K (fun _ _ _ => False)) { tmps := (ps.zip (encs x)).foldl (fun t (p, v) => t.setIfInBounds p v) a.tmps, defers := [] } W)
    (hbody : ∀ (l : Nat) (pre : List β) (x : α) (rest : List β) (a' : Act) (W : World), xs = pre ++ con x :: rest → G x W → I pre W → Ax x a' W → body.wpIn (F.inRound l) (n - 1 - 1) P (gvPost Kp I Ix (pre ++ [con x]) W) a' W)
    (hdone : ∀ (D : Nat) (W : World), w.heap.size ≤ D → I xs W → W.heap[D]? = some (.deferred (some [])) → Q .normal { a with defers := { target := .collected D, args := #[] } :: a.defers } W)
    (hstop : ∀ (D : Nat) (W : World), w.heap.size ≤ D → Ix W → W.heap[D]? = some (.deferred (some [])) → Code.ret.wpIn F n P Q { a with defers := { target := .collected D, args := #[] } :: a.defers } W) :
    (Code.rangeFunc g ps assign body).wpIn F n P Q a w := by
  refine wpIn_rangeFunc fun fn hfn => ?_
  rw [hro]
  let rc : LoopState → Option Code → Loop := fun st pe => { state := st, pending := pe, fn := fn, tmps := a.tmps, params := ps, assign := assign, body := body, defers := w.heap.size }
  let w1 := (w.alloc (.deferred (some []))).alloc (.loop (rc .ready none))
  have hD0 : w1.heap[w.heap.size]? = some (.deferred (some [])) := (Below.heap_alloc _ _ _ (by simp)).trans (World.alloc_heap_new w _)
  have hR0 : w1.heap[w.heap.size + 1]? = some (.loop (rc .ready none)) := by
    have := World.alloc_heap_new (w.alloc (.deferred (some []))) (.loop (rc .ready none))
    rwa [World.size_alloc] at this
  have hgr : ∀ {X : World} {o : Obj} (o' : Obj) {r : Nat} {pre : List β}, X.heap[r]? = some o → soft o = false → w.heap.size ≤ r → I pre X → I pre (X.putObj r o') := fun {X o} o' {r pre} h1 h2 h3 h4 =>
    hI pre _ _ (some r) h4 (grownBy_putObj' X r o') fun k e => by cases e; exact ⟨h3, o, h1, h2⟩
  have hgx : ∀ {X : World} {o : Obj} (o' : Obj) {r : Nat}, X.heap[r]? = some o → isRec o = true → w.heap.size ≤ r → Ix X → Ix (X.putObj r o') := fun {X o} o' {r} h1 h2 h3 h4 =>
    hIx _ _ (some r) h4 (grownBy_putObj' X r o') fun k e => by cases e; exact ⟨h3, o, h1, h2⟩
  refine ⟨w.heap.size + 1, [{ target := .collected w.heap.size, args := #[] }], w1, { target := .fn (.func gf) lb, args := #[.func (.yield (w.heap.size + 1)) #[] #[]] }, w1, gf,
    #[.func (.yield (w.heap.size + 1)) #[] #[]] ++ lb, w1, run_enterLoop_outer _ _ _ _ _, ?_, ?_, ?_, fun _ => h1, ?_⟩
  · simp only [resolve, hg]
    simp [go_sem]
  · intro f hf
    simp [Target.leads] at hf
    subst hf; exact hFg
  · simp [invoke, go_sem, eg]
  refine (hseq (w.heap.size + 1) (fun pre W => I pre W ∧ W.heap[w.heap.size + 1]? = some (.loop (rc .ready none)) ∧ W.heap[w.heap.size]? = some (.deferred (some [])) ∧ w.heap.size + 2 ≤ W.heap.size)
    (fun W => Ix W ∧ W.heap[w.heap.size + 1]? = some (.loop (rc .done (some .ret))) ∧ W.heap[w.heap.size]? = some (.deferred (some [])) ∧ w.heap.size + 2 ≤ W.heap.size) w1
    (hb0.trans ((((Below.refl _ w).alloc (Nat.le_refl _) _).alloc (by simp) _).mono hb0.size)) ?_ ?_ ?_ ⟨?_, hR0, hD0, by simp [w1]⟩).mono ?_
  · rintro pre X Y row ⟨k1, k2, k3, k4⟩ hgrow hrow
    have hw1 : w1.heap.size = w.heap.size + 2 := by simp [w1]
    have hne : ∀ k, k < w.heap.size + 2 → some k ≠ row := fun k hk e => by
      have := (hrow k e.symm).1; omega
    refine ⟨hI pre _ _ row k1 hgrow fun r e => ?_, (hgrow.block _ (by omega) (hne _ (by omega))).trans k2, (hgrow.block _ (by omega) (hne _ (by omega))).trans k3, Nat.le_trans k4 hgrow.size⟩
    obtain ⟨h2, cs, t, f, h3⟩ := hrow r e
    exact ⟨by omega, _, h3, rfl⟩
  · rintro X Y hx hgrow
    obtain ⟨k1, k2, k3, k4⟩ := hx
    exact ⟨hIx _ _ none k1 hgrow (fun r e => (by cases e)), (hgrow.block _ (by omega) (by simp)).trans k2, (hgrow.block _ (by omega) (by simp)).trans k3, Nat.le_trans k4 hgrow.size⟩
  · -- a round
    rintro pre x rest W hxs hgx0 ⟨k1, k2, k3, k4⟩
    refine ⟨fn, _, assign, body, run_yield k2 (hps x), roundIn_of_wpIn hfn (hassign _ pre x W _ k1 ?_)⟩
    rintro a' Wa hka hkp hia hax
    have l1 := hka.same _ _ k2 rfl
    have l2 := hka.same _ _ k3 rfl
    have hlt : w.heap.size + 1 < Wa.heap.size := (Array.getElem?_eq_some_iff.1 l1).1
    refine ⟨_, run_beginRound l1 rfl, ?_⟩
    let Wb := Wa.putObj (w.heap.size + 1) (.loop (rc .busy none))
    have b1 : Wb.heap[w.heap.size + 1]? = some (.loop (rc .busy none)) := World.putObj_heap_same hlt
    have b2 : Wb.heap[w.heap.size]? = some (.deferred (some [])) := (World.putObj_heap_other (by omega)).trans l2
    have kb : Kp Wa Wb := hKb _ _ _ _ (by omega) l1 rfl
    have ib : I pre Wb := hgr _ l1 rfl (by omega) hia
    have ab : Ax x a' Wb := hAx x a' _ _ _ _ hax (by omega) l1 rfl
    refine wpIn_mono (hbody (w.heap.size + 1) pre x rest a' Wb hxs (hG x _ _ (hKt hkp kb) hgx0) ib ab) ?_
    rintro e a3 W3 hp
    cases e with
    | normal =>
      obtain ⟨c1, c2, c3⟩ := hp
      have d1 := c1.same _ _ b1 rfl
      have d2 := c1.same _ _ b2 rfl
      have hlt3 : w.heap.size + 1 < W3.heap.size := (Array.getElem?_eq_some_iff.1 d1).1
      have e1 := run_endRound (P := P) none d1
      refine ⟨_, _, e1, .inl ⟨rfl, ⟨hgr _ d1 rfl (by omega) c3, World.putObj_heap_same hlt3, (World.putObj_heap_other (by omega)).trans d2, by simp; omega⟩, hKt hkp (hKt (hKt kb c2) (hKb _ _ _ _ (by omega) d1 rfl))⟩⟩
    | ret =>
      obtain ⟨c1, c3⟩ := hp
      have d1 := c1.same _ _ b1 rfl
      have d2 := c1.same _ _ b2 rfl
      have hlt3 : w.heap.size + 1 < W3.heap.size := (Array.getElem?_eq_some_iff.1 d1).1
      have e1 := run_endRound (P := P) (some .ret) d1
      refine ⟨_, _, e1, .inr ⟨rfl, hgx _ d1 rfl (by omega) c3, World.putObj_heap_same hlt3, (World.putObj_heap_other (by omega)).trans d2, by simp; omega⟩⟩
    | exit _ => exact hp.elim
    | goto _ => exact hp.elim
    | panic _ => exact hp.elim
    | outgrown => exact hp.elim
  · exact hI [] _ _ none (hI [] _ _ none h0 (World.grownBy_alloc w _ none) fun _ e => by cases e) (World.grownBy_alloc _ _ none) fun _ e => by cases e
  · rintro e W2 ⟨⟨v, rfl⟩, (⟨k1, k2, k3, k4⟩ | ⟨k1, k2, k3, k4⟩)⟩
    · exact ⟨none, _, run_endLoop (P := P) k2 (by simp [rc]), hdone _ _ (Nat.le_refl _) (hgr _ k2 rfl (by omega) k1) ((World.putObj_heap_other (by omega)).trans k3)⟩
    · exact ⟨some .ret, _, run_endLoop (P := P) k2 (by simp [rc]), hstop _ _ (Nat.le_refl _) (hgx _ k2 rfl (by omega) k1) ((World.putObj_heap_other (by omega)).trans k3)⟩
end Go.Proofs.YtkphgdkjjklajaaDoor

namespace Go.Proofs.YtkphgdkjjklajaaDoor
open Go.RowKit Go.Shelf Go.Sort
attribute [local go_sem] Oper.semAt_some

set_option maxRecDepth 100000 in
set_option maxHeartbeats 1000000 in
theorem clone_nil (w : World) : Calls Tryd.prog 22 #[.slice none 0 0] w fun e w' => e = .returned (.slice none 0 0) ∧ w' = w := by
  have en := fun w : World => Lib.run_eql_slice_nil (P := Tryd.prog) w 22 3 none 0 0 0 0 Tryd.underlying22
  go_enter Tryd.func22, Tryd.ntmps22
  go_wp2
  go_ret
  exact ⟨rfl, rfl⟩
/-- a copy of a row of one's own -/
theorem clone_row (base n c : Nat) (A : Option Addr) (l : List Int) (hn : n ≤ 1000000) (h0 : n = 0 → A = none ∧ c = 0) (w : World) (hl : w.ownsRow base 3 1 (.slice A n c) n (l.flatMap encI)) :
    Calls Tryd.prog 22 #[.slice A n c] w fun e w' => ∃ A' c', e = .returned (.slice A' n c') ∧ w'.ownsRow w.heap.size 3 1 (.slice A' n c') n (l.flatMap encI) ∧ Below w.heap.size w w' := by
  have hlen : n = l.length := by have := hl.1; rw [flat_len encI_len] at this; omega
  rcases Nat.eq_zero_or_pos n with hz | hz
  · obtain ⟨rfl, rfl⟩ := h0 hz
    subst hz
    obtain rfl : l = [] := List.length_eq_zero_iff.1 hlen.symm
    refine (clone_nil w).mono ?_
    rintro e w' ⟨rfl, rfl⟩
    exact ⟨none, 0, rfl, World.ownsRow_nil _ _ _ _, Below.refl _ _⟩
  · obtain ⟨b, _, hs⟩ := Sl.of_own (enc := encI) encI_len hlen hl
    refine (cloneI_any b n c A l hn hz w hs).mono ?_
    rintro e w' ⟨g, c', rfl, h1, h2⟩
    exact ⟨_, c', rfl, h1, h2⟩

/-- a list that is handed out: its address, length, room, content -/
structure HdL where
  A : Option Addr
  n : Nat
  c : Nat
  l : List Int
/-- as it lies -/
def giveL (n₀ : Nat) (x : HdL) (W : World) : Prop := W.ownsRow n₀ 3 1 (.slice x.A x.n x.c) x.n (x.l.flatMap encI)
theorem giveL_ks (n₀ : Nat) (x : HdL) (A B : World) (h : Ks A B) (hg : giveL n₀ x A) : giveL n₀ x B := (h.toKq _ _).row hg

theorem choT_succ (n many : Nat) (from_ : Int) : choT n (many + 1) from_ = ((rg n).filter fun i => decide (from_ ≤ i)).flatMap fun i => (choT n many (i + 1)).map (i :: ·) := rfl
/-- from the k-th on -/
theorem choT_step (n many k : Nat) (hk : k < n) : choT n (many + 1) k = (choT n many (k + 1)).map ((k : Int) :: ·) ++ choT n (many + 1) (k + 1 : Nat) := by
  have e : ((rg n).filter fun i => decide ((k : Int) ≤ i)) = (k : Int) :: ((rg n).filter fun i => decide (((k + 1 : Nat) : Int) ≤ i)) := by
    have h1 : ((rg n).filter fun i => decide ((k : Int) ≤ i)).Pairwise (· < ·) := (rg_pairwise n).filter _
    have h2 : ((k : Int) :: ((rg n).filter fun i => decide (((k + 1 : Nat) : Int) ≤ i))).Pairwise (· < ·) := by
      rw [List.pairwise_cons]
      refine ⟨fun a ha => ?_, (rg_pairwise n).filter _⟩
      have := (List.mem_filter.1 ha).2
      simp only [decide_eq_true_eq] at this
      omega
    refine sorted_ext h1 h2 fun x => ?_
    simp only [List.mem_filter, List.mem_cons, mem_rg, decide_eq_true_eq]
    omega
  rw [choT_succ, e, List.flatMap_cons, choT_succ]
theorem choT_end (n many : Nat) : choT n (many + 1) n = [] := by
  rw [choT_succ, show ((rg n).filter fun i => decide ((n : Int) ≤ i)) = [] from List.filter_eq_nil_iff.2 fun x hx => by have := (mem_rg.1 hx).2; simp; omega]
  rfl

theorem wpIn_append1 {F : Fence} {n : Nat} {P : Program} {o : Oper} {a : Act} {w w' : World} {K : Act → World → Prop} {Q : Exit → Act → World → Prop} (hro : F.round = none) (s x : Operand) (t : TypeId)
    (ho : o.op = .call { callee := .builtin .append, args := #[s, x], argTypes := #[t, t] }) {vs vx v : Value} (hs : a.eval s = vs) (hx : a.eval x = vx)
    (hr : (Builtin.append_ #[t, t] o.type #[vs, vx]).run P w = .ok v w') (ha : o.about P w a.eval = none) (h : K (a.put o.dst v) w') : o.wpIn F n P a w K Q := by
  refine ⟨fun f hf => (by rw [ha] at hf; cases hf), ?_⟩
  · rw [hro]
    unfold Oper.semAt execOp
    simp only [ho, resolve, invoke, builtin, Sem.run_bind, Sem.run_pure, Result.andThen_ok, List.map_toArray, List.map_cons, List.map_nil, hs, hx, hr]
    exact h

/-- what the walk has captured -/
structure ChEnv (W : World) (Bm Bt Bn Bp L many n : Nat) : Prop where
  m : Blk W Bm 3 #[.int .i64 many]
  y : Blk W Bt 95 #[.func (.yield L) #[] #[]]
  n : Blk W Bn 3 #[.int .i64 n]
  p : Blk W Bp 96 #[.func (.func 46) #[] #[.pointer (some ⟨Bm, 0, none⟩), .pointer (some ⟨Bt, 0, none⟩), .pointer (some ⟨Bn, 0, none⟩), .pointer (some ⟨Bp, 0, none⟩)]]
theorem ChEnv.kq {W W' : World} {Bm Bt Bn Bp L many n : Nat} (h : ChEnv W Bm Bt Bn Bp L many n) {g : Option Nat} {k : Nat} (hk : Kq g k W W') (h1 : some Bm ≠ g) (h2 : some Bt ≠ g) (h3 : some Bn ≠ g) (h4 : some Bp ≠ g) : ChEnv W' Bm Bt Bn Bp L many n :=
  ⟨hk.blk h.m h1, hk.blk h.y h2, hk.blk h.n h3, hk.blk h.p h4⟩
theorem ChEnv.ks {W W' : World} {Bm Bt Bn Bp L many n : Nat} (h : ChEnv W Bm Bt Bn Bp L many n) (hk : Ks W W') : ChEnv W' Bm Bt Bn Bp L many n := h.kq (hk.toKq none 0) (by simp) (by simp) (by simp) (by simp)

theorem yes_no {e : Ending} {A B : Prop} (h : (e = .returned (.bool true) ∧ A) ∨ (e = .returned (.bool false) ∧ B)) : ∃ bv, e = .returned (.bool bv) ∧ ((bv = true ∧ A) ∨ (bv = false ∧ B)) := by
  rcases h with ⟨h, k⟩ | ⟨h, k⟩
  · exact ⟨true, h, .inl ⟨rfl, k⟩⟩
  · exact ⟨false, h, .inr ⟨rfl, k⟩⟩
def WalkPost (J : List (List Int) → World → Prop) (Jx : World → Prop) (A : Option Addr) (c : Nat) (l : List Int) (ys : List (List Int)) (W : World) (e : Ending) (W' : World) : Prop :=
  (e = .returned (.bool true) ∧ J ys W' ∧ Kq (Value.ownBlock (.slice A l.length c)) l.length W W') ∨ (e = .returned (.bool false) ∧ Jx W')

set_option maxRecDepth 100000 in
set_option maxHeartbeats 2000000 in
theorem walk_in (L base many n Bm Bt Bn Bp : Nat) (h1 : Bm < base) (h2 : Bt < base) (h3 : Bn < base) (h4 : Bp < base) (hn : n ≤ 8) (hmany : many ≤ 8) (J : List (List Int) → World → Prop) (Jx : World → Prop) (xs : List (List Int)) (hJ : Abides2 base J) (hJx : AbidesR Jx)
    (hY : ∀ m pre (x : HdL) rest W1, xs = pre ++ x.l :: rest → giveL base x W1 → J pre W1 → YieldAt Fence.wide m Tryd.prog L #[.slice x.A x.n x.c] W1 fun e W' => (e = .returned (.bool true) ∧ J (pre ++ [x.l]) W' ∧ Ks W1 W') ∨ (e = .returned (.bool false) ∧ Jx W')) :
    ∀ (d m : Nat) (A : Option Addr) (c : Nat) (l : List Int) (from_ : Nat) (pre rest : List (List Int)) (W : World), l.length + d = many → (l.length = 0 → A = none ∧ c = 0) → from_ ≤ n → W.ownsRow base 3 1 (.slice A l.length c) l.length (l.flatMap encI) → ChEnv W Bm Bt Bn Bp L many n → base ≤ W.heap.size →
      xs = pre ++ (choT n d from_).map (l ++ ·) ++ rest → J pre W →
      CallsIn Fence.wide m Tryd.prog 46 #[.slice A l.length c, .int .i64 from_, .pointer (some ⟨Bm, 0, none⟩), .pointer (some ⟨Bt, 0, none⟩), .pointer (some ⟨Bn, 0, none⟩), .pointer (some ⟨Bp, 0, none⟩)] W (WalkPost J Jx A c l (pre ++ (choT n d from_).map (l ++ ·)) W) := by
  intro d
  induction d with
  | zero =>
    intro m A c l from_ pre rest W hd h0 hf hown hE hb hxs hj
    obtain rfl : l.length = many := by omega
    have c0 := hE.m.cell 0
    have c1 := hE.y.cell 0
    have HOWN := Lib.hid hown
    have HE := Lib.hid hE
    have hcl := clone_row base l.length c A l (by omega) h0 W.drew hown
    have HCL := Lib.hid hcl
    have hxs2 : xs = pre ++ l :: rest := by rw [hxs]; simp [choT]
    have hyy : ∀ A' c' w1, w1.ownsRow W.drew.heap.size 3 1 (.slice A' l.length c') l.length (l.flatMap encI) → Below W.drew.heap.size W.drew w1 → YieldAt Fence.wide (m - 1) Tryd.prog L #[.slice A' l.length c'] w1 fun e W' => (e = .returned (.bool true) ∧ J (pre ++ [l]) W' ∧ Ks w1 W') ∨ (e = .returned (.bool false) ∧ Jx W') := fun A' c' w1 ho hbw =>
      hY (m - 1) pre ⟨A', l.length, c', l⟩ rest w1 hxs2 (ownsRow_base ho hb) (hJ pre W w1 none hj ⟨hbw.os, hbw.tape, hbw.output, hbw.size, fun i hi _ => hbw.block i hi⟩ (fun r e => by cases e))
    have HYY := Lib.hid hyy
    have HW := Lib.hid (fun (w1 : World) (hbw : Below W.drew.heap.size W.drew w1) => show w1.cell? ⟨Bt, 0, none⟩ = some (.func (.yield L) #[] #[]) from (Blk.below (w := W.drew) (show Blk W.drew Bt 95 #[.func (.yield L) #[] #[]] from hE.y) hbw (by show Bt < W.heap.size; omega)).cell 0)
    clear hcl hxs2 hyy
    refine callsIn_of_wp Tryd.func46 rfl trivial ?_ rfl
    simp only [Tryd.ntmps46, List.size_toArray, List.length_cons, List.length_nil, Nat.reduceAdd, Nat.reduceSub, Array.replicate_succ, Array.replicate_zero, List.push_toArray, List.append_toArray, List.nil_append, List.cons_append]
    clear hE hown hxs hj hY
    gi_wp2
    gi_region_with (first
      | (refine ⟨trivial, fun h => by simp [Fence.wide] at h, ?_⟩; refine (callsIn_wide.2 HCL.out).mono ?_; rintro e w1 ⟨A', c', rfl, ho1, hb1⟩; have y1 := HW.out w1 hb1; obtain ⟨fn, tmps, assign, body, hy, hR⟩ := HYY.out A' c' w1 ho1 hb1)
      | (refine ⟨fun h => by simp [Fence.wide] at h, ?_⟩; refine hR.mono ?_; rintro e W2 hh; obtain ⟨bv, rfl, hh2⟩ := yes_no hh))
    all_goals
      clear hy hR hh
      have HH2 := Lib.hid hh2
      have HB1 := Lib.hid hb1
      clear hh2 hb1 ho1
      gi_wp2
      go_ret
      have hks : Ks W w1 := ⟨HB1.out.size, (Ks.of_below (A := W.drew) HB1.out).all⟩
      rcases HH2.out with ⟨rfl, k1, k2⟩ | ⟨rfl, k1⟩
      · exact .inl ⟨rfl, by simpa [choT] using k1, (hks.trans k2).toKq _ _⟩
      · exact .inr ⟨rfl, k1⟩
  | succ d ih =>
    intro m A c l from_ pre rest W hd h0 hf hown hE hb hxs hj
    have hlm : ¬ l.length = many := by omega
    have hdl : decide ((l.length : Int) = (many : Int)) = false := by simp; omega
    have c0 := hE.m.cell 0
    have c2 := hE.n.cell 0
    have HOWN := Lib.hid hown
    have HE := Lib.hid hE
    have HXS := Lib.hid hxs
    have HJ0 := Lib.hid hj
    have HIH := Lib.hid ih
    have hgl : ∀ g, Value.ownBlock (.slice A l.length c) = some g → base ≤ g := fun g e => (hown.lt g e).1
    have HGL := Lib.hid hgl
    have hl8 : l.length ≤ 8 := by omega
    rw [callsIn_wide]
    clear hE hown hxs hj hY ih hgl
    go_enter Tryd.func46, Tryd.ntmps46
    go_wp2_with fail
    go_loopw [9] (fun i wr => ∃ (k : Nat) (dn : List (List Int)), from_ ≤ k ∧ k ≤ n ∧ i = .int .i64 k ∧ (choT n (d + 1) from_).map (l ++ ·) = dn ++ (choT n (d + 1) k).map (l ++ ·) ∧ J (pre ++ dn) wr ∧ Kq (Value.ownBlock (.slice A l.length c)) l.length W wr) (fun i _ => n - (intOf i).toNat)
    case atStart => exact ⟨from_, [], Nat.le_refl _, hf, rfl, by simp, by simpa using HJ0.out, Kq.refl _ _ _⟩
    case round =>
      obtain ⟨k, dn, hk0, hk, rfl, hdn, hjk, hkq⟩ := hrel
      have hneg : ∀ b, b < base → some b ≠ Value.ownBlock (.slice A l.length c) := fun b hbb e => by have := HGL.out b e.symm; omega
      have hE := HE.out.kq hkq (hneg _ h1) (hneg _ h2) (hneg _ h3) (hneg _ h4)
      have hown := hkq.row HOWN.out
      have hz := hkq.size
      have d2 := hE.n.cell 0
      have HNEG := Lib.hid hneg
      have HKQ := Lib.hid hkq
      have HDN := Lib.hid hdn
      have HJK := Lib.hid hjk
      have HE3 := Lib.hid hE
      have HW3 := Lib.hid hown
      by_cases hlt : k < n
      · clear hE hown hkq hdn hjk hneg c0 c2
        have hHE : HE3.out.p.cell 0 = HE3.out.p.cell 0 := rfl
        have e0 : wr.drew.cell? ⟨Bp, 0, none⟩ = some (.func (.func 46) #[] #[.pointer (some ⟨Bm, 0, none⟩), .pointer (some ⟨Bt, 0, none⟩), .pointer (some ⟨Bn, 0, none⟩), .pointer (some ⟨Bp, 0, none⟩)]) := HE3.out.p.cell 0
        have e1 : (wr.drew.alloc (.cells #[.int .i64 (k : Int)] 3)).cell? ⟨Bp, 0, none⟩ = some (.func (.func 46) #[] #[.pointer (some ⟨Bm, 0, none⟩), .pointer (some ⟨Bt, 0, none⟩), .pointer (some ⟨Bn, 0, none⟩), .pointer (some ⟨Bp, 0, none⟩)]) := (HE3.out.p.alloc _).cell 0
        have E0 := Lib.hid e0
        have E1 := Lib.hid e1
        have HX := Lib.hid ((Blk.new wr.drew 3 #[.int .i64 (k : Int)]).cell 0)
        have HOD := Lib.hid (show (wr.drew.alloc (.cells #[.int .i64 (k : Int)] 3)).ownsRow base 3 1 (.slice A l.length c) l.length (l.flatMap encI) from World.ownsRow.alloc (w := wr.drew) HW3.out _)
        have HNX := Lib.hid (fun (A1 : Option Addr) (c1 : Nat) (w2 : World) (hown2 : w2.ownsRow base 3 1 (.slice A1 (l.length + 1) c1) (l.length + 1) (l.flatMap encI ++ [.int .i64 (k : Int)])) (hgrow2 : (wr.drew.alloc (.cells #[.int .i64 (k : Int)] 3)).grownBy w2 (Value.ownBlock (.slice A l.length c)))
            (hkq2 : ∀ w3, Kq (Value.ownBlock (.slice A1 (l.length + 1) c1)) (l.length + 1) w2 w3 → Kq (Value.ownBlock (.slice A l.length c)) l.length (wr.drew.alloc (.cells #[.int .i64 (k : Int)] 3)) w3) =>
          have hks1 : Ks wr (wr.drew.alloc (.cells #[.int .i64 (k : Int)] 3)) := ⟨by simp, (Ks.of_below (A := wr.drew) ((Below.refl _ wr.drew).alloc (Nat.le_refl _) _)).all⟩
          have hkq3 : Kq (Value.ownBlock (.slice A l.length c)) l.length wr w2 := (hks1.toKq _ _).trans (hkq2 w2 (Kq.refl _ _ _))
          have hE2 : ChEnv w2 Bm Bt Bn Bp L many n := HE3.out.kq hkq3 (HNEG.out _ h1) (HNEG.out _ h2) (HNEG.out _ h3) (HNEG.out _ h4)
          have hz2 := hkq3.size
          have hja : J (pre ++ dn) (wr.drew.alloc (.cells #[.int .i64 (k : Int)] 3)) := hJ _ wr _ none HJK.out ⟨rfl, rfl, rfl, by simp, fun i hi _ => Below.heap_alloc wr.drew _ i hi⟩ (fun r e => by cases e)
          have hj1 : J (pre ++ dn) w2 := hJ _ _ _ (Value.ownBlock (.slice A l.length c)) hja hgrow2 (fun r e => by
            obtain ⟨q1, q2⟩ := HOD.out.lt r e
            refine ⟨q1, ?_⟩
            rcases HOD.out.2 with ⟨hv, _⟩ | ⟨g, cap, cur, hv, _, hg, _⟩
            · rw [hv] at e; cases e
            · rw [hv] at e; injection e with e; subst e; exact ⟨_, _, _, hg⟩)
          have hle : (l ++ [(k : Int)]).length = l.length + 1 := by simp
          have hcall := HIH.out (0 : Nat) A1 c1 (l ++ [(k : Int)]) (k + 1) (pre ++ dn) ((choT n (d + 1) (k + 1 : Nat)).map (l ++ ·) ++ rest) w2 (by rw [hle]; omega) (fun h => by rw [hle] at h; omega) (by omega)
            (by rw [hle, List.flatMap_append]; exact hown2) hE2 (by omega) (by rw [HXS.out, HDN.out, choT_step n d k hlt]; simp [List.map_map, Function.comp_def]) hj1
          show w2.cell? ⟨Bp, 0, none⟩ = some (.func (.func 46) #[] #[.pointer (some ⟨Bm, 0, none⟩), .pointer (some ⟨Bt, 0, none⟩), .pointer (some ⟨Bn, 0, none⟩), .pointer (some ⟨Bp, 0, none⟩)]) ∧
            Calls Tryd.prog 46 #[.slice A1 (l.length + 1) c1, .int .i64 ((k + 1 : Nat) : Int), .pointer (some ⟨Bm, 0, none⟩), .pointer (some ⟨Bt, 0, none⟩), .pointer (some ⟨Bn, 0, none⟩), .pointer (some ⟨Bp, 0, none⟩)] w2 fun e w3 =>
              ∃ bv, e = .returned (.bool bv) ∧ ((bv = true ∧ J (pre ++ (dn ++ (choT n d (k + 1 : Nat)).map (fun x => l ++ ((k : Int) :: x)))) w3 ∧ Kq (Value.ownBlock (.slice A l.length c)) l.length W w3) ∨ (bv = false ∧ Jx w3)) from
            ⟨hE2.p.cell 0, (callsIn_wide.1 (by rw [hle] at hcall; exact hcall)).mono fun e w3 hh => by
              unfold WalkPost at hh
              rcases hh with ⟨he, k1, k2⟩ | ⟨he, k1⟩
              · refine ⟨true, he, .inl ⟨rfl, by simpa [List.append_assoc] using k1, HKQ.out.trans ((hks1.toKq _ _).trans (hkq2 w3 ?_))⟩⟩
                rw [hle] at k2
                exact k2
              · exact ⟨false, he, .inr ⟨rfl, k1⟩⟩⟩)
        have HSTEP := Lib.hid (choT_step n d k hlt)
        clear e0 e1 hHE
        go_wp2_with fail
        have hki : IntKind.i64.wrap ((k : Int) + 1) = ((k + 1 : Nat) : Int) := by rw [IntWalk.i64_in _ (by omega)]; omega
        have HKI := Lib.hid hki
        clear hki
        refine wp_region_PL [0] (fun W => W.cell? ⟨Bp, 0, none⟩ = some (.func (.func 46) #[] #[.pointer (some ⟨Bm, 0, none⟩), .pointer (some ⟨Bt, 0, none⟩), .pointer (some ⟨Bn, 0, none⟩), .pointer (some ⟨Bp, 0, none⟩)])) rfl (by kernel_rfl) (E0.out) (fun hF0 => ?_)
        (refine wpAnyP_loadL (i := 0) (v := ?_) rfl (by kernel_rfl) (by kernel_rfl) (by kernel_rfl) (by rfl) (fun _ _ _ h => h) hF0 (by rfl) ?_ ?_; rotate_left 1; focus (intro w hFw; (try dsimp only at hFw); go_split_ands; go_simp; try with_reducible rfl))
        try simp only [Act.put, List.setIfInBounds_toArray, List.set_cons_zero, List.set_cons_succ]
        (refine wpAnyP_takeL (i := 1) (v := ?_) rfl (by kernel_rfl) (by kernel_rfl) (by kernel_rfl) (fun _ _ _ h => h) (by rfl) ?_ ?_; rotate_left 1; focus (intro w; go_simp; try with_reducible rfl))
        try simp only [Act.put, List.setIfInBounds_toArray, List.set_cons_zero, List.set_cons_succ]
        (refine wpAnyP_takeL (i := 2) (v := ?_) rfl (by kernel_rfl) (by kernel_rfl) (by kernel_rfl) (fun _ _ _ h => h) (by rfl) ?_ ?_; rotate_left 1; focus (intro w; go_simp; try with_reducible rfl))
        try simp only [Act.put, List.setIfInBounds_toArray, List.set_cons_zero, List.set_cons_succ]
        (refine wpAnyP_takeL (i := 5) (v := ?_) rfl (by kernel_rfl) (by kernel_rfl) (by kernel_rfl) (fun _ _ _ h => h) (by rfl) ?_ ?_; rotate_left 1; focus (intro w; go_simp; try with_reducible rfl))
        try simp only [Act.put, List.setIfInBounds_toArray, List.set_cons_zero, List.set_cons_succ]
        (refine wpAnyP_takeL (i := 6) (v := ?_) rfl (by kernel_rfl) (by kernel_rfl) (by kernel_rfl) (fun _ _ _ h => h) (by rfl) ?_ ?_; rotate_left 1; focus (intro w; go_simp; (rw [HKI.out])))
        try simp only [Act.put, List.setIfInBounds_toArray, List.set_cons_zero, List.set_cons_succ]
        refine wpAnyP_step (i := 3) rfl (by kernel_rfl) (by rfl) (fun K hK => ?_)
        go_simp
        (refine hK _ _ (E1.out) (fun hF1 => ?_); clear hK K hF0)
        try simp only [Act.put, List.setIfInBounds_toArray, List.set_cons_zero, List.set_cons_succ]
        refine wpAnyP_step (i := 4) rfl (by kernel_rfl) (by rfl) (fun K hK => ?_)
        (refine wp_appendK _ _ rfl base _ l.length _ (by rfl) HOD.out ⟨wr.heap.size, 0, none⟩ 1 (k : Int) (by rfl) HX.out (by omega) (by simp; omega) ?_; intro A1 c1 w2 o2 g2 q2; obtain ⟨hcc, hcl⟩ := HNX.out A1 c1 w2 o2 g2 q2; have HCL := Lib.hid hcl; clear o2 g2 q2 hcl)
        (refine hK _ _ (hcc) (fun hF2 => ?_); clear hK K hF1)
        try simp only [Act.put, List.setIfInBounds_toArray, List.set_cons_zero, List.set_cons_succ]
        refine wpAnyP_last (i := 7) rfl (by kernel_rfl) (by kernel_rfl) (by rfl) (fun K hK => ?_)
        go_simp
        (refine HCL.out.mono ?_; rintro e w3 ⟨bv, rfl, hh⟩; have HH := Lib.hid hh; clear hh)
        (refine hK _ _ ?_; clear hK K)
        try simp only [Act.put, List.setIfInBounds_toArray, List.set_cons_zero, List.set_cons_succ]
        (refine wpAnyP_takeL (i := 8) (v := ?_) rfl (by kernel_rfl) (by kernel_rfl) (by kernel_rfl) (fun _ _ _ h => h) (by rfl) ?_ ?_; rotate_left 1; focus (intro w; go_simp; try with_reducible rfl))
        try simp only [Act.put, List.setIfInBounds_toArray, List.set_cons_zero, List.set_cons_succ]
        refine wpAnyP_done (by kernel_rfl) ?_ _
        cases bv
        · have h9 := HH.out
          simp only [Bool.false_eq_true, false_and, true_and, false_or] at h9
          have H9 := Lib.hid h9
          clear h9
          go_wp2_with fail
          go_ret
          exact .inr ⟨rfl, H9.out⟩
        · have h9 := HH.out
          simp only [Bool.true_eq_false, false_and, true_and, or_false] at h9
          have H9 := Lib.hid h9
          clear h9
          go_wp2_with fail
          go_roundw
          case rel => exact ⟨k + 1, dn ++ (choT n d (k + 1 : Nat)).map (fun x => l ++ ((k : Int) :: x)), by omega, by omega, by go_num, by rw [HDN.out, HSTEP.out]; simp [List.map_map, Function.comp_def], H9.out.1, H9.out.2⟩
          case measure => simp [intOf]; omega
      · obtain rfl : k = n := by omega
        clear hkq hdn hjk hE hown hneg
        go_wp2_with fail
        go_ret
        have e := HDN.out
        rw [choT_end, List.map_nil, List.append_nil] at e
        exact .inl ⟨rfl, by rw [e]; exact HJK.out, HKQ.out⟩

theorem yield_wide {m m' : Nat} {P : Program} {l : Nat} {args : Array Value} {W : World} {R : Ending → World → Prop} (h : YieldAt Fence.wide m P l args W R) : YieldAt Fence.wide m' P l args W R := by
  obtain ⟨fn, tmps, assign, body, h1, h2, h3⟩ := h
  exact ⟨fn, tmps, assign, body, h1, h2, fun c cs _ => h3 c cs (room_wide _)⟩

theorem choices_any (n many : Nat) (w : World) : Calls Tryd.prog 31 #[.int .i64 n, .int .i64 many] w fun e w' => e = .returned (.func (.func 45) #[] #[.pointer (some ⟨w.heap.size + 1, 0, none⟩), .pointer (some ⟨w.heap.size, 0, none⟩)]) ∧
    w' = (w.alloc (.cells #[.int .i64 n] 3)).alloc (.cells #[.int .i64 many] 3) := by
  go_enter Tryd.func31, Tryd.ntmps31
  go_wp2
  go_ret
  simp

theorem gives_any (m Bn Bm many n : Nat) (hn : n ≤ 8) (hmany : many ≤ 8) (w : World) (hBn : Blk w Bn 3 #[.int .i64 n]) (hBm : Blk w Bm 3 #[.int .i64 many]) :
    Gives Fence.wide m Tryd.prog 45 #[.pointer (some ⟨Bm, 0, none⟩), .pointer (some ⟨Bn, 0, none⟩)] (fun x : HdL => #[.slice x.A x.n x.c]) HdL.l (giveL w.heap.size) Ks (choT n many 0) w := by
  intro L J Jx W hW hJ hJx hY h0
  have hBnW := hBn.below hW hBn.lt
  have hBmW := hBm.below hW hBm.lt
  have hz := hW.size
  have z1 := hBnW.lt
  have z2 := hBmW.lt
  obtain ⟨V, hV⟩ : ∃ V, V = ((W.alloc (.cells #[.func (.yield L) #[] #[]] 95)).alloc (.cells #[.func (.func 46) #[] #[.pointer (some ⟨Bm, 0, none⟩), .pointer (some ⟨W.heap.size, 0, none⟩), .pointer (some ⟨Bn, 0, none⟩), .pointer (some ⟨W.heap.size + 1, 0, none⟩)]] 96)) := ⟨_, rfl⟩
  have hVz : V.heap.size = W.heap.size + 2 := by rw [hV]; simp
  have hg : W.grownBy V none := by
    rw [hV]
    exact (World.grownBy_alloc W _ none).trans (World.grownBy_alloc _ _ none)
  have hjV : J [] V := hJ _ _ _ none h0 hg (fun r e => by cases e)
  have hE : ChEnv V Bm W.heap.size Bn (W.heap.size + 1) L many n := by
    rw [hV]
    refine ⟨(hBmW.alloc _).alloc _, (Blk.new W _ _).alloc _, (hBnW.alloc _).alloc _, ?_⟩
    have := Blk.new (W.alloc (.cells #[.func (.yield L) #[] #[]] 95)) 96 #[.func (.func 46) #[] #[.pointer (some ⟨Bm, 0, none⟩), .pointer (some ⟨W.heap.size, 0, none⟩), .pointer (some ⟨Bn, 0, none⟩), .pointer (some ⟨W.heap.size + 1, 0, none⟩)]]
    rwa [World.size_alloc] at this
  have hcall := walk_in L V.heap.size many n Bm W.heap.size Bn (W.heap.size + 1) (by omega) (by omega) (by omega) (by omega) hn hmany J Jx (choT n many 0) (fun pre X Y row h hg hr => hJ pre X Y row h hg fun r e => by obtain ⟨q1, q2⟩ := hr r e; exact ⟨by omega, q2⟩) hJx
    (fun mm pre x rest W1 hxs hgv hj => by
      exact yield_wide (hY pre x rest W1 hxs (ownsRow_base hgv (by omega)) hj))
    many 0 none 0 [] 0 [] [] V (by simp) (fun _ => ⟨rfl, rfl⟩) (Nat.zero_le _) (World.ownsRow_nil _ _ _ _) hE (Nat.le_refl _) (by simp) hjV
  rw [callsIn_wide] at hcall ⊢
  rw [hV] at hcall
  have HC := Lib.hid hcall
  clear hcall hV hY hJ hJx h0 hE hjV hg
  go_enter Tryd.func45, Tryd.ntmps45
  go_wp2_with (go_at_call 46; refine HC.out.mono ?_; rintro e w3 hh; have HH := Lib.hid hh; obtain ⟨bv, rfl⟩ : ∃ bv, e = .returned (.bool bv) := (by rcases hh with ⟨h, _⟩ | ⟨h, _⟩ <;> exact ⟨_, h⟩); clear hh)
  go_end0
  refine ⟨⟨_, rfl⟩, ?_⟩
  rcases HH.out with ⟨_, k1, _⟩ | ⟨_, k1⟩
  · exact .inl (by simpa using k1)
  · exact .inr k1
end Go.Proofs.YtkphgdkjjklajaaDoor
