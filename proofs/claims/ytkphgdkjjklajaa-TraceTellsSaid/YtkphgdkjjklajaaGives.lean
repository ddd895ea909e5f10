/-
  What appends onto a row leave: the cells of all other blocks, and the row's own first cells. A range over a function that hands out what lies in memory: each round knows what it holds; rounds may return.
-/
import Derived.Test.YtkphgdkjjklajaaTrSet
import Derived.Test.YtkphgdkjjklajaaTrArr
import Derived.Maps.AppendAt
import Derived.Test.YtkphgdkjjklajaaGoOn
set_option linter.unusedVariables false
set_option linter.unusedSimpArgs false
namespace Go.Proofs.Ytkphgdkjjklajaa
open Go.RowKit Go.Shelf

/-- every block of cells lies as it lay -/
structure Ks (W W' : World) : Prop where
  size : W.heap.size ≤ W'.heap.size
  all : ∀ (k : Nat) (cs : Array Value) (t : TypeId) (f : Nat × Nat), W.heap[k]? = some (.cells cs t f) → W'.heap[k]? = some (.cells cs t f)
theorem Ks.refl (W : World) : Ks W W := ⟨Nat.le_refl _, fun _ _ _ _ h => h⟩
theorem Ks.trans {A B C : World} (h : Ks A B) (k : Ks B C) : Ks A C := ⟨Nat.le_trans h.size k.size, fun i cs t f hi => k.all i cs t f (h.all i cs t f hi)⟩
theorem Ks.of_below {A B : World} (h : Below A.heap.size A B) : Ks A B := ⟨h.size, fun i _ _ _ hi => (h.block i (Array.getElem?_eq_some_iff.1 hi).1).trans hi⟩
theorem Ks.blk {W W' : World} {g : Nat} {t : TypeId} {cs : Array Value} (h : Ks W W') (hb : Blk W g t cs) : Blk W' g t cs := h.all _ _ _ _ hb

/-- all cells lie as they lay, but those of block g from its n-th on -/
structure Kq (g : Option Nat) (n : Nat) (W W' : World) : Prop where
  size : W.heap.size ≤ W'.heap.size
  other : ∀ (k : Nat) (cs : Array Value) (t : TypeId) (f : Nat × Nat), W.heap[k]? = some (.cells cs t f) → some k ≠ g → W'.heap[k]? = some (.cells cs t f)
  own : ∀ (k : Nat) (cs : Array Value) (t : TypeId) (f : Nat × Nat), W.heap[k]? = some (.cells cs t f) → some k = g → ∃ cs', W'.heap[k]? = some (.cells cs' t f) ∧ cs'.size = cs.size ∧ cs'.toList.take n = cs.toList.take n
theorem Ks.toKq {W W' : World} (h : Ks W W') (g : Option Nat) (n : Nat) : Kq g n W W' := ⟨h.size, fun k cs t f hk _ => h.all k cs t f hk, fun k cs t f hk _ => ⟨cs, h.all k cs t f hk, rfl, rfl⟩⟩
theorem Kq.refl (g : Option Nat) (n : Nat) (W : World) : Kq g n W W := (Ks.refl W).toKq g n
theorem Kq.trans {g : Option Nat} {n : Nat} {A B C : World} (h : Kq g n A B) (k : Kq g n B C) : Kq g n A C :=
  ⟨Nat.le_trans h.size k.size, fun i cs t f hi hn => k.other i cs t f (h.other i cs t f hi hn) hn, fun i cs t f hi hn => by
    obtain ⟨c1, h1, h2, h3⟩ := h.own i cs t f hi hn
    obtain ⟨c2, k1, k2, k3⟩ := k.own i c1 t f h1 hn
    exact ⟨c2, k1, k2.trans h2, k3.trans h3⟩⟩
theorem Kq.blk {g0 : Option Nat} {n : Nat} {W W' : World} {g : Nat} {t : TypeId} {cs : Array Value} (h : Kq g0 n W W') (hb : Blk W g t cs) (hn : some g ≠ g0) : Blk W' g t cs := h.other _ _ _ _ hb hn
theorem Kq.row {W W' : World} {base : Nat} {e : TypeId} {v : Value} {n : Nat} {xs : List Value} (h : Kq v.ownBlock n W W') (ho : W.ownsRow base e 1 v n xs) : W'.ownsRow base e 1 v n xs := by
  refine ⟨ho.1, ?_⟩
  rcases ho.2 with hn | ⟨g, cap, cur, rfl, hb, hg, h1, h2, h3, h4⟩
  · exact .inl hn
  · obtain ⟨cs', k1, k2, k3⟩ := h.own g cur e (0, 0) hg rfl
    exact .inr ⟨g, cap, cs', rfl, hb, k1, h1, h2, by rw [k2, h3], by rw [Nat.mul_one] at h4 ⊢; rw [k3, h4]⟩
theorem Kq.none {W W' : World} {n : Nat} (h : Kq none n W W') : Ks W W' := ⟨h.size, fun k cs t f hk => h.other k cs t f hk (by simp)⟩

/-- an append of one number onto a row of one's own -/
theorem run_appendK (w : World) (base : Nat) (ty : TypeId) (v : Value) (n : Nat) (xs : List Value) (hown : w.ownsRow base 3 1 v n xs) (a : Addr) (c : Nat) (x : Int) (hx : w.cell? a = some (.int .i64 x)) (hn : n ≤ 1000000) (hbase : base ≤ w.heap.size) :
    ∃ A' c' w', (Builtin.append_ #[22, 22] ty #[v, .slice (some a) 1 c]).run Try.prog w = .ok (.slice A' (n + 1) c') w' ∧ w'.ownsRow base 3 1 (.slice A' (n + 1) c') (n + 1) (xs ++ [.int .i64 x]) ∧ w.grownBy w' v.ownBlock ∧
      (∀ w2, Kq (Value.ownBlock (.slice A' (n + 1) c')) (n + 1) w' w2 → Kq v.ownBlock n w w2) := by
  obtain ⟨i0, hi, iz0, iz1, iz2⟩ := info_parts info_int
  have hnews : ∀ j u, [Value.int .i64 x][j]? = some u → w.cell? (a.add j) = some u := by
    intro j u hu
    rcases j with _ | j
    · have e : a.add 0 = a := by unfold Addr.add; split <;> simp_all
      rw [e, hx]; simpa using hu
    · simp at hu
  have hone : ∀ u ∈ [Value.int .i64 x], u.oneCell' = true := by simp [Value.oneCell']
  have hfresh : ∀ (cs : Array Value) (w2 : World), Kq (some w.heap.size) (n + 1) (w.drew.alloc (.cells cs 3)) w2 → Ks w w2 := fun cs w2 h =>
    ⟨by have := h.size; simp at this; omega, fun k cs' t f hk => h.other k cs' t f ((Below.heap_alloc w.drew _ k (Array.getElem?_eq_some_iff.1 hk).1).trans hk) (fun e => by injection e with e; have := (Array.getElem?_eq_some_iff.1 hk).1; omega)⟩
  have hgrow : ∀ (cs : Array Value) (row : Option Nat), w.grownBy (w.drew.alloc (.cells cs 3)) row := fun cs row => ⟨rfl, rfl, rfl, by simp, fun k hk _ => Below.heap_alloc w.drew _ k hk⟩
  have hge : ∀ old, n + 1 ≤ grownCap w (n + 1) old 3 := fun old => grownCap_ge w (n + 1) old _
  have hlem : ∀ old, grownCap w (n + 1) old 3 ≤ maxLen := fun old => grownCap_le_maxLen w (n + 1) old _ (by unfold maxLen; omega)
  rcases hown.2 with ⟨rfl, rfl⟩ | ⟨g, cap, cur, rfl, hbg, hg, hnc, hcm, hcs, htake⟩
  · obtain rfl : xs = [] := List.eq_nil_of_length_eq_zero (by simpa using hown.1)
    have hr := run_append_nil (P := Try.prog) w 22 ty 3 i0 _ Try.underlying22 hi iz0 a 1 c [.int .i64 x] (by rw [iz1]; rfl) hnews (by omega) (by omega) (by rw [iz2]; omega)
    refine ⟨_, _, _, hr, ⟨rfl, .inr ⟨w.heap.size, _, _, rfl, hbase, Blk.new w.drew 3 _, hge 0, hlem 0, ?_, ?_⟩⟩, hgrow _ _, fun w2 h => (hfresh _ w2 h).toKq _ _⟩
    · have := hge 0
      simp only [Nat.zero_add] at this ⊢
      simp [size_zeroCells, Value.cells]; omega
    · simp
  · by_cases hroom : n + 1 ≤ cap
    · have hr := run_append_room (P := Try.prog) w 22 ty 3 i0 Try.underlying22 hi g n cap cur hg a 1 c [.int .i64 x] (by rw [iz1]; rfl) hnews hone hroom (by rw [iz1, hcs]; simp; omega)
      have hlen := hown.1
      rw [iz1] at hr
      refine ⟨_, _, _, hr, ⟨by simp [hlen], .inr ⟨g, cap, _, rfl, hbg, setRow_heap w g cur _ 3 _ hg, hroom, hcm, ?_, ?_⟩⟩, grown_setRow _ _ _, fun w2 h => ?_⟩
      · simp only [List.size_toArray, List.length_append, List.length_take, List.length_drop, Array.length_toList, List.length_singleton]; omega
      · rw [htake, ← show (xs ++ [Value.int .i64 x]).length = (n + 1) * 1 by simp [hlen]]; exact List.take_left
      · refine ⟨by have := h.size; simpa [World.setRow] using this, fun k cs t f hk hne => ?_, fun k cs t f hk he => ?_⟩
        · exact h.other k cs t f ((setRow_other w g k _ (fun e => hne (by rw [e]; rfl))).trans hk) hne
        · have he' : k = g := by simpa [Value.ownBlock] using he
          subst he'
          rw [hg] at hk
          injection hk with hk
          injection hk with k1 k2 k3
          subst k1; subst k2; subst k3
          obtain ⟨c2, m1, m2, m3⟩ := h.own k _ _ _ (setRow_heap w k cur _ 3 _ hg) rfl
          refine ⟨c2, m1, ?_, ?_⟩
          · rw [m2]; simp; omega
          · have e := congrArg (List.take n) m3
            rw [List.take_take, List.take_take, Nat.min_eq_left (by omega)] at e
            rw [e]
            rw [Nat.mul_one] at htake
            simp [htake, hlen]
    · have holds : ∀ j u, xs[j]? = some u → w.cell? ((⟨g, 0, none⟩ : Addr).add j) = some u := hown.cells (g := g) rfl
      have hr := run_append_grow (P := Try.prog) w 22 ty 3 i0 _ Try.underlying22 hi iz0 ⟨g, 0, none⟩ n cap xs (by rw [iz1]; exact hown.1) holds a 1 c [.int .i64 x] (by rw [iz1]; rfl) hnews (by omega) (by omega) (growslice_fits (by omega) (by rw [iz2]; omega))
      have hlen := hown.1
      refine ⟨_, _, _, hr, ⟨by simp [hlen], .inr ⟨w.heap.size, _, _, rfl, hbase, Blk.new w.drew 3 _, hge cap, hlem cap, ?_, ?_⟩⟩, hgrow _ _, fun w2 h => (hfresh _ w2 h).toKq _ _⟩
      · have := hge cap
        simp [size_zeroCells, Value.cells, hlen]; omega
      · have hl2 : xs.length = n := by simpa using hlen
        simp [List.take_append, hl2, List.take_of_length_le (show xs.length ≤ n + 1 by omega)]
theorem wp_appendK {o : Oper} {a : Act} {w : World} {K : Act → World → Prop} {Q : Exit → Act → World → Prop} (s x : Operand)
    (ho : o.op = .call { callee := .builtin .append, args := #[s, x], argTypes := #[22, 22] })
    (base : Nat) (v : Value) (n : Nat) (xs : List Value) (hs : a.eval s = v) (hown : w.ownsRow base 3 1 v n xs) (p : Addr) (c : Nat) (y : Int) (hx : a.eval x = .slice (some p) 1 c) (hy : w.cell? p = some (.int .i64 y))
    (hn : n ≤ 1000000) (hbase : base ≤ w.heap.size)
    (h : ∀ A' c' w', w'.ownsRow base 3 1 (.slice A' (n + 1) c') (n + 1) (xs ++ [.int .i64 y]) → w.grownBy w' v.ownBlock → (∀ w2, Kq (Value.ownBlock (.slice A' (n + 1) c')) (n + 1) w' w2 → Kq v.ownBlock n w w2) →
      K (a.put o.dst (.slice A' (n + 1) c')) w') : o.wp Try.prog a w K Q := by
  obtain ⟨A', c', w', hrun, h2, h3, h4⟩ := run_appendK w base o.type v n xs hown p c y hy hn hbase
  unfold Oper.wp execOp
  simp only [ho, resolve, invoke, builtin, Sem.run_bind, Sem.run_pure, Result.andThen_ok, List.map_toArray, List.map_cons, List.map_nil, hs, hx, hrun]
  exact h A' c' w' h2 h3 h4
end Go.Proofs.Ytkphgdkjjklajaa

namespace Go.Proofs.Ytkphgdkjjklajaa
open Go.RowKit

/-- what lies when a round has returned: the iterator may lay blocks -/
def AbidesR (Jx : World → Prop) : Prop := ∀ X Y, Jx X → X.grownBy Y none → Jx Y
/-- .. and the law may write its records -/
def AbidesX (B : Nat) (Ix : World → Prop) : Prop := ∀ X Y row, Ix X → X.grownBy Y row → (∀ r, row = some r → B ≤ r ∧ ∃ o, X.heap[r]? = some o ∧ isRec o = true) → Ix Y

/-- the iterator hands out values of the contents xs, one by one; G says what lies where a value points -/
def Gives {α β : Type} (F : Fence) (n : Nat) (P : Program) (g : Nat) (lb : Array Value) (encs : α → Array Value) (con : α → β) (G : α → World → Prop) (Kp : World → World → Prop) (xs : List β) (w : World) : Prop :=
  ∀ (l : Nat) (J : List β → World → Prop) (Jx : World → Prop) (W : World), Below w.heap.size w W → Abides2 W.heap.size J → AbidesR Jx →
    (∀ pre x rest W1, xs = pre ++ con x :: rest → G x W1 → J pre W1 → YieldAt F (n - 1) P l (encs x) W1 fun e W' => (e = .returned (.bool true) ∧ J (pre ++ [con x]) W' ∧ Kp W1 W') ∨ (e = .returned (.bool false) ∧ Jx W')) →
    J [] W → CallsIn F n P g (#[.func (.yield l) #[] #[]] ++ lb) W fun e W' => (∃ v, e = .returned v) ∧ (J xs W' ∨ Jx W')

def gvPost {β : Type} (Kp : World → World → Prop) (I : List β → World → Prop) (Ix : World → Prop) (xs : List β) (W : World) : Exit → Act → World → Prop
  | .normal, _, W' => KeepsRec W W' ∧ Kp W W' ∧ I xs W'
  | .ret, _, W' => KeepsRec W W' ∧ Ix W'
  | _, _, _ => False

variable {F : Fence} {n : Nat} {P : Program}

theorem wpIn_range_gv {α β : Type} {g : Operand} {ps : Array Tmp} {assign body : Code} {Q : Exit → Act → World → Prop} {a : Act} {w : World}
    (hro : F.round = none) (h1 : 1 ≤ n) {gf : Nat} {lb : Array Value} (hg : a.eval g = .func (.func gf) #[] lb) (hFg : F.fn gf) (eg : ∀ args w, (callFunc gf args).run P w = .ok (.enter gf args) w)
    {encs : α → Array Value} {con : α → β} {G : α → World → Prop} {Kp : World → World → Prop} {xs : List β} {w0 : World} (hseq : Gives F (n - 1) P gf lb encs con G Kp xs w0)
    (hKt : ∀ {A B C : World}, Kp A B → Kp B C → Kp A C) (hKb : ∀ (W : World) (l : Nat) (o o' : Obj), w.heap.size ≤ l → W.heap[l]? = some o → isRec o = true → Kp W (W.putObj l o'))
    (hG : ∀ x (A B : World), Kp A B → G x A → G x B)
    (hb0 : Below w0.heap.size w0 w) (hps : ∀ x, (encs x).size = ps.size)
    (I : List β → World → Prop) (Ix : World → Prop) (hI : Abides3 w.heap.size I) (hIx : AbidesX w.heap.size Ix) (h0 : I [] w) (Ax : α → Act → World → Prop) (hAx : ∀ x a' (W : World) (l : Nat) (o o' : Obj), Ax x a' W → w.heap.size ≤ l → W.heap[l]? = some o → isRec o = true → Ax x a' (W.putObj l o'))
    (hassign : ∀ (l : Nat) (pre : List β) (x : α) (W : World) (K : Act → World → Prop), I pre W → (∀ a' W', KeepsRec W W' → Kp W W' → I pre W' → Ax x a' W' → K a' W') →
      assign.wpIn (F.inRound l) (n - 1 - 1) P (Exit.then K (fun _ _ _ => False)) { tmps := (ps.zip (encs x)).foldl (fun t (p, v) => t.setIfInBounds p v) a.tmps, defers := [] } W)
    (hbody : ∀ (l : Nat) (pre : List β) (x : α) (rest : List β) (a' : Act) (W : World), xs = pre ++ con x :: rest → G x W → I pre W → Ax x a' W → body.wpIn (F.inRound l) (n - 1 - 1) P (gvPost Kp I Ix (pre ++ [con x]) W) a' W)
    (hdone : ∀ (D : Nat) (W : World), w.heap.size ≤ D → I xs W → W.heap[D]? = some (.deferred (some [])) → Q .normal { a with defers := { target := .collected D, args := #[] } :: a.defers } W)
    (hstop : ∀ (D : Nat) (W : World), w.heap.size ≤ D → Ix W → W.heap[D]? = some (.deferred (some [])) → Code.ret.wpIn F n P Q { a with defers := { target := .collected D, args := #[] } :: a.defers } W) :
    (Code.rangeFunc g ps assign body).wpIn F n P Q a w := by
  refine wpIn_rangeFunc fun fn hfn => ?_
  rw [hro]
  let rc : LoopState → Option Code → Loop := fun st pe => { state := st, pending := pe, fn := fn, tmps := a.tmps, params := ps, assign := assign, body := body, defers := w.heap.size }
  let w1 := (w.alloc (.deferred (some []))).alloc (.loop (rc .ready none))
  have hD0 : w1.heap[w.heap.size]? = some (.deferred (some [])) := (Below.heap_alloc _ _ _ (by simp)).trans (World.alloc_heap_new w _)
  have hR0 : w1.heap[w.heap.size + 1]? = some (.loop (rc .ready none)) := by
    have := World.alloc_heap_new (w.alloc (.deferred (some []))) (.loop (rc .ready none))
    rwa [World.size_alloc] at this
  have hgr : ∀ {X : World} {o : Obj} (o' : Obj) {r : Nat} {pre : List β}, X.heap[r]? = some o → soft o = false → w.heap.size ≤ r → I pre X → I pre (X.putObj r o') := fun {X o} o' {r pre} h1 h2 h3 h4 =>
    hI pre _ _ (some r) h4 (grownBy_putObj' X r o') fun k e => by cases e; exact ⟨h3, o, h1, h2⟩
  have hgx : ∀ {X : World} {o : Obj} (o' : Obj) {r : Nat}, X.heap[r]? = some o → isRec o = true → w.heap.size ≤ r → Ix X → Ix (X.putObj r o') := fun {X o} o' {r} h1 h2 h3 h4 =>
    hIx _ _ (some r) h4 (grownBy_putObj' X r o') fun k e => by cases e; exact ⟨h3, o, h1, h2⟩
  refine ⟨w.heap.size + 1, [{ target := .collected w.heap.size, args := #[] }], w1, { target := .fn (.func gf) lb, args := #[.func (.yield (w.heap.size + 1)) #[] #[]] }, w1, gf,
    #[.func (.yield (w.heap.size + 1)) #[] #[]] ++ lb, w1, run_enterLoop_outer _ _ _ _ _, ?_, ?_, ?_, fun _ => h1, ?_⟩
  · simp only [resolve, hg]
    simp [go_sem]
  · intro f hf
    simp [Target.leads] at hf
    subst hf; exact hFg
  · simp [invoke, go_sem, eg]
  refine (hseq (w.heap.size + 1) (fun pre W => I pre W ∧ W.heap[w.heap.size + 1]? = some (.loop (rc .ready none)) ∧ W.heap[w.heap.size]? = some (.deferred (some [])) ∧ w.heap.size + 2 ≤ W.heap.size)
    (fun W => Ix W ∧ W.heap[w.heap.size + 1]? = some (.loop (rc .done (some .ret))) ∧ W.heap[w.heap.size]? = some (.deferred (some [])) ∧ w.heap.size + 2 ≤ W.heap.size) w1
    (hb0.trans ((((Below.refl _ w).alloc (Nat.le_refl _) _).alloc (by simp) _).mono hb0.size)) ?_ ?_ ?_ ⟨?_, hR0, hD0, by simp [w1]⟩).mono ?_
  · rintro pre X Y row ⟨k1, k2, k3, k4⟩ hgrow hrow
    have hw1 : w1.heap.size = w.heap.size + 2 := by simp [w1]
    have hne : ∀ k, k < w.heap.size + 2 → some k ≠ row := fun k hk e => by
      have := (hrow k e.symm).1; omega
    refine ⟨hI pre _ _ row k1 hgrow fun r e => ?_, (hgrow.block _ (by omega) (hne _ (by omega))).trans k2, (hgrow.block _ (by omega) (hne _ (by omega))).trans k3, Nat.le_trans k4 hgrow.size⟩
    obtain ⟨h2, cs, t, f, h3⟩ := hrow r e
    exact ⟨by omega, _, h3, rfl⟩
  · rintro X Y hx hgrow
    obtain ⟨k1, k2, k3, k4⟩ := hx
    exact ⟨hIx _ _ none k1 hgrow (fun r e => (by cases e)), (hgrow.block _ (by omega) (by simp)).trans k2, (hgrow.block _ (by omega) (by simp)).trans k3, Nat.le_trans k4 hgrow.size⟩
  · -- a round
    rintro pre x rest W hxs hgx0 ⟨k1, k2, k3, k4⟩
    refine ⟨fn, _, assign, body, run_yield k2 (hps x), roundIn_of_wpIn hfn (hassign _ pre x W _ k1 ?_)⟩
    rintro a' Wa hka hkp hia hax
    have l1 := hka.same _ _ k2 rfl
    have l2 := hka.same _ _ k3 rfl
    have hlt : w.heap.size + 1 < Wa.heap.size := (Array.getElem?_eq_some_iff.1 l1).1
    refine ⟨_, run_beginRound l1 rfl, ?_⟩
    let Wb := Wa.putObj (w.heap.size + 1) (.loop (rc .busy none))
    have b1 : Wb.heap[w.heap.size + 1]? = some (.loop (rc .busy none)) := World.putObj_heap_same hlt
    have b2 : Wb.heap[w.heap.size]? = some (.deferred (some [])) := (World.putObj_heap_other (by omega)).trans l2
    have kb : Kp Wa Wb := hKb _ _ _ _ (by omega) l1 rfl
    have ib : I pre Wb := hgr _ l1 rfl (by omega) hia
    have ab : Ax x a' Wb := hAx x a' _ _ _ _ hax (by omega) l1 rfl
    refine wpIn_mono (hbody (w.heap.size + 1) pre x rest a' Wb hxs (hG x _ _ (hKt hkp kb) hgx0) ib ab) ?_
    rintro e a3 W3 hp
    cases e with
    | normal =>
      obtain ⟨c1, c2, c3⟩ := hp
      have d1 := c1.same _ _ b1 rfl
      have d2 := c1.same _ _ b2 rfl
      have hlt3 : w.heap.size + 1 < W3.heap.size := (Array.getElem?_eq_some_iff.1 d1).1
      have e1 := run_endRound (P := P) none d1
      refine ⟨_, _, e1, .inl ⟨rfl, ⟨hgr _ d1 rfl (by omega) c3, World.putObj_heap_same hlt3, (World.putObj_heap_other (by omega)).trans d2, by simp; omega⟩, hKt hkp (hKt (hKt kb c2) (hKb _ _ _ _ (by omega) d1 rfl))⟩⟩
    | ret =>
      obtain ⟨c1, c3⟩ := hp
      have d1 := c1.same _ _ b1 rfl
      have d2 := c1.same _ _ b2 rfl
      have hlt3 : w.heap.size + 1 < W3.heap.size := (Array.getElem?_eq_some_iff.1 d1).1
      have e1 := run_endRound (P := P) (some .ret) d1
      refine ⟨_, _, e1, .inr ⟨rfl, hgx _ d1 rfl (by omega) c3, World.putObj_heap_same hlt3, (World.putObj_heap_other (by omega)).trans d2, by simp; omega⟩⟩
    | exit _ => exact hp.elim
    | goto _ => exact hp.elim
    | panic _ => exact hp.elim
    | outgrown => exact hp.elim
  · exact hI [] _ _ none (hI [] _ _ none h0 (World.grownBy_alloc w _ none) fun _ e => by cases e) (World.grownBy_alloc _ _ none) fun _ e => by cases e
  · rintro e W2 ⟨⟨v, rfl⟩, (⟨k1, k2, k3, k4⟩ | ⟨k1, k2, k3, k4⟩)⟩
    · exact ⟨none, _, run_endLoop (P := P) k2 (by simp [rc]), hdone _ _ (Nat.le_refl _) (hgr _ k2 rfl (by omega) k1) ((World.putObj_heap_other (by omega)).trans k3)⟩
    · exact ⟨some .ret, _, run_endLoop (P := P) k2 (by simp [rc]), hstop _ _ (Nat.le_refl _) (hgx _ k2 rfl (by omega) k1) ((World.putObj_heap_other (by omega)).trans k3)⟩
end Go.Proofs.Ytkphgdkjjklajaa
