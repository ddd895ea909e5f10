/-
  The map of maps that 'most' keeps: what is left of the room between two places; what its functions may turn.
-/
import Derived.Test.YtmoolcpogilgkaaBase
import Derived.Test.YtmoolcpogilgkaaKMap
import Derived.Test.YtmoolcpogilgkaaFlow
set_option linter.unusedVariables false
set_option linter.unusedSimpArgs false
namespace Go.Proofs.Ytmoolcpogilgkaa
open Go.RowKit

/-- maps and their iterators -/
def soft : Obj → Bool
  | .map .. => true
  | .mapIter .. => true
  | _ => false
/-- what may turn: blocks no older than n₀ that p says nothing of -/
structure Kx (p : Obj → Bool) (n₀ : Nat) (w w' : World) : Prop where
  os : w'.os = w.os
  tape : w'.tape = w.tape
  output : w'.output = w.output
  size : w.heap.size ≤ w'.heap.size
  below : ∀ i, i < n₀ → w'.heap[i]? = w.heap[i]?
  rest : ∀ (i : Nat) o, w.heap[i]? = some o → p o = true → w'.heap[i]? = some o
section
variable {p : Obj → Bool}
theorem Kx.refl (n₀ : Nat) (w : World) : Kx p n₀ w w := ⟨rfl, rfl, rfl, Nat.le_refl _, fun _ _ => rfl, fun _ _ h _ => h⟩
theorem Kx.trans {n₀ : Nat} {a b c : World} (h : Kx p n₀ a b) (k : Kx p n₀ b c) : Kx p n₀ a c :=
  ⟨k.os.trans h.os, k.tape.trans h.tape, k.output.trans h.output, Nat.le_trans h.size k.size, fun i hi => (k.below i hi).trans (h.below i hi), fun i o hi ho => k.rest i o (h.rest i o hi ho) ho⟩
theorem Kx.toBelow {n₀ : Nat} {w w' : World} (h : Kx p n₀ w w') : Below n₀ w w' := ⟨h.os, h.tape, h.output, h.size, h.below⟩
theorem Kx.of_below {n₀ : Nat} {w w' : World} (h : Below w.heap.size w w') (hn : n₀ ≤ w.heap.size) : Kx p n₀ w w' :=
  ⟨h.os, h.tape, h.output, h.size, fun i hi => h.block i (by omega), fun i o hi _ => by
    rw [h.block i (Array.getElem?_eq_some_iff.1 hi).1]; exact hi⟩
theorem Kx.of_grown' {n₀ : Nat} {w w' : World} {row : Option Nat} (h : w.grownBy w' row) (hn : n₀ ≤ w.heap.size) (hr : ∀ b, row = some b → n₀ ≤ b ∧ ∀ o, w.heap[b]? = some o → p o = false) : Kx p n₀ w w' :=
  ⟨h.os, h.tape, h.output, h.size, fun i hi => h.block i (by omega) (fun e => by
      have := (hr i e.symm).1
      omega), fun i o hi ho => by
    rw [h.block i (Array.getElem?_eq_some_iff.1 hi).1 (fun e => by
      rw [(hr i e.symm).2 o hi] at ho; cases ho)]; exact hi⟩
theorem Kx.alloc {n₀ : Nat} {w w' : World} (h : Kx p n₀ w w') (hn : n₀ ≤ w'.heap.size) (o : Obj) : Kx p n₀ w (w'.alloc o) :=
  h.trans (Kx.of_grown' (World.grownBy_alloc w' o none) hn fun _ e => by cases e)
theorem Kx.drew {n₀ : Nat} {w w' : World} (h : Kx p n₀ w w') : Kx p n₀ w w'.drew := ⟨h.os, h.tape, h.output, h.size, h.below, h.rest⟩
theorem Kx.mono {n₀ n₁ : Nat} {w w' : World} (h : Kx p n₀ w w') (hn : n₁ ≤ n₀) : Kx p n₁ w w' := ⟨h.os, h.tape, h.output, h.size, fun i hi => h.below i (by omega), h.rest⟩
theorem Kx.row {n₀ : Nat} {a b c : World} (h : Kx p n₀ a b) {row : Option Nat} (hg : b.grownBy c row) (hr : ∀ r, row = some r → a.heap.size ≤ r) (hn : n₀ ≤ a.heap.size) : Kx p n₀ a c :=
  ⟨hg.os.trans h.os, hg.tape.trans h.tape, hg.output.trans h.output, Nat.le_trans h.size hg.size, fun i hi => (hg.block i (by have := h.size; omega) (fun e => by have := hr i e.symm; omega)).trans (h.below i hi),
    fun i o hi ho => (hg.block i (by have := (Array.getElem?_eq_some_iff.1 hi).1; have := h.size; omega) (fun e => by have := (Array.getElem?_eq_some_iff.1 hi).1; have := hr i e.symm; omega)).trans (h.rest i o hi ho)⟩
theorem Kx.new {n₀ : Nat} {a b c : World} (h : Kx p n₀ a b) {r : Nat} (hg : b.grownBy c (some r)) (hr : a.heap.size ≤ r) (hn : n₀ ≤ a.heap.size) : Kx p n₀ a c := h.row hg (fun _ e => by cases e; exact hr) hn
theorem Kx.weaken {q : Obj → Bool} {n₀ : Nat} {a b : World} (h : Kx p n₀ a b) (hpq : ∀ o, q o = true → p o = true) : Kx q n₀ a b := ⟨h.os, h.tape, h.output, h.size, h.below, fun i o hi ho => h.rest i o hi (hpq o ho)⟩
end
def hard (o : Obj) : Bool := !soft o
def isCl : Obj → Bool
  | .cells .. => true
  | _ => false
/-- maps and their iterators may turn -/
abbrev Kc := Kx hard
/-- whatever is no cells may turn -/
abbrev Kd := Kx isCl
theorem Kc.refl (n₀ : Nat) (w : World) : Kc n₀ w w := Kx.refl n₀ w
theorem Kc.trans {n₀ : Nat} {a b c : World} (h : Kc n₀ a b) (k : Kc n₀ b c) : Kc n₀ a c := Kx.trans h k
theorem Kc.of_below {n₀ : Nat} {w w' : World} (h : Below w.heap.size w w') (hn : n₀ ≤ w.heap.size) : Kc n₀ w w' := Kx.of_below h hn
theorem Kc.of_grown {n₀ : Nat} {w w' : World} {row : Option Nat} (h : w.grownBy w' row) (hn : n₀ ≤ w.heap.size) (hr : ∀ b, row = some b → n₀ ≤ b ∧ ∀ o, w.heap[b]? = some o → soft o = true) : Kc n₀ w w' :=
  Kx.of_grown' h hn fun b e => ⟨(hr b e).1, fun o ho => by unfold hard; rw [(hr b e).2 o ho]; rfl⟩
theorem Kc.toKd {n₀ : Nat} {a b : World} (h : Kc n₀ a b) : Kd n₀ a b := Kx.weaken h fun o ho => by cases o <;> first | rfl | cases ho
theorem Kd.of_below {n₀ : Nat} {w w' : World} (h : Below w.heap.size w w') (hn : n₀ ≤ w.heap.size) : Kd n₀ w w' := Kx.of_below h hn
theorem Kd.trans {n₀ : Nat} {a b c : World} (h : Kd n₀ a b) (k : Kd n₀ b c) : Kd n₀ a c := Kx.trans h k
theorem Blk.kc {n₀ : Nat} {w w' : World} {g : Nat} {t : TypeId} {cs : Array Value} (h : Blk w g t cs) (k : Kc n₀ w w') : Blk w' g t cs := k.rest g _ h rfl
theorem Blk.kd {n₀ : Nat} {w w' : World} {g : Nat} {t : TypeId} {cs : Array Value} (h : Blk w g t cs) (k : Kd n₀ w w') : Blk w' g t cs := k.rest g _ h rfl
theorem KMap.isMap {α : Type} {enc : α → Value} {ok : α → Prop} {w : World} {b : Nat} {m : α → Option Value} (h : KMap enc ok w b m) : ∃ es c, w.heap[b]? = some (.map es c) := by
  obtain ⟨es, clock, h1, _⟩ := h
  exact ⟨es, clock, h1⟩
theorem KMap.soft {α : Type} {enc : α → Value} {ok : α → Prop} {w : World} {b : Nat} {m : α → Option Value} (h : KMap enc ok w b m) : ∀ o, w.heap[b]? = some o → soft o = true := by
  obtain ⟨es, c, h1⟩ := h.isMap
  intro o ho
  rw [h1] at ho; cases ho; rfl
theorem KMap.notB {α : Type} {enc : α → Value} {ok : α → Prop} {w : World} {b g : Nat} {m : α → Option Value} {t : TypeId} {cs : Array Value} (h : KMap enc ok w b m) (hg : Blk w g t cs) : b ≠ g := fun e => by
  obtain ⟨es, c, h1⟩ := h.isMap
  rw [e, show w.heap[g]? = _ from hg] at h1
  cases h1
/-- a block that is no map -/
def NoMap (w : World) (row : Option Nat) : Prop := ∀ r, row = some r → ∀ es c, w.heap[r]? ≠ some (.map es c)
theorem NoMap.none (w : World) : NoMap w none := fun _ e => by cases e
theorem KMap.step {α : Type} {enc : α → Value} {ok : α → Prop} {w w' : World} {b : Nat} {m : α → Option Value} (h : KMap enc ok w b m) {row : Option Nat} (hg : w.grownBy w' row) (hr : NoMap w row) : KMap enc ok w' b m :=
  h.grown hg (fun e => by
    obtain ⟨es, c, h1⟩ := h.isMap
    exact hr b e.symm es c h1)

theorem KIt.noMap {α : Type} {enc : α → Value} {ok : α → Prop} {w : World} {r : Nat} {b : Option Nat} {m : α → Option Value} {left : α → Prop} {cnt : Nat} (h : KIt enc ok w r b m left cnt) : ∀ es c, w.heap[r]? ≠ some (.map es c) := fun es c e => by
  obtain ⟨_, _, _, _, h1⟩ := h.isIt
  rw [h1] at e; cases e
theorem KIt.soft {α : Type} {enc : α → Value} {ok : α → Prop} {w : World} {r : Nat} {b : Option Nat} {m : α → Option Value} {left : α → Prop} {cnt : Nat} (h : KIt enc ok w r b m left cnt) : ∀ o, w.heap[r]? = some o → soft o = true := fun o e => by
  obtain ⟨_, _, _, _, h1⟩ := h.isIt
  rw [h1] at e; cases e; rfl

abbrev Pl := Int × Int
def okV (p : Pl) : Prop := (Lit.int .i64 p.1).wf = true ∧ (Lit.int .i64 p.2).wf = true

structure LeftAt (n₀ : Nat) (vs : List Pl) (av : Nat) (w : World) (B : Nat) (R : Pl → Pl → Int) (m : Pl → Option Nat) (c : Pl → Pl → Option Int) : Prop where
  outer : KMap plV okV w B fun u => (m u).map fun b => .map (some b)
  n0B : n₀ ≤ B
  avB : B ≠ av
  avlt : av < w.heap.size
  n0b : ∀ u b, m u = some b → n₀ ≤ b ∧ b ≠ B ∧ b ≠ av
  inner : ∀ u b, m u = some b → KMap plV okV w b fun v => (c u v).map (.int .i64)
  inj : ∀ u v b, m u = some b → m v = some b → u = v
  no : ∀ u, m u = none → ∀ v, c u v = none
  val : ∀ u v, R u v = (c u v).getD 0
  keys : ∀ u v x, c u v = some x → v ∈ vs
def Left (n₀ : Nat) (vs : List Pl) (av : Nat) (w : World) (B : Nat) (R : Pl → Pl → Int) : Prop := ∃ m c, LeftAt n₀ vs av w B R m c

theorem LeftAt.step {n₀ av B : Nat} {vs : List Pl} {w w' : World} {R : Pl → Pl → Int} {m : Pl → Option Nat} {c : Pl → Pl → Option Int} (h : LeftAt n₀ vs av w B R m c)
    {row : Option Nat} (hg : w.grownBy w' row) (hr : NoMap w row) : LeftAt n₀ vs av w' B R m c :=
  { h with
    outer := h.outer.step hg hr
    avlt := Nat.lt_of_lt_of_le h.avlt hg.size
    inner := fun u b hb => (h.inner u b hb).step hg hr }
/-- another map is turned -/
theorem LeftAt.other {n₀ av B : Nat} {vs : List Pl} {w w' : World} {R : Pl → Pl → Int} {m : Pl → Option Nat} {c : Pl → Pl → Option Int} (h : LeftAt n₀ vs av w B R m c)
    {r : Nat} (hg : w.grownBy w' (some r)) (h1 : r ≠ B) (h2 : ∀ u b, m u = some b → r ≠ b) : LeftAt n₀ vs av w' B R m c :=
  { h with
    outer := h.outer.grown hg (fun e => by injection e with e; exact h1 e.symm)
    avlt := Nat.lt_of_lt_of_le h.avlt hg.size
    inner := fun u b hb => (h.inner u b hb).grown hg (fun e => by injection e with e; exact h2 u b hb e.symm) }
theorem Left.step {n₀ av B : Nat} {vs : List Pl} {w w' : World} {R : Pl → Pl → Int} (h : Left n₀ vs av w B R) {row : Option Nat} (hg : w.grownBy w' row) (hr : NoMap w row) : Left n₀ vs av w' B R := by
  obtain ⟨m, c, h1⟩ := h
  exact ⟨m, c, h1.step hg hr⟩
theorem Left.alloc {n₀ av B : Nat} {vs : List Pl} {w : World} {R : Pl → Pl → Int} (h : Left n₀ vs av w B R) (o : Obj) : Left n₀ vs av (w.alloc o) B R := h.step (World.grownBy_alloc w o none) (NoMap.none w)
theorem LeftAt.alloc {n₀ av B : Nat} {vs : List Pl} {w : World} {R : Pl → Pl → Int} {m : Pl → Option Nat} {c : Pl → Pl → Option Int} (h : LeftAt n₀ vs av w B R m c) (o : Obj) : LeftAt n₀ vs av (w.alloc o) B R m c := h.step (World.grownBy_alloc w o none) (NoMap.none w)
theorem LeftAt.drew {n₀ av B : Nat} {vs : List Pl} {w : World} {R : Pl → Pl → Int} {m : Pl → Option Nat} {c : Pl → Pl → Option Int} (h : LeftAt n₀ vs av w B R m c) : LeftAt n₀ vs av w.drew B R m c := { h with outer := h.outer, inner := h.inner }
theorem Left.drew {n₀ av B : Nat} {vs : List Pl} {w : World} {R : Pl → Pl → Int} (h : Left n₀ vs av w B R) : Left n₀ vs av w.drew B R := by
  obtain ⟨m, c, h1⟩ := h
  exact ⟨m, c, h1.drew⟩
/-- another block to stay away from: one that is new -/
theorem Left.av {n₀ av B : Nat} {vs : List Pl} {w : World} {R : Pl → Pl → Int} (h : Left n₀ vs av w B R) (o : Obj) : Left n₀ vs w.heap.size (w.alloc o) B R := by
  obtain ⟨m, c, h1⟩ := h
  have h2 := h1.alloc o
  refine ⟨m, c, { h2 with avB := ?_, avlt := by simp, n0b := fun u b hb => ⟨(h1.n0b u b hb).1, (h1.n0b u b hb).2.1, ?_⟩ }⟩
  · have := h1.outer.lt; omega
  · have := (h1.inner u b hb).lt; omega
theorem Left.ltB {n₀ av B : Nat} {vs : List Pl} {w : World} {R : Pl → Pl → Int} (h : Left n₀ vs av w B R) : B < w.heap.size := by
  obtain ⟨m, c, h1⟩ := h
  exact h1.outer.lt

/-- a place has a map of its own: made anew where it had none -/
theorem LeftAt.fresh {n₀ av B : Nat} {vs : List Pl} {w w2 : World} {R : Pl → Pl → Int} {m : Pl → Option Nat} {c : Pl → Pl → Option Int} (h : LeftAt n₀ vs av w B R m c) (hn : n₀ ≤ w.heap.size)
    {u : Pl} (hu : m u = none) (hk : KMap plV okV w2 B (updK (fun u => (m u).map fun b => .map (some b)) u (.map (some w.heap.size)))) (hg : (w.alloc (.map #[] 0)).grownBy w2 (some B)) :
    LeftAt n₀ vs av w2 B R (fun u' => if u' = u then some w.heap.size else m u') c where
  outer := by
    have e : (fun u' => (if u' = u then some w.heap.size else m u').map fun b => Value.map (some b)) = updK (fun u => (m u).map fun b => .map (some b)) u (.map (some w.heap.size)) := funext fun u' => by
      unfold updK
      by_cases h1 : u' = u <;> simp [h1]
    rw [e]; exact hk
  n0B := h.n0B
  avB := h.avB
  avlt := Nat.lt_of_lt_of_le h.avlt (by have := hg.size; (try simp at this); omega)
  n0b := fun u' b hb => by
    by_cases h1 : u' = u
    · simp only [h1, if_true, Option.some.injEq] at hb
      have := h.outer.lt
      have := h.avlt
      omega
    · simp only [h1, if_false] at hb
      exact h.n0b u' b hb
  inner := fun u' b hb => by
    by_cases h1 : u' = u
    · simp only [h1, if_true, Option.some.injEq] at hb
      subst hb
      have e : (fun v => (c u' v).map (Value.int .i64)) = fun _ => none := funext fun v => by rw [h1, h.no u hu v]; rfl
      rw [e]
      have hlt := h.outer.lt
      exact (KMap.new w).grown hg (fun e => by injection e with e; omega)
    · simp only [h1, if_false] at hb
      exact ((h.inner u' b hb).alloc _).grown hg (fun e => by injection e with e; exact (h.n0b u' b hb).2.1 e)
  inj := fun u1 u2 b h1 h2 => by
    by_cases e1 : u1 = u <;> by_cases e2 : u2 = u
    · rw [e1, e2]
    · simp only [e1, e2, if_true, if_false, Option.some.injEq] at h1 h2
      have := (h.inner u2 b h2).lt
      omega
    · simp only [e1, e2, if_true, if_false, Option.some.injEq] at h1 h2
      have := (h.inner u1 b h1).lt
      omega
    · simp only [e1, e2, if_false] at h1 h2
      exact h.inj u1 u2 b h1 h2
  no := fun u' hu' v => by
    by_cases h1 : u' = u
    · rw [h1]; exact h.no u hu v
    · simp only [h1, if_false] at hu'
      exact h.no u' hu' v
  val := h.val
  keys := h.keys

/-- the room from a place to another one is written -/
theorem LeftAt.write {n₀ av B b : Nat} {vs : List Pl} {w w2 : World} {R : Pl → Pl → Int} {m : Pl → Option Nat} {c : Pl → Pl → Option Int} (h : LeftAt n₀ vs av w B R m c)
    {u v : Pl} (hv : v ∈ vs) (hu : m u = some b) (g : Int) (hk : KMap plV okV w2 b (updK (fun v => (c u v).map (.int .i64)) v (.int .i64 ((c u v).getD 0 + g)))) (hg : w.grownBy w2 (some b)) :
    LeftAt n₀ vs av w2 B (updR R u v g) m (fun a x => if a = u ∧ x = v then some ((c u v).getD 0 + g) else c a x) where
  outer := h.outer.grown hg (fun e => by injection e with e; exact (h.n0b u b hu).2.1 e.symm)
  n0B := h.n0B
  avB := h.avB
  avlt := Nat.lt_of_lt_of_le h.avlt (by have := hg.size; (try simp at this); omega)
  n0b := h.n0b
  inner := fun u' b' hb' => by
    by_cases h1 : u' = u
    · subst h1
      rw [hu] at hb'
      injection hb' with hb'
      subst hb'
      have e : (fun x => (if u' = u' ∧ x = v then some ((c u' v).getD 0 + g) else c u' x).map (Value.int .i64)) = updK (fun v => (c u' v).map (.int .i64)) v (.int .i64 ((c u' v).getD 0 + g)) := funext fun x => by
        unfold updK
        by_cases h2 : x = v <;> simp [h2]
      rw [e]; exact hk
    · have e : (fun x => (if u' = u ∧ x = v then some ((c u v).getD 0 + g) else c u' x).map (Value.int .i64)) = fun x => (c u' x).map (Value.int .i64) := funext fun x => by simp [h1]
      rw [e]
      exact (h.inner u' b' hb').grown hg (fun e => by injection e with e; subst e; exact h1 (h.inj u' u b' hb' hu))
  inj := h.inj
  no := fun u' hu' x => by
    have : u' ≠ u := fun e => by rw [e, hu] at hu'; cases hu'
    simp only [this, false_and, if_false]
    exact h.no u' hu' x
  val := fun a x => by
    unfold updR
    rw [h.val]
    by_cases h1 : a = u ∧ x = v
    · obtain ⟨rfl, rfl⟩ := h1; simp
    · simp [h1]
  keys := fun a x y hy => by
    by_cases h1 : a = u ∧ x = v
    · rw [h1.2]; exact hv
    · simp only [h1, if_false] at hy
      exact h.keys a x y hy

/- which places haven't been met -/
theorem filter_len_le {α : Type} {p q : α → Bool} (h : ∀ x, q x = true → p x = true) : ∀ l : List α, (l.filter q).length ≤ (l.filter p).length := by
  intro l
  induction l with
  | nil => exact Nat.le_refl _
  | cons x l ih =>
    rw [List.filter_cons, List.filter_cons]
    by_cases h1 : q x = true
    · rw [if_pos h1, if_pos (h x h1)]; simp only [List.length_cons]; omega
    · rw [if_neg h1]
      split
      · simp only [List.length_cons]; omega
      · exact ih
theorem filter_len_lt {α : Type} {p q : α → Bool} (h : ∀ x, q x = true → p x = true) {v : α} (hp : p v = true) (hq : q v = false) : ∀ l : List α, v ∈ l → (l.filter q).length < (l.filter p).length := by
  intro l
  induction l with
  | nil => intro hv; cases hv
  | cons x l ih =>
    intro hv
    rw [List.filter_cons, List.filter_cons]
    rcases List.mem_cons.1 hv with rfl | hv
    · rw [if_neg (by simp [hq]), if_pos hp]
      have := filter_len_le h l
      simp only [List.length_cons]; omega
    · have := ih hv
      by_cases h1 : q x = true
      · rw [if_pos h1, if_pos (h x h1)]; simp only [List.length_cons]; omega
      · rw [if_neg h1]
        split
        · simp only [List.length_cons]; omega
        · exact this
def unmet (vs : List Pl) (M : Pl → Bool) : Nat := (vs.filter fun v => !M v).length
def putM (M : Pl → Bool) (u : Pl) : Pl → Bool := fun v => M v || decide (v = u)
theorem unmet_lt {vs : List Pl} {M M' : Pl → Bool} (h : ∀ v, M v = true → M' v = true) {u : Pl} (hu : u ∈ vs) (h1 : M u = false) (h2 : M' u = true) : unmet vs M' < unmet vs M :=
  filter_len_lt (fun x hx => by
    cases hm : M x
    · rfl
    · rw [h x hm] at hx; cases hx) (by rw [h1]; rfl) (by rw [h2]; rfl) vs hu
/-- what the met block holds -/
def metF (M : Pl → Bool) : Pl → Option Value := fun v => if M v then some (.bool true) else none
theorem metF_put (M : Pl → Bool) (u : Pl) : updK (metF M) u (.bool true) = metF (putM M u) := funext fun v => by
  unfold updK metF putM
  by_cases h : v = u
  · simp [h]
  · simp [h]

/- what flows, step by step -/
theorem updR_comm (R : Pl → Pl → Int) (u v : Pl) (n : Int) : updR R u v n = fun a b => R a b + (if a = u ∧ b = v then n else 0) := rfl
theorem pushD_chain (D : Pl → Int) (a t z : Pl) (n : Int) : pushD (pushD D t z n) a t n = pushD D a z n := by
  funext x
  unfold pushD
  split <;> split <;> split <;> omega
theorem pushD_self (D : Pl → Int) (z : Pl) (n : Int) : pushD D z z n = D := by
  funext x
  unfold pushD
  split <;> omega
end Go.Proofs.Ytmoolcpogilgkaa
