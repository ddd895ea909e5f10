/-
  Two rows of one's own that grow side by side.
-/
import Derived.Test.YtkcdknjgjidnnaaReg2
import Derived.Test.YtkcdknjgjidnnaaLeast
set_option linter.unusedVariables false
set_option linter.unusedSimpArgs false
namespace Go.Proofs.Ytkcdknjgjidnnaa
open Go.RowKit

structure Rows2 (base Bx : Nat) (cs : Array Value) (R : World) (v1 v2 : Value) (n1 n2 : Nat) (l1 l2 : List Value) (X : World) : Prop where
  bs : base ≤ R.heap.size
  low : Below base R X
  ko : KeepsOthers R X
  r1 : X.ownsRow base 3 1 v1 n1 l1
  r2 : X.ownsRow base 3 1 v2 n2 l2
  sep : ∀ j, v1.ownBlock = some j → v2.ownBlock ≠ some j
  bx : Blk X Bx 28 cs
  bw : base ≤ Bx

section
variable {base Bx : Nat} {cs : Array Value} {R X : World} {v1 v2 : Value} {n1 n2 : Nat} {l1 l2 : List Value}
theorem Rows2.swap (h : Rows2 base Bx cs R v1 v2 n1 n2 l1 l2 X) : Rows2 base Bx cs R v2 v1 n2 n1 l2 l1 X :=
  ⟨h.bs, h.low, h.ko, h.r2, h.r1, fun j h2 h1 => h.sep j h1 h2, h.bx, h.bw⟩
theorem Rows2.alloc (h : Rows2 base Bx cs R v1 v2 n1 n2 l1 l2 X) (o : Obj) : Rows2 base Bx cs R v1 v2 n1 n2 l1 l2 (X.alloc o) :=
  ⟨h.bs, h.low.alloc (Nat.le_trans h.bs h.low.size) o, h.ko.trans (KeepsOthers.alloc X o), h.r1.alloc o, h.r2.alloc o, h.sep, h.bx.alloc o, h.bw⟩
/-- a block of another type is no row -/
theorem own_ne {t e : TypeId} (hte : t ≠ e) {b base size n : Nat} {v : Value} {xs : List Value} {cs : Array Value} (hb : Blk X b t cs) (h : X.ownsRow base e size v n xs) : some b ≠ v.ownBlock := by
  rcases h.2 with ⟨rfl, _⟩ | ⟨g, cap, cur, rfl, _, hgb, _⟩
  · simp [Value.ownBlock]
  · intro e'
    obtain rfl : b = g := by simpa [Value.ownBlock] using e'
    have := (show X.heap[b]? = _ from hb).symm.trans hgb
    simp at this
    exact hte this.2
theorem own_cells {e : TypeId} {base size n : Nat} {v : Value} {xs : List Value} (h : X.ownsRow base e size v n xs) {j : Nat} {o : Obj} (hj : v.ownBlock = some j) (ho : X.heap[j]? = some o) : o.isCells = true := by
  rcases h.2 with ⟨rfl, _⟩ | ⟨g, cap, cur, rfl, _, hgb, _⟩
  · simp [Value.ownBlock] at hj
  · obtain rfl : g = j := by simpa [Value.ownBlock] using hj
    rw [hgb] at ho; cases ho; rfl
theorem Rows2.app1 (h : Rows2 base Bx cs R v1 v2 n1 n2 l1 l2 X) {X' : World} {g m c : Nat} {l1' : List Value} (hg : X.grownBy X' v1.ownBlock) (hr : X'.ownsRow base 3 1 (.slice (some ⟨g, 0, none⟩) m c) m l1') (hgl : v1.ownBlock = some g ∨ g = X.heap.size) :
    Rows2 base Bx cs R (.slice (some ⟨g, 0, none⟩) m c) v2 m n2 l1' l2 X' := by
  have hsep : v2.ownBlock = none ∨ v2.ownBlock ≠ v1.ownBlock := by
    cases h2 : v2.ownBlock with
    | none => exact .inl rfl
    | some j => exact .inr fun e => h.sep j e.symm h2
  refine ⟨h.bs, h.low.grown hg (Nat.le_trans h.bs h.low.size) (fun j e => (h.r1.lt j e).1), h.ko.trans (KeepsOthers.of_grownBy hg fun j o e ho => own_cells h.r1 e ho), hr, h.r2.kept hg hsep, fun j hj => ?_, h.bx.grown hg (own_ne (by decide) h.bx h.r1), h.bw⟩
  obtain rfl : g = j := by simpa [Value.ownBlock] using hj
  rcases hgl with e | e
  · exact h.sep g e
  · intro e2
    have := (h.r2.lt g e2).2
    omega
theorem Rows2.app2 (h : Rows2 base Bx cs R v1 v2 n1 n2 l1 l2 X) {X' : World} {g m c : Nat} {l2' : List Value} (hg : X.grownBy X' v2.ownBlock) (hr : X'.ownsRow base 3 1 (.slice (some ⟨g, 0, none⟩) m c) m l2') (hgl : v2.ownBlock = some g ∨ g = X.heap.size) :
    Rows2 base Bx cs R v1 (.slice (some ⟨g, 0, none⟩) m c) n1 m l1 l2' X' := (h.swap.app1 hg hr hgl).swap

/-- a block for a value that is to be appended -/
def Tmp1 (v1 v2 : Value) (g : Nat) (x : Int) (X : World) : Prop := Blk X g 3 #[.int .i64 x] ∧ v1.ownBlock ≠ some g ∧ v2.ownBlock ≠ some g
theorem Rows2.tmp (h : Rows2 base Bx cs R v1 v2 n1 n2 l1 l2 X) (x : Int) : Tmp1 v1 v2 X.heap.size x (X.alloc (.cells #[.int .i64 x] 3)) :=
  ⟨Blk.new _ _ _, fun e => by have := (h.r1.lt _ e).2; omega, fun e => by have := (h.r2.lt _ e).2; omega⟩
theorem Tmp1.alloc {g : Nat} {x : Int} (h : Tmp1 v1 v2 g x X) (o : Obj) : Tmp1 v1 v2 g x (X.alloc o) := ⟨h.1.alloc o, h.2⟩
theorem Tmp1.app1 {g g' m c : Nat} {x : Int} {X' : World} (h : Tmp1 v1 v2 g x X) (hg : X.grownBy X' v1.ownBlock) (hgl : v1.ownBlock = some g' ∨ g' = X.heap.size) : Tmp1 (.slice (some ⟨g', 0, none⟩) m c) v2 g x X' := by
  refine ⟨h.1.grown hg (fun e => h.2.1 e.symm), fun e => ?_, h.2.2⟩
  obtain rfl : g' = g := by simpa [Value.ownBlock] using e
  rcases hgl with e | e
  · exact h.2.1 e
  · have := h.1.lt; omega
theorem Tmp1.swap {g : Nat} {x : Int} (h : Tmp1 v1 v2 g x X) : Tmp1 v2 v1 g x X := ⟨h.1, h.2.2, h.2.1⟩
theorem Tmp1.app2 {g g' m c : Nat} {x : Int} {X' : World} (h : Tmp1 v1 v2 g x X) (hg : X.grownBy X' v2.ownBlock) (hgl : v2.ownBlock = some g' ∨ g' = X.heap.size) : Tmp1 v1 (.slice (some ⟨g', 0, none⟩) m c) g x X' := (h.swap.app1 hg hgl).swap
end
end Go.Proofs.Ytkcdknjgjidnnaa
