/-
  A region that draws its order, whose operations only add memory: what each slot holds stays true whatever comes between.
-/
import Derived.Test.YtjmppionedcfeaaDoorRegInv
import Derived.Test.YtjmppionedcfeaaDoorBase
set_option linter.unusedVariables false
set_option linter.unusedSimpArgs false
namespace Go.Proofs.YtjmppionedcfeaaDoor
open Go.RowKit

structure RI (P : Nat → Value → World → Prop) (ps : List (Nat × Nat)) (N : Nat) (W0 : World) (L : Nat → Bool) (f : Nat → Value) (W : World) : Prop where
  low : Below W0.heap.size W0 W
  pre : ∀ j, j < N → j ∉ ps.map (·.1) → L j = true
  got : ∀ p ∈ ps, L p.1 = true → P p.1 (f p.2) W
section
variable {P : Nat → Value → World → Prop} {ps : List (Nat × Nat)} {N : Nat} {W0 : World} {L : Nat → Bool} {f : Nat → Value} {W : World}
theorem RI.start (hpre : ∀ j, j < N → j ∉ ps.map (·.1) → L j = true) (hno : ∀ p ∈ ps, L p.1 = false) (hb : Below W0.heap.size W0 W) : RI P ps N W0 L f W :=
  ⟨hb, hpre, fun p hp h => by rw [hno p hp] at h; cases h⟩
theorem mem_same {α β : Type} {ps : List (α × β)} {p q : α × β} (hn : (ps.map (·.1)).Nodup) (hp : p ∈ ps) (hq : q ∈ ps) (h : p.1 = q.1) : p = q := by
  induction ps with
  | nil => cases hp
  | cons x r ih =>
    simp only [List.map_cons, List.nodup_cons, List.mem_map, not_exists, not_and] at hn
    rcases List.mem_cons.1 hp with rfl | hp' <;> rcases List.mem_cons.1 hq with rfl | hq'
    · rfl
    · exact absurd h.symm (hn.1 q hq')
    · exact absurd h (hn.1 p hp')
    · exact ih hn.2 hp' hq'
theorem mem_same2 {α β : Type} {ps : List (α × β)} {p q : α × β} (hn : (ps.map (·.2)).Nodup) (hp : p ∈ ps) (hq : q ∈ ps) (h : p.2 = q.2) : p = q := by
  induction ps with
  | nil => cases hp
  | cons x r ih =>
    simp only [List.map_cons, List.nodup_cons, List.mem_map, not_exists, not_and] at hn
    rcases List.mem_cons.1 hp with rfl | hp' <;> rcases List.mem_cons.1 hq with rfl | hq'
    · rfl
    · exact absurd h.symm (hn.1 q hq')
    · exact absurd h (hn.1 p hp')
    · exact ih hn.2 hp' hq'
theorem RI.put (hst : ∀ i v W W', P i v W → Below W.heap.size W W' → P i v W') (h : RI P ps N W0 L f W) {i s : Nat} (hm : (i, s) ∈ ps) (h1 : (ps.map (·.1)).Nodup) (h2 : (ps.map (·.2)).Nodup) {v : Value} {W' : World}
    (hb : Below W.heap.size W W') (hv : P i v W') : RI P ps N W0 (updB L i) (updV f s v) W' := by
  refine ⟨Below.step hb h.low (Nat.le_refl _), fun j hj hn => ?_, fun p hp hL => ?_⟩
  · have := h.pre j hj hn
    simp [updB, this]
  · by_cases hs : p.2 = s
    · obtain rfl := mem_same2 h2 hp hm hs
      simpa [updV] using hv
    · have hi : p.1 ≠ i := fun e => hs (by rw [mem_same h1 hp hm e])
      have hLp : L p.1 = true := by simpa [updB, hi] using hL
      have := hst _ _ _ _ (h.got p hp hLp) hb
      simpa [updV, hs] using this
end
end Go.Proofs.YtjmppionedcfeaaDoor
