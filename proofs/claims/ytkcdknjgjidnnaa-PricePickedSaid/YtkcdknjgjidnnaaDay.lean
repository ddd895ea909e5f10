/-
  The chapter's examples: books and steps that are made there.
-/
import Derived.Test.YtkcdknjgjidnnaaEnc
set_option linter.unusedVariables false
set_option linter.unusedSimpArgs false
namespace Go.Proofs.Ytkcdknjgjidnnaa
open Go.RowKit

theorem span_any (lo hi : Int) (w : World) : Calls Try.prog 41 #[.int .i64 lo, .int .i64 hi] w fun e w' => e = .returned (.agg #[.int .i64 lo, .int .i64 hi]) ∧ Below w.heap.size w w' := by
  have b0 := (Blk.new w 26 #[.int .i64 0, .int .i64 0])
  have bR := ((b0.set_ 0 (.int .i64 lo)).set_ 1 (.int .i64 hi))
  have q0 := bR.cell 0
  have q1 := bR.cell 1
  clear b0 bR
  go_enter Try.func41, Try.ntmps41
  go_wp2
  refine bodyPost_ret (v := .agg #[.int .i64 lo, .int .i64 hi]) (by simp [results, Try.results41, go_sem, q0, q1]) rfl ?_
  exact ⟨rfl, by go_grown⟩
theorem lone_any (n : Int) (w : World) : Calls Try.prog 39 #[.int .i64 n] w fun e w' => e = .returned (.agg #[.int .i64 n, .int .i64 n]) ∧ Below w.heap.size w w' := by
  have b0 := Blk.new w 26 #[.int .i64 0, .int .i64 0]
  have hB : Below w.heap.size w (w.alloc (.cells #[.int .i64 0, .int .i64 0] 26)) := by go_grown
  go_enter Try.func39, Try.ntmps39
  go_wp2_with fail
  refine (span_any n n _).mono ?_
  rintro e w1 ⟨rfl, hb⟩
  have b1 := b0.below hb b0.lt
  have hB1 := Below.step hb hB (Nat.le_refl _)
  have f0 := b1.frozen 0
  have f1 := b1.frozen 1
  have c0 := b1.cell 0
  have c1 := b1.cell 1
  have bR := ((b1.set_ 0 (.int .i64 n)).set_ 1 (.int .i64 n))
  have q0 := bR.cell 0
  have q1 := bR.cell 1
  clear hb b0 hB bR
  go_wp2
  refine bodyPost_ret (v := .agg #[.int .i64 n, .int .i64 n]) (by simp [results, Try.results39, go_sem, q0, q1]) rfl ?_
  exact ⟨rfl, (hB1.setCell (p := ⟨w.heap.size, 0, none⟩) (Nat.le_refl _) _).setCell (p := ⟨w.heap.size, 1, none⟩) (Nat.le_refl _) _⟩

/-- what stays while a book is made: the world below, and the block of the result -/
def Mk (w : World) (g : Nat) (t : TypeId) (cs : Array Value) (W : World) : Prop := Below w.heap.size w W ∧ Blk W g t cs
theorem Mk.next {w W W1 : World} {g : Nat} {t : TypeId} {cs : Array Value} (h : Mk w g t cs W) (hb : Below W.heap.size W W1) : Mk w g t cs W1 := ⟨Below.step hb h.1 (Nat.le_refl _), h.2.below hb h.2.lt⟩
theorem Mk.facts {w W : World} {g : Nat} {t : TypeId} {x y z : Value} (h : Mk w g t #[x, y, z] W) : W.frozen? ⟨g, 0, none⟩ = false ∧ W.frozen? ⟨g, 1, none⟩ = false ∧ W.frozen? ⟨g, 2, none⟩ = false ∧
    W.cell? ⟨g, 0, none⟩ = some x ∧ W.cell? ⟨g, 1, none⟩ = some y ∧ W.cell? ⟨g, 2, none⟩ = some z ∧ g < W.heap.size :=
  ⟨h.2.frozen 0, h.2.frozen 1, h.2.frozen 2, h.2.cell 0, h.2.cell 1, h.2.cell 2, h.2.lt⟩
theorem span_mk (lo hi : Int) (w W : World) (g : Nat) (t : TypeId) (cs : Array Value) (h : Mk w g t cs W) : Calls Try.prog 41 #[.int .i64 lo, .int .i64 hi] W fun e w' => e = .returned (.agg #[.int .i64 lo, .int .i64 hi]) ∧ Mk w g t cs w' :=
  (span_any lo hi W).mono fun _ _ ⟨he, hb⟩ => ⟨he, h.next hb⟩
theorem lone_mk (n : Int) (w W : World) (g : Nat) (t : TypeId) (cs : Array Value) (h : Mk w g t cs W) : Calls Try.prog 39 #[.int .i64 n] W fun e w' => e = .returned (.agg #[.int .i64 n, .int .i64 n]) ∧ Mk w g t cs w' :=
  (lone_any n W).mono fun _ _ ⟨he, hb⟩ => ⟨he, h.next hb⟩

theorem Mk.book {w W : World} {x y z : Value} (h : Mk w w.heap.size 24 #[x, y, z] W) (u v s : Value) (l : List Sale) (cs : Array Value) (hcs : cs.toList = l.flatMap encS) (t : TypeId) :
    Blk ((((W.setCell ⟨w.heap.size, 0, none⟩ u).setCell ⟨w.heap.size, 1, none⟩ v).setCell ⟨w.heap.size, 2, none⟩ s).alloc (.cells cs t)) w.heap.size 24 #[u, v, s] ∧
    Sl encS 6 ((((W.setCell ⟨w.heap.size, 0, none⟩ u).setCell ⟨w.heap.size, 1, none⟩ v).setCell ⟨w.heap.size, 2, none⟩ s).alloc (.cells cs t)) W.heap.size (some ⟨W.heap.size, 0, none⟩) l.length l ∧
    Below w.heap.size w ((((W.setCell ⟨w.heap.size, 0, none⟩ u).setCell ⟨w.heap.size, 1, none⟩ v).setCell ⟨w.heap.size, 2, none⟩ s).alloc (.cells cs t)) := by
  refine ⟨?_, ?_, ?_⟩
  · exact (((h.2.set_ 0 u).set_ 1 v).set_ 2 s).alloc _
  · have := Sl.new encS_len (((W.setCell ⟨w.heap.size, 0, none⟩ u).setCell ⟨w.heap.size, 1, none⟩ v).setCell ⟨w.heap.size, 2, none⟩ s) l t cs hcs
    simpa [World.setCell] using this
  · exact (((h.1.setCell (p := ⟨w.heap.size, 0, none⟩) (Nat.le_refl _) u).setCell (p := ⟨w.heap.size, 1, none⟩) (Nat.le_refl _) v).setCell (p := ⟨w.heap.size, 2, none⟩) (Nat.le_refl _) s).alloc (by have := h.2.lt; simp [World.setCell]; omega) _

def dayL : List Sale := [⟨0, 0, 1000, 1000, 500, 500⟩, ⟨1, 0, 2000, 3000, 600, 700⟩, ⟨0, 0, 0, 500, 900, 900⟩, ⟨1, 1, 0, 100, 50, 60⟩]
def eveL : List Sale := [⟨0, 0, 5, 5, 20, 20⟩]
def stepsL : List Step := [⟨0, 100⟩, ⟨1000, 200⟩]

set_option maxRecDepth 100000 in
set_option maxHeartbeats 1000000 in
theorem day_any (w : World) : Calls Try.prog 52 #[] w fun e w' => ∃ A c, e = .returned (.agg #[.int .i64 2, .int .i64 2, .slice A 4 c]) ∧ (∃ b, w.heap.size ≤ b ∧ Sl encS 6 w' b A 4 dayL) ∧ Below w.heap.size w w' := by
  have h0 : Mk w w.heap.size 24 #[.int .i64 0, .int .i64 0, .slice none 0 0] (w.alloc (.cells #[.int .i64 0, .int .i64 0, .slice none 0 0] 24)) := ⟨by go_grown, Blk.new _ _ _⟩
  go_enter Try.func52, Try.ntmps52
  go_wp2_with (first | (go_at_call 39; refine (lone_mk _ w _ w.heap.size 24 #[.int .i64 0, .int .i64 0, .slice none 0 0] (by assumption)).mono ?_; rintro e w1 ⟨rfl, hm⟩; obtain ⟨f0, f1, f2, c0, c1, c2, hz⟩ := Mk.facts hm) | (go_at_call 41; refine (span_mk _ _ w _ w.heap.size 24 #[.int .i64 0, .int .i64 0, .slice none 0 0] (by assumption)).mono ?_; rintro e w1 ⟨rfl, hm⟩; obtain ⟨f0, f1, f2, c0, c1, c2, hz⟩ := Mk.facts hm))
  obtain ⟨hR, hS, hB⟩ := hm.book (.int .i64 2) (.int .i64 2) (.slice (some ⟨w1.heap.size, 0, none⟩) 4 4) dayL (dayL.flatMap encS).toArray rfl 28
  have q0 := hR.cell 0
  have q1 := hR.cell 1
  have q2 := hR.cell 2
  simp only [dayL, List.flatMap_cons, List.flatMap_nil, encS, List.cons_append, List.nil_append, List.append_nil] at q0 q1 q2
  refine bodyPost_ret (v := .agg #[.int .i64 2, .int .i64 2, .slice (some ⟨w1.heap.size, 0, none⟩) 4 4]) (by simp [results, Try.results52, go_sem, q0, q1, q2]) rfl ?_
  exact ⟨_, _, rfl, ⟨_, Nat.le_of_lt hz, hS⟩, hB⟩

set_option maxRecDepth 100000 in
set_option maxHeartbeats 1000000 in
theorem eve_any (w : World) : Calls Try.prog 54 #[] w fun e w' => ∃ A c, e = .returned (.agg #[.int .i64 1, .int .i64 1, .slice A 1 c]) ∧ (∃ b, w.heap.size ≤ b ∧ Sl encS 6 w' b A 1 eveL) ∧ Below w.heap.size w w' := by
  have h0 : Mk w w.heap.size 24 #[.int .i64 0, .int .i64 0, .slice none 0 0] (w.alloc (.cells #[.int .i64 0, .int .i64 0, .slice none 0 0] 24)) := ⟨by go_grown, Blk.new _ _ _⟩
  go_enter Try.func54, Try.ntmps54
  go_wp2_with (go_at_call 39; refine (lone_mk _ w _ w.heap.size 24 #[.int .i64 0, .int .i64 0, .slice none 0 0] (by assumption)).mono ?_; rintro e w1 ⟨rfl, hm⟩; obtain ⟨f0, f1, f2, c0, c1, c2, hz⟩ := Mk.facts hm)
  obtain ⟨hR, hS, hB⟩ := hm.book (.int .i64 1) (.int .i64 1) (.slice (some ⟨w1.heap.size, 0, none⟩) 1 1) eveL (eveL.flatMap encS).toArray rfl 28
  have q0 := hR.cell 0
  have q1 := hR.cell 1
  have q2 := hR.cell 2
  simp only [eveL, List.flatMap_cons, List.flatMap_nil, encS, List.cons_append, List.nil_append, List.append_nil] at q0 q1 q2
  refine bodyPost_ret (v := .agg #[.int .i64 1, .int .i64 1, .slice (some ⟨w1.heap.size, 0, none⟩) 1 1]) (by simp [results, Try.results54, go_sem, q0, q1, q2]) rfl ?_
  exact ⟨_, _, rfl, ⟨_, Nat.le_of_lt hz, hS⟩, hB⟩

theorem steps_any (w : World) : Calls Try.prog 53 #[] w fun e w' => ∃ A c, e = .returned (.slice A 2 c) ∧ (∃ b, w.heap.size ≤ b ∧ Sl encP 2 w' b A 2 stepsL) ∧ Below w.heap.size w w' := by
  go_enter Try.func53, Try.ntmps53
  go_wp2
  go_ret
  exact ⟨_, _, rfl, ⟨_, Nat.le_refl _, Sl.new encP_len w stepsL _ _ rfl⟩, by go_grown⟩
end Go.Proofs.Ytkcdknjgjidnnaa
