/-
  The walk of the law PriceKnown.
-/
import Derived.Test.YtjmppionedcfeaaDoorKnownLaw
import Derived.Test.YtjmppionedcfeaaDoorAwake
import Derived.Test.YtjmppionedcfeaaDoorWriteW
import Derived.Test.YtjmppionedcfeaaDoorBooks
import Derived.Test.YtjmppionedcfeaaDoorPickW
import Derived.Test.YtjmppionedcfeaaDoorTnv
import Derived.Test.YtjmppionedcfeaaDoorAud
import Derived.Test.YtjmppionedcfeaaDoorRely
import Derived.Deep.QuietTactic
import Derived.Deep.CutRange
import Derived.BigQuiet
set_option linter.unusedVariables false
set_option linter.unusedSimpArgs false
namespace Go.Proofs.YtjmppionedcfeaaDoor
open Go.RowKit

theorem Mk.rows {w W : World} {x y z : Value} (h : Mk w w.heap.size 24 #[x, y, z] W) (u v s : Value) (cs : Array Value) (t : TypeId) :
    Blk ((((W.setCell ⟨w.heap.size, 0, none⟩ u).setCell ⟨w.heap.size, 1, none⟩ v).setCell ⟨w.heap.size, 2, none⟩ s).alloc (.cells cs t)) W.heap.size t cs := by
  have := Blk.new (((W.setCell ⟨w.heap.size, 0, none⟩ u).setCell ⟨w.heap.size, 1, none⟩ v).setCell ⟨w.heap.size, 2, none⟩ s) t cs
  simpa [World.setCell] using this

set_option maxRecDepth 100000 in
set_option maxHeartbeats 1000000 in
theorem dayK_any (w : World) : Calls Tryd.prog 4 #[] w fun e w' => ∃ g, e = .returned (.agg #[.int .i64 2, .int .i64 2, .slice (some ⟨g, 0, none⟩) 4 4]) ∧ Blk w' g 31 (cellsS dayL) ∧ w.heap.size ≤ g ∧ Below w.heap.size w w' := by
  have h0 : Mk w w.heap.size 24 #[.int .i64 0, .int .i64 0, .slice none 0 0] (w.alloc (.cells #[.int .i64 0, .int .i64 0, .slice none 0 0] 24)) := ⟨by go_grown, Blk.new _ _ _⟩
  go_enter Tryd.func4, Tryd.ntmps4
  go_wp2_with (first | (go_at_call 7; refine (lone_mk _ w _ w.heap.size 24 #[.int .i64 0, .int .i64 0, .slice none 0 0] (by assumption)).mono ?_; rintro e w1 ⟨rfl, hm⟩; obtain ⟨f0, f1, f2, c0, c1, c2, hz⟩ := Mk.facts hm) | (go_at_call 6; refine (span_mk _ _ w _ w.heap.size 24 #[.int .i64 0, .int .i64 0, .slice none 0 0] (by assumption)).mono ?_; rintro e w1 ⟨rfl, hm⟩; obtain ⟨f0, f1, f2, c0, c1, c2, hz⟩ := Mk.facts hm))
  obtain ⟨hR, _, hB⟩ := hm.book (.int .i64 2) (.int .i64 2) (.slice (some ⟨w1.heap.size, 0, none⟩) 4 4) dayL (dayL.flatMap encS).toArray rfl 31
  have hK := hm.rows (.int .i64 2) (.int .i64 2) (.slice (some ⟨w1.heap.size, 0, none⟩) 4 4) (dayL.flatMap encS).toArray 31
  have q0 := hR.cell 0
  have q1 := hR.cell 1
  have q2 := hR.cell 2
  simp only [dayL, List.flatMap_cons, List.flatMap_nil, encS, List.cons_append, List.nil_append, List.append_nil] at q0 q1 q2
  refine bodyPost_ret (v := .agg #[.int .i64 2, .int .i64 2, .slice (some ⟨w1.heap.size, 0, none⟩) 4 4]) (by simp [results, Tryd.results4, go_sem, q0, q1, q2]) rfl ?_
  exact ⟨_, rfl, hK, Nat.le_of_lt hz, hB⟩

set_option maxRecDepth 100000 in
set_option maxHeartbeats 1000000 in
theorem eveK_any (w : World) : Calls Tryd.prog 5 #[] w fun e w' => ∃ g, e = .returned (.agg #[.int .i64 1, .int .i64 1, .slice (some ⟨g, 0, none⟩) 1 1]) ∧ Blk w' g 31 (cellsS eveL) ∧ w.heap.size ≤ g ∧ Below w.heap.size w w' := by
  have h0 : Mk w w.heap.size 24 #[.int .i64 0, .int .i64 0, .slice none 0 0] (w.alloc (.cells #[.int .i64 0, .int .i64 0, .slice none 0 0] 24)) := ⟨by go_grown, Blk.new _ _ _⟩
  go_enter Tryd.func5, Tryd.ntmps5
  go_wp2_with (go_at_call 7; refine (lone_mk _ w _ w.heap.size 24 #[.int .i64 0, .int .i64 0, .slice none 0 0] (by assumption)).mono ?_; rintro e w1 ⟨rfl, hm⟩; obtain ⟨f0, f1, f2, c0, c1, c2, hz⟩ := Mk.facts hm)
  obtain ⟨hR, _, hB⟩ := hm.book (.int .i64 1) (.int .i64 1) (.slice (some ⟨w1.heap.size, 0, none⟩) 1 1) eveL (eveL.flatMap encS).toArray rfl 31
  have hK := hm.rows (.int .i64 1) (.int .i64 1) (.slice (some ⟨w1.heap.size, 0, none⟩) 1 1) (eveL.flatMap encS).toArray 31
  have q0 := hR.cell 0
  have q1 := hR.cell 1
  have q2 := hR.cell 2
  simp only [eveL, List.flatMap_cons, List.flatMap_nil, encS, List.cons_append, List.nil_append, List.append_nil] at q0 q1 q2
  refine bodyPost_ret (v := .agg #[.int .i64 1, .int .i64 1, .slice (some ⟨w1.heap.size, 0, none⟩) 1 1]) (by simp [results, Tryd.results5, go_sem, q0, q1, q2]) rfl ?_
  exact ⟨_, rfl, hK, Nat.le_of_lt hz, hB⟩

/-- a book with its sales -/
structure BkA (W : World) (p g : Nat) (st gd : Int) (n : Nat) (l : List Sale) : Prop where
  hd : Blk W p 24 #[.int .i64 st, .int .i64 gd, .slice (some ⟨g, 0, none⟩) n n]
  rw : Blk W g 31 (cellsS l)
theorem BkA.below {W W' : World} {p g : Nat} {st gd : Int} {n : Nat} {l : List Sale} (h : BkA W p g st gd n l) (hb : Below W.heap.size W W') : BkA W' p g st gd n l := ⟨h.hd.below hb h.hd.lt, h.rw.below hb h.rw.lt⟩
theorem BkA.sl {W : World} {p g : Nat} {st gd : Int} {n : Nat} {l : List Sale} (h : BkA W p g st gd n l) : Sl encS 6 W g (some ⟨g, 0, none⟩) l.length l := Sl.of_blkA encS_len h.rw rfl

/-- what the lists of the law hold -/
def PK5 (g3 g4 : Nat) (i : Nat) (v : Value) (W : World) : Prop :=
  match i with
  | 1 => ∃ g, v = .agg #[.int .i64 2, .int .i64 2, .slice (some ⟨g, 0, none⟩) 4 4] ∧ Blk W g 31 (cellsS dayL)
  | 2 => ∃ g, v = .agg #[.int .i64 1, .int .i64 1, .slice (some ⟨g, 0, none⟩) 1 1] ∧ Blk W g 31 (cellsS eveL)
  | 4 | 12 => ∃ g d e, v = .slice (some ⟨g, 0, none⟩) 4 4 ∧ Blk W g 24 #[.int .i64 2, .int .i64 2, .slice (some ⟨g3, 0, none⟩) 4 4, .int .i64 2, .int .i64 2, .slice (some ⟨d, 0, none⟩) 4 4, .int .i64 1, .int .i64 1, .slice (some ⟨e, 0, none⟩) 1 1, .int .i64 1, .int .i64 1, .slice (some ⟨g4, 0, none⟩) 1 1] ∧ Blk W d 31 (cellsS dayL) ∧ Blk W e 31 (cellsS eveL)
  | 5 | 13 => ∃ g, v = .slice (some ⟨g, 0, none⟩) 4 4 ∧ Blk W g 3 #[.int .i64 0, .int .i64 1, .int .i64 0, .int .i64 0]
  | 6 | 14 => ∃ g, v = .slice (some ⟨g, 0, none⟩) 4 4 ∧ Blk W g 3 #[.int .i64 1, .int .i64 3, .int .i64 1, .int .i64 2]
  | 7 => v = .agg #[.int .i64 500, .int .i64 700]
  | 8 => v = .agg #[.int .i64 50, .int .i64 60]
  | 9 => v = .agg #[.int .i64 20, .int .i64 20]
  | 10 => v = .agg #[.int .i64 0, .int .i64 0]
  | 11 | 15 => ∃ g, v = .slice (some ⟨g, 0, none⟩) 4 4 ∧ Blk W g 27 #[.int .i64 500, .int .i64 700, .int .i64 50, .int .i64 60, .int .i64 20, .int .i64 20, .int .i64 0, .int .i64 0]
  | _ => True
theorem PK5_below (g3 g4 : Nat) : ∀ (i : Nat) (v : Value) (W W' : World), PK5 g3 g4 i v W → Below W.heap.size W W' → PK5 g3 g4 i v W' := by
  intro i v W W' h hb
  unfold PK5 at h ⊢
  split
  · obtain ⟨g, h1, h2⟩ := h; exact ⟨g, h1, h2.below hb h2.lt⟩
  · obtain ⟨g, h1, h2⟩ := h; exact ⟨g, h1, h2.below hb h2.lt⟩
  · obtain ⟨g, d, e, h1, h2, h3, h4⟩ := h; exact ⟨g, d, e, h1, h2.below hb h2.lt, h3.below hb h3.lt, h4.below hb h4.lt⟩
  · obtain ⟨g, d, e, h1, h2, h3, h4⟩ := h; exact ⟨g, d, e, h1, h2.below hb h2.lt, h3.below hb h3.lt, h4.below hb h4.lt⟩
  · obtain ⟨g, h1, h2⟩ := h; exact ⟨g, h1, h2.below hb h2.lt⟩
  · obtain ⟨g, h1, h2⟩ := h; exact ⟨g, h1, h2.below hb h2.lt⟩
  · obtain ⟨g, h1, h2⟩ := h; exact ⟨g, h1, h2.below hb h2.lt⟩
  · obtain ⟨g, h1, h2⟩ := h; exact ⟨g, h1, h2.below hb h2.lt⟩
  · exact h
  · exact h
  · exact h
  · exact h
  · obtain ⟨g, h1, h2⟩ := h; exact ⟨g, h1, h2.below hb h2.lt⟩
  · obtain ⟨g, h1, h2⟩ := h; exact ⟨g, h1, h2.below hb h2.lt⟩
  · trivial
theorem aud_found {w w' : World} {e : Ending} (h : AudPost 2 2 (0, foundL) w e w') : ∃ (A : Option Addr) (c b : Nat), e = .returned (.tuple #[.agg #[.int .i64 2, .int .i64 2, .slice A 4 c], .int .i64 0]) ∧ Sl encS 6 w' b A 4 foundL ∧ Below w.heap.size w w' := by
  obtain ⟨A, m, c, b, h1, h2, _, h4⟩ := h
  obtain rfl : m = 4 := h2.len
  exact ⟨A, c, b, h1, h2, h4⟩
theorem aud_clash {w w' : World} {e : Ending} (h : AudPost 2 2 (9, []) w e w') : ∃ (A : Option Addr) (c : Nat), e = .returned (.tuple #[.agg #[.int .i64 0, .int .i64 0, .slice A 0 c], .int .i64 9]) ∧ Below w.heap.size w w' := by
  obtain ⟨A, m, c, b, h1, h2, _, h4⟩ := h
  obtain rfl : m = 0 := h2.len
  exact ⟨A, c, h1, h4⟩
/-- what price says of a book -/
structure PrK (W : World) (x : BookD) (y v : Int) (q : Span) : Prop where
  sl : Sl encS 6 W x.b x.A x.n x.l
  le : x.n ≤ 10
  err : priceErr x.st x.gd y x.l = 0
  out : priceOut x.st x.gd y x.l = (v, q.lo, q.hi)
theorem Arr.atR {d : Nat} {l : List Span} {W : World} {g : Nat} (h : Arr encR 2 d l W g) {k : Nat} (hk : k < l.length) : W.cell? ⟨g, k * 2, none⟩ = some (.int .i64 l[k].lo) ∧ W.cell? ⟨g, k * 2 + 1, none⟩ = some (.int .i64 l[k].hi) := by
  obtain ⟨o, ho, hz, h0, h1⟩ := h.2.atR hk
  obtain rfl : 0 = o := by injection ho with ho; injection ho
  simp only [Nat.zero_add] at h0 h1
  exact ⟨h0, h1⟩
/-- the four books of the law -/
structure KB (w : World) (p g1 g2 g3 g4 : Nat) (l1 l2 l3 l4 : Array Value) (W : World) : Prop where
  low : Below w.heap.size w W
  h1 : Blk W p 24 #[.int .i64 2, .int .i64 2, .slice (some ⟨g1, 0, none⟩) 4 4]
  h2 : Blk W (p + 1) 24 #[.int .i64 2, .int .i64 2, .slice (some ⟨g2, 0, none⟩) 4 4]
  h3 : Blk W (p + 1 + 1) 24 #[.int .i64 2, .int .i64 2, .slice (some ⟨g3, 0, none⟩) 4 4]
  h4 : Blk W (p + 1 + 1 + 1) 24 #[.int .i64 1, .int .i64 1, .slice (some ⟨g4, 0, none⟩) 1 1]
  r1 : Blk W g1 31 l1
  r2 : Blk W g2 31 l2
  r3 : Blk W g3 31 l3
  r4 : Blk W g4 31 l4
  z0 : w.heap.size ≤ g1
  z1 : g1 < g2
  z2 : g2 < g3
  z3 : g3 < g4
  z4 : g4 < p
section
variable {w W W' : World} {p g1 g2 g3 g4 : Nat} {l1 l2 l3 l4 : Array Value}
theorem KB.below (h : KB w p g1 g2 g3 g4 l1 l2 l3 l4 W) (hb : Below W.heap.size W W') : KB w p g1 g2 g3 g4 l1 l2 l3 l4 W' :=
  ⟨Below.step hb h.low (Nat.le_refl _), h.h1.below hb h.h1.lt, h.h2.below hb h.h2.lt, h.h3.below hb h.h3.lt, h.h4.below hb h.h4.lt, h.r1.below hb h.r1.lt, h.r2.below hb h.r2.lt, h.r3.below hb h.r3.lt, h.r4.below hb h.r4.lt, h.z0, h.z1, h.z2, h.z3, h.z4⟩
theorem KB.drew (h : KB w p g1 g2 g3 g4 l1 l2 l3 l4 W) : KB w p g1 g2 g3 g4 l1 l2 l3 l4 W.drew := h.below (Below.refl _ W).drew
theorem KB.cells (h : KB w p g1 g2 g3 g4 l1 l2 l3 l4 W) : W.cell? ⟨p, 2, none⟩ = some (.slice (some ⟨g1, 0, none⟩) 4 4) ∧ W.cell? ⟨p + 1, 2, none⟩ = some (.slice (some ⟨g2, 0, none⟩) 4 4) ∧ W.cell? ⟨p + 1 + 1, 2, none⟩ = some (.slice (some ⟨g3, 0, none⟩) 4 4) ∧ W.cell? ⟨p + 1 + 1 + 1, 2, none⟩ = some (.slice (some ⟨g4, 0, none⟩) 1 1) :=
  ⟨h.h1.cell 2, h.h2.cell 2, h.h3.cell 2, h.h4.cell 2⟩
theorem KB.heads (h : KB w p g1 g2 g3 g4 l1 l2 l3 l4 W) : (W.cell? ⟨p + 1 + 1, 0, none⟩ = some (.int .i64 2) ∧ W.cell? ⟨p + 1 + 1, 1, none⟩ = some (.int .i64 2) ∧ W.cell? ⟨p + 1 + 1, 2, none⟩ = some (.slice (some ⟨g3, 0, none⟩) 4 4)) ∧ (W.cell? ⟨p + 1 + 1 + 1, 0, none⟩ = some (.int .i64 1) ∧ W.cell? ⟨p + 1 + 1 + 1, 1, none⟩ = some (.int .i64 1) ∧ W.cell? ⟨p + 1 + 1 + 1, 2, none⟩ = some (.slice (some ⟨g4, 0, none⟩) 1 1)) :=
  ⟨⟨h.h3.cell 0, h.h3.cell 1, h.h3.cell 2⟩, ⟨h.h4.cell 0, h.h4.cell 1, h.h4.cell 2⟩⟩
theorem KB.set1 (h : KB w p g1 g2 g3 g4 l1 l2 l3 l4 W) (k : Nat) (v : Value) : KB w p g1 g2 g3 g4 (l1.setIfInBounds k v) l2 l3 l4 (W.setCell ⟨g1, k, none⟩ v) :=
  ⟨h.low.setCell (p := ⟨g1, k, none⟩) (by have h0 := h.z0; have h1 := h.z1; have h2 := h.z2; have h3 := h.z3; show w.heap.size ≤ g1; omega) v, h.h1.grown (only_setCell (only_refl W g1) (.inl rfl) v) (fun e => by have h0 := h.z0; have h1 := h.z1; have h2 := h.z2; have h3 := h.z3; have h4 := h.z4; injection e; omega), h.h2.grown (only_setCell (only_refl W g1) (.inl rfl) v) (fun e => by have h0 := h.z0; have h1 := h.z1; have h2 := h.z2; have h3 := h.z3; have h4 := h.z4; injection e; omega), h.h3.grown (only_setCell (only_refl W g1) (.inl rfl) v) (fun e => by have h0 := h.z0; have h1 := h.z1; have h2 := h.z2; have h3 := h.z3; have h4 := h.z4; injection e; omega), h.h4.grown (only_setCell (only_refl W g1) (.inl rfl) v) (fun e => by have h0 := h.z0; have h1 := h.z1; have h2 := h.z2; have h3 := h.z3; have h4 := h.z4; injection e; omega), h.r1.set_ k v, h.r2.grown (only_setCell (only_refl W g1) (.inl rfl) v) (fun e => by have h0 := h.z0; have h1 := h.z1; have h2 := h.z2; have h3 := h.z3; have h4 := h.z4; injection e; omega), h.r3.grown (only_setCell (only_refl W g1) (.inl rfl) v) (fun e => by have h0 := h.z0; have h1 := h.z1; have h2 := h.z2; have h3 := h.z3; have h4 := h.z4; injection e; omega), h.r4.grown (only_setCell (only_refl W g1) (.inl rfl) v) (fun e => by have h0 := h.z0; have h1 := h.z1; have h2 := h.z2; have h3 := h.z3; have h4 := h.z4; injection e; omega), h.z0, h.z1, h.z2, h.z3, h.z4⟩
theorem KB.set2 (h : KB w p g1 g2 g3 g4 l1 l2 l3 l4 W) (k : Nat) (v : Value) : KB w p g1 g2 g3 g4 l1 (l2.setIfInBounds k v) l3 l4 (W.setCell ⟨g2, k, none⟩ v) :=
  ⟨h.low.setCell (p := ⟨g2, k, none⟩) (by have h0 := h.z0; have h1 := h.z1; have h2 := h.z2; have h3 := h.z3; show w.heap.size ≤ g2; omega) v, h.h1.grown (only_setCell (only_refl W g2) (.inl rfl) v) (fun e => by have h0 := h.z0; have h1 := h.z1; have h2 := h.z2; have h3 := h.z3; have h4 := h.z4; injection e; omega), h.h2.grown (only_setCell (only_refl W g2) (.inl rfl) v) (fun e => by have h0 := h.z0; have h1 := h.z1; have h2 := h.z2; have h3 := h.z3; have h4 := h.z4; injection e; omega), h.h3.grown (only_setCell (only_refl W g2) (.inl rfl) v) (fun e => by have h0 := h.z0; have h1 := h.z1; have h2 := h.z2; have h3 := h.z3; have h4 := h.z4; injection e; omega), h.h4.grown (only_setCell (only_refl W g2) (.inl rfl) v) (fun e => by have h0 := h.z0; have h1 := h.z1; have h2 := h.z2; have h3 := h.z3; have h4 := h.z4; injection e; omega), h.r1.grown (only_setCell (only_refl W g2) (.inl rfl) v) (fun e => by have h0 := h.z0; have h1 := h.z1; have h2 := h.z2; have h3 := h.z3; have h4 := h.z4; injection e; omega), h.r2.set_ k v, h.r3.grown (only_setCell (only_refl W g2) (.inl rfl) v) (fun e => by have h0 := h.z0; have h1 := h.z1; have h2 := h.z2; have h3 := h.z3; have h4 := h.z4; injection e; omega), h.r4.grown (only_setCell (only_refl W g2) (.inl rfl) v) (fun e => by have h0 := h.z0; have h1 := h.z1; have h2 := h.z2; have h3 := h.z3; have h4 := h.z4; injection e; omega), h.z0, h.z1, h.z2, h.z3, h.z4⟩
theorem KB.set3 (h : KB w p g1 g2 g3 g4 l1 l2 l3 l4 W) (k : Nat) (v : Value) : KB w p g1 g2 g3 g4 l1 l2 (l3.setIfInBounds k v) l4 (W.setCell ⟨g3, k, none⟩ v) :=
  ⟨h.low.setCell (p := ⟨g3, k, none⟩) (by have h0 := h.z0; have h1 := h.z1; have h2 := h.z2; have h3 := h.z3; show w.heap.size ≤ g3; omega) v, h.h1.grown (only_setCell (only_refl W g3) (.inl rfl) v) (fun e => by have h0 := h.z0; have h1 := h.z1; have h2 := h.z2; have h3 := h.z3; have h4 := h.z4; injection e; omega), h.h2.grown (only_setCell (only_refl W g3) (.inl rfl) v) (fun e => by have h0 := h.z0; have h1 := h.z1; have h2 := h.z2; have h3 := h.z3; have h4 := h.z4; injection e; omega), h.h3.grown (only_setCell (only_refl W g3) (.inl rfl) v) (fun e => by have h0 := h.z0; have h1 := h.z1; have h2 := h.z2; have h3 := h.z3; have h4 := h.z4; injection e; omega), h.h4.grown (only_setCell (only_refl W g3) (.inl rfl) v) (fun e => by have h0 := h.z0; have h1 := h.z1; have h2 := h.z2; have h3 := h.z3; have h4 := h.z4; injection e; omega), h.r1.grown (only_setCell (only_refl W g3) (.inl rfl) v) (fun e => by have h0 := h.z0; have h1 := h.z1; have h2 := h.z2; have h3 := h.z3; have h4 := h.z4; injection e; omega), h.r2.grown (only_setCell (only_refl W g3) (.inl rfl) v) (fun e => by have h0 := h.z0; have h1 := h.z1; have h2 := h.z2; have h3 := h.z3; have h4 := h.z4; injection e; omega), h.r3.set_ k v, h.r4.grown (only_setCell (only_refl W g3) (.inl rfl) v) (fun e => by have h0 := h.z0; have h1 := h.z1; have h2 := h.z2; have h3 := h.z3; have h4 := h.z4; injection e; omega), h.z0, h.z1, h.z2, h.z3, h.z4⟩
theorem KB.set4 (h : KB w p g1 g2 g3 g4 l1 l2 l3 l4 W) (k : Nat) (v : Value) : KB w p g1 g2 g3 g4 l1 l2 l3 (l4.setIfInBounds k v) (W.setCell ⟨g4, k, none⟩ v) :=
  ⟨h.low.setCell (p := ⟨g4, k, none⟩) (by have h0 := h.z0; have h1 := h.z1; have h2 := h.z2; have h3 := h.z3; show w.heap.size ≤ g4; omega) v, h.h1.grown (only_setCell (only_refl W g4) (.inl rfl) v) (fun e => by have h0 := h.z0; have h1 := h.z1; have h2 := h.z2; have h3 := h.z3; have h4 := h.z4; injection e; omega), h.h2.grown (only_setCell (only_refl W g4) (.inl rfl) v) (fun e => by have h0 := h.z0; have h1 := h.z1; have h2 := h.z2; have h3 := h.z3; have h4 := h.z4; injection e; omega), h.h3.grown (only_setCell (only_refl W g4) (.inl rfl) v) (fun e => by have h0 := h.z0; have h1 := h.z1; have h2 := h.z2; have h3 := h.z3; have h4 := h.z4; injection e; omega), h.h4.grown (only_setCell (only_refl W g4) (.inl rfl) v) (fun e => by have h0 := h.z0; have h1 := h.z1; have h2 := h.z2; have h3 := h.z3; have h4 := h.z4; injection e; omega), h.r1.grown (only_setCell (only_refl W g4) (.inl rfl) v) (fun e => by have h0 := h.z0; have h1 := h.z1; have h2 := h.z2; have h3 := h.z3; have h4 := h.z4; injection e; omega), h.r2.grown (only_setCell (only_refl W g4) (.inl rfl) v) (fun e => by have h0 := h.z0; have h1 := h.z1; have h2 := h.z2; have h3 := h.z3; have h4 := h.z4; injection e; omega), h.r3.grown (only_setCell (only_refl W g4) (.inl rfl) v) (fun e => by have h0 := h.z0; have h1 := h.z1; have h2 := h.z2; have h3 := h.z3; have h4 := h.z4; injection e; omega), h.r4.set_ k v, h.z0, h.z1, h.z2, h.z3, h.z4⟩
theorem KB.new (hL : Below w.heap.size w W) (z0 : w.heap.size ≤ g1) (z1 : g1 < g2) (z2 : g2 < g3) (z3 : g3 < g4) (r1 : Blk W g1 31 l1) (r2 : Blk W g2 31 l2) (r3 : Blk W g3 31 l3) (r4 : Blk W g4 31 l4) :
    KB w W.heap.size g1 g2 g3 g4 l1 l2 l3 l4 ((((W.alloc (.cells #[.int .i64 2, .int .i64 2, .slice (some ⟨g1, 0, none⟩) 4 4] 24)).alloc (.cells #[.int .i64 2, .int .i64 2, .slice (some ⟨g2, 0, none⟩) 4 4] 24)).alloc (.cells #[.int .i64 2, .int .i64 2, .slice (some ⟨g3, 0, none⟩) 4 4] 24)).alloc (.cells #[.int .i64 1, .int .i64 1, .slice (some ⟨g4, 0, none⟩) 1 1] 24)) := by
  have n1 := Blk.new W 24 #[.int .i64 2, .int .i64 2, .slice (some ⟨g1, 0, none⟩) 4 4]
  have n2 := Blk.new (W.alloc (.cells #[.int .i64 2, .int .i64 2, .slice (some ⟨g1, 0, none⟩) 4 4] 24)) 24 #[.int .i64 2, .int .i64 2, .slice (some ⟨g2, 0, none⟩) 4 4]
  have n3 := Blk.new ((W.alloc (.cells #[.int .i64 2, .int .i64 2, .slice (some ⟨g1, 0, none⟩) 4 4] 24)).alloc (.cells #[.int .i64 2, .int .i64 2, .slice (some ⟨g2, 0, none⟩) 4 4] 24)) 24 #[.int .i64 2, .int .i64 2, .slice (some ⟨g3, 0, none⟩) 4 4]
  have n4 := Blk.new (((W.alloc (.cells #[.int .i64 2, .int .i64 2, .slice (some ⟨g1, 0, none⟩) 4 4] 24)).alloc (.cells #[.int .i64 2, .int .i64 2, .slice (some ⟨g2, 0, none⟩) 4 4] 24)).alloc (.cells #[.int .i64 2, .int .i64 2, .slice (some ⟨g3, 0, none⟩) 4 4] 24)) 24 #[.int .i64 1, .int .i64 1, .slice (some ⟨g4, 0, none⟩) 1 1]
  simp only [World.size_alloc] at n2 n3 n4
  have hz := hL.size
  exact ⟨(((hL.alloc hz _).alloc (by rw [World.size_alloc]; omega) _).alloc (by simp only [World.size_alloc]; omega) _).alloc (by simp only [World.size_alloc]; omega) _, ((n1.alloc _).alloc _).alloc _, (n2.alloc _).alloc _, n3.alloc _, n4, (((r1.alloc _).alloc _).alloc _).alloc _, (((r2.alloc _).alloc _).alloc _).alloc _, (((r3.alloc _).alloc _).alloc _).alloc _, (((r4.alloc _).alloc _).alloc _).alloc _, z0, z1, z2, z3, r4.lt⟩
end

set_option maxRecDepth 100000 in
set_option maxHeartbeats 4000000 in
theorem priceKnown_any (w : World) (hp : Pow w) : Calls Tryd.prog 3 #[] w fun e w' => e = .returned (.bool true) ∧ Below w.heap.size w w' := by
  have HP := Lib.hid hp
  clear hp
  go_enter Tryd.func3, Tryd.ntmps3
  go_wp2_with fail
  refine (dayK_any w).mono ?_
  rintro e w1 ⟨g1, rfl, hk1, hg1, hB1⟩
  go_wp2_with fail
  refine (dayK_any w1).mono ?_
  rintro e w2 ⟨g2, rfl, hk2, hg2, hB2⟩
  have k12 := hk1.below hB2 hk1.lt
  have B12 := Below.step hB2 hB1 (Nat.le_refl _)
  have l1 := hk1.lt
  clear hk1 hB1 hB2
  go_wp2_with fail
  refine (dayK_any w2).mono ?_
  rintro e w3 ⟨g3, rfl, hk3, hg3, hB3⟩
  have k13 := k12.below hB3 k12.lt
  have k23 := hk2.below hB3 hk2.lt
  have B13 := Below.step hB3 B12 (Nat.le_refl _)
  have l2 := hk2.lt
  clear k12 hk2 hB3 B12
  go_wp2_with fail
  refine (eveK_any w3).mono ?_
  rintro e w4 ⟨g4, rfl, hk4, hg4, hB4⟩
  have k14 := k13.below hB4 k13.lt
  have k24 := k23.below hB4 k23.lt
  have k34 := hk3.below hB4 hk3.lt
  have B14 := Lib.hid (Below.step hB4 B13 (Nat.le_refl _))
  have l3 := hk3.lt
  have l4 := hk4.lt
  have z4 := hB4.size
  clear k13 k23 hk3 hB4 B13
  go_upto_region 2 with fail
  have HK0 := Lib.hid (KB.new B14.out hg1 (by omega) (by omega) (by omega) k14 k24 k34 hk4).drew
  clear k14 k24 k34 hk4 l1 l2 l3 l4 z4 hg1 hg2 hg3 hg4
  generalize hwA : ((((w4.alloc (.cells #[.int .i64 2, .int .i64 2, .slice (some ⟨g1, 0, none⟩) 4 4] 24)).alloc (.cells #[.int .i64 2, .int .i64 2, .slice (some ⟨g2, 0, none⟩) 4 4] 24)).alloc (.cells #[.int .i64 2, .int .i64 2, .slice (some ⟨g3, 0, none⟩) 4 4] 24)).alloc (.cells #[.int .i64 1, .int .i64 1, .slice (some ⟨g4, 0, none⟩) 1 1] 24)) = wA at HK0 ⊢
  generalize w4.heap.size = p at HK0 ⊢
  clear hwA B14
  refine wp_region_PL [1, 3, 5, 7] (fun W => W.cell? ⟨p, 2, none⟩ = some (.slice (some ⟨g1, 0, none⟩) 4 4) ∧ W.cell? ⟨p + 1, 2, none⟩ = some (.slice (some ⟨g2, 0, none⟩) 4 4) ∧ W.cell? ⟨p + 1 + 1, 2, none⟩ = some (.slice (some ⟨g3, 0, none⟩) 4 4) ∧ W.cell? ⟨p + 1 + 1 + 1, 2, none⟩ = some (.slice (some ⟨g4, 0, none⟩) 1 1)) rfl (by kernel_rfl) (HK0.out.cells) (fun hF0 => ?_)
  (refine wpAnyP_takeL (i := 0) (v := ?_) rfl (by kernel_rfl) (by kernel_rfl) (by kernel_rfl) (fun _ _ _ h => h) (by rfl) ?_ ?_; rotate_left 1; focus (intro w; go_simp; try with_reducible rfl))
  try simp only [Act.put, List.setIfInBounds_toArray, List.set_cons_zero, List.set_cons_succ]
  (refine wpAnyP_loadL (i := 1) (v := ?_) rfl (by kernel_rfl) (by kernel_rfl) (by kernel_rfl) (by rfl) (fun _ _ _ h => h) hF0 (by rfl) ?_ ?_; rotate_left 1; focus (intro w hFw; (try dsimp only at hFw); go_split_ands; go_simp; try with_reducible rfl))
  try simp only [Act.put, List.setIfInBounds_toArray, List.set_cons_zero, List.set_cons_succ]
  (refine wpAnyP_takeL (i := 2) (v := ?_) rfl (by kernel_rfl) (by kernel_rfl) (by kernel_rfl) (fun _ _ _ h => h) (by rfl) ?_ ?_; rotate_left 1; focus (intro w; go_simp; try with_reducible rfl))
  try simp only [Act.put, List.setIfInBounds_toArray, List.set_cons_zero, List.set_cons_succ]
  (refine wpAnyP_loadL (i := 3) (v := ?_) rfl (by kernel_rfl) (by kernel_rfl) (by kernel_rfl) (by rfl) (fun _ _ _ h => h) hF0 (by rfl) ?_ ?_; rotate_left 1; focus (intro w hFw; (try dsimp only at hFw); go_split_ands; go_simp; try with_reducible rfl))
  try simp only [Act.put, List.setIfInBounds_toArray, List.set_cons_zero, List.set_cons_succ]
  (refine wpAnyP_takeL (i := 4) (v := ?_) rfl (by kernel_rfl) (by kernel_rfl) (by kernel_rfl) (fun _ _ _ h => h) (by rfl) ?_ ?_; rotate_left 1; focus (intro w; go_simp; try with_reducible rfl))
  try simp only [Act.put, List.setIfInBounds_toArray, List.set_cons_zero, List.set_cons_succ]
  (refine wpAnyP_loadL (i := 5) (v := ?_) rfl (by kernel_rfl) (by kernel_rfl) (by kernel_rfl) (by rfl) (fun _ _ _ h => h) hF0 (by rfl) ?_ ?_; rotate_left 1; focus (intro w hFw; (try dsimp only at hFw); go_split_ands; go_simp; try with_reducible rfl))
  try simp only [Act.put, List.setIfInBounds_toArray, List.set_cons_zero, List.set_cons_succ]
  (refine wpAnyP_takeL (i := 6) (v := ?_) rfl (by kernel_rfl) (by kernel_rfl) (by kernel_rfl) (fun _ _ _ h => h) (by rfl) ?_ ?_; rotate_left 1; focus (intro w; go_simp; try with_reducible rfl))
  try simp only [Act.put, List.setIfInBounds_toArray, List.set_cons_zero, List.set_cons_succ]
  (refine wpAnyP_loadL (i := 7) (v := ?_) rfl (by kernel_rfl) (by kernel_rfl) (by kernel_rfl) (by rfl) (fun _ _ _ h => h) hF0 (by rfl) ?_ ?_; rotate_left 1; focus (intro w hFw; (try dsimp only at hFw); go_split_ands; go_simp; try with_reducible rfl))
  try simp only [Act.put, List.setIfInBounds_toArray, List.set_cons_zero, List.set_cons_succ]
  refine wpAnyP_step (i := 8) rfl (by kernel_rfl) (by rfl) (fun K hK => ?_)
  go_simp
  (refine (span_any _ _ _).mono ?_; rintro e w5 ⟨rfl, hB5⟩; have HK1 := Lib.hid (HK0.out.below hB5); clear hB5)
  (refine hK _ _ (HK1.out.cells) (fun hF1 => ?_); clear hK K hF0)
  try simp only [Act.put, List.setIfInBounds_toArray, List.set_cons_zero, List.set_cons_succ]
  refine wpAnyP_step (i := 9) rfl (by kernel_rfl) (by rfl) (fun K hK => ?_)
  go_simp
  (refine (span_any _ _ _).mono ?_; rintro e w6 ⟨rfl, hB6⟩; have HK2 := Lib.hid (HK1.out.below hB6); clear hB6)
  (refine hK _ _ (HK2.out.cells) (fun hF2 => ?_); clear hK K hF1)
  try simp only [Act.put, List.setIfInBounds_toArray, List.set_cons_zero, List.set_cons_succ]
  refine wpAnyP_step (i := 10) rfl (by kernel_rfl) (by rfl) (fun K hK => ?_)
  go_simp
  (refine (lone_any _ _).mono ?_; rintro e w7 ⟨rfl, hB7⟩; have HK3 := Lib.hid (HK2.out.below hB7); clear hB7; have cr1_19 : w7.cell? ⟨g1, 19, none⟩ = some (.int .i64 1) := HK3.out.r1.cell 19; have fr1_19 := HK3.out.r1.frozen 19; have cr2_22 : w7.cell? ⟨g2, 22, none⟩ = some (.int .i64 50) := HK3.out.r2.cell 22; have fr2_22 := HK3.out.r2.frozen 22; have cr2_23 : w7.cell? ⟨g2, 23, none⟩ = some (.int .i64 60) := HK3.out.r2.cell 23; have fr2_23 := HK3.out.r2.frozen 23; have cr3_8 : w7.cell? ⟨g3, 8, none⟩ = some (.int .i64 2000) := HK3.out.r3.cell 8; have fr3_8 := HK3.out.r3.frozen 8; have cr3_9 : w7.cell? ⟨g3, 9, none⟩ = some (.int .i64 3000) := HK3.out.r3.cell 9; have fr3_9 := HK3.out.r3.frozen 9; have cr4_2 : w7.cell? ⟨g4, 2, none⟩ = some (.int .i64 5) := HK3.out.r4.cell 2; have fr4_2 := HK3.out.r4.frozen 2; have cr4_3 : w7.cell? ⟨g4, 3, none⟩ = some (.int .i64 5) := HK3.out.r4.cell 3; have fr4_3 := HK3.out.r4.frozen 3; have zz1 := HK3.out.z1; have zz2 := HK3.out.z2; have zz3 := HK3.out.z3; have n12 : g1 ≠ g2 := (by omega); have n13 : g1 ≠ g3 := (by omega); have n14 : g1 ≠ g4 := (by omega); have n21 : g2 ≠ g1 := (by omega); have n23 : g2 ≠ g3 := (by omega); have n24 : g2 ≠ g4 := (by omega); have n31 : g3 ≠ g1 := (by omega); have n32 : g3 ≠ g2 := (by omega); have n34 : g3 ≠ g4 := (by omega); have n41 : g4 ≠ g1 := (by omega); have n42 : g4 ≠ g2 := (by omega); have n43 : g4 ≠ g3 := (by omega); clear zz1 zz2 zz3)
  (refine hK _ _ (HK3.out.cells) (fun hF3 => ?_); clear hK K hF2)
  try simp only [Act.put, List.setIfInBounds_toArray, List.set_cons_zero, List.set_cons_succ]
  (refine wpAnyP_takeL (i := 11) (v := ?_) rfl (by kernel_rfl) (by kernel_rfl) (by kernel_rfl) (fun _ _ _ h => h) (by rfl) ?_ ?_; rotate_left 1; focus (intro w; go_simp; try with_reducible rfl))
  try simp only [Act.put, List.setIfInBounds_toArray, List.set_cons_zero, List.set_cons_succ]
  (refine wpAnyP_takeL (i := 12) (v := ?_) rfl (by kernel_rfl) (by kernel_rfl) (by kernel_rfl) (fun _ _ _ h => h) (by rfl) ?_ ?_; rotate_left 1; focus (intro w; go_simp; try with_reducible rfl))
  try simp only [Act.put, List.setIfInBounds_toArray, List.set_cons_zero, List.set_cons_succ]
  refine wpAnyP_step (i := 13) rfl (by kernel_rfl) (by rfl) (fun K hK => ?_)
  go_simp
  (have HK4 := Lib.hid (HK3.out.set1 19 (.int .i64 2)))
  (refine hK _ _ (HK4.out.cells) (fun hF4 => ?_); clear hK K hF3)
  try simp only [Act.put, List.setIfInBounds_toArray, List.set_cons_zero, List.set_cons_succ]
  (refine wpAnyP_takeL (i := 14) (v := ?_) rfl (by kernel_rfl) (by kernel_rfl) (by kernel_rfl) (fun _ _ _ h => h) (by rfl) ?_ ?_; rotate_left 1; focus (intro w; go_simp; try with_reducible rfl))
  try simp only [Act.put, List.setIfInBounds_toArray, List.set_cons_zero, List.set_cons_succ]
  (refine wpAnyP_takeL (i := 15) (v := ?_) rfl (by kernel_rfl) (by kernel_rfl) (by kernel_rfl) (fun _ _ _ h => h) (by rfl) ?_ ?_; rotate_left 1; focus (intro w; go_simp; try with_reducible rfl))
  try simp only [Act.put, List.setIfInBounds_toArray, List.set_cons_zero, List.set_cons_succ]
  refine wpAnyP_step (i := 16) rfl (by kernel_rfl) (by rfl) (fun K hK => ?_)
  go_simp
  (have HK5 := Lib.hid ((HK4.out.set2 22 (.int .i64 60)).set2 23 (.int .i64 50)))
  (refine hK _ _ (HK5.out.cells) (fun hF5 => ?_); clear hK K hF4)
  try simp only [Act.put, List.setIfInBounds_toArray, List.set_cons_zero, List.set_cons_succ]
  (refine wpAnyP_takeL (i := 17) (v := ?_) rfl (by kernel_rfl) (by kernel_rfl) (by kernel_rfl) (fun _ _ _ h => h) (by rfl) ?_ ?_; rotate_left 1; focus (intro w; go_simp; try with_reducible rfl))
  try simp only [Act.put, List.setIfInBounds_toArray, List.set_cons_zero, List.set_cons_succ]
  (refine wpAnyP_takeL (i := 18) (v := ?_) rfl (by kernel_rfl) (by kernel_rfl) (by kernel_rfl) (fun _ _ _ h => h) (by rfl) ?_ ?_; rotate_left 1; focus (intro w; go_simp; try with_reducible rfl))
  try simp only [Act.put, List.setIfInBounds_toArray, List.set_cons_zero, List.set_cons_succ]
  refine wpAnyP_step (i := 19) rfl (by kernel_rfl) (by rfl) (fun K hK => ?_)
  go_simp
  (have HK6 := Lib.hid ((HK5.out.set3 8 (.int .i64 500)).set3 9 (.int .i64 3000)))
  (refine hK _ _ (HK6.out.cells) (fun hF6 => ?_); clear hK K hF5)
  try simp only [Act.put, List.setIfInBounds_toArray, List.set_cons_zero, List.set_cons_succ]
  (refine wpAnyP_takeL (i := 20) (v := ?_) rfl (by kernel_rfl) (by kernel_rfl) (by kernel_rfl) (fun _ _ _ h => h) (by rfl) ?_ ?_; rotate_left 1; focus (intro w; go_simp; try with_reducible rfl))
  try simp only [Act.put, List.setIfInBounds_toArray, List.set_cons_zero, List.set_cons_succ]
  (refine wpAnyP_takeL (i := 21) (v := ?_) rfl (by kernel_rfl) (by kernel_rfl) (by kernel_rfl) (fun _ _ _ h => h) (by rfl) ?_ ?_; rotate_left 1; focus (intro w; go_simp; try with_reducible rfl))
  try simp only [Act.put, List.setIfInBounds_toArray, List.set_cons_zero, List.set_cons_succ]
  refine wpAnyP_last (i := 22) rfl (by kernel_rfl) (by kernel_rfl) (by rfl) (fun K hK => ?_)
  go_simp
  (have HK7 := Lib.hid ((HK6.out.set4 2 (.int .i64 0)).set4 3 (.int .i64 0)))
  (refine hK _ _ ?_; clear hK K)
  try simp only [Act.put, List.setIfInBounds_toArray, List.set_cons_zero, List.set_cons_succ]
  refine wpAnyP_done (by kernel_rfl) ?_ _
  have HK8 := Lib.hid (show KB w p g1 g2 g3 g4 (cellsS goodL) (cellsS wrongL) (cellsS wideL) (cellsS noneL) _ from HK7.out)
  have z4 := HK8.out.r4.lt
  have hpz := HK8.out.h4.lt
  clear HK0 HK1 HK2 HK3 HK4 HK5 HK6 HK7 cr1_19 fr1_19 cr2_22 fr2_22 cr2_23 fr2_23 cr3_8 fr3_8 cr3_9 fr3_9 cr4_2 fr4_2 cr4_3 fr4_3 n12 n13 n14 n21 n23 n24 n31 n32 n34 n41 n42 n43
  generalize ((((((w7.setCell ⟨g1, 19, none⟩ (.int .i64 2)).setCell ⟨g2, 22, none⟩ (.int .i64 60)).setCell ⟨g2, 23, none⟩ (.int .i64 50)).setCell ⟨g3, 8, none⟩ (.int .i64 500)).setCell ⟨g3, 9, none⟩ (.int .i64 3000)).setCell ⟨g4, 2, none⟩ (.int .i64 0)).setCell ⟨g4, 3, none⟩ (.int .i64 0) = V at HK8 z4 hpz ⊢
  go_wp2_with fail
  refine (awake_any _).mono ?_
  rintro e v1 ⟨rfl, hb1⟩
  have HV1 := Lib.hid (HK8.out.below hb1)
  clear hb1 z4 hpz
  go_wp2_with fail
  refine (dayK_any _).mono ?_
  rintro e v2 ⟨gd, rfl, hkd, _, hb2⟩
  have HV2 := Lib.hid (HV1.out.below hb2)
  clear hb2
  go_wp2_with fail
  refine (check_any 2 2 gd 4 4 _ dayL _ (Sl.of_blkA encS_len hkd rfl) (by omega)).mono ?_
  rw [chk_day]
  rintro e v3 ⟨rfl, hb3⟩
  have HV3 := Lib.hid (HV2.out.below hb3)
  have e0 := HV3.out.h1.cell 0
  have e1 := HV3.out.h1.cell 1
  have e2 := HV3.out.h1.cell 2
  clear hb3 hkd HV1 HV2
  go_wp2_with fail
  refine (check_any 2 2 g1 4 4 _ goodL _ (Sl.of_blkA encS_len HV3.out.r1 rfl) (by omega)).mono ?_
  rw [chk_good]
  rintro e v4 ⟨rfl, hb4⟩
  have HV4 := Lib.hid (HV3.out.below hb4)
  clear hb4 e0 e1 e2
  have e0 := HV4.out.h2.cell 0
  have e1 := HV4.out.h2.cell 1
  have e2 := HV4.out.h2.cell 2
  clear HV3
  go_wp2_with fail
  refine (check_any 2 2 g2 4 4 _ wrongL _ (Sl.of_blkA encS_len HV4.out.r2 rfl) (by omega)).mono ?_
  rw [chk_wrong]
  rintro e v5 ⟨rfl, hb5⟩
  have HV5 := Lib.hid (HV4.out.below hb5)
  clear hb5 e0 e1 e2 HV4
  go_upto_region 5 with fail
  refine wp_region_K2 [0, 3] [] (fun W => (W.cell? ⟨p + 1 + 1, 0, none⟩ = some (.int .i64 2) ∧ W.cell? ⟨p + 1 + 1, 1, none⟩ = some (.int .i64 2) ∧ W.cell? ⟨p + 1 + 1, 2, none⟩ = some (.slice (some ⟨g3, 0, none⟩) 4 4)) ∧ (W.cell? ⟨p + 1 + 1 + 1, 0, none⟩ = some (.int .i64 1) ∧ W.cell? ⟨p + 1 + 1 + 1, 1, none⟩ = some (.int .i64 1) ∧ W.cell? ⟨p + 1 + 1 + 1, 2, none⟩ = some (.slice (some ⟨g4, 0, none⟩) 1 1))) (fun _ => True) rfl (by kernel_rfl) (HV5.out.drew.heads) (trivial) (fun hF0 hG0 => ?_)
  (refine wpAnyK_loadL Keep2.refl (i := 0) (v := ?_) rfl (Keep2.left (i := 0) (by rfl)) (by kernel_rfl) (by kernel_rfl) (by kernel_rfl) (fun _ _ _ h => h) hF0 (by rfl) ?_ ?_; rotate_left 1; focus (intro w hFw; (try dsimp only at hFw); go_split_ands; go_simp; try with_reducible rfl))
  try simp only [Act.put, List.setIfInBounds_toArray, List.set_cons_zero, List.set_cons_succ]
  (refine wpAnyK_loadL Keep2.refl (i := 3) (v := ?_) rfl (Keep2.left (i := 3) (by rfl)) (by kernel_rfl) (by kernel_rfl) (by kernel_rfl) (fun _ _ _ h => h) hF0 (by rfl) ?_ ?_; rotate_left 1; focus (intro w hFw; (try dsimp only at hFw); go_split_ands; go_simp; try with_reducible rfl))
  try simp only [Act.put, List.setIfInBounds_toArray, List.set_cons_zero, List.set_cons_succ]
  clear hF0 hG0
  refine wpAnyK_inv0 (S := [68, 69, 71, 72, 73, 74, 75, 76, 77, 78, 5, 6, 7, 8]) (idx := [1, 2, 4, 5, 6, 7, 8, 9, 10, 11, 12, 13, 14, 15]) (fun L f W => RI (PK5 g3 g4) [(1, 68), (2, 69), (4, 71), (5, 72), (6, 73), (7, 74), (8, 75), (9, 76), (10, 77), (11, 78), (12, 5), (13, 6), (14, 7), (15, 8)] 16 (v5.drew) L f W) (by kernel_rfl) rfl (of_decide_eq_true (by kernel_rfl)) (RI.start (by decide) (by decide) (Below.refl _ _)) (fun L f W h j hj hn => h.pre j hj hn) ?_ ?_
  · refine List.forall_mem_cons.2 ⟨?_, List.forall_mem_cons.2 ⟨?_, List.forall_mem_cons.2 ⟨?_, List.forall_mem_cons.2 ⟨?_, List.forall_mem_cons.2 ⟨?_, List.forall_mem_cons.2 ⟨?_, List.forall_mem_cons.2 ⟨?_, List.forall_mem_cons.2 ⟨?_, List.forall_mem_cons.2 ⟨?_, List.forall_mem_cons.2 ⟨?_, List.forall_mem_cons.2 ⟨?_, List.forall_mem_cons.2 ⟨?_, List.forall_mem_cons.2 ⟨?_, List.forall_mem_cons.2 ⟨?_, fun _ h => absurd h List.not_mem_nil⟩⟩⟩⟩⟩⟩⟩⟩⟩⟩⟩⟩⟩⟩
    · rintro L f W hI hL haft
      refine wpOp_of rfl (by rfl) (fun K hKK => ?_)
      generalize hov0 : over _ [68, 69, 71, 72, 73, 74, 75, 76, 77, 78, 5, 6, 7, 8] f = ax
      have hov := hov0
      simp only [over, List.foldl_cons, List.foldl_nil, List.setIfInBounds_toArray, List.set_cons_zero, List.set_cons_succ] at hov
      rw [← hov]
      have HOV := Lib.hid (And.intro hov0 hov)
      clear hov0 hov
      go_simp
      refine (dayK_any _).mono ?_
      rintro e wx ⟨g, rfl, hk, _, hb⟩
      dsimp only
      have hB' := hb
      exact hKK _ _ ⟨⟨fun _ _ => (HV5.out.drew.below (Below.step hB' hI.low (Nat.le_refl _))).heads, fun _ _ => trivial⟩, _, (by rw [← over_put (by decide), HOV.out.1, ← HOV.out.2]; simp only [Act.put, List.setIfInBounds_toArray, List.set_cons_zero, List.set_cons_succ]), hI.put (PK5_below g3 g4) (i := 1) (s := 68) (by decide) (by decide) (by decide) hB' (⟨g, rfl, hk⟩)⟩
    · rintro L f W hI hL haft
      refine wpOp_of rfl (by rfl) (fun K hKK => ?_)
      generalize hov0 : over _ [68, 69, 71, 72, 73, 74, 75, 76, 77, 78, 5, 6, 7, 8] f = ax
      have hov := hov0
      simp only [over, List.foldl_cons, List.foldl_nil, List.setIfInBounds_toArray, List.set_cons_zero, List.set_cons_succ] at hov
      rw [← hov]
      have HOV := Lib.hid (And.intro hov0 hov)
      clear hov0 hov
      go_simp
      refine (eveK_any _).mono ?_
      rintro e wx ⟨g, rfl, hk, _, hb⟩
      dsimp only
      have hB' := hb
      exact hKK _ _ ⟨⟨fun _ _ => (HV5.out.drew.below (Below.step hB' hI.low (Nat.le_refl _))).heads, fun _ _ => trivial⟩, _, (by rw [← over_put (by decide), HOV.out.1, ← HOV.out.2]; simp only [Act.put, List.setIfInBounds_toArray, List.set_cons_zero, List.set_cons_succ]), hI.put (PK5_below g3 g4) (i := 2) (s := 69) (by decide) (by decide) (by decide) hB' (⟨g, rfl, hk⟩)⟩
    · rintro L f W hI hL haft
      obtain ⟨d, q1, kd⟩ := hI.got (1, 68) (by decide) (haft 1 (by kernel_rfl))
      obtain ⟨e', q2, ke⟩ := hI.got (2, 69) (by decide) (haft 2 (by kernel_rfl))
      refine wpOp_of rfl (by rfl) (fun K hKK => ?_)
      generalize hov0 : over _ [68, 69, 71, 72, 73, 74, 75, 76, 77, 78, 5, 6, 7, 8] f = ax
      have hov := hov0
      simp only [over, List.foldl_cons, List.foldl_nil, List.setIfInBounds_toArray, List.set_cons_zero, List.set_cons_succ, q1, q2] at hov
      rw [← hov]
      have HOV := Lib.hid (And.intro hov0 hov)
      clear hov0 hov
      have Hq1 := Lib.hid q1
      clear q1
      have Hq2 := Lib.hid q2
      clear q2
      go_simp
      have hB' := (Below.refl W.heap.size W).alloc (Nat.le_refl _) (.cells #[.int .i64 2, .int .i64 2, .slice (some ⟨g3, 0, none⟩) 4 4, .int .i64 2, .int .i64 2, .slice (some ⟨d, 0, none⟩) 4 4, .int .i64 1, .int .i64 1, .slice (some ⟨e', 0, none⟩) 1 1, .int .i64 1, .int .i64 1, .slice (some ⟨g4, 0, none⟩) 1 1] 24)
      exact hKK _ _ ⟨⟨fun _ _ => (HV5.out.drew.below (Below.step hB' hI.low (Nat.le_refl _))).heads, fun _ _ => trivial⟩, _, (by rw [← over_put (by decide), HOV.out.1, ← HOV.out.2]; simp only [Act.put, List.setIfInBounds_toArray, List.set_cons_zero, List.set_cons_succ]), hI.put (PK5_below g3 g4) (i := 4) (s := 71) (by decide) (by decide) (by decide) hB' (⟨_, d, e', rfl, Blk.new _ _ _, kd.alloc _, ke.alloc _⟩)⟩
    · rintro L f W hI hL haft
      refine wpOp_of rfl (by rfl) (fun K hKK => ?_)
      generalize hov0 : over _ [68, 69, 71, 72, 73, 74, 75, 76, 77, 78, 5, 6, 7, 8] f = ax
      have hov := hov0
      simp only [over, List.foldl_cons, List.foldl_nil, List.setIfInBounds_toArray, List.set_cons_zero, List.set_cons_succ] at hov
      rw [← hov]
      have HOV := Lib.hid (And.intro hov0 hov)
      clear hov0 hov
      go_simp
      have hB' := (Below.refl W.heap.size W).alloc (Nat.le_refl _) (.cells #[.int .i64 0, .int .i64 1, .int .i64 0, .int .i64 0] 3)
      exact hKK _ _ ⟨⟨fun _ _ => (HV5.out.drew.below (Below.step hB' hI.low (Nat.le_refl _))).heads, fun _ _ => trivial⟩, _, (by rw [← over_put (by decide), HOV.out.1, ← HOV.out.2]; simp only [Act.put, List.setIfInBounds_toArray, List.set_cons_zero, List.set_cons_succ]), hI.put (PK5_below g3 g4) (i := 5) (s := 72) (by decide) (by decide) (by decide) hB' (⟨_, rfl, Blk.new _ _ _⟩)⟩
    · rintro L f W hI hL haft
      refine wpOp_of rfl (by rfl) (fun K hKK => ?_)
      generalize hov0 : over _ [68, 69, 71, 72, 73, 74, 75, 76, 77, 78, 5, 6, 7, 8] f = ax
      have hov := hov0
      simp only [over, List.foldl_cons, List.foldl_nil, List.setIfInBounds_toArray, List.set_cons_zero, List.set_cons_succ] at hov
      rw [← hov]
      have HOV := Lib.hid (And.intro hov0 hov)
      clear hov0 hov
      go_simp
      have hB' := (Below.refl W.heap.size W).alloc (Nat.le_refl _) (.cells #[.int .i64 1, .int .i64 3, .int .i64 1, .int .i64 2] 3)
      exact hKK _ _ ⟨⟨fun _ _ => (HV5.out.drew.below (Below.step hB' hI.low (Nat.le_refl _))).heads, fun _ _ => trivial⟩, _, (by rw [← over_put (by decide), HOV.out.1, ← HOV.out.2]; simp only [Act.put, List.setIfInBounds_toArray, List.set_cons_zero, List.set_cons_succ]), hI.put (PK5_below g3 g4) (i := 6) (s := 73) (by decide) (by decide) (by decide) hB' (⟨_, rfl, Blk.new _ _ _⟩)⟩
    · rintro L f W hI hL haft
      refine wpOp_of rfl (by rfl) (fun K hKK => ?_)
      generalize hov0 : over _ [68, 69, 71, 72, 73, 74, 75, 76, 77, 78, 5, 6, 7, 8] f = ax
      have hov := hov0
      simp only [over, List.foldl_cons, List.foldl_nil, List.setIfInBounds_toArray, List.set_cons_zero, List.set_cons_succ] at hov
      rw [← hov]
      have HOV := Lib.hid (And.intro hov0 hov)
      clear hov0 hov
      go_simp
      refine (span_any _ _ _).mono ?_
      rintro e wx ⟨rfl, hb⟩
      dsimp only
      have hB' := hb
      exact hKK _ _ ⟨⟨fun _ _ => (HV5.out.drew.below (Below.step hB' hI.low (Nat.le_refl _))).heads, fun _ _ => trivial⟩, _, (by rw [← over_put (by decide), HOV.out.1, ← HOV.out.2]; simp only [Act.put, List.setIfInBounds_toArray, List.set_cons_zero, List.set_cons_succ]), hI.put (PK5_below g3 g4) (i := 7) (s := 74) (by decide) (by decide) (by decide) hB' (rfl)⟩
    · rintro L f W hI hL haft
      refine wpOp_of rfl (by rfl) (fun K hKK => ?_)
      generalize hov0 : over _ [68, 69, 71, 72, 73, 74, 75, 76, 77, 78, 5, 6, 7, 8] f = ax
      have hov := hov0
      simp only [over, List.foldl_cons, List.foldl_nil, List.setIfInBounds_toArray, List.set_cons_zero, List.set_cons_succ] at hov
      rw [← hov]
      have HOV := Lib.hid (And.intro hov0 hov)
      clear hov0 hov
      go_simp
      refine (span_any _ _ _).mono ?_
      rintro e wx ⟨rfl, hb⟩
      dsimp only
      have hB' := hb
      exact hKK _ _ ⟨⟨fun _ _ => (HV5.out.drew.below (Below.step hB' hI.low (Nat.le_refl _))).heads, fun _ _ => trivial⟩, _, (by rw [← over_put (by decide), HOV.out.1, ← HOV.out.2]; simp only [Act.put, List.setIfInBounds_toArray, List.set_cons_zero, List.set_cons_succ]), hI.put (PK5_below g3 g4) (i := 8) (s := 75) (by decide) (by decide) (by decide) hB' (rfl)⟩
    · rintro L f W hI hL haft
      refine wpOp_of rfl (by rfl) (fun K hKK => ?_)
      generalize hov0 : over _ [68, 69, 71, 72, 73, 74, 75, 76, 77, 78, 5, 6, 7, 8] f = ax
      have hov := hov0
      simp only [over, List.foldl_cons, List.foldl_nil, List.setIfInBounds_toArray, List.set_cons_zero, List.set_cons_succ] at hov
      rw [← hov]
      have HOV := Lib.hid (And.intro hov0 hov)
      clear hov0 hov
      go_simp
      refine (lone_any _ _).mono ?_
      rintro e wx ⟨rfl, hb⟩
      dsimp only
      have hB' := hb
      exact hKK _ _ ⟨⟨fun _ _ => (HV5.out.drew.below (Below.step hB' hI.low (Nat.le_refl _))).heads, fun _ _ => trivial⟩, _, (by rw [← over_put (by decide), HOV.out.1, ← HOV.out.2]; simp only [Act.put, List.setIfInBounds_toArray, List.set_cons_zero, List.set_cons_succ]), hI.put (PK5_below g3 g4) (i := 9) (s := 76) (by decide) (by decide) (by decide) hB' (rfl)⟩
    · rintro L f W hI hL haft
      refine wpOp_of rfl (by rfl) (fun K hKK => ?_)
      generalize hov0 : over _ [68, 69, 71, 72, 73, 74, 75, 76, 77, 78, 5, 6, 7, 8] f = ax
      have hov := hov0
      simp only [over, List.foldl_cons, List.foldl_nil, List.setIfInBounds_toArray, List.set_cons_zero, List.set_cons_succ] at hov
      rw [← hov]
      have HOV := Lib.hid (And.intro hov0 hov)
      clear hov0 hov
      go_simp
      refine (lone_any _ _).mono ?_
      rintro e wx ⟨rfl, hb⟩
      dsimp only
      have hB' := hb
      exact hKK _ _ ⟨⟨fun _ _ => (HV5.out.drew.below (Below.step hB' hI.low (Nat.le_refl _))).heads, fun _ _ => trivial⟩, _, (by rw [← over_put (by decide), HOV.out.1, ← HOV.out.2]; simp only [Act.put, List.setIfInBounds_toArray, List.set_cons_zero, List.set_cons_succ]), hI.put (PK5_below g3 g4) (i := 10) (s := 77) (by decide) (by decide) (by decide) hB' (rfl)⟩
    · rintro L f W hI hL haft
      have q1 : f 74 = .agg #[.int .i64 500, .int .i64 700] := hI.got (7, 74) (by decide) (haft 7 (by kernel_rfl))
      have q2 : f 75 = .agg #[.int .i64 50, .int .i64 60] := hI.got (8, 75) (by decide) (haft 8 (by kernel_rfl))
      have q3 : f 76 = .agg #[.int .i64 20, .int .i64 20] := hI.got (9, 76) (by decide) (haft 9 (by kernel_rfl))
      have q4 : f 77 = .agg #[.int .i64 0, .int .i64 0] := hI.got (10, 77) (by decide) (haft 10 (by kernel_rfl))
      refine wpOp_of rfl (by rfl) (fun K hKK => ?_)
      generalize hov0 : over _ [68, 69, 71, 72, 73, 74, 75, 76, 77, 78, 5, 6, 7, 8] f = ax
      have hov := hov0
      simp only [over, List.foldl_cons, List.foldl_nil, List.setIfInBounds_toArray, List.set_cons_zero, List.set_cons_succ, q1, q2, q3, q4] at hov
      rw [← hov]
      have HOV := Lib.hid (And.intro hov0 hov)
      clear hov0 hov
      have Hq1 := Lib.hid q1
      clear q1
      have Hq2 := Lib.hid q2
      clear q2
      have Hq3 := Lib.hid q3
      clear q3
      have Hq4 := Lib.hid q4
      clear q4
      go_simp
      have hB' := (Below.refl W.heap.size W).alloc (Nat.le_refl _) (.cells #[.int .i64 500, .int .i64 700, .int .i64 50, .int .i64 60, .int .i64 20, .int .i64 20, .int .i64 0, .int .i64 0] 27)
      exact hKK _ _ ⟨⟨fun _ _ => (HV5.out.drew.below (Below.step hB' hI.low (Nat.le_refl _))).heads, fun _ _ => trivial⟩, _, (by rw [← over_put (by decide), HOV.out.1, ← HOV.out.2]; simp only [Act.put, List.setIfInBounds_toArray, List.set_cons_zero, List.set_cons_succ]), hI.put (PK5_below g3 g4) (i := 11) (s := 78) (by decide) (by decide) (by decide) hB' (⟨_, rfl, Blk.new _ _ _⟩)⟩
    · rintro L f W hI hL haft
      obtain ⟨g, d, e', q1, k1, kd, ke⟩ := hI.got (4, 71) (by decide) (haft 4 (by kernel_rfl))
      refine wpOp_of rfl (by rfl) (fun K hKK => ?_)
      generalize hov0 : over _ [68, 69, 71, 72, 73, 74, 75, 76, 77, 78, 5, 6, 7, 8] f = ax
      have hov := hov0
      simp only [over, List.foldl_cons, List.foldl_nil, List.setIfInBounds_toArray, List.set_cons_zero, List.set_cons_succ, q1] at hov
      rw [← hov]
      have HOV := Lib.hid (And.intro hov0 hov)
      clear hov0 hov
      have Hq1 := Lib.hid q1
      clear q1
      go_simp
      have hB' := Below.refl W.heap.size W
      exact hKK _ _ ⟨⟨fun _ _ => (HV5.out.drew.below (Below.step hB' hI.low (Nat.le_refl _))).heads, fun _ _ => trivial⟩, _, (by rw [← over_put (by decide), HOV.out.1, ← HOV.out.2]; simp only [Act.put, List.setIfInBounds_toArray, List.set_cons_zero, List.set_cons_succ]), hI.put (PK5_below g3 g4) (i := 12) (s := 5) (by decide) (by decide) (by decide) hB' (⟨g, d, e', rfl, k1, kd, ke⟩)⟩
    · rintro L f W hI hL haft
      obtain ⟨g, q1, k1⟩ := hI.got (5, 72) (by decide) (haft 5 (by kernel_rfl))
      refine wpOp_of rfl (by rfl) (fun K hKK => ?_)
      generalize hov0 : over _ [68, 69, 71, 72, 73, 74, 75, 76, 77, 78, 5, 6, 7, 8] f = ax
      have hov := hov0
      simp only [over, List.foldl_cons, List.foldl_nil, List.setIfInBounds_toArray, List.set_cons_zero, List.set_cons_succ, q1] at hov
      rw [← hov]
      have HOV := Lib.hid (And.intro hov0 hov)
      clear hov0 hov
      have Hq1 := Lib.hid q1
      clear q1
      go_simp
      have hB' := Below.refl W.heap.size W
      exact hKK _ _ ⟨⟨fun _ _ => (HV5.out.drew.below (Below.step hB' hI.low (Nat.le_refl _))).heads, fun _ _ => trivial⟩, _, (by rw [← over_put (by decide), HOV.out.1, ← HOV.out.2]; simp only [Act.put, List.setIfInBounds_toArray, List.set_cons_zero, List.set_cons_succ]), hI.put (PK5_below g3 g4) (i := 13) (s := 6) (by decide) (by decide) (by decide) hB' (⟨g, rfl, k1⟩)⟩
    · rintro L f W hI hL haft
      obtain ⟨g, q1, k1⟩ := hI.got (6, 73) (by decide) (haft 6 (by kernel_rfl))
      refine wpOp_of rfl (by rfl) (fun K hKK => ?_)
      generalize hov0 : over _ [68, 69, 71, 72, 73, 74, 75, 76, 77, 78, 5, 6, 7, 8] f = ax
      have hov := hov0
      simp only [over, List.foldl_cons, List.foldl_nil, List.setIfInBounds_toArray, List.set_cons_zero, List.set_cons_succ, q1] at hov
      rw [← hov]
      have HOV := Lib.hid (And.intro hov0 hov)
      clear hov0 hov
      have Hq1 := Lib.hid q1
      clear q1
      go_simp
      have hB' := Below.refl W.heap.size W
      exact hKK _ _ ⟨⟨fun _ _ => (HV5.out.drew.below (Below.step hB' hI.low (Nat.le_refl _))).heads, fun _ _ => trivial⟩, _, (by rw [← over_put (by decide), HOV.out.1, ← HOV.out.2]; simp only [Act.put, List.setIfInBounds_toArray, List.set_cons_zero, List.set_cons_succ]), hI.put (PK5_below g3 g4) (i := 14) (s := 7) (by decide) (by decide) (by decide) hB' (⟨g, rfl, k1⟩)⟩
    · rintro L f W hI hL haft
      obtain ⟨g, q1, k1⟩ := hI.got (11, 78) (by decide) (haft 11 (by kernel_rfl))
      refine wpOp_of rfl (by rfl) (fun K hKK => ?_)
      generalize hov0 : over _ [68, 69, 71, 72, 73, 74, 75, 76, 77, 78, 5, 6, 7, 8] f = ax
      have hov := hov0
      simp only [over, List.foldl_cons, List.foldl_nil, List.setIfInBounds_toArray, List.set_cons_zero, List.set_cons_succ, q1] at hov
      rw [← hov]
      have HOV := Lib.hid (And.intro hov0 hov)
      clear hov0 hov
      have Hq1 := Lib.hid q1
      clear q1
      go_simp
      have hB' := Below.refl W.heap.size W
      exact hKK _ _ ⟨⟨fun _ _ => (HV5.out.drew.below (Below.step hB' hI.low (Nat.le_refl _))).heads, fun _ _ => trivial⟩, _, (by rw [← over_put (by decide), HOV.out.1, ← HOV.out.2]; simp only [Act.put, List.setIfInBounds_toArray, List.set_cons_zero, List.set_cons_succ]), hI.put (PK5_below g3 g4) (i := 15) (s := 8) (by decide) (by decide) (by decide) hB' (⟨g, rfl, k1⟩)⟩
  intro L f W hI hall
  obtain ⟨g5, gd5, ge5, q5, b5, bd5, be5⟩ := hI.got (12, 5) (by decide) (hall 12 (of_decide_eq_true (by kernel_rfl)))
  obtain ⟨g6, q6, b6⟩ := hI.got (13, 6) (by decide) (hall 13 (of_decide_eq_true (by kernel_rfl)))
  obtain ⟨g7, q7, b7⟩ := hI.got (14, 7) (by decide) (hall 14 (of_decide_eq_true (by kernel_rfl)))
  obtain ⟨g8, q8, b8⟩ := hI.got (15, 8) (by decide) (hall 15 (of_decide_eq_true (by kernel_rfl)))
  simp only [over, List.foldl_cons, List.foldl_nil, List.setIfInBounds_toArray, List.set_cons_zero, List.set_cons_succ, q5, q6, q7, q8]
  have HVW := Lib.hid (HV5.out.drew.below hI.low)
  clear q5 q6 q7 q8 hI hall HV5
  have hA : Arr encB 3 (g5 + 1) [⟨2, 2, some ⟨g3, 0, none⟩, 4, 4, g3, wideL⟩, ⟨2, 2, some ⟨gd5, 0, none⟩, 4, 4, gd5, dayL⟩, ⟨1, 1, some ⟨ge5, 0, none⟩, 1, 1, ge5, eveL⟩, ⟨1, 1, some ⟨g4, 0, none⟩, 1, 1, g4, noneL⟩] W g5 := ⟨by omega, Sl.of_blkA encB_len b5 rfl⟩
  have hG : Arr encI 1 (g6 + 1) [0, 1, 0, 0] W g6 := ⟨by omega, Sl.of_blkA encI_len b6 rfl⟩
  have hM : Arr encI 1 (g7 + 1) [1, 3, 1, 2] W g7 := ⟨by omega, Sl.of_blkA encI_len b7 rfl⟩
  have hL : Arr encR 2 (g8 + 1) [⟨500, 700⟩, ⟨50, 60⟩, ⟨20, 20⟩, ⟨0, 0⟩] W g8 := ⟨by omega, Sl.of_blkA encR_len b8 rfl⟩
  have hpr : ∀ k (h : k < 4) (h1 : k < ([⟨2, 2, some ⟨g3, 0, none⟩, 4, 4, g3, wideL⟩, ⟨2, 2, some ⟨gd5, 0, none⟩, 4, 4, gd5, dayL⟩, ⟨1, 1, some ⟨ge5, 0, none⟩, 1, 1, ge5, eveL⟩, ⟨1, 1, some ⟨g4, 0, none⟩, 1, 1, g4, noneL⟩] : List BookD).length) (h2 : k < ([0, 1, 0, 0] : List Int).length) (h3 : k < ([1, 3, 1, 2] : List Int).length) (h4 : k < ([⟨500, 700⟩, ⟨50, 60⟩, ⟨20, 20⟩, ⟨0, 0⟩] : List Span).length),
      PrK W (([⟨2, 2, some ⟨g3, 0, none⟩, 4, 4, g3, wideL⟩, ⟨2, 2, some ⟨gd5, 0, none⟩, 4, 4, gd5, dayL⟩, ⟨1, 1, some ⟨ge5, 0, none⟩, 1, 1, ge5, eveL⟩, ⟨1, 1, some ⟨g4, 0, none⟩, 1, 1, g4, noneL⟩] : List BookD)[k]'h1) (([0, 1, 0, 0] : List Int)[k]'h2) (([1, 3, 1, 2] : List Int)[k]'h3) (([⟨500, 700⟩, ⟨50, 60⟩, ⟨20, 20⟩, ⟨0, 0⟩] : List Span)[k]'h4) := by
    intro k h h1 h2 h3 h4
    match k, h with
    | 0, _ => exact ⟨Sl.of_blkA encS_len HVW.out.r3 rfl, (show 4 ≤ 10 by decide), price_wide.1, price_wide.2⟩
    | 1, _ => exact ⟨Sl.of_blkA encS_len bd5 rfl, (show 4 ≤ 10 by decide), price_day1.1, price_day1.2⟩
    | 2, _ => exact ⟨Sl.of_blkA encS_len be5 rfl, (show 1 ≤ 10 by decide), price_eve.1, price_eve.2⟩
    | 3, _ => exact ⟨Sl.of_blkA encS_len HVW.out.r4 rfl, (show 1 ≤ 10 by decide), price_none.1, price_none.2⟩
  have HLow := Lib.hid HVW.out.low
  have hbl : ([⟨2, 2, some ⟨g3, 0, none⟩, 4, 4, g3, wideL⟩, ⟨2, 2, some ⟨gd5, 0, none⟩, 4, 4, gd5, dayL⟩, ⟨1, 1, some ⟨ge5, 0, none⟩, 1, 1, ge5, eveL⟩, ⟨1, 1, some ⟨g4, 0, none⟩, 1, 1, g4, noneL⟩] : List BookD).length = 4 := rfl
  have hgl : ([0, 1, 0, 0] : List Int).length = 4 := rfl
  have hml : ([1, 3, 1, 2] : List Int).length = 4 := rfl
  have hll : ([⟨500, 700⟩, ⟨50, 60⟩, ⟨20, 20⟩, ⟨0, 0⟩] : List Span).length = 4 := rfl
  generalize ([⟨2, 2, some ⟨g3, 0, none⟩, 4, 4, g3, wideL⟩, ⟨2, 2, some ⟨gd5, 0, none⟩, 4, 4, gd5, dayL⟩, ⟨1, 1, some ⟨ge5, 0, none⟩, 1, 1, ge5, eveL⟩, ⟨1, 1, some ⟨g4, 0, none⟩, 1, 1, g4, noneL⟩] : List BookD) = bs at hA hpr hbl
  generalize ([0, 1, 0, 0] : List Int) = gs at hG hpr hgl
  generalize ([1, 3, 1, 2] : List Int) = ms at hM hpr hml
  generalize ([⟨500, 700⟩, ⟨50, 60⟩, ⟨20, 20⟩, ⟨0, 0⟩] : List Span) = qs at hL hpr hll
  have HA := Lib.hid hA
  have HG := Lib.hid hG
  have HM := Lib.hid hM
  have HLA := Lib.hid hL
  have HPR := Lib.hid hpr
  have HBL := Lib.hid hbl
  have HGL := Lib.hid hgl
  have HML := Lib.hid hml
  have HLL := Lib.hid hll
  clear hA hG hM hL hpr hbl hgl hml hll b5 b6 b7 b8 bd5 be5 HVW
  go_wp2_with fail
  go_loopw [9] (fun i wr => ∃ k : Nat, k ≤ 4 ∧ i = .int .i64 k ∧ Below W.heap.size W wr) (fun i _ => 4 - (intOf i).toNat)
  case atStart => exact ⟨0, by omega, rfl, Below.refl _ _⟩
  case round =>
    obtain ⟨k, hk, rfl, hB⟩ := hrel
    have HB := Lib.hid hB
    have hzr := hB.size
    clear hB
    by_cases hlt : k < 4
    · have hkb : k < bs.length := by rw [HBL.out]; omega
      have hkg : k < gs.length := by rw [HGL.out]; omega
      have hkm : k < ms.length := by rw [HML.out]; omega
      have hkl : k < qs.length := by rw [HLL.out]; omega
      have hpk := HPR.out k hlt hkb hkg hkm hkl
      have HCB := Lib.hid (fun (W' : World) (hW : Below W.heap.size W W') => (show ((W'.cell? ⟨g5, k * 3, none⟩ = some (.int .i64 bs[k].st) ∧ W'.cell? ⟨g5, k * 3 + 1, none⟩ = some (.int .i64 bs[k].gd) ∧ W'.cell? ⟨g5, k * 3 + 2, none⟩ = some (.slice bs[k].A bs[k].n bs[k].c)) ∧ W'.cell? ⟨g6, k, none⟩ = some (.int .i64 gs[k])) ∧ W'.cell? ⟨g7, k, none⟩ = some (.int .i64 ms[k]) ∧ (W'.cell? ⟨g8, k * 2, none⟩ = some (.int .i64 qs[k].lo) ∧ W'.cell? ⟨g8, k * 2 + 1, none⟩ = some (.int .i64 qs[k].hi)) from
        ⟨⟨⟨((HA.out.below hW (by omega)).atB hkb).1, ((HA.out.below hW (by omega)).atB hkb).2.1, ((HA.out.below hW (by omega)).atB hkb).2.2.1⟩, ((HG.out.below hW (by omega)).atI hkg).1⟩, ((HM.out.below hW (by omega)).atI hkm).1, (HLA.out.below hW (by omega)).atR hkl⟩))
      generalize bs[k] = x at HCB hpk
      generalize gs[k] = y at HCB hpk
      generalize ms[k] = v at HCB hpk
      generalize qs[k] = q at HCB hpk
      have HX := Lib.hid (hpk.sl.old HB.out)
      have hxn := hpk.le
      have HPX := Lib.hid (And.intro hpk.err hpk.out)
      have ik0 : (0 : Int) ≤ (k : Int) := by omega
      have ik1 : (k : Int) < 4 := by omega
      clear hpk hkb hkg hkm hkl
      have HF := Lib.hid (fun (W' : World) (hW : Below wr.heap.size wr W') => HCB.out W' (HB.out.trans (hW.mono hzr)))
      go_upto_region 9 with fail
      go_cut [10, 11, 12] from 85 to 98 (fun a b c wx => ∃ B : Nat, a = .int .i64 v ∧ b = .pointer (some ⟨B, 0, none⟩) ∧ c = .int .i64 0 ∧ Alc wr wx B q.lo q.hi ∧ Below wr.heap.size wr wx)
      case first =>
        have hV : Below wr.heap.size wr wr.drew := (Below.refl _ wr).drew
        refine wp_region_K2 [3, 7] [] (fun W' => (W'.cell? ⟨g5, k * 3, none⟩ = some (.int .i64 x.st) ∧ W'.cell? ⟨g5, k * 3 + 1, none⟩ = some (.int .i64 x.gd) ∧ W'.cell? ⟨g5, k * 3 + 2, none⟩ = some (.slice x.A x.n x.c)) ∧ W'.cell? ⟨g6, k, none⟩ = some (.int .i64 y)) (fun _ => True) rfl (by kernel_rfl) ((HF.out _ hV).1) (trivial) (fun hF0 hG0 => ?_)
        (refine wpAnyK_takeL Keep2.refl (i := 0) (v := ?_) rfl (by kernel_rfl) (by kernel_rfl) (by kernel_rfl) (fun _ _ _ h => h) (by rfl) ?_ ?_; rotate_left 1; focus (intro w; go_simp; try with_reducible rfl))
        try simp only [Act.put, List.setIfInBounds_toArray, List.set_cons_zero, List.set_cons_succ]
        (refine wpAnyK_takeL Keep2.refl (i := 1) (v := ?_) rfl (by kernel_rfl) (by kernel_rfl) (by kernel_rfl) (fun _ _ _ h => h) (by rfl) ?_ ?_; rotate_left 1; focus (intro w; go_simp; try with_reducible rfl))
        try simp only [Act.put, List.setIfInBounds_toArray, List.set_cons_zero, List.set_cons_succ]
        (refine wpAnyK_takeL Keep2.refl (i := 2) (v := ?_) rfl (by kernel_rfl) (by kernel_rfl) (by kernel_rfl) (fun _ _ _ h => h) (by rfl) ?_ ?_; rotate_left 1; focus (intro w; go_simp; try with_reducible rfl))
        try simp only [Act.put, List.setIfInBounds_toArray, List.set_cons_zero, List.set_cons_succ]
        (refine wpAnyK_loadL Keep2.refl (i := 3) (v := ?_) rfl (Keep2.left (i := 3) (by rfl)) (by kernel_rfl) (by kernel_rfl) (by kernel_rfl) (fun _ _ _ h => h) hF0 (by rfl) ?_ ?_; rotate_left 1; focus (intro w hFw; (try dsimp only at hFw); go_split_ands; go_simp; try with_reducible rfl))
        try simp only [Act.put, List.setIfInBounds_toArray, List.set_cons_zero, List.set_cons_succ]
        (refine wpAnyK_takeL Keep2.refl (i := 4) (v := ?_) rfl (by kernel_rfl) (by kernel_rfl) (by kernel_rfl) (fun _ _ _ h => h) (by rfl) ?_ ?_; rotate_left 1; focus (intro w; go_simp; try with_reducible rfl))
        try simp only [Act.put, List.setIfInBounds_toArray, List.set_cons_zero, List.set_cons_succ]
        (refine wpAnyK_takeL Keep2.refl (i := 5) (v := ?_) rfl (by kernel_rfl) (by kernel_rfl) (by kernel_rfl) (fun _ _ _ h => h) (by rfl) ?_ ?_; rotate_left 1; focus (intro w; go_simp; try with_reducible rfl))
        try simp only [Act.put, List.setIfInBounds_toArray, List.set_cons_zero, List.set_cons_succ]
        (refine wpAnyK_takeL Keep2.refl (i := 6) (v := ?_) rfl (by kernel_rfl) (by kernel_rfl) (by kernel_rfl) (fun _ _ _ h => h) (by rfl) ?_ ?_; rotate_left 1; focus (intro w; go_simp; try with_reducible rfl))
        try simp only [Act.put, List.setIfInBounds_toArray, List.set_cons_zero, List.set_cons_succ]
        (refine wpAnyK_loadL Keep2.refl (i := 7) (v := ?_) rfl (Keep2.left (i := 7) (by rfl)) (by kernel_rfl) (by kernel_rfl) (by kernel_rfl) (fun _ _ _ h => h) hF0 (by rfl) ?_ ?_; rotate_left 1; focus (intro w hFw; (try dsimp only at hFw); go_split_ands; go_simp; try with_reducible rfl))
        try simp only [Act.put, List.setIfInBounds_toArray, List.set_cons_zero, List.set_cons_succ]
        refine wpAnyK_all (rs := [8, 13]) (by kernel_rfl) (by simp) ?_
        refine List.forall_mem_cons.2 ⟨?_, List.forall_mem_cons.2 ⟨?_, fun _ h => absurd h List.not_mem_nil⟩⟩
        · refine wpOp_of rfl (by rfl) (fun K hK => ?_)
          go_simp
          (refine (price_any x.st x.gd y x.b x.n x.c x.A x.l _ (HX.out.old hV) (by omega)).mono ?_; rw [HPX.out.1, HPX.out.2]; rintro e w8 ⟨rfl, hB8⟩; (try replace hA := hA.step hB8); replace hV := hV.trans (hB8.mono hV.size))
          (refine hK _ _ ⟨Keep2.no (by kernel_rfl) (by kernel_rfl), ?_⟩; clear hK K)
          try simp only [Act.put, List.setIfInBounds_toArray, List.set_cons_zero, List.set_cons_succ]
          (refine wpAnyK_takeL Keep2.refl (i := 9) (v := ?_) rfl (by kernel_rfl) (by kernel_rfl) (by kernel_rfl) (fun _ _ _ h => h) (by rfl) ?_ ?_; rotate_left 1; focus (intro w; go_simp; try with_reducible rfl))
          try simp only [Act.put, List.setIfInBounds_toArray, List.set_cons_zero, List.set_cons_succ]
          (refine wpAnyK_takeL Keep2.refl (i := 10) (v := ?_) rfl (by kernel_rfl) (by kernel_rfl) (by kernel_rfl) (fun _ _ _ h => h) (by rfl) ?_ ?_; rotate_left 1; focus (intro w; go_simp; try with_reducible rfl))
          try simp only [Act.put, List.setIfInBounds_toArray, List.set_cons_zero, List.set_cons_succ]
          (refine wpAnyK_takeL Keep2.refl (i := 11) (v := ?_) rfl (by kernel_rfl) (by kernel_rfl) (by kernel_rfl) (fun _ _ _ h => h) (by rfl) ?_ ?_; rotate_left 1; focus (intro w; go_simp; try with_reducible rfl))
          try simp only [Act.put, List.setIfInBounds_toArray, List.set_cons_zero, List.set_cons_succ]
          (refine wpAnyK_takeL Keep2.refl (i := 12) (v := ?_) rfl (by kernel_rfl) (by kernel_rfl) (by kernel_rfl) (fun _ _ _ h => h) (by rfl) ?_ ?_; rotate_left 1; focus (intro w; go_simp; try with_reducible rfl))
          try simp only [Act.put, List.setIfInBounds_toArray, List.set_cons_zero, List.set_cons_succ]
          refine wpAnyK_step (i := 13) rfl (by kernel_rfl) (by rfl) (fun K hK => ?_)
          go_simp
          (have hA := Alc.new hV; (try simp only [World.size_drew] at hA); have hV0 := hV; replace hV := hV.alloc hV.size (.cells #[.int .i64 0, .int .i64 0] 27))
          (refine hK _ _ (⟨fun _ _ => (HF.out _ hV).1, fun h => absurd h (by decide)⟩) ?_; clear hK K)
          (refine wpAnyK_with (F := fun W' => (W'.cell? ⟨g5, k * 3, none⟩ = some (.int .i64 x.st) ∧ W'.cell? ⟨g5, k * 3 + 1, none⟩ = some (.int .i64 x.gd) ∧ W'.cell? ⟨g5, k * 3 + 2, none⟩ = some (.slice x.A x.n x.c)) ∧ W'.cell? ⟨g6, k, none⟩ = some (.int .i64 y)) ((HF.out _ hV).1) (fun hF2 => ?_); clear hF0)
          try simp only [Act.put, List.setIfInBounds_toArray, List.set_cons_zero, List.set_cons_succ]
          (refine wpAnyK_takeL Keep2.refl (i := 14) (v := ?_) rfl (by kernel_rfl) (by kernel_rfl) (by kernel_rfl) (fun _ _ _ h => h) (by rfl) ?_ ?_; rotate_left 1; focus (intro w; go_simp; try with_reducible rfl))
          try simp only [Act.put, List.setIfInBounds_toArray, List.set_cons_zero, List.set_cons_succ]
          refine wpAnyK_step (i := 15) rfl (by kernel_rfl) (by rfl) (fun K hK => ?_)
          go_simp
          (have f0 := hA.1.frozen 0; have f1 := hA.1.frozen 1; have c0 := hA.1.cell 0; have c1 := hA.1.cell 1; go_simp)
          (refine hK _ _ (Keep2.no (by kernel_rfl) (by kernel_rfl)) ?_; clear hK K)
          try simp only [Act.put, List.setIfInBounds_toArray, List.set_cons_zero, List.set_cons_succ]
          (refine wpAnyK_takeL Keep2.refl (i := 16) (v := ?_) rfl (by kernel_rfl) (by kernel_rfl) (by kernel_rfl) (fun _ _ _ h => h) (by rfl) ?_ ?_; rotate_left 1; focus (intro w; go_simp; try with_reducible rfl))
          try simp only [Act.put, List.setIfInBounds_toArray, List.set_cons_zero, List.set_cons_succ]
          refine wpAnyK_done (by kernel_rfl) ?_ _
          go_wp2_with fail
          go_meet
          first | exact ⟨_, rfl, rfl, rfl, (Alc.last hV0 _ _).1, (Alc.last hV0 _ _).2⟩ | exact ⟨_, rfl, rfl, rfl, (hA.store hV _ _).1, (hA.store hV _ _).2⟩
        · refine wpOp_of rfl (by rfl) (fun K hK => ?_)
          go_simp
          (have hA := Alc.new hV; (try simp only [World.size_drew] at hA); have hV0 := hV; replace hV := hV.alloc hV.size (.cells #[.int .i64 0, .int .i64 0] 27))
          (refine hK _ _ ⟨⟨fun _ _ => (HF.out _ hV).1, fun h => absurd h (by decide)⟩, ?_⟩; clear hK K)
          (refine wpAnyK_with (F := fun W' => (W'.cell? ⟨g5, k * 3, none⟩ = some (.int .i64 x.st) ∧ W'.cell? ⟨g5, k * 3 + 1, none⟩ = some (.int .i64 x.gd) ∧ W'.cell? ⟨g5, k * 3 + 2, none⟩ = some (.slice x.A x.n x.c)) ∧ W'.cell? ⟨g6, k, none⟩ = some (.int .i64 y)) ((HF.out _ hV).1) (fun hF4 => ?_); clear hF0)
          try simp only [Act.put, List.setIfInBounds_toArray, List.set_cons_zero, List.set_cons_succ]
          refine wpAnyK_step (i := 8) rfl (by kernel_rfl) (by rfl) (fun K hK => ?_)
          go_simp
          (refine (price_any x.st x.gd y x.b x.n x.c x.A x.l _ (HX.out.old hV) (by omega)).mono ?_; rw [HPX.out.1, HPX.out.2]; rintro e w8 ⟨rfl, hB8⟩; (try replace hA := hA.step hB8); replace hV := hV.trans (hB8.mono hV.size))
          (refine hK _ _ (Keep2.no (by kernel_rfl) (by kernel_rfl)) ?_; clear hK K)
          try simp only [Act.put, List.setIfInBounds_toArray, List.set_cons_zero, List.set_cons_succ]
          (refine wpAnyK_takeL Keep2.refl (i := 9) (v := ?_) rfl (by kernel_rfl) (by kernel_rfl) (by kernel_rfl) (fun _ _ _ h => h) (by rfl) ?_ ?_; rotate_left 1; focus (intro w; go_simp; try with_reducible rfl))
          try simp only [Act.put, List.setIfInBounds_toArray, List.set_cons_zero, List.set_cons_succ]
          (refine wpAnyK_takeL Keep2.refl (i := 10) (v := ?_) rfl (by kernel_rfl) (by kernel_rfl) (by kernel_rfl) (fun _ _ _ h => h) (by rfl) ?_ ?_; rotate_left 1; focus (intro w; go_simp; try with_reducible rfl))
          try simp only [Act.put, List.setIfInBounds_toArray, List.set_cons_zero, List.set_cons_succ]
          (refine wpAnyK_takeL Keep2.refl (i := 11) (v := ?_) rfl (by kernel_rfl) (by kernel_rfl) (by kernel_rfl) (fun _ _ _ h => h) (by rfl) ?_ ?_; rotate_left 1; focus (intro w; go_simp; try with_reducible rfl))
          try simp only [Act.put, List.setIfInBounds_toArray, List.set_cons_zero, List.set_cons_succ]
          (refine wpAnyK_takeL Keep2.refl (i := 12) (v := ?_) rfl (by kernel_rfl) (by kernel_rfl) (by kernel_rfl) (fun _ _ _ h => h) (by rfl) ?_ ?_; rotate_left 1; focus (intro w; go_simp; try with_reducible rfl))
          try simp only [Act.put, List.setIfInBounds_toArray, List.set_cons_zero, List.set_cons_succ]
          (refine wpAnyK_takeL Keep2.refl (i := 14) (v := ?_) rfl (by kernel_rfl) (by kernel_rfl) (by kernel_rfl) (fun _ _ _ h => h) (by rfl) ?_ ?_; rotate_left 1; focus (intro w; go_simp; try with_reducible rfl))
          try simp only [Act.put, List.setIfInBounds_toArray, List.set_cons_zero, List.set_cons_succ]
          refine wpAnyK_step (i := 15) rfl (by kernel_rfl) (by rfl) (fun K hK => ?_)
          go_simp
          (have f0 := hA.1.frozen 0; have f1 := hA.1.frozen 1; have c0 := hA.1.cell 0; have c1 := hA.1.cell 1; go_simp)
          (refine hK _ _ (Keep2.no (by kernel_rfl) (by kernel_rfl)) ?_; clear hK K)
          try simp only [Act.put, List.setIfInBounds_toArray, List.set_cons_zero, List.set_cons_succ]
          (refine wpAnyK_takeL Keep2.refl (i := 16) (v := ?_) rfl (by kernel_rfl) (by kernel_rfl) (by kernel_rfl) (fun _ _ _ h => h) (by rfl) ?_ ?_; rotate_left 1; focus (intro w; go_simp; try with_reducible rfl))
          try simp only [Act.put, List.setIfInBounds_toArray, List.set_cons_zero, List.set_cons_succ]
          refine wpAnyK_done (by kernel_rfl) ?_ _
          go_wp2_with fail
          go_meet
          first | exact ⟨_, rfl, rfl, rfl, (Alc.last hV0 _ _).1, (Alc.last hV0 _ _).2⟩ | exact ⟨_, rfl, rfl, rfl, (hA.store hV _ _).1, (hA.store hV _ _).2⟩
      case rest =>
        obtain ⟨B1, rfl, rfl, rfl, hA1, hV1⟩ := hcut
        have HA1 := Lib.hid hA1
        have HV1 := Lib.hid hV1
        clear hA1 hV1
        go_upto_region 10 with fail
        refine wp_region_PL [7, 11, 15] (fun W' => (W'.cell? ⟨B1, 0, none⟩ = some (.int .i64 q.lo) ∧ W'.cell? ⟨B1, 1, none⟩ = some (.int .i64 q.hi)) ∧ W'.cell? ⟨g7, k, none⟩ = some (.int .i64 v) ∧ (W'.cell? ⟨g8, k * 2, none⟩ = some (.int .i64 q.lo) ∧ W'.cell? ⟨g8, k * 2 + 1, none⟩ = some (.int .i64 q.hi))) rfl (by kernel_rfl) (⟨⟨HA1.out.1.cell 0, HA1.out.1.cell 1⟩, (HF.out _ HV1.out.drew).2⟩) (fun hF0 => ?_)
        (refine wpAnyP_takeL (i := 0) (v := ?_) rfl (by kernel_rfl) (by kernel_rfl) (by kernel_rfl) (fun _ _ _ h => h) (by rfl) ?_ ?_; rotate_left 1; focus (intro w; go_simp; try with_reducible rfl))
        try simp only [Act.put, List.setIfInBounds_toArray, List.set_cons_zero, List.set_cons_succ]
        (refine wpAnyP_takeL (i := 1) (v := ?_) rfl (by kernel_rfl) (by kernel_rfl) (by kernel_rfl) (fun _ _ _ h => h) (by rfl) ?_ ?_; rotate_left 1; focus (intro w; go_simp; try with_reducible rfl))
        try simp only [Act.put, List.setIfInBounds_toArray, List.set_cons_zero, List.set_cons_succ]
        (refine wpAnyP_takeL (i := 2) (v := ?_) rfl (by kernel_rfl) (by kernel_rfl) (by kernel_rfl) (fun _ _ _ h => h) (by rfl) ?_ ?_; rotate_left 1; focus (intro w; go_simp; try with_reducible rfl))
        try simp only [Act.put, List.setIfInBounds_toArray, List.set_cons_zero, List.set_cons_succ]
        (refine wpAnyP_takeL (i := 3) (v := ?_) rfl (by kernel_rfl) (by kernel_rfl) (by kernel_rfl) (fun _ _ _ h => h) (by rfl) ?_ ?_; rotate_left 1; focus (intro w; go_simp; try with_reducible rfl))
        try simp only [Act.put, List.setIfInBounds_toArray, List.set_cons_zero, List.set_cons_succ]
        (refine wpAnyP_takeL (i := 4) (v := ?_) rfl (by kernel_rfl) (by kernel_rfl) (by kernel_rfl) (fun _ _ _ h => h) (by rfl) ?_ ?_; rotate_left 1; focus (intro w; go_simp; try with_reducible rfl))
        try simp only [Act.put, List.setIfInBounds_toArray, List.set_cons_zero, List.set_cons_succ]
        (refine wpAnyP_takeL (i := 5) (v := ?_) rfl (by kernel_rfl) (by kernel_rfl) (by kernel_rfl) (fun _ _ _ h => h) (by rfl) ?_ ?_; rotate_left 1; focus (intro w; go_simp; try with_reducible rfl))
        try simp only [Act.put, List.setIfInBounds_toArray, List.set_cons_zero, List.set_cons_succ]
        (refine wpAnyP_takeL (i := 6) (v := ?_) rfl (by kernel_rfl) (by kernel_rfl) (by kernel_rfl) (fun _ _ _ h => h) (by rfl) ?_ ?_; rotate_left 1; focus (intro w; go_simp; try with_reducible rfl))
        try simp only [Act.put, List.setIfInBounds_toArray, List.set_cons_zero, List.set_cons_succ]
        (refine wpAnyP_loadL (i := 7) (v := ?_) rfl (by kernel_rfl) (by kernel_rfl) (by kernel_rfl) (by rfl) (fun _ _ _ h => h) hF0 (by rfl) ?_ ?_; rotate_left 1; focus (intro w hFw; (try dsimp only at hFw); go_split_ands; go_simp; try with_reducible rfl))
        try simp only [Act.put, List.setIfInBounds_toArray, List.set_cons_zero, List.set_cons_succ]
        (refine wpAnyP_takeL (i := 8) (v := ?_) rfl (by kernel_rfl) (by kernel_rfl) (by kernel_rfl) (fun _ _ _ h => h) (by rfl) ?_ ?_; rotate_left 1; focus (intro w; go_simp; try with_reducible rfl))
        try simp only [Act.put, List.setIfInBounds_toArray, List.set_cons_zero, List.set_cons_succ]
        (refine wpAnyP_takeL (i := 9) (v := ?_) rfl (by kernel_rfl) (by kernel_rfl) (by kernel_rfl) (fun _ _ _ h => h) (by rfl) ?_ ?_; rotate_left 1; focus (intro w; go_simp; try with_reducible rfl))
        try simp only [Act.put, List.setIfInBounds_toArray, List.set_cons_zero, List.set_cons_succ]
        (refine wpAnyP_takeL (i := 10) (v := ?_) rfl (by kernel_rfl) (by kernel_rfl) (by kernel_rfl) (fun _ _ _ h => h) (by rfl) ?_ ?_; rotate_left 1; focus (intro w; go_simp; try with_reducible rfl))
        try simp only [Act.put, List.setIfInBounds_toArray, List.set_cons_zero, List.set_cons_succ]
        (refine wpAnyP_loadL (i := 11) (v := ?_) rfl (by kernel_rfl) (by kernel_rfl) (by kernel_rfl) (by rfl) (fun _ _ _ h => h) hF0 (by rfl) ?_ ?_; rotate_left 1; focus (intro w hFw; (try dsimp only at hFw); go_split_ands; go_simp; try with_reducible rfl))
        try simp only [Act.put, List.setIfInBounds_toArray, List.set_cons_zero, List.set_cons_succ]
        (refine wpAnyP_takeL (i := 12) (v := ?_) rfl (by kernel_rfl) (by kernel_rfl) (by kernel_rfl) (fun _ _ _ h => h) (by rfl) ?_ ?_; rotate_left 1; focus (intro w; go_simp; try with_reducible rfl))
        try simp only [Act.put, List.setIfInBounds_toArray, List.set_cons_zero, List.set_cons_succ]
        (refine wpAnyP_takeL (i := 13) (v := ?_) rfl (by kernel_rfl) (by kernel_rfl) (by kernel_rfl) (fun _ _ _ h => h) (by rfl) ?_ ?_; rotate_left 1; focus (intro w; go_simp; try with_reducible rfl))
        try simp only [Act.put, List.setIfInBounds_toArray, List.set_cons_zero, List.set_cons_succ]
        (refine wpAnyP_takeL (i := 14) (v := ?_) rfl (by kernel_rfl) (by kernel_rfl) (by kernel_rfl) (fun _ _ _ h => h) (by rfl) ?_ ?_; rotate_left 1; focus (intro w; go_simp; try with_reducible rfl))
        try simp only [Act.put, List.setIfInBounds_toArray, List.set_cons_zero, List.set_cons_succ]
        (refine wpAnyP_loadL (i := 15) (v := ?_) rfl (by kernel_rfl) (by kernel_rfl) (by kernel_rfl) (by rfl) (fun _ _ _ h => h) hF0 (by rfl) ?_ ?_; rotate_left 1; focus (intro w hFw; (try dsimp only at hFw); go_split_ands; go_simp; try with_reducible rfl))
        try simp only [Act.put, List.setIfInBounds_toArray, List.set_cons_zero, List.set_cons_succ]
        (refine wpAnyP_takeL (i := 16) (v := ?_) rfl (by kernel_rfl) (by kernel_rfl) (by kernel_rfl) (fun _ _ _ h => h) (by rfl) ?_ ?_; rotate_left 1; focus (intro w; go_simp; try with_reducible rfl))
        try simp only [Act.put, List.setIfInBounds_toArray, List.set_cons_zero, List.set_cons_succ]
        (refine wpAnyP_takeL (i := 17) (v := ?_) rfl (by kernel_rfl) (by kernel_rfl) (by kernel_rfl) (fun _ _ _ h => h) (by rfl) ?_ ?_; rotate_left 1; focus (intro w; go_simp; try with_reducible rfl))
        try simp only [Act.put, List.setIfInBounds_toArray, List.set_cons_zero, List.set_cons_succ]
        refine wpAnyP_done (by kernel_rfl) ?_ _
        go_wp2_with fail
        go_roundw
        case rel => exact ⟨k + 1, by omega, by go_num, (HB.out.trans (HV1.out.mono hzr)).drew⟩
        case measure => simp [intOf]; omega
    · have HK := Lib.hid (show 4 ≤ k by omega)
      have HL0 := Lib.hid (Below.step HB.out HLow.out (Nat.le_refl _))
      clear HA HG HM HLA HPR HBL HGL HML HLL HLow HB hzr
      --AFTER
      go_wp2_with fail
      refine (day_any _).mono ?_
      rintro e va ⟨A1, c1, rfl, ⟨b1, _, hs1⟩, hB1⟩
      have HL1 := Lib.hid (Below.step hB1 HL0.out (Nat.le_refl _))
      clear HL0 hB1
      go_wp2_with fail
      refine (turnover_any 2 2 0 b1 4 c1 A1 dayL _ hs1 (by omega)).mono ?_
      rw [turn_day0.1, turn_day0.2]
      rintro e vb ⟨rfl, hB2⟩
      have HL2 := Lib.hid (Below.step hB2 HL1.out (Nat.le_refl _))
      clear HL1 hB2
      clear hs1
      have HL3 := Lib.hid (HL2.out.alloc HL2.out.size (.cells #[.int .i64 500, .int .i64 950] 27))
      clear HL2
      have K1 := Lib.hid (Blk.new vb 27 #[.int .i64 500, .int .i64 950])
      go_wp2_with fail
      refine (day_any _).mono ?_
      rintro e vc ⟨A2, c2, rfl, ⟨b2, _, hs2⟩, hB3⟩
      have K1_4 := Lib.hid (K1.out.below hB3 K1.out.lt)
      have HL5 := Lib.hid (Below.step hB3 HL3.out (Nat.le_refl _))
      clear K1 HL3 hB3
      go_wp2_with fail
      refine (turnover_any 2 2 1 b2 4 c2 A2 dayL _ hs2 (by omega)).mono ?_
      rw [turn_day1.1, turn_day1.2]
      rintro e vd ⟨rfl, hB4⟩
      have K1_6 := Lib.hid (K1_4.out.below hB4 K1_4.out.lt)
      have HL7 := Lib.hid (Below.step hB4 HL5.out (Nat.le_refl _))
      clear K1_4 HL5 hB4
      clear hs2
      have K1_8 := Lib.hid (K1_6.out.alloc (.cells #[.int .i64 1200, .int .i64 2106] 27))
      have HL9 := Lib.hid (HL7.out.alloc HL7.out.size (.cells #[.int .i64 1200, .int .i64 2106] 27))
      clear K1_6 HL7
      have K2 := Lib.hid (Blk.new vd 27 #[.int .i64 1200, .int .i64 2106])
      go_wp2_with fail
      refine (day_any _).mono ?_
      rintro e ve ⟨A3, c3, rfl, ⟨b3, _, hs3⟩, hB5⟩
      have K1_10 := Lib.hid (K1_8.out.below hB5 K1_8.out.lt)
      have K2_11 := Lib.hid (K2.out.below hB5 K2.out.lt)
      have HL12 := Lib.hid (Below.step hB5 HL9.out (Nat.le_refl _))
      clear K1_8 K2 HL9 hB5
      have K1_13 := Lib.hid (K1_10.out.alloc (.cells #[.int .i64 0, .int .i64 1000] 45))
      have K2_14 := Lib.hid (K2_11.out.alloc (.cells #[.int .i64 0, .int .i64 1000] 45))
      have HL15 := Lib.hid (HL12.out.alloc HL12.out.size (.cells #[.int .i64 0, .int .i64 1000] 45))
      clear K1_10 K2_11 HL12
      have hs3' := hs3.alloc (.cells #[.int .i64 0, .int .i64 1000] 45)
      have hst := Sl.new encP_len ve [⟨0, 1000⟩] 45 #[.int .i64 0, .int .i64 1000] rfl
      clear hs3
      go_wp2_with fail
      refine (duesTop_any 2 2 b3 4 c3 _ 1 _ A3 _ dayL [⟨0, 1000⟩] _ hs3' hst (by omega) (by omega)).mono ?_
      rw [dues_day.1, dues_day.2]
      rintro e vf ⟨A4, c4, b4, rfl, hs4, hB6⟩
      have K1_16 := Lib.hid (K1_13.out.below hB6 K1_13.out.lt)
      have K2_17 := Lib.hid (K2_14.out.below hB6 K2_14.out.lt)
      have HL18 := Lib.hid (Below.step hB6 HL15.out (Nat.le_refl _))
      clear K1_13 K2_14 HL15 hB6
      clear hs3' hst
      have S4 := Lib.hid hs4
      clear hs4
      go_wp2_with fail
      refine (day_any _).mono ?_
      rintro e vg ⟨A5, c5, rfl, ⟨b5, _, hs5⟩, hB7⟩
      have K1_19 := Lib.hid (K1_16.out.below hB7 K1_16.out.lt)
      have K2_20 := Lib.hid (K2_17.out.below hB7 K2_17.out.lt)
      have S4_21 := Lib.hid (S4.out.old hB7)
      have HL22 := Lib.hid (Below.step hB7 HL18.out (Nat.le_refl _))
      clear K1_16 K2_17 S4 HL18 hB7
      go_wp2_with fail
      refine (pick_any 2 2 11 2 b5 4 c5 A5 dayL _ hs5 (by omega)).mono ?_
      rw [pick_day1.1, pick_day1.2]
      rintro e vh ⟨A6, c6, b6, rfl, hs6, _, _, hB8⟩
      have K1_23 := Lib.hid (K1_19.out.below hB8 K1_19.out.lt)
      have K2_24 := Lib.hid (K2_20.out.below hB8 K2_20.out.lt)
      have S4_25 := Lib.hid (S4_21.out.old hB8)
      have HL26 := Lib.hid (Below.step hB8 HL22.out (Nat.le_refl _))
      clear K1_19 K2_20 S4_21 HL22 hB8
      clear hs5
      have S6 := Lib.hid hs6
      clear hs6
      go_wp2_with fail
      refine (day_any _).mono ?_
      rintro e vi ⟨A7, c7, rfl, ⟨b7, _, hs7⟩, hB9⟩
      have K1_27 := Lib.hid (K1_23.out.below hB9 K1_23.out.lt)
      have K2_28 := Lib.hid (K2_24.out.below hB9 K2_24.out.lt)
      have S4_29 := Lib.hid (S4_25.out.old hB9)
      have S6_30 := Lib.hid (S6.out.old hB9)
      have HL31 := Lib.hid (Below.step hB9 HL26.out (Nat.le_refl _))
      clear K1_23 K2_24 S4_25 S6 HL26 hB9
      go_wp2_with fail
      refine (pick_any 2 2 0 3 b7 4 c7 A7 dayL _ hs7 (by omega)).mono ?_
      rw [pick_day2.1, pick_day2.2]
      rintro e vj ⟨A8, c8, b8, rfl, hs8, _, _, hB10⟩
      have K1_32 := Lib.hid (K1_27.out.below hB10 K1_27.out.lt)
      have K2_33 := Lib.hid (K2_28.out.below hB10 K2_28.out.lt)
      have S4_34 := Lib.hid (S4_29.out.old hB10)
      have S6_35 := Lib.hid (S6_30.out.old hB10)
      have HL36 := Lib.hid (Below.step hB10 HL31.out (Nat.le_refl _))
      clear K1_27 K2_28 S4_29 S6_30 HL31 hB10
      clear hs7
      have S8 := Lib.hid hs8
      clear hs8
      go_upto_region 17 with fail
      have HKK := Lib.hid (fun (W' : World) (hW : Below vj.heap.size vj W') => (show (W'.cell? ⟨vb.heap.size, 0, none⟩ = some (.int .i64 500) ∧ W'.cell? ⟨vb.heap.size, 1, none⟩ = some (.int .i64 950)) ∧ (W'.cell? ⟨vd.heap.size, 0, none⟩ = some (.int .i64 1200) ∧ W'.cell? ⟨vd.heap.size, 1, none⟩ = some (.int .i64 2106)) from ⟨⟨(K1_32.out.below hW K1_32.out.lt).cell 0, (K1_32.out.below hW K1_32.out.lt).cell 1⟩, ⟨(K2_33.out.below hW K2_33.out.lt).cell 0, (K2_33.out.below hW K2_33.out.lt).cell 1⟩⟩))
      refine wp_region_PL [19, 24, 30, 31] (fun W' => (W'.cell? ⟨vb.heap.size, 0, none⟩ = some (.int .i64 500) ∧ W'.cell? ⟨vb.heap.size, 1, none⟩ = some (.int .i64 950)) ∧ (W'.cell? ⟨vd.heap.size, 0, none⟩ = some (.int .i64 1200) ∧ W'.cell? ⟨vd.heap.size, 1, none⟩ = some (.int .i64 2106))) rfl (by kernel_rfl) (HKK.out _ (Below.refl _ vj).drew) (fun hF0 => ?_)
      (refine wpAnyP_takeL (i := 0) (v := ?_) rfl (by kernel_rfl) (by kernel_rfl) (by kernel_rfl) (fun _ _ _ h => h) (by rfl) ?_ ?_; rotate_left 1; focus (intro w; go_simp; try with_reducible rfl))
      try simp only [Act.put, List.setIfInBounds_toArray, List.set_cons_zero, List.set_cons_succ]
      (refine wpAnyP_takeL (i := 1) (v := ?_) rfl (by kernel_rfl) (by kernel_rfl) (by kernel_rfl) (fun _ _ _ h => h) (by rfl) ?_ ?_; rotate_left 1; focus (intro w; go_simp; try with_reducible rfl))
      try simp only [Act.put, List.setIfInBounds_toArray, List.set_cons_zero, List.set_cons_succ]
      (refine wpAnyP_takeL (i := 2) (v := ?_) rfl (by kernel_rfl) (by kernel_rfl) (by kernel_rfl) (fun _ _ _ h => h) (by rfl) ?_ ?_; rotate_left 1; focus (intro w; go_simp; try with_reducible rfl))
      try simp only [Act.put, List.setIfInBounds_toArray, List.set_cons_zero, List.set_cons_succ]
      (refine wpAnyP_takeL (i := 3) (v := ?_) rfl (by kernel_rfl) (by kernel_rfl) (by kernel_rfl) (fun _ _ _ h => h) (by rfl) ?_ ?_; rotate_left 1; focus (intro w; go_simp; try with_reducible rfl))
      try simp only [Act.put, List.setIfInBounds_toArray, List.set_cons_zero, List.set_cons_succ]
      (refine wpAnyP_takeL (i := 4) (v := ?_) rfl (by kernel_rfl) (by kernel_rfl) (by kernel_rfl) (fun _ _ _ h => h) (by rfl) ?_ ?_; rotate_left 1; focus (intro w; go_simp; try with_reducible rfl))
      try simp only [Act.put, List.setIfInBounds_toArray, List.set_cons_zero, List.set_cons_succ]
      (refine wpAnyP_takeL (i := 5) (v := ?_) rfl (by kernel_rfl) (by kernel_rfl) (by kernel_rfl) (fun _ _ _ h => h) (by rfl) ?_ ?_; rotate_left 1; focus (intro w; go_simp; try with_reducible rfl))
      try simp only [Act.put, List.setIfInBounds_toArray, List.set_cons_zero, List.set_cons_succ]
      (refine wpAnyP_takeL (i := 6) (v := ?_) rfl (by kernel_rfl) (by kernel_rfl) (by kernel_rfl) (fun _ _ _ h => h) (by rfl) ?_ ?_; rotate_left 1; focus (intro w; go_simp; try with_reducible rfl))
      try simp only [Act.put, List.setIfInBounds_toArray, List.set_cons_zero, List.set_cons_succ]
      (refine wpAnyP_takeL (i := 7) (v := ?_) rfl (by kernel_rfl) (by kernel_rfl) (by kernel_rfl) (fun _ _ _ h => h) (by rfl) ?_ ?_; rotate_left 1; focus (intro w; go_simp; try with_reducible rfl))
      try simp only [Act.put, List.setIfInBounds_toArray, List.set_cons_zero, List.set_cons_succ]
      (refine wpAnyP_takeL (i := 8) (v := ?_) rfl (by kernel_rfl) (by kernel_rfl) (by kernel_rfl) (fun _ _ _ h => h) (by rfl) ?_ ?_; rotate_left 1; focus (intro w; go_simp; try with_reducible rfl))
      try simp only [Act.put, List.setIfInBounds_toArray, List.set_cons_zero, List.set_cons_succ]
      (refine wpAnyP_takeL (i := 9) (v := ?_) rfl (by kernel_rfl) (by kernel_rfl) (by kernel_rfl) (fun _ _ _ h => h) (by rfl) ?_ ?_; rotate_left 1; focus (intro w; go_simp; try with_reducible rfl))
      try simp only [Act.put, List.setIfInBounds_toArray, List.set_cons_zero, List.set_cons_succ]
      (refine wpAnyP_takeL (i := 10) (v := ?_) rfl (by kernel_rfl) (by kernel_rfl) (by kernel_rfl) (fun _ _ _ h => h) (by rfl) ?_ ?_; rotate_left 1; focus (intro w; go_simp; try with_reducible rfl))
      try simp only [Act.put, List.setIfInBounds_toArray, List.set_cons_zero, List.set_cons_succ]
      (refine wpAnyP_takeL (i := 11) (v := ?_) rfl (by kernel_rfl) (by kernel_rfl) (by kernel_rfl) (fun _ _ _ h => h) (by rfl) ?_ ?_; rotate_left 1; focus (intro w; go_simp; try with_reducible rfl))
      try simp only [Act.put, List.setIfInBounds_toArray, List.set_cons_zero, List.set_cons_succ]
      (refine wpAnyP_takeL (i := 12) (v := ?_) rfl (by kernel_rfl) (by kernel_rfl) (by kernel_rfl) (fun _ _ _ h => h) (by rfl) ?_ ?_; rotate_left 1; focus (intro w; go_simp; try with_reducible rfl))
      try simp only [Act.put, List.setIfInBounds_toArray, List.set_cons_zero, List.set_cons_succ]
      (refine wpAnyP_takeL (i := 13) (v := ?_) rfl (by kernel_rfl) (by kernel_rfl) (by kernel_rfl) (fun _ _ _ h => h) (by rfl) ?_ ?_; rotate_left 1; focus (intro w; go_simp; try with_reducible rfl))
      try simp only [Act.put, List.setIfInBounds_toArray, List.set_cons_zero, List.set_cons_succ]
      (refine wpAnyP_takeL (i := 14) (v := ?_) rfl (by kernel_rfl) (by kernel_rfl) (by kernel_rfl) (fun _ _ _ h => h) (by rfl) ?_ ?_; rotate_left 1; focus (intro w; go_simp; try with_reducible rfl))
      try simp only [Act.put, List.setIfInBounds_toArray, List.set_cons_zero, List.set_cons_succ]
      (refine wpAnyP_takeL (i := 15) (v := ?_) rfl (by kernel_rfl) (by kernel_rfl) (by kernel_rfl) (fun _ _ _ h => h) (by rfl) ?_ ?_; rotate_left 1; focus (intro w; go_simp; try with_reducible rfl))
      try simp only [Act.put, List.setIfInBounds_toArray, List.set_cons_zero, List.set_cons_succ]
      (refine wpAnyP_takeL (i := 16) (v := ?_) rfl (by kernel_rfl) (by kernel_rfl) (by kernel_rfl) (fun _ _ _ h => h) (by rfl) ?_ ?_; rotate_left 1; focus (intro w; go_simp; try with_reducible rfl))
      try simp only [Act.put, List.setIfInBounds_toArray, List.set_cons_zero, List.set_cons_succ]
      (refine wpAnyP_takeL (i := 17) (v := ?_) rfl (by kernel_rfl) (by kernel_rfl) (by kernel_rfl) (fun _ _ _ h => h) (by rfl) ?_ ?_; rotate_left 1; focus (intro w; go_simp; try with_reducible rfl))
      try simp only [Act.put, List.setIfInBounds_toArray, List.set_cons_zero, List.set_cons_succ]
      (refine wpAnyP_takeL (i := 18) (v := ?_) rfl (by kernel_rfl) (by kernel_rfl) (by kernel_rfl) (fun _ _ _ h => h) (by rfl) ?_ ?_; rotate_left 1; focus (intro w; go_simp; try with_reducible rfl))
      try simp only [Act.put, List.setIfInBounds_toArray, List.set_cons_zero, List.set_cons_succ]
      (refine wpAnyP_loadL (i := 19) (v := ?_) rfl (by kernel_rfl) (by kernel_rfl) (by kernel_rfl) (by rfl) (fun _ _ _ h => h) hF0 (by rfl) ?_ ?_; rotate_left 1; focus (intro w hFw; (try dsimp only at hFw); go_split_ands; go_simp; try with_reducible rfl))
      try simp only [Act.put, List.setIfInBounds_toArray, List.set_cons_zero, List.set_cons_succ]
      refine wpAnyP_step (i := 20) rfl (by kernel_rfl) (by rfl) (fun K hK => ?_)
      go_simp
      (refine (span_any _ _ _).mono ?_; rintro e wa ⟨rfl, hBa⟩; have Ha := Lib.hid ((Below.refl vj.heap.size vj).drew.trans hBa); clear hBa)
      (refine hK _ _ (HKK.out _ Ha.out) (fun hF1 => ?_); clear hK K hF0)
      try simp only [Act.put, List.setIfInBounds_toArray, List.set_cons_zero, List.set_cons_succ]
      (refine wpAnyP_takeL (i := 21) (v := ?_) rfl (by kernel_rfl) (by kernel_rfl) (by kernel_rfl) (fun _ _ _ h => h) (by rfl) ?_ ?_; rotate_left 1; focus (intro w; go_simp; try with_reducible rfl))
      try simp only [Act.put, List.setIfInBounds_toArray, List.set_cons_zero, List.set_cons_succ]
      (refine wpAnyP_takeL (i := 22) (v := ?_) rfl (by kernel_rfl) (by kernel_rfl) (by kernel_rfl) (fun _ _ _ h => h) (by rfl) ?_ ?_; rotate_left 1; focus (intro w; go_simp; try with_reducible rfl))
      try simp only [Act.put, List.setIfInBounds_toArray, List.set_cons_zero, List.set_cons_succ]
      (refine wpAnyP_takeL (i := 23) (v := ?_) rfl (by kernel_rfl) (by kernel_rfl) (by kernel_rfl) (fun _ _ _ h => h) (by rfl) ?_ ?_; rotate_left 1; focus (intro w; go_simp; try with_reducible rfl))
      try simp only [Act.put, List.setIfInBounds_toArray, List.set_cons_zero, List.set_cons_succ]
      (refine wpAnyP_loadL (i := 24) (v := ?_) rfl (by kernel_rfl) (by kernel_rfl) (by kernel_rfl) (by rfl) (fun _ _ _ h => h) hF1 (by rfl) ?_ ?_; rotate_left 1; focus (intro w hFw; (try dsimp only at hFw); go_split_ands; go_simp; try with_reducible rfl))
      try simp only [Act.put, List.setIfInBounds_toArray, List.set_cons_zero, List.set_cons_succ]
      refine wpAnyP_step (i := 25) rfl (by kernel_rfl) (by rfl) (fun K hK => ?_)
      go_simp
      (refine (span_any _ _ _).mono ?_; rintro e wb ⟨rfl, hBb⟩; have Hb := Lib.hid (Ha.out.trans (hBb.mono Ha.out.size)); clear hBb)
      (refine hK _ _ (HKK.out _ Hb.out) (fun hF2 => ?_); clear hK K hF1)
      try simp only [Act.put, List.setIfInBounds_toArray, List.set_cons_zero, List.set_cons_succ]
      (refine wpAnyP_takeL (i := 26) (v := ?_) rfl (by kernel_rfl) (by kernel_rfl) (by kernel_rfl) (fun _ _ _ h => h) (by rfl) ?_ ?_; rotate_left 1; focus (intro w; go_simp; try with_reducible rfl))
      try simp only [Act.put, List.setIfInBounds_toArray, List.set_cons_zero, List.set_cons_succ]
      (refine wpAnyP_takeL (i := 27) (v := ?_) rfl (by kernel_rfl) (by kernel_rfl) (by kernel_rfl) (fun _ _ _ h => h) (by rfl) ?_ ?_; rotate_left 1; focus (intro w; go_simp; try with_reducible rfl))
      try simp only [Act.put, List.setIfInBounds_toArray, List.set_cons_zero, List.set_cons_succ]
      (refine wpAnyP_takeL (i := 28) (v := ?_) rfl (by kernel_rfl) (by kernel_rfl) (by kernel_rfl) (fun _ _ _ h => h) (by rfl) ?_ ?_; rotate_left 1; focus (intro w; go_simp; try with_reducible rfl))
      try simp only [Act.put, List.setIfInBounds_toArray, List.set_cons_zero, List.set_cons_succ]
      (refine wpAnyP_takeL (i := 29) (v := ?_) rfl (by kernel_rfl) (by kernel_rfl) (by kernel_rfl) (fun _ _ _ h => h) (by rfl) ?_ ?_; rotate_left 1; focus (intro w; go_simp; try with_reducible rfl))
      try simp only [Act.put, List.setIfInBounds_toArray, List.set_cons_zero, List.set_cons_succ]
      (refine wpAnyP_loadL (i := 30) (v := ?_) rfl (by kernel_rfl) (by kernel_rfl) (by kernel_rfl) (by rfl) (fun _ _ _ h => h) hF2 (by rfl) ?_ ?_; rotate_left 1; focus (intro w hFw; (try dsimp only at hFw); go_split_ands; go_simp; try with_reducible rfl))
      try simp only [Act.put, List.setIfInBounds_toArray, List.set_cons_zero, List.set_cons_succ]
      (refine wpAnyP_loadL (i := 31) (v := ?_) rfl (by kernel_rfl) (by kernel_rfl) (by kernel_rfl) (by rfl) (fun _ _ _ h => h) hF2 (by rfl) ?_ ?_; rotate_left 1; focus (intro w hFw; (try dsimp only at hFw); go_split_ands; go_simp; try with_reducible rfl))
      try simp only [Act.put, List.setIfInBounds_toArray, List.set_cons_zero, List.set_cons_succ]
      refine wpAnyP_step (i := 32) rfl (by kernel_rfl) (by rfl) (fun K hK => ?_)
      go_simp
      (have Hc := Lib.hid (Hb.out.alloc Hb.out.size (.cells #[.int .i64 500, .int .i64 950, .int .i64 1200, .int .i64 2106] 27)))
      (refine hK _ _ (HKK.out _ Hc.out) (fun hF3 => ?_); clear hK K hF2)
      try simp only [Act.put, List.setIfInBounds_toArray, List.set_cons_zero, List.set_cons_succ]
      refine wpAnyP_step (i := 33) rfl (by kernel_rfl) (by rfl) (fun K hK => ?_)
      go_simp
      (refine (sameSpans_any b4 _ 2 2 c4 _ A4 _ [⟨500, 950⟩, ⟨1200, 2106⟩] [⟨500, 950⟩, ⟨1200, 2106⟩] _ (S4_34.out.old Hc.out) (Sl.new encR_len wb [⟨500, 950⟩, ⟨1200, 2106⟩] _ _ rfl) (by omega)).mono ?_; rw [same_spans]; rintro e wd ⟨rfl, hBd⟩; have Hd := Lib.hid (Hc.out.trans (hBd.mono Hc.out.size)); clear hBd)
      (refine hK _ _ (HKK.out _ Hd.out) (fun hF4 => ?_); clear hK K hF3)
      try simp only [Act.put, List.setIfInBounds_toArray, List.set_cons_zero, List.set_cons_succ]
      (refine wpAnyP_takeL (i := 34) (v := ?_) rfl (by kernel_rfl) (by kernel_rfl) (by kernel_rfl) (fun _ _ _ h => h) (by rfl) ?_ ?_; rotate_left 1; focus (intro w; go_simp; try with_reducible rfl))
      try simp only [Act.put, List.setIfInBounds_toArray, List.set_cons_zero, List.set_cons_succ]
      (refine wpAnyP_takeL (i := 35) (v := ?_) rfl (by kernel_rfl) (by kernel_rfl) (by kernel_rfl) (fun _ _ _ h => h) (by rfl) ?_ ?_; rotate_left 1; focus (intro w; go_simp; try with_reducible rfl))
      try simp only [Act.put, List.setIfInBounds_toArray, List.set_cons_zero, List.set_cons_succ]
      (refine wpAnyP_takeL (i := 36) (v := ?_) rfl (by kernel_rfl) (by kernel_rfl) (by kernel_rfl) (fun _ _ _ h => h) (by rfl) ?_ ?_; rotate_left 1; focus (intro w; go_simp; try with_reducible rfl))
      try simp only [Act.put, List.setIfInBounds_toArray, List.set_cons_zero, List.set_cons_succ]
      (refine wpAnyP_takeL (i := 37) (v := ?_) rfl (by kernel_rfl) (by kernel_rfl) (by kernel_rfl) (fun _ _ _ h => h) (by rfl) ?_ ?_; rotate_left 1; focus (intro w; go_simp; try with_reducible rfl))
      try simp only [Act.put, List.setIfInBounds_toArray, List.set_cons_zero, List.set_cons_succ]
      refine wpAnyP_step (i := 38) rfl (by kernel_rfl) (by rfl) (fun K hK => ?_)
      go_simp
      (have He := Lib.hid (Hd.out.alloc Hd.out.size (.cells #[.int .i64 3, .int .i64 2] 3)))
      (refine hK _ _ (HKK.out _ He.out) (fun hF5 => ?_); clear hK K hF4)
      try simp only [Act.put, List.setIfInBounds_toArray, List.set_cons_zero, List.set_cons_succ]
      refine wpAnyP_step (i := 39) rfl (by kernel_rfl) (by rfl) (fun K hK => ?_)
      go_simp
      (refine (sameInts_any b6 _ 2 2 c6 _ A6 _ [3, 2] [3, 2] _ (S6_35.out.old He.out) (Sl.new encI_len wd [3, 2] _ _ rfl) (by omega)).mono ?_; rw [same_ints]; rintro e wf ⟨rfl, hBf⟩; have Hf := Lib.hid (He.out.trans (hBf.mono He.out.size)); clear hBf)
      (refine hK _ _ (HKK.out _ Hf.out) (fun hF6 => ?_); clear hK K hF5)
      try simp only [Act.put, List.setIfInBounds_toArray, List.set_cons_zero, List.set_cons_succ]
      (refine wpAnyP_takeL (i := 40) (v := ?_) rfl (by kernel_rfl) (by kernel_rfl) (by kernel_rfl) (fun _ _ _ h => h) (by rfl) ?_ ?_; rotate_left 1; focus (intro w; go_simp; try with_reducible rfl))
      try simp only [Act.put, List.setIfInBounds_toArray, List.set_cons_zero, List.set_cons_succ]
      (refine wpAnyP_takeL (i := 41) (v := ?_) rfl (by kernel_rfl) (by kernel_rfl) (by kernel_rfl) (fun _ _ _ h => h) (by rfl) ?_ ?_; rotate_left 1; focus (intro w; go_simp; try with_reducible rfl))
      try simp only [Act.put, List.setIfInBounds_toArray, List.set_cons_zero, List.set_cons_succ]
      (refine wpAnyP_takeL (i := 42) (v := ?_) rfl (by kernel_rfl) (by kernel_rfl) (by kernel_rfl) (fun _ _ _ h => h) (by rfl) ?_ ?_; rotate_left 1; focus (intro w; go_simp; try with_reducible rfl))
      try simp only [Act.put, List.setIfInBounds_toArray, List.set_cons_zero, List.set_cons_succ]
      (refine wpAnyP_takeL (i := 43) (v := ?_) rfl (by kernel_rfl) (by kernel_rfl) (by kernel_rfl) (fun _ _ _ h => h) (by rfl) ?_ ?_; rotate_left 1; focus (intro w; go_simp; try with_reducible rfl))
      try simp only [Act.put, List.setIfInBounds_toArray, List.set_cons_zero, List.set_cons_succ]
      refine wpAnyP_step (i := 44) rfl (by kernel_rfl) (by rfl) (fun K hK => ?_)
      go_simp
      (have Hg := Lib.hid (Hf.out.alloc Hf.out.size (.cells #[.int .i64 0, .int .i64 1, .int .i64 2] 3)))
      (refine hK _ _ (HKK.out _ Hg.out) (fun hF7 => ?_); clear hK K hF6)
      try simp only [Act.put, List.setIfInBounds_toArray, List.set_cons_zero, List.set_cons_succ]
      refine wpAnyP_step (i := 45) rfl (by kernel_rfl) (by rfl) (fun K hK => ?_)
      go_simp
      (refine (sameInts_any b8 _ 3 3 c8 _ A8 _ [0, 1, 2] [0, 1, 2] _ (S8.out.old Hg.out) (Sl.new encI_len wf [0, 1, 2] _ _ rfl) (by omega)).mono ?_; rw [same_ints]; rintro e wh ⟨rfl, hBh⟩; have Hh := Lib.hid (Hg.out.trans (hBh.mono Hg.out.size)); clear hBh)
      (refine hK _ _ (HKK.out _ Hh.out) (fun hF8 => ?_); clear hK K hF7)
      try simp only [Act.put, List.setIfInBounds_toArray, List.set_cons_zero, List.set_cons_succ]
      (refine wpAnyP_takeL (i := 46) (v := ?_) rfl (by kernel_rfl) (by kernel_rfl) (by kernel_rfl) (fun _ _ _ h => h) (by rfl) ?_ ?_; rotate_left 1; focus (intro w; go_simp; try with_reducible rfl))
      try simp only [Act.put, List.setIfInBounds_toArray, List.set_cons_zero, List.set_cons_succ]
      (refine wpAnyP_takeL (i := 47) (v := ?_) rfl (by kernel_rfl) (by kernel_rfl) (by kernel_rfl) (fun _ _ _ h => h) (by rfl) ?_ ?_; rotate_left 1; focus (intro w; go_simp; try with_reducible rfl))
      try simp only [Act.put, List.setIfInBounds_toArray, List.set_cons_zero, List.set_cons_succ]
      refine wpAnyP_done (by kernel_rfl) ?_ _
      have HM0 := Lib.hid (Below.step Hh.out HL36.out (Nat.le_refl _))
      clear K1_32 K2_33 S4_34 S6_35 S8 HL36 HKK Ha Hb Hc Hd He Hf Hg Hh
      go_wp2_with fail
      refine (day_any _).mono ?_
      rintro e vk ⟨Ak, ck, rfl, ⟨bk, _, hsk⟩, hBk⟩
      have HL37 := Lib.hid (Below.step hBk HM0.out (Nat.le_refl _))
      clear HM0 hBk
      have HL38 := Lib.hid (HL37.out.alloc HL37.out.size (.cells #[.int .i64 1, .int .i64 2500, .int .i64 650] 54))
      clear HL37
      have hsk' := hsk.alloc (.cells #[.int .i64 1, .int .i64 2500, .int .i64 650] 54)
      have hfk := Sl.new encF_len vk [⟨1, 2500, 650⟩] 54 #[.int .i64 1, .int .i64 2500, .int .i64 650] rfl
      clear hsk
      go_wp2_with fail
      refine (audited_any 2 2 bk 4 ck _ 1 _ Ak _ dayL [⟨1, 2500, 650⟩] _ hsk' hfk (by omega) (by omega)).mono ?_
      rw [aud_day1]
      intro e vl hpost
      obtain ⟨Al, cl, bl, rfl, hsl, hBl⟩ := aud_found hpost
      clear hpost
      have HL39 := Lib.hid (Below.step hBl HL38.out (Nat.le_refl _))
      clear HL38 hBl
      clear hsk' hfk
      have HL40 := Lib.hid (HL39.out.alloc HL39.out.size (.cells #[.int .i64 2, .int .i64 2, .slice Al 4 cl] 24))
      clear HL39
      have KB1 := Lib.hid (Blk.new vl 24 #[.int .i64 2, .int .i64 2, .slice Al 4 cl])
      have SB1 := Lib.hid (hsl.alloc (.cells #[.int .i64 2, .int .i64 2, .slice Al 4 cl] 24))
      clear hsl
      go_wp2_with fail
      refine (day_any _).mono ?_
      rintro e vm ⟨Am, cm, rfl, ⟨bm, _, hsm⟩, hBm⟩
      have KB1_41 := Lib.hid (KB1.out.below hBm KB1.out.lt)
      have SB1_42 := Lib.hid (SB1.out.old hBm)
      have HL43 := Lib.hid (Below.step hBm HL40.out (Nat.le_refl _))
      clear KB1 SB1 HL40 hBm
      have KB1_44 := Lib.hid (KB1_41.out.alloc (.cells #[.int .i64 1, .int .i64 3001, .int .i64 650] 54))
      have SB1_45 := Lib.hid (SB1_42.out.alloc (.cells #[.int .i64 1, .int .i64 3001, .int .i64 650] 54))
      have HL46 := Lib.hid (HL43.out.alloc HL43.out.size (.cells #[.int .i64 1, .int .i64 3001, .int .i64 650] 54))
      clear KB1_41 SB1_42 HL43
      have hsm' := hsm.alloc (.cells #[.int .i64 1, .int .i64 3001, .int .i64 650] 54)
      have hfm := Sl.new encF_len vm [⟨1, 3001, 650⟩] 54 #[.int .i64 1, .int .i64 3001, .int .i64 650] rfl
      clear hsm
      go_wp2_with fail
      refine (audited_any 2 2 bm 4 cm _ 1 _ Am _ dayL [⟨1, 3001, 650⟩] _ hsm' hfm (by omega) (by omega)).mono ?_
      rw [aud_day2]
      intro e vn hpost
      obtain ⟨An, cn, rfl, hBn⟩ := aud_clash hpost
      clear hpost
      have KB1_47 := Lib.hid (KB1_44.out.below hBn KB1_44.out.lt)
      have SB1_48 := Lib.hid (SB1_45.out.old hBn)
      have HL49 := Lib.hid (Below.step hBn HL46.out (Nat.le_refl _))
      clear KB1_44 SB1_45 HL46 hBn
      clear hsm' hfm
      have e0 := KB1_47.out.cell 0
      have e1 := KB1_47.out.cell 1
      have e2 := KB1_47.out.cell 2
      go_wp2_with fail
      refine (price_any 2 2 0 bl 4 cl Al foundL _ SB1_48.out (by omega)).mono ?_
      rw [price_found.1, price_found.2]
      rintro e vo ⟨rfl, hBo⟩
      have HL50 := Lib.hid (Below.step hBo HL49.out (Nat.le_refl _))
      clear HL49 hBo
      clear e0 e1 e2
      have HL51 := Lib.hid (HL50.out.alloc HL50.out.size (.cells #[.int .i64 650, .int .i64 650] 27))
      clear HL50
      have KO := Lib.hid (Blk.new vo 27 #[.int .i64 650, .int .i64 650])
      go_wp2_with fail
      refine (eve_any _).mono ?_
      rintro e vp ⟨Ap, cp, rfl, ⟨bp, _, hsp⟩, hBp⟩
      have KO_52 := Lib.hid (KO.out.below hBp KO.out.lt)
      have HL53 := Lib.hid (Below.step hBp HL51.out (Nat.le_refl _))
      clear KO HL51 hBp
      go_wp2_with fail
      refine (write_any 1 1 bp 1 cp Ap eveL _ hsp (by omega) (HP.out.old HL53.out)).mono ?_
      rw [text_eve, eve_seal.1]
      rintro e vq ⟨rfl, hBq⟩
      have KO_54 := Lib.hid (KO_52.out.below hBq KO_52.out.lt)
      have HL55 := Lib.hid (Below.step hBq HL53.out (Nat.le_refl _))
      clear KO_52 HL53 hBq
      clear hsp
      go_upto_region 23 with fail
      refine wp_region_PL [15] (fun W' => W'.cell? ⟨vo.heap.size, 0, none⟩ = some (.int .i64 650) ∧ W'.cell? ⟨vo.heap.size, 1, none⟩ = some (.int .i64 650)) rfl (by kernel_rfl) (⟨KO_54.out.cell 0, KO_54.out.cell 1⟩) (fun hF0 => ?_)
      (refine wpAnyP_takeL (i := 0) (v := ?_) rfl (by kernel_rfl) (by kernel_rfl) (by kernel_rfl) (fun _ _ _ h => h) (by rfl) ?_ ?_; rotate_left 1; focus (intro w; go_simp; try with_reducible rfl))
      try simp only [Act.put, List.setIfInBounds_toArray, List.set_cons_zero, List.set_cons_succ]
      (refine wpAnyP_takeL (i := 1) (v := ?_) rfl (by kernel_rfl) (by kernel_rfl) (by kernel_rfl) (fun _ _ _ h => h) (by rfl) ?_ ?_; rotate_left 1; focus (intro w; go_simp; try with_reducible rfl))
      try simp only [Act.put, List.setIfInBounds_toArray, List.set_cons_zero, List.set_cons_succ]
      (refine wpAnyP_takeL (i := 2) (v := ?_) rfl (by kernel_rfl) (by kernel_rfl) (by kernel_rfl) (fun _ _ _ h => h) (by rfl) ?_ ?_; rotate_left 1; focus (intro w; go_simp; try with_reducible rfl))
      try simp only [Act.put, List.setIfInBounds_toArray, List.set_cons_zero, List.set_cons_succ]
      (refine wpAnyP_takeL (i := 3) (v := ?_) rfl (by kernel_rfl) (by kernel_rfl) (by kernel_rfl) (fun _ _ _ h => h) (by rfl) ?_ ?_; rotate_left 1; focus (intro w; go_simp; try with_reducible rfl))
      try simp only [Act.put, List.setIfInBounds_toArray, List.set_cons_zero, List.set_cons_succ]
      (refine wpAnyP_takeL (i := 4) (v := ?_) rfl (by kernel_rfl) (by kernel_rfl) (by kernel_rfl) (fun _ _ _ h => h) (by rfl) ?_ ?_; rotate_left 1; focus (intro w; go_simp; try with_reducible rfl))
      try simp only [Act.put, List.setIfInBounds_toArray, List.set_cons_zero, List.set_cons_succ]
      (refine wpAnyP_takeL (i := 5) (v := ?_) rfl (by kernel_rfl) (by kernel_rfl) (by kernel_rfl) (fun _ _ _ h => h) (by rfl) ?_ ?_; rotate_left 1; focus (intro w; go_simp; try with_reducible rfl))
      try simp only [Act.put, List.setIfInBounds_toArray, List.set_cons_zero, List.set_cons_succ]
      (refine wpAnyP_takeL (i := 6) (v := ?_) rfl (by kernel_rfl) (by kernel_rfl) (by kernel_rfl) (fun _ _ _ h => h) (by rfl) ?_ ?_; rotate_left 1; focus (intro w; go_simp; try with_reducible rfl))
      try simp only [Act.put, List.setIfInBounds_toArray, List.set_cons_zero, List.set_cons_succ]
      (refine wpAnyP_takeL (i := 7) (v := ?_) rfl (by kernel_rfl) (by kernel_rfl) (by kernel_rfl) (fun _ _ _ h => h) (by rfl) ?_ ?_; rotate_left 1; focus (intro w; go_simp; try with_reducible rfl))
      try simp only [Act.put, List.setIfInBounds_toArray, List.set_cons_zero, List.set_cons_succ]
      (refine wpAnyP_takeL (i := 8) (v := ?_) rfl (by kernel_rfl) (by kernel_rfl) (by kernel_rfl) (fun _ _ _ h => h) (by rfl) ?_ ?_; rotate_left 1; focus (intro w; go_simp; try with_reducible rfl))
      try simp only [Act.put, List.setIfInBounds_toArray, List.set_cons_zero, List.set_cons_succ]
      (refine wpAnyP_takeL (i := 9) (v := ?_) rfl (by kernel_rfl) (by kernel_rfl) (by kernel_rfl) (fun _ _ _ h => h) (by rfl) ?_ ?_; rotate_left 1; focus (intro w; go_simp; try with_reducible rfl))
      try simp only [Act.put, List.setIfInBounds_toArray, List.set_cons_zero, List.set_cons_succ]
      (refine wpAnyP_takeL (i := 10) (v := ?_) rfl (by kernel_rfl) (by kernel_rfl) (by kernel_rfl) (fun _ _ _ h => h) (by rfl) ?_ ?_; rotate_left 1; focus (intro w; go_simp; try with_reducible rfl))
      try simp only [Act.put, List.setIfInBounds_toArray, List.set_cons_zero, List.set_cons_succ]
      (refine wpAnyP_takeL (i := 11) (v := ?_) rfl (by kernel_rfl) (by kernel_rfl) (by kernel_rfl) (fun _ _ _ h => h) (by rfl) ?_ ?_; rotate_left 1; focus (intro w; go_simp; try with_reducible rfl))
      try simp only [Act.put, List.setIfInBounds_toArray, List.set_cons_zero, List.set_cons_succ]
      (refine wpAnyP_takeL (i := 12) (v := ?_) rfl (by kernel_rfl) (by kernel_rfl) (by kernel_rfl) (fun _ _ _ h => h) (by rfl) ?_ ?_; rotate_left 1; focus (intro w; go_simp; try with_reducible rfl))
      try simp only [Act.put, List.setIfInBounds_toArray, List.set_cons_zero, List.set_cons_succ]
      (refine wpAnyP_takeL (i := 13) (v := ?_) rfl (by kernel_rfl) (by kernel_rfl) (by kernel_rfl) (fun _ _ _ h => h) (by rfl) ?_ ?_; rotate_left 1; focus (intro w; go_simp; try with_reducible rfl))
      try simp only [Act.put, List.setIfInBounds_toArray, List.set_cons_zero, List.set_cons_succ]
      (refine wpAnyP_takeL (i := 14) (v := ?_) rfl (by kernel_rfl) (by kernel_rfl) (by kernel_rfl) (fun _ _ _ h => h) (by rfl) ?_ ?_; rotate_left 1; focus (intro w; go_simp; try with_reducible rfl))
      try simp only [Act.put, List.setIfInBounds_toArray, List.set_cons_zero, List.set_cons_succ]
      (refine wpAnyP_loadL (i := 15) (v := ?_) rfl (by kernel_rfl) (by kernel_rfl) (by kernel_rfl) (by rfl) (fun _ _ _ h => h) hF0 (by rfl) ?_ ?_; rotate_left 1; focus (intro w hFw; (try dsimp only at hFw); go_split_ands; go_simp; try with_reducible rfl))
      try simp only [Act.put, List.setIfInBounds_toArray, List.set_cons_zero, List.set_cons_succ]
      refine wpAnyP_step (i := 16) rfl (by kernel_rfl) (by rfl) (fun K hK => ?_)
      go_simp
      (refine (lone_any _ _).mono ?_; rintro e wz ⟨rfl, hBz⟩; have Hz := Lib.hid ((Below.refl vq.heap.size vq).drew.trans hBz); clear hBz)
      (refine hK _ _ (⟨(KO_54.out.below Hz.out KO_54.out.lt).cell 0, (KO_54.out.below Hz.out KO_54.out.lt).cell 1⟩) (fun hF1 => ?_); clear hK K hF0)
      try simp only [Act.put, List.setIfInBounds_toArray, List.set_cons_zero, List.set_cons_succ]
      (refine wpAnyP_takeL (i := 17) (v := ?_) rfl (by kernel_rfl) (by kernel_rfl) (by kernel_rfl) (fun _ _ _ h => h) (by rfl) ?_ ?_; rotate_left 1; focus (intro w; go_simp; try with_reducible rfl))
      try simp only [Act.put, List.setIfInBounds_toArray, List.set_cons_zero, List.set_cons_succ]
      (refine wpAnyP_takeL (i := 18) (v := ?_) rfl (by kernel_rfl) (by kernel_rfl) (by kernel_rfl) (fun _ _ _ h => h) (by rfl) ?_ ?_; rotate_left 1; focus (intro w; go_simp; try with_reducible rfl))
      try simp only [Act.put, List.setIfInBounds_toArray, List.set_cons_zero, List.set_cons_succ]
      (refine wpAnyP_takeL (i := 19) (v := ?_) rfl (by kernel_rfl) (by kernel_rfl) (by kernel_rfl) (fun _ _ _ h => h) (by rfl) ?_ ?_; rotate_left 1; focus (intro w; go_simp; try with_reducible rfl))
      try simp only [Act.put, List.setIfInBounds_toArray, List.set_cons_zero, List.set_cons_succ]
      (refine wpAnyP_takeL (i := 20) (v := ?_) rfl (by kernel_rfl) (by kernel_rfl) (by kernel_rfl) (fun _ _ _ h => h) (by rfl) ?_ ?_; rotate_left 1; focus (intro w; go_simp; try with_reducible rfl))
      try simp only [Act.put, List.setIfInBounds_toArray, List.set_cons_zero, List.set_cons_succ]
      (refine wpAnyP_takeL (i := 21) (v := ?_) rfl (by kernel_rfl) (by kernel_rfl) (by kernel_rfl) (fun _ _ _ h => h) (by rfl) ?_ ?_; rotate_left 1; focus (intro w; go_simp; try with_reducible rfl))
      try simp only [Act.put, List.setIfInBounds_toArray, List.set_cons_zero, List.set_cons_succ]
      (refine wpAnyP_takeL (i := 22) (v := ?_) rfl (by kernel_rfl) (by kernel_rfl) (by kernel_rfl) (fun _ _ _ h => h) (by rfl) ?_ ?_; rotate_left 1; focus (intro w; go_simp; try with_reducible rfl))
      try simp only [Act.put, List.setIfInBounds_toArray, List.set_cons_zero, List.set_cons_succ]
      (refine wpAnyP_takeL (i := 23) (v := ?_) rfl (by kernel_rfl) (by kernel_rfl) (by kernel_rfl) (fun _ _ _ h => h) (by rfl) ?_ ?_; rotate_left 1; focus (intro w; go_simp; try with_reducible rfl))
      try simp only [Act.put, List.setIfInBounds_toArray, List.set_cons_zero, List.set_cons_succ]
      refine wpAnyP_done (by kernel_rfl) ?_ _
      go_wp2_with fail
      go_ret
      exact ⟨rfl, Below.step Hz.out HL55.out (Nat.le_refl _)⟩
end Go.Proofs.YtjmppionedcfeaaDoor
