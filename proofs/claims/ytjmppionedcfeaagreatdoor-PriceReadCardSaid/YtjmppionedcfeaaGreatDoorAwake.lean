/-
  The chapter's examples: books and steps that are made there. The chapter's examples hold: what every law of the layer asks at its end.
-/
import Derived.Test.YtjmppionedcfeaaGreatDoorEnc
import Derived.Test.YtjmppionedcfeaaGreatDoorPriceW
import Derived.Test.YtjmppionedcfeaaGreatDoorPriceLaw
import Derived.Test.YtjmppionedcfeaaGreatDoorDuesW
import Derived.Test.YtjmppionedcfeaaGreatDoorSealW
import Derived.Test.YtjmppionedcfeaaGreatDoorSame
set_option linter.unusedVariables false
set_option linter.unusedSimpArgs false
namespace Go.Proofs.YtjmppionedcfeaaGreatDoor
open Go.RowKit

theorem span_any (lo hi : Int) (w : World) : Calls Tryz.prog 20 #[.int .i64 lo, .int .i64 hi] w fun e w' => e = .returned (.agg #[.int .i64 lo, .int .i64 hi]) ∧ Below w.heap.size w w' := by
  have b0 := (Blk.new w 42 #[.int .i64 0, .int .i64 0])
  have bR := ((b0.set_ 0 (.int .i64 lo)).set_ 1 (.int .i64 hi))
  have q0 := bR.cell 0
  have q1 := bR.cell 1
  clear b0 bR
  go_enter Tryz.func20, Tryz.ntmps20
  go_wp2
  refine bodyPost_ret (v := .agg #[.int .i64 lo, .int .i64 hi]) (by simp [results, Tryz.results20, go_sem, q0, q1]) rfl ?_
  exact ⟨rfl, by go_grown⟩
theorem lone_any (n : Int) (w : World) : Calls Tryz.prog 48 #[.int .i64 n] w fun e w' => e = .returned (.agg #[.int .i64 n, .int .i64 n]) ∧ Below w.heap.size w w' := by
  have b0 := Blk.new w 42 #[.int .i64 0, .int .i64 0]
  have hB : Below w.heap.size w (w.alloc (.cells #[.int .i64 0, .int .i64 0] 42)) := by go_grown
  go_enter Tryz.func48, Tryz.ntmps48
  go_wp2_with fail
  refine (span_any n n _).mono ?_
  rintro e w1 ⟨rfl, hb⟩
  have b1 := b0.below hb b0.lt
  have hB1 := Below.step hb hB (Nat.le_refl _)
  have f0 := b1.frozen 0
  have f1 := b1.frozen 1
  have c0 := b1.cell 0
  have c1 := b1.cell 1
  have bR := ((b1.set_ 0 (.int .i64 n)).set_ 1 (.int .i64 n))
  have q0 := bR.cell 0
  have q1 := bR.cell 1
  clear hb b0 hB bR
  go_wp2
  refine bodyPost_ret (v := .agg #[.int .i64 n, .int .i64 n]) (by simp [results, Tryz.results48, go_sem, q0, q1]) rfl ?_
  exact ⟨rfl, (hB1.setCell (p := ⟨w.heap.size, 0, none⟩) (Nat.le_refl _) _).setCell (p := ⟨w.heap.size, 1, none⟩) (Nat.le_refl _) _⟩

/-- what stays while a book is made: the world below, and the block of the result -/
def Mk (w : World) (g : Nat) (t : TypeId) (cs : Array Value) (W : World) : Prop := Below w.heap.size w W ∧ Blk W g t cs
theorem Mk.next {w W W1 : World} {g : Nat} {t : TypeId} {cs : Array Value} (h : Mk w g t cs W) (hb : Below W.heap.size W W1) : Mk w g t cs W1 := ⟨Below.step hb h.1 (Nat.le_refl _), h.2.below hb h.2.lt⟩
theorem Mk.facts {w W : World} {g : Nat} {t : TypeId} {x y z : Value} (h : Mk w g t #[x, y, z] W) : W.frozen? ⟨g, 0, none⟩ = false ∧ W.frozen? ⟨g, 1, none⟩ = false ∧ W.frozen? ⟨g, 2, none⟩ = false ∧
    W.cell? ⟨g, 0, none⟩ = some x ∧ W.cell? ⟨g, 1, none⟩ = some y ∧ W.cell? ⟨g, 2, none⟩ = some z ∧ g < W.heap.size :=
  ⟨h.2.frozen 0, h.2.frozen 1, h.2.frozen 2, h.2.cell 0, h.2.cell 1, h.2.cell 2, h.2.lt⟩
theorem span_mk (lo hi : Int) (w W : World) (g : Nat) (t : TypeId) (cs : Array Value) (h : Mk w g t cs W) : Calls Tryz.prog 20 #[.int .i64 lo, .int .i64 hi] W fun e w' => e = .returned (.agg #[.int .i64 lo, .int .i64 hi]) ∧ Mk w g t cs w' :=
  (span_any lo hi W).mono fun _ _ ⟨he, hb⟩ => ⟨he, h.next hb⟩
theorem lone_mk (n : Int) (w W : World) (g : Nat) (t : TypeId) (cs : Array Value) (h : Mk w g t cs W) : Calls Tryz.prog 48 #[.int .i64 n] W fun e w' => e = .returned (.agg #[.int .i64 n, .int .i64 n]) ∧ Mk w g t cs w' :=
  (lone_any n W).mono fun _ _ ⟨he, hb⟩ => ⟨he, h.next hb⟩

theorem Mk.book {w W : World} {x y z : Value} (h : Mk w w.heap.size 24 #[x, y, z] W) (u v s : Value) (l : List Sale) (cs : Array Value) (hcs : cs.toList = l.flatMap encS) (t : TypeId) :
    Blk ((((W.setCell ⟨w.heap.size, 0, none⟩ u).setCell ⟨w.heap.size, 1, none⟩ v).setCell ⟨w.heap.size, 2, none⟩ s).alloc (.cells cs t)) w.heap.size 24 #[u, v, s] ∧
    Sl encS 6 ((((W.setCell ⟨w.heap.size, 0, none⟩ u).setCell ⟨w.heap.size, 1, none⟩ v).setCell ⟨w.heap.size, 2, none⟩ s).alloc (.cells cs t)) W.heap.size (some ⟨W.heap.size, 0, none⟩) l.length l ∧
    Below w.heap.size w ((((W.setCell ⟨w.heap.size, 0, none⟩ u).setCell ⟨w.heap.size, 1, none⟩ v).setCell ⟨w.heap.size, 2, none⟩ s).alloc (.cells cs t)) := by
  refine ⟨?_, ?_, ?_⟩
  · exact (((h.2.set_ 0 u).set_ 1 v).set_ 2 s).alloc _
  · have := Sl.new encS_len (((W.setCell ⟨w.heap.size, 0, none⟩ u).setCell ⟨w.heap.size, 1, none⟩ v).setCell ⟨w.heap.size, 2, none⟩ s) l t cs hcs
    simpa [World.setCell] using this
  · exact (((h.1.setCell (p := ⟨w.heap.size, 0, none⟩) (Nat.le_refl _) u).setCell (p := ⟨w.heap.size, 1, none⟩) (Nat.le_refl _) v).setCell (p := ⟨w.heap.size, 2, none⟩) (Nat.le_refl _) s).alloc (by have := h.2.lt; simp [World.setCell]; omega) _

def dayL : List Sale := [⟨0, 0, 1000, 1000, 500, 500⟩, ⟨1, 0, 2000, 3000, 600, 700⟩, ⟨0, 0, 0, 500, 900, 900⟩, ⟨1, 1, 0, 100, 50, 60⟩]
def eveL : List Sale := [⟨0, 0, 5, 5, 20, 20⟩]
def stepsL : List Step := [⟨0, 100⟩, ⟨1000, 200⟩]

set_option maxRecDepth 100000 in
set_option maxHeartbeats 1000000 in
theorem day_any (w : World) : Calls Tryz.prog 15 #[] w fun e w' => ∃ A c, e = .returned (.agg #[.int .i64 2, .int .i64 2, .slice A 4 c]) ∧ (∃ b, w.heap.size ≤ b ∧ Sl encS 6 w' b A 4 dayL) ∧ Below w.heap.size w w' := by
  have h0 : Mk w w.heap.size 24 #[.int .i64 0, .int .i64 0, .slice none 0 0] (w.alloc (.cells #[.int .i64 0, .int .i64 0, .slice none 0 0] 24)) := ⟨by go_grown, Blk.new _ _ _⟩
  go_enter Tryz.func15, Tryz.ntmps15
  go_wp2_with (first | (go_at_call 48; refine (lone_mk _ w _ w.heap.size 24 #[.int .i64 0, .int .i64 0, .slice none 0 0] (by assumption)).mono ?_; rintro e w1 ⟨rfl, hm⟩; obtain ⟨f0, f1, f2, c0, c1, c2, hz⟩ := Mk.facts hm) | (go_at_call 20; refine (span_mk _ _ w _ w.heap.size 24 #[.int .i64 0, .int .i64 0, .slice none 0 0] (by assumption)).mono ?_; rintro e w1 ⟨rfl, hm⟩; obtain ⟨f0, f1, f2, c0, c1, c2, hz⟩ := Mk.facts hm))
  obtain ⟨hR, hS, hB⟩ := hm.book (.int .i64 2) (.int .i64 2) (.slice (some ⟨w1.heap.size, 0, none⟩) 4 4) dayL (dayL.flatMap encS).toArray rfl 59
  have q0 := hR.cell 0
  have q1 := hR.cell 1
  have q2 := hR.cell 2
  simp only [dayL, List.flatMap_cons, List.flatMap_nil, encS, List.cons_append, List.nil_append, List.append_nil] at q0 q1 q2
  refine bodyPost_ret (v := .agg #[.int .i64 2, .int .i64 2, .slice (some ⟨w1.heap.size, 0, none⟩) 4 4]) (by simp [results, Tryz.results15, go_sem, q0, q1, q2]) rfl ?_
  exact ⟨_, _, rfl, ⟨_, Nat.le_of_lt hz, hS⟩, hB⟩

set_option maxRecDepth 100000 in
set_option maxHeartbeats 1000000 in
theorem eve_any (w : World) : Calls Tryz.prog 19 #[] w fun e w' => ∃ A c, e = .returned (.agg #[.int .i64 1, .int .i64 1, .slice A 1 c]) ∧ (∃ b, w.heap.size ≤ b ∧ Sl encS 6 w' b A 1 eveL) ∧ Below w.heap.size w w' := by
  have h0 : Mk w w.heap.size 24 #[.int .i64 0, .int .i64 0, .slice none 0 0] (w.alloc (.cells #[.int .i64 0, .int .i64 0, .slice none 0 0] 24)) := ⟨by go_grown, Blk.new _ _ _⟩
  go_enter Tryz.func19, Tryz.ntmps19
  go_wp2_with (go_at_call 48; refine (lone_mk _ w _ w.heap.size 24 #[.int .i64 0, .int .i64 0, .slice none 0 0] (by assumption)).mono ?_; rintro e w1 ⟨rfl, hm⟩; obtain ⟨f0, f1, f2, c0, c1, c2, hz⟩ := Mk.facts hm)
  obtain ⟨hR, hS, hB⟩ := hm.book (.int .i64 1) (.int .i64 1) (.slice (some ⟨w1.heap.size, 0, none⟩) 1 1) eveL (eveL.flatMap encS).toArray rfl 59
  have q0 := hR.cell 0
  have q1 := hR.cell 1
  have q2 := hR.cell 2
  simp only [eveL, List.flatMap_cons, List.flatMap_nil, encS, List.cons_append, List.nil_append, List.append_nil] at q0 q1 q2
  refine bodyPost_ret (v := .agg #[.int .i64 1, .int .i64 1, .slice (some ⟨w1.heap.size, 0, none⟩) 1 1]) (by simp [results, Tryz.results19, go_sem, q0, q1, q2]) rfl ?_
  exact ⟨_, _, rfl, ⟨_, Nat.le_of_lt hz, hS⟩, hB⟩

theorem steps_any (w : World) : Calls Tryz.prog 17 #[] w fun e w' => ∃ A c, e = .returned (.slice A 2 c) ∧ (∃ b, w.heap.size ≤ b ∧ Sl encP 2 w' b A 2 stepsL) ∧ Below w.heap.size w w' := by
  go_enter Tryz.func17, Tryz.ntmps17
  go_wp2
  go_ret
  exact ⟨_, _, rfl, ⟨_, Nat.le_refl _, Sl.new encP_len w stepsL _ _ rfl⟩, by go_grown⟩
end Go.Proofs.YtjmppionedcfeaaGreatDoor

namespace Go.Proofs.YtjmppionedcfeaaGreatDoor
open Go.RowKit

theorem day_in : BookIn 2 2 dayL := check_zero.1 (by decide)
theorem day_price : priceErr 2 2 0 dayL = 0 ∧ priceOut 2 2 0 dayL = (1, 600, 700) := by
  have he : priceErr 2 2 0 dayL = 0 := by decide
  refine ⟨he, ?_⟩
  unfold priceOut
  rw [if_pos he, ← refMid_eq (day_in.good 0)]
  decide
theorem day_dues : duesErr 2 2 dayL stepsL = 0 ∧ duesOut 2 2 dayL stepsL = [⟨50, 95⟩, ⟨140, 321⟩] := by decide
theorem eve_seal : check 1 1 eveL = 0 ∧ sealOf 1 1 eveL = 4069 := by decide

set_option maxRecDepth 100000 in
set_option maxHeartbeats 1000000 in
theorem awake_any (w : World) : Calls Tryz.prog 5 #[] w fun e w' => e = .returned (.bool true) ∧ Below w.heap.size w w' := by
  go_enter Tryz.func5, Tryz.ntmps5
  go_wp2_with fail
  refine (day_any w).mono ?_
  rintro e w1 ⟨A1, c1, rfl, ⟨b1, hb1, hs1⟩, hB1⟩
  have HB1 := Lib.hid hB1
  clear hB1
  go_wp2_with fail
  refine (price_any 2 2 0 b1 4 c1 A1 dayL _ hs1 (by omega)).mono ?_
  rintro e w2 ⟨rfl, hB2⟩
  rw [day_price.1, day_price.2]
  have HB2 := Lib.hid (Below.step hB2 HB1.out (Nat.le_refl _))
  have hz2 := hB2.size
  have hz1 := HB1.out.size
  clear hB2 hs1 hb1
  go_wp2_with fail
  refine (day_any _).mono ?_
  rintro e w3 ⟨A3, c3, rfl, ⟨b3, hb3, hs3⟩, hB3⟩
  have K3 := (Blk.new w2 42 #[.int .i64 600, .int .i64 700]).below hB3 (by simp)
  have HB3 := Lib.hid (Below.step hB3 (HB2.out.alloc (by omega) _) (Nat.le_refl _))
  have hz3 := hB3.size
  simp only [World.size_alloc] at hz3
  clear hB3 hb3
  go_wp2_with fail
  refine (steps_any _).mono ?_
  rintro e w4 ⟨A4, c4, rfl, ⟨b4, hb4, hs4⟩, hB4⟩
  have K4 := K3.below hB4 K3.lt
  have HS4 := hs3.old hB4
  have HB4 := Lib.hid (Below.step hB4 HB3.out (Nat.le_refl _))
  have hz4 := hB4.size
  clear hB4 hb4 hs3 K3
  go_wp2_with fail
  refine (duesTop_any 2 2 b3 4 c3 b4 2 c4 A3 A4 dayL stepsL _ HS4 hs4 (by omega) (by omega)).mono ?_
  rw [day_dues.1, day_dues.2]
  rintro e w5 ⟨A5, c5, b5, rfl, hs5, hB5⟩
  have K5 := K4.below hB5 K4.lt
  have HB5 := Lib.hid (Below.step hB5 HB4.out (Nat.le_refl _))
  have hz5 := hB5.size
  clear hB5 HS4 hs4 K4
  go_wp2_with fail
  refine (eve_any _).mono ?_
  rintro e w6 ⟨A6, c6, rfl, ⟨b6, hb6, hs6⟩, hB6⟩
  have K6 := K5.below hB6 K5.lt
  have HS6 := hs5.old hB6
  have HB6 := Lib.hid (Below.step hB6 HB5.out (Nat.le_refl _))
  have hz6 := hB6.size
  clear hB6 hb6 hs5 K5
  go_wp2_with fail
  refine (sealTop_any 1 1 b6 1 c6 A6 eveL _ hs6 (by omega)).mono ?_
  rw [eve_seal.1, if_pos rfl, eve_seal.2]
  rintro e w7 ⟨rfl, hB7⟩
  have K7 := Lib.hid ((K6.below hB7 K6.lt).drew)
  have HS7 := Lib.hid ((HS6.old hB7).drew)
  have HB7 := Lib.hid (Below.step hB7 HB6.out (Nat.le_refl _)).drew
  have hz7 := hB7.size
  clear hB7 HS6 K6 hs6
  go_wp2_with fail
  have HX := Lib.hid hz7
  clear hz7 hz6 hz5 hz4 hz3 hz2 hz1
  refine wp_region_PL [15] (fun w' => w'.cell? ⟨w2.heap.size, 0, none⟩ = some (.int .i64 600) ∧ w'.cell? ⟨w2.heap.size, 1, none⟩ = some (.int .i64 700)) rfl (by kernel_rfl) (⟨K7.out.cell 0, K7.out.cell 1⟩) (fun hF0 => ?_)
  (refine wpAnyP_takeL (i := 0) (v := ?_) rfl (by kernel_rfl) (by kernel_rfl) (by kernel_rfl) (fun _ _ _ h => h) (by rfl) ?_ ?_; rotate_left 1; focus (intro w; go_simp; try with_reducible rfl))
  try simp only [Act.put, List.setIfInBounds_toArray, List.set_cons_zero, List.set_cons_succ]
  (refine wpAnyP_takeL (i := 1) (v := ?_) rfl (by kernel_rfl) (by kernel_rfl) (by kernel_rfl) (fun _ _ _ h => h) (by rfl) ?_ ?_; rotate_left 1; focus (intro w; go_simp; try with_reducible rfl))
  try simp only [Act.put, List.setIfInBounds_toArray, List.set_cons_zero, List.set_cons_succ]
  (refine wpAnyP_takeL (i := 2) (v := ?_) rfl (by kernel_rfl) (by kernel_rfl) (by kernel_rfl) (fun _ _ _ h => h) (by rfl) ?_ ?_; rotate_left 1; focus (intro w; go_simp; try with_reducible rfl))
  try simp only [Act.put, List.setIfInBounds_toArray, List.set_cons_zero, List.set_cons_succ]
  (refine wpAnyP_takeL (i := 3) (v := ?_) rfl (by kernel_rfl) (by kernel_rfl) (by kernel_rfl) (fun _ _ _ h => h) (by rfl) ?_ ?_; rotate_left 1; focus (intro w; go_simp; try with_reducible rfl))
  try simp only [Act.put, List.setIfInBounds_toArray, List.set_cons_zero, List.set_cons_succ]
  (refine wpAnyP_takeL (i := 4) (v := ?_) rfl (by kernel_rfl) (by kernel_rfl) (by kernel_rfl) (fun _ _ _ h => h) (by rfl) ?_ ?_; rotate_left 1; focus (intro w; go_simp; try with_reducible rfl))
  try simp only [Act.put, List.setIfInBounds_toArray, List.set_cons_zero, List.set_cons_succ]
  (refine wpAnyP_takeL (i := 5) (v := ?_) rfl (by kernel_rfl) (by kernel_rfl) (by kernel_rfl) (fun _ _ _ h => h) (by rfl) ?_ ?_; rotate_left 1; focus (intro w; go_simp; try with_reducible rfl))
  try simp only [Act.put, List.setIfInBounds_toArray, List.set_cons_zero, List.set_cons_succ]
  (refine wpAnyP_takeL (i := 6) (v := ?_) rfl (by kernel_rfl) (by kernel_rfl) (by kernel_rfl) (fun _ _ _ h => h) (by rfl) ?_ ?_; rotate_left 1; focus (intro w; go_simp; try with_reducible rfl))
  try simp only [Act.put, List.setIfInBounds_toArray, List.set_cons_zero, List.set_cons_succ]
  (refine wpAnyP_takeL (i := 7) (v := ?_) rfl (by kernel_rfl) (by kernel_rfl) (by kernel_rfl) (fun _ _ _ h => h) (by rfl) ?_ ?_; rotate_left 1; focus (intro w; go_simp; try with_reducible rfl))
  try simp only [Act.put, List.setIfInBounds_toArray, List.set_cons_zero, List.set_cons_succ]
  (refine wpAnyP_takeL (i := 8) (v := ?_) rfl (by kernel_rfl) (by kernel_rfl) (by kernel_rfl) (fun _ _ _ h => h) (by rfl) ?_ ?_; rotate_left 1; focus (intro w; go_simp; try with_reducible rfl))
  try simp only [Act.put, List.setIfInBounds_toArray, List.set_cons_zero, List.set_cons_succ]
  (refine wpAnyP_takeL (i := 9) (v := ?_) rfl (by kernel_rfl) (by kernel_rfl) (by kernel_rfl) (fun _ _ _ h => h) (by rfl) ?_ ?_; rotate_left 1; focus (intro w; go_simp; try with_reducible rfl))
  try simp only [Act.put, List.setIfInBounds_toArray, List.set_cons_zero, List.set_cons_succ]
  (refine wpAnyP_takeL (i := 10) (v := ?_) rfl (by kernel_rfl) (by kernel_rfl) (by kernel_rfl) (fun _ _ _ h => h) (by rfl) ?_ ?_; rotate_left 1; focus (intro w; go_simp; try with_reducible rfl))
  try simp only [Act.put, List.setIfInBounds_toArray, List.set_cons_zero, List.set_cons_succ]
  (refine wpAnyP_takeL (i := 11) (v := ?_) rfl (by kernel_rfl) (by kernel_rfl) (by kernel_rfl) (fun _ _ _ h => h) (by rfl) ?_ ?_; rotate_left 1; focus (intro w; go_simp; try with_reducible rfl))
  try simp only [Act.put, List.setIfInBounds_toArray, List.set_cons_zero, List.set_cons_succ]
  (refine wpAnyP_takeL (i := 12) (v := ?_) rfl (by kernel_rfl) (by kernel_rfl) (by kernel_rfl) (fun _ _ _ h => h) (by rfl) ?_ ?_; rotate_left 1; focus (intro w; go_simp; try with_reducible rfl))
  try simp only [Act.put, List.setIfInBounds_toArray, List.set_cons_zero, List.set_cons_succ]
  (refine wpAnyP_takeL (i := 13) (v := ?_) rfl (by kernel_rfl) (by kernel_rfl) (by kernel_rfl) (fun _ _ _ h => h) (by rfl) ?_ ?_; rotate_left 1; focus (intro w; go_simp; try with_reducible rfl))
  try simp only [Act.put, List.setIfInBounds_toArray, List.set_cons_zero, List.set_cons_succ]
  (refine wpAnyP_takeL (i := 14) (v := ?_) rfl (by kernel_rfl) (by kernel_rfl) (by kernel_rfl) (fun _ _ _ h => h) (by rfl) ?_ ?_; rotate_left 1; focus (intro w; go_simp; try with_reducible rfl))
  try simp only [Act.put, List.setIfInBounds_toArray, List.set_cons_zero, List.set_cons_succ]
  (refine wpAnyP_loadL (i := 15) (v := ?_) rfl (by kernel_rfl) (by kernel_rfl) (by kernel_rfl) (by rfl) (fun _ _ _ h => h) hF0 (by rfl) ?_ ?_; rotate_left 1; focus (intro w hFw; (try dsimp only at hFw); go_split_ands; go_simp; try with_reducible rfl))
  try simp only [Act.put, List.setIfInBounds_toArray, List.set_cons_zero, List.set_cons_succ]
  refine wpAnyP_step (i := 16) rfl (by kernel_rfl) (by rfl) (fun K hK => ?_)
  go_simp
  (refine (span_any _ _ _).mono ?_; rintro e w8 ⟨rfl, hB8⟩; have K8 := Lib.hid (K7.out.below hB8 K7.out.lt); have HS8 := Lib.hid (HS7.out.old hB8); have HB8 := Lib.hid (Below.step hB8 HB7.out (Nat.le_refl _)); clear hB8)
  (refine hK _ _ (⟨K8.out.cell 0, K8.out.cell 1⟩) (fun hF1 => ?_); clear hK K hF0)
  try simp only [Act.put, List.setIfInBounds_toArray, List.set_cons_zero, List.set_cons_succ]
  (refine wpAnyP_takeL (i := 17) (v := ?_) rfl (by kernel_rfl) (by kernel_rfl) (by kernel_rfl) (fun _ _ _ h => h) (by rfl) ?_ ?_; rotate_left 1; focus (intro w; go_simp; try with_reducible rfl))
  try simp only [Act.put, List.setIfInBounds_toArray, List.set_cons_zero, List.set_cons_succ]
  (refine wpAnyP_takeL (i := 18) (v := ?_) rfl (by kernel_rfl) (by kernel_rfl) (by kernel_rfl) (fun _ _ _ h => h) (by rfl) ?_ ?_; rotate_left 1; focus (intro w; go_simp; try with_reducible rfl))
  try simp only [Act.put, List.setIfInBounds_toArray, List.set_cons_zero, List.set_cons_succ]
  (refine wpAnyP_takeL (i := 19) (v := ?_) rfl (by kernel_rfl) (by kernel_rfl) (by kernel_rfl) (fun _ _ _ h => h) (by rfl) ?_ ?_; rotate_left 1; focus (intro w; go_simp; try with_reducible rfl))
  try simp only [Act.put, List.setIfInBounds_toArray, List.set_cons_zero, List.set_cons_succ]
  (refine wpAnyP_takeL (i := 20) (v := ?_) rfl (by kernel_rfl) (by kernel_rfl) (by kernel_rfl) (fun _ _ _ h => h) (by rfl) ?_ ?_; rotate_left 1; focus (intro w; go_simp; try with_reducible rfl))
  try simp only [Act.put, List.setIfInBounds_toArray, List.set_cons_zero, List.set_cons_succ]
  refine wpAnyP_step (i := 21) rfl (by kernel_rfl) (by rfl) (fun K hK => ?_)
  go_simp
  (refine (span_any _ _ _).mono ?_; rintro e w9 ⟨rfl, hB9⟩; have K9 := Lib.hid (K8.out.below hB9 K8.out.lt); have HS9 := Lib.hid (HS8.out.old hB9); have HB9 := Lib.hid (Below.step hB9 HB8.out (Nat.le_refl _)); clear hB9)
  (refine hK _ _ (⟨K9.out.cell 0, K9.out.cell 1⟩) (fun hF2 => ?_); clear hK K hF1)
  try simp only [Act.put, List.setIfInBounds_toArray, List.set_cons_zero, List.set_cons_succ]
  refine wpAnyP_step (i := 22) rfl (by kernel_rfl) (by rfl) (fun K hK => ?_)
  go_simp
  (refine (span_any _ _ _).mono ?_; rintro e wa ⟨rfl, hBa⟩; have Ka := Lib.hid (K9.out.below hBa K9.out.lt); have HSa := Lib.hid (HS9.out.old hBa); have HBa := Lib.hid (Below.step hBa HB9.out (Nat.le_refl _)); clear hBa)
  (refine hK _ _ (⟨Ka.out.cell 0, Ka.out.cell 1⟩) (fun hF3 => ?_); clear hK K hF2)
  try simp only [Act.put, List.setIfInBounds_toArray, List.set_cons_zero, List.set_cons_succ]
  refine wpAnyP_step (i := 23) rfl (by kernel_rfl) (by rfl) (fun K hK => ?_)
  go_simp
  (refine hK _ _ (⟨(Ka.out.alloc _).cell 0, (Ka.out.alloc _).cell 1⟩) (fun hF4 => ?_); clear hK K hF3)
  try simp only [Act.put, List.setIfInBounds_toArray, List.set_cons_zero, List.set_cons_succ]
  refine wpAnyP_step (i := 24) rfl (by kernel_rfl) (by rfl) (fun K hK => ?_)
  go_simp
  (refine (sameSpans_any b5 wa.heap.size 2 2 c5 2 A5 _ [⟨50, 95⟩, ⟨140, 321⟩] [⟨50, 95⟩, ⟨140, 321⟩] _ (HSa.out.alloc _) (Sl.new encR_len wa [⟨50, 95⟩, ⟨140, 321⟩] _ _ rfl) (by omega)).mono ?_; rintro e wb ⟨rfl, hBb⟩; have Kb := Lib.hid ((Ka.out.alloc _).below hBb (Ka.out.alloc _).lt); have HBb := Lib.hid (Below.step hBb (HBa.out.alloc HBa.out.size _) (Nat.le_refl _)); clear hBb)
  (refine hK _ _ (⟨Kb.out.cell 0, Kb.out.cell 1⟩) (fun hF5 => ?_); clear hK K hF4)
  try simp only [Act.put, List.setIfInBounds_toArray, List.set_cons_zero, List.set_cons_succ]
  (refine wpAnyP_takeL (i := 25) (v := ?_) rfl (by kernel_rfl) (by kernel_rfl) (by kernel_rfl) (fun _ _ _ h => h) (by rfl) ?_ ?_; rotate_left 1; focus (intro w; go_simp; try with_reducible rfl))
  try simp only [Act.put, List.setIfInBounds_toArray, List.set_cons_zero, List.set_cons_succ]
  (refine wpAnyP_takeL (i := 26) (v := ?_) rfl (by kernel_rfl) (by kernel_rfl) (by kernel_rfl) (fun _ _ _ h => h) (by rfl) ?_ ?_; rotate_left 1; focus (intro w; go_simp; try with_reducible rfl))
  try simp only [Act.put, List.setIfInBounds_toArray, List.set_cons_zero, List.set_cons_succ]
  (refine wpAnyP_takeL (i := 27) (v := ?_) rfl (by kernel_rfl) (by kernel_rfl) (by kernel_rfl) (fun _ _ _ h => h) (by rfl) ?_ ?_; rotate_left 1; focus (intro w; go_simp; try with_reducible rfl))
  try simp only [Act.put, List.setIfInBounds_toArray, List.set_cons_zero, List.set_cons_succ]
  (refine wpAnyP_takeL (i := 28) (v := ?_) rfl (by kernel_rfl) (by kernel_rfl) (by kernel_rfl) (fun _ _ _ h => h) (by rfl) ?_ ?_; rotate_left 1; focus (intro w; go_simp; try with_reducible rfl))
  try simp only [Act.put, List.setIfInBounds_toArray, List.set_cons_zero, List.set_cons_succ]
  (refine wpAnyP_takeL (i := 29) (v := ?_) rfl (by kernel_rfl) (by kernel_rfl) (by kernel_rfl) (fun _ _ _ h => h) (by rfl) ?_ ?_; rotate_left 1; focus (intro w; go_simp; try with_reducible rfl))
  try simp only [Act.put, List.setIfInBounds_toArray, List.set_cons_zero, List.set_cons_succ]
  (refine wpAnyP_takeL (i := 30) (v := ?_) rfl (by kernel_rfl) (by kernel_rfl) (by kernel_rfl) (fun _ _ _ h => h) (by rfl) ?_ ?_; rotate_left 1; focus (intro w; go_simp; try with_reducible rfl))
  try simp only [Act.put, List.setIfInBounds_toArray, List.set_cons_zero, List.set_cons_succ]
  refine wpAnyP_done (by kernel_rfl) ?_ _
  go_wp2_with fail
  go_ret
  exact ⟨rfl, HBb.out⟩
end Go.Proofs.YtjmppionedcfeaaGreatDoor
