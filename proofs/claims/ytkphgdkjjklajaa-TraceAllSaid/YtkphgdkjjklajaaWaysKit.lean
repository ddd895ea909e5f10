/-
  What the law TraceAll needs to gather ways: a row of spans that is written in place, memory but for two blocks, and seen.
-/
import Derived.Test.YtkphgdkjjklajaaWaysLaw
import Derived.Test.YtkphgdkjjklajaaTrGoe
import Derived.Test.YtkphgdkjjklajaaBRow
import Derived.Test.YtkphgdkjjklajaaBooks
set_option linter.unusedVariables false
set_option linter.unusedSimpArgs false
namespace Go.Proofs.Ytkphgdkjjklajaa
open Go.RowKit Go.Shelf Go.Sort

/-- all that lay is as it was, but for two blocks -/
structure Bar (E T : Nat) (w w' : World) : Prop where
  os : w'.os = w.os
  tape : w'.tape = w.tape
  output : w'.output = w.output
  size : w.heap.size ≤ w'.heap.size
  block : ∀ i, i < w.heap.size → i ≠ E → i ≠ T → w'.heap[i]? = w.heap[i]?
section
variable {E T : Nat} {w w' w'' : World}
theorem Bar.refl (E T : Nat) (w : World) : Bar E T w w := ⟨rfl, rfl, rfl, Nat.le_refl _, fun _ _ _ _ => rfl⟩
theorem Bar.trans (h : Bar E T w w') (k : Bar E T w' w'') : Bar E T w w'' :=
  ⟨k.os.trans h.os, k.tape.trans h.tape, k.output.trans h.output, Nat.le_trans h.size k.size, fun i hi h1 h2 => (k.block i (Nat.lt_of_lt_of_le hi h.size) h1 h2).trans (h.block i hi h1 h2)⟩
theorem Bar.below (h : Bar E T w w') (k : Below w'.heap.size w' w'') : Bar E T w w'' :=
  ⟨k.os.trans h.os, k.tape.trans h.tape, k.output.trans h.output, Nat.le_trans h.size k.size, fun i hi h1 h2 => (k.block i (Nat.lt_of_lt_of_le hi h.size)).trans (h.block i hi h1 h2)⟩
theorem Bar.grown (h : Bar E T w w') {row : Option Nat} (k : w'.grownBy w'' row) (hr : ∀ r, row = some r → w.heap.size ≤ r) : Bar E T w w'' :=
  ⟨k.os.trans h.os, k.tape.trans h.tape, k.output.trans h.output, Nat.le_trans h.size k.size, fun i hi h1 h2 => (k.block i (Nat.lt_of_lt_of_le hi h.size) (fun e => by have := hr i e.symm; omega)).trans (h.block i hi h1 h2)⟩
theorem Bar.setCell (h : Bar E T w w') (p : Addr) (hp : p.block = E ∨ p.block = T ∨ w.heap.size ≤ p.block) (u : Value) : Bar E T w (w'.setCell p u) := by
  have hb : ∀ i, i ≠ p.block → (w'.setCell p u).heap[i]? = w'.heap[i]? := fun i hi => Below.heap_setCell w' p u i hi
  refine ⟨h.os, h.tape, h.output, by simpa [World.setCell] using h.size, fun i hi h1 h2 => (hb i ?_).trans (h.block i hi h1 h2)⟩
  rcases hp with e | e | e
  · rw [e]; exact h1
  · rw [e]; exact h2
  · omega
theorem Bar.drew (h : Bar E T w w') : Bar E T w w'.drew := ⟨h.os, h.tape, h.output, h.size, h.block⟩
end
theorem Blk.bar {E T : Nat} {w w' : World} {g : Nat} {t : TypeId} {cs : Array Value} (h : Blk w g t cs) (k : Bar E T w w') (h1 : g ≠ E) (h2 : g ≠ T) : Blk w' g t cs := (k.block g h.lt h1 h2).trans h
theorem RowC.bar {E T : Nat} {w w' : World} {g : Nat} {l : List Int} (h : RowC w g l) (k : Bar E T w w') (h1 : g ≠ E) (h2 : g ≠ T) : RowC w' g l := h.keep (k.block g h.lt h1 h2)
theorem Sl.bar {α : Type} {enc : α → List Value} {m : Nat} {E T : Nat} {w w' : World} {b n : Nat} {A : Option Addr} {l : List α} (h : Sl enc m w b A n l) (k : Bar E T w w') (hne : 0 < n → b ≠ E ∧ b ≠ T) : Sl enc m w' b A n l :=
  h.keep (fun hn => k.block b (h.lt hn) (hne hn).1 (hne hn).2) k.size
theorem RowC.slW {w : World} {g : Nat} {l : List Int} (h : RowC w g l) : Sl encI 1 w g (some ⟨g, 0, none⟩) l.length l :=
  ⟨rfl, fun _ => ⟨0, rfl, h.lt, fun k hk j u hu => by
    cases j with
    | zero => simp only [encI, List.getElem?_cons_zero, Option.some.injEq] at hu; subst hu; simpa using h.cell hk
    | succ j => simp [encI] at hu⟩⟩

/-- a row of spans -/
def SpF (W : World) (g n : Nat) (f : Nat → Span) : Prop := Blk W g 48 (((List.range n).map f).flatMap encR).toArray
theorem spF_get (n : Nat) (f : Nat → Span) (k : Nat) : (((List.range n).map f).flatMap encR)[2 * k]? = (if k < n then some (.int .i64 (f k).lo) else none) ∧ (((List.range n).map f).flatMap encR)[2 * k + 1]? = (if k < n then some (.int .i64 (f k).hi) else none) := by
  have key : ∀ (l : List Span) (k : Nat), (l.flatMap encR)[2 * k]? = (l[k]?).map (fun s => Value.int .i64 s.lo) ∧ (l.flatMap encR)[2 * k + 1]? = (l[k]?).map (fun s => Value.int .i64 s.hi) := by
    intro l
    induction l with
    | nil => intro k; simp
    | cons s l ih =>
      intro k
      cases k with
      | zero => simp [List.flatMap_cons, encR]
      | succ k =>
        have := ih k
        rw [List.flatMap_cons, show 2 * (k + 1) = 2 * k + 2 by omega]
        simp only [encR, List.cons_append, List.nil_append, List.getElem?_cons_succ]
        exact this
  obtain ⟨h1, h2⟩ := key ((List.range n).map f) k
  rw [h1, h2, List.getElem?_map]
  by_cases hk : k < n
  · rw [List.getElem?_range hk, if_pos hk, if_pos hk]; exact ⟨rfl, rfl⟩
  · rw [List.getElem?_eq_none (by simp; omega), if_neg hk, if_neg hk]; exact ⟨rfl, rfl⟩
section
variable {W W' : World} {g n : Nat} {f : Nat → Span}
theorem SpF.lt (h : SpF W g n f) : g < W.heap.size := Blk.lt h
theorem SpF.keep (h : SpF W g n f) (hb : W'.heap[g]? = W.heap[g]?) : SpF W' g n f := hb.trans h
theorem SpF.old (h : SpF W g n f) (hb : Below W.heap.size W W') : SpF W' g n f := Blk.below h hb (Blk.lt h)
theorem SpF.grown (h : SpF W g n f) {row : Option Nat} (hg : W.grownBy W' row) (hne : some g ≠ row) : SpF W' g n f := Blk.grown h hg hne
theorem SpF.cell (h : SpF W g n f) {k : Nat} (hk : k < n) : W.cell? ⟨g, k * 2, none⟩ = some (.int .i64 (f k).lo) ∧ W.cell? ⟨g, k * 2 + 1, none⟩ = some (.int .i64 (f k).hi) := by
  have e := spF_get n f k
  rw [if_pos hk, if_pos hk, Nat.mul_comm] at e
  constructor
  · rw [Blk.cell h, List.getElem?_toArray]; exact e.1
  · rw [Blk.cell h, List.getElem?_toArray]; exact e.2
theorem SpF.frozen (h : SpF W g n f) (k : Nat) : W.frozen? ⟨g, k, none⟩ = false := Blk.frozen h k
theorem SpF.far (h : SpF W g n f) {p : Addr} (hp : g ≠ p.block) (u : Value) : SpF (W.setCell p u) g n f := Blk.far h hp u
theorem SpF.congr (h : SpF W g n f) {f' : Nat → Span} (hf : ∀ k, k < n → f k = f' k) : SpF W g n f' := by
  have e : (List.range n).map f = (List.range n).map f' := List.map_congr_left fun k hk => hf k (List.mem_range.1 hk)
  unfold SpF at h ⊢
  rw [← e]
  exact h
theorem SpF.set_ (h : SpF W g n f) {k : Nat} (hk : k < n) (s : Span) : SpF ((W.setCell ⟨g, k * 2, none⟩ (.int .i64 s.lo)).setCell ⟨g, k * 2 + 1, none⟩ (.int .i64 s.hi)) g n (fun i => if i = k then s else f i) := by
  have h1 := (Blk.set_ h (k * 2) (.int .i64 s.lo)).set_ (k * 2 + 1) (.int .i64 s.hi)
  unfold SpF
  have e : ((((List.range n).map f).flatMap encR).toArray.setIfInBounds (k * 2) (.int .i64 s.lo)).setIfInBounds (k * 2 + 1) (.int .i64 s.hi) = (((List.range n).map fun i => if i = k then s else f i).flatMap encR).toArray := by
    apply Array.toList_inj.1
    rw [Array.toList_setIfInBounds, Array.toList_setIfInBounds]
    simp only [List.toList_toArray]
    have len : ∀ f : Nat → Span, (((List.range n).map f).flatMap encR).length = 2 * n := fun f => by
      rw [List.length_flatMap, List.map_map, show ((fun a => (encR a).length) ∘ f) = fun _ => 2 from rfl, List.map_const', List.sum_replicate_nat, List.length_range, Nat.mul_comm]
    refine List.ext_getElem? fun i => ?_
    rcases Nat.mod_two_eq_zero_or_one i with hi | hi
    · obtain ⟨j, rfl⟩ : ∃ j, i = 2 * j := ⟨i / 2, by omega⟩
      rw [(spF_get n _ j).1, List.getElem?_set, if_neg (by omega), List.getElem?_set]
      by_cases hj : j = k
      · subst hj
        rw [if_pos (by omega), if_pos (by rw [len]; omega), if_pos hk, if_pos rfl]
      · rw [if_neg (by omega), (spF_get n f j).1, if_neg hj]
    · obtain ⟨j, rfl⟩ : ∃ j, i = 2 * j + 1 := ⟨i / 2, by omega⟩
      rw [(spF_get n _ j).2, List.getElem?_set]
      by_cases hj : j = k
      · subst hj
        rw [if_pos (by omega), if_pos (by rw [List.length_set, len]; omega), if_pos hk, if_pos rfl]
      · rw [if_neg (by omega), List.getElem?_set, if_neg (by omega), (spF_get n f j).2, if_neg hj]
  rw [← e]
  exact h1
theorem SpF.sl (h : SpF W g n f) : Sl encR 2 W g (some ⟨g, 0, none⟩) n ((List.range n).map f) :=
  ⟨by simp, fun hn => ⟨0, rfl, h.lt, fun k hk j u hu => by
    have hk' : k < n := by simpa using hk
    obtain ⟨c0, c1⟩ := h.cell hk'
    rw [List.getElem_map, List.getElem_range] at hu
    rcases j with _ | _ | j
    · simp only [encR, List.getElem?_cons_zero, Option.some.injEq] at hu; subst hu; simpa using c0
    · simp only [encR, List.getElem?_cons_succ, List.getElem?_cons_zero, Option.some.injEq] at hu; subst hu; simpa using c1
    · simp [encR] at hu⟩⟩
end

set_option maxHeartbeats 1000000 in
theorem seen_any (s : Span) (k : Nat) (x : Int) (w : World) (hk : k ≤ 1000000) :
    Calls Try.prog 67 #[.agg #[.int .i64 s.lo, .int .i64 s.hi], .int .i64 (k : Int), .int .i64 x] w fun e w' => e = .returned (.agg #[.int .i64 (seenT s k x).lo, .int .i64 (seenT s k x).hi]) ∧ Below w.heap.size w w' := by
  have b0 := (Blk.new w 48 #[.int .i64 s.lo, .int .i64 s.hi]).alloc (.cells #[.int .i64 0, .int .i64 0] 48)
  have b1 := Blk.new (w.alloc (.cells #[.int .i64 s.lo, .int .i64 s.hi] 48)) 48 #[.int .i64 0, .int .i64 0]
  rw [World.size_alloc] at b1
  have HR := Lib.hid b1
  have HB := Lib.hid (((Below.refl _ w).alloc (Nat.le_refl _) (.cells #[.int .i64 s.lo, .int .i64 s.hi] 48)).alloc (by simp) (.cells #[.int .i64 0, .int .i64 0] 48))
  have c0 := b0.cell 0
  have c1 := b0.cell 1
  clear b0 b1
  by_cases h0 : k = 0
  · have he : ((k : Int) == 0) = true := by simp [h0]
    have es : seenT s k x = ⟨x, x⟩ := by unfold seenT; rw [if_pos h0]
    rw [es]
    go_enter Try.func67, Try.ntmps67
    go_wp2_with fail
    refine (kspan_any x x _).mono ?_
    rintro e w3 ⟨rfl, hb3⟩
    have HR3 := Lib.hid (HR.out.below hb3 HR.out.lt)
    have HB3 := Lib.hid (HB.out.trans (hb3.mono (by simp; omega)))
    go_wp2_with (refine wpList_store_row rfl 48 (.tmp 6) (.tmp 11) rfl (w.heap.size + 1) #[.int .i64 x, .int .i64 x] rfl rfl 48 _ HR3.out info_span2 rfl (by simp [Value.oneCell']) ?_)
    refine bodyPost_ret (v := .agg #[.int .i64 x, .int .i64 x]) (results_cell_row rfl _ _ (w.heap.size + 1) 48 #[.int .i64 x, .int .i64 x] (0, 0) _ rfl (HR3.out.setRow _) Try.underlying48 rfl info_span2) rfl ⟨rfl, ?_⟩
    exact HB3.out.grown (grown_setRow _ _ _) HB3.out.size (fun j e => by cases e; omega)
  · have he : ((k : Int) == 0) = false := by simp [h0]
    have es : seenT s k x = ⟨min s.lo x, max s.hi x⟩ := by unfold seenT; rw [if_neg h0]
    rw [es]
    go_enter Try.func67, Try.ntmps67
    go_wp2_with fail
    refine (kspan_any (min s.lo x) (max s.hi x) _).mono ?_
    rintro e w3 ⟨rfl, hb3⟩
    have HR3 := Lib.hid (HR.out.below hb3 HR.out.lt)
    have HB3 := Lib.hid (HB.out.trans (hb3.mono (by simp; omega)))
    go_wp2_with (refine wpList_store_row rfl 48 (.tmp 6) (.tmp 20) rfl (w.heap.size + 1) #[.int .i64 (min s.lo x), .int .i64 (max s.hi x)] rfl rfl 48 _ HR3.out info_span2 rfl (by simp [Value.oneCell']) ?_)
    refine bodyPost_ret (v := .agg #[.int .i64 (min s.lo x), .int .i64 (max s.hi x)]) (results_cell_row rfl _ _ (w.heap.size + 1) 48 #[.int .i64 (min s.lo x), .int .i64 (max s.hi x)] (0, 0) _ rfl (HR3.out.setRow _) Try.underlying48 rfl info_span2) rfl ⟨rfl, ?_⟩
    exact HB3.out.grown (grown_setRow _ _ _) HB3.out.size (fun j e => by cases e; omega)
end Go.Proofs.Ytkphgdkjjklajaa
