/-
  The die: what its methods return, as far as a law needs it: a number within its bounds, whatever it is.
-/
import Derived.Test.YtmoolcpogilgkaaBase
import Derived.Deep.RegionHeld3
set_option linter.unusedVariables false
set_option linter.unusedSimpArgs false
namespace Go.Proofs.Ytmoolcpogilgkaa
open Go.RowKit

/-- block d is a die -/
def IsDie (w : World) (d : Nat) : Prop := ∃ f : Int, (Lit.int .u64 f).wf = true ∧ Blk w d 65 #[.int .u64 f]

theorem IsDie.keep {w w' : World} {d : Nat} (h : IsDie w d) (hb : w'.heap[d]? = w.heap[d]?) : IsDie w' d := by
  obtain ⟨f, hf, h⟩ := h
  exact ⟨f, hf, hb.trans h⟩
theorem IsDie.alloc {w : World} {d : Nat} (h : IsDie w d) (o : Obj) : IsDie (w.alloc o) d := by
  obtain ⟨f, hf, h⟩ := h
  exact ⟨f, hf, h.alloc o⟩
theorem IsDie.lt {w : World} {d : Nat} (h : IsDie w d) : d < w.heap.size := by obtain ⟨f, hf, h⟩ := h; exact h.lt

/-- what a method of the die does to the world: the die alone turns -/
def DieTo (d : Nat) (w w' : World) : Prop := IsDie w' d ∧ w.grownBy w' (some d)

set_option maxHeartbeats 400000 in
theorem roll_any (d : Nat) (w : World) (hd : IsDie w d) :
    Calls Try.prog 17 #[.pointer (some ⟨d, 0, none⟩)] w fun e w' => (∃ x : Int, (Lit.int .u64 x).wf = true ∧ e = .returned (.int .u64 x)) ∧ DieTo d w w' := by
  obtain ⟨f, hf, hb⟩ := hd
  have c0 := hb.cell 0
  have f0 := hb.frozen 0
  go_enter Try.func17, Try.ntmps17
  go_wp2
  go_ret
  exact ⟨⟨_, wf_bits _ _ _ _, rfl⟩, ⟨_, wf_wrap _ _, hb.set_ 0 _⟩, only_setCell (only_refl w d) (.inl rfl) _⟩

/-- a number of which P is true comes back; the die alone turns -/
def RInt (P : Int → Prop) (d : Nat) (w : World) (e : Ending) (w' : World) : Prop := ∃ k : Int, P k ∧ e = .returned (.int .i64 k) ∧ DieTo d w w'

theorem u64_bd {x : Int} (h : (Lit.int .u64 x).wf = true) : 0 ≤ x ∧ x ≤ 18446744073709551615 := by
  simpa [Lit.wf, IntKind.min, IntKind.max, IntKind.signed, IntKind.bits] using h
theorem i64_bd {x : Int} (h : (Lit.int .i64 x).wf = true) : -9223372036854775808 ≤ x ∧ x ≤ 9223372036854775807 := by
  simpa [Lit.wf, IntKind.min, IntKind.max, IntKind.signed, IntKind.bits] using h

set_option maxHeartbeats 400000 in
theorem cast_any (d : Nat) (n : Int) (w : World) (hd : IsDie w d) (hn : n ≤ 9223372036854775807) :
    Calls Try.prog 18 #[.pointer (some ⟨d, 0, none⟩), .int .i64 n] w (RInt (fun k => 0 ≤ k ∧ (n < 2 → k = 0) ∧ (2 ≤ n → k < n)) d w) := by
  by_cases h2 : n < 2
  · go_enter Try.func18, Try.ntmps18
    go_wp2_with fail
    go_ret
    exact ⟨0, ⟨by omega, by omega, by omega⟩, rfl, hd, only_refl w d⟩
  · have h2' : 2 ≤ n := by omega
    go_enter Try.func18, Try.ntmps18
    go_wp2_with (go_at_call 17; refine (roll_any _ _ hd).mono ?_; rintro e w' ⟨⟨x, hx, rfl⟩, hw⟩; obtain ⟨hx1, hx2⟩ := u64_bd hx)
    go_ret
    have h1 : 0 ≤ x / 4 % n := Int.emod_nonneg _ (by omega)
    have h3 : x / 4 % n < n := Int.emod_lt_of_pos _ (by omega)
    have h4 : wrap64 (x / 4 % n) = x / 4 % n := IntWalk.wrap64_in _ (by omega)
    exact ⟨x / 4 % n, ⟨h1, by omega, fun _ => h3⟩, by simp [h4], hw⟩

set_option maxHeartbeats 400000 in
theorem from_any (d : Nat) (lo hi : Int) (w : World) (hd : IsDie w d) (h1 : -1000000000000 ≤ lo) (h2 : lo ≤ 1000000000000) (h3 : -1000000000000 ≤ hi) (h4 : hi ≤ 1000000000000) :
    Calls Try.prog 13 #[.pointer (some ⟨d, 0, none⟩), .int .i64 lo, .int .i64 hi] w (RInt (fun k => lo ≤ k ∧ (lo ≤ hi → k ≤ hi) ∧ (hi < lo → k = lo)) d w) := by
  go_enter Try.func13, Try.ntmps13
  go_wp2_with fail
  refine (cast_any d (hi - lo + 1) w hd (by omega)).mono ?_
  rintro e w1 ⟨k1, ⟨hk1, hk2, hk3⟩, rfl, hd1, hg1⟩
  have hk4 : k1 ≤ 1000000000000000 := by by_cases h : hi - lo + 1 < 2 <;> omega
  go_wp2
  go_ret
  exact ⟨lo + k1, ⟨by omega, by omega, by omega⟩, rfl, hd1, hg1⟩

set_option maxHeartbeats 400000 in
theorem once_any (d : Nat) (n : Int) (w : World) (hd : IsDie w d) (hn : n ≤ 9223372036854775807) :
    Calls Try.prog 21 #[.pointer (some ⟨d, 0, none⟩), .int .i64 n] w fun e w' => ∃ b : Bool, e = .returned (.bool b) ∧ DieTo d w w' := by
  go_enter Try.func21, Try.ntmps21
  go_wp2_with fail
  refine (cast_any d _ w hd hn).mono ?_
  rintro e w1 ⟨k1, _, rfl, hw⟩
  go_wp2
  go_ret
  exact ⟨_, rfl, hw⟩

set_option maxHeartbeats 400000 in
/-- one of a list's numbers -/
theorem one_any (d b n c : Nat) (A : Option Addr) (l : List Int) (w : World) (hd : IsDie w d) (hl : Sl encI 1 w b A n l) (hn : 0 < n) (hn2 : n ≤ 1000000) (hbd : b ≠ d) :
    Calls Try.prog 6 #[.pointer (some ⟨d, 0, none⟩), .slice A n c] w (RInt (fun k => k ∈ l) d w) := by
  have h0 : ((n : Int) == 0) = false := by rw [beq_eq_false_iff_ne]; omega
  go_enter Try.func6, Try.ntmps6
  go_wp2_with fail
  refine (cast_any d _ w hd (by omega)).mono ?_
  rintro e w1 ⟨k1, ⟨hk1, hk2, hk3⟩, rfl, hd1, hg1⟩
  obtain ⟨k, rfl⟩ := Int.eq_ofNat_of_zero_le hk1
  have hkn : k < n := by by_cases h : (n : Int) < 2 <;> omega
  obtain ⟨o, rfl, hb, hc⟩ := (hl.grown hg1 (fun _ e => hbd (by injection e))).atI (k := k) (by rw [← hl.len]; exact hkn)
  go_wp2
  go_ret
  exact ⟨_, List.getElem_mem _, rfl, hd1, hg1⟩

set_option maxHeartbeats 1000000 in
theorem dspan_any (d : Nat) (lo hi : Int) (w : World) (hd : IsDie w d) (h1 : 0 ≤ lo) (h2 : lo ≤ hi) (h3 : hi ≤ 100000000) :
    Calls Try.prog 22 #[.pointer (some ⟨d, 0, none⟩), .int .i64 lo, .int .i64 hi] w fun e w' => ∃ x y : Int, (lo ≤ x ∧ x ≤ y ∧ y ≤ hi) ∧ e = .returned (.agg #[.int .i64 x, .int .i64 y]) ∧ DieTo d w w' := by
  have hz := hd.lt
  go_enter Try.func22, Try.ntmps22
  go_wp2_with fail
  refine (from_any d lo hi _ (hd.keep (Below.heap_alloc _ _ _ hz)) (by omega) (by omega) (by omega) (by omega)).mono ?_
  rintro e w1 ⟨x, ⟨hx1, hx2, _⟩, rfl, hd1, hg1⟩
  have hx3 := hx2 h2
  have hz1 := hg1.size
  simp only [World.size_alloc] at hz1
  go_wp2_with fail
  all_goals
    refine (one_any d w1.heap.size 3 3 _ [x, _, hi] _ (hd1.keep (Below.heap_alloc _ _ _ hd1.lt)) (Sl.newI w1 [x, _, hi] _) (by omega) (by omega) (by have := hd1.lt; omega)).mono ?_
    rintro e w2 ⟨m, hm, rfl, hd2, hg2⟩
    have hm2 : x ≤ m ∧ m ≤ hi := by simp at hm; omega
    obtain ⟨hm3, hm4⟩ := hm2
    go_wp2_with fail
    refine (from_any d x m _ hd2 (by omega) (by omega) (by omega) (by omega)).mono ?_
    rintro e w3 ⟨y, ⟨hy1, hy2, _⟩, rfl, hd3, hg3⟩
    have hy3 := hy2 hm3
    have hB : w.grownBy w3 (some d) := only_step hg3 (only_step hg2 (only_alloc (only_step hg1 (only_alloc (only_refl _ _) _) (.inl rfl)) _) (.inl rfl)) (.inl rfl)
    clear hm hx2 hy2
    have b1 : Blk (w.alloc (.cells #[.int .i64 0, .int .i64 0] 32)) w.heap.size 32 #[.int .i64 0, .int .i64 0] := Blk.new _ _ _
    have b2 := (((b1.grown hg1 (fun e => by injection e; omega)).alloc (.cells #[.int .i64 x, _, .int .i64 hi] 3)).grown hg2 (fun e => by injection e; omega)).grown hg3 (fun e => by injection e; omega)
    have c0 := b2.cell 0
    have c1 := b2.cell 1
    have f0 := b2.frozen 0
    have f1 := b2.frozen 1
    have hR := ((b2.set_ 0 (.int .i64 x)).set_ 1 (.int .i64 y))
    have q0 := hR.cell 0
    have q1 := hR.cell 1
    have HB := Lib.hid hB
    clear hB hg1 hg2 hg3 b1 b2 hR
    go_wp2
    refine bodyPost_ret (v := .agg #[.int .i64 x, .int .i64 y]) (by simp [results, Try.results22, go_sem, q0, q1]) rfl ?_
    refine ⟨x, y, ⟨hx1, hy1, by omega⟩, rfl, hd3.keep ?_, ?_⟩
    · rw [Below.heap_setCell _ _ _ _ (by show d ≠ w.heap.size; omega), Below.heap_setCell _ _ _ _ (by show d ≠ w.heap.size; omega)]
    · exact only_setCell (only_setCell HB.out (.inr (Nat.le_refl _)) _) (.inr (Nat.le_refl _)) _

/-- what a method of the die keeps: every block but the die's -/
theorem die_keep {d : Nat} {W w1 : World} {g : Nat} {t : TypeId} {cs : Array Value} (hb : Blk W g t cs) (hg : W.grownBy w1 (some d)) (hne : g ≠ d) : Blk w1 g t cs := hb.grown hg (fun e => hne (by injection e))

theorem from_held (d : Nat) (lo hi : Int) (W : World) (g : Nat) (t : TypeId) (cs : Array Value) (w0 : World) (hd : IsDie W d) (hb : Blk W g t cs) (hne : g ≠ d) (hg : w0.grownBy W (some d)) (h1 : -1000000000000 ≤ lo) (h2 : lo ≤ 1000000000000) (h3 : -1000000000000 ≤ hi) (h4 : hi ≤ 1000000000000) :
    Calls Try.prog 13 #[.pointer (some ⟨d, 0, none⟩), .int .i64 lo, .int .i64 hi] W fun e w' => ∃ k : Int, (lo ≤ k ∧ (lo ≤ hi → k ≤ hi) ∧ (hi < lo → k = lo)) ∧ e = .returned (.int .i64 k) ∧ IsDie w' d ∧ Blk w' g t cs ∧ w0.grownBy w' (some d) :=
  (from_any d lo hi W hd h1 h2 h3 h4).mono fun e w' ⟨k, hk, he, hd', hg'⟩ => ⟨k, hk, he, hd', die_keep hb hg' hne, only_trans hg hg'⟩

theorem one_held (d b n c : Nat) (A : Option Addr) (l : List Int) (W : World) (g : Nat) (t : TypeId) (cs : Array Value) (w0 : World) (hd : IsDie W d) (hb : Blk W g t cs) (hne : g ≠ d) (hg : w0.grownBy W (some d)) (hl : Sl encI 1 W b A n l) (hn : 0 < n) (hn2 : n ≤ 1000000) (hbd : b ≠ d) :
    Calls Try.prog 6 #[.pointer (some ⟨d, 0, none⟩), .slice A n c] W fun e w' => ∃ k : Int, k ∈ l ∧ e = .returned (.int .i64 k) ∧ IsDie w' d ∧ Blk w' g t cs ∧ w0.grownBy w' (some d) :=
  (one_any d b n c A l W hd hl hn hn2 hbd).mono fun e w' ⟨k, hk, he, hd', hg'⟩ => ⟨k, hk, he, hd', die_keep hb hg' hne, only_trans hg hg'⟩

set_option maxHeartbeats 2000000 in
theorem true_any (d : Nat) (lo hi : Int) (w : World) (hd : IsDie w d) (h1 : 0 ≤ lo) (h2 : lo ≤ hi) (h3 : hi ≤ 100000000) :
    Calls Try.prog 33 #[.pointer (some ⟨d, 0, none⟩), .agg #[.int .i64 lo, .int .i64 hi]] w (RInt (fun k => lo ≤ k ∧ k ≤ hi) d w) := by
  have hz := hd.lt
  have hne : w.heap.size ≠ d := by omega
  have hd0 : IsDie (w.alloc (.cells #[.int .i64 lo, .int .i64 hi] 32)) d := hd.keep (Below.heap_alloc _ _ _ hz)
  have hb0 : Blk (w.alloc (.cells #[.int .i64 lo, .int .i64 hi] 32)) w.heap.size 32 #[.int .i64 lo, .int .i64 hi] := Blk.new _ _ _
  have hg0 : w.grownBy (w.alloc (.cells #[.int .i64 lo, .int .i64 hi] 32)).drew (some d) := only_drew (only_alloc (only_refl _ _) _)
  go_enter Try.func33, Try.ntmps33
  go_wp2
  go_region_held3 (fun w' => w'.cell? ⟨w.heap.size, 0, none⟩ = some (.int .i64 lo) ∧ w'.cell? ⟨w.heap.size, 1, none⟩ = some (.int .i64 hi) ∧ Blk w' w.heap.size 32 #[.int .i64 lo, .int .i64 hi] ∧ IsDie w' d ∧ w.grownBy w' (some d))
    (refine ⟨Blk.cell (cs := #[.int .i64 lo, .int .i64 hi]) (t := 32) (by first | assumption | exact Blk.alloc (by assumption) _) 0, Blk.cell (cs := #[.int .i64 lo, .int .i64 hi]) (t := 32) (by first | assumption | exact Blk.alloc (by assumption) _) 1, by first | assumption | exact Blk.alloc (by assumption) _, by first | assumption | exact IsDie.alloc (by assumption) _, by first | assumption | exact only_alloc (by assumption) _⟩)
    (first
      | (go_at_call 13; refine (from_held d lo hi _ w.heap.size 32 #[.int .i64 lo, .int .i64 hi] w (by assumption) (by assumption) hne (by assumption) (by omega) (by omega) (by omega) (by omega)).mono ?_; rintro e w1 ⟨k, ⟨hk1, hk2, hk3⟩, rfl, hd1, hb1, hg1⟩; have hz1 := hd1.lt)
      | (go_at_call 6; refine (one_held d _ 4 4 _ [_, _, _, _] _ w.heap.size 32 #[.int .i64 lo, .int .i64 hi] w (by exact IsDie.alloc (by assumption) _) (by exact Blk.alloc (by assumption) _) hne (by exact only_alloc (by assumption) _) (Sl.newI _ [_, _, _, _] _) (by omega) (by omega) (by omega)).mono ?_; rintro e w1 ⟨k, hk, rfl, hd1, hb1, hg1⟩; have hk' : lo ≤ k ∧ k ≤ hi := by simp at hk; omega))
  go_wp2
  go_ret
  exact ⟨_, by assumption, rfl, by assumption, by assumption⟩
end Go.Proofs.Ytmoolcpogilgkaa
