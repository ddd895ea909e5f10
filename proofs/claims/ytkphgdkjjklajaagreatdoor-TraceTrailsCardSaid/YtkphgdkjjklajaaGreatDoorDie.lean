/-
  The die: what its methods return, as far as a law needs it: a number within its bounds, whatever it is.
-/
import Derived.Test.YtkphgdkjjklajaaGreatDoorBase
import Derived.Deep.RegionHeld3
set_option linter.unusedVariables false
set_option linter.unusedSimpArgs false
namespace Go.Proofs.YtkphgdkjjklajaaGreatDoor
open Go.RowKit

/-- block d is a die -/
def IsDie (w : World) (d : Nat) : Prop := ∃ f : Int, (Lit.int .u64 f).wf = true ∧ Blk w d 61 #[.int .u64 f]

theorem IsDie.keep {w w' : World} {d : Nat} (h : IsDie w d) (hb : w'.heap[d]? = w.heap[d]?) : IsDie w' d := by
  obtain ⟨f, hf, h⟩ := h
  exact ⟨f, hf, hb.trans h⟩
theorem IsDie.alloc {w : World} {d : Nat} (h : IsDie w d) (o : Obj) : IsDie (w.alloc o) d := by
  obtain ⟨f, hf, h⟩ := h
  exact ⟨f, hf, h.alloc o⟩
theorem IsDie.lt {w : World} {d : Nat} (h : IsDie w d) : d < w.heap.size := by obtain ⟨f, hf, h⟩ := h; exact h.lt

/-- what a method of the die does to the world: the die alone turns -/
def DieTo (d : Nat) (w w' : World) : Prop := IsDie w' d ∧ w.grownBy w' (some d)

set_option maxHeartbeats 400000 in
theorem roll_any (d : Nat) (w : World) (hd : IsDie w d) :
    Calls Tryz.prog 27 #[.pointer (some ⟨d, 0, none⟩)] w fun e w' => (∃ x : Int, (Lit.int .u64 x).wf = true ∧ e = .returned (.int .u64 x)) ∧ DieTo d w w' := by
  obtain ⟨f, hf, hb⟩ := hd
  have c0 := hb.cell 0
  have f0 := hb.frozen 0
  go_enter Tryz.func27, Tryz.ntmps27
  go_wp2
  go_ret
  exact ⟨⟨_, wf_bits _ _ _ _, rfl⟩, ⟨_, wf_wrap _ _, hb.set_ 0 _⟩, only_setCell (only_refl w d) (.inl rfl) _⟩

/-- a number of which P is true comes back; the die alone turns -/
def RInt (P : Int → Prop) (d : Nat) (w : World) (e : Ending) (w' : World) : Prop := ∃ k : Int, P k ∧ e = .returned (.int .i64 k) ∧ DieTo d w w'

theorem u64_bd {x : Int} (h : (Lit.int .u64 x).wf = true) : 0 ≤ x ∧ x ≤ 18446744073709551615 := by
  simpa [Lit.wf, IntKind.min, IntKind.max, IntKind.signed, IntKind.bits] using h
theorem i64_bd {x : Int} (h : (Lit.int .i64 x).wf = true) : -9223372036854775808 ≤ x ∧ x ≤ 9223372036854775807 := by
  simpa [Lit.wf, IntKind.min, IntKind.max, IntKind.signed, IntKind.bits] using h

set_option maxHeartbeats 400000 in
theorem cast_any (d : Nat) (n : Int) (w : World) (hd : IsDie w d) (hn : n ≤ 9223372036854775807) :
    Calls Tryz.prog 24 #[.pointer (some ⟨d, 0, none⟩), .int .i64 n] w (RInt (fun k => 0 ≤ k ∧ (n < 2 → k = 0) ∧ (2 ≤ n → k < n)) d w) := by
  by_cases h2 : n < 2
  · go_enter Tryz.func24, Tryz.ntmps24
    go_wp2_with fail
    go_ret
    exact ⟨0, ⟨by omega, by omega, by omega⟩, rfl, hd, only_refl w d⟩
  · have h2' : 2 ≤ n := by omega
    go_enter Tryz.func24, Tryz.ntmps24
    go_wp2_with (go_at_call 27; refine (roll_any _ _ hd).mono ?_; rintro e w' ⟨⟨x, hx, rfl⟩, hw⟩; obtain ⟨hx1, hx2⟩ := u64_bd hx)
    go_ret
    have h1 : 0 ≤ x / 4 % n := Int.emod_nonneg _ (by omega)
    have h3 : x / 4 % n < n := Int.emod_lt_of_pos _ (by omega)
    have h4 : wrap64 (x / 4 % n) = x / 4 % n := IntWalk.wrap64_in _ (by omega)
    exact ⟨x / 4 % n, ⟨h1, by omega, fun _ => h3⟩, by simp [h4], hw⟩

set_option maxHeartbeats 400000 in
theorem from_any (d : Nat) (lo hi : Int) (w : World) (hd : IsDie w d) (h1 : -1000000000000 ≤ lo) (h2 : lo ≤ 1000000000000) (h3 : -1000000000000 ≤ hi) (h4 : hi ≤ 1000000000000) :
    Calls Tryz.prog 22 #[.pointer (some ⟨d, 0, none⟩), .int .i64 lo, .int .i64 hi] w (RInt (fun k => lo ≤ k ∧ (lo ≤ hi → k ≤ hi) ∧ (hi < lo → k = lo)) d w) := by
  go_enter Tryz.func22, Tryz.ntmps22
  go_wp2_with fail
  refine (cast_any d (hi - lo + 1) w hd (by omega)).mono ?_
  rintro e w1 ⟨k1, ⟨hk1, hk2, hk3⟩, rfl, hd1, hg1⟩
  have hk4 : k1 ≤ 1000000000000000 := by by_cases h : hi - lo + 1 < 2 <;> omega
  go_wp2
  go_ret
  exact ⟨lo + k1, ⟨by omega, by omega, by omega⟩, rfl, hd1, hg1⟩


set_option maxHeartbeats 400000 in
/-- one of a list's numbers -/
theorem one_any (d b n c : Nat) (A : Option Addr) (l : List Int) (w : World) (hd : IsDie w d) (hl : Sl encI 1 w b A n l) (hn : 0 < n) (hn2 : n ≤ 1000000) (hbd : b ≠ d) :
    Calls Tryz.prog 23 #[.pointer (some ⟨d, 0, none⟩), .slice A n c] w (RInt (fun k => k ∈ l) d w) := by
  have h0 : ((n : Int) == 0) = false := by rw [beq_eq_false_iff_ne]; omega
  go_enter Tryz.func23, Tryz.ntmps23
  go_wp2_with fail
  refine (cast_any d _ w hd (by omega)).mono ?_
  rintro e w1 ⟨k1, ⟨hk1, hk2, hk3⟩, rfl, hd1, hg1⟩
  obtain ⟨k, rfl⟩ := Int.eq_ofNat_of_zero_le hk1
  have hkn : k < n := by by_cases h : (n : Int) < 2 <;> omega
  obtain ⟨o, rfl, hb, hc⟩ := (hl.grown hg1 (fun _ e => hbd (by injection e))).atI (k := k) (by rw [← hl.len]; exact hkn)
  go_wp2
  go_ret
  exact ⟨_, List.getElem_mem _, rfl, hd1, hg1⟩

/-- what a method of the die keeps: every block but the die's -/
theorem die_keep {d : Nat} {W w1 : World} {g : Nat} {t : TypeId} {cs : Array Value} (hb : Blk W g t cs) (hg : W.grownBy w1 (some d)) (hne : g ≠ d) : Blk w1 g t cs := hb.grown hg (fun e => hne (by injection e))

theorem from_held (d : Nat) (lo hi : Int) (W : World) (g : Nat) (t : TypeId) (cs : Array Value) (w0 : World) (hd : IsDie W d) (hb : Blk W g t cs) (hne : g ≠ d) (hg : w0.grownBy W (some d)) (h1 : -1000000000000 ≤ lo) (h2 : lo ≤ 1000000000000) (h3 : -1000000000000 ≤ hi) (h4 : hi ≤ 1000000000000) :
    Calls Tryz.prog 22 #[.pointer (some ⟨d, 0, none⟩), .int .i64 lo, .int .i64 hi] W fun e w' => ∃ k : Int, (lo ≤ k ∧ (lo ≤ hi → k ≤ hi) ∧ (hi < lo → k = lo)) ∧ e = .returned (.int .i64 k) ∧ IsDie w' d ∧ Blk w' g t cs ∧ w0.grownBy w' (some d) :=
  (from_any d lo hi W hd h1 h2 h3 h4).mono fun e w' ⟨k, hk, he, hd', hg'⟩ => ⟨k, hk, he, hd', die_keep hb hg' hne, only_trans hg hg'⟩

theorem one_held (d b n c : Nat) (A : Option Addr) (l : List Int) (W : World) (g : Nat) (t : TypeId) (cs : Array Value) (w0 : World) (hd : IsDie W d) (hb : Blk W g t cs) (hne : g ≠ d) (hg : w0.grownBy W (some d)) (hl : Sl encI 1 W b A n l) (hn : 0 < n) (hn2 : n ≤ 1000000) (hbd : b ≠ d) :
    Calls Tryz.prog 23 #[.pointer (some ⟨d, 0, none⟩), .slice A n c] W fun e w' => ∃ k : Int, k ∈ l ∧ e = .returned (.int .i64 k) ∧ IsDie w' d ∧ Blk w' g t cs ∧ w0.grownBy w' (some d) :=
  (one_any d b n c A l W hd hl hn hn2 hbd).mono fun e w' ⟨k, hk, he, hd', hg'⟩ => ⟨k, hk, he, hd', die_keep hb hg' hne, only_trans hg hg'⟩

end Go.Proofs.YtkphgdkjjklajaaGreatDoor
