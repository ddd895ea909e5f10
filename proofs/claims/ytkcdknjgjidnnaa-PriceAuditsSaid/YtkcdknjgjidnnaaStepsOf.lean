/-
  Steps made of numbers.
-/
import Derived.Test.YtkcdknjgjidnnaaDues
import Derived.Test.YtkcdknjgjidnnaaBook
import Derived.Test.YtkcdknjgjidnnaaApp
set_option linter.unusedVariables false
set_option linter.unusedSimpArgs false
namespace Go.Proofs.Ytkcdknjgjidnnaa
open Go.RowKit

/-- a row of one's own that grows while the die is cast -/
structure RowSt (w W : World) (d base : Nat) (e : TypeId) (sz : Nat) (A : Option Addr) (m c : Nat) (xs : List Value) : Prop where
  die : IsDie W d
  own : W.ownsRow base e sz (.slice A m c) m xs
  only : w.grownBy W (some d)
  hw : w.heap.size ≤ base
  hd : d < base
  hz : base ≤ W.heap.size
section
variable {w W W1 : World} {d base m c sz : Nat} {e : TypeId} {A : Option Addr} {xs : List Value}
theorem RowSt.toDie (h : RowSt w W d base e sz A m c xs) (hd1 : IsDie W1 d) (hg1 : W.grownBy W1 (some d)) : RowSt w W1 d base e sz A m c xs :=
  ⟨hd1, ownsRow_die h.own hg1 h.hd, only_trans h.only hg1, h.hw, h.hd, Nat.le_trans h.hz hg1.size⟩
theorem RowSt.drew (h : RowSt w W d base e sz A m c xs) : RowSt w W.drew d base e sz A m c xs := ⟨h.die, h.own, only_drew h.only, h.hw, h.hd, h.hz⟩
theorem RowSt.alloc (h : RowSt w W d base e sz A m c xs) (o : Obj) : RowSt w (W.alloc o) d base e sz A m c xs := ⟨h.die.alloc o, h.own.alloc o, only_alloc h.only o, h.hw, h.hd, Nat.le_trans h.hz (by simp)⟩
theorem RowSt.next {A' : Option Addr} {m' c' : Nat} {ys : List Value} (h : RowSt w W d base e sz A m c xs) (hg1 : W.grownBy W1 (Value.ownBlock (.slice A m c))) (hown : W1.ownsRow base e sz (.slice A' m' c') m' ys) : RowSt w W1 d base e sz A' m' c' ys :=
  ⟨h.die.keep (own_keeps h.own hg1 h.hd (Nat.lt_of_lt_of_le h.hd h.hz)), hown, only_own h.own hg1 h.only h.hw, h.hw, h.hd, Nat.le_trans h.hz hg1.size⟩
end

theorem info_step : (Try.prog.info? 53).map (fun i => (i.zero, i.size, i.bytes)) = some (some (.agg #[.int .i64 0, .int .i64 0]), 2, 16) := by kernel_rfl

/-- steps while they are made: the next one begins at f -/
structure StepsUpTo (f : Int) (l : List Step) : Prop where
  f0 : 0 ≤ f
  f1 : f ≤ 5000 * l.length
  z : l = [] → f = 0
  fr : ∀ s ∈ l, 0 ≤ s.fr ∧ s.fr < f
  sh : ∀ s ∈ l, 0 ≤ s.sh ∧ s.sh ≤ 1000
  hd : ∀ s, l[0]? = some s → s.fr = 0
  up : ∀ k (h : k + 1 < l.length), l[k].fr < l[k + 1].fr
theorem StepsUpTo.nil : StepsUpTo 0 [] := ⟨by omega, by simp, fun _ => rfl, by simp, by simp, by simp, by simp⟩
theorem StepsUpTo.snoc {f f' sh : Int} {l : List Step} (h : StepsUpTo f l) (h1 : f < f') (h2 : f' ≤ f + 5000) (h3 : 0 ≤ sh) (h4 : sh ≤ 1000) : StepsUpTo f' (l ++ [⟨f, sh⟩]) := by
  have hf0 := h.f0
  have hf1 := h.f1
  refine ⟨by omega, by simp; omega, by simp, ?_, ?_, ?_, ?_⟩
  · intro s hs
    rcases List.mem_append.1 hs with hs | hs
    · have := h.fr s hs; omega
    · simp at hs; subst hs; simp; omega
  · intro s hs
    rcases List.mem_append.1 hs with hs | hs
    · exact h.sh s hs
    · simp at hs; subst hs; simp; omega
  · intro s hs
    cases l with
    | nil => simp at hs; subst hs; exact h.z rfl
    | cons a r => exact h.hd s (by simpa using hs)
  · intro k hk
    simp at hk
    by_cases hkl : k + 1 < l.length
    · rw [List.getElem_append_left (by omega), List.getElem_append_left (by omega)]
      exact h.up k hkl
    · have hkk : k + 1 = l.length := by omega
      rw [List.getElem_append_left (by omega), List.getElem_append_right (by omega)]
      simp [hkk]
      exact (h.fr _ (List.getElem_mem _)).2
theorem StepsUpTo.in {f : Int} {l : List Step} (h : StepsUpTo f l) (hne : l ≠ []) (h5 : l.length ≤ 5) : StepsIn l := by
  have hf1 := h.f1
  exact ⟨hne, h5, fun s hs => (h.fr s hs).1, fun s hs => by have := (h.fr s hs).2; omega, fun s hs => (h.sh s hs).1, fun s hs => (h.sh s hs).2, h.hd, h.up⟩

set_option maxRecDepth 100000 in
set_option maxHeartbeats 400000 in
theorem stepsOf_any (d most : Nat) (w : World) (hd : IsDie w d) (h1 : 1 ≤ most) (h5 : most ≤ 5) :
    Calls Try.prog 28 #[.pointer (some ⟨d, 0, none⟩), .int .i64 most] w fun e w' => ∃ (b m c : Nat) (A : Option Addr) (l : List Step), StepsIn l ∧ l.length ≤ most ∧ e = .returned (.slice A m c) ∧ w.heap.size ≤ b ∧ b ≠ d ∧ Sl encP 2 w' b A m l ∧ DieTo d w w' := by
  have hz := hd.lt
  obtain ⟨i0, hi, iz0, iz1, iz2⟩ := info_parts info_step
  go_enter Try.func28, Try.ntmps28
  go_wp2_with fail
  refine (from_any d 1 most _ hd (by omega) (by omega) (by omega) (by omega)).mono ?_
  rintro e w1 ⟨k0, ⟨hk1, hk2, _⟩, rfl, hd1, hg1⟩
  have hk3 := hk2 (by omega)
  obtain ⟨k0, rfl⟩ := Int.eq_ofNat_of_zero_le (show 0 ≤ k0 by omega)
  have hz1 := hg1.size
  clear hk2
  go_wp2_with fail
  go_loopw [5, 6, 7] (fun v f i wr => ∃ (k m c : Nat) (A : Option Addr) (f' : Int) (l : List Step), i = .int .i64 k ∧ m + k = k0 ∧ m = l.length ∧ f = .int .i64 f' ∧ v = .slice A m c ∧ StepsUpTo f' l ∧ RowSt w wr d w1.heap.size 53 2 A m c (l.flatMap encP)) (fun _ _ i _ => (intOf i).toNat)
  case atStart => exact ⟨k0, 0, 0, none, 0, [], rfl, by omega, rfl, rfl, rfl, StepsUpTo.nil, ⟨hd1, World.ownsRow_nil _ _ _ _, hg1, hz1, hd1.lt, Nat.le_refl _⟩⟩
  case round =>
    obtain ⟨k, m, c, A, f, l, rfl, hmk, hml, rfl, rfl, hU, hS⟩ := hrel
    have HMK := Lib.hid hmk
    have HML := Lib.hid hml
    have HU := Lib.hid hU
    have HS := Lib.hid hS
    have hf0 := hU.f0
    have hf1 : f ≤ 25000 := by have := hU.f1; omega
    have hk1000 : k ≤ 5 := by omega
    have hm5 : m ≤ 5 := by omega
    clear hmk hml hU hS
    by_cases hk0 : 0 < k
    · have HK0 := Lib.hid hk0
      go_wp2_with fail
      refine (cast_any d _ _ HS.out.die (by omega)).mono ?_
      rintro e w2 ⟨sh, ⟨hs1, _, hs2⟩, rfl, hd2, hg2⟩
      have hs3 := hs2 (by omega)
      have HS2 := Lib.hid (HS.out.toDie hd2 hg2)
      clear hs2 hd2 hg2
      go_wp2_with (at_builtin; go_loud (refine wpList_append_lies _ rfl _ _ 51 rfl w1.heap.size 53 i0 _ 2 16 Try.underlying51 hi iz0 iz1 iz2 rfl (by omega) _ m _ (by rfl) (HS2.out.alloc _).own ⟨w2.heap.size, 0, none⟩ 1 1 (encP ⟨f, sh⟩) (by rfl) (by rfl) (World.news_of_block (heap_alloc_new w2 _)) (oneP _) (by omega) (by unfold maxLen; omega) (by omega) (HS2.out.alloc _).hz (w2.heap.size + 1) (by simp) ?_); intro g' cap w3 hown3 hgrow hat hlt3)
      have HS3 := Lib.hid ((HS2.out.alloc _).next hgrow hown3)
      clear hown3 hgrow hat
      refine (one_any d _ 3 3 _ [5, 100, 5000] _ (HS3.out.alloc _).die (Sl.newI w3 [5, 100, 5000] _) (by omega) (by omega) (by have := HS3.out.hd; have := HS3.out.hz; omega)).mono ?_
      rintro e w4 ⟨q, hq, rfl, hd4, hg4⟩
      have hq2 : 5 ≤ q ∧ q ≤ 5000 := by simp at hq; omega
      obtain ⟨hq3, hq4⟩ := hq2
      have HS4 := Lib.hid ((HS3.out.alloc _).toDie hd4 hg4)
      clear hq hd4 hg4
      go_wp2_with fail
      refine (from_any d 1 q _ HS4.out.die (by omega) (by omega) (by omega) (by omega)).mono ?_
      rintro e w5 ⟨r, ⟨hr1, hr2, _⟩, rfl, hd5, hg5⟩
      have hr3 := hr2 (by omega)
      have HS5 := Lib.hid (HS4.out.toDie hd5 hg5)
      clear hr2 hd5 hg5
      go_wp2_with fail
      go_roundw
      case rel => exact ⟨k - 1, m + 1, cap, _, f + r, l ++ [⟨f, sh⟩], by rw [show ((k - 1 : Nat) : Int) = (k : Int) - 1 from by have := HK0.out; omega], by have := HMK.out; have := HK0.out; omega, by simp [HML.out], rfl, rfl, HU.out.snoc (by omega) (by omega) hs1 (by omega), by simpa using HS5.out⟩
      case measure => simp [intOf]; omega
    · obtain rfl : k = 0 := by omega
      go_wp2_with fail
      go_ret
      obtain ⟨b, hb, hsl⟩ := Sl.of_own encP_len HML.out HS.out.own
      have h := HS.out
      refine ⟨b, m, c, A, l, HU.out.in (by have := HMK.out; have := HML.out; intro e; rw [e] at this; simp at this; omega) (by have := HML.out; omega), by have := HMK.out; have := HML.out; omega, rfl, by have := h.hw; omega, by have := h.hd; omega, hsl, h.die, h.only⟩
end Go.Proofs.Ytkcdknjgjidnnaa
