/-
  Sales in whatever order, in plain words.
-/
import Derived.Test.YtkcdknjgjidnnaaFairLaw
import Derived.Test.YtkcdknjgjidnnaaOk
import Derived.Test.YtkcdknjgjidnnaaDie2
set_option linter.unusedVariables false
set_option linter.unusedSimpArgs false
namespace Go.Proofs.Ytkcdknjgjidnnaa
open Go.RowKit

theorem wsum_perm {q : Sale → Bool} {f : Sale → Int} {l l' : List Sale} (h : l.Perm l') : wsum q f l = wsum q f l' := by
  induction h with
  | nil => rfl
  | cons x _ ih => simp only [wsum, ih]
  | swap x y l => simp only [wsum]; omega
  | trans _ _ ih1 ih2 => exact ih1.trans ih2
theorem turn_perm {l l' : List Sale} (h : l.Perm l') (s : Int) : turn l s = turn l' s := by
  induction h with
  | nil => rfl
  | cons x _ ih => simp only [turn, ih]
  | swap x y l =>
    simp only [turn]
    split <;> split <;> simp <;> omega
  | trans _ _ ih1 ih2 => exact ih1.trans ih2
theorem BookIn.perm {st gd : Int} {l l' : List Sale} (h : BookIn st gd l) (hp : l'.Perm l) : BookIn st gd l' :=
  ⟨h.st0, h.st1, h.gd0, h.gd1, by rw [hp.length_eq]; exact h.len, fun s hs => h.sales s (hp.mem_iff.1 hs)⟩
theorem ofGood_perm {l l' : List Sale} (h : l.Perm l') (g : Int) : (ofGood g l).Perm (ofGood g l') := h.filter _
theorem tipT_perm {d : Bool} {g g' : List Sale} (h : g.Perm g') (p : Int) : tipT d g p ↔ tipT d g' p := by
  unfold tipT
  rw [wsum_perm h, wsum_perm h]
theorem cts_perm {d : Bool} {g g' : List Sale} (h : g.Perm g') (x : Int) : x ∈ ctsList d g ↔ x ∈ ctsList d g' := by
  rw [mem_cts, mem_cts]
  constructor
  · rintro ⟨s, hs, h1, h2⟩; exact ⟨s, h.mem_iff.1 hs, h1, h2⟩
  · rintro ⟨s, hs, h1, h2⟩; exact ⟨s, h.mem_iff.2 hs, h1, h2⟩
theorem lo_perm_le {g g' : List Sale} (h : g.Perm g') (hg : GoodIn g) (hg' : GoodIn g') (hn : gramsHi g ≠ 0) : loOf g' ≤ loOf g ∧ hiOf g' ≤ hiOf g := by
  have hn' : gramsHi g' ≠ 0 := by unfold gramsHi at *; rw [← wsum_perm h]; exact hn
  obtain ⟨a1, a2, _⟩ := lo_spec hg hn
  obtain ⟨b1, b2, _⟩ := hi_spec hg hn
  exact ⟨(lo_spec hg' hn').2.2 _ ⟨_, (cts_perm h _).1 a1, Int.le_refl _⟩ ((tipT_perm h _).1 a2), (hi_spec hg' hn').2.2 _ ⟨_, (cts_perm h _).1 b1, Int.le_refl _⟩ ((tipT_perm h _).1 b2)⟩
theorem priceMid_perm {g g' : List Sale} (h : g.Perm g') (hg : GoodIn g) (hg' : GoodIn g') : priceMid g = priceMid g' := by
  rw [priceMid_eq hg, priceMid_eq hg']
  have e1 : gramsHi g = gramsHi g' := wsum_perm h
  have e2 : gramsLo g = gramsLo g' := wsum_perm h
  rw [e1, e2]
  by_cases hn : gramsHi g' = 0
  · rw [if_pos hn, if_pos hn]
  · rw [if_neg hn, if_neg hn]
    obtain ⟨a1, a2⟩ := lo_perm_le h hg hg' (by rw [e1]; exact hn)
    obtain ⟨b1, b2⟩ := lo_perm_le h.symm hg' hg hn
    rw [show loOf g = loOf g' by omega, show hiOf g = hiOf g' by omega]

def pickS (l : List Sale) (i : Int) : Sale := l.getD i.toNat default
theorem order_perm {l : List Sale} {order : List Int} (h : IsOrder order l.length) : (order.map (pickS l)).Perm l := by
  have h1 := h.map (pickS l)
  refine h1.trans ?_
  rw [List.map_map]
  have : (List.range l.length).map (pickS l ∘ Int.ofNat) = l := by
    apply List.ext_getElem
    · simp
    · intro i h1 h2
      simp [pickS, List.getD_eq_getElem?_getD, h2]
  rw [this]
theorem IsOrder.len {l : List Int} {n : Nat} (h : IsOrder l n) : l.length = n := by
  have := h.length_eq
  simpa using this
theorem IsOrder.at {l : List Int} {n : Nat} (h : IsOrder l n) {k : Nat} (hk : k < l.length) : ∃ j : Nat, l[k] = (j : Int) ∧ j < n := by
  have := (h.mem_iff (a := l[k])).1 (List.getElem_mem _)
  simp at this
  obtain ⟨j, hj, e⟩ := this
  exact ⟨j, e.symm, hj⟩
theorem duesAll_perm {l l' : List Sale} (h : l.Perm l') (n : Nat) (steps : List Step) : duesAll n l steps = duesAll n l' steps := by
  unfold duesAll
  simp only [turn_perm h]
end Go.Proofs.Ytkcdknjgjidnnaa
