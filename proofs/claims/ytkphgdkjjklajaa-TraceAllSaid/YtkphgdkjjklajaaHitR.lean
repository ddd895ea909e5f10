/-
  What a recall marks, batch by batch; in plain words.
-/
import Derived.Test.YtkphgdkjjklajaaTrRec
import Derived.Test.YtkphgdkjjklajaaBRow
set_option linter.unusedVariables false
set_option linter.unusedSimpArgs false
namespace Go.Proofs.Ytkphgdkjjklajaa
open Go.RowKit Go.Shelf Go.Sort

theorem rg_snocH (k : Nat) : rg (k + 1) = rg k ++ [(k : Int)] := by
  unfold rg; rw [List.range_succ, List.map_append]; rfl
theorem filter_snocR (f : Int → Bool) (k : Nat) : (rg (k + 1)).filter f = (rg k).filter f ++ (if f k then [(k : Int)] else []) := by
  rw [rg_snocH, List.filter_append]
  by_cases h : f k = true
  · simp [h]
  · simp [h]
theorem filter_lenR (f : Int → Bool) (k : Nat) : ((rg k).filter f).length ≤ k := by
  refine Nat.le_trans (List.length_filter_le ..) ?_; rw [rg_length]; exact Nat.le_refl _
def isR (bs l : List Int) (ms : List Mv) (xs : List Span) (j k : Nat) : Int → Bool := fun b => decide (b ∈ hitO bs l j) || decide (b ∈ hitL ms xs k)
theorem isR_end {bs l : List Int} {ms : List Mv} {xs : List Span} (hx : xs = throughT bs ms l) (hlen : xs.length = ms.length) : (rg bs.length).filter (isR bs l ms xs l.length ms.length) = recallT bs ms l := by
  subst hx
  unfold recallT
  refine List.filter_congr fun b _ => ?_
  unfold isR
  have e1 : decide (b ∈ hitO bs l l.length) = (decide (b ∈ l) && decide (0 < bsF bs b)) := by
    rw [Bool.eq_iff_iff]; simp [hitO]
  have e2 : decide (b ∈ hitL ms (throughT bs ms l) ms.length) = hitT b ms (throughT bs ms l) := by
    rw [Bool.eq_iff_iff, decide_eq_true_eq]; exact mem_hitL hlen b
  rw [e1, e2]
theorem isR_src {bs l : List Int} {ms : List Mv} {xs : List Span} {j : Nat} (hj : j < l.length) (hn : l.Nodup) (b : Int) : (if b = l[j] then decide (0 < bsF bs l[j]) else isR bs l ms xs j 0 b) = isR bs l ms xs (j + 1) 0 b := by
  have h0 : hitL ms xs 0 = [] := by simp [hitL]
  unfold isR
  rw [h0]
  have hnew : l[j] ∉ l.take j := fun h => by
    obtain ⟨i, hi, e⟩ := List.getElem_of_mem h
    rw [List.getElem_take] at e
    have := (List.getElem_inj hn).1 e
    rw [List.length_take] at hi
    omega
  have hno : l[j] ∉ hitO bs l j := fun h => hnew (List.mem_filter.1 h).1
  by_cases hp : 0 < bsF bs l[j]
  · rw [hitO_yes hj hp]
    by_cases e : b = l[j]
    · rw [if_pos e, e]; simp [hp]
    · rw [if_neg e]; simp [e]
  · rw [hitO_no hj hp]
    by_cases e : b = l[j]
    · rw [if_pos e, e]; simp [hp, hno]
    · rw [if_neg e]
theorem isR_mv {bs l : List Int} {ms : List Mv} {xs : List Span} {j k : Nat} (hk : k < ms.length) (hx : k < xs.length) (b : Int) : (if b = ms[k].to then (isR bs l ms xs j k ms[k].to || decide (0 < xs[k].hi)) else isR bs l ms xs j k b) = isR bs l ms xs j (k + 1) b := by
  unfold isR
  by_cases hp : 0 < xs[k].hi
  · rw [hitL_yes hk hx hp]
    by_cases e : b = ms[k].to
    · rw [if_pos e, e]; simp [hp]
    · rw [if_neg e]; simp [e]
  · rw [hitL_no hk hx hp]
    by_cases e : b = ms[k].to
    · rw [if_pos e, e]; simp [hp]
    · rw [if_neg e]
end Go.Proofs.Ytkphgdkjjklajaa
