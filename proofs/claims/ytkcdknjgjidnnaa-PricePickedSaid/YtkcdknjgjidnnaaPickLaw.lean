/-
  Picking, in plain words: what is picked, that nothing is picked twice, that each way comes once.
-/
import Derived.Test.YtkcdknjgjidnnaaPure
set_option linter.unusedVariables false
set_option linter.unusedSimpArgs false
namespace Go.Proofs.Ytkcdknjgjidnnaa

def pickL : Nat → Int → List Int → List Int
  | 0, _, _ => []
  | m + 1, x, r => r.getD (x % (r.length : Int)).toNat 0 :: pickL m (x / (r.length : Int)) (r.eraseIdx (x % (r.length : Int)).toNat)
/-- in how many ways m of n things are picked -/
def wup (n : Nat) : Nat → Nat
  | 0 => 1
  | i + 1 => wup n i * (n - i)
theorem wup_succ (n m : Nat) (hn : 1 ≤ n) : n * wup (n - 1) m = wup n (m + 1) := by
  induction m with
  | zero => simp [wup]
  | succ m ih =>
    rw [wup, ← Nat.mul_assoc, ih, wup.eq_def n (m + 1 + 1)]
    simp only
    rw [show n - 1 - m = n - (m + 1) by omega]
theorem pickL_len (m : Nat) (x : Int) (r : List Int) : (pickL m x r).length = m := by
  induction m generalizing x r with
  | zero => rfl
  | succ m ih => simp [pickL, ih]
theorem pos_lt (x : Int) {n : Nat} (h : 1 ≤ n) : (x % (n : Int)).toNat < n := by
  have h1 := Int.emod_nonneg x (show (n : Int) ≠ 0 by omega)
  have h2 := Int.emod_lt_of_pos x (show (0 : Int) < (n : Int) by omega)
  omega
theorem pickL_mem {m : Nat} {x : Int} {r : List Int} (h : m ≤ r.length) : ∀ y ∈ pickL m x r, y ∈ r := by
  induction m generalizing x r with
  | zero => simp [pickL]
  | succ m ih =>
    have hp := pos_lt x (n := r.length) (by omega)
    intro y hy
    simp only [pickL, List.mem_cons] at hy
    rcases hy with rfl | hy
    · rw [List.getD_eq_getElem?_getD, List.getElem?_eq_getElem hp]
      exact List.getElem_mem _
    · exact List.mem_of_mem_eraseIdx (ih (by rw [List.length_eraseIdx_of_lt hp]; omega) y hy)
theorem mem_erase_ne {r : List Int} (hn : r.Nodup) {k : Nat} (hk : k < r.length) : r[k] ∉ r.eraseIdx k := by
  intro h
  obtain ⟨i, hi, hne, e⟩ := List.mem_eraseIdx_iff_getElem.1 h
  exact hne ((List.getElem_inj hn).1 e)
theorem nodup_erase {r : List Int} (hn : r.Nodup) (k : Nat) : (r.eraseIdx k).Nodup := hn.sublist (List.eraseIdx_sublist r k)
theorem pickL_nodup {m : Nat} {x : Int} {r : List Int} (hn : r.Nodup) (h : m ≤ r.length) : (pickL m x r).Nodup := by
  induction m generalizing x r with
  | zero => simp [pickL]
  | succ m ih =>
    have hp := pos_lt x (n := r.length) (by omega)
    have hl : m ≤ (r.eraseIdx (x % (r.length : Int)).toNat).length := by rw [List.length_eraseIdx_of_lt hp]; omega
    simp only [pickL, List.nodup_cons]
    refine ⟨fun hm => ?_, ih (nodup_erase hn _) hl⟩
    have := pickL_mem hl _ hm
    rw [List.getD_eq_getElem?_getD, List.getElem?_eq_getElem hp] at this
    exact mem_erase_ne hn hp this
theorem pickL_inj {m : Nat} {x y : Int} {r : List Int} (hn : r.Nodup) (h : m ≤ r.length) (e : pickL m x r = pickL m y r) : ((wup r.length m : Nat) : Int) ∣ x - y := by
  induction m generalizing x y r with
  | zero => simp [wup]
  | succ m ih =>
    have hp := pos_lt x (n := r.length) (by omega)
    have hq := pos_lt y (n := r.length) (by omega)
    simp only [pickL, List.cons.injEq] at e
    obtain ⟨e1, e2⟩ := e
    rw [List.getD_eq_getElem?_getD, List.getElem?_eq_getElem hp, List.getD_eq_getElem?_getD, List.getElem?_eq_getElem hq] at e1
    have e3 : (x % (r.length : Int)).toNat = (y % (r.length : Int)).toNat := (List.getElem_inj hn).1 e1
    rw [← e3] at e2
    have hl : m ≤ (r.eraseIdx (x % (r.length : Int)).toNat).length := by rw [List.length_eraseIdx_of_lt hp]; omega
    obtain ⟨c, hc⟩ := ih (nodup_erase hn _) hl e2
    rw [List.length_eraseIdx_of_lt hp] at hc
    refine ⟨c, ?_⟩
    rw [← wup_succ _ _ (by omega)]
    have h1 := Int.emod_nonneg x (show (r.length : Int) ≠ 0 by omega)
    have h2 := Int.emod_nonneg y (show (r.length : Int) ≠ 0 by omega)
    have e4 : x % (r.length : Int) = y % (r.length : Int) := by omega
    have h3 := Int.mul_ediv_add_emod x (r.length : Int)
    have h4 := Int.mul_ediv_add_emod y (r.length : Int)
    rw [Int.natCast_mul, Int.mul_assoc, ← hc, Int.mul_sub]
    omega
theorem pickL_ne {m n : Nat} {f : Int} {i j : Nat} {r : List Int} (hr : r.length = n) (hn : r.Nodup) (h : m ≤ n) (hi : i < j) (hj : j < wup n m) : pickL m (f + i) r ≠ pickL m (f + j) r := by
  intro e
  subst hr
  obtain ⟨c, hc⟩ := pickL_inj hn h e
  have h0 : c = 0 ∨ 1 ≤ c ∨ c ≤ -1 := by omega
  generalize (wup r.length m) = w at hj hc
  rcases h0 with rfl | h0 | h0
  · simp at hc; omega
  · have := Int.mul_le_mul_of_nonneg_left h0 (show (0 : Int) ≤ (w : Int) by omega)
    omega
  · have := Int.mul_le_mul_of_nonneg_left h0 (show (0 : Int) ≤ (w : Int) by omega)
    omega
/-- the places of n sales -/
def places (n : Nat) : List Int := (List.range n).map fun (i : Nat) => (i : Int)
theorem places_len (n : Nat) : (places n).length = n := by simp [places]
theorem places_succ (n : Nat) : places (n + 1) = places n ++ [(n : Int)] := by simp [places, List.range_succ]
theorem places_nodup (n : Nat) : (places n).Nodup := List.Pairwise.map _ (fun a b hab e => hab (by omega)) List.nodup_range
theorem places_mem {n : Nat} {x : Int} (h : x ∈ places n) : 0 ≤ x ∧ x < n := by
  simp only [places, List.mem_map, List.mem_range] at h
  obtain ⟨i, hi, rfl⟩ := h
  omega
def pickErr (st gd : Int) (l : List Sale) (x m : Int) : Int :=
  if check st gd l ≠ 0 then check st gd l else if !inB x 0 1000000000 || !inB m 0 (min 10 (l.length : Int)) then 1 else 0
def pickOut (st gd : Int) (l : List Sale) (x m : Int) : List Int := if pickErr st gd l x m = 0 then pickL m.toNat x (places l.length) else []
end Go.Proofs.Ytkcdknjgjidnnaa
