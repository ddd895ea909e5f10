/-
  A table of numbers (a list of lists) as it lies, and as it is written in place; what one push of the reference makes of the room that is left.
-/
import Derived.Test.YtkphgdkjjklajaaTrNetL
import Derived.Test.YtkphgdkjjklajaaMostLaw
set_option linter.unusedVariables false
set_option linter.unusedSimpArgs false
namespace Go.Proofs.Ytkphgdkjjklajaa
open Go.RowKit Go.Shelf Go.Sort

/-- a table of N rows of N numbers: row k lies in block rb k, the rows' list in block Bo -/
structure Mat (w : World) (lo Bo : Nat) (rb : Nat → Nat) (N : Nat) (R : Int → Int → Int) : Prop where
  lob : lo ≤ Bo
  ltb : Bo < w.heap.size
  out : ∀ k, k < N → w.cell? ⟨Bo, k, none⟩ = some (.slice (some ⟨rb k, 0, none⟩) N N)
  row : ∀ k : Nat, k < N → RowC w (rb k) ((rg N).map (R k))
  ne : ∀ k, k < N → rb k ≠ Bo
  lor : ∀ k, k < N → lo ≤ rb k
  inj : ∀ j k, j < N → k < N → rb j = rb k → j = k
def setR (R : Int → Int → Int) (u v x : Int) : Int → Int → Int := fun a b => if a = u ∧ b = v then x else R a b
section
variable {w w' : World} {lo Bo N : Nat} {rb : Nat → Nat} {R R' : Int → Int → Int}
theorem Mat.keep (h : Mat w lo Bo rb N R) (hb : w'.heap[Bo]? = w.heap[Bo]?) (hr : ∀ k, k < N → w'.heap[rb k]? = w.heap[rb k]?) (hs : w.heap.size ≤ w'.heap.size) : Mat w' lo Bo rb N R :=
  ⟨h.lob, by have := h.ltb; omega, fun k hk => (World.cell?_of_block (w := w) (a := ⟨Bo, k, none⟩) hb).trans (h.out k hk), fun k hk => (h.row k hk).keep (hr k hk), h.ne, h.lor, h.inj⟩
theorem Mat.old (h : Mat w lo Bo rb N R) (hb : Below w.heap.size w w') : Mat w' lo Bo rb N R := h.keep (hb.block _ h.ltb) (fun k hk => hb.block _ (h.row k hk).lt) hb.size
theorem Mat.grown (h : Mat w lo Bo rb N R) {row : Option Nat} (hg : w.grownBy w' row) (hn : some Bo ≠ row) (hr : ∀ k, k < N → some (rb k) ≠ row) : Mat w' lo Bo rb N R :=
  h.keep (hg.block _ h.ltb hn) (fun k hk => hg.block _ (h.row k hk).lt (hr k hk)) hg.size
theorem Mat.alloc (h : Mat w lo Bo rb N R) (o : Obj) : Mat (w.alloc o) lo Bo rb N R := h.old ((Below.refl _ w).alloc (Nat.le_refl _) o)
theorem Mat.drew (h : Mat w lo Bo rb N R) : Mat w.drew lo Bo rb N R := h.old (Below.refl _ w).drew
theorem rg_at {N k : Nat} (h : k < N) : (rg N)[k]'(by rw [rg_length]; exact h) = (k : Int) := by simp [rg]
theorem Mat.at_ (h : Mat w lo Bo rb N R) {u v : Nat} (hu : u < N) (hv : v < N) : w.cell? ⟨rb u, v, none⟩ = some (.int .i64 (R u v)) := by
  rw [(h.row u hu).cell (k := v) (by rw [List.length_map, rg_length]; exact hv), List.getElem_map, rg_at hv]
theorem Mat.frozen (h : Mat w lo Bo rb N R) {u : Nat} (hu : u < N) (v : Nat) : w.frozen? ⟨rb u, v, none⟩ = false := (h.row u hu).frozen v
theorem Mat.ltr (h : Mat w lo Bo rb N R) {u : Nat} (hu : u < N) : rb u < w.heap.size := (h.row u hu).lt
theorem row_set (R : Int → Int → Int) {N u v : Nat} (hv : v < N) (x : Int) : ((rg N).map (R u)).set v x = (rg N).map (setR R u v x u) := by
  refine List.ext_getElem (by simp) fun i h1 h2 => ?_
  rw [List.length_set, List.length_map, rg_length] at h1
  rw [List.getElem_set, List.getElem_map, List.getElem_map, rg_at h1]
  unfold setR
  by_cases e : v = i
  · subst e; simp
  · rw [if_neg e, if_neg (fun h => e (by omega))]
theorem Mat.set_ (h : Mat w lo Bo rb N R) {u v : Nat} (hu : u < N) (hv : v < N) (x : Int) : Mat (w.setCell ⟨rb u, v, none⟩ (.int .i64 x)) lo Bo rb N (setR R u v x) where
  lob := h.lob
  ltb := by have := h.ltb; simpa [World.setCell] using this
  out k hk := (World.cell?_of_block (w := w) (a := ⟨Bo, k, none⟩) (Below.heap_setCell w _ _ Bo (fun e => h.ne u hu e.symm))).trans (h.out k hk)
  row k hk := by
    by_cases e : k = u
    · subst e
      rw [← row_set R hv x]
      exact (h.row k hk).set_ (by rw [List.length_map, rg_length]; exact hv) x
    · have h1 := (h.row k hk).far (p := ⟨rb u, v, none⟩) (fun e2 => e (h.inj k u hk hu e2)) (.int .i64 x)
      have h2 : (rg N).map (setR R u v x k) = (rg N).map (R k) := List.map_congr_left fun b _ => by
        unfold setR
        rw [if_neg (fun h3 => e (by omega))]
      rw [h2]; exact h1
  ne := h.ne
  lor := h.lor
  inj := h.inj
theorem Mat.congr (h : Mat w lo Bo rb N R) (hR : ∀ u v : Int, 0 ≤ u → u < N → 0 ≤ v → v < N → R u v = R' u v) : Mat w lo Bo rb N R' :=
  { h with
    row := fun k hk => by
      have h2 : (rg N).map (R k) = (rg N).map (R' k) := List.map_congr_left fun b hb => by
        have := mem_rg.1 hb
        exact hR k b (by omega) (by omega) this.1 this.2
      rw [← h2]; exact h.row k hk }
/-- a table's blocks alone are written -/
theorem Mat.lowSet (h : Mat w lo Bo rb N R) {B : Nat} {w0 : World} (hb : Below B w0 w) (hB : B ≤ lo) {u : Nat} (hu : u < N) (v : Nat) (x : Value) : Below B w0 (w.setCell ⟨rb u, v, none⟩ x) :=
  hb.setCell (p := ⟨rb u, v, none⟩) (by have := h.lor u hu; show B ≤ rb u; omega) x
end
theorem setR_push (R : Int → Int → Int) {u v : Int} (h : u ≠ v) (n : Int) : setR (setR R u v (R u v - n)) v u (R v u + n) = pushR R u v n := by
  funext a b
  unfold setR pushR updR
  by_cases h1 : a = v ∧ b = u
  · obtain ⟨rfl, rfl⟩ := h1
    rw [if_pos ⟨rfl, rfl⟩, if_neg (fun e => h e.2), if_pos ⟨rfl, rfl⟩]; omega
  · rw [if_neg h1, if_neg h1]
    by_cases h2 : a = u ∧ b = v
    · obtain ⟨rfl, rfl⟩ := h2
      rw [if_pos ⟨rfl, rfl⟩, if_pos ⟨rfl, rfl⟩]; omega
    · rw [if_neg h2, if_neg h2]; omega
theorem capE_set {E : List (Int × Int × Int)} {u v : Int} (h : ∀ e ∈ E, ¬ (e.1 = u ∧ e.2.1 = v)) (g : Int) : setR (capE E) u v g = capE (E ++ [(u, v, g)]) := by
  have h0 : capE E u v = 0 := by
    unfold capE
    rw [sm_congr (g := fun _ => 0) (fun e he => if_neg (h e he)), sm_zero]
  funext a b
  unfold setR
  have h1 : capE (E ++ [(u, v, g)]) a b = capE E a b + (if u = a ∧ v = b then g else 0) := by
    unfold capE
    rw [sm_append]; simp [sm]
  rw [h1]
  by_cases e : a = u ∧ b = v
  · obtain ⟨rfl, rfl⟩ := e
    rw [if_pos ⟨rfl, rfl⟩, if_pos ⟨rfl, rfl⟩, h0]; omega
  · rw [if_neg e, if_neg (fun h2 => e ⟨h2.1.symm, h2.2.symm⟩)]; omega

/-- what a push answers: n of the goods have come through, and what is left of the room -/
structure QPush (N : Nat) (R R' : Int → Int → Int) (n : Int) : Prop where
  n0 : 0 ≤ n
  no : n = 0 → R' = R ∧ ∃ B : Int → Bool, B 0 = false ∧ B ((N - 1 : Nat) : Int) = true ∧ ∀ u ∈ rg N, ∀ v ∈ rg N, B u = false → B v = true → R u v = 0
  yes : 0 < n → ∀ cap D, ResD (rg N) cap R D → ResD (rg N) cap R' (pushD D 0 ((N - 1 : Nat) : Int) n)
theorem flow_rev {R : Int → Int → Int} {N : Nat} {fr p : List Int} {z n : Int} (h : Way R N fr z p) (i : Nat) {j : Nat} (hij : i ≤ j) (hj : j + 1 < p.length) : flowR R p n i (at0 p j) (at0 p (j + 1 : Nat)) = R (at0 p j) (at0 p (j + 1 : Nat)) := by
  induction i with
  | zero => rfl
  | succ i ih =>
    unfold flowR
    have e1 : at0 p (j + 1 : Nat) = p[j + 1] := at0_get hj
    have e2 : at0 p j = p[j] := at0_get (by omega)
    have e3 : at0 p (i + 1 : Nat) = p[i + 1]'(by omega) := at0_get (by omega)
    have e4 : at0 p i = p[i]'(by omega) := at0_get (by omega)
    have n1 : ¬ (at0 p j = at0 p (i + 1 : Nat) ∧ at0 p (j + 1 : Nat) = at0 p i) := fun hh => by
      rw [e1, e4] at hh
      have := (List.getElem_inj h.nd).1 hh.2
      omega
    have n2 : ¬ (at0 p j = at0 p i ∧ at0 p (j + 1 : Nat) = at0 p (i + 1 : Nat)) := fun hh => by
      rw [e2, e4] at hh
      have := (List.getElem_inj h.nd).1 hh.1
      omega
    unfold pushR updR
    rw [if_neg n1, if_neg n2, ih (by omega)]
    omega
/-- the place of a number in a list -/
def posOf (p : List Int) (x : Int) : Nat := (p.takeWhile fun y => !decide (y = x)).length
theorem posOf_get {p : List Int} (hn : p.Nodup) {j : Nat} (hj : j < p.length) : posOf p p[j] = j := by
  unfold posOf
  induction p generalizing j with
  | nil => simp at hj
  | cons y p ih =>
    rw [List.nodup_cons] at hn
    cases j with
    | zero => simp
    | succ j =>
      have hj' : j < p.length := by simpa using hj
      have hne : y ≠ p[j] := fun e => hn.1 (by rw [e]; exact List.getElem_mem hj')
      simp only [List.getElem_cons_succ]
      rw [List.takeWhile_cons, if_pos (by simp [hne]), List.length_cons, ih hn.2 hj']
theorem posOf_le (p : List Int) (x : Int) : posOf p x ≤ p.length := by
  unfold posOf; exact (List.takeWhile_sublist _).length_le
/-- the least room on the first steps of a way -/
def leastW (R : Int → Int → Int) (p : List Int) : Nat → Int
  | 0 => R (at0 p 1) (at0 p 0)
  | i + 1 => min (leastW R p i) (R (at0 p (i + 1 : Nat)) (at0 p i))
theorem leastW_le {R : Int → Int → Int} {p : List Int} (i : Nat) {j : Nat} (h : j < i) : leastW R p i ≤ R (at0 p (j + 1 : Nat)) (at0 p j) := by
  induction i with
  | zero => omega
  | succ i ih =>
    unfold leastW
    by_cases e : j = i
    · subst e; omega
    · have := ih (by omega); omega
theorem leastW_pos {R : Int → Int → Int} {N : Nat} {fr p : List Int} {z : Int} (h : Way R N fr z p) (h1 : 1 < p.length) (i : Nat) (hi : i < p.length) : 0 < leastW R p i := by
  have key : ∀ j, j + 1 < p.length → 0 < R (at0 p (j + 1 : Nat)) (at0 p j) := fun j hj => by
    have := (h.nx j hj).2.2
    rw [at0_get hj, at0_get (show j < p.length by omega)]; exact this
  induction i with
  | zero => exact key 0 (by omega)
  | succ i ih =>
    unfold leastW
    have := ih (by omega)
    have := key i hi
    omega
end Go.Proofs.Ytkphgdkjjklajaa
