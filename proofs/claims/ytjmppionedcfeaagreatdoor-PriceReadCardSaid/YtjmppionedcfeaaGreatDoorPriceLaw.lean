/-
  The day's price in plain words: what the program finds is what the reference finds.
-/
import Derived.Test.YtjmppionedcfeaaGreatDoorPrice
set_option linter.unusedVariables false
set_option linter.unusedSimpArgs false
namespace Go.Proofs.YtjmppionedcfeaaGreatDoor
open Go.RowKit

/-- the sum of f over what q is true of -/
def wsum (q : Sale → Bool) (f : Sale → Int) : List Sale → Int
  | [] => 0
  | s :: r => (if q s then f s else 0) + wsum q f r
theorem wsum_append (q : Sale → Bool) (f : Sale → Int) (l r : List Sale) : wsum q f (l ++ r) = wsum q f l + wsum q f r := by
  induction l with
  | nil => simp [wsum]
  | cons s l ih => simp only [List.cons_append, wsum, ih]; omega
theorem wsum_snoc (q : Sale → Bool) (f : Sale → Int) (l : List Sale) (s : Sale) : wsum q f (l ++ [s]) = wsum q f l + (if q s then f s else 0) := by
  rw [wsum_append]; simp [wsum]
theorem wsum_congr {q q' : Sale → Bool} {f f' : Sale → Int} {l : List Sale} (h : ∀ s ∈ l, (if q s then f s else 0) = (if q' s then f' s else 0)) : wsum q f l = wsum q' f' l := by
  induction l with
  | nil => rfl
  | cons s r ih =>
    simp only [wsum]
    rw [h s List.mem_cons_self, ih (fun s hs => h s (List.mem_cons_of_mem _ hs))]
theorem wsum_le {q q' : Sale → Bool} {f f' : Sale → Int} {l : List Sale} (h : ∀ s ∈ l, (if q s then f s else 0) ≤ (if q' s then f' s else 0)) : wsum q f l ≤ wsum q' f' l := by
  induction l with
  | nil => exact Int.le_refl _
  | cons s r ih =>
    simp only [wsum]
    have := h s List.mem_cons_self
    have := ih (fun s hs => h s (List.mem_cons_of_mem _ hs))
    omega
theorem wsum_zero {q : Sale → Bool} {f : Sale → Int} {l : List Sale} (h : ∀ s ∈ l, q s = true → f s = 0) : wsum q f l = 0 := by
  induction l with
  | nil => rfl
  | cons s r ih =>
    simp only [wsum]
    rw [ih (fun s hs => h s (List.mem_cons_of_mem _ hs))]
    cases hq : q s
    · simp
    · simp [h s List.mem_cons_self hq]
theorem wsum_nonneg {q : Sale → Bool} {f : Sale → Int} {l : List Sale} (h : ∀ s ∈ l, q s = true → 0 ≤ f s) : 0 ≤ wsum q f l := by
  induction l with
  | nil => exact Int.le_refl _
  | cons s r ih =>
    simp only [wsum]
    have := ih (fun s hs => h s (List.mem_cons_of_mem _ hs))
    have := h s List.mem_cons_self
    split <;> rename_i hq
    · have := this hq; omega
    · omega
theorem wsum_bd {q : Sale → Bool} {f : Sale → Int} {l : List Sale} {m : Int} (h : ∀ s ∈ l, 0 ≤ f s ∧ f s ≤ m) (hm : 0 ≤ m) : 0 ≤ wsum q f l ∧ wsum q f l ≤ l.length * m := by
  induction l with
  | nil => simp [wsum]
  | cons s r ih =>
    simp only [wsum, List.length_cons]
    have h1 := ih (fun s hs => h s (List.mem_cons_of_mem _ hs))
    have h2 := h s List.mem_cons_self
    have h3 : ((r.length + 1 : Nat) : Int) * m = (r.length : Int) * m + m := by push_cast; rw [Int.add_mul, Int.one_mul]
    rw [h3]
    split <;> omega
theorem wsum_pos {q : Sale → Bool} {f : Sale → Int} {l : List Sale} (h : ∀ s ∈ l, q s = true → 0 ≤ f s) {s : Sale} (hs : s ∈ l) (hq : q s = true) (hf : 0 < f s) : 0 < wsum q f l := by
  induction l with
  | nil => cases hs
  | cons x r ih =>
    simp only [wsum]
    rcases List.mem_cons.1 hs with rfl | hs
    · have := wsum_nonneg (fun s hs => h s (List.mem_cons_of_mem _ hs)) (q := q) (f := f) (l := r)
      rw [hq]
      simp only [if_true]
      omega
    · have := ih (fun s hs => h s (List.mem_cons_of_mem _ hs)) hs
      have := h x List.mem_cons_self
      split <;> rename_i hq'
      · have := this hq'; omega
      · omega

/-- sales of a good, each within its bounds -/
structure GoodIn (g : List Sale) : Prop where
  len : g.length ≤ 40
  gl0 : ∀ s ∈ g, 0 ≤ s.gl
  gl1 : ∀ s ∈ g, s.gl ≤ s.gh
  gh1 : ∀ s ∈ g, s.gh ≤ 100000
  cl0 : ∀ s ∈ g, 0 ≤ s.cl
  cl1 : ∀ s ∈ g, s.cl ≤ s.ch
  ch1 : ∀ s ∈ g, s.ch ≤ 100000
theorem ofGood_sub (good : Int) (l : List Sale) : ∀ s ∈ ofGood good l, s ∈ l ∧ s.gd = good := by
  intro s hs
  unfold ofGood at hs
  simpa using hs
theorem BookIn.good {st gd : Int} {l : List Sale} (h : BookIn st gd l) (good : Int) : GoodIn (ofGood good l) := by
  have k : ∀ s ∈ ofGood good l, SaleIn st gd s := fun s hs => h.sales s (ofGood_sub good l s hs).1
  exact ⟨by have := ofGood_le good l; have := h.len; omega, fun s hs => (k s hs).gl0, fun s hs => (k s hs).gl1, fun s hs => (k s hs).gh1, fun s hs => (k s hs).cl0, fun s hs => (k s hs).cl1, fun s hs => (k s hs).ch1⟩
theorem GoodIn.tail {s : Sale} {g : List Sale} (h : GoodIn (s :: g)) : GoodIn g :=
  ⟨by have := h.len; simp at this; omega, fun x hx => h.gl0 x (List.mem_cons_of_mem _ hx), fun x hx => h.gl1 x (List.mem_cons_of_mem _ hx), fun x hx => h.gh1 x (List.mem_cons_of_mem _ hx), fun x hx => h.cl0 x (List.mem_cons_of_mem _ hx), fun x hx => h.cl1 x (List.mem_cons_of_mem _ hx), fun x hx => h.ch1 x (List.mem_cons_of_mem _ hx)⟩

def allQ : Sale → Bool := fun _ => true
def leQ (c : Sale → Int) (p : Int) : Sale → Bool := fun s => decide (c s ≤ p)
def gtQ (c : Sale → Int) (p : Int) : Sale → Bool := fun s => decide (p < c s)

theorem sumLo_eq {g : List Sale} (h : GoodIn g) : sumLo g = wsum allQ (·.gl) g := by
  have k : ∀ (g : List Sale) (a : Int), (∀ s ∈ g, 0 ≤ s.gl ∧ s.gl ≤ 100000) → 0 ≤ a → a + 100000 * g.length ≤ 1000000000 → g.foldl (fun a s => IntKind.i64.wrap (a + s.gl)) a = a + wsum allQ (·.gl) g := by
    intro g
    induction g with
    | nil => intro a _ _ _; simp [wsum]
    | cons s r ih =>
      intro a hs h0 h1
      have h2 := hs s List.mem_cons_self
      simp only [List.length_cons] at h1
      simp only [List.foldl_cons, wsum, show allQ s = true from rfl, if_true]
      rw [IntWalk.i64_in _ (by omega), ih _ (fun s hs' => hs s (List.mem_cons_of_mem _ hs')) (by omega) (by omega)]
      omega
  have := k g 0 (fun s hs => ⟨h.gl0 s hs, by have := h.gl1 s hs; have := h.gh1 s hs; omega⟩) (by omega) (by have := h.len; omega)
  simpa [sumLo] using this
theorem sumHi_eq {g : List Sale} (h : GoodIn g) : sumHi g = wsum allQ (·.gh) g := by
  have k : ∀ (g : List Sale) (a : Int), (∀ s ∈ g, 0 ≤ s.gh ∧ s.gh ≤ 100000) → 0 ≤ a → a + 100000 * g.length ≤ 1000000000 → g.foldl (fun a s => IntKind.i64.wrap (a + s.gh)) a = a + wsum allQ (·.gh) g := by
    intro g
    induction g with
    | nil => intro a _ _ _; simp [wsum]
    | cons s r ih =>
      intro a hs h0 h1
      have h2 := hs s List.mem_cons_self
      simp only [List.length_cons] at h1
      simp only [List.foldl_cons, wsum, show allQ s = true from rfl, if_true]
      rw [IntWalk.i64_in _ (by omega), ih _ (fun s hs' => hs s (List.mem_cons_of_mem _ hs')) (by omega) (by omega)]
      omega
  have := k g 0 (fun s hs => ⟨by have := h.gl1 s hs; have := h.gl0 s hs; omega, h.gh1 s hs⟩) (by omega) (by have := h.len; omega)
  simpa [sumHi] using this
theorem fst_bd {g : List Sale} (h : GoodIn g) (d : Bool) : ∀ s ∈ g, 0 ≤ fstOf d s ∧ fstOf d s ≤ 100000 := by
  intro s hs
  have h1 := h.gl0 s hs
  have h2 := h.gl1 s hs
  have h3 := h.gh1 s hs
  cases d <;> simp [fstOf] <;> omega
theorem rst_bd {g : List Sale} (h : GoodIn g) (d : Bool) : ∀ s ∈ g, 0 ≤ rstOf d s ∧ rstOf d s ≤ 100000 := by
  intro s hs
  have h1 := h.gl0 s hs
  have h2 := h.gl1 s hs
  have h3 := h.gh1 s hs
  cases d <;> simp [rstOf] <;> omega
theorem tipSum_eq {g : List Sale} (h : GoodIn g) (d : Bool) (p : Int) : tipSum d p g = (wsum (leQ (ctsOf d) p) (fstOf d) g, wsum (gtQ (ctsOf d) p) (rstOf d) g) := by
  have k : ∀ (g : List Sale) (a b : Int), (∀ s ∈ g, 0 ≤ fstOf d s ∧ fstOf d s ≤ 100000) → (∀ s ∈ g, 0 ≤ rstOf d s ∧ rstOf d s ≤ 100000) → 0 ≤ a → a + 100000 * g.length ≤ 1000000000 → 0 ≤ b → b + 100000 * g.length ≤ 1000000000 →
      g.foldl (tipStep d p) (a, b) = (a + wsum (leQ (ctsOf d) p) (fstOf d) g, b + wsum (gtQ (ctsOf d) p) (rstOf d) g) := by
    intro g
    induction g with
    | nil => intro a b _ _ _ _ _ _; simp [wsum]
    | cons s r ih =>
      intro a b hs hs' h0 h1 h2 h3
      have h4 := hs s List.mem_cons_self
      have h5 := hs' s List.mem_cons_self
      simp only [List.length_cons] at h1 h3
      simp only [List.foldl_cons, wsum, tipStep, leQ, gtQ]
      by_cases hc : ctsOf d s ≤ p
      · rw [if_pos hc, IntWalk.i64_in _ (by omega), ih _ _ (fun s hs'' => hs s (List.mem_cons_of_mem _ hs'')) (fun s hs'' => hs' s (List.mem_cons_of_mem _ hs'')) (by omega) (by omega) (by omega) (by omega)]
        have : ¬ p < ctsOf d s := by omega
        simp [hc, this, leQ, gtQ]
        omega
      · rw [if_neg hc, IntWalk.i64_in _ (by omega), ih _ _ (fun s hs'' => hs s (List.mem_cons_of_mem _ hs'')) (fun s hs'' => hs' s (List.mem_cons_of_mem _ hs'')) (by omega) (by omega) (by omega) (by omega)]
        have : p < ctsOf d s := by omega
        simp [hc, this, leQ, gtQ]
        omega
  have hl := h.len
  have := k g 0 0 (fst_bd h d) (rst_bd h d) (by omega) (by omega) (by omega) (by omega)
  simpa [tipSum] using this

/-! the reference -/
def lowQ (g : List Sale) (p : Int) : Bool := decide (0 < wsum (leQ (·.cl) p) (·.gh) g) && decide (wsum (gtQ (·.cl) p) (·.gl) g ≤ wsum (leQ (·.cl) p) (·.gh) g)
def highQ (g : List Sale) (p : Int) : Bool := decide (wsum (leQ (·.ch) p) (·.gl) g < wsum (gtQ (·.ch) p) (·.gh) g)
def minBy (q : Sale → Bool) (c : Sale → Int) (m : Int) (g : List Sale) : Int := g.foldl (fun o s => if q s then min o (c s) else o) m
theorem minBy_snoc (q : Sale → Bool) (c : Sale → Int) (m : Int) (g : List Sale) (s : Sale) : minBy q c m (g ++ [s]) = if q s then min (minBy q c m g) (c s) else minBy q c m g := by simp [minBy]
theorem minBy_spec (q : Sale → Bool) (c : Sale → Int) (m : Int) (g : List Sale) : minBy q c m g ≤ m ∧ (∀ s ∈ g, q s = true → minBy q c m g ≤ c s) ∧ (minBy q c m g = m ∨ ∃ s ∈ g, q s = true ∧ c s = minBy q c m g) := by
  unfold minBy
  induction g generalizing m with
  | nil => exact ⟨Int.le_refl _, by simp, .inl rfl⟩
  | cons x r ih =>
    simp only [List.foldl_cons]
    cases hq : q x
    · simp only [Bool.false_eq_true, if_false]
      obtain ⟨h1, h2, h3⟩ := ih m
      refine ⟨h1, ?_, ?_⟩
      · intro s hs hqs
        rcases List.mem_cons.1 hs with rfl | hs
        · rw [hq] at hqs; cases hqs
        · exact h2 s hs hqs
      · rcases h3 with h3 | ⟨s, hs, h3, h4⟩
        · exact .inl h3
        · exact .inr ⟨s, List.mem_cons_of_mem _ hs, h3, h4⟩
    · simp only [if_true]
      obtain ⟨h1, h2, h3⟩ := ih (min m (c x))
      have m1 : min m (c x) ≤ m := by omega
      have m2 : min m (c x) ≤ c x := by omega
      refine ⟨Int.le_trans h1 m1, ?_, ?_⟩
      · intro s hs hqs
        rcases List.mem_cons.1 hs with rfl | hs
        · exact Int.le_trans h1 m2
        · exact h2 s hs hqs
      · rcases h3 with h3 | ⟨s, hs, h3, h4⟩
        · by_cases hm : m ≤ c x
          · exact .inl (by rw [h3]; omega)
          · exact .inr ⟨x, List.mem_cons_self, hq, by rw [h3]; omega⟩
        · exact .inr ⟨s, List.mem_cons_of_mem _ hs, h3, h4⟩
theorem minBy_eq {q : Sale → Bool} {c : Sale → Int} {m L : Int} {g : List Sale} (h1 : L ≤ m) (h2 : ∀ s ∈ g, q s = true → L ≤ c s) (h3 : ∃ s ∈ g, q s = true ∧ c s = L) : minBy q c m g = L := by
  obtain ⟨k1, k2, k3⟩ := minBy_spec q c m g
  obtain ⟨s, hs, hq, rfl⟩ := h3
  have := k2 s hs hq
  rcases k3 with k3 | ⟨s', hs', hq', k3⟩
  · omega
  · have := h2 s' hs' hq'; omega

theorem leastOf_spec (q : Int → Bool) : ∀ (l : List Int), l.Pairwise (· ≤ ·) → l ≠ [] → (∀ m ∈ l, (∀ x ∈ l, x ≤ m) → q m = true) → leastOf q l ∈ l ∧ q (leastOf q l) = true ∧ ∀ x ∈ l, q x = true → leastOf q l ≤ x
  | [], _, h, _ => absurd rfl h
  | [x], _, _, hq => ⟨by simp [leastOf], hq x (by simp) (by simp), by simp [leastOf]⟩
  | x :: y :: r, hp, _, hq => by
    have hp' := List.pairwise_cons.1 hp
    have ih := leastOf_spec q (y :: r) hp'.2 (by simp) (fun m hm hx => hq m (List.mem_cons_of_mem _ hm) (fun z hz => by
      rcases List.mem_cons.1 hz with rfl | hz
      · exact hp'.1 m hm
      · exact hx z hz))
    simp only [leastOf]
    cases hqx : q x
    · simp only [Bool.false_eq_true, if_false]
      refine ⟨List.mem_cons_of_mem _ ih.1, ih.2.1, fun z hz hqz => ?_⟩
      rcases List.mem_cons.1 hz with rfl | hz
      · rw [hqx] at hqz; cases hqz
      · exact ih.2.2 z hz hqz
    · simp only [if_true]
      refine ⟨List.mem_cons_self, hqx, fun z hz _ => ?_⟩
      rcases List.mem_cons.1 hz with rfl | hz
      · exact Int.le_refl _
      · exact hp'.1 z hz
theorem srt_mem {l : List Int} {x : Int} : x ∈ srt l ↔ x ∈ l := by unfold srt; simp
theorem srt_pw (l : List Int) : (srt l).Pairwise (· ≤ ·) := by
  have := List.pairwise_mergeSort (le := fun x y : Int => decide (x ≤ y)) (by intro a b c; simp; omega) (by intro a b; simp; omega) l
  unfold srt
  exact this.imp (by simp)

/-- the largest of some numbers that are at most p -/
theorem max_below (l : List Int) (p : Int) (h : ∃ x ∈ l, x ≤ p) : ∃ x ∈ l, x ≤ p ∧ ∀ y ∈ l, y ≤ p → y ≤ x := by
  induction l with
  | nil => obtain ⟨x, hx, _⟩ := h; cases hx
  | cons a r ih =>
    by_cases hr : ∃ x ∈ r, x ≤ p
    · obtain ⟨x, hx, hxp, hm⟩ := ih hr
      by_cases ha : a ≤ p ∧ x < a
      · refine ⟨a, List.mem_cons_self, ha.1, fun y hy hyp => ?_⟩
        rcases List.mem_cons.1 hy with rfl | hy
        · exact Int.le_refl _
        · have := hm y hy hyp; omega
      · refine ⟨x, List.mem_cons_of_mem _ hx, hxp, fun y hy hyp => ?_⟩
        rcases List.mem_cons.1 hy with rfl | hy
        · omega
        · exact hm y hy hyp
    · obtain ⟨x, hx, hxp⟩ := h
      rcases List.mem_cons.1 hx with rfl | hx
      · refine ⟨x, List.mem_cons_self, hxp, fun y hy hyp => ?_⟩
        rcases List.mem_cons.1 hy with rfl | hy
        · exact Int.le_refl _
        · exact absurd ⟨y, hy, hyp⟩ hr
      · exact absurd ⟨x, hx, hxp⟩ hr

/-- the cents that count, of those that are of some grams -/
def ctsList (d : Bool) (g : List Sale) : List Int := (g.filter fun s => decide (0 < s.gh)).map (ctsOf d)
theorem mem_cts {d : Bool} {g : List Sale} {x : Int} : x ∈ ctsList d g ↔ ∃ s ∈ g, 0 < s.gh ∧ ctsOf d s = x := by
  unfold ctsList
  simp only [List.mem_map, List.mem_filter, decide_eq_true_eq, and_assoc]
theorem fst_zero {g : List Sale} (h : GoodIn g) (d : Bool) {s : Sale} (hs : s ∈ g) (h0 : ¬ 0 < s.gh) : fstOf d s = 0 ∧ rstOf d s = 0 := by
  have h1 := h.gl0 s hs
  have h2 := h.gl1 s hs
  cases d <;> simp [fstOf, rstOf] <;> omega
def tipT (d : Bool) (g : List Sale) (p : Int) : Prop := wsum (gtQ (ctsOf d) p) (rstOf d) g ≤ wsum (leQ (ctsOf d) p) (fstOf d) g
theorem tipQ_iff {g : List Sale} (h : GoodIn g) (d : Bool) (p : Int) : tipQ d g p = true ↔ tipT d g p := by
  unfold tipQ tipT
  rw [tipSum_eq h]
  simp
theorem tip_max {g : List Sale} (h : GoodIn g) (d : Bool) (m : Int) (hm : ∀ x ∈ ctsList d g, x ≤ m) : tipT d g m := by
  unfold tipT
  have h1 : wsum (gtQ (ctsOf d) m) (rstOf d) g = 0 := wsum_zero (fun s hs hq => by
    by_cases h0 : 0 < s.gh
    · have := hm _ (mem_cts.2 ⟨s, hs, h0, rfl⟩)
      simp [gtQ] at hq
      omega
    · exact (fst_zero h d hs h0).2)
  rw [h1]
  exact (wsum_bd (fst_bd h d) (by omega)).1
theorem tip_step {g : List Sale} (h : GoodIn g) (d : Bool) {p : Int} (hp : ∃ x ∈ ctsList d g, x ≤ p) (ht : tipT d g p) : ∃ x ∈ ctsList d g, x ≤ p ∧ tipT d g x := by
  obtain ⟨x, hx, hxp, hm⟩ := max_below _ p hp
  refine ⟨x, hx, hxp, ?_⟩
  unfold tipT at *
  have e1 : wsum (gtQ (ctsOf d) x) (rstOf d) g = wsum (gtQ (ctsOf d) p) (rstOf d) g := wsum_congr (fun s hs => by
    by_cases h0 : 0 < s.gh
    · have := hm (ctsOf d s) (mem_cts.2 ⟨s, hs, h0, rfl⟩)
      have e : gtQ (ctsOf d) x s = gtQ (ctsOf d) p s := by unfold gtQ; rw [decide_eq_decide]; omega
      rw [e]
    · rw [(fst_zero h d hs h0).2]; simp)
  have e2 : wsum (leQ (ctsOf d) x) (fstOf d) g = wsum (leQ (ctsOf d) p) (fstOf d) g := wsum_congr (fun s hs => by
    by_cases h0 : 0 < s.gh
    · have := hm (ctsOf d s) (mem_cts.2 ⟨s, hs, h0, rfl⟩)
      have e : leQ (ctsOf d) x s = leQ (ctsOf d) p s := by unfold leQ; rw [decide_eq_decide]; omega
      rw [e]
    · rw [(fst_zero h d hs h0).1]; simp)
  omega
/-- what the program finds: the least of the cents at which the scales tip -/
theorem least_spec {g : List Sale} (h : GoodIn g) (d : Bool) (hne : ctsList d g ≠ []) : leastOf (tipQ d g) (srt (ctsList d g)) ∈ ctsList d g ∧ tipT d g (leastOf (tipQ d g) (srt (ctsList d g))) ∧
    ∀ p, (∃ x ∈ ctsList d g, x ≤ p) → tipT d g p → leastOf (tipQ d g) (srt (ctsList d g)) ≤ p := by
  obtain ⟨h1, h2, h3⟩ := leastOf_spec (tipQ d g) (srt (ctsList d g)) (srt_pw _) (fun e => hne (by
    cases hc : ctsList d g with
    | nil => rfl
    | cons a r => have := srt_mem (l := ctsList d g) (x := a); rw [e, hc] at this; simp at this)) (fun m _ hx => (tipQ_iff h d m).2 (tip_max h d m (fun x hx' => hx x (srt_mem.2 hx'))))
  refine ⟨srt_mem.1 h1, (tipQ_iff h d _).1 h2, fun p hp ht => ?_⟩
  obtain ⟨x, hx, hxp, hxt⟩ := tip_step h d hp ht
  exact Int.le_trans (h3 x (srt_mem.2 hx) ((tipQ_iff h d x).2 hxt)) hxp

def refMid (g : List Sale) : Int × Int × Int :=
  if wsum allQ (·.gh) g = 0 then (2, 0, 0) else (if 0 < wsum allQ (·.gl) g then 1 else 3, minBy (fun s => lowQ g s.cl) (·.cl) 100000 g, minBy (fun s => !highQ g s.ch) (·.ch) 100000 g)
theorem cts_ne {g : List Sale} (h : GoodIn g) (d : Bool) (hg : wsum allQ (·.gh) g ≠ 0) : ctsList d g ≠ [] := by
  intro e
  refine hg (wsum_zero (fun s hs _ => ?_))
  have h1 := h.gl0 s hs
  have h2 := h.gl1 s hs
  by_cases h0 : 0 < s.gh
  · have := mem_cts (d := d).2 ⟨s, hs, h0, rfl⟩
    rw [e] at this
    cases this
  · omega
theorem gh0 {g : List Sale} (h : GoodIn g) : ∀ s ∈ g, 0 ≤ s.gh := fun s hs => by have := h.gl0 s hs; have := h.gl1 s hs; omega
theorem ref_lo {g : List Sale} (h : GoodIn g) (hg : wsum allQ (·.gh) g ≠ 0) : minBy (fun s => lowQ g s.cl) (·.cl) 100000 g = leastOf (tipQ false g) (srt (lowsOf g)) := by
  have e : lowsOf g = ctsList false g := rfl
  rw [e]
  obtain ⟨h1, h2, h3⟩ := least_spec h false (cts_ne h false hg)
  obtain ⟨s, hs, hs0, hsL⟩ := mem_cts.1 h1
  have hs1 : s.cl = leastOf (tipQ false g) (srt (ctsList false g)) := hsL
  refine minBy_eq ?_ ?_ ⟨s, hs, ?_, hs1⟩
  · have := h.cl1 s hs; have := h.ch1 s hs; omega
  · intro s' hs' hq
    simp only [lowQ, Bool.and_eq_true, decide_eq_true_eq] at hq
    refine h3 _ ?_ hq.2
    by_cases hx : ∃ x ∈ ctsList false g, x ≤ s'.cl
    · exact hx
    · have := wsum_zero (q := leQ (·.cl) s'.cl) (f := (·.gh)) (l := g) (fun z hz hzq => by
        simp [leQ] at hzq
        by_cases h0 : 0 < z.gh
        · exact absurd ⟨z.cl, mem_cts.2 ⟨z, hz, h0, rfl⟩, hzq⟩ hx
        · have := gh0 h z hz; omega)
      omega
  · rw [hs1]
    simp only [lowQ, Bool.and_eq_true, decide_eq_true_eq]
    refine ⟨wsum_pos (fun z hz _ => gh0 h z hz) hs ?_ hs0, h2⟩
    simp only [leQ, decide_eq_true_eq]
    omega
theorem ref_hi {g : List Sale} (h : GoodIn g) (hg : wsum allQ (·.gh) g ≠ 0) : minBy (fun s => !highQ g s.ch) (·.ch) 100000 g = leastOf (tipQ true g) (srt (highsOf g)) := by
  have e : highsOf g = ctsList true g := rfl
  rw [e]
  obtain ⟨h1, h2, h3⟩ := least_spec h true (cts_ne h true hg)
  obtain ⟨s, hs, hs0, hsL⟩ := mem_cts.1 h1
  have hs1 : s.ch = leastOf (tipQ true g) (srt (ctsList true g)) := hsL
  refine minBy_eq ?_ ?_ ⟨s, hs, ?_, hs1⟩
  · have := h.ch1 s hs; omega
  · intro s' hs' hq
    simp only [highQ, Bool.not_eq_true', decide_eq_false_iff_not, Int.not_lt] at hq
    refine h3 _ ?_ hq
    by_cases hx : ∃ x ∈ ctsList true g, x ≤ s'.ch
    · exact hx
    · exfalso
      have e1 := wsum_zero (q := leQ (·.ch) s'.ch) (f := (·.gl)) (l := g) (fun z hz hzq => by
        simp [leQ] at hzq
        by_cases h0 : 0 < z.gh
        · exact absurd ⟨z.ch, mem_cts.2 ⟨z, hz, h0, rfl⟩, hzq⟩ hx
        · have := h.gl0 z hz; have := h.gl1 z hz; omega)
      have e2 : wsum (gtQ (·.ch) s'.ch) (·.gh) g = wsum allQ (·.gh) g := wsum_congr (fun z hz => by
        by_cases h0 : 0 < z.gh
        · have hn : ¬ z.ch ≤ s'.ch := fun hh => hx ⟨z.ch, mem_cts.2 ⟨z, hz, h0, rfl⟩, hh⟩
          have : gtQ (·.ch) s'.ch z = true := by simp [gtQ]; omega
          rw [this]; rfl
        · have : z.gh = 0 := by have := gh0 h z hz; omega
          rw [this]; simp)
      have e3 := (wsum_bd (q := allQ) (f := (·.gh)) (l := g) (m := 100000) (fun z hz => ⟨gh0 h z hz, h.gh1 z hz⟩) (by omega)).1
      omega
  · rw [hs1]
    have h2' : wsum (gtQ (·.ch) (leastOf (tipQ true g) (srt (ctsList true g)))) (·.gh) g ≤ wsum (leQ (·.ch) (leastOf (tipQ true g) (srt (ctsList true g)))) (·.gl) g := h2
    simp only [highQ, Bool.not_eq_true', decide_eq_false_iff_not, Int.not_lt]
    exact h2'
theorem refMid_eq {g : List Sale} (h : GoodIn g) : refMid g = priceMid g := by
  unfold refMid priceMid
  rw [sumHi_eq h, sumLo_eq h]
  by_cases hg : wsum allQ (·.gh) g = 0
  · rw [if_pos hg, if_pos hg]
  · rw [if_neg hg, if_neg hg, ref_lo h hg, ref_hi h hg]
end Go.Proofs.YtjmppionedcfeaaGreatDoor
