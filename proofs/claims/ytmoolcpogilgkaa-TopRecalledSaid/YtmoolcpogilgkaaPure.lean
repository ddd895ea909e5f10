/-
  Plain words: what sales, steps, finds are, and what the functions compute.
-/
import Derived.Test.YtmoolcpogilgkaaBase
set_option linter.unusedVariables false
set_option linter.unusedSimpArgs false
namespace Go.Proofs.Ytmoolcpogilgkaa

structure Sale where
  st : Int
  gd : Int
  gl : Int
  gh : Int
  cl : Int
  ch : Int
  deriving DecidableEq, Inhabited

structure Span where
  lo : Int
  hi : Int
  deriving DecidableEq, Inhabited

structure Step where
  fr : Int
  sh : Int
  deriving DecidableEq, Inhabited

structure Found where
  sa : Int
  gr : Int
  ce : Int
  deriving DecidableEq, Inhabited

structure Sold where
  gr : Int
  ce : Int
  deriving DecidableEq, Inhabited

/-- a sale as BookOf makes it -/
structure SaleOk (st gd : Int) (s : Sale) : Prop where
  st0 : 0 ≤ s.st
  st1 : s.st < st
  gd0 : 0 ≤ s.gd
  gd1 : s.gd < gd
  gl0 : 0 ≤ s.gl
  gl1 : s.gl ≤ s.gh
  gh1 : s.gh ≤ 5000
  cl0 : 0 ≤ s.cl
  cl1 : s.cl ≤ s.ch
  ch1 : s.ch ≤ 2000


def inB (n lo hi : Int) : Bool := decide (lo ≤ n) && decide (n ≤ hi)
def chkSpan (lo hi most : Int) : Int := if !inB lo 0 most || !inB hi 0 most then 1 else if hi < lo then 5 else 0
def chkSale (st gd : Int) (s : Sale) : Int :=
  if !inB s.st 0 (st - 1) || !inB s.gd 0 (gd - 1) then 3
  else if chkSpan s.gl s.gh 100000 != 0 then chkSpan s.gl s.gh 100000
  else chkSpan s.cl s.ch 100000
def chkSales (st gd : Int) : List Sale → Int
  | [] => 0
  | s :: r => if chkSale st gd s != 0 then chkSale st gd s else chkSales st gd r
def check (st gd : Int) (l : List Sale) : Int :=
  if !inB st 1 8 || !inB gd 1 8 then 1 else if 40 < l.length then 6 else chkSales st gd l

/-- what a book that passes the check is -/
structure SaleIn (st gd : Int) (s : Sale) : Prop where
  st0 : 0 ≤ s.st
  st1 : s.st < st
  gd0 : 0 ≤ s.gd
  gd1 : s.gd < gd
  gl0 : 0 ≤ s.gl
  gl1 : s.gl ≤ s.gh
  gh1 : s.gh ≤ 100000
  cl0 : 0 ≤ s.cl
  cl1 : s.cl ≤ s.ch
  ch1 : s.ch ≤ 100000
structure BookIn (st gd : Int) (l : List Sale) : Prop where
  st0 : 1 ≤ st
  st1 : st ≤ 8
  gd0 : 1 ≤ gd
  gd1 : gd ≤ 8
  len : l.length ≤ 40
  sales : ∀ s ∈ l, SaleIn st gd s

theorem inB_iff {n lo hi : Int} : inB n lo hi = true ↔ lo ≤ n ∧ n ≤ hi := by simp [inB]
theorem chkSpan_zero {lo hi most : Int} : chkSpan lo hi most = 0 ↔ 0 ≤ lo ∧ lo ≤ hi ∧ hi ≤ most := by
  unfold chkSpan
  cases h1 : inB lo 0 most <;> cases h2 : inB hi 0 most <;> simp [inB] at h1 h2 ⊢
  · omega
  · omega
  · omega
  · omega
theorem chkSale_zero {st gd : Int} {s : Sale} : chkSale st gd s = 0 ↔ SaleIn st gd s := by
  unfold chkSale
  constructor
  · intro h
    by_cases h1 : (!inB s.st 0 (st - 1) || !inB s.gd 0 (gd - 1)) = true
    · rw [if_pos h1] at h; cases h
    · rw [if_neg h1] at h
      simp [inB] at h1
      by_cases h2 : (chkSpan s.gl s.gh 100000 != 0) = true
      · rw [if_pos h2] at h
        simp at h2
        exact absurd h h2
      · rw [if_neg h2] at h
        have h3 : chkSpan s.gl s.gh 100000 = 0 := by simpa using h2
        obtain ⟨a, b, c⟩ := chkSpan_zero.1 h3
        obtain ⟨d, e, f⟩ := chkSpan_zero.1 h
        exact ⟨by omega, by omega, by omega, by omega, a, b, c, d, e, f⟩
  · intro h
    have h1 : inB s.st 0 (st - 1) = true := inB_iff.2 ⟨h.st0, by have := h.st1; omega⟩
    have h2 : inB s.gd 0 (gd - 1) = true := inB_iff.2 ⟨h.gd0, by have := h.gd1; omega⟩
    have h3 : chkSpan s.gl s.gh 100000 = 0 := chkSpan_zero.2 ⟨h.gl0, h.gl1, h.gh1⟩
    have h4 : chkSpan s.cl s.ch 100000 = 0 := chkSpan_zero.2 ⟨h.cl0, h.cl1, h.ch1⟩
    simp [h1, h2, h3, h4]
theorem chkSales_zero {st gd : Int} {l : List Sale} : chkSales st gd l = 0 ↔ ∀ s ∈ l, SaleIn st gd s := by
  induction l with
  | nil => simp [chkSales]
  | cons s r ih =>
    simp only [chkSales, List.mem_cons, forall_eq_or_imp]
    by_cases h : chkSale st gd s = 0
    · simp [h, ih, chkSale_zero.1 h]
    · have h2 : ¬ SaleIn st gd s := fun hh => h (chkSale_zero.2 hh)
      simp [h, h2]
theorem check_zero {st gd : Int} {l : List Sale} : check st gd l = 0 ↔ BookIn st gd l := by
  unfold check
  constructor
  · intro h
    by_cases h1 : (!inB st 1 8 || !inB gd 1 8) = true
    · rw [if_pos h1] at h; cases h
    · rw [if_neg h1] at h
      simp [inB] at h1
      by_cases h2 : 40 < l.length
      · rw [if_pos h2] at h; cases h
      · rw [if_neg h2] at h
        exact ⟨by omega, by omega, by omega, by omega, by omega, chkSales_zero.1 h⟩
  · intro h
    have h1 : inB st 1 8 = true := inB_iff.2 ⟨h.st0, h.st1⟩
    have h2 : inB gd 1 8 = true := inB_iff.2 ⟨h.gd0, h.gd1⟩
    have h3 : ¬ 40 < l.length := by have := h.len; omega
    simp [h1, h2, h3, chkSales_zero.2 h.sales]
theorem chkSales_drop {st gd : Int} {l : List Sale} {k : Nat} (hk : k < l.length) : chkSales st gd (l.drop k) = if chkSale st gd l[k] != 0 then chkSale st gd l[k] else chkSales st gd (l.drop (k + 1)) := by
  rw [List.drop_eq_getElem_cons hk]; rfl


def press (s : Int) (l : List Int) : Int := l.foldl (fun s n => (s * 31 + n) % 9973) s
def nums (s : Sale) : List Int := [s.st, s.gd, s.gl, s.gh, s.cl, s.ch]
def sealOf (st gd : Int) (l : List Sale) : Int := press 7 ([st, gd] ++ l.flatMap nums)
theorem press_bd {s : Int} (h0 : 0 ≤ s) (h1 : s ≤ 9972) (l : List Int) : 0 ≤ press s l ∧ press s l ≤ 9972 := by
  unfold press
  induction l generalizing s with
  | nil => exact ⟨h0, h1⟩
  | cons x r ih =>
    have h2 := Int.emod_nonneg (s * 31 + x) (show (9973 : Int) ≠ 0 by decide)
    have h3 := Int.emod_lt_of_pos (s * 31 + x) (show (0 : Int) < 9973 by decide)
    simp only [List.foldl_cons]
    exact ih h2 (by omega)
theorem press_append (s : Int) (l r : List Int) : press s (l ++ r) = press (press s l) r := by simp [press]
theorem press_snoc (s : Int) (l : List Int) (x : Int) : press s (l ++ [x]) = (press s l * 31 + x) % 9973 := by simp [press]
theorem take_snoc {α : Type} (l : List α) (k : Nat) (h : k < l.length) : l.take (k + 1) = l.take k ++ [l[k]] := by
  rw [List.take_succ_eq_append_getElem h]
theorem SaleIn.nums_bd {st gd : Int} {s : Sale} (h : SaleIn st gd s) (h8 : st ≤ 8) (h9 : gd ≤ 8) : ∀ x ∈ nums s, 0 ≤ x ∧ x ≤ 100000 := by
  obtain ⟨a, b, c, d, e, f, g, i, j, k⟩ := h
  simp only [nums, List.mem_cons, List.not_mem_nil, or_false]
  rintro x (rfl | rfl | rfl | rfl | rfl | rfl) <;> omega


/-- the error of steps, behind one that begins at p -/
def stepsFrom : Option Int → List Step → Int
  | _, [] => 0
  | p, s :: r => if !inB s.fr 0 1000000000 || !inB s.sh 0 1000 then 1 else match p with
    | none => if s.fr != 0 then 2 else stepsFrom (some s.fr) r
    | some q => if s.fr ≤ q then 5 else stepsFrom (some s.fr) r
def chkSteps (l : List Step) : Int := if l.length = 0 then 7 else if 5 < l.length then 6 else stepsFrom none l
def prevFr (l : List Step) (k : Nat) : Option Int := if k = 0 then none else (l[k - 1]?).map (·.fr)
theorem stepsFrom_drop {l : List Step} {k : Nat} (hk : k < l.length) (p : Option Int) :
    stepsFrom p (l.drop k) = if !inB l[k].fr 0 1000000000 || !inB l[k].sh 0 1000 then 1 else match p with
      | none => if l[k].fr != 0 then 2 else stepsFrom (some l[k].fr) (l.drop (k + 1))
      | some q => if l[k].fr ≤ q then 5 else stepsFrom (some l[k].fr) (l.drop (k + 1)) := by
  rw [List.drop_eq_getElem_cons hk]; rfl
theorem prevFr_succ {l : List Step} {k : Nat} (hk : k < l.length) : prevFr l (k + 1) = some l[k].fr := by simp [prevFr, hk]


def duesFrom (t : Int) : List Step → Int
  | [] => 0
  | s :: r => max 0 ((match r with | [] => t | s' :: _ => min t s'.fr) - s.fr) * s.sh + duesFrom t r
def dues (l : List Step) (t : Int) : Int := duesFrom t l / 1000

/-- valid steps -/
structure StepsIn (l : List Step) : Prop where
  ne : l ≠ []
  len : l.length ≤ 5
  fr0 : ∀ s ∈ l, 0 ≤ s.fr
  fr1 : ∀ s ∈ l, s.fr ≤ 1000000000
  sh0 : ∀ s ∈ l, 0 ≤ s.sh
  sh1 : ∀ s ∈ l, s.sh ≤ 1000
  hd : ∀ s, l[0]? = some s → s.fr = 0
  up : ∀ k (h : k + 1 < l.length), l[k].fr < l[k + 1].fr

theorem duesFrom_last (t : Int) {l : List Step} {k : Nat} (hk : k < l.length) (hl : ¬ k + 1 < l.length) : duesFrom t (l.drop k) = max 0 (t - l[k].fr) * l[k].sh + duesFrom t (l.drop (k + 1)) := by
  rw [List.drop_eq_getElem_cons hk, List.drop_eq_nil_of_le (show l.length ≤ k + 1 by omega)]
  rfl
theorem duesFrom_mid (t : Int) {l : List Step} {k : Nat} (hl : k + 1 < l.length) : duesFrom t (l.drop k) = max 0 (min t (l[k + 1]).fr - (l[k]'(by omega)).fr) * (l[k]'(by omega)).sh + duesFrom t (l.drop (k + 1)) := by
  rw [List.drop_eq_getElem_cons (show k < l.length by omega), List.drop_eq_getElem_cons hl]
  rfl
theorem stepsFrom_zero {l : List Step} {p : Option Int} (h : stepsFrom p l = 0) : (∀ s ∈ l, 0 ≤ s.fr ∧ s.fr ≤ 1000000000 ∧ 0 ≤ s.sh ∧ s.sh ≤ 1000) ∧ (∀ s, l[0]? = some s → match p with | none => s.fr = 0 | some q => q < s.fr) ∧ (∀ k (h : k + 1 < l.length), l[k].fr < l[k + 1].fr) := by
  induction l generalizing p with
  | nil => exact ⟨by simp, by simp, fun k h => absurd h (by simp)⟩
  | cons s r ih =>
    unfold stepsFrom at h
    by_cases h1 : (!inB s.fr 0 1000000000 || !inB s.sh 0 1000) = true
    · rw [if_pos h1] at h; cases h
    rw [if_neg h1] at h
    simp [inB] at h1
    have hs : stepsFrom (some s.fr) r = 0 ∧ (match p with | none => s.fr = 0 | some q => q < s.fr) := by
      cases p with
      | none =>
        simp only at h
        by_cases h2 : (s.fr != 0) = true
        · rw [if_pos h2] at h; cases h
        · rw [if_neg h2] at h
          exact ⟨h, by simpa using h2⟩
      | some q =>
        simp only at h
        by_cases h2 : s.fr ≤ q
        · rw [if_pos h2] at h; cases h
        · rw [if_neg h2] at h
          exact ⟨h, by simp only; omega⟩
    obtain ⟨i1, i2, i3⟩ := ih hs.1
    refine ⟨?_, ?_, ?_⟩
    · intro x hx
      rcases List.mem_cons.1 hx with rfl | hx
      · omega
      · exact i1 x hx
    · intro x hx
      simp at hx
      subst hx
      have h3 := hs.2
      cases p <;> exact h3
    · intro k hk
      cases k with
      | zero =>
        have hr : 0 < r.length := by simpa using hk
        have := i2 r[0] (List.getElem?_eq_getElem hr)
        simpa using this
      | succ k => exact i3 k (by simpa using hk)
theorem chkSteps_zero {l : List Step} (h : chkSteps l = 0) : StepsIn l := by
  unfold chkSteps at h
  split at h
  · cases h
  · rename_i h1
    split at h
    · cases h
    · rename_i h2
      obtain ⟨a, b, c⟩ := stepsFrom_zero h
      exact ⟨fun e => h1 (by rw [e]; rfl), by omega, fun s hs => (a s hs).1, fun s hs => (a s hs).2.1, fun s hs => (a s hs).2.2.1, fun s hs => (a s hs).2.2.2, b, c⟩
theorem StepsIn.beyond {l : List Step} (h : StepsIn l) {t : Int} {k : Nat} (hk : k < l.length) (ht : t ≤ l[k].fr) : duesFrom t (l.drop k) = 0 := by
  generalize hn : l.length - k = n
  induction n generalizing k with
  | zero => omega
  | succ n ih =>
    by_cases hl : k + 1 < l.length
    · have h1 := h.up k hl
      rw [duesFrom_mid t hl, ih hl (by omega) (by omega)]
      have : max 0 (min t l[k + 1].fr - l[k].fr) = 0 := by omega
      rw [this]
      simp
    · rw [duesFrom_last t hk hl, List.drop_eq_nil_of_le (show l.length ≤ k + 1 by omega)]
      have : max 0 (t - l[k].fr) = 0 := by omega
      rw [this]
      simp [duesFrom]
theorem mul_bd {a b : Int} (h0 : 0 ≤ a) (h1 : a ≤ 10000000000) (h2 : 0 ≤ b) (h3 : b ≤ 1000) : 0 ≤ a * b ∧ a * b ≤ 10000000000000 := by
  refine ⟨Int.mul_nonneg h0 h2, ?_⟩
  have h4 : a * b ≤ a * 1000 := Int.mul_le_mul_of_nonneg_left h3 h0
  omega


/-- the turnover of a stall -/
def turn : List Sale → Int → Span
  | [], _ => ⟨0, 0⟩
  | x :: r, s => if x.st = s then ⟨x.gl * x.cl / 1000 + (turn r s).lo, x.gh * x.ch / 1000 + (turn r s).hi⟩ else turn r s
theorem turn_snoc (l : List Sale) (x : Sale) (s : Int) : turn (l ++ [x]) s = if x.st = s then ⟨(turn l s).lo + x.gl * x.cl / 1000, (turn l s).hi + x.gh * x.ch / 1000⟩ else turn l s := by
  induction l with
  | nil => simp [turn]
  | cons y r ih =>
    simp only [List.cons_append, turn, ih]
    by_cases h1 : x.st = s <;> by_cases h2 : y.st = s <;> simp [h1, h2, Int.add_assoc]
theorem sale_bd {g c : Int} (h0 : 0 ≤ g) (h1 : g ≤ 100000) (h2 : 0 ≤ c) (h3 : c ≤ 100000) : 0 ≤ g * c ∧ g * c ≤ 10000000000 := by
  refine ⟨Int.mul_nonneg h0 h2, ?_⟩
  have h4 : g * c ≤ g * 100000 := Int.mul_le_mul_of_nonneg_left h3 h0
  omega
theorem turn_bd {st gd : Int} {l : List Sale} (h : ∀ s ∈ l, SaleIn st gd s) (s : Int) : 0 ≤ (turn l s).lo ∧ (turn l s).lo ≤ (turn l s).hi ∧ (turn l s).hi ≤ l.length * 10000000 := by
  induction l with
  | nil => simp [turn]
  | cons x r ih =>
    obtain ⟨i1, i2, i3⟩ := ih (fun s hs => h s (List.mem_cons_of_mem _ hs))
    have hx := h x List.mem_cons_self
    obtain ⟨a1, a2⟩ := sale_bd hx.gl0 (by have := hx.gl1; have := hx.gh1; omega) hx.cl0 (by have := hx.cl1; have := hx.ch1; omega)
    obtain ⟨b1, b2⟩ := sale_bd (g := x.gh) (c := x.ch) (by have := hx.gl1; have := hx.gl0; omega) hx.gh1 (by have := hx.cl1; have := hx.cl0; omega) hx.ch1
    have h3 : x.gl * x.cl ≤ x.gh * x.ch := Int.mul_le_mul hx.gl1 hx.cl1 hx.cl0 (by have := hx.gl1; have := hx.gl0; omega)
    unfold turn
    simp only [List.length_cons]
    split
    · simp only
      push_cast
      omega
    · push_cast
      omega


def dueSpan (steps : List Step) (t : Span) : Span := ⟨dues steps t.lo, dues steps t.hi⟩
def duesAll (n : Nat) (l : List Sale) (steps : List Step) : List Span := (List.range n).map fun (i : Nat) => dueSpan steps (turn l i)
theorem duesAll_succ (n : Nat) (l : List Sale) (steps : List Step) : duesAll (n + 1) l steps = duesAll n l steps ++ [dueSpan steps (turn l n)] := by
  simp [duesAll, List.range_succ]
theorem duesAll_len (n : Nat) (l : List Sale) (steps : List Step) : (duesAll n l steps).length = n := by simp [duesAll]
def duesErr (st gd : Int) (l : List Sale) (steps : List Step) : Int := if check st gd l ≠ 0 then check st gd l else chkSteps steps
def duesOut (st gd : Int) (l : List Sale) (steps : List Step) : List Span := if duesErr st gd l steps = 0 then duesAll st.toNat l steps else []

end Go.Proofs.Ytmoolcpogilgkaa
