/-
  Price, turnovers and dues of books that are valid; how dues grow.
-/
import Derived.Test.YtkcdknjgjidnnaaPriceW
import Derived.Test.YtkcdknjgjidnnaaTnv
set_option linter.unusedVariables false
set_option linter.unusedSimpArgs false
namespace Go.Proofs.Ytkcdknjgjidnnaa
open Go.RowKit

theorem inB_in {x st : Int} (h0 : 0 ≤ x) (h1 : x < st) : inB x 0 (st - 1) = true := inB_iff.2 ⟨h0, by omega⟩
theorem dues_ok (k : Nat) (gd : Int) (b n c b2 n2 c2 : Nat) (A A2 : Option Addr) (l : List Sale) (steps : List Step) (w : World) (hl : Sl encS 6 w b A n l) (hp : Sl encP 2 w b2 A2 n2 steps) (hb : BookIn k gd l) (hs : chkSteps steps = 0) :
    Calls Try.prog 31 #[.agg #[.int .i64 k, .int .i64 gd, .slice A n c], .slice A2 n2 c2] w fun e w' => ∃ A' c' b', e = .returned (.tuple #[.slice A' k c', .int .i64 0]) ∧ Sl encR 2 w' b' A' k (duesAll k l steps) ∧ Below w.heap.size w w' := by
  have h1 : n ≤ 1000000000000 := by have := hl.len; have := hb.len; omega
  have h2 : n2 ≤ 1000000000000 := by have := hp.len; have := (chkSteps_zero hs).len; omega
  refine (duesTop_any k gd b n c b2 n2 c2 A A2 l steps w hl hp h1 h2).mono ?_
  have he : duesErr k gd l steps = 0 := by unfold duesErr; rw [if_neg (by rw [check_zero.2 hb]; exact fun h => h rfl), hs]
  have ho : duesOut k gd l steps = duesAll k l steps := by unfold duesOut; rw [if_pos he]; rfl
  rw [he, ho]
  rintro e w' ⟨A', c', b', rfl, hsl, hB⟩
  rw [duesAll_len] at hsl ⊢
  exact ⟨A', c', b', rfl, hsl, hB⟩
theorem turnover_ok (st gd s : Int) (b n c : Nat) (A : Option Addr) (l : List Sale) (w : World) (hl : Sl encS 6 w b A n l) (hb : BookIn st gd l) (h0 : 0 ≤ s) (h1 : s < st) :
    Calls Try.prog 29 #[.agg #[.int .i64 st, .int .i64 gd, .slice A n c], .int .i64 s] w fun e w' => e = .returned (.tuple #[.agg #[.int .i64 (turn l s).lo, .int .i64 (turn l s).hi], .int .i64 0]) ∧ Below w.heap.size w w' := by
  have h2 : n ≤ 1000000000000 := by have := hl.len; have := hb.len; omega
  have he : turnErr st gd s l = 0 := by unfold turnErr; rw [if_neg (by rw [check_zero.2 hb]; exact fun h => h rfl), inB_in h0 h1]; rfl
  have ho : turnOut st gd s l = turn l s := by unfold turnOut; rw [if_pos he]
  refine (turnover_any st gd s b n c A l w hl h2).mono ?_
  rw [he, ho]
  exact fun e w' h => h
theorem price_ok (st gd g : Int) (b n c : Nat) (A : Option Addr) (l : List Sale) (w : World) (hl : Sl encS 6 w b A n l) (hb : BookIn st gd l) (h0 : 0 ≤ g) (h1 : g < gd) :
    Calls Try.prog 20 #[.agg #[.int .i64 st, .int .i64 gd, .slice A n c], .int .i64 g] w fun e w' => e = .returned (.tuple #[.int .i64 (priceMid (ofGood g l)).1, .agg #[.int .i64 (priceMid (ofGood g l)).2.1, .int .i64 (priceMid (ofGood g l)).2.2], .int .i64 0]) ∧ Below w.heap.size w w' := by
  have h2 : n ≤ 1000000000000 := by have := hl.len; have := hb.len; omega
  have he : priceErr st gd g l = 0 := by unfold priceErr; rw [if_neg (by rw [check_zero.2 hb]; exact fun h => h rfl), inB_in h0 h1]; rfl
  have ho : priceOut st gd g l = priceMid (ofGood g l) := by unfold priceOut; rw [if_pos he]
  refine (price_any st gd g b n c A l w hl h2).mono ?_
  rw [he, ho]
  exact fun e w' h => h

theorem duesAll_get (n : Nat) (l : List Sale) (steps : List Step) (k : Nat) (hk : k < (duesAll n l steps).length) : (duesAll n l steps)[k] = dueSpan steps (turn l k) := by
  simp [duesAll]
theorem turn_append (l r : List Sale) (s : Int) : turn (l ++ r) s = ⟨(turn l s).lo + (turn r s).lo, (turn l s).hi + (turn r s).hi⟩ := by
  induction l with
  | nil => simp [turn]
  | cons y l ih =>
    simp only [List.cons_append, turn, ih]
    split <;> simp [Int.add_assoc]
theorem mul_mono {a b c : Int} (h : a ≤ b) (hc : 0 ≤ c) : a * c ≤ b * c := Int.mul_le_mul_of_nonneg_right h hc
theorem duesFrom_mono {l : List Step} (hs : ∀ s ∈ l, 0 ≤ s.sh) {t t' : Int} (h : t ≤ t') : duesFrom t l ≤ duesFrom t' l := by
  induction l with
  | nil => exact Int.le_refl _
  | cons s r ih =>
    unfold duesFrom
    have h1 := ih (fun s hs' => hs s (List.mem_cons_of_mem _ hs'))
    have h2 := hs s List.mem_cons_self
    cases r with
    | nil =>
      have := mul_mono (show max 0 (t - s.fr) ≤ max 0 (t' - s.fr) by omega) h2
      simp only
      omega
    | cons s' r =>
      have := mul_mono (show max 0 (min t s'.fr - s.fr) ≤ max 0 (min t' s'.fr - s.fr) by omega) h2
      simp only
      omega
theorem dues_mono {l : List Step} (hs : ∀ s ∈ l, 0 ≤ s.sh) {t t' : Int} (h : t ≤ t') : dues l t ≤ dues l t' := by
  have := duesFrom_mono hs h
  unfold dues
  omega
theorem mul_lip {a b c : Int} (h : a ≤ b) (hc : 0 ≤ c) (h2 : c ≤ 1000) : b * c ≤ a * c + 1000 * (b - a) := by
  have h1 : (b - a) * c ≤ (b - a) * 1000 := Int.mul_le_mul_of_nonneg_left h2 (by omega)
  rw [Int.sub_mul] at h1
  omega
theorem duesFrom_lip : ∀ {l : List Step} (hs : ∀ s ∈ l, 0 ≤ s.sh ∧ s.sh ≤ 1000) (hu : ∀ k (h : k + 1 < l.length), l[k].fr < l[k + 1].fr) {t y : Int} (h : 0 ≤ y),
    duesFrom (t + y) l ≤ duesFrom t l + 1000 * (match l with | [] => 0 | s :: _ => max 0 (t + y - s.fr) - max 0 (t - s.fr))
  | [], _, _, t, y, h => by simp [duesFrom]
  | [s], hs, _, t, y, h => by
    have h2 := hs s List.mem_cons_self
    have := mul_lip (show max 0 (t - s.fr) ≤ max 0 (t + y - s.fr) by omega) h2.1 h2.2
    simp only [duesFrom]
    omega
  | s :: s' :: r, hs, hu, t, y, h => by
    have h2 := hs s List.mem_cons_self
    have hlt : s.fr < s'.fr := hu 0 (by simp)
    have ih := duesFrom_lip (l := s' :: r) (fun s hs' => hs s (List.mem_cons_of_mem _ hs')) (fun k hk => hu (k + 1) (by simpa using hk)) (t := t) (y := y) h
    have := mul_lip (show max 0 (min t s'.fr - s.fr) ≤ max 0 (min (t + y) s'.fr - s.fr) by omega) h2.1 h2.2
    rw [duesFrom, duesFrom]
    simp only at ih ⊢
    omega
theorem dues_lip {l : List Step} (hin : StepsIn l) {t y : Int} (h : 0 ≤ y) : dues l (t + y) ≤ dues l t + y := by
  have h1 := duesFrom_lip (l := l) (fun s hs => ⟨hin.sh0 s hs, hin.sh1 s hs⟩) hin.up (t := t) h
  unfold dues
  cases l with
  | nil => simp only at h1; omega
  | cons s r => simp only at h1; omega
theorem dues_zero {l : List Step} (hin : StepsIn l) : dues l 0 = 0 := by
  have h : ∀ {l : List Step} (h0 : ∀ s ∈ l, 0 ≤ s.fr), duesFrom 0 l = 0 := by
    intro l
    induction l with
    | nil => intro _; rfl
    | cons s r ih =>
      intro h0
      have h1 := h0 s List.mem_cons_self
      unfold duesFrom
      rw [ih (fun s hs => h0 s (List.mem_cons_of_mem _ hs))]
      cases r with
      | nil => simp only; rw [show max 0 (0 - s.fr) = 0 by omega]; simp
      | cons s' r => simp only; rw [show max 0 (min 0 s'.fr - s.fr) = 0 by omega]; simp
  unfold dues
  rw [h hin.fr0]
  rfl
theorem dues_bd {l : List Step} (hin : StepsIn l) {t : Int} (h : 0 ≤ t) : 0 ≤ dues l t ∧ dues l t ≤ t := by
  have h0 := dues_zero hin
  have h1 := dues_mono (l := l) hin.sh0 h
  have h2 := dues_lip hin (t := 0) h
  rw [Int.zero_add] at h2
  omega
theorem chkSteps_ok {l : List Step} (h : StepsIn l) : chkSteps l = 0 := by
  have k : ∀ {l : List Step} {p : Option Int}, (∀ s ∈ l, 0 ≤ s.fr ∧ s.fr ≤ 1000000000 ∧ 0 ≤ s.sh ∧ s.sh ≤ 1000) → (∀ s, l[0]? = some s → match p with | none => s.fr = 0 | some q => q < s.fr) → (∀ k (h : k + 1 < l.length), l[k].fr < l[k + 1].fr) → stepsFrom p l = 0 := by
    intro l
    induction l with
    | nil => intro p _ _ _; rfl
    | cons s r ih =>
      intro p h1 h2 h3
      have e1 := h1 s List.mem_cons_self
      have e2 := h2 s rfl
      have e3 : stepsFrom (some s.fr) r = 0 := ih (fun s hs => h1 s (List.mem_cons_of_mem _ hs)) (fun x hx => by
        cases r with
        | nil => cases hx
        | cons y r => simp at hx; subst hx; exact h3 0 (by simp)) (fun k hk => h3 (k + 1) (by simpa using hk))
      have e4 : inB s.fr 0 1000000000 = true := inB_iff.2 ⟨e1.1, e1.2.1⟩
      have e5 : inB s.sh 0 1000 = true := inB_iff.2 ⟨e1.2.2.1, e1.2.2.2⟩
      unfold stepsFrom
      simp only [e4, e5, Bool.not_true, Bool.or_self, Bool.false_eq_true, if_false]
      cases p with
      | none => simp only at e2 ⊢; rw [if_neg (by simp [e2])]; exact e3
      | some q => simp only at e2 ⊢; rw [if_neg (by omega)]; exact e3
  unfold chkSteps
  rw [if_neg (by intro e; exact h.ne (List.eq_nil_of_length_eq_zero e)), if_neg (by have := h.len; omega)]
  exact k (fun s hs => ⟨h.fr0 s hs, h.fr1 s hs, h.sh0 s hs, h.sh1 s hs⟩) h.hd h.up
end Go.Proofs.Ytkcdknjgjidnnaa
