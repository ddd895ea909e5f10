/-
  The least cut of a net in layers, found move by move; how much of some origins a batch may have, in plain words. The least cut of the nets that both sides go through is how much of some origins a batch may have.
-/
import Derived.Test.YtmoolcpogilgkaaFlow
set_option linter.unusedVariables false
set_option linter.unusedSimpArgs false
namespace Go.Proofs.Ytmoolcpogilgkaa

structure Mv where
  fr : Int
  to : Int
  g : Int
  deriving DecidableEq, Inhabited

/-- What batches hold after a move. -/
def mvd (a : Int → Int) (m : Mv) : Int → Int := fun b => a b - (if b = m.fr then m.g else 0) + (if b = m.to then m.g else 0)
def hasAt (a : Int → Int) : List Mv → Int → Int
  | [] => a
  | m :: l => hasAt (mvd a m) l
def rg (n : Nat) : List Int := (List.range n).map Int.ofNat
theorem mem_rg {n : Nat} {b : Int} : b ∈ rg n ↔ 0 ≤ b ∧ b < n := by
  simp only [rg, List.mem_map, List.mem_range]
  constructor
  · rintro ⟨i, h, rfl⟩; exact ⟨Int.natCast_nonneg _, by simpa using h⟩
  · rintro ⟨h1, h2⟩; exact ⟨b.toNat, by omega, Int.toNat_of_nonneg h1⟩
theorem rg_nodup (n : Nat) : (rg n).Nodup := by
  unfold rg
  rw [List.nodup_iff_pairwise_ne, List.pairwise_map]
  exact (List.nodup_iff_pairwise_ne.1 List.nodup_range).imp fun h h2 => h (Int.ofNat.inj h2)

abbrev BSet := Int → Bool
def put (S : BSet) (x : Int) : BSet := fun b => S b || decide (b = x)
def drop1 (S : BSet) (x : Int) : BSet := fun b => S b && !decide (b = x)
def one (x : Int) : BSet := fun b => decide (b = x)

/-- What a set of batches may have at most, at first. -/
def f0 (n : Nat) (own : Int → Int) : BSet → Int := fun S => sm (rg n) fun b => if S b then own b else 0
/-- What a set of batches may have at most, after a move. -/
def fStep (a : Int → Int) (F : BSet → Int) (m : Mv) : BSet → Int := fun S =>
  if S m.to then (if S m.fr then F S else min (F S + m.g) (F (put S m.fr)))
  else (if S m.fr then min (F S) (F (drop1 S m.fr) + (a m.fr - m.g)) else F S)
def fRun (a : Int → Int) (F : BSet → Int) : List Mv → BSet → Int
  | [] => F
  | m :: l => fRun (mvd a m) (fStep a F m) l

/-- A move that may be. -/
structure OkM (n : Nat) (a : Int → Int) (m : Mv) : Prop where
  f0 : 0 ≤ m.fr
  f1 : m.fr < n
  t0 : 0 ≤ m.to
  t1 : m.to < n
  ne : m.fr ≠ m.to
  g0 : 1 ≤ m.g
  g1 : m.g ≤ a m.fr
def OkMs (n : Nat) (a : Int → Int) : List Mv → Prop
  | [] => True
  | m :: l => OkM n a m ∧ OkMs n (mvd a m) l

structure Fits (n : Nat) (a : Int → Int) (F : BSet → Int) : Prop where
  a0 : ∀ b, 0 ≤ a b
  mono : ∀ S S' : BSet, (∀ b : Int, 0 ≤ b → b < n → S b = true → S' b = true) → F S ≤ F S'
  grow : ∀ (S : BSet) (b : Int), 0 ≤ b → b < n → F (put S b) ≤ F S + a b

theorem mvd_nonneg {n : Nat} {a : Int → Int} {m : Mv} (h : OkM n a m) (h0 : ∀ b, 0 ≤ a b) (b : Int) : 0 ≤ mvd a m b := by
  have h1 := h0 b; have h2 := h.g1; have h3 := h.g0
  unfold mvd
  by_cases h4 : b = m.fr
  · subst h4; simp only [if_true]; split <;> omega
  · rw [if_neg h4]; split <;> omega

theorem put_t (S : BSet) (x : Int) : put S x x = true := by simp [put]
theorem put_ne (S : BSet) {x b : Int} (h : b ≠ x) : put S x b = S b := by simp [put, h]
theorem drop1_t (S : BSet) (x : Int) : drop1 S x x = false := by simp [drop1]
theorem drop1_ne (S : BSet) {x b : Int} (h : b ≠ x) : drop1 S x b = S b := by simp [drop1, h]

/-- equal where it matters -/
theorem Fits.congr {n : Nat} {a : Int → Int} {F : BSet → Int} (h : Fits n a F) {S S' : BSet} (hS : ∀ b : Int, 0 ≤ b → b < n → S b = S' b) : F S = F S' :=
  Int.le_antisymm (h.mono _ _ fun b h0 h1 h2 => (hS b h0 h1).symm.trans h2) (h.mono _ _ fun b h0 h1 h2 => (hS b h0 h1).trans h2)

theorem Fits.start {n : Nat} {a own : Int → Int} (h0 : ∀ b, 0 ≤ own b) (h1 : ∀ b, own b ≤ a b) : Fits n a (f0 n own) := by
  refine ⟨fun b => Int.le_trans (h0 b) (h1 b), fun S S' h => ?_, fun S b hb hb' => ?_⟩
  · refine sm_le fun b hb => ?_
    obtain ⟨h2, h3⟩ := mem_rg.1 hb
    have h4 := h0 b
    cases hS : S b
    · simp only [Bool.false_eq_true, if_false]; split <;> omega
    · rw [h b h2 h3 hS]; exact Int.le_refl _
  · have h2 : f0 n own (put S b) ≤ f0 n own S + sm (rg n) (fun x => if x = b then own b else 0) := by
      unfold f0
      rw [← sm_add]
      refine sm_le fun x _ => ?_
      have h3 := h0 b
      by_cases hx : x = b
      · subst hx
        rw [put_t]; simp only [if_true]; split <;> omega
      · rw [put_ne _ hx, if_neg hx]; omega
    rw [sm_one (rg_nodup n) (mem_rg.2 ⟨hb, hb'⟩)] at h2
    have := h1 b
    omega

theorem Fits.step {n : Nat} {a : Int → Int} {F : BSet → Int} (h : Fits n a F) {m : Mv} (hm : OkM n a m) : Fits n (mvd a m) (fStep a F m) := by
  have hc : 0 ≤ a m.fr - m.g := by have := hm.g1; omega
  have hg := hm.g0
  refine ⟨mvd_nonneg hm h.a0, fun S S' hS => ?_, fun S b hb hb' => ?_⟩
  · unfold fStep
    have hf := hS m.fr hm.f0 hm.f1
    have ht := hS m.to hm.t0 hm.t1
    have h1 := h.mono S S' hS
    have h2 : F (put S m.fr) ≤ F (put S' m.fr) := h.mono _ _ fun b h0 h1 h2 => by
      by_cases hb : b = m.fr
      · subst hb; exact put_t ..
      · rw [put_ne _ hb] at h2 ⊢; exact hS b h0 h1 h2
    have h3 : F (drop1 S m.fr) ≤ F (drop1 S' m.fr) := h.mono _ _ fun b h0 h1 h2 => by
      by_cases hb : b = m.fr
      · subst hb; rw [drop1_t] at h2; cases h2
      · rw [drop1_ne _ hb] at h2 ⊢; exact hS b h0 h1 h2
    have h4 : F S' ≤ F (put S' m.fr) := h.mono _ _ fun b _ _ h2 => by simp [put, h2]
    have h5 : S' m.fr = true → F (put S m.fr) ≤ F S' := fun h6 => h.mono _ _ fun b h0 h1 h2 => by
      by_cases hb : b = m.fr
      · subst hb; exact h6
      · rw [put_ne _ hb] at h2; exact hS b h0 h1 h2
    have h6 : S m.fr = false → F S ≤ F (drop1 S' m.fr) := fun h6 => h.mono _ _ fun b h0 h1 h2 => by
      by_cases hb : b = m.fr
      · subst hb; rw [h6] at h2; cases h2
      · rw [drop1_ne _ hb]; exact hS b h0 h1 h2
    cases e1 : S m.to <;> cases e2 : S m.fr <;> cases e3 : S' m.to <;> cases e4 : S' m.fr <;>
      simp only [e1, e2, e3, e4, Bool.false_eq_true, if_true, if_false, forall_const, false_implies, imp_false, Bool.true_eq_false, not_false_iff] at h5 h6 hf ht ⊢ <;> omega
  · have hgr := h.grow S b hb hb'
    by_cases hbS : S b = true
    · have h1 : put S b = S := funext fun x => by
        by_cases hx : x = b
        · subst hx; rw [put_t, hbS]
        · exact put_ne _ hx
      rw [h1]
      have := mvd_nonneg hm h.a0 b
      omega
    · have hbS' : S b = false := by cases h2 : S b; rfl; exact absurd h2 hbS
      unfold fStep mvd
      by_cases hf : b = m.fr
      · subst hf
        have h1 : m.fr ≠ m.to := hm.ne
        have h2 : drop1 (put S m.fr) m.fr = S := funext fun x => by
          by_cases hx : x = m.fr
          · subst hx; rw [drop1_t, hbS']
          · rw [drop1_ne _ hx, put_ne _ hx]
        rw [put_t, put_ne _ (Ne.symm h1), hbS', h2, if_neg h1]
        cases S m.to <;> simp only [Bool.false_eq_true, if_true, if_false] <;> omega
      · by_cases ht : b = m.to
        · subst ht
          have h1 : m.fr ≠ m.to := hm.ne
          rw [put_t, put_ne _ h1, hbS', if_neg hf]
          have h2 : F (put S m.to) ≤ F (drop1 S m.fr) + a m.to + a m.fr := by
            have h3 := h.grow (drop1 S m.fr) m.to hb hb'
            have h4 := h.grow (put (drop1 S m.fr) m.to) m.fr hm.f0 hm.f1
            have h5 : F (put S m.to) ≤ F (put (put (drop1 S m.fr) m.to) m.fr) := h.mono _ _ fun x _ _ hx => by
              by_cases hx1 : x = m.fr
              · subst hx1; exact put_t ..
              · rw [put_ne _ hx1]
                by_cases hx2 : x = m.to
                · subst hx2; exact put_t ..
                · rw [put_ne _ hx2] at hx ⊢; rw [drop1_ne _ hx1]; exact hx
            omega
          cases S m.fr <;> simp only [Bool.false_eq_true, if_true, if_false] <;> omega
        · rw [put_ne _ (Ne.symm hf), put_ne _ (Ne.symm ht), if_neg hf, if_neg ht]
          have h1 : put (put S b) m.fr = put (put S m.fr) b := funext fun x => by
            simp only [put]; cases S x <;> simp [Bool.or_comm]
          have h2 : drop1 (put S b) m.fr = put (drop1 S m.fr) b := funext fun x => by
            simp only [put, drop1]
            by_cases hx : x = b
            · subst hx; simp [hf]
            · simp [hx]
          have h3 := h.grow (put S m.fr) b hb hb'
          have h4 := h.grow (drop1 S m.fr) b hb hb'
          rw [h1, h2]
          cases S m.fr <;> cases S m.to <;> simp only [Bool.false_eq_true, if_true, if_false] <;> omega

/-- What crosses into a set between two moments. -/
def layer (n : Nat) (a : Int → Int) (m : Mv) (S S' : BSet) : Int :=
  (if S m.fr = false ∧ S' m.to = true then m.g else 0) + sm (rg n) (fun b => if S b = false ∧ S' b = true then a b - (if b = m.fr then m.g else 0) else 0)

theorem Fits.fill {n : Nat} {a : Int → Int} {F : BSet → Int} (h : Fits n a F) (S S' : BSet) : F S' ≤ F S + sm (rg n) (fun b => if S b = false ∧ S' b = true then a b else 0) := by
  have h1 : ∀ l : List Int, (∀ b ∈ l, 0 ≤ b ∧ b < n) →
      F (fun b => S b || (S' b && decide (b ∈ l))) ≤ F S + sm l (fun b => if S b = false ∧ S' b = true then a b else 0) := by
    intro l
    induction l with
    | nil =>
      intro _
      have : (fun b => S b || (S' b && decide (b ∈ ([] : List Int)))) = S := funext fun b => by simp
      rw [this]; simp [sm]
    | cons x l ih =>
      intro hl
      have h2 := ih fun b hb => hl b (List.mem_cons_of_mem _ hb)
      obtain ⟨h3, h4⟩ := hl x (List.mem_cons_self ..)
      simp only [sm]
      by_cases h5 : S x = false ∧ S' x = true
      · rw [if_pos h5]
        have h6 := h.grow (fun b => S b || (S' b && decide (b ∈ l))) x h3 h4
        have h7 : F (fun b => S b || (S' b && decide (b ∈ x :: l))) ≤ F (put (fun b => S b || (S' b && decide (b ∈ l))) x) := h.mono _ _ fun b _ _ hb => by
          simp only [put, List.mem_cons, Bool.or_eq_true, Bool.and_eq_true, decide_eq_true_eq] at hb ⊢
          rcases hb with h8 | ⟨h8, h9 | h9⟩
          · exact .inl (.inl h8)
          · exact .inr h9
          · exact .inl (.inr ⟨h8, h9⟩)
        omega
      · rw [if_neg h5]
        have h7 : F (fun b => S b || (S' b && decide (b ∈ x :: l))) ≤ F (fun b => S b || (S' b && decide (b ∈ l))) := h.mono _ _ fun b _ _ hb => by
          simp only [List.mem_cons, Bool.or_eq_true, Bool.and_eq_true, decide_eq_true_eq] at hb ⊢
          rcases hb with h8 | ⟨h8, h9 | h9⟩
          · exact .inl h8
          · subst h9
            cases h10 : S b
            · exact absurd ⟨h10, h8⟩ h5
            · exact .inl rfl
          · exact .inr ⟨h8, h9⟩
        omega
  have h2 := h1 (rg n) fun b hb => mem_rg.1 hb
  have h3 : F S' ≤ F (fun b => S b || (S' b && decide (b ∈ rg n))) := h.mono _ _ fun b h0 h1 hb => by
    simp [hb, mem_rg, h0, h1]
  omega

theorem Fits.cut_ge {n : Nat} {a : Int → Int} {F : BSet → Int} (h : Fits n a F) {m : Mv} (hm : OkM n a m) (S S' : BSet) : fStep a F m S' ≤ F S + layer n a m S S' := by
  have hc : 0 ≤ a m.fr - m.g := by have := hm.g1; omega
  have hg := hm.g0
  have hfr : m.fr ∈ rg n := mem_rg.2 ⟨hm.f0, hm.f1⟩
  -- the set before, with the move's batch as in S
  have h1 : F (fun b => if b = m.fr then S m.fr else S' b) ≤ F S + sm (rg n) (fun b => if S b = false ∧ (if b = m.fr then S m.fr else S' b) = true then a b else 0) :=
    h.fill S (fun b => if b = m.fr then S m.fr else S' b)
  have h2 : sm (rg n) (fun b => if S b = false ∧ S' b = true then a b - (if b = m.fr then m.g else 0) else 0)
      = sm (rg n) (fun b => if S b = false ∧ (if b = m.fr then S m.fr else S' b) = true then a b else 0) + (if S m.fr = false ∧ S' m.fr = true then a m.fr - m.g else 0) := by
    rw [← sm_one (rg_nodup n) hfr (if S m.fr = false ∧ S' m.fr = true then a m.fr - m.g else 0), ← sm_add]
    refine sm_congr fun b _ => ?_
    by_cases hb : b = m.fr
    · subst hb
      cases S m.fr <;> cases S' m.fr <;> simp
    · simp only [hb, if_false]; split <;> omega
  unfold layer
  rw [h2]
  have e1 : S' m.fr = S m.fr → (fun b => if b = m.fr then S m.fr else S' b) = S' := fun e => funext fun b => by
    by_cases hb : b = m.fr
    · subst hb; rw [if_pos rfl, e]
    · rw [if_neg hb]
  have e2 : S m.fr = true → (fun b => if b = m.fr then S m.fr else S' b) = put S' m.fr := fun e => funext fun b => by
    by_cases hb : b = m.fr
    · subst hb; rw [if_pos rfl, e, put_t]
    · rw [if_neg hb, put_ne _ hb]
  have e3 : S m.fr = false → (fun b => if b = m.fr then S m.fr else S' b) = drop1 S' m.fr := fun e => funext fun b => by
    by_cases hb : b = m.fr
    · subst hb; rw [if_pos rfl, e, drop1_t]
    · rw [if_neg hb, drop1_ne _ hb]
  have h3 : F S' ≤ F (put S' m.fr) := h.mono _ _ fun b _ _ h2 => by simp [put, h2]
  have h4 : F S' ≤ F (drop1 S' m.fr) + a m.fr := by
    have h5 := h.grow (drop1 S' m.fr) m.fr hm.f0 hm.f1
    have h6 : F S' ≤ F (put (drop1 S' m.fr) m.fr) := h.mono _ _ fun b _ _ h2 => by
      by_cases hb : b = m.fr
      · subst hb; exact put_t ..
      · rw [put_ne _ hb, drop1_ne _ hb]; exact h2
    omega
  clear h2
  generalize sm (rg n) (fun b => if S b = false ∧ (if b = m.fr then S m.fr else S' b) = true then a b else 0) = X at h1 ⊢
  unfold fStep
  cases hS : S m.fr <;> cases hS' : S' m.fr
  · rw [e1 (by rw [hS, hS'])] at h1
    cases S' m.to <;> simp <;> omega
  · rw [e3 hS] at h1
    cases S' m.to <;> simp <;> omega
  · rw [e2 hS] at h1
    cases S' m.to <;> simp <;> omega
  · rw [e1 (by rw [hS, hS'])] at h1
    cases S' m.to <;> simp <;> omega

theorem Fits.cut_ex {n : Nat} {a : Int → Int} {F : BSet → Int} {m : Mv} (hm : OkM n a m) (S' : BSet) : ∃ S, F S + layer n a m S S' = fStep a F m S' := by
  have hfr : m.fr ∈ rg n := mem_rg.2 ⟨hm.f0, hm.f1⟩
  have same : sm (rg n) (fun b => if S' b = false ∧ S' b = true then a b - (if b = m.fr then m.g else 0) else 0) = 0 := by
    rw [sm_congr (g := fun _ => 0) (fun b _ => by cases S' b <;> simp), sm_zero]
  have more : sm (rg n) (fun b => if put S' m.fr b = false ∧ S' b = true then a b - (if b = m.fr then m.g else 0) else 0) = 0 := by
    rw [sm_congr (g := fun _ => 0) (fun b _ => if_neg fun h => by simp only [put, h.2, Bool.true_or] at h; exact absurd h.1 (by decide)), sm_zero]
  have less : S' m.fr = true → sm (rg n) (fun b => if drop1 S' m.fr b = false ∧ S' b = true then a b - (if b = m.fr then m.g else 0) else 0) = a m.fr - m.g := fun hS => by
    rw [← sm_one (rg_nodup n) hfr (a m.fr - m.g)]
    refine sm_congr fun b _ => ?_
    by_cases hb : b = m.fr
    · subst hb; rw [drop1_t]; simp [hS]
    · rw [drop1_ne _ hb]; simp only [hb, if_false]; cases S' b <;> simp
  unfold fStep
  cases hT : S' m.to <;> cases hF : S' m.fr
  · exact ⟨S', by unfold layer; rw [same]; simp [hT]⟩
  · simp only [Bool.false_eq_true, if_false, if_true]
    by_cases h : F S' ≤ F (drop1 S' m.fr) + (a m.fr - m.g)
    · exact ⟨S', by unfold layer; rw [same]; simp [hT]; omega⟩
    · exact ⟨drop1 S' m.fr, by unfold layer; rw [less hF]; simp [hT]; omega⟩
  · simp only [Bool.false_eq_true, if_false, if_true]
    by_cases h : F S' + m.g ≤ F (put S' m.fr)
    · exact ⟨S', by unfold layer; rw [same]; simp [hT, hF]; omega⟩
    · exact ⟨put S' m.fr, by unfold layer; rw [more]; simp [put_t]; omega⟩
  · exact ⟨S', by unfold layer; rw [same]; simp [hF]⟩

/-- What crosses into sets from moment to moment. -/
def layers (n : Nat) (a : Int → Int) (Sq : Nat → BSet) (t : Nat) : List Mv → Int
  | [] => 0
  | m :: l => layer n a m (Sq t) (Sq (t + 1)) + layers n (mvd a m) Sq (t + 1) l

theorem Fits.run {n : Nat} {a : Int → Int} {F : BSet → Int} (h : Fits n a F) {l : List Mv} (hl : OkMs n a l) : Fits n (hasAt a l) (fRun a F l) := by
  induction l generalizing a F with
  | nil => exact h
  | cons m l ih => exact ih (h.step hl.1) hl.2

theorem Fits.cuts_ge {n : Nat} {a : Int → Int} {F : BSet → Int} (h : Fits n a F) {l : List Mv} (hl : OkMs n a l) (Sq : Nat → BSet) (t : Nat) :
    fRun a F l (Sq (t + l.length)) ≤ F (Sq t) + layers n a Sq t l := by
  induction l generalizing a F t with
  | nil => simp [fRun, layers]
  | cons m l ih =>
    have h1 := ih (h.step hl.1) hl.2 (t + 1)
    have h2 := h.cut_ge hl.1 (Sq t) (Sq (t + 1))
    simp only [fRun, layers, List.length_cons]
    rw [show t + (l.length + 1) = t + 1 + l.length by omega]
    omega

theorem layers_congr {n : Nat} {a : Int → Int} {Sq Sq' : Nat → BSet} {t : Nat} (h : ∀ s, t ≤ s → Sq s = Sq' s) (l : List Mv) : layers n a Sq t l = layers n a Sq' t l := by
  induction l generalizing a t with
  | nil => rfl
  | cons m l ih => simp only [layers]; rw [h t (Nat.le_refl _), h (t + 1) (by omega), ih fun s hs => h s (by omega)]

theorem cuts_ex {n : Nat} {a : Int → Int} {F : BSet → Int} {l : List Mv} (hl : OkMs n a l) (S' : BSet) (t : Nat) :
    ∃ Sq : Nat → BSet, Sq (t + l.length) = S' ∧ F (Sq t) + layers n a Sq t l = fRun a F l S' := by
  induction l generalizing a F t with
  | nil => exact ⟨fun _ => S', rfl, by simp [fRun, layers]⟩
  | cons m l ih =>
    obtain ⟨Sq, h1, h2⟩ := ih (F := fStep a F m) hl.2 (t + 1)
    obtain ⟨S, h3⟩ := Fits.cut_ex (F := F) hl.1 (Sq (t + 1))
    refine ⟨fun s => if s ≤ t then S else Sq s, ?_, ?_⟩
    · simp only [List.length_cons]
      rw [if_neg (by omega), ← h1]; congr 1; omega
    · simp only [fRun, layers]
      rw [layers_congr (Sq' := Sq) (fun s hs => by rw [if_neg (by omega)]), if_pos (Nat.le_refl _), if_neg (by omega)]
      omega

/- Edges of a net in layers -/
def stay (a : Int → Int) (m : Mv) (b : Int) : Int := a b - (if b = m.fr then m.g else 0)
def eLay {V : Type} (nd : Int → Int → V) (n : Nat) (a : Int → Int) (t : Nat) : List Mv → List (V × V × Int)
  | [] => []
  | m :: l => (nd m.fr t, nd m.to (t + 1 : Nat), m.g) :: (((rg n).map fun b => (nd b t, nd b (t + 1 : Nat), stay a m b)) ++ eLay nd n (mvd a m) (t + 1) l)
theorem cut_eLay {V : Type} (nd : Int → Int → V) (n : Nat) (a : Int → Int) (t : Nat) (l : List Mv) (B : V → Bool) :
    cutE B (eLay nd n a t l) = layers n a (fun t b => B (nd b t)) t l := by
  induction l generalizing a t with
  | nil => rfl
  | cons m l ih =>
    simp only [eLay, layers, layer]
    rw [cutE_cons, cutE_append, ih]
    unfold cutE
    rw [sm_map]
    simp only [stay]
    omega

/-- What batches have of some origins, at first. -/
def ownOf (bs : Int → Int) (l : List Int) : Int → Int := fun b => if b ∈ l then bs b else 0
def eSrc {V : Type} (src : V) (nd : Int → Int → V) (bs : Int → Int) (l : List Int) : List (V × V × Int) := l.map fun o => (src, nd o 0, bs o)
theorem cut_eSrc {V : Type} (src : V) (nd : Int → Int → V) (bs : Int → Int) {n : Nat} {l : List Int} (hn : l.Nodup) (hl : ∀ o ∈ l, 0 ≤ o ∧ o < n) (B : V → Bool) (Bs : B src = false) :
    cutE B (eSrc src nd bs l) = f0 n (ownOf bs l) (fun b => B (nd b (0 : Nat))) := by
  induction l with
  | nil =>
    show (0 : Int) = _
    unfold f0
    rw [sm_congr (g := fun _ => 0) (fun b _ => by simp [ownOf]), sm_zero]
  | cons x l ih =>
    rw [List.nodup_cons] at hn
    show cutE B ((src, nd x 0, bs x) :: eSrc src nd bs l) = _
    rw [cutE_cons, ih hn.2 fun o ho => hl o (List.mem_cons_of_mem _ ho)]
    unfold f0
    obtain ⟨h1, h2⟩ := hl x (List.mem_cons_self ..)
    rw [← sm_one (rg_nodup n) (mem_rg.2 ⟨h1, h2⟩) (if B src = false ∧ B (nd x 0) = true then bs x else 0), ← sm_add]
    refine sm_congr fun b _ => ?_
    by_cases hb : b = x
    · subst hb
      simp only [ownOf, hn.1, List.mem_cons, true_or, if_true, if_false, Bs, true_and]
      show ((if B (nd b 0) = true then bs b else 0) + if B (nd b 0) = true then 0 else 0) = if B (nd b 0) = true then bs b else 0
      split <;> simp
    · simp only [ownOf, List.mem_cons, hb, false_or, if_false]; omega

/-- How much of some origins a batch may have at most, when all these moves are done. -/
def mostF (n : Nat) (bs : Int → Int) (l : List Int) (ms : List Mv) (batch : Int) : Int := fRun bs (f0 n (ownOf bs l)) ms (one batch)

end Go.Proofs.Ytmoolcpogilgkaa

namespace Go.Proofs.Ytmoolcpogilgkaa

theorem layer_congr {n : Nat} {a : Int → Int} {m : Mv} (hm : OkM n a m) {S T S' T' : BSet} (h : ∀ b : Int, 0 ≤ b → b < n → S b = S' b) (h' : ∀ b : Int, 0 ≤ b → b < n → T b = T' b) :
    layer n a m S T = layer n a m S' T' := by
  unfold layer
  rw [h m.fr hm.f0 hm.f1, h' m.to hm.t0 hm.t1]
  congr 1
  refine sm_congr fun b hb => ?_
  obtain ⟨h1, h2⟩ := mem_rg.1 hb
  rw [h b h1 h2, h' b h1 h2]
theorem layers_congr2 {n : Nat} {a : Int → Int} {Sq Sq' : Nat → BSet} {t : Nat} {l : List Mv} (hl : OkMs n a l)
    (h : ∀ s, t ≤ s → s ≤ t + l.length → ∀ b : Int, 0 ≤ b → b < n → Sq s b = Sq' s b) : layers n a Sq t l = layers n a Sq' t l := by
  induction l generalizing a t with
  | nil => rfl
  | cons m l ih =>
    simp only [List.length_cons] at h
    simp only [layers]
    rw [layer_congr hl.1 (h t (by omega) (by omega)) (h (t + 1) (by omega) (by omega)), ih hl.2 fun s h1 h2 => h s (by omega) (by omega)]
theorem layer_nonneg {n : Nat} {a : Int → Int} {m : Mv} (hm : OkM n a m) (h0 : ∀ b, 0 ≤ a b) (S S' : BSet) : 0 ≤ layer n a m S S' := by
  have hg := hm.g0; have hg1 := hm.g1
  unfold layer
  have h1 : 0 ≤ sm (rg n) (fun b => if S b = false ∧ S' b = true then a b - (if b = m.fr then m.g else 0) else 0) := sm_nonneg fun b _ => by
    have := h0 b
    by_cases hb : b = m.fr
    · subst hb; split <;> simp <;> omega
    · simp only [hb, if_false]; split <;> omega
  split <;> omega
theorem layers_nonneg {n : Nat} {a : Int → Int} {l : List Mv} (hl : OkMs n a l) (h0 : ∀ b, 0 ≤ a b) (Sq : Nat → BSet) (t : Nat) : 0 ≤ layers n a Sq t l := by
  induction l generalizing a t with
  | nil => exact Int.le_refl _
  | cons m l ih =>
    have h1 := layer_nonneg hl.1 h0 (Sq t) (Sq (t + 1))
    have h2 := ih hl.2 (mvd_nonneg hl.1 h0) (t + 1)
    simp only [layers]; omega
theorem f0_nonneg {n : Nat} {own : Int → Int} (h : ∀ b, 0 ≤ own b) (S : BSet) : 0 ≤ f0 n own S :=
  sm_nonneg fun b _ => by have := h b; split <;> omega
theorem f0_congr {n : Nat} {own : Int → Int} {S S' : BSet} (h : ∀ b : Int, 0 ≤ b → b < n → S b = S' b) : f0 n own S = f0 n own S' := by
  refine sm_congr fun b hb => ?_
  obtain ⟨h1, h2⟩ := mem_rg.1 hb
  rw [h b h1 h2]
theorem layer_none {n : Nat} {a : Int → Int} {m : Mv} (S : BSet) : layer n a m S (fun _ => false) = 0 := by
  unfold layer
  rw [sm_congr (g := fun _ => 0) (fun b _ => by simp), sm_zero]
  simp
theorem layers_none {n : Nat} {a : Int → Int} {Sq : Nat → BSet} {t : Nat} (h : ∀ s, t < s → Sq s = fun _ => false) (l : List Mv) : layers n a Sq t l = 0 := by
  induction l generalizing a t with
  | nil => rfl
  | cons m l ih =>
    simp only [layers]
    rw [h (t + 1) (by omega), layer_none, ih fun s hs => h s (by omega)]; rfl
theorem layers_append {n : Nat} {a : Int → Int} {Sq : Nat → BSet} {t : Nat} (l k : List Mv) : layers n a Sq t (l ++ k) = layers n a Sq t l + layers n (hasAt a l) Sq (t + l.length) k := by
  induction l generalizing a t with
  | nil => simp [layers, hasAt]
  | cons m l ih =>
    simp only [List.cons_append, layers, hasAt, List.length_cons]
    rw [ih, show t + (l.length + 1) = t + 1 + l.length by omega]; omega
theorem OkMs.append {n : Nat} {a : Int → Int} {l k : List Mv} : OkMs n a (l ++ k) ↔ OkMs n a l ∧ OkMs n (hasAt a l) k := by
  induction l generalizing a with
  | nil => simp [OkMs, hasAt]
  | cons m l ih => simp only [List.cons_append, OkMs, hasAt, ih, and_assoc]
theorem hasAt_append (a : Int → Int) (l k : List Mv) : hasAt a (l ++ k) = hasAt (hasAt a l) k := by
  induction l generalizing a with
  | nil => rfl
  | cons m l ih => exact ih _
theorem fRun_append (a : Int → Int) (F : BSet → Int) (l k : List Mv) : fRun a F (l ++ k) = fRun (hasAt a l) (fRun a F l) k := by
  induction l generalizing a F with
  | nil => rfl
  | cons m l ih => exact ih _ _
theorem OkMs.take {n : Nat} {a : Int → Int} {l : List Mv} (h : OkMs n a l) (t : Nat) : OkMs n a (l.take t) := by
  rw [← List.take_append_drop t l] at h; exact (OkMs.append.1 h).1
theorem OkMs.nonneg {n : Nat} {a : Int → Int} {l : List Mv} (h : OkMs n a l) (h0 : ∀ b, 0 ≤ a b) : ∀ b, 0 ≤ hasAt a l b := by
  induction l generalizing a with
  | nil => exact h0
  | cons m l ih => exact ih h.2 (mvd_nonneg h.1 h0)

/- No gram is lost. -/
theorem sm_mvd {n : Nat} {a : Int → Int} {m : Mv} (hm : OkM n a m) : sm (rg n) (mvd a m) = sm (rg n) a := by
  have h1 := sm_one (rg_nodup n) (mem_rg.2 ⟨hm.f0, hm.f1⟩) m.g
  have h2 := sm_one (rg_nodup n) (mem_rg.2 ⟨hm.t0, hm.t1⟩) m.g
  have h3 : sm (rg n) (mvd a m) = sm (rg n) (fun b => (a b - (if b = m.fr then m.g else 0)) + (if b = m.to then m.g else 0)) := rfl
  rw [h3, sm_add, sm_sub, h1, h2]; omega
theorem sm_hasAt {n : Nat} {a : Int → Int} {l : List Mv} (hl : OkMs n a l) : sm (rg n) (hasAt a l) = sm (rg n) a := by
  induction l generalizing a with
  | nil => rfl
  | cons m l ih => exact (ih hl.2).trans (sm_mvd hl.1)
theorem sm_ge_one {α : Type} {l : List α} {f : α → Int} (h : ∀ x ∈ l, 0 ≤ f x) {x : α} (hx : x ∈ l) : f x ≤ sm l f := by
  induction l with
  | nil => cases hx
  | cons y l ih =>
    have h1 := h y (List.mem_cons_self ..)
    have h2 : 0 ≤ sm l f := sm_nonneg fun z hz => h z (List.mem_cons_of_mem _ hz)
    simp only [sm]
    rcases List.mem_cons.1 hx with rfl | h3
    · omega
    · have := ih (fun z hz => h z (List.mem_cons_of_mem _ hz)) h3
      omega
theorem ownOf_nonneg {bs : Int → Int} (h : ∀ b, 0 ≤ bs b) (l : List Int) (b : Int) : 0 ≤ ownOf bs l b := by
  unfold ownOf; have := h b; split <;> omega
theorem ownOf_le {bs : Int → Int} (h : ∀ b, 0 ≤ bs b) (l : List Int) (b : Int) : ownOf bs l b ≤ bs b := by
  unfold ownOf; have := h b; split <;> omega
theorem fits_own {n : Nat} {bs : Int → Int} (h : ∀ b, 0 ≤ bs b) (l : List Int) : Fits n bs (f0 n (ownOf bs l)) := Fits.start (ownOf_nonneg h l) (ownOf_le h l)

theorem fRun_none {n : Nat} {a : Int → Int} (own : Int → Int) (ms : List Mv) : fRun a (f0 n own) ms (fun _ => false) = 0 := by
  have h1 : ∀ (l : List Mv) (a : Int → Int) (F : BSet → Int), F (fun _ => false) = 0 → fRun a F l (fun _ => false) = 0 := by
    intro l
    induction l with
    | nil => intro a F h; exact h
    | cons m l ih => intro a F h; exact ih _ _ (by simp [fStep, h])
  refine h1 ms a _ ?_
  unfold f0
  rw [sm_congr (g := fun _ => 0) (fun b _ => by simp), sm_zero]

theorem mostF_le_has {n : Nat} {bs : Int → Int} (h : ∀ b, 0 ≤ bs b) {ms : List Mv} (hm : OkMs n bs ms) (l : List Int) {batch : Int} (h0 : 0 ≤ batch) (h1 : batch < n) :
    mostF n bs l ms batch ≤ hasAt bs ms batch := by
  have h2 := ((fits_own h l).run hm).grow (fun _ => false) batch h0 h1
  rw [fRun_none] at h2
  have h3 : put (fun _ => false) batch = one batch := funext fun b => by simp [put, one]
  rw [h3] at h2
  unfold mostF; omega
theorem mostF_nonneg {n : Nat} {bs : Int → Int} (h : ∀ b, 0 ≤ bs b) {ms : List Mv} (hm : OkMs n bs ms) (l : List Int) (batch : Int) :
    0 ≤ mostF n bs l ms batch := by
  have h2 := ((fits_own h l).run hm).mono (fun _ => false) (one batch) fun b _ _ hb => by cases hb
  rw [fRun_none] at h2
  exact h2
theorem mostF_le_sum {n : Nat} {bs : Int → Int} (h : ∀ b, 0 ≤ bs b) {ms : List Mv} (hm : OkMs n bs ms) (l : List Int) {batch : Int} (h0 : 0 ≤ batch) (h1 : batch < n) :
    mostF n bs l ms batch ≤ sm (rg n) bs := by
  have h2 := mostF_le_has h hm l h0 h1
  have h3 := sm_ge_one (l := rg n) (f := hasAt bs ms) (fun b _ => hm.nonneg h b) (mem_rg.2 ⟨h0, h1⟩)
  rw [sm_hasAt hm] at h3
  omega

section
variable {V : Type} {nd : Int → Int → V} {src : V} {dec : V → Option (Int × Nat)} {n : Nat} {bs : Int → Int} {l : List Int} {ms : List Mv} {batch : Int}

/-- The net of the program: every cut is as much at least. -/
theorem cutP_ge (h : ∀ b, 0 ≤ bs b) (hm : OkMs n bs ms) (hn : l.Nodup) (hl : ∀ o ∈ l, 0 ≤ o ∧ o < n) (B : V → Bool) (Bs : B src = false) (Bz : B (nd batch ms.length) = true) :
    mostF n bs l ms batch ≤ cutE B (eLay nd n bs 0 ms ++ eSrc src nd bs l) := by
  rw [cutE_append, cut_eLay, cut_eSrc src nd bs hn hl B Bs]
  have h1 := (fits_own (n := n) h l).cuts_ge hm (fun t b => B (nd b t)) 0
  have h2 := ((fits_own (n := n) h l).run hm).mono (one batch) (fun b => B (nd b ms.length)) fun b _ _ hb => by
    have hb' : b = batch := by simpa [one] using hb
    subst hb'; exact Bz
  rw [Nat.zero_add] at h1
  unfold mostF
  omega

/-- One cut is just as much. -/
theorem cutP_ex (hm : OkMs n bs ms) (hn : l.Nodup) (hl : ∀ o ∈ l, 0 ≤ o ∧ o < n) (hd : ∀ b : Int, ∀ t : Nat, 0 ≤ b → b < n → t ≤ ms.length → dec (nd b t) = some (b, t)) (hs : dec src = none)
    (hb : 0 ≤ batch ∧ batch < n) :
    ∃ B : V → Bool, B src = false ∧ B (nd batch ms.length) = true ∧ cutE B (eLay nd n bs 0 ms ++ eSrc src nd bs l) = mostF n bs l ms batch := by
  obtain ⟨Sq, h1, h2⟩ := cuts_ex (F := f0 n (ownOf bs l)) hm (one batch) 0
  rw [Nat.zero_add] at h1
  refine ⟨fun v => match dec v with | some (b, t) => Sq t b | none => false, ?_, ?_, ?_⟩
  · simp only [hs]
  · simp only [hd batch ms.length hb.1 hb.2 (Nat.le_refl _), h1]; simp [one]
  · rw [cutE_append, cut_eLay, cut_eSrc src nd bs hn hl _ (by simp only [hs])]
    have e1 : layers n bs (fun t b => match dec (nd b t) with | some (b, t) => Sq t b | none => false) 0 ms = layers n bs Sq 0 ms :=
      layers_congr2 hm fun s _ h4 b h5 h6 => by simp only [hd b s h5 h6 (by omega)]
    have e2 : f0 n (ownOf bs l) (fun b => match dec (nd b (0 : Nat)) with | some (b, t) => Sq t b | none => false) = f0 n (ownOf bs l) (Sq 0) :=
      f0_congr fun b h5 h6 => by simp only [hd b 0 h5 h6 (Nat.zero_le _)]
    rw [e1, e2, ← h2.trans (show _ = mostF n bs l ms batch from rfl)]
    omega
end

/- The net of the document's answer: a move may go to the last node (z) instead. -/
def eRef {V : Type} (nd : Int → Int → V) (n : Nat) (z : V) (mv : Int) (a : Int → Int) (t : Nat) : List Mv → List (V × V × Int)
  | [] => []
  | m :: l => ((rg n).map fun b => (nd b t, nd b (t + 1 : Nat), stay a m b)) ++ ((nd m.fr t, if (t : Int) = mv then z else nd m.to (t + 1 : Nat), m.g) :: eRef nd n z mv (mvd a m) (t + 1) l)
theorem cut_eRef {V : Type} (nd : Int → Int → V) (n : Nat) (z : V) (mv : Int) (a : Int → Int) (t : Nat) (l : List Mv) (B : V → Bool) (h : mv < t ∨ t + l.length ≤ mv) :
    cutE B (eRef nd n z mv a t l) = layers n a (fun t b => B (nd b t)) t l := by
  induction l generalizing a t with
  | nil => rfl
  | cons m l ih =>
    simp only [List.length_cons] at h
    simp only [eRef, layers, layer]
    rw [cutE_append, cutE_cons, ih (mvd a m) (t + 1) (by omega), if_neg (show ¬ (t : Int) = mv by omega)]
    unfold cutE
    rw [sm_map]
    simp only [stay]
    omega
theorem eRef_append {V : Type} (nd : Int → Int → V) (n : Nat) (z : V) (mv : Int) (a : Int → Int) (t : Nat) (l k : List Mv) :
    eRef nd n z mv a t (l ++ k) = eRef nd n z mv a t l ++ eRef nd n z mv (hasAt a l) (t + l.length) k := by
  induction l generalizing a t with
  | nil => rfl
  | cons m l ih =>
    simp only [List.cons_append, eRef, List.append_assoc, hasAt, List.length_cons]
    rw [ih, show t + 1 + l.length = t + (l.length + 1) by omega]

section
variable {V : Type} {nd : Int → Int → V} {src z : V} {dec : V → Option (Int × Nat)} {n : Nat} {bs : Int → Int} {l : List Int} {ms : List Mv} {batch : Int} {m : Mv} {k : List Mv}

/-- The net of the document's answer for a batch. -/
def eRefB (src : V) (nd : Int → Int → V) (n : Nat) (z : V) (bs : Int → Int) (l : List Int) (ms : List Mv) (batch : Int) : List (V × V × Int) :=
  (eSrc src nd bs l ++ eRef nd n z (-1) bs 0 ms) ++ [(nd batch ms.length, z, 8000000)]

theorem cutB_ge (h : ∀ b, 0 ≤ bs b) (hm : OkMs n bs ms) (hn : l.Nodup) (hl : ∀ o ∈ l, 0 ≤ o ∧ o < n) (hb : 0 ≤ batch ∧ batch < n) (hsum : sm (rg n) bs ≤ 8000000) (B : V → Bool) (Bs : B src = false) (Bz : B z = true) :
    mostF n bs l ms batch ≤ cutE B (eRefB src nd n z bs l ms batch) := by
  unfold eRefB
  rw [cutE_append, cutE_append, cut_eRef (h := Or.inl (by omega)), cut_eSrc src nd bs hn hl B Bs]
  have h1 := (fits_own (n := n) h l).cuts_ge hm (fun t b => B (nd b t)) 0
  have h3 : 0 ≤ layers n bs (fun t b => B (nd b t)) 0 ms := layers_nonneg hm h _ _
  have h4 : 0 ≤ f0 n (ownOf bs l) (fun b => B (nd b (0 : Nat))) := f0_nonneg (ownOf_nonneg h l) _
  rw [Nat.zero_add] at h1
  show _ ≤ _ + ((if B (nd batch ms.length) = false ∧ B z = true then 8000000 else 0) + 0)
  cases hB : B (nd batch ms.length)
  · have h5 := mostF_le_sum h hm l hb.1 hb.2
    simp only [Bz, and_self, if_true]; omega
  · have h2 := ((fits_own (n := n) h l).run hm).mono (one batch) (fun b => B (nd b ms.length)) fun b _ _ hb => by
      have hb' : b = batch := by simpa [one] using hb
      subst hb'; exact hB
    unfold mostF
    simp only [Bool.true_eq_false, false_and, if_false]; omega

theorem cutB_ex [DecidableEq V] (hm : OkMs n bs ms) (hn : l.Nodup) (hl : ∀ o ∈ l, 0 ≤ o ∧ o < n) (hd : ∀ b : Int, ∀ t : Nat, 0 ≤ b → b < n → t ≤ ms.length → dec (nd b t) = some (b, t)) (hs : dec src = none) (hsz : src ≠ z)
    (hz : ∀ b : Int, ∀ t : Nat, 0 ≤ b → b < n → t ≤ ms.length → nd b t ≠ z) (hb : 0 ≤ batch ∧ batch < n) :
    ∃ B : V → Bool, B src = false ∧ B z = true ∧ cutE B (eRefB src nd n z bs l ms batch) = mostF n bs l ms batch := by
  obtain ⟨Sq, h1, h2⟩ := cuts_ex (F := f0 n (ownOf bs l)) hm (one batch) 0
  rw [Nat.zero_add] at h1
  refine ⟨fun v => if v = z then true else match dec v with | some (b, t) => Sq t b | none => false, ?_, ?_, ?_⟩
  · simp only [hs, hsz, if_false]
  · simp only [if_true]
  · unfold eRefB
    rw [cutE_append, cutE_append, cut_eRef (h := Or.inl (by omega)), cut_eSrc src nd bs hn hl _ (by simp only [hs, hsz, if_false])]
    have e1 : layers n bs (fun t b => if nd b t = z then true else match dec (nd b t) with | some (b, t) => Sq t b | none => false) 0 ms = layers n bs Sq 0 ms :=
      layers_congr2 hm fun s _ h4 b h5 h6 => by simp only [hd b s h5 h6 (by omega), hz b s h5 h6 (by omega), if_false]
    have e2 : f0 n (ownOf bs l) (fun b => if nd b (0 : Nat) = z then true else match dec (nd b (0 : Nat)) with | some (b, t) => Sq t b | none => false) = f0 n (ownOf bs l) (Sq 0) :=
      f0_congr fun b h5 h6 => by simp only [hd b 0 h5 h6 (Nat.zero_le _), hz b 0 h5 h6 (Nat.zero_le _), if_false]
    rw [e1, e2, ← h2.trans (show _ = mostF n bs l ms batch from rfl)]
    have e3 : (if nd batch ms.length = z then true else match dec (nd batch ms.length) with | some (b, t) => Sq t b | none => false) = true := by
      simp only [hd batch ms.length hb.1 hb.2 (Nat.le_refl _), hz batch ms.length hb.1 hb.2 (Nat.le_refl _), if_false, h1]; simp [one]
    simp only [cutE, sm, e3, Bool.true_eq_false, false_and, if_false]
    omega

/-- The net of the document's answer for a move. -/
def eRefM (src : V) (nd : Int → Int → V) (n : Nat) (z : V) (bs : Int → Int) (l : List Int) (ms : List Mv) (mv : Int) : List (V × V × Int) :=
  eSrc src nd bs l ++ eRef nd n z mv bs 0 ms

theorem cut_eRefM (hn : l.Nodup) (hl : ∀ o ∈ l, 0 ≤ o ∧ o < n) (B : V → Bool) (Bs : B src = false) (Bz : B z = true) :
    cutE B (eRefM src nd n z bs l (ms ++ m :: k) ms.length) = f0 n (ownOf bs l) (fun b => B (nd b (0 : Nat))) + layers n bs (fun t b => B (nd b t)) 0 ms
      + (sm (rg n) (fun b => if B (nd b ms.length) = false ∧ B (nd b (ms.length + 1 : Nat)) = true then stay (hasAt bs ms) m b else 0) + (if B (nd m.fr ms.length) = false then m.g else 0)
        + layers n (mvd (hasAt bs ms) m) (fun t b => B (nd b t)) (ms.length + 1) k) := by
  unfold eRefM
  rw [cutE_append, eRef_append, cutE_append, cut_eRef (h := Or.inr (by omega)), cut_eSrc src nd bs hn hl B Bs]
  simp only [eRef]
  rw [cutE_append, cutE_cons, cut_eRef (h := Or.inl (by omega)), Nat.zero_add, if_pos rfl]
  simp only [Bz, and_true]
  have : cutE B ((rg n).map fun b => (nd b ms.length, nd b (ms.length + 1 : Nat), stay (hasAt bs ms) m b)) = sm (rg n) (fun b => if B (nd b ms.length) = false ∧ B (nd b (ms.length + 1 : Nat)) = true then stay (hasAt bs ms) m b else 0) := by
    unfold cutE; rw [sm_map]
  rw [this]
  omega

theorem cutM_ge (h : ∀ b, 0 ≤ bs b) (hm : OkMs n bs (ms ++ m :: k)) (hn : l.Nodup) (hl : ∀ o ∈ l, 0 ≤ o ∧ o < n) (B : V → Bool) (Bs : B src = false) (Bz : B z = true) :
    min m.g (mostF n bs l ms m.fr) ≤ cutE B (eRefM src nd n z bs l (ms ++ m :: k) ms.length) := by
  rw [cut_eRefM hn hl B Bs Bz]
  obtain ⟨hm1, hm2, hm3⟩ := OkMs.append.1 hm
  have h1 := (fits_own (n := n) h l).cuts_ge hm1 (fun t b => B (nd b t)) 0
  rw [Nat.zero_add] at h1
  have hh := hm1.nonneg h
  have h3 : 0 ≤ layers n (mvd (hasAt bs ms) m) (fun t b => B (nd b t)) (ms.length + 1) k := layers_nonneg hm3 (mvd_nonneg hm2 hh) _ _
  have h4 : 0 ≤ f0 n (ownOf bs l) (fun b => B (nd b (0 : Nat))) := f0_nonneg (ownOf_nonneg h l) _
  have h5 : 0 ≤ layers n bs (fun t b => B (nd b t)) 0 ms := layers_nonneg hm1 h _ _
  have h6 : 0 ≤ sm (rg n) (fun b => if B (nd b ms.length) = false ∧ B (nd b (ms.length + 1 : Nat)) = true then stay (hasAt bs ms) m b else 0) := sm_nonneg fun b _ => by
    have h7 := hh b; have h8 := hm2.g1; have h9 := hm2.g0
    unfold stay
    by_cases hb : b = m.fr
    · subst hb; split <;> simp <;> omega
    · simp only [hb, if_false]; split <;> omega
  cases hB : B (nd m.fr ms.length)
  · simp only [if_true]; omega
  · have h2 := ((fits_own (n := n) h l).run hm1).mono (one m.fr) (fun b => B (nd b ms.length)) fun b _ _ hb => by
      have hb' : b = m.fr := by simpa [one] using hb
      subst hb'; exact hB
    unfold mostF
    simp only [Bool.true_eq_false, if_false]; omega

theorem cutM_ex [DecidableEq V] (hm : OkMs n bs (ms ++ m :: k)) (hn : l.Nodup) (hl : ∀ o ∈ l, 0 ≤ o ∧ o < n)
    (hd : ∀ b : Int, ∀ t : Nat, 0 ≤ b → b < n → t ≤ (ms ++ m :: k).length → dec (nd b t) = some (b, t)) (hs : dec src = none) (hsz : src ≠ z)
    (hz : ∀ b : Int, ∀ t : Nat, 0 ≤ b → b < n → t ≤ (ms ++ m :: k).length → nd b t ≠ z) :
    ∃ B : V → Bool, B src = false ∧ B z = true ∧ cutE B (eRefM src nd n z bs l (ms ++ m :: k) ms.length) = min m.g (mostF n bs l ms m.fr) := by
  obtain ⟨hm1, hm2, hm3⟩ := OkMs.append.1 hm
  have hlen : (ms ++ m :: k).length = ms.length + 1 + k.length := by simp only [List.length_append, List.length_cons]; omega
  have key : ∀ Sq : Nat → BSet, (∀ s, ms.length < s → Sq s = fun _ => false) →
      ∃ B : V → Bool, B src = false ∧ B z = true ∧ cutE B (eRefM src nd n z bs l (ms ++ m :: k) ms.length)
        = f0 n (ownOf bs l) (Sq 0) + layers n bs Sq 0 ms + (if Sq ms.length m.fr = false then m.g else 0) := by
    intro Sq hSq
    have hB : ∀ s : Nat, s ≤ (ms ++ m :: k).length → ∀ b : Int, 0 ≤ b → b < n →
        (if nd b s = z then true else match dec (nd b s) with | some (b, t) => Sq t b | none => false) = Sq s b := fun s h4 b h5 h6 => by
      simp only [hd b s h5 h6 h4, hz b s h5 h6 h4, if_false]
    refine ⟨fun v => if v = z then true else match dec v with | some (b, t) => Sq t b | none => false, ?_, ?_, ?_⟩
    · simp only [hs, hsz, if_false]
    · simp only [if_true]
    · rw [cut_eRefM hn hl _ (by simp only [hs, hsz, if_false]) (by simp only [if_true])]
      rw [f0_congr (S' := Sq 0) (hB 0 (Nat.zero_le _)), layers_congr2 hm1 (Sq' := Sq) (fun s _ h4 b h5 h6 => hB s (by omega) b h5 h6),
        layers_congr2 hm3 (Sq' := Sq) (fun s _ h4 b h5 h6 => hB s (by omega) b h5 h6), layers_none (t := ms.length + 1) (Sq := Sq) (fun s hs => hSq s (by omega)),
        hB ms.length (by omega) m.fr hm2.f0 hm2.f1]
      rw [sm_congr (g := fun _ => 0) (fun b hb => ?_), sm_zero]
      · omega
      · obtain ⟨h5, h6⟩ := mem_rg.1 hb
        have h7 := hB (ms.length + 1) (by omega) b h5 h6
        rw [hSq (ms.length + 1) (by omega)] at h7
        exact if_neg fun h8 => by have := h8.2; rw [h7] at this; cases this
  by_cases hc : mostF n bs l ms m.fr ≤ m.g
  · obtain ⟨Sq, h1, h2⟩ := cuts_ex (F := f0 n (ownOf bs l)) hm1 (one m.fr) 0
    rw [Nat.zero_add] at h1
    obtain ⟨B, b1, b2, b3⟩ := key (fun s => if s ≤ ms.length then Sq s else fun _ => false) fun s hs => if_neg (by omega)
    refine ⟨B, b1, b2, b3.trans ?_⟩
    simp only [Nat.zero_le, Nat.le_refl, if_true, h1]
    rw [layers_congr2 hm1 (Sq' := Sq) (fun s _ h4 b _ _ => by simp only [show s ≤ ms.length by omega, if_true]), h2]
    have : one m.fr m.fr = true := by simp [one]
    simp only [this, Bool.true_eq_false, if_false]
    unfold mostF at hc ⊢
    omega
  · obtain ⟨B, b1, b2, b3⟩ := key (fun _ _ => false) fun s _ => rfl
    refine ⟨B, b1, b2, b3.trans ?_⟩
    rw [layers_none (fun s _ => rfl)]
    have : f0 n (ownOf bs l) (fun _ => false) = 0 := by
      unfold f0
      rw [sm_congr (g := fun _ => 0) (fun b _ => by simp), sm_zero]
    rw [this]
    simp only [if_true]
    omega
end

end Go.Proofs.Ytmoolcpogilgkaa
