/-
  All numbers that are said may be: a way in which a batch has the most, and one in which a move takes the most; in plain words.
-/
import Derived.Test.YtmoolcpogilgkaaTraceLaw
set_option linter.unusedVariables false
set_option linter.unusedSimpArgs false
namespace Go.Proofs.Ytmoolcpogilgkaa

def cup (A B : BSet) : BSet := fun b => A b || B b
def cap (A B : BSet) : BSet := fun b => A b && B b
def allB : BSet := fun _ => true
def nilB : BSet := fun _ => false
/-- two sets have no less than both of them together, and what they share -/
def Sub (F : BSet → Int) : Prop := ∀ A B, F (cup A B) + F (cap A B) ≤ F A + F B

theorem add4 {i1 i2 i3 i4 s1 s2 s3 s4 : Int} (h : i1 + i2 ≤ i3 + i4) (k : s1 + s2 ≤ s3 + s4) : (i1 + s1) + (i2 + s2) ≤ (i3 + s3) + (i4 + s4) := by omega
theorem layer_sub {n : Nat} {a : Int → Int} {m : Mv} (hm : OkM n a m) (h0 : ∀ b, 0 ≤ a b) (A B A' B' : BSet) :
    layer n a m (cup A B) (cup A' B') + layer n a m (cap A B) (cap A' B') ≤ layer n a m A A' + layer n a m B B' := by
  have key : ∀ (s t s' t' : Bool) (c : Int), 0 ≤ c → (if (s || t) = false ∧ (s' || t') = true then c else 0) + (if (s && t) = false ∧ (s' && t') = true then c else 0) ≤ (if s = false ∧ s' = true then c else 0) + (if t = false ∧ t' = true then c else 0) := by
    intro s t s' t' c hc
    cases s <;> cases t <;> cases s' <;> cases t' <;> simp <;> omega
  have g0 := hm.g0
  have k1 := key (A m.fr) (B m.fr) (A' m.to) (B' m.to) m.g (by omega)
  have k2 : sm (rg n) (fun b => if cup A B b = false ∧ cup A' B' b = true then a b - (if b = m.fr then m.g else 0) else 0) + sm (rg n) (fun b => if cap A B b = false ∧ cap A' B' b = true then a b - (if b = m.fr then m.g else 0) else 0)
      ≤ sm (rg n) (fun b => if A b = false ∧ A' b = true then a b - (if b = m.fr then m.g else 0) else 0) + sm (rg n) (fun b => if B b = false ∧ B' b = true then a b - (if b = m.fr then m.g else 0) else 0) := by
    rw [← sm_add, ← sm_add]
    refine sm_le fun b _ => key (A b) (B b) (A' b) (B' b) _ ?_
    have := h0 b
    have := hm.g1
    by_cases hb : b = m.fr
    · subst hb; rw [if_pos rfl]; omega
    · rw [if_neg hb]; omega
  exact add4 k1 k2
theorem Sub.step {n : Nat} {a : Int → Int} {F : BSet → Int} (h : Sub F) (hF : Fits n a F) {m : Mv} (hm : OkM n a m) : Sub (fStep a F m) := by
  intro A B
  obtain ⟨S1, e1⟩ := Fits.cut_ex (F := F) hm A
  obtain ⟨S2, e2⟩ := Fits.cut_ex (F := F) hm B
  have e3 := hF.cut_ge hm (cup S1 S2) (cup A B)
  have e4 := hF.cut_ge hm (cap S1 S2) (cap A B)
  have e5 := layer_sub hm hF.a0 S1 S2 A B
  have e6 := h S1 S2
  omega
theorem sub_f0 (n : Nat) (own : Int → Int) : Sub (f0 n own) := by
  intro A B
  unfold f0
  rw [← sm_add, ← sm_add]
  refine Int.le_of_eq (sm_congr fun b _ => ?_)
  unfold cup cap
  cases A b <;> cases B b <;> simp
theorem step_nil {a : Int → Int} {F : BSet → Int} (h : F nilB = 0) (m : Mv) : fStep a F m nilB = 0 := by
  unfold fStep
  rw [if_neg (by simp [nilB]), if_neg (by simp [nilB])]; exact h

structure Base (n : Nat) (F : BSet → Int) (x : Int → Int) : Prop where
  le : ∀ S, sumF n x S ≤ F S
  eq : sumF n x allB = F allB
def inL (l : List Int) : BSet := fun c => decide (c ∈ l)

/-- a base in which one batch has the most -/
theorem greedy {n : Nat} {a : Int → Int} {F : BSet → Int} (hF : Fits n a F) (h : Sub F) (h0 : F nilB = 0) {b : Int} (b0 : 0 ≤ b) (b1 : b < n) : ∃ x, Base n F x ∧ x b = F (one b) := by
  have key : ∀ l : List Int, (∀ c ∈ l, 0 ≤ c ∧ c < n) → ∃ x : Int → Int, x b = F (one b) ∧ (∀ S, sumF n x (cap S (inL (l ++ [b]))) ≤ F (cap S (inL (l ++ [b])))) ∧ sumF n x (inL (l ++ [b])) = F (inL (l ++ [b])) := by
    intro l
    induction l with
    | nil =>
      intro _
      have e : inL ([] ++ [b]) = one b := funext fun c => by simp [inL, one]
      refine ⟨fun _ => F (one b), rfl, fun S => ?_, ?_⟩
      · rw [e]
        by_cases hS : S b = true
        · have : cap S (one b) = one b := funext fun c => by
            by_cases hc : c = b
            · subst hc; simp [cap, one, hS]
            · simp [cap, one, hc]
          rw [this, sumF_one b0 b1]
          exact Int.le_refl _
        · have : cap S (one b) = nilB := funext fun c => by
            by_cases hc : c = b
            · subst hc; simp [cap, one, hS, nilB]
            · simp [cap, one, hc, nilB]
          rw [this, h0]
          exact Int.le_of_eq (by unfold sumF nilB; simp [sm_zero])
      · rw [e, sumF_one b0 b1]
    | cons c l ih =>
      intro hl
      obtain ⟨x, h1, h2, h3⟩ := ih fun d hd => hl d (List.mem_cons_of_mem _ hd)
      have hc := hl c (List.mem_cons_self ..)
      by_cases hm : c ∈ l ++ [b]
      · have e : inL (c :: l ++ [b]) = inL (l ++ [b]) := funext fun d => by
          unfold inL
          rw [List.cons_append]
          by_cases hd : d = c
          · subst hd; simp only [List.mem_cons, true_or, decide_true, hm]
          · simp only [List.mem_cons, hd, false_or]
        rw [e]
        exact ⟨x, h1, h2, h3⟩
      · have hcb : c ≠ b := fun e => hm (by simp [e])
        have e : inL (c :: l ++ [b]) = put (inL (l ++ [b])) c := funext fun d => by
          unfold inL put
          rw [List.cons_append]
          by_cases hd : d = c
          · simp [hd]
          · simp [hd]
        have e0 : inL (l ++ [b]) c = false := by simp only [inL, hm, decide_false]
        have congr' : ∀ S : BSet, S c = false → sumF n (fun d => if d = c then F (put (inL (l ++ [b])) c) - F (inL (l ++ [b])) else x d) S = sumF n x S := fun S hS => sm_congr fun d _ => by
          by_cases hd : d = c
          · subst hd; simp [hS]
          · simp [hd]
        refine ⟨fun d => if d = c then F (put (inL (l ++ [b])) c) - F (inL (l ++ [b])) else x d, by simp [Ne.symm hcb, h1], fun S => ?_, ?_⟩
        · rw [e]
          by_cases hS : S c = true
          · have e1 : cap S (put (inL (l ++ [b])) c) = put (cap S (inL (l ++ [b]))) c := funext fun d => by
              by_cases hd : d = c
              · subst hd; simp [cap, put, hS]
              · simp [cap, put, hd]
            have e2 : cap S (inL (l ++ [b])) c = false := by simp [cap, e0]
            rw [e1, sumF_put hc.1 hc.2 e2, congr' _ e2]
            have e3 := h (put (cap S (inL (l ++ [b]))) c) (inL (l ++ [b]))
            have e4 : cup (put (cap S (inL (l ++ [b]))) c) (inL (l ++ [b])) = put (inL (l ++ [b])) c := funext fun d => by
              unfold cup put cap
              cases S d <;> cases inL (l ++ [b]) d <;> simp
            have e5 : cap (put (cap S (inL (l ++ [b]))) c) (inL (l ++ [b])) = cap S (inL (l ++ [b])) := funext fun d => by
              by_cases hd : d = c
              · subst hd; simp [cap, put, e0]
              · simp [cap, put, hd]
            rw [e4, e5] at e3
            have := h2 S
            simp only [if_true]
            omega
          · have e1 : cap S (put (inL (l ++ [b])) c) = cap S (inL (l ++ [b])) := funext fun d => by
              by_cases hd : d = c
              · subst hd; simp [cap, put, hS]
              · simp [cap, put, hd]
            rw [e1, congr' _ (by simp [cap, e0])]
            exact h2 S
        · rw [e, sumF_put hc.1 hc.2 e0, congr' _ e0, h3]
          simp only [if_true]
          omega
  obtain ⟨x, h1, h2, h3⟩ := key (rg n) fun c hc => mem_rg.1 hc
  have hall : ∀ c : Int, 0 ≤ c → c < n → inL (rg n ++ [b]) c = true := fun c c0 c1 => by simp [inL, mem_rg, c0, c1]
  have hs : ∀ S S' : BSet, (∀ c : Int, 0 ≤ c → c < n → S c = S' c) → sumF n x S = sumF n x S' := fun S S' hS => sm_congr fun c hc => by
    have := mem_rg.1 hc
    rw [hS c this.1 this.2]
  refine ⟨x, ⟨fun S => ?_, ?_⟩, h1⟩
  · have e : ∀ c : Int, 0 ≤ c → c < n → cap S (inL (rg n ++ [b])) c = S c := fun c c0 c1 => by simp [cap, hall c c0 c1]
    rw [← hs _ _ e, ← hF.congr e]
    exact h2 S
  · rw [← hs (inL (rg n ++ [b])) allB fun c c0 c1 => hall c c0 c1, ← hF.congr (S := inL (rg n ++ [b])) (S' := allB) fun c c0 c1 => hall c c0 c1]
    exact h3

theorem least_nat {p : Nat → Prop} {k : Nat} (h : p k) : ∃ j, p j ∧ ∀ i, i < j → ¬ p i := by
  induction k using Nat.strongRecOn with
  | _ k ih =>
    by_cases h1 : ∃ i, i < k ∧ p i
    · obtain ⟨i, hi, hp⟩ := h1
      exact ih i hi hp
    · exact ⟨k, h, fun i hi hp => h1 ⟨i, hi, hp⟩⟩

/-- a step back -/
theorem back {n : Nat} {a : Int → Int} {F : BSet → Int} (hF : Fits n a F) (h : Sub F) (h0 : F nilB = 0) {m : Mv} (hm : OkM n a m) {x' : Int → Int} (hx : Base n (fStep a F m) x') :
    ∃ x y, Base n F x ∧ 0 ≤ y ∧ m.g - (a m.fr - x m.fr) ≤ y ∧ y ≤ m.g ∧ y ≤ x m.fr ∧ mvx x m y = x' := by
  have g0 := hm.g0
  have hadd : ∀ A B : BSet, sumF n x' (cup A B) + sumF n x' (cap A B) = sumF n x' A + sumF n x' B := fun A B => by
    unfold sumF
    rw [← sm_add, ← sm_add]
    refine sm_congr fun b _ => ?_
    unfold cup cap
    cases A b <;> cases B b <;> simp
  have hg : ∀ S : BSet, S m.to = true → S m.fr = false → sumF n x' S - F S ≤ (m.g.toNat : Int) := fun S h1 h2 => by
    have := hx.le S
    unfold fStep at this
    rw [if_pos h1, if_neg (by simp [h2])] at this
    omega
  obtain ⟨y, hy, hmin⟩ := least_nat (p := fun y : Nat => ∀ S : BSet, S m.to = true → S m.fr = false → sumF n x' S - F S ≤ (y : Int)) hg
  have yg : (y : Int) ≤ m.g := by
    by_cases hc : y ≤ m.g.toNat
    · omega
    · exact absurd hg (hmin _ (by omega))
  have yB : ∀ B : BSet, B m.fr = true → B m.to = false → (y : Int) ≤ F B - sumF n x' B := fun B h1 h2 => by
    by_cases hy0 : y = 0
    · have := hx.le B
      unfold fStep at this
      rw [if_neg (by simp [h2]), if_pos h1] at this
      omega
    · have := hmin (y - 1) (by omega)
      obtain ⟨A, hA⟩ := Classical.not_forall.1 this
      obtain ⟨hA1, hA⟩ := Classical.not_imp.1 hA
      obtain ⟨hA2, hA⟩ := Classical.not_imp.1 hA
      have e1 := hadd A B
      have e2 := hx.le (cup A B)
      have e3 := hx.le (cap A B)
      have e4 := h A B
      unfold fStep at e2 e3
      rw [if_pos (by simp [cup, hA1]), if_pos (by simp [cup, h1])] at e2
      rw [if_neg (by simp [cap, h2]), if_neg (by simp [cap, hA2])] at e3
      omega
  have hsum : ∀ S : BSet, sumF n (fun b => x' b + (if b = m.fr then (y : Int) else 0) - (if b = m.to then (y : Int) else 0)) S = sumF n x' S + (if S m.fr then (y : Int) else 0) - (if S m.to then (y : Int) else 0) := fun S => by
    have h1 : sumF n (fun b => x' b + (if b = m.fr then (y : Int) else 0) - (if b = m.to then (y : Int) else 0)) S
        = sm (rg n) (fun b => (if S b then x' b else 0) + (if b = m.fr then (if S m.fr then (y : Int) else 0) else 0) - (if b = m.to then (if S m.to then (y : Int) else 0) else 0)) := by
      apply sm_congr
      intro b _
      dsimp only
      by_cases hb : b = m.fr
      · subst hb
        rw [if_pos rfl, if_pos rfl, if_neg hm.ne, if_neg hm.ne]
        by_cases h2 : S m.fr = true
        · simp [h2]
        · simp [h2]
      · rw [if_neg hb, if_neg hb]
        by_cases h2 : b = m.to
        · subst h2
          rw [if_pos rfl, if_pos rfl]
          by_cases h3 : S m.to = true
          · simp [h3]
          · simp [h3]
        · rw [if_neg h2, if_neg h2]
          by_cases h3 : S b = true
          · simp [h3]
          · simp [h3]
    rw [h1, sm_sub, sm_add, sm_one (rg_nodup n) (mem_rg.2 ⟨hm.f0, hm.f1⟩), sm_one (rg_nodup n) (mem_rg.2 ⟨hm.t0, hm.t1⟩)]
    rfl
  have hfr' : x' m.fr ≤ a m.fr - m.g := by
    have := hx.le (one m.fr)
    rw [sumF_one hm.f0 hm.f1] at this
    unfold fStep at this
    have e : drop1 (one m.fr) m.fr = nilB := funext fun d => by unfold drop1 one nilB; cases decide (d = m.fr) <;> rfl
    rw [if_neg (by simp [one]; exact fun e => hm.ne e.symm), if_pos (by simp [one]), e, h0] at this
    omega
  have hfr0 : 0 ≤ x' m.fr := by
    have e1 := hx.le (drop1 allB m.fr)
    have e2 := hx.eq
    have e3 := sumF_drop (a := x') hm.f0 hm.f1 (S := allB) rfl
    have e4 : fStep a F m (drop1 allB m.fr) ≤ fStep a F m allB := (hF.step hm).mono _ _ fun b _ _ _ => rfl
    omega
  refine ⟨fun b => x' b + (if b = m.fr then (y : Int) else 0) - (if b = m.to then (y : Int) else 0), y, ⟨fun S => ?_, ?_⟩, Int.natCast_nonneg _, ?_, yg, ?_, ?_⟩
  · rw [hsum]
    have e1 := hx.le S
    unfold fStep at e1
    by_cases ht : S m.to = true
    · by_cases hf : S m.fr = true
      · rw [if_pos ht, if_pos hf] at e1
        rw [if_pos ht, if_pos hf]; omega
      · have := hy S ht (by simpa using hf)
        rw [if_pos ht, if_neg hf]; omega
    · by_cases hf : S m.fr = true
      · have := yB S hf (by simpa using ht)
        rw [if_neg ht, if_pos hf]; omega
      · rw [if_neg ht, if_neg hf] at e1
        rw [if_neg ht, if_neg hf]; omega
  · rw [hsum]
    have e1 := hx.eq
    unfold fStep at e1
    rw [if_pos (show allB m.to = true from rfl), if_pos (show allB m.fr = true from rfl)] at e1
    rw [if_pos (show allB m.fr = true from rfl), if_pos (show allB m.to = true from rfl)]; omega
  · simp only [if_true, if_neg hm.ne]; omega
  · simp only [if_true, if_neg hm.ne]; omega
  · funext b
    unfold mvx mvd
    simp only
    by_cases hb : b = m.fr
    · subst hb; simp only [if_true, if_neg hm.ne]; omega
    · simp only [if_neg hb]
      split <;> omega

theorem way_to {n : Nat} {a : Int → Int} {F : BSet → Int} (hF : Fits n a F) (h : Sub F) (h0 : F nilB = 0) {l : List Mv} (hl : OkMs n a l) {x' : Int → Int} (hx : Base n (fRun a F l) x') :
    ∃ x xs, Base n F x ∧ isWay a x l xs ∧ ownAt x l xs = x' := by
  induction l generalizing a F with
  | nil => exact ⟨x', [], hx, trivial, rfl⟩
  | cons m l ih =>
    obtain ⟨x1, xs, h1, h2, h3⟩ := ih (hF.step hl.1) (h.step hF hl.1) (step_nil h0 m) hl.2 hx
    obtain ⟨x, y, e1, e2, e3, e4, e5, e6⟩ := back hF h h0 hl.1 h1
    refine ⟨x, y :: xs, e1, ⟨⟨e2, e3, e4, e5⟩, ?_⟩, ?_⟩
    · rw [e6]; exact h2
    · show ownAt (mvx x m y) l xs = x'
      rw [e6]; exact h3
theorem way_congr {n : Nat} {a own own' : Int → Int} {l : List Mv} (hl : OkMs n a l) (h : ∀ b : Int, 0 ≤ b → b < n → own b = own' b) {xs : List Int} (hx : isWay a own l xs) :
    isWay a own' l xs ∧ ∀ b : Int, 0 ≤ b → b < n → ownAt own l xs b = ownAt own' l xs b := by
  induction l generalizing a own own' xs with
  | nil => cases xs with
    | nil => exact ⟨trivial, h⟩
    | cons x xs => exact hx.elim
  | cons m l ih => cases xs with
    | nil => exact hx.elim
    | cons x xs =>
      obtain ⟨h2, h6⟩ := hx
      have e := h m.fr hl.1.f0 hl.1.f1
      rw [e] at h2
      obtain ⟨h8, h9⟩ := ih hl.2 (own' := mvx own' m x) (fun b b0 b1 => by
        have := h b b0 b1
        simp only [mvx, mvd]
        split <;> split <;> omega) h6
      exact ⟨⟨h2, h8⟩, h9⟩
theorem base_f0 {n : Nat} {own x : Int → Int} (h : Base n (f0 n own) x) {b : Int} (b0 : 0 ≤ b) (b1 : b < n) : x b = own b := by
  have e0 : ∀ S, f0 n own S = sumF n own S := fun _ => rfl
  have e1 := h.le (one b)
  have e2 := h.le (drop1 allB b)
  have e3 := h.eq
  rw [e0] at e1 e2 e3
  rw [sumF_one b0 b1, sumF_one b0 b1] at e1
  rw [sumF_drop b0 b1 rfl, sumF_drop b0 b1 rfl] at e2
  omega
/-- a way in which a batch has the most -/
theorem way_most {n : Nat} {bs : Int → Int} (hb : ∀ b, 0 ≤ bs b) {ms : List Mv} (hm : OkMs n bs ms) (l : List Int) {b : Int} (b0 : 0 ≤ b) (b1 : b < n) :
    ∃ xs, isWay bs (ownOf bs l) ms xs ∧ ownAt (ownOf bs l) ms xs b = mostF n bs l ms b := by
  have hF := fits_own (n := n) hb l
  have hrun : Sub (fRun bs (f0 n (ownOf bs l)) ms) ∧ fRun bs (f0 n (ownOf bs l)) ms nilB = 0 := by
    have gen : ∀ (a : Int → Int) (F : BSet → Int) (ms : List Mv), Fits n a F → Sub F → F nilB = 0 → OkMs n a ms → Sub (fRun a F ms) ∧ fRun a F ms nilB = 0 := by
      intro a F ms
      induction ms generalizing a F with
      | nil => intro _ h1 h2 _; exact ⟨h1, h2⟩
      | cons m ms ih => intro h1 h2 h3 h4; exact ih _ _ (h1.step h4.1) (h2.step h1 h4.1) (step_nil h3 m) h4.2
    refine gen _ _ _ hF (sub_f0 n _) ?_ hm
    unfold f0 nilB
    simp [sm_zero]
  obtain ⟨x, hx, hxb⟩ := greedy (hF.run hm) hrun.1 hrun.2 b0 b1
  have hn0 : f0 n (ownOf bs l) nilB = 0 := by
    unfold f0 nilB
    simp [sm_zero]
  obtain ⟨x0, xs, h1, h2, h3⟩ := way_to hF (sub_f0 n _) hn0 hm hx
  obtain ⟨h4, h5⟩ := way_congr hm (own' := ownOf bs l) (fun c c0 c1 => base_f0 h1 c0 c1) h2
  exact ⟨xs, h4, by rw [← h5 b b0 b1, h3, hxb]; rfl⟩
theorem own_rest {n : Nat} {bs : Int → Int} (l : List Int) {b : Int} (b0 : 0 ≤ b) (b1 : b < n) : bs b - ownOf bs (othersT n l) b = ownOf bs l b := by
  unfold ownOf
  by_cases h2 : b ∈ l
  · rw [if_pos h2, if_neg (fun h3 => (mem_others.1 h3).2 h2)]; omega
  · rw [if_neg h2, if_pos (mem_others.2 ⟨⟨b0, b1⟩, h2⟩)]; omega
/-- .. and the least -/
theorem way_least {n : Nat} {bs : Int → Int} (hb : ∀ b, 0 ≤ bs b) {ms : List Mv} (hm : OkMs n bs ms) (l : List Int) {b : Int} (b0 : 0 ≤ b) (b1 : b < n) :
    ∃ xs, isWay bs (ownOf bs l) ms xs ∧ ownAt (ownOf bs l) ms xs b = hasAt bs ms b - mostF n bs (othersT n l) ms b := by
  obtain ⟨xs, h1, h2⟩ := way_most hb hm (othersT n l) b0 b1
  obtain ⟨h3, h4⟩ := way_rest (own' := fun b => bs b - ownOf bs (othersT n l) b) (fun _ => rfl) h1
  obtain ⟨h5, h6⟩ := way_congr hm (own' := ownOf bs l) (fun c c0 c1 => own_rest l c0 c1) h3
  exact ⟨_, h5, by rw [← h6 b b0 b1, h4, h2]⟩
/-- a way goes on -/
theorem way_on {n : Nat} {a own : Int → Int} {l : List Mv} (hl : OkMs n a l) (h : ∀ b : Int, 0 ≤ b → b < n → 0 ≤ own b ∧ own b ≤ a b) : ∃ xs, isWay a own l xs := by
  induction l generalizing a own with
  | nil => exact ⟨[], trivial⟩
  | cons m l ih =>
    have h1 := h m.fr hl.1.f0 hl.1.f1
    have g0 := hl.1.g0
    have g1 := hl.1.g1
    obtain ⟨xs, hx⟩ := ih hl.2 (own := mvx own m (min m.g (own m.fr))) fun b b0 b1 => by
      have := h b b0 b1
      simp only [mvx, mvd]
      by_cases hb : b = m.fr
      · subst hb; simp only [if_true, if_neg hl.1.ne]; omega
      · simp only [if_neg hb]; split <;> omega
    exact ⟨min m.g (own m.fr) :: xs, ⟨by omega, by omega, by omega, by omega⟩, hx⟩
theorem way_append {a own : Int → Int} {l k : List Mv} {xs ys : List Int} (h1 : isWay a own l xs) (h2 : isWay (hasAt a l) (ownAt own l xs) k ys) : isWay a own (l ++ k) (xs ++ ys) := by
  induction l generalizing a own xs with
  | nil => cases xs with
    | nil => exact h2
    | cons x xs => exact h1.elim
  | cons m l ih => cases xs with
    | nil => exact h1.elim
    | cons x xs => exact ⟨h1.1, ih h1.2 h2⟩
theorem way_len {a own : Int → Int} {l : List Mv} {xs : List Int} (h : isWay a own l xs) : xs.length = l.length := by
  induction l generalizing a own xs with
  | nil => cases xs with
    | nil => rfl
    | cons x xs => exact h.elim
  | cons m l ih => cases xs with
    | nil => exact h.elim
    | cons x xs => simp only [List.length_cons, ih h.2]
theorem way_bounds {n : Nat} {a own : Int → Int} {l : List Mv} {xs : List Int} (hl : OkMs n a l) (hx : isWay a own l xs) (h : ∀ b : Int, 0 ≤ b → b < n → 0 ≤ own b ∧ own b ≤ a b) :
    ∀ b : Int, 0 ≤ b → b < n → 0 ≤ ownAt own l xs b ∧ ownAt own l xs b ≤ hasAt a l b := by
  induction l generalizing a own xs with
  | nil => cases xs with
    | nil => exact h
    | cons x xs => exact hx.elim
  | cons m l ih => cases xs with
    | nil => exact hx.elim
    | cons x xs =>
      obtain ⟨⟨h2, h3, h4, h5⟩, h6⟩ := hx
      refine ih hl.2 h6 fun b b0 b1 => ?_
      have := h b b0 b1
      have g1 := hl.1.g1
      simp only [mvx, mvd]
      by_cases hb : b = m.fr
      · subst hb; simp only [if_true, if_neg hl.1.ne]; omega
      · simp only [if_neg hb]; split <;> omega
/-- a way in which a move takes the most, and the least -/
theorem way_take {bs : List Int} {pre k : List Mv} {m : Mv} (hN : NetIn bs (pre ++ m :: k)) (l : List Int) :
    (∃ xs, isWay (bsF bs) (ownOf (bsF bs) l) (pre ++ m :: k) xs ∧ xs[pre.length]? = some (takeT bs l pre m).hi) ∧
    (∃ xs, isWay (bsF bs) (ownOf (bsF bs) l) (pre ++ m :: k) xs ∧ xs[pre.length]? = some (takeT bs l pre m).lo) := by
  have hm := OkMs.append.1 hN.ms
  have hm1 := hm.2.1
  have g0 := hm1.g0
  have g1 := hm1.g1
  have hown : ∀ b : Int, 0 ≤ b → b < bs.length → 0 ≤ ownOf (bsF bs) l b ∧ ownOf (bsF bs) l b ≤ bsF bs b := fun b _ _ => ⟨ownOf_nonneg hN.pos l b, ownOf_le hN.pos l b⟩
  have go : ∀ (xs : List Int) (x : Int), isWay (bsF bs) (ownOf (bsF bs) l) pre xs → 0 ≤ x → m.g - (hasAt (bsF bs) pre m.fr - ownAt (ownOf (bsF bs) l) pre xs m.fr) ≤ x → x ≤ m.g → x ≤ ownAt (ownOf (bsF bs) l) pre xs m.fr →
      ∃ ys, isWay (bsF bs) (ownOf (bsF bs) l) (pre ++ m :: k) ys ∧ ys[pre.length]? = some x := by
    intro xs x hx h1 h2 h3 h4
    have hb := way_bounds hm.1 hx hown
    obtain ⟨zs, hz⟩ := way_on hm.2.2 (own := mvx (ownAt (ownOf (bsF bs) l) pre xs) m x) fun b b0 b1 => by
      have := hb b b0 b1
      simp only [mvx, mvd]
      by_cases hb : b = m.fr
      · subst hb; simp only [if_true, if_neg hm1.ne]; omega
      · simp only [if_neg hb]; split <;> omega
    refine ⟨xs ++ x :: zs, way_append hx ⟨⟨h1, h2, h3, h4⟩, hz⟩, ?_⟩
    rw [← way_len hx]
    simp
  constructor
  · obtain ⟨xs, h1, h2⟩ := way_most hN.pos hm.1 l hm1.f0 hm1.f1
    have hb := way_bounds hm.1 h1 hown m.fr hm1.f0 hm1.f1
    rw [h2] at hb
    exact go xs _ h1 (by simp only [takeT]; omega) (by simp only [takeT]; rw [h2]; omega) (by simp only [takeT]; omega) (by simp only [takeT]; rw [h2]; omega)
  · obtain ⟨xs, h1, h2⟩ := way_least hN.pos hm.1 l hm1.f0 hm1.f1
    have hb := way_bounds hm.1 h1 hown m.fr hm1.f0 hm1.f1
    have hn := mostF_nonneg hN.pos hm.1 (othersT bs.length l) m.fr
    rw [h2] at hb
    exact go xs _ h1 (by simp only [takeT]; omega) (by simp only [takeT]; rw [h2]; omega) (by simp only [takeT]; omega) (by simp only [takeT]; rw [h2]; omega)
end Go.Proofs.Ytmoolcpogilgkaa
