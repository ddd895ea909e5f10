/-
  What is true of what may flow: no gram is lost, parts, more origins, origins of a batch, true ways; in plain words.
-/
import Derived.Test.YtmoolcpogilgkaaNet
set_option linter.unusedVariables false
set_option linter.unusedSimpArgs false
namespace Go.Proofs.Ytmoolcpogilgkaa

/- all goods -/
def sumF (n : Nat) (a : Int → Int) : BSet → Int := fun S => sm (rg n) fun b => if S b then a b else 0
theorem sumF_mvd {n : Nat} {a : Int → Int} {m : Mv} (hm : OkM n a m) (S : BSet) :
    sumF n (mvd a m) S = sumF n a S - (if S m.fr then m.g else 0) + (if S m.to then m.g else 0) := by
  have h1 : sumF n (mvd a m) S = sm (rg n) (fun b => (if S b then a b else 0) - (if b = m.fr then (if S m.fr then m.g else 0) else 0) + (if b = m.to then (if S m.to then m.g else 0) else 0)) := by
    apply sm_congr
    intro b _
    unfold mvd
    by_cases h1 : b = m.fr
    · subst h1
      rw [if_pos rfl, if_pos rfl, if_neg hm.ne, if_neg hm.ne]
      by_cases h2 : S m.fr = true
      · simp [h2]
      · simp [h2]
    · rw [if_neg h1, if_neg h1]
      by_cases h2 : b = m.to
      · subst h2
        rw [if_pos rfl, if_pos rfl]
        by_cases h3 : S m.to = true
        · simp [h3]
        · simp [h3]
      · rw [if_neg h2, if_neg h2]
        by_cases h3 : S b = true
        · simp [h3]
        · simp [h3]
  rw [h1, sm_add, sm_sub, sm_one (rg_nodup n) (mem_rg.2 ⟨hm.f0, hm.f1⟩), sm_one (rg_nodup n) (mem_rg.2 ⟨hm.t0, hm.t1⟩)]
  rfl
theorem sumF_put {n : Nat} {a : Int → Int} {x : Int} (h0 : 0 ≤ x) (h1 : x < n) {S : BSet} (hS : S x = false) : sumF n a (put S x) = sumF n a S + a x := by
  have : sumF n a (put S x) = sm (rg n) (fun b => (if S b then a b else 0) + (if b = x then a x else 0)) := by
    apply sm_congr
    intro b _
    by_cases h : b = x
    · subst h; simp [put, hS]
    · simp [put, h]
  rw [this, sm_add, sm_one (rg_nodup n) (mem_rg.2 ⟨h0, h1⟩)]
  rfl
theorem sumF_drop {n : Nat} {a : Int → Int} {x : Int} (h0 : 0 ≤ x) (h1 : x < n) {S : BSet} (hS : S x = true) : sumF n a (drop1 S x) = sumF n a S - a x := by
  have : sumF n a (drop1 S x) = sm (rg n) (fun b => (if S b then a b else 0) - (if b = x then a x else 0)) := by
    apply sm_congr
    intro b _
    by_cases h : b = x
    · subst h; simp [drop1, hS]
    · simp [drop1, h]
  rw [this, sm_sub, sm_one (rg_nodup n) (mem_rg.2 ⟨h0, h1⟩)]
  rfl
theorem sumF_one {n : Nat} {a : Int → Int} {x : Int} (h0 : 0 ≤ x) (h1 : x < n) : sumF n a (one x) = a x := by
  have : sumF n a (one x) = sm (rg n) (fun b => if b = x then a x else 0) := by
    apply sm_congr
    intro b _
    by_cases h : b = x
    · subst h; simp [one]
    · simp [one, h]
  rw [this, sm_one (rg_nodup n) (mem_rg.2 ⟨h0, h1⟩)]

theorem all_run {n : Nat} {a : Int → Int} {l : List Mv} (hl : OkMs n a l) {F : BSet → Int} (hF : ∀ S, F S = sumF n a S) (S : BSet) : fRun a F l S = sumF n (hasAt a l) S := by
  induction l generalizing a F with
  | nil => exact hF S
  | cons m l ih =>
    refine ih hl.2 fun S => ?_
    have hm := hl.1
    rw [sumF_mvd hm]
    unfold fStep
    have g0 := hm.g0
    have g1 := hm.g1
    by_cases ht : S m.to = true
    · rw [if_pos ht, if_pos ht]
      by_cases hf : S m.fr = true
      · rw [if_pos hf, if_pos hf, hF]; omega
      · rw [if_neg hf, if_neg hf, hF, hF, sumF_put hm.f0 hm.f1 (by simpa using hf)]; omega
    · rw [if_neg ht, if_neg ht]
      by_cases hf : S m.fr = true
      · rw [if_pos hf, if_pos hf, hF, hF, sumF_drop hm.f0 hm.f1 hf]; omega
      · rw [if_neg hf, if_neg hf, hF]; omega
theorem mostF_all {n : Nat} {bs : Int → Int} {ms : List Mv} (hm : OkMs n bs ms) {l : List Int} (hl : ∀ b : Int, 0 ≤ b → b < n → b ∈ l) {b : Int} (h0 : 0 ≤ b) (h1 : b < n) : mostF n bs l ms b = hasAt bs ms b := by
  unfold mostF
  rw [all_run hm, sumF_one h0 h1]
  intro S
  apply sm_congr
  intro b hb
  have := mem_rg.1 hb
  unfold ownOf
  rw [if_pos (hl b this.1 this.2)]
theorem none_run {n : Nat} {a : Int → Int} {l : List Mv} (hl : OkMs n a l) {F : BSet → Int} (hF : ∀ S, F S = 0) (S : BSet) : fRun a F l S = 0 := by
  induction l generalizing a F with
  | nil => exact hF S
  | cons m l ih =>
    refine ih hl.2 fun S => ?_
    have g0 := hl.1.g0
    have g1 := hl.1.g1
    unfold fStep
    simp only [hF]
    split <;> split <;> omega
theorem mostF_none {n : Nat} {bs : Int → Int} {ms : List Mv} (hm : OkMs n bs ms) (b : Int) : mostF n bs [] ms b = 0 := by
  unfold mostF
  refine none_run hm (fun S => ?_) _
  have : f0 n (ownOf bs []) S = sm (rg n) (fun _ => 0) := by
    apply sm_congr
    intro b _
    simp [ownOf]
  rw [this, sm_zero]

/- parts -/
theorem sorted_ext {l k : List Int} (hl : l.Pairwise (· < ·)) (hk : k.Pairwise (· < ·)) (h : ∀ x, x ∈ l ↔ x ∈ k) : l = k := by
  induction l generalizing k with
  | nil =>
    cases k with
    | nil => rfl
    | cons y k => exact absurd ((h y).2 (List.mem_cons_self ..)) (by simp)
  | cons x l ih =>
    cases k with
    | nil => exact absurd ((h x).1 (List.mem_cons_self ..)) (by simp)
    | cons y k =>
      have h1 := List.pairwise_cons.1 hl
      have h2 := List.pairwise_cons.1 hk
      have hxy : x = y := by
        rcases List.mem_cons.1 ((h x).1 (List.mem_cons_self ..)) with e | e
        · exact e
        · rcases List.mem_cons.1 ((h y).2 (List.mem_cons_self ..)) with e' | e'
          · exact e'.symm
          · have := h2.1 x e
            have := h1.1 y e'
            omega
      subst hxy
      congr 1
      refine ih h1.2 h2.2 fun z => ⟨fun hz => ?_, fun hz => ?_⟩
      · rcases List.mem_cons.1 ((h z).1 (List.mem_cons_of_mem _ hz)) with e | e
        · have := h1.1 z hz; omega
        · exact e
      · rcases List.mem_cons.1 ((h z).2 (List.mem_cons_of_mem _ hz)) with e | e
        · have := h2.1 z hz; omega
        · exact e
theorem others_others {n : Nat} {l : List Int} (h : OrgIn n l) : othersT n (othersT n l) = l := by
  refine sorted_ext (others_in n _).up h.up fun x => ?_
  rw [mem_others, mem_others]
  constructor
  · rintro ⟨h1, h2⟩
    by_cases hx : x ∈ l
    · exact hx
    · exact absurd ⟨h1, hx⟩ h2
  · intro hx
    exact ⟨h.rg x hx, fun h2 => h2.2 hx⟩

/- more -/
theorem step_mono {a : Int → Int} {F G : BSet → Int} (h : ∀ S, F S ≤ G S) (m : Mv) (S : BSet) : fStep a F m S ≤ fStep a G m S := by
  unfold fStep
  have h1 := h S
  have h2 := h (put S m.fr)
  have h3 := h (drop1 S m.fr)
  split <;> split <;> omega
theorem run_mono {a : Int → Int} {F G : BSet → Int} (h : ∀ S, F S ≤ G S) (l : List Mv) (S : BSet) : fRun a F l S ≤ fRun a G l S := by
  induction l generalizing a F G with
  | nil => exact h S
  | cons m l ih => exact ih fun S => step_mono h m S
theorem mostF_mono {n : Nat} {bs : Int → Int} (h : ∀ b, 0 ≤ bs b) {l k : List Int} (hlk : ∀ x ∈ l, x ∈ k) (ms : List Mv) (b : Int) : mostF n bs l ms b ≤ mostF n bs k ms b := by
  refine run_mono (fun S => sm_le fun b _ => ?_) ms _
  unfold ownOf
  have := h b
  by_cases h1 : S b = true
  · rw [if_pos h1, if_pos h1]
    by_cases h2 : b ∈ l
    · rw [if_pos h2, if_pos (hlk b h2)]; omega
    · rw [if_neg h2]; split <;> omega
  · rw [if_neg h1, if_neg h1]; omega
theorem others_mono {n : Nat} {l k : List Int} (hlk : ∀ x ∈ l, x ∈ k) : ∀ x ∈ othersT n k, x ∈ othersT n l := by
  intro x hx
  rw [mem_others] at hx ⊢
  exact ⟨hx.1, fun h => hx.2 (hlk x h)⟩
theorem thr_hit_mono {bs : List Int} (h : ∀ b, 0 ≤ bsF bs b) {l k : List Int} (hlk : ∀ x ∈ l, x ∈ k) (b : Int) (ms pre : List Mv) :
    hitT b ms (thrT bs l pre ms) = true → hitT b ms (thrT bs k pre ms) = true := by
  induction ms generalizing pre with
  | nil => intro h; exact h
  | cons m ms ih =>
    intro h1
    simp only [thrT, hitT, Bool.or_eq_true, Bool.and_eq_true, decide_eq_true_eq] at h1 ⊢
    rcases h1 with ⟨h2, h3⟩ | h2
    · left
      refine ⟨h2, ?_⟩
      have := mostF_mono (n := bs.length) h hlk pre m.fr
      simp only [takeT] at h3 ⊢
      omega
    · exact Or.inr (ih _ h2)
theorem recall_mono {bs : List Int} (h : ∀ b, 0 ≤ bsF bs b) {l k : List Int} (hlk : ∀ x ∈ l, x ∈ k) (ms : List Mv) : ∀ x ∈ recallT bs ms l, x ∈ recallT bs ms k := by
  intro x hx
  unfold recallT at hx ⊢
  rw [List.mem_filter] at hx ⊢
  refine ⟨hx.1, ?_⟩
  have h2 := hx.2
  simp only [Bool.or_eq_true, Bool.and_eq_true, decide_eq_true_eq] at h2 ⊢
  rcases h2 with h3 | h3
  · exact Or.inl ⟨hlk x h3.1, h3.2⟩
  · exact Or.inr (thr_hit_mono h hlk x ms [] h3)

/- together no more than one by one -/
theorem step_add {n : Nat} {a : Int → Int} {F G K : BSet → Int} {m : Mv} (hm : OkM n a m) (hF : Fits n a F) (hG : Fits n a G) (h : ∀ S, K S ≤ F S + G S) (S : BSet) : fStep a K m S ≤ fStep a F m S + fStep a G m S := by
  have g0 := hm.g0
  have g1 := hm.g1
  have h1 := h S
  have h2 := h (put S m.fr)
  have h3 := h (drop1 S m.fr)
  have f1 := hF.mono S (put S m.fr) fun b _ _ hb => by simp [put, hb]
  have f2 := hF.mono (drop1 S m.fr) S fun b _ _ hb => by simp [drop1] at hb; exact hb.1
  have e1 := hG.mono S (put S m.fr) fun b _ _ hb => by simp [put, hb]
  have e2 := hG.mono (drop1 S m.fr) S fun b _ _ hb => by simp [drop1] at hb; exact hb.1
  unfold fStep
  split <;> split <;> omega
theorem run_add {n : Nat} {a : Int → Int} {l : List Mv} (hl : OkMs n a l) {F G K : BSet → Int} (hF : Fits n a F) (hG : Fits n a G) (h : ∀ S, K S ≤ F S + G S) (S : BSet) : fRun a K l S ≤ fRun a F l S + fRun a G l S := by
  induction l generalizing a F G K with
  | nil => exact h S
  | cons m l ih => exact ih hl.2 (hF.step hl.1) (hG.step hl.1) fun S => step_add hl.1 hF hG h S
theorem f0_add {n : Nat} {u v x : Int → Int} (h : ∀ b, u b ≤ v b + x b) (S : BSet) : f0 n u S ≤ f0 n v S + f0 n x S := by
  unfold f0
  rw [← sm_add]
  refine sm_le fun b _ => ?_
  have := h b
  split <;> omega
theorem mostF_add {n : Nat} {bs : Int → Int} (h : ∀ b, 0 ≤ bs b) {ms : List Mv} (hm : OkMs n bs ms) {l k j : List Int} (hj : ∀ x ∈ j, x ∈ l ∨ x ∈ k) (b : Int) : mostF n bs j ms b ≤ mostF n bs l ms b + mostF n bs k ms b := by
  refine run_add hm (fits_own h l) (fits_own h k) (fun S => f0_add (fun b => ?_) S) _
  unfold ownOf
  have := h b
  by_cases h1 : b ∈ j
  · rw [if_pos h1]
    rcases hj b h1 with h2 | h2
    · rw [if_pos h2]; split <;> omega
    · rw [if_pos h2]; split <;> omega
  · rw [if_neg h1]; split <;> split <;> omega
theorem mostF_each {n : Nat} {bs : Int → Int} (h : ∀ b, 0 ≤ bs b) {ms : List Mv} (hm : OkMs n bs ms) {l : List Int} {b : Int} (h0 : ∀ o ∈ l, mostF n bs [o] ms b ≤ 0) : mostF n bs l ms b ≤ 0 := by
  induction l with
  | nil => rw [mostF_none hm]; omega
  | cons x l ih =>
    have h1 := mostF_add h hm (l := [x]) (k := l) (j := x :: l) (fun y hy => by rcases List.mem_cons.1 hy with rfl | h2; exact Or.inl (by simp); exact Or.inr h2) b
    have h2 := h0 x (List.mem_cons_self ..)
    have h3 := ih fun o ho => h0 o (List.mem_cons_of_mem _ ho)
    omega

/- true ways: how many grams of some goods each move takes -/
def mvx (own : Int → Int) (m : Mv) (x : Int) : Int → Int := mvd own ⟨m.fr, m.to, x⟩
def isWay (a own : Int → Int) : List Mv → List Int → Prop
  | [], [] => True
  | m :: l, x :: xs => (0 ≤ x ∧ m.g - (a m.fr - own m.fr) ≤ x ∧ x ≤ m.g ∧ x ≤ own m.fr) ∧ isWay (mvd a m) (mvx own m x) l xs
  | _, _ => False
def ownAt (own : Int → Int) : List Mv → List Int → Int → Int
  | m :: l, x :: xs => ownAt (mvx own m x) l xs
  | _, _ => own
structure Under (n : Nat) (F : BSet → Int) (own : Int → Int) : Prop where
  le : ∀ S, sumF n own S ≤ F S
theorem sumF_mvx {n : Nat} {a own : Int → Int} {m : Mv} (hm : OkM n a m) (x : Int) (S : BSet) :
    sumF n (mvx own m x) S = sumF n own S - (if S m.fr then x else 0) + (if S m.to then x else 0) := by
  have h1 : sumF n (mvx own m x) S = sm (rg n) (fun b => (if S b then own b else 0) - (if b = m.fr then (if S m.fr then x else 0) else 0) + (if b = m.to then (if S m.to then x else 0) else 0)) := by
    apply sm_congr
    intro b _
    unfold mvx mvd
    by_cases h1 : b = m.fr
    · subst h1
      rw [if_pos rfl, if_pos rfl, if_neg hm.ne, if_neg hm.ne]
      by_cases h2 : S m.fr = true
      · simp [h2]
      · simp [h2]
    · rw [if_neg h1, if_neg h1]
      by_cases h2 : b = m.to
      · subst h2
        rw [if_pos rfl, if_pos rfl]
        by_cases h3 : S m.to = true
        · simp [h3]
        · simp [h3]
      · rw [if_neg h2, if_neg h2]
        by_cases h3 : S b = true
        · simp [h3]
        · simp [h3]
  rw [h1, sm_add, sm_sub, sm_one (rg_nodup n) (mem_rg.2 ⟨hm.f0, hm.f1⟩), sm_one (rg_nodup n) (mem_rg.2 ⟨hm.t0, hm.t1⟩)]
  rfl
theorem Under.step {n : Nat} {a own : Int → Int} {F : BSet → Int} (h : Under n F own) {m : Mv} (hm : OkM n a m) {x : Int} (h0 : 0 ≤ x) (h1 : m.g - (a m.fr - own m.fr) ≤ x) (h2 : x ≤ m.g) (h3 : x ≤ own m.fr) : Under n (fStep a F m) (mvx own m x) := by
  refine ⟨fun S => ?_⟩
  rw [sumF_mvx hm]
  have e1 := h.le S
  have e2 := h.le (put S m.fr)
  have e3 := h.le (drop1 S m.fr)
  unfold fStep
  by_cases ht : S m.to = true
  · rw [if_pos ht, if_pos ht]
    by_cases hf : S m.fr = true
    · rw [if_pos hf, if_pos hf]; omega
    · rw [if_neg hf, if_neg hf]
      rw [sumF_put hm.f0 hm.f1 (by simpa using hf)] at e2
      omega
  · rw [if_neg ht, if_neg ht]
    by_cases hf : S m.fr = true
    · rw [if_pos hf, if_pos hf]
      rw [sumF_drop hm.f0 hm.f1 hf] at e3
      omega
    · rw [if_neg hf, if_neg hf]; omega
theorem Under.run {n : Nat} {a own : Int → Int} {F : BSet → Int} (h : Under n F own) {l : List Mv} (hl : OkMs n a l) {xs : List Int} (hx : isWay a own l xs) : Under n (fRun a F l) (ownAt own l xs) := by
  induction l generalizing a own F xs with
  | nil => cases xs with
    | nil => exact h
    | cons x xs => exact hx.elim
  | cons m l ih => cases xs with
    | nil => exact hx.elim
    | cons x xs => exact ih (h.step hl.1 hx.1.1 hx.1.2.1 hx.1.2.2.1 hx.1.2.2.2) hl.2 hx.2
/-- the others' way -/
theorem way_rest {a own own' : Int → Int} (h : ∀ b, own' b = a b - own b) {l : List Mv} {xs : List Int} (hx : isWay a own l xs) :
    isWay a own' l (List.zipWith (fun m x => m.g - x) l xs) ∧ ∀ b, ownAt own' l (List.zipWith (fun m x => m.g - x) l xs) b = hasAt a l b - ownAt own l xs b := by
  induction l generalizing a own own' xs with
  | nil => cases xs with
    | nil => exact ⟨trivial, h⟩
    | cons x xs => exact hx.elim
  | cons m l ih => cases xs with
    | nil => exact hx.elim
    | cons x xs =>
      have h1 := h m.fr
      obtain ⟨⟨h2, h3, h4, h5⟩, h6⟩ := hx
      have h7 : ∀ b, mvx own' m (m.g - x) b = mvd a m b - mvx own m x b := fun b => by
        have := h b
        simp only [mvx, mvd]
        split <;> split <;> omega
      obtain ⟨h8, h9⟩ := ih h7 h6
      refine ⟨⟨⟨?_, ?_, ?_, ?_⟩, h8⟩, h9⟩ <;> simp only <;> omega
/-- what the moves take -/
def Within (s : Span) (x : Int) : Prop := s.lo ≤ x ∧ x ≤ s.hi
theorem way_own {n : Nat} {bs : List Int} {ms : List Mv} (hN : NetIn bs ms) (l : List Int) {xs : List Int} (hx : isWay (bsF bs) (ownOf (bsF bs) l) ms xs) {b : Int} (h0 : 0 ≤ b) (h1 : b < bs.length) :
    Within (mayT bs l ms b) (ownAt (ownOf (bsF bs) l) ms xs b) := by
  have u1 : Under bs.length (f0 bs.length (ownOf (bsF bs) l)) (ownOf (bsF bs) l) := ⟨fun S => Int.le_refl _⟩
  have r1 := (u1.run hN.ms hx).le (one b)
  rw [sumF_one h0 h1] at r1
  have hc : ∀ b, (fun b => bsF bs b - ownOf (bsF bs) l b) b = bsF bs b - ownOf (bsF bs) l b := fun _ => rfl
  obtain ⟨hx2, ha⟩ := way_rest hc hx
  have u2 : Under bs.length (f0 bs.length (ownOf (bsF bs) (othersT bs.length l))) (fun b => bsF bs b - ownOf (bsF bs) l b) := ⟨fun S => by
    refine Int.le_of_eq (sm_congr fun b hb => ?_)
    have := mem_rg.1 hb
    simp only [ownOf]
    by_cases h2 : b ∈ l
    · rw [if_pos h2, if_neg (fun h3 => (mem_others.1 h3).2 h2)]
      split <;> omega
    · rw [if_neg h2, if_pos (mem_others.2 ⟨this, h2⟩)]
      split <;> omega⟩
  have r2 := (u2.run hN.ms hx2).le (one b)
  rw [sumF_one h0 h1, ha] at r2
  simp only [Within, mayT, mostF]
  omega
def inAll : List Span → List Int → Prop
  | [], [] => True
  | s :: ss, x :: xs => Within s x ∧ inAll ss xs
  | _, _ => False
theorem under_one {n : Nat} {F : BSet → Int} {own : Int → Int} (h : Under n F own) {b : Int} (h0 : 0 ≤ b) (h1 : b < n) : own b ≤ F (one b) := by
  have := h.le (one b)
  rwa [sumF_one h0 h1] at this
theorem way_thr {bs : List Int} {l : List Int} {ms pre : List Mv} {own : Int → Int} {xs : List Int} (hm : OkMs bs.length (hasAt (bsF bs) pre) ms)
    (u1 : Under bs.length (fRun (bsF bs) (f0 bs.length (ownOf (bsF bs) l)) pre) own)
    (u2 : Under bs.length (fRun (bsF bs) (f0 bs.length (ownOf (bsF bs) (othersT bs.length l))) pre) (fun b => hasAt (bsF bs) pre b - own b))
    (hx : isWay (hasAt (bsF bs) pre) own ms xs) : inAll (thrT bs l pre ms) xs := by
  induction ms generalizing pre own xs with
  | nil => cases xs with
    | nil => trivial
    | cons x xs => exact hx.elim
  | cons m ms ih => cases xs with
    | nil => exact hx.elim
    | cons x xs =>
      obtain ⟨⟨h2, h3, h4, h5⟩, h6⟩ := hx
      have o1 := under_one u1 hm.1.f0 hm.1.f1
      have o2 := under_one u2 hm.1.f0 hm.1.f1
      have ea : hasAt (bsF bs) (pre ++ [m]) = mvd (hasAt (bsF bs) pre) m := by rw [hasAt_append]; rfl
      refine ⟨?_, ih (pre := pre ++ [m]) (own := mvx own m x) (by rw [ea]; exact hm.2) ?_ ?_ (by rw [ea]; exact h6)⟩
      · simp only [Within, takeT, mostF]
        omega
      · have := u1.step hm.1 h2 h3 h4 h5
        rw [fRun_append]
        exact this
      · have := u2.step hm.1 (x := m.g - x) (by omega) (by omega) (by omega) (by omega)
        rw [fRun_append]
        refine ⟨fun S => Int.le_trans (Int.le_of_eq (sm_congr fun b _ => ?_)) (this.le S)⟩
        rw [ea]
        have e : ∀ b, mvx (fun b => hasAt (bsF bs) pre b - own b) m (m.g - x) b = mvd (hasAt (bsF bs) pre) m b - mvx own m x b := fun b => by
          simp only [mvx, mvd]
          split <;> split <;> omega
        rw [e b]
theorem way_own0 {n : Nat} {bs : Int → Int} (l : List Int) : Under n (f0 n (ownOf bs l)) (ownOf bs l) ∧ Under n (f0 n (ownOf bs (othersT n l))) (fun b => bs b - ownOf bs l b) := by
  refine ⟨⟨fun S => Int.le_refl _⟩, ⟨fun S => Int.le_of_eq (sm_congr fun b hb => ?_)⟩⟩
  have := mem_rg.1 hb
  simp only [ownOf]
  by_cases h2 : b ∈ l
  · rw [if_pos h2, if_neg (fun h3 => (mem_others.1 h3).2 h2)]
    split <;> omega
  · rw [if_neg h2, if_pos (mem_others.2 ⟨this, h2⟩)]
    split <;> omega
theorem way_through {bs : List Int} {ms : List Mv} (hN : NetIn bs ms) (l : List Int) {xs : List Int} (hx : isWay (bsF bs) (ownOf (bsF bs) l) ms xs) : inAll (throughT bs ms l) xs :=
  way_thr (pre := []) hN.ms (way_own0 l).1 (way_own0 l).2 hx
/-- whether a batch had some at any time -/
def hitX (b : Int) : List Mv → List Int → Bool
  | m :: k, x :: xs => (decide (m.to = b) && decide (0 < x)) || hitX b k xs
  | _, _ => false
theorem hit_of {b : Int} {ms : List Mv} {ss : List Span} {xs : List Int} (h : inAll ss xs) (hx : hitX b ms xs = true) : hitT b ms ss = true := by
  induction ms generalizing ss xs with
  | nil => simp [hitX] at hx
  | cons m ms ih =>
    cases xs with
    | nil => simp [hitX] at hx
    | cons x xs =>
      cases ss with
      | nil => exact h.elim
      | cons s ss =>
        obtain ⟨⟨_, h1⟩, h2⟩ := h
        simp only [hitX, hitT, Bool.or_eq_true, Bool.and_eq_true, decide_eq_true_eq] at hx ⊢
        rcases hx with h3 | h3
        · exact Or.inl ⟨h3.1, by omega⟩
        · exact Or.inr (ih h2 h3)
def hadT (bs : List Int) (ms : List Mv) (l xs : List Int) (b : Int) : Bool := (decide (b ∈ l) && decide (0 < bsF bs b)) || hitX b ms xs
theorem way_had {bs : List Int} {ms : List Mv} (hN : NetIn bs ms) (l : List Int) {xs : List Int} (hx : isWay (bsF bs) (ownOf (bsF bs) l) ms xs) {b : Int} (h0 : 0 ≤ b) (h1 : b < bs.length) (h : hadT bs ms l xs b = true) : b ∈ recallT bs ms l := by
  unfold recallT
  rw [List.mem_filter]
  refine ⟨mem_rg.2 ⟨h0, h1⟩, ?_⟩
  unfold hadT at h
  rw [Bool.or_eq_true] at h ⊢
  rcases h with h2 | h2
  · exact Or.inl h2
  · exact Or.inr (hit_of (way_through hN l hx) h2)
end Go.Proofs.Ytmoolcpogilgkaa
