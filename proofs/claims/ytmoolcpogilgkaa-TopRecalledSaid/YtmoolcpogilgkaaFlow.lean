/-
  What may flow through a net in layers, in plain words: sums over lists, what is left of the room of edges, cuts, and the least cut by recursion.
-/
import Derived.Test.YtmoolcpogilgkaaBase
set_option linter.unusedVariables false
set_option linter.unusedSimpArgs false
namespace Go.Proofs.Ytmoolcpogilgkaa

def sm {α : Type} : List α → (α → Int) → Int
  | [], _ => 0
  | x :: l, f => f x + sm l f
theorem sm_congr {α : Type} {l : List α} {f g : α → Int} (h : ∀ x ∈ l, f x = g x) : sm l f = sm l g := by
  induction l with
  | nil => rfl
  | cons x l ih =>
    simp only [sm]
    rw [h x (List.mem_cons_self ..), ih fun y hy => h y (List.mem_cons_of_mem _ hy)]
theorem sm_add {α : Type} (l : List α) (f g : α → Int) : sm l (fun x => f x + g x) = sm l f + sm l g := by
  induction l with
  | nil => rfl
  | cons x l ih => simp only [sm, ih]; omega
theorem sm_neg {α : Type} (l : List α) (f : α → Int) : sm l (fun x => - f x) = - sm l f := by
  induction l with
  | nil => rfl
  | cons x l ih => simp only [sm, ih]; omega
theorem sm_sub {α : Type} (l : List α) (f g : α → Int) : sm l (fun x => f x - g x) = sm l f - sm l g := by
  induction l with
  | nil => rfl
  | cons x l ih => simp only [sm, ih]; omega
theorem sm_zero {α : Type} (l : List α) : sm l (fun _ => 0) = 0 := by
  induction l with
  | nil => rfl
  | cons x l ih => simp only [sm, ih]; omega
theorem sm_le {α : Type} {l : List α} {f g : α → Int} (h : ∀ x ∈ l, f x ≤ g x) : sm l f ≤ sm l g := by
  induction l with
  | nil => exact Int.le_refl _
  | cons x l ih =>
    simp only [sm]
    have h1 := h x (List.mem_cons_self ..)
    have h2 := ih fun y hy => h y (List.mem_cons_of_mem _ hy)
    omega
theorem sm_nonneg {α : Type} {l : List α} {f : α → Int} (h : ∀ x ∈ l, 0 ≤ f x) : 0 ≤ sm l f := by
  have h1 := sm_le (f := fun _ => 0) (g := f) h
  rwa [sm_zero] at h1
theorem sm_append {α : Type} (l k : List α) (f : α → Int) : sm (l ++ k) f = sm l f + sm k f := by
  induction l with
  | nil => simp [sm]
  | cons x l ih => simp only [List.cons_append, sm, ih]; omega
theorem sm_map {α β : Type} (l : List α) (g : α → β) (f : β → Int) : sm (l.map g) f = sm l (fun x => f (g x)) := by
  induction l with
  | nil => rfl
  | cons x l ih => simp only [List.map_cons, sm, ih]
theorem sm_swap {α β : Type} (l : List α) (k : List β) (f : α → β → Int) : sm l (fun x => sm k (f x)) = sm k (fun y => sm l (fun x => f x y)) := by
  induction l with
  | nil => simp only [sm, sm_zero]
  | cons x l ih =>
    simp only [sm]
    rw [ih, ← sm_add]
theorem sm_none {α : Type} [DecidableEq α] {l : List α} {a : α} (ha : a ∉ l) (n : Int) : sm l (fun x => if x = a then n else 0) = 0 := by
  induction l with
  | nil => rfl
  | cons x l ih =>
    simp only [List.mem_cons, not_or] at ha
    simp only [sm]
    rw [if_neg fun h => ha.1 h.symm, ih ha.2]; rfl
theorem sm_one {α : Type} [DecidableEq α] {l : List α} (hn : l.Nodup) {a : α} (ha : a ∈ l) (n : Int) : sm l (fun x => if x = a then n else 0) = n := by
  induction l with
  | nil => cases ha
  | cons x l ih =>
    rw [List.nodup_cons] at hn
    simp only [sm]
    by_cases h : x = a
    · subst h
      rw [if_pos rfl, sm_none hn.1]; omega
    · rw [if_neg h, ih hn.2 (by rcases List.mem_cons.1 ha with h1 | h1; exact absurd h1.symm h; exact h1)]; omega

/- What is left of the room: R after flowing from what was room at first (cap); D is how much more has gone out of each node than came in. -/
structure ResD {V : Type} [DecidableEq V] (vs : List V) (cap R : V → V → Int) (D : V → Int) : Prop where
  nn : ∀ u v, 0 ≤ R u v
  sy : ∀ u v, R u v + R v u = cap u v + cap v u
  dv : ∀ u ∈ vs, sm vs (fun v => cap u v - R u v) = D u

def updR {V : Type} [DecidableEq V] (R : V → V → Int) (u v : V) (n : Int) : V → V → Int :=
  fun a b => R a b + (if a = u ∧ b = v then n else 0)
def pushR {V : Type} [DecidableEq V] (R : V → V → Int) (u v : V) (n : Int) : V → V → Int := updR (updR R u v (-n)) v u n
def pushD {V : Type} [DecidableEq V] (D : V → Int) (u v : V) (n : Int) : V → Int :=
  fun a => D a + (if a = u then n else 0) - (if a = v then n else 0)

theorem ResD.start {V : Type} [DecidableEq V] {vs : List V} {cap : V → V → Int} (h : ∀ u v, 0 ≤ cap u v) : ResD vs cap cap (fun _ => 0) := by
  refine ⟨h, fun _ _ => rfl, fun u _ => ?_⟩
  rw [sm_congr (g := fun _ => 0) (fun x _ => by omega), sm_zero]

theorem sm_at {V : Type} [DecidableEq V] {vs : List V} (hn : vs.Nodup) {v : V} (hv : v ∈ vs) (a u : V) (n : Int) :
    sm vs (fun b => if a = u ∧ b = v then n else 0) = if a = u then n else 0 := by
  by_cases h : a = u
  · rw [if_pos h, sm_congr (g := fun b => if b = v then n else 0) (fun x _ => by simp [h]), sm_one hn hv]
  · rw [if_neg h, sm_congr (g := fun _ => 0) (fun x _ => by simp [h]), sm_zero]

theorem ResD.push {V : Type} [DecidableEq V] {vs : List V} {cap R : V → V → Int} {D : V → Int} (h : ResD vs cap R D) (hn : vs.Nodup) {u v : V} (hu : u ∈ vs) (hv : v ∈ vs)
    {n : Int} (h0 : 0 ≤ n) (h1 : n ≤ R u v) : ResD vs cap (pushR R u v n) (pushD D u v n) := by
  refine ⟨fun a b => ?_, fun a b => ?_, fun a ha => ?_⟩
  · have h2 := h.nn a b
    unfold pushR updR
    by_cases h3 : a = u ∧ b = v
    · obtain ⟨rfl, rfl⟩ := h3
      simp only [and_self, if_true]
      split <;> omega
    · rw [if_neg h3]; split <;> omega
  · have h2 := h.sy a b
    unfold pushR updR
    by_cases h3 : a = u ∧ b = v <;> by_cases h4 : b = u ∧ a = v
    · obtain ⟨rfl, rfl⟩ := h3; obtain ⟨rfl, -⟩ := h4
      simp; omega
    · have h5 : ¬ (b = u ∧ a = v) := h4
      have h6 : (b = v ∧ a = u) := ⟨h3.2, h3.1⟩
      have h7 : ¬ (a = v ∧ b = u) := fun h => h4 ⟨h.2, h.1⟩
      rw [if_pos h3, if_neg h7, if_neg h5, if_pos h6]; omega
    · have h6 : ¬ (b = v ∧ a = u) := fun h => h3 ⟨h.2, h.1⟩
      have h7 : (a = v ∧ b = u) := ⟨h4.2, h4.1⟩
      rw [if_neg h3, if_pos h7, if_pos h4, if_neg h6]; omega
    · have h6 : ¬ (b = v ∧ a = u) := fun h => h3 ⟨h.2, h.1⟩
      have h7 : ¬ (a = v ∧ b = u) := fun h => h4 ⟨h.2, h.1⟩
      rw [if_neg h3, if_neg h7, if_neg h4, if_neg h6]; omega
  · have h2 := h.dv a ha
    unfold pushR updR pushD
    rw [sm_congr (g := fun b => (cap a b - R a b) - ((if a = u ∧ b = v then -n else 0) + (if a = v ∧ b = u then n else 0))) (fun x _ => by omega), sm_sub, sm_add,
      sm_at hn hv, sm_at hn hu, h2]
    by_cases h3 : a = u <;> by_cases h4 : a = v <;> simp only [h3, h4, if_true, if_false] <;> (try simp only [if_pos, if_neg, h3, h4]) <;> (try split) <;> omega

/-- What has flowed is what flows over a cut. -/
theorem ResD.over {V : Type} [DecidableEq V] {vs : List V} {cap R : V → V → Int} {D : V → Int} (h : ResD vs cap R D) (hn : vs.Nodup) {s z : V} {tot : Int}
    (hD : ∀ u ∈ vs, D u = (if u = s then tot else 0) - (if u = z then tot else 0)) (hs : s ∈ vs) (B : V → Bool) (Bs : B s = false) (Bz : B z = true) :
    tot = sm vs (fun u => if B u then 0 else sm vs (fun v => if B v then cap u v - R u v else 0)) := by
  have h1 : sm vs (fun u => if B u then 0 else sm vs (fun v => cap u v - R u v)) = tot := by
    rw [sm_congr (g := fun u => if u = s then tot else 0) (fun u hu => ?_), sm_one hn hs]
    cases hB : B u
    · rw [h.dv u hu, hD u hu]
      have h2 : u ≠ z := fun h => by rw [h, Bz] at hB; cases hB
      simp [h2]
    · have h2 : u ≠ s := fun h => by rw [h, Bs] at hB; cases hB
      simp [h2]
  have h2 : sm vs (fun u => if B u then 0 else sm vs (fun v => cap u v - R u v))
      = sm vs (fun u => if B u then 0 else sm vs (fun v => if B v then cap u v - R u v else 0))
        + sm vs (fun u => sm vs (fun v => if B u || B v then 0 else cap u v - R u v)) := by
    rw [← sm_add]
    refine sm_congr fun u _ => ?_
    cases hB : B u
    · simp only [Bool.false_or, Bool.false_eq_true, if_false]
      rw [← sm_add]
      refine sm_congr fun v _ => ?_
      cases B v <;> simp
    · simp [sm_zero]
  have h3 : sm vs (fun u => sm vs (fun v => if B u || B v then 0 else cap u v - R u v)) = - sm vs (fun u => sm vs (fun v => if B u || B v then 0 else cap u v - R u v)) := by
    conv => lhs; rw [sm_swap]
    rw [← sm_neg]
    refine sm_congr fun u _ => ?_
    rw [← sm_neg]
    refine sm_congr fun v _ => ?_
    have h4 := h.sy u v
    rw [Bool.or_comm (B u) (B v)]
    cases B v || B u
    · simp; omega
    · simp
  omega

/- Edges -/
def capE {V : Type} [DecidableEq V] (E : List (V × V × Int)) (u v : V) : Int := sm E (fun e => if e.1 = u ∧ e.2.1 = v then e.2.2 else 0)
def cutE {V : Type} (B : V → Bool) (E : List (V × V × Int)) : Int := sm E (fun e => if B e.1 = false ∧ B e.2.1 = true then e.2.2 else 0)
theorem capE_nonneg {V : Type} [DecidableEq V] {E : List (V × V × Int)} (h : ∀ e ∈ E, 0 ≤ e.2.2) (u v : V) : 0 ≤ capE E u v := by
  refine sm_nonneg fun e he => ?_
  have := h e he
  split <;> omega
theorem capE_cons {V : Type} [DecidableEq V] (e : V × V × Int) (E : List (V × V × Int)) (u v : V) : capE (e :: E) u v = (if e.1 = u ∧ e.2.1 = v then e.2.2 else 0) + capE E u v := rfl
theorem cutE_cons {V : Type} (B : V → Bool) (e : V × V × Int) (E : List (V × V × Int)) : cutE B (e :: E) = (if B e.1 = false ∧ B e.2.1 = true then e.2.2 else 0) + cutE B E := rfl
theorem cutE_append {V : Type} (B : V → Bool) (E E' : List (V × V × Int)) : cutE B (E ++ E') = cutE B E + cutE B E' := sm_append ..

theorem cutE_eq {V : Type} [DecidableEq V] {vs : List V} (hn : vs.Nodup) (B : V → Bool) {E : List (V × V × Int)} (hE : ∀ e ∈ E, e.1 ∈ vs ∧ e.2.1 ∈ vs) :
    sm vs (fun u => if B u then 0 else sm vs (fun v => if B v then capE E u v else 0)) = cutE B E := by
  induction E with
  | nil =>
    refine (sm_congr (g := fun _ => 0) fun u _ => ?_).trans (sm_zero vs)
    split
    · rfl
    · rw [sm_congr (g := fun _ => 0) (fun v _ => by simp [capE, sm]), sm_zero]
  | cons e E ih =>
    rw [cutE_cons, ← ih fun x hx => hE x (List.mem_cons_of_mem _ hx)]
    obtain ⟨h1, h2⟩ := hE e (List.mem_cons_self ..)
    have h3 : sm vs (fun u => if B u then 0 else sm vs (fun v => if B v then capE (e :: E) u v else 0))
        = sm vs (fun u => if u = e.1 then (if B e.1 = false ∧ B e.2.1 = true then e.2.2 else 0) else 0)
          + sm vs (fun u => if B u then 0 else sm vs (fun v => if B v then capE E u v else 0)) := by
      rw [← sm_add]
      refine sm_congr fun u hu => ?_
      cases hB : B u
      · simp only [Bool.false_eq_true, if_false, capE_cons]
        rw [sm_congr (g := fun v => (if v = e.2.1 then (if u = e.1 ∧ B e.2.1 = true then e.2.2 else 0) else 0) + (if B v then capE E u v else 0)) (fun v _ => ?_), sm_add, sm_one hn h2]
        · congr 1
          by_cases h4 : u = e.1
          · simp [h4, h4 ▸ hB]
          · simp [h4]
        · by_cases h5 : v = e.2.1
          · subst h5
            cases hv : B e.2.1
            · simp
            · by_cases h4 : e.1 = u
              · simp [h4]
              · have h6 : ¬ u = e.1 := fun h => h4 h.symm
                simp [h4, h6]
          · have h6 : ¬ e.2.1 = v := fun h => h5 h.symm
            cases B v <;> simp [h5, h6]
      · by_cases h4 : u = e.1
        · have h7 : B e.1 = true := h4 ▸ hB
          simp [h7]
        · simp [h4]
    rw [h3, sm_one hn h1]

theorem ResD.le_cut {V : Type} [DecidableEq V] {vs : List V} {E : List (V × V × Int)} {R : V → V → Int} {D : V → Int} (h : ResD vs (capE E) R D) (hn : vs.Nodup)
    (hE : ∀ e ∈ E, e.1 ∈ vs ∧ e.2.1 ∈ vs) {s z : V} {tot : Int}
    (hD : ∀ u ∈ vs, D u = (if u = s then tot else 0) - (if u = z then tot else 0)) (hs : s ∈ vs) (B : V → Bool) (Bs : B s = false) (Bz : B z = true) : tot ≤ cutE B E := by
  rw [h.over hn hD hs B Bs Bz, ← cutE_eq hn B hE]
  refine sm_le fun u _ => ?_
  split
  · exact Int.le_refl _
  · refine sm_le fun v _ => ?_
    split
    · have := h.nn u v; omega
    · exact Int.le_refl _

theorem ResD.eq_cut {V : Type} [DecidableEq V] {vs : List V} {E : List (V × V × Int)} {R : V → V → Int} {D : V → Int} (h : ResD vs (capE E) R D) (hn : vs.Nodup)
    (hE : ∀ e ∈ E, e.1 ∈ vs ∧ e.2.1 ∈ vs) {s z : V} {tot : Int}
    (hD : ∀ u ∈ vs, D u = (if u = s then tot else 0) - (if u = z then tot else 0)) (hs : s ∈ vs) (B : V → Bool) (Bs : B s = false) (Bz : B z = true)
    (hB : ∀ u ∈ vs, ∀ v ∈ vs, B u = false → B v = true → R u v = 0) : tot = cutE B E := by
  rw [h.over hn hD hs B Bs Bz, ← cutE_eq hn B hE]
  refine sm_congr fun u hu => ?_
  cases hu' : B u
  · simp only [Bool.false_eq_true, if_false]
    refine sm_congr fun v hv => ?_
    cases hv' : B v
    · rfl
    · simp only [if_true]
      rw [hB u hu v hv hu' hv']; omega
  · rfl

end Go.Proofs.Ytmoolcpogilgkaa
