/-
  What 'push' of trace.most does, in plain words: as much as can be is brought on one way, or no place is left that can be come to.
-/
import Derived.Test.YtmoolcpogilgkaaNetMap
import Derived.Test.YtmoolcpogilgkaaMost
set_option linter.unusedVariables false
set_option linter.unusedSimpArgs false
namespace Go.Proofs.Ytmoolcpogilgkaa

/-- what push answers, called at a place a that hasn't been met, with g grams: n of them have come to z, and what is left is R'; or none, and all that can be come to from a has been met -/
structure Push (vs : List Pl) (cap R R' : Pl → Pl → Int) (M M' : Pl → Bool) (a z : Pl) (k g n : Int) : Prop where
  n0 : 0 ≤ n
  n1 : n ≤ g
  up : ∀ v, M v = true → M' v = true
  old : ∀ v, M' v = true → M v = true ∨ v ∈ vs
  keep : ∀ u v, M u = true ∨ M v = true → R' u v = R u v
  no : n = 0 → R' = R ∧ M' a = true ∧ M' z = false ∧ ∀ u, M' u = true → M u = false → ∀ v ∈ vs, k ≤ R u v → M' v = true
  yes : 0 < n → ∀ D, ResD vs cap R D → ResD vs cap R' (pushD D a z n)

/-- a round of push's loop is over: the keys that have come are settled -/
structure Turn (vs : List Pl) (R : Pl → Pl → Int) (M M1 : Pl → Bool) (a z : Pl) (k : Int) (left : Pl → Prop) : Prop where
  up : ∀ v, M v = true → M1 v = true
  old : ∀ v, M1 v = true → M v = true ∨ v ∈ vs
  at_ : M1 a = true
  z : M1 z = false
  cl : ∀ u, M1 u = true → M u = false → u ≠ a → ∀ v ∈ vs, k ≤ R u v → M1 v = true
  done : ∀ v, ¬ left v → k ≤ R a v → M1 v = true

theorem putM_self (M : Pl → Bool) (a : Pl) : putM M a a = true := by simp [putM]
theorem putM_iff {M : Pl → Bool} {a v : Pl} : putM M a v = true ↔ M v = true ∨ v = a := by simp [putM]

theorem Turn.start {vs : List Pl} {R : Pl → Pl → Int} {M : Pl → Bool} {a z : Pl} {k : Int} {left : Pl → Prop} (haz : a ≠ z) (ha : a ∈ vs) (hz : M z = false) (hl : ∀ v, ¬ left v → R a v < k) : Turn vs R M (putM M a) a z k left where
  up v h := putM_iff.2 (Or.inl h)
  old v h := by
    rcases putM_iff.1 h with h | rfl
    · exact Or.inl h
    · exact Or.inr ha
  at_ := putM_self M a
  z := by
    cases h : putM M a z
    · rfl
    · rcases putM_iff.1 h with h | h
      · rw [hz] at h; cases h
      · exact absurd h.symm haz
  cl u h1 h2 h3 := by
    rcases putM_iff.1 h1 with h | h
    · rw [h2] at h; cases h
    · exact absurd h h3
  done v h1 h2 := by have := hl v h1; omega

/-- a key that is passed over -/
theorem Turn.skip {vs : List Pl} {R : Pl → Pl → Int} {M M1 : Pl → Bool} {a z : Pl} {k : Int} {left left' : Pl → Prop} (h : Turn vs R M M1 a z k left) {v : Pl} (hl : ∀ q, left q → q ≠ v → left' q) (hv : R a v < k ∨ M1 v = true) : Turn vs R M M1 a z k left' :=
  { h with
    done := fun q hq hk => by
      by_cases e : q = v
      · subst e
        rcases hv with hv | hv
        · omega
        · exact hv
      · exact h.done q (fun hql => hq (hl q hql e)) hk }

/-- a key from which nothing can be come to -/
theorem Turn.none {vs : List Pl} {cap R R' : Pl → Pl → Int} {M M1 M2 : Pl → Bool} {a z : Pl} {k g : Int} {left left' : Pl → Prop} (h : Turn vs R M M1 a z k left) {v : Pl} (hl : ∀ q, left q → q ≠ v → left' q) (hp : Push vs cap R R' M1 M2 v z k g 0) :
    Turn vs R M M2 a z k left' where
  up q hq := hp.up q (h.up q hq)
  old q hq := by
    rcases hp.old q hq with h1 | h1
    · exact h.old q h1
    · exact Or.inr h1
  at_ := hp.up a h.at_
  z := (hp.no rfl).2.2.1
  cl u h1 h2 h3 q hq hk := by
    by_cases e : M1 u = true
    · exact hp.up q (h.cl u e h2 h3 q hq hk)
    · exact (hp.no rfl).2.2.2 u h1 (by cases e1 : M1 u; rfl; exact absurd e1 e) q hq hk
  done q hq hk := by
    by_cases e : q = v
    · subst e; exact (hp.no rfl).2.1
    · exact hp.up q (h.done q (fun hql => hq (hl q hql e)) hk)

theorem Turn.end_ {vs : List Pl} {cap R : Pl → Pl → Int} {M M1 : Pl → Bool} {a z : Pl} {k g : Int} {left : Pl → Prop} (h : Turn vs R M M1 a z k left) (hl : ∀ q, ¬ left q) (hg : 0 ≤ g) : Push vs cap R R M M1 a z k g 0 where
  n0 := Int.le_refl _
  n1 := hg
  up := h.up
  old := h.old
  keep _ _ _ := rfl
  no _ := ⟨rfl, h.at_, h.z, fun u h1 h2 v hv hk => by
    by_cases e : u = a
    · subst e; exact h.done v (hl v) hk
    · exact h.cl u h1 h2 e v hv hk⟩
  yes h := absurd h (by decide)

/-- a key from which n have come to z -/
theorem Turn.hit {vs : List Pl} {cap R R1 : Pl → Pl → Int} {M M1 M2 : Pl → Bool} {a z v : Pl} {k g x n : Int} {left : Pl → Prop} (hn : vs.Nodup) (h : Turn vs R M M1 a z k left) (hma : M a = false) (hav : a ∈ vs) (hv : v ∈ vs) (h1 : M1 v = false)
    (hx : R a v = x) (hp : Push vs cap R R1 M1 M2 v z k (min g x) n) (h0 : 0 < n) : Push vs cap R (updR (updR R1 a v (-n)) v a n) M M2 a z k g n where
  n0 := by omega
  n1 := by have := hp.n1; omega
  up q hq := hp.up q (h.up q hq)
  old q hq := by
    rcases hp.old q hq with h1 | h1
    · exact h.old q h1
    · exact Or.inr h1
  keep p q hpq := by
    have hne : ∀ y, M y = true → y ≠ a ∧ y ≠ v := fun y hy => ⟨(fun e => by
      rw [e, hma] at hy
      exact absurd hy (by decide)), (fun e => by
      have := h.up y hy
      rw [e, h1] at this
      exact absurd this (by decide))⟩
    have e1 : ¬ (p = v ∧ q = a) := fun ⟨e, e'⟩ => by
      rcases hpq with hp | hq
      · exact (hne p hp).2 e
      · exact (hne q hq).1 e'
    have e2 : ¬ (p = a ∧ q = v) := fun ⟨e, e'⟩ => by
      rcases hpq with hp | hq
      · exact (hne p hp).1 e
      · exact (hne q hq).2 e'
    unfold updR
    rw [if_neg e1, if_neg e2, hp.keep p q (hpq.imp (h.up p) (h.up q))]
    omega
  no e := by omega
  yes _ D hD := by
    have k1 := hp.yes h0 D hD
    have e1 : R1 a v = x := by rw [hp.keep a v (Or.inl h.at_), hx]
    have k2 := k1.push hn hav hv (n := n) (by omega) (by rw [e1]; have := hp.n1; omega)
    rw [pushD_chain] at k2
    exact k2

/-- the place is the one that is sought -/
theorem Push.here (vs : List Pl) (cap R : Pl → Pl → Int) (M : Pl → Bool) (z : Pl) (k g : Int) (hg : 0 < g) : Push vs cap R R M M z z k g g where
  n0 := by omega
  n1 := Int.le_refl _
  up _ h := h
  old _ h := Or.inl h
  keep _ _ _ := rfl
  no e := by omega
  yes _ D hD := by rw [pushD_self]; exact hD

/-- nothing more can be brought, not even one gram: what has been brought is a cut -/
theorem Push.cut {vs : List Pl} {E : List (Pl × Pl × Int)} {R R' : Pl → Pl → Int} {M' : Pl → Bool} {s z : Pl} {g tot : Int} (hn : vs.Nodup) (hE : ∀ e ∈ E, e.1 ∈ vs ∧ e.2.1 ∈ vs) {D : Pl → Int} (hD : ResD vs (capE E) R D)
    (hDs : ∀ u ∈ vs, D u = (if u = s then tot else 0) - (if u = z then tot else 0)) (hs : s ∈ vs) (h : Push vs (capE E) R R' (fun _ => false) M' s z 1 g 0) :
    ∃ B : Pl → Bool, B s = false ∧ B z = true ∧ tot = cutE B E := by
  obtain ⟨h1, h2, h3, h4⟩ := h.no rfl
  refine ⟨fun v => !M' v, by simp [h2], by simp [h3], ?_⟩
  refine hD.eq_cut hn hE hDs hs (fun v => !M' v) (by simp [h2]) (by simp [h3]) fun u hu v hv h5 h6 => ?_
  have h7 : M' u = true := by simpa using h5
  have h8 : M' v = false := by simpa using h6
  have h9 := hD.nn u v
  by_cases e : 1 ≤ R u v
  · have := h4 u h7 rfl v hv e
    rw [h8] at this; cases this
  · omega
end Go.Proofs.Ytmoolcpogilgkaa
