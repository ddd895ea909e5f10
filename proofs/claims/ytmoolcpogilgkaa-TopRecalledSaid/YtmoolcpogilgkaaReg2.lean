/-
  A region that draws its order, two conditions on the world: each for loads of its own; what comes before such a load keeps its condition.
-/
import Derived.Test.YtmoolcpogilgkaaRegIn
set_option linter.unusedVariables false
set_option linter.unusedSimpArgs false
namespace Go.Proofs.Ytmoolcpogilgkaa
open Go.RowKit

section
variable {P : Program} {ops : Array Oper} {Q : Exit → Act → World → Prop} {md : Region.Mode} {Kp : Nat → World → World → Prop} {F1 F2 : World → Prop} {L1 L2 : List Nat}

/-- whatever order is picked from here on; F holds behind each operation that may come before one of those in L -/
def wpAnyK (P : Program) (md : Region.Mode) (ops : Array Oper) (Q : Exit → Act → World → Prop) (Kp : Nat → World → World → Prop) : Nat → Array Bool → Act → World → Prop
  | 0, listed, a, w => Region.ready md ops listed = [] ∧ Q .normal a w
  | fuel + 1, listed, a, w =>
    (Region.ready md ops listed = [] → Q .normal a w) ∧
    ∀ i ∈ Region.ready md ops listed, wpOp P ops Q i (fun a' w' => Kp i w w' ∧ wpAnyK P md ops Q Kp fuel (listed.setIfInBounds i true) a' w') a w

theorem wpAny_of_K : ∀ (fuel : Nat) (listed : Array Bool) (a : Act) (w : World), wpAnyK P md ops Q Kp fuel listed a w → wpAny P md ops Q fuel listed a w
  | 0, _, _, _, h => h
  | fuel + 1, _, _, _, h => ⟨h.1, fun i hi => wpOp_mono (fun a' w' h' => wpAny_of_K fuel _ a' w' h'.2) (h.2 i hi)⟩

/-- an operation of L that may come up may be taken first, if it yields its value wherever F holds -/
theorem wpAnyK_first (hrefl : ∀ i w, Kp i w w) {S : World → Prop} {i : Nat} {oi : Oper} {v : Value} (hi : ops[i]? = some oi) (hsel : ∀ (j : Nat) (o : Oper) cs b, ops[j]? = some o → o.op ≠ .select cs b)
    (hQ : ∀ c a w, Q (.panic c) (a.put oi.dst v) w → Q (.panic c) a w)
    (hkeep : ∀ j w w', Region.waitsFor md ops j i = false → Kp j w w' → S w → S w') :
    ∀ (fuel : Nat) (listed : Array Bool) (a : Act) (w : World),
      (∀ j oj, ops[j]? = some oj → j ≠ i → listed.getD j true = false → (∀ e ∈ oj.after, Region.binds md e = true → e.on ≠ i) → oi.apart ops oj = true) →
      i ∈ Region.ready md ops listed → YieldsIf P ops S oi v a → S w →
      wpAnyK P md ops Q Kp fuel (listed.setIfInBounds i true) (a.put oi.dst v) w → wpAnyK P md ops Q Kp (fuel + 1) listed a w := by
  intro fuel
  induction fuel with
  | zero =>
    intro listed a w _ hr hy hS H
    refine ⟨fun h => (by rw [h] at hr; cases hr), fun j hj => ?_⟩
    by_cases hji : j = i
    · subst hji; exact hy.wpOp hi hS ⟨hrefl _ _, H⟩
    · have := ready_mono hj hji
      rw [H.1] at this
      cases this
  | succ fuel ih =>
    intro listed a w hfree hr hy hS H
    refine ⟨fun h => (by rw [h] at hr; cases hr), fun j hj => ?_⟩
    by_cases hji : j = i
    · subst hji; exact hy.wpOp hi hS ⟨hrefl _ _, H⟩
    · have h1 := H.2 j (ready_mono hj hji)
      obtain ⟨hjun, oj, hoj, hall⟩ := mem_ready.1 hj
      have hnot : ∀ e ∈ oj.after, Region.binds md e = true → e.on ≠ i := fun e he hb heq => by
        have h1 := hall e he hb
        have h0 := (mem_ready.1 hr).1
        rw [heq] at h1
        rcases Nat.lt_or_ge i listed.size with h' | h'
        · simp [h'] at h0 h1; rw [h0] at h1; cases h1
        · simp [Array.getElem?_eq_none h'] at h1
      have hwf := waits_false hoj hnot
      have h2 := wpOp_putIf hoj (hfree j oj hoj hji hjun hnot) (fun cs b => hsel i oi cs b hi) (fun cs b => hsel j oj cs b hoj) hQ hy h1
      have hfree' : ∀ k ok, ops[k]? = some ok → k ≠ i → (listed.setIfInBounds j true).getD k true = false →
          (∀ e ∈ ok.after, Region.binds md e = true → e.on ≠ i) → oi.apart ops ok = true := fun k ok hk hki hun hno => by
        refine hfree k ok hk hki ?_ hno
        by_cases hjk : j = k
        · subst hjk; exact hjun
        · rw [getD_set_ne true hjk] at hun; exact hun
      refine wpOp_mono (fun a' w' h3 => ⟨h3.2.1, ih (listed.setIfInBounds j true) a' w' hfree' (ready_mono hr (Ne.symm hji)) h3.1 (hkeep j w w' hwf h3.2.1 hS) ?_⟩) h2
      rw [Array.setIfInBounds_comm _ _ hji]
      exact h3.2.2

/-- a load (or whatever yields wherever F holds) is taken first -/
theorem wpAnyK_load (hrefl : ∀ i w, Kp i w w) {F : World → Prop} {i : Nat} {oi : Oper} {v : Value} {fuel : Nat} {listed : Array Bool} {a : Act} {w : World} (hk : ∀ j w w', Region.waitsFor md ops j i = false → Kp j w w' → F w → F w') (hi : ops[i]? = some oi)
    (hs : Region.noSelect ops = true) (hf : Region.free md ops listed i = true) (hr : (Region.ready md ops listed).contains i = true)
    (hQ : ∀ c a w, Q (.panic c) (a.put oi.dst v) w → Q (.panic c) a w) (hF : F w) (hw : Region.wanted oi (yielded ops a.tmps) = true) (hy : ∀ w, F w → (execOp a.eval oi).run P w = .ok (.value v) w)
    (h : wpAnyK P md ops Q Kp fuel (listed.setIfInBounds i true) (a.put oi.dst v) w) : wpAnyK P md ops Q Kp (fuel + 1) listed a w :=
  wpAnyK_first hrefl (S := F) hi (Region.noSelect_spec hs) hQ hk fuel listed a w (Region.free_spec hi hf) (by simpa using hr) (.inl ⟨hw, hy⟩) hF h

/-- what yields in whatever world is taken first -/
theorem wpAnyK_take (hrefl : ∀ i w, Kp i w w) {i : Nat} {oi : Oper} {v : Value} {fuel : Nat} {listed : Array Bool} {a : Act} {w : World} (hi : ops[i]? = some oi)
    (hs : Region.noSelect ops = true) (hf : Region.free md ops listed i = true) (hr : (Region.ready md ops listed).contains i = true)
    (hQ : ∀ c a w, Q (.panic c) (a.put oi.dst v) w → Q (.panic c) a w) (hw : Region.wanted oi (yielded ops a.tmps) = true) (hy : ∀ w, (execOp a.eval oi).run P w = .ok (.value v) w)
    (h : wpAnyK P md ops Q Kp fuel (listed.setIfInBounds i true) (a.put oi.dst v) w) : wpAnyK P md ops Q Kp (fuel + 1) listed a w :=
  wpAnyK_first hrefl (S := fun _ => True) hi (Region.noSelect_spec hs) hQ (fun _ _ _ _ _ h => h) fuel listed a w (Region.free_spec hi hf) (by simpa using hr) (.inl ⟨hw, fun w _ => hy w⟩) trivial h

/-- what is not wanted (its guard says no) is passed over -/
theorem wpAnyK_skip (hrefl : ∀ i w, Kp i w w) {i : Nat} {oi : Oper} {fuel : Nat} {listed : Array Bool} {a : Act} {w : World} (hi : ops[i]? = some oi)
    (hs : Region.noSelect ops = true) (hf : Region.free md ops listed i = true) (hr : (Region.ready md ops listed).contains i = true)
    (hQ : ∀ c a w, Q (.panic c) (a.put oi.dst undef) w → Q (.panic c) a w) (hw : Region.wanted oi (yielded ops a.tmps) = false)
    (h : wpAnyK P md ops Q Kp fuel (listed.setIfInBounds i true) (a.put oi.dst undef) w) : wpAnyK P md ops Q Kp (fuel + 1) listed a w :=
  wpAnyK_first hrefl (S := fun _ => True) hi (Region.noSelect_spec hs) hQ (fun _ _ _ _ _ h => h) fuel listed a w (Region.free_spec hi hf) (by simpa using hr) (.inr ⟨hw, rfl⟩) trivial h

/-- the one that may come up now comes up -/
theorem wpAnyK_one {i : Nat} {oi : Oper} {fuel : Nat} {listed : Array Bool} {a : Act} {w : World} (hi : ops[i]? = some oi) (hr : Region.ready md ops listed = [i])
    (hw : Region.wanted oi (yielded ops a.tmps) = true)
    (h : ∀ K : Act → World → Prop, (∀ a' w', Kp i w w' → wpAnyK P md ops Q Kp fuel (listed.setIfInBounds i true) a' w' → K a' w') → oi.wp P a w K Q) :
    wpAnyK P md ops Q Kp (fuel + 1) listed a w := by
  refine ⟨fun h0 => (by rw [hr] at h0; cases h0), fun j hj => ?_⟩
  rw [hr] at hj
  have hj : j = i := by simpa using hj
  subst hj
  unfold wpOp
  simp only [hi, hw, if_true]
  exact .inl (h _ fun a' w' h1 h2 => ⟨h1, h2⟩)

/-- the one that may come up now -/
theorem wpAnyK_step {l r : List Oper} {i : Nat} {oi : Oper} {fuel : Nat} {listed : Array Bool} {a : Act} {w : World} (hi : l.drop i = oi :: r) (hr : Region.ready md l.toArray listed = [i])
    (hw : Region.wanted oi (yielded l.toArray a.tmps) = true)
    (h : ∀ K : Act → World → Prop, (∀ a' w', Kp i w w' → wpAnyK P md l.toArray Q Kp fuel (listed.setIfInBounds i true) a' w' → K a' w') → oi.wp P a w K Q) :
    wpAnyK P md l.toArray Q Kp (fuel + 1) listed a w :=
  wpAnyK_one (at_drop hi) hr hw h
theorem wpAnyK_loadL (hrefl : ∀ i w, Kp i w w) {F : World → Prop} {l r : List Oper} {i : Nat} {oi : Oper} {v : Value} {fuel : Nat} {listed : Array Bool} {a : Act} {w : World} (hi : l.drop i = oi :: r) (hk : ∀ j w w', Region.waitsFor md l.toArray j i = false → Kp j w w' → F w → F w')
    (hs : Region.noSelect l.toArray = true) (hf : Region.free md l.toArray listed i = true) (hr : (Region.ready md l.toArray listed).contains i = true)
    (hQ : ∀ c a w, Q (.panic c) (a.put oi.dst v) w → Q (.panic c) a w) (hF : F w) (hw : Region.wanted oi (yielded l.toArray a.tmps) = true) (hy : ∀ w, F w → (execOp a.eval oi).run P w = .ok (.value v) w)
    (h : wpAnyK P md l.toArray Q Kp fuel (listed.setIfInBounds i true) (a.put oi.dst v) w) : wpAnyK P md l.toArray Q Kp (fuel + 1) listed a w :=
  wpAnyK_load hrefl hk (at_drop hi) hs hf hr hQ hF hw hy h
theorem wpAnyK_takeL (hrefl : ∀ i w, Kp i w w) {l r : List Oper} {i : Nat} {oi : Oper} {v : Value} {fuel : Nat} {listed : Array Bool} {a : Act} {w : World} (hi : l.drop i = oi :: r)
    (hs : Region.noSelect l.toArray = true) (hf : Region.free md l.toArray listed i = true) (hr : (Region.ready md l.toArray listed).contains i = true)
    (hQ : ∀ c a w, Q (.panic c) (a.put oi.dst v) w → Q (.panic c) a w) (hw : Region.wanted oi (yielded l.toArray a.tmps) = true) (hy : ∀ w, (execOp a.eval oi).run P w = .ok (.value v) w)
    (h : wpAnyK P md l.toArray Q Kp fuel (listed.setIfInBounds i true) (a.put oi.dst v) w) : wpAnyK P md l.toArray Q Kp (fuel + 1) listed a w :=
  wpAnyK_take hrefl (at_drop hi) hs hf hr hQ hw hy h

/-- one of several that may come up now -/
theorem wpAnyK_all {rs : List Nat} {fuel : Nat} {listed : Array Bool} {a : Act} {w : World} (hr : Region.ready md ops listed = rs) (hne : rs ≠ [])
    (h : ∀ i ∈ rs, wpOp P ops Q i (fun a' w' => Kp i w w' ∧ wpAnyK P md ops Q Kp fuel (listed.setIfInBounds i true) a' w') a w) : wpAnyK P md ops Q Kp (fuel + 1) listed a w :=
  ⟨fun h0 => absurd (hr ▸ h0) hne, hr ▸ h⟩
/-- all have come up -/
theorem wpAnyK_done {listed : Array Bool} {a : Act} {w : World} (hr : Region.ready md ops listed = []) (h : Q .normal a w) : ∀ fuel, wpAnyK P md ops Q Kp fuel listed a w
  | 0 => ⟨hr, h⟩
  | _ + 1 => ⟨fun _ => h, by rw [hr]; simp⟩


theorem wpAnyK_with {F : World → Prop} {fuel : Nat} {listed : Array Bool} {a : Act} {w : World} (hF : F w) (h : F w → wpAnyK P md ops Q Kp fuel listed a w) : wpAnyK P md ops Q Kp fuel listed a w := h hF

/-- the two conditions -/
def Keep2 (md : Region.Mode) (ops : Array Oper) (F1 : World → Prop) (L1 : List Nat) (F2 : World → Prop) (L2 : List Nat) (j : Nat) (w w' : World) : Prop :=
  (mustKeep md ops L1 j = true → F1 w → F1 w') ∧ (mustKeep md ops L2 j = true → F2 w → F2 w')
theorem Keep2.refl (i : Nat) (w : World) : Keep2 md ops F1 L1 F2 L2 i w w := ⟨fun _ h => h, fun _ h => h⟩
theorem keep_at {L : List Nat} {i j : Nat} (hL : L.contains i = true) (hj : Region.waitsFor md ops j i = false) : mustKeep md ops L j = true := by
  unfold mustKeep
  rw [List.any_eq_true]
  exact ⟨i, by simpa using hL, by simp [hj]⟩
theorem Keep2.left {i : Nat} (hL : L1.contains i = true) (j : Nat) (w w' : World) (hj : Region.waitsFor md ops j i = false) (h : Keep2 md ops F1 L1 F2 L2 j w w') : F1 w → F1 w' := h.1 (keep_at hL hj)
theorem Keep2.right {i : Nat} (hL : L2.contains i = true) (j : Nat) (w w' : World) (hj : Region.waitsFor md ops j i = false) (h : Keep2 md ops F1 L1 F2 L2 j w w') : F2 w → F2 w' := h.2 (keep_at hL hj)
theorem Keep2.no1 {j : Nat} {w w' : World} (h1 : mustKeep md ops L1 j = false) (h2 : F2 w → F2 w') : Keep2 md ops F1 L1 F2 L2 j w w' := ⟨fun h => (by rw [h1] at h; cases h), fun _ => h2⟩
theorem Keep2.no {j : Nat} {w w' : World} (h1 : mustKeep md ops L1 j = false) (h2 : mustKeep md ops L2 j = false) : Keep2 md ops F1 L1 F2 L2 j w w' := ⟨fun h => (by rw [h1] at h; cases h), fun h => (by rw [h2] at h; cases h)⟩

theorem wp_region_K2 {l : List Oper} {n : Nat} {id : Nat} {a : Act} {w : World} (L1 L2 : List Nat) (F1 F2 : World → Prop) (hn : l.length = n) (hm : P.follows .mixedOrders = true)
    (h1 : F1 w.drew) (h2 : F2 w.drew) (h : F1 w.drew → F2 w.drew → wpAnyK P .any l.toArray Q (Keep2 .any l.toArray F1 L1 F2 L2) n (Array.replicate n false) a w.drew) : (Code.region id l.toArray true).wp P Q a w :=
  wp_region_any hm (wpAny_of_K _ _ _ _ (by subst hn; simpa using h h1 h2))
theorem wpIn_region_K2 {l' : List Oper} {m l n : Nat} {id : Nat} {a : Act} {w : World} (L1 L2 : List Nat) (F1 F2 : World → Prop) (hn : l'.length = m) (hm : P.follows .mixedOrders = true) (hd : noDefer l'.toArray = true) (hQ : ¬ LetsOut Q)
    (h1 : F1 w.drew) (h2 : F2 w.drew) (h : F1 w.drew → F2 w.drew → wpAnyK P .any l'.toArray Q (Keep2 .any l'.toArray F1 L1 F2 L2) m (Array.replicate m false) a w.drew) : (Code.region id l'.toArray true).wpIn (Fence.wide.inRound l) n P Q a w :=
  wpIn_region_any hm (wpAnyIn_of (noDefer_spec hd) hQ _ _ _ _ (wpAny_of_K _ _ _ _ (by subst hn; simpa using h h1 h2)))
end
end Go.Proofs.Ytmoolcpogilgkaa
