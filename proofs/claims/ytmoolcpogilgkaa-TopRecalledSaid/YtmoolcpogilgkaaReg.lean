/-
  A region that draws its order: loads may be taken first under a condition F on the world, which every operation keeps that may come before one of them.
-/
import Derived.Test.YtmoolcpogilgkaaBase
import Derived.OrdersHeld
import Derived.StillTail
import Derived.Deep.RegionHeld
set_option linter.unusedVariables false
set_option linter.unusedSimpArgs false
namespace Go.Proofs.Ytmoolcpogilgkaa
open Go.RowKit

/-- what '==' on structs comes to -/
theorem ok_if2 {p q : Prop} {_ : Decidable p} {_ : Decidable q} {w : World} :
    (if p then if q then Result.ok (Next.value (.bool true)) w else Result.ok (Next.value (.bool false)) w else Result.ok (Next.value (.bool false)) w) = Result.ok (Next.value (.bool (decide p && decide q))) w := by
  by_cases hp : p <;> by_cases hq : q <;> simp [hp, hq]
theorem ok_if6 {p q r s t u : Prop} {_ : Decidable p} {_ : Decidable q} {_ : Decidable r} {_ : Decidable s} {_ : Decidable t} {_ : Decidable u} {w : World} :
    (if p then if q then if r then if s then if t then if u then Result.ok (Next.value (.bool true)) w else Result.ok (Next.value (.bool false)) w else Result.ok (Next.value (.bool false)) w else Result.ok (Next.value (.bool false)) w else Result.ok (Next.value (.bool false)) w else Result.ok (Next.value (.bool false)) w else Result.ok (Next.value (.bool false)) w) =
      Result.ok (Next.value (.bool (decide p && (decide q && (decide r && (decide s && (decide t && decide u))))))) w := by
  by_cases hp : p <;> by_cases hq : q <;> by_cases hr : r <;> by_cases hs : s <;> by_cases ht : t <;> by_cases hu : u <;> simp [hp, hq, hr, hs, ht, hu]

section
variable {P : Program} {ops : Array Oper} {Q : Exit → Act → World → Prop} {md : Region.Mode} {F : World → Prop} {L : List Nat}

/-- number j may come before one of those in L: so it has to keep F -/
def mustKeep (md : Region.Mode) (ops : Array Oper) (L : List Nat) (j : Nat) : Bool := L.any fun i => !(Region.waitsFor md ops j i)

theorem at_drop {l r : List Oper} {i : Nat} {oi : Oper} (hi : l.drop i = oi :: r) : l.toArray[i]? = some oi := by
  have h : (l.drop i)[0]? = some oi := by rw [hi]; rfl
  rw [List.getElem?_drop] at h
  simpa using h

/-- whatever order is picked from here on; F holds behind each operation that may come before one of those in L -/
def wpAnyP (P : Program) (md : Region.Mode) (ops : Array Oper) (Q : Exit → Act → World → Prop) (F : World → Prop) (L : List Nat) : Nat → Array Bool → Act → World → Prop
  | 0, listed, a, w => Region.ready md ops listed = [] ∧ Q .normal a w
  | fuel + 1, listed, a, w =>
    (Region.ready md ops listed = [] → Q .normal a w) ∧
    ∀ i ∈ Region.ready md ops listed, wpOp P ops Q i (fun a' w' => (mustKeep md ops L i = true → F w → F w') ∧ wpAnyP P md ops Q F L fuel (listed.setIfInBounds i true) a' w') a w

theorem wpAny_of_P : ∀ (fuel : Nat) (listed : Array Bool) (a : Act) (w : World), wpAnyP P md ops Q F L fuel listed a w → wpAny P md ops Q fuel listed a w
  | 0, _, _, _, h => h
  | fuel + 1, _, _, _, h => ⟨h.1, fun i hi => wpOp_mono (fun a' w' h' => wpAny_of_P fuel _ a' w' h'.2) (h.2 i hi)⟩

theorem waits_false {j i : Nat} {oj : Oper} (hoj : ops[j]? = some oj) (hnot : ∀ e ∈ oj.after, Region.binds md e = true → e.on ≠ i) : Region.waitsFor md ops j i = false := by
  cases h : Region.waitsFor md ops j i with
  | false => rfl
  | true =>
    obtain ⟨o, ho, e, he, hb, hon⟩ := Region.waitsFor_spec h
    rw [hoj] at ho
    injection ho with ho
    subst ho
    exact absurd hon (hnot e he hb)

/-- an operation of L that may come up may be taken first, if it yields its value wherever F holds -/
theorem wpAnyP_first {S : World → Prop} {i : Nat} {oi : Oper} {v : Value} (hi : ops[i]? = some oi) (hsel : ∀ (j : Nat) (o : Oper) cs b, ops[j]? = some o → o.op ≠ .select cs b)
    (hQ : ∀ c a w, Q (.panic c) (a.put oi.dst v) w → Q (.panic c) a w)
    (hkeep : ∀ j w w', Region.waitsFor md ops j i = false → (mustKeep md ops L j = true → F w → F w') → S w → S w') :
    ∀ (fuel : Nat) (listed : Array Bool) (a : Act) (w : World),
      (∀ j oj, ops[j]? = some oj → j ≠ i → listed.getD j true = false → (∀ e ∈ oj.after, Region.binds md e = true → e.on ≠ i) → oi.apart ops oj = true) →
      i ∈ Region.ready md ops listed → YieldsIf P ops S oi v a → S w →
      wpAnyP P md ops Q F L fuel (listed.setIfInBounds i true) (a.put oi.dst v) w → wpAnyP P md ops Q F L (fuel + 1) listed a w := by
  intro fuel
  induction fuel with
  | zero =>
    intro listed a w _ hr hy hS H
    refine ⟨fun h => (by rw [h] at hr; cases hr), fun j hj => ?_⟩
    by_cases hji : j = i
    · subst hji; exact hy.wpOp hi hS ⟨fun _ h => h, H⟩
    · have := ready_mono hj hji
      rw [H.1] at this
      cases this
  | succ fuel ih =>
    intro listed a w hfree hr hy hS H
    refine ⟨fun h => (by rw [h] at hr; cases hr), fun j hj => ?_⟩
    by_cases hji : j = i
    · subst hji; exact hy.wpOp hi hS ⟨fun _ h => h, H⟩
    · have h1 := H.2 j (ready_mono hj hji)
      obtain ⟨hjun, oj, hoj, hall⟩ := mem_ready.1 hj
      have hnot : ∀ e ∈ oj.after, Region.binds md e = true → e.on ≠ i := fun e he hb heq => by
        have h1 := hall e he hb
        have h0 := (mem_ready.1 hr).1
        rw [heq] at h1
        rcases Nat.lt_or_ge i listed.size with h' | h'
        · simp [h'] at h0 h1; rw [h0] at h1; cases h1
        · simp [Array.getElem?_eq_none h'] at h1
      have hwf := waits_false hoj hnot
      have h2 := wpOp_putIf hoj (hfree j oj hoj hji hjun hnot) (fun cs b => hsel i oi cs b hi) (fun cs b => hsel j oj cs b hoj) hQ hy h1
      have hfree' : ∀ k ok, ops[k]? = some ok → k ≠ i → (listed.setIfInBounds j true).getD k true = false →
          (∀ e ∈ ok.after, Region.binds md e = true → e.on ≠ i) → oi.apart ops ok = true := fun k ok hk hki hun hno => by
        refine hfree k ok hk hki ?_ hno
        by_cases hjk : j = k
        · subst hjk; exact hjun
        · rw [getD_set_ne true hjk] at hun; exact hun
      refine wpOp_mono (fun a' w' h3 => ⟨h3.2.1, ih (listed.setIfInBounds j true) a' w' hfree' (ready_mono hr (Ne.symm hji)) h3.1 (hkeep j w w' hwf h3.2.1 hS) ?_⟩) h2
      rw [Array.setIfInBounds_comm _ _ hji]
      exact h3.2.2

/-- a load (or whatever yields wherever F holds) is taken first -/
theorem wpAnyP_load {i : Nat} {oi : Oper} {v : Value} {fuel : Nat} {listed : Array Bool} {a : Act} {w : World} (hi : ops[i]? = some oi)
    (hs : Region.noSelect ops = true) (hf : Region.free md ops listed i = true) (hr : (Region.ready md ops listed).contains i = true) (hL : L.contains i = true)
    (hQ : ∀ c a w, Q (.panic c) (a.put oi.dst v) w → Q (.panic c) a w) (hF : F w) (hw : Region.wanted oi (yielded ops a.tmps) = true) (hy : ∀ w, F w → (execOp a.eval oi).run P w = .ok (.value v) w)
    (h : wpAnyP P md ops Q F L fuel (listed.setIfInBounds i true) (a.put oi.dst v) w) : wpAnyP P md ops Q F L (fuel + 1) listed a w :=
  wpAnyP_first (S := F) hi (Region.noSelect_spec hs) hQ (fun j w w' hj hk hFw => hk (by
    unfold mustKeep
    rw [List.any_eq_true]
    exact ⟨i, by simpa using hL, by simp [hj]⟩) hFw) fuel listed a w (Region.free_spec hi hf) (by simpa using hr) (.inl ⟨hw, hy⟩) hF h

/-- what yields in whatever world is taken first -/
theorem wpAnyP_take {i : Nat} {oi : Oper} {v : Value} {fuel : Nat} {listed : Array Bool} {a : Act} {w : World} (hi : ops[i]? = some oi)
    (hs : Region.noSelect ops = true) (hf : Region.free md ops listed i = true) (hr : (Region.ready md ops listed).contains i = true)
    (hQ : ∀ c a w, Q (.panic c) (a.put oi.dst v) w → Q (.panic c) a w) (hw : Region.wanted oi (yielded ops a.tmps) = true) (hy : ∀ w, (execOp a.eval oi).run P w = .ok (.value v) w)
    (h : wpAnyP P md ops Q F L fuel (listed.setIfInBounds i true) (a.put oi.dst v) w) : wpAnyP P md ops Q F L (fuel + 1) listed a w :=
  wpAnyP_first (S := fun _ => True) hi (Region.noSelect_spec hs) hQ (fun _ _ _ _ _ h => h) fuel listed a w (Region.free_spec hi hf) (by simpa using hr) (.inl ⟨hw, fun w _ => hy w⟩) trivial h

/-- what is not wanted (its guard says no) is passed over -/
theorem wpAnyP_skip {i : Nat} {oi : Oper} {fuel : Nat} {listed : Array Bool} {a : Act} {w : World} (hi : ops[i]? = some oi)
    (hs : Region.noSelect ops = true) (hf : Region.free md ops listed i = true) (hr : (Region.ready md ops listed).contains i = true)
    (hQ : ∀ c a w, Q (.panic c) (a.put oi.dst undef) w → Q (.panic c) a w) (hw : Region.wanted oi (yielded ops a.tmps) = false)
    (h : wpAnyP P md ops Q F L fuel (listed.setIfInBounds i true) (a.put oi.dst undef) w) : wpAnyP P md ops Q F L (fuel + 1) listed a w :=
  wpAnyP_first (S := fun _ => True) hi (Region.noSelect_spec hs) hQ (fun _ _ _ _ _ h => h) fuel listed a w (Region.free_spec hi hf) (by simpa using hr) (.inr ⟨hw, rfl⟩) trivial h

/-- the one that may come up now comes up -/
theorem wpAnyP_one {i : Nat} {oi : Oper} {fuel : Nat} {listed : Array Bool} {a : Act} {w : World} (hi : ops[i]? = some oi) (hr : Region.ready md ops listed = [i])
    (hw : Region.wanted oi (yielded ops a.tmps) = true)
    (h : ∀ K : Act → World → Prop, (∀ a' w', (mustKeep md ops L i = true → F w → F w') → wpAnyP P md ops Q F L fuel (listed.setIfInBounds i true) a' w' → K a' w') → oi.wp P a w K Q) :
    wpAnyP P md ops Q F L (fuel + 1) listed a w := by
  refine ⟨fun h0 => (by rw [hr] at h0; cases h0), fun j hj => ?_⟩
  rw [hr] at hj
  have hj : j = i := by simpa using hj
  subst hj
  unfold wpOp
  simp only [hi, hw, if_true]
  exact .inl (h _ fun a' w' h1 h2 => ⟨h1, h2⟩)

/-- the same where it has to keep F -/
theorem wpAnyP_step {l r : List Oper} {i : Nat} {oi : Oper} {fuel : Nat} {listed : Array Bool} {a : Act} {w : World} (hi : l.drop i = oi :: r) (hr : Region.ready md l.toArray listed = [i])
    (hw : Region.wanted oi (yielded l.toArray a.tmps) = true)
    (h : ∀ K : Act → World → Prop, (∀ a' w', F w' → (F w' → wpAnyP P md l.toArray Q F L fuel (listed.setIfInBounds i true) a' w') → K a' w') → oi.wp P a w K Q) :
    wpAnyP P md l.toArray Q F L (fuel + 1) listed a w :=
  wpAnyP_one (at_drop hi) hr hw fun K hK => Oper.wp_mono (fun a' w' hk => hK a' w' (fun _ _ => hk.1) hk.2)
    (h (fun a' w' => F w' ∧ wpAnyP P md l.toArray Q F L fuel (listed.setIfInBounds i true) a' w') fun a' w' hF hn => ⟨hF, hn hF⟩)
/-- the same where it need not -/
theorem wpAnyP_last {l r : List Oper} {i : Nat} {oi : Oper} {fuel : Nat} {listed : Array Bool} {a : Act} {w : World} (hi : l.drop i = oi :: r) (hr : Region.ready md l.toArray listed = [i]) (hx : mustKeep md l.toArray L i = false)
    (hw : Region.wanted oi (yielded l.toArray a.tmps) = true)
    (h : ∀ K : Act → World → Prop, (∀ a' w', wpAnyP P md l.toArray Q F L fuel (listed.setIfInBounds i true) a' w' → K a' w') → oi.wp P a w K Q) :
    wpAnyP P md l.toArray Q F L (fuel + 1) listed a w :=
  wpAnyP_one (at_drop hi) hr hw fun K hK => h K fun a' w' hn => hK a' w' (fun hk => by rw [hx] at hk; cases hk) hn
theorem wpAnyP_loadL {l r : List Oper} {i : Nat} {oi : Oper} {v : Value} {fuel : Nat} {listed : Array Bool} {a : Act} {w : World} (hi : l.drop i = oi :: r)
    (hs : Region.noSelect l.toArray = true) (hf : Region.free md l.toArray listed i = true) (hr : (Region.ready md l.toArray listed).contains i = true) (hL : L.contains i = true)
    (hQ : ∀ c a w, Q (.panic c) (a.put oi.dst v) w → Q (.panic c) a w) (hF : F w) (hw : Region.wanted oi (yielded l.toArray a.tmps) = true) (hy : ∀ w, F w → (execOp a.eval oi).run P w = .ok (.value v) w)
    (h : wpAnyP P md l.toArray Q F L fuel (listed.setIfInBounds i true) (a.put oi.dst v) w) : wpAnyP P md l.toArray Q F L (fuel + 1) listed a w :=
  wpAnyP_load (at_drop hi) hs hf hr hL hQ hF hw hy h
theorem wpAnyP_takeL {l r : List Oper} {i : Nat} {oi : Oper} {v : Value} {fuel : Nat} {listed : Array Bool} {a : Act} {w : World} (hi : l.drop i = oi :: r)
    (hs : Region.noSelect l.toArray = true) (hf : Region.free md l.toArray listed i = true) (hr : (Region.ready md l.toArray listed).contains i = true)
    (hQ : ∀ c a w, Q (.panic c) (a.put oi.dst v) w → Q (.panic c) a w) (hw : Region.wanted oi (yielded l.toArray a.tmps) = true) (hy : ∀ w, (execOp a.eval oi).run P w = .ok (.value v) w)
    (h : wpAnyP P md l.toArray Q F L fuel (listed.setIfInBounds i true) (a.put oi.dst v) w) : wpAnyP P md l.toArray Q F L (fuel + 1) listed a w :=
  wpAnyP_take (at_drop hi) hs hf hr hQ hw hy h
theorem wpAnyP_skipL {l r : List Oper} {i : Nat} {oi : Oper} {fuel : Nat} {listed : Array Bool} {a : Act} {w : World} (hi : l.drop i = oi :: r)
    (hs : Region.noSelect l.toArray = true) (hf : Region.free md l.toArray listed i = true) (hr : (Region.ready md l.toArray listed).contains i = true)
    (hQ : ∀ c a w, Q (.panic c) (a.put oi.dst undef) w → Q (.panic c) a w) (hw : Region.wanted oi (yielded l.toArray a.tmps) = false)
    (h : wpAnyP P md l.toArray Q F L fuel (listed.setIfInBounds i true) (a.put oi.dst undef) w) : wpAnyP P md l.toArray Q F L (fuel + 1) listed a w :=
  wpAnyP_skip (at_drop hi) hs hf hr hQ hw h

/-- one of several that may come up now -/
theorem wpAnyP_all {rs : List Nat} {fuel : Nat} {listed : Array Bool} {a : Act} {w : World} (hr : Region.ready md ops listed = rs) (hne : rs ≠ [])
    (h : ∀ i ∈ rs, wpOp P ops Q i (fun a' w' => (mustKeep md ops L i = true → F w → F w') ∧ wpAnyP P md ops Q F L fuel (listed.setIfInBounds i true) a' w') a w) : wpAnyP P md ops Q F L (fuel + 1) listed a w :=
  ⟨fun h0 => absurd (hr ▸ h0) hne, hr ▸ h⟩
theorem wpOp_of {i : Nat} {oi : Oper} {a : Act} {w : World} {M : Act → World → Prop} (hi : ops[i]? = some oi) (hw : Region.wanted oi (yielded ops a.tmps) = true) (h : ∀ K : Act → World → Prop, (∀ a' w', M a' w' → K a' w') → oi.wp P a w K Q) : wpOp P ops Q i M a w := by
  unfold wpOp
  simp only [hi, hw, if_true]
  exact .inl (h _ fun _ _ h => h)

/-- all have come up -/
theorem wpAnyP_done {listed : Array Bool} {a : Act} {w : World} (hr : Region.ready md ops listed = []) (h : Q .normal a w) : ∀ fuel, wpAnyP P md ops Q F L fuel listed a w
  | 0 => ⟨hr, h⟩
  | _ + 1 => ⟨fun _ => h, by rw [hr]; simp⟩

theorem wp_region_PL {l : List Oper} {n : Nat} {id : Nat} {a : Act} {w : World} (L : List Nat) (F : World → Prop) (hn : l.length = n) (hm : P.follows .mixedOrders = true)
    (hF : F w.drew) (h : F w.drew → wpAnyP P .any l.toArray Q F L n (Array.replicate n false) a w.drew) : (Code.region id l.toArray true).wp P Q a w :=
  wp_region_any hm (wpAny_of_P _ _ _ _ (by subst hn; simpa using h hF))
/-- the beginning -/
theorem wp_region_P {id : Nat} {a : Act} {w : World} (L : List Nat) (F : World → Prop) (hm : P.follows .mixedOrders = true)
    (h : wpAnyP P .any ops Q F L ops.size (Array.replicate ops.size false) a w.drew) : (Code.region id ops true).wp P Q a w :=
  wp_region_any hm (wpAny_of_P _ _ _ _ h)
end
end Go.Proofs.Ytmoolcpogilgkaa
