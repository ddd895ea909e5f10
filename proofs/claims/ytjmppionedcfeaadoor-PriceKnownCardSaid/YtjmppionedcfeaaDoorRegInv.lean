/-
  A region that draws its order, by an invariant over what has come up: one proof for each operation, whatever came before it.
-/
import Derived.Test.YtjmppionedcfeaaDoorReg2
set_option linter.unusedVariables false
set_option linter.unusedSimpArgs false
namespace Go.Proofs.YtjmppionedcfeaaDoor
open Go.RowKit

/-- the slots of S hold what f says, the others what they held -/
def over (a0 : Act) (S : List Nat) (f : Nat → Value) : Act := ⟨S.foldl (fun t s => t.setIfInBounds s (f s)) a0.tmps, a0.defers⟩
def updV (f : Nat → Value) (s : Nat) (v : Value) : Nat → Value := fun j => if j = s then v else f j
def updB (L : Nat → Bool) (i : Nat) : Nat → Bool := fun j => if j = i then true else L j
theorem fold_size (S : List Nat) (f : Nat → Value) (t : Array Value) : (S.foldl (fun t s => t.setIfInBounds s (f s)) t).size = t.size := by
  induction S generalizing t with
  | nil => rfl
  | cons s r ih => rw [List.foldl_cons, ih]; simp
theorem fold_get (S : List Nat) (f : Nat → Value) (t : Array Value) (i : Nat) : (S.foldl (fun t s => t.setIfInBounds s (f s)) t)[i]? = if i ∈ S ∧ i < t.size then some (f i) else t[i]? := by
  induction S generalizing t with
  | nil => simp
  | cons s r ih =>
    rw [List.foldl_cons, ih, Array.size_setIfInBounds, Array.getElem?_setIfInBounds]
    by_cases h1 : i < t.size
    · by_cases h2 : i ∈ r
      · simp [h1, h2]
      · by_cases h3 : s = i
        · subst h3
          simp [h1, h2]
        · simp [h1, h2, h3, Ne.symm h3]
    · have : t[i]? = none := Array.getElem?_eq_none (by omega)
      simp only [h1, and_false, if_false, this]
      split
      · rename_i h
        subst h
        simp
        omega
      · rfl
theorem over_get {a0 : Act} {S : List Nat} {f : Nat → Value} {s : Nat} (hs : s ∈ S) (hz : s < a0.tmps.size) : (over a0 S f).tmps.getD s undef = f s := by
  rw [Array.getD_eq_getD_getElem?]
  unfold over
  rw [fold_get, if_pos ⟨hs, hz⟩]
  rfl
theorem over_put {a0 : Act} {S : List Nat} {f : Nat → Value} {s : Nat} (hs : s ∈ S) (v : Value) : (over a0 S f).put (some s) v = over a0 S (updV f s v) := by
  unfold over Act.put
  simp only [Act.mk.injEq, and_true]
  apply Array.ext_getElem?
  intro i
  rw [Array.getElem?_setIfInBounds, fold_get, fold_get, fold_size]
  by_cases h : s = i
  · subst h
    by_cases hz : s < a0.tmps.size
    · simp [hs, hz, updV]
    · simp [hz]
  · simp [h, updV, Ne.symm h]
theorem over_self (a0 : Act) (S : List Nat) : over a0 S (fun s => a0.tmps.getD s undef) = a0 := by
  unfold over
  have : S.foldl (fun t s => t.setIfInBounds s (a0.tmps.getD s undef)) a0.tmps = a0.tmps := by
    apply Array.ext_getElem?
    intro i
    rw [fold_get]
    split
    · rename_i h
      rw [Array.getD_eq_getD_getElem?, Array.getElem?_eq_getElem h.2]
      rfl
    · rfl
  rw [this]

section
variable {P : Program} {ops : Array Oper} {Q : Exit → Act → World → Prop} {md : Region.Mode} {Kp : Nat → World → World → Prop}
/-- each operation waits for earlier ones alone -/
def acyclic (md : Region.Mode) (ops : Array Oper) : Bool := (List.range ops.size).all fun i => match ops[i]? with
  | some o => o.after.all fun e => !Region.binds md e || decide (e.on < i)
  | none => true
theorem ready_all {listed : Array Bool} (hac : acyclic md ops = true) (h : Region.ready md ops listed = []) : ∀ i, i < ops.size → listed.getD i true = true := by
  intro i
  induction i using Nat.strongRecOn with
  | ind i ih =>
    intro hi
    by_cases hc : listed.getD i true = true
    · exact hc
    · have hc' : listed.getD i true = false := by simpa using hc
      have hm : i ∈ Region.ready md ops listed := mem_ready.2 ⟨hc', ops[i], Array.getElem?_eq_getElem hi, fun e he hb => by
        unfold acyclic at hac
        rw [List.all_eq_true] at hac
        have h1 := hac i (by simpa using hi)
        rw [Array.getElem?_eq_getElem hi] at h1
        simp only [Array.all_eq_true'] at h1
        have h2 := h1 e he
        rw [hb] at h2
        simp at h2
        have h3 := ih e.on h2 (by omega)
        have hz : i < listed.size := by
          rcases Nat.lt_or_ge i listed.size with h' | h'
          · exact h'
          · simp [Array.getElem?_eq_none h'] at hc'
        have hz2 : e.on < listed.size := by omega
        simp [hz2] at h3 ⊢
        exact h3⟩
      rw [h] at hm
      cases hm
def unl (listed : Array Bool) : Nat := listed.toList.countP (fun b => !b)
theorem unl_set {listed : Array Bool} {i : Nat} (h : listed.getD i true = false) : unl (listed.setIfInBounds i true) + 1 = unl listed := by
  have hz : i < listed.size := by
    rcases Nat.lt_or_ge i listed.size with h' | h'
    · exact h'
    · simp [Array.getElem?_eq_none h'] at h
  have hv : listed[i] = false := by simpa [hz] using h
  unfold unl
  rw [Array.toList_setIfInBounds]
  have hz' : i < listed.toList.length := by simpa using hz
  have hpos : 0 < listed.toList.countP (fun b => !b) := List.countP_pos_iff.2 ⟨false, by rw [← hv]; exact Array.getElem_mem_toList hz, rfl⟩
  rw [List.countP_set hz']
  have hv' : listed.toList[i]'hz' = false := by simpa using hv
  rw [hv']
  simp only [Bool.not_false, if_true, Bool.not_true, Bool.false_eq_true, if_false]
  omega
theorem wpAnyK_inv {S idx : List Nat} {a0 : Act} (F : (Nat → Bool) → (Nat → Value) → World → Prop) (hac : acyclic md ops = true)
    (hpre : ∀ L f w, F L f w → ∀ j, j < ops.size → j ∉ idx → L j = true)
    (hstep : ∀ i ∈ idx, ∀ L f w, F L f w → L i = false → (∀ j, Region.waitsFor md ops i j = true → L j = true) → wpOp P ops Q i (fun a' w' => Kp i w w' ∧ ∃ f', a' = over a0 S f' ∧ F (updB L i) f' w') (over a0 S f) w)
    (hdone : ∀ L f w, F L f w → (∀ i, i < ops.size → L i = true) → Q .normal (over a0 S f) w) :
    ∀ (fuel : Nat) (listed : Array Bool) (f : Nat → Value) (w : World), listed.size = ops.size → unl listed ≤ fuel → F (fun j => listed.getD j false) f w → wpAnyK P md ops Q Kp fuel listed (over a0 S f) w := by
  intro fuel
  have hall : ∀ {listed : Array Bool}, listed.size = ops.size → (∀ i, i < ops.size → listed.getD i true = true) → ∀ i, i < ops.size → listed.getD i false = true := by
    intro listed hz h i hi
    have := h i hi
    have hz' : i < listed.size := by omega
    simp [hz'] at this ⊢
    exact this
  induction fuel with
  | zero =>
    intro listed f w hz hu hF
    have hr : Region.ready md ops listed = [] := by
      rw [List.eq_nil_iff_forall_not_mem]
      intro j hj
      obtain ⟨hjun, _⟩ := mem_ready.1 hj
      have := unl_set hjun
      omega
    exact ⟨hr, hdone _ _ _ hF (hall hz (ready_all hac hr))⟩
  | succ fuel ih =>
    intro listed f w hz hu hF
    refine ⟨fun hr => hdone _ _ _ hF (hall hz (ready_all hac hr)), fun i hi => ?_⟩
    obtain ⟨hjun, oj, hoj, haft⟩ := mem_ready.1 hi
    have hil : i < ops.size := by
      rcases Nat.lt_or_ge i ops.size with h' | h'
      · exact h'
      · rw [Array.getElem?_eq_none h'] at hoj; cases hoj
    have hiz : i < listed.size := by omega
    have hLi : listed.getD i false = false := by simpa [hiz] using hjun
    have hidx : i ∈ idx := by
      by_cases h : i ∈ idx
      · exact h
      · have := hpre _ _ _ hF i hil h
        rw [hLi] at this
        cases this
    refine wpOp_mono (fun a' w' h' => ?_) (hstep i hidx _ f w hF hLi (fun j hj => ?_))
    · obtain ⟨h1, f', rfl, hF'⟩ := h'
      refine ⟨h1, ih (listed.setIfInBounds i true) f' w' (by simpa using hz) (by have := unl_set hjun; omega) ?_⟩
      have : (fun j => (listed.setIfInBounds i true).getD j false) = updB (fun j => listed.getD j false) i := by
        funext j
        unfold updB
        by_cases hji : j = i
        · subst hji; simp [hiz]
        · simp [hji, Array.getElem?_setIfInBounds, Ne.symm hji]
      rw [this]
      exact hF'
    · by_cases hb : listed.getD j false = true
      · exact hb
      · have := waits_false (md := md) hoj (fun e he hbi (heq : e.on = j) => hb (by rw [← heq]; exact haft e he hbi))
        rw [this] at hj
        cases hj
/-- from where the region stands now -/
theorem wpAnyK_inv0 {S idx : List Nat} {a0 : Act} {w : World} {fuel : Nat} {listed : Array Bool} (F : (Nat → Bool) → (Nat → Value) → World → Prop) (hac : acyclic md ops = true) (hz : listed.size = ops.size) (hu : unl listed ≤ fuel)
    (h0 : F (fun j => listed.getD j false) (fun s => a0.tmps.getD s undef) w)
    (hpre : ∀ L f w, F L f w → ∀ j, j < ops.size → j ∉ idx → L j = true)
    (hstep : ∀ i ∈ idx, ∀ L f w, F L f w → L i = false → (∀ j, Region.waitsFor md ops i j = true → L j = true) → wpOp P ops Q i (fun a' w' => Kp i w w' ∧ ∃ f', a' = over a0 S f' ∧ F (updB L i) f' w') (over a0 S f) w)
    (hdone : ∀ L f w, F L f w → (∀ i, i < ops.size → L i = true) → Q .normal (over a0 S f) w) : wpAnyK P md ops Q Kp fuel listed a0 w := by
  have h := wpAnyK_inv (S := S) (idx := idx) (a0 := a0) (Q := Q) (Kp := Kp) (P := P) F hac hpre hstep hdone fuel listed _ w hz hu h0
  rwa [over_self] at h
end
end Go.Proofs.YtjmppionedcfeaaDoor
