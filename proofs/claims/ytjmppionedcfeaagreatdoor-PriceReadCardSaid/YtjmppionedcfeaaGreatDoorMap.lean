/-
  Maps whose keys are ints: an association list.
-/
import Derived.Test.YtjmppionedcfeaaGreatDoorEnc
set_option linter.unusedVariables false
set_option linter.unusedSimpArgs false
namespace Go.Proofs.YtjmppionedcfeaaGreatDoor
open Go.RowKit

def IMap (w : World) (b : Nat) (l : List (Int × Value)) : Prop := ∃ es clock, w.heap[b]? = some (.map es clock) ∧ es.toList.map (fun e => (e.key, e.val)) = l.map fun p => (Value.int .i64 p.1, p.2)
def look (k : Int) : List (Int × Value) → Option Value
  | [] => none
  | p :: r => if k == p.1 then some p.2 else look k r
def upd (k : Int) (v : Value) : List (Int × Value) → List (Int × Value)
  | [] => [(k, v)]
  | p :: r => if k == p.1 then (k, v) :: r else p :: upd k v r
theorem look_upd (k k' : Int) (v : Value) (l : List (Int × Value)) : look k' (upd k v l) = if k' == k then some v else look k' l := by
  induction l with
  | nil => simp [upd, look]
  | cons p r ih =>
    unfold upd
    by_cases h : k = p.1
    · subst h
      simp only [beq_self_eq_true, if_true, look]
      split <;> rfl
    · simp only [beq_iff_eq, h, if_false, look, ih]
      by_cases h1 : k' = p.1
      · subst h1
        simp [Ne.symm h]
      · simp [h1]
theorem IMap.keep {w w' : World} {b : Nat} {l : List (Int × Value)} (h : IMap w b l) (hb : w'.heap[b]? = w.heap[b]?) : IMap w' b l := by
  obtain ⟨es, clock, h1, h2⟩ := h
  exact ⟨es, clock, hb.trans h1, h2⟩
theorem IMap.lt {w : World} {b : Nat} {l : List (Int × Value)} (h : IMap w b l) : b < w.heap.size := by
  obtain ⟨es, clock, h1, h2⟩ := h
  rcases Nat.lt_or_ge b w.heap.size with hlt | hge
  · exact hlt
  · rw [Array.getElem?_eq_none hge] at h1; cases h1
theorem IMap.new (w : World) : IMap (w.alloc (.map #[] 0)) w.heap.size [] := ⟨#[], 0, heap_alloc_new w _, rfl⟩
theorem IMap.alloc {w : World} {b : Nat} {l : List (Int × Value)} (h : IMap w b l) (o : Obj) : IMap (w.alloc o) b l := h.keep (Below.heap_alloc w o b h.lt)
theorem IMap.below {w w' : World} {b B : Nat} {l : List (Int × Value)} (h : IMap w b l) (hb : Below B w w') (hB : b < B) : IMap w' b l := h.keep (hb.block b hB)
theorem IMap.drew {w : World} {b : Nat} {l : List (Int × Value)} (h : IMap w b l) : IMap w.drew b l := h

section
variable {P : Program} {T K E : TypeId}
theorem findNow_int (k : Int) : ∀ (es : List MapEntry) (l : List (Int × Value)) (i : Nat), es.map (fun e => (e.key, e.val)) = l.map (fun p => (Value.int .i64 p.1, p.2)) →
    ∃ r, Instr.findNow (.int .i64) (.int .i64 k) es i = some r ∧ r.map (·.2) = look k l ∧ (∀ j v, r = some (j, v) → i ≤ j ∧ j - i < es.length ∧ (es[j - i]?).map (·.key) = some (.int .i64 k) ∧
      ∀ v' : Value, (es.modify (j - i) (fun e => { e with key := .int .i64 k, val := v' })).map (fun e => (e.key, e.val)) = (upd k v' l).map fun p => (Value.int .i64 p.1, p.2)) ∧
      (r = none → ∀ v' : Value, (es.map (fun e => (e.key, e.val))) ++ [(Value.int .i64 k, v')] = (upd k v' l).map fun p => (Value.int .i64 p.1, p.2)) := by
  intro es
  induction es with
  | nil =>
    intro l i h
    have hl : l = [] := by
      cases l with
      | nil => rfl
      | cons p r => simp at h
    subst hl
    exact ⟨none, rfl, rfl, (fun j v h => by cases h), fun _ v' => rfl⟩
  | cons e es ih =>
    intro l i h
    cases l with
    | nil => simp at h
    | cons p r =>
      simp only [List.map_cons, List.cons.injEq, Prod.mk.injEq] at h
      obtain ⟨⟨hk, hv⟩, hr⟩ := h
      by_cases hkk : k = p.1
      · subst hkk
        refine ⟨some (i, e.val), ?_, ?_, ?_, fun h => by cases h⟩
        · simp [Instr.findNow, Instr.sameNow, hk]
        · simp [look, hv]
        · intro j v hjv
          injection hjv with hjv
          injection hjv with hj _
          subst hj
          refine ⟨Nat.le_refl _, by simp, by simp [hk], fun v' => ?_⟩
          simp [upd, List.modify, hr]
      · obtain ⟨q, h1, h2, h3, h4⟩ := ih r (i + 1) hr
        have hne : (k == p.1) = false := by simpa using hkk
        refine ⟨q, ?_, ?_, ?_, ?_⟩
        · simp [Instr.findNow, Instr.sameNow, hk, hne, h1]
        · simp [look, hne, h2]
        · intro j v hjv
          obtain ⟨a1, a2, a3, a4⟩ := h3 j v hjv
          have hji : j - i = (j - (i + 1)) + 1 := by omega
          refine ⟨by omega, by simp; omega, by rw [hji]; simpa using a3, fun v' => ?_⟩
          rw [hji]
          simp only [List.modify_succ_cons, List.map_cons, hk, hv, upd, hne, Bool.false_eq_true, if_false]
          rw [a4 v']
        · intro hq v'
          have := h4 hq v'
          simp only [List.map_cons, List.cons_append, upd, hne, Bool.false_eq_true, if_false, hk, hv, this]

theorem run_checkKey_int (hK : P.underlying K = some (.int .i64)) (e : Bool) (n : Nat) (k : Int) (w : World) : (Instr.checkKey e (n + 1) K (.int .i64 k)).run P w = .ok () w := by
  simp [Instr.checkKey, run_underlying hK]

theorem run_lookupI (hT : P.underlying T = some (.map K E)) (hK : P.underlying K = some (.int .i64)) {Z : Value} (hZ : ∀ w, (zeroValue E).run P w = .ok Z w) {w : World} {b : Nat} {l : List (Int × Value)} (h : IMap w b l) (k : Int) :
    (Instr.lookup T (.map (some b)) (.int .i64 k) false).run P w = .ok ((look k l).getD Z) w := by
  obtain ⟨es, clock, h1, h2⟩ := h
  obtain ⟨r, e1, e2, _, _⟩ := findNow_int k es.toList l 0 h2
  have hg : (getObj b).run P w = .ok (.map es clock) w := by simp [getObj, Sem.run, h1]
  cases r with
  | none =>
    simp at e2
    simp [Instr.lookup, run_underlying hT, hg, run_checkKey_int hK, Instr.findKey, run_underlying hK, e1, hZ, ← e2]
  | some q =>
    simp at e2
    simp [Instr.lookup, run_underlying hT, hg, run_checkKey_int hK, Instr.findKey, run_underlying hK, e1, ← e2]

theorem run_lookupI2 (hT : P.underlying T = some (.map K E)) (hK : P.underlying K = some (.int .i64)) {Z : Value} (hZ : ∀ w, (zeroValue E).run P w = .ok Z w) {w : World} {b : Nat} {l : List (Int × Value)} (h : IMap w b l) (k : Int) :
    (Instr.lookup T (.map (some b)) (.int .i64 k) true).run P w = .ok (.tuple #[(look k l).getD Z, .bool (look k l).isSome]) w := by
  obtain ⟨es, clock, h1, h2⟩ := h
  obtain ⟨r, e1, e2, _, _⟩ := findNow_int k es.toList l 0 h2
  have hg : (getObj b).run P w = .ok (.map es clock) w := by simp [getObj, Sem.run, h1]
  cases r with
  | none =>
    simp at e2
    simp [Instr.lookup, run_underlying hT, hg, run_checkKey_int hK, Instr.findKey, run_underlying hK, e1, hZ, ← e2]
  | some q =>
    simp at e2
    simp [Instr.lookup, run_underlying hT, hg, run_checkKey_int hK, Instr.findKey, run_underlying hK, e1, ← e2]

theorem run_updateI (hT : P.underlying T = some (.map K E)) (hK : P.underlying K = some (.int .i64)) {w : World} {b : Nat} {l : List (Int × Value)} (h : IMap w b l) (k : Int) (v : Value) :
    ∃ w', (Instr.mapUpdate T (.map (some b)) (.int .i64 k) v).run P w = .ok () w' ∧ IMap w' b (upd k v l) ∧ w.grownBy w' (some b) := by
  have hlt := h.lt
  obtain ⟨es, clock, h1, h2⟩ := h
  obtain ⟨r, e1, _, e3, e4⟩ := findNow_int k es.toList l 0 h2
  have hg : (getObj b).run P w = .ok (.map es clock) w := by simp [getObj, Sem.run, h1]
  have hset : ∀ o : Obj, (setObj b o).run P w = .ok () { w with heap := w.heap.setIfInBounds b o } := fun o => by simp [setObj, Sem.run, h1]
  have hgrow : ∀ o : Obj, w.grownBy { w with heap := w.heap.setIfInBounds b o } (some b) := fun o => ⟨rfl, rfl, rfl, by simp, fun i _ hne => by
    show (w.heap.setIfInBounds b o)[i]? = _
    rw [Array.getElem?_setIfInBounds_ne]
    intro e
    exact hne (by rw [e])⟩
  have hnew : ∀ o : Obj, ({ w with heap := w.heap.setIfInBounds b o } : World).heap[b]? = some o := fun o => by
    show (w.heap.setIfInBounds b o)[b]? = _
    rw [Array.getElem?_setIfInBounds_self_of_lt hlt]
  cases r with
  | none =>
    refine ⟨_, ?_, ⟨es.push { key := .int .i64 k, val := v, born := clock }, clock + 1, hnew _, ?_⟩, hgrow _⟩
    · simp [Instr.mapUpdate, run_underlying hT, hg, run_checkKey_int hK, Instr.findKey, run_underlying hK, e1, hset]
    · rw [Array.toList_push, List.map_append]
      exact e4 rfl v
  | some q =>
    obtain ⟨j, x⟩ := q
    obtain ⟨_, a2, a3, a4⟩ := e3 j x rfl
    have a5 := a4 v
    simp only [Nat.sub_zero] at a2 a3 a5
    have hkey : ((es[j]?).map (·.key)).getD (.int .i64 k) = .int .i64 k := by
      rw [← Array.getElem?_toList, a3]; rfl
    refine ⟨_, ?_, ⟨es.modify j fun e => { e with key := .int .i64 k, val := v }, clock, hnew _, ?_⟩, hgrow _⟩
    · simp [Instr.mapUpdate, run_underlying hT, hg, run_checkKey_int hK, Instr.findKey, run_underlying hK, e1, hkey, Instr.keyThatStays, Instr.sameBits, hset]
    · rw [Array.toList_modify]
      exact a5
end
end Go.Proofs.YtjmppionedcfeaaGreatDoor
