/-
  Maps by their contents, whatever the keys' type: m a is what the map holds at a.
-/
import Derived.WalkKit
import Derived.Maps.RangeWalk
import Derived.Maps.OwnOps
import Derived.Maps.RangeRun
import Derived.WideKeyEntry
set_option linter.unusedVariables false
set_option linter.unusedSimpArgs false
namespace Go.Proofs.Ytmoolcpogilgkaa
open Go.Maps (Keyed)

/-- the keys' type, as the values enc a, a good -/
structure KeyK (P : Program) (K : TypeId) {α : Type} (enc : α → Value) (ok : α → Prop) : Prop where
  keyed : Keyed P K
  key : ∀ a, ok a → ∃ l, keyOf P K (enc a) = some l
  inj : ∀ a b, enc a = enc b → a = b

structure Ents {α : Type} (enc : α → Value) (ok : α → Prop) (es : List MapEntry) (clock : Nat) (m : α → Option Value) : Prop where
  mem : ∀ e ∈ es, ∃ a, ok a ∧ e.key = enc a ∧ m a = some e.val
  has : ∀ a v, m a = some v → ∃ e ∈ es, e.key = enc a ∧ e.val = v
  old : ∀ e ∈ es, e.born < clock
  borns : (es.map (·.born)).Nodup
  keys : (es.map (·.key)).Nodup

def KMap {α : Type} (enc : α → Value) (ok : α → Prop) (w : World) (b : Nat) (m : α → Option Value) : Prop :=
  ∃ es clock, w.heap[b]? = some (.map es clock) ∧ Ents enc ok es.toList clock m

def updK {α : Type} [DecidableEq α] (m : α → Option Value) (a : α) (v : Value) : α → Option Value := fun q => if q = a then some v else m q

/-- how many entries an iterator has still to hand out -/
def itLeft (w : World) (r : Nat) : Nat :=
  match w.heap[r]? with
  | some (.mapIter (some bm) _ seen _) => match w.heap[bm]? with
    | some (.map es _) => (leftOf es seen).size
    | _ => 0
  | _ => 0
section
variable {P : Program} {K : TypeId} {α : Type} {enc : α → Value} {ok : α → Prop}

theorem KMap.keep {w w' : World} {b : Nat} {m : α → Option Value} (h : KMap enc ok w b m) (hb : w'.heap[b]? = w.heap[b]?) : KMap enc ok w' b m := by
  obtain ⟨es, clock, h1, h2⟩ := h
  exact ⟨es, clock, hb.trans h1, h2⟩
theorem KMap.lt {w : World} {b : Nat} {m : α → Option Value} (h : KMap enc ok w b m) : b < w.heap.size := by
  obtain ⟨es, clock, h1, h2⟩ := h
  rcases Nat.lt_or_ge b w.heap.size with hlt | hge
  · exact hlt
  · rw [Array.getElem?_eq_none hge] at h1; cases h1
theorem KMap.new (w : World) : KMap enc ok (w.alloc (.map #[] 0)) w.heap.size (fun _ => none) :=
  ⟨#[], 0, heap_alloc_new w _, ⟨by simp, by simp, by simp, by simp, by simp⟩⟩
theorem KMap.alloc {w : World} {b : Nat} {m : α → Option Value} (h : KMap enc ok w b m) (o : Obj) : KMap enc ok (w.alloc o) b m := h.keep (heap_alloc_old w o h.lt)
theorem KMap.grown {w w' : World} {b : Nat} {m : α → Option Value} {row : Option Nat} (h : KMap enc ok w b m) (hg : w.grownBy w' row) (hne : some b ≠ row) : KMap enc ok w' b m :=
  h.keep (hg.block b h.lt hne)
theorem KMap.drew {w : World} {b : Nat} {m : α → Option Value} (h : KMap enc ok w b m) : KMap enc ok w.drew b m := h
theorem KMap.okAt {w : World} {b : Nat} {m : α → Option Value} (h : KMap enc ok w b m) (KK : KeyK P K enc ok) {a : α} {v : Value} (ha : m a = some v) : ok a := by
  obtain ⟨es, clock, h1, h2⟩ := h
  obtain ⟨e, he, hk, _⟩ := h2.has a v ha
  obtain ⟨a', ho, hk', _⟩ := h2.mem e he
  rw [KK.inj a a' (hk.symm.trans hk')]
  exact ho

theorem Ents.find {es : List MapEntry} {clock : Nat} {m : α → Option Value} (h : Ents enc ok es clock m) (KK : KeyK P K enc ok) (w : World) (a : α) (ha : ok a) :
    ((Instr.findKey K (enc a) es).run P w = .ok none w ∧ m a = none ∧ ∀ e ∈ es, e.key ≠ enc a) ∨
    ∃ j e, (Instr.findKey K (enc a) es).run P w = .ok (some (j, e.val)) w ∧ es[j]? = some e ∧ e.key = enc a ∧ m a = some e.val := by
  obtain ⟨l, hl⟩ := KK.key a ha
  have hall : ∀ e ∈ es, ∃ l, keyOf P K e.key = some l := fun e he => by
    obtain ⟨a', ho, hk, _⟩ := h.mem e he
    rw [hk]
    exact KK.key a' ho
  rcases KK.keyed.find w hl es hall with ⟨h1, h2⟩ | ⟨j, e, h1, h2, h3⟩
  · left
    refine ⟨h1, ?_, h2⟩
    cases hm : m a with
    | none => rfl
    | some v =>
      obtain ⟨e, he, hk, _⟩ := h.has a v hm
      exact absurd hk (h2 e he)
  · right
    obtain ⟨a', ho, hk, hv⟩ := h.mem e (List.mem_of_getElem? h2)
    have := KK.inj a a' (h3.symm.trans hk)
    subst this
    exact ⟨j, e, h1, h2, h3, hv⟩

theorem run_lookupK {T E : TypeId} (KK : KeyK P K enc ok) (hT : P.underlying T = some (.map K E)) {Z : Value} (hZ : ∀ w, (zeroValue E).run P w = .ok Z w) {w : World} {b : Nat} {m : α → Option Value} (h : KMap enc ok w b m) (a : α) (ha : ok a) :
    (Instr.lookup T (.map (some b)) (enc a) false).run P w = .ok ((m a).getD Z) w := by
  obtain ⟨es, clock, h1, h2⟩ := h
  have hg : (getObj b).run P w = .ok (.map es clock) w := by simp [getObj, Sem.run, h1]
  obtain ⟨l, hl⟩ := KK.key a ha
  have hc := fun em => KK.keyed.check w em hl
  rcases h2.find KK w a ha with ⟨e1, e2, _⟩ | ⟨j, e, e1, _, _, e2⟩
  · simp [Instr.lookup, run_underlying hT, hg, hc, e1, hZ, e2]
  · simp [Instr.lookup, run_underlying hT, hg, hc, e1, e2]

theorem run_lookupK2 {T E : TypeId} (KK : KeyK P K enc ok) (hT : P.underlying T = some (.map K E)) {Z : Value} (hZ : ∀ w, (zeroValue E).run P w = .ok Z w) {w : World} {b : Nat} {m : α → Option Value} (h : KMap enc ok w b m) (a : α) (ha : ok a) :
    (Instr.lookup T (.map (some b)) (enc a) true).run P w = .ok (.tuple #[(m a).getD Z, .bool (m a).isSome]) w := by
  obtain ⟨es, clock, h1, h2⟩ := h
  have hg : (getObj b).run P w = .ok (.map es clock) w := by simp [getObj, Sem.run, h1]
  obtain ⟨l, hl⟩ := KK.key a ha
  have hc := fun em => KK.keyed.check w em hl
  rcases h2.find KK w a ha with ⟨e1, e2, _⟩ | ⟨j, e, e1, _, _, e2⟩
  · simp [Instr.lookup, run_underlying hT, hg, hc, e1, hZ, e2]
  · simp [Instr.lookup, run_underlying hT, hg, hc, e1, e2]

theorem nodup_map_inj {β : Type} {f : MapEntry → β} : ∀ {l : List MapEntry}, (l.map f).Nodup → ∀ {i j : Nat} {x y : MapEntry}, l[i]? = some x → l[j]? = some y → f x = f y → i = j := by
  intro l h i j x y hi hj hxy
  have hil : i < (l.map f).length := by simpa using (List.getElem?_eq_some_iff.1 hi).1
  have hjl : j < (l.map f).length := by simpa using (List.getElem?_eq_some_iff.1 hj).1
  refine (List.getElem_inj (h₀ := hil) (h₁ := hjl) h).1 ?_
  have e1 : (l.map f)[i]? = some (f x) := by simp [hi]
  have e2 : (l.map f)[j]? = some (f y) := by simp [hj]
  rw [List.getElem?_eq_getElem hil] at e1
  rw [List.getElem?_eq_getElem hjl] at e2
  rw [Option.some.inj e1, Option.some.inj e2, hxy]

variable [DecidableEq α]

theorem Ents.push {es : List MapEntry} {clock : Nat} {m : α → Option Value} (h : Ents enc ok es clock m) (KK : KeyK P K enc ok) (a : α) (ha : ok a) (hn : m a = none) (hk : ∀ e ∈ es, e.key ≠ enc a) (v : Value) :
    Ents enc ok (es ++ [{ key := enc a, val := v, born := clock }]) (clock + 1) (updK m a v) where
  mem e he := by
    rcases List.mem_append.1 he with he | he
    · obtain ⟨a', ho, hk', hv⟩ := h.mem e he
      refine ⟨a', ho, hk', ?_⟩
      have : a' ≠ a := fun e' => hk e he (by rw [hk', e'])
      simp [updK, this, hv]
    · simp only [List.mem_singleton] at he
      subst he
      exact ⟨a, ha, rfl, by simp [updK]⟩
  has a' v' hv := by
    by_cases hc : a' = a
    · subst hc
      simp [updK] at hv
      exact ⟨{ key := enc a', val := v, born := clock }, by simp, rfl, hv⟩
    · simp only [updK, hc, if_false] at hv
      obtain ⟨e, he, h1, h2⟩ := h.has a' v' hv
      exact ⟨e, by simp [he], h1, h2⟩
  old e he := by
    rcases List.mem_append.1 he with he | he
    · have := h.old e he; omega
    · simp only [List.mem_singleton] at he
      subst he
      simp
  borns := by
    rw [List.map_append, List.nodup_append]
    refine ⟨h.borns, by simp, ?_⟩
    intro x hx y hy
    simp only [List.map_cons, List.map_nil, List.mem_singleton] at hy
    obtain ⟨e, he, rfl⟩ := List.mem_map.1 hx
    have := h.old e he
    omega
  keys := by
    rw [List.map_append, List.nodup_append]
    refine ⟨h.keys, by simp, ?_⟩
    intro x hx y hy
    simp only [List.map_cons, List.map_nil, List.mem_singleton] at hy
    obtain ⟨e, he, rfl⟩ := List.mem_map.1 hx
    rw [hy]
    exact hk e he

theorem Ents.set {es : List MapEntry} {clock : Nat} {m : α → Option Value} (h : Ents enc ok es clock m) (KK : KeyK P K enc ok) (a : α) (ha : ok a) {j : Nat} {e0 : MapEntry} (hj : es[j]? = some e0) (hk : e0.key = enc a) (v : Value) :
    Ents enc ok (es.modify j fun e => { e with key := enc a, val := v }) clock (updK m a v) := by
  have hget : ∀ i, (es.modify j fun e => { e with key := enc a, val := v })[i]? = if j = i then (es[i]?).map (fun e => { e with key := enc a, val := v }) else es[i]? := fun i => by
    rw [List.getElem?_modify]
    split <;> simp
  have hborn : (es.modify j fun e => { e with key := enc a, val := v }).map (·.born) = es.map (·.born) := by
    apply List.ext_getElem?
    intro i
    simp only [List.getElem?_map, hget]
    split
    · cases es[i]? <;> rfl
    · rfl
  have hkeys : (es.modify j fun e => { e with key := enc a, val := v }).map (·.key) = es.map (·.key) := by
    apply List.ext_getElem?
    intro i
    simp only [List.getElem?_map, hget]
    split
    · rename_i hc
      subst hc
      rw [hj]
      simp [hk]
    · rfl
  refine ⟨?_, ?_, ?_, by rw [hborn]; exact h.borns, by rw [hkeys]; exact h.keys⟩
  · intro e he
    obtain ⟨i, hi⟩ := List.getElem?_of_mem he
    rw [hget] at hi
    split at hi
    · rename_i hc
      subst hc
      rw [hj] at hi
      simp at hi
      subst hi
      exact ⟨a, ha, rfl, by simp [updK]⟩
    · rename_i hc
      obtain ⟨a', ho, hk', hv⟩ := h.mem e (List.mem_of_getElem? hi)
      refine ⟨a', ho, hk', ?_⟩
      have : a' ≠ a := fun e' => hc (nodup_map_inj h.keys hj hi (by rw [hk, hk', e']))
      simp [updK, this, hv]
  · intro a' v' hv
    by_cases hc : a' = a
    · subst hc
      simp [updK] at hv
      subst hv
      refine ⟨{ e0 with key := enc a', val := v }, List.mem_of_getElem? (i := j) (by rw [hget, if_pos rfl, hj]; rfl), rfl, rfl⟩
    · simp only [updK, hc, if_false] at hv
      obtain ⟨e, he, h1, h2⟩ := h.has a' v' hv
      obtain ⟨i, hi⟩ := List.getElem?_of_mem he
      have hne : ¬ j = i := fun e' => by
        subst e'
        rw [hj] at hi
        cases hi
        exact hc (KK.inj _ _ (h1.symm.trans hk))
      exact ⟨e, List.mem_of_getElem? (i := i) (by rw [hget, if_neg hne, hi]), h1, h2⟩
  · intro e he
    obtain ⟨i, hi⟩ := List.getElem?_of_mem he
    rw [hget] at hi
    split at hi
    · rename_i hc
      subst hc
      rw [hj] at hi
      simp at hi
      subst hi
      exact h.old e0 (List.mem_of_getElem? hj)
    · exact h.old e (List.mem_of_getElem? hi)

theorem run_updateK {T E : TypeId} (KK : KeyK P K enc ok) (hT : P.underlying T = some (.map K E)) {w : World} {b : Nat} {m : α → Option Value} (h : KMap enc ok w b m) (a : α) (ha : ok a) (v : Value) :
    ∃ w', (Instr.mapUpdate T (.map (some b)) (enc a) v).run P w = .ok () w' ∧ KMap enc ok w' b (updK m a v) ∧ w.grownBy w' (some b) ∧ w'.heap.size = w.heap.size := by
  have hlt := h.lt
  obtain ⟨es, clock, h1, h2⟩ := h
  have hg : (getObj b).run P w = .ok (.map es clock) w := by simp [getObj, Sem.run, h1]
  obtain ⟨l, hl⟩ := KK.key a ha
  have hc := KK.keyed.check w false hl
  have hset : ∀ o : Obj, (setObj b o).run P w = .ok () { w with heap := w.heap.setIfInBounds b o } := fun o => by simp [setObj, Sem.run, h1]
  have hgrow : ∀ o : Obj, w.grownBy { w with heap := w.heap.setIfInBounds b o } (some b) := fun o => ⟨rfl, rfl, rfl, by simp, fun i _ hne => by
    show (w.heap.setIfInBounds b o)[i]? = _
    rw [Array.getElem?_setIfInBounds_ne]
    intro e
    exact hne (by rw [e])⟩
  have hnew : ∀ o : Obj, ({ w with heap := w.heap.setIfInBounds b o } : World).heap[b]? = some o := fun o => by
    show (w.heap.setIfInBounds b o)[b]? = _
    rw [Array.getElem?_setIfInBounds_self_of_lt hlt]
  rcases h2.find KK w a ha with ⟨e1, e2, e3⟩ | ⟨j, e, e1, e2, e3, e4⟩
  · refine ⟨_, ?_, ⟨es.push { key := enc a, val := v, born := clock }, clock + 1, hnew _, ?_⟩, hgrow _, by simp⟩
    · simp [Instr.mapUpdate, run_underlying hT, hg, hc, e1, hset]
    · rw [Array.toList_push]
      exact h2.push KK a ha e2 e3 v
  · have hkey : ((es[j]?).map (·.key)).getD (enc a) = enc a := by
      rw [← Array.getElem?_toList, e2]; exact e3
    have hst := KK.keyed.stays w hl
    refine ⟨_, ?_, ⟨es.modify j fun e => { e with key := enc a, val := v }, clock, hnew _, ?_⟩, hgrow _, by simp⟩
    · simp [Instr.mapUpdate, run_underlying hT, hg, hc, e1, hkey, hst, hset]
    · rw [Array.toList_modify]
      exact h2.set KK a ha e2 e3 v

theorem modify_same {es : List MapEntry} {j : Nat} {e0 : MapEntry} (hj : es[j]? = some e0) {f g : MapEntry → MapEntry} (h : f e0 = g e0) : es.modify j f = es.modify j g := by
  rw [ChangeMaps.modify_eq_set _ _ _ _ hj, ChangeMaps.modify_eq_set _ _ _ _ hj, h]

/-- 'm[k] op= v': the entry, made where it is not there, and then its store -/
theorem run_entryK {T E : TypeId} (KK : KeyK P K enc ok) (hT : P.underlying T = some (.map K E)) {Z : Value} (hZ : ∀ w, (zeroValue E).run P w = .ok Z w) {w : World} {b : Nat} {m : α → Option Value} (h : KMap enc ok w b m) (a : α) (ha : ok a) :
    ∃ (w1 : World) (st : Nat), (Instr.mapEntry T (.map (some b)) (enc a)).run P w = .ok (.tuple #[(m a).getD Z, goInt st]) w1 ∧ KMap enc ok w1 b (updK m a ((m a).getD Z)) ∧ w.grownBy w1 (some b) ∧ w1.heap.size = w.heap.size ∧
      ∀ v : Value, ∃ w2, (Instr.entryStore T (.map (some b)) (goInt st) v).run P w1 = .ok () w2 ∧ KMap enc ok w2 b (updK m a v) ∧ w.grownBy w2 (some b) ∧ w2.heap.size = w.heap.size := by
  have hlt := h.lt
  obtain ⟨es, clock, h1, h2⟩ := h
  have hg : (getObj b).run P w = .ok (.map es clock) w := by simp [getObj, Sem.run, h1]
  obtain ⟨l, hl⟩ := KK.key a ha
  have hc := KK.keyed.check w false hl
  have hset : ∀ (w : World) (o : Obj) es' clock', w.heap[b]? = some (.map es' clock') → (setObj b o).run P w = .ok () { w with heap := w.heap.setIfInBounds b o } := fun w o es' clock' h1 => by simp [setObj, Sem.run, h1]
  have hgrow : ∀ o : Obj, w.grownBy { w with heap := w.heap.setIfInBounds b o } (some b) := fun o => ⟨rfl, rfl, rfl, by simp, fun i _ hne => by
    show (w.heap.setIfInBounds b o)[i]? = _
    rw [Array.getElem?_setIfInBounds_ne]
    intro e
    exact hne (by rw [e])⟩
  have hgrow2 : ∀ o o' : Obj, w.grownBy { w with heap := (w.heap.setIfInBounds b o).setIfInBounds b o' } (some b) := fun o o' => ⟨rfl, rfl, rfl, by simp, fun i _ hne => by
    show ((w.heap.setIfInBounds b o).setIfInBounds b o')[i]? = _
    rw [Array.getElem?_setIfInBounds_ne, Array.getElem?_setIfInBounds_ne]
    · intro e
      exact hne (by rw [e])
    · intro e
      exact hne (by rw [e])⟩
  have hnew : ∀ o : Obj, ({ w with heap := w.heap.setIfInBounds b o } : World).heap[b]? = some o := fun o => by
    show (w.heap.setIfInBounds b o)[b]? = _
    rw [Array.getElem?_setIfInBounds_self_of_lt hlt]
  have hnew2 : ∀ o o' : Obj, ({ w with heap := (w.heap.setIfInBounds b o).setIfInBounds b o' } : World).heap[b]? = some o' := fun o o' => by
    show ((w.heap.setIfInBounds b o).setIfInBounds b o')[b]? = _
    rw [Array.getElem?_setIfInBounds_self_of_lt (by simpa using hlt)]
  rcases h2.find KK w a ha with ⟨e1, e2, e3⟩ | ⟨j, e, e1, e2, e3, e4⟩
  · have hp := h2.push KK a ha e2 e3 Z
    have hj : (es.push { key := enc a, val := Z, born := clock }).toList[es.size]? = some { key := enc a, val := Z, born := clock } := by
      rw [Array.toList_push, ← Array.length_toList, List.getElem?_append_right (Nat.le_refl _)]; simp
    refine ⟨_, clock, ?_, ⟨es.push { key := enc a, val := Z, born := clock }, clock + 1, hnew _, ?_⟩, hgrow _, by simp, fun v => ⟨_, ?_, ⟨(es.push { key := enc a, val := Z, born := clock }).modify es.size (fun e => { e with val := v }), clock + 1, hnew2 (.map (es.push { key := enc a, val := Z, born := clock }) (clock + 1)) _, ?_⟩, hgrow2 (.map (es.push { key := enc a, val := Z, born := clock }) (clock + 1)) _, by simp⟩⟩
    · simp [Instr.mapEntry, run_underlying hT, hg, hc, e1, e2, hZ, hset w _ _ _ h1]
    · rw [Array.toList_push, e2]
      exact hp
    · have hg1 := hnew (.map (es.push { key := enc a, val := Z, born := clock }) (clock + 1))
      have hidx : (es.push { key := enc a, val := Z, born := clock }).findIdx? (fun e => ((e.born : Nat) : Int) == ((clock : Nat) : Int)) = some es.size := by
        rw [WideElems.findIdx_arr]
        have hb : ((es.push { key := enc a, val := Z, born := clock }).toList.map (·.born)).Nodup := by rw [Array.toList_push]; exact hp.borns
        exact WideElems.findIdx_born hb hj
      have hg2 : (getObj b).run P { w with heap := w.heap.setIfInBounds b (.map (es.push { key := enc a, val := Z, born := clock }) (clock + 1)) } = .ok (.map (es.push { key := enc a, val := Z, born := clock }) (clock + 1)) { w with heap := w.heap.setIfInBounds b (.map (es.push { key := enc a, val := Z, born := clock }) (clock + 1)) } := by simp only [getObj, Sem.run, hg1]
      simp only [Instr.entryStore, Sem.run_bind, hg2, Result.andThen, asInt, asIntOf, goInt, Sem.run_pure, hidx]
      exact hset _ _ _ _ hg1
    · have := hp.set KK a ha (j := es.size) (e0 := { key := enc a, val := Z, born := clock }) (by rw [← Array.toList_push]; exact hj) rfl v
      have eq : updK (updK m a Z) a v = updK m a v := funext fun q => by unfold updK; split <;> rfl
      rw [eq] at this
      rw [Array.toList_modify]
      refine Eq.mp (congrArg (fun x => Ents enc ok x (clock + 1) (updK m a v)) ?_) this
      rw [Array.toList_push]
      exact modify_same (by rw [← Array.toList_push]; exact hj) rfl
  · have hkey : ((es[j]?).map (·.key)).getD (enc a) = enc a := by
      rw [← Array.getElem?_toList, e2]; exact e3
    have hborn : ((es[j]?).map (fun x => (x.born : Int))).getD 0 = (e.born : Int) := by
      rw [← Array.getElem?_toList, e2]; rfl
    have hst := KK.keyed.stays w hl
    have hsame : es.modify j (fun e => { e with key := enc a }) = es := by
      apply Array.ext'
      rw [Array.toList_modify, ChangeMaps.modify_eq_set _ _ _ _ e2]
      have : ({ e with key := enc a } : MapEntry) = e := by rw [← e3]
      rw [this]
      exact WideElems.set_self _ _ _ e2
    have eq : updK m a e.val = m := funext fun q => by
      unfold updK
      split
      · rename_i hq; rw [hq, e4]
      · rfl
    refine ⟨_, e.born, ?_, ⟨es, clock, hnew _, ?_⟩, hgrow _, by simp, fun v => ⟨_, ?_, ⟨es.modify j (fun e => { e with val := v }), clock, hnew2 (.map es clock) _, ?_⟩, hgrow2 (.map es clock) _, by simp⟩⟩
    · simp only [Instr.mapEntry, Sem.run_bind, run_underlying hT, hg, hc, e1, Result.andThen, hkey, hst, hsame, hset w _ _ _ h1, Sem.run_pure, hborn, e4]
      rfl
    · rw [e4]
      show Ents enc ok es.toList clock (updK m a e.val)
      rw [eq]
      exact h2
    · have hg1 := hnew (.map es clock)
      have hidx : es.findIdx? (fun e' => ((e'.born : Nat) : Int) == ((e.born : Nat) : Int)) = some j := by
        rw [WideElems.findIdx_arr]
        exact WideElems.findIdx_born h2.borns e2
      have hg2 : (getObj b).run P { w with heap := w.heap.setIfInBounds b (.map es clock) } = .ok (.map es clock) { w with heap := w.heap.setIfInBounds b (.map es clock) } := by simp only [getObj, Sem.run, hg1]
      simp only [Instr.entryStore, Sem.run_bind, hg2, Result.andThen, asInt, asIntOf, goInt, Sem.run_pure, hidx]
      exact hset _ _ _ _ hg1
    · have := h2.set KK a ha e2 e3 v
      rw [Array.toList_modify]
      refine Eq.mp (congrArg (fun x => Ents enc ok x clock (updK m a v)) ?_) this
      exact modify_same e2 (by rw [← e3])

/-! ### a range over a map that stays -/
/-- the iterator's block r, over the map of block b (none: the nil map); left: the keys still to come; cnt: how many entries -/
def KIt (enc : α → Value) (ok : α → Prop) (w : World) (r : Nat) (b : Option Nat) (m : α → Option Value) (left : α → Prop) (cnt : Nat) : Prop :=
  (b = none ∧ cnt = 0 ∧ (∀ a, ¬ left a) ∧ ∃ a s c, w.heap[r]? = some (.mapIter none a s c)) ∨
  ∃ bm es clock since seen c0, b = some bm ∧ w.heap[bm]? = some (.map es clock) ∧ Ents enc ok es.toList clock m ∧ w.heap[r]? = some (.mapIter (some bm) since seen c0) ∧
    (∀ e ∈ es.toList, e.born < since) ∧ since ≤ c0 ∧ since ≤ clock ∧ (∀ a, left a → ∃ e ∈ (leftOf es seen).toList, e.key = enc a) ∧ cnt = (leftOf es seen).size ∧
    ∀ e ∈ (leftOf es seen).toList, ∃ a, left a ∧ e.key = enc a

omit [DecidableEq α] in
theorem KIt.keep {w w' : World} {r : Nat} {b : Option Nat} {m : α → Option Value} {left : α → Prop} {cnt : Nat} (h : KIt enc ok w r b m left cnt) (hr : w'.heap[r]? = w.heap[r]?) (hb : ∀ bm, b = some bm → w'.heap[bm]? = w.heap[bm]?) : KIt enc ok w' r b m left cnt := by
  rcases h with ⟨rfl, h1, h2, a, s, c, h3⟩ | ⟨bm, es, clock, since, seen, c0, rfl, h1, h2, h3, h4⟩
  · exact Or.inl ⟨rfl, h1, h2, a, s, c, hr.trans h3⟩
  · exact Or.inr ⟨bm, es, clock, since, seen, c0, rfl, (hb bm rfl).trans h1, h2, hr.trans h3, h4⟩

omit [DecidableEq α] in
theorem KIt.ltR {w : World} {r : Nat} {b : Option Nat} {m : α → Option Value} {left : α → Prop} {cnt : Nat} (h : KIt enc ok w r b m left cnt) : r < w.heap.size := by
  have : ∃ o, w.heap[r]? = some o := by
    rcases h with ⟨_, _, _, a, s, c, h3⟩ | ⟨bm, es, clock, since, seen, c0, rfl, h1, h2, h3, h4⟩
    · exact ⟨_, h3⟩
    · exact ⟨_, h3⟩
  obtain ⟨o, ho⟩ := this
  exact (Array.getElem?_eq_some_iff.1 ho).1

/-- what 'range m' reads: the map of block b, or nil -/
def KMapO (enc : α → Value) (ok : α → Prop) (w : World) (b : Option Nat) (m : α → Option Value) : Prop :=
  match b with | none => ∀ a, m a = none | some bm => KMap enc ok w bm m

omit [DecidableEq α] in
theorem run_rangeK {T E : TypeId} (hT : P.underlying T = some (.map K E)) {w : World} {b : Option Nat} {m : α → Option Value} (h : KMapO enc ok w b m) :
    ∃ w', (Instr.range T (.map b)).run P w = .ok (.pointer (some ⟨w.heap.size, 0, none⟩)) w' ∧ (∃ cnt, KIt enc ok w' w.heap.size b m (fun a => (m a).isSome) cnt) ∧ ∃ o, w' = w.alloc o := by
  cases b with
  | none =>
    refine ⟨_, run_range_nilMap w T K E hT, ⟨0, Or.inl ⟨rfl, rfl, fun a ha => ?_, _, _, _, heap_alloc_new w _⟩⟩, _, rfl⟩
    have : m a = none := h a
    simp [this] at ha
  | some bm =>
    have hlt := KMap.lt h
    obtain ⟨es, clock, h1, h2⟩ := h
    refine ⟨_, run_range_map w T K E bm es clock hT h1, ⟨_, Or.inr ⟨bm, es, clock, clock, #[], clock, rfl, (heap_alloc_old w _ hlt).trans h1, h2, heap_alloc_new w _, h2.old, Nat.le_refl _, Nat.le_refl _, fun a ha => ?_, rfl, fun e he => ?_⟩⟩, _, rfl⟩
    · obtain ⟨v, hv⟩ := Option.isSome_iff_exists.1 ha
      obtain ⟨e, he, hk, _⟩ := h2.has a v hv
      exact ⟨e, by simpa [leftOf] using he, hk⟩
    · obtain ⟨a, _, hk, hv⟩ := h2.mem e (by simpa [leftOf] using he)
      exact ⟨a, by show (m a).isSome = true; rw [hv]; rfl, hk⟩

omit [DecidableEq α] in
/-- one step: nothing is left, or an entry comes -/
theorem KIt.next2 {w : World} {r : Nat} {b : Option Nat} {m : α → Option Value} {left : α → Prop} {cnt : Nat} (KK : KeyK P K enc ok) (h : KIt enc ok w r b m left cnt) (ty : TypeId) :
    ((∀ a, ¬ left a) ∧ (Instr.next (.pointer (some ⟨r, 0, none⟩)) false ty).run P w = .ok (.tuple #[.bool false]) w) ∨
    ∃ a v w' cnt', ok a ∧ m a = some v ∧ left a ∧ (Instr.next (.pointer (some ⟨r, 0, none⟩)) false ty).run P w = .ok (.tuple #[.bool true, enc a, v]) w' ∧ KIt enc ok w' r b m (fun q => left q ∧ q ≠ a) cnt' ∧ cnt' < cnt ∧
      w.grownBy w' (some r) ∧ w'.heap.size = w.heap.size ∧ (Instr.entry (.pointer (some ⟨r, 0, none⟩))).run P w' = .ok (.tuple #[enc a, v]) w' := by
  rcases h with ⟨rfl, h1, h2, a, s, c, h3⟩ | ⟨bm, es, clock, since, seen, c0, rfl, hb, hE, hr, hold, hsc, hclk, hleft, hcnt, hconv⟩
  · left
    refine ⟨h2, ?_⟩
    simp only [Instr.next, getObj, Sem.run_bind, Sem.run, h3, Result.andThen]
    rfl
  · have hrb : r ≠ bm := fun e => by
      rw [e] at hr
      rw [hr] at hb
      cases hb
    rcases run_next_at (P := P) w ty r bm since c0 seen es clock hr hb hold hsc with ⟨h0, hrun⟩ | ⟨e, he, w1, hw1, hrun⟩
    · left
      refine ⟨fun a ha => ?_, hrun⟩
      obtain ⟨e, he, _⟩ := hleft a ha
      have : (leftOf es seen).toList.length = 0 := by simpa using h0
      rw [List.length_eq_zero_iff.1 this] at he
      cases he
    · right
      have hes : e ∈ es.toList ∧ seen.contains e.born = false := by simpa [leftOf] using he
      obtain ⟨a, ho, hk, hv⟩ := hE.mem e hes.1
      have hr1 : w1.heap = w.heap := by rcases hw1 with rfl | rfl <;> rfl
      have hrl : r < w.heap.size := (Array.getElem?_eq_some_iff.1 hr).1
      have hbn : (ChangeMaps.setBlock w1 r (.mapIter (some bm) since (seen.push e.born) clock)).heap[bm]? = some (.map es clock) := by
        show (w1.heap.setIfInBounds r _)[bm]? = _
        rw [Array.getElem?_setIfInBounds_ne hrb, hr1, hb]
      have hrn : (ChangeMaps.setBlock w1 r (.mapIter (some bm) since (seen.push e.born) clock)).heap[r]? = some (.mapIter (some bm) since (seen.push e.born) clock) := by
        show (w1.heap.setIfInBounds r _)[r]? = _
        rw [Array.getElem?_setIfInBounds_self_of_lt (by rw [hr1]; exact hrl)]
      obtain ⟨a2, hl2, hk2⟩ := hconv e he
      obtain rfl : a2 = a := KK.inj _ _ (hk2.symm.trans hk)
      refine ⟨a2, e.val, _, _, ho, hv, hl2, by rw [hrun, hk], Or.inr ⟨bm, es, clock, since, seen.push e.born, clock, rfl, hbn, hE, hrn, hold, hclk, hclk, ?_, rfl, ?_⟩, ?_, ?_, ?_, ?_⟩
      · rintro q ⟨hq, hne⟩
        obtain ⟨e', he', hk'⟩ := hleft q hq
        have hes' : e' ∈ es.toList ∧ seen.contains e'.born = false := by simpa [leftOf] using he'
        refine ⟨e', ?_, hk'⟩
        have hb' : e'.born ≠ e.born := fun hbb => by
          obtain ⟨i, hi⟩ := List.getElem?_of_mem hes.1
          obtain ⟨j, hj⟩ := List.getElem?_of_mem hes'.1
          have := nodup_map_inj hE.borns hj hi hbb
          subst this
          rw [hi] at hj
          cases hj
          exact hne (KK.inj _ _ (hk'.symm.trans hk))
        have h1 := hes'.1
        have h2 := hes'.2
        simp [leftOf] at h1 h2 ⊢
        exact ⟨h1, h2, hb'⟩
      · intro e' he'
        have hes' : e' ∈ es.toList ∧ seen.contains e'.born = false ∧ e'.born ≠ e.born := by
          simp [leftOf] at he' ⊢
          exact ⟨he'.1, he'.2.1, he'.2.2⟩
        obtain ⟨a', hl', hk'⟩ := hconv e' (by simp [leftOf]; exact ⟨by simpa using hes'.1, by simpa using hes'.2.1⟩)
        refine ⟨a', ⟨hl', fun hea => ?_⟩, hk'⟩
        subst hea
        obtain ⟨i, hi⟩ := List.getElem?_of_mem hes.1
        obtain ⟨j, hj⟩ := List.getElem?_of_mem hes'.1
        have := nodup_map_inj hE.keys hj hi (hk'.trans hk.symm)
        subst this
        rw [hi] at hj
        cases hj
        exact hes'.2.2 rfl
      · rw [hcnt]
        exact left_shrinks es seen e he
      · rcases hw1 with rfl | rfl <;> exact ⟨rfl, rfl, rfl, by simp [ChangeMaps.setBlock], fun i _ hi => by
          show (Array.setIfInBounds _ r _)[i]? = _
          exact (Array.getElem?_setIfInBounds_ne (fun e1 => hi (by rw [e1]))).trans rfl⟩
      · simp [ChangeMaps.setBlock, hr1]
      · rw [run_entry_at _ r bm since seen es clock e hrn hbn hes.1 hE.borns, hk]
omit [DecidableEq α] in
theorem KIt.next {w : World} {r : Nat} {b : Option Nat} {m : α → Option Value} {left : α → Prop} {cnt : Nat} (KK : KeyK P K enc ok) (h : KIt enc ok w r b m left cnt) (ty : TypeId) :
    ((∀ a, ¬ left a) ∧ (Instr.next (.pointer (some ⟨r, 0, none⟩)) false ty).run P w = .ok (.tuple #[.bool false]) w) ∨
    ∃ a v w' cnt', ok a ∧ m a = some v ∧ (Instr.next (.pointer (some ⟨r, 0, none⟩)) false ty).run P w = .ok (.tuple #[.bool true, enc a, v]) w' ∧ KIt enc ok w' r b m (fun q => left q ∧ q ≠ a) cnt' ∧ cnt' < cnt ∧
      w.grownBy w' (some r) ∧ w'.heap.size = w.heap.size ∧ (Instr.entry (.pointer (some ⟨r, 0, none⟩))).run P w' = .ok (.tuple #[enc a, v]) w' := by
  rcases h.next2 KK ty with h1 | ⟨a, v, w', cnt', h1, h2, _, h3⟩
  · exact Or.inl h1
  · exact Or.inr ⟨a, v, w', cnt', h1, h2, h3⟩
omit [DecidableEq α] in
theorem KIt.isIt {w : World} {r : Nat} {b : Option Nat} {m : α → Option Value} {left : α → Prop} {cnt : Nat} (h : KIt enc ok w r b m left cnt) : ∃ b s seen c, w.heap[r]? = some (.mapIter b s seen c) := by
  rcases h with ⟨_, h1, _, a, s, c, h3⟩ | ⟨bm, es, clock, since, seen, c0, rfl, h1, _, h3, _⟩
  · exact ⟨_, _, _, _, h3⟩
  · exact ⟨_, _, _, _, h3⟩
omit [DecidableEq α] in
theorem KIt.grown {w w' : World} {r : Nat} {b : Option Nat} {m : α → Option Value} {left : α → Prop} {cnt : Nat} (h : KIt enc ok w r b m left cnt) {row : Option Nat} (hg : w.grownBy w' row) (hr : some r ≠ row) (hb : ∀ bm, b = some bm → some bm ≠ row) : KIt enc ok w' r b m left cnt := by
  refine h.keep (hg.block r h.ltR hr) fun bm e => ?_
  rcases h with ⟨h0, _⟩ | ⟨bm', es, clock, since, seen, c0, h0, h1, _⟩
  · rw [e] at h0; cases h0
  · rw [e] at h0; cases h0
    exact hg.block bm (Array.getElem?_eq_some_iff.1 h1).1 (hb bm e)
omit [DecidableEq α] in
theorem KIt.cnt_eq {w : World} {r : Nat} {b : Option Nat} {m : α → Option Value} {left : α → Prop} {cnt : Nat} (h : KIt enc ok w r b m left cnt) : itLeft w r = cnt := by
  rcases h with ⟨_, h1, _, a, s, c, h3⟩ | ⟨bm, es, clock, since, seen, c0, rfl, h1, _, h3, _, _, _, _, h4, _⟩
  · simp [itLeft, h3, h1]
  · simp [itLeft, h3, h1, h4]
end

/-! ### at the operations -/
section
variable {P : Program} {K : TypeId} {α : Type} {enc : α → Value} {ok : α → Prop} (w : World) {ops : Array Oper} {rest : List Oper} {o : Oper} {a : Act} {Q : Exit → Act → World → Prop}

theorem wpList_lookupK (hg : o.guard = none) (m x : Operand) (T E : TypeId) (hop : o.op = Op.lookup T m x false) (KK : KeyK P K enc ok) (ht : P.underlying T = some (.map K E)) {Z : Value} (hZ : ∀ w, (zeroValue E).run P w = .ok Z w)
    (b : Nat) (c : α → Option Value) (hm : a.eval m = .map (some b)) (h : KMap enc ok w b c) (q : α) (hx : a.eval x = enc q) (hq : ok q) (y : Value) (hy : (c q).getD Z = y)
    (hK : wpList P ops Q rest (a.put o.dst y) w) : wpList P ops Q (o :: rest) a w := by
  refine wpList_plain hg fun K' hK' => ?_
  have hrun := run_lookupK KK ht hZ h q hq
  rw [hy] at hrun
  unfold Oper.wp
  simp [execOp, hop, hm, hx, hrun, Result.andThen]
  exact hK' _ _ hK

theorem wpList_updateK [DecidableEq α] (hg : o.guard = none) (m x v : Operand) (T E : TypeId) (hop : o.op = Op.mapUpdate T m x v) (KK : KeyK P K enc ok) (ht : P.underlying T = some (.map K E))
    (b : Nat) (c : α → Option Value) (hm : a.eval m = .map (some b)) (h : KMap enc ok w b c) (q : α) (hx : a.eval x = enc q) (hq : ok q) (y : Value) (hv : a.eval v = y)
    (hK : ∀ w', KMap enc ok w' b (updK c q y) → w.grownBy w' (some b) → w'.heap.size = w.heap.size → wpList P ops Q rest (a.put o.dst undef) w') : wpList P ops Q (o :: rest) a w := by
  refine wpList_plain hg fun K' hK' => ?_
  obtain ⟨w', hrun, r1, r2, r3⟩ := run_updateK KK ht h q hq y
  unfold Oper.wp
  simp [execOp, hop, hm, hx, hv, hrun, Result.andThen]
  exact hK' _ _ (hK w' r1 r2 r3)

theorem wpList_rangeK (hg : o.guard = none) (m : Operand) (T E : TypeId) (hop : o.op = Op.range T m) (ht : P.underlying T = some (.map K E))
    (b : Option Nat) (c : α → Option Value) (hm : a.eval m = .map b) (h : KMapO enc ok w b c)
    (hK : ∀ (w' : World) (cnt : Nat), KIt enc ok w' w.heap.size b c (fun q => (c q).isSome) cnt → w.grownBy w' none → w'.heap.size = w.heap.size + 1 → wpList P ops Q rest (a.put o.dst (.pointer (some ⟨w.heap.size, 0, none⟩))) w') :
    wpList P ops Q (o :: rest) a w := by
  refine wpList_plain hg fun K' hK' => ?_
  obtain ⟨w', hrun, ⟨cnt, r1⟩, o', rfl⟩ := run_rangeK ht h
  unfold Oper.wp
  simp [execOp, hop, hm, hrun, Result.andThen]
  exact hK' _ _ (hK _ cnt r1 (World.grownBy_alloc w o' none) (by simp))

theorem wpList_nextK (hg : o.guard = none) (it : Operand) (hop : o.op = Op.next it false) (KK : KeyK P K enc ok) (r : Nat) (b : Option Nat) (c : α → Option Value) (left : α → Prop) (cnt : Nat)
    (hit : a.eval it = .pointer (some ⟨r, 0, none⟩)) (h : KIt enc ok w r b c left cnt)
    (hDone : (∀ q, ¬ left q) → wpList P ops Q rest (a.put o.dst (.tuple #[.bool false])) w)
    (hMore : ∀ (q : α) (v : Value) (w' : World) (cnt' : Nat), ok q → c q = some v → KIt enc ok w' r b c (fun q' => left q' ∧ q' ≠ q) cnt' → cnt' < cnt → w.grownBy w' (some r) → w'.heap.size = w.heap.size →
      (Instr.entry (.pointer (some ⟨r, 0, none⟩))).run P w' = .ok (.tuple #[enc q, v]) w' → wpList P ops Q rest (a.put o.dst (.tuple #[.bool true, enc q, v])) w') :
    wpList P ops Q (o :: rest) a w := by
  refine wpList_plain hg fun K' hK' => ?_
  unfold Oper.wp
  rcases h.next KK o.type with ⟨hl, hrun⟩ | ⟨q, v, w', cnt', h1, h2, hrun, h3, h4, h5, h6, h7⟩
  · simp [execOp, hop, hit, hrun, Result.andThen]
    exact hK' _ _ (hDone hl)
  · simp [execOp, hop, hit, hrun, Result.andThen]
    exact hK' _ _ (hMore q v w' cnt' h1 h2 h3 h4 h5 h6 h7)
end

/-! ### the key types -/
theorem keyK_int {P : Program} {K : TypeId} (hK : P.underlying K = some (.int .i64)) : KeyK P K (Value.int .i64) (fun a => (Lit.int .i64 a).wf = true) where
  keyed := Go.Maps.int_keyed hK
  key a ha := ⟨_, Go.Maps.keyOf_int_mk hK ha⟩
  inj a b h := by injection h

abbrev plV (p : Int × Int) : Value := .agg #[.int .i64 p.1, .int .i64 p.2]
end Go.Proofs.Ytmoolcpogilgkaa
