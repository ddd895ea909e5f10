/-
  Words for memory that all other texts of this claim use: a slice that reads as a list, a block that is known whole, frames.
-/
import Derived.Test.YtmoolcpogilgkaaRows
import Derived.WalkKit
import Derived.WalkSpells
import Derived.WalkLawsBesides
import Derived.Lib.Hide
import Derived.Handy
import Derived.Laws.OwnMore
import Derived.Deep.AppendLies
import Derived.Deep.Draws
import Derived.Maps.AppendAt
import Derived.Deep.OwnRows
import Derived.Laws.StructEq
set_option linter.unusedVariables false
set_option linter.unusedSimpArgs false
namespace Go.Proofs.Ytmoolcpogilgkaa
open Go.RowKit

/-- block g holds just these cells, none of them frozen -/
def Blk (w : World) (g : Nat) (t : TypeId) (cs : Array Value) : Prop := w.heap[g]? = some (.cells cs t (0, 0))

section
variable {w w' : World} {g : Nat} {t : TypeId} {cs : Array Value}
theorem Blk.lt (h : Blk w g t cs) : g < w.heap.size := by
  rcases Nat.lt_or_ge g w.heap.size with hlt | hge
  · exact hlt
  · unfold Blk at h; rw [Array.getElem?_eq_none hge] at h; cases h
theorem Blk.cell (h : Blk w g t cs) (i : Nat) : w.cell? ⟨g, i, none⟩ = cs[i]? := cell_of_row w g i cs t (0, 0) h
theorem Blk.frozen (h : Blk w g t cs) (i : Nat) : w.frozen? ⟨g, i, none⟩ = false := by
  unfold Blk at h
  simp [World.frozen?, h]
theorem Blk.new (w : World) (t : TypeId) (cs : Array Value) : Blk (w.alloc (.cells cs t)) w.heap.size t cs := heap_alloc_new w _
theorem Blk.drew (h : Blk w g t cs) : Blk w.drew g t cs := h
theorem Blk.drewN (h : Blk w g t cs) (n : Nat) : Blk (w.drewN n) g t cs := h
theorem Blk.alloc (h : Blk w g t cs) (o : Obj) : Blk (w.alloc o) g t cs := (Below.heap_alloc w o g h.lt).trans h
theorem Blk.set_ (h : Blk w g t cs) (i : Nat) (u : Value) : Blk (w.setCell ⟨g, i, none⟩ u) g t (cs.setIfInBounds i u) := by
  unfold Blk at h ⊢
  simp [World.setCell, Array.getElem?_modify, h]
theorem Blk.far (h : Blk w g t cs) {p : Addr} (hp : g ≠ p.block) (u : Value) : Blk (w.setCell p u) g t cs := (Below.heap_setCell w p u g hp).trans h
theorem Blk.below {B : Nat} (h : Blk w g t cs) (hb : Below B w w') (hg : g < B) : Blk w' g t cs := (hb.block g hg).trans h
theorem Blk.grown {row : Option Nat} (h : Blk w g t cs) (hb : w.grownBy w' row) (hg : some g ≠ row) : Blk w' g t cs := (hb.block g h.lt hg).trans h
end

/-- a slice (address A, length n) that reads as the list l, each element laid out by enc in m cells; block b where it isn't empty -/
def Sl {α : Type} (enc : α → List Value) (m : Nat) (w : World) (b : Nat) (A : Option Addr) (n : Nat) (l : List α) : Prop :=
  n = l.length ∧ (0 < n → ∃ o, A = some ⟨b, o, none⟩ ∧ b < w.heap.size ∧ ∀ (k : Nat) (hk : k < l.length) (j : Nat) (u : Value), (enc l[k])[j]? = some u → w.cell? ⟨b, o + k * m + j, none⟩ = some u)

section
variable {α : Type} {enc : α → List Value} {m : Nat} {w w' : World} {b : Nat} {A : Option Addr} {n : Nat} {l : List α}
theorem Sl.len (h : Sl enc m w b A n l) : n = l.length := h.1
theorem Sl.at_ (h : Sl enc m w b A n l) {k : Nat} (hk : k < l.length) :
    ∃ o, A = some ⟨b, o, none⟩ ∧ b < w.heap.size ∧ ∀ (j : Nat) (u : Value), (enc l[k])[j]? = some u → w.cell? ⟨b, o + k * m + j, none⟩ = some u := by
  obtain ⟨o, h1, h2, h3⟩ := h.2 (by rw [h.1]; omega)
  exact ⟨o, h1, h2, h3 k hk⟩
theorem Sl.keep (h : Sl enc m w b A n l) (hb : 0 < n → w'.heap[b]? = w.heap[b]?) (hs : w.heap.size ≤ w'.heap.size) : Sl enc m w' b A n l := by
  refine ⟨h.1, fun hn => ?_⟩
  obtain ⟨o, h1, h2, h3⟩ := h.2 hn
  refine ⟨o, h1, by omega, fun k hk j u hu => ?_⟩
  rw [World.cell?_of_block (w := w) (hb hn)]
  exact h3 k hk j u hu
theorem Sl.lt (h : Sl enc m w b A n l) (hn : 0 < n) : b < w.heap.size := by obtain ⟨o, h1, h2, h3⟩ := h.2 hn; exact h2
theorem Sl.below {B : Nat} (h : Sl enc m w b A n l) (hb : Below B w w') (hB : 0 < n → b < B) : Sl enc m w' b A n l := h.keep (fun hn => hb.block b (hB hn)) hb.size
theorem Sl.old (h : Sl enc m w b A n l) (hb : Below w.heap.size w w') : Sl enc m w' b A n l := h.below hb (fun hn => h.lt hn)
theorem Sl.grown {row : Option Nat} (h : Sl enc m w b A n l) (hb : w.grownBy w' row) (hr : 0 < n → some b ≠ row) : Sl enc m w' b A n l := h.keep (fun hn => hb.block b (h.lt hn) (hr hn)) hb.size
theorem Sl.drew (h : Sl enc m w b A n l) : Sl enc m w.drew b A n l := h
theorem Sl.drewN (h : Sl enc m w b A n l) (k : Nat) : Sl enc m (w.drewN k) b A n l := h
theorem Sl.alloc (h : Sl enc m w b A n l) (o : Obj) : Sl enc m (w.alloc o) b A n l := h.keep (fun hn => Below.heap_alloc w o b (h.lt hn)) (by simp)
theorem Sl.setCell (h : Sl enc m w b A n l) {p : Addr} (hp : 0 < n → b ≠ p.block) (u : Value) : Sl enc m (w.setCell p u) b A n l := h.keep (fun hn => Below.heap_setCell w p u b (hp hn)) (by simp [World.setCell])
theorem Sl.nil (w : World) (b : Nat) (A : Option Addr) : Sl enc m w b A 0 [] := ⟨rfl, fun h => absurd h (by omega)⟩
end

theorem flat_at {α : Type} {enc : α → List Value} {m : Nat} (hm : ∀ x, (enc x).length = m) (l : List α) (k : Nat) (hk : k < l.length) (j : Nat) (u : Value) (h : (enc l[k])[j]? = some u) :
    (l.flatMap enc)[k * m + j]? = some u := by
  induction l generalizing k with
  | nil => simp at hk
  | cons s r ih =>
    have hj : j < m := by
      have := (List.getElem?_eq_some_iff.1 h).1
      rw [hm] at this
      exact this
    cases k with
    | zero =>
      simp only [List.flatMap_cons, List.getElem_cons_zero, Nat.zero_mul, Nat.zero_add] at h ⊢
      rw [List.getElem?_append_left (by rw [hm]; exact hj)]
      exact h
    | succ k =>
      simp only [List.flatMap_cons, List.getElem_cons_succ] at h ⊢
      rw [List.getElem?_append_right (by rw [hm, Nat.succ_mul]; omega), hm]
      have := ih k (by simpa using hk) h
      rw [← this]
      congr 1
      rw [Nat.succ_mul]
      omega
theorem flat_len {α : Type} {enc : α → List Value} {m : Nat} (hm : ∀ x, (enc x).length = m) (l : List α) : (l.flatMap enc).length = l.length * m := by
  induction l with
  | nil => simp
  | cons s r ih => rw [List.flatMap_cons, List.length_append, hm, ih, List.length_cons, Nat.succ_mul]; omega

/-- a slice of the call's own, read -/
theorem Sl.of_own {α : Type} {enc : α → List Value} {m : Nat} (hm : ∀ x, (enc x).length = m) {w : World} {base : Nat} {e : TypeId} {A : Option Addr} {n c : Nat} {l : List α} (hn : n = l.length)
    (h : w.ownsRow base e m (.slice A n c) n (l.flatMap enc)) : ∃ b, base ≤ b ∧ Sl enc m w b A n l := by
  rcases h.2 with ⟨hv, hx⟩ | ⟨g, cap, cur, hv, hbg, hh, hnc, hcm, hcs, htake⟩
  · injection hv with h1 h2 h3
    subst h1
    subst h2
    have : l = [] := List.eq_nil_of_length_eq_zero hn.symm
    subst this
    exact ⟨base, Nat.le_refl _, Sl.nil w base none⟩
  · injection hv with h1 h2 h3
    subst h1
    refine ⟨g, hbg, hn, fun hpos => ⟨0, rfl, ?_, fun k hk j u hu => ?_⟩⟩
    · exact (h.lt g rfl).2
    · have := h.cells (g := g) rfl (k * m + j) u (flat_at hm l k hk j u hu)
      rw [show (0 + k * m + j) = k * m + j from by omega]
      unfold Addr.add at this
      split at this
      · rename_i h0
        rw [h0]
        exact this
      · simpa using this

theorem bcell {W w1 : World} (hb : Below W.heap.size W w1) : (∀ b o, b < W.heap.size → w1.cell? ⟨b, o, none⟩ = W.cell? ⟨b, o, none⟩) ∧ (∀ b o, b < W.heap.size → w1.frozen? ⟨b, o, none⟩ = W.frozen? ⟨b, o, none⟩) :=
  ⟨fun b o h => hb.cell (p := ⟨b, o, none⟩) h, fun b o h => hb.frozen (p := ⟨b, o, none⟩) h⟩
theorem gcell {W w1 : World} {d : Nat} (hb : W.grownBy w1 (some d)) : (∀ b o, b < W.heap.size → b ≠ d → w1.cell? ⟨b, o, none⟩ = W.cell? ⟨b, o, none⟩) ∧ (∀ b o, b < W.heap.size → b ≠ d → w1.frozen? ⟨b, o, none⟩ = W.frozen? ⟨b, o, none⟩) :=
  ⟨fun b o h hn => World.cell?_of_block (w := W) (a := ⟨b, o, none⟩) (hb.block b h (fun e => hn (by injection e))), fun b o h hn => World.frozen?_of_block (w := W) (a := ⟨b, o, none⟩) (hb.block b h (fun e => hn (by injection e)))⟩
theorem Below.step {B : Nat} {w X w1 : World} (hb : Below X.heap.size X w1) (h : Below B w X) (hB : B ≤ w.heap.size) : Below B w w1 := h.trans (hb.mono (Nat.le_trans hB h.size))
theorem Below.stepG {B d : Nat} {w X w1 : World} (hb : X.grownBy w1 (some d)) (h : Below B w X) (hB : B ≤ w.heap.size) (hd : B ≤ d) : Below B w w1 := h.grown hb (Nat.le_trans hB h.size) (fun k e => by cases e; exact hd)
theorem only_refl (w : World) (d : Nat) : w.grownBy w (some d) := World.grownBy.refl w _
theorem only_drew {a w : World} {row : Option Nat} (h : a.grownBy w row) : a.grownBy w.drew row := ⟨h.os, h.tape, h.output, h.size, h.block⟩
theorem only_drewN {a w : World} {row : Option Nat} (h : a.grownBy w row) (n : Nat) : a.grownBy (w.drewN n) row := ⟨h.os, h.tape, h.output, h.size, h.block⟩
theorem only_alloc {a w : World} {row : Option Nat} (h : a.grownBy w row) (o : Obj) : a.grownBy (w.alloc o) row :=
  ⟨h.os, h.tape, h.output, Nat.le_trans h.size (by simp), fun i hi hne => (Below.heap_alloc w o i (Nat.lt_of_lt_of_le hi h.size)).trans (h.block i hi hne)⟩
theorem only_setCell {a w : World} {g : Nat} (h : a.grownBy w (some g)) {p : Addr} (hp : p.block = g ∨ a.heap.size ≤ p.block) (u : Value) : a.grownBy (w.setCell p u) (some g) :=
  ⟨h.os, h.tape, h.output, by simpa [World.setCell] using h.size, fun i hi hne => (Below.heap_setCell w p u i (by
    rintro rfl
    rcases hp with hp | hp
    · exact hne (by rw [hp])
    · omega)).trans (h.block i hi hne)⟩
theorem only_of_below {a w : World} (h : Below a.heap.size a w) (row : Option Nat) : a.grownBy w row := ⟨h.os, h.tape, h.output, h.size, fun i hi _ => h.block i hi⟩
theorem only_trans {a b c : World} {g : Nat} (h : a.grownBy b (some g)) (k : b.grownBy c (some g)) : a.grownBy c (some g) :=
  ⟨k.os.trans h.os, k.tape.trans h.tape, k.output.trans h.output, Nat.le_trans h.size k.size, fun i hi hne => (k.block i (Nat.lt_of_lt_of_le hi h.size) hne).trans (h.block i hi hne)⟩
/-- a further step that turns the same block alone, or one that is new -/
theorem only_step {a b c : World} {g d : Nat} (k : b.grownBy c (some d)) (h : a.grownBy b (some g)) (hd : d = g ∨ a.heap.size ≤ d) : a.grownBy c (some g) :=
  ⟨k.os.trans h.os, k.tape.trans h.tape, k.output.trans h.output, Nat.le_trans h.size k.size, fun i hi hne => (k.block i (Nat.lt_of_lt_of_le hi h.size) (fun e => by
    injection e with e
    subst e
    rcases hd with hd | hd
    · exact hne (by rw [hd])
    · omega)).trans (h.block i hi hne)⟩
theorem only_stepB {a b c : World} {g : Nat} (k : Below b.heap.size b c) (h : a.grownBy b (some g)) : a.grownBy c (some g) :=
  ⟨k.os.trans h.os, k.tape.trans h.tape, k.output.trans h.output, Nat.le_trans h.size k.size, fun i hi hne => (k.block i (Nat.lt_of_lt_of_le hi h.size)).trans (h.block i hi hne)⟩
theorem below_of_only {a w : World} {d B : Nat} (h : a.grownBy w (some d)) (hB : B ≤ a.heap.size) (hd : B ≤ d) : Below B a w := ⟨h.os, h.tape, h.output, h.size, fun i hi => h.block i (by omega) (fun e => by injection e with e; omega)⟩
theorem below_drewN {B : Nat} {a w : World} (h : Below B a w) (n : Nat) : Below B a (w.drewN n) := ⟨h.os, h.tape, h.output, h.size, h.block⟩

/-- an int slice's element, as cells -/
def encI (x : Int) : List Value := [.int .i64 x]
theorem encI_len (x : Int) : (encI x).length = 1 := rfl
theorem Sl.atI {w : World} {b n : Nat} {A : Option Addr} {l : List Int} (h : Sl encI 1 w b A n l) {k : Nat} (hk : k < l.length) :
    ∃ o, A = some ⟨b, o, none⟩ ∧ b < w.heap.size ∧ w.cell? ⟨b, o + k, none⟩ = some (.int .i64 l[k]) := by
  obtain ⟨o, h1, h2, h3⟩ := h.at_ hk
  exact ⟨o, h1, h2, by have := h3 0 _ rfl; simpa using this⟩

/-- what an append onto a row of the call's own (base on) leaves alone: all blocks below base -/
theorem own_keeps {W W' : World} {base : Nat} {e : TypeId} {size n : Nat} {v : Value} {xs : List Value} (h : W.ownsRow base e size v n xs) (hg : W.grownBy W' v.ownBlock) {b : Nat} (hb : b < base) (hlt : b < W.heap.size) : W'.heap[b]? = W.heap[b]? :=
  hg.block b hlt (fun e => by have := h.lt b e.symm; omega)
theorem only_own {w W W' : World} {d base : Nat} {e : TypeId} {size n : Nat} {v : Value} {xs : List Value} (h : W.ownsRow base e size v n xs) (hg : W.grownBy W' v.ownBlock) (hw : w.grownBy W (some d)) (hb : w.heap.size ≤ base) : w.grownBy W' (some d) :=
  ⟨hg.os.trans hw.os, hg.tape.trans hw.tape, hg.output.trans hw.output, Nat.le_trans hw.size hg.size, fun i hi hne => (hg.block i (Nat.lt_of_lt_of_le hi hw.size) (fun e => by have := h.lt i e.symm; omega)).trans (hw.block i hi hne)⟩
theorem below_own {w W W' : World} {B base : Nat} {e : TypeId} {size n : Nat} {v : Value} {xs : List Value} (h : W.ownsRow base e size v n xs) (hg : W.grownBy W' v.ownBlock) (hw : Below B w W) (hb : B ≤ base) (hB : B ≤ w.heap.size) : Below B w W' :=
  hw.grown hg (Nat.le_trans hB hw.size) (fun k e => by have := h.lt k e; omega)
theorem ownsRow_die {W W1 : World} {d base : Nat} {e : TypeId} {size n : Nat} {v : Value} {xs : List Value} (h : W.ownsRow base e size v n xs) (hg : W.grownBy W1 (some d)) (hd : d < base) : W1.ownsRow base e size v n xs :=
  h.kept hg (by
    cases hv : v.ownBlock with
    | none => exact .inl rfl
    | some k => exact .inr (fun e => by injection e with e; have := h.lt k hv; omega))
theorem ownsRow_setCell {W : World} {base : Nat} {e : TypeId} {size n : Nat} {v : Value} {xs : List Value} (h : W.ownsRow base e size v n xs) {p : Addr} (hp : p.block < base) (u : Value) : (W.setCell p u).ownsRow base e size v n xs :=
  ownsRow_setCell_below h hp u
theorem ownsRow_below {W W1 : World} {B base : Nat} {e : TypeId} {size n : Nat} {v : Value} {xs : List Value} (h : W.ownsRow base e size v n xs) (hg : Below B W W1) (hB : W.heap.size ≤ B) : W1.ownsRow base e size v n xs :=
  h.kept (row := none) ⟨hg.os, hg.tape, hg.output, hg.size, fun i hi _ => hg.block i (by omega)⟩ (by
    cases hv : v.ownBlock with
    | none => exact .inl rfl
    | some k => exact .inr (fun e => by cases e))
theorem ownsRow_drew {W : World} {base : Nat} {e : TypeId} {size n : Nat} {v : Value} {xs : List Value} (h : W.ownsRow base e size v n xs) : W.drew.ownsRow base e size v n xs := h

/-- a new block that holds just a list's cells -/
theorem Sl.new {α : Type} {enc : α → List Value} {m : Nat} (hm : ∀ x, (enc x).length = m) (W : World) (l : List α) (t : TypeId) (cs : Array Value) (hcs : cs.toList = l.flatMap enc) :
    Sl enc m (W.alloc (.cells cs t)) W.heap.size (some ⟨W.heap.size, 0, none⟩) l.length l := by
  refine ⟨rfl, fun hn => ⟨0, rfl, by simp, fun k hk j u hu => ?_⟩⟩
  rw [(Blk.new W t cs).cell, ← Array.getElem?_toList, hcs, show 0 + k * m + j = k * m + j from by omega]
  exact flat_at hm l k hk j u hu
theorem Sl.newI (W : World) (l : List Int) (t : TypeId) : Sl encI 1 (W.alloc (.cells (l.map (Value.int .i64)).toArray t)) W.heap.size (some ⟨W.heap.size, 0, none⟩) l.length l :=
  Sl.new encI_len W l t _ (by
    show l.map (Value.int .i64) = _
    rw [List.map_eq_flatMap]
    rfl)

theorem Sl.newAt (W : World) (l : List Int) (t : TypeId) (H : Nat) (hH : W.heap.size = H) : Sl encI 1 (W.alloc (.cells (l.map (Value.int .i64)).toArray t)) H (some ⟨H, 0, none⟩) l.length l := by
  subst hH
  exact Sl.newI W l t

/-- an empty row of the call's own: '[]T{}' -/
theorem own_empty (W : World) (e : TypeId) (size base H : Nat) (hH : W.heap.size = H) (hb : base ≤ H) : (W.alloc (.cells #[] e)).ownsRow base e size (.slice (some ⟨H, 0, none⟩) 0 0) 0 [] := by
  subst hH
  exact World.ownsRow_lit (base := base) (e := e) (size := size) W #[] 0 hb (Nat.zero_le _) (by simp)

theorem ownsRow_base {W : World} {base base' : Nat} {e : TypeId} {size n : Nat} {v : Value} {xs : List Value} (h : W.ownsRow base e size v n xs) (hb : base' ≤ base) : W.ownsRow base' e size v n xs := by
  obtain ⟨h1, h2⟩ := h
  refine ⟨h1, ?_⟩
  rcases h2 with h2 | ⟨g, cap, cur, hv, hg, r⟩
  · exact .inl h2
  · exact .inr ⟨g, cap, cur, hv, Nat.le_trans hb hg, r⟩

/-- block g is a row of ints, l -/
def RowI (w : World) (g : Nat) (l : List Int) : Prop := Blk w g 3 (l.map (Value.int .i64)).toArray
theorem RowI.cell {w : World} {g : Nat} {l : List Int} (h : RowI w g l) {k : Nat} (hk : k < l.length) : w.cell? ⟨g, k, none⟩ = some (.int .i64 l[k]) := by
  rw [Blk.cell h]; simp [hk]
theorem RowI.frozen {w : World} {g : Nat} {l : List Int} (h : RowI w g l) (k : Nat) : w.frozen? ⟨g, k, none⟩ = false := Blk.frozen h k
theorem RowI.set_ {w : World} {g : Nat} {l : List Int} (h : RowI w g l) (k : Nat) (x : Int) : RowI (w.setCell ⟨g, k, none⟩ (.int .i64 x)) g (l.set k x) := by
  have := Blk.set_ h k (.int .i64 x)
  unfold RowI
  have e : ((l.set k x).map (Value.int .i64)).toArray = (l.map (Value.int .i64)).toArray.setIfInBounds k (.int .i64 x) := by
    rw [List.setIfInBounds_toArray, List.map_set]
  rw [e]
  exact this
theorem RowI.sl {w : World} {g : Nat} {l : List Int} (h : RowI w g l) : Sl encI 1 w g (some ⟨g, 0, none⟩) l.length l :=
  ⟨rfl, fun _ => ⟨0, rfl, Blk.lt h, fun k hk j u hu => by
    have hj : j = 0 := by
      have := (List.getElem?_eq_some_iff.1 hu).1
      simp [encI] at this
      exact this
    subst hj
    simp only [encI, List.getElem?_cons_zero] at hu
    rw [← hu]
    simpa using RowI.cell h hk⟩⟩
theorem info_int : (Try.prog.info? 3).map (fun i => (i.zero, i.size, i.bytes)) = some (some (.int .i64 0), 1, 8) := by kernel_rfl
theorem make_ints (n : Nat) (hn : n ≤ 1000000000) (W : World) : (Instr.makeSlice 22 (.int .i64 (n : Int)) (.int .i64 (n : Int))).run Try.prog W = .ok (.slice (some ⟨W.heap.size, 0, none⟩) n n) (W.alloc (.cells (Array.replicate n (Value.int .i64 0)) 3)) := by
  have h := run_make_row' (P := Try.prog) 22 3 (.int .i64 0) 8 Try.underlying22 info_int rfl .i64 .i64 n (by omega) (by omega) W
  rw [h]
  have e : madeCells #[Value.int .i64 0] n = Array.replicate n (Value.int .i64 0) := by
    apply Array.toList_inj.1
    rw [toList_madeCells_one]
    simp
  rw [e]
theorem RowI.made (W : World) (n : Nat) : RowI (W.alloc (.cells (Array.replicate n (Value.int .i64 0)) 3)) W.heap.size (List.replicate n 0) := by
  have := Blk.new W 3 (Array.replicate n (Value.int .i64 0))
  unfold RowI
  rw [List.map_replicate, List.toArray_replicate]
  exact this
theorem RowI.keep {w w' : World} {g : Nat} {l : List Int} (h : RowI w g l) (hb : w'.heap[g]? = w.heap[g]?) : RowI w' g l := hb.trans h
theorem RowI.lt {w : World} {g : Nat} {l : List Int} (h : RowI w g l) : g < w.heap.size := Blk.lt h

theorem ret_int {k : IntKind} {a b : Int} (h : a = b) : Ending.returned (.int k a) = .returned (.int k b) := by rw [h]
theorem ret_bool {a b : Bool} (h : a = b) : Ending.returned (.bool a) = .returned (.bool b) := by rw [h]
end Go.Proofs.Ytmoolcpogilgkaa
