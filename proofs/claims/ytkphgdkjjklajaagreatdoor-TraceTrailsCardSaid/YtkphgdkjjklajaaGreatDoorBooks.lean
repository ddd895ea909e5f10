/-
  Lists of books in memory; the state of a law that goes through some books.
-/
import Derived.Test.YtkphgdkjjklajaaGreatDoorApp
set_option linter.unusedVariables false
set_option linter.unusedSimpArgs false
namespace Go.Proofs.YtkphgdkjjklajaaGreatDoor
open Go.RowKit

structure BookD where
  st : Int
  gd : Int
  A : Option Addr
  n : Nat
  c : Nat
  b : Nat
  l : List Sale
def encB (x : BookD) : List Value := [.int .i64 x.st, .int .i64 x.gd, .slice x.A x.n x.c]
theorem encB_len (x : BookD) : (encB x).length = 3 := rfl
theorem Sl.atB {w : World} {b n : Nat} {A : Option Addr} {l : List BookD} (h : Sl encB 3 w b A n l) {k : Nat} (hk : k < l.length) :
    ∃ o, A = some ⟨b, o, none⟩ ∧ b < w.heap.size ∧ w.cell? ⟨b, o + k * 3, none⟩ = some (.int .i64 l[k].st) ∧ w.cell? ⟨b, o + k * 3 + 1, none⟩ = some (.int .i64 l[k].gd) ∧ w.cell? ⟨b, o + k * 3 + 2, none⟩ = some (.slice l[k].A l[k].n l[k].c) := by
  obtain ⟨o, h1, h2, h3⟩ := h.at_ hk
  exact ⟨o, h1, h2, h3 0 _ rfl, h3 1 _ rfl, h3 2 _ rfl⟩
/-- a slice's head, as a cell -/
structure SlD (α : Type) where
  A : Option Addr
  n : Nat
  c : Nat
  b : Nat
  l : List α
def encL {α : Type} (x : SlD α) : List Value := [.slice x.A x.n x.c]
theorem encL_len {α : Type} (x : SlD α) : (encL x).length = 1 := rfl
theorem Sl.atL {α : Type} {w : World} {b n : Nat} {A : Option Addr} {l : List (SlD α)} (h : Sl encL 1 w b A n l) {k : Nat} (hk : k < l.length) :
    ∃ o, A = some ⟨b, o, none⟩ ∧ b < w.heap.size ∧ w.cell? ⟨b, o + k, none⟩ = some (.slice l[k].A l[k].n l[k].c) := by
  obtain ⟨o, h1, h2, h3⟩ := h.at_ hk
  exact ⟨o, h1, h2, by have := h3 0 _ rfl; simpa using this⟩

/-- a book lies in memory, away from block d -/
structure Away (d : Nat) (W : World) (x : BookD) : Prop where
  sl : Sl encS 6 W x.b x.A x.n x.l
  ne : 0 < x.n → x.b ≠ d
  le : x.n ≤ 60
theorem Away.keep {d : Nat} {W W' : World} {x : BookD} (h : Away d W x) (hg : W.grownBy W' (some d)) : Away d W' x := ⟨h.sl.grown hg (fun hn e => h.ne hn (by injection e)), h.ne, h.le⟩
/-- an array of books (or numbers), made while a die may be cast -/
def Arr {α : Type} (enc : α → List Value) (m : Nat) (d : Nat) (l : List α) (W : World) (g : Nat) : Prop := g ≠ d ∧ Sl enc m W g (some ⟨g, 0, none⟩) l.length l
theorem Arr.keep {α : Type} {enc : α → List Value} {m d : Nat} {l : List α} {W W' : World} {g : Nat} (h : Arr enc m d l W g) (hg : W.grownBy W' (some d)) : Arr enc m d l W' g := ⟨h.1, h.2.grown hg (fun _ e => h.1 (by injection e))⟩
theorem Arr.new {α : Type} {enc : α → List Value} {m : Nat} (hm : ∀ x, (enc x).length = m) {d : Nat} {W : World} (hd : d < W.heap.size) (l : List α) (t : TypeId) (cs : Array Value) (hcs : cs.toList = l.flatMap enc) : Arr enc m d l (W.alloc (.cells cs t)) W.heap.size :=
  ⟨by omega, Sl.new hm W l t cs hcs⟩
theorem Arr.newI {d : Nat} {W : World} (hd : d < W.heap.size) (l : List Int) (t : TypeId) : Arr encI 1 d l (W.alloc (.cells (l.map (Value.int .i64)).toArray t)) W.heap.size := ⟨by omega, Sl.newI W l t⟩
theorem Arr.below {α : Type} {enc : α → List Value} {m d : Nat} {l : List α} {W W' : World} {g : Nat} (h : Arr enc m d l W g) (hb : Below W.heap.size W W') (hl : 0 < l.length) : Arr enc m d l W' g := ⟨h.1, h.2.old hb⟩
theorem Arr.atB {d : Nat} {l : List BookD} {W : World} {g : Nat} (h : Arr encB 3 d l W g) {k : Nat} (hk : k < l.length) :
    W.cell? ⟨g, k * 3, none⟩ = some (.int .i64 l[k].st) ∧ W.cell? ⟨g, k * 3 + 1, none⟩ = some (.int .i64 l[k].gd) ∧ W.cell? ⟨g, k * 3 + 2, none⟩ = some (.slice l[k].A l[k].n l[k].c) ∧ g < W.heap.size := by
  obtain ⟨o, ho, hz, h0, h1, h2⟩ := h.2.atB hk
  obtain rfl : 0 = o := by injection ho with ho; injection ho
  simp only [Nat.zero_add] at h0 h1 h2
  exact ⟨h0, h1, h2, hz⟩
theorem Arr.atI {d : Nat} {l : List Int} {W : World} {g : Nat} (h : Arr encI 1 d l W g) {k : Nat} (hk : k < l.length) : W.cell? ⟨g, k, none⟩ = some (.int .i64 l[k]) ∧ g < W.heap.size := by
  obtain ⟨o, ho, hz, h0⟩ := h.2.atI hk
  obtain rfl : 0 = o := by injection ho with ho; injection ho
  simp only [Nat.zero_add] at h0
  exact ⟨h0, hz⟩
theorem Arr.atL {α : Type} {d : Nat} {l : List (SlD α)} {W : World} {g : Nat} (h : Arr encL 1 d l W g) {k : Nat} (hk : k < l.length) : W.cell? ⟨g, k, none⟩ = some (.slice l[k].A l[k].n l[k].c) ∧ g < W.heap.size := by
  obtain ⟨o, ho, hz, h0⟩ := h.2.atL hk
  obtain rfl : 0 = o := by injection ho with ho; injection ho
  simp only [Nat.zero_add] at h0
  exact ⟨h0, hz⟩

/-- a span made beside a call -/
def Alc (V W : World) (B : Nat) (x y : Int) : Prop := Blk W B 50 #[.int .i64 x, .int .i64 y] ∧ V.heap.size ≤ B
theorem Alc.new {V W : World} (h : Below V.heap.size V W) : Alc V (W.alloc (.cells #[.int .i64 0, .int .i64 0] 50)) W.heap.size 0 0 := ⟨Blk.new _ _ _, h.size⟩
theorem Alc.step {V W W' : World} {B : Nat} {x y : Int} (h : Alc V W B x y) (hb : Below W.heap.size W W') : Alc V W' B x y := ⟨h.1.below hb h.1.lt, h.2⟩
theorem Alc.store {V W : World} {B : Nat} {x y : Int} (h : Alc V W B x y) (hV : Below V.heap.size V W) (u v : Int) :
    Alc V ((W.setCell ⟨B, 0, none⟩ (.int .i64 u)).setCell ⟨B, 1, none⟩ (.int .i64 v)) B u v ∧ Below V.heap.size V ((W.setCell ⟨B, 0, none⟩ (.int .i64 u)).setCell ⟨B, 1, none⟩ (.int .i64 v)) :=
  ⟨⟨(h.1.set_ 0 _).set_ 1 _, h.2⟩, (hV.setCell (p := ⟨B, 0, none⟩) h.2 _).setCell (p := ⟨B, 1, none⟩) h.2 _⟩
theorem Alc.last {V W : World} (h : Below V.heap.size V W) (u v : Int) : Alc V (W.alloc (.cells #[.int .i64 u, .int .i64 v] 50)) W.heap.size u v ∧ Below V.heap.size V (W.alloc (.cells #[.int .i64 u, .int .i64 v] 50)) :=
  ⟨⟨Blk.new _ _ _, h.size⟩, h.alloc h.size _⟩

theorem flat_put1 {α : Type} {enc : α → List Value} {m : Nat} (hm : ∀ x, (enc x).length = m) (l : List α) (k : Nat) (hk : k < l.length) (j : Nat) (hj : j < m) (x' : α) (u : Value) (h : enc x' = (enc l[k]).set j u) :
    (l.flatMap enc).set (k * m + j) u = (l.set k x').flatMap enc := by
  induction l generalizing k with
  | nil => simp at hk
  | cons s r ih =>
    cases k with
    | zero =>
      simp only [List.flatMap_cons, List.getElem_cons_zero, Nat.zero_mul, Nat.zero_add, List.set_cons_zero] at h ⊢
      rw [List.set_append_left _ _ (by rw [hm]; exact hj), h]
    | succ k =>
      simp only [List.flatMap_cons, List.getElem_cons_succ, List.set_cons_succ] at h ⊢
      rw [List.set_append_right _ _ (by rw [hm, Nat.succ_mul]; omega), hm, show (k + 1) * m + j - m = k * m + j from by rw [Nat.succ_mul]; omega, ih k (by simpa using hk) h]
/-- a whole sale is stored into a row of the call's own -/
theorem own_put6 {X : World} {base g m c : Nat} {e : TypeId} {l : List Sale} (h : X.ownsRow base e 6 (.slice (some ⟨g, 0, none⟩) m c) m (l.flatMap encS)) {k : Nat} (hk : k < l.length) (s : Sale) :
    ((((((X.setCell ⟨g, k * 6, none⟩ (.int .i64 s.st)).setCell ⟨g, k * 6 + 1, none⟩ (.int .i64 s.gd)).setCell ⟨g, k * 6 + 2, none⟩ (.int .i64 s.gl)).setCell ⟨g, k * 6 + 3, none⟩ (.int .i64 s.gh)).setCell ⟨g, k * 6 + 4, none⟩ (.int .i64 s.cl)).setCell ⟨g, k * 6 + 5, none⟩ (.int .i64 s.ch)).ownsRow base e 6 (.slice (some ⟨g, 0, none⟩) m c) m ((l.set k s).flatMap encS) := by
  have h1 := (h.stored (k * 6) (.int .i64 s.st)).1
  have h2 := (h1.stored (k * 6 + 1) (.int .i64 s.gd)).1
  have h3 := (h2.stored (k * 6 + 2) (.int .i64 s.gl)).1
  have h4 := (h3.stored (k * 6 + 3) (.int .i64 s.gh)).1
  have h5 := (h4.stored (k * 6 + 4) (.int .i64 s.cl)).1
  have h6 := (h5.stored (k * 6 + 5) (.int .i64 s.ch)).1
  rw [show (l.flatMap encS).set (k * 6) (.int .i64 s.st) = (l.set k { l[k] with st := s.st }).flatMap encS from flat_put1 encS_len l k hk 0 (by omega) _ _ rfl,
    flat_put1 encS_len _ k (by simpa using hk) 1 (by omega) { l[k] with st := s.st, gd := s.gd } _ (by simp [encS]),
    flat_put1 encS_len _ k (by simpa using hk) 2 (by omega) { l[k] with st := s.st, gd := s.gd, gl := s.gl } _ (by simp [encS]),
    flat_put1 encS_len _ k (by simpa using hk) 3 (by omega) { l[k] with st := s.st, gd := s.gd, gl := s.gl, gh := s.gh } _ (by simp [encS]),
    flat_put1 encS_len _ k (by simpa using hk) 4 (by omega) { l[k] with st := s.st, gd := s.gd, gl := s.gl, gh := s.gh, cl := s.cl } _ (by simp [encS]),
    flat_put1 encS_len _ k (by simpa using hk) 5 (by omega) s _ (by simp [encS])] at h6
  simpa using h6
theorem own_some1 {W : World} {base m c sz : Nat} {e : TypeId} {A : Option Addr} {xs : List Value} (h : W.ownsRow base e sz (.slice A m c) m xs) (hm : 0 < m) : ∃ g, A = some ⟨g, 0, none⟩ ∧ base ≤ g ∧ g < W.heap.size := by
  rcases h.2 with ⟨hv, _⟩ | ⟨g, cap, cur, hv, hbg, hh, _⟩
  · injection hv with h1 h2 h3
    omega
  · injection hv with h1 h2 h3
    subst h1
    exact ⟨g, rfl, hbg, (h.lt g rfl).2⟩
theorem same_true (a b : Int) (l : List Sale) : (decide (a = a) && (decide (b = b) && decide (l = l))) = true := by simp
/-- a list lies in memory, away from block d -/
structure AwayL {α : Type} (enc : α → List Value) (m : Nat) (mx : Nat) (d : Nat) (W : World) (x : SlD α) : Prop where
  sl : Sl enc m W x.b x.A x.n x.l
  ne : 0 < x.n → x.b ≠ d
  le : x.n ≤ mx
theorem AwayL.keep {α : Type} {enc : α → List Value} {m mx d : Nat} {W W' : World} {x : SlD α} (h : AwayL enc m mx d W x) (hg : W.grownBy W' (some d)) : AwayL enc m mx d W' x := ⟨h.sl.grown hg (fun hn e => h.ne hn (by injection e)), h.ne, h.le⟩
theorem Sl.store3 {α : Type} {enc : α → List Value} {m : Nat} {W : World} {b n B : Nat} {A : Option Addr} {l : List α} (h : Sl enc m W b A n l) (hne : 0 < n → b ≠ B) (u v z : Value) : Sl enc m (((W.setCell ⟨B, 0, none⟩ u).setCell ⟨B, 1, none⟩ v).setCell ⟨B, 2, none⟩ z) b A n l :=
  ((h.setCell (p := ⟨B, 0, none⟩) hne u).setCell (p := ⟨B, 1, none⟩) hne v).setCell (p := ⟨B, 2, none⟩) hne z
/-- a whole step is stored into a row of the call's own -/
theorem own_put2 {X : World} {base g m c : Nat} {e : TypeId} {l : List Step} (h : X.ownsRow base e 2 (.slice (some ⟨g, 0, none⟩) m c) m (l.flatMap encP)) {k : Nat} (hk : k < l.length) (s : Step) :
    ((X.setCell ⟨g, k * 2, none⟩ (.int .i64 s.fr)).setCell ⟨g, k * 2 + 1, none⟩ (.int .i64 s.sh)).ownsRow base e 2 (.slice (some ⟨g, 0, none⟩) m c) m ((l.set k s).flatMap encP) := by
  have h1 := (h.stored (k * 2) (.int .i64 s.fr)).1
  have h2 := (h1.stored (k * 2 + 1) (.int .i64 s.sh)).1
  rw [show (l.flatMap encP).set (k * 2) (.int .i64 s.fr) = (l.set k { l[k] with fr := s.fr }).flatMap encP from flat_put1 encP_len l k hk 0 (by omega) _ _ rfl,
    flat_put1 encP_len _ k (by simpa using hk) 1 (by omega) s _ (by simp [encP])] at h2
  simpa using h2
theorem same_spans (l : List Span) : decide (l = l) = true := by simp
theorem same_ints (l : List Int) : decide (l = l) = true := by simp
theorem own_emptyE {V W : World} (e : TypeId) (sz : Nat) (h : Below V.heap.size V W) : ∃ G, G = W.heap.size ∧ (W.alloc (.cells #[] e)).ownsRow V.heap.size e sz (.slice (some ⟨G, 0, none⟩) 0 0) 0 [] := ⟨_, rfl, own_empty W e sz V.heap.size _ rfl h.size⟩
/-- where a row lies behind an append -/
theorem append_block {α : Type} {enc : α → List Value} {m : Nat} (hm : ∀ x, (enc x).length = m) {W' : World} {base G H : Nat} {e : TypeId} {A : Option Addr} {n c : Nat} {l : List α} (hn : n = l.length)
    (h : W'.ownsRow base e m (.slice A n c) n (l.flatMap enc)) (hat : Value.ownBlock (.slice A n c) = some G ∨ Value.ownBlock (.slice A n c) = some H) : ∃ b, (0 < n → b = G ∨ b = H) ∧ base ≤ b ∧ Sl enc m W' b A n l := by
  obtain ⟨b, hb, hs⟩ := Sl.of_own hm hn h
  refine ⟨b, fun h0 => ?_, hb, hs⟩
  obtain ⟨g, rfl, _, _⟩ := own_some1 h h0
  obtain ⟨o, ho, _⟩ := hs.2 h0
  have hgb : g = b := by injection ho with ho; injection ho
  subst hgb
  rcases hat with e | e
  · exact .inl (Option.some.inj e)
  · exact .inr (Option.some.inj e)
theorem Sl.of_blkA {α : Type} {enc : α → List Value} {m : Nat} (hm : ∀ x, (enc x).length = m) {W : World} {g : Nat} {t : TypeId} {l : List α} {cs : Array Value} (h : Blk W g t cs) (hcs : cs.toList = l.flatMap enc) : Sl enc m W g (some ⟨g, 0, none⟩) l.length l := by
  refine ⟨rfl, fun hn => ⟨0, rfl, h.lt, fun k hk j u hu => ?_⟩⟩
  rw [h.cell, ← Array.getElem?_toList, hcs, show 0 + k * m + j = k * m + j from by omega]
  exact flat_at hm l k hk j u hu
end Go.Proofs.YtkphgdkjjklajaaGreatDoor
