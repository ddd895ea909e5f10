/-
  price.Price.
-/
import Derived.Test.YtjmppionedcfeaaGreatDoorRows2
import Derived.Test.YtjmppionedcfeaaGreatDoorTip
set_option linter.unusedVariables false
set_option linter.unusedSimpArgs false
namespace Go.Proofs.YtjmppionedcfeaaGreatDoor
open Go.RowKit Go.Shelf
attribute [local go_sem] Oper.semAt_some

/-- it ends, and in no other way -/
def onlyN (Q : Exit → Act → World → Prop) : Exit → Act → World → Prop
  | .normal, a, w => Q .normal a w
  | _, _, _ => False
theorem onlyN_le {Q : Exit → Act → World → Prop} : ∀ e a w, onlyN Q e a w → Q e a w
  | .normal, _, _, h => h

theorem cell_one_at {X : World} {g : Nat} {t : TypeId} {x : Value} (h : Blk X g t #[x]) : ∀ j u, [x][j]? = some u → X.cell? ((⟨g, 0, none⟩ : Addr).add j) = some u := by
  intro j u hj
  cases j with
  | zero =>
    simp at hj
    subst hj
    exact h.cell 0
  | succ j => simp at hj

theorem price1_any (d : Bool) (p1 p2 : Value) (w : World) : Calls Tryz.prog 42 #[.agg (viewV d), p1, p2] w fun e w' => e = .returned (.func (.func 43) #[] #[p1, p2, .pointer (some ⟨w.heap.size, 0, none⟩)]) ∧ w' = w.alloc (.cells (viewV d) 86) := by
  cases d <;> simp only [viewV, Bool.false_eq_true, if_false, if_true]
  all_goals
    go_enter Tryz.func42, Tryz.ntmps42
    go_wp2
    go_ret
    exact ⟨rfl, rfl⟩

def sumLo (l : List Sale) : Int := l.foldl (fun a s => IntKind.i64.wrap (a + s.gl)) 0
def sumHi (l : List Sale) : Int := l.foldl (fun a s => IntKind.i64.wrap (a + s.gh)) 0
def lowsOf (l : List Sale) : List Int := (l.filter fun s => decide (0 < s.gh)).map (·.cl)
def highsOf (l : List Sale) : List Int := (l.filter fun s => decide (0 < s.gh)).map (·.ch)
theorem sumLo_snoc (l : List Sale) (s : Sale) : sumLo (l ++ [s]) = IntKind.i64.wrap (sumLo l + s.gl) := by simp [sumLo]
theorem sumHi_snoc (l : List Sale) (s : Sale) : sumHi (l ++ [s]) = IntKind.i64.wrap (sumHi l + s.gh) := by simp [sumHi]
theorem lows_hit (l : List Sale) (s : Sale) (h : 0 < s.gh) : lowsOf (l ++ [s]) = lowsOf l ++ [s.cl] := by simp [lowsOf, List.filter_append, h]
theorem lows_miss (l : List Sale) (s : Sale) (h : ¬ 0 < s.gh) : lowsOf (l ++ [s]) = lowsOf l := by simp [lowsOf, List.filter_append, h]
theorem highs_hit (l : List Sale) (s : Sale) (h : 0 < s.gh) : highsOf (l ++ [s]) = highsOf l ++ [s.ch] := by simp [highsOf, List.filter_append, h]
theorem highs_miss (l : List Sale) (s : Sale) (h : ¬ 0 < s.gh) : highsOf (l ++ [s]) = highsOf l := by simp [highsOf, List.filter_append, h]
theorem lows_ne {st gd : Int} (good : Int) {l : List Sale} (hs : ∀ s ∈ l, SaleIn st gd s) (h : sumHi (ofGood good l) ≠ 0) : ∃ m, (lowsOf (ofGood good l)).length = m + 1 := by
  cases hl : lowsOf (ofGood good l) with
  | cons a r => exact ⟨r.length, rfl⟩
  | nil =>
    exfalso
    apply h
    have h0 : ∀ s ∈ ofGood good l, s.gh = 0 := fun s hm => by
      have h1 : ¬ 0 < s.gh := fun hp => by
        have : s.cl ∈ lowsOf (ofGood good l) := List.mem_map.2 ⟨s, List.mem_filter.2 ⟨hm, by simpa using hp⟩, rfl⟩
        rw [hl] at this
        cases this
      have h2 := hs s (List.mem_filter.1 hm).1
      have h3 := h2.gl0
      have h4 := h2.gl1
      omega
    unfold sumHi
    generalize ofGood good l = g at h0
    suffices ∀ a, a = 0 → g.foldl (fun a s => IntKind.i64.wrap (a + s.gh)) a = 0 from this 0 rfl
    induction g with
    | nil => exact fun a h => h
    | cons s r ih =>
      intro a ha
      rw [List.foldl_cons]
      exact ih (fun t ht => h0 t (List.mem_cons_of_mem _ ht)) _ (by rw [ha, h0 s List.mem_cons_self]; rfl)
theorem lows_len (l : List Sale) : (lowsOf l).length ≤ l.length := by simp [lowsOf]; exact List.length_filter_le _ _
theorem highs_len (l : List Sale) : (highsOf l).length ≤ l.length := by simp [highsOf]; exact List.length_filter_le _ _

/-- between two rounds: s: the first of three boxes -/
structure PInv (s base : Nat) (w1 : World) (lo hi : Int) (l1 l2 : List Int) (v1 v2 : Value) (W : World) : Prop where
  all : Blk W s 42 #[.int .i64 lo, .int .i64 hi]
  b1 : Blk W (s + 1) 25 #[v1]
  b2 : Blk W (s + 1 + 1) 25 #[v2]
  r1 : W.ownsRow base 3 1 v1 l1.length (l1.map (Value.int .i64))
  r2 : W.ownsRow base 3 1 v2 l2.length (l2.map (Value.int .i64))
  sep : ∀ j, v1.ownBlock = some j → v2.ownBlock ≠ some j
  low : Below s w1 W
  sz : base ≤ W.heap.size
  bs : s + 5 ≤ base
  s0 : s ≤ w1.heap.size

/-- what lies between two worlds of a round -/
def PStep (s : Nat) (W X : World) : Prop := KeepsOthers W X ∧ KpOf s (s + 1 + 1 + 1 + 1) W X

theorem PInv.alloc {s base : Nat} {w1 : World} {lo hi : Int} {l1 l2 : List Int} {v1 v2 : Value} {W : World} (h : PInv s base w1 lo hi l1 l2 v1 v2 W) (o : Obj) : PInv s base w1 lo hi l1 l2 v1 v2 (W.alloc o) :=
  ⟨h.all.alloc _, h.b1.alloc _, h.b2.alloc _, h.r1.alloc _, h.r2.alloc _, h.sep, h.low.alloc (Nat.le_trans h.s0 h.low.size) _, by have := h.sz; simp; omega, h.bs, h.s0⟩
theorem PInv.adds {s base : Nat} {w1 : World} {lo hi : Int} {l1 l2 : List Int} {v1 v2 : Value} {W : World} (h : PInv s base w1 lo hi l1 l2 v1 v2 W) (lo' hi' : Int) :
    PInv s base w1 lo' hi' l1 l2 v1 v2 (((W.setCell ⟨s, 0, none⟩ (.int .i64 lo')).setCell ⟨s, 1, none⟩ (.int .i64 hi')).drew) ∧ PStep s W (((W.setCell ⟨s, 0, none⟩ (.int .i64 lo')).setCell ⟨s, 1, none⟩ (.int .i64 hi')).drew) := by
  have hbs := h.bs
  have hs := h.sz
  refine ⟨⟨(h.all.set_ 0 (.int .i64 lo')).set_ 1 (.int .i64 hi'), (h.b1.far (by show s + 1 ≠ s; omega) _).far (by show s + 1 ≠ s; omega) _, (h.b2.far (by show s + 1 + 1 ≠ s; omega) _).far (by show s + 1 + 1 ≠ s; omega) _,
    ownsRow_setCell (ownsRow_setCell h.r1 (by show s < base; omega) _) (by show s < base; omega) _, ownsRow_setCell (ownsRow_setCell h.r2 (by show s < base; omega) _) (by show s < base; omega) _, h.sep,
    ((h.low.setCell (p := ⟨s, 0, none⟩) (Nat.le_refl _) _).setCell (p := ⟨s, 1, none⟩) (Nat.le_refl _) _).drew, by simpa using hs, h.bs, h.s0⟩, ?_, ?_, ?_⟩
  · exact ((KeepsOthers.setCell _ _ _).trans (KeepsOthers.setCell _ _ _)).trans (KeepsOthers.drew _)
  · exact (((Below.refl s W).setCell (p := ⟨s, 0, none⟩) (Nat.le_refl _) _).setCell (p := ⟨s, 1, none⟩) (Nat.le_refl _) _).drew
  · exact (Below.heap_setCell _ _ _ _ (by show s + 1 + 1 + 1 + 1 ≠ s; omega)).trans (Below.heap_setCell _ _ _ _ (by show s + 1 + 1 + 1 + 1 ≠ s; omega))
theorem PInv.drew {s base : Nat} {w1 : World} {lo hi : Int} {l1 l2 : List Int} {v1 v2 : Value} {W : World} (h : PInv s base w1 lo hi l1 l2 v1 v2 W) : PInv s base w1 lo hi l1 l2 v1 v2 W.drew := ⟨h.all, h.b1, h.b2, h.r1, h.r2, h.sep, h.low.drew, h.sz, h.bs, h.s0⟩
theorem PStep.drew {s : Nat} {W X : World} (h : PStep s W X) : PStep s W X.drew := ⟨h.1.trans (KeepsOthers.drew _), h.2.1.drew, h.2.2⟩
theorem PInv.rows {s base Bx : Nat} {w1 : World} {lo hi : Int} {l1 l2 : List Int} {v1 v2 : Value} {cs : Array Value} {W : World} (h : PInv s base w1 lo hi l1 l2 v1 v2 W) (hx : Blk W Bx 59 cs) (hb : base ≤ Bx) : Rows2 base Bx cs W v1 v2 l1.length l2.length (l1.map (Value.int .i64)) (l2.map (Value.int .i64)) W :=
  ⟨h.sz, Below.refl _ _, KeepsOthers.refl _, h.r1, h.r2, h.sep, hx, hb⟩
theorem PInv.stores {s base Bx : Nat} {w1 : World} {lo hi : Int} {l1 l2 l1' l2' : List Int} {v1 v2 v1' v2' : Value} {cs : Array Value} {n1 n2 : Nat} {m1 m2 : List Value} {W Y X : World} (h : PInv s base w1 lo hi l1 l2 v1 v2 Y) (hst : PStep s W Y)
    (hr : Rows2 base Bx cs Y v1' v2' n1 n2 m1 m2 X) (h1 : n1 = l1'.length) (h2 : n2 = l2'.length) (h3 : m1 = l1'.map (Value.int .i64)) (h4 : m2 = l2'.map (Value.int .i64)) :
    PInv s base w1 lo hi l1' l2' v1' v2' ((X.setCell ⟨s + 1, 0, none⟩ v1').setCell ⟨s + 1 + 1, 0, none⟩ v2') ∧ PStep s W ((X.setCell ⟨s + 1, 0, none⟩ v1').setCell ⟨s + 1 + 1, 0, none⟩ v2') := by
  subst h1; subst h2; subst h3; subst h4
  have hbs := h.bs
  have hz : s ≤ Y.heap.size := Nat.le_trans h.s0 h.low.size
  have hlow : Below s Y X := hr.low.mono (by omega)
  refine ⟨⟨((h.all.below hr.low (by omega)).far (by show s ≠ s + 1; omega) _).far (by show s ≠ s + 1 + 1; omega) _, ?_, ?_,
    ownsRow_setCell (ownsRow_setCell hr.r1 (by show s + 1 < base; omega) _) (by show s + 1 + 1 < base; omega) _, ownsRow_setCell (ownsRow_setCell hr.r2 (by show s + 1 < base; omega) _) (by show s + 1 + 1 < base; omega) _, hr.sep,
    (((h.low.trans hlow).setCell (p := ⟨s + 1, 0, none⟩) (Nat.le_succ _) _).setCell (p := ⟨s + 1 + 1, 0, none⟩) (by show s ≤ s + 1 + 1; omega) _), by have := h.sz; have := hr.low.size; simp; omega, h.bs, h.s0⟩, ?_, ?_, ?_⟩
  · exact ((h.b1.below hr.low (by omega)).set_ 0 v1').far (by show s + 1 ≠ s + 1 + 1; omega) _
  · exact ((h.b2.below hr.low (by omega)).far (by show s + 1 + 1 ≠ s + 1; omega) _).set_ 0 v2'
  · exact ((hst.1.trans hr.ko).trans (KeepsOthers.setCell _ _ _)).trans (KeepsOthers.setCell _ _ _)
  · exact (((hst.2.1.trans hlow).setCell (p := ⟨s + 1, 0, none⟩) (Nat.le_succ _) _).setCell (p := ⟨s + 1 + 1, 0, none⟩) (by show s ≤ s + 1 + 1; omega) _)
  · exact (Below.heap_setCell _ _ _ _ (by show s + 1 + 1 + 1 + 1 ≠ s + 1 + 1; omega)).trans ((Below.heap_setCell _ _ _ _ (by show s + 1 + 1 + 1 + 1 ≠ s + 1; omega)).trans ((hr.low.block _ (by omega)).trans hst.2.2))

theorem PInv.own (s base B : Nat) (w1 : World) (hs : s ≤ w1.heap.size) (hB : s ≤ B) : OwnFrom B (fun (pre : List Sale) W => ∃ v1 v2, PInv s base w1 (sumLo pre) (sumHi pre) (lowsOf pre) (highsOf pre) v1 v2 W) := by
  rintro pre W W' row ⟨v1, v2, h⟩ hg hr
  have hn : ∀ {b : Nat} {t : TypeId} {cs : Array Value}, Blk W b t cs → some b ≠ row := fun hb e => by
    obtain ⟨_, o, ho, hc⟩ := hr _ e.symm
    rw [show W.heap[_]? = _ from hb] at ho; cases ho; cases hc
  have ho : ∀ {v : Value} {n : Nat} {xs : List Value}, W.ownsRow base 3 1 v n xs → v.ownBlock = none ∨ v.ownBlock ≠ row := fun {v} _ _ hv => by
    cases hb : v.ownBlock with
    | none => exact .inl rfl
    | some j =>
      refine .inr fun e => ?_
      obtain ⟨_, o, ho, hc⟩ := hr j e.symm
      rw [own_cells hv hb ho] at hc; cases hc
  exact ⟨v1, v2, h.all.grown hg (hn h.all), h.b1.grown hg (hn h.b1), h.b2.grown hg (hn h.b2), h.r1.kept hg (ho h.r1), h.r2.kept hg (ho h.r2), h.sep,
    h.low.grown hg (Nat.le_trans hs h.low.size) (fun j e => Nat.le_trans hB (hr j e).1), Nat.le_trans h.sz hg.size, h.bs, h.s0⟩

/-- what a good fetches: the verdict, the least and the most cents, the error -/
def tipQ (d : Bool) (g : List Sale) (p : Int) : Bool := decide ((tipSum d p g).2 ≤ (tipSum d p g).1)
def priceMid (g : List Sale) : Int × Int × Int :=
  if sumHi g = 0 then (2, 0, 0) else (if 0 < sumLo g then 1 else 3, leastOf (tipQ false g) (srt (lowsOf g)), leastOf (tipQ true g) (srt (highsOf g)))
def priceErr (st gd good : Int) (l : List Sale) : Int := if check st gd l ≠ 0 then check st gd l else if inB good 0 (gd - 1) then 0 else 3
def priceOut (st gd good : Int) (l : List Sale) : Int × Int × Int := if priceErr st gd good l = 0 then priceMid (ofGood good l) else (0, 0, 0)

def PricePost (o : Int × Int × Int) (err : Int) (w : World) (e : Ending) (w' : World) : Prop := e = .returned (.tuple #[.int .i64 o.1, .agg #[.int .i64 o.2.1, .int .i64 o.2.2], .int .i64 err]) ∧ Below w.heap.size w w'

set_option maxRecDepth 100000 in
set_option maxHeartbeats 4000000 in
theorem price_main (st gd good : Int) (b n c : Nat) (A : Option Addr) (l : List Sale) (w : World) (hl : Sl encS 6 w b A n l) (hn : n ≤ 1000000000000) (hc0 : check st gd l = 0) (hg : inB good 0 (gd - 1) = true) :
    Calls Tryz.prog 14 #[.agg #[.int .i64 st, .int .i64 gd, .slice A n c], .int .i64 good] w (PricePost (priceMid (ofGood good l)) 0 w) := by
  have HL := Lib.hid hl
  have HC := Lib.hid hc0
  have HIN := Lib.hid (check_zero.1 hc0)
  have hgd1 : 1 ≤ gd := HIN.out.gd0
  have hgd2 : gd ≤ 8 := HIN.out.gd1
  have hn40 : n ≤ 40 := by have := HIN.out.len; have := HL.out.len; omega
  have HG := Lib.hid hg
  have HO := Lib.hid (OverBook.start w st gd A n c)
  clear hl hn hc0 hg
  refine (callsIn_wide (n := 9)).1 ?_
  refine callsIn_of_wp_marks Tryz.func14 rfl trivial ?_ rfl
  simp only [Tryz.ntmps14, List.size_toArray, List.length_cons, List.length_nil, Nat.reduceAdd, Nat.reduceSub, Array.replicate_succ, Array.replicate_zero, List.push_toArray, List.append_toArray, List.nil_append, List.cons_append]
  have bk := ((Blk.new w 24 #[.int .i64 st, .int .i64 gd, .slice A n c]).alloc (.cells #[.int .i64 good] 3)).alloc (.cells #[.int .i64 0, .int .i64 0] 42)
  have bg := (Blk.new (w.alloc (.cells #[.int .i64 st, .int .i64 gd, .slice A n c] 24)) 3 #[.int .i64 good]).alloc (.cells #[.int .i64 0, .int .i64 0] 42)
  have bs := Blk.new ((w.alloc (.cells #[.int .i64 st, .int .i64 gd, .slice A n c] 24)).alloc (.cells #[.int .i64 good] 3)) 42 #[.int .i64 0, .int .i64 0]
  have hb0 : Below w.heap.size w (((w.alloc (.cells #[.int .i64 st, .int .i64 gd, .slice A n c] 24)).alloc (.cells #[.int .i64 good] 3)).alloc (.cells #[.int .i64 0, .int .i64 0] 42)) := by go_grown
  have hsz0 : (((w.alloc (.cells #[.int .i64 st, .int .i64 gd, .slice A n c] 24)).alloc (.cells #[.int .i64 good] 3)).alloc (.cells #[.int .i64 0, .int .i64 0] 42)).heap.size = w.heap.size + 3 := by simp
  simp only [World.size_alloc] at bg bs
  gi_wp2_with fail
  refine ⟨trivial, (callsIn_wide.2 (check_any st gd b n c A l _ (HL.out.old hb0) (by omega))).mono ?_⟩
  rintro e w1 ⟨rfl, hb1⟩
  rw [HC.out]
  have hz1 : w.heap.size + 3 ≤ w1.heap.size := by rw [← hsz0]; exact hb1.size
  have BK := Lib.hid (bk.below hb1 bk.lt)
  have BG := Lib.hid (bg.below hb1 bg.lt)
  have BS := Lib.hid (bs.below hb1 bs.lt)
  have HB1 := Lib.hid (Below.step hb1 hb0 (Nat.le_refl _))
  clear bk bg bs hb0 hb1 hsz0
  have k0 := BK.out.cell 0
  have k1 := BK.out.cell 1
  have k2 := BK.out.cell 2
  have g0 := BG.out.cell 0
  gi_wp2_with fail
  refine ⟨trivial, (callsIn_wide.2 (in_any _ _ _ _)).mono ?_⟩
  rintro e w2 ⟨rfl, rfl⟩
  rw [HG.out]
  have BK3 := Lib.hid (((BK.out.alloc (.cells #[.int .i64 0, .int .i64 0] 42)).alloc (.cells #[.slice none 0 0] 25)).alloc (.cells #[.slice none 0 0] 25))
  have BG3 := Lib.hid (((BG.out.alloc (.cells #[.int .i64 0, .int .i64 0] 42)).alloc (.cells #[.slice none 0 0] 25)).alloc (.cells #[.slice none 0 0] 25))
  clear k0 k1 k2 g0
  have k0 := BK3.out.cell 0
  have k1 := BK3.out.cell 1
  have k2 := BK3.out.cell 2
  have g0 := BG3.out.cell 0
  gi_wp2_with fail
  refine ⟨trivial, (callsIn_wide.2 (of_any _ _ _ _ _ _ _)).mono ?_⟩
  rintro e w2 ⟨rfl, rfl⟩
  gi_wp2_with fail
  have bA := ((((Blk.new w1 42 #[.int .i64 0, .int .i64 0]).alloc (.cells #[.slice none 0 0] 25)).alloc (.cells #[.slice none 0 0] 25)).alloc (.cells #[.int .i64 st, .int .i64 gd, .slice A n c] 24)).alloc (.cells #[.int .i64 good] 3)
  have bL := (((Blk.new (w1.alloc (.cells #[.int .i64 0, .int .i64 0] 42)) 25 #[.slice none 0 0]).alloc (.cells #[.slice none 0 0] 25)).alloc (.cells #[.int .i64 st, .int .i64 gd, .slice A n c] 24)).alloc (.cells #[.int .i64 good] 3)
  have bH := ((Blk.new ((w1.alloc (.cells #[.int .i64 0, .int .i64 0] 42)).alloc (.cells #[.slice none 0 0] 25)) 25 #[.slice none 0 0]).alloc (.cells #[.int .i64 st, .int .i64 gd, .slice A n c] 24)).alloc (.cells #[.int .i64 good] 3)
  have bB := (Blk.new (((w1.alloc (.cells #[.int .i64 0, .int .i64 0] 42)).alloc (.cells #[.slice none 0 0] 25)).alloc (.cells #[.slice none 0 0] 25)) 24 #[.int .i64 st, .int .i64 gd, .slice A n c]).alloc (.cells #[.int .i64 good] 3)
  have bG := Blk.new ((((w1.alloc (.cells #[.int .i64 0, .int .i64 0] 42)).alloc (.cells #[.slice none 0 0] 25)).alloc (.cells #[.slice none 0 0] 25)).alloc (.cells #[.int .i64 st, .int .i64 gd, .slice A n c] 24)) 3 #[.int .i64 good]
  simp only [World.size_alloc] at bL bH bB bG
  have hB0 : Below w1.heap.size w1 (((((w1.alloc (.cells #[.int .i64 0, .int .i64 0] 42)).alloc (.cells #[.slice none 0 0] 25)).alloc (.cells #[.slice none 0 0] 25)).alloc (.cells #[.int .i64 st, .int .i64 gd, .slice A n c] 24)).alloc (.cells #[.int .i64 good] 3)) := by go_grown
  have hsz : (((((w1.alloc (.cells #[.int .i64 0, .int .i64 0] 42)).alloc (.cells #[.slice none 0 0] 25)).alloc (.cells #[.slice none 0 0] 25)).alloc (.cells #[.int .i64 st, .int .i64 gd, .slice A n c] 24)).alloc (.cells #[.int .i64 good] 3)).heap.size = w1.heap.size + 5 := by simp
  obtain ⟨W0, hW0⟩ : ∃ W0, (((((w1.alloc (.cells #[.int .i64 0, .int .i64 0] 42)).alloc (.cells #[.slice none 0 0] 25)).alloc (.cells #[.slice none 0 0] 25)).alloc (.cells #[.int .i64 st, .int .i64 gd, .slice A n c] 24)).alloc (.cells #[.int .i64 good] 3)) = W0 := ⟨_, rfl⟩
  rw [hW0] at bA bL bH bB bG hB0 hsz ⊢
  clear hW0 k0 k1 k2 g0 BK3 BG3
  have HL1 := Lib.hid (HL.out.old HB1.out)
  have hlt0 : 0 < n → b < w1.heap.size := fun h => HL1.out.lt h
  have hI0 : PInv w1.heap.size (w1.heap.size + 5) w1 0 0 [] [] (.slice none 0 0) (.slice none 0 0) W0 := ⟨bA, bL, bH, World.ownsRow_nil _ _ _ _, World.ownsRow_nil _ _ _ _, fun j h => (by cases h), hB0, by omega, Nat.le_refl _, Nat.le_refl _⟩
  refine wpIn_rangeFunc_ownH rfl (by omega) (gf := 62) (lb := #[.pointer (some ⟨w1.heap.size + 1 + 1 + 1, 0, none⟩), .pointer (some ⟨w1.heap.size + 1 + 1 + 1 + 1, 0, none⟩)]) rfl trivial (enters_of Tryz.func62 (by kernel_rfl) rfl)
    (of1_stops _ (w1.heap.size + 1 + 1 + 1) (w1.heap.size + 1 + 1 + 1 + 1) w1.heap.size st gd good b n c A l (by omega) W0 (by omega) (by omega) hlt0 (by omega) bB bG (HL1.out.old hB0)) KpOf.trans
    (fun W L' o o' hle hlo hc hw => ⟨belowK_b (w := W0) (by omega) W L' o o' hle hlo hc hw, World.putObj_heap_other (by omega)⟩) (Below.refl _ _) (fun _ => rfl)
    (fun pre W => ∃ v1 v2, PInv w1.heap.size (w1.heap.size + 5) w1 (sumLo pre) (sumHi pre) (lowsOf pre) (highsOf pre) v1 v2 W)
    (fun _ _ _ => False)
    (PInv.own w1.heap.size (w1.heap.size + 5) W0.heap.size w1 (Nat.le_refl _) (by omega))
    (fun _ _ _ _ _ hs _ _ => hs)
    ⟨_, _, hI0⟩
    (fun x a' W => ∃ Bx, w1.heap.size + 5 ≤ Bx ∧ Blk W Bx 59 #[.int .i64 x.st, .int .i64 x.gd, .int .i64 x.gl, .int .i64 x.gh, .int .i64 x.cl, .int .i64 x.ch] ∧ a' = { tmps := #[.agg #[.int .i64 st, .int .i64 gd, .slice A n c], .int .i64 good, .pointer (some ⟨w.heap.size, 0, none⟩), .pointer (some ⟨w.heap.size + 1, 0, none⟩), .int .i64 0, .pointer (some ⟨w.heap.size + 1 + 1, 0, none⟩), .int .i64 0, .int .i64 0,
      .pointer (some ⟨w1.heap.size, 0, none⟩), .pointer (some ⟨w1.heap.size + 1, 0, none⟩), .pointer (some ⟨w1.heap.size + 1 + 1, 0, none⟩), .pointer (some ⟨Bx, 0, none⟩), undef, undef, undef, .agg #[.int .i64 st, .int .i64 gd, .slice A n c], .int .i64 0, .int .i64 0, .bool false, undef, undef, .int .i64 good, .pointer (some ⟨w.heap.size, 1, none⟩), .int .i64 gd, .int .i64 (gd - 1), .bool true, .bool false, undef,
      .agg #[.int .i64 st, .int .i64 gd, .slice A n c], .int .i64 good, .func (.func 62) #[] #[.pointer (some ⟨w1.heap.size + 1 + 1 + 1, 0, none⟩), .pointer (some ⟨w1.heap.size + 1 + 1 + 1 + 1, 0, none⟩)],
      .agg #[.int .i64 x.st, .int .i64 x.gd, .int .i64 x.gl, .int .i64 x.gh, .int .i64 x.cl, .int .i64 x.ch], undef, undef, undef, undef, undef, undef, undef, undef, undef, undef, undef, undef, undef, undef, undef, undef, undef, undef, undef, undef, undef, undef, undef, undef, undef, undef, undef, undef, undef, undef, undef, undef, undef, undef, undef, undef, undef, undef, undef, undef, undef, undef, undef, undef, undef, undef, undef, undef, undef, undef, undef, undef, undef], defers := [] })
    (fun x a' => fun s X Y row hs hg hr => by
      obtain ⟨Bx, h1, h2, h3⟩ := hs
      exact ⟨Bx, h1, (blk_own Bx _ (fun _ : Unit => _)) s X Y row h2 hg (fun r e => (hr r e).2), h3⟩) ?assign ?body ?done ?stop
  case assign =>
    rintro L pre x W K ⟨v1, v2, hI⟩ hK
    have hz := hI.low.size
    have hS := hI.sz
    unfold saleV
    gi_wp2
    exact hK _ _ ((KeepsOthers.alloc _ _).from _) ((KpOf.refl _ _ W).alloc hz (by omega) _) ⟨v1, v2, hI.alloc _⟩ ⟨W.heap.size, hS, Blk.new _ _ _, rfl⟩
  case body =>
    rintro L pre x a' W hl0 ⟨r, hr⟩ ⟨v1, v2, hI⟩ ⟨Bx, hBx, bX, rfl⟩ hlt
    have HI := Lib.hid hI
    have HX := Lib.hid bX
    clear hr hI bX
    gi_wp2
    refine wpIn_region_K2 [1, 7] [4, 10] (fun (w' : World) => w'.cell? ⟨w1.heap.size, 0, none⟩ = some (.int .i64 (sumLo pre)) ∧ w'.cell? ⟨w1.heap.size, 1, none⟩ = some (.int .i64 (sumHi pre))) (fun (w' : World) => w'.cell? ⟨Bx, 2, none⟩ = some (.int .i64 x.gl) ∧ w'.cell? ⟨Bx, 3, none⟩ = some (.int .i64 x.gh)) rfl (by kernel_rfl) (by kernel_rfl) (fun ⟨_, _, h⟩ => h) (⟨HI.out.all.cell 0, HI.out.all.cell 1⟩) (⟨HX.out.cell 2, HX.out.cell 3⟩) (fun hF0 hG0 => ?_)
    (refine wpAnyK_takeL Keep2.refl (i := 0) (v := ?_) rfl (by kernel_rfl) (by kernel_rfl) (by kernel_rfl) (fun _ _ _ h => h) (by rfl) ?_ ?_; rotate_left 1; focus (intro w; go_simp; try with_reducible rfl))
    try simp only [Act.put, List.setIfInBounds_toArray, List.set_cons_zero, List.set_cons_succ]
    (refine wpAnyK_loadL Keep2.refl (i := 1) (v := ?_) rfl (Keep2.left (i := 1) (by rfl)) (by kernel_rfl) (by kernel_rfl) (by kernel_rfl) (fun _ _ _ h => h) hF0 (by rfl) ?_ ?_; rotate_left 1; focus (intro w hFw; (try dsimp only at hFw); go_split_ands; go_simp; try with_reducible rfl))
    try simp only [Act.put, List.setIfInBounds_toArray, List.set_cons_zero, List.set_cons_succ]
    (refine wpAnyK_takeL Keep2.refl (i := 2) (v := ?_) rfl (by kernel_rfl) (by kernel_rfl) (by kernel_rfl) (fun _ _ _ h => h) (by rfl) ?_ ?_; rotate_left 1; focus (intro w; go_simp; try with_reducible rfl))
    try simp only [Act.put, List.setIfInBounds_toArray, List.set_cons_zero, List.set_cons_succ]
    (refine wpAnyK_takeL Keep2.refl (i := 3) (v := ?_) rfl (by kernel_rfl) (by kernel_rfl) (by kernel_rfl) (fun _ _ _ h => h) (by rfl) ?_ ?_; rotate_left 1; focus (intro w; go_simp; try with_reducible rfl))
    try simp only [Act.put, List.setIfInBounds_toArray, List.set_cons_zero, List.set_cons_succ]
    (refine wpAnyK_loadL Keep2.refl (i := 4) (v := ?_) rfl (Keep2.right (i := 4) (by rfl)) (by kernel_rfl) (by kernel_rfl) (by kernel_rfl) (fun _ _ _ h => h) hG0 (by rfl) ?_ ?_; rotate_left 1; focus (intro w hFw; (try dsimp only at hFw); go_split_ands; go_simp; try with_reducible rfl))
    try simp only [Act.put, List.setIfInBounds_toArray, List.set_cons_zero, List.set_cons_succ]
    (refine wpAnyK_takeL Keep2.refl (i := 5) (v := ?_) rfl (by kernel_rfl) (by kernel_rfl) (by kernel_rfl) (fun _ _ _ h => h) (by rfl) ?_ ?_; rotate_left 1; focus (intro w; go_simp; try with_reducible rfl))
    try simp only [Act.put, List.setIfInBounds_toArray, List.set_cons_zero, List.set_cons_succ]
    (refine wpAnyK_takeL Keep2.refl (i := 6) (v := ?_) rfl (by kernel_rfl) (by kernel_rfl) (by kernel_rfl) (fun _ _ _ h => h) (by rfl) ?_ ?_; rotate_left 1; focus (intro w; go_simp; try with_reducible rfl))
    try simp only [Act.put, List.setIfInBounds_toArray, List.set_cons_zero, List.set_cons_succ]
    (refine wpAnyK_loadL Keep2.refl (i := 7) (v := ?_) rfl (Keep2.left (i := 7) (by rfl)) (by kernel_rfl) (by kernel_rfl) (by kernel_rfl) (fun _ _ _ h => h) hF0 (by rfl) ?_ ?_; rotate_left 1; focus (intro w hFw; (try dsimp only at hFw); go_split_ands; go_simp; try with_reducible rfl))
    try simp only [Act.put, List.setIfInBounds_toArray, List.set_cons_zero, List.set_cons_succ]
    (refine wpAnyK_takeL Keep2.refl (i := 8) (v := ?_) rfl (by kernel_rfl) (by kernel_rfl) (by kernel_rfl) (fun _ _ _ h => h) (by rfl) ?_ ?_; rotate_left 1; focus (intro w; go_simp; try with_reducible rfl))
    try simp only [Act.put, List.setIfInBounds_toArray, List.set_cons_zero, List.set_cons_succ]
    (refine wpAnyK_takeL Keep2.refl (i := 9) (v := ?_) rfl (by kernel_rfl) (by kernel_rfl) (by kernel_rfl) (fun _ _ _ h => h) (by rfl) ?_ ?_; rotate_left 1; focus (intro w; go_simp; try with_reducible rfl))
    try simp only [Act.put, List.setIfInBounds_toArray, List.set_cons_zero, List.set_cons_succ]
    (refine wpAnyK_loadL Keep2.refl (i := 10) (v := ?_) rfl (Keep2.right (i := 10) (by rfl)) (by kernel_rfl) (by kernel_rfl) (by kernel_rfl) (fun _ _ _ h => h) hG0 (by rfl) ?_ ?_; rotate_left 1; focus (intro w hFw; (try dsimp only at hFw); go_split_ands; go_simp; try with_reducible rfl))
    try simp only [Act.put, List.setIfInBounds_toArray, List.set_cons_zero, List.set_cons_succ]
    (refine wpAnyK_takeL Keep2.refl (i := 11) (v := ?_) rfl (by kernel_rfl) (by kernel_rfl) (by kernel_rfl) (fun _ _ _ h => h) (by rfl) ?_ ?_; rotate_left 1; focus (intro w; go_simp; try with_reducible rfl))
    try simp only [Act.put, List.setIfInBounds_toArray, List.set_cons_zero, List.set_cons_succ]
    (refine wpAnyK_takeL Keep2.refl (i := 12) (v := ?_) rfl (by kernel_rfl) (by kernel_rfl) (by kernel_rfl) (fun _ _ _ h => h) (by rfl) ?_ ?_; rotate_left 1; focus (intro w; go_simp; try with_reducible rfl))
    try simp only [Act.put, List.setIfInBounds_toArray, List.set_cons_zero, List.set_cons_succ]
    refine wpAnyK_step (i := 13) rfl (by kernel_rfl) (by rfl) (fun K hK => ?_)
    go_simp
    (have f0 := HI.out.all.frozen 0; have e0 := HI.out.all.cell 0; go_simp; clear f0 e0)
    (refine hK _ _ (Keep2.no1 (by kernel_rfl) (fun _ => ⟨(HX.out.far (p := ⟨w1.heap.size, 0, none⟩) (by show Bx ≠ w1.heap.size; omega) _).cell 2, (HX.out.far (p := ⟨w1.heap.size, 0, none⟩) (by show Bx ≠ w1.heap.size; omega) _).cell 3⟩)) ?_; clear hK K)
    (refine wpAnyK_with (F := fun (w' : World) => w'.cell? ⟨Bx, 2, none⟩ = some (.int .i64 x.gl) ∧ w'.cell? ⟨Bx, 3, none⟩ = some (.int .i64 x.gh)) (⟨(HX.out.far (p := ⟨w1.heap.size, 0, none⟩) (by show Bx ≠ w1.heap.size; omega) _).cell 2, (HX.out.far (p := ⟨w1.heap.size, 0, none⟩) (by show Bx ≠ w1.heap.size; omega) _).cell 3⟩) (fun hG1 => ?_); clear hG0)
    try simp only [Act.put, List.setIfInBounds_toArray, List.set_cons_zero, List.set_cons_succ]
    (refine wpAnyK_takeL Keep2.refl (i := 14) (v := ?_) rfl (by kernel_rfl) (by kernel_rfl) (by kernel_rfl) (fun _ _ _ h => h) (by rfl) ?_ ?_; rotate_left 1; focus (intro w; go_simp; try with_reducible rfl))
    try simp only [Act.put, List.setIfInBounds_toArray, List.set_cons_zero, List.set_cons_succ]
    refine wpAnyK_step (i := 15) rfl (by kernel_rfl) (by rfl) (fun K hK => ?_)
    go_simp
    (have f0 := (HI.out.all.set_ 0 (.int .i64 (IntKind.i64.wrap (sumLo pre + x.gl)))).frozen 1; have e0 := (HI.out.all.set_ 0 (.int .i64 (IntKind.i64.wrap (sumLo pre + x.gl)))).cell 1; have f1 := HI.out.all.frozen 1; have e1 := HI.out.all.cell 1; go_simp; clear f0 e0 f1 e1)
    (refine hK _ _ (Keep2.no (by kernel_rfl) (by kernel_rfl)) ?_; clear hK K)
    try simp only [Act.put, List.setIfInBounds_toArray, List.set_cons_zero, List.set_cons_succ]
    refine wpAnyK_done (by kernel_rfl) ?_ _
    obtain ⟨hI1, hst⟩ := HI.out.adds (IntKind.i64.wrap (sumLo pre + x.gl)) (IntKind.i64.wrap (sumHi pre + x.gh))
    have bX1 : Blk (((W.setCell ⟨w1.heap.size, 0, none⟩ (.int .i64 (IntKind.i64.wrap (sumLo pre + x.gl)))).setCell ⟨w1.heap.size, 1, none⟩ (.int .i64 (IntKind.i64.wrap (sumHi pre + x.gh)))).drew) Bx 59 #[.int .i64 x.st, .int .i64 x.gd, .int .i64 x.gl, .int .i64 x.gh, .int .i64 x.cl, .int .i64 x.ch] :=
      (HX.out.far (by show Bx ≠ w1.heap.size; omega) _).far (by show Bx ≠ w1.heap.size; omega) _
    generalize (((W.setCell ⟨w1.heap.size, 0, none⟩ (.int .i64 (IntKind.i64.wrap (sumLo pre + x.gl)))).setCell ⟨w1.heap.size, 1, none⟩ (.int .i64 (IntKind.i64.wrap (sumHi pre + x.gh)))).drew) = Y at hI1 hst bX1 ⊢
    rw [← sumLo_snoc, ← sumHi_snoc] at hI1
    have x3 := bX1.cell 3
    have HI1 := Lib.hid hI1.drew
    have HST := Lib.hid hst.drew
    have HX1 := Lib.hid bX1.drew
    have HE := Lib.hid (And.intro hI1 hst)
    clear hI1 hst bX1
    gi_wp2
    · have hgh : 0 < x.gh := by assumption
      have hpl : (lowsOf pre).length ≤ 40 := by have := lows_len pre; omega
      have hph : (highsOf pre).length ≤ 40 := by have := highs_len pre; omega
      obtain ⟨i0, hi, hz0, hz1', hz2⟩ := info_parts info_int
      have hR := HI1.out.rows HX1.out hBx
      refine wpIn_region_K2 [0] [3, 6, 9] (fun (w' : World) => w'.cell? ⟨w1.heap.size + 1, 0, none⟩ = some v1) (fun (w' : World) => w'.cell? ⟨w1.heap.size + 1 + 1, 0, none⟩ = some v2 ∧ w'.cell? ⟨Bx, 4, none⟩ = some (.int .i64 x.cl) ∧ w'.cell? ⟨Bx, 5, none⟩ = some (.int .i64 x.ch)) rfl (by kernel_rfl) (by kernel_rfl) (fun ⟨_, _, h⟩ => h) (HI1.out.b1.cell 0) (⟨HI1.out.b2.cell 0, HX1.out.cell 4, HX1.out.cell 5⟩) (fun hF0 hG0 => ?_)
      (generalize Y.drew = Z at hF0 hG0 hR HI1 HST HX1 ⊢; have hB1 := Lib.hid HI1.out.b1; have hB2 := Lib.hid HI1.out.b2)
      (refine wpAnyK_loadL Keep2.refl (i := 0) (v := ?_) rfl (Keep2.left (i := 0) (by rfl)) (by kernel_rfl) (by kernel_rfl) (by kernel_rfl) (fun _ _ _ h => h) hF0 (by rfl) ?_ ?_; rotate_left 1; focus (intro w hFw; (try dsimp only at hFw); go_split_ands; go_simp; try with_reducible rfl))
      try simp only [Act.put, List.setIfInBounds_toArray, List.set_cons_zero, List.set_cons_succ]
      (refine wpAnyK_takeL Keep2.refl (i := 1) (v := ?_) rfl (by kernel_rfl) (by kernel_rfl) (by kernel_rfl) (fun _ _ _ h => h) (by rfl) ?_ ?_; rotate_left 1; focus (intro w; go_simp; try with_reducible rfl))
      try simp only [Act.put, List.setIfInBounds_toArray, List.set_cons_zero, List.set_cons_succ]
      (refine wpAnyK_takeL Keep2.refl (i := 2) (v := ?_) rfl (by kernel_rfl) (by kernel_rfl) (by kernel_rfl) (fun _ _ _ h => h) (by rfl) ?_ ?_; rotate_left 1; focus (intro w; go_simp; try with_reducible rfl))
      try simp only [Act.put, List.setIfInBounds_toArray, List.set_cons_zero, List.set_cons_succ]
      (refine wpAnyK_loadL Keep2.refl (i := 3) (v := ?_) rfl (Keep2.right (i := 3) (by rfl)) (by kernel_rfl) (by kernel_rfl) (by kernel_rfl) (fun _ _ _ h => h) hG0 (by rfl) ?_ ?_; rotate_left 1; focus (intro w hFw; (try dsimp only at hFw); go_split_ands; go_simp; try with_reducible rfl))
      try simp only [Act.put, List.setIfInBounds_toArray, List.set_cons_zero, List.set_cons_succ]
      (refine wpAnyK_loadL Keep2.refl (i := 6) (v := ?_) rfl (Keep2.right (i := 6) (by rfl)) (by kernel_rfl) (by kernel_rfl) (by kernel_rfl) (fun _ _ _ h => h) hG0 (by rfl) ?_ ?_; rotate_left 1; focus (intro w hFw; (try dsimp only at hFw); go_split_ands; go_simp; try with_reducible rfl))
      try simp only [Act.put, List.setIfInBounds_toArray, List.set_cons_zero, List.set_cons_succ]
      (refine wpAnyK_takeL Keep2.refl (i := 7) (v := ?_) rfl (by kernel_rfl) (by kernel_rfl) (by kernel_rfl) (fun _ _ _ h => h) (by rfl) ?_ ?_; rotate_left 1; focus (intro w; go_simp; try with_reducible rfl))
      try simp only [Act.put, List.setIfInBounds_toArray, List.set_cons_zero, List.set_cons_succ]
      (refine wpAnyK_takeL Keep2.refl (i := 8) (v := ?_) rfl (by kernel_rfl) (by kernel_rfl) (by kernel_rfl) (fun _ _ _ h => h) (by rfl) ?_ ?_; rotate_left 1; focus (intro w; go_simp; try with_reducible rfl))
      try simp only [Act.put, List.setIfInBounds_toArray, List.set_cons_zero, List.set_cons_succ]
      (refine wpAnyK_loadL Keep2.refl (i := 9) (v := ?_) rfl (Keep2.right (i := 9) (by rfl)) (by kernel_rfl) (by kernel_rfl) (by kernel_rfl) (fun _ _ _ h => h) hG0 (by rfl) ?_ ?_; rotate_left 1; focus (intro w hFw; (try dsimp only at hFw); go_split_ands; go_simp; try with_reducible rfl))
      try simp only [Act.put, List.setIfInBounds_toArray, List.set_cons_zero, List.set_cons_succ]
      refine wpAnyK_all (rs := [4, 10]) (by kernel_rfl) (by simp) ?_
      refine List.forall_mem_cons.2 ⟨?_, List.forall_mem_cons.2 ⟨?_, fun _ h => absurd h List.not_mem_nil⟩⟩
      · refine wpOp_of rfl (by rfl) (fun K hK => ?_)
        go_simp
        (have hT1 := hR.tmp x.cl; (try simp only [World.size_alloc] at hT1); (try replace hT2 := hT2.alloc (.cells #[.int .i64 x.cl] 3)); replace hR := hR.alloc (.cells #[.int .i64 x.cl] 3))
        (refine hK _ _ ⟨⟨fun _ _ => (hB1.out.below hR.low (by omega)).cell 0, fun _ _ => ⟨(hB2.out.below hR.low (by omega)).cell 0, hR.bx.cell 4, hR.bx.cell 5⟩⟩, ?_⟩; clear hK K)
        (refine wpAnyK_with (F := fun (w' : World) => w'.cell? ⟨w1.heap.size + 1, 0, none⟩ = some v1) ((hB1.out.below hR.low (by omega)).cell 0) (fun hF1 => ?_); clear hF0)
        (refine wpAnyK_with (F := fun (w' : World) => w'.cell? ⟨w1.heap.size + 1 + 1, 0, none⟩ = some v2 ∧ w'.cell? ⟨Bx, 4, none⟩ = some (.int .i64 x.cl) ∧ w'.cell? ⟨Bx, 5, none⟩ = some (.int .i64 x.ch)) (⟨(hB2.out.below hR.low (by omega)).cell 0, hR.bx.cell 4, hR.bx.cell 5⟩) (fun hG1 => ?_); clear hG0)
        try simp only [Act.put, List.setIfInBounds_toArray, List.set_cons_zero, List.set_cons_succ]
        refine wpAnyK_all (rs := [5, 10]) (by kernel_rfl) (by simp) ?_
        refine List.forall_mem_cons.2 ⟨?_, List.forall_mem_cons.2 ⟨?_, fun _ h => absurd h List.not_mem_nil⟩⟩
        · refine wpOp_of rfl (by rfl) (fun K hK => ?_)
          (refine wp_append_lies _ _ _ _ rfl (w1.heap.size + 5) 3 i0 _ 1 8 Tryz.underlying25 hi hz0 hz1' hz2 rfl (by omega) _ _ _ (by rfl) hR.r1 ⟨_, 0, none⟩ 1 1 [.int .i64 x.cl] (by rfl) rfl (cell_one_at hT1.1) (by simp [Value.oneCell']) (by omega) (by have : maxLen = 9223372036854775807 := rfl; omega) (by omega) (Nat.le_trans hR.bs hR.low.size) _ rfl ?_; intro ga ca wa hown hgrow hat hlta; (try (replace hT2 := hT2.app1 (m := (lowsOf pre).length + 1) (c := ca) hgrow hat)); clear hT1; replace hR := hR.app1 hgrow hown hat; clear hown hgrow hat)
          (refine hK _ _ ⟨Keep2.no1 (by kernel_rfl) (fun _ => ⟨(hB2.out.below hR.low (by omega)).cell 0, hR.bx.cell 4, hR.bx.cell 5⟩), ?_⟩; clear hK K)
          (refine wpAnyK_with (F := fun (w' : World) => w'.cell? ⟨w1.heap.size + 1 + 1, 0, none⟩ = some v2 ∧ w'.cell? ⟨Bx, 4, none⟩ = some (.int .i64 x.cl) ∧ w'.cell? ⟨Bx, 5, none⟩ = some (.int .i64 x.ch)) (⟨(hB2.out.below hR.low (by omega)).cell 0, hR.bx.cell 4, hR.bx.cell 5⟩) (fun hG2 => ?_); clear hG1)
          try simp only [Act.put, List.setIfInBounds_toArray, List.set_cons_zero, List.set_cons_succ]
          refine wpAnyK_step (i := 10) rfl (by kernel_rfl) (by rfl) (fun K hK => ?_)
          go_simp
          (have hT2 := hR.tmp x.ch; (try simp only [World.size_alloc] at hT2); (try replace hT1 := hT1.alloc (.cells #[.int .i64 x.ch] 3)); replace hR := hR.alloc (.cells #[.int .i64 x.ch] 3))
          (refine hK _ _ (⟨fun _ _ => (hB1.out.below hR.low (by omega)).cell 0, fun _ _ => ⟨(hB2.out.below hR.low (by omega)).cell 0, hR.bx.cell 4, hR.bx.cell 5⟩⟩) ?_; clear hK K)
          (refine wpAnyK_with (F := fun (w' : World) => w'.cell? ⟨w1.heap.size + 1, 0, none⟩ = some v1) ((hB1.out.below hR.low (by omega)).cell 0) (fun hF3 => ?_); clear hF1)
          (refine wpAnyK_with (F := fun (w' : World) => w'.cell? ⟨w1.heap.size + 1 + 1, 0, none⟩ = some v2 ∧ w'.cell? ⟨Bx, 4, none⟩ = some (.int .i64 x.cl) ∧ w'.cell? ⟨Bx, 5, none⟩ = some (.int .i64 x.ch)) (⟨(hB2.out.below hR.low (by omega)).cell 0, hR.bx.cell 4, hR.bx.cell 5⟩) (fun hG3 => ?_); clear hG2)
          try simp only [Act.put, List.setIfInBounds_toArray, List.set_cons_zero, List.set_cons_succ]
          refine wpAnyK_step (i := 11) rfl (by kernel_rfl) (by rfl) (fun K hK => ?_)
          (refine wp_append_lies _ _ _ _ rfl (w1.heap.size + 5) 3 i0 _ 1 8 Tryz.underlying25 hi hz0 hz1' hz2 rfl (by omega) _ _ _ (by rfl) hR.r2 ⟨_, 0, none⟩ 1 1 [.int .i64 x.ch] (by rfl) rfl (cell_one_at hT2.1) (by simp [Value.oneCell']) (by omega) (by have : maxLen = 9223372036854775807 := rfl; omega) (by omega) (Nat.le_trans hR.bs hR.low.size) _ rfl ?_; intro gb cb wb hown hgrow hat hltb; clear hT2; replace hR := hR.app2 hgrow hown hat; clear hown hgrow hat)
          (refine hK _ _ (⟨fun _ _ => (hB1.out.below hR.low (by omega)).cell 0, fun _ _ => ⟨(hB2.out.below hR.low (by omega)).cell 0, hR.bx.cell 4, hR.bx.cell 5⟩⟩) ?_; clear hK K)
          (refine wpAnyK_with (F := fun (w' : World) => w'.cell? ⟨w1.heap.size + 1, 0, none⟩ = some v1) ((hB1.out.below hR.low (by omega)).cell 0) (fun hF4 => ?_); clear hF3)
          (refine wpAnyK_with (F := fun (w' : World) => w'.cell? ⟨w1.heap.size + 1 + 1, 0, none⟩ = some v2 ∧ w'.cell? ⟨Bx, 4, none⟩ = some (.int .i64 x.cl) ∧ w'.cell? ⟨Bx, 5, none⟩ = some (.int .i64 x.ch)) (⟨(hB2.out.below hR.low (by omega)).cell 0, hR.bx.cell 4, hR.bx.cell 5⟩) (fun hG4 => ?_); clear hG3)
          try simp only [Act.put, List.setIfInBounds_toArray, List.set_cons_zero, List.set_cons_succ]
          refine wpAnyK_step (i := 12) rfl (by kernel_rfl) (by rfl) (fun K hK => ?_)
          go_simp
          (have f0 := (hB1.out.below hR.low (by omega)).frozen 0; have e0 := (hB1.out.below hR.low (by omega)).cell 0; go_simp; clear f0 e0)
          (refine hK _ _ (Keep2.no1 (by kernel_rfl) (fun _ => ⟨((hB2.out.below hR.low (by omega)).far (p := ⟨w1.heap.size + 1, 0, none⟩) (by show w1.heap.size + 1 + 1 ≠ w1.heap.size + 1; omega) _).cell 0, (hR.bx.far (p := ⟨w1.heap.size + 1, 0, none⟩) (by show Bx ≠ w1.heap.size + 1; omega) _).cell 4, (hR.bx.far (p := ⟨w1.heap.size + 1, 0, none⟩) (by show Bx ≠ w1.heap.size + 1; omega) _).cell 5⟩)) ?_; clear hK K)
          (refine wpAnyK_with (F := fun (w' : World) => w'.cell? ⟨w1.heap.size + 1 + 1, 0, none⟩ = some v2 ∧ w'.cell? ⟨Bx, 4, none⟩ = some (.int .i64 x.cl) ∧ w'.cell? ⟨Bx, 5, none⟩ = some (.int .i64 x.ch)) (⟨((hB2.out.below hR.low (by omega)).far (p := ⟨w1.heap.size + 1, 0, none⟩) (by show w1.heap.size + 1 + 1 ≠ w1.heap.size + 1; omega) _).cell 0, (hR.bx.far (p := ⟨w1.heap.size + 1, 0, none⟩) (by show Bx ≠ w1.heap.size + 1; omega) _).cell 4, (hR.bx.far (p := ⟨w1.heap.size + 1, 0, none⟩) (by show Bx ≠ w1.heap.size + 1; omega) _).cell 5⟩) (fun hG5 => ?_); clear hG4)
          try simp only [Act.put, List.setIfInBounds_toArray, List.set_cons_zero, List.set_cons_succ]
          refine wpAnyK_step (i := 13) rfl (by kernel_rfl) (by rfl) (fun K hK => ?_)
          go_simp
          (have f0 := (hB2.out.below hR.low (by omega)).frozen 0; have e0 := (hB2.out.below hR.low (by omega)).cell 0; go_simp; clear f0 e0)
          (refine hK _ _ (Keep2.no (by kernel_rfl) (by kernel_rfl)) ?_; clear hK K)
          try simp only [Act.put, List.setIfInBounds_toArray, List.set_cons_zero, List.set_cons_succ]
          refine wpAnyK_done (by kernel_rfl) ?_ _
          gi_wp2
          obtain ⟨h1, h2⟩ := HI1.out.stores HST.out hR (l1' := lowsOf (pre ++ [x])) (l2' := highsOf (pre ++ [x])) (by rw [lows_hit pre x hgh]; simp) (by rw [highs_hit pre x hgh]; simp) (by rw [lows_hit pre x hgh]; simp) (by rw [highs_hit pre x hgh]; simp)
          exact ⟨h2.1.from _, h2.2, _, _, h1⟩
        · refine wpOp_of rfl (by rfl) (fun K hK => ?_)
          go_simp
          (have hT2 := hR.tmp x.ch; (try simp only [World.size_alloc] at hT2); (try replace hT1 := hT1.alloc (.cells #[.int .i64 x.ch] 3)); replace hR := hR.alloc (.cells #[.int .i64 x.ch] 3))
          (refine hK _ _ ⟨⟨fun _ _ => (hB1.out.below hR.low (by omega)).cell 0, fun _ _ => ⟨(hB2.out.below hR.low (by omega)).cell 0, hR.bx.cell 4, hR.bx.cell 5⟩⟩, ?_⟩; clear hK K)
          (refine wpAnyK_with (F := fun (w' : World) => w'.cell? ⟨w1.heap.size + 1, 0, none⟩ = some v1) ((hB1.out.below hR.low (by omega)).cell 0) (fun hF7 => ?_); clear hF1)
          (refine wpAnyK_with (F := fun (w' : World) => w'.cell? ⟨w1.heap.size + 1 + 1, 0, none⟩ = some v2 ∧ w'.cell? ⟨Bx, 4, none⟩ = some (.int .i64 x.cl) ∧ w'.cell? ⟨Bx, 5, none⟩ = some (.int .i64 x.ch)) (⟨(hB2.out.below hR.low (by omega)).cell 0, hR.bx.cell 4, hR.bx.cell 5⟩) (fun hG7 => ?_); clear hG1)
          try simp only [Act.put, List.setIfInBounds_toArray, List.set_cons_zero, List.set_cons_succ]
          refine wpAnyK_step (i := 5) rfl (by kernel_rfl) (by rfl) (fun K hK => ?_)
          (refine wp_append_lies _ _ _ _ rfl (w1.heap.size + 5) 3 i0 _ 1 8 Tryz.underlying25 hi hz0 hz1' hz2 rfl (by omega) _ _ _ (by rfl) hR.r1 ⟨_, 0, none⟩ 1 1 [.int .i64 x.cl] (by rfl) rfl (cell_one_at hT1.1) (by simp [Value.oneCell']) (by omega) (by have : maxLen = 9223372036854775807 := rfl; omega) (by omega) (Nat.le_trans hR.bs hR.low.size) _ rfl ?_; intro ga ca wa hown hgrow hat hlta; (try (replace hT2 := hT2.app1 (m := (lowsOf pre).length + 1) (c := ca) hgrow hat)); clear hT1; replace hR := hR.app1 hgrow hown hat; clear hown hgrow hat)
          (refine hK _ _ (Keep2.no1 (by kernel_rfl) (fun _ => ⟨(hB2.out.below hR.low (by omega)).cell 0, hR.bx.cell 4, hR.bx.cell 5⟩)) ?_; clear hK K)
          (refine wpAnyK_with (F := fun (w' : World) => w'.cell? ⟨w1.heap.size + 1 + 1, 0, none⟩ = some v2 ∧ w'.cell? ⟨Bx, 4, none⟩ = some (.int .i64 x.cl) ∧ w'.cell? ⟨Bx, 5, none⟩ = some (.int .i64 x.ch)) (⟨(hB2.out.below hR.low (by omega)).cell 0, hR.bx.cell 4, hR.bx.cell 5⟩) (fun hG8 => ?_); clear hG7)
          try simp only [Act.put, List.setIfInBounds_toArray, List.set_cons_zero, List.set_cons_succ]
          refine wpAnyK_step (i := 11) rfl (by kernel_rfl) (by rfl) (fun K hK => ?_)
          (refine wp_append_lies _ _ _ _ rfl (w1.heap.size + 5) 3 i0 _ 1 8 Tryz.underlying25 hi hz0 hz1' hz2 rfl (by omega) _ _ _ (by rfl) hR.r2 ⟨_, 0, none⟩ 1 1 [.int .i64 x.ch] (by rfl) rfl (cell_one_at hT2.1) (by simp [Value.oneCell']) (by omega) (by have : maxLen = 9223372036854775807 := rfl; omega) (by omega) (Nat.le_trans hR.bs hR.low.size) _ rfl ?_; intro gb cb wb hown hgrow hat hltb; clear hT2; replace hR := hR.app2 hgrow hown hat; clear hown hgrow hat)
          (refine hK _ _ (⟨fun _ _ => (hB1.out.below hR.low (by omega)).cell 0, fun _ _ => ⟨(hB2.out.below hR.low (by omega)).cell 0, hR.bx.cell 4, hR.bx.cell 5⟩⟩) ?_; clear hK K)
          (refine wpAnyK_with (F := fun (w' : World) => w'.cell? ⟨w1.heap.size + 1, 0, none⟩ = some v1) ((hB1.out.below hR.low (by omega)).cell 0) (fun hF9 => ?_); clear hF7)
          (refine wpAnyK_with (F := fun (w' : World) => w'.cell? ⟨w1.heap.size + 1 + 1, 0, none⟩ = some v2 ∧ w'.cell? ⟨Bx, 4, none⟩ = some (.int .i64 x.cl) ∧ w'.cell? ⟨Bx, 5, none⟩ = some (.int .i64 x.ch)) (⟨(hB2.out.below hR.low (by omega)).cell 0, hR.bx.cell 4, hR.bx.cell 5⟩) (fun hG9 => ?_); clear hG8)
          try simp only [Act.put, List.setIfInBounds_toArray, List.set_cons_zero, List.set_cons_succ]
          refine wpAnyK_step (i := 12) rfl (by kernel_rfl) (by rfl) (fun K hK => ?_)
          go_simp
          (have f0 := (hB1.out.below hR.low (by omega)).frozen 0; have e0 := (hB1.out.below hR.low (by omega)).cell 0; go_simp; clear f0 e0)
          (refine hK _ _ (Keep2.no1 (by kernel_rfl) (fun _ => ⟨((hB2.out.below hR.low (by omega)).far (p := ⟨w1.heap.size + 1, 0, none⟩) (by show w1.heap.size + 1 + 1 ≠ w1.heap.size + 1; omega) _).cell 0, (hR.bx.far (p := ⟨w1.heap.size + 1, 0, none⟩) (by show Bx ≠ w1.heap.size + 1; omega) _).cell 4, (hR.bx.far (p := ⟨w1.heap.size + 1, 0, none⟩) (by show Bx ≠ w1.heap.size + 1; omega) _).cell 5⟩)) ?_; clear hK K)
          (refine wpAnyK_with (F := fun (w' : World) => w'.cell? ⟨w1.heap.size + 1 + 1, 0, none⟩ = some v2 ∧ w'.cell? ⟨Bx, 4, none⟩ = some (.int .i64 x.cl) ∧ w'.cell? ⟨Bx, 5, none⟩ = some (.int .i64 x.ch)) (⟨((hB2.out.below hR.low (by omega)).far (p := ⟨w1.heap.size + 1, 0, none⟩) (by show w1.heap.size + 1 + 1 ≠ w1.heap.size + 1; omega) _).cell 0, (hR.bx.far (p := ⟨w1.heap.size + 1, 0, none⟩) (by show Bx ≠ w1.heap.size + 1; omega) _).cell 4, (hR.bx.far (p := ⟨w1.heap.size + 1, 0, none⟩) (by show Bx ≠ w1.heap.size + 1; omega) _).cell 5⟩) (fun hG10 => ?_); clear hG9)
          try simp only [Act.put, List.setIfInBounds_toArray, List.set_cons_zero, List.set_cons_succ]
          refine wpAnyK_step (i := 13) rfl (by kernel_rfl) (by rfl) (fun K hK => ?_)
          go_simp
          (have f0 := (hB2.out.below hR.low (by omega)).frozen 0; have e0 := (hB2.out.below hR.low (by omega)).cell 0; go_simp; clear f0 e0)
          (refine hK _ _ (Keep2.no (by kernel_rfl) (by kernel_rfl)) ?_; clear hK K)
          try simp only [Act.put, List.setIfInBounds_toArray, List.set_cons_zero, List.set_cons_succ]
          refine wpAnyK_done (by kernel_rfl) ?_ _
          gi_wp2
          obtain ⟨h1, h2⟩ := HI1.out.stores HST.out hR (l1' := lowsOf (pre ++ [x])) (l2' := highsOf (pre ++ [x])) (by rw [lows_hit pre x hgh]; simp) (by rw [highs_hit pre x hgh]; simp) (by rw [lows_hit pre x hgh]; simp) (by rw [highs_hit pre x hgh]; simp)
          exact ⟨h2.1.from _, h2.2, _, _, h1⟩
      · refine wpOp_of rfl (by rfl) (fun K hK => ?_)
        go_simp
        (have hT2 := hR.tmp x.ch; (try simp only [World.size_alloc] at hT2); (try replace hT1 := hT1.alloc (.cells #[.int .i64 x.ch] 3)); replace hR := hR.alloc (.cells #[.int .i64 x.ch] 3))
        (refine hK _ _ ⟨⟨fun _ _ => (hB1.out.below hR.low (by omega)).cell 0, fun _ _ => ⟨(hB2.out.below hR.low (by omega)).cell 0, hR.bx.cell 4, hR.bx.cell 5⟩⟩, ?_⟩; clear hK K)
        (refine wpAnyK_with (F := fun (w' : World) => w'.cell? ⟨w1.heap.size + 1, 0, none⟩ = some v1) ((hB1.out.below hR.low (by omega)).cell 0) (fun hF12 => ?_); clear hF0)
        (refine wpAnyK_with (F := fun (w' : World) => w'.cell? ⟨w1.heap.size + 1 + 1, 0, none⟩ = some v2 ∧ w'.cell? ⟨Bx, 4, none⟩ = some (.int .i64 x.cl) ∧ w'.cell? ⟨Bx, 5, none⟩ = some (.int .i64 x.ch)) (⟨(hB2.out.below hR.low (by omega)).cell 0, hR.bx.cell 4, hR.bx.cell 5⟩) (fun hG12 => ?_); clear hG0)
        try simp only [Act.put, List.setIfInBounds_toArray, List.set_cons_zero, List.set_cons_succ]
        refine wpAnyK_step (i := 4) rfl (by kernel_rfl) (by rfl) (fun K hK => ?_)
        go_simp
        (have hT1 := hR.tmp x.cl; (try simp only [World.size_alloc] at hT1); (try replace hT2 := hT2.alloc (.cells #[.int .i64 x.cl] 3)); replace hR := hR.alloc (.cells #[.int .i64 x.cl] 3))
        (refine hK _ _ (⟨fun _ _ => (hB1.out.below hR.low (by omega)).cell 0, fun _ _ => ⟨(hB2.out.below hR.low (by omega)).cell 0, hR.bx.cell 4, hR.bx.cell 5⟩⟩) ?_; clear hK K)
        (refine wpAnyK_with (F := fun (w' : World) => w'.cell? ⟨w1.heap.size + 1, 0, none⟩ = some v1) ((hB1.out.below hR.low (by omega)).cell 0) (fun hF13 => ?_); clear hF12)
        (refine wpAnyK_with (F := fun (w' : World) => w'.cell? ⟨w1.heap.size + 1 + 1, 0, none⟩ = some v2 ∧ w'.cell? ⟨Bx, 4, none⟩ = some (.int .i64 x.cl) ∧ w'.cell? ⟨Bx, 5, none⟩ = some (.int .i64 x.ch)) (⟨(hB2.out.below hR.low (by omega)).cell 0, hR.bx.cell 4, hR.bx.cell 5⟩) (fun hG13 => ?_); clear hG12)
        try simp only [Act.put, List.setIfInBounds_toArray, List.set_cons_zero, List.set_cons_succ]
        refine wpAnyK_step (i := 5) rfl (by kernel_rfl) (by rfl) (fun K hK => ?_)
        (refine wp_append_lies _ _ _ _ rfl (w1.heap.size + 5) 3 i0 _ 1 8 Tryz.underlying25 hi hz0 hz1' hz2 rfl (by omega) _ _ _ (by rfl) hR.r1 ⟨_, 0, none⟩ 1 1 [.int .i64 x.cl] (by rfl) rfl (cell_one_at hT1.1) (by simp [Value.oneCell']) (by omega) (by have : maxLen = 9223372036854775807 := rfl; omega) (by omega) (Nat.le_trans hR.bs hR.low.size) _ rfl ?_; intro ga ca wa hown hgrow hat hlta; (try (replace hT2 := hT2.app1 (m := (lowsOf pre).length + 1) (c := ca) hgrow hat)); clear hT1; replace hR := hR.app1 hgrow hown hat; clear hown hgrow hat)
        (refine hK _ _ (Keep2.no1 (by kernel_rfl) (fun _ => ⟨(hB2.out.below hR.low (by omega)).cell 0, hR.bx.cell 4, hR.bx.cell 5⟩)) ?_; clear hK K)
        (refine wpAnyK_with (F := fun (w' : World) => w'.cell? ⟨w1.heap.size + 1 + 1, 0, none⟩ = some v2 ∧ w'.cell? ⟨Bx, 4, none⟩ = some (.int .i64 x.cl) ∧ w'.cell? ⟨Bx, 5, none⟩ = some (.int .i64 x.ch)) (⟨(hB2.out.below hR.low (by omega)).cell 0, hR.bx.cell 4, hR.bx.cell 5⟩) (fun hG14 => ?_); clear hG13)
        try simp only [Act.put, List.setIfInBounds_toArray, List.set_cons_zero, List.set_cons_succ]
        refine wpAnyK_step (i := 11) rfl (by kernel_rfl) (by rfl) (fun K hK => ?_)
        (refine wp_append_lies _ _ _ _ rfl (w1.heap.size + 5) 3 i0 _ 1 8 Tryz.underlying25 hi hz0 hz1' hz2 rfl (by omega) _ _ _ (by rfl) hR.r2 ⟨_, 0, none⟩ 1 1 [.int .i64 x.ch] (by rfl) rfl (cell_one_at hT2.1) (by simp [Value.oneCell']) (by omega) (by have : maxLen = 9223372036854775807 := rfl; omega) (by omega) (Nat.le_trans hR.bs hR.low.size) _ rfl ?_; intro gb cb wb hown hgrow hat hltb; clear hT2; replace hR := hR.app2 hgrow hown hat; clear hown hgrow hat)
        (refine hK _ _ (⟨fun _ _ => (hB1.out.below hR.low (by omega)).cell 0, fun _ _ => ⟨(hB2.out.below hR.low (by omega)).cell 0, hR.bx.cell 4, hR.bx.cell 5⟩⟩) ?_; clear hK K)
        (refine wpAnyK_with (F := fun (w' : World) => w'.cell? ⟨w1.heap.size + 1, 0, none⟩ = some v1) ((hB1.out.below hR.low (by omega)).cell 0) (fun hF15 => ?_); clear hF13)
        (refine wpAnyK_with (F := fun (w' : World) => w'.cell? ⟨w1.heap.size + 1 + 1, 0, none⟩ = some v2 ∧ w'.cell? ⟨Bx, 4, none⟩ = some (.int .i64 x.cl) ∧ w'.cell? ⟨Bx, 5, none⟩ = some (.int .i64 x.ch)) (⟨(hB2.out.below hR.low (by omega)).cell 0, hR.bx.cell 4, hR.bx.cell 5⟩) (fun hG15 => ?_); clear hG14)
        try simp only [Act.put, List.setIfInBounds_toArray, List.set_cons_zero, List.set_cons_succ]
        refine wpAnyK_step (i := 12) rfl (by kernel_rfl) (by rfl) (fun K hK => ?_)
        go_simp
        (have f0 := (hB1.out.below hR.low (by omega)).frozen 0; have e0 := (hB1.out.below hR.low (by omega)).cell 0; go_simp; clear f0 e0)
        (refine hK _ _ (Keep2.no1 (by kernel_rfl) (fun _ => ⟨((hB2.out.below hR.low (by omega)).far (p := ⟨w1.heap.size + 1, 0, none⟩) (by show w1.heap.size + 1 + 1 ≠ w1.heap.size + 1; omega) _).cell 0, (hR.bx.far (p := ⟨w1.heap.size + 1, 0, none⟩) (by show Bx ≠ w1.heap.size + 1; omega) _).cell 4, (hR.bx.far (p := ⟨w1.heap.size + 1, 0, none⟩) (by show Bx ≠ w1.heap.size + 1; omega) _).cell 5⟩)) ?_; clear hK K)
        (refine wpAnyK_with (F := fun (w' : World) => w'.cell? ⟨w1.heap.size + 1 + 1, 0, none⟩ = some v2 ∧ w'.cell? ⟨Bx, 4, none⟩ = some (.int .i64 x.cl) ∧ w'.cell? ⟨Bx, 5, none⟩ = some (.int .i64 x.ch)) (⟨((hB2.out.below hR.low (by omega)).far (p := ⟨w1.heap.size + 1, 0, none⟩) (by show w1.heap.size + 1 + 1 ≠ w1.heap.size + 1; omega) _).cell 0, (hR.bx.far (p := ⟨w1.heap.size + 1, 0, none⟩) (by show Bx ≠ w1.heap.size + 1; omega) _).cell 4, (hR.bx.far (p := ⟨w1.heap.size + 1, 0, none⟩) (by show Bx ≠ w1.heap.size + 1; omega) _).cell 5⟩) (fun hG16 => ?_); clear hG15)
        try simp only [Act.put, List.setIfInBounds_toArray, List.set_cons_zero, List.set_cons_succ]
        refine wpAnyK_step (i := 13) rfl (by kernel_rfl) (by rfl) (fun K hK => ?_)
        go_simp
        (have f0 := (hB2.out.below hR.low (by omega)).frozen 0; have e0 := (hB2.out.below hR.low (by omega)).cell 0; go_simp; clear f0 e0)
        (refine hK _ _ (Keep2.no (by kernel_rfl) (by kernel_rfl)) ?_; clear hK K)
        try simp only [Act.put, List.setIfInBounds_toArray, List.set_cons_zero, List.set_cons_succ]
        refine wpAnyK_done (by kernel_rfl) ?_ _
        gi_wp2
        obtain ⟨h1, h2⟩ := HI1.out.stores HST.out hR (l1' := lowsOf (pre ++ [x])) (l2' := highsOf (pre ++ [x])) (by rw [lows_hit pre x hgh]; simp) (by rw [highs_hit pre x hgh]; simp) (by rw [lows_hit pre x hgh]; simp) (by rw [highs_hit pre x hgh]; simp)
        exact ⟨h2.1.from _, h2.2, _, _, h1⟩
    · have hgh : x.gh ≤ 0 := by assumption
      refine ⟨HE.out.2.1.from _, HE.out.2.2, v1, v2, ?_⟩
      have := HE.out.1
      rw [← lows_miss pre x (by omega), ← highs_miss pre x (by omega)] at this
      exact this
  case done =>
    rintro D ys W hD rfl ⟨v1, v2, hI⟩ hK
    have a0 := hI.all.cell 0
    have a1 := hI.all.cell 1
    have bs := BS.out.below hI.low (by omega)
    have fs := bs.frozen 0
    have fs1 := bs.frozen 1
    have es := bs.cell 0
    have es1 := bs.cell 1
    have HI := Lib.hid hI
    have HBS := Lib.hid bs
    have HK := Lib.hid hK
    clear hI bs hK
    by_cases hz : sumHi (ofGood good l) = 0
    · rw [hz] at a1
      gi_wp2_with fail
      have hX := (HBS.out.set_ 0 (.int .i64 0)).set_ 1 (.int .i64 0)
      have hlow : Below w.heap.size w ((W.setCell ⟨w.heap.size + 1 + 1, 0, none⟩ (.int .i64 0)).setCell ⟨w.heap.size + 1 + 1, 1, none⟩ (.int .i64 0)) := (((HB1.out.trans (HI.out.low.mono (by omega))).setCell (p := ⟨w.heap.size + 1 + 1, 0, none⟩) (by show w.heap.size ≤ w.heap.size + 1 + 1; omega) _).setCell (p := ⟨w.heap.size + 1 + 1, 1, none⟩) (by show w.heap.size ≤ w.heap.size + 1 + 1; omega) _)
      have hK9 := ((KeepsOthers.setCell W ⟨w.heap.size + 1 + 1, 0, none⟩ (.int .i64 0)).trans (KeepsOthers.setCell _ ⟨w.heap.size + 1 + 1, 1, none⟩ (.int .i64 0))).same D _ HK.out rfl
      refine ⟨by simp, .inl ⟨_, _, rfl, run_takeDeferred hK9, ?_⟩⟩
      have hB9 := Blk.grown hX (grownBy_putObj' _ D (.deferred none)) (fun e => by injection e; omega)
      have d0 := hB9.cell 0
      have d1 := hB9.cell 1
      refine ⟨_, ?_, show PricePost _ _ _ _ _ from ⟨by simp only [priceMid, if_pos hz]; rfl, hlow.trans (belowK_b (w := w) (Nat.le_refl _) _ D _ _ (by omega) hK9 rfl rfl)⟩⟩
      simp [results, Tryz.f14, go_sem, d0, d1]
    · have HNE := Lib.hid (lows_ne good HIN.out.sales hz)
      have hz' : decide (sumHi (ofGood good l) = 0) = false := by simp [hz]
      gi_wp2_with fail
      refine ⟨trivial, (callsIn_wide.2 (price1_any false _ _ _)).mono ?_⟩
      rintro e w3 ⟨rfl, rfl⟩
      gi_wp2_with fail
      refine ⟨trivial, (callsIn_wide.2 (price1_any true _ _ _)).mono ?_⟩
      rintro e w3 ⟨rfl, rfl⟩
      gi_wp2_with fail
      obtain ⟨m, hm⟩ : ∃ m, (lowsOf (ofGood good l)).length = m + 1 := HNE.out
      have hm2 : (highsOf (ofGood good l)).length = m + 1 := by rw [← hm]; simp [highsOf, lowsOf]
      have hm40 : m + 1 ≤ 40 := by have := lows_len (ofGood good l); have := ofGood_le good l; have := HL.out.len; omega
      have h1 := HI.out.r1
      have h2 := HI.out.r2
      rw [hm] at h1
      rw [hm2] at h2
      obtain ⟨ga, ca, rfl⟩ := ownsRow_succ h1
      obtain ⟨gb, cb, rfl⟩ := ownsRow_succ h2
      obtain ⟨ba, _, hla⟩ := Sl.of_own (enc := encI) encI_len (l := lowsOf (ofGood good l)) (n := m + 1) hm.symm (by rw [flat_encI]; exact h1)
      obtain ⟨bb, _, hlb⟩ := Sl.of_own (enc := encI) encI_len (l := highsOf (ofGood good l)) (n := m + 1) hm2.symm (by rw [flat_encI]; exact h2)
      have hva := (Blk.new W 86 (viewV false)).alloc (.cells (viewV true) 86)
      have hvb := Blk.new (W.alloc (.cells (viewV false) 86)) 86 (viewV true)
      have hgr : Below W.heap.size W ((W.alloc (.cells (viewV false) 86)).alloc (.cells (viewV true) 86)) := by go_grown
      simp only [World.size_alloc] at hvb
      have hzW : ((W.alloc (.cells (viewV false) 86)).alloc (.cells (viewV true) 86)).heap.size = W.heap.size + 2 := by simp
      have hD : ((W.alloc (.cells (viewV false) 86)).alloc (.cells (viewV true) 86)).heap[D]? = some (.deferred (some [])) := (hgr.block D (Array.getElem?_eq_some_iff.1 HK.out).1).trans HK.out
      have hA := HI.out.all.below hgr HI.out.all.lt
      have hB1 := HI.out.b1.below hgr HI.out.b1.lt
      have hB2 := HI.out.b2.below hgr HI.out.b2.lt
      have hSp := HBS.out.below hgr HBS.out.lt
      have hBk := (BK.out.below HI.out.low (by omega)).below hgr (BK.out.below HI.out.low (by omega)).lt
      have hBg := (BG.out.below HI.out.low (by omega)).below hgr (BG.out.below HI.out.low (by omega)).lt
      have hSl := (HL1.out.old HI.out.low).old hgr
      have hLow := Below.step hgr (HB1.out.trans (HI.out.low.mono (by omega))) (Nat.le_refl _)
      replace hla := hla.old hgr
      replace hlb := hlb.old hgr
      have hDl : W0.heap.size ≤ D := by assumption
      have hWs : w1.heap.size ≤ W.heap.size := HI.out.low.size
      generalize (W.alloc (.cells (viewV false) 86)).alloc (.cells (viewV true) 86) = Y at hva hvb hzW hD hA hB1 hB2 hSp hBk hBg hSl hLow hla hlb ⊢
      clear hgr h1 h2 a0 a1 fs fs1 es es1
      have HD := Lib.hid hD
      have HA := Lib.hid hA
      have HB1' := Lib.hid hB1.drew
      have HB2' := Lib.hid hB2.drew
      have HSp := Lib.hid hSp
      have HLow := Lib.hid hLow.drew
      have HLa := Lib.hid hla.drew
      have HLb := Lib.hid hlb.drew
      have HPa := Lib.hid (show ∀ x w', Below Y.drew.heap.size Y.drew w' → Calls Tryz.prog 43 #[.int .i64 x, .pointer (some ⟨w.heap.size, 0, none⟩), .pointer (some ⟨w.heap.size + 1, 0, none⟩), .pointer (some ⟨W.heap.size, 0, none⟩)] w' fun e w'' => e = .returned (.bool (tipQ false (ofGood good l) x)) ∧ Below w'.heap.size w' w'' from
        fun x w' hb => tipF_any _ _ _ st gd good x b n c A l w' (by omega) (hSl.drew.old hb) (hBk.drew.below hb hBk.lt) (hBg.drew.below hb hBg.lt) (hva.drew.below hb hva.lt))
      have HPb := Lib.hid (show ∀ x w', Below Y.drew.heap.size Y.drew w' → Calls Tryz.prog 43 #[.int .i64 x, .pointer (some ⟨w.heap.size, 0, none⟩), .pointer (some ⟨w.heap.size + 1, 0, none⟩), .pointer (some ⟨W.heap.size + 1, 0, none⟩)] w' fun e w'' => e = .returned (.bool (tipQ true (ofGood good l) x)) ∧ Below w'.heap.size w' w'' from
        fun x w' hb => tipT_any _ _ _ st gd good x b n c A l w' (by omega) (hSl.drew.old hb) (hBk.drew.below hb hBk.lt) (hBg.drew.below hb hBg.lt) (hvb.drew.below hb hvb.lt))
      clear hva hvb hD hA hB1 hB2 hSp hBk hBg hSl hLow hla hlb hI0 bA bL bH bB bG
      refine wpIn_mono (wpIn_wide.2 ?_) onlyN_le
      refine wp_region_PL [0, 3] (fun w' => w'.cell? ⟨w1.heap.size + 1, 0, none⟩ = some (.slice (some ⟨ga, 0, none⟩) (m + 1) ca) ∧ w'.cell? ⟨w1.heap.size + 1 + 1, 0, none⟩ = some (.slice (some ⟨gb, 0, none⟩) (m + 1) cb)) rfl (by kernel_rfl) (⟨HB1'.out.cell 0, HB2'.out.cell 0⟩) (fun hF0 => ?_)
      (refine wpAnyP_loadL (i := 0) (v := ?_) rfl (by kernel_rfl) (by kernel_rfl) (by kernel_rfl) (by rfl) (fun _ _ _ h => h) hF0 (by rfl) ?_ ?_; rotate_left 1; focus (intro w hFw; (try dsimp only at hFw); go_split_ands; go_simp; try with_reducible rfl))
      try simp only [Act.put, List.setIfInBounds_toArray, List.set_cons_zero, List.set_cons_succ]
      (refine wpAnyP_takeL (i := 1) (v := ?_) rfl (by kernel_rfl) (by kernel_rfl) (by kernel_rfl) (fun _ _ _ h => h) (by rfl) ?_ ?_; rotate_left 1; focus (intro w; go_simp; try with_reducible rfl))
      try simp only [Act.put, List.setIfInBounds_toArray, List.set_cons_zero, List.set_cons_succ]
      (refine wpAnyP_loadL (i := 3) (v := ?_) rfl (by kernel_rfl) (by kernel_rfl) (by kernel_rfl) (by rfl) (fun _ _ _ h => h) hF0 (by rfl) ?_ ?_; rotate_left 1; focus (intro w hFw; (try dsimp only at hFw); go_split_ands; go_simp; try with_reducible rfl))
      try simp only [Act.put, List.setIfInBounds_toArray, List.set_cons_zero, List.set_cons_succ]
      (refine wpAnyP_takeL (i := 4) (v := ?_) rfl (by kernel_rfl) (by kernel_rfl) (by kernel_rfl) (fun _ _ _ h => h) (by rfl) ?_ ?_; rotate_left 1; focus (intro w; go_simp; try with_reducible rfl))
      try simp only [Act.put, List.setIfInBounds_toArray, List.set_cons_zero, List.set_cons_succ]
      refine wpAnyP_step (i := 2) rfl (by kernel_rfl) (by rfl) (fun K hK => ?_)
      go_simp
      (refine (least_any ba m ca _ _ (by omega) _ _ _ (tipQ false (ofGood good l)) _ HLa.out HPa.out).mono ?_; rintro e w4 ⟨rfl, hb4⟩; have HB4 := Lib.hid hb4; clear hb4)
      (refine hK _ _ (⟨(HB1'.out.below HB4.out HB1'.out.lt).cell 0, (HB2'.out.below HB4.out HB2'.out.lt).cell 0⟩) (fun hF1 => ?_); clear hK K hF0)
      try simp only [Act.put, List.setIfInBounds_toArray, List.set_cons_zero, List.set_cons_succ]
      refine wpAnyP_step (i := 5) rfl (by kernel_rfl) (by rfl) (fun K hK => ?_)
      go_simp
      (refine (least_any bb m cb _ _ (by omega) _ _ _ (tipQ true (ofGood good l)) _ (HLb.out.old HB4.out) (fun x w' hb => HPb.out x w' (HB4.out.trans (hb.mono HB4.out.size)))).mono ?_; rintro e w5 ⟨rfl, hb5⟩; have HB5 := Lib.hid (HB4.out.trans (hb5.mono HB4.out.size)); clear hb5)
      (refine hK _ _ (⟨(HB1'.out.below HB5.out HB1'.out.lt).cell 0, (HB2'.out.below HB5.out HB2'.out.lt).cell 0⟩) (fun hF2 => ?_); clear hK K hF1)
      try simp only [Act.put, List.setIfInBounds_toArray, List.set_cons_zero, List.set_cons_succ]
      (refine wpAnyP_takeL (i := 6) (v := ?_) rfl (by kernel_rfl) (by kernel_rfl) (by kernel_rfl) (fun _ _ _ h => h) (by rfl) ?_ ?_; rotate_left 1; focus (intro w; go_simp; try with_reducible rfl))
      try simp only [Act.put, List.setIfInBounds_toArray, List.set_cons_zero, List.set_cons_succ]
      refine wpAnyP_last (i := 7) rfl (by kernel_rfl) (by kernel_rfl) (by rfl) (fun K hK => ?_)
      go_simp
      (have f0 := ((HSp.out.drew).below HB5.out HSp.out.lt).frozen 0; have f1 := ((HSp.out.drew).below HB5.out HSp.out.lt).frozen 1; have e0 := ((HSp.out.drew).below HB5.out HSp.out.lt).cell 0; have e1 := ((HSp.out.drew).below HB5.out HSp.out.lt).cell 1; go_simp; clear f0 f1 e0 e1)
      (refine hK _ _ ?_; clear hK K)
      try simp only [Act.put, List.setIfInBounds_toArray, List.set_cons_zero, List.set_cons_succ]
      refine wpAnyP_done (by kernel_rfl) ?_ _
      have hSp7 := (((HSp.out.drew).below HB5.out HSp.out.lt).set_ 0 (.int .i64 (leastOf (tipQ false (ofGood good l)) (srt (lowsOf (ofGood good l)))))).set_ 1 (.int .i64 (leastOf (tipQ true (ofGood good l)) (srt (highsOf (ofGood good l)))))
      have hA7 := (((HA.out.drew).below HB5.out HA.out.lt).far (p := ⟨w.heap.size + 1 + 1, 0, none⟩) (by show w1.heap.size ≠ w.heap.size + 1 + 1; omega) (.int .i64 (leastOf (tipQ false (ofGood good l)) (srt (lowsOf (ofGood good l)))))).far (p := ⟨w.heap.size + 1 + 1, 1, none⟩) (by show w1.heap.size ≠ w.heap.size + 1 + 1; omega) (.int .i64 (leastOf (tipQ true (ofGood good l)) (srt (highsOf (ofGood good l)))))
      have hD7 : ((w5.setCell ⟨w.heap.size + 1 + 1, 0, none⟩ (.int .i64 (leastOf (tipQ false (ofGood good l)) (srt (lowsOf (ofGood good l)))))).setCell ⟨w.heap.size + 1 + 1, 1, none⟩ (.int .i64 (leastOf (tipQ true (ofGood good l)) (srt (highsOf (ofGood good l)))))).heap[D]? = some (.deferred (some [])) :=
        ((KeepsOthers.setCell w5 ⟨w.heap.size + 1 + 1, 0, none⟩ (.int .i64 (leastOf (tipQ false (ofGood good l)) (srt (lowsOf (ofGood good l)))))).trans (KeepsOthers.setCell _ ⟨w.heap.size + 1 + 1, 1, none⟩ _)).same D _ ((HB5.out.block D (Array.getElem?_eq_some_iff.1 HD.out).1).trans HD.out) rfl
      have hLow7 : Below w.heap.size w ((w5.setCell ⟨w.heap.size + 1 + 1, 0, none⟩ (.int .i64 (leastOf (tipQ false (ofGood good l)) (srt (lowsOf (ofGood good l)))))).setCell ⟨w.heap.size + 1 + 1, 1, none⟩ (.int .i64 (leastOf (tipQ true (ofGood good l)) (srt (highsOf (ofGood good l)))))) :=
        (((Below.step HB5.out HLow.out (Nat.le_refl _)).setCell (p := ⟨w.heap.size + 1 + 1, 0, none⟩) (by show w.heap.size ≤ w.heap.size + 1 + 1; omega) _).setCell (p := ⟨w.heap.size + 1 + 1, 1, none⟩) (by show w.heap.size ≤ w.heap.size + 1 + 1; omega) _)
      generalize (w5.setCell ⟨w.heap.size + 1 + 1, 0, none⟩ (.int .i64 (leastOf (tipQ false (ofGood good l)) (srt (lowsOf (ofGood good l)))))).setCell ⟨w.heap.size + 1 + 1, 1, none⟩ (.int .i64 (leastOf (tipQ true (ofGood good l)) (srt (highsOf (ofGood good l))))) = X7 at hSp7 hA7 hD7 hLow7 ⊢
      generalize hlo : leastOf (tipQ false (ofGood good l)) (srt (lowsOf (ofGood good l))) = lo at hSp7 hA7 hD7 hLow7 ⊢
      generalize hhi : leastOf (tipQ true (ofGood good l)) (srt (highsOf (ofGood good l))) = hi at hSp7 hA7 hD7 hLow7 ⊢
      have a7 := hA7.cell 0
      have HS7 := Lib.hid hSp7.drew
      have HS7p := Lib.hid hSp7
      have HD7 := Lib.hid hD7
      have HLow7 := Lib.hid hLow7
      have HPM := Lib.hid (show priceMid (ofGood good l) = (if 0 < sumLo (ofGood good l) then 1 else 3, lo, hi) from by rw [← hlo, ← hhi]; exact if_neg hz)
      clear hSp7 hA7 hD7 hLow7 HB5 hlo hhi
      simp only [onlyN]
      gi_wp2_with fail
      · have hc : 0 < sumLo (ofGood good l) := by assumption
        refine wpIn_mono (wpIn_wide.2 ?_) onlyN_le
        refine wp_region_PL [0] (fun w' => w'.cell? ⟨w.heap.size + 1 + 1, 0, none⟩ = some (.int .i64 lo) ∧ w'.cell? ⟨w.heap.size + 1 + 1, 1, none⟩ = some (.int .i64 hi)) rfl (by kernel_rfl) (⟨HS7.out.cell 0, HS7.out.cell 1⟩) (fun hF0 => ?_)
        (refine wpAnyP_loadL (i := 0) (v := ?_) rfl (by kernel_rfl) (by kernel_rfl) (by kernel_rfl) (by rfl) (fun _ _ _ h => h) hF0 (by rfl) ?_ ?_; rotate_left 1; focus (intro w hFw; (try dsimp only at hFw); go_split_ands; go_simp; try with_reducible rfl))
        try simp only [Act.put, List.setIfInBounds_toArray, List.set_cons_zero, List.set_cons_succ]
        (refine wpAnyP_takeL (i := 1) (v := ?_) rfl (by kernel_rfl) (by kernel_rfl) (by kernel_rfl) (fun _ _ _ h => h) (by rfl) ?_ ?_; rotate_left 1; focus (intro w; go_simp; try with_reducible rfl))
        try simp only [Act.put, List.setIfInBounds_toArray, List.set_cons_zero, List.set_cons_succ]
        refine wpAnyP_last (i := 2) rfl (by kernel_rfl) (by kernel_rfl) (by rfl) (fun K hK => ?_)
        go_simp
        (have f0 := HS7p.out.frozen 0; have f1 := HS7p.out.frozen 1; have e0 := HS7p.out.cell 0; have e1 := HS7p.out.cell 1; go_simp; clear f0 f1 e0 e1)
        (refine hK _ _ ?_; clear hK K)
        try simp only [Act.put, List.setIfInBounds_toArray, List.set_cons_zero, List.set_cons_succ]
        (refine wpAnyP_takeL (i := 3) (v := ?_) rfl (by kernel_rfl) (by kernel_rfl) (by kernel_rfl) (fun _ _ _ h => h) (by rfl) ?_ ?_; rotate_left 1; focus (intro w; go_simp; try with_reducible rfl))
        try simp only [Act.put, List.setIfInBounds_toArray, List.set_cons_zero, List.set_cons_succ]
        refine wpAnyP_done (by kernel_rfl) ?_ _
        simp only [onlyN]
        gi_wp2_with fail
        have hX9 := ((HS7p.out.set_ 0 (.int .i64 lo)).set_ 1 (.int .i64 hi)).drew
        have hK9 := (((KeepsOthers.setCell X7 ⟨w.heap.size + 1 + 1, 0, none⟩ (.int .i64 lo)).trans (KeepsOthers.setCell _ ⟨w.heap.size + 1 + 1, 1, none⟩ (.int .i64 hi))).trans (KeepsOthers.drew _)).same D _ HD7.out rfl
        have hL9 := ((HLow7.out.setCell (p := ⟨w.heap.size + 1 + 1, 0, none⟩) (by show w.heap.size ≤ w.heap.size + 1 + 1; omega) (.int .i64 lo)).setCell (p := ⟨w.heap.size + 1 + 1, 1, none⟩) (by show w.heap.size ≤ w.heap.size + 1 + 1; omega) (.int .i64 hi)).drew
        refine ⟨by simp, .inl ⟨_, _, rfl, run_takeDeferred hK9, ?_⟩⟩
        have hB9 := Blk.grown hX9 (grownBy_putObj' _ D (.deferred none)) (fun e => by injection e; omega)
        have d0 := hB9.cell 0
        have d1 := hB9.cell 1
        refine ⟨_, ?_, show PricePost _ _ _ _ _ from ⟨by rw [HPM.out, if_pos hc], hL9.trans (belowK_b (w := w) (Nat.le_refl _) _ D _ _ (by omega) hK9 rfl rfl)⟩⟩
        simp [results, Tryz.f14, go_sem, d0, d1]
      · have hc : sumLo (ofGood good l) ≤ 0 := by assumption
        refine wpIn_mono (wpIn_wide.2 ?_) onlyN_le
        refine wp_region_PL [0] (fun w' => w'.cell? ⟨w.heap.size + 1 + 1, 0, none⟩ = some (.int .i64 lo) ∧ w'.cell? ⟨w.heap.size + 1 + 1, 1, none⟩ = some (.int .i64 hi)) rfl (by kernel_rfl) (⟨HS7.out.cell 0, HS7.out.cell 1⟩) (fun hF0 => ?_)
        (refine wpAnyP_loadL (i := 0) (v := ?_) rfl (by kernel_rfl) (by kernel_rfl) (by kernel_rfl) (by rfl) (fun _ _ _ h => h) hF0 (by rfl) ?_ ?_; rotate_left 1; focus (intro w hFw; (try dsimp only at hFw); go_split_ands; go_simp; try with_reducible rfl))
        try simp only [Act.put, List.setIfInBounds_toArray, List.set_cons_zero, List.set_cons_succ]
        (refine wpAnyP_takeL (i := 1) (v := ?_) rfl (by kernel_rfl) (by kernel_rfl) (by kernel_rfl) (fun _ _ _ h => h) (by rfl) ?_ ?_; rotate_left 1; focus (intro w; go_simp; try with_reducible rfl))
        try simp only [Act.put, List.setIfInBounds_toArray, List.set_cons_zero, List.set_cons_succ]
        refine wpAnyP_last (i := 2) rfl (by kernel_rfl) (by kernel_rfl) (by rfl) (fun K hK => ?_)
        go_simp
        (have f0 := HS7p.out.frozen 0; have f1 := HS7p.out.frozen 1; have e0 := HS7p.out.cell 0; have e1 := HS7p.out.cell 1; go_simp; clear f0 f1 e0 e1)
        (refine hK _ _ ?_; clear hK K)
        try simp only [Act.put, List.setIfInBounds_toArray, List.set_cons_zero, List.set_cons_succ]
        (refine wpAnyP_takeL (i := 3) (v := ?_) rfl (by kernel_rfl) (by kernel_rfl) (by kernel_rfl) (fun _ _ _ h => h) (by rfl) ?_ ?_; rotate_left 1; focus (intro w; go_simp; try with_reducible rfl))
        try simp only [Act.put, List.setIfInBounds_toArray, List.set_cons_zero, List.set_cons_succ]
        refine wpAnyP_done (by kernel_rfl) ?_ _
        simp only [onlyN]
        gi_wp2_with fail
        have hX9 := ((HS7p.out.set_ 0 (.int .i64 lo)).set_ 1 (.int .i64 hi)).drew
        have hK9 := (((KeepsOthers.setCell X7 ⟨w.heap.size + 1 + 1, 0, none⟩ (.int .i64 lo)).trans (KeepsOthers.setCell _ ⟨w.heap.size + 1 + 1, 1, none⟩ (.int .i64 hi))).trans (KeepsOthers.drew _)).same D _ HD7.out rfl
        have hL9 := ((HLow7.out.setCell (p := ⟨w.heap.size + 1 + 1, 0, none⟩) (by show w.heap.size ≤ w.heap.size + 1 + 1; omega) (.int .i64 lo)).setCell (p := ⟨w.heap.size + 1 + 1, 1, none⟩) (by show w.heap.size ≤ w.heap.size + 1 + 1; omega) (.int .i64 hi)).drew
        refine ⟨by simp, .inl ⟨_, _, rfl, run_takeDeferred hK9, ?_⟩⟩
        have hB9 := Blk.grown hX9 (grownBy_putObj' _ D (.deferred none)) (fun e => by injection e; omega)
        have d0 := hB9.cell 0
        have d1 := hB9.cell 1
        refine ⟨_, ?_, show PricePost _ _ _ _ _ from ⟨by rw [HPM.out, if_neg (by omega)], hL9.trans (belowK_b (w := w) (Nat.le_refl _) _ D _ _ (by omega) hK9 rfl rfl)⟩⟩
        simp [results, Tryz.f14, go_sem, d0, d1]
  case stop =>
    rintro D c pre W _ _ h _
    exact h.elim
end Go.Proofs.YtjmppionedcfeaaGreatDoor
