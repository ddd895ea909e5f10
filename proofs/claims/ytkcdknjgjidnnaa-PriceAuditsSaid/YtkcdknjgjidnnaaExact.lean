/-
  What truly is sold, in plain words: sales of known grams and cents; the price of what truly is sold.
-/
import Derived.Test.YtkcdknjgjidnnaaFairLaw
import Derived.Test.YtkcdknjgjidnnaaOk
set_option linter.unusedVariables false
set_option linter.unusedSimpArgs false
namespace Go.Proofs.Ytkcdknjgjidnnaa
open Go.RowKit

def exactOne (s : Sale) (t : Sold) : Sale := ⟨s.st, s.gd, t.gr, t.gr, t.ce, t.ce⟩
def exactS (l : List Sale) (t : List Sold) : List Sale := List.zipWith exactOne l t
theorem exactS_len {l : List Sale} {t : List Sold} (h : t.length = l.length) : (exactS l t).length = l.length := by simp [exactS, h]
theorem exactS_get {l : List Sale} {t : List Sold} {k : Nat} (h1 : k < l.length) (h2 : k < t.length) (h3 : k < (exactS l t).length) : (exactS l t)[k] = exactOne l[k] t[k] := by simp [exactS]
theorem exactS_exact (l : List Sale) (t : List Sold) : Exact (exactS l t) := by
  intro s hs
  unfold exactS at hs
  rw [List.mem_iff_getElem] at hs
  obtain ⟨i, hi, rfl⟩ := hs
  simp [exactOne]
theorem Exact.good {g : List Sale} (h : Exact g) (good : Int) : Exact (ofGood good g) := fun s hs => h s (ofGood_sub good g s hs).1
/-- what is sold lies within a sale -/
structure SoldIn (t : Sold) (s : Sale) : Prop where
  g0 : s.gl ≤ t.gr
  g1 : t.gr ≤ s.gh
  c0 : s.cl ≤ t.ce
  c1 : t.ce ≤ s.ch
theorem SoldIn.le {t : Sold} {s : Sale} (h : SoldIn t s) : SaleLe (exactOne s t) s :=
  ⟨rfl, rfl, h.g0, Int.le_refl _, h.g1, h.c0, Int.le_refl _, h.c1⟩
theorem narrow_exact {l : List Sale} {t : List Sold} (h : F2 SoldIn t l) : Narrow (exactS l t) l := by
  induction h with
  | nil => exact .nil
  | cons h _ ih => exact .cons h.le ih
theorem F2.snoc {α β : Type} {R : α → β → Prop} {l : List α} {m : List β} {a : α} {b : β} (h : F2 R l m) (k : R a b) : F2 R (l ++ [a]) (m ++ [b]) := by
  induction h with
  | nil => exact .cons k .nil
  | cons h _ ih => exact .cons h ih

theorem turn_narrow {g' g : List Sale} (h : Narrow g' g) (hb : ∀ s ∈ g, 0 ≤ s.gl ∧ 0 ≤ s.cl) (s : Int) : (turn g s).lo ≤ (turn g' s).lo ∧ (turn g' s).hi ≤ (turn g s).hi := by
  induction h with
  | nil => exact ⟨Int.le_refl _, Int.le_refl _⟩
  | @cons x' x r' r hs _ ih =>
    have h0 := hb x List.mem_cons_self
    have h1 := ih (fun s hs => hb s (List.mem_cons_of_mem _ hs))
    obtain ⟨e1, e2, b1, b2, b3, b4, b5, b6⟩ := hs
    unfold turn
    rw [e1]
    have m1 : x.gl * x.cl ≤ x'.gl * x'.cl := Int.mul_le_mul b1 b4 h0.2 (by omega)
    have m2 : x'.gh * x'.ch ≤ x.gh * x.ch := Int.mul_le_mul b3 b6 (by omega) (by omega)
    split
    · simp only
      omega
    · exact h1
theorem turn_exact {g : List Sale} (h : Exact g) (s : Int) : (turn g s).lo = (turn g s).hi := by
  induction g with
  | nil => rfl
  | cons x r ih =>
    have h1 := h x List.mem_cons_self
    have h2 := ih (fun s hs => h s (List.mem_cons_of_mem _ hs))
    unfold turn
    rw [h1.1, h1.2]
    split
    · simp only; omega
    · exact h2

/-- how many grams of a good are sold for at most p -/
def upTo (g : List Sale) (p : Int) : Int := wsum (leQ (·.cl) p) (·.gl) g
/-- the state of the reference's search for the price -/
def FairSt (all : Int) (g : List Sale) (good : Int) (xs : List Sale) (best : Int) (some : Bool) : Prop :=
  (some = false ∧ best = 0 ∧ ∀ s ∈ xs, s.gd = good → ¬ all ≤ 2 * upTo g s.cl) ∨
  (some = true ∧ (∃ s ∈ xs, s.gd = good ∧ all ≤ 2 * upTo g s.cl ∧ s.cl = best) ∧ ∀ s ∈ xs, s.gd = good → all ≤ 2 * upTo g s.cl → best ≤ s.cl)
section
variable {all : Int} {g : List Sale} {good : Int} {xs : List Sale} {best : Int} {some : Bool} {s : Sale}
theorem FairSt.nil : FairSt all g good [] 0 false := .inl ⟨rfl, rfl, by simp⟩
theorem FairSt.skip (h : FairSt all g good xs best some) (hs : s.gd ≠ good ∨ (some = true ∧ best ≤ s.cl) ∨ ¬ all ≤ 2 * upTo g s.cl) : FairSt all g good (xs ++ [s]) best some := by
  rcases h with ⟨h1, h2, h3⟩ | ⟨h1, ⟨x, hx, h2⟩, h3⟩
  · refine .inl ⟨h1, h2, fun y hy hg => ?_⟩
    rcases List.mem_append.1 hy with hy | hy
    · exact h3 y hy hg
    · simp at hy
      subst hy
      rcases hs with hs | ⟨hs, _⟩ | hs
      · exact absurd hg hs
      · rw [h1] at hs; cases hs
      · exact hs
  · refine .inr ⟨h1, ⟨x, List.mem_append_left _ hx, h2⟩, fun y hy hg ht => ?_⟩
    rcases List.mem_append.1 hy with hy | hy
    · exact h3 y hy hg ht
    · simp at hy
      subst hy
      rcases hs with hs | ⟨_, hs⟩ | hs
      · exact absurd hg hs
      · exact hs
      · exact absurd ht hs
theorem FairSt.take (h : FairSt all g good xs best some) (hg : s.gd = good) (hb : some = true → s.cl < best) (ht : all ≤ 2 * upTo g s.cl) : FairSt all g good (xs ++ [s]) s.cl true := by
  refine .inr ⟨rfl, ⟨s, by simp, hg, ht, rfl⟩, fun y hy hgy hty => ?_⟩
  rcases List.mem_append.1 hy with hy | hy
  · rcases h with ⟨h1, h2, h3⟩ | ⟨h1, h2, h3⟩
    · exact absurd hty (h3 y hy hgy)
    · have := h3 y hy hgy hty
      have := hb h1
      omega
  · simp at hy
    subst hy
    exact Int.le_refl _
end
theorem tip_exact {g : List Sale} (hx : Exact g) (p : Int) : tipT false g p ↔ gramsHi g ≤ 2 * upTo g p := by
  have hf : wsum (leQ (ctsOf false) p) (fstOf false) g = upTo g p := wsum_congr (fun s hs => by simp [leQ, ctsOf, fstOf, (hx s hs).1])
  have hr : wsum (gtQ (ctsOf false) p) (rstOf false) g = wsum (gtQ (·.cl) p) (·.gl) g := wsum_congr (fun s hs => by simp [gtQ, ctsOf, rstOf])
  have hs := wsum_split (g := g) (·.gl) (·.cl) p
  have e := exact_grams hx
  unfold gramsLo at e
  unfold tipT
  rw [hf, hr]
  unfold upTo at *
  omega
/-- the price that the reference finds -/
theorem fair_end {X : List Sale} {good best : Int} {some : Bool} (hG : GoodIn (ofGood good X)) (hx : Exact X) (hn : gramsHi (ofGood good X) ≠ 0)
    (h : FairSt (gramsHi (ofGood good X)) (ofGood good X) good X best some) : best = loOf (ofGood good X) ∧ some = true := by
  have hxg := hx.good good
  obtain ⟨a1, a2, a3⟩ := lo_spec hG hn
  have h0 := grams_lohi hG
  obtain ⟨s, hs, hs0, hs1⟩ := mem_cts.1 a1
  have hs1 : s.cl = loOf (ofGood good X) := hs1
  obtain ⟨hsX, hsg⟩ := ofGood_sub good X s hs
  rw [tip_exact hxg] at a2
  rcases h with ⟨h1, h2, h3⟩ | ⟨h1, ⟨y, hy, hyg, hyt, rfl⟩, h3⟩
  · exact absurd (by rw [hs1]; exact a2) (h3 s hsX hsg)
  · refine ⟨?_, h1⟩
    have k1 := h3 s hsX hsg (by rw [hs1]; exact a2)
    have k2 := a3 y.cl (by
      by_cases he : ∃ x ∈ ctsList false (ofGood good X), x ≤ y.cl
      · exact he
      · exfalso
        have : upTo (ofGood good X) y.cl = 0 := wsum_zero (fun z hz hq => by
          simp [leQ] at hq
          by_cases h0 : 0 < z.gh
          · exact absurd ⟨z.cl, mem_cts.2 ⟨z, hz, h0, rfl⟩, hq⟩ he
          · have := hG.gl0 z hz
            have := hG.gl1 z hz
            omega)
        omega) ((tip_exact hxg _).2 hyt)
    omega
/-- what the reference's Fair returns -/
def fairOut (g : List Sale) : Int × Bool := if gramsHi g = 0 then (0, false) else (loOf g, true)

/-- the truth in which the price is as low, or as high, as it may be -/
def pushS (p : Int) (low : Bool) (s : Sale) : Sold := if low then ⟨if s.cl ≤ p then s.gh else s.gl, s.cl⟩ else ⟨if p ≤ s.ch then s.gh else s.gl, s.ch⟩
theorem pushS_in {st gd : Int} {s : Sale} (h : SaleIn st gd s) (p : Int) (low : Bool) : SoldIn (pushS p low s) s := by
  obtain ⟨_, _, _, _, a, b, c, d, e, f⟩ := h
  cases low <;> simp only [pushS, Bool.false_eq_true, if_false, if_true] <;> split <;> exact ⟨by simp only; omega, by simp only; omega, by simp only; omega, by simp only; omega⟩
theorem push_F2 {st gd : Int} {l : List Sale} (h : ∀ s ∈ l, SaleIn st gd s) (p : Int) (low : Bool) : F2 SoldIn (l.map (pushS p low)) l := by
  induction l with
  | nil => exact .nil
  | cons s r ih => exact .cons (pushS_in (h s List.mem_cons_self) p low) (ih (fun s hs => h s (List.mem_cons_of_mem _ hs)))
theorem exact_in {st gd : Int} {l : List Sale} {t : List Sold} (h : F2 SoldIn t l) (hb : ∀ s ∈ l, SaleIn st gd s) : ∀ x ∈ exactS l t, SaleIn st gd x := by
  induction h with
  | nil => intro x hx; simp [exactS] at hx
  | @cons a b l m hab _ ih =>
    intro x hx
    simp only [exactS, List.zipWith_cons_cons, List.mem_cons] at hx
    rcases hx with rfl | hx
    · exact hab.le.in (hb b List.mem_cons_self)
    · exact ih (fun s hs => hb s (List.mem_cons_of_mem _ hs)) x hx
end Go.Proofs.Ytkcdknjgjidnnaa
