/-
  Both ends are reached, in plain words.
-/
import Derived.Test.YtkcdknjgjidnnaaExact
set_option linter.unusedVariables false
set_option linter.unusedSimpArgs false
namespace Go.Proofs.Ytkcdknjgjidnnaa
open Go.RowKit

def pushE (p : Int) (low : Bool) (s : Sale) : Sale := exactOne s (pushS p low s)
theorem exactS_push (l : List Sale) (p : Int) (low : Bool) : exactS l (l.map (pushS p low)) = l.map (pushE p low) := by
  unfold exactS
  induction l with
  | nil => rfl
  | cons s r ih => simp only [List.map_cons, List.zipWith_cons_cons, ih]; rfl
theorem ofGood_push (l : List Sale) (p : Int) (low : Bool) (good : Int) : ofGood good (exactS l (l.map (pushS p low))) = (ofGood good l).map (pushE p low) := by
  rw [exactS_push]
  unfold ofGood
  rw [List.filter_map]
  rfl
theorem wsum_map (q : Sale → Bool) (f : Sale → Int) (h : Sale → Sale) (g : List Sale) : wsum q f (g.map h) = wsum (fun s => q (h s)) (fun s => f (h s)) g := by
  induction g with
  | nil => rfl
  | cons s r ih => simp only [List.map_cons, wsum, ih]
theorem pushE_le {s : Sale} (h0 : s.gl ≤ s.gh) (h1 : s.cl ≤ s.ch) (p : Int) (low : Bool) : SaleLe (pushE p low s) s := by
  cases low <;> simp only [pushE, pushS, exactOne, Bool.false_eq_true, if_false, if_true] <;> refine ⟨rfl, rfl, ?_, Int.le_refl _, ?_, ?_, Int.le_refl _, ?_⟩ <;> simp only <;> first | omega | (split <;> omega)
theorem narrow_push {g : List Sale} (hg : GoodIn g) (p : Int) (low : Bool) : Narrow (g.map (pushE p low)) g := by
  have h1 := hg.gl1
  have h2 := hg.cl1
  clear hg
  induction g with
  | nil => exact .nil
  | cons s r ih => exact .cons (pushE_le (h1 s List.mem_cons_self) (h2 s List.mem_cons_self) p low) (ih (fun s hs => h1 s (List.mem_cons_of_mem _ hs)) (fun s hs => h2 s (List.mem_cons_of_mem _ hs)))
theorem exact_push (g : List Sale) (p : Int) (low : Bool) : Exact (g.map (pushE p low)) := by
  intro s hs
  rw [List.mem_map] at hs
  obtain ⟨x, _, rfl⟩ := hs
  exact ⟨rfl, rfl⟩
theorem grams_pos {g : List Sale} (hg : GoodIn g) {s : Sale} (hs : s ∈ g) (h : 0 < s.gh) : gramsHi g ≠ 0 := by
  have := wsum_pos (q := allQ) (f := (·.gh)) (fun s hs _ => gh0 hg s hs) hs rfl h
  unfold gramsHi
  omega
theorem ends_lo {g : List Sale} (hg : GoodIn g) (hn : gramsHi g ≠ 0) : fairOut (g.map (pushE (loOf g) true)) = (loOf g, true) := by
  have hN := narrow_push hg (loOf g) true
  have hg' := hN.good hg
  obtain ⟨a1, a2, a3⟩ := lo_spec hg hn
  obtain ⟨s, hs, hs0, hs1⟩ := mem_cts.1 a1
  have hs1 : s.cl = loOf g := hs1
  have hm : pushE (loOf g) true s ∈ g.map (pushE (loOf g) true) := List.mem_map_of_mem hs
  have hgh : (pushE (loOf g) true s).gh = s.gh := by simp [pushE, pushS, exactOne, hs1]
  have hn' : gramsHi (g.map (pushE (loOf g) true)) ≠ 0 := grams_pos hg' hm (by rw [hgh]; exact hs0)
  have k1 := narrow_lo hN hg hn'
  have k2 := (lo_spec hg' hn').2.2 (loOf g) ⟨loOf g, mem_cts.2 ⟨_, hm, by rw [hgh]; exact hs0, by show (pushE (loOf g) true s).cl = _; simp [pushE, pushS, exactOne, hs1]⟩, Int.le_refl _⟩ (by
    unfold tipT at *
    rw [wsum_map, wsum_map]
    have e1 : wsum (fun s => gtQ (ctsOf false) (loOf g) (pushE (loOf g) true s)) (fun s => rstOf false (pushE (loOf g) true s)) g = wsum (gtQ (ctsOf false) (loOf g)) (rstOf false) g := wsum_congr (fun x _ => by
      by_cases hx : x.cl ≤ loOf g
      · have : ¬ loOf g < x.cl := by omega
        simp [gtQ, ctsOf, pushE, pushS, exactOne, this]
      · simp [gtQ, ctsOf, rstOf, pushE, pushS, exactOne, hx])
    have e2 : wsum (fun s => leQ (ctsOf false) (loOf g) (pushE (loOf g) true s)) (fun s => fstOf false (pushE (loOf g) true s)) g = wsum (leQ (ctsOf false) (loOf g)) (fstOf false) g := wsum_congr (fun x _ => by
      by_cases hx : x.cl ≤ loOf g
      · simp [leQ, ctsOf, fstOf, pushE, pushS, exactOne, hx]
      · simp [leQ, ctsOf, pushE, pushS, exactOne, hx])
    rw [e1, e2]
    exact a2)
  unfold fairOut
  rw [if_neg hn', show loOf (g.map (pushE (loOf g) true)) = loOf g by omega]
theorem ends_hi {g : List Sale} (hg : GoodIn g) (hn : gramsHi g ≠ 0) : fairOut (g.map (pushE (hiOf g) false)) = (hiOf g, true) := by
  have hN := narrow_push hg (hiOf g) false
  have hg' := hN.good hg
  obtain ⟨a1, a2, a3⟩ := hi_spec hg hn
  obtain ⟨s, hs, hs0, hs1⟩ := mem_cts.1 a1
  have hs1 : s.ch = hiOf g := hs1
  have hm : pushE (hiOf g) false s ∈ g.map (pushE (hiOf g) false) := List.mem_map_of_mem hs
  have hgh : (pushE (hiOf g) false s).gh = s.gh := by simp [pushE, pushS, exactOne, hs1]
  have hn' : gramsHi (g.map (pushE (hiOf g) false)) ≠ 0 := grams_pos hg' hm (by rw [hgh]; exact hs0)
  have k1 := narrow_hi hN hg hn'
  have k3 := exact_lohi hg' (exact_push g (hiOf g) false) hn'
  obtain ⟨b1, b2, b3⟩ := hi_spec hg' hn'
  have k2 : hiOf g ≤ hiOf (g.map (pushE (hiOf g) false)) := by
    by_cases hlt : hiOf g ≤ hiOf (g.map (pushE (hiOf g) false))
    · exact hlt
    · exfalso
      generalize hH : hiOf (g.map (pushE (hiOf g) false)) = H' at *
      have := a3 (hiOf g - 1) (by
        obtain ⟨x, hx, hx0, hx1⟩ := mem_cts.1 b1
        rw [List.mem_map] at hx
        obtain ⟨y, hy, rfl⟩ := hx
        have hle := pushE_le (hg.gl1 y hy) (hg.cl1 y hy) (hiOf g) false
        have e : (pushE (hiOf g) false y).ch = y.ch := by simp [pushE, pushS, exactOne]
        have hx1' : (pushE (hiOf g) false y).ch = H' := hx1
        exact ⟨y.ch, mem_cts.2 ⟨y, hy, by have := hle.gh; omega, rfl⟩, by omega⟩) (by
        unfold tipT at *
        rw [wsum_map, wsum_map] at b2
        have e1 : wsum (gtQ (ctsOf true) (hiOf g - 1)) (rstOf true) g ≤ wsum (fun s => gtQ (ctsOf true) H' (pushE (hiOf g) false s)) (fun s => rstOf true (pushE (hiOf g) false s)) g := wsum_le (fun x hx => by
          have h0 := hg.gl0 x hx
          have h1 := hg.gl1 x hx
          by_cases hc : hiOf g ≤ x.ch
          · have c1 : hiOf g - 1 < x.ch := by omega
            have c2 : H' < x.ch := by omega
            simp [gtQ, ctsOf, rstOf, pushE, pushS, exactOne, hc, c1, c2]
          · have c1 : ¬ hiOf g - 1 < x.ch := by omega
            simp only [gtQ, ctsOf, rstOf, pushE, pushS, exactOne, hc, c1, if_true, decide_false, Bool.false_eq_true, if_false]
            split <;> omega)
        have e2 : wsum (fun s => leQ (ctsOf true) H' (pushE (hiOf g) false s)) (fun s => fstOf true (pushE (hiOf g) false s)) g ≤ wsum (leQ (ctsOf true) (hiOf g - 1)) (fstOf true) g := wsum_le (fun x hx => by
          have h0 := hg.gl0 x hx
          have h1 := hg.gl1 x hx
          by_cases hc : x.ch ≤ H'
          · have c1 : x.ch ≤ hiOf g - 1 := by omega
            have c2 : ¬ hiOf g ≤ x.ch := by omega
            simp [leQ, ctsOf, fstOf, pushE, pushS, exactOne, hc, c1, c2]
          · simp only [leQ, ctsOf, fstOf, pushE, pushS, exactOne, hc, if_true, decide_false, Bool.false_eq_true, if_false]
            split <;> omega)
        omega)
      omega
  unfold fairOut
  rw [if_neg hn', show loOf (g.map (pushE (hiOf g) false)) = hiOf g by omega]
theorem turn_push {st gd : Int} {l : List Sale} (h : ∀ s ∈ l, SaleIn st gd s) (s : Int) :
    (turn (exactS l (l.map (pushS (-1) true))) s).lo = (turn l s).lo ∧ (turn (exactS l (l.map (pushS (-1) false))) s).lo = (turn l s).hi := by
  rw [exactS_push, exactS_push]
  induction l with
  | nil => exact ⟨rfl, rfl⟩
  | cons x r ih =>
    obtain ⟨i1, i2⟩ := ih (fun s hs => h s (List.mem_cons_of_mem _ hs))
    have hx := h x List.mem_cons_self
    have h1 := hx.cl0
    have h2 := hx.cl1
    have c1 : ¬ x.cl ≤ -1 := by omega
    have c2 : (-1 : Int) ≤ x.ch := by omega
    simp only [List.map_cons, turn]
    have e1 : (pushE (-1) true x).st = x.st := rfl
    have e2 : (pushE (-1) false x).st = x.st := rfl
    have e3 : (pushE (-1) true x).gl * (pushE (-1) true x).cl = x.gl * x.cl := by simp [pushE, pushS, exactOne, c1]
    have e4 : (pushE (-1) false x).gl * (pushE (-1) false x).cl = x.gh * x.ch := by simp [pushE, pushS, exactOne, c2]
    rw [e1, e2]
    split
    · simp only [e3, e4, i1, i2]
      exact ⟨trivial, trivial⟩
    · exact ⟨i1, i2⟩
end Go.Proofs.Ytkcdknjgjidnnaa
