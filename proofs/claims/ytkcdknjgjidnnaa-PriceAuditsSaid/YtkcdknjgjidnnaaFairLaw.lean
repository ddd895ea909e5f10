/-
  What truly is sold, in plain words: narrower sales, a narrower price; the price of what truly is sold.
-/
import Derived.Test.YtkcdknjgjidnnaaPriceLaw
set_option linter.unusedVariables false
set_option linter.unusedSimpArgs false
namespace Go.Proofs.Ytkcdknjgjidnnaa
open Go.RowKit

/-- two lists, place by place -/
inductive F2 {α β : Type} (R : α → β → Prop) : List α → List β → Prop
  | nil : F2 R [] []
  | cons {a : α} {b : β} {l : List α} {m : List β} : R a b → F2 R l m → F2 R (a :: l) (b :: m)
theorem F2.length_eq {α β : Type} {R : α → β → Prop} {l : List α} {m : List β} (h : F2 R l m) : l.length = m.length := by
  induction h with
  | nil => rfl
  | cons _ _ ih => simp [ih]
/-- sale s' lies within sale s -/
structure SaleLe (s' s : Sale) : Prop where
  st : s'.st = s.st
  gd : s'.gd = s.gd
  gl : s.gl ≤ s'.gl
  gg : s'.gl ≤ s'.gh
  gh : s'.gh ≤ s.gh
  cl : s.cl ≤ s'.cl
  cc : s'.cl ≤ s'.ch
  ch : s'.ch ≤ s.ch
theorem SaleLe.in {st gd : Int} {s s' : Sale} (h : SaleLe s' s) (k : SaleIn st gd s) : SaleIn st gd s' := by
  obtain ⟨a, b, c, d, e, f, g, i⟩ := h
  obtain ⟨k1, k2, k3, k4, k5, k6, k7, k8, k9, k10⟩ := k
  exact ⟨by omega, by omega, by omega, by omega, by omega, by omega, by omega, by omega, by omega, by omega⟩
def Narrow (g' g : List Sale) : Prop := F2 SaleLe g' g
theorem Narrow.len {g' g : List Sale} (h : Narrow g' g) : g'.length = g.length := h.length_eq
theorem Narrow.ofGood {g' g : List Sale} (h : Narrow g' g) (good : Int) : Narrow (ofGood good g') (ofGood good g) := by
  induction h with
  | nil => exact .nil
  | @cons s' s r' r hs _ ih =>
    unfold Go.Proofs.Ytkcdknjgjidnnaa.ofGood at *
    have e := hs.gd
    by_cases hg : s.gd = good
    · have hg' : s'.gd = good := by rw [e, hg]
      simp only [List.filter_cons, hg, hg', decide_true, if_true]
      exact .cons hs ih
    · have hg' : ¬ s'.gd = good := by rw [e]; exact hg
      simp only [List.filter_cons, hg, hg', decide_false, Bool.false_eq_true, if_false]
      exact ih
theorem Narrow.good {g' g : List Sale} (h : Narrow g' g) (hg : GoodIn g) : GoodIn g' := by
  have k : (∀ s ∈ g', 0 ≤ s.gl ∧ s.gl ≤ s.gh ∧ s.gh ≤ 100000 ∧ 0 ≤ s.cl ∧ s.cl ≤ s.ch ∧ s.ch ≤ 100000) := by
    have hl := hg.len
    clear hl
    have h1 := hg.gl0
    have h2 := hg.gh1
    have h3 := hg.cl0
    have h4 := hg.ch1
    clear hg
    induction h with
    | nil => simp
    | @cons s' s r' r hs _ ih =>
      intro x hx
      rcases List.mem_cons.1 hx with rfl | hx
      · have a1 := h1 s List.mem_cons_self
        have a2 := h2 s List.mem_cons_self
        have a3 := h3 s List.mem_cons_self
        have a4 := h4 s List.mem_cons_self
        obtain ⟨_, _, b1, b2, b3, b4, b5, b6⟩ := hs
        omega
      · exact ih (fun s hs => h1 s (List.mem_cons_of_mem _ hs)) (fun s hs => h2 s (List.mem_cons_of_mem _ hs)) (fun s hs => h3 s (List.mem_cons_of_mem _ hs)) (fun s hs => h4 s (List.mem_cons_of_mem _ hs)) x hx
  exact ⟨by rw [h.len]; exact hg.len, fun s hs => (k s hs).1, fun s hs => (k s hs).2.1, fun s hs => (k s hs).2.2.1, fun s hs => (k s hs).2.2.2.1, fun s hs => (k s hs).2.2.2.2.1, fun s hs => (k s hs).2.2.2.2.2⟩
theorem wsum2_le {q q' : Sale → Bool} {f f' : Sale → Int} {g' g : List Sale} (h : F2 (fun s' s => (if q s' then f s' else 0) ≤ (if q' s then f' s else 0)) g' g) : wsum q f g' ≤ wsum q' f' g := by
  induction h with
  | nil => exact Int.le_refl _
  | cons hs _ ih => simp only [wsum]; omega
theorem Narrow.with {g' g : List Sale} (h : Narrow g' g) (hg : GoodIn g) : F2 (fun s' s => SaleLe s' s ∧ 0 ≤ s.gl) g' g := by
  have h1 := hg.gl0
  clear hg
  induction h with
  | nil => exact .nil
  | @cons s' s r' r hs _ ih => exact .cons ⟨hs, h1 s List.mem_cons_self⟩ (ih (fun s hs => h1 s (List.mem_cons_of_mem _ hs)))
theorem F2.imp {α β : Type} {R S : α → β → Prop} {l : List α} {m : List β} (h : F2 R l m) (k : ∀ a b, R a b → S a b) : F2 S l m := by
  induction h with
  | nil => exact .nil
  | cons hs _ ih => exact .cons (k _ _ hs) ih
/-- the lower end of a narrower book tips the wider one; the upper end of a wider one tips the narrower one -/
theorem tip_lo {g' g : List Sale} (h : Narrow g' g) (hg : GoodIn g) {p : Int} (ht : tipT false g' p) : tipT false g p := by
  unfold tipT at *
  have h1 : wsum (gtQ (ctsOf false) p) (rstOf false) g ≤ wsum (gtQ (ctsOf false) p) (rstOf false) g' := by
    have := (h.with hg)
    have k : F2 (fun s s' => (if gtQ (ctsOf false) p s then rstOf false s else 0) ≤ (if gtQ (ctsOf false) p s' then rstOf false s' else 0)) g g' := by
      clear ht
      induction this with
      | nil => exact .nil
      | @cons s' s r' r hs _ ih =>
        refine .cons ?_ (ih (h := by cases h; assumption) (hg := hg.tail))
        obtain ⟨⟨_, _, b1, b2, b3, b4, b5, b6⟩, b0⟩ := hs
        simp only [gtQ, ctsOf, rstOf, Bool.false_eq_true, if_false, decide_eq_true_eq]
        split <;> split <;> omega
    exact wsum2_le k
  have h2 : wsum (leQ (ctsOf false) p) (fstOf false) g' ≤ wsum (leQ (ctsOf false) p) (fstOf false) g := wsum2_le (F2.imp (h.with hg) (by
    rintro s' s ⟨⟨_, _, b1, b2, b3, b4, b5, b6⟩, b0⟩
    simp only [leQ, ctsOf, fstOf, Bool.false_eq_true, if_false, decide_eq_true_eq]
    split <;> split <;> omega))
  omega
theorem tip_hi {g' g : List Sale} (h : Narrow g' g) (hg : GoodIn g) {p : Int} (ht : tipT true g p) : tipT true g' p := by
  unfold tipT at *
  have h1 : wsum (leQ (ctsOf true) p) (fstOf true) g ≤ wsum (leQ (ctsOf true) p) (fstOf true) g' := by
    have := (h.with hg)
    have k : F2 (fun s s' => (if leQ (ctsOf true) p s then fstOf true s else 0) ≤ (if leQ (ctsOf true) p s' then fstOf true s' else 0)) g g' := by
      clear ht
      induction this with
      | nil => exact .nil
      | @cons s' s r' r hs _ ih =>
        refine .cons ?_ (ih (h := by cases h; assumption) (hg := hg.tail))
        obtain ⟨⟨_, _, b1, b2, b3, b4, b5, b6⟩, b0⟩ := hs
        simp only [leQ, ctsOf, fstOf, if_true, decide_eq_true_eq]
        split <;> split <;> omega
    exact wsum2_le k
  have h2 : wsum (gtQ (ctsOf true) p) (rstOf true) g' ≤ wsum (gtQ (ctsOf true) p) (rstOf true) g := wsum2_le (F2.imp (h.with hg) (by
    rintro s' s ⟨⟨_, _, b1, b2, b3, b4, b5, b6⟩, b0⟩
    simp only [gtQ, ctsOf, rstOf, if_true, decide_eq_true_eq]
    split <;> split <;> omega))
  omega
theorem cts_narrow {g' g : List Sale} (h : Narrow g' g) {x : Int} (hx : x ∈ ctsList false g') : ∃ y ∈ ctsList false g, y ≤ x := by
  obtain ⟨s', hs', h0, rfl⟩ := mem_cts.1 hx
  clear hx
  induction h with
  | nil => cases hs'
  | @cons a b r' r hs _ ih =>
    rcases List.mem_cons.1 hs' with rfl | hs'
    · obtain ⟨_, _, b1, b2, b3, b4, b5, b6⟩ := hs
      exact ⟨b.cl, mem_cts.2 ⟨b, List.mem_cons_self, by omega, rfl⟩, by show b.cl ≤ s'.cl; exact b4⟩
    · obtain ⟨y, hy, hyx⟩ := ih hs'
      obtain ⟨z, hz, hz0, rfl⟩ := mem_cts.1 hy
      exact ⟨_, mem_cts.2 ⟨z, List.mem_cons_of_mem _ hz, hz0, rfl⟩, hyx⟩
def loOf (g : List Sale) : Int := leastOf (tipQ false g) (srt (lowsOf g))
def hiOf (g : List Sale) : Int := leastOf (tipQ true g) (srt (highsOf g))
def gramsHi (g : List Sale) : Int := wsum allQ (·.gh) g
def gramsLo (g : List Sale) : Int := wsum allQ (·.gl) g
theorem priceMid_eq {g : List Sale} (h : GoodIn g) : priceMid g = if gramsHi g = 0 then (2, 0, 0) else (if 0 < gramsLo g then 1 else 3, loOf g, hiOf g) := by
  unfold priceMid
  rw [sumHi_eq h, sumLo_eq h]
  rfl
theorem lo_spec {g : List Sale} (h : GoodIn g) (hg : gramsHi g ≠ 0) : loOf g ∈ ctsList false g ∧ tipT false g (loOf g) ∧ ∀ p, (∃ x ∈ ctsList false g, x ≤ p) → tipT false g p → loOf g ≤ p := least_spec h false (cts_ne h false hg)
theorem hi_spec {g : List Sale} (h : GoodIn g) (hg : gramsHi g ≠ 0) : hiOf g ∈ ctsList true g ∧ tipT true g (hiOf g) ∧ ∀ p, (∃ x ∈ ctsList true g, x ≤ p) → tipT true g p → hiOf g ≤ p := least_spec h true (cts_ne h true hg)
theorem grams_le {g' g : List Sale} (h : Narrow g' g) : gramsHi g' ≤ gramsHi g ∧ gramsLo g ≤ gramsLo g' := by
  unfold gramsHi gramsLo
  induction h with
  | nil => exact ⟨Int.le_refl _, Int.le_refl _⟩
  | cons hs _ ih =>
    obtain ⟨_, _, b1, b2, b3, b4, b5, b6⟩ := hs
    simp only [wsum, allQ, if_true] at *
    omega
theorem grams_lohi {g : List Sale} (h : GoodIn g) : 0 ≤ gramsLo g ∧ gramsLo g ≤ gramsHi g := by
  unfold gramsHi gramsLo
  refine ⟨wsum_nonneg (fun s hs _ => h.gl0 s hs), wsum_le (fun s hs => ?_)⟩
  simp only [allQ, if_true]
  exact h.gl1 s hs
/-- a narrower book has a narrower price -/
theorem narrow_lo {g' g : List Sale} (h : Narrow g' g) (hg : GoodIn g) (hn : gramsHi g' ≠ 0) : loOf g ≤ loOf g' := by
  have hg' := h.good hg
  have h0 := grams_lohi hg'
  have h1 := (grams_le h).1
  obtain ⟨a1, a2, a3⟩ := lo_spec hg' hn
  exact (lo_spec hg (by omega)).2.2 _ (cts_narrow h a1) (tip_lo h hg a2)
theorem narrow_hi {g' g : List Sale} (h : Narrow g' g) (hg : GoodIn g) (hn : gramsHi g' ≠ 0) : hiOf g' ≤ hiOf g := by
  have hg' := h.good hg
  have h0 := grams_lohi hg'
  have h1 := (grams_le h).1
  obtain ⟨a1, a2, a3⟩ := hi_spec hg (by omega)
  refine (hi_spec hg' hn).2.2 _ ?_ (tip_hi h hg a2)
  have ht := tip_hi h hg a2
  by_cases hx : ∃ x ∈ ctsList true g', x ≤ hiOf g
  · exact hx
  · exfalso
    apply hn
    have hno : ∀ s ∈ g', 0 < s.gh → hiOf g < s.ch := fun s hs h0 => by
      have hnot : ¬ s.ch ≤ hiOf g := fun hh => hx ⟨s.ch, mem_cts.2 ⟨s, hs, h0, rfl⟩, hh⟩
      omega
    unfold tipT at ht
    have e1 : wsum (leQ (ctsOf true) (hiOf g)) (fstOf true) g' = 0 := wsum_zero (fun s hs hq => by
      by_cases h0 : 0 < s.gh
      · have := hno s hs h0
        simp [leQ, ctsOf] at hq
        omega
      · exact (fst_zero hg' true hs h0).1)
    have e2 : wsum (gtQ (ctsOf true) (hiOf g)) (rstOf true) g' = gramsHi g' := wsum_congr (fun s hs => by
      by_cases h0 : 0 < s.gh
      · have : gtQ (ctsOf true) (hiOf g) s = true := by simp [gtQ, ctsOf]; exact hno s hs h0
        rw [this]
        simp [rstOf, allQ]
      · have := gh0 hg' s hs
        have e : s.gh = 0 := by omega
        simp [rstOf, allQ, e])
    omega
/-- sales that are known exactly -/
def Exact (g : List Sale) : Prop := ∀ s ∈ g, s.gl = s.gh ∧ s.cl = s.ch
theorem exact_tip {g : List Sale} (h : Exact g) (p : Int) : tipT false g p ↔ tipT true g p := by
  unfold tipT
  have e1 : wsum (gtQ (ctsOf false) p) (rstOf false) g = wsum (gtQ (ctsOf true) p) (rstOf true) g := wsum_congr (fun s hs => by
    obtain ⟨a, b⟩ := h s hs
    simp [gtQ, ctsOf, rstOf, a, b])
  have e2 : wsum (leQ (ctsOf false) p) (fstOf false) g = wsum (leQ (ctsOf true) p) (fstOf true) g := wsum_congr (fun s hs => by
    obtain ⟨a, b⟩ := h s hs
    simp [leQ, ctsOf, fstOf, a, b])
  rw [e1, e2]
theorem exact_cts {g : List Sale} (h : Exact g) (x : Int) : x ∈ ctsList false g ↔ x ∈ ctsList true g := by
  rw [mem_cts, mem_cts]
  constructor
  · rintro ⟨s, hs, h0, rfl⟩
    exact ⟨s, hs, h0, (h s hs).2.symm⟩
  · rintro ⟨s, hs, h0, rfl⟩
    exact ⟨s, hs, h0, (h s hs).2⟩
theorem exact_lohi {g : List Sale} (h : GoodIn g) (hx : Exact g) (hn : gramsHi g ≠ 0) : loOf g = hiOf g := by
  obtain ⟨a1, a2, a3⟩ := lo_spec h hn
  obtain ⟨b1, b2, b3⟩ := hi_spec h hn
  have c1 := a3 _ ⟨_, (exact_cts hx _).2 b1, Int.le_refl _⟩ ((exact_tip hx _).2 b2)
  have c2 := b3 _ ⟨_, (exact_cts hx _).1 a1, Int.le_refl _⟩ ((exact_tip hx _).1 a2)
  omega
theorem exact_grams {g : List Sale} (hx : Exact g) : gramsLo g = gramsHi g := wsum_congr (fun s hs => by simp [allQ, (hx s hs).1])
/-- with exact sales: what is sold for the price or less is at least half of all; what is sold for less is less than half -/
theorem wsum_split {g : List Sale} (f : Sale → Int) (c : Sale → Int) (p : Int) : wsum (leQ c p) f g + wsum (gtQ c p) f g = wsum allQ f g := by
  induction g with
  | nil => rfl
  | cons s r ih =>
    simp only [wsum, leQ, gtQ, allQ, if_true, decide_eq_true_eq] at *
    split <;> split <;> omega
theorem exact_half {g : List Sale} (h : GoodIn g) (hx : Exact g) (hn : gramsHi g ≠ 0) : gramsHi g ≤ 2 * wsum (leQ (·.cl) (loOf g)) (·.gl) g ∧ 2 * wsum (leQ (·.cl) (loOf g - 1)) (·.gl) g < gramsHi g := by
  obtain ⟨a1, a2, a3⟩ := lo_spec h hn
  have hf : ∀ p, wsum (leQ (ctsOf false) p) (fstOf false) g = wsum (leQ (·.cl) p) (·.gl) g := fun p => wsum_congr (fun s hs => by simp [leQ, ctsOf, fstOf, (hx s hs).1])
  have hr : ∀ p, wsum (gtQ (ctsOf false) p) (rstOf false) g = wsum (gtQ (·.cl) p) (·.gl) g := fun p => wsum_congr (fun s hs => by simp [gtQ, ctsOf, rstOf])
  have hs := fun p => wsum_split (g := g) (·.gl) (·.cl) p
  have e := exact_grams hx
  unfold gramsLo at e
  refine ⟨?_, ?_⟩
  · unfold tipT at a2
    rw [hf, hr] at a2
    have := hs (loOf g)
    omega
  · by_cases hl : 2 * wsum (leQ (·.cl) (loOf g - 1)) (·.gl) g < gramsHi g
    · exact hl
    · exfalso
      have h0 := grams_lohi h
      have ht : tipT false g (loOf g - 1) := by
        unfold tipT
        rw [hf, hr]
        have := hs (loOf g - 1)
        omega
      by_cases hx' : ∃ x ∈ ctsList false g, x ≤ loOf g - 1
      · have := a3 _ hx' ht
        omega
      · have : wsum (leQ (·.cl) (loOf g - 1)) (·.gl) g = 0 := wsum_zero (fun s hs' hq => by
          simp [leQ] at hq
          by_cases h0 : 0 < s.gh
          · exact absurd ⟨s.cl, mem_cts.2 ⟨s, hs', h0, rfl⟩, by omega⟩ hx'
          · have := h.gl0 s hs'
            have := h.gl1 s hs'
            omega)
        omega
end Go.Proofs.Ytkcdknjgjidnnaa
