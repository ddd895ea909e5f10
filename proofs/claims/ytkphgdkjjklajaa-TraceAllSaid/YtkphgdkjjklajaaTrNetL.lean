/-
  Nets made of numbers: rows that are written in place; what a further move makes of what batches have.
-/
import Derived.Test.YtkphgdkjjklajaaTrOth
set_option linter.unusedVariables false
set_option linter.unusedSimpArgs false
namespace Go.Proofs.Ytkphgdkjjklajaa
open Go.RowKit Go.Shelf Go.Sort

/-- a row of numbers, with room behind it -/
def RowC (W : World) (g : Nat) (l : List Int) : Prop := ∃ cs : Array Value, Blk W g 3 cs ∧ l.length ≤ cs.size ∧ cs.toList.take l.length = l.map (Value.int .i64)
theorem RowC.lt {W : World} {g : Nat} {l : List Int} (h : RowC W g l) : g < W.heap.size := by obtain ⟨cs, h, _⟩ := h; exact h.lt
theorem RowC.grown {W W' : World} {g : Nat} {l : List Int} {row : Option Nat} (h : RowC W g l) (hg : W.grownBy W' row) (hne : some g ≠ row) : RowC W' g l := by obtain ⟨cs, h, h2⟩ := h; exact ⟨cs, h.grown hg hne, h2⟩
theorem RowC.keep {W W' : World} {g : Nat} {l : List Int} (h : RowC W g l) (hb : W'.heap[g]? = W.heap[g]?) : RowC W' g l := by obtain ⟨cs, h, h2⟩ := h; exact ⟨cs, hb.trans h, h2⟩
theorem RowC.cell {W : World} {g : Nat} {l : List Int} (h : RowC W g l) {k : Nat} (hk : k < l.length) : W.cell? ⟨g, k, none⟩ = some (.int .i64 l[k]) := by
  obtain ⟨cs, h, h2, h3⟩ := h
  rw [h.cell]
  have h4 := congrArg (fun x : List Value => x[k]?) h3
  simp only [List.getElem?_take, if_pos hk, List.getElem?_map, List.getElem?_eq_getElem hk, Option.map_some] at h4
  rw [← h4]
  simp
theorem RowC.frozen {W : World} {g : Nat} {l : List Int} (h : RowC W g l) (k : Nat) : W.frozen? ⟨g, k, none⟩ = false := by obtain ⟨cs, h, _⟩ := h; exact h.frozen k
theorem RowC.set_ {W : World} {g : Nat} {l : List Int} (h : RowC W g l) {k : Nat} (hk : k < l.length) (x : Int) : RowC (W.setCell ⟨g, k, none⟩ (.int .i64 x)) g (l.set k x) := by
  obtain ⟨cs, h, h2, h3⟩ := h
  refine ⟨_, h.set_ k (.int .i64 x), by simpa using h2, ?_⟩
  rw [List.length_set, Array.toList_setIfInBounds, List.take_set, h3, List.map_set]
theorem RowC.far {W : World} {g : Nat} {l : List Int} (h : RowC W g l) {p : Addr} (hp : g ≠ p.block) (u : Value) : RowC (W.setCell p u) g l := by
  obtain ⟨cs, h, h2⟩ := h
  exact ⟨cs, h.far hp u, h2⟩
theorem RowC.of_own {W : World} {base n c : Nat} {A : Option Addr} {l : List Int} (h : W.ownsRow base 3 1 (.slice A n c) n (l.flatMap encI)) (hn : n = l.length) (h0 : 0 < n) : ∃ g, A = some ⟨g, 0, none⟩ ∧ base ≤ g ∧ RowC W g l := by
  rcases h.2 with ⟨_, hz⟩ | ⟨g, cap, cur, hv, hb, hg, h1, h2, h3, h4⟩
  · omega
  · injection hv with hv _ _
    refine ⟨g, hv, hb, cur, hg, by omega, ?_⟩
    rw [← hn, ← flatI]
    simpa using h4

theorem chkMs_zero {n : Nat} : ∀ {a : Int → Int} {l : List Mv}, OkMs n a l → (∀ b, 0 ≤ a b) → sm (rg n) a ≤ 8000000 → chkMs n a l = 0
  | _, [], _, _, _ => rfl
  | a, m :: l, h, h0, hs => by
    obtain ⟨hm, hl⟩ := h
    have h1 : a m.fr ≤ sm (rg n) a := sm_ge_one (fun x _ => h0 x) (mem_rg.2 ⟨hm.f0, hm.f1⟩)
    have h2 := hm.g1
    have h3 := hm.g0
    simp only [chkMs]
    rw [if_neg (by rw [inR_iff, inR_iff]; exact not_not_intro ⟨⟨hm.f0, hm.f1⟩, hm.t0, hm.t1⟩), if_neg hm.ne, if_neg (not_not_intro ⟨by omega, by omega⟩), if_neg (by omega)]
    exact chkMs_zero hl (mvd_nonneg hm h0) (by rw [sm_mvd hm]; exact hs)
theorem chkNet_zero {bs : List Int} {ms : List Mv} (h : NetIn bs ms) : chkNet bs ms = 0 := by
  have h1 := h.n0
  have h2 := h.n1
  have h3 := h.m1
  unfold chkNet
  rw [if_neg (by omega), if_neg (by omega), if_neg (not_not_intro h.gr), if_neg (by omega)]
  exact chkMs_zero h.ms h.pos h.sum

theorem has_len (n : Nat) (a : Int → Int) : ((rg n).map a).length = n := by rw [List.length_map, rg_length]
theorem has_get {n : Nat} {a : Int → Int} {k : Nat} (hk : k < n) : ((rg n).map a)[k]'(by rw [has_len]; exact hk) = a k := by simp [rg]
theorem has_start (bs : List Int) : (rg bs.length).map (bsF bs) = bs := by
  refine List.ext_getElem (by rw [has_len]) fun k h1 h2 => ?_
  rw [has_get h2, bsF_get h2]
theorem has_move {n : Nat} {a : Int → Int} {f t : Nat} (hf : f < n) (ht : t < n) (hne : f ≠ t) (g : Int) :
    (((rg n).map a).set f (a f - g)).set t (a t + g) = (rg n).map (mvd a ⟨f, t, g⟩) := by
  refine List.ext_getElem (by simp) fun k h1 h2 => ?_
  rw [has_len] at h2
  rw [has_get h2, List.getElem_set]
  show _ = a (k : Int) - (if (k : Int) = (f : Int) then g else 0) + (if (k : Int) = (t : Int) then g else 0)
  by_cases hkt : t = k
  · subst hkt
    rw [if_pos rfl, if_neg (show ¬ ((t : Int) = (f : Int)) by omega), if_pos rfl]
    omega
  · rw [if_neg hkt, List.getElem_set]
    by_cases hkf : f = k
    · subst hkf
      rw [if_pos rfl, if_pos rfl, if_neg (show ¬ ((f : Int) = (t : Int)) by omega)]
      omega
    · rw [if_neg hkf, has_get h2, if_neg (show ¬ ((k : Int) = (f : Int)) by omega), if_neg (show ¬ ((k : Int) = (t : Int)) by omega)]
      omega
theorem okMs_snoc {n : Nat} {a : Int → Int} {ms : List Mv} {m : Mv} (h : OkMs n a ms) (hm : OkM n (hasAt a ms) m) : OkMs n a (ms ++ [m]) := OkMs.append.2 ⟨h, hm, trivial⟩
end Go.Proofs.Ytkphgdkjjklajaa
