/-
  An audit with valid finds, in plain words.
-/
import Derived.Test.YtkcdknjgjidnnaaAudLaw
import Derived.Test.YtkcdknjgjidnnaaExact
set_option linter.unusedVariables false
set_option linter.unusedSimpArgs false
namespace Go.Proofs.Ytkcdknjgjidnnaa
open Go.RowKit

def applyF (cur : List Sale) (fs : List Found) : List Sale := fs.foldl (fun c f => c.set f.sa.toNat (setExact (c.getD f.sa.toNat default) f)) cur
/-- finds that may be: each of a sale, none of one twice, each within its sale -/
structure FindsIn (l : List Sale) (fs : List Found) : Prop where
  at_ : ∀ f ∈ fs, ∃ (j : Nat) (h : j < l.length), f.sa = (j : Int) ∧ SoldIn ⟨f.gr, f.ce⟩ l[j]
  nodup : (fs.map (·.sa)).Nodup
theorem applyF_len (cur : List Sale) (fs : List Found) : (applyF cur fs).length = cur.length := by
  unfold applyF
  induction fs generalizing cur with
  | nil => rfl
  | cons f r ih => simp only [List.foldl_cons]; rw [ih]; simp
theorem applyF_at (cur : List Sale) (fs : List Found) (hn : (fs.map (·.sa)).Nodup) (h0 : ∀ f ∈ fs, 0 ≤ f.sa) (i : Nat) (hi : i < cur.length) :
    (∀ f ∈ fs, f.sa = (i : Int) → (applyF cur fs).getD i default = setExact cur[i] f) ∧ ((∀ f ∈ fs, f.sa ≠ (i : Int)) → (applyF cur fs).getD i default = cur[i]) := by
  unfold applyF
  induction fs generalizing cur with
  | nil =>
    refine ⟨by simp, fun _ => ?_⟩
    simp [List.getD_eq_getElem?_getD, hi]
  | cons f r ih =>
    simp only [List.map_cons, List.nodup_cons] at hn
    simp only [List.foldl_cons]
    have hf0 := h0 f List.mem_cons_self
    have hlen : i < (cur.set f.sa.toNat (setExact (cur.getD f.sa.toNat default) f)).length := by simpa using hi
    obtain ⟨h1, h2⟩ := ih (cur.set f.sa.toNat (setExact (cur.getD f.sa.toNat default) f)) hn.2 (fun f hf => h0 f (List.mem_cons_of_mem _ hf)) hlen
    by_cases hfi : f.sa = (i : Int)
    · have hfi' : f.sa.toNat = i := by omega
      have hr : ∀ f' ∈ r, f'.sa ≠ (i : Int) := fun f' hf' e => hn.1 (by rw [hfi, ← e]; exact List.mem_map_of_mem hf')
      have h3 := h2 hr
      refine ⟨fun f' hf' e => ?_, fun h => absurd hfi (h f List.mem_cons_self)⟩
      rcases List.mem_cons.1 hf' with rfl | hf'
      · rw [h3]
        simp [hfi', List.getD_eq_getElem?_getD, hi]
      · exact absurd e (hr f' hf')
    · have hne : f.sa.toNat ≠ i := by omega
      have e : (cur.set f.sa.toNat (setExact (cur.getD f.sa.toNat default) f))[i] = cur[i] := by rw [List.getElem_set_ne hne]
      rw [e] at h1 h2
      refine ⟨fun f' hf' e' => ?_, fun h => h2 (fun f' hf' => h f' (List.mem_cons_of_mem _ hf'))⟩
      rcases List.mem_cons.1 hf' with rfl | hf'
      · exact absurd e' hfi
      · exact h1 f' hf' e'
theorem audFrom_ok (n : Nat) : ∀ (fs : List Found) (met : List Int) (cur : List Sale), cur.length = n → (fs.map (·.sa)).Nodup → (∀ f ∈ fs, f.sa ∉ met) → (∀ f ∈ fs, ∃ (j : Nat) (h : j < cur.length), f.sa = (j : Int) ∧ SoldIn ⟨f.gr, f.ce⟩ cur[j]) → audFrom n fs met cur = (0, applyF cur fs)
  | [], _, _, _, _, _, _ => rfl
  | f :: r, met, cur, hl, hn, hm, ha => by
    simp only [List.map_cons, List.nodup_cons] at hn
    obtain ⟨j, hj, hfj, hs⟩ := ha f List.mem_cons_self
    have h1 : inB f.sa 0 ((n : Int) - 1) = true := inB_iff.2 ⟨by omega, by omega⟩
    have h2 : f.sa ∉ met := hm f List.mem_cons_self
    have ht : f.sa.toNat = j := by omega
    have hg : cur.getD j default = cur[j] := by simp [List.getD_eq_getElem?_getD, hj]
    have h3 : inB f.gr cur[j].gl cur[j].gh = true := inB_iff.2 ⟨hs.g0, hs.g1⟩
    have h4 : inB f.ce cur[j].cl cur[j].ch = true := inB_iff.2 ⟨hs.c0, hs.c1⟩
    unfold audFrom
    rw [h1, if_neg (by decide), if_neg h2, ht, hg, h3, h4, if_neg (by decide)]
    rw [audFrom_ok n r (f.sa :: met) (cur.set j (setExact cur[j] f)) (by simpa using hl) hn.2 (fun f' hf' hmem => by
      rcases List.mem_cons.1 hmem with e | e
      · exact hn.1 (by rw [← e]; exact List.mem_map_of_mem hf')
      · exact hm f' (List.mem_cons_of_mem _ hf') e) (fun f' hf' => by
      obtain ⟨i, hi, hfi, hs'⟩ := ha f' (List.mem_cons_of_mem _ hf')
      have hne : j ≠ i := fun e => hn.1 (by rw [hfj, e, ← hfi]; exact List.mem_map_of_mem hf')
      exact ⟨i, by simpa using hi, hfi, by rw [List.getElem_set_ne hne]; exact hs'⟩)]
    unfold applyF
    simp only [List.foldl_cons, ht, hg]
theorem audited_ok {st gd : Int} {l : List Sale} {fs : List Found} (hb : BookIn st gd l) (hf : FindsIn l fs) (h40 : fs.length ≤ 40) : audited st gd l fs = (0, applyF l fs) := by
  unfold audited
  rw [if_neg (by rw [check_zero.2 hb]; exact fun h => h rfl), if_neg (by omega)]
  exact audFrom_ok _ fs [] l rfl hf.nodup (by simp) hf.at_
theorem F2.of_getD {R : Sale → Sale → Prop} {a b : List Sale} (hl : a.length = b.length) (h : ∀ (i : Nat) (hi : i < b.length), R (a.getD i default) b[i]) : F2 R a b := by
  induction a generalizing b with
  | nil => cases b with
    | nil => exact .nil
    | cons _ _ => simp at hl
  | cons x r ih => cases b with
    | nil => simp at hl
    | cons y q =>
      exact .cons (h 0 (by simp)) (ih (by simpa using hl) (fun i hi => h (i + 1) (by simpa using hi)))
theorem setExact_le {f : Found} {s : Sale} (h : SoldIn ⟨f.gr, f.ce⟩ s) : SaleLe (setExact s f) s := ⟨rfl, rfl, h.g0, Int.le_refl _, h.g1, h.c0, Int.le_refl _, h.c1⟩
theorem applyF_narrow {st gd : Int} {l : List Sale} {fs : List Found} (hb : BookIn st gd l) (hf : FindsIn l fs) : Narrow (applyF l fs) l := by
  refine F2.of_getD (applyF_len l fs) (fun i hi => ?_)
  have hs := hb.sales _ (List.getElem_mem hi)
  obtain ⟨h1, h2⟩ := applyF_at l fs hf.nodup (fun f hf' => by obtain ⟨j, _, e, _⟩ := hf.at_ f hf'; omega) i hi
  by_cases hx : ∃ f ∈ fs, f.sa = (i : Int)
  · obtain ⟨f, hfm, hfi⟩ := hx
    rw [h1 f hfm hfi]
    obtain ⟨j, hj, hfj, hsj⟩ := hf.at_ f hfm
    have : j = i := by omega
    subst this
    exact setExact_le hsj
  · rw [h2 (fun f hfm e => hx ⟨f, hfm, e⟩)]
    exact ⟨rfl, rfl, Int.le_refl _, hs.gl1, Int.le_refl _, Int.le_refl _, hs.cl1, Int.le_refl _⟩
theorem applyF_exact {l : List Sale} {fs : List Found} (hf : FindsIn l fs) (hall : ∀ i : Nat, i < l.length → ∃ f ∈ fs, f.sa = (i : Int)) : Exact (applyF l fs) := by
  intro s hs
  rw [List.mem_iff_getElem] at hs
  obtain ⟨i, hi, rfl⟩ := hs
  have hil : i < l.length := by rw [applyF_len] at hi; exact hi
  obtain ⟨h1, _⟩ := applyF_at l fs hf.nodup (fun f hf' => by obtain ⟨j, _, e, _⟩ := hf.at_ f hf'; omega) i hil
  obtain ⟨f, hfm, hfi⟩ := hall i hil
  have h3 := h1 f hfm hfi
  simp only [List.getD_eq_getElem?_getD, List.getElem?_eq_getElem hi, Option.getD_some] at h3
  rw [h3]
  exact ⟨rfl, rfl⟩

/-! all sales are found -/
def allFinds (t : List Sold) (n : Nat) : List Found := (List.range n).map fun (i : Nat) => (⟨(i : Int), (t.getD i default).gr, (t.getD i default).ce⟩ : Found)
theorem allFinds_succ (t : List Sold) (n : Nat) : allFinds t (n + 1) = allFinds t n ++ [⟨(n : Int), (t.getD n default).gr, (t.getD n default).ce⟩] := by simp [allFinds, List.range_succ]
theorem allFinds_len (t : List Sold) (n : Nat) : (allFinds t n).length = n := by simp [allFinds]
theorem F2.at {l : List Sale} {t : List Sold} (h : F2 SoldIn t l) (i : Nat) (hi : i < l.length) : SoldIn (t.getD i default) l[i] := by
  induction h generalizing i with
  | nil => simp at hi
  | cons hab _ ih => cases i with
    | zero => simpa using hab
    | succ i => simpa using ih i (by simpa using hi)
theorem allFinds_in {l : List Sale} {t : List Sold} (h : F2 SoldIn t l) : FindsIn l (allFinds t l.length) := by
  refine ⟨fun f hf => ?_, ?_⟩
  · simp only [allFinds, List.mem_map, List.mem_range] at hf
    obtain ⟨i, hi, rfl⟩ := hf
    exact ⟨i, hi, rfl, F2.at h i hi⟩
  · simp only [allFinds, List.map_map]
    have : ((fun (x : Found) => x.sa) ∘ fun (i : Nat) => (⟨(i : Int), (t.getD i default).gr, (t.getD i default).ce⟩ : Found)) = fun i : Nat => (i : Int) := rfl
    rw [this]
    exact List.Pairwise.map _ (fun a b hab e => hab (by omega)) List.nodup_range
theorem allFinds_apply {l : List Sale} {t : List Sold} (h : F2 SoldIn t l) : applyF l (allFinds t l.length) = exactS l t := by
  have hlen : t.length = l.length := h.length_eq
  apply List.ext_getElem
  · rw [applyF_len, exactS_len hlen]
  · intro i h1 h2
    have hil : i < l.length := by rw [applyF_len] at h1; exact h1
    obtain ⟨h3, _⟩ := applyF_at l (allFinds t l.length) (allFinds_in h).nodup (fun f hf' => by obtain ⟨j, _, e, _⟩ := (allFinds_in h).at_ f hf'; omega) i hil
    have h4 := h3 ⟨(i : Int), (t.getD i default).gr, (t.getD i default).ce⟩ (by simp only [allFinds, List.mem_map, List.mem_range]; exact ⟨i, hil, rfl⟩) rfl
    simp only [List.getD_eq_getElem?_getD, List.getElem?_eq_getElem h1, Option.getD_some] at h4
    rw [h4, exactS_get hil (by omega) h2]
    have hit : i < t.length := by omega
    simp [setExact, exactOne, hit]
/-- the price of what is known exactly, as the law asks of it -/
theorem half_law {X : List Sale} {st gd : Int} (hb : BookIn st gd X) (hx : Exact X) (good : Int) :
    ((priceMid (ofGood good X)).1 = 2 ∧ gramsHi (ofGood good X) = 0 ∧ priceMid (ofGood good X) = (2, 0, 0)) ∨
    ((priceMid (ofGood good X)).1 = 1 ∧ gramsHi (ofGood good X) ≠ 0 ∧ 0 < gramsHi (ofGood good X) ∧ (priceMid (ofGood good X)).2.1 = (priceMid (ofGood good X)).2.2 ∧
      gramsHi (ofGood good X) ≤ 2 * upTo (ofGood good X) (priceMid (ofGood good X)).2.1 ∧ 2 * upTo (ofGood good X) ((priceMid (ofGood good X)).2.1 - 1) < gramsHi (ofGood good X)) := by
  have hg := hb.good good
  have hxg := hx.good good
  have h0 := grams_lohi hg
  have h1 := exact_grams hxg
  rw [priceMid_eq hg]
  by_cases hn : gramsHi (ofGood good X) = 0
  · rw [if_pos hn]
    exact .inl ⟨rfl, hn, rfl⟩
  · rw [if_neg hn, if_pos (by omega)]
    obtain ⟨a1, a2⟩ := exact_half hg hxg hn
    exact .inr ⟨rfl, hn, by omega, exact_lohi hg hxg hn, a1, a2⟩
end Go.Proofs.Ytkcdknjgjidnnaa
