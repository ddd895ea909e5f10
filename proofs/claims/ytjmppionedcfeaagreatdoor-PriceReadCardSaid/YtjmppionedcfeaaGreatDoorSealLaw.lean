/-
  The seal in plain words: another number, another seal.
-/
import Derived.Test.YtjmppionedcfeaaGreatDoorPure
set_option linter.unusedVariables false
set_option linter.unusedSimpArgs false
namespace Go.Proofs.YtjmppionedcfeaaGreatDoor

theorem press_eq (a b : Int) (l : List Int) : press a l % 9973 = press b l % 9973 ↔ a % 9973 = b % 9973 := by
  induction l generalizing a b with
  | nil => exact Iff.rfl
  | cons x r ih =>
    show press ((a * 31 + x) % 9973) r % 9973 = press ((b * 31 + x) % 9973) r % 9973 ↔ _
    rw [ih]
    constructor <;> intro h <;> omega
theorem press_mod {s : Int} (h0 : 0 ≤ s) (h1 : s ≤ 9972) (l : List Int) : press s l % 9973 = press s l := by
  obtain ⟨h2, h3⟩ := press_bd h0 h1 l
  exact Int.emod_eq_of_lt h2 (by omega)
theorem press_other {s : Int} (h0 : 0 ≤ s) (h1 : s ≤ 9972) (l r : List Int) (x y : Int) : press s (l ++ x :: r) = press s (l ++ y :: r) ↔ (y - x) % 9973 = 0 := by
  rw [← press_mod h0 h1 (l ++ x :: r), ← press_mod h0 h1 (l ++ y :: r), press_append, press_append]
  show press ((press s l * 31 + x) % 9973) r % 9973 = press ((press s l * 31 + y) % 9973) r % 9973 ↔ _
  rw [press_eq]
  constructor <;> intro h <;> omega

/-- a sale of which one number is another one -/
def setNum (s : Sale) (j : Nat) (v : Int) : Sale := match j with
  | 0 => { s with gl := v }
  | 1 => { s with gh := v }
  | 2 => { s with cl := v }
  | _ => { s with ch := v }
def getNum (s : Sale) (j : Nat) : Int := match j with
  | 0 => s.gl
  | 1 => s.gh
  | 2 => s.cl
  | _ => s.ch
theorem nums_set (s : Sale) (j : Nat) (v : Int) : ∃ a b, nums s = a ++ getNum s j :: b ∧ nums (setNum s j v) = a ++ v :: b := by
  match j with
  | 0 => exact ⟨[s.st, s.gd], [s.gh, s.cl, s.ch], rfl, rfl⟩
  | 1 => exact ⟨[s.st, s.gd, s.gl], [s.cl, s.ch], rfl, rfl⟩
  | 2 => exact ⟨[s.st, s.gd, s.gl, s.gh], [s.ch], rfl, rfl⟩
  | (n + 3) => exact ⟨[s.st, s.gd, s.gl, s.gh, s.cl], [], rfl, rfl⟩
theorem seal_other (st gd : Int) (l : List Sale) (k : Nat) (hk : k < l.length) (j : Nat) (v : Int) :
    sealOf st gd l = sealOf st gd (l.set k (setNum l[k] j v)) ↔ (v - getNum l[k] j) % 9973 = 0 := by
  obtain ⟨a, b, h1, h2⟩ := nums_set l[k] j v
  have e1 : l = l.take k ++ l[k] :: l.drop (k + 1) := by rw [← List.drop_eq_getElem_cons hk, List.take_append_drop]
  have e2 : l.set k (setNum l[k] j v) = l.take k ++ setNum l[k] j v :: l.drop (k + 1) := by rw [List.set_eq_take_append_cons_drop, if_pos hk]
  have e3 : [st, gd] ++ l.flatMap nums = ([st, gd] ++ ((l.take k).flatMap nums ++ a)) ++ getNum l[k] j :: (b ++ (l.drop (k + 1)).flatMap nums) := by
    conv => lhs; rw [e1]
    rw [List.flatMap_append, List.flatMap_cons, h1]
    simp
  have e4 : [st, gd] ++ (l.set k (setNum l[k] j v)).flatMap nums = ([st, gd] ++ ((l.take k).flatMap nums ++ a)) ++ v :: (b ++ (l.drop (k + 1)).flatMap nums) := by
    rw [e2, List.flatMap_append, List.flatMap_cons, h2]
    simp
  unfold sealOf
  rw [e3, e4]
  exact press_other (by omega) (by omega) _ _ _ _

theorem chkSpan_or {lo hi most : Int} (h0 : 0 ≤ lo) (h1 : lo ≤ most) (h2 : 0 ≤ hi) (h3 : hi ≤ most) : chkSpan lo hi most = 0 ∨ chkSpan lo hi most = 5 := by
  have e1 : inB lo 0 most = true := inB_iff.2 ⟨h0, h1⟩
  have e2 : inB hi 0 most = true := inB_iff.2 ⟨h2, h3⟩
  unfold chkSpan
  simp only [e1, e2, Bool.not_true, Bool.or_self, Bool.false_eq_true, if_false]
  split
  · exact .inr rfl
  · exact .inl rfl
/-- a sale whose numbers are within bounds, but for their order -/
structure SaleBd (st gd : Int) (s : Sale) : Prop where
  st0 : 0 ≤ s.st
  st1 : s.st < st
  gd0 : 0 ≤ s.gd
  gd1 : s.gd < gd
  gl0 : 0 ≤ s.gl
  gl1 : s.gl ≤ 100000
  gh0 : 0 ≤ s.gh
  gh1 : s.gh ≤ 100000
  cl0 : 0 ≤ s.cl
  cl1 : s.cl ≤ 100000
  ch0 : 0 ≤ s.ch
  ch1 : s.ch ≤ 100000
theorem SaleOk.bd {st gd : Int} {s : Sale} (h : SaleOk st gd s) : SaleBd st gd s := by
  obtain ⟨a, b, c, d, e, f, g, i, j, k⟩ := h
  exact ⟨a, b, c, d, e, by omega, by omega, by omega, i, by omega, by omega, by omega⟩
theorem SaleOk.in {st gd : Int} {s : Sale} (h : SaleOk st gd s) : SaleIn st gd s := by
  obtain ⟨a, b, c, d, e, f, g, i, j, k⟩ := h
  exact ⟨a, b, c, d, e, f, by omega, i, j, by omega⟩
theorem SaleBd.set {st gd : Int} {s : Sale} (h : SaleBd st gd s) (j : Nat) {v : Int} (h0 : 0 ≤ v) (h1 : v ≤ 100000) : SaleBd st gd (setNum s j v) := by
  obtain ⟨a1, a2, a3, a4, a5, a6, a7, a8, a9, b1, b2, b3⟩ := h
  match j with
  | 0 => exact ⟨a1, a2, a3, a4, h0, h1, a7, a8, a9, b1, b2, b3⟩
  | 1 => exact ⟨a1, a2, a3, a4, a5, a6, h0, h1, a9, b1, b2, b3⟩
  | 2 => exact ⟨a1, a2, a3, a4, a5, a6, a7, a8, h0, h1, b2, b3⟩
  | (n + 3) => exact ⟨a1, a2, a3, a4, a5, a6, a7, a8, a9, b1, h0, h1⟩
theorem chkSale_or {st gd : Int} {s : Sale} (h : SaleBd st gd s) : chkSale st gd s = 0 ∨ chkSale st gd s = 5 := by
  obtain ⟨a1, a2, a3, a4, a5, a6, a7, a8, a9, b1, b2, b3⟩ := h
  have e1 : inB s.st 0 (st - 1) = true := inB_iff.2 ⟨a1, by omega⟩
  have e2 : inB s.gd 0 (gd - 1) = true := inB_iff.2 ⟨a3, by omega⟩
  unfold chkSale
  simp only [e1, e2, Bool.not_true, Bool.or_self, Bool.false_eq_true, if_false]
  rcases chkSpan_or a5 a6 a7 a8 with h | h
  · rw [h]
    simp only [bne_self_eq_false, Bool.false_eq_true, if_false]
    exact chkSpan_or a9 b1 b2 b3
  · rw [h]
    exact .inr rfl
theorem chkSales_or {st gd : Int} {l : List Sale} (h : ∀ s ∈ l, SaleBd st gd s) : chkSales st gd l = 0 ∨ chkSales st gd l = 5 := by
  induction l with
  | nil => exact .inl rfl
  | cons s r ih =>
    unfold chkSales
    rcases chkSale_or (h s List.mem_cons_self) with e | e
    · rw [e]
      simp only [bne_self_eq_false, Bool.false_eq_true, if_false]
      exact ih (fun s hs => h s (List.mem_cons_of_mem _ hs))
    · rw [e]
      exact .inr rfl
theorem check_or {st gd : Int} {l : List Sale} (h1 : 1 ≤ st) (h2 : st ≤ 8) (h3 : 1 ≤ gd) (h4 : gd ≤ 8) (h5 : l.length ≤ 40) (h : ∀ s ∈ l, SaleBd st gd s) : check st gd l = 0 ∨ check st gd l = 5 := by
  unfold check
  have e1 : inB st 1 8 = true := inB_iff.2 ⟨h1, h2⟩
  have e2 : inB gd 1 8 = true := inB_iff.2 ⟨h3, h4⟩
  simp only [e1, e2, Bool.not_true, Bool.or_self, Bool.false_eq_true, if_false]
  rw [if_neg (by omega)]
  exact chkSales_or h
theorem check_ok {st gd : Int} {l : List Sale} (h1 : 1 ≤ st) (h2 : st ≤ 8) (h3 : 1 ≤ gd) (h4 : gd ≤ 8) (h5 : l.length ≤ 40) (h : ∀ s ∈ l, SaleOk st gd s) : BookIn st gd l :=
  ⟨h1, h2, h3, h4, h5, fun s hs => (h s hs).in⟩
theorem mem_set_cases {α : Type} {l : List α} {k : Nat} {x y : α} (h : y ∈ l.set k x) : y = x ∨ y ∈ l := by
  rcases List.mem_or_eq_of_mem_set h with h | h
  · exact .inr h
  · exact .inl h
/-- what the law asks of the two seals -/
theorem sealed_law {st gd : Int} {l : List Sale} (h1 : 1 ≤ st) (h2 : st ≤ 8) (h3 : 1 ≤ gd) (h4 : gd ≤ 8) (h5 : l.length ≤ 40) (h : ∀ s ∈ l, SaleOk st gd s) (k : Nat) (hk : k < l.length) (j : Nat) {v : Int} (v0 : 0 ≤ v) (v1 : v ≤ 100000) :
    check st gd l = 0 ∧ (check st gd (l.set k (setNum l[k] j v)) = 0 ∨ check st gd (l.set k (setNum l[k] j v)) = 5) :=
  ⟨check_zero.2 (check_ok h1 h2 h3 h4 h5 h), check_or h1 h2 h3 h4 (by simpa using h5) (fun s hs => by
    rcases mem_set_cases hs with rfl | hs
    · exact (h _ (List.getElem_mem _)).bd.set j v0 v1
    · exact (h s hs).bd)⟩
end Go.Proofs.YtjmppionedcfeaaGreatDoor
