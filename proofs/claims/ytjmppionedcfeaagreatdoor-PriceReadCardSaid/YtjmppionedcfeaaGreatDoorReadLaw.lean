/-
  Accounts that are read: plain laws.
-/
import Derived.Test.YtjmppionedcfeaaGreatDoorParse
import Derived.Test.YtjmppionedcfeaaGreatDoorPure
set_option linter.unusedVariables false
set_option linter.unusedSimpArgs false
namespace Go.Proofs.YtjmppionedcfeaaGreatDoor

/-- what is read so far -/
structure RS where
  st : Int
  gd : Int
  l : List Sale
  en : Bool
  se : Int
def RS.init : RS := ⟨0, 0, [], false, 0⟩
def wDay : List UInt8 := [100, 97, 121]
def wSale : List UInt8 := [115, 97, 108, 101]
def wEnd : List UInt8 := [101, 110, 100]
def at0 (l : List Int) (k : Nat) : Int := l.getD k 0
def saleOfL (l : List Int) : Sale := ⟨at0 l 0, at0 l 1, at0 l 2, at0 l 3, at0 l 4, at0 l 5⟩
/-- a row more, if it may stand there -/
def stepW (i : Nat) (s : RS) (wd : List UInt8) (l : List Int) : Option RS :=
  if s.en then none
  else if i = 0 then (if wd = wDay ∧ l.length = 2 then some { s with st := at0 l 0, gd := at0 l 1 } else none)
  else if wd = wDay then none
  else if wd = wSale ∧ l.length = 6 then some { s with l := s.l ++ [saleOfL l] }
  else if wd = wEnd ∧ l.length = 2 ∧ at0 l 0 = s.l.length then some { s with en := true, se := at0 l 1 }
  else none
def stepR (i : Nat) (s : RS) (row : List UInt8) : Option RS := match parseT row with
  | none => none
  | some (wd, l) => stepW i s wd l
/-- all rows: what is read, or at which row it ends -/
def runR : Nat → RS → List (List UInt8) → RS ⊕ Nat
  | _, s, [] => .inl s
  | i, s, r :: rs => match stepR i s r with
    | none => .inr i
    | some s' => runR (i + 1) s' rs
theorem runR_step {i : Nat} {s s' : RS} {rows : List (List UInt8)} (hi : i < rows.length) (h : stepR i s rows[i] = some s') : runR i s (rows.drop i) = runR (i + 1) s' (rows.drop (i + 1)) := by
  rw [List.drop_eq_getElem_cons hi, runR, h]
theorem runR_stop {i : Nat} {s : RS} {rows : List (List UInt8)} (hi : i < rows.length) (h : stepR i s rows[i] = none) : runR i s (rows.drop i) = .inr i := by
  rw [List.drop_eq_getElem_cons hi, runR, h]
structure RO where
  st : Int
  gd : Int
  l : List Sale
  row : Int
  er : Int
def RO.no (row er : Int) : RO := ⟨0, 0, [], row, er⟩
/-- what is read of a text -/
def readT (x : List UInt8) : RO :=
  if 3000 < x.length then .no 0 10
  else match runR 0 .init ((splitT 10 x).take ((splitT 10 x).length - 1)) with
    | .inr i => .no (i + 1) 2
    | .inl s =>
      if s.en = false ∨ (splitT 10 x).getD ((splitT 10 x).length - 1) [] ≠ [] then .no ((splitT 10 x).length : Int) 2
      else if check s.st s.gd s.l ≠ 0 then .no 0 (check s.st s.gd s.l)
      else if sealOf s.st s.gd s.l ≠ s.se then .no 0 14
      else ⟨s.st, s.gd, s.l, 0, 0⟩
theorem readT_err {x : List UInt8} {k : Nat} (h : x.length ≤ 3000) (hr : runR 0 .init ((splitT 10 x).take ((splitT 10 x).length - 1)) = .inr k) : readT x = .no ((k : Int) + 1) 2 := by
  unfold readT
  rw [if_neg (by omega), hr]
theorem readT_open {x : List UInt8} {s : RS} (h : x.length ≤ 3000) (hr : runR 0 .init ((splitT 10 x).take ((splitT 10 x).length - 1)) = .inl s) (he : s.en = false ∨ (splitT 10 x).getD ((splitT 10 x).length - 1) [] ≠ []) : readT x = .no ((splitT 10 x).length : Int) 2 := by
  unfold readT
  rw [if_neg (by omega), hr]
  simp only [if_pos he]
theorem readT_bad {x : List UInt8} {s : RS} (h : x.length ≤ 3000) (hr : runR 0 .init ((splitT 10 x).take ((splitT 10 x).length - 1)) = .inl s) (he : ¬ (s.en = false ∨ (splitT 10 x).getD ((splitT 10 x).length - 1) [] ≠ [])) (hc : check s.st s.gd s.l ≠ 0) : readT x = .no 0 (check s.st s.gd s.l) := by
  unfold readT
  rw [if_neg (by omega), hr]
  simp only [if_neg he, if_pos hc]
theorem readT_seal {x : List UInt8} {s : RS} (h : x.length ≤ 3000) (hr : runR 0 .init ((splitT 10 x).take ((splitT 10 x).length - 1)) = .inl s) (he : ¬ (s.en = false ∨ (splitT 10 x).getD ((splitT 10 x).length - 1) [] ≠ [])) (hc : check s.st s.gd s.l = 0) (hs : sealOf s.st s.gd s.l ≠ s.se) : readT x = .no 0 14 := by
  unfold readT
  rw [if_neg (by omega), hr]
  simp only [if_neg he, hc, ne_eq, not_true_eq_false, if_false, if_pos hs]
theorem readT_ok {x : List UInt8} {s : RS} (h : x.length ≤ 3000) (hr : runR 0 .init ((splitT 10 x).take ((splitT 10 x).length - 1)) = .inl s) (he : ¬ (s.en = false ∨ (splitT 10 x).getD ((splitT 10 x).length - 1) [] ≠ [])) (hc : check s.st s.gd s.l = 0) (hs : sealOf s.st s.gd s.l = s.se) : readT x = ⟨s.st, s.gd, s.l, 0, 0⟩ := by
  unfold readT
  rw [if_neg (by omega), hr]
  simp only [if_neg he, hc, hs, ne_eq, not_true_eq_false, if_false]
end Go.Proofs.YtjmppionedcfeaaGreatDoor
