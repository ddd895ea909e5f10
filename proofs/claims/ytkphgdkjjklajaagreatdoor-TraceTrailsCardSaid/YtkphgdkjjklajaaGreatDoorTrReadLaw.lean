/-
  Trails that are read: plain laws.
-/
import Derived.Test.YtkphgdkjjklajaaGreatDoorStrs
import Derived.Test.YtkphgdkjjklajaaGreatDoorTrText
set_option linter.unusedVariables false
set_option linter.unusedSimpArgs false
namespace Go.Proofs.YtkphgdkjjklajaaGreatDoor

/-- what is read so far -/
structure NS where
  bs : List Int
  ms : List Mv
  en : Bool
def NS.init : NS := ⟨[], [], false⟩
def wBat : List UInt8 := [98, 97, 116, 99, 104]
def wMov : List UInt8 := [109, 111, 118, 101]
def wFin : List UInt8 := [101, 110, 100]
def okW7 (y : List UInt8) : Bool := (numT 7 y).isSome
def valW7 (y : List UInt8) : Int := ((numT 7 y).getD 0 : Nat)
def atN (l : List Int) (k : Nat) : Int := l.getD k 0
/-- a row more, if it may stand there -/
def stepNW (s : NS) (wd : List UInt8) (l : List Int) : Option NS :=
  if wd = wBat ∧ l.length = 1 ∧ s.ms.length = 0 then some { s with bs := s.bs ++ [atN l 0] }
  else if wd = wMov ∧ l.length = 3 then some { s with ms := s.ms ++ [⟨atN l 0, atN l 1, atN l 2⟩] }
  else if wd = wFin ∧ l.length = 1 ∧ atN l 0 = s.ms.length then some { s with en := true }
  else none
def stepN (s : NS) (row : List UInt8) : Option NS := match splitT 32 row with
  | [] => none
  | w :: ws => if s.en then none else if ws.all okW7 then stepNW s w (ws.map valW7) else none
/-- all rows: what is read, or at which row it ends -/
def runN : Nat → NS → List (List UInt8) → NS ⊕ Nat
  | _, s, [] => .inl s
  | i, s, r :: rs => match stepN s r with
    | none => .inr i
    | some s' => runN (i + 1) s' rs
theorem runN_step {i : Nat} {s s' : NS} {rows : List (List UInt8)} (hi : i < rows.length) (h : stepN s rows[i] = some s') : runN i s (rows.drop i) = runN (i + 1) s' (rows.drop (i + 1)) := by
  rw [List.drop_eq_getElem_cons hi, runN, h]
theorem runN_stop {i : Nat} {s : NS} {rows : List (List UInt8)} (hi : i < rows.length) (h : stepN s rows[i] = none) : runN i s (rows.drop i) = .inr i := by
  rw [List.drop_eq_getElem_cons hi, runN, h]
structure NO where
  bs : List Int
  ms : List Mv
  row : Int
  er : Int
def NO.no (row er : Int) : NO := ⟨[], [], row, er⟩
/-- what is read of a trail -/
def readN (x : List UInt8) : NO :=
  if 1500 < x.length then .no 0 10
  else match runN 0 .init ((splitT 10 x).take ((splitT 10 x).length - 1)) with
    | .inr i => .no (i + 1) 2
    | .inl s =>
      if s.en = false ∨ (splitT 10 x).getD ((splitT 10 x).length - 1) [] ≠ [] then .no ((splitT 10 x).length : Int) 2
      else if chkNet s.bs s.ms ≠ 0 then .no 0 (chkNet s.bs s.ms)
      else ⟨s.bs, s.ms, 0, 0⟩
theorem readN_err {x : List UInt8} {k : Nat} (h : x.length ≤ 1500) (hr : runN 0 .init ((splitT 10 x).take ((splitT 10 x).length - 1)) = .inr k) : readN x = .no ((k : Int) + 1) 2 := by
  unfold readN
  rw [if_neg (by omega), hr]
theorem readN_open {x : List UInt8} {s : NS} (h : x.length ≤ 1500) (hr : runN 0 .init ((splitT 10 x).take ((splitT 10 x).length - 1)) = .inl s) (he : s.en = false ∨ (splitT 10 x).getD ((splitT 10 x).length - 1) [] ≠ []) : readN x = .no ((splitT 10 x).length : Int) 2 := by
  unfold readN
  rw [if_neg (by omega), hr]
  simp only [if_pos he]
theorem readN_bad {x : List UInt8} {s : NS} (h : x.length ≤ 1500) (hr : runN 0 .init ((splitT 10 x).take ((splitT 10 x).length - 1)) = .inl s) (he : ¬ (s.en = false ∨ (splitT 10 x).getD ((splitT 10 x).length - 1) [] ≠ [])) (hc : chkNet s.bs s.ms ≠ 0) : readN x = .no 0 (chkNet s.bs s.ms) := by
  unfold readN
  rw [if_neg (by omega), hr]
  simp only [if_neg he, if_pos hc]
theorem readN_ok {x : List UInt8} {s : NS} (h : x.length ≤ 1500) (hr : runN 0 .init ((splitT 10 x).take ((splitT 10 x).length - 1)) = .inl s) (he : ¬ (s.en = false ∨ (splitT 10 x).getD ((splitT 10 x).length - 1) [] ≠ [])) (hc : chkNet s.bs s.ms = 0) : readN x = ⟨s.bs, s.ms, 0, 0⟩ := by
  unfold readN
  rw [if_neg (by omega), hr]
  simp only [if_neg he, hc, ne_eq, not_true_eq_false, if_false]
end Go.Proofs.YtkphgdkjjklajaaGreatDoor
