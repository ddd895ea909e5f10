/-
  An audit, in plain words.
-/
import Derived.Test.YtjmppionedcfeaaDoorPure
set_option linter.unusedVariables false
set_option linter.unusedSimpArgs false
namespace Go.Proofs.YtjmppionedcfeaaDoor

def setExact (s : Sale) (f : Found) : Sale := ⟨s.st, s.gd, f.gr, f.gr, f.ce, f.ce⟩
def audFrom (n : Nat) : List Found → List Int → List Sale → Int × List Sale
  | [], _, cur => (0, cur)
  | f :: r, met, cur =>
    if !inB f.sa 0 ((n : Int) - 1) then (3, []) else if f.sa ∈ met then (4, [])
    else if !inB f.gr (cur.getD f.sa.toNat default).gl (cur.getD f.sa.toNat default).gh || !inB f.ce (cur.getD f.sa.toNat default).cl (cur.getD f.sa.toNat default).ch then (9, [])
    else audFrom n r (f.sa :: met) (cur.set f.sa.toNat (setExact (cur.getD f.sa.toNat default) f))
def audited (st gd : Int) (l : List Sale) (fs : List Found) : Int × List Sale :=
  if check st gd l ≠ 0 then (check st gd l, []) else if 40 < fs.length then (6, []) else audFrom l.length fs [] l
theorem audFrom_drop {n : Nat} {fs : List Found} {k : Nat} (hk : k < fs.length) (met : List Int) (cur : List Sale) :
    audFrom n (fs.drop k) met cur = if !inB fs[k].sa 0 ((n : Int) - 1) then (3, []) else if fs[k].sa ∈ met then (4, [])
      else if !inB fs[k].gr (cur.getD fs[k].sa.toNat default).gl (cur.getD fs[k].sa.toNat default).gh || !inB fs[k].ce (cur.getD fs[k].sa.toNat default).cl (cur.getD fs[k].sa.toNat default).ch then (9, [])
      else audFrom n (fs.drop (k + 1)) (fs[k].sa :: met) (cur.set fs[k].sa.toNat (setExact (cur.getD fs[k].sa.toNat default) fs[k])) := by
  rw [List.drop_eq_getElem_cons hk]; rfl
end Go.Proofs.YtjmppionedcfeaaDoor
