/-
  What the chapter's examples come to.
-/
import Derived.Test.YtjmppionedcfeaaDoorWriteW
import Derived.Test.YtjmppionedcfeaaDoorPriceLaw
import Derived.Test.YtjmppionedcfeaaDoorTnv
import Derived.Test.YtjmppionedcfeaaDoorAudLaw
import Derived.Test.YtjmppionedcfeaaDoorPickW
import Derived.Test.YtjmppionedcfeaaDoorAwake
set_option linter.unusedVariables false
set_option linter.unusedSimpArgs false
namespace Go.Proofs.YtjmppionedcfeaaDoor
open Go.RowKit

def cellsS (l : List Sale) : Array Value := (l.flatMap encS).toArray
def goodL : List Sale := [⟨0, 0, 1000, 1000, 500, 500⟩, ⟨1, 0, 2000, 3000, 600, 700⟩, ⟨0, 0, 0, 500, 900, 900⟩, ⟨1, 2, 0, 100, 50, 60⟩]
def wrongL : List Sale := [⟨0, 0, 1000, 1000, 500, 500⟩, ⟨1, 0, 2000, 3000, 600, 700⟩, ⟨0, 0, 0, 500, 900, 900⟩, ⟨1, 1, 0, 100, 60, 50⟩]
def wideL : List Sale := [⟨0, 0, 1000, 1000, 500, 500⟩, ⟨1, 0, 500, 3000, 600, 700⟩, ⟨0, 0, 0, 500, 900, 900⟩, ⟨1, 1, 0, 100, 50, 60⟩]
def noneL : List Sale := [⟨0, 0, 0, 0, 20, 20⟩]
def foundL : List Sale := [⟨0, 0, 1000, 1000, 500, 500⟩, ⟨1, 0, 2500, 2500, 650, 650⟩, ⟨0, 0, 0, 500, 900, 900⟩, ⟨1, 1, 0, 100, 50, 60⟩]
theorem good_cells : (cellsS dayL).setIfInBounds 19 (.int .i64 2) = cellsS goodL := rfl
theorem wrong_cells : ((cellsS dayL).setIfInBounds 22 (.int .i64 60)).setIfInBounds 23 (.int .i64 50) = cellsS wrongL := rfl
theorem wide_cells : ((cellsS dayL).setIfInBounds 8 (.int .i64 500)).setIfInBounds 9 (.int .i64 3000) = cellsS wideL := rfl
theorem none_cells : ((cellsS eveL).setIfInBounds 2 (.int .i64 0)).setIfInBounds 3 (.int .i64 0) = cellsS noneL := rfl
theorem chk_day : check 2 2 dayL = 0 := by decide
theorem chk_good : check 2 2 goodL = 3 := by decide
theorem chk_wrong : check 2 2 wrongL = 5 := by decide
theorem price_at {st gd good : Int} {l : List Sale} {o : Int × Int × Int} (he : priceErr st gd good l = 0) (hin : BookIn st gd l) (h : refMid (ofGood good l) = o) : priceErr st gd good l = 0 ∧ priceOut st gd good l = o := by
  refine ⟨he, ?_⟩
  unfold priceOut
  rw [if_pos he, ← refMid_eq (hin.good good), h]
theorem price_wide : priceErr 2 2 0 wideL = 0 ∧ priceOut 2 2 0 wideL = (1, 500, 700) := price_at (by decide) (check_zero.1 (by decide)) (by decide)
theorem price_day1 : priceErr 2 2 1 dayL = 0 ∧ priceOut 2 2 1 dayL = (3, 50, 60) := price_at (by decide) (check_zero.1 (by decide)) (by decide)
theorem price_eve : priceErr 1 1 0 eveL = 0 ∧ priceOut 1 1 0 eveL = (1, 20, 20) := price_at (by decide) (check_zero.1 (by decide)) (by decide)
theorem price_none : priceErr 1 1 0 noneL = 0 ∧ priceOut 1 1 0 noneL = (2, 0, 0) := price_at (by decide) (check_zero.1 (by decide)) (by decide)
theorem price_found : priceErr 2 2 0 foundL = 0 ∧ priceOut 2 2 0 foundL = (1, 650, 650) := price_at (by decide) (check_zero.1 (by decide)) (by decide)
theorem turn_day0 : turnErr 2 2 0 dayL = 0 ∧ turnOut 2 2 0 dayL = ⟨500, 950⟩ := by decide
theorem turn_day1 : turnErr 2 2 1 dayL = 0 ∧ turnOut 2 2 1 dayL = ⟨1200, 2106⟩ := by decide
theorem dues_day : duesErr 2 2 dayL [⟨0, 1000⟩] = 0 ∧ duesOut 2 2 dayL [⟨0, 1000⟩] = [⟨500, 950⟩, ⟨1200, 2106⟩] := by decide
theorem pick_day1 : pickErr 2 2 dayL 11 2 = 0 ∧ pickOut 2 2 dayL 11 2 = [3, 2] := by decide
theorem pick_day2 : pickErr 2 2 dayL 0 3 = 0 ∧ pickOut 2 2 dayL 0 3 = [0, 1, 2] := by decide
theorem aud_day1 : audited 2 2 dayL [⟨1, 2500, 650⟩] = (0, foundL) := by decide
theorem aud_day2 : audited 2 2 dayL [⟨1, 3001, 650⟩] = (9, []) := by decide
theorem itoa_0 : Lib.itoa 0 = [48] := by simp [Lib.itoa, Lib.decDigits]
theorem itoa_1 : Lib.itoa 1 = [49] := by simp [Lib.itoa, Lib.decDigits]
theorem itoa_5 : Lib.itoa 5 = [53] := by simp [Lib.itoa, Lib.decDigits]
theorem itoa_20 : Lib.itoa 20 = [50, 48] := by simp [Lib.itoa, Lib.decDigits]
theorem itoa_4069 : Lib.itoa 4069 = [52, 48, 54, 57] := by simp [Lib.itoa, Lib.decDigits]
theorem text_eve : textOf 1 1 eveL = [100, 97, 121, 32, 49, 32, 49, 10, 115, 97, 108, 101, 32, 48, 32, 48, 32, 53, 32, 53, 32, 50, 48, 32, 50, 48, 10, 101, 110, 100, 32, 49, 32, 52, 48, 54, 57, 10] := by
  have h1 : check 1 1 eveL = 0 := eve_seal.1
  unfold textOf
  rw [if_pos h1]
  unfold writeT
  rw [eve_seal.2]
  simp [dayT, salesT, saleT, endT, rowT, numsT, eveL, nums, itoa_0, itoa_1, itoa_5, itoa_20, itoa_4069]
end Go.Proofs.YtjmppionedcfeaaDoor
