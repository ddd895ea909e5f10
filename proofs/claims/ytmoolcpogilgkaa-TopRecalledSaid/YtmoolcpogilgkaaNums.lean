/-
  A slice of numbers that comes in, as the words of memory of this claim read it; how a law that takes only such a slice is lifted to its row.
-/
import Derived.Test.YtmoolcpogilgkaaBase
import Derived.ProofKit
import Derived.OpenShut
import Derived.ChangeOld
import Derived.Below
set_option linter.unusedVariables false
set_option linter.unusedSimpArgs false
namespace Go.Proofs.Ytmoolcpogilgkaa
open Go.ChangeShapes Go.WideShapes Go.ChangeAt Go.RowKit

theorem own : ownKnob Try.prog.godebug = none := by kernel_rfl
theorem laidOut : laidOutB Try.prog = true := by kernel_rfl

/-- numbers that came in: a list of them, each an int -/
def Nums (w : World) (A : Option Addr) (n : Nat) : Prop := ∃ (b : Nat) (l : List Int), Sl encI 1 w b A n l ∧ (∀ x ∈ l, (Lit.int .i64 x).wf = true) ∧ n ≤ 9223372036854775807
theorem Nums.nil (w : World) : Nums w none 0 := ⟨0, [], Sl.nil _ _ _, by simp, by omega⟩
theorem Nums.of_cells {w : World} {x : Addr} {len cap : Nat} {zs : List Int} (hl : len ≤ cap) (hm : cap ≤ maxLen) (hz : zs.length = cap)
    (hc : ∀ i, i < zs.length → w.cell? (x.add i) = some (.int .i64 (zs.getD i 0))) (hw : ∀ n ∈ zs, (Lit.int .i64 n).wf = true) : Nums w (some x) len := by
  unfold maxLen at hm
  by_cases h0 : 0 < zs.length
  · obtain ⟨b, off, rfl, hc'⟩ := ints_at hc h0
    clear hc
    refine ⟨b, zs.take len, ⟨by simp; omega, fun hn => ⟨off, rfl, ?_, fun k hk j u hu => ?_⟩⟩, fun x hx => hw x (List.mem_of_mem_take hx), by omega⟩
    · have := block_lt_of_cell (hc' 0 h0)
      simpa using this
    · have hk2 : k < len ∧ k < zs.length := by simp at hk; omega
      cases j with
      | zero =>
        simp only [encI, List.getElem?_cons_zero, Option.some.injEq] at hu
        subst hu
        have := hc' k hk2.2
        rw [Nat.mul_one, Nat.add_zero, this, List.getD_eq_getElem?_getD, List.getElem?_eq_getElem hk2.2]
        simp
      | succ j => simp [encI] at hu
  · have : len = 0 := by omega
    subst this
    exact ⟨0, [], Sl.nil _ _ _, by simp, by omega⟩
end Go.Proofs.Ytmoolcpogilgkaa
