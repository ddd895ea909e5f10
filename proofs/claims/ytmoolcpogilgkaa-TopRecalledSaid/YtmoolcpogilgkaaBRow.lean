/-
  Rows of truths, as they lie and as they are written in place.
-/
import Derived.Test.YtmoolcpogilgkaaTrNetL
set_option linter.unusedVariables false
set_option linter.unusedSimpArgs false
namespace Go.Proofs.Ytmoolcpogilgkaa
open Go.RowKit Go.Shelf Go.Sort

theorem rg_atB {N k : Nat} (h : k < N) : (rg N)[k]'(by rw [rg_length]; exact h) = (k : Int) := by simp [rg]
/-- a row of truths -/
def BRow (W : World) (g N : Nat) (f : Int → Bool) : Prop := Blk W g 4 ((rg N).map fun b => Value.bool (f b)).toArray
section
variable {W W' : World} {g N : Nat} {f : Int → Bool}
theorem BRow.lt (h : BRow W g N f) : g < W.heap.size := Blk.lt h
theorem BRow.old (h : BRow W g N f) (hb : Below W.heap.size W W') : BRow W' g N f := Blk.below h hb (Blk.lt h)
theorem BRow.grown (h : BRow W g N f) {row : Option Nat} (hg : W.grownBy W' row) (hne : some g ≠ row) : BRow W' g N f := Blk.grown h hg hne
theorem BRow.cell (h : BRow W g N f) {k : Nat} (hk : k < N) : W.cell? ⟨g, k, none⟩ = some (.bool (f k)) := by
  rw [Blk.cell h]
  simp [rg, hk]
theorem BRow.frozen (h : BRow W g N f) (k : Nat) : W.frozen? ⟨g, k, none⟩ = false := Blk.frozen h k
theorem BRow.set_ (h : BRow W g N f) {k : Nat} (hk : k < N) (x : Bool) : BRow (W.setCell ⟨g, k, none⟩ (.bool x)) g N (fun b : Int => if b = (k : Int) then x else f b) := by
  have h1 := Blk.set_ h k (.bool x)
  have e : (((rg N).map fun b => Value.bool (f b)).toArray).setIfInBounds k (.bool x) = ((rg N).map fun b : Int => Value.bool (if b = (k : Int) then x else f b)).toArray := by
    apply Array.toList_inj.1
    rw [Array.toList_setIfInBounds]
    refine List.ext_getElem (by simp) fun i h2 h3 => ?_
    simp only [List.length_map, rg_length] at h3
    rw [List.getElem_set, List.getElem_map, List.getElem_map, rg_atB h3]
    by_cases e : k = i
    · subst e; simp
    · rw [if_neg e, if_neg (fun h => e (by omega))]
  unfold BRow
  rw [← e]; exact h1
theorem BRow.congr (h : BRow W g N f) {f' : Int → Bool} (hf : ∀ b : Int, 0 ≤ b → b < N → f b = f' b) : BRow W g N f' := by
  have e : ((rg N).map fun b => Value.bool (f b)) = ((rg N).map fun b => Value.bool (f' b)) := List.map_congr_left fun b hb => by have := mem_rg.1 hb; rw [hf b this.1 this.2]
  unfold BRow
  rw [← e]; exact h
end
theorem info_boolQ : (Try.prog.info? 4).map (fun i => (i.zero, i.size, i.bytes)) = some (some (.bool false), 1, 1) := by kernel_rfl
theorem make_bools (n : Nat) (hn : n ≤ 1000000000) (W : World) : (Instr.makeSlice 57 (.int .i64 (n : Int)) (.int .i64 (n : Int))).run Try.prog W = .ok (.slice (some ⟨W.heap.size, 0, none⟩) n n) (W.alloc (.cells (Array.replicate n (Value.bool false)) 4)) := by
  have h := run_make_row' (P := Try.prog) 57 4 (.bool false) 1 Try.underlying57 info_boolQ rfl .i64 .i64 n (by omega) (by omega) W
  rw [h]
  have e : madeCells #[Value.bool false] n = Array.replicate n (Value.bool false) := by
    apply Array.toList_inj.1
    rw [toList_madeCells_one]
    simp
  rw [e]
theorem BRow.made (W : World) (n : Nat) : BRow (W.alloc (.cells (Array.replicate n (Value.bool false)) 4)) W.heap.size n (fun _ => false) := by
  have h := Blk.new W 4 (Array.replicate n (Value.bool false))
  have e : ((rg n).map fun _ => Value.bool false).toArray = Array.replicate n (Value.bool false) := by
    apply Array.toList_inj.1
    rw [List.map_const', rg_length, Array.toList_replicate]
  unfold BRow
  rw [e]; exact h
end Go.Proofs.Ytmoolcpogilgkaa
