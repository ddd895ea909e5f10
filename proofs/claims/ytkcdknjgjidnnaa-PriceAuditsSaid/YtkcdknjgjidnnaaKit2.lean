/-
  The kit's small functions: copies, bounds, steps and finds made of numbers.
-/
import Derived.Test.YtkcdknjgjidnnaaApp
import Derived.Test.YtkcdknjgjidnnaaDie2
import Derived.Test.YtkcdknjgjidnnaaSame
set_option linter.unusedVariables false
set_option linter.unusedSimpArgs false
namespace Go.Proofs.Ytkcdknjgjidnnaa
open Go.RowKit

theorem info_sale' : (Try.prog.info? 28).map (fun i => (i.zero, i.size, i.bytes)) = some (some (.agg #[.int .i64 0, .int .i64 0, .int .i64 0, .int .i64 0, .int .i64 0, .int .i64 0]), 6, 48) := by kernel_rfl
theorem info_step : (Try.prog.info? 53).map (fun i => (i.zero, i.size, i.bytes)) = some (some (.agg #[.int .i64 0, .int .i64 0]), 2, 16) := by kernel_rfl
theorem info_found : (Try.prog.info? 78).map (fun i => (i.zero, i.size, i.bytes)) = some (some (.agg #[.int .i64 0, .int .i64 0, .int .i64 0]), 3, 24) := by kernel_rfl

set_option maxHeartbeats 1000000 in
theorem copyBook_any (st gd : Int) (b n c : Nat) (A : Option Addr) (l : List Sale) (w : World) (hl : Sl encS 6 w b A n l) (hn : n ≤ 1000000000) :
    Calls Try.prog 17 #[.agg #[.int .i64 st, .int .i64 gd, .slice A n c]] w fun e w' => ∃ A' c', e = .returned (.agg #[.int .i64 st, .int .i64 gd, .slice A' n c']) ∧ w'.ownsRow w.heap.size 28 6 (.slice A' n c') n (l.flatMap encS) ∧ Below w.heap.size w w' := by
  obtain ⟨i0, hi, iz0, iz1, iz2⟩ := info_parts info_sale'
  have hown0 := own_empty ((w.alloc (.cells #[.int .i64 st, .int .i64 gd, .slice A n c] 24)).alloc (.cells #[.int .i64 0, .int .i64 0, .slice none 0 0] 24)) 28 6 (w.heap.size + 2) (w.heap.size + 1 + 1) (by simp) (by omega)
  have hsl := ((hl.alloc (.cells #[.int .i64 st, .int .i64 gd, .slice A n c] 24)).alloc (.cells #[.int .i64 0, .int .i64 0, .slice none 0 0] 24)).alloc (.cells #[] 28)
  have hB : w.heap.size + 2 ≤ (((w.alloc (.cells #[.int .i64 st, .int .i64 gd, .slice A n c] 24)).alloc (.cells #[.int .i64 0, .int .i64 0, .slice none 0 0] 24)).alloc (.cells #[] 28)).heap.size := by simp
  have hw1 := ((Blk.new w 24 #[.int .i64 st, .int .i64 gd, .slice A n c]).alloc (.cells #[.int .i64 0, .int .i64 0, .slice none 0 0] 24)).alloc (.cells #[] 28)
  have hw2 := (Blk.new (w.alloc (.cells #[.int .i64 st, .int .i64 gd, .slice A n c] 24)) 24 #[.int .i64 0, .int .i64 0, .slice none 0 0]).alloc (.cells #[] 28)
  have hBw : Below w.heap.size w (((w.alloc (.cells #[.int .i64 st, .int .i64 gd, .slice A n c] 24)).alloc (.cells #[.int .i64 0, .int .i64 0, .slice none 0 0] 24)).alloc (.cells #[] 28)) := by go_grown
  rw [World.size_alloc] at hw2
  go_enter Try.func17, Try.ntmps17
  go_wp2_with (at_builtin; refine wpList_append_sl rfl (.tmp 3) (.tmp 5) _ rfl (w.heap.size + 2) 28 i0 _ 48 Try.underlying22 hi iz0 iz1 iz2 rfl (by omega) encS_len _ 0 [] rfl hown0 b _ n c l rfl hsl oneS (by unfold maxLen; omega) (by omega) hB ?_; intro A1 c1 w1 hown hgrow hat; have hk1 := own_keeps hown0 hgrow (b := w.heap.size) (by omega) (by simp; omega); have hk2 := own_keeps hown0 hgrow (b := w.heap.size + 1) (by omega) (by simp); have hb1 : Blk w1 _ _ _ := hk1.trans hw1; have hb2 : Blk w1 _ _ _ := hk2.trans hw2; have c0 := hb1.cell 0; have c1' := hb1.cell 1; have c2 := hb1.cell 2; have f2 := hb1.frozen 2; have r0 := hb2.cell 0; have r1 := hb2.cell 1; have r2 := hb2.cell 2; have g0 := hb2.frozen 0; have g1 := hb2.frozen 1; have g2 := hb2.frozen 2; have HO := Lib.hid hown; have HG := Lib.hid hgrow; have hbb1 := Lib.hid hb1; have hbb2 := Lib.hid hb2; clear hown hgrow hat hk1 hk2 hb1 hb2)
  have hR := (((hbb2.out.far (p := ⟨w.heap.size, 2, none⟩) (by show w.heap.size + 1 ≠ w.heap.size; omega) (.slice A1 (0 + n) c1)).set_ 0 (.int .i64 st)).set_ 1 (.int .i64 gd)).set_ 2 (.slice A1 (0 + n) c1)
  have q0 := hR.cell 0
  have q1 := hR.cell 1
  have q2 := hR.cell 2
  have ho := HO.out
  simp only [Nat.zero_add, List.nil_append] at ho q0 q1 q2
  have hz : w.heap.size + 2 ≤ w1.heap.size := by have := HG.out.size; simp at this; omega
  refine bodyPost_ret (v := .agg #[.int .i64 st, .int .i64 gd, .slice A1 n c1]) (by simp [results, Try.results17, go_sem, q0, q1, q2]) rfl ?_
  refine ⟨A1, c1, rfl, ?_, ?_⟩
  · have h1 := ownsRow_setCell ho (p := ⟨w.heap.size, 2, none⟩) (by show w.heap.size < _; omega) (.slice A1 (0 + n) c1)
    have h2 := ownsRow_setCell h1 (p := ⟨w.heap.size + 1, 0, none⟩) (by show w.heap.size + 1 < _; omega) (.int .i64 st)
    have h3 := ownsRow_setCell h2 (p := ⟨w.heap.size + 1, 1, none⟩) (by show w.heap.size + 1 < _; omega) (.int .i64 gd)
    have h4 := ownsRow_setCell h3 (p := ⟨w.heap.size + 1, 2, none⟩) (by show w.heap.size + 1 < _; omega) (.slice A1 (0 + n) c1)
    simp only [Nat.zero_add] at h4 ⊢
    exact ownsRow_base h4 (by omega)
  · have h0 := below_own hown0 HG.out hBw (by omega) (Nat.le_refl _)
    have h1 := h0.setCell (p := ⟨w.heap.size, 2, none⟩) (Nat.le_refl _) (.slice A1 (0 + n) c1)
    have h2 := h1.setCell (p := ⟨w.heap.size + 1, 0, none⟩) (by show w.heap.size ≤ w.heap.size + 1; omega) (.int .i64 st)
    have h3 := h2.setCell (p := ⟨w.heap.size + 1, 1, none⟩) (by show w.heap.size ≤ w.heap.size + 1; omega) (.int .i64 gd)
    have h4 := h3.setCell (p := ⟨w.heap.size + 1, 2, none⟩) (by show w.heap.size ≤ w.heap.size + 1; omega) (.slice A1 (0 + n) c1)
    simpa using h4
end Go.Proofs.Ytkcdknjgjidnnaa
