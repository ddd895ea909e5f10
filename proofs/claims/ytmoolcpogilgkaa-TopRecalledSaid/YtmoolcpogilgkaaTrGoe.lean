/-
  Bounds of the kit: how much of some origins a move may take.
-/
import Derived.Test.YtmoolcpogilgkaaTrLaw
set_option linter.unusedVariables false
set_option linter.unusedSimpArgs false
namespace Go.Proofs.Ytmoolcpogilgkaa
open Go.RowKit Go.Shelf Go.Sort

set_option maxHeartbeats 1000000 in
theorem bounds_any (m : Mv) (has own : Int) (w : World) (h0 : 0 ≤ own) (h1 : own ≤ has) (h2 : has ≤ 8000000) (h3 : 0 ≤ m.g) (h4 : m.g ≤ 8000000) :
    Calls Try.prog 34 #[.agg #[.int .i64 m.fr, .int .i64 m.to, .int .i64 m.g], .int .i64 has, .int .i64 own] w fun e w' => e = .returned (.agg #[.int .i64 (max 0 (m.g - (has - own))), .int .i64 (min m.g own)]) ∧ Below w.heap.size w w' := by
  have b0 := (Blk.new w 70 #[.int .i64 m.fr, .int .i64 m.to, .int .i64 m.g]).alloc (.cells #[.int .i64 0, .int .i64 0] 32)
  have b1 := Blk.new (w.alloc (.cells #[.int .i64 m.fr, .int .i64 m.to, .int .i64 m.g] 70)) 32 #[.int .i64 0, .int .i64 0]
  rw [World.size_alloc] at b1
  have HR := Lib.hid b1
  have HB := Lib.hid (((Below.refl _ w).alloc (Nat.le_refl _) (.cells #[.int .i64 m.fr, .int .i64 m.to, .int .i64 m.g] 70)).alloc (by simp) (.cells #[.int .i64 0, .int .i64 0] 32))
  have c2 := b0.cell 2
  clear b0 b1
  go_enter Try.func34, Try.ntmps34
  go_wp2_with (refine wpList_store_row rfl 32 (.tmp 6) (.tmp 18) rfl (w.heap.size + 1) #[.int .i64 (max 0 (m.g - (has - own))), .int .i64 (min m.g own)] rfl rfl 32 _ HR.out info_span2 rfl (by simp [Value.oneCell']) ?_)
  refine bodyPost_ret (v := .agg #[.int .i64 (max 0 (m.g - (has - own))), .int .i64 (min m.g own)]) (results_cell_row rfl _ _ (w.heap.size + 1) 32 #[.int .i64 (max 0 (m.g - (has - own))), .int .i64 (min m.g own)] (0, 0) _ rfl (HR.out.setRow _) Try.underlying32 rfl info_span2) rfl ⟨rfl, ?_⟩
  exact HB.out.grown (grown_setRow _ _ _) (by simp; omega) (fun j e => by cases e; omega)
end Go.Proofs.Ytmoolcpogilgkaa
