/-
  trace.Holds: what each batch holds in the end.
-/
import Derived.Test.YtmoolcpogilgkaaTrRec
set_option linter.unusedVariables false
set_option linter.unusedSimpArgs false
namespace Go.Proofs.Ytmoolcpogilgkaa
open Go.RowKit Go.Shelf Go.Sort

theorem sl_amA (w : World) (g n : Nat) (a : Int → Int) (hn : n ≤ 8) (h : Blk w g 120 (amA a)) : Sl encI 1 w g (some ⟨g, 0, none⟩) n ((rg n).map a) := by
  refine ⟨by rw [List.length_map, rg_length], fun h0 => ⟨0, rfl, h.lt, fun k hk j u hu => ?_⟩⟩
  rw [List.length_map, rg_length] at hk
  have e : ((rg n).map a)[k]'(by rw [List.length_map, rg_length]; exact hk) = a k := by simp [rg]
  rw [e] at hu
  obtain rfl : j = 0 := by
    rcases Nat.eq_zero_or_pos j with h | h
    · exact h
    · rw [List.getElem?_eq_none (by simp [encI]; omega)] at hu; cases hu
  rw [show 0 + k * 1 + 0 = k by omega, h.cell, amA_get _ k (by omega)]
  simpa [encI] using hu

theorem am_len : Try.prog.arrayLen 120 = 8 := by kernel_rfl
theorem am_elem : Try.prog.elem 120 = 3 := by kernel_rfl
theorem slice_amA (n : Nat) (hn : n ≤ 8) (g : Nat) (w : World) : (Instr.sliceAt 120 (.pointer (some ⟨g, 0, none⟩)) none (some (.int .i64 (n : Int))) none).run Try.prog w = .ok (.slice (some ⟨g, 0, none⟩) n 8) w := by
  obtain ⟨i0, hi, iz0, iz1, iz2⟩ := info_parts info_int
  rw [run_sliceAt_array_h w 120 ⟨g, 0, none⟩ (by rw [am_len, am_elem]; exact Try.underlying120) .i64 n (by omega) (by rw [am_len]; omega), am_len, am_elem, run_sizeOf _ hi]
  simp [Result.andThen, slicedAt, Addr.add]

end Go.Proofs.Ytmoolcpogilgkaa
