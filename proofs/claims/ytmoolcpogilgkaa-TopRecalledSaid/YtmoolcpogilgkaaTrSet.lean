/-
  trace: numbers, sets of numbers, lists without some numbers.
-/
import Derived.Test.YtmoolcpogilgkaaApp
import Derived.Test.YtmoolcpogilgkaaKMap
import Derived.Test.YtmoolcpogilgkaaNet
import Derived.Test.YtmoolcpogilgkaaReg
set_option linter.unusedVariables false
set_option linter.unusedSimpArgs false
namespace Go.Proofs.Ytmoolcpogilgkaa
open Go.RowKit

theorem oneCellNew (w : World) (x : Int) : Sl encI 1 (w.alloc (.cells #[.int .i64 x] 3)) w.heap.size (some ⟨w.heap.size, 0, none⟩) 1 [x] := Sl.newI w [x] 3
theorem rg_take (n k : Nat) (h : k ≤ n) : (rg n).take k = rg k := by
  unfold rg
  rw [← List.map_take, List.take_range, Nat.min_eq_left h]
theorem rg_snoc (k : Nat) : rg (k + 1) = rg k ++ [(k : Int)] := by
  unfold rg; rw [List.range_succ, List.map_append]; rfl

set_option maxHeartbeats 1000000 in
theorem numbers_any (n : Nat) (hn : n ≤ 1000) (w : World) :
    Calls Try.prog 61 #[.int .i64 n] w fun e w' => ∃ A c, e = .returned (.slice A n c) ∧ w'.ownsRow w.heap.size 3 1 (.slice A n c) n ((rg n).flatMap encI) ∧ Below w.heap.size w w' := by
  obtain ⟨i0, hi, iz0, iz1, iz2⟩ := info_parts info_int
  go_enter Try.func61, Try.ntmps61
  go_wp2_with fail
  go_loopw [3, 6] (fun v i wr => ∃ (k c : Nat) (A : Option Addr), k ≤ n ∧ i = .int .i64 k ∧ v = .slice A k c ∧ wr.ownsRow w.heap.size 3 1 (.slice A k c) k ((rg k).flatMap encI) ∧ Below w.heap.size w wr) (fun _ i _ => n - (intOf i).toNat)
  case atStart => exact ⟨0, 0, none, Nat.zero_le _, rfl, rfl, World.ownsRow_nil _ _ _ _, Below.refl _ _⟩
  case round =>
    obtain ⟨k, c, A, hk, rfl, rfl, hown, hB⟩ := hrel
    have hz := hB.size
    have HB := Lib.hid hB
    have HOWN := Lib.hid hown
    clear hB hown
    by_cases hlt : k < n
    · go_wp2_with (at_builtin; refine wpList_append_sl rfl _ _ 22 rfl w.heap.size 3 i0 _ 8 Try.underlying22 hi iz0 iz1 iz2 rfl (by omega) encI_len _ k _ rfl (HOWN.out.alloc _) wr.heap.size _ 1 1 [(k : Int)] rfl (oneCellNew wr k) oneI (by unfold maxLen; omega) (by omega) (by simp; omega) ?_; intro A1 c1 w1 hown1 hgrow _; have HO1 := Lib.hid hown1; have HB1 := Lib.hid (below_own (HOWN.out.alloc _) hgrow (HB.out.alloc hz _) (Nat.le_refl _) (Nat.le_refl _)); clear hown1 hgrow)
      go_roundw
      case rel => exact ⟨k + 1, c1, A1, by omega, by go_num, rfl, by rw [rg_snoc, List.flatMap_append]; simpa using HO1.out, HB1.out⟩
      case measure => simp [intOf]; omega
    · obtain rfl : k = n := by omega
      go_wp2_with fail
      go_ret
      exact ⟨A, c, rfl, HOWN.out, HB.out⟩

/-- a set of numbers, as a map holds it -/
def setF (l : List Int) : Int → Option Value := fun x => if x ∈ l then some (.bool true) else none
theorem setF_snoc (l : List Int) (x : Int) : updK (setF l) x (.bool true) = setF (l ++ [x]) := by
  funext y
  unfold updK setF
  by_cases h : y = x <;> simp [h]
abbrev okI (x : Int) : Prop := (Lit.int .i64 x).wf = true
theorem kkI : KeyK Try.prog 3 (Value.int .i64) okI := keyK_int Try.underlying3

set_option maxHeartbeats 1000000 in
theorem set_any (b n c : Nat) (A : Option Addr) (l : List Int) (hn : n ≤ 1000000) (hok : ∀ x ∈ l, okI x) (w : World) (hl : Sl encI 1 w b A n l) :
    Calls Try.prog 27 #[.slice A n c] w fun e w' => ∃ B, e = .returned (.map (some B)) ∧ w.heap.size ≤ B ∧ KMap (Value.int .i64) okI w' B (setF l) ∧ Below w.heap.size w w' := by
  have HLEN := Lib.hid hl.len
  have hmm := @run_makeMap Try.prog
  have HL := Lib.hid hl
  have HOK := Lib.hid hok
  clear hl hok
  go_enter Try.func27, Try.ntmps27
  go_wp2_with fail
  go_loopw [9] (fun i wr => ∃ k : Nat, k ≤ n ∧ i = .int .i64 k ∧ KMap (Value.int .i64) okI wr w.heap.size (setF (l.take k)) ∧ Below w.heap.size w wr) (fun i _ => n - (intOf i).toNat)
  case atStart => exact ⟨0, Nat.zero_le _, rfl, KMap.new w, (Below.refl _ w).alloc (Nat.le_refl _) _⟩
  case round =>
    obtain ⟨k, hk, rfl, hM, hB⟩ := hrel
    have HB := Lib.hid hB
    have HM := Lib.hid hM
    clear hB hM
    by_cases hlt : k < n
    · have hkl : k < l.length := by have := HLEN.out; omega
      obtain ⟨o, rfl, hbz, s0⟩ := (HL.out.old HB.out).atI hkl
      have HS := Lib.hid (setF_snoc (l.take k) l[k])
      have hx := HOK.out l[k] (List.getElem_mem hkl)
      have HT := Lib.hid (List.take_succ_eq_append_getElem hkl)
      generalize hxx : l[k] = x at s0 HS hx HT
      clear hxx
      go_wp2_with (at_mapUpdate; refine wpList_updateK _ rfl _ _ _ 86 4 rfl kkI Try.underlying86 w.heap.size _ rfl HM.out x rfl hx (.bool true) rfl ?_; intro w1 hk1 hg1 hs1; have HK1 := Lib.hid hk1; have HG1 := Lib.hid hg1; clear hk1 hg1)
      go_roundw
      case rel => exact ⟨k + 1, by omega, by go_num, by rw [HT.out, ← HS.out]; exact HK1.out, HB.out.grown HG1.out HB.out.size (fun j e => by cases e; exact Nat.le_refl _)⟩
      case measure => simp [intOf]; omega
    · obtain rfl : k = n := by omega
      have hlk : l.take k = l := List.take_of_length_le (by have := HLEN.out; omega)
      have HM2 := Lib.hid (show KMap (Value.int .i64) okI wr w.heap.size (setF l) by have := HM.out; rwa [hlk] at this)
      clear hlk
      go_wp2_with fail
      go_ret
      exact ⟨w.heap.size, rfl, Nat.le_refl _, HM2.out, HB.out⟩

set_option maxRecDepth 100000 in
set_option maxHeartbeats 1000000 in
/-- a copy of numbers -/
theorem cloneI_any (b n c : Nat) (A : Option Addr) (l : List Int) (hn : n ≤ 1000000) (hn0 : 0 < n) (w : World) (hl : Sl encI 1 w b A n l) :
    Calls Try.prog 75 #[.slice A n c] w fun e w' => ∃ g c', e = .returned (.slice (some ⟨g, 0, none⟩) n c') ∧ w'.ownsRow w.heap.size 3 1 (.slice (some ⟨g, 0, none⟩) n c') n (l.flatMap encI) ∧ Below w.heap.size w w' := by
  obtain ⟨i0, hi, iz0, iz1, iz2⟩ := info_parts info_int
  obtain ⟨o, rfl, _, _⟩ := hl.2 hn0
  have hown0 := own_empty w 3 1 w.heap.size w.heap.size rfl (Nat.le_refl _)
  have hsl := hl.alloc (.cells #[] 3)
  have HL := Lib.hid hl
  clear hl
  have en := fun w : World => Lib.run_eql_slice_nil (P := Try.prog) w 22 3 (some ⟨b, o, none⟩) n c 0 0 Try.underlying22
  go_enter Try.func75, Try.ntmps75
  go_wp2_with (at_builtin; refine wpList_append_sl rfl (.tmp 5) (.tmp 6) 22 rfl w.heap.size 3 i0 _ 8 Try.underlying22 hi iz0 iz1 iz2 rfl (by omega) encI_len _ 0 [] rfl hown0 b _ n c l rfl hsl oneI (by unfold maxLen; omega) (by omega) (by simp) ?_; intro A1 c1 w1 hown1 hgrow _; have HO1 := Lib.hid hown1; have HB1 := Lib.hid (below_own hown0 hgrow ((Below.refl _ w).alloc (Nat.le_refl _) _) (Nat.le_refl _) (Nat.le_refl _)); clear hown1 hgrow)
  go_ret
  have ho := HO1.out
  simp only [Nat.zero_add, List.nil_append] at ho ⊢
  rcases ho.2 with ⟨hv, hz⟩ | ⟨g, cap, cur, hv, _⟩
  · injection hv with _ hv; omega
  · injection hv with h1 h2 h3
    subst h1
    exact ⟨g, c1, rfl, ho, HB1.out⟩
end Go.Proofs.Ytmoolcpogilgkaa
