/-
  Nets, moves and lists of numbers that come in, as the words of memory of this claim read them.
-/
import Derived.Test.YtkphgdkjjklajaaGreatDoorNums
import Derived.Test.YtkphgdkjjklajaaGreatDoorTrEdges
import Derived.ChangeArms
import Derived.Lib.SmallJoins
set_option linter.unusedVariables false
set_option linter.unusedSimpArgs false
namespace Go.Proofs.YtkphgdkjjklajaaGreatDoor
open Go.ChangeShapes Go.WideShapes Go.ChangeAt Go.RowKit

theorem list3N {α : Type} {l : List α} (h : l.length = 3) : ∃ a b c, l = [a, b, c] := by
  match l, h with
  | [a, b, c], _ => exact ⟨a, b, c, rfl⟩
theorem addr_addN (b o n : Nat) : (⟨b, o, none⟩ : Addr).add n = ⟨b, o + n, none⟩ := by
  unfold Addr.add
  split
  · rename_i h; subst h; rfl
  · rfl
section
variable {H : Type} {enc : TypeId × Value → H} {W : World} {base : Nat} {spare : Nat → Bool} {held : Bool} {fuel : Nat}
theorem int_of_trodN {a : Value} {y : Option (DataW H × List MemPlace)} (h : DataW.trod enc Tryz.prog W base spare held fuel 3 [a] = y) (hy : y.isSome = true) : ∃ x : Int, a = .int .i64 x ∧ (Lit.int .i64 x).wf = true := by
  obtain ⟨y, rfl⟩ := Option.isSome_iff_exists.1 hy
  obtain ⟨x, hx, _, hw⟩ := DataW.trod_int Tryz.underlying3 h
  exact ⟨x, by simpa using hx, hw⟩
/-- a slice that comes in reads as a list, if each element does -/
theorem sl_of_trodN {α : Type} {en : α → List Value} {m : Nat} {Q : α → Prop} {T e : TypeId} (hT : Tryz.prog.underlying T = some (.slice e)) (hm : Tryz.prog.cellsOf e = m) (hm0 : 0 < m) (hlen : ∀ x, (en x).length = m)
    (hel : ∀ (fuel : Nat) (cs : List Value) (y : Option (DataW H × List MemPlace)), DataW.trod enc Tryz.prog W base spare held fuel e cs = y → y.isSome = true → ∃ x : α, cs = en x ∧ Q x)
    {A : Option Addr} {len cap : Nat} {x : DataW H × List MemPlace} (h : DataW.trod enc Tryz.prog W base spare held fuel T [.slice A len cap] = some x) :
    ∃ (b : Nat) (l : List α), Sl en m W b A len l ∧ (∀ x ∈ l, Q x) ∧ len ≤ 9223372036854775807 ∧ len ≤ cap := by
  rcases DataW.trod_slice hT h with ⟨hcs, _⟩ | ⟨a, len', cap', elems, rest, n, _, hcs, _, hb, hl, hmx, hel', hread, _⟩
  · simp at hcs
    obtain ⟨rfl, rfl, rfl⟩ := hcs
    exact ⟨0, [], Sl.nil _ _ _, by simp, by omega⟩
  · simp at hcs
    obtain ⟨rfl, rfl, rfl⟩ := hcs
    unfold maxLen at hmx
    have hx : ∀ i, i < len → ∃ x : α, W.cells? base (a.add (i * m)) m = some (en x) ∧ Q x := by
      intro i hi
      have h1 := hread i hi
      rw [hm] at h1
      have h2 : (elems[i]?).isSome = true := by simp [hel', hi]
      cases hc : W.cells? base (a.add (i * m)) m with
      | none => rw [hc] at h1; simp at h1; omega
      | some cs =>
        rw [hc] at h1
        simp only [Option.bind_some] at h1
        obtain ⟨x, rfl, hq⟩ := hel n cs _ h1 h2
        exact ⟨x, rfl, hq⟩
    by_cases h0 : len = 0
    · subst h0
      exact ⟨0, [], ⟨rfl, fun h => absurd h (by omega)⟩, by simp, by omega⟩
    · obtain ⟨x0, hx0, _⟩ := hx 0 (by omega)
      rw [Nat.zero_mul] at hx0
      obtain ⟨_, _, hc0⟩ := World.cells?_some hx0
      have hc00 := hc0 0 hm0
      rw [List.getElem?_eq_getElem (by rw [hlen]; exact hm0)] at hc00
      have hsp : a.spot = none := by simpa [Addr.add] using World.cell?_spot hc00
      have hlt := block_lt_of_cell hc00
      obtain ⟨b, off, spot⟩ := a
      simp only at hsp
      subst hsp
      classical
      let l : List α := (List.range len).map fun i => if hi : i < len then (hx i hi).choose else x0
      have hll : l.length = len := by simp [l]
      refine ⟨b, l, ⟨hll.symm, fun _ => ⟨off, rfl, by simpa [Addr.add] using hlt, fun k hk j u hu => ?_⟩⟩, fun x hx' => ?_, by omega⟩
      · have hkl : k < len := by omega
        have e : l[k] = (hx k hkl).choose := by simp [l, hkl]
        rw [e] at hu
        obtain ⟨hcs, _⟩ := (hx k hkl).choose_spec
        obtain ⟨_, _, hc⟩ := World.cells?_some hcs
        have hj : j < m := by
          have := (List.getElem?_eq_some_iff.1 hu).1
          rw [hlen] at this
          exact this
        have h3 := hc j hj
        rw [hu] at h3
        rw [← h3]
        rw [addr_addN, addr_addN]
      · simp only [l, List.mem_map, List.mem_range] at hx'
        obtain ⟨i, hi, rfl⟩ := hx'
        rw [dif_pos hi]
        exact (hx i hi).choose_spec.2
theorem move_of_trod {cs : List Value} {y : Option (DataW H × List MemPlace)} (h : DataW.trod enc Tryz.prog W base spare held fuel 58 cs = y) (hy : y.isSome = true) : ∃ s : Mv, cs = encM s ∧ (Lit.int .i64 s.fr).wf = true ∧ (Lit.int .i64 s.to).wf = true ∧ (Lit.int .i64 s.g).wf = true := by
  obtain ⟨y, rfl⟩ := Option.isSome_iff_exists.1 hy
  obtain ⟨xs, n, _, _, hl, hlen, hf⟩ := DataW.trod_struct Tryz.underlying58 h
  have hl2 : cs.length = 3 := hl.trans (by kernel_rfl)
  have hc : Tryz.prog.cellsOf 3 = 1 := by kernel_rfl
  clear hl
  obtain ⟨a, b, c, rfl⟩ := list3N hl2
  have h0 : DataW.trod enc Tryz.prog W base spare held n 3 (List.take (Tryz.prog.cellsOf 3) (List.drop 0 [a, b, c])) = xs[0]? := hf 0 _ rfl
  have h1 : DataW.trod enc Tryz.prog W base spare held n 3 (List.take (Tryz.prog.cellsOf 3) (List.drop 1 [a, b, c])) = xs[1]? := hf 1 _ rfl
  have h2 : DataW.trod enc Tryz.prog W base spare held n 3 (List.take (Tryz.prog.cellsOf 3) (List.drop 2 [a, b, c])) = xs[2]? := hf 2 _ rfl
  simp only [hc, List.drop_zero, List.drop_succ_cons, List.take_succ_cons, List.take_zero] at h0 h1 h2
  obtain ⟨x, rfl, hx⟩ := int_of_trodN h0 (by simp at hlen; simp [hlen])
  obtain ⟨z, rfl, hz⟩ := int_of_trodN h1 (by simp at hlen; simp [hlen])
  obtain ⟨u, rfl, hu⟩ := int_of_trodN h2 (by simp at hlen; simp [hlen])
  exact ⟨⟨x, z, u⟩, rfl, hx, hz, hu⟩

/-! whole arguments -/
set_option maxRecDepth 100000
variable {r : Reach} {b0 : Nat} {v : Value} {d : DataW H} {ps : List MemPlace}
theorem intArg_ofN (hv : Value.okWide Tryz.prog W r b0 3 v) (h : DataW.Trod enc Tryz.prog W base spare held 3 v d ps) : ∃ x : Int, v = .int .i64 x ∧ (Lit.int .i64 x).wf = true := by
  obtain ⟨x, rfl⟩ := okWide_int Tryz.underlying3 hv
  obtain ⟨fuel, hf⟩ := h
  obtain ⟨z, hz, hw⟩ := int_of_trodN (a := .int .i64 x) hf rfl
  exact ⟨z, hz, hw⟩
theorem moveArg_of (hv : Value.okWide Tryz.prog W r b0 58 v) (h : DataW.Trod enc Tryz.prog W base spare held 58 v d ps) : ∃ s : Mv, v = .agg (encM s).toArray ∧ (Lit.int .i64 s.fr).wf = true ∧ (Lit.int .i64 s.to).wf = true ∧ (Lit.int .i64 s.g).wf = true := by
  obtain ⟨cs, rfl, _⟩ := okWide_struct Tryz.underlying58 hv
  obtain ⟨fuel, hf⟩ := h
  obtain ⟨s, hs, hw⟩ := move_of_trod (cs := cs.toList) hf rfl
  exact ⟨s, by rw [← hs], hw⟩
theorem netArg_of (hv : Value.okWide Tryz.prog W r b0 25 v) (h : DataW.Trod enc Tryz.prog W base spare held 25 v d ps) :
    ∃ (Ab Am : Option Addr) (nb cb nm cm b1 b2 : Nat) (bs : List Int) (ms : List Mv), v = netV Ab Am nb cb nm cm ∧ NetM W b1 b2 Ab Am nb cb nm cm bs ms := by
  obtain ⟨v0, v1, y0, y1, m, rfl, _, _, h0, h1⟩ := Go.Joins.open_agg2 Tryz.underlying25 (by kernel_rfl) (by kernel_rfl) hv h
  obtain ⟨Ab, nb, cb, hA⟩ := Go.Joins.slice_form Tryz.underlying22 h0
  simp only [List.cons.injEq, and_true] at hA
  subst hA
  obtain ⟨Am, nm, cm, hB⟩ := Go.Joins.slice_form Tryz.underlying23 h1
  simp only [List.cons.injEq, and_true] at hB
  subst hB
  obtain ⟨b1, bs, hl1, _, _, hc1⟩ := sl_of_trodN (en := encI) (Q := fun x => (Lit.int .i64 x).wf = true) Tryz.underlying22 (show Tryz.prog.cellsOf 3 = 1 by kernel_rfl) (by omega) encI_len (fun fuel cs y h hy => by
    obtain ⟨y, rfl⟩ := Option.isSome_iff_exists.1 hy
    obtain ⟨x, hx, _, hw⟩ := DataW.trod_int Tryz.underlying3 h
    exact ⟨x, hx, hw⟩) h0
  obtain ⟨b2, ms, hl2, _, _, hc2⟩ := sl_of_trodN (en := encM) (Q := fun _ => True) Tryz.underlying23 (show Tryz.prog.cellsOf 58 = 3 by kernel_rfl) (by omega) encM_len (fun _ _ _ h hy => by obtain ⟨s, hs, _⟩ := move_of_trod h hy; exact ⟨s, hs, trivial⟩) h1
  exact ⟨Ab, Am, nb, cb, nm, cm, b1, b2, bs, ms, rfl, ⟨hl1, hl2, hc1, hc2⟩⟩
theorem listArg_of (hv : Value.okWide Tryz.prog W r b0 22 v) (h : DataW.Trod enc Tryz.prog W base spare held 22 v d ps) : ∃ (A : Option Addr) (n c b : Nat) (l : List Int), v = .slice A n c ∧ Sl encI 1 W b A n l ∧ n ≤ c := by
  obtain ⟨A, n, c, rfl⟩ := okWide_slice Tryz.underlying22 hv
  obtain ⟨fuel, hf⟩ := h
  obtain ⟨b, l, hl, _, _, hc⟩ := sl_of_trodN (en := encI) (Q := fun x => (Lit.int .i64 x).wf = true) (A := A) (len := n) (cap := c) Tryz.underlying22 (show Tryz.prog.cellsOf 3 = 1 by kernel_rfl) (by omega) encI_len (fun fuel cs y h hy => by
    obtain ⟨y, rfl⟩ := Option.isSome_iff_exists.1 hy
    obtain ⟨x, hx, _, hw⟩ := DataW.trod_int Tryz.underlying3 h
    exact ⟨x, hx, hw⟩) hf
  exact ⟨A, n, c, b, l, rfl, hl, hc⟩
theorem numsArg_of (hv : Value.okWide Tryz.prog W r b0 22 v) (h : DataW.Trod enc Tryz.prog W base spare held 22 v d ps) : ∃ (A : Option Addr) (n c : Nat), v = .slice A n c ∧ Nums W A n := by
  obtain ⟨A, n, c, rfl⟩ := okWide_slice Tryz.underlying22 hv
  refine ⟨A, n, c, rfl, ?_⟩
  obtain ⟨fuel, hf⟩ := h
  obtain ⟨b, l, hl, hw, hn, _⟩ := sl_of_trodN (en := encI) (Q := fun x => (Lit.int .i64 x).wf = true) (A := A) (len := n) (cap := c) Tryz.underlying22 (show Tryz.prog.cellsOf 3 = 1 by kernel_rfl) (by omega) encI_len (fun fuel cs y h hy => by
    obtain ⟨y, rfl⟩ := Option.isSome_iff_exists.1 hy
    obtain ⟨x, hx, _, hw⟩ := DataW.trod_int Tryz.underlying3 h
    exact ⟨x, hx, hw⟩) hf
  exact ⟨b, l, hl, hw, hn⟩
end
end Go.Proofs.YtkphgdkjjklajaaGreatDoor
