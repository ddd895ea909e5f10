/-
  Books, sales, steps and finds that come in, as the words of memory of this claim read them.
-/
import Derived.Test.YtjmppionedcfeaaGreatDoorNums
import Derived.Test.YtjmppionedcfeaaGreatDoorEnc
import Derived.ChangeArms
import Derived.Lib.SmallJoins
set_option linter.unusedVariables false
set_option linter.unusedSimpArgs false
namespace Go.Proofs.YtjmppionedcfeaaGreatDoor
open Go.ChangeShapes Go.WideShapes Go.ChangeAt Go.RowKit

theorem list2 {α : Type} {l : List α} (h : l.length = 2) : ∃ a b, l = [a, b] := by
  match l, h with
  | [a, b], _ => exact ⟨a, b, rfl⟩
theorem list6 {α : Type} {l : List α} (h : l.length = 6) : ∃ a b c d e f, l = [a, b, c, d, e, f] := by
  match l, h with
  | [a, b, c, d, e, f], _ => exact ⟨a, b, c, d, e, f, rfl⟩
theorem addr_add (b o n : Nat) : (⟨b, o, none⟩ : Addr).add n = ⟨b, o + n, none⟩ := by
  unfold Addr.add
  split
  · rename_i h; subst h; rfl
  · rfl
section
variable {H : Type} {enc : TypeId × Value → H} {W : World} {base : Nat} {spare : Nat → Bool} {held : Bool} {fuel : Nat}
theorem int_of_trod {a : Value} {y : Option (DataW H × List MemPlace)} (h : DataW.trod enc Tryz.prog W base spare held fuel 3 [a] = y) (hy : y.isSome = true) : ∃ x : Int, a = .int .i64 x ∧ (Lit.int .i64 x).wf = true := by
  obtain ⟨y, rfl⟩ := Option.isSome_iff_exists.1 hy
  obtain ⟨x, hx, _, hw⟩ := DataW.trod_int Tryz.underlying3 h
  exact ⟨x, by simpa using hx, hw⟩
theorem span_of_trod {cs : List Value} {y : Option (DataW H × List MemPlace)} (h : DataW.trod enc Tryz.prog W base spare held fuel 42 cs = y) (hy : y.isSome = true) : ∃ x z : Int, cs = [.int .i64 x, .int .i64 z] ∧ (Lit.int .i64 x).wf = true ∧ (Lit.int .i64 z).wf = true := by
  obtain ⟨y, rfl⟩ := Option.isSome_iff_exists.1 hy
  obtain ⟨xs, n, _, _, hl, hlen, hf⟩ := DataW.trod_struct Tryz.underlying42 h
  have hl2 : cs.length = 2 := hl.trans (by kernel_rfl)
  have hc : Tryz.prog.cellsOf 3 = 1 := by kernel_rfl
  clear hl
  obtain ⟨a, b, rfl⟩ := list2 hl2
  · have h0 : DataW.trod enc Tryz.prog W base spare held n 3 (List.take (Tryz.prog.cellsOf 3) (List.drop 0 [a, b])) = xs[0]? := hf 0 _ rfl
    have h1 : DataW.trod enc Tryz.prog W base spare held n 3 (List.take (Tryz.prog.cellsOf 3) (List.drop 1 [a, b])) = xs[1]? := hf 1 _ rfl
    simp only [hc, List.drop_zero, List.drop_succ_cons, List.take_succ_cons, List.take_zero] at h0 h1
    obtain ⟨x, rfl, hx⟩ := int_of_trod h0 (by simp at hlen; simp [hlen])
    obtain ⟨z, rfl, hz⟩ := int_of_trod h1 (by simp at hlen; simp [hlen])
    exact ⟨x, z, rfl, hx, hz⟩
/-- each number of a sale is an int -/
structure SaleWf (s : Sale) : Prop where
  st : (Lit.int .i64 s.st).wf = true
  gd : (Lit.int .i64 s.gd).wf = true
  gl : (Lit.int .i64 s.gl).wf = true
  gh : (Lit.int .i64 s.gh).wf = true
  cl : (Lit.int .i64 s.cl).wf = true
  ch : (Lit.int .i64 s.ch).wf = true
theorem sale_of_trod {cs : List Value} {y : Option (DataW H × List MemPlace)} (h : DataW.trod enc Tryz.prog W base spare held fuel 59 cs = y) (hy : y.isSome = true) : ∃ s : Sale, cs = encS s ∧ SaleWf s := by
  obtain ⟨y, rfl⟩ := Option.isSome_iff_exists.1 hy
  obtain ⟨xs, n, _, _, hl, hlen, hf⟩ := DataW.trod_struct Tryz.underlying59 h
  have hl2 : cs.length = 6 := hl.trans (by kernel_rfl)
  have hc : Tryz.prog.cellsOf 3 = 1 := by kernel_rfl
  have hc2 : Tryz.prog.cellsOf 42 = 2 := by kernel_rfl
  clear hl
  obtain ⟨a, b, c, d, e, f, rfl⟩ := list6 hl2
  · have h0 : DataW.trod enc Tryz.prog W base spare held n 3 (List.take (Tryz.prog.cellsOf 3) (List.drop 0 [a, b, c, d, e, f])) = xs[0]? := hf 0 _ rfl
    have h1 : DataW.trod enc Tryz.prog W base spare held n 3 (List.take (Tryz.prog.cellsOf 3) (List.drop 1 [a, b, c, d, e, f])) = xs[1]? := hf 1 _ rfl
    have h2 : DataW.trod enc Tryz.prog W base spare held n 42 (List.take (Tryz.prog.cellsOf 42) (List.drop 2 [a, b, c, d, e, f])) = xs[2]? := hf 2 _ rfl
    have h3 : DataW.trod enc Tryz.prog W base spare held n 42 (List.take (Tryz.prog.cellsOf 42) (List.drop 4 [a, b, c, d, e, f])) = xs[3]? := hf 3 _ rfl
    simp only [hc, hc2, List.drop_zero, List.drop_succ_cons, List.take_succ_cons, List.take_zero] at h0 h1 h2 h3
    obtain ⟨x0, rfl, w0⟩ := int_of_trod h0 (by simp at hlen; simp [hlen])
    obtain ⟨x1, rfl, w1⟩ := int_of_trod h1 (by simp at hlen; simp [hlen])
    obtain ⟨x2, x3, e2, w2, w3⟩ := span_of_trod h2 (by simp at hlen; simp [hlen])
    obtain ⟨x4, x5, e3, w4, w5⟩ := span_of_trod h3 (by simp at hlen; simp [hlen])
    simp only [List.cons.injEq, and_true] at e2 e3
    obtain ⟨rfl, rfl⟩ := e2
    obtain ⟨rfl, rfl⟩ := e3
    exact ⟨⟨x0, x1, x2, x3, x4, x5⟩, rfl, w0, w1, w2, w3, w4, w5⟩

/-- a slice that comes in reads as a list, if each element does -/
theorem sl_of_trod {α : Type} {en : α → List Value} {m : Nat} {Q : α → Prop} {T e : TypeId} (hT : Tryz.prog.underlying T = some (.slice e)) (hm : Tryz.prog.cellsOf e = m) (hm0 : 0 < m) (hlen : ∀ x, (en x).length = m)
    (hel : ∀ (fuel : Nat) (cs : List Value) (y : Option (DataW H × List MemPlace)), DataW.trod enc Tryz.prog W base spare held fuel e cs = y → y.isSome = true → ∃ x : α, cs = en x ∧ Q x)
    {A : Option Addr} {len cap : Nat} {x : DataW H × List MemPlace} (h : DataW.trod enc Tryz.prog W base spare held fuel T [.slice A len cap] = some x) :
    ∃ (b : Nat) (l : List α), Sl en m W b A len l ∧ (∀ x ∈ l, Q x) ∧ len ≤ 9223372036854775807 := by
  rcases DataW.trod_slice hT h with ⟨hcs, _⟩ | ⟨a, len', cap', elems, rest, n, _, hcs, _, hb, hl, hmx, hel', hread, _⟩
  · simp at hcs
    obtain ⟨rfl, rfl, rfl⟩ := hcs
    exact ⟨0, [], Sl.nil _ _ _, by simp, by omega⟩
  · simp at hcs
    obtain ⟨rfl, rfl, rfl⟩ := hcs
    unfold maxLen at hmx
    have hx : ∀ i, i < len → ∃ x : α, W.cells? base (a.add (i * m)) m = some (en x) ∧ Q x := by
      intro i hi
      have h1 := hread i hi
      rw [hm] at h1
      have h2 : (elems[i]?).isSome = true := by simp [hel', hi]
      cases hc : W.cells? base (a.add (i * m)) m with
      | none => rw [hc] at h1; simp at h1; omega
      | some cs =>
        rw [hc] at h1
        simp only [Option.bind_some] at h1
        obtain ⟨x, rfl, hq⟩ := hel n cs _ h1 h2
        exact ⟨x, rfl, hq⟩
    by_cases h0 : len = 0
    · subst h0
      exact ⟨0, [], ⟨rfl, fun h => absurd h (by omega)⟩, by simp, by omega⟩
    · obtain ⟨x0, hx0, _⟩ := hx 0 (by omega)
      rw [Nat.zero_mul] at hx0
      obtain ⟨_, _, hc0⟩ := World.cells?_some hx0
      have hc00 := hc0 0 hm0
      rw [List.getElem?_eq_getElem (by rw [hlen]; exact hm0)] at hc00
      have hsp : a.spot = none := by simpa [Addr.add] using World.cell?_spot hc00
      have hlt := block_lt_of_cell hc00
      obtain ⟨b, off, spot⟩ := a
      simp only at hsp
      subst hsp
      classical
      let l : List α := (List.range len).map fun i => if hi : i < len then (hx i hi).choose else x0
      have hll : l.length = len := by simp [l]
      refine ⟨b, l, ⟨hll.symm, fun _ => ⟨off, rfl, by simpa [Addr.add] using hlt, fun k hk j u hu => ?_⟩⟩, fun x hx' => ?_, by omega⟩
      · have hkl : k < len := by omega
        have e : l[k] = (hx k hkl).choose := by simp [l, hkl]
        rw [e] at hu
        obtain ⟨hcs, _⟩ := (hx k hkl).choose_spec
        obtain ⟨_, _, hc⟩ := World.cells?_some hcs
        have hj : j < m := by
          have := (List.getElem?_eq_some_iff.1 hu).1
          rw [hlen] at this
          exact this
        have h3 := hc j hj
        rw [hu] at h3
        rw [← h3]
        rw [addr_add, addr_add]
      · simp only [l, List.mem_map, List.mem_range] at hx'
        obtain ⟨i, hi, rfl⟩ := hx'
        rw [dif_pos hi]
        exact (hx i hi).choose_spec.2
theorem step_of_trod {cs : List Value} {y : Option (DataW H × List MemPlace)} (h : DataW.trod enc Tryz.prog W base spare held fuel 98 cs = y) (hy : y.isSome = true) : ∃ s : Step, cs = encP s ∧ (Lit.int .i64 s.fr).wf = true ∧ (Lit.int .i64 s.sh).wf = true := by
  obtain ⟨y, rfl⟩ := Option.isSome_iff_exists.1 hy
  obtain ⟨xs, n, _, _, hl, hlen, hf⟩ := DataW.trod_struct Tryz.underlying98 h
  have hl2 : cs.length = 2 := hl.trans (by kernel_rfl)
  have hc : Tryz.prog.cellsOf 3 = 1 := by kernel_rfl
  clear hl
  obtain ⟨a, b, rfl⟩ := list2 hl2
  have h0 : DataW.trod enc Tryz.prog W base spare held n 3 (List.take (Tryz.prog.cellsOf 3) (List.drop 0 [a, b])) = xs[0]? := hf 0 _ rfl
  have h1 : DataW.trod enc Tryz.prog W base spare held n 3 (List.take (Tryz.prog.cellsOf 3) (List.drop 1 [a, b])) = xs[1]? := hf 1 _ rfl
  simp only [hc, List.drop_zero, List.drop_succ_cons, List.take_succ_cons, List.take_zero] at h0 h1
  obtain ⟨x, rfl, hx⟩ := int_of_trod h0 (by simp at hlen; simp [hlen])
  obtain ⟨z, rfl, hz⟩ := int_of_trod h1 (by simp at hlen; simp [hlen])
  exact ⟨⟨x, z⟩, rfl, hx, hz⟩
theorem list3 {α : Type} {l : List α} (h : l.length = 3) : ∃ a b c, l = [a, b, c] := by
  match l, h with
  | [a, b, c], _ => exact ⟨a, b, c, rfl⟩

/-! whole arguments -/
set_option maxRecDepth 100000
variable {r : Reach} {b0 : Nat} {v : Value} {d : DataW H} {ps : List MemPlace}
theorem intArg_of (hv : Value.okWide Tryz.prog W r b0 3 v) (h : DataW.Trod enc Tryz.prog W base spare held 3 v d ps) : ∃ x : Int, v = .int .i64 x ∧ (Lit.int .i64 x).wf = true := by
  obtain ⟨x, rfl⟩ := okWide_int Tryz.underlying3 hv
  obtain ⟨fuel, hf⟩ := h
  obtain ⟨z, hz, hw⟩ := int_of_trod (a := .int .i64 x) hf rfl
  exact ⟨z, hz, hw⟩
theorem saleArg_of (hv : Value.okWide Tryz.prog W r b0 59 v) (h : DataW.Trod enc Tryz.prog W base spare held 59 v d ps) : ∃ s : Sale, v = .agg (encS s).toArray ∧ SaleWf s := by
  obtain ⟨cs, rfl, _⟩ := okWide_struct Tryz.underlying59 hv
  obtain ⟨fuel, hf⟩ := h
  obtain ⟨s, hs, hw⟩ := sale_of_trod (cs := cs.toList) hf rfl
  exact ⟨s, by rw [← hs], hw⟩
theorem stepArg_of (hv : Value.okWide Tryz.prog W r b0 98 v) (h : DataW.Trod enc Tryz.prog W base spare held 98 v d ps) : ∃ s : Step, v = .agg (encP s).toArray := by
  obtain ⟨cs, rfl, _⟩ := okWide_struct Tryz.underlying98 hv
  obtain ⟨fuel, hf⟩ := h
  obtain ⟨s, hs, _⟩ := step_of_trod (cs := cs.toList) hf rfl
  exact ⟨s, by rw [← hs]⟩
theorem bookArg_of (hv : Value.okWide Tryz.prog W r b0 24 v) (h : DataW.Trod enc Tryz.prog W base spare held 24 v d ps) :
    ∃ (st gd : Int) (A : Option Addr) (n c b : Nat) (l : List Sale), v = .agg #[.int .i64 st, .int .i64 gd, .slice A n c] ∧ Sl encS 6 W b A n l ∧ n ≤ 9223372036854775807 := by
  obtain ⟨v0, v1, v2, y0, y1, y2, m, rfl, _, _, h0, h1, h2⟩ := Go.Joins.open_agg3 Tryz.underlying24 (by kernel_rfl) (by kernel_rfl) hv h
  obtain ⟨x, rfl, hx⟩ := int_of_trod h0 rfl
  obtain ⟨z, rfl, hz⟩ := int_of_trod h1 rfl
  obtain ⟨A, n, c, hA⟩ := Go.Joins.slice_form Tryz.underlying22 h2
  simp only [List.cons.injEq, and_true] at hA
  subst hA
  obtain ⟨b, l, hl, _, hn⟩ := sl_of_trod (en := encS) (Q := SaleWf) Tryz.underlying22 (show Tryz.prog.cellsOf 59 = 6 by kernel_rfl) (by omega) encS_len (fun _ _ _ h hy => sale_of_trod h hy) h2
  exact ⟨x, z, A, n, c, b, l, rfl, hl, hn⟩
theorem stepsArg_of (hv : Value.okWide Tryz.prog W r b0 49 v) (h : DataW.Trod enc Tryz.prog W base spare held 49 v d ps) :
    ∃ (A : Option Addr) (n c b : Nat) (l : List Step), v = .slice A n c ∧ Sl encP 2 W b A n l ∧ n ≤ 9223372036854775807 := by
  obtain ⟨A, n, c, rfl⟩ := okWide_slice Tryz.underlying49 hv
  obtain ⟨fuel, hf⟩ := h
  obtain ⟨b, l, hl, _, hn⟩ := sl_of_trod (en := encP) (Q := fun _ => True) (A := A) (len := n) (cap := c) Tryz.underlying49 (show Tryz.prog.cellsOf 98 = 2 by kernel_rfl) (by omega) encP_len (fun _ _ _ h hy => by obtain ⟨s, hs, _⟩ := step_of_trod h hy; exact ⟨s, hs, trivial⟩) hf
  exact ⟨A, n, c, b, l, rfl, hl, hn⟩
theorem intsArg_of (hv : Value.okWide Tryz.prog W r b0 25 v) (h : DataW.Trod enc Tryz.prog W base spare held 25 v d ps) : ∃ (A : Option Addr) (n c : Nat), v = .slice A n c ∧ Nums W A n := by
  obtain ⟨A, n, c, rfl⟩ := okWide_slice Tryz.underlying25 hv
  refine ⟨A, n, c, rfl, ?_⟩
  obtain ⟨fuel, hf⟩ := h
  obtain ⟨b, l, hl, hw, hn⟩ := sl_of_trod (en := encI) (Q := fun x => (Lit.int .i64 x).wf = true) (A := A) (len := n) (cap := c) Tryz.underlying25 (show Tryz.prog.cellsOf 3 = 1 by kernel_rfl) (by omega) encI_len (fun fuel cs y h hy => by
    obtain ⟨y, rfl⟩ := Option.isSome_iff_exists.1 hy
    obtain ⟨x, hx, _, hw⟩ := DataW.trod_int Tryz.underlying3 h
    exact ⟨x, hx, hw⟩) hf
  exact ⟨b, l, hl, hw, hn⟩
end
end Go.Proofs.YtjmppionedcfeaaGreatDoor
