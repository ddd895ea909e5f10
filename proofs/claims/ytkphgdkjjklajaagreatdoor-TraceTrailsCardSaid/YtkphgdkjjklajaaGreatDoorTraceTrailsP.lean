/-
  Nets, moves and lists of numbers that come in, as the words of memory of this claim read them. What the library's variables hold as a law's call begins, out of what the row lists and of the world's shape; strings and bytes that come in. The law TraceTrails: for all arguments it returns true and panics nowhere; the library's tables and errors start as the program's text lays them (the card ties them).
-/
import Derived.Test.YtkphgdkjjklajaaGreatDoorNums
import Derived.Test.YtkphgdkjjklajaaGreatDoorTrEdges
import Derived.ChangeArms
import Derived.Lib.SmallJoins
import Derived.Test.YtkphgdkjjklajaaGreatDoorStrs
import Derived.Shelf.Vars
import Derived.LaidMore
import Derived.Lay
import Derived.ProofKit
import Derived.SizedLaws
import Derived.Stop.Joined
import Derived.Test.YtkphgdkjjklajaaGreatDoorRows
import Derived.Test.YtkphgdkjjklajaaGreatDoorCards
import Derived.Test.YtkphgdkjjklajaaGreatDoorTie
import Derived.Test.YtkphgdkjjklajaaGreatDoorTraceTrailsW
import Derived.OpenShut
import Derived.SevenTiedAt
set_option linter.unusedVariables false
set_option linter.unusedSimpArgs false
namespace Go.Proofs.YtkphgdkjjklajaaGreatDoor
open Go.ChangeShapes Go.WideShapes Go.ChangeAt Go.RowKit

theorem list3N {α : Type} {l : List α} (h : l.length = 3) : ∃ a b c, l = [a, b, c] := by
  match l, h with
  | [a, b, c], _ => exact ⟨a, b, c, rfl⟩
theorem addr_addN (b o n : Nat) : (⟨b, o, none⟩ : Addr).add n = ⟨b, o + n, none⟩ := by
  unfold Addr.add
  split
  · rename_i h; subst h; rfl
  · rfl
section
variable {H : Type} {enc : TypeId × Value → H} {W : World} {base : Nat} {spare : Nat → Bool} {held : Bool} {fuel : Nat}
theorem int_of_trodN {a : Value} {y : Option (DataW H × List MemPlace)} (h : DataW.trod enc Tryz.prog W base spare held fuel 3 [a] = y) (hy : y.isSome = true) : ∃ x : Int, a = .int .i64 x ∧ (Lit.int .i64 x).wf = true := by
  obtain ⟨y, rfl⟩ := Option.isSome_iff_exists.1 hy
  obtain ⟨x, hx, _, hw⟩ := DataW.trod_int Tryz.underlying3 h
  exact ⟨x, by simpa using hx, hw⟩
/-- a slice that comes in reads as a list, if each element does -/
theorem sl_of_trodN {α : Type} {en : α → List Value} {m : Nat} {Q : α → Prop} {T e : TypeId} (hT : Tryz.prog.underlying T = some (.slice e)) (hm : Tryz.prog.cellsOf e = m) (hm0 : 0 < m) (hlen : ∀ x, (en x).length = m)
    (hel : ∀ (fuel : Nat) (cs : List Value) (y : Option (DataW H × List MemPlace)), DataW.trod enc Tryz.prog W base spare held fuel e cs = y → y.isSome = true → ∃ x : α, cs = en x ∧ Q x)
    {A : Option Addr} {len cap : Nat} {x : DataW H × List MemPlace} (h : DataW.trod enc Tryz.prog W base spare held fuel T [.slice A len cap] = some x) :
    ∃ (b : Nat) (l : List α), Sl en m W b A len l ∧ (∀ x ∈ l, Q x) ∧ len ≤ 9223372036854775807 ∧ len ≤ cap := by
  rcases DataW.trod_slice hT h with ⟨hcs, _⟩ | ⟨a, len', cap', elems, rest, n, _, hcs, _, hb, hl, hmx, hel', hread, _⟩
  · simp at hcs
    obtain ⟨rfl, rfl, rfl⟩ := hcs
    exact ⟨0, [], Sl.nil _ _ _, by simp, by omega⟩
  · simp at hcs
    obtain ⟨rfl, rfl, rfl⟩ := hcs
    unfold maxLen at hmx
    have hx : ∀ i, i < len → ∃ x : α, W.cells? base (a.add (i * m)) m = some (en x) ∧ Q x := by
      intro i hi
      have h1 := hread i hi
      rw [hm] at h1
      have h2 : (elems[i]?).isSome = true := by simp [hel', hi]
      cases hc : W.cells? base (a.add (i * m)) m with
      | none => rw [hc] at h1; simp at h1; omega
      | some cs =>
        rw [hc] at h1
        simp only [Option.bind_some] at h1
        obtain ⟨x, rfl, hq⟩ := hel n cs _ h1 h2
        exact ⟨x, rfl, hq⟩
    by_cases h0 : len = 0
    · subst h0
      exact ⟨0, [], ⟨rfl, fun h => absurd h (by omega)⟩, by simp, by omega⟩
    · obtain ⟨x0, hx0, _⟩ := hx 0 (by omega)
      rw [Nat.zero_mul] at hx0
      obtain ⟨_, _, hc0⟩ := World.cells?_some hx0
      have hc00 := hc0 0 hm0
      rw [List.getElem?_eq_getElem (by rw [hlen]; exact hm0)] at hc00
      have hsp : a.spot = none := by simpa [Addr.add] using World.cell?_spot hc00
      have hlt := block_lt_of_cell hc00
      obtain ⟨b, off, spot⟩ := a
      simp only at hsp
      subst hsp
      classical
      let l : List α := (List.range len).map fun i => if hi : i < len then (hx i hi).choose else x0
      have hll : l.length = len := by simp [l]
      refine ⟨b, l, ⟨hll.symm, fun _ => ⟨off, rfl, by simpa [Addr.add] using hlt, fun k hk j u hu => ?_⟩⟩, fun x hx' => ?_, by omega⟩
      · have hkl : k < len := by omega
        have e : l[k] = (hx k hkl).choose := by simp [l, hkl]
        rw [e] at hu
        obtain ⟨hcs, _⟩ := (hx k hkl).choose_spec
        obtain ⟨_, _, hc⟩ := World.cells?_some hcs
        have hj : j < m := by
          have := (List.getElem?_eq_some_iff.1 hu).1
          rw [hlen] at this
          exact this
        have h3 := hc j hj
        rw [hu] at h3
        rw [← h3]
        rw [addr_addN, addr_addN]
      · simp only [l, List.mem_map, List.mem_range] at hx'
        obtain ⟨i, hi, rfl⟩ := hx'
        rw [dif_pos hi]
        exact (hx i hi).choose_spec.2
theorem move_of_trod {cs : List Value} {y : Option (DataW H × List MemPlace)} (h : DataW.trod enc Tryz.prog W base spare held fuel 58 cs = y) (hy : y.isSome = true) : ∃ s : Mv, cs = encM s ∧ (Lit.int .i64 s.fr).wf = true ∧ (Lit.int .i64 s.to).wf = true ∧ (Lit.int .i64 s.g).wf = true := by
  obtain ⟨y, rfl⟩ := Option.isSome_iff_exists.1 hy
  obtain ⟨xs, n, _, _, hl, hlen, hf⟩ := DataW.trod_struct Tryz.underlying58 h
  have hl2 : cs.length = 3 := hl.trans (by kernel_rfl)
  have hc : Tryz.prog.cellsOf 3 = 1 := by kernel_rfl
  clear hl
  obtain ⟨a, b, c, rfl⟩ := list3N hl2
  have h0 : DataW.trod enc Tryz.prog W base spare held n 3 (List.take (Tryz.prog.cellsOf 3) (List.drop 0 [a, b, c])) = xs[0]? := hf 0 _ rfl
  have h1 : DataW.trod enc Tryz.prog W base spare held n 3 (List.take (Tryz.prog.cellsOf 3) (List.drop 1 [a, b, c])) = xs[1]? := hf 1 _ rfl
  have h2 : DataW.trod enc Tryz.prog W base spare held n 3 (List.take (Tryz.prog.cellsOf 3) (List.drop 2 [a, b, c])) = xs[2]? := hf 2 _ rfl
  simp only [hc, List.drop_zero, List.drop_succ_cons, List.take_succ_cons, List.take_zero] at h0 h1 h2
  obtain ⟨x, rfl, hx⟩ := int_of_trodN h0 (by simp at hlen; simp [hlen])
  obtain ⟨z, rfl, hz⟩ := int_of_trodN h1 (by simp at hlen; simp [hlen])
  obtain ⟨u, rfl, hu⟩ := int_of_trodN h2 (by simp at hlen; simp [hlen])
  exact ⟨⟨x, z, u⟩, rfl, hx, hz, hu⟩

/-! whole arguments -/
set_option maxRecDepth 100000
variable {r : Reach} {b0 : Nat} {v : Value} {d : DataW H} {ps : List MemPlace}
theorem intArg_ofN (hv : Value.okWide Tryz.prog W r b0 3 v) (h : DataW.Trod enc Tryz.prog W base spare held 3 v d ps) : ∃ x : Int, v = .int .i64 x ∧ (Lit.int .i64 x).wf = true := by
  obtain ⟨x, rfl⟩ := okWide_int Tryz.underlying3 hv
  obtain ⟨fuel, hf⟩ := h
  obtain ⟨z, hz, hw⟩ := int_of_trodN (a := .int .i64 x) hf rfl
  exact ⟨z, hz, hw⟩
theorem moveArg_of (hv : Value.okWide Tryz.prog W r b0 58 v) (h : DataW.Trod enc Tryz.prog W base spare held 58 v d ps) : ∃ s : Mv, v = .agg (encM s).toArray ∧ (Lit.int .i64 s.fr).wf = true ∧ (Lit.int .i64 s.to).wf = true ∧ (Lit.int .i64 s.g).wf = true := by
  obtain ⟨cs, rfl, _⟩ := okWide_struct Tryz.underlying58 hv
  obtain ⟨fuel, hf⟩ := h
  obtain ⟨s, hs, hw⟩ := move_of_trod (cs := cs.toList) hf rfl
  exact ⟨s, by rw [← hs], hw⟩
theorem netArg_of (hv : Value.okWide Tryz.prog W r b0 25 v) (h : DataW.Trod enc Tryz.prog W base spare held 25 v d ps) :
    ∃ (Ab Am : Option Addr) (nb cb nm cm b1 b2 : Nat) (bs : List Int) (ms : List Mv), v = netV Ab Am nb cb nm cm ∧ NetM W b1 b2 Ab Am nb cb nm cm bs ms := by
  obtain ⟨v0, v1, y0, y1, m, rfl, _, _, h0, h1⟩ := Go.Joins.open_agg2 Tryz.underlying25 (by kernel_rfl) (by kernel_rfl) hv h
  obtain ⟨Ab, nb, cb, hA⟩ := Go.Joins.slice_form Tryz.underlying22 h0
  simp only [List.cons.injEq, and_true] at hA
  subst hA
  obtain ⟨Am, nm, cm, hB⟩ := Go.Joins.slice_form Tryz.underlying23 h1
  simp only [List.cons.injEq, and_true] at hB
  subst hB
  obtain ⟨b1, bs, hl1, _, _, hc1⟩ := sl_of_trodN (en := encI) (Q := fun x => (Lit.int .i64 x).wf = true) Tryz.underlying22 (show Tryz.prog.cellsOf 3 = 1 by kernel_rfl) (by omega) encI_len (fun fuel cs y h hy => by
    obtain ⟨y, rfl⟩ := Option.isSome_iff_exists.1 hy
    obtain ⟨x, hx, _, hw⟩ := DataW.trod_int Tryz.underlying3 h
    exact ⟨x, hx, hw⟩) h0
  obtain ⟨b2, ms, hl2, _, _, hc2⟩ := sl_of_trodN (en := encM) (Q := fun _ => True) Tryz.underlying23 (show Tryz.prog.cellsOf 58 = 3 by kernel_rfl) (by omega) encM_len (fun _ _ _ h hy => by obtain ⟨s, hs, _⟩ := move_of_trod h hy; exact ⟨s, hs, trivial⟩) h1
  exact ⟨Ab, Am, nb, cb, nm, cm, b1, b2, bs, ms, rfl, ⟨hl1, hl2, hc1, hc2⟩⟩
theorem listArg_of (hv : Value.okWide Tryz.prog W r b0 22 v) (h : DataW.Trod enc Tryz.prog W base spare held 22 v d ps) : ∃ (A : Option Addr) (n c b : Nat) (l : List Int), v = .slice A n c ∧ Sl encI 1 W b A n l ∧ n ≤ c := by
  obtain ⟨A, n, c, rfl⟩ := okWide_slice Tryz.underlying22 hv
  obtain ⟨fuel, hf⟩ := h
  obtain ⟨b, l, hl, _, _, hc⟩ := sl_of_trodN (en := encI) (Q := fun x => (Lit.int .i64 x).wf = true) (A := A) (len := n) (cap := c) Tryz.underlying22 (show Tryz.prog.cellsOf 3 = 1 by kernel_rfl) (by omega) encI_len (fun fuel cs y h hy => by
    obtain ⟨y, rfl⟩ := Option.isSome_iff_exists.1 hy
    obtain ⟨x, hx, _, hw⟩ := DataW.trod_int Tryz.underlying3 h
    exact ⟨x, hx, hw⟩) hf
  exact ⟨A, n, c, b, l, rfl, hl, hc⟩
theorem numsArg_of (hv : Value.okWide Tryz.prog W r b0 22 v) (h : DataW.Trod enc Tryz.prog W base spare held 22 v d ps) : ∃ (A : Option Addr) (n c : Nat), v = .slice A n c ∧ Nums W A n := by
  obtain ⟨A, n, c, rfl⟩ := okWide_slice Tryz.underlying22 hv
  refine ⟨A, n, c, rfl, ?_⟩
  obtain ⟨fuel, hf⟩ := h
  obtain ⟨b, l, hl, hw, hn, _⟩ := sl_of_trodN (en := encI) (Q := fun x => (Lit.int .i64 x).wf = true) (A := A) (len := n) (cap := c) Tryz.underlying22 (show Tryz.prog.cellsOf 3 = 1 by kernel_rfl) (by omega) encI_len (fun fuel cs y h hy => by
    obtain ⟨y, rfl⟩ := Option.isSome_iff_exists.1 hy
    obtain ⟨x, hx, _, hw⟩ := DataW.trod_int Tryz.underlying3 h
    exact ⟨x, hx, hw⟩) hf
  exact ⟨b, l, hl, hw, hn⟩
end
end Go.Proofs.YtkphgdkjjklajaaGreatDoor

namespace Go.Proofs.YtkphgdkjjklajaaGreatDoor
open Go.ChangeShapes Go.WideShapes Go.ChangeAt Go.RowKit

theorem iface_of_trod {P : Program} {H : Type} {en : TypeId × Value → H} {W : World} {base fuel : Nat} {sp : Nat → Bool} {t : TypeId} {ms : Array (String × TypeId)} {cs : List Value} {nm : String} {d : DataW H} {p : List MemPlace}
    (ht : P.underlying t = some (.interface ms)) (h : DataW.trod en P W base sp false fuel t cs = some (.iface nm d, p)) : ∃ u v, cs = [.iface u v] := by
  cases fuel with
  | zero => simp [DataW.trod] at h
  | succ n =>
    unfold DataW.trod at h
    rw [ht] at h
    split at h <;> simp_all
theorem cell_of_var {P : Program} {W : World} {n : String} {g : Nat} {cs : Array Value} {v : Value} (hg : P.globalNamed n = some g) (hv : W.var? P n = some cs) (h : cs.toList = [v]) : W.cell? ⟨g, 0, none⟩ = some v := by
  rw [World.var?_cell hg hv 0, ← Array.getElem?_toList, h]
  rfl
/-- the wrap of a row that lists variables, with the world's shape -/
theorem wrap_laid {H : Type} {en : TypeId × Value → H} {C : Checked} {os : Os} {f : FuncId} {fn : Func} {s : ChangeSpec} {conds : List PathCond} {L : List (String × DataW Unit)}
    (own : ownKnob C.prog.godebug = none) (started : os.Started) (noInit : C.prog.inits.idxOf? f = none) (hfn : C.prog.funcs[f]? = some fn)
    (witness : ∃ (w : World) (tape : Tape) (i : Input), w.os = os ∧ (w.forCall tape i).Shaped C.prog ∧ i.vars = [] ∧ Input.okWide C.prog (w.forCall tape i) .any w.heap.size f i ∧
      ((s.pre en C.prog fn conds false (w.forCall tape i).memory i.args ∧ laidMetH C.prog L (w.forCall tape i).memory) ∧ sizedMet en C.prog fn (OpenSpec.ofChange s) false (w.forCall tape i).memory i.args) ∧ ({} : Assume).holds C.prog (lone (Frame.enter C.prog f i.args .normal) [] (w.forCall tape i)))
    (contract : ∀ (W : World) (base : Nat) (args : Array Value) (ds gs : List (DataW H)) (before : List MemPlace),
      (∀ (j : Nat) t v, fn.params[j]? = some t → args[j]? = some v → Value.okWide C.prog W .any base t v) →
      DataW.Whole en C.prog fn.params.toList s.vars false W args.toList ds gs before → laidMetH C.prog L W → W.ShapedOpen C.prog →
      Calls C.prog f args W fun e W' => ∃ v, e = .returned v ∧ s.post en C.prog fn false true false false W args v W') :
    ReturnsInHanded {} C os f .any (fun w args => (s.pre en C.prog fn conds false w args ∧ laidMetH C.prog L w) ∧ sizedMet en C.prog fn (OpenSpec.ofChange s) false w args) (s.post en C.prog fn false true false false) := by
  refine returnsInHanded_of_calls own started noInit witness ?_
  rintro w tape i _ hsh _ ⟨_, _, _, fn2, hfn2, _, _, _, _, hval⟩ ⟨⟨⟨ds, gs, before, hw, _⟩, hl⟩, _⟩ _
  obtain rfl : fn2 = fn := Option.some.inj (hfn2.symm.trans hfn)
  have hl2 : laidMetH C.prog L (w.forCall tape i).memory := hl
  refine (contract (w.forCall tape i) w.heap.size i.args ds gs before hval (DataW.Whole.of_heap (w' := w.forCall tape i) (by rfl) hw) (hl2.of_heap (by rfl)) hsh).mono ?_
  rintro e W' ⟨v, rfl, hp⟩
  exact ChangeSpec.post_blind hp

section
set_option maxRecDepth 100000
variable {H : Type} {enc : TypeId × Value → H} {W : World} {base : Nat} {spare : Nat → Bool} {held : Bool} {r : Reach} {b0 : Nat} {v : Value} {d : DataW H} {ps : List MemPlace}
theorem strArg_of (hv : Value.okWide Tryz.prog W r b0 9 v) (_ : DataW.Trod enc Tryz.prog W base spare held 9 v d ps) : ∃ s : ByteArray, v = .string s := by
  obtain ⟨s, rfl⟩ := okWide_string Tryz.underlying9 hv
  exact ⟨s, rfl⟩
theorem byteArg_of (hv : Value.okWide Tryz.prog W r b0 5 v) (h : DataW.Trod enc Tryz.prog W base spare held 5 v d ps) : ∃ x : UInt8, v = .int .u8 x.toNat := by
  obtain ⟨n, rfl, _, _, hw⟩ := open_int Tryz.underlying5 hv h
  have hb : 0 ≤ n ∧ n ≤ 255 := by simpa [Lit.wf, IntKind.min, IntKind.max, IntKind.signed, IntKind.bits] using hw
  obtain ⟨k, rfl⟩ := Int.eq_ofNat_of_zero_le hb.1
  refine ⟨UInt8.ofNat k, ?_⟩
  rw [UInt8.toNat_ofNat']
  have : k % 2 ^ 8 = k := Nat.mod_eq_of_lt (by omega)
  rw [this]
end
end Go.Proofs.YtkphgdkjjklajaaGreatDoor

namespace Go.Proofs.YtkphgdkjjklajaaGreatDoor.traceTrails
open Go.ChangeShapes Go.WideShapes Go.ChangeAt Go.RowKit
open Go.Proofs.YtkphgdkjjklajaaGreatDoor

set_option maxRecDepth 100000
theorem env_of {W : World} (h : laidMetH Tryz.prog Rows.traceTrailsRow.laid W) (hsh : W.ShapedOpen Tryz.prog) : TEnv W := by
  rw [MakeChecks.laidMetH_plain _ _ _ (by kernel_rfl)] at h
  obtain ⟨ps, ⟨g0, t0, cs0, f0, p0, q0, hg0, ht0, hv0, hd0, ⟨g1, t1, cs1, f1, p1, q1, hg1, ht1, hv1, hd1, ⟨g2, t2, cs2, f2, p2, q2, hg2, ht2, hv2, hd2, ⟨g3, t3, cs3, f3, p3, q3, hg3, ht3, hv3, hd3, ⟨g4, t4, cs4, f4, p4, q4, hg4, ht4, hv4, hd4, ⟨g5, t5, cs5, f5, p5, q5, hg5, ht5, hv5, hd5, _⟩, _⟩, _⟩, _⟩, _⟩, _⟩, _, _⟩ := h
  refine ⟨?_, cell_of_shapedOpen_int (zero := #[.int .i64 0]) (t := 3) hsh (of_decide_eq_true (by kernel_rfl)) (by kernel_rfl) rfl (by kernel_rfl) (by kernel_rfl) Tryz.underlying3, ?_, ?_⟩
  · obtain rfl := Option.some.inj ((show Tryz.prog.globalNamed "internal/strconv.uint64pow10" = some 3 by kernel_rfl).symm.trans hg2)
    obtain rfl := Option.some.inj ((show (Tryz.prog.globals[3]?).map (·.type) = some 172 by kernel_rfl).symm.trans ht2)
    show W.var? Tryz.prog "internal/strconv.uint64pow10" = _
    rw [hv2, ← Lib.cells_of_tab (k := .u64) (zs := Lib.pow10Tab) Tryz.underlying172 Tryz.underlying59 (by kernel_rfl) (by kernel_rfl) hd2]
  · obtain rfl := Option.some.inj ((show Tryz.prog.globalNamed "strconv.ErrSyntax" = some 0 by kernel_rfl).symm.trans hg5)
    obtain rfl := Option.some.inj ((show (Tryz.prog.globals[0]?).map (·.type) = some 69 by kernel_rfl).symm.trans ht5)
    obtain ⟨u, v, hc⟩ := iface_of_trod Tryz.underlying69 hd5
    exact ⟨u, v, cell_of_var hg5 hv5 hc⟩
  · obtain rfl := Option.some.inj ((show Tryz.prog.globalNamed "strconv.ErrRange" = some 1 by kernel_rfl).symm.trans hg4)
    obtain rfl := Option.some.inj ((show (Tryz.prog.globals[1]?).map (·.type) = some 69 by kernel_rfl).symm.trans ht4)
    obtain ⟨u, v, hc⟩ := iface_of_trod Tryz.underlying69 hd4
    exact ⟨u, v, cell_of_var hg4 hv4 hc⟩

theorem lifted (os : Os) (started : os.Started) (H : Type) (enc : TypeId × Value → H) :
    ReturnsInHanded {} Tryz.checked os 3 .any (fun w args => (Rows.traceTrailsSpec.pre enc Tryz.prog Tryz.f3 Rows.traceTrailsRow.domain false w args ∧ laidMetH Tryz.prog Rows.traceTrailsRow.laid w) ∧ sizedMet enc Tryz.prog Tryz.f3 (OpenSpec.ofChange Rows.traceTrailsSpec) false w args)
      (Rows.traceTrailsSpec.post enc Tryz.prog Tryz.f3 false true false false) := by
  refine wrap_laid (C := Tryz.checked) own started (by kernel_rfl) Tryz.func3
    (ChangeSpec.witness_shaped (enc := enc) (C := Tryz.checked) (os := os) (X := fun w _ => laidMetH Tryz.prog Rows.traceTrailsRow.laid w) false (World.laidAll Tryz.prog os Rows.traceTrailsRow.laid) #[.agg #[.slice none 0 0, .slice none 0 0], .string ⟨#[]⟩, .slice none 0 0, .int .i64 0, .int .i64 0, .int .u8 0] 8 (World.laidAll_os _ _ _)
      (World.shaped_of_ZipB (by kernel_rfl) (by kernel_rfl)) (by kernel_rfl) (by kernel_rfl) (by kernel_rfl)
      (by rw [MakeChecks.laidMetH_plain _ _ _ (by kernel_rfl)]; exact laidMet_laidAll _ (by kernel_rfl) (by kernel_rfl))) ?_
  intro W base args ds gs before hval0 hW hL hsh
  have hval : ∀ (j : Nat) t v, Tryz.f3.params[j]? = some t → args[j]? = some v → Value.okWide Tryz.prog W .any base t v := hval0
  have hW' := hW
  obtain ⟨p, q, hA0, hV, rfl, hfz, hnd⟩ := hW
  have hA : DataW.TrodAll enc Tryz.prog W 0 (fun _ => true) true Tryz.f3.params.toList args.toList ds p := hA0
  rw [Tryz.params3] at hA hval
  obtain ⟨v0, vs0, d0, ds0, p0, q0, hargs0, rfl, rfl, h0, r0⟩ := trodAll_cons hA
  obtain ⟨v1, vs1, d1, ds1, p1, q1, hargs1, rfl, rfl, h1, r1⟩ := trodAll_cons r0
  obtain ⟨v2, vs2, d2, ds2, p2, q2, hargs2, rfl, rfl, h2, r2⟩ := trodAll_cons r1
  obtain ⟨v3, vs3, d3, ds3, p3, q3, hargs3, rfl, rfl, h3, r3⟩ := trodAll_cons r2
  obtain ⟨v4, vs4, d4, ds4, p4, q4, hargs4, rfl, rfl, h4, r4⟩ := trodAll_cons r3
  obtain ⟨v5, vs5, d5, ds5, p5, q5, hargs5, rfl, rfl, h5, r5⟩ := trodAll_cons r4
  obtain ⟨rfl, rfl, rfl⟩ := trodAll_nil r5
  subst hargs5
  subst hargs4
  subst hargs3
  subst hargs2
  subst hargs1
  obtain rfl : args = #[v0, v1, v2, v3, v4, v5] := by cases args; simp_all
  obtain ⟨rfl, rfl⟩ := trodVars_none hV
  have k0 := h0
  have lt0 : ∀ x ∈ p0, x.block < W.heap.size := by obtain ⟨m, hm⟩ := k0; exact DataW.trod_lt m _ _ _ hm
  obtain ⟨Ab0, Am0, nb0, cb0, nm0, cm0, b10, b20, bs0, ms0, rfl, a0_0⟩ := netArg_of (hval 0 25 v0 rfl rfl) h0
  have k1 := h1
  have lt1 : ∀ x ∈ p1, x.block < W.heap.size := by obtain ⟨m, hm⟩ := k1; exact DataW.trod_lt m _ _ _ hm
  obtain ⟨s1, rfl⟩ := strArg_of (hval 1 9 v1 rfl rfl) h1
  have k2 := h2
  have lt2 : ∀ x ∈ p2, x.block < W.heap.size := by obtain ⟨m, hm⟩ := k2; exact DataW.trod_lt m _ _ _ hm
  obtain ⟨A2, n2, c2, rfl, a2_0⟩ := numsArg_of (hval 2 22 v2 rfl rfl) h2
  have k3 := h3
  have lt3 : ∀ x ∈ p3, x.block < W.heap.size := by obtain ⟨m, hm⟩ := k3; exact DataW.trod_lt m _ _ _ hm
  obtain ⟨x3, rfl, a3_0⟩ := intArg_ofN (hval 3 3 v3 rfl rfl) h3
  have k4 := h4
  have lt4 : ∀ x ∈ p4, x.block < W.heap.size := by obtain ⟨m, hm⟩ := k4; exact DataW.trod_lt m _ _ _ hm
  obtain ⟨x4, rfl, a4_0⟩ := intArg_ofN (hval 4 3 v4 rfl rfl) h4
  have k5 := h5
  have lt5 : ∀ x ∈ p5, x.block < W.heap.size := by obtain ⟨m, hm⟩ := k5; exact DataW.trod_lt m _ _ _ hm
  obtain ⟨y5, rfl⟩ := byteArg_of (hval 5 5 v5 rfl rfl) h5
  clear hA0 hval0
  refine (traceTrails_any Ab0 Am0 nb0 cb0 nm0 cm0 b10 b20 bs0 ms0 s1 A2 n2 c2 x3 x4 y5 W a0_0 a2_0 (bounds_i64 a3_0) (bounds_i64 a4_0) (env_of hL hsh)).mono fun e W' ⟨he, bel⟩ => ?_
  subst he
  exact ⟨_, rfl, _, _, _, [], _, [], hW', trodAll_mk1 (shut_bool Tryz.underlying4 _), (trodAll_cons_mk (Below.trod laidOut (by kernel_rfl) (of_decide_eq_true (by kernel_rfl)) k0 bel lt0) (trodAll_cons_mk (Below.trod laidOut (by kernel_rfl) (of_decide_eq_true (by kernel_rfl)) k1 bel lt1) (trodAll_cons_mk (Below.trod laidOut (by kernel_rfl) (of_decide_eq_true (by kernel_rfl)) k2 bel lt2) (trodAll_cons_mk (Below.trod laidOut (by kernel_rfl) (of_decide_eq_true (by kernel_rfl)) k3 bel lt3) (trodAll_cons_mk (Below.trod laidOut (by kernel_rfl) (of_decide_eq_true (by kernel_rfl)) k4 bel lt4) (trodAll_cons_mk (Below.trod laidOut (by kernel_rfl) (of_decide_eq_true (by kernel_rfl)) k5 bel lt5) trodAll_mk0)))))), rfl, bel.frame _, fun h => by cases h⟩

theorem over : Rows.TraceTrailsSaid :=
  OpenClaim.holds_of_wide 3 Tryz.f3 rfl rfl rfl rfl rfl rfl rfl ⟨rfl, rfl, rfl, rfl, rfl⟩ rfl rfl rfl rfl rfl (by kernel_rfl) Tryz.func3 (by kernel_rfl)
    (of_decide_eq_true (by kernel_rfl)) (by unfold Func.isWrapper; first | (rw [if_pos (by decide +kernel)]; kernel_rfl) | (rw [if_neg (by decide +kernel)]; exact ⟨rfl, rfl⟩))
    (fun os started H enc _ => lifted os started H enc)

/-- the statement: the tied card -/
theorem proved : Rows.TraceTrailsCardSaid :=
  Claim7.holds_tied_plain_at .later [] [.data, .data, .data, .data, .sentinel, .sentinel, .pinned] true (true, "d63b6f694e4e6098d78cb3805cb86028d3a5a537c3014c6059b39bd21667fa82") true over (fun _ h => by cases h) (by kernel_rfl) (fun _ h => by cases h) traceTrails_row_tie rfl ⟨rfl, rfl⟩ (by kernel_rfl) rfl
    (fun f fn hf hfn => by
      obtain rfl : f = 3 := Option.some.inj ((show Tryz.prog.funcNamed "shambles/shambleslaw05.TraceTrails" = some 3 by kernel_rfl).symm.trans hf) |>.symm
      obtain rfl : fn = Tryz.f3 := (Option.some.inj (Tryz.func3.symm.trans hfn)).symm
      exact ⟨by kernel_rfl, fun j t ht => by
        rw [Tryz.params3] at ht
        have hm : t ∈ [25, 9, 22, 3, 3, 5] := by simpa using Array.mem_of_getElem? ht
        have hall : ([25, 9, 22, 3, 3, 5].all fun u => !Tryz.prog.wantsStandIn u) = true := by kernel_rfl
        exact (show Tryz.prog.wantsStandIn t = false by simpa using List.all_eq_true.1 hall t hm)⟩)
    (by kernel_rfl)
end Go.Proofs.YtkphgdkjjklajaaGreatDoor.traceTrails
