/-
  What the library's variables hold as a law's call begins, out of what the row lists and of the world's shape; strings and bytes that come in.
-/
import Derived.Test.YtkphgdkjjklajaaGreatDoorStrs
import Derived.Test.YtkphgdkjjklajaaGreatDoorOpenNet
import Derived.Shelf.Vars
import Derived.LaidMore
import Derived.Lay
import Derived.ProofKit
import Derived.SizedLaws
import Derived.Stop.Joined
set_option linter.unusedVariables false
set_option linter.unusedSimpArgs false
namespace Go.Proofs.YtkphgdkjjklajaaGreatDoor
open Go.ChangeShapes Go.WideShapes Go.ChangeAt Go.RowKit

theorem iface_of_trod {P : Program} {H : Type} {en : TypeId × Value → H} {W : World} {base fuel : Nat} {sp : Nat → Bool} {t : TypeId} {ms : Array (String × TypeId)} {cs : List Value} {nm : String} {d : DataW H} {p : List MemPlace}
    (ht : P.underlying t = some (.interface ms)) (h : DataW.trod en P W base sp false fuel t cs = some (.iface nm d, p)) : ∃ u v, cs = [.iface u v] := by
  cases fuel with
  | zero => simp [DataW.trod] at h
  | succ n =>
    unfold DataW.trod at h
    rw [ht] at h
    split at h <;> simp_all
theorem cell_of_var {P : Program} {W : World} {n : String} {g : Nat} {cs : Array Value} {v : Value} (hg : P.globalNamed n = some g) (hv : W.var? P n = some cs) (h : cs.toList = [v]) : W.cell? ⟨g, 0, none⟩ = some v := by
  rw [World.var?_cell hg hv 0, ← Array.getElem?_toList, h]
  rfl
/-- the wrap of a row that lists variables, with the world's shape -/
theorem wrap_laid {H : Type} {en : TypeId × Value → H} {C : Checked} {os : Os} {f : FuncId} {fn : Func} {s : ChangeSpec} {conds : List PathCond} {L : List (String × DataW Unit)}
    (own : ownKnob C.prog.godebug = none) (started : os.Started) (noInit : C.prog.inits.idxOf? f = none) (hfn : C.prog.funcs[f]? = some fn)
    (witness : ∃ (w : World) (tape : Tape) (i : Input), w.os = os ∧ (w.forCall tape i).Shaped C.prog ∧ i.vars = [] ∧ Input.okWide C.prog (w.forCall tape i) .any w.heap.size f i ∧
      ((s.pre en C.prog fn conds false (w.forCall tape i).memory i.args ∧ laidMetH C.prog L (w.forCall tape i).memory) ∧ sizedMet en C.prog fn (OpenSpec.ofChange s) false (w.forCall tape i).memory i.args) ∧ ({} : Assume).holds C.prog (lone (Frame.enter C.prog f i.args .normal) [] (w.forCall tape i)))
    (contract : ∀ (W : World) (base : Nat) (args : Array Value) (ds gs : List (DataW H)) (before : List MemPlace),
      (∀ (j : Nat) t v, fn.params[j]? = some t → args[j]? = some v → Value.okWide C.prog W .any base t v) →
      DataW.Whole en C.prog fn.params.toList s.vars false W args.toList ds gs before → laidMetH C.prog L W → W.ShapedOpen C.prog →
      Calls C.prog f args W fun e W' => ∃ v, e = .returned v ∧ s.post en C.prog fn false true false false W args v W') :
    ReturnsInHanded {} C os f .any (fun w args => (s.pre en C.prog fn conds false w args ∧ laidMetH C.prog L w) ∧ sizedMet en C.prog fn (OpenSpec.ofChange s) false w args) (s.post en C.prog fn false true false false) := by
  refine returnsInHanded_of_calls own started noInit witness ?_
  rintro w tape i _ hsh _ ⟨_, _, _, fn2, hfn2, _, _, _, _, hval⟩ ⟨⟨⟨ds, gs, before, hw, _⟩, hl⟩, _⟩ _
  obtain rfl : fn2 = fn := Option.some.inj (hfn2.symm.trans hfn)
  have hl2 : laidMetH C.prog L (w.forCall tape i).memory := hl
  refine (contract (w.forCall tape i) w.heap.size i.args ds gs before hval (DataW.Whole.of_heap (w' := w.forCall tape i) (by rfl) hw) (hl2.of_heap (by rfl)) hsh).mono ?_
  rintro e W' ⟨v, rfl, hp⟩
  exact ChangeSpec.post_blind hp

section
set_option maxRecDepth 100000
variable {H : Type} {enc : TypeId × Value → H} {W : World} {base : Nat} {spare : Nat → Bool} {held : Bool} {r : Reach} {b0 : Nat} {v : Value} {d : DataW H} {ps : List MemPlace}
theorem strArg_of (hv : Value.okWide Tryz.prog W r b0 9 v) (_ : DataW.Trod enc Tryz.prog W base spare held 9 v d ps) : ∃ s : ByteArray, v = .string s := by
  obtain ⟨s, rfl⟩ := okWide_string Tryz.underlying9 hv
  exact ⟨s, rfl⟩
theorem byteArg_of (hv : Value.okWide Tryz.prog W r b0 5 v) (h : DataW.Trod enc Tryz.prog W base spare held 5 v d ps) : ∃ x : UInt8, v = .int .u8 x.toNat := by
  obtain ⟨n, rfl, _, _, hw⟩ := open_int Tryz.underlying5 hv h
  have hb : 0 ≤ n ∧ n ≤ 255 := by simpa [Lit.wf, IntKind.min, IntKind.max, IntKind.signed, IntKind.bits] using hw
  obtain ⟨k, rfl⟩ := Int.eq_ofNat_of_zero_le hb.1
  refine ⟨UInt8.ofNat k, ?_⟩
  rw [UInt8.toNat_ofNat']
  have : k % 2 ^ 8 = k := Nat.mod_eq_of_lt (by omega)
  rw [this]
end
end Go.Proofs.YtkphgdkjjklajaaGreatDoor
