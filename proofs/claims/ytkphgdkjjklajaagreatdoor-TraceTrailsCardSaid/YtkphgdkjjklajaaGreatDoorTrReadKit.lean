/-
  What both readers of trails use.
-/
import Derived.Test.YtkphgdkjjklajaaGreatDoorTrReadLaw
import Derived.Test.YtkphgdkjjklajaaGreatDoorTrChk
import Derived.Test.YtkphgdkjjklajaaGreatDoorApp
import Derived.Deep.CutRange
import Derived.Deep.QuietTactic
import Derived.BigQuiet
set_option linter.unusedVariables false
set_option linter.unusedSimpArgs false
namespace Go.Proofs.YtkphgdkjjklajaaGreatDoor
open Go.RowKit

theorem info_moveN : (Tryz.prog.info? 58).map (fun i => (i.zero, i.size, i.bytes)) = some (some (.agg #[.int .i64 0, .int .i64 0, .int .i64 0]), 3, 24) := by kernel_rfl
theorem oneMN (x : Mv) : ∀ u ∈ encM x, u.oneCell' = true := by simp [encM, Value.oneCell']
/-- the net while it is read -/
structure RN (w : World) (B base : Nat) (s : NS) (Ab Am : Option Addr) (cb cm b2 : Nat) (W : World) : Prop where
  low : Below w.heap.size w W
  hd : Blk W B 25 #[.slice Ab s.bs.length cb, .slice Am s.ms.length cm]
  rb : W.ownsRow base 3 1 (.slice Ab s.bs.length cb) s.bs.length (s.bs.flatMap encI)
  rm : W.ownsRow b2 58 3 (.slice Am s.ms.length cm) s.ms.length (s.ms.flatMap encM)
  sep : ∀ g, Value.ownBlock (.slice Ab s.bs.length cb) = some g → g < b2
  lo : w.heap.size ≤ B ∧ B < base ∧ base ≤ b2 ∧ b2 ≤ W.heap.size
  nil : s.ms.length = 0 → Am = none ∧ cm = 0
section
variable {w W W' : World} {B base : Nat} {s : NS} {Ab Am : Option Addr} {cb cm b2 : Nat}
theorem RN.below (h : RN w B base s Ab Am cb cm b2 W) (hb : Below W.heap.size W W') : RN w B base s Ab Am cb cm b2 W' :=
  ⟨h.low.trans (hb.mono h.low.size), h.hd.below hb h.hd.lt, ownsRow_below h.rb hb (Nat.le_refl _), ownsRow_below h.rm hb (Nat.le_refl _), h.sep, ⟨h.lo.1, h.lo.2.1, h.lo.2.2.1, Nat.le_trans h.lo.2.2.2 hb.size⟩, h.nil⟩
theorem RN.drew (h : RN w B base s Ab Am cb cm b2 W) : RN w B base s Ab Am cb cm b2 W.drew := h.below (Below.refl _ W).drew
theorem RN.alloc (h : RN w B base s Ab Am cb cm b2 W) (o : Obj) : RN w B base s Ab Am cb cm b2 (W.alloc o) := h.below ((Below.refl _ W).alloc (Nat.le_refl _) o)
theorem RN.zero (h : RN w B base s Ab Am cb cm b2 W) (u v : Value) : Below w.heap.size w ((W.setCell ⟨B, 0, none⟩ u).setCell ⟨B, 1, none⟩ v) ∧ Blk ((W.setCell ⟨B, 0, none⟩ u).setCell ⟨B, 1, none⟩ v) B 25 #[u, v] :=
  ⟨(h.low.setCell (p := ⟨B, 0, none⟩) h.lo.1 u).setCell (p := ⟨B, 1, none⟩) h.lo.1 v, (h.hd.set_ 0 u).set_ 1 v⟩
theorem RN.last (h : RN w B base s Ab Am cb cm b2 W) (e : Bool) : RN w B base { s with en := e } Ab Am cb cm b2 W := ⟨h.low, h.hd, h.rb, h.rm, h.sep, h.lo, h.nil⟩
/-- a batch more -/
theorem RN.bat {W3 : World} {A3 : Option Addr} {c3 : Nat} (h : RN w B base s Ab Am cb cm b2 W) (x : Int) (h0 : s.ms.length = 0) (hown : W3.ownsRow base 3 1 (.slice A3 (s.bs.length + 1) c3) (s.bs.length + 1) (s.bs.flatMap encI ++ [x].flatMap encI)) (hg : W.grownBy W3 (Value.ownBlock (.slice Ab s.bs.length cb))) :
    RN w B base { s with bs := s.bs ++ [x] } A3 Am c3 cm W3.heap.size (W3.setCell ⟨B, 0, none⟩ (.slice A3 (s.bs.length + 1) c3)) ∧ Blk W3 B 25 #[.slice Ab s.bs.length cb, .slice Am s.ms.length cm] := by
  have hB : some B ≠ Value.ownBlock (.slice Ab s.bs.length cb) := fun e => by have := h.rb.lt B e.symm; have := h.lo; omega
  have hb := h.hd.grown hg hB
  have hlo := h.lo
  have hz := hg.size
  have hs3 : (W3.setCell ⟨B, 0, none⟩ (.slice A3 (s.bs.length + 1) c3)).heap.size = W3.heap.size := by simp [World.setCell]
  refine ⟨⟨(below_own h.rb hg h.low (by omega) (Nat.le_refl _)).setCell (p := ⟨B, 0, none⟩) hlo.1 _, ?_, ?_, ?_, ?_, ⟨hlo.1, hlo.2.1, by omega, by omega⟩, h.nil⟩, hb⟩
  · have := hb.set_ 0 (.slice A3 (s.bs.length + 1) c3)
    simpa [List.length_append] using this
  · have h2 := ownsRow_setCell hown (p := ⟨B, 0, none⟩) hlo.2.1 (.slice A3 (s.bs.length + 1) c3)
    rw [← List.flatMap_append] at h2
    simpa [List.length_append] using h2
  · obtain ⟨rfl, rfl⟩ := h.nil h0
    have e : s.ms = [] := List.eq_nil_of_length_eq_zero h0
    show World.ownsRow _ _ _ _ (.slice none s.ms.length 0) s.ms.length (s.ms.flatMap encM)
    rw [e]
    exact World.ownsRow_nil _ _ _ _
  · intro g e
    have e2 : Value.ownBlock (.slice A3 (s.bs.length + 1) c3) = some g := by simpa [List.length_append] using e
    exact (hown.lt g e2).2
/-- a move more -/
theorem RN.mov {W3 : World} {A3 : Option Addr} {c3 : Nat} (h : RN w B base s Ab Am cb cm b2 W) (x : Mv) (hown : W3.ownsRow b2 58 3 (.slice A3 (s.ms.length + 1) c3) (s.ms.length + 1) (s.ms.flatMap encM ++ [x].flatMap encM)) (hg : W.grownBy W3 (Value.ownBlock (.slice Am s.ms.length cm))) :
    RN w B base { s with ms := s.ms ++ [x] } Ab A3 cb c3 b2 (W3.setCell ⟨B, 1, none⟩ (.slice A3 (s.ms.length + 1) c3)) ∧ Blk W3 B 25 #[.slice Ab s.bs.length cb, .slice Am s.ms.length cm] := by
  have hlo := h.lo
  have hB : some B ≠ Value.ownBlock (.slice Am s.ms.length cm) := fun e => by have := h.rm.lt B e.symm; omega
  have hb := h.hd.grown hg hB
  have hz := hg.size
  have hs3 : (W3.setCell ⟨B, 1, none⟩ (.slice A3 (s.ms.length + 1) c3)).heap.size = W3.heap.size := by simp [World.setCell]
  refine ⟨⟨(below_own h.rm hg h.low (by omega) (Nat.le_refl _)).setCell (p := ⟨B, 1, none⟩) hlo.1 _, ?_, ?_, ?_, h.sep, ⟨hlo.1, hlo.2.1, hlo.2.2.1, by omega⟩, ?_⟩, hb⟩
  · have := hb.set_ 1 (.slice A3 (s.ms.length + 1) c3)
    simpa [List.length_append] using this
  · refine ownsRow_setCell (h.rb.kept hg ?_) (p := ⟨B, 1, none⟩) hlo.2.1 _
    cases hv : Value.ownBlock (.slice Ab s.bs.length cb) with
    | none => exact .inl rfl
    | some g => exact .inr (fun e => by have h1 := h.sep g hv; have h2 := (h.rm.lt g e.symm).1; omega)
  · have h2 := ownsRow_setCell hown (p := ⟨B, 1, none⟩) (by show B < b2; omega) (.slice A3 (s.ms.length + 1) c3)
    rw [← List.flatMap_append] at h2
    simpa [List.length_append] using h2
  · intro e
    simp at e
end
def ReadNPost (o : NO) (W : World) (e : Ending) (W' : World) : Prop := ∃ Ab Am cb cm b1 b2, e = .returned (.tuple #[netV Ab Am o.bs.length cb o.ms.length cm, .int .i64 o.row, .int .i64 o.er]) ∧ NetM W' b1 b2 Ab Am o.bs.length cb o.ms.length cm o.bs o.ms ∧ Below W.heap.size W W'
theorem word_eqN (wd v : List UInt8) : ((ByteArray.mk wd.toArray).toList == v) = decide (wd = v) := by
  rw [ByteArray.toList_eq]
  by_cases h : wd = v
  · subst h; simp
  · simp [h]
end Go.Proofs.YtkphgdkjjklajaaGreatDoor
