/-
  What both readers of accounts use.
-/
import Derived.Test.YtjmppionedcfeaaGreatDoorReadLaw
import Derived.Test.YtjmppionedcfeaaGreatDoorSealW
import Derived.Deep.CutRange
import Derived.Deep.QuietTactic
import Derived.BigQuiet
set_option linter.unusedVariables false
set_option linter.unusedSimpArgs false
namespace Go.Proofs.YtjmppionedcfeaaGreatDoor
open Go.RowKit

theorem info_sale2 : (Tryz.prog.info? 59).map (fun i => (i.zero, i.size, i.bytes)) = some (some (.agg #[.int .i64 0, .int .i64 0, .int .i64 0, .int .i64 0, .int .i64 0, .int .i64 0]), 6, 48) := by kernel_rfl
/-- the book while it is read -/
structure RB (w : World) (B base : Nat) (s : RS) (A : Option Addr) (c : Nat) (W : World) : Prop where
  low : Below w.heap.size w W
  hd : Blk W B 24 #[.int .i64 s.st, .int .i64 s.gd, .slice A s.l.length c]
  row : W.ownsRow base 59 6 (.slice A s.l.length c) s.l.length (s.l.flatMap encS)
  lo : w.heap.size ≤ B
  hi : B < base
  hz : base ≤ W.heap.size
theorem RB.below {w W W' : World} {B base : Nat} {s : RS} {A : Option Addr} {c : Nat} (h : RB w B base s A c W) (hb : Below W.heap.size W W') : RB w B base s A c W' :=
  ⟨Below.step hb h.low (Nat.le_refl _), h.hd.below hb h.hd.lt, ownsRow_below h.row hb (Nat.le_refl _), h.lo, h.hi, Nat.le_trans h.hz hb.size⟩
theorem RB.zero {w W : World} {B base : Nat} {s : RS} {A : Option Addr} {c : Nat} (h : RB w B base s A c W) (u v z : Value) :
    Below w.heap.size w (((W.setCell ⟨B, 0, none⟩ u).setCell ⟨B, 1, none⟩ v).setCell ⟨B, 2, none⟩ z) ∧ Blk (((W.setCell ⟨B, 0, none⟩ u).setCell ⟨B, 1, none⟩ v).setCell ⟨B, 2, none⟩ z) B 24 #[u, v, z] :=
  ⟨((h.low.setCell (p := ⟨B, 0, none⟩) h.lo u).setCell (p := ⟨B, 1, none⟩) h.lo v).setCell (p := ⟨B, 2, none⟩) h.lo z, ((h.hd.set_ 0 u).set_ 1 v).set_ 2 z⟩
theorem RB.drew {w W : World} {B base : Nat} {s : RS} {A : Option Addr} {c : Nat} (h : RB w B base s A c W) : RB w B base s A c W.drew := h.below (Below.refl _ W).drew
def ReadPost (o : RO) (W : World) (e : Ending) (W' : World) : Prop := ∃ A c b, e = .returned (.tuple #[.agg #[.int .i64 o.st, .int .i64 o.gd, .slice A o.l.length c], .int .i64 o.row, .int .i64 o.er]) ∧ Sl encS 6 W' b A o.l.length o.l ∧ Below W.heap.size W W'

theorem cell_grown {W W' : World} {b o : Nat} {u : Value} {row : Option Nat} (h : W.cell? ⟨b, o, none⟩ = some u) (hg : W.grownBy W' row) (hne : some b ≠ row) : W'.cell? ⟨b, o, none⟩ = some u := by
  rw [← h]
  unfold World.cell?
  rw [hg.block b (Lib.lt_of_cell h) hne]
theorem cell_put {W : World} {B j b o : Nat} {v u : Value} (h : W.cell? ⟨b, o, none⟩ = some u) (hne : b ≠ B) : (W.setCell ⟨B, j, none⟩ v).cell? ⟨b, o, none⟩ = some u :=
  cell_grown h (only_setCell (only_refl W B) (.inl rfl) v) (fun e => hne (by injection e))
theorem all_old {W W' : World} {B b o : Nat} {v v0 v1 v2 v3 v4 v5 : Value} (h : (W.cell? ⟨B, 2, none⟩ = some v ∧ W.cell? ⟨b, o, none⟩ = some v0 ∧ W.cell? ⟨b, o + 1, none⟩ = some v1 ∧ W.cell? ⟨b, o + 2, none⟩ = some v2 ∧ W.cell? ⟨b, o + 3, none⟩ = some v3 ∧ W.cell? ⟨b, o + 4, none⟩ = some v4 ∧ W.cell? ⟨b, o + 5, none⟩ = some v5)) (hb : Below W.heap.size W W') : (W'.cell? ⟨B, 2, none⟩ = some v ∧ W'.cell? ⟨b, o, none⟩ = some v0 ∧ W'.cell? ⟨b, o + 1, none⟩ = some v1 ∧ W'.cell? ⟨b, o + 2, none⟩ = some v2 ∧ W'.cell? ⟨b, o + 3, none⟩ = some v3 ∧ W'.cell? ⟨b, o + 4, none⟩ = some v4 ∧ W'.cell? ⟨b, o + 5, none⟩ = some v5) :=
  ⟨cell_old h.1 hb, cell_old h.2.1 hb, cell_old h.2.2.1 hb, cell_old h.2.2.2.1 hb, cell_old h.2.2.2.2.1 hb, cell_old h.2.2.2.2.2.1 hb, cell_old h.2.2.2.2.2.2 hb⟩
theorem all_grown {W W' : World} {B b o : Nat} {row : Option Nat} {v v0 v1 v2 v3 v4 v5 : Value} (h : (W.cell? ⟨B, 2, none⟩ = some v ∧ W.cell? ⟨b, o, none⟩ = some v0 ∧ W.cell? ⟨b, o + 1, none⟩ = some v1 ∧ W.cell? ⟨b, o + 2, none⟩ = some v2 ∧ W.cell? ⟨b, o + 3, none⟩ = some v3 ∧ W.cell? ⟨b, o + 4, none⟩ = some v4 ∧ W.cell? ⟨b, o + 5, none⟩ = some v5)) (hb : W.grownBy W' row) (hB : some B ≠ row) (hne : some b ≠ row) : (W'.cell? ⟨B, 2, none⟩ = some v ∧ W'.cell? ⟨b, o, none⟩ = some v0 ∧ W'.cell? ⟨b, o + 1, none⟩ = some v1 ∧ W'.cell? ⟨b, o + 2, none⟩ = some v2 ∧ W'.cell? ⟨b, o + 3, none⟩ = some v3 ∧ W'.cell? ⟨b, o + 4, none⟩ = some v4 ∧ W'.cell? ⟨b, o + 5, none⟩ = some v5) :=
  ⟨cell_grown h.1 hb hB, cell_grown h.2.1 hb hne, cell_grown h.2.2.1 hb hne, cell_grown h.2.2.2.1 hb hne, cell_grown h.2.2.2.2.1 hb hne, cell_grown h.2.2.2.2.2.1 hb hne, cell_grown h.2.2.2.2.2.2 hb hne⟩
theorem RB.day {w W : World} {B base : Nat} {s : RS} {A : Option Addr} {c : Nat} (h : RB w B base s A c W) (a b : Int) : RB w B base { s with st := a, gd := b } A c ((W.setCell ⟨B, 0, none⟩ (.int .i64 a)).setCell ⟨B, 1, none⟩ (.int .i64 b)) :=
  ⟨(h.low.setCell (p := ⟨B, 0, none⟩) h.lo _).setCell (p := ⟨B, 1, none⟩) h.lo _, (h.hd.set_ 0 _).set_ 1 _, ownsRow_die (ownsRow_die h.row (only_setCell (only_refl W B) (.inl rfl) _) h.hi) (only_setCell (only_refl _ B) (.inl rfl) _) h.hi, h.lo, h.hi, by simpa [World.setCell] using h.hz⟩
theorem RB.last {w W : World} {B base : Nat} {s : RS} {A : Option Addr} {c : Nat} (h : RB w B base s A c W) (e : Bool) (x : Int) : RB w B base { s with en := e, se := x } A c W := ⟨h.low, h.hd, h.row, h.lo, h.hi, h.hz⟩
theorem RB.sale {w W W3 : World} {B base : Nat} {s : RS} {A A3 : Option Addr} {c c3 : Nat} (h : RB w B base s A c W) (x : Sale) (hown : W3.ownsRow base 59 6 (.slice A3 (s.l.length + 1) c3) (s.l.length + 1) (s.l.flatMap encS ++ [x].flatMap encS)) (hg : W.grownBy W3 (Value.ownBlock (.slice A s.l.length c))) :
    RB w B base { s with l := s.l ++ [x] } A3 c3 (W3.setCell ⟨B, 2, none⟩ (.slice A3 (s.l.length + 1) c3)) ∧ Blk W3 B 24 #[.int .i64 s.st, .int .i64 s.gd, .slice A s.l.length c] := by
  have hB : some B ≠ Value.ownBlock (.slice A s.l.length c) := fun e => by have := h.row.lt B e.symm; have := h.hi; omega
  have hb := h.hd.grown hg hB
  refine ⟨⟨(below_own h.row hg h.low (Nat.le_of_lt (Nat.lt_of_le_of_lt h.lo h.hi)) (Nat.le_refl _)).setCell (p := ⟨B, 2, none⟩) h.lo _, ?_, ?_, h.lo, h.hi, Nat.le_trans h.hz (by have := hg.size; simpa [World.setCell] using this)⟩, hb⟩
  · have := hb.set_ 2 (.slice A3 (s.l.length + 1) c3)
    simpa [List.length_append] using this
  · have hg2 : W3.grownBy (W3.setCell ⟨B, 2, none⟩ (.slice A3 (s.l.length + 1) c3)) (some B) := only_setCell (only_refl W3 B) (.inl rfl) _
    have h2 := ownsRow_die hown hg2 h.hi
    rw [← List.flatMap_append] at h2
    simpa [List.length_append] using h2
/-- what parse hands back, in one form -/
theorem parse_one {o : Option (List UInt8 × List Int)} {W W' : World} {e : Ending} (h : ParsePost o W e W') : ∃ (wd : List UInt8) (l : List Int) (ok : Bool) (A : Option Addr) (c b : Nat),
    e = .returned (.tuple #[.string ⟨wd.toArray⟩, .slice A l.length c, .bool ok]) ∧ Sl encI 1 W' b A l.length l ∧ W.heap.size ≤ b ∧ Below W.heap.size W W' ∧ o = (if ok then some (wd, l) else none) := by
  cases o with
  | none =>
    obtain ⟨rfl, hB⟩ := h
    exact ⟨[], [], false, none, 0, W.heap.size, rfl, Sl.nil _ _ _, Nat.le_refl _, hB, rfl⟩
  | some q =>
    obtain ⟨wd, l⟩ := q
    obtain ⟨A, c, b, rfl, hS, hb, hB⟩ := h
    exact ⟨wd, l, true, A, c, b, rfl, hS, hb, hB, rfl⟩
theorem word_eq (wd v : List UInt8) : ((ByteArray.mk wd.toArray).toList == v) = decide (wd = v) := by
  rw [ByteArray.toList_eq]
  by_cases h : wd = v
  · subst h; simp
  · simp [h]

end Go.Proofs.YtjmppionedcfeaaGreatDoor
