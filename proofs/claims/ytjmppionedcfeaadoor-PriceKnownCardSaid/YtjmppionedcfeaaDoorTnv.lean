/-
  price.Turnover.
-/
import Derived.Test.YtjmppionedcfeaaDoorDuesW
set_option linter.unusedVariables false
set_option linter.unusedSimpArgs false
namespace Go.Proofs.YtjmppionedcfeaaDoor
open Go.RowKit

def turnErr (st gd stall : Int) (l : List Sale) : Int := if check st gd l ≠ 0 then check st gd l else if inB stall 0 (st - 1) then 0 else 3
def turnOut (st gd stall : Int) (l : List Sale) : Span := if turnErr st gd stall l = 0 then turn l stall else ⟨0, 0⟩
def SpanPost (x : Span) (err : Int) (w : World) (e : Ending) (w' : World) : Prop := e = .returned (.tuple #[.agg #[.int .i64 x.lo, .int .i64 x.hi], .int .i64 err]) ∧ Below w.heap.size w w'

set_option maxRecDepth 100000 in
set_option maxHeartbeats 1000000 in
theorem turnover_any (st gd stall : Int) (b n c : Nat) (A : Option Addr) (l : List Sale) (w : World) (hl : Sl encS 6 w b A n l) (hn : n ≤ 1000000000000) :
    Calls Tryd.prog 11 #[.agg #[.int .i64 st, .int .i64 gd, .slice A n c], .int .i64 stall] w (SpanPost (turnOut st gd stall l) (turnErr st gd stall l) w) := by
  have hb0 : Below w.heap.size w ((w.alloc (.cells #[.int .i64 st, .int .i64 gd, .slice A n c] 24)).alloc (.cells #[.int .i64 0, .int .i64 0] 27)) := by go_grown
  have HB0 := Lib.hid hb0
  have HL := Lib.hid hl
  have hl0 := hl.old hb0
  have bk := (Blk.new w 24 #[.int .i64 st, .int .i64 gd, .slice A n c]).alloc (.cells #[.int .i64 0, .int .i64 0] 27)
  have bs := Blk.new (w.alloc (.cells #[.int .i64 st, .int .i64 gd, .slice A n c] 24)) 27 #[.int .i64 0, .int .i64 0]
  simp only [World.size_alloc] at bs
  clear hb0
  by_cases hc0 : check st gd l = 0
  · have HC := Lib.hid hc0
    have HIN := Lib.hid (check_zero.1 hc0)
    have hst1 : 1 ≤ st := HIN.out.st0
    have hst2 : st ≤ 8 := HIN.out.st1
    cases hg : inB stall 0 (st - 1)
    · have he : turnErr st gd stall l = 3 := by unfold turnErr; rw [if_neg (by simp [hc0]), hg]; rfl
      have ho : turnOut st gd stall l = ⟨0, 0⟩ := by unfold turnOut; rw [if_neg (by rw [he]; decide)]
      rw [he, ho]
      have HG := Lib.hid hg
      clear hg hc0 he ho
      go_enter Tryd.func11, Tryd.ntmps11
      go_wp2_with fail
      refine (check_any st gd b n c A l _ hl0 hn).mono ?_
      rintro e w1 ⟨rfl, hb1⟩
      rw [HC.out]
      have HLow := Lib.hid (Below.step hb1 HB0.out (Nat.le_refl _))
      have k0 := (bk.below hb1 bk.lt).cell 0
      have HS := Lib.hid (bs.below hb1 bs.lt)
      have s0 := HS.out.cell 0
      have s1 := HS.out.cell 1
      have f0 := HS.out.frozen 0
      have f1 := HS.out.frozen 1
      clear hl hl0 bk bs hb1
      go_wp2_with fail
      refine (in_any _ _ _ _).mono ?_
      rintro e w2 ⟨rfl, rfl⟩
      rw [HG.out]
      go_wp2_with fail
      have hX9 := (HS.out.set_ 0 (.int .i64 0)).set_ 1 (.int .i64 0)
      have hL9 := (HLow.out.setCell (p := ⟨w.heap.size + 1, 0, none⟩) (by show w.heap.size ≤ w.heap.size + 1; omega) (.int .i64 0)).setCell (p := ⟨w.heap.size + 1, 1, none⟩) (by show w.heap.size ≤ w.heap.size + 1; omega) (.int .i64 0)
      have d0 := hX9.cell 0
      have d1 := hX9.cell 1
      refine bodyPost_ret (v := .tuple #[.agg #[.int .i64 0, .int .i64 0], .int .i64 3]) (by simp [results, Tryd.f11, go_sem, d0, d1]) rfl ?_
      exact ⟨rfl, hL9⟩
    · have he : turnErr st gd stall l = 0 := by unfold turnErr; rw [if_neg (by simp [hc0]), hg]; rfl
      have ho : turnOut st gd stall l = turn l stall := by unfold turnOut; rw [if_pos he]
      rw [he, ho]
      have HG := Lib.hid hg
      clear hg hc0 he ho
      go_enter Tryd.func11, Tryd.ntmps11
      go_wp2_with fail
      refine (check_any st gd b n c A l _ hl0 hn).mono ?_
      rintro e w1 ⟨rfl, hb1⟩
      rw [HC.out]
      have HLow := Lib.hid (Below.step hb1 HB0.out (Nat.le_refl _))
      have HBK := Lib.hid (bk.below hb1 bk.lt)
      have k0 := HBK.out.cell 0
      have k1 := HBK.out.cell 1
      have k2 := HBK.out.cell 2
      have HS := Lib.hid (bs.below hb1 bs.lt)
      have HL1 := Lib.hid (HL.out.old HLow.out)
      clear hl hl0 bk bs hb1
      go_wp2_with fail
      refine (in_any _ _ _ _).mono ?_
      rintro e w2 ⟨rfl, rfl⟩
      rw [HG.out]
      go_wp2_with fail
      refine (turnovers_any st gd b n c A l _ HL1.out HIN.out).mono ?_
      rintro e w3 ⟨m, rfl, hm, hT, hb3⟩
      have hlk := hT.look stall
      simp only [vSpan] at hlk
      have HLow3 := Lib.hid (Below.step hb3 HLow.out (Nat.le_refl _))
      have HS3 := Lib.hid (HS.out.below hb3 HS.out.lt)
      have s0 := HS3.out.cell 0
      have s1 := HS3.out.cell 1
      have f0 := HS3.out.frozen 0
      have f1 := HS3.out.frozen 1
      clear hT hb3 k0 k1 k2
      generalize htl : (turn l stall).lo = tl at hlk
      generalize hth : (turn l stall).hi = th at hlk
      have HT := Lib.hid (And.intro htl hth)
      clear htl hth
      go_wp2_with fail
      have hX9 := (HS3.out.set_ 0 (.int .i64 tl)).set_ 1 (.int .i64 th)
      have hL9 := (HLow3.out.setCell (p := ⟨w.heap.size + 1, 0, none⟩) (by show w.heap.size ≤ w.heap.size + 1; omega) (.int .i64 tl)).setCell (p := ⟨w.heap.size + 1, 1, none⟩) (by show w.heap.size ≤ w.heap.size + 1; omega) (.int .i64 th)
      have d0 := hX9.cell 0
      have d1 := hX9.cell 1
      refine bodyPost_ret (v := .tuple #[.agg #[.int .i64 tl, .int .i64 th], .int .i64 0]) (by simp [results, Tryd.f11, go_sem, d0, d1]) rfl ?_
      exact ⟨by rw [HT.out.1, HT.out.2], hL9⟩
  · have he : turnErr st gd stall l = check st gd l := by unfold turnErr; rw [if_pos hc0]
    have ho : turnOut st gd stall l = ⟨0, 0⟩ := by unfold turnOut; rw [if_neg (by rw [he]; exact hc0)]
    rw [he, ho]
    go_enter Tryd.func11, Tryd.ntmps11
    go_wp2_with fail
    refine (check_any st gd b n c A l _ hl0 hn).mono ?_
    rintro e w1 ⟨rfl, hb1⟩
    have HLow := Lib.hid (Below.step hb1 HB0.out (Nat.le_refl _))
    have HS := Lib.hid (bs.below hb1 bs.lt)
    have s0 := HS.out.cell 0
    have s1 := HS.out.cell 1
    have f0 := HS.out.frozen 0
    have f1 := HS.out.frozen 1
    clear hl hl0 bk bs hb1
    go_wp2_with fail
    have hX9 := (HS.out.set_ 0 (.int .i64 0)).set_ 1 (.int .i64 0)
    have hL9 := (HLow.out.setCell (p := ⟨w.heap.size + 1, 0, none⟩) (by show w.heap.size ≤ w.heap.size + 1; omega) (.int .i64 0)).setCell (p := ⟨w.heap.size + 1, 1, none⟩) (by show w.heap.size ≤ w.heap.size + 1; omega) (.int .i64 0)
    have d0 := hX9.cell 0
    have d1 := hX9.cell 1
    refine bodyPost_ret (v := .tuple #[.agg #[.int .i64 0, .int .i64 0], .int .i64 (check st gd l)]) (by simp [results, Tryd.f11, go_sem, d0, d1]) rfl ?_
    exact ⟨rfl, hL9⟩
end Go.Proofs.YtjmppionedcfeaaDoor
