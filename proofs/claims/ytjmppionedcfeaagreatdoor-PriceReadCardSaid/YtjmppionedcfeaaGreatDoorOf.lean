/-
  price.of: the iterator over the sales of a good.
-/
import Derived.Test.YtjmppionedcfeaaGreatDoorChk
import Derived.Test.YtjmppionedcfeaaGreatDoorRegIn
import Derived.RangeFuncNested
import Derived.RangeFuncBound
import Derived.RangeFuncCalls
import Derived.RangeFuncLeaves
import Derived.RangeFuncBox
import Derived.Shelf.Abstract
import Derived.Shelf.RegionOpen
import Derived.OwnWalkIn
import Derived.TacticsInMore
import Derived.LoopNIn
import Derived.LoopIn
set_option linter.unusedVariables false
set_option linter.unusedSimpArgs false
namespace Go.Proofs.YtjmppionedcfeaaGreatDoor
open Go.RowKit Go.Shelf
attribute [local go_sem] Oper.semAt_some

/-- what a round over a book's sales keeps: whatever lies below n₀, and the block of the good -/
def KpOf (n₀ Bg : Nat) (W W' : World) : Prop := Below n₀ W W' ∧ W'.heap[Bg]? = W.heap[Bg]?
theorem KpOf.refl (n₀ Bg : Nat) (W : World) : KpOf n₀ Bg W W := ⟨Below.refl _ _, rfl⟩
theorem KpOf.trans {n₀ Bg : Nat} {A B C : World} (h : KpOf n₀ Bg A B) (k : KpOf n₀ Bg B C) : KpOf n₀ Bg A C := ⟨h.1.trans k.1, k.2.trans h.2⟩
theorem KpOf.alloc {n₀ Bg : Nat} {A B : World} (h : KpOf n₀ Bg A B) (hB : n₀ ≤ B.heap.size) (hg : Bg < B.heap.size) (o : Obj) : KpOf n₀ Bg A (B.alloc o) := ⟨h.1.alloc hB o, (Below.heap_alloc B o Bg hg).trans h.2⟩

/-- the sales of a good -/
def ofGood (good : Int) (l : List Sale) : List Sale := l.filter fun s => decide (s.gd = good)
theorem ofGood_snoc (good : Int) (l : List Sale) (k : Nat) (hk : k < l.length) : ofGood good (l.take (k + 1)) = if l[k].gd = good then ofGood good (l.take k) ++ [l[k]] else ofGood good (l.take k) := by
  rw [take_snoc l k hk]
  unfold ofGood
  rw [List.filter_append]
  by_cases h : l[k].gd = good <;> simp [h]
theorem ofGood_le (good : Int) (l : List Sale) : (ofGood good l).length ≤ l.length := List.length_filter_le _ _

def saleV (s : Sale) : Array Value := #[.agg #[.int .i64 s.st, .int .i64 s.gd, .int .i64 s.gl, .int .i64 s.gh, .int .i64 s.cl, .int .i64 s.ch]]

set_option maxRecDepth 100000 in
set_option maxHeartbeats 2000000 in
theorem of1_in (m L Bb Bg n₀ : Nat) (st gd good : Int) (b n c : Nat) (A : Option Addr) (l : List Sale) (hn : n ≤ 1000000000) (J Jx : List Sale → World → Prop) (W : World) (hbb : Bb < W.heap.size) (hbg : Bg < W.heap.size) (hb0 : 0 < n → b < n₀) (hn₀ : n₀ ≤ W.heap.size)
    (hJ : AbidesFrom W.heap.size J)
    (hY : ∀ pre x W1, J pre W1 → pre.length < n → YieldAt Fence.wide (m - 1) Tryz.prog L (saleV x) W1 fun e W' =>
      (e = .returned (.bool true) ∧ J (pre ++ [x]) W' ∧ KpOf n₀ Bg W1 W') ∨ (e = .returned (.bool false) ∧ Jx (pre ++ [x]) W'))
    (hBb : W.heap[Bb]? = some (.cells #[.int .i64 st, .int .i64 gd, .slice A n c] 24 (0, 0))) (hBg : W.heap[Bg]? = some (.cells #[.int .i64 good] 3 (0, 0))) (hl : Sl encS 6 W b A n l) (h0 : J [] W) :
    CallsIn Fence.wide m Tryz.prog 62 #[.func (.yield L) #[] #[], .pointer (some ⟨Bb, 0, none⟩), .pointer (some ⟨Bg, 0, none⟩)] W fun e W' => (∃ v, e = .returned v) ∧
      ((∃ ys, ys = ofGood good l ∧ J ys W') ∨ (∃ pre, True ∧ Jx pre W')) := by
  have hro : Fence.wide.round = none := rfl
  have B0 := (show Blk W Bb 24 #[.int .i64 st, .int .i64 gd, .slice A n c] from hBb)
  have c0 := B0.cell 2
  have hlen := hl.len
  have HJ := Lib.hid hJ
  have HY := Lib.hid hY
  have HL := Lib.hid hl
  have HB := Lib.hid hb0
  clear hJ hY hl hb0 hBb
  refine callsIn_of_wp Tryz.func62 rfl trivial ?_ hro
  simp only [Tryz.ntmps62, List.size_toArray, List.length_cons, List.length_nil, Nat.reduceAdd, Nat.reduceSub, Array.replicate_succ, Array.replicate_zero, List.push_toArray, List.append_toArray, List.nil_append, List.cons_append]
  gi_wp2
  gi_loopw [5, 9] (fun v i wr => ∃ k : Nat, k ≤ n ∧ i = .int .i64 k ∧ J (ofGood good (l.take k)) wr ∧ KpOf n₀ Bg W wr ∧ W.heap.size ≤ wr.heap.size) (fun _ i _ => n - (intOf i).toNat)
  case atStart => exact ⟨0, Nat.zero_le _, rfl, h0, KpOf.refl _ _ _, Nat.le_refl _⟩
  case round =>
    obtain ⟨k, hk, rfl, hJs, hKp, hsz⟩ := hrel
    have HJs := Lib.hid hJs
    have HKp := Lib.hid hKp
    have Bg1 : Blk wr Bg 3 #[.int .i64 good] := hKp.2.trans hBg
    clear hJs hKp
    by_cases hlt : k < n
    · obtain ⟨o, rfl, hbz, s0, s1, s2, s3, s4, s5⟩ := (HL.out.keep (w' := wr) (fun hn => HKp.out.1.block b (HB.out hn)) hsz).atS (k := k) (by omega)
      have HD := Lib.hid (ofGood_snoc good l k (by omega))
      generalize hS : l[k]'(by omega) = s at s0 s1 s2 s3 s4 s5 HD
      clear hS
      have cg : ∀ o', (wr.alloc o').cell? ⟨Bg, 0, none⟩ = some (.int .i64 good) := fun o' => (Bg1.alloc o').cell 0
      have hle : (ofGood good (l.take k)).length < n := by have := ofGood_le good (l.take k); simp at this; omega
      by_cases hg : s.gd = good
      · obtain ⟨fn, tmps, assign, body, hy, hR⟩ := HY.out _ s _ (HJ.out _ _ _ none HJs.out (World.grownBy_alloc wr (.cells #[.int .i64 s.st, .int .i64 s.gd, .int .i64 s.gl, .int .i64 s.gh, .int .i64 s.cl, .int .i64 s.ch] 59) none) (fun r e => by cases e)) hle
        unfold saleV at hy
        rw [hg] at hy hR
        gi_wp2
        refine ⟨fun h => by simp [Fence.wide] at h, hR.mono ?_⟩
        rintro e W3 (⟨rfl, hJ3, hk3⟩ | ⟨rfl, hJx3⟩)
        · have hsz3 : wr.heap.size + 1 ≤ W3.heap.size := by have := hk3.1.size; simpa using this
          have HJ3 := Lib.hid hJ3
          have HK3 := Lib.hid hk3
          clear hJ3 hk3
          gi_wp2
          go_roundw
          case rel =>
            refine ⟨k + 1, by omega, by simp, ?_, HKp.out.trans ((KpOf.refl _ _ wr).alloc (by omega) Bg1.lt _ |>.trans HK3.out), by omega⟩
            rw [HD.out, if_pos hg]
            exact HJ3.out
          case measure => simp [intOf]; omega
        · gi_wp2
          refine bodyPost_ret (results_none rfl _ _ _) rfl ?_
          exact ⟨⟨_, rfl⟩, .inr ⟨_, trivial, hJx3⟩⟩
      · have hgd : decide (s.gd = good) = false := by simp [hg]
        gi_wp2
        refine ⟨fun _ h => (by cases h), ?_⟩
        gi_wp2
        go_roundw
        case rel =>
          refine ⟨k + 1, by omega, by simp, ?_, HKp.out.trans ((KpOf.refl _ _ wr).alloc (by omega) Bg1.lt _), by simp; omega⟩
          rw [HD.out, if_neg hg]
          exact HJ.out _ _ _ none HJs.out (World.grownBy_alloc wr _ none) (fun r e => by cases e)
        case measure => simp [intOf]; omega
    · obtain rfl : k = n := by omega
      gi_wp2
      go_end0
      refine ⟨⟨_, rfl⟩, .inl ⟨_, rfl, ?_⟩⟩
      have := HJs.out
      rw [List.take_of_length_le (by omega)] at this
      exact this

theorem of1_stops (m Bb Bg n₀ : Nat) (st gd good : Int) (b n c : Nat) (A : Option Addr) (l : List Sale) (hn : n ≤ 1000000000) (w : World) (hbb : Bb < w.heap.size) (hbg : Bg < w.heap.size) (hb0 : 0 < n → b < n₀) (hn₀ : n₀ ≤ w.heap.size)
    (hBb : Blk w Bb 24 #[.int .i64 st, .int .i64 gd, .slice A n c]) (hBg : Blk w Bg 3 #[.int .i64 good]) (hl : Sl encS 6 w b A n l) :
    SeqStopsK Fence.wide m Tryz.prog 62 #[.pointer (some ⟨Bb, 0, none⟩), .pointer (some ⟨Bg, 0, none⟩)] saleV (KpOf n₀ Bg) (fun ys => ys = ofGood good l) (fun _ => True) n w := fun L J Jx W hW hJ _ hY h0 =>
  of1_in m L Bb Bg n₀ st gd good b n c A l hn J Jx W (Nat.lt_of_lt_of_le hbb hW.size) (Nat.lt_of_lt_of_le hbg hW.size) hb0 (Nat.le_trans hn₀ hW.size) hJ hY (hBb.below hW hbb) (hBg.below hW hbg) (hl.old hW) h0

set_option maxHeartbeats 1000000 in
theorem of_any (st gd good : Int) (A : Option Addr) (n c : Nat) (w : World) :
    Calls Tryz.prog 41 #[.agg #[.int .i64 st, .int .i64 gd, .slice A n c], .int .i64 good] w fun e w' => e = .returned (.func (.func 62) #[] #[.pointer (some ⟨w.heap.size, 0, none⟩), .pointer (some ⟨w.heap.size + 1, 0, none⟩)]) ∧
      w' = (w.alloc (.cells #[.int .i64 st, .int .i64 gd, .slice A n c] 24)).alloc (.cells #[.int .i64 good] 3) := by
  go_enter Tryz.func41, Tryz.ntmps41
  go_wp2
  go_ret
  exact ⟨rfl, rfl⟩
end Go.Proofs.YtjmppionedcfeaaGreatDoor
