/-
  slices.Values, Collect, Sorted at ints. price.least. Two rows of one's own that grow side by side.
-/
import Derived.Test.YtjmppionedcfeaaGreatDoorOf
import Derived.Test.YtjmppionedcfeaaGreatDoorSortLay
import Derived.Maps.AppendAt
import Derived.Shelf.SortM.Plain
import Derived.Shelf.SortM.SortNone
import Derived.Ground.SlgmProg
import Derived.Sort.OwnSorted
import Derived.Shelf.SlIterI.Sorted
import Derived.Test.YtjmppionedcfeaaGreatDoorReg2
set_option linter.unusedVariables false
set_option linter.unusedSimpArgs false
namespace Go.Proofs.YtjmppionedcfeaaGreatDoor
open Go.RowKit Go.Shelf Go.Sort
attribute [local go_sem] Oper.semAt_some

set_option maxRecDepth 100000 in
set_option maxHeartbeats 2000000 in
theorem values1_in (m L Bs n₀ b n c : Nat) (A : Option Addr) (l : List Int) (hn : n ≤ 1000000000) (hb0 : 0 < n → b < n₀) (J Jx : List Int → World → Prop)
    (hY : ∀ pre x W1, J pre W1 → pre.length < n → YieldAt Fence.wide (m - 1) Tryz.prog L #[.int .i64 x] W1 fun e W' =>
      (e = .returned (.bool true) ∧ J (pre ++ [x]) W' ∧ Below n₀ W1 W') ∨ (e = .returned (.bool false) ∧ Jx (pre ++ [x]) W'))
    (W : World) (hn₀ : n₀ ≤ W.heap.size) (hBs : W.cell? ⟨Bs, 0, none⟩ = some (.slice A n c)) (hl : Sl encI 1 W b A n l) (h0 : J [] W) :
    CallsIn Fence.wide m Tryz.prog 74 #[.func (.yield L) #[] #[], .pointer (some ⟨Bs, 0, none⟩)] W fun e W' => (∃ v, e = .returned v) ∧
      ((∃ ys, ys = l ∧ J ys W') ∨ (∃ pre, True ∧ Jx pre W')) := by
  have hlen := hl.len
  have HY := Lib.hid hY
  have HL := Lib.hid hl
  have HB := Lib.hid hb0
  clear hY hl hb0
  refine callsIn_of_wp Tryz.func74 rfl trivial ?_ rfl
  simp only [Tryz.ntmps74, List.size_toArray, List.length_cons, List.length_nil, Nat.reduceAdd, Nat.reduceSub, Array.replicate_succ, Array.replicate_zero, List.push_toArray, List.append_toArray, List.nil_append, List.cons_append]
  gi_wp2
  gi_loopw [4, 7] (fun v i wr => ∃ k : Nat, k ≤ n ∧ i = .int .i64 k ∧ J (l.take k) wr ∧ Below n₀ W wr) (fun _ i _ => n - (intOf i).toNat)
  case atStart => exact ⟨0, Nat.zero_le _, rfl, h0, Below.refl _ _⟩
  case round =>
    obtain ⟨k, hk, rfl, hJs, hB⟩ := hrel
    have HJs := Lib.hid hJs
    have HBw := Lib.hid hB
    clear hJs hB
    by_cases hlt : k < n
    · obtain ⟨o, rfl, hbz, s0⟩ := (HL.out.below HBw.out HB.out).atI (k := k) (by omega)
      have HT := Lib.hid (take_snoc l k (by omega))
      generalize hS : l[k]'(by omega) = x at s0 HT
      clear hS
      obtain ⟨fn, tmps, assign, body, hy, hR⟩ := HY.out _ x wr HJs.out (by simp; omega)
      gi_wp2
      refine ⟨fun h => by simp [Fence.wide] at h, hR.mono ?_⟩
      rintro e W3 (⟨rfl, hJ3, hk3⟩ | ⟨rfl, hJx3⟩)
      · have HJ3 := Lib.hid hJ3
        have HK3 := Lib.hid hk3
        clear hJ3 hk3
        gi_wp2
        go_roundw
        case rel => exact ⟨k + 1, by omega, by simp, by rw [HT.out]; exact HJ3.out, HBw.out.trans HK3.out⟩
        case measure => simp [intOf]; omega
      · gi_wp2
        refine bodyPost_ret (results_none rfl _ _ _) rfl ?_
        exact ⟨⟨_, rfl⟩, .inr ⟨_, trivial, hJx3⟩⟩
    · obtain rfl : k = n := by omega
      gi_wp2
      go_end0
      refine ⟨⟨_, rfl⟩, .inl ⟨_, rfl, ?_⟩⟩
      have := HJs.out
      rw [List.take_of_length_le (by omega)] at this
      exact this

theorem values1_stops (m Bs n₀ b n c : Nat) (A : Option Addr) (l : List Int) (hn : n ≤ 1000000000) (w : World) (hb0 : 0 < n → b < n₀) (hn₀ : n₀ ≤ w.heap.size) (hbs : Bs < w.heap.size) (hBs : w.cell? ⟨Bs, 0, none⟩ = some (.slice A n c)) (hl : Sl encI 1 w b A n l) :
    SeqStopsK Fence.wide m Tryz.prog 74 #[.pointer (some ⟨Bs, 0, none⟩)] (fun x : Int => #[Value.int .i64 x]) (Below n₀) (fun ys => ys = l) (fun _ => True) n w := fun L J Jx W hW _ _ hY h0 =>
  values1_in m L Bs n₀ b n c A l hn hb0 J Jx hY W (Nat.le_trans hn₀ hW.size) ((hW.cell (p := ⟨Bs, 0, none⟩) hbs).trans hBs) (hl.old hW) h0

set_option maxHeartbeats 1000000 in
theorem values_any (A : Option Addr) (n c : Nat) (w : World) : Calls Tryz.prog 64 #[.slice A n c] w fun e w' => e = .returned (.func (.func 74) #[] #[.pointer (some ⟨w.heap.size, 0, none⟩)]) ∧ w' = w.alloc (.cells #[.slice A n c] 25) := by
  go_enter Tryz.func64, Tryz.ntmps64
  go_wp2
  go_ret
  exact ⟨rfl, rfl⟩

set_option maxRecDepth 100000 in
set_option maxHeartbeats 2000000 in
theorem appendSeq_any (Bs b n c : Nat) (A : Option Addr) (l : List Int) (hn : n ≤ 1000000) (w : World) (hbs : Bs < w.heap.size) (hBs : w.cell? ⟨Bs, 0, none⟩ = some (.slice A n c)) (hl : Sl encI 1 w b A n l) :
    Calls Tryz.prog 85 #[.slice none 0 0, .func (.func 74) #[] #[.pointer (some ⟨Bs, 0, none⟩)]] w fun e w' => ∃ v, e = .returned v ∧ w'.ownsRow w.heap.size 3 1 v l.length (l.map (Value.int .i64)) ∧ Below w.heap.size w w' := by
  obtain ⟨i0, hi, hz0, hz1, hz2⟩ := info_parts info_int
  have hlen := hl.len
  refine (callsIn_wide (n := 9)).1 ?_
  refine callsIn_of_wp_marks Tryz.func85 rfl trivial ?_ rfl
  simp only [Tryz.ntmps85, List.size_toArray, List.length_cons, List.length_nil, Nat.reduceAdd, Nat.reduceSub, Array.replicate_succ, Array.replicate_zero, List.push_toArray, List.append_toArray, List.nil_append, List.cons_append]
  gi_wp2
  have bO : Boxed (w.alloc (.cells #[.slice none 0 0] 25)) w.heap.size 25 (.slice none 0 0) := Boxed.new w 25 (.slice none 0 0)
  have hB0 : Below w.heap.size w (w.alloc (.cells #[.slice none 0 0] 25)) := (Below.refl _ w).alloc (Nat.le_refl _) _
  refine wpIn_rangeFunc_ownG rfl (by omega) (gf := 74) (lb := #[.pointer (some ⟨Bs, 0, none⟩)]) rfl trivial (enters_of Tryz.func74 (by kernel_rfl) rfl)
    (values1_stops _ Bs w.heap.size b n c A l (by omega) _ (fun h => hl.lt h) (by simp) (by simp; omega) ((hB0.cell (p := ⟨Bs, 0, none⟩) hbs).trans hBs) (hl.old hB0)) belowK_t (belowK_b (by simp)) (Below.refl _ _) (fun _ => rfl)
    (fun pre W => (∃ v, Boxed W w.heap.size 25 v ∧ W.ownsRow w.heap.size 3 1 v pre.length (pre.map (Value.int .i64)) ∧ True) ∧ Below w.heap.size w W)
    (fun _ _ _ => False)
    (OwnFrom.and (Own.from (holdsRow_own w.heap.size w.heap.size 25 3 1 (fun pre : List Int => pre.length) (fun pre => pre.map (Value.int .i64)) (fun _ _ => True)) _) (ownFrom_below (Nat.le_refl _) (by simp)))
    (fun _ _ _ _ _ hs _ _ => hs)
    ⟨⟨_, bO, World.ownsRow_nil _ _ _ _, trivial⟩, hB0⟩
    (fun x => { tmps := #[.slice none 0 0, .func (.func 74) #[] #[.pointer (some ⟨Bs, 0, none⟩)], .pointer (some ⟨w.heap.size, 0, none⟩), undef, .slice none 0 0, .int .i64 x, .func (.func 74) #[] #[.pointer (some ⟨Bs, 0, none⟩)], .int .i64 x, undef, undef, undef, undef, undef], defers := [] }) ?assign ?body ?done ?stop
  case assign =>
    intro L x W K hK
    gi_wp2
    exact hK
  case body =>
    rintro L pre x W ⟨⟨v, hv, hrow, _⟩, hB⟩ hlt
    have hc := hv.cell
    gi_wp2_with (gi_at_builtin; refine wpListIn_append_own _ rfl _ _ 25 rfl w.heap.size 3 i0 (.int .i64 0) 1 8 Tryz.underlying25 hi hz0 hz1 hz2 rfl (by decide) _ _ _ rfl (hrow.alloc _) ⟨W.heap.size, 0, none⟩ 1 1 [.int .i64 x] rfl rfl (cell_one_new _ _ _) (by simp [Value.oneCell']) (by have : maxLen = 9223372036854775807 := rfl; omega) (by omega) (by have := hB.size; simp; omega) ?_; intro v' w1 hown' hgrow _; obtain ⟨g', cap', rfl⟩ := ownsRow_succ hown'; obtain ⟨hv1, hv2, hr2, hk2, hb2⟩ := hv.appended (by decide) hrow hB.size (Nat.le_refl _) hown' hgrow; have hc1 := hv1.cell; have hf1 := hv1.frozen)
    exact ⟨hk2.from _, hb2, ⟨_, hv2, by simpa using hr2, trivial⟩, hB.trans hb2⟩
  case done =>
    rintro D ys W hD rfl ⟨⟨v, hv, hrow, _⟩, hB⟩ hK
    have hc := hv.cell
    gi_wp2
    refine ⟨by simp, .inl ⟨_, _, rfl, run_takeDeferred hK, ?_⟩⟩
    exact ⟨_, results_tmp rfl _ _ _, v, rfl, ownsRow_putObj hrow _ hK rfl, hB.trans (belowK_b (w := w) (Nat.le_refl _) W D _ _ (by simp at hD; omega) hK rfl rfl)⟩
  case stop =>
    rintro D c pre W _ _ h _
    exact h.elim

set_option maxHeartbeats 1000000 in
theorem collect_any (Bs b n c : Nat) (A : Option Addr) (l : List Int) (hn : n ≤ 1000000) (w : World) (hbs : Bs < w.heap.size) (hBs : w.cell? ⟨Bs, 0, none⟩ = some (.slice A n c)) (hl : Sl encI 1 w b A n l) :
    Calls Tryz.prog 72 #[.func (.func 74) #[] #[.pointer (some ⟨Bs, 0, none⟩)]] w fun e w' => ∃ v, e = .returned v ∧ w'.ownsRow w.heap.size 3 1 v l.length (l.map (Value.int .i64)) ∧ Below w.heap.size w w' := by
  go_enter Tryz.func72, Tryz.ntmps72
  go_wp2_with fail
  refine (appendSeq_any Bs b n c A l hn _ hbs hBs hl).mono ?_
  rintro e w' ⟨v, rfl, hrow, hb⟩
  go_wp2_with fail
  go_ret
  exact ⟨v, rfl, hrow, hb⟩

/-- sorted -/
def srt (l : List Int) : List Int := l.mergeSort (fun x y => decide (x ≤ y))

set_option maxRecDepth 100000 in
set_option maxHeartbeats 2000000 in
theorem sorted_any (Bs b n c : Nat) (A : Option Addr) (l : List Int) (hn : n ≤ 1000000) (hn0 : 0 < n) (w : World) (hbs : Bs < w.heap.size) (hBs : w.cell? ⟨Bs, 0, none⟩ = some (.slice A n c)) (hl : Sl encI 1 w b A n l) :
    Calls Tryz.prog 63 #[.func (.func 74) #[] #[.pointer (some ⟨Bs, 0, none⟩)]] w fun e w' => ∃ g c', e = .returned (.slice (some ⟨g, 0, none⟩) l.length c') ∧ w'.ownsRow w.heap.size 3 1 (.slice (some ⟨g, 0, none⟩) l.length c') l.length ((srt l).map (Value.int .i64)) ∧ l.length ≤ c' ∧ Below w.heap.size w w' := by
  have hlen := hl.len
  go_enter Tryz.func63, Tryz.ntmps63
  go_wp2_with fail
  refine (collect_any Bs b n c A l hn _ hbs hBs hl).mono ?_
  rintro e w1 ⟨v, rfl, hrow, hb⟩
  have hrow0 := hrow
  rcases hrow.2 with ⟨rfl, hz⟩ | ⟨gb, cap, cur, rfl, hbase, hgb, r1, r2, r3, r4⟩
  · omega
  · have hH : Holds encZ w1 gb 0 l.toArray := holds_of_block_i hgb (by simpa [encZ] using r4)
    have hgl : gb < w1.heap.size := (Array.getElem?_eq_some_iff.1 hgb).1
    have cS := AnyM.slices_Sort_int Tryz.sortInts gb 0 cap l w1 hH hgl (by omega)
    have CS := Lib.hid cS
    have HB := Lib.hid hb
    clear hrow hrow0 cS hb
    go_wp2_with fail
    refine CS.out.mono ?_
    rintro e w2 ⟨rfl, k, os, rfl⟩
    go_wp2_with fail
    go_ret
    exact ⟨gb, cap, rfl, ownsRow_sorted_i (by simp) hbase hgb r1 r2 r3, r1, HB.out.grown (grownBy_sorted_i _) HB.out.size (fun j hj => by cases hj; exact hbase)⟩
end Go.Proofs.YtjmppionedcfeaaGreatDoor

namespace Go.Proofs.YtjmppionedcfeaaGreatDoor
open Go.RowKit Go.Shelf

/-- the first of which it is so; the last one if there is none -/
def leastOf (q : Int → Bool) : List Int → Int
  | [] => 0
  | [x] => x
  | x :: y :: r => if q x then x else leastOf q (y :: r)
theorem leastOf_last (q : Int → Bool) (l : List Int) (k : Nat) (h : k + 1 = l.length) : leastOf q (l.drop k) = l[k]'(by omega) := by
  rw [List.drop_eq_getElem_cons (by omega)]
  rw [List.drop_of_length_le (by omega)]
  rfl
theorem leastOf_drop (q : Int → Bool) (l : List Int) (k : Nat) (h : k + 1 < l.length) : leastOf q (l.drop k) = if q (l[k]'(by omega)) then l[k]'(by omega) else leastOf q (l.drop (k + 1)) := by
  rw [List.drop_eq_getElem_cons (l := l) (i := k) (by omega), List.drop_eq_getElem_cons (l := l) (i := k + 1) (by omega)]
  rfl
theorem flat_encI (l : List Int) : l.flatMap encI = l.map (Value.int .i64) := by
  induction l with
  | nil => rfl
  | cons a l ih => rw [List.flatMap_cons, ih]; rfl
theorem srt_len (l : List Int) : (srt l).length = l.length := by unfold srt; simp

set_option maxRecDepth 100000 in
set_option maxHeartbeats 2000000 in
theorem least_any (b m c : Nat) (A : Option Addr) (l : List Int) (hm : m + 1 ≤ 1000000) (p1 p2 p3 : Value) (q : Int → Bool) (w : World) (hl : Sl encI 1 w b A (m + 1) l)
    (hP : ∀ x w', Below w.heap.size w w' → Calls Tryz.prog 43 #[.int .i64 x, p1, p2, p3] w' fun e w'' => e = .returned (.bool (q x)) ∧ Below w'.heap.size w' w'') :
    Calls Tryz.prog 47 #[.slice A (m + 1) c, .func (.func 43) #[] #[p1, p2, p3]] w fun e w' => e = .returned (.int .i64 (leastOf q (srt l))) ∧ Below w.heap.size w w' := by
  have hlen := hl.len
  have HLen := Lib.hid hlen
  clear hlen
  have HP := Lib.hid hP
  clear hP
  go_enter Tryz.func47, Tryz.ntmps47
  go_wp2_with fail
  refine (values_any A (m + 1) c _).mono ?_
  rintro e w1 ⟨rfl, rfl⟩
  go_wp2_with fail
  refine (sorted_any w.heap.size b (m + 1) c A l (by omega) (by omega) _ (by simp) ((Blk.new w 25 #[.slice A (m + 1) c]).cell 0) (hl.alloc _)).mono ?_
  rintro e w2 ⟨g, c', rfl, hown, hcap, hb⟩
  rw [← HLen.out] at hown hcap ⊢
  have HB := Lib.hid (Below.step hb ((Below.refl _ w).alloc (Nat.le_refl _) _) (Nat.le_refl _))
  have hS : m + 1 = (srt l).length := by rw [srt_len]; exact HLen.out
  have HS := Lib.hid hS
  obtain ⟨b', hb', hsl⟩ := Sl.of_own (enc := encI) encI_len (l := srt l) (n := m + 1) HS.out (by rw [flat_encI]; exact hown)
  have HSL := Lib.hid hsl
  clear hown hsl hb hS
  have hz2 := HB.out.size
  go_wp2_with fail
  go_loopw [6, 16] (fun v i wr => ∃ k : Nat, k ≤ m ∧ i = .int .i64 k ∧ leastOf q ((srt l).drop k) = leastOf q (srt l) ∧ Below w2.heap.size w2 wr) (fun _ i _ => m - (intOf i).toNat)
  case atStart => exact ⟨0, Nat.zero_le _, rfl, rfl, Below.refl _ _⟩
  case round =>
    obtain ⟨k, hk, rfl, hle, hB⟩ := hrel
    have HE := Lib.hid hle
    have HBw := Lib.hid hB
    clear hle hB
    by_cases hlt : k < m
    · obtain ⟨o, ho, hbz, s0⟩ := (HSL.out.old HBw.out).atI (k := k) (by have := HS.out; omega)
      have HD := Lib.hid (leastOf_drop q (srt l) k (by have := HS.out; omega))
      obtain ⟨rfl, rfl⟩ : g = b' ∧ 0 = o := by simpa using ho
      rw [Nat.zero_add] at s0
      generalize hx : (srt l)[k]'(by have := HS.out; omega) = x at s0 HD
      clear hx
      have hPx := HP.out x wr (HB.out.trans (HBw.out.mono hz2))
      cases hq : q x
      · rw [hq] at hPx
        go_wp2_with fail
        refine hPx.mono ?_
        rintro e w3 ⟨rfl, hb3⟩
        have HB3 := Lib.hid (Below.step hb3 HBw.out (Nat.le_refl _))
        clear hb3 hPx
        go_wp2_with fail
        go_roundw
        case rel => exact ⟨k + 1, by omega, by simp, by rw [← HE.out, HD.out, hq]; rfl, HB3.out⟩
        case measure => simp [intOf]; omega
      · rw [hq] at hPx
        go_wp2_with fail
        refine hPx.mono ?_
        rintro e w3 ⟨rfl, hb3⟩
        have HB3 := Lib.hid (Below.step hb3 HBw.out (Nat.le_refl _))
        clear hb3 hPx
        go_wp2_with fail
        go_ret
        exact ⟨by rw [← HE.out, HD.out, hq]; rfl, Below.step HB3.out HB.out (Nat.le_refl _)⟩
    · obtain rfl : k = m := by omega
      obtain ⟨o, ho, hbz, s0⟩ := (HSL.out.old HBw.out).atI (k := k) (by have := HS.out; omega)
      have HD := Lib.hid (leastOf_last q (srt l) k HS.out)
      obtain ⟨rfl, rfl⟩ : g = b' ∧ 0 = o := by simpa using ho
      rw [Nat.zero_add] at s0
      generalize hx : (srt l)[k]'(by have := HS.out; omega) = x at s0 HD
      clear hx
      go_wp2_with fail
      go_ret
      exact ⟨by rw [← HE.out, HD.out]; rfl, Below.step HBw.out HB.out (Nat.le_refl _)⟩
end Go.Proofs.YtjmppionedcfeaaGreatDoor

namespace Go.Proofs.YtjmppionedcfeaaGreatDoor
open Go.RowKit

structure Rows2 (base Bx : Nat) (cs : Array Value) (R : World) (v1 v2 : Value) (n1 n2 : Nat) (l1 l2 : List Value) (X : World) : Prop where
  bs : base ≤ R.heap.size
  low : Below base R X
  ko : KeepsOthers R X
  r1 : X.ownsRow base 3 1 v1 n1 l1
  r2 : X.ownsRow base 3 1 v2 n2 l2
  sep : ∀ j, v1.ownBlock = some j → v2.ownBlock ≠ some j
  bx : Blk X Bx 59 cs
  bw : base ≤ Bx

section
variable {base Bx : Nat} {cs : Array Value} {R X : World} {v1 v2 : Value} {n1 n2 : Nat} {l1 l2 : List Value}
theorem Rows2.swap (h : Rows2 base Bx cs R v1 v2 n1 n2 l1 l2 X) : Rows2 base Bx cs R v2 v1 n2 n1 l2 l1 X :=
  ⟨h.bs, h.low, h.ko, h.r2, h.r1, fun j h2 h1 => h.sep j h1 h2, h.bx, h.bw⟩
theorem Rows2.alloc (h : Rows2 base Bx cs R v1 v2 n1 n2 l1 l2 X) (o : Obj) : Rows2 base Bx cs R v1 v2 n1 n2 l1 l2 (X.alloc o) :=
  ⟨h.bs, h.low.alloc (Nat.le_trans h.bs h.low.size) o, h.ko.trans (KeepsOthers.alloc X o), h.r1.alloc o, h.r2.alloc o, h.sep, h.bx.alloc o, h.bw⟩
/-- a block of another type is no row -/
theorem own_ne {t e : TypeId} (hte : t ≠ e) {b base size n : Nat} {v : Value} {xs : List Value} {cs : Array Value} (hb : Blk X b t cs) (h : X.ownsRow base e size v n xs) : some b ≠ v.ownBlock := by
  rcases h.2 with ⟨rfl, _⟩ | ⟨g, cap, cur, rfl, _, hgb, _⟩
  · simp [Value.ownBlock]
  · intro e'
    obtain rfl : b = g := by simpa [Value.ownBlock] using e'
    have := (show X.heap[b]? = _ from hb).symm.trans hgb
    simp at this
    exact hte this.2
theorem own_cells {e : TypeId} {base size n : Nat} {v : Value} {xs : List Value} (h : X.ownsRow base e size v n xs) {j : Nat} {o : Obj} (hj : v.ownBlock = some j) (ho : X.heap[j]? = some o) : o.isCells = true := by
  rcases h.2 with ⟨rfl, _⟩ | ⟨g, cap, cur, rfl, _, hgb, _⟩
  · simp [Value.ownBlock] at hj
  · obtain rfl : g = j := by simpa [Value.ownBlock] using hj
    rw [hgb] at ho; cases ho; rfl
theorem Rows2.app1 (h : Rows2 base Bx cs R v1 v2 n1 n2 l1 l2 X) {X' : World} {g m c : Nat} {l1' : List Value} (hg : X.grownBy X' v1.ownBlock) (hr : X'.ownsRow base 3 1 (.slice (some ⟨g, 0, none⟩) m c) m l1') (hgl : v1.ownBlock = some g ∨ g = X.heap.size) :
    Rows2 base Bx cs R (.slice (some ⟨g, 0, none⟩) m c) v2 m n2 l1' l2 X' := by
  have hsep : v2.ownBlock = none ∨ v2.ownBlock ≠ v1.ownBlock := by
    cases h2 : v2.ownBlock with
    | none => exact .inl rfl
    | some j => exact .inr fun e => h.sep j e.symm h2
  refine ⟨h.bs, h.low.grown hg (Nat.le_trans h.bs h.low.size) (fun j e => (h.r1.lt j e).1), h.ko.trans (KeepsOthers.of_grownBy hg fun j o e ho => own_cells h.r1 e ho), hr, h.r2.kept hg hsep, fun j hj => ?_, h.bx.grown hg (own_ne (by decide) h.bx h.r1), h.bw⟩
  obtain rfl : g = j := by simpa [Value.ownBlock] using hj
  rcases hgl with e | e
  · exact h.sep g e
  · intro e2
    have := (h.r2.lt g e2).2
    omega
theorem Rows2.app2 (h : Rows2 base Bx cs R v1 v2 n1 n2 l1 l2 X) {X' : World} {g m c : Nat} {l2' : List Value} (hg : X.grownBy X' v2.ownBlock) (hr : X'.ownsRow base 3 1 (.slice (some ⟨g, 0, none⟩) m c) m l2') (hgl : v2.ownBlock = some g ∨ g = X.heap.size) :
    Rows2 base Bx cs R v1 (.slice (some ⟨g, 0, none⟩) m c) n1 m l1 l2' X' := (h.swap.app1 hg hr hgl).swap

/-- a block for a value that is to be appended -/
def Tmp1 (v1 v2 : Value) (g : Nat) (x : Int) (X : World) : Prop := Blk X g 3 #[.int .i64 x] ∧ v1.ownBlock ≠ some g ∧ v2.ownBlock ≠ some g
theorem Rows2.tmp (h : Rows2 base Bx cs R v1 v2 n1 n2 l1 l2 X) (x : Int) : Tmp1 v1 v2 X.heap.size x (X.alloc (.cells #[.int .i64 x] 3)) :=
  ⟨Blk.new _ _ _, fun e => by have := (h.r1.lt _ e).2; omega, fun e => by have := (h.r2.lt _ e).2; omega⟩
theorem Tmp1.alloc {g : Nat} {x : Int} (h : Tmp1 v1 v2 g x X) (o : Obj) : Tmp1 v1 v2 g x (X.alloc o) := ⟨h.1.alloc o, h.2⟩
theorem Tmp1.app1 {g g' m c : Nat} {x : Int} {X' : World} (h : Tmp1 v1 v2 g x X) (hg : X.grownBy X' v1.ownBlock) (hgl : v1.ownBlock = some g' ∨ g' = X.heap.size) : Tmp1 (.slice (some ⟨g', 0, none⟩) m c) v2 g x X' := by
  refine ⟨h.1.grown hg (fun e => h.2.1 e.symm), fun e => ?_, h.2.2⟩
  obtain rfl : g' = g := by simpa [Value.ownBlock] using e
  rcases hgl with e | e
  · exact h.2.1 e
  · have := h.1.lt; omega
theorem Tmp1.swap {g : Nat} {x : Int} (h : Tmp1 v1 v2 g x X) : Tmp1 v2 v1 g x X := ⟨h.1, h.2.2, h.2.1⟩
theorem Tmp1.app2 {g g' m c : Nat} {x : Int} {X' : World} (h : Tmp1 v1 v2 g x X) (hg : X.grownBy X' v2.ownBlock) (hgl : v2.ownBlock = some g' ∨ g' = X.heap.size) : Tmp1 v1 (.slice (some ⟨g', 0, none⟩) m c) g x X' := (h.swap.app1 hg hgl).swap
end
end Go.Proofs.YtjmppionedcfeaaGreatDoor
