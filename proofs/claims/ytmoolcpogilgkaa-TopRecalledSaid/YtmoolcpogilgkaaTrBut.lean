/-
  maps.Keys of a set of numbers; Collect, Sorted of them: in an order that is drawn; sorted. trace.without, trace.but: a list without some numbers; the batches that are not among some.
-/
import Derived.Test.YtmoolcpogilgkaaTrSet
import Derived.Test.YtmoolcpogilgkaaSortLay
import Derived.RangeFuncNested
import Derived.RangeFuncBound
import Derived.RangeFuncBox
import Derived.RangeFuncCalls
import Derived.RangeFuncLeaves
import Derived.Shelf.Abstract
import Derived.Shelf.RegionOpen
import Derived.OwnWalkIn
import Derived.TacticsInMore
import Derived.LoopNIn
import Derived.LoopIn
import Derived.Maps.AppendAt
import Derived.Shelf.SortM.Plain
import Derived.Shelf.SortM.SortNone
import Derived.Ground.SlgmProg
import Derived.Sort.OwnSorted
import Derived.Shelf.SlIterI.Sorted
import Derived.Test.YtmoolcpogilgkaaFunLay
import Derived.Test.YtmoolcpogilgkaaTraceLaw
import Derived.Test.YtmoolcpogilgkaaTrEdges
import Derived.Shelf.SlicesE.DeleteFunc
import Derived.Lib.SliceRun
set_option linter.unusedVariables false
set_option linter.unusedSimpArgs false
namespace Go.Proofs.Ytmoolcpogilgkaa
open Go.RowKit Go.Shelf Go.Sort
attribute [local go_sem] Oper.semAt_some

/-- a list of a set's numbers, each once -/
def KeysOf (l ys : List Int) : Prop := ys.Nodup ∧ ∀ x, x ∈ ys ↔ x ∈ l
theorem keysOf_len {l ys : List Int} (h : ys.Nodup) (hs : ∀ x ∈ ys, x ∈ l) : ys.length ≤ l.length := by
  induction ys generalizing l with
  | nil => simp
  | cons a q ih =>
    rw [List.nodup_cons] at h
    have h1 := hs a (List.mem_cons_self ..)
    have h2 := ih (l := l.erase a) h.2 fun v hv => (List.mem_erase_of_ne fun e => h.1 (by rw [← e]; exact hv)).2 (hs v (List.mem_cons_of_mem _ hv))
    rw [List.length_erase_of_mem h1] at h2
    have := List.length_pos_of_mem h1
    simp only [List.length_cons]
    omega
theorem setF_some {l : List Int} {x : Int} {v : Value} : setF l x = some v → x ∈ l := fun h => by
  unfold setF at h
  by_cases hx : x ∈ l
  · exact hx
  · rw [if_neg hx] at h; cases h

set_option maxRecDepth 100000 in
set_option maxHeartbeats 2000000 in
theorem keys1_in (m L Bb B : Nat) (l : List Int) (J Jx : List Int → World → Prop) (W : World) (hJ : AbidesFrom W.heap.size J)
    (hY : ∀ pre x W1, J pre W1 → pre.length < l.length → YieldAt Fence.wide (m - 1) Try.prog L #[.int .i64 x] W1 fun e W' =>
      (e = .returned (.bool true) ∧ J (pre ++ [x]) W' ∧ KeepsWalks W1 W') ∨ (e = .returned (.bool false) ∧ Jx (pre ++ [x]) W'))
    (hBb : Blk W Bb 86 #[.map (some B)]) (hM : KMap (Value.int .i64) okI W B (setF l)) (h0 : J [] W) :
    CallsIn Fence.wide m Try.prog 42 #[.func (.yield L) #[] #[], .pointer (some ⟨Bb, 0, none⟩)] W fun e W' => (∃ v, e = .returned v) ∧
      ((∃ ys, KeysOf l ys ∧ J ys W') ∨ (∃ pre, True ∧ Jx pre W')) := by
  have c0 := hBb.cell 0
  obtain ⟨W1, hrun, ⟨cnt0, hit0⟩, o1, hW1⟩ := run_rangeK (P := Try.prog) (enc := Value.int .i64) (ok := okI) Try.underlying86 (w := W) (b := some B) (m := setF l) hM
  have hlB := hM.lt
  have HJ := Lib.hid hJ
  have HY := Lib.hid hY
  have HM := Lib.hid hM
  have H0 := Lib.hid h0
  have HIT := Lib.hid hit0
  have HW1 := Lib.hid hW1
  clear hJ hY hM h0 hit0 hBb hW1
  refine callsIn_of_wp Try.func42 rfl trivial ?_ rfl
  simp only [Try.ntmps42, List.size_toArray, List.length_cons, List.length_nil, Nat.reduceAdd, Nat.reduceSub, Array.replicate_succ, Array.replicate_zero, List.push_toArray, List.append_toArray, List.nil_append, List.cons_append]
  gi_wp2
  gi_loopw [3] (fun _ wr => ∃ (pre : List Int) (left : Int → Prop) (cnt : Nat), J pre wr ∧ KIt (Value.int .i64) okI wr W.heap.size (some B) (setF l) left cnt ∧ pre.Nodup ∧ (∀ x, x ∈ pre ↔ x ∈ l ∧ ¬ left x)) (fun _ wr => itLeft wr W.heap.size)
  case atStart =>
    refine ⟨[], _, cnt0, by rw [HW1.out]; exact HJ.out _ _ _ none H0.out (World.grownBy_alloc W o1 none) (fun _ e => by cases e), HIT.out, by simp, fun x => ?_⟩
    simp only [List.not_mem_nil, false_iff, not_and, Decidable.not_not]
    intro hx
    show (setF l x).isSome = true
    unfold setF; rw [if_pos hx]; rfl
  case round =>
    obtain ⟨pre, left, cnt, hJp, hit, hnd, hpre⟩ := hrel
    have HJP := Lib.hid hJp
    have HI := Lib.hid hit
    have HND := Lib.hid hnd
    have HPRE := Lib.hid hpre
    clear hJp hnd hpre
    rcases hit.next2 kkI 0 with ⟨hl, hrun2⟩ | ⟨q, v, w3, cnt', hq, hcq, hlq, hrun2, hit3, hcnt, hg3, hs3, hent⟩
    · have HL := Lib.hid hl
      clear hit hl
      gi_wp2
      go_end0
      exact ⟨⟨_, rfl⟩, .inl ⟨pre, ⟨HND.out, fun x => by rw [HPRE.out x]; exact ⟨fun h => h.1, fun h => ⟨h, HL.out x⟩⟩⟩, HJP.out⟩⟩
    · have hql := setF_some hcq
      have hqp : q ∉ pre := fun h => ((HPRE.out q).1 h).2 hlq
      have hnd2 : (pre ++ [q]).Nodup := by
        rw [List.nodup_append]
        exact ⟨HND.out, by simp, fun a ha b hb => by simp at hb; subst hb; exact fun e => hqp (e ▸ ha)⟩
      have hlen : pre.length < l.length := by
        have := keysOf_len hnd2 (l := l) fun x hx => by
          rcases List.mem_append.1 hx with h | h
          · exact ((HPRE.out x).1 h).1
          · simp at h; subst h; exact hql
        simp at this
        omega
      have hJ3 := HJ.out _ _ _ _ HJP.out hg3 (fun r e => by cases e; obtain ⟨b', s', sn, c', h'⟩ := hit.isIt; exact ⟨Nat.le_refl _, _, h', rfl⟩)
      obtain ⟨fn, tmps, assign, body, hy, hR⟩ := HY.out pre q w3 hJ3 hlen
      have HR := Lib.hid hR
      have HIT3 := Lib.hid hit3
      have HN2 := Lib.hid hnd2
      have HCN := Lib.hid hit.cnt_eq
      have HQ := Lib.hid hql
      clear hR hit3 hnd2 hJ3 hit hqp hcq hlq hg3
      gi_wp2
      refine ⟨fun h => by simp [Fence.wide] at h, HR.out.mono ?_⟩
      rintro e W4 (⟨rfl, hJ4, hk4⟩ | ⟨rfl, hJx4⟩)
      · have hit4 : KIt (Value.int .i64) okI W4 W.heap.size (some B) (setF l) (fun x => left x ∧ x ≠ q) cnt' := by
          obtain ⟨b', s', sn, c', h'⟩ := HIT3.out.isIt
          refine HIT3.out.keep (by rw [hk4.same _ _ h' rfl, h']) fun bm e => ?_
          injection e with e
          subst e
          rcases HIT3.out with ⟨h0, _⟩ | ⟨bm', es, clock, since, seen, c0, h0, h1, _⟩
          · cases h0
          · cases h0
            rw [hk4.same _ _ h1 rfl, h1]
        have HIT4 := Lib.hid hit4
        have HC4 := Lib.hid hit4.cnt_eq
        have HJ4 := Lib.hid hJ4
        clear hit4 hJ4 hk4 hy HR hrun2 hent
        gi_wp2
        go_roundw
        case rel =>
          refine ⟨pre ++ [q], _, cnt', HJ4.out, HIT4.out, HN2.out, fun x => ?_⟩
          have := HPRE.out x
          have hq := HQ.out
          simp only [List.mem_append, List.mem_singleton, this]
          constructor
          · rintro (⟨h1, h2⟩ | rfl)
            · exact ⟨h1, fun h => h2 h.1⟩
            · exact ⟨hq, fun h => h.2 rfl⟩
          · rintro ⟨h1, h2⟩
            by_cases e : x = q
            · exact .inr e
            · exact .inl ⟨h1, fun h => h2 ⟨h, e⟩⟩
        case measure => rw [HC4.out, HCN.out]; exact hcnt
      · gi_wp2
        refine bodyPost_ret (results_none rfl _ _ _) rfl ?_
        exact ⟨⟨_, rfl⟩, .inr ⟨_, trivial, hJx4⟩⟩

theorem keys1_stops (m Bb B : Nat) (l : List Int) (w : World) (hBb : Blk w Bb 86 #[.map (some B)]) (hM : KMap (Value.int .i64) okI w B (setF l)) :
    SeqStopsK Fence.wide m Try.prog 42 #[.pointer (some ⟨Bb, 0, none⟩)] (fun x : Int => #[Value.int .i64 x]) KeepsWalks (KeysOf l) (fun _ => True) l.length w := fun L J Jx W hW hJ _ hY h0 =>
  keys1_in m L Bb B l J Jx W hJ hY (hBb.below hW hBb.lt) (hM.keep (hW.block B hM.lt)) h0

theorem keys_any (B : Nat) (w : World) : Calls Try.prog 26 #[.map (some B)] w fun e w' => e = .returned (.func (.func 42) #[] #[.pointer (some ⟨w.heap.size, 0, none⟩)]) ∧ w' = w.alloc (.cells #[.map (some B)] 86) := by
  go_enter Try.func26, Try.ntmps26
  go_wp2
  go_ret
  exact ⟨rfl, rfl⟩

set_option maxRecDepth 100000 in
set_option maxHeartbeats 2000000 in
theorem appendSeqK_any (Bb B : Nat) (l : List Int) (hn : l.length ≤ 1000000) (w : World) (hBb : Blk w Bb 86 #[.map (some B)]) (hM : KMap (Value.int .i64) okI w B (setF l)) :
    Calls Try.prog 62 #[.slice none 0 0, .func (.func 42) #[] #[.pointer (some ⟨Bb, 0, none⟩)]] w fun e w' => ∃ v ys, KeysOf l ys ∧ e = .returned v ∧ w'.ownsRow w.heap.size 3 1 v ys.length (ys.map (Value.int .i64)) ∧ Below w.heap.size w w' := by
  obtain ⟨i0, hi, hz0, hz1, hz2⟩ := info_parts info_int
  refine (callsIn_wide (n := 9)).1 ?_
  refine callsIn_of_wp_marks Try.func62 rfl trivial ?_ rfl
  simp only [Try.ntmps62, List.size_toArray, List.length_cons, List.length_nil, Nat.reduceAdd, Nat.reduceSub, Array.replicate_succ, Array.replicate_zero, List.push_toArray, List.append_toArray, List.nil_append, List.cons_append]
  gi_wp2
  have bO : Boxed (w.alloc (.cells #[.slice none 0 0] 22)) w.heap.size 22 (.slice none 0 0) := Boxed.new w 22 (.slice none 0 0)
  have hB0 : Below w.heap.size w (w.alloc (.cells #[.slice none 0 0] 22)) := (Below.refl _ w).alloc (Nat.le_refl _) _
  refine wpIn_rangeFunc_ownG rfl (by omega) (gf := 42) (lb := #[.pointer (some ⟨Bb, 0, none⟩)]) rfl trivial (enters_of Try.func42 (by kernel_rfl) rfl)
    (keys1_stops _ Bb B l _ (hBb.alloc _) (hM.alloc _)) walksK_t walksK_b (Below.refl _ _) (fun _ => rfl)
    (fun pre W => (∃ v, Boxed W w.heap.size 22 v ∧ W.ownsRow w.heap.size 3 1 v pre.length (pre.map (Value.int .i64)) ∧ True) ∧ Below w.heap.size w W)
    (fun _ _ _ => False)
    (OwnFrom.and (Own.from (holdsRow_own w.heap.size w.heap.size 22 3 1 (fun pre : List Int => pre.length) (fun pre => pre.map (Value.int .i64)) (fun _ _ => True)) _) (ownFrom_below (Nat.le_refl _) (by simp)))
    (fun _ _ _ _ _ hs _ _ => hs)
    ⟨⟨_, bO, World.ownsRow_nil _ _ _ _, trivial⟩, hB0⟩
    (fun x => { tmps := #[.slice none 0 0, .func (.func 42) #[] #[.pointer (some ⟨Bb, 0, none⟩)], .pointer (some ⟨w.heap.size, 0, none⟩), undef, .slice none 0 0, .int .i64 x, .func (.func 42) #[] #[.pointer (some ⟨Bb, 0, none⟩)], .int .i64 x, undef, undef, undef, undef, undef], defers := [] }) ?assign ?body ?done ?stop
  case assign =>
    intro L x W K hK
    gi_wp2
    exact hK
  case body =>
    rintro L pre x W ⟨⟨v, hv, hrow, _⟩, hB⟩ hlt
    have hc := hv.cell
    gi_wp2_with (gi_at_builtin; refine wpListIn_append_own _ rfl _ _ 22 rfl w.heap.size 3 i0 (.int .i64 0) 1 8 Try.underlying22 hi hz0 hz1 hz2 rfl (by decide) _ _ _ rfl (hrow.alloc _) ⟨W.heap.size, 0, none⟩ 1 1 [.int .i64 x] rfl rfl (cell_one_new _ _ _) (by simp [Value.oneCell']) (by have : maxLen = 9223372036854775807 := rfl; omega) (by omega) (by have := hB.size; simp; omega) ?_; intro v' w1 hown' hgrow _; obtain ⟨g', cap', rfl⟩ := ownsRow_succ hown'; obtain ⟨hv1, hv2, hr2, hk2, hb2⟩ := hv.appended (by decide) hrow hB.size (Nat.le_refl _) hown' hgrow; have hc1 := hv1.cell; have hf1 := hv1.frozen)
    exact ⟨hk2.from _, ⟨hk2.size, fun k o hk ho => hk2.same k o hk (Obj.not_cells_of_walk ho)⟩, ⟨_, hv2, by simpa using hr2, trivial⟩, hB.trans hb2⟩
  case done =>
    rintro D ys W hD hys ⟨⟨v, hv, hrow, _⟩, hB⟩ hK
    have hc := hv.cell
    gi_wp2
    refine ⟨by simp, .inl ⟨_, _, rfl, run_takeDeferred hK, ?_⟩⟩
    exact ⟨_, results_tmp rfl _ _ _, v, ys, hys, rfl, ownsRow_putObj hrow _ hK rfl, hB.trans (belowK_b (w := w) (Nat.le_refl _) W D _ _ (by simp at hD; omega) hK rfl rfl)⟩
  case stop =>
    rintro D c pre W _ _ h _
    exact h.elim

set_option maxHeartbeats 1000000 in
theorem collectK_any (Bb B : Nat) (l : List Int) (hn : l.length ≤ 1000000) (w : World) (hBb : Blk w Bb 86 #[.map (some B)]) (hM : KMap (Value.int .i64) okI w B (setF l)) :
    Calls Try.prog 40 #[.func (.func 42) #[] #[.pointer (some ⟨Bb, 0, none⟩)]] w fun e w' => ∃ v ys, KeysOf l ys ∧ e = .returned v ∧ w'.ownsRow w.heap.size 3 1 v ys.length (ys.map (Value.int .i64)) ∧ Below w.heap.size w w' := by
  go_enter Try.func40, Try.ntmps40
  go_wp2_with fail
  refine (appendSeqK_any Bb B l hn _ hBb hM).mono ?_
  rintro e w' ⟨v, ys, hys, rfl, hrow, hb⟩
  go_wp2_with fail
  go_ret
  exact ⟨v, ys, hys, rfl, hrow, hb⟩

/-- sorted -/
def srt (l : List Int) : List Int := l.mergeSort (fun x y => decide (x ≤ y))
theorem srt_perm (l : List Int) : (srt l).Perm l := List.mergeSort_perm _ _
theorem srt_len (l : List Int) : (srt l).length = l.length := (srt_perm l).length_eq

theorem srt_up {l : List Int} (h : l.Nodup) : (srt l).Pairwise (· < ·) := by
  have h1 : (srt l).Pairwise (fun x y => decide (x ≤ y) = true) := List.pairwise_mergeSort (fun a b c h1 h2 => by simp at h1 h2 ⊢; omega) (fun a b => by simp; omega) l
  have h2 : (srt l).Nodup := (srt_perm l).nodup_iff.2 h
  rw [List.nodup_iff_pairwise_ne] at h2
  exact h1.imp₂ (fun a b h3 h4 => by simp at h3; omega) h2

set_option maxRecDepth 100000 in
set_option maxHeartbeats 2000000 in
/-- a row of one's own is sorted -/
theorem sortI_any (base g cap : Nat) (l : List Int) (w0 w : World) (hn : l.length ≤ 1000000) (hrow : w.ownsRow base 3 1 (.slice (some ⟨g, 0, none⟩) l.length cap) l.length (l.map (Value.int .i64))) (hB : Below w0.heap.size w0 w) (hb : w0.heap.size ≤ base) :
    Calls Try.prog 41 #[.slice (some ⟨g, 0, none⟩) l.length cap] w fun e w' => e = .returned (.tuple #[]) ∧ w'.ownsRow base 3 1 (.slice (some ⟨g, 0, none⟩) l.length cap) l.length ((srt l).map (Value.int .i64)) ∧ Below w0.heap.size w0 w' := by
  rcases hrow.2 with ⟨hv, hz⟩ | ⟨gb, cap', cur, hv, hbase, hgb, r1, r2, r3, r4⟩
  · injection hv with hv; cases hv
  · injection hv with h1 h2 h3
    injection h1 with h1
    injection h1 with h1
    subst h1
    subst h3
    have hH : Holds encZ w g 0 l.toArray := holds_of_block_i hgb (by simpa [encZ] using r4)
    have hgl : g < w.heap.size := (Array.getElem?_eq_some_iff.1 hgb).1
    refine (AnyM.slices_Sort_int Try.sortInts g 0 cap l w hH hgl (by omega)).mono ?_
    rintro e w2 ⟨rfl, k, os, rfl⟩
    exact ⟨rfl, ownsRow_sorted_i (by simp) hbase hgb r1 r2 r3, hB.grown (grownBy_sorted_i _) hB.size (fun j hj => by cases hj; omega)⟩
end Go.Proofs.Ytmoolcpogilgkaa

namespace Go.Proofs.Ytmoolcpogilgkaa
open Go.RowKit Go.Shelf Go.Sort

theorem zeroB' (w : World) : (zeroValue 4).run Try.prog w = .ok (.bool false) w := by kernel_rfl
/-- a number that can be -/
def clI (x : Int) : Int := if okI x then x else 0
theorem clI_ok (x : Int) : okI (clI x) := by
  unfold clI
  by_cases h : okI x
  · rw [if_pos h]; exact h
  · rw [if_neg h]; decide
theorem clI_eq {x : Int} (h : okI x) : clI x = x := if_pos h
def encC (x : Int) : Value := .int .i64 (clI x)
theorem putC_eq (d : Array Int) (cur : Array Value) (h : ∀ j, j < d.size → okI d[j]!) : putCells encC 0 d cur = putCells encZ 0 d cur := by
  unfold putCells
  apply Array.ext_getElem?
  intro k
  rw [Array.getElem?_mapIdx, Array.getElem?_mapIdx]
  congr 1
  funext x
  by_cases hk : 0 ≤ k ∧ k < 0 + d.size
  · rw [if_pos hk, if_pos hk]
    unfold encC
    rw [clI_eq (h _ (by omega))]
    try rfl
  · rw [if_neg hk, if_neg hk]

theorem without1_any (Bb B : Nat) (gone : List Int) (x : Int) (hx : okI x) (w : World) (hBb : w.cell? ⟨Bb, 0, none⟩ = some (.map (some B))) (hM : KMap (Value.int .i64) okI w B (setF gone)) :
    Calls Try.prog 76 #[.int .i64 x, .pointer (some ⟨Bb, 0, none⟩)] w fun e w' => e = .returned (.bool (decide (x ∈ gone))) ∧ ∃ q, w' = w.drewN q := by
  have lk : (Instr.lookup 86 (.map (some B)) (.int .i64 x) false).run Try.prog w = .ok (.bool (decide (x ∈ gone))) w := by
    have := run_lookupK kkI Try.underlying86 zeroB' hM x hx
    rw [this]
    unfold setF
    by_cases h : x ∈ gone <;> simp [h]
  go_enter Try.func76, Try.ntmps76
  go_wp2
  go_ret
  exact ⟨rfl, 0, rfl⟩

theorem own_take {w : World} {base g n k cap : Nat} {l : List Value} (h : w.ownsRow base 3 1 (.slice (some ⟨g, 0, none⟩) n cap) n l) (hk : k ≤ n) : w.ownsRow base 3 1 (.slice (some ⟨g, 0, none⟩) k cap) k (l.take k) := by
  obtain ⟨h0, h⟩ := h
  rcases h with ⟨hv, _⟩ | ⟨g', cap', cur, hv, h1, h2, h3, h4, h5, h6⟩
  · injection hv with hv; cases hv
  · injection hv with e1 e2 e3
    injection e1 with e1
    injection e1 with e1
    subst e1
    subst e3
    refine ⟨by simp; omega, .inr ⟨g, cap, cur, rfl, h1, h2, by omega, h4, h5, ?_⟩⟩
    rw [← h6, List.take_take, Nat.mul_one, Nat.mul_one, Nat.min_eq_left hk]

set_option maxRecDepth 100000 in
set_option maxHeartbeats 1000000 in
theorem without_any (b n c b2 n2 c2 : Nat) (A A2 : Option Addr) (l gone : List Int) (hn : n ≤ 100000) (hn2 : n2 ≤ 100000) (hn0 : 0 < n) (hok : ∀ x ∈ l, okI x) (hok2 : ∀ x ∈ gone, okI x) (w : World) (hl : Sl encI 1 w b A n l) (hl2 : Sl encI 1 w b2 A2 n2 gone) :
    Calls Try.prog 60 #[.slice A n c, .slice A2 n2 c2] w fun e w' => ∃ g k cap, e = .returned (.slice (some ⟨g, 0, none⟩) k cap) ∧ w'.ownsRow w.heap.size 3 1 (.slice (some ⟨g, 0, none⟩) k cap) k ((srt (l.filter fun x => !decide (x ∈ gone))).map (Value.int .i64)) ∧ Below w.heap.size w w' := by
  have hmf : ∀ (fn : Fn) (first cap : Array Value) (w : World), (Instr.makeFunc fn first cap).run Try.prog w = .ok (.func fn first cap) w := fun _ _ _ _ => rfl
  have HL := Lib.hid hl
  have HL2 := Lib.hid hl2
  have HOK := Lib.hid hok
  have HOK2 := Lib.hid hok2
  have HLEN := Lib.hid hl.len
  clear hl hl2 hok hok2
  go_enter Try.func60, Try.ntmps60
  go_upto_region 2 with (go_at_call 27; refine (set_any b2 n2 c2 A2 gone (by omega) HOK2.out _ HL2.out).mono ?_; rintro e w1 ⟨B, rfl, hB1, hM1, hb1⟩)
  have hz1 := hb1.size
  have hMl := hM1.lt
  have HB1 := Lib.hid hb1
  have HM1 := Lib.hid hM1
  have hl3 := (HL.out.old hb1).alloc (.cells #[.map (some B)] 86)
  have hbx := Blk.new w1 86 #[.map (some B)]
  have HL3 := Lib.hid hl3
  have HBX := Lib.hid hbx
  clear hb1 hM1 hl3 hbx
  go_wp2_with (go_at_call 75; refine (cloneI_any b n c A l (by omega) hn0 _ HL3.out).mono ?_; rintro e w2 ⟨g, c', rfl, hown, hb2⟩)
  have hz2 := hb2.size
  rw [World.size_alloc] at hz2
  have hbx2 := HBX.out.below hb2 HBX.out.lt
  have hM2 : KMap (Value.int .i64) okI w2 B (setF gone) := (HM1.out.alloc _).keep (hb2.block B (by simp; omega))
  obtain ⟨h0, hrow⟩ := hown
  rcases hrow with ⟨hv, _⟩ | ⟨g', cap', cur, hv, hbase, hgb, r1, r2, r3, r4⟩
  · injection hv with hv; cases hv
  injection hv with e1 e2 e3
  injection e1 with e1
  injection e1 with e1
  subst e1
  subst e3
  rw [World.size_alloc] at hbase
  have hflat : l.flatMap encI = l.map (Value.int .i64) := by rw [List.map_eq_flatMap]; rfl
  rw [hflat, Nat.mul_one] at r4
  have hgl : g < w2.heap.size := (Array.getElem?_eq_some_iff.1 hgb).1
  have hlen := HLEN.out
  have hHz : Holds encZ w2 g 0 l.toArray := holds_of_block_i hgb (by rw [← hlen]; simpa [encZ] using r4)
  have hHc : Holds encC w2 g 0 l.toArray := fun j hj => by
    have h1 := hHz j hj
    have h2 : okI l.toArray[j]! := HOK.out _ (by rw [getElem!_pos l.toArray j hj]; simp)
    unfold encC
    rw [clI_eq h2]; exact h1
  have hp : PredAt Try.prog 76 #[.pointer (some ⟨w1.heap.size, 0, none⟩)] encC (fun x => decide (clI x ∈ gone)) w2 := fun W x hb => without1_any w1.heap.size B gone (clI x) (clI_ok x) W ((hbx2.below hb hbx2.lt).cell 0) (hM2.keep (hb.block B hM2.lt))
  have hpo : PredOver Try.prog 76 #[.pointer (some ⟨w1.heap.size, 0, none⟩)] encC (fun x => decide (clI x ∈ gone)) g 0 l.toArray.size w2 := fun q os dk x _ => by
    refine without1_any w1.heap.size B gone (clI x) (clI_ok x) _ ?_ (hM2.keep ?_)
    · unfold sortWorld
      rw [cell?_grow _ _ _ (by show w1.heap.size < (putRow _ _ _ _ _).heap.size; rw [size_putRow]; exact hbx2.lt), cell?_putRow_other _ _ g 0 _ _ (Or.inl (by show w1.heap.size ≠ g; omega))]
      exact hbx2.cell 0
    · unfold sortWorld
      rw [heap_grow_old _ _ (by rw [size_putRow]; exact hM2.lt)]
      have : g ≠ B := by omega
      simp [putRow, mapBlock, Sort.ahead, Array.getElem?_modify, this]
  have hcon := AnyE.slices_DeleteFunc Try.delFunc encC (fun _ => rfl) (fun x => decide (clI x ∈ gone)) 76 #[.pointer (some ⟨w1.heap.size, 0, none⟩)] (enters_of Try.func76 (by kernel_rfl) rfl) 0 (fun w => by kernel_rfl) g 0 c' l.toArray w2 hp hpo hHc (by simp; omega) (by simp; omega)
  change Calls Try.prog 74 _ _ _ at hcon
  have hfil : (l.toArray.toList.filter fun x => !decide (clI x ∈ gone)) = l.filter fun x => !decide (x ∈ gone) := by
    show l.filter _ = _
    exact List.filter_congr fun x hx => by rw [clI_eq (HOK.out x hx)]
  rw [hfil] at hcon
  obtain ⟨r, hr⟩ : ∃ r, r = l.filter fun x => !decide (x ∈ gone) := ⟨_, rfl⟩
  rw [← hr] at hcon
  have hrl : r.length ≤ n := by rw [hr, hlen]; exact List.length_filter_le _ _
  have hrok : ∀ x ∈ r, okI x := fun x hx => HOK.out x (by rw [hr] at hx; exact (List.mem_filter.1 hx).1)
  have hsz : l.toArray.size = n := by simp [hlen]
  rw [hsz] at hcon
  have HCON := Lib.hid hcon
  have HR := Lib.hid hr
  have HGB := Lib.hid hgb
  have HB2 := Lib.hid hb2
  have hn2 : n ≤ c' := r1
  clear hcon hr hp hpo hHz hHc hfil hflat hbx2 hM2 hgb hb2 hsz hlen
  go_upto_region 3 with (go_at_call 74; refine HCON.out.mono ?_; rintro e w3 ⟨rfl, q, rfl⟩)
  have hcells : putCells encC 0 (r ++ List.replicate (n - r.length) 0).toArray cur = putCells encZ 0 (r ++ List.replicate (n - r.length) 0).toArray cur := putC_eq _ _ fun j hj => by
    rw [getElem!_pos _ j hj]
    have hm : ((r ++ List.replicate (n - r.length) 0).toArray[j]) ∈ (r ++ List.replicate (n - r.length) (0 : Int)) := by simp
    rcases List.mem_append.1 hm with h | h
    · exact hrok _ h
    · rw [(List.mem_replicate.1 h).2]; decide
  have hls : (r ++ List.replicate (n - r.length) (0 : Int)).length = n := by simp; omega
  have HE3 : putRow encC (Sort.ahead w2 q) g 0 (r ++ List.replicate (n - r.length) 0).toArray = grow (putRow encZ (Sort.ahead w2 q) g 0 (r ++ List.replicate (n - r.length) 0).toArray) #[] := by
    rw [grow_empty]
    unfold putRow mapBlock
    congr 1
    apply Array.ext_getElem?
    intro k
    rw [Array.getElem?_modify, Array.getElem?_modify]
    split
    · rename_i hk
      subst hk
      show Option.map _ w2.heap[g]? = Option.map _ w2.heap[g]?
      rw [HGB.out]
      show some (Obj.cells (putCells encC 0 (r ++ List.replicate (n - r.length) 0).toArray cur) _ _) = some (Obj.cells (putCells encZ 0 (r ++ List.replicate (n - r.length) 0).toArray cur) _ _)
      rw [hcells]
    · rfl
  have hown3 : (grow (putRow encZ (Sort.ahead w2 q) g 0 (r ++ List.replicate (n - r.length) 0).toArray) #[]).ownsRow (w1.heap.size + 1) 3 1 (.slice (some ⟨g, 0, none⟩) n c') n ((r ++ List.replicate (n - r.length) 0).map encZ) := by
    have := ownsRow_sorted_i (n := q) (os := #[]) (ss := l) (ts := r ++ List.replicate (n - r.length) 0) (base := w1.heap.size + 1) (e := 3) (cap := c') (by rw [hls, HLEN.out]) hbase HGB.out (by rw [← HLEN.out]; exact r1) r2 r3
    rw [← HLEN.out] at this
    exact this
  have hown4 := own_take hown3 hrl
  rw [← List.map_take, List.take_left'] at hown4
  rotate_left 1
  · rfl
  have hB3 : Below w.heap.size w (putRow encC (Sort.ahead w2 q) g 0 (r ++ List.replicate (n - r.length) 0).toArray) := by
    rw [HE3]
    exact (((HB1.out.alloc hz1 _).trans (HB2.out.mono (by simp; omega)))).grown (grownBy_sorted_i _) (by omega) (fun j hj => by cases hj; omega)
  rw [← HE3] at hown4
  have HO4 := Lib.hid hown4
  have HB3 := Lib.hid hB3
  clear hown3 hown4 hcells hB3 HE3
  go_wp2_with (go_at_call 41; refine (sortI_any (w1.heap.size + 1) g c' r w _ (by omega) HO4.out HB3.out (by omega)).mono ?_; rintro e w4 ⟨rfl, hown5, hb5⟩)
  go_ret
  exact ⟨g, r.length, c', rfl, by
    rw [← HR.out]
    have h6 := ownsRow_base hown5 (base' := w.heap.size) (by omega)
    exact h6, hb5⟩

theorem srt_eq {l k : List Int} (hl : l.Nodup) (hk : k.Pairwise (· < ·)) (h : ∀ x, x ∈ l ↔ x ∈ k) : srt l = k :=
  sorted_ext (srt_up hl) hk fun x => by rw [(srt_perm l).mem_iff]; exact h x
theorem ok_rg {n : Nat} (hn : n ≤ 1000) : ∀ x ∈ rg n, okI x := fun x hx => by
  obtain ⟨h0, h1⟩ := mem_rg.1 hx
  exact WalkArith.wf_i64 (by omega)

set_option maxRecDepth 100000 in
set_option maxHeartbeats 1000000 in
theorem but_any (Ab Am Ao : Option Addr) (nb cb nm cm no co b3 : Nat) (l : List Int) (w : World) (hnb : nb ≤ 8) (hnb0 : 0 < nb) (hno : no ≤ 100000) (hl : ∀ o ∈ l, 0 ≤ o ∧ o < nb) (hO : Sl encI 1 w b3 Ao no l) :
    Calls Try.prog 39 #[netV Ab Am nb cb nm cm, .slice Ao no co] w fun e w' => ∃ g k cap, e = .returned (.slice (some ⟨g, 0, none⟩) k cap) ∧ w'.ownsRow w.heap.size 3 1 (.slice (some ⟨g, 0, none⟩) k cap) k ((othersT nb l).map (Value.int .i64)) ∧ Below w.heap.size w w' := by
  have hbn := Blk.new w 27 #[.slice Ab nb cb, .slice Am nm cm]
  have c0 := hbn.cell 0
  have hok2 : ∀ x ∈ l, okI x := fun x hx => by obtain ⟨h0, h1⟩ := hl x hx; exact WalkArith.wf_i64 (by omega)
  have HL := Lib.hid (hO.alloc (.cells #[.slice Ab nb cb, .slice Am nm cm] 27))
  clear hO hbn
  go_enter Try.func39, Try.ntmps39
  go_wp2_with fail
  refine (numbers_any nb (by omega) _).mono ?_
  rintro e w1 ⟨A1, c1, rfl, hown1, hb1⟩
  rw [World.size_alloc] at hown1
  obtain ⟨g1, hg1, hsl1⟩ := Sl.of_own (enc := encI) encI_len (l := rg nb) (by simp [rg]) hown1
  have HB1 := Lib.hid hb1
  have HS1 := Lib.hid hsl1
  have hz1 := hb1.size
  clear hown1 hsl1 hb1 c0
  go_wp2_with fail
  refine (set_any g1 nb c1 A1 (rg nb) (by omega) (ok_rg (by omega)) _ HS1.out).mono ?_
  rintro e w2 ⟨B, rfl, hB2, hM2, hb2⟩
  have HB2 := Lib.hid hb2
  have HM2 := Lib.hid hM2
  have hz2 := hb2.size
  clear hM2 hb2
  go_wp2_with fail
  refine (keys_any B _).mono ?_
  rintro e w3 ⟨rfl, rfl⟩
  go_wp2_with fail
  refine (collectK_any w2.heap.size B (rg nb) (by rw [rg_length]; omega) _ (Blk.new _ _ _) (HM2.out.alloc _)).mono ?_
  rintro e w4 ⟨v4, ys, hys, rfl, hown4, hb4⟩
  have hz4 := hb4.size
  rw [World.size_alloc] at hz4 hown4
  have hyl : ys.length = nb := by
    have h1 := keysOf_len hys.1 (fun x hx => (hys.2 x).1 hx)
    have h2 := keysOf_len (rg_nodup nb) (fun x hx => (hys.2 x).2 hx)
    rw [rg_length] at h1 h2
    omega
  obtain ⟨g4, cap4, rfl⟩ : ∃ g4 cap4, v4 = .slice (some ⟨g4, 0, none⟩) ys.length cap4 := by
    rcases hown4.2 with ⟨_, h0⟩ | ⟨g, cap, cur, hv, _⟩
    · omega
    · exact ⟨g, cap, hv⟩
  have hsl4 : ∃ b4, w2.heap.size + 1 ≤ b4 ∧ Sl encI 1 w4 b4 (some ⟨g4, 0, none⟩) ys.length ys := Sl.of_own encI_len rfl (by have e : ys.flatMap encI = ys.map (Value.int .i64) := by { rw [List.map_eq_flatMap]; rfl }
                                                                                                                            rw [e]; exact hown4)
  obtain ⟨b4, hb4', hsl4⟩ := hsl4
  have hBW : Below w.heap.size w w4 := (((((Below.refl _ w).alloc (Nat.le_refl _) _).trans (HB1.out.mono (by simp))).trans (HB2.out.mono (by simp at hz1; omega))).alloc (by simp at hz1; omega) _).trans (hb4.mono (by simp at hz1 ⊢; omega))
  have hl4 : Sl encI 1 w4 b3 Ao no l := by
    have h1 := (HL.out.old HB1.out).old HB2.out
    exact (h1.alloc _).old hb4
  have HYS := Lib.hid hys
  have HS4 := Lib.hid hsl4
  have HL4 := Lib.hid hl4
  have HBW := Lib.hid hBW
  have HYL := Lib.hid hyl
  have hyn : ys.length ≤ 100000 := by omega
  have hyn0 : 0 < ys.length := by omega
  have hokys : ∀ x ∈ ys, okI x := fun x hx => ok_rg (by omega) x ((hys.2 x).1 hx)
  clear hys hsl4 hl4 hBW hyl hown4 hb4
  go_wp2_with fail
  refine (without_any b4 _ cap4 b3 no co _ Ao ys l hyn hno hyn0 hokys hok2 _ HS4.out HL4.out).mono ?_
  rintro e w5 ⟨g, k, cap, rfl, hown5, hb5⟩
  go_wp2_with fail
  go_ret
  refine ⟨g, k, cap, rfl, ?_, HBW.out.trans (hb5.mono HBW.out.size)⟩
  have e : srt (ys.filter fun x => !decide (x ∈ l)) = othersT nb l := srt_eq (HYS.out.1.filter _) (others_in nb l).up fun x => by
    rw [List.mem_filter, mem_others, HYS.out.2 x, mem_rg]; simp
  rw [e] at hown5
  exact ownsRow_base hown5 HBW.out.size
end Go.Proofs.Ytmoolcpogilgkaa
