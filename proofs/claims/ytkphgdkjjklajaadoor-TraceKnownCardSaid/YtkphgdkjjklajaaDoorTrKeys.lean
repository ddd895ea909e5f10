/-
  maps.Keys of a set of numbers; Collect, Sorted of them: in an order that is drawn; sorted.
-/
import Derived.Test.YtkphgdkjjklajaaDoorTrSet
import Derived.Test.YtkphgdkjjklajaaDoorSortLay
import Derived.RangeFuncNested
import Derived.RangeFuncBound
import Derived.RangeFuncBox
import Derived.RangeFuncCalls
import Derived.RangeFuncLeaves
import Derived.Shelf.Abstract
import Derived.Shelf.RegionOpen
import Derived.OwnWalkIn
import Derived.TacticsInMore
import Derived.LoopNIn
import Derived.LoopIn
import Derived.Maps.AppendAt
import Derived.Shelf.SortM.Plain
import Derived.Shelf.SortM.SortNone
import Derived.Ground.SlgmProg
import Derived.Sort.OwnSorted
import Derived.Shelf.SlIterI.Sorted
set_option linter.unusedVariables false
set_option linter.unusedSimpArgs false
namespace Go.Proofs.YtkphgdkjjklajaaDoor
open Go.RowKit Go.Shelf Go.Sort
attribute [local go_sem] Oper.semAt_some

/-- a list of a set's numbers, each once -/
def KeysOf (l ys : List Int) : Prop := ys.Nodup ∧ ∀ x, x ∈ ys ↔ x ∈ l
theorem keysOf_len {l ys : List Int} (h : ys.Nodup) (hs : ∀ x ∈ ys, x ∈ l) : ys.length ≤ l.length := by
  induction ys generalizing l with
  | nil => simp
  | cons a q ih =>
    rw [List.nodup_cons] at h
    have h1 := hs a (List.mem_cons_self ..)
    have h2 := ih (l := l.erase a) h.2 fun v hv => (List.mem_erase_of_ne fun e => h.1 (by rw [← e]; exact hv)).2 (hs v (List.mem_cons_of_mem _ hv))
    rw [List.length_erase_of_mem h1] at h2
    have := List.length_pos_of_mem h1
    simp only [List.length_cons]
    omega
theorem setF_some {l : List Int} {x : Int} {v : Value} : setF l x = some v → x ∈ l := fun h => by
  unfold setF at h
  by_cases hx : x ∈ l
  · exact hx
  · rw [if_neg hx] at h; cases h

set_option maxRecDepth 100000 in
set_option maxHeartbeats 2000000 in
theorem keys1_in (m L Bb B : Nat) (l : List Int) (J Jx : List Int → World → Prop) (W : World) (hJ : AbidesFrom W.heap.size J)
    (hY : ∀ pre x W1, J pre W1 → pre.length < l.length → YieldAt Fence.wide (m - 1) Tryd.prog L #[.int .i64 x] W1 fun e W' =>
      (e = .returned (.bool true) ∧ J (pre ++ [x]) W' ∧ KeepsWalks W1 W') ∨ (e = .returned (.bool false) ∧ Jx (pre ++ [x]) W'))
    (hBb : Blk W Bb 61 #[.map (some B)]) (hM : KMap (Value.int .i64) okI W B (setF l)) (h0 : J [] W) :
    CallsIn Fence.wide m Tryd.prog 41 #[.func (.yield L) #[] #[], .pointer (some ⟨Bb, 0, none⟩)] W fun e W' => (∃ v, e = .returned v) ∧
      ((∃ ys, KeysOf l ys ∧ J ys W') ∨ (∃ pre, True ∧ Jx pre W')) := by
  have c0 := hBb.cell 0
  obtain ⟨W1, hrun, ⟨cnt0, hit0⟩, o1, hW1⟩ := run_rangeK (P := Tryd.prog) (enc := Value.int .i64) (ok := okI) Tryd.underlying61 (w := W) (b := some B) (m := setF l) hM
  have hlB := hM.lt
  have HJ := Lib.hid hJ
  have HY := Lib.hid hY
  have HM := Lib.hid hM
  have H0 := Lib.hid h0
  have HIT := Lib.hid hit0
  have HW1 := Lib.hid hW1
  clear hJ hY hM h0 hit0 hBb hW1
  refine callsIn_of_wp Tryd.func41 rfl trivial ?_ rfl
  simp only [Tryd.ntmps41, List.size_toArray, List.length_cons, List.length_nil, Nat.reduceAdd, Nat.reduceSub, Array.replicate_succ, Array.replicate_zero, List.push_toArray, List.append_toArray, List.nil_append, List.cons_append]
  gi_wp2
  gi_loopw [3] (fun _ wr => ∃ (pre : List Int) (left : Int → Prop) (cnt : Nat), J pre wr ∧ KIt (Value.int .i64) okI wr W.heap.size (some B) (setF l) left cnt ∧ pre.Nodup ∧ (∀ x, x ∈ pre ↔ x ∈ l ∧ ¬ left x)) (fun _ wr => itLeft wr W.heap.size)
  case atStart =>
    refine ⟨[], _, cnt0, by rw [HW1.out]; exact HJ.out _ _ _ none H0.out (World.grownBy_alloc W o1 none) (fun _ e => by cases e), HIT.out, by simp, fun x => ?_⟩
    simp only [List.not_mem_nil, false_iff, not_and, Decidable.not_not]
    intro hx
    show (setF l x).isSome = true
    unfold setF; rw [if_pos hx]; rfl
  case round =>
    obtain ⟨pre, left, cnt, hJp, hit, hnd, hpre⟩ := hrel
    have HJP := Lib.hid hJp
    have HI := Lib.hid hit
    have HND := Lib.hid hnd
    have HPRE := Lib.hid hpre
    clear hJp hnd hpre
    rcases hit.next2 kkI 0 with ⟨hl, hrun2⟩ | ⟨q, v, w3, cnt', hq, hcq, hlq, hrun2, hit3, hcnt, hg3, hs3, hent⟩
    · have HL := Lib.hid hl
      clear hit hl
      gi_wp2
      go_end0
      exact ⟨⟨_, rfl⟩, .inl ⟨pre, ⟨HND.out, fun x => by rw [HPRE.out x]; exact ⟨fun h => h.1, fun h => ⟨h, HL.out x⟩⟩⟩, HJP.out⟩⟩
    · have hql := setF_some hcq
      have hqp : q ∉ pre := fun h => ((HPRE.out q).1 h).2 hlq
      have hnd2 : (pre ++ [q]).Nodup := by
        rw [List.nodup_append]
        exact ⟨HND.out, by simp, fun a ha b hb => by simp at hb; subst hb; exact fun e => hqp (e ▸ ha)⟩
      have hlen : pre.length < l.length := by
        have := keysOf_len hnd2 (l := l) fun x hx => by
          rcases List.mem_append.1 hx with h | h
          · exact ((HPRE.out x).1 h).1
          · simp at h; subst h; exact hql
        simp at this
        omega
      have hJ3 := HJ.out _ _ _ _ HJP.out hg3 (fun r e => by cases e; obtain ⟨b', s', sn, c', h'⟩ := hit.isIt; exact ⟨Nat.le_refl _, _, h', rfl⟩)
      obtain ⟨fn, tmps, assign, body, hy, hR⟩ := HY.out pre q w3 hJ3 hlen
      have HR := Lib.hid hR
      have HIT3 := Lib.hid hit3
      have HN2 := Lib.hid hnd2
      have HCN := Lib.hid hit.cnt_eq
      have HQ := Lib.hid hql
      clear hR hit3 hnd2 hJ3 hit hqp hcq hlq hg3
      gi_wp2
      refine ⟨fun h => by simp [Fence.wide] at h, HR.out.mono ?_⟩
      rintro e W4 (⟨rfl, hJ4, hk4⟩ | ⟨rfl, hJx4⟩)
      · have hit4 : KIt (Value.int .i64) okI W4 W.heap.size (some B) (setF l) (fun x => left x ∧ x ≠ q) cnt' := by
          obtain ⟨b', s', sn, c', h'⟩ := HIT3.out.isIt
          refine HIT3.out.keep (by rw [hk4.same _ _ h' rfl, h']) fun bm e => ?_
          injection e with e
          subst e
          rcases HIT3.out with ⟨h0, _⟩ | ⟨bm', es, clock, since, seen, c0, h0, h1, _⟩
          · cases h0
          · cases h0
            rw [hk4.same _ _ h1 rfl, h1]
        have HIT4 := Lib.hid hit4
        have HC4 := Lib.hid hit4.cnt_eq
        have HJ4 := Lib.hid hJ4
        clear hit4 hJ4 hk4 hy HR hrun2 hent
        gi_wp2
        go_roundw
        case rel =>
          refine ⟨pre ++ [q], _, cnt', HJ4.out, HIT4.out, HN2.out, fun x => ?_⟩
          have := HPRE.out x
          have hq := HQ.out
          simp only [List.mem_append, List.mem_singleton, this]
          constructor
          · rintro (⟨h1, h2⟩ | rfl)
            · exact ⟨h1, fun h => h2 h.1⟩
            · exact ⟨hq, fun h => h.2 rfl⟩
          · rintro ⟨h1, h2⟩
            by_cases e : x = q
            · exact .inr e
            · exact .inl ⟨h1, fun h => h2 ⟨h, e⟩⟩
        case measure => rw [HC4.out, HCN.out]; exact hcnt
      · gi_wp2
        refine bodyPost_ret (results_none rfl _ _ _) rfl ?_
        exact ⟨⟨_, rfl⟩, .inr ⟨_, trivial, hJx4⟩⟩

theorem keys1_stops (m Bb B : Nat) (l : List Int) (w : World) (hBb : Blk w Bb 61 #[.map (some B)]) (hM : KMap (Value.int .i64) okI w B (setF l)) :
    SeqStopsK Fence.wide m Tryd.prog 41 #[.pointer (some ⟨Bb, 0, none⟩)] (fun x : Int => #[Value.int .i64 x]) KeepsWalks (KeysOf l) (fun _ => True) l.length w := fun L J Jx W hW hJ _ hY h0 =>
  keys1_in m L Bb B l J Jx W hJ hY (hBb.below hW hBb.lt) (hM.keep (hW.block B hM.lt)) h0

theorem keys_any (B : Nat) (w : World) : Calls Tryd.prog 27 #[.map (some B)] w fun e w' => e = .returned (.func (.func 41) #[] #[.pointer (some ⟨w.heap.size, 0, none⟩)]) ∧ w' = w.alloc (.cells #[.map (some B)] 61) := by
  go_enter Tryd.func27, Tryd.ntmps27
  go_wp2
  go_ret
  exact ⟨rfl, rfl⟩

set_option maxRecDepth 100000 in
set_option maxHeartbeats 2000000 in
theorem appendSeqK_any (Bb B : Nat) (l : List Int) (hn : l.length ≤ 1000000) (w : World) (hBb : Blk w Bb 61 #[.map (some B)]) (hM : KMap (Value.int .i64) okI w B (setF l)) :
    Calls Tryd.prog 51 #[.slice none 0 0, .func (.func 41) #[] #[.pointer (some ⟨Bb, 0, none⟩)]] w fun e w' => ∃ v ys, KeysOf l ys ∧ e = .returned v ∧ w'.ownsRow w.heap.size 3 1 v ys.length (ys.map (Value.int .i64)) ∧ Below w.heap.size w w' := by
  obtain ⟨i0, hi, hz0, hz1, hz2⟩ := info_parts info_int
  refine (callsIn_wide (n := 9)).1 ?_
  refine callsIn_of_wp_marks Tryd.func51 rfl trivial ?_ rfl
  simp only [Tryd.ntmps51, List.size_toArray, List.length_cons, List.length_nil, Nat.reduceAdd, Nat.reduceSub, Array.replicate_succ, Array.replicate_zero, List.push_toArray, List.append_toArray, List.nil_append, List.cons_append]
  gi_wp2
  have bO : Boxed (w.alloc (.cells #[.slice none 0 0] 22)) w.heap.size 22 (.slice none 0 0) := Boxed.new w 22 (.slice none 0 0)
  have hB0 : Below w.heap.size w (w.alloc (.cells #[.slice none 0 0] 22)) := (Below.refl _ w).alloc (Nat.le_refl _) _
  refine wpIn_rangeFunc_ownG rfl (by omega) (gf := 41) (lb := #[.pointer (some ⟨Bb, 0, none⟩)]) rfl trivial (enters_of Tryd.func41 (by kernel_rfl) rfl)
    (keys1_stops _ Bb B l _ (hBb.alloc _) (hM.alloc _)) walksK_t walksK_b (Below.refl _ _) (fun _ => rfl)
    (fun pre W => (∃ v, Boxed W w.heap.size 22 v ∧ W.ownsRow w.heap.size 3 1 v pre.length (pre.map (Value.int .i64)) ∧ True) ∧ Below w.heap.size w W)
    (fun _ _ _ => False)
    (OwnFrom.and (Own.from (holdsRow_own w.heap.size w.heap.size 22 3 1 (fun pre : List Int => pre.length) (fun pre => pre.map (Value.int .i64)) (fun _ _ => True)) _) (ownFrom_below (Nat.le_refl _) (by simp)))
    (fun _ _ _ _ _ hs _ _ => hs)
    ⟨⟨_, bO, World.ownsRow_nil _ _ _ _, trivial⟩, hB0⟩
    (fun x => { tmps := #[.slice none 0 0, .func (.func 41) #[] #[.pointer (some ⟨Bb, 0, none⟩)], .pointer (some ⟨w.heap.size, 0, none⟩), undef, .slice none 0 0, .int .i64 x, .func (.func 41) #[] #[.pointer (some ⟨Bb, 0, none⟩)], .int .i64 x, undef, undef, undef, undef, undef], defers := [] }) ?assign ?body ?done ?stop
  case assign =>
    intro L x W K hK
    gi_wp2
    exact hK
  case body =>
    rintro L pre x W ⟨⟨v, hv, hrow, _⟩, hB⟩ hlt
    have hc := hv.cell
    gi_wp2_with (gi_at_builtin; refine wpListIn_append_own _ rfl _ _ 22 rfl w.heap.size 3 i0 (.int .i64 0) 1 8 Tryd.underlying22 hi hz0 hz1 hz2 rfl (by decide) _ _ _ rfl (hrow.alloc _) ⟨W.heap.size, 0, none⟩ 1 1 [.int .i64 x] rfl rfl (cell_one_new _ _ _) (by simp [Value.oneCell']) (by have : maxLen = 9223372036854775807 := rfl; omega) (by omega) (by have := hB.size; simp; omega) ?_; intro v' w1 hown' hgrow _; obtain ⟨g', cap', rfl⟩ := ownsRow_succ hown'; obtain ⟨hv1, hv2, hr2, hk2, hb2⟩ := hv.appended (by decide) hrow hB.size (Nat.le_refl _) hown' hgrow; have hc1 := hv1.cell; have hf1 := hv1.frozen)
    exact ⟨hk2.from _, ⟨hk2.size, fun k o hk ho => hk2.same k o hk (Obj.not_cells_of_walk ho)⟩, ⟨_, hv2, by simpa using hr2, trivial⟩, hB.trans hb2⟩
  case done =>
    rintro D ys W hD hys ⟨⟨v, hv, hrow, _⟩, hB⟩ hK
    have hc := hv.cell
    gi_wp2
    refine ⟨by simp, .inl ⟨_, _, rfl, run_takeDeferred hK, ?_⟩⟩
    exact ⟨_, results_tmp rfl _ _ _, v, ys, hys, rfl, ownsRow_putObj hrow _ hK rfl, hB.trans (belowK_b (w := w) (Nat.le_refl _) W D _ _ (by simp at hD; omega) hK rfl rfl)⟩
  case stop =>
    rintro D c pre W _ _ h _
    exact h.elim

set_option maxHeartbeats 1000000 in
theorem collectK_any (Bb B : Nat) (l : List Int) (hn : l.length ≤ 1000000) (w : World) (hBb : Blk w Bb 61 #[.map (some B)]) (hM : KMap (Value.int .i64) okI w B (setF l)) :
    Calls Tryd.prog 39 #[.func (.func 41) #[] #[.pointer (some ⟨Bb, 0, none⟩)]] w fun e w' => ∃ v ys, KeysOf l ys ∧ e = .returned v ∧ w'.ownsRow w.heap.size 3 1 v ys.length (ys.map (Value.int .i64)) ∧ Below w.heap.size w w' := by
  go_enter Tryd.func39, Tryd.ntmps39
  go_wp2_with fail
  refine (appendSeqK_any Bb B l hn _ hBb hM).mono ?_
  rintro e w' ⟨v, ys, hys, rfl, hrow, hb⟩
  go_wp2_with fail
  go_ret
  exact ⟨v, ys, hys, rfl, hrow, hb⟩

/-- sorted -/
def srt (l : List Int) : List Int := l.mergeSort (fun x y => decide (x ≤ y))
theorem srt_perm (l : List Int) : (srt l).Perm l := List.mergeSort_perm _ _
theorem srt_len (l : List Int) : (srt l).length = l.length := (srt_perm l).length_eq

theorem srt_up {l : List Int} (h : l.Nodup) : (srt l).Pairwise (· < ·) := by
  have h1 : (srt l).Pairwise (fun x y => decide (x ≤ y) = true) := List.pairwise_mergeSort (fun a b c h1 h2 => by simp at h1 h2 ⊢; omega) (fun a b => by simp; omega) l
  have h2 : (srt l).Nodup := (srt_perm l).nodup_iff.2 h
  rw [List.nodup_iff_pairwise_ne] at h2
  exact h1.imp₂ (fun a b h3 h4 => by simp at h3; omega) h2

set_option maxRecDepth 100000 in
set_option maxHeartbeats 2000000 in
/-- a row of one's own is sorted -/
theorem sortI_any (base g cap : Nat) (l : List Int) (w0 w : World) (hn : l.length ≤ 1000000) (hrow : w.ownsRow base 3 1 (.slice (some ⟨g, 0, none⟩) l.length cap) l.length (l.map (Value.int .i64))) (hB : Below w0.heap.size w0 w) (hb : w0.heap.size ≤ base) :
    Calls Tryd.prog 40 #[.slice (some ⟨g, 0, none⟩) l.length cap] w fun e w' => e = .returned (.tuple #[]) ∧ w'.ownsRow base 3 1 (.slice (some ⟨g, 0, none⟩) l.length cap) l.length ((srt l).map (Value.int .i64)) ∧ Below w0.heap.size w0 w' := by
  rcases hrow.2 with ⟨hv, hz⟩ | ⟨gb, cap', cur, hv, hbase, hgb, r1, r2, r3, r4⟩
  · injection hv with hv; cases hv
  · injection hv with h1 h2 h3
    injection h1 with h1
    injection h1 with h1
    subst h1
    subst h3
    have hH : Holds encZ w g 0 l.toArray := holds_of_block_i hgb (by simpa [encZ] using r4)
    have hgl : g < w.heap.size := (Array.getElem?_eq_some_iff.1 hgb).1
    refine (AnyM.slices_Sort_int Tryd.sortInts g 0 cap l w hH hgl (by omega)).mono ?_
    rintro e w2 ⟨rfl, k, os, rfl⟩
    exact ⟨rfl, ownsRow_sorted_i (by simp) hbase hgb r1 r2 r3, hB.grown (grownBy_sorted_i _) hB.size (fun j hj => by cases hj; omega)⟩
end Go.Proofs.YtkphgdkjjklajaaDoor
