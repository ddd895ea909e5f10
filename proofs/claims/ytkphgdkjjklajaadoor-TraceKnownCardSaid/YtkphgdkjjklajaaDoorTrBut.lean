/-
  trace.without, trace.but: a list without some numbers; the batches that are not among some.
-/
import Derived.Test.YtkphgdkjjklajaaDoorTrKeys
import Derived.Test.YtkphgdkjjklajaaDoorFunLay
import Derived.Test.YtkphgdkjjklajaaDoorTraceLaw
import Derived.Test.YtkphgdkjjklajaaDoorTrEdges
import Derived.Shelf.SlicesE.DeleteFunc
import Derived.Lib.SliceRun
set_option linter.unusedVariables false
set_option linter.unusedSimpArgs false
namespace Go.Proofs.YtkphgdkjjklajaaDoor
open Go.RowKit Go.Shelf Go.Sort

theorem zeroB' (w : World) : (zeroValue 4).run Tryd.prog w = .ok (.bool false) w := by kernel_rfl
/-- a number that can be -/
def clI (x : Int) : Int := if okI x then x else 0
theorem clI_ok (x : Int) : okI (clI x) := by
  unfold clI
  by_cases h : okI x
  · rw [if_pos h]; exact h
  · rw [if_neg h]; decide
theorem clI_eq {x : Int} (h : okI x) : clI x = x := if_pos h
def encC (x : Int) : Value := .int .i64 (clI x)
theorem putC_eq (d : Array Int) (cur : Array Value) (h : ∀ j, j < d.size → okI d[j]!) : putCells encC 0 d cur = putCells encZ 0 d cur := by
  unfold putCells
  apply Array.ext_getElem?
  intro k
  rw [Array.getElem?_mapIdx, Array.getElem?_mapIdx]
  congr 1
  funext x
  by_cases hk : 0 ≤ k ∧ k < 0 + d.size
  · rw [if_pos hk, if_pos hk]
    unfold encC
    rw [clI_eq (h _ (by omega))]
    try rfl
  · rw [if_neg hk, if_neg hk]

theorem without1_any (Bb B : Nat) (gone : List Int) (x : Int) (hx : okI x) (w : World) (hBb : w.cell? ⟨Bb, 0, none⟩ = some (.map (some B))) (hM : KMap (Value.int .i64) okI w B (setF gone)) :
    Calls Tryd.prog 58 #[.int .i64 x, .pointer (some ⟨Bb, 0, none⟩)] w fun e w' => e = .returned (.bool (decide (x ∈ gone))) ∧ ∃ q, w' = w.drewN q := by
  have lk : (Instr.lookup 61 (.map (some B)) (.int .i64 x) false).run Tryd.prog w = .ok (.bool (decide (x ∈ gone))) w := by
    have := run_lookupK kkI Tryd.underlying61 zeroB' hM x hx
    rw [this]
    unfold setF
    by_cases h : x ∈ gone <;> simp [h]
  go_enter Tryd.func58, Tryd.ntmps58
  go_wp2
  go_ret
  exact ⟨rfl, 0, rfl⟩

theorem own_take {w : World} {base g n k cap : Nat} {l : List Value} (h : w.ownsRow base 3 1 (.slice (some ⟨g, 0, none⟩) n cap) n l) (hk : k ≤ n) : w.ownsRow base 3 1 (.slice (some ⟨g, 0, none⟩) k cap) k (l.take k) := by
  obtain ⟨h0, h⟩ := h
  rcases h with ⟨hv, _⟩ | ⟨g', cap', cur, hv, h1, h2, h3, h4, h5, h6⟩
  · injection hv with hv; cases hv
  · injection hv with e1 e2 e3
    injection e1 with e1
    injection e1 with e1
    subst e1
    subst e3
    refine ⟨by simp; omega, .inr ⟨g, cap, cur, rfl, h1, h2, by omega, h4, h5, ?_⟩⟩
    rw [← h6, List.take_take, Nat.mul_one, Nat.mul_one, Nat.min_eq_left hk]

set_option maxRecDepth 100000 in
set_option maxHeartbeats 1000000 in
theorem without_any (b n c b2 n2 c2 : Nat) (A A2 : Option Addr) (l gone : List Int) (hn : n ≤ 100000) (hn2 : n2 ≤ 100000) (hn0 : 0 < n) (hok : ∀ x ∈ l, okI x) (hok2 : ∀ x ∈ gone, okI x) (w : World) (hl : Sl encI 1 w b A n l) (hl2 : Sl encI 1 w b2 A2 n2 gone) :
    Calls Tryd.prog 49 #[.slice A n c, .slice A2 n2 c2] w fun e w' => ∃ g k cap, e = .returned (.slice (some ⟨g, 0, none⟩) k cap) ∧ w'.ownsRow w.heap.size 3 1 (.slice (some ⟨g, 0, none⟩) k cap) k ((srt (l.filter fun x => !decide (x ∈ gone))).map (Value.int .i64)) ∧ Below w.heap.size w w' := by
  have hmf : ∀ (fn : Fn) (first cap : Array Value) (w : World), (Instr.makeFunc fn first cap).run Tryd.prog w = .ok (.func fn first cap) w := fun _ _ _ _ => rfl
  have HL := Lib.hid hl
  have HL2 := Lib.hid hl2
  have HOK := Lib.hid hok
  have HOK2 := Lib.hid hok2
  have HLEN := Lib.hid hl.len
  clear hl hl2 hok hok2
  go_enter Tryd.func49, Tryd.ntmps49
  go_upto_region 2 with (go_at_call 28; refine (set_any b2 n2 c2 A2 gone (by omega) HOK2.out _ HL2.out).mono ?_; rintro e w1 ⟨B, rfl, hB1, hM1, hb1⟩)
  have hz1 := hb1.size
  have hMl := hM1.lt
  have HB1 := Lib.hid hb1
  have HM1 := Lib.hid hM1
  have hl3 := (HL.out.old hb1).alloc (.cells #[.map (some B)] 61)
  have hbx := Blk.new w1 61 #[.map (some B)]
  have HL3 := Lib.hid hl3
  have HBX := Lib.hid hbx
  clear hb1 hM1 hl3 hbx
  go_wp2_with (go_at_call 22; refine (cloneI_any b n c A l (by omega) hn0 _ HL3.out).mono ?_; rintro e w2 ⟨g, c', rfl, hown, hb2⟩)
  have hz2 := hb2.size
  rw [World.size_alloc] at hz2
  have hbx2 := HBX.out.below hb2 HBX.out.lt
  have hM2 : KMap (Value.int .i64) okI w2 B (setF gone) := (HM1.out.alloc _).keep (hb2.block B (by simp; omega))
  obtain ⟨h0, hrow⟩ := hown
  rcases hrow with ⟨hv, _⟩ | ⟨g', cap', cur, hv, hbase, hgb, r1, r2, r3, r4⟩
  · injection hv with hv; cases hv
  injection hv with e1 e2 e3
  injection e1 with e1
  injection e1 with e1
  subst e1
  subst e3
  rw [World.size_alloc] at hbase
  have hflat : l.flatMap encI = l.map (Value.int .i64) := by rw [List.map_eq_flatMap]; rfl
  rw [hflat, Nat.mul_one] at r4
  have hgl : g < w2.heap.size := (Array.getElem?_eq_some_iff.1 hgb).1
  have hlen := HLEN.out
  have hHz : Holds encZ w2 g 0 l.toArray := holds_of_block_i hgb (by rw [← hlen]; simpa [encZ] using r4)
  have hHc : Holds encC w2 g 0 l.toArray := fun j hj => by
    have h1 := hHz j hj
    have h2 : okI l.toArray[j]! := HOK.out _ (by rw [getElem!_pos l.toArray j hj]; simp)
    unfold encC
    rw [clI_eq h2]; exact h1
  have hp : PredAt Tryd.prog 58 #[.pointer (some ⟨w1.heap.size, 0, none⟩)] encC (fun x => decide (clI x ∈ gone)) w2 := fun W x hb => without1_any w1.heap.size B gone (clI x) (clI_ok x) W ((hbx2.below hb hbx2.lt).cell 0) (hM2.keep (hb.block B hM2.lt))
  have hpo : PredOver Tryd.prog 58 #[.pointer (some ⟨w1.heap.size, 0, none⟩)] encC (fun x => decide (clI x ∈ gone)) g 0 l.toArray.size w2 := fun q os dk x _ => by
    refine without1_any w1.heap.size B gone (clI x) (clI_ok x) _ ?_ (hM2.keep ?_)
    · unfold sortWorld
      rw [cell?_grow _ _ _ (by show w1.heap.size < (putRow _ _ _ _ _).heap.size; rw [size_putRow]; exact hbx2.lt), cell?_putRow_other _ _ g 0 _ _ (Or.inl (by show w1.heap.size ≠ g; omega))]
      exact hbx2.cell 0
    · unfold sortWorld
      rw [heap_grow_old _ _ (by rw [size_putRow]; exact hM2.lt)]
      have : g ≠ B := by omega
      simp [putRow, mapBlock, Sort.ahead, Array.getElem?_modify, this]
  have hcon := AnyE.slices_DeleteFunc Tryd.delFunc encC (fun _ => rfl) (fun x => decide (clI x ∈ gone)) 58 #[.pointer (some ⟨w1.heap.size, 0, none⟩)] (enters_of Tryd.func58 (by kernel_rfl) rfl) 0 (fun w => by kernel_rfl) g 0 c' l.toArray w2 hp hpo hHc (by simp; omega) (by simp; omega)
  change Calls Tryd.prog 57 _ _ _ at hcon
  have hfil : (l.toArray.toList.filter fun x => !decide (clI x ∈ gone)) = l.filter fun x => !decide (x ∈ gone) := by
    show l.filter _ = _
    exact List.filter_congr fun x hx => by rw [clI_eq (HOK.out x hx)]
  rw [hfil] at hcon
  obtain ⟨r, hr⟩ : ∃ r, r = l.filter fun x => !decide (x ∈ gone) := ⟨_, rfl⟩
  rw [← hr] at hcon
  have hrl : r.length ≤ n := by rw [hr, hlen]; exact List.length_filter_le _ _
  have hrok : ∀ x ∈ r, okI x := fun x hx => HOK.out x (by rw [hr] at hx; exact (List.mem_filter.1 hx).1)
  have hsz : l.toArray.size = n := by simp [hlen]
  rw [hsz] at hcon
  have HCON := Lib.hid hcon
  have HR := Lib.hid hr
  have HGB := Lib.hid hgb
  have HB2 := Lib.hid hb2
  have hn2 : n ≤ c' := r1
  clear hcon hr hp hpo hHz hHc hfil hflat hbx2 hM2 hgb hb2 hsz hlen
  go_upto_region 3 with (go_at_call 57; refine HCON.out.mono ?_; rintro e w3 ⟨rfl, q, rfl⟩)
  have hcells : putCells encC 0 (r ++ List.replicate (n - r.length) 0).toArray cur = putCells encZ 0 (r ++ List.replicate (n - r.length) 0).toArray cur := putC_eq _ _ fun j hj => by
    rw [getElem!_pos _ j hj]
    have hm : ((r ++ List.replicate (n - r.length) 0).toArray[j]) ∈ (r ++ List.replicate (n - r.length) (0 : Int)) := by simp
    rcases List.mem_append.1 hm with h | h
    · exact hrok _ h
    · rw [(List.mem_replicate.1 h).2]; decide
  have hls : (r ++ List.replicate (n - r.length) (0 : Int)).length = n := by simp; omega
  have HE3 : putRow encC (Sort.ahead w2 q) g 0 (r ++ List.replicate (n - r.length) 0).toArray = grow (putRow encZ (Sort.ahead w2 q) g 0 (r ++ List.replicate (n - r.length) 0).toArray) #[] := by
    rw [grow_empty]
    unfold putRow mapBlock
    congr 1
    apply Array.ext_getElem?
    intro k
    rw [Array.getElem?_modify, Array.getElem?_modify]
    split
    · rename_i hk
      subst hk
      show Option.map _ w2.heap[g]? = Option.map _ w2.heap[g]?
      rw [HGB.out]
      show some (Obj.cells (putCells encC 0 (r ++ List.replicate (n - r.length) 0).toArray cur) _ _) = some (Obj.cells (putCells encZ 0 (r ++ List.replicate (n - r.length) 0).toArray cur) _ _)
      rw [hcells]
    · rfl
  have hown3 : (grow (putRow encZ (Sort.ahead w2 q) g 0 (r ++ List.replicate (n - r.length) 0).toArray) #[]).ownsRow (w1.heap.size + 1) 3 1 (.slice (some ⟨g, 0, none⟩) n c') n ((r ++ List.replicate (n - r.length) 0).map encZ) := by
    have := ownsRow_sorted_i (n := q) (os := #[]) (ss := l) (ts := r ++ List.replicate (n - r.length) 0) (base := w1.heap.size + 1) (e := 3) (cap := c') (by rw [hls, HLEN.out]) hbase HGB.out (by rw [← HLEN.out]; exact r1) r2 r3
    rw [← HLEN.out] at this
    exact this
  have hown4 := own_take hown3 hrl
  rw [← List.map_take, List.take_left'] at hown4
  rotate_left 1
  · rfl
  have hB3 : Below w.heap.size w (putRow encC (Sort.ahead w2 q) g 0 (r ++ List.replicate (n - r.length) 0).toArray) := by
    rw [HE3]
    exact (((HB1.out.alloc hz1 _).trans (HB2.out.mono (by simp; omega)))).grown (grownBy_sorted_i _) (by omega) (fun j hj => by cases hj; omega)
  rw [← HE3] at hown4
  have HO4 := Lib.hid hown4
  have HB3 := Lib.hid hB3
  clear hown3 hown4 hcells hB3 HE3
  go_wp2_with (go_at_call 40; refine (sortI_any (w1.heap.size + 1) g c' r w _ (by omega) HO4.out HB3.out (by omega)).mono ?_; rintro e w4 ⟨rfl, hown5, hb5⟩)
  go_ret
  exact ⟨g, r.length, c', rfl, by
    rw [← HR.out]
    have h6 := ownsRow_base hown5 (base' := w.heap.size) (by omega)
    exact h6, hb5⟩

theorem srt_eq {l k : List Int} (hl : l.Nodup) (hk : k.Pairwise (· < ·)) (h : ∀ x, x ∈ l ↔ x ∈ k) : srt l = k :=
  sorted_ext (srt_up hl) hk fun x => by rw [(srt_perm l).mem_iff]; exact h x
theorem ok_rg {n : Nat} (hn : n ≤ 1000) : ∀ x ∈ rg n, okI x := fun x hx => by
  obtain ⟨h0, h1⟩ := mem_rg.1 hx
  exact WalkArith.wf_i64 (by omega)

set_option maxRecDepth 100000 in
set_option maxHeartbeats 1000000 in
theorem but_any (Ab Am Ao : Option Addr) (nb cb nm cm no co b3 : Nat) (l : List Int) (w : World) (hnb : nb ≤ 8) (hnb0 : 0 < nb) (hno : no ≤ 100000) (hl : ∀ o ∈ l, 0 ≤ o ∧ o < nb) (hO : Sl encI 1 w b3 Ao no l) :
    Calls Tryd.prog 38 #[netV Ab Am nb cb nm cm, .slice Ao no co] w fun e w' => ∃ g k cap, e = .returned (.slice (some ⟨g, 0, none⟩) k cap) ∧ w'.ownsRow w.heap.size 3 1 (.slice (some ⟨g, 0, none⟩) k cap) k ((othersT nb l).map (Value.int .i64)) ∧ Below w.heap.size w w' := by
  have hbn := Blk.new w 25 #[.slice Ab nb cb, .slice Am nm cm]
  have c0 := hbn.cell 0
  have hok2 : ∀ x ∈ l, okI x := fun x hx => by obtain ⟨h0, h1⟩ := hl x hx; exact WalkArith.wf_i64 (by omega)
  have HL := Lib.hid (hO.alloc (.cells #[.slice Ab nb cb, .slice Am nm cm] 25))
  clear hO hbn
  go_enter Tryd.func38, Tryd.ntmps38
  go_wp2_with fail
  refine (numbers_any nb (by omega) _).mono ?_
  rintro e w1 ⟨A1, c1, rfl, hown1, hb1⟩
  rw [World.size_alloc] at hown1
  obtain ⟨g1, hg1, hsl1⟩ := Sl.of_own (enc := encI) encI_len (l := rg nb) (by simp [rg]) hown1
  have HB1 := Lib.hid hb1
  have HS1 := Lib.hid hsl1
  have hz1 := hb1.size
  clear hown1 hsl1 hb1 c0
  go_wp2_with fail
  refine (set_any g1 nb c1 A1 (rg nb) (by omega) (ok_rg (by omega)) _ HS1.out).mono ?_
  rintro e w2 ⟨B, rfl, hB2, hM2, hb2⟩
  have HB2 := Lib.hid hb2
  have HM2 := Lib.hid hM2
  have hz2 := hb2.size
  clear hM2 hb2
  go_wp2_with fail
  refine (keys_any B _).mono ?_
  rintro e w3 ⟨rfl, rfl⟩
  go_wp2_with fail
  refine (collectK_any w2.heap.size B (rg nb) (by rw [rg_length]; omega) _ (Blk.new _ _ _) (HM2.out.alloc _)).mono ?_
  rintro e w4 ⟨v4, ys, hys, rfl, hown4, hb4⟩
  have hz4 := hb4.size
  rw [World.size_alloc] at hz4 hown4
  have hyl : ys.length = nb := by
    have h1 := keysOf_len hys.1 (fun x hx => (hys.2 x).1 hx)
    have h2 := keysOf_len (rg_nodup nb) (fun x hx => (hys.2 x).2 hx)
    rw [rg_length] at h1 h2
    omega
  obtain ⟨g4, cap4, rfl⟩ : ∃ g4 cap4, v4 = .slice (some ⟨g4, 0, none⟩) ys.length cap4 := by
    rcases hown4.2 with ⟨_, h0⟩ | ⟨g, cap, cur, hv, _⟩
    · omega
    · exact ⟨g, cap, hv⟩
  have hsl4 : ∃ b4, w2.heap.size + 1 ≤ b4 ∧ Sl encI 1 w4 b4 (some ⟨g4, 0, none⟩) ys.length ys := Sl.of_own encI_len rfl (by have e : ys.flatMap encI = ys.map (Value.int .i64) := by { rw [List.map_eq_flatMap]; rfl }
                                                                                                                            rw [e]; exact hown4)
  obtain ⟨b4, hb4', hsl4⟩ := hsl4
  have hBW : Below w.heap.size w w4 := (((((Below.refl _ w).alloc (Nat.le_refl _) _).trans (HB1.out.mono (by simp))).trans (HB2.out.mono (by simp at hz1; omega))).alloc (by simp at hz1; omega) _).trans (hb4.mono (by simp at hz1 ⊢; omega))
  have hl4 : Sl encI 1 w4 b3 Ao no l := by
    have h1 := (HL.out.old HB1.out).old HB2.out
    exact (h1.alloc _).old hb4
  have HYS := Lib.hid hys
  have HS4 := Lib.hid hsl4
  have HL4 := Lib.hid hl4
  have HBW := Lib.hid hBW
  have HYL := Lib.hid hyl
  have hyn : ys.length ≤ 100000 := by omega
  have hyn0 : 0 < ys.length := by omega
  have hokys : ∀ x ∈ ys, okI x := fun x hx => ok_rg (by omega) x ((hys.2 x).1 hx)
  clear hys hsl4 hl4 hBW hyl hown4 hb4
  go_wp2_with fail
  refine (without_any b4 _ cap4 b3 no co _ Ao ys l hyn hno hyn0 hokys hok2 _ HS4.out HL4.out).mono ?_
  rintro e w5 ⟨g, k, cap, rfl, hown5, hb5⟩
  go_wp2_with fail
  go_ret
  refine ⟨g, k, cap, rfl, ?_, HBW.out.trans (hb5.mono HBW.out.size)⟩
  have e : srt (ys.filter fun x => !decide (x ∈ l)) = othersT nb l := srt_eq (HYS.out.1.filter _) (others_in nb l).up fun x => by
    rw [List.mem_filter, mem_others, HYS.out.2 x, mem_rg]; simp
  rw [e] at hown5
  exact ownsRow_base hown5 HBW.out.size
end Go.Proofs.YtkphgdkjjklajaaDoor
