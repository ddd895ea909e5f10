/-
  OriginsOf, CopyInts, Total of the kit; Others of the reference. Others of the reference; Total of the kit.
-/
import Derived.Test.YtkphgdkjjklajaaTrAwk
import Derived.Test.YtkphgdkjjklajaaDie
set_option linter.unusedVariables false
set_option linter.unusedSimpArgs false
namespace Go.Proofs.Ytkphgdkjjklajaa
open Go.RowKit Go.Shelf Go.Sort

theorem rg_take_snoc (k : Nat) : rg (k + 1) = rg k ++ [(k : Int)] := by
  unfold rg; rw [List.range_succ, List.map_append]; rfl
theorem orgIn_snoc {k : Nat} {l : List Int} (h : OrgIn k l) : OrgIn (k + 1) (l ++ [(k : Int)]) where
  rg o ho := by
    rcases List.mem_append.1 ho with h1 | h1
    · have := h.rg o h1; omega
    · rw [List.mem_singleton.1 h1]; omega
  up := by
    rw [List.pairwise_append]
    refine ⟨h.up, List.pairwise_singleton .., fun a ha b hb => ?_⟩
    rw [List.mem_singleton.1 hb]
    exact (h.rg a ha).2
theorem orgIn_up {k : Nat} {l : List Int} (h : OrgIn k l) : OrgIn (k + 1) l where
  rg o ho := by have := h.rg o ho; omega
  up := h.up

set_option maxRecDepth 100000 in
set_option maxHeartbeats 2000000 in
theorem originsOf_any (d nb cb nm cm : Nat) (Ab Am : Option Addr) (w : World) (hd : IsDie w d) (hnb : nb ≤ 100000) :
    Calls Try.prog 18 #[.pointer (some ⟨d, 0, none⟩), netV Ab Am nb cb nm cm] w fun e w' => ∃ (l : List Int) (A : Option Addr) (c : Nat), OrgIn nb l ∧ e = .returned (.slice A l.length c) ∧ w'.ownsRow w.heap.size 3 1 (.slice A l.length c) l.length (l.flatMap encI) ∧ DieTo d w w' := by
  obtain ⟨i0, hi, iz0, iz1, iz2⟩ := info_parts info_int
  have hz := hd.lt
  have hBn := Blk.new w 25 #[.slice Ab nb cb, .slice Am nm cm]
  have c0 := hBn.cell 0
  have HBN := Lib.hid hBn
  have HD := Lib.hid (hd.alloc (.cells #[.slice Ab nb cb, .slice Am nm cm] 25))
  clear hBn hd
  go_enter Try.func18, Try.ntmps18
  go_wp2_with fail
  clear c0
  go_loopw [5, 6] (fun v i wr => ∃ (k c : Nat) (A : Option Addr) (l : List Int), k ≤ nb ∧ i = .int .i64 k ∧ v = .slice A l.length c ∧ OrgIn k l ∧ wr.ownsRow (w.heap.size + 1) 3 1 (.slice A l.length c) l.length (l.flatMap encI) ∧ IsDie wr d ∧ Blk wr w.heap.size 25 #[.slice Ab nb cb, .slice Am nm cm] ∧ w.grownBy wr (some d)) (fun _ i _ => nb - (intOf i).toNat)
  case atStart => exact ⟨0, 0, none, [], Nat.zero_le _, rfl, rfl, ⟨fun o ho => (by cases ho), List.Pairwise.nil⟩, World.ownsRow_nil _ _ _ _, HD.out, HBN.out, only_alloc (only_refl _ _) _⟩
  case round =>
    obtain ⟨k, c, A, l, hk, rfl, rfl, hl, hown, hdie, hblk, hgr⟩ := hrel
    have c0 := hblk.cell 0
    have hll : l.length ≤ k := by
      have h1 := nodup_len_le hl.nodup (N := k) (fun v hv => hl.rg v hv)
      exact h1
    have HL := Lib.hid hl
    have HOWN := Lib.hid hown
    have HDI := Lib.hid hdie
    have HBL := Lib.hid hblk
    have HGR := Lib.hid hgr
    have hzz := hblk.lt
    clear hl hown hdie hblk hgr
    by_cases hlt : k < nb
    · go_wp2_with fail
      refine (once_any d 2 _ HDI.out (by omega)).mono ?_
      rintro e w1 ⟨bb, rfl, hd1, hg1⟩
      have hb1 := die_keep HBL.out hg1 (by omega)
      have hbo := HDI.out.lt
      have HD1 := Lib.hid hd1
      have HB1 := Lib.hid hb1
      have HG1 := Lib.hid (only_step hg1 HGR.out (.inl rfl))
      have HO1 := Lib.hid (ownsRow_die HOWN.out hg1 (by omega))
      have hz1 := hg1.size
      have d0 := hb1.cell 0
      clear hd1 hg1 hb1 c0
      cases bb
      · go_wp2_with fail
        go_roundw
        case rel => exact ⟨k + 1, c, A, l, by omega, by go_num, rfl, orgIn_up HL.out, HO1.out, HD1.out, HB1.out, HG1.out⟩
        case measure => simp [intOf]; omega
      · go_wp2_with (at_builtin; refine wpList_append_sl rfl _ _ 22 rfl (w.heap.size + 1) 3 i0 _ 8 Try.underlying22 hi iz0 iz1 iz2 rfl (by omega) encI_len _ l.length _ rfl (HO1.out.alloc _) w1.heap.size _ 1 1 [(k : Int)] rfl (Sl.newI w1 [(k : Int)] 3) oneI (by unfold maxLen; omega) (by omega) (by simp; omega) ?_; intro A2 c2 w2 hown2 hgrow2 _; have HO2 := Lib.hid hown2; have HG2 := Lib.hid hgrow2; clear hown2 hgrow2)
        have hA := HO1.out.alloc (.cells #[.int .i64 (k : Int)] 3)
        have hkeep : ∀ b, b < w.heap.size + 1 → w2.heap[b]? = w1.heap[b]? := fun b hb => (own_keeps hA HG2.out hb (by simp; omega)).trans (Below.heap_alloc _ _ _ (by omega))
        have HD2 := Lib.hid (HD1.out.keep (hkeep d (by omega)))
        have HB2 := Lib.hid (show Blk w2 w.heap.size 25 #[.slice Ab nb cb, .slice Am nm cm] from (hkeep _ (by omega)).trans HB1.out)
        have HG3 := Lib.hid (only_own hA HG2.out (only_alloc HG1.out _) (by omega))
        clear hA hkeep
        go_wp2_with fail
        go_roundw
        case rel =>
          have e : l.length + 1 = (l ++ [(k : Int)]).length := by simp
          refine ⟨k + 1, c2, A2, l ++ [(k : Int)], by omega, by go_num, by rw [e], orgIn_snoc HL.out, ?_, HD2.out, HB2.out, HG3.out⟩
          rw [← e, List.flatMap_append]; exact HO2.out
        case measure => simp [intOf]; omega
    · obtain rfl : k = nb := by omega
      go_wp2_with fail
      go_ret
      exact ⟨l, A, c, HL.out, rfl, ownsRow_base HOWN.out (by omega), HDI.out, HGR.out⟩

set_option maxRecDepth 100000 in
set_option maxHeartbeats 1000000 in
/-- a copy of numbers -/
theorem copyInts_any (b n c : Nat) (A : Option Addr) (l : List Int) (w : World) (hl : Sl encI 1 w b A n l) (hn : n ≤ 1000000) :
    Calls Try.prog 20 #[.slice A n c] w fun e w' => ∃ A' c', e = .returned (.slice A' n c') ∧ w'.ownsRow w.heap.size 3 1 (.slice A' n c') n (l.flatMap encI) ∧ Below w.heap.size w w' := by
  obtain ⟨i0, hi, iz0, iz1, iz2⟩ := info_parts info_int
  have hown0 := own_empty w 3 1 w.heap.size w.heap.size rfl (Nat.le_refl _)
  have hsl := hl.alloc (.cells #[] 3)
  have HOW := Lib.hid hown0
  have HSL := Lib.hid hsl
  clear hl hsl hown0
  go_enter Try.func20, Try.ntmps20
  go_wp2_with (at_builtin; refine wpList_append_sl rfl _ _ 22 rfl w.heap.size 3 i0 _ 8 Try.underlying22 hi iz0 iz1 iz2 rfl (by omega) encI_len _ 0 [] rfl HOW.out b _ n c l rfl HSL.out oneI (by unfold maxLen; omega) (by omega) (by simp) ?_; intro A1 c1 w1 hown1 hgrow _; have HO1 := Lib.hid hown1; have HB1 := Lib.hid (below_own HOW.out hgrow ((Below.refl _ w).alloc (Nat.le_refl _) _) (Nat.le_refl _) (Nat.le_refl _)); clear hown1 hgrow)
  go_ret
  have ho := HO1.out
  simp only [Nat.zero_add, List.nil_append] at ho ⊢
  exact ⟨A1, c1, rfl, ho, HB1.out⟩
end Go.Proofs.Ytkphgdkjjklajaa

namespace Go.Proofs.Ytkphgdkjjklajaa
open Go.RowKit Go.Shelf Go.Sort

theorem others_yes {k : Nat} {l : List Int} (h : (k : Int) ∈ l) : othersT (k + 1) l = othersT k l := by
  unfold othersT; rw [rg_take_snoc, List.filter_append]; simp [h]
theorem others_no {k : Nat} {l : List Int} (h : (k : Int) ∉ l) : othersT (k + 1) l = othersT k l ++ [(k : Int)] := by
  unfold othersT; rw [rg_take_snoc, List.filter_append]; simp [h]
theorem others_len (k : Nat) (l : List Int) : (othersT k l).length ≤ k := by
  unfold othersT
  have := List.length_filter_le (fun b => !decide (b ∈ l)) (rg k)
  rwa [rg_length] at this
theorem mem_take_snoc {l : List Int} {j : Nat} (hj : j < l.length) (x : Int) : decide (x ∈ l.take (j + 1)) = (decide (x ∈ l.take j) || (l[j] == x)) := by
  rw [List.take_succ_eq_append_getElem hj, Bool.eq_iff_iff]
  simp only [decide_eq_true_eq, List.mem_append, List.mem_singleton, Bool.or_eq_true, beq_iff_eq]
  exact ⟨fun h => h.imp id Eq.symm, fun h => h.imp id Eq.symm⟩

set_option maxRecDepth 100000 in
set_option maxHeartbeats 2000000 in
theorem rothers_any (nb cb nm cm b no co : Nat) (Ab Am Ao : Option Addr) (l : List Int) (w : World) (hO : Sl encI 1 w b Ao no l) (hnb : nb ≤ 100000) (hno : no ≤ 100000) :
    Calls Try.prog 37 #[netV Ab Am nb cb nm cm, .slice Ao no co] w fun e w' => ∃ (A : Option Addr) (c : Nat), e = .returned (.slice A (othersT nb l).length c) ∧ w'.ownsRow w.heap.size 3 1 (.slice A (othersT nb l).length c) (othersT nb l).length ((othersT nb l).flatMap encI) ∧ Below w.heap.size w w' := by
  obtain ⟨i0, hi, iz0, iz1, iz2⟩ := info_parts info_int
  have hBn := Blk.new w 25 #[.slice Ab nb cb, .slice Am nm cm]
  have c0 := hBn.cell 0
  have HBN := Lib.hid hBn
  have HO := Lib.hid hO
  have HLN := Lib.hid hO.len
  have HB0 := Lib.hid ((Below.refl _ w).alloc (Nat.le_refl _) (.cells #[.slice Ab nb cb, .slice Am nm cm] 25))
  clear hBn hO
  go_enter Try.func37, Try.ntmps37
  go_wp2_with fail
  clear c0
  go_loopw [5, 6] (fun v i wr => ∃ (k c : Nat) (A : Option Addr), k ≤ nb ∧ i = .int .i64 k ∧ v = .slice A (othersT k l).length c ∧ wr.ownsRow (w.heap.size + 1) 3 1 (.slice A (othersT k l).length c) (othersT k l).length ((othersT k l).flatMap encI) ∧ Blk wr w.heap.size 25 #[.slice Ab nb cb, .slice Am nm cm] ∧ Below w.heap.size w wr) (fun _ i _ => nb - (intOf i).toNat)
  case atStart => exact ⟨0, 0, none, Nat.zero_le _, rfl, rfl, World.ownsRow_nil _ _ _ _, HBN.out, HB0.out⟩
  case round =>
    obtain ⟨k, c, A, hk, rfl, rfl, hown, hblk, hB⟩ := hrel
    have c0 := hblk.cell 0
    have hll := others_len k l
    have HOWN := Lib.hid hown
    have HBL := Lib.hid hblk
    have HB := Lib.hid hB
    have hzz := hblk.lt
    clear hown hblk hB
    by_cases hlt : k < nb
    · go_wp2_with fail
      obtain ⟨wo, rfl⟩ : ∃ wo : World, wo = wr := ⟨_, rfl⟩
      go_loopw [7, 8] (fun v i wi => ∃ j : Nat, j ≤ no ∧ i = .int .i64 j ∧ v = .bool (decide ((k : Int) ∈ l.take j)) ∧ wi = wo) (fun _ i _ => no - (intOf i).toNat)
      case atStart => exact ⟨0, Nat.zero_le _, rfl, by simp, rfl⟩
      case round =>
        obtain ⟨j, hj, rfl, rfl, rfl⟩ := hrel
        by_cases hlt2 : j < no
        · have hjl : j < l.length := by have := HLN.out; omega
          obtain ⟨o, rfl, hbz, s0⟩ := (HO.out.old HB.out).atI hjl
          have HTS := Lib.hid (mem_take_snoc hjl (k : Int))
          generalize l[j] = x at s0 HTS
          have j0 : (0 : Int) ≤ (j : Int) := by omega
          have j1 : (j : Int) < (no : Int) := by omega
          generalize decide ((k : Int) ∈ l.take j) = bb at HTS ⊢
          cases bb
          · go_wp2_with fail
            go_roundw
            case rel => exact ⟨j + 1, by omega, by go_num, by rw [HTS.out]; simp, trivial⟩
            case measure => simp [intOf]; omega
          · go_wp2_with fail
            go_roundw
            case rel => exact ⟨j + 1, by omega, by go_num, by rw [HTS.out]; simp, trivial⟩
            case measure => simp [intOf]; omega
        · obtain rfl : j = no := by omega
          have ht : l.take j = l := List.take_of_length_le (by have := HLN.out; omega)
          rw [ht]
          by_cases hm : (k : Int) ∈ l
          · rw [decide_eq_true hm]
            have HM := Lib.hid (others_yes hm)
            clear hm ht
            go_wp2_with fail
            go_roundw
            case rel => exact ⟨k + 1, c, A, by omega, by go_num, by rw [HM.out], by rw [HM.out]; exact HOWN.out, HBL.out, HB.out⟩
            case measure => simp [intOf]; omega
          · rw [decide_eq_false hm]
            have HM := Lib.hid (others_no hm)
            clear hm ht
            go_wp2_with (at_builtin; refine wpList_append_sl rfl _ _ 22 rfl (w.heap.size + 1) 3 i0 _ 8 Try.underlying22 hi iz0 iz1 iz2 rfl (by omega) encI_len _ (othersT k l).length _ rfl (HOWN.out.alloc _) wr.heap.size _ 1 1 [(k : Int)] rfl (Sl.newI wr [(k : Int)] 3) oneI (by unfold maxLen; omega) (by omega) (by simp; omega) ?_; intro A2 c2 w2 hown2 hgrow2 _; have HO2 := Lib.hid hown2; have HG2 := Lib.hid hgrow2; clear hown2 hgrow2)
            have hA := HOWN.out.alloc (.cells #[.int .i64 (k : Int)] 3)
            have HB2 := Lib.hid (show Blk w2 w.heap.size 25 #[.slice Ab nb cb, .slice Am nm cm] from ((own_keeps hA HG2.out (by omega) (by simp; omega)).trans (Below.heap_alloc _ _ _ (by omega))).trans HBL.out)
            have HG3 := Lib.hid (below_own hA HG2.out (HB.out.alloc HB.out.size _) (by omega) (Nat.le_refl _))
            clear hA
            go_wp2_with fail
            go_roundw
            case rel =>
              have e : (othersT k l).length + 1 = (othersT (k + 1) l).length := by rw [HM.out]; simp
              refine ⟨k + 1, c2, A2, by omega, by go_num, by rw [e], ?_, HB2.out, HG3.out⟩
              rw [← e, HM.out, List.flatMap_append]; exact HO2.out
            case measure => simp [intOf]; omega
    · obtain rfl : k = nb := by omega
      go_wp2_with fail
      go_ret
      exact ⟨A, c, rfl, ownsRow_base HOWN.out (by omega), HB.out⟩

def totalT (l : List Int) : Int := sm l fun x => x
theorem total_snoc {l : List Int} {j : Nat} (hj : j < l.length) : totalT (l.take (j + 1)) = totalT (l.take j) + l[j] := by
  unfold totalT; rw [List.take_succ_eq_append_getElem hj, sm_append]; simp [sm]
theorem total_bd {l : List Int} (h : ∀ x ∈ l, 0 ≤ x ∧ x ≤ 100000000) (j : Nat) : 0 ≤ totalT (l.take j) ∧ totalT (l.take j) ≤ j * 100000000 := by
  unfold totalT
  refine ⟨sm_nonneg fun x hx => (h x (List.mem_of_mem_take hx)).1, ?_⟩
  refine Int.le_trans (sm_const_le (c := 100000000) fun x hx => (h x (List.mem_of_mem_take hx)).2) ?_
  have : (l.take j).length ≤ j := by rw [List.length_take]; omega
  omega
set_option maxHeartbeats 1000000 in
theorem total_any (b n c : Nat) (A : Option Addr) (l : List Int) (w : World) (hl : Sl encI 1 w b A n l) (hn : n ≤ 100) (hx : ∀ x ∈ l, 0 ≤ x ∧ x ≤ 100000000) :
    Calls Try.prog 39 #[.slice A n c] w fun e w' => e = .returned (.int .i64 (totalT l)) ∧ w' = w := by
  have HL := Lib.hid hl
  have HLN := Lib.hid hl.len
  have HX := Lib.hid hx
  clear hl hx
  go_enter Try.func39, Try.ntmps39
  go_wp2_with fail
  go_loopw [3, 4] (fun v i wr => ∃ k : Nat, k ≤ n ∧ i = .int .i64 k ∧ v = .int .i64 (totalT (l.take k)) ∧ wr = w) (fun _ i _ => n - (intOf i).toNat)
  case atStart => exact ⟨0, Nat.zero_le _, rfl, rfl, rfl⟩
  case round =>
    obtain ⟨k, hk, rfl, rfl, rfl⟩ := hrel
    by_cases hlt : k < n
    · have hkl : k < l.length := by have := HLN.out; omega
      obtain ⟨o, rfl, hbz, s0⟩ := HL.out.atI hkl
      obtain ⟨t0, t1⟩ := total_bd HX.out k
      obtain ⟨x0, x1⟩ := HX.out l[k] (List.getElem_mem hkl)
      have HS := Lib.hid (total_snoc hkl)
      generalize l[k] = x at s0 x0 x1 HS
      generalize totalT (l.take k) = t at t0 t1 HS ⊢
      have i0 : (0 : Int) ≤ (k : Int) := by omega
      have i1 : (k : Int) < (n : Int) := by omega
      go_wp2_with fail
      go_roundw
      case rel => exact ⟨k + 1, by omega, by go_num, by rw [HS.out], trivial⟩
      case measure => simp [intOf]; omega
    · obtain rfl : k = n := by omega
      rw [show l.take k = l from List.take_of_length_le (by have := HLN.out; omega)]
      go_wp2_with fail
      go_ret
      exact ⟨rfl, rfl⟩
end Go.Proofs.Ytkphgdkjjklajaa
