/-
  Seal of the reference.
-/
import Derived.Test.YtjmppionedcfeaaGreatDoorApp
import Derived.Deep.AppendLies
import Derived.Test.YtjmppionedcfeaaGreatDoorRChk
import Derived.Deep.CutRange
set_option linter.unusedVariables false
set_option linter.unusedSimpArgs false
namespace Go.Proofs.YtjmppionedcfeaaGreatDoor
open Go.RowKit

theorem flat_encI6 (y : Sale) : (nums y).flatMap encI = [.int .i64 y.st, .int .i64 y.gd, .int .i64 y.gl, .int .i64 y.gh, .int .i64 y.cl, .int .i64 y.ch] := rfl
theorem flat_nums_len (l : List Sale) : (l.flatMap nums).length = l.length * 6 := by
  induction l with
  | nil => rfl
  | cons a r ih => rw [List.flatMap_cons, List.length_append, ih]; simp [nums]; omega
theorem two_new (wr : World) (a b : Obj) : ((wr.alloc a).alloc b).heap[wr.heap.size + 1]? = some b := by
  have := heap_alloc_new (wr.alloc a) b
  rwa [World.size_alloc] at this
set_option maxRecDepth 100000 in
set_option maxHeartbeats 1000000 in
theorem rnumbers_any (st gd : Int) (b n c : Nat) (A : Option Addr) (l : List Sale) (w : World) (hl : Sl encS 6 w b A n l) (hn : n ≤ 40) :
    Calls Tryz.prog 58 #[.agg #[.int .i64 st, .int .i64 gd, .slice A n c]] w fun e w' => ∃ A' c' b', e = .returned (.slice A' (2 + n * 6) c') ∧ Sl encI 1 w' b' A' (2 + n * 6) ([st, gd] ++ l.flatMap nums) ∧ Below w.heap.size w w' := by
  have HL := Lib.hid hl
  have HA := Lib.hid hl.len
  have HO := Lib.hid (OverBook.start w st gd A n c)
  clear hl
  obtain ⟨i0, hi, iz0, iz1, iz2⟩ := info_parts info_int
  have e0 := HO.out.blk.cell 0
  have e1 := HO.out.blk.cell 1
  go_enter Tryz.func58, Tryz.ntmps58
  go_wp2_with fail
  go_loopw [3, 4] (fun v i wr => ∃ (k c' : Nat) (A' : Option Addr), k ≤ n ∧ i = .int .i64 k ∧ v = .slice A' (2 + k * 6) c' ∧ wr.ownsRow (w.heap.size + 1) 3 1 (.slice A' (2 + k * 6) c') (2 + k * 6) (([st, gd] ++ (l.take k).flatMap nums).flatMap encI) ∧ OverBook w st gd A n c wr) (fun _ i _ => n - (intOf i).toNat)
  case atStart =>
    refine ⟨0, 2, some ⟨w.heap.size + 1, 0, none⟩, by omega, rfl, by simp, ?_, HO.out.alloc _⟩
    have := World.ownsRow_lit (base := w.heap.size + 1) (e := 3) (size := 1) (w.alloc (.cells #[.int .i64 st, .int .i64 gd, .slice A n c] 24)) #[.int .i64 st, .int .i64 gd] 2 (by simp) (by unfold maxLen; omega) (by simp)
    simpa [encI] using this
  case round =>
    clear e0 e1
    obtain ⟨k, c', A', hk, rfl, rfl, hown, hO⟩ := hrel
    have HOWN := Lib.hid hown
    have HOK := Lib.hid hO
    have hz := hO.low.size
    have hbz := hO.blk.lt
    have c2' := hO.blk.cell 2
    clear hown hO
    by_cases hlt : k < n
    · have hk1 : k < l.length := by have := HA.out; omega
      obtain ⟨o, rfl, hbz1, s0, s1, s2, s3, s4, s5⟩ := (HL.out.old HOK.out.low).atS hk1
      have HP := Lib.hid (show ([st, gd] ++ (l.take (k + 1)).flatMap nums).flatMap encI = ([st, gd] ++ (l.take k).flatMap nums).flatMap encI ++ (nums l[k]).flatMap encI by
        have e : (l.take (k + 1)).flatMap nums = (l.take k).flatMap nums ++ nums l[k] := by
          rw [take_snoc l k hk1, List.flatMap_append]
          simp only [List.flatMap_cons, List.flatMap_nil, List.append_nil]
        rw [e, ← List.append_assoc, List.flatMap_append])
      generalize l[k] = y at s0 s1 s2 s3 s4 s5 HP
      have i0' : (0 : Int) ≤ (k : Int) := by omega
      have i1' : (k : Int) < (n : Int) := by omega
      go_wp2_with (at_builtin; go_loud (refine wpList_append_lies _ rfl _ _ 25 rfl (w.heap.size + 1) 3 i0 _ 1 8 Tryz.underlying25 hi iz0 iz1 iz2 rfl (by omega) _ (2 + k * 6) _ (by rfl) ((HOWN.out.alloc (.cells #[.int .i64 y.st, .int .i64 y.gd, .int .i64 y.gl, .int .i64 y.gh, .int .i64 y.cl, .int .i64 y.ch] 59)).alloc (.cells #[.int .i64 y.st, .int .i64 y.gd, .int .i64 y.gl, .int .i64 y.gh, .int .i64 y.cl, .int .i64 y.ch] 3)) ⟨wr.heap.size + 1, 0, none⟩ 6 6 ((nums y).flatMap encI) (by rfl) (by rfl) (World.news_of_block (two_new wr _ _)) (by simp [flat_encI6, Value.oneCell']) (by omega) (by unfold maxLen; omega) (by omega) (by simp; omega) (wr.heap.size + 1 + 1) (by simp) ?_); intro g' cap w6 hown6 hgrow hat hlt6; have HW6 := Lib.hid hown6; have HO6 := Lib.hid (show OverBook w st gd (some ⟨b, o, none⟩) n c w6 from ⟨below_own ((HOWN.out.alloc _).alloc _) hgrow ((HOK.out.alloc _).alloc _).low (by omega) (Nat.le_refl _), (((HOK.out.alloc _).alloc _).blk).grown hgrow (fun e => (by have := (HOWN.out.lt _ e.symm).1; omega))⟩); clear hown6 hgrow hat hlt6)
      go_roundw
      case rel => exact ⟨k + 1, cap, _, by omega, by go_num, by rw [show 2 + (k + 1) * 6 = 2 + k * 6 + 6 by omega], by rw [HP.out, show 2 + (k + 1) * 6 = 2 + k * 6 + 6 by omega]; exact HW6.out, HO6.out⟩
      case measure => simp [intOf]; omega
    · obtain rfl : n = k := by omega
      have hfl : 2 + n * 6 = ([st, gd] ++ l.flatMap nums).length := by
        rw [List.length_append, flat_nums_len, ← HA.out]
        rfl
      have HFL := Lib.hid hfl
      have HTK := Lib.hid (show l.take n = l from List.take_of_length_le (by have := HA.out; omega))
      clear hfl
      go_wp2_with fail
      go_ret
      have ho := HOWN.out
      rw [HTK.out] at ho
      obtain ⟨b', hb', hsl⟩ := Sl.of_own encI_len HFL.out ho
      exact ⟨A', c', b', rfl, hsl, HOK.out.low⟩

set_option maxRecDepth 100000 in
set_option maxHeartbeats 1000000 in
theorem rseal_any (st gd : Int) (b n c : Nat) (A : Option Addr) (l : List Sale) (w : World) (hl : Sl encS 6 w b A n l) (hin : BookIn st gd l) :
    Calls Tryz.prog 34 #[.agg #[.int .i64 st, .int .i64 gd, .slice A n c]] w fun e w' => e = .returned (.int .i64 (sealOf st gd l)) ∧ Below w.heap.size w w' := by
  have HO := Lib.hid (OverBook.start w st gd A n c)
  have HIN := Lib.hid hin
  have hn40 : n ≤ 40 := by have := hin.len; have := hl.len; omega
  have hbd : ∀ x ∈ [st, gd] ++ l.flatMap nums, 0 ≤ x ∧ x ≤ 100000 := by
    intro x hx
    rcases List.mem_append.1 hx with hx | hx
    · have h1 := hin.st0; have h2 := hin.st1; have h3 := hin.gd0; have h4 := hin.gd1
      simp at hx
      omega
    · obtain ⟨s, hs, hx⟩ := List.mem_flatMap.1 hx
      exact (hin.sales s hs).nums_bd hin.st1 hin.gd1 x hx
  have HBD := Lib.hid hbd
  have HL := Lib.hid hl
  clear hl hin hbd
  go_enter Tryz.func34, Tryz.ntmps34
  go_wp2_with fail
  refine (rnumbers_any st gd b n c A l _ (HL.out.alloc _) hn40).mono ?_
  rintro e w1 ⟨A', c', b', rfl, hs, hB1⟩
  have HS := Lib.hid hs
  have HLEN := Lib.hid hs.len
  have HB1 := Lib.hid (Below.step hB1 HO.out.low (Nat.le_refl _))
  have HSE := Lib.hid (show sealOf st gd l = press 7 ([st, gd] ++ l.flatMap nums) from rfl)
  generalize [st, gd] ++ l.flatMap nums = L at HS HLEN HSE HBD
  have hN : 2 + n * 6 ≤ 300 := by omega
  generalize 2 + n * 6 = N at HS HLEN hN
  clear hs hB1
  go_wp2_with fail
  go_loop [3, 5] (fun v i => ∃ k : Nat, k ≤ N ∧ i = .int .i64 k ∧ v = .int .i64 (press 7 (L.take k))) (fun _ i => N - (intOf i).toNat)
  case atStart => exact ⟨0, by omega, rfl, rfl⟩
  case round =>
    obtain ⟨k, hk, rfl, rfl⟩ := hrel
    by_cases hlt : k < N
    · have hk1 : k < L.length := by have := HLEN.out; omega
      obtain ⟨o, rfl, hbz, hc⟩ := HS.out.atI hk1
      obtain ⟨x0, x1⟩ := HBD.out _ (List.getElem_mem hk1)
      obtain ⟨p0, p1⟩ := press_bd (s := 7) (by omega) (by omega) (L.take k)
      have HPS := Lib.hid (show press 7 (L.take (k + 1)) = (press 7 (L.take k) * 31 + L[k]) % 9973 by rw [take_snoc L k hk1, press_snoc])
      generalize press 7 (L.take k) = p at p0 p1 HPS ⊢
      generalize L[k] = x at x0 x1 hc HPS
      have i0' : (0 : Int) ≤ (k : Int) := by omega
      have i1' : (k : Int) < (N : Int) := by omega
      go_wp2_with fail
      go_round
      case rel => exact ⟨k + 1, by omega, by go_num, by rw [HPS.out]⟩
      case measure => simp [intOf]; omega
    · have HTK := Lib.hid (show L.take k = L from List.take_of_length_le (by have := HLEN.out; omega))
      rw [HTK.out]
      go_wp2_with fail
      go_ret
      exact ⟨by rw [HSE.out]; rfl, HB1.out⟩

end Go.Proofs.YtjmppionedcfeaaGreatDoor
