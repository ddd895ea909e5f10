/-
  Truths that are pushed to an end.
-/
import Derived.Test.YtkcdknjgjidnnaaTruth
set_option linter.unusedVariables false
set_option linter.unusedSimpArgs false
namespace Go.Proofs.Ytkcdknjgjidnnaa
open Go.RowKit

theorem new3 (wr : World) (A B O : Obj) : (((wr.alloc A).alloc B).alloc O).heap[wr.heap.size + 1 + 1]? = some O := by
  have := heap_alloc_new ((wr.alloc A).alloc B) O
  simpa using this
theorem OverBook.own {w W W' : World} {st gd : Int} {A : Option Addr} {n c : Nat} {e : TypeId} {size m : Nat} {v : Value} {xs : List Value} (h : OverBook w st gd A n c W) (ho : W.ownsRow (w.heap.size + 1) e size v m xs) (hg : W.grownBy W' v.ownBlock) : OverBook w st gd A n c W' :=
  ⟨below_own ho hg h.low (by omega) (Nat.le_refl _), (own_keeps ho hg (by omega) h.blk.lt).trans h.blk⟩

set_option maxRecDepth 100000 in
set_option maxHeartbeats 1000000 in
theorem pushed_any (low : Bool) (st gd p : Int) (b n c : Nat) (A : Option Addr) (l : List Sale) (w : World) (hl : Sl encS 6 w b A n l) (hn : n ≤ 40) :
    Calls Try.prog 40 #[.agg #[.int .i64 st, .int .i64 gd, .slice A n c], .int .i64 p, .bool low] w fun e w' => ∃ (b' c' : Nat) (A' : Option Addr), e = .returned (.slice A' n c') ∧ Sl encD 2 w' b' A' n (l.map (pushS p low)) ∧ Below w.heap.size w w' := by
  obtain ⟨i0, hi, iz0, iz1, iz2⟩ := info_parts info_sold
  have HA := Lib.hid hl.len
  have HL := Lib.hid hl
  clear hl
  go_enter Try.func40, Try.ntmps40
  go_wp2_with fail
  go_loopw [7, 8] (fun v i wr => ∃ (k c' : Nat) (A' : Option Addr), k ≤ n ∧ i = .int .i64 k ∧ v = .slice A' k c' ∧ wr.ownsRow (w.heap.size + 1) 76 2 (.slice A' k c') k (((l.take k).map (pushS p low)).flatMap encD) ∧ OverBook w st gd A n c wr) (fun _ i _ => n - (intOf i).toNat)
  case atStart => exact ⟨0, 0, none, by omega, rfl, rfl, World.ownsRow_nil _ _ _ _, OverBook.start w st gd A n c⟩
  case round =>
    obtain ⟨k, c', A', hk, rfl, rfl, hown, hO⟩ := hrel
    have HOWN := Lib.hid hown
    have HO := Lib.hid hO
    have k2 := hO.blk.cell 2
    have hz := hO.blk.lt
    clear hown hO
    by_cases hlt : k < n
    · have hk1 : k < l.length := by have := HA.out; omega
      obtain ⟨o, rfl, hbz, s0, s1, s2, s3, s4, s5⟩ := (HL.out.old HO.out.low).atS hk1
      have HP := Lib.hid (show ((l.take (k + 1)).map (pushS p low)).flatMap encD = ((l.take k).map (pushS p low)).flatMap encD ++ encD (pushS p low l[k]) by rw [take_snoc l k hk1, List.map_append, List.flatMap_append]; simp)
      generalize l[k] = s at s0 s1 s2 s3 s4 s5 HP
      have e0 : (0 : Int) ≤ (k : Int) := by omega
      have e1 : (k : Int) < (n : Int) := by omega
      cases low
      · by_cases hp : p ≤ s.ch
        · have HQ := Lib.hid (show pushS p false s = ⟨s.gh, s.ch⟩ by simp [pushS, hp])
          go_wp2_with (at_builtin; refine wpList_append_lies _ rfl _ _ 63 rfl (w.heap.size + 1) 76 i0 _ 2 16 Try.underlying63 hi iz0 iz1 iz2 rfl (by omega) _ k _ (by rfl) (((HOWN.out.alloc (.cells #[.int .i64 s.st, .int .i64 s.gd, .int .i64 s.gl, .int .i64 s.gh, .int .i64 s.cl, .int .i64 s.ch] 28)).alloc (.cells #[.int .i64 s.gh, .int .i64 s.ch] 76)).alloc (.cells #[.int .i64 s.gh, .int .i64 s.ch] 76)) ⟨wr.heap.size + 1 + 1, 0, none⟩ 1 1 (encD ⟨s.gh, s.ch⟩) (by rfl) (by rfl) (World.news_of_block (new3 wr _ _ _)) (oneD _) (by omega) (by unfold maxLen; omega) (by omega) (by simp; omega) (wr.heap.size + 1 + 1 + 1) (by simp) ?_; intro g' cap w3 hown3 hgrow hat hlt3)
          have HO3 := Lib.hid ((((HO.out.alloc _).alloc _).alloc _).own (((HOWN.out.alloc (.cells #[.int .i64 s.st, .int .i64 s.gd, .int .i64 s.gl, .int .i64 s.gh, .int .i64 s.cl, .int .i64 s.ch] 28)).alloc (.cells #[.int .i64 s.gh, .int .i64 s.ch] 76)).alloc (.cells #[.int .i64 s.gh, .int .i64 s.ch] 76)) hgrow)
          have HN3 := Lib.hid hown3
          clear hown3 hgrow hat
          go_roundw
          case rel => exact ⟨k + 1, cap, _, by omega, by go_num, rfl, by rw [HP.out, HQ.out]; exact HN3.out, HO3.out⟩
          case measure => simp [intOf]; omega
        · have HQ := Lib.hid (show pushS p false s = ⟨s.gl, s.ch⟩ by simp [pushS, hp])
          go_wp2_with (at_builtin; refine wpList_append_lies _ rfl _ _ 63 rfl (w.heap.size + 1) 76 i0 _ 2 16 Try.underlying63 hi iz0 iz1 iz2 rfl (by omega) _ k _ (by rfl) (((HOWN.out.alloc (.cells #[.int .i64 s.st, .int .i64 s.gd, .int .i64 s.gl, .int .i64 s.gh, .int .i64 s.cl, .int .i64 s.ch] 28)).alloc (.cells #[.int .i64 s.gl, .int .i64 s.ch] 76)).alloc (.cells #[.int .i64 s.gl, .int .i64 s.ch] 76)) ⟨wr.heap.size + 1 + 1, 0, none⟩ 1 1 (encD ⟨s.gl, s.ch⟩) (by rfl) (by rfl) (World.news_of_block (new3 wr _ _ _)) (oneD _) (by omega) (by unfold maxLen; omega) (by omega) (by simp; omega) (wr.heap.size + 1 + 1 + 1) (by simp) ?_; intro g' cap w3 hown3 hgrow hat hlt3)
          have HO3 := Lib.hid ((((HO.out.alloc _).alloc _).alloc _).own (((HOWN.out.alloc (.cells #[.int .i64 s.st, .int .i64 s.gd, .int .i64 s.gl, .int .i64 s.gh, .int .i64 s.cl, .int .i64 s.ch] 28)).alloc (.cells #[.int .i64 s.gl, .int .i64 s.ch] 76)).alloc (.cells #[.int .i64 s.gl, .int .i64 s.ch] 76)) hgrow)
          have HN3 := Lib.hid hown3
          clear hown3 hgrow hat
          go_roundw
          case rel => exact ⟨k + 1, cap, _, by omega, by go_num, rfl, by rw [HP.out, HQ.out]; exact HN3.out, HO3.out⟩
          case measure => simp [intOf]; omega
      · by_cases hp : s.cl ≤ p
        · have HQ := Lib.hid (show pushS p true s = ⟨s.gh, s.cl⟩ by simp [pushS, hp])
          go_wp2_with (at_builtin; refine wpList_append_lies _ rfl _ _ 63 rfl (w.heap.size + 1) 76 i0 _ 2 16 Try.underlying63 hi iz0 iz1 iz2 rfl (by omega) _ k _ (by rfl) (((HOWN.out.alloc (.cells #[.int .i64 s.st, .int .i64 s.gd, .int .i64 s.gl, .int .i64 s.gh, .int .i64 s.cl, .int .i64 s.ch] 28)).alloc (.cells #[.int .i64 s.gh, .int .i64 s.cl] 76)).alloc (.cells #[.int .i64 s.gh, .int .i64 s.cl] 76)) ⟨wr.heap.size + 1 + 1, 0, none⟩ 1 1 (encD ⟨s.gh, s.cl⟩) (by rfl) (by rfl) (World.news_of_block (new3 wr _ _ _)) (oneD _) (by omega) (by unfold maxLen; omega) (by omega) (by simp; omega) (wr.heap.size + 1 + 1 + 1) (by simp) ?_; intro g' cap w3 hown3 hgrow hat hlt3)
          have HO3 := Lib.hid ((((HO.out.alloc _).alloc _).alloc _).own (((HOWN.out.alloc (.cells #[.int .i64 s.st, .int .i64 s.gd, .int .i64 s.gl, .int .i64 s.gh, .int .i64 s.cl, .int .i64 s.ch] 28)).alloc (.cells #[.int .i64 s.gh, .int .i64 s.cl] 76)).alloc (.cells #[.int .i64 s.gh, .int .i64 s.cl] 76)) hgrow)
          have HN3 := Lib.hid hown3
          clear hown3 hgrow hat
          go_roundw
          case rel => exact ⟨k + 1, cap, _, by omega, by go_num, rfl, by rw [HP.out, HQ.out]; exact HN3.out, HO3.out⟩
          case measure => simp [intOf]; omega
        · have HQ := Lib.hid (show pushS p true s = ⟨s.gl, s.cl⟩ by simp [pushS, hp])
          go_wp2_with (at_builtin; refine wpList_append_lies _ rfl _ _ 63 rfl (w.heap.size + 1) 76 i0 _ 2 16 Try.underlying63 hi iz0 iz1 iz2 rfl (by omega) _ k _ (by rfl) (((HOWN.out.alloc (.cells #[.int .i64 s.st, .int .i64 s.gd, .int .i64 s.gl, .int .i64 s.gh, .int .i64 s.cl, .int .i64 s.ch] 28)).alloc (.cells #[.int .i64 s.gl, .int .i64 s.cl] 76)).alloc (.cells #[.int .i64 s.gl, .int .i64 s.cl] 76)) ⟨wr.heap.size + 1 + 1, 0, none⟩ 1 1 (encD ⟨s.gl, s.cl⟩) (by rfl) (by rfl) (World.news_of_block (new3 wr _ _ _)) (oneD _) (by omega) (by unfold maxLen; omega) (by omega) (by simp; omega) (wr.heap.size + 1 + 1 + 1) (by simp) ?_; intro g' cap w3 hown3 hgrow hat hlt3)
          have HO3 := Lib.hid ((((HO.out.alloc _).alloc _).alloc _).own (((HOWN.out.alloc (.cells #[.int .i64 s.st, .int .i64 s.gd, .int .i64 s.gl, .int .i64 s.gh, .int .i64 s.cl, .int .i64 s.ch] 28)).alloc (.cells #[.int .i64 s.gl, .int .i64 s.cl] 76)).alloc (.cells #[.int .i64 s.gl, .int .i64 s.cl] 76)) hgrow)
          have HN3 := Lib.hid hown3
          clear hown3 hgrow hat
          go_roundw
          case rel => exact ⟨k + 1, cap, _, by omega, by go_num, rfl, by rw [HP.out, HQ.out]; exact HN3.out, HO3.out⟩
          case measure => simp [intOf]; omega
    · have HK := Lib.hid (show k = n by omega)
      go_wp2_with fail
      go_ret
      have ho := HOWN.out
      have e := HK.out
      subst e
      rw [List.take_of_length_le (by have := HA.out; omega)] at ho
      obtain ⟨b', hb', hsl⟩ := Sl.of_own encD_len (by rw [List.length_map]; exact HA.out) ho
      exact ⟨b', c', A', rfl, hsl, HO.out.low⟩
end Go.Proofs.Ytkcdknjgjidnnaa
