/-
  price.least.
-/
import Derived.Test.YtkcdknjgjidnnaaSorted
set_option linter.unusedVariables false
set_option linter.unusedSimpArgs false
namespace Go.Proofs.Ytkcdknjgjidnnaa
open Go.RowKit Go.Shelf

/-- the first of which it is so; the last one if there is none -/
def leastOf (q : Int → Bool) : List Int → Int
  | [] => 0
  | [x] => x
  | x :: y :: r => if q x then x else leastOf q (y :: r)
theorem leastOf_last (q : Int → Bool) (l : List Int) (k : Nat) (h : k + 1 = l.length) : leastOf q (l.drop k) = l[k]'(by omega) := by
  rw [List.drop_eq_getElem_cons (by omega)]
  rw [List.drop_of_length_le (by omega)]
  rfl
theorem leastOf_drop (q : Int → Bool) (l : List Int) (k : Nat) (h : k + 1 < l.length) : leastOf q (l.drop k) = if q (l[k]'(by omega)) then l[k]'(by omega) else leastOf q (l.drop (k + 1)) := by
  rw [List.drop_eq_getElem_cons (l := l) (i := k) (by omega), List.drop_eq_getElem_cons (l := l) (i := k + 1) (by omega)]
  rfl
theorem flat_encI (l : List Int) : l.flatMap encI = l.map (Value.int .i64) := by
  induction l with
  | nil => rfl
  | cons a l ih => rw [List.flatMap_cons, ih]; rfl
theorem srt_len (l : List Int) : (srt l).length = l.length := by unfold srt; simp

set_option maxRecDepth 100000 in
set_option maxHeartbeats 2000000 in
theorem least_any (b m c : Nat) (A : Option Addr) (l : List Int) (hm : m + 1 ≤ 1000000) (p1 p2 p3 : Value) (q : Int → Bool) (w : World) (hl : Sl encI 1 w b A (m + 1) l)
    (hP : ∀ x w', Below w.heap.size w w' → Calls Try.prog 61 #[.int .i64 x, p1, p2, p3] w' fun e w'' => e = .returned (.bool (q x)) ∧ Below w'.heap.size w' w'') :
    Calls Try.prog 65 #[.slice A (m + 1) c, .func (.func 61) #[] #[p1, p2, p3]] w fun e w' => e = .returned (.int .i64 (leastOf q (srt l))) ∧ Below w.heap.size w w' := by
  have hlen := hl.len
  have HLen := Lib.hid hlen
  clear hlen
  have HP := Lib.hid hP
  clear hP
  go_enter Try.func65, Try.ntmps65
  go_wp2_with fail
  refine (values_any A (m + 1) c _).mono ?_
  rintro e w1 ⟨rfl, rfl⟩
  go_wp2_with fail
  refine (sorted_any w.heap.size b (m + 1) c A l (by omega) (by omega) _ (by simp) ((Blk.new w 29 #[.slice A (m + 1) c]).cell 0) (hl.alloc _)).mono ?_
  rintro e w2 ⟨g, c', rfl, hown, hcap, hb⟩
  rw [← HLen.out] at hown hcap ⊢
  have HB := Lib.hid (Below.step hb ((Below.refl _ w).alloc (Nat.le_refl _) _) (Nat.le_refl _))
  have hS : m + 1 = (srt l).length := by rw [srt_len]; exact HLen.out
  have HS := Lib.hid hS
  obtain ⟨b', hb', hsl⟩ := Sl.of_own (enc := encI) encI_len (l := srt l) (n := m + 1) HS.out (by rw [flat_encI]; exact hown)
  have HSL := Lib.hid hsl
  clear hown hsl hb hS
  have hz2 := HB.out.size
  go_wp2_with fail
  go_loopw [6, 16] (fun v i wr => ∃ k : Nat, k ≤ m ∧ i = .int .i64 k ∧ leastOf q ((srt l).drop k) = leastOf q (srt l) ∧ Below w2.heap.size w2 wr) (fun _ i _ => m - (intOf i).toNat)
  case atStart => exact ⟨0, Nat.zero_le _, rfl, rfl, Below.refl _ _⟩
  case round =>
    obtain ⟨k, hk, rfl, hle, hB⟩ := hrel
    have HE := Lib.hid hle
    have HBw := Lib.hid hB
    clear hle hB
    by_cases hlt : k < m
    · obtain ⟨o, ho, hbz, s0⟩ := (HSL.out.old HBw.out).atI (k := k) (by have := HS.out; omega)
      have HD := Lib.hid (leastOf_drop q (srt l) k (by have := HS.out; omega))
      obtain ⟨rfl, rfl⟩ : g = b' ∧ 0 = o := by simpa using ho
      rw [Nat.zero_add] at s0
      generalize hx : (srt l)[k]'(by have := HS.out; omega) = x at s0 HD
      clear hx
      have hPx := HP.out x wr (HB.out.trans (HBw.out.mono hz2))
      cases hq : q x
      · rw [hq] at hPx
        go_wp2_with fail
        refine hPx.mono ?_
        rintro e w3 ⟨rfl, hb3⟩
        have HB3 := Lib.hid (Below.step hb3 HBw.out (Nat.le_refl _))
        clear hb3 hPx
        go_wp2_with fail
        go_roundw
        case rel => exact ⟨k + 1, by omega, by simp, by rw [← HE.out, HD.out, hq]; rfl, HB3.out⟩
        case measure => simp [intOf]; omega
      · rw [hq] at hPx
        go_wp2_with fail
        refine hPx.mono ?_
        rintro e w3 ⟨rfl, hb3⟩
        have HB3 := Lib.hid (Below.step hb3 HBw.out (Nat.le_refl _))
        clear hb3 hPx
        go_wp2_with fail
        go_ret
        exact ⟨by rw [← HE.out, HD.out, hq]; rfl, Below.step HB3.out HB.out (Nat.le_refl _)⟩
    · obtain rfl : k = m := by omega
      obtain ⟨o, ho, hbz, s0⟩ := (HSL.out.old HBw.out).atI (k := k) (by have := HS.out; omega)
      have HD := Lib.hid (leastOf_last q (srt l) k HS.out)
      obtain ⟨rfl, rfl⟩ : g = b' ∧ 0 = o := by simpa using ho
      rw [Nat.zero_add] at s0
      generalize hx : (srt l)[k]'(by have := HS.out; omega) = x at s0 HD
      clear hx
      go_wp2_with fail
      go_ret
      exact ⟨by rw [← HE.out, HD.out]; rfl, Below.step HBw.out HB.out (Nat.le_refl _)⟩
end Go.Proofs.Ytkcdknjgjidnnaa
