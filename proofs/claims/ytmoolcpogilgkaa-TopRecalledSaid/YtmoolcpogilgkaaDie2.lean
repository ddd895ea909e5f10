/-
  The die, continued: how it is made of numbers; an order of so many numbers.
-/
import Derived.Test.YtmoolcpogilgkaaDie
set_option linter.unusedVariables false
set_option linter.unusedSimpArgs false
namespace Go.Proofs.Ytmoolcpogilgkaa
open Go.RowKit

set_option maxHeartbeats 1000000 in
theorem dieOf_any (b n c : Nat) (A : Option Addr) (l : List Int) (w : World) (hl : Sl encI 1 w b A n l) (hn : n ≤ 9223372036854775807) (hw : ∀ x ∈ l, (Lit.int .i64 x).wf = true) :
    Calls Try.prog 4 #[.slice A n c] w fun e w' => ∃ d, w.heap.size ≤ d ∧ e = .returned (.pointer (some ⟨d, 0, none⟩)) ∧ IsDie w' d ∧ Below w.heap.size w w' := by
  have HL := Lib.hid hl
  have hlen := hl.len
  clear hl
  have HLen := Lib.hid hlen
  clear hlen
  go_enter Try.func4, Try.ntmps4
  go_wp2_with fail
  go_loopw [4] (fun i wr => ∃ k : Nat, k ≤ n ∧ i = .int .i64 k ∧ IsDie wr w.heap.size ∧ Below w.heap.size w wr) (fun i _ => n - (intOf i).toNat)
  case atStart => exact ⟨0, Nat.zero_le _, rfl, ⟨_, by decide, Blk.new _ _ _⟩, (Below.refl _ _).alloc (Nat.le_refl _) _⟩
  case round =>
    obtain ⟨k, hk, rfl, ⟨f, hf, hb⟩, hB⟩ := hrel
    by_cases hlt : k < n
    · obtain ⟨o, rfl, hbs, hc⟩ := ((HL.out).old hB).atI (k := k) (by rw [← HLen.out]; exact hlt)
      have hlt0 : b < w.heap.size := HL.out.lt (by omega)
      have c0 := hb.cell 0
      have f0 := hb.frozen 0
      have i0 : (0 : Int) ≤ (k : Int) := by omega
      have i1 : (k : Int) < (n : Int) := by omega
      go_wp2_with fail
      go_region
      go_wp2_with fail
      refine (roll_any w.heap.size _ (by exact ⟨_, wf_wrap _ _, (hb.set_ 0 _).drew⟩)).mono ?_
      rintro e w1 ⟨⟨x, hx, rfl⟩, hd1, hg1⟩
      have hB1 : Below w.heap.size w w1 := Below.stepG hg1 ((hB.setCell (p := ⟨w.heap.size, 0, none⟩) (Nat.le_refl _) _).drew) (Nat.le_refl _) (Nat.le_refl _)
      clear hg1
      go_wp2
      go_roundw
      case rel => exact ⟨k + 1, by omega, by go_num, hd1, hB1⟩
      case measure => simp [intOf]; omega
    · have hkn : n ≤ k := by omega
      have hf2 : decide ((k : Int) < (n : Int)) = false := by simp; omega
      go_wp2
      go_ret
      exact ⟨_, Nat.le_refl _, rfl, ⟨f, hf, hb⟩, hB⟩

/-- an order of the numbers below n -/
def IsOrder (l : List Int) (n : Nat) : Prop := l.Perm ((List.range n).map Int.ofNat)

theorem order_snoc (k : Nat) : (List.range (k + 1)).map Int.ofNat = (List.range k).map Int.ofNat ++ [(k : Int)] := by
  rw [List.range_succ, List.map_append]; rfl
/-- one step of the shuffle: place k takes what stood at place j, place j takes k -/
theorem order_step {l : List Int} {k j : Nat} (h : IsOrder (l.take k) k) (hk : k < l.length) (hj : j ≤ k) (hjl : j < l.length) : IsOrder (((l.set k l[j]).set j (k : Int)).take (k + 1)) (k + 1) := by
  unfold IsOrder at *
  rw [order_snoc]
  have h1 : ((l.set k l[j]).set j (k : Int)).take (k + 1) = ((l.take k ++ [l[j]]).set j (k : Int)) := by
    apply List.ext_getElem
    · simp; omega
    · intro i h1 h2
      simp only [List.length_set, List.length_append, List.length_take, List.length_singleton] at h2
      simp only [List.getElem_take, List.getElem_set, List.getElem_append, List.length_take]
      by_cases e1 : j = i
      · simp [e1]
      · simp only [e1, if_false]
        by_cases e2 : k = i
        · subst e2
          rw [dif_neg (by omega)]
          simp
        · rw [dif_pos (by omega)]
          simp [e2]
  rw [h1]
  by_cases e : j = k
  · subst e
    have : (l.take j ++ [l[j]]).set j (j : Int) = l.take j ++ [(j : Int)] := by
      rw [List.set_append_right _ _ (by simp; omega)]
      have : j - (l.take j).length = 0 := by simp; omega
      rw [this]; rfl
    rw [this]
    exact h.append_right _
  · have hjk : j < k := by omega
    rw [List.set_append_left _ _ (by simp; omega)]
    refine List.Perm.trans ?_ (h.append_right _)
    -- the elements but the one at j, that one, and k
    have hlt : j < (l.take k).length := by simp; omega
    have e1 : (l.take k).set j (k : Int) = (l.take k).take j ++ (k : Int) :: (l.take k).drop (j + 1) := List.set_eq_take_append_cons_drop.trans (by rw [if_pos hlt])
    have e2 : l.take k = (l.take k).take j ++ l[j] :: (l.take k).drop (j + 1) := by
      have : (l.take k)[j]'hlt = l[j] := by simp
      rw [← this, List.getElem_cons_drop, List.take_append_drop]
    generalize hu : (l.take k).take j = u at e1 e2
    generalize hv : (l.take k).drop (j + 1) = v at e1 e2
    rw [e1, e2]
    simp only [List.append_assoc, List.cons_append]
    refine List.Perm.append_left u ?_
    -- k :: (v ++ [x]) ~ x :: (v ++ [k])
    have p1 : (v ++ [l[j]]).Perm (l[j] :: v) := List.perm_append_singleton _ _
    have p2 : (v ++ [(k : Int)]).Perm ((k : Int) :: v) := List.perm_append_singleton _ _
    exact ((p1.cons _).trans (List.Perm.swap _ _ _)).trans (p2.symm.cons _)

end Go.Proofs.Ytmoolcpogilgkaa
