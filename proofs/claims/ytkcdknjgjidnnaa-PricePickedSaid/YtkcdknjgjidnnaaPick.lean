/-
  price.Pick.
-/
import Derived.Test.YtkcdknjgjidnnaaPickLaw
import Derived.Test.YtkcdknjgjidnnaaChk
import Derived.Test.YtkcdknjgjidnnaaApp
import Derived.Test.YtkcdknjgjidnnaaDelLay
set_option linter.unusedVariables false
set_option linter.unusedSimpArgs false
namespace Go.Proofs.Ytkcdknjgjidnnaa
open Go.RowKit

theorem info_int' : (Try.prog.info? 3).map (fun i => (i.zero, i.size, i.bytes)) = some (some (.int .i64 0), 1, 8) := by kernel_rfl
/-- a list of numbers and an error come back -/
def IntsPost (D : List Int) (err : Int) (w : World) (e : Ending) (w' : World) : Prop := ∃ A' c' b', e = .returned (.tuple #[.slice A' D.length c', .int .i64 err]) ∧ Sl encI 1 w' b' A' D.length D ∧ D.length ≤ c' ∧ w.heap.size ≤ b' ∧ Below w.heap.size w w'

/-- the cells of a row hold a list -/
def HoldsI (w : World) (g : Nat) (r : List Int) : Prop := Sort.Holds (Value.int .i64) w g 0 r.toArray
theorem HoldsI.cell {w : World} {g : Nat} {r : List Int} (h : HoldsI w g r) {k : Nat} (hk : k < r.length) : w.cell? ⟨g, k, none⟩ = some (.int .i64 r[k]) := by
  have := (h k (by simpa using hk)).1
  rw [Nat.zero_add] at this
  rw [this]
  simp [hk]
theorem HoldsI.keep {w w' : World} {g : Nat} {r : List Int} (h : HoldsI w g r) (hb : w'.heap[g]? = w.heap[g]?) : HoldsI w' g r := fun j hj =>
  ⟨(World.cell?_of_block (w := w) (a := ⟨g, 0 + j, none⟩) hb).trans (h j hj).1, (World.frozen?_of_block (w := w) (a := ⟨g, 0 + j, none⟩) hb).trans (h j hj).2⟩
theorem holds_own {w : World} {base g n c : Nat} {e : TypeId} {r : List Int} (h : w.ownsRow base e 1 (.slice (some ⟨g, 0, none⟩) n c) n (r.flatMap encI)) (hn : n = r.length) : HoldsI w g r ∧ n ≤ c ∧ c ≤ 9223372036854775807 := by
  rcases h.2 with ⟨hv, _⟩ | ⟨g', cap, cur, hv, hbg, hh, hnc, hcm, hcs, htake⟩
  · injection hv with h1 h2 h3
    cases h1
  · injection hv with h1 h2 h3
    injection h1 with h1
    injection h1 with h1 h4
    subst h1
    subst h3
    refine ⟨fun j hj => ?_, hnc, by unfold maxLen at hcm; exact hcm⟩
    have hj' : j < r.length := by simpa using hj
    rw [Nat.mul_one, hn] at htake
    have hb : Blk w g e cur := hh
    rw [Nat.zero_add]
    refine ⟨?_, hb.frozen j⟩
    rw [hb.cell j]
    have h1 : (cur.toList.take r.length)[j]? = (r.flatMap encI)[j]? := by rw [htake]
    rw [List.getElem?_take_of_lt hj', Array.getElem?_toList] at h1
    rw [h1]
    have h2 := flat_at encI_len r j hj' 0 _ rfl
    rw [Nat.mul_one, Nat.add_zero] at h2
    rw [h2]
    simp [hj']
theorem delete_any (g cap : Nat) (r : List Int) (k : Nat) (w : World) (hH : HoldsI w g r) (hcap : r.length ≤ cap) (hm : cap ≤ 9223372036854775807) (hk : k < r.length) :
    Calls Try.prog 78 #[.slice (some ⟨g, 0, none⟩) r.length cap, .int .i64 k, .int .i64 ((k : Int) + 1)] w fun e w' => e = .returned (.slice (some ⟨g, 0, none⟩) (r.eraseIdx k).length cap) ∧ HoldsI w' g (r.eraseIdx k) ∧ w.grownBy w' (some g) := by
  have h := AnyG.slices_Delete_int Try.deleteInts g 0 cap k (k + 1) r w hH hcap hm (by omega) (by omega)
  rw [show (((k + 1 : Nat)) : Int) = (k : Int) + 1 by omega] at h
  refine h.mono ?_
  rintro e w' ⟨rfl, q, rfl⟩
  have hs : (r.take k ++ r.drop (k + 1) ++ List.replicate (k + 1 - k) 0).toArray.size = r.toArray.size := by simp; omega
  have hH2 := Sort.holds_putRow (Value.int .i64) (Sort.ahead w q) g 0 r.toArray _ (Sort.holds_ahead _ w q g 0 _ hH) hs
  refine ⟨by rw [List.length_eraseIdx_of_lt hk, show k + 1 - k = 1 by omega], fun j hj => ?_, ⟨rfl, rfl, rfl, by simp, fun i hi hne => ?_⟩⟩
  · have hj' : j < (r.eraseIdx k).length := by simpa using hj
    have hj2 : j < (r.take k ++ r.drop (k + 1) ++ List.replicate (k + 1 - k) 0).length := by
      rw [List.eraseIdx_eq_take_drop_succ] at hj'
      simp only [List.length_append] at hj' ⊢
      omega
    obtain ⟨h1, h2⟩ := hH2 j (by simpa using hj2)
    refine ⟨h1.trans ?_, h2⟩
    have e1 : (r.take k ++ r.drop (k + 1) ++ List.replicate (k + 1 - k) 0).toArray[j]! = (r.eraseIdx k).toArray[j]! := by
      rw [List.eraseIdx_eq_take_drop_succ] at hj' ⊢
      have h3 : j < (r.take k ++ r.drop (k + 1)).toArray.size := by simpa using hj'
      rw [getElem!_pos _ j (by simpa using hj2), getElem!_pos _ j h3]
      simp only [List.getElem_toArray]
      rw [List.getElem_append_left hj']
    rw [e1]
  · have hne' : g ≠ i := fun e => hne (by rw [e])
    show (Sort.putRow _ (Sort.ahead w q) g 0 _).heap[i]? = w.heap[i]?
    simp [Sort.putRow, Sort.mapBlock, Array.getElem?_modify, hne', Sort.ahead]
theorem Sl.takeI {w : World} {b n : Nat} {A : Option Addr} {l : List Int} (h : Sl encI 1 w b A n l) (k : Nat) (hk : k ≤ l.length) : Sl encI 1 w b A k (l.take k) := by
  refine ⟨by simp [hk], fun hpos => ?_⟩
  obtain ⟨o, h1, h2, h3⟩ := h.2 (by have := h.1; omega)
  refine ⟨o, h1, h2, fun j hj i u hu => h3 j (by simp at hj; omega) i u ?_⟩
  rw [List.getElem_take] at hu
  exact hu
theorem own_cap {w : World} {base n c : Nat} {e : TypeId} {A : Option Addr} {xs : List Value} (h : w.ownsRow base e 1 (.slice A n c) n xs) : n ≤ c ∧ c ≤ 9223372036854775807 := by
  rcases h.2 with ⟨hv, _⟩ | ⟨g', cap, cur, hv, hbg, hh, hnc, hcm, hcs, htake⟩
  · injection hv with h1 h2 h3
    omega
  · injection hv with h1 h2 h3
    subst h3
    exact ⟨hnc, by unfold maxLen at hcm; exact hcm⟩
end Go.Proofs.Ytkcdknjgjidnnaa
