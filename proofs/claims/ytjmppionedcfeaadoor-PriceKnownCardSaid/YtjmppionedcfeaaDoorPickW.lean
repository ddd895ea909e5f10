/-
  Picking, in plain words: what is picked, that nothing is picked twice, that each way comes once. price.Pick. price.Pick: the walk.
-/
import Derived.Test.YtjmppionedcfeaaDoorPure
import Derived.Test.YtjmppionedcfeaaDoorChk
import Derived.Test.YtjmppionedcfeaaDoorApp
import Derived.Test.YtjmppionedcfeaaDoorDelLay
import Derived.Deep.CutRange
set_option linter.unusedVariables false
set_option linter.unusedSimpArgs false
namespace Go.Proofs.YtjmppionedcfeaaDoor

def pickL : Nat → Int → List Int → List Int
  | 0, _, _ => []
  | m + 1, x, r => r.getD (x % (r.length : Int)).toNat 0 :: pickL m (x / (r.length : Int)) (r.eraseIdx (x % (r.length : Int)).toNat)
/-- in how many ways m of n things are picked -/
def wup (n : Nat) : Nat → Nat
  | 0 => 1
  | i + 1 => wup n i * (n - i)
theorem wup_succ (n m : Nat) (hn : 1 ≤ n) : n * wup (n - 1) m = wup n (m + 1) := by
  induction m with
  | zero => simp [wup]
  | succ m ih =>
    rw [wup, ← Nat.mul_assoc, ih, wup.eq_def n (m + 1 + 1)]
    simp only
    rw [show n - 1 - m = n - (m + 1) by omega]
theorem pickL_len (m : Nat) (x : Int) (r : List Int) : (pickL m x r).length = m := by
  induction m generalizing x r with
  | zero => rfl
  | succ m ih => simp [pickL, ih]
theorem pos_lt (x : Int) {n : Nat} (h : 1 ≤ n) : (x % (n : Int)).toNat < n := by
  have h1 := Int.emod_nonneg x (show (n : Int) ≠ 0 by omega)
  have h2 := Int.emod_lt_of_pos x (show (0 : Int) < (n : Int) by omega)
  omega
theorem pickL_mem {m : Nat} {x : Int} {r : List Int} (h : m ≤ r.length) : ∀ y ∈ pickL m x r, y ∈ r := by
  induction m generalizing x r with
  | zero => simp [pickL]
  | succ m ih =>
    have hp := pos_lt x (n := r.length) (by omega)
    intro y hy
    simp only [pickL, List.mem_cons] at hy
    rcases hy with rfl | hy
    · rw [List.getD_eq_getElem?_getD, List.getElem?_eq_getElem hp]
      exact List.getElem_mem _
    · exact List.mem_of_mem_eraseIdx (ih (by rw [List.length_eraseIdx_of_lt hp]; omega) y hy)
theorem mem_erase_ne {r : List Int} (hn : r.Nodup) {k : Nat} (hk : k < r.length) : r[k] ∉ r.eraseIdx k := by
  intro h
  obtain ⟨i, hi, hne, e⟩ := List.mem_eraseIdx_iff_getElem.1 h
  exact hne ((List.getElem_inj hn).1 e)
theorem nodup_erase {r : List Int} (hn : r.Nodup) (k : Nat) : (r.eraseIdx k).Nodup := hn.sublist (List.eraseIdx_sublist r k)
theorem pickL_nodup {m : Nat} {x : Int} {r : List Int} (hn : r.Nodup) (h : m ≤ r.length) : (pickL m x r).Nodup := by
  induction m generalizing x r with
  | zero => simp [pickL]
  | succ m ih =>
    have hp := pos_lt x (n := r.length) (by omega)
    have hl : m ≤ (r.eraseIdx (x % (r.length : Int)).toNat).length := by rw [List.length_eraseIdx_of_lt hp]; omega
    simp only [pickL, List.nodup_cons]
    refine ⟨fun hm => ?_, ih (nodup_erase hn _) hl⟩
    have := pickL_mem hl _ hm
    rw [List.getD_eq_getElem?_getD, List.getElem?_eq_getElem hp] at this
    exact mem_erase_ne hn hp this
theorem pickL_inj {m : Nat} {x y : Int} {r : List Int} (hn : r.Nodup) (h : m ≤ r.length) (e : pickL m x r = pickL m y r) : ((wup r.length m : Nat) : Int) ∣ x - y := by
  induction m generalizing x y r with
  | zero => simp [wup]
  | succ m ih =>
    have hp := pos_lt x (n := r.length) (by omega)
    have hq := pos_lt y (n := r.length) (by omega)
    simp only [pickL, List.cons.injEq] at e
    obtain ⟨e1, e2⟩ := e
    rw [List.getD_eq_getElem?_getD, List.getElem?_eq_getElem hp, List.getD_eq_getElem?_getD, List.getElem?_eq_getElem hq] at e1
    have e3 : (x % (r.length : Int)).toNat = (y % (r.length : Int)).toNat := (List.getElem_inj hn).1 e1
    rw [← e3] at e2
    have hl : m ≤ (r.eraseIdx (x % (r.length : Int)).toNat).length := by rw [List.length_eraseIdx_of_lt hp]; omega
    obtain ⟨c, hc⟩ := ih (nodup_erase hn _) hl e2
    rw [List.length_eraseIdx_of_lt hp] at hc
    refine ⟨c, ?_⟩
    rw [← wup_succ _ _ (by omega)]
    have h1 := Int.emod_nonneg x (show (r.length : Int) ≠ 0 by omega)
    have h2 := Int.emod_nonneg y (show (r.length : Int) ≠ 0 by omega)
    have e4 : x % (r.length : Int) = y % (r.length : Int) := by omega
    have h3 := Int.mul_ediv_add_emod x (r.length : Int)
    have h4 := Int.mul_ediv_add_emod y (r.length : Int)
    rw [Int.natCast_mul, Int.mul_assoc, ← hc, Int.mul_sub]
    omega
theorem pickL_ne {m n : Nat} {f : Int} {i j : Nat} {r : List Int} (hr : r.length = n) (hn : r.Nodup) (h : m ≤ n) (hi : i < j) (hj : j < wup n m) : pickL m (f + i) r ≠ pickL m (f + j) r := by
  intro e
  subst hr
  obtain ⟨c, hc⟩ := pickL_inj hn h e
  have h0 : c = 0 ∨ 1 ≤ c ∨ c ≤ -1 := by omega
  generalize (wup r.length m) = w at hj hc
  rcases h0 with rfl | h0 | h0
  · simp at hc; omega
  · have := Int.mul_le_mul_of_nonneg_left h0 (show (0 : Int) ≤ (w : Int) by omega)
    omega
  · have := Int.mul_le_mul_of_nonneg_left h0 (show (0 : Int) ≤ (w : Int) by omega)
    omega
/-- the places of n sales -/
def places (n : Nat) : List Int := (List.range n).map fun (i : Nat) => (i : Int)
theorem places_len (n : Nat) : (places n).length = n := by simp [places]
theorem places_succ (n : Nat) : places (n + 1) = places n ++ [(n : Int)] := by simp [places, List.range_succ]
theorem places_nodup (n : Nat) : (places n).Nodup := List.Pairwise.map _ (fun a b hab e => hab (by omega)) List.nodup_range
theorem places_mem {n : Nat} {x : Int} (h : x ∈ places n) : 0 ≤ x ∧ x < n := by
  simp only [places, List.mem_map, List.mem_range] at h
  obtain ⟨i, hi, rfl⟩ := h
  omega
def pickErr (st gd : Int) (l : List Sale) (x m : Int) : Int :=
  if check st gd l ≠ 0 then check st gd l else if !inB x 0 1000000000 || !inB m 0 (min 10 (l.length : Int)) then 1 else 0
def pickOut (st gd : Int) (l : List Sale) (x m : Int) : List Int := if pickErr st gd l x m = 0 then pickL m.toNat x (places l.length) else []
end Go.Proofs.YtjmppionedcfeaaDoor

namespace Go.Proofs.YtjmppionedcfeaaDoor
open Go.RowKit

theorem info_int' : (Tryd.prog.info? 3).map (fun i => (i.zero, i.size, i.bytes)) = some (some (.int .i64 0), 1, 8) := by kernel_rfl
/-- a list of numbers and an error come back -/
def IntsPost (D : List Int) (err : Int) (w : World) (e : Ending) (w' : World) : Prop := ∃ A' c' b', e = .returned (.tuple #[.slice A' D.length c', .int .i64 err]) ∧ Sl encI 1 w' b' A' D.length D ∧ D.length ≤ c' ∧ w.heap.size ≤ b' ∧ Below w.heap.size w w'

/-- the cells of a row hold a list -/
def HoldsI (w : World) (g : Nat) (r : List Int) : Prop := Sort.Holds (Value.int .i64) w g 0 r.toArray
theorem HoldsI.cell {w : World} {g : Nat} {r : List Int} (h : HoldsI w g r) {k : Nat} (hk : k < r.length) : w.cell? ⟨g, k, none⟩ = some (.int .i64 r[k]) := by
  have := (h k (by simpa using hk)).1
  rw [Nat.zero_add] at this
  rw [this]
  simp [hk]
theorem HoldsI.keep {w w' : World} {g : Nat} {r : List Int} (h : HoldsI w g r) (hb : w'.heap[g]? = w.heap[g]?) : HoldsI w' g r := fun j hj =>
  ⟨(World.cell?_of_block (w := w) (a := ⟨g, 0 + j, none⟩) hb).trans (h j hj).1, (World.frozen?_of_block (w := w) (a := ⟨g, 0 + j, none⟩) hb).trans (h j hj).2⟩
theorem holds_own {w : World} {base g n c : Nat} {e : TypeId} {r : List Int} (h : w.ownsRow base e 1 (.slice (some ⟨g, 0, none⟩) n c) n (r.flatMap encI)) (hn : n = r.length) : HoldsI w g r ∧ n ≤ c ∧ c ≤ 9223372036854775807 := by
  rcases h.2 with ⟨hv, _⟩ | ⟨g', cap, cur, hv, hbg, hh, hnc, hcm, hcs, htake⟩
  · injection hv with h1 h2 h3
    cases h1
  · injection hv with h1 h2 h3
    injection h1 with h1
    injection h1 with h1 h4
    subst h1
    subst h3
    refine ⟨fun j hj => ?_, hnc, by unfold maxLen at hcm; exact hcm⟩
    have hj' : j < r.length := by simpa using hj
    rw [Nat.mul_one, hn] at htake
    have hb : Blk w g e cur := hh
    rw [Nat.zero_add]
    refine ⟨?_, hb.frozen j⟩
    rw [hb.cell j]
    have h1 : (cur.toList.take r.length)[j]? = (r.flatMap encI)[j]? := by rw [htake]
    rw [List.getElem?_take_of_lt hj', Array.getElem?_toList] at h1
    rw [h1]
    have h2 := flat_at encI_len r j hj' 0 _ rfl
    rw [Nat.mul_one, Nat.add_zero] at h2
    rw [h2]
    simp [hj']
theorem delete_any (g cap : Nat) (r : List Int) (k : Nat) (w : World) (hH : HoldsI w g r) (hcap : r.length ≤ cap) (hm : cap ≤ 9223372036854775807) (hk : k < r.length) :
    Calls Tryd.prog 32 #[.slice (some ⟨g, 0, none⟩) r.length cap, .int .i64 k, .int .i64 ((k : Int) + 1)] w fun e w' => e = .returned (.slice (some ⟨g, 0, none⟩) (r.eraseIdx k).length cap) ∧ HoldsI w' g (r.eraseIdx k) ∧ w.grownBy w' (some g) := by
  have h := AnyG.slices_Delete_int Tryd.deleteInts g 0 cap k (k + 1) r w hH hcap hm (by omega) (by omega)
  rw [show (((k + 1 : Nat)) : Int) = (k : Int) + 1 by omega] at h
  refine h.mono ?_
  rintro e w' ⟨rfl, q, rfl⟩
  have hs : (r.take k ++ r.drop (k + 1) ++ List.replicate (k + 1 - k) 0).toArray.size = r.toArray.size := by simp; omega
  have hH2 := Sort.holds_putRow (Value.int .i64) (Sort.ahead w q) g 0 r.toArray _ (Sort.holds_ahead _ w q g 0 _ hH) hs
  refine ⟨by rw [List.length_eraseIdx_of_lt hk, show k + 1 - k = 1 by omega], fun j hj => ?_, ⟨rfl, rfl, rfl, by simp, fun i hi hne => ?_⟩⟩
  · have hj' : j < (r.eraseIdx k).length := by simpa using hj
    have hj2 : j < (r.take k ++ r.drop (k + 1) ++ List.replicate (k + 1 - k) 0).length := by
      rw [List.eraseIdx_eq_take_drop_succ] at hj'
      simp only [List.length_append] at hj' ⊢
      omega
    obtain ⟨h1, h2⟩ := hH2 j (by simpa using hj2)
    refine ⟨h1.trans ?_, h2⟩
    have e1 : (r.take k ++ r.drop (k + 1) ++ List.replicate (k + 1 - k) 0).toArray[j]! = (r.eraseIdx k).toArray[j]! := by
      rw [List.eraseIdx_eq_take_drop_succ] at hj' ⊢
      have h3 : j < (r.take k ++ r.drop (k + 1)).toArray.size := by simpa using hj'
      rw [getElem!_pos _ j (by simpa using hj2), getElem!_pos _ j h3]
      simp only [List.getElem_toArray]
      rw [List.getElem_append_left hj']
    rw [e1]
  · have hne' : g ≠ i := fun e => hne (by rw [e])
    show (Sort.putRow _ (Sort.ahead w q) g 0 _).heap[i]? = w.heap[i]?
    simp [Sort.putRow, Sort.mapBlock, Array.getElem?_modify, hne', Sort.ahead]
theorem Sl.takeI {w : World} {b n : Nat} {A : Option Addr} {l : List Int} (h : Sl encI 1 w b A n l) (k : Nat) (hk : k ≤ l.length) : Sl encI 1 w b A k (l.take k) := by
  refine ⟨by simp [hk], fun hpos => ?_⟩
  obtain ⟨o, h1, h2, h3⟩ := h.2 (by have := h.1; omega)
  refine ⟨o, h1, h2, fun j hj i u hu => h3 j (by simp at hj; omega) i u ?_⟩
  rw [List.getElem_take] at hu
  exact hu
theorem own_cap {w : World} {base n c : Nat} {e : TypeId} {A : Option Addr} {xs : List Value} (h : w.ownsRow base e 1 (.slice A n c) n xs) : n ≤ c ∧ c ≤ 9223372036854775807 := by
  rcases h.2 with ⟨hv, _⟩ | ⟨g', cap, cur, hv, hbg, hh, hnc, hcm, hcs, htake⟩
  · injection hv with h1 h2 h3
    omega
  · injection hv with h1 h2 h3
    subst h3
    exact ⟨hnc, by unfold maxLen at hcm; exact hcm⟩
end Go.Proofs.YtjmppionedcfeaaDoor

namespace Go.Proofs.YtjmppionedcfeaaDoor
open Go.RowKit

theorem pick_bad1 {st gd : Int} {l : List Sale} {x m : Int} (hc : check st gd l = 0) (h : inB x 0 1000000000 = false ∨ inB m 0 (min 10 (l.length : Int)) = false) : pickErr st gd l x m = 1 ∧ pickOut st gd l x m = [] := by
  have h1 : pickErr st gd l x m = 1 := by
    unfold pickErr
    rw [if_neg (by simp [hc])]
    rcases h with h | h <;> simp [h]
  exact ⟨h1, by unfold pickOut; rw [if_neg (by rw [h1]; decide)]⟩
theorem pick_bad0 {st gd : Int} {l : List Sale} {x m : Int} (hc : check st gd l ≠ 0) : pickErr st gd l x m = check st gd l ∧ pickOut st gd l x m = [] := by
  have h1 : pickErr st gd l x m = check st gd l := by unfold pickErr; rw [if_pos hc]
  exact ⟨h1, by unfold pickOut; rw [if_neg (by rw [h1]; exact hc)]⟩
theorem pick_good {st gd : Int} {l : List Sale} {x m : Int} (hc : check st gd l = 0) (h1 : inB x 0 1000000000 = true) (h2 : inB m 0 (min 10 (l.length : Int)) = true) : pickErr st gd l x m = 0 ∧ pickOut st gd l x m = pickL m.toNat x (places l.length) := by
  have h0 : pickErr st gd l x m = 0 := by
    unfold pickErr
    rw [if_neg (by simp [hc]), h1, h2]
    rfl
  exact ⟨h0, by unfold pickOut; rw [if_pos h0]⟩

theorem own_some2 {W : World} {base m c sz : Nat} {e : TypeId} {A : Option Addr} {xs : List Value} (h : W.ownsRow base e sz (.slice A m c) m xs) (hm : 0 < m) : ∃ g, A = some ⟨g, 0, none⟩ ∧ base ≤ g ∧ g < W.heap.size := by
  rcases h.2 with ⟨hv, _⟩ | ⟨g, cap, cur, hv, hbg, hh, _⟩
  · injection hv with h1 h2 h3
    omega
  · injection hv with h1 h2 h3
    subst h1
    exact ⟨g, rfl, hbg, (h.lt g rfl).2⟩

set_option maxRecDepth 100000 in
set_option maxHeartbeats 1000000 in
theorem pick_any (st gd x m : Int) (b n c : Nat) (A : Option Addr) (l : List Sale) (w : World) (hl : Sl encS 6 w b A n l) (hn : n ≤ 1000000000000) :
    Calls Tryd.prog 13 #[.agg #[.int .i64 st, .int .i64 gd, .slice A n c], .int .i64 x, .int .i64 m] w (IntsPost (pickOut st gd l x m) (pickErr st gd l x m) w) := by
  have HL := Lib.hid hl
  have HA := Lib.hid hl.len
  have HO := Lib.hid (OverBook.start w st gd A n c)
  clear hl
  by_cases hc : check st gd l = 0
  · have HC := Lib.hid hc
    have HIN := Lib.hid (check_zero.1 hc)
    have hn40 : n ≤ 40 := by have := HIN.out.len; have := HA.out; omega
    have hmn : min (10 : Int) (n : Int) = min 10 (l.length : Int) := by rw [HA.out]
    have HMN := Lib.hid hmn
    clear hmn
    cases h1 : inB x 0 1000000000
    · obtain ⟨p1, p2⟩ := pick_bad1 (st := st) (gd := gd) (l := l) (x := x) (m := m) hc (.inl h1)
      have HP := Lib.hid (And.intro p1 p2)
      have HX := Lib.hid h1
      clear p1 p2 h1 hc
      go_enter Tryd.func13, Tryd.ntmps13
      go_wp2_with fail
      refine (check_any st gd b n c A l _ (HL.out.alloc _) hn).mono ?_
      rw [HC.out]
      rintro e w1 ⟨rfl, hb1⟩
      have HO1 := Lib.hid (HO.out.below hb1)
      clear hb1
      go_wp2_with fail
      refine (in_any _ _ _ _).mono ?_
      rw [HX.out]
      rintro e w2 ⟨rfl, rfl⟩
      go_wp2_with fail
      go_ret2
      exact ⟨none, 0, w.heap.size, by rw [HP.out.1, HP.out.2]; rfl, by rw [HP.out.2]; exact Sl.nil _ _ _, by rw [HP.out.2]; exact Nat.le_refl _, Nat.le_refl _, HO1.out.low⟩
    cases h2 : inB m 0 (min 10 (n : Int))
    · obtain ⟨p1, p2⟩ := pick_bad1 (st := st) (gd := gd) (l := l) (x := x) (m := m) hc (.inr (by rw [← HMN.out]; exact h2))
      have HP := Lib.hid (And.intro p1 p2)
      have HX := Lib.hid h1
      have HM := Lib.hid h2
      clear p1 p2 h1 h2 hc
      go_enter Tryd.func13, Tryd.ntmps13
      go_wp2_with fail
      refine (check_any st gd b n c A l _ (HL.out.alloc _) hn).mono ?_
      rw [HC.out]
      rintro e w1 ⟨rfl, hb1⟩
      have HO1 := Lib.hid (HO.out.below hb1)
      have c2' := HO1.out.blk.cell 2
      clear hb1
      go_wp2_with fail
      refine (in_any _ _ _ _).mono ?_
      rw [HX.out]
      rintro e w2 ⟨rfl, rfl⟩
      go_wp2_with fail
      refine (in_any _ _ _ _).mono ?_
      rw [HM.out]
      rintro e w3 ⟨rfl, rfl⟩
      go_wp2_with fail
      go_ret2
      exact ⟨none, 0, w.heap.size, by rw [HP.out.1, HP.out.2]; rfl, by rw [HP.out.2]; exact Sl.nil _ _ _, by rw [HP.out.2]; exact Nat.le_refl _, Nat.le_refl _, HO1.out.low⟩
    obtain ⟨p1, p2⟩ := pick_good (x := x) (m := m) hc h1 (by rw [← HMN.out]; exact h2)
    obtain ⟨x0, x1⟩ := inB_iff.1 h1
    obtain ⟨m0, m1⟩ := inB_iff.1 h2
    obtain ⟨m, rfl⟩ := Int.eq_ofNat_of_zero_le m0
    have hmn : m ≤ n := by omega
    have hm10 : m ≤ 10 := by omega
    rw [show (m : Int).toNat = m by omega] at p2
    have HP := Lib.hid (And.intro p1 p2)
    have HX := Lib.hid h1
    have HM := Lib.hid h2
    obtain ⟨i0, hi, iz0, iz1, iz2⟩ := info_parts info_int'
    clear p1 p2 h1 h2 hc m0 m1
    go_enter Tryd.func13, Tryd.ntmps13
    go_wp2_with fail
    refine (check_any st gd b n c A l _ (HL.out.alloc _) hn).mono ?_
    rw [HC.out]
    rintro e w1 ⟨rfl, hb1⟩
    have HO1 := Lib.hid (HO.out.below hb1)
    have c2' := HO1.out.blk.cell 2
    clear hb1
    go_wp2_with fail
    refine (in_any _ _ _ _).mono ?_
    rw [HX.out]
    rintro e w2 ⟨rfl, rfl⟩
    go_wp2_with fail
    refine (in_any _ _ _ _).mono ?_
    rw [HM.out]
    rintro e w3 ⟨rfl, rfl⟩
    go_wp2_with fail
    go_loopw [9, 33] (fun v i wr => ∃ (k c' : Nat) (A' : Option Addr), k ≤ n ∧ i = .int .i64 k ∧ v = .slice A' k c' ∧ wr.ownsRow w1.heap.size 3 1 (.slice A' k c') k ((places k).flatMap encI) ∧ Below w1.heap.size w1 wr) (fun _ i _ => n - (intOf i).toNat)
    case atStart => exact ⟨0, 0, none, by omega, rfl, rfl, World.ownsRow_nil _ _ _ _, Below.refl _ _⟩
    case round =>
      clear c2'
      obtain ⟨k, c', A', hk, rfl, rfl, hown, hB⟩ := hrel
      have HOWN := Lib.hid hown
      have HB := Lib.hid hB
      have hz : w1.heap.size ≤ wr.heap.size := hB.size
      clear hown hB
      by_cases hlt : k < n
      · go_wp2_with (at_builtin; refine wpList_append_lies _ rfl _ _ 36 rfl w1.heap.size 3 i0 _ 1 8 Tryd.underlying36 hi iz0 iz1 iz2 rfl (by omega) _ k _ (by rfl) (HOWN.out.alloc _) ⟨wr.heap.size, 0, none⟩ 1 1 (encI (k : Int)) (by rfl) (by rfl) (World.news_of_block (heap_alloc_new wr _)) (oneI _) (by omega) (by unfold maxLen; omega) (by omega) (by simp; omega) (wr.heap.size + 1) (by simp) ?_; intro g' cap w6 hown6 hgrow hat hlt6; have HW6 := Lib.hid hown6; have HB6 := Lib.hid (below_own (HOWN.out.alloc (.cells #[.int .i64 (k : Int)] 3)) hgrow (HB.out.alloc hz _) (Nat.le_refl _) (Nat.le_refl _)); clear hown6 hgrow hat hlt6)
        go_roundw
        case rel => exact ⟨k + 1, cap, _, by omega, by go_num, rfl, by rw [places_succ]; simpa using HW6.out, HB6.out⟩
        case measure => simp [intOf]; omega
      · obtain rfl : n = k := by omega
        have hwr : w1.heap.size ≤ wr.heap.size := hz
        -- the row of places: where it lies, if there is one
        obtain ⟨g, hG⟩ : ∃ g : Nat, 0 < n → A' = some ⟨g, 0, none⟩ ∧ w1.heap.size ≤ g ∧ g < wr.heap.size ∧ HoldsI wr g (places n) ∧ n ≤ c' ∧ c' ≤ 9223372036854775807 := by
          by_cases h0 : 0 < n
          · obtain ⟨g, rfl, hg1, hg2⟩ := own_some2 HOWN.out h0
            obtain ⟨q1, q2, q3⟩ := holds_own HOWN.out (places_len n).symm
            exact ⟨g, fun _ => ⟨rfl, hg1, hg2, q1, q2, q3⟩⟩
          · exact ⟨0, fun h => absurd h h0⟩
        have HG := Lib.hid hG
        clear hG
        obtain ⟨wo, rfl⟩ : ∃ wo : World, wo = wr := ⟨_, rfl⟩
        go_wp2_with fail
        go_loopw [1, 9, 10, 42] (fun xv lv ov i wr => ∃ (k cc : Nat) (y : Int) (r o : List Int) (Ao : Option Addr), k ≤ m ∧ i = .int .i64 k ∧ xv = .int .i64 y ∧ lv = .slice A' r.length c' ∧ ov = .slice Ao k cc ∧ 0 ≤ y ∧ y ≤ 1000000000 ∧ o.length = k ∧ o ++ pickL (m - k) y r = pickL m x (places n) ∧ m - k ≤ r.length ∧ r.length ≤ n ∧ (0 < n → HoldsI wr g r) ∧
            wr.ownsRow wo.heap.size 3 1 (.slice Ao k cc) k (o.flatMap encI) ∧ Below w1.heap.size w1 wr ∧ wo.heap.size ≤ wr.heap.size) (fun _ _ _ i _ => m - (intOf i).toNat)
        case atStart => exact ⟨0, 0, x, places n, [], none, by omega, rfl, rfl, by rw [places_len], rfl, x0, x1, rfl, rfl, by rw [places_len]; omega, by rw [places_len]; omega, fun h => (HG.out h).2.2.2.1, World.ownsRow_nil _ _ _ _, HB.out, Nat.le_refl _⟩
        case round =>
          obtain ⟨k, cc, y, r, o, Ao, hk, rfl, rfl, rfl, rfl, y0, y1, hol, hpick, hmr, hrn, hH, hown, hB, hzo⟩ := hrel
          have HOL := Lib.hid hol
          have HPK := Lib.hid hpick
          have HH := Lib.hid hH
          have HOW := Lib.hid hown
          have HBB := Lib.hid hB
          have hzb := hB.size
          clear hol hpick hH hown hB
          by_cases hlt : k < m
          · obtain ⟨rfl, hg1, hg2, _, hnc, hcm⟩ := HG.out (by omega)
            have hHr := HH.out (by omega)
            have hr0 : 0 < r.length := by omega
            have hb1 := Int.emod_nonneg y (show (r.length : Int) ≠ 0 by omega)
            have hb2 := Int.emod_lt_of_pos y (show (0 : Int) < (r.length : Int) by omega)
            obtain ⟨kk, hkk⟩ := Int.eq_ofNat_of_zero_le hb1
            have hkr : kk < r.length := by omega
            have HPS := Lib.hid (show pickL (m - k) y r = r[kk] :: pickL (m - (k + 1)) (y / (r.length : Int)) (r.eraseIdx kk) by
              rw [show m - k = (m - (k + 1)) + 1 by omega, pickL, hkk]
              simp [hkr])
            have HKK := Lib.hid (show y % (r.length : Int) = (kk : Int) from hkk)
            have hd0 : 0 ≤ y / (r.length : Int) := Int.ediv_nonneg y0 (by omega)
            have hd1 : y / (r.length : Int) ≤ y := Int.ediv_le_self _ y0
            obtain ⟨y', hy'⟩ : ∃ y', y / (r.length : Int) = y' := ⟨_, rfl⟩
            have HDD := Lib.hid hy'
            rw [hy'] at hd0 hd1
            clear hy'
            have hck := hHr.cell hkr
            have HHR := Lib.hid hHr
            generalize hv : r[kk] = v at hck HPS
            have i0' : (0 : Int) ≤ (kk : Int) := by omega
            have i1' : (kk : Int) < (r.length : Int) := by omega
            have hrl : ((r.length : Int) == 0) = false := by rw [beq_eq_false_iff_ne]; omega
            have HKR := Lib.hid hkr
            clear hkk hb1 hb2 hHr hv hkr
            go_upto_region 16 with fail
            rw [HKK.out, HDD.out]
            go_wp2_with (at_builtin; refine wpList_append_lies _ rfl _ _ 36 rfl wo.heap.size 3 i0 _ 1 8 Tryd.underlying36 hi iz0 iz1 iz2 rfl (by omega) _ k _ (by rfl) (HOW.out.alloc _) ⟨wr.heap.size, 0, none⟩ 1 1 (encI v) (by rfl) (by rfl) (World.news_of_block (heap_alloc_new wr _)) (oneI _) (by omega) (by unfold maxLen; omega) (by omega) (by simp; omega) (wr.heap.size + 1) (by simp) ?_; intro g' cap w6 hown6 hgrow hat hlt6; have HW6 := Lib.hid hown6; have HB6 := Lib.hid (below_own (HOW.out.alloc (.cells #[.int .i64 v] 3)) hgrow (HBB.out.alloc hzb _) (by omega) (Nat.le_refl _)); have H6 := Lib.hid (HHR.out.keep ((own_keeps (HOW.out.alloc (.cells #[.int .i64 v] 3)) hgrow (b := g) (by omega) (by simp; omega)).trans (Below.heap_alloc wr _ g (by omega)))); clear hown6 hgrow hat hlt6)
            refine (delete_any g c' r kk w6 H6.out (by omega) hcm HKR.out).mono ?_
            rintro e w7 ⟨rfl, hH7, hg7⟩
            have hz6 := HB6.out.size
            have HB7 := Lib.hid (Below.stepG hg7 HB6.out (Nat.le_refl _) hg1)
            have HW7 := Lib.hid (ownsRow_die HW6.out hg7 hg2)
            have HH7 := Lib.hid hH7
            have hz7 := hg7.size
            have hz66 : wo.heap.size ≤ w6.heap.size := by have := (HW6.out.lt g' rfl); omega
            clear hH7 hg7 hck
            have hlen := List.length_eraseIdx_of_lt HKR.out
            have HLN := Lib.hid hlen
            have hl1 : m - (k + 1) ≤ (r.eraseIdx kk).length := by omega
            have hl2 : (r.eraseIdx kk).length ≤ n := by omega
            clear hlen
            go_wp2_with fail
            go_roundw
            case rel => exact ⟨k + 1, cap, y', r.eraseIdx kk, o ++ [v], _, by omega, by go_num, rfl, rfl, rfl, hd0, by omega, by rw [List.length_append, HOL.out]; rfl, by rw [← HPK.out, HPS.out, HDD.out, List.append_assoc]; rfl, hl1, hl2, fun _ => HH7.out, by simpa using HW7.out, HB7.out, by omega⟩
            case measure => simp [intOf]; omega
          · obtain rfl : k = m := by omega
            have HPE := Lib.hid (show o = pickL k x (places n) by have := HPK.out; rw [Nat.sub_self] at this; simpa [pickL] using this)
            go_wp2_with fail
            go_ret2
            obtain ⟨b', hb', hsl⟩ := Sl.of_own encI_len HOL.out.symm HOW.out
            have hpl : pickOut st gd l x k = o := by rw [HP.out.2, HPE.out, HA.out]
            refine ⟨Ao, cc, b', ?_, ?_, by rw [hpl, HOL.out]; exact (own_cap HOW.out).1, by have := HO1.out.low.size; omega, Below.step HBB.out HO1.out.low (Nat.le_refl _)⟩
            · rw [HP.out.1, hpl, HOL.out]
              rfl
            · rw [hpl, HOL.out]
              exact hsl
  · obtain ⟨p1, p2⟩ := pick_bad0 (x := x) (m := m) hc
    have HP := Lib.hid (And.intro p1 p2)
    clear p1 p2
    go_enter Tryd.func13, Tryd.ntmps13
    go_wp2_with fail
    refine (check_any st gd b n c A l _ (HL.out.alloc _) hn).mono ?_
    rintro e w1 ⟨rfl, hb1⟩
    have HO1 := Lib.hid (HO.out.below hb1)
    clear hb1
    go_wp2_with fail
    go_ret2
    exact ⟨none, 0, w.heap.size, by rw [HP.out.1, HP.out.2]; rfl, by rw [HP.out.2]; exact Sl.nil _ _ _, by rw [HP.out.2]; exact Nat.le_refl _, Nat.le_refl _, HO1.out.low⟩
end Go.Proofs.YtjmppionedcfeaaDoor
