/-
  trace.checkOrigins: which origins are valid. trace.may: how much of some origins a batch may have.
-/
import Derived.Test.YtmoolcpogilgkaaTrChk
import Derived.Test.YtmoolcpogilgkaaTrMost
import Derived.Test.YtmoolcpogilgkaaTrBut
set_option linter.unusedVariables false
set_option linter.unusedSimpArgs false
namespace Go.Proofs.Ytmoolcpogilgkaa
open Go.RowKit

/-- the origin before -/
def prevO (l : List Int) (k : Nat) : Int := if k = 0 then -1 else l.getD (k - 1) 0
theorem chkOs_step (n : Nat) (l : List Int) (k : Nat) (hk : k < l.length) (h1 : 0 ≤ l[k] ∧ l[k] ≤ (n : Int) - 1) (h2 : prevO l k < l[k]) : chkOs n (prevO l k) (l.drop k) = chkOs n (prevO l (k + 1)) (l.drop (k + 1)) := by
  rw [← List.getElem_cons_drop hk]
  simp only [chkOs]
  have hr : inR n l[k] = true := inR_iff.2 (by omega)
  rw [if_neg (by rw [hr]; decide), if_neg (by omega)]
  have e : prevO l (k + 1) = l[k] := by unfold prevO; rw [if_neg (by omega)]; simp [List.getD_eq_getElem?_getD, hk]
  rw [e]
theorem chkOs_bad (n : Nat) (l : List Int) (k : Nat) (hk : k < l.length) (h1 : ¬ (0 ≤ l[k] ∧ l[k] ≤ (n : Int) - 1)) : chkOs n (prevO l k) (l.drop k) = 3 := by
  rw [← List.getElem_cons_drop hk]
  simp only [chkOs]
  have hr : inR n l[k] = false := by
    cases h : inR n l[k]
    · rfl
    · exact absurd (inR_iff.1 h) (by omega)
  rw [if_pos hr]
theorem chkOs_ord (n : Nat) (l : List Int) (k : Nat) (hk : k < l.length) (h1 : 0 ≤ l[k] ∧ l[k] ≤ (n : Int) - 1) (h2 : l[k] ≤ prevO l k) : chkOs n (prevO l k) (l.drop k) = 5 := by
  rw [← List.getElem_cons_drop hk]
  simp only [chkOs]
  have hr : inR n l[k] = true := inR_iff.2 (by omega)
  rw [if_neg (by rw [hr]; decide), if_pos h2]

set_option maxRecDepth 100000 in
set_option maxHeartbeats 2000000 in
theorem checkOrigins_any (b1 b2 b3 : Nat) (Ab Am Ao : Option Addr) (nb cb nm cm no co : Nat) (bs : List Int) (ms : List Mv) (l : List Int) (w : World) (hM : NetM w b1 b2 Ab Am nb cb nm cm bs ms) (hnb : nb ≤ 100000) (hnm : nm ≤ 100000) (hO : Sl encI 1 w b3 Ao no l) (hno : no ≤ 100000) :
    Calls Try.prog 23 #[netV Ab Am nb cb nm cm, .slice Ao no co] w fun e w' => e = .returned (.int .i64 (chkO bs ms l)) ∧ Below w.heap.size w w' := by
  have hBn := Blk.new w 27 #[.slice Ab nb cb, .slice Am nm cm]
  have c0 := hBn.cell 0
  have c1 := hBn.cell 1
  have hb0 : Below w.heap.size w (w.alloc (.cells #[.slice Ab nb cb, .slice Am nm cm] 27)) := (Below.refl _ w).alloc (Nat.le_refl _) _
  have HB0 := Lib.hid hb0
  have HBN := Lib.hid hBn
  have HNB := Lib.hid hM.b.len
  have HNO := Lib.hid hO.len
  have hMo := hM.old hb0
  have HM := Lib.hid hM
  have HMO := Lib.hid hMo
  have HO := Lib.hid hO
  clear hM hBn hO hMo hb0
  by_cases hc : chkNet bs ms = 0
  · have hcon := check_any b1 b2 Ab Am nb cb nm cm bs ms _ HMO.out hnb hnm
    rw [hc] at hcon
    have HC := Lib.hid hcon
    have HCN := Lib.hid (show chkO bs ms l = chkOs bs.length (prevO l 0) (l.drop 0) by unfold chkO; rw [if_pos hc]; rfl)
    clear hcon hc
    go_enter Try.func23, Try.ntmps23
    go_upto_region 4 with (go_at_call 36; refine HC.out.mono ?_; rintro e w1 ⟨rfl, hb1⟩; have HB1 := Lib.hid hb1; clear hb1)
    have hbn1 := HBN.out.below HB1.out HBN.out.lt
    have hbw1 := HB0.out.trans (HB1.out.mono (by simp))
    have c2 := hbn1.cell 0
    have HL1 := Lib.hid (HO.out.old hbw1)
    have HBW := Lib.hid hbw1
    clear c0 c1 hbn1 hbw1
    go_wp2_with fail
    go_loop [15] (fun i => ∃ k : Nat, k ≤ no ∧ i = .int .i64 k ∧ chkO bs ms l = chkOs bs.length (prevO l k) (l.drop k)) (fun i => no - (intOf i).toNat)
    case atStart => exact ⟨0, Nat.zero_le _, rfl, HCN.out⟩
    case round =>
      obtain ⟨k, hk, rfl, hcs⟩ := hrel
      have HCS := Lib.hid hcs
      clear hcs
      by_cases hlt : k < no
      · have hkl : k < l.length := by have := HNO.out; omega
        obtain ⟨o, rfl, hbz, s0⟩ := HL1.out.atI hkl
        by_cases hin : 0 ≤ l[k] ∧ l[k] ≤ (nb : Int) - 1
        · have HST := Lib.hid (fun h => chkOs_step bs.length l k hkl (by have := HNB.out; omega) h)
          have HOD := Lib.hid (fun h => chkOs_ord bs.length l k hkl (by have := HNB.out; omega) h)
          cases k with
          | zero =>
            have hp : prevO l 0 = -1 := rfl
            have HNX := Lib.hid (show chkO bs ms l = chkOs bs.length (prevO l 1) (l.drop 1) by rw [HCS.out]; exact HST.out (by rw [hp]; omega))
            obtain ⟨x, hx⟩ : ∃ x, x = l[0] := ⟨_, rfl⟩
            rw [← hx] at s0 hin
            rw [Nat.add_zero] at s0
            clear hx hp HST HOD
            go_wp2_with (go_at_call 37; with_reducible refine (tin_t x 0 ((nb : Int) - 1) hin _).mono ?_; rintro e w' ⟨rfl, rfl⟩)
            go_round
            case rel => exact ⟨1, by omega, by simp, HNX.out⟩
            case measure => simp [intOf]; omega
          | succ k =>
            have hkl' : k < l.length := by omega
            obtain ⟨o', ho', _, s1⟩ := HL1.out.atI hkl'
            injection ho' with ho'
            injection ho' with _ ho'
            subst ho'
            have hp : prevO l (k + 1) = l[k] := by unfold prevO; rw [if_neg (by omega)]; simp [List.getD_eq_getElem?_getD, hkl']
            by_cases hle : l[k + 1] ≤ l[k]
            · have HE := Lib.hid (show (5 : Int) = chkO bs ms l by rw [HCS.out]; exact (HOD.out (by rw [hp]; exact hle)).symm)
              obtain ⟨x, hx⟩ : ∃ x, x = l[k + 1] := ⟨_, rfl⟩
              obtain ⟨y, hy⟩ : ∃ y, y = l[k] := ⟨_, rfl⟩
              rw [← hx] at s0 hin hle
              rw [← hy] at s1 hle
              have hkk : ((k + 1 : Nat) : Int) = (k : Int) + 1 := by simp
              clear hx hy hp HST HOD
              go_wp2_with (go_at_call 37; with_reducible refine (tin_t x 0 ((nb : Int) - 1) hin _).mono ?_; rintro e w' ⟨rfl, rfl⟩)
              go_ret
              exact ⟨ret_int HE.out, HBW.out⟩
            · have HNX := Lib.hid (show chkO bs ms l = chkOs bs.length (prevO l (k + 1 + 1)) (l.drop (k + 1 + 1)) by rw [HCS.out]; exact HST.out (by rw [hp]; omega))
              obtain ⟨x, hx⟩ : ∃ x, x = l[k + 1] := ⟨_, rfl⟩
              obtain ⟨y, hy⟩ : ∃ y, y = l[k] := ⟨_, rfl⟩
              rw [← hx] at s0 hin hle
              rw [← hy] at s1 hle
              clear hx hy hp HST HOD
              go_wp2_with (go_at_call 37; with_reducible refine (tin_t x 0 ((nb : Int) - 1) hin _).mono ?_; rintro e w' ⟨rfl, rfl⟩)
              go_round
              case rel => exact ⟨k + 1 + 1, by omega, by simp, HNX.out⟩
              case measure => simp [intOf]; omega
        · have HE := Lib.hid (show (3 : Int) = chkO bs ms l by rw [HCS.out, chkOs_bad _ l k hkl (by have := HNB.out; omega)])
          obtain ⟨x, hx⟩ : ∃ x, x = l[k] := ⟨_, rfl⟩
          rw [← hx] at s0 hin
          clear hx
          go_wp2_with (go_at_call 37; with_reducible refine (tin_f x 0 ((nb : Int) - 1) hin _).mono ?_; rintro e w' ⟨rfl, rfl⟩)
          go_ret
          exact ⟨ret_int HE.out, HBW.out⟩
      · obtain rfl : k = no := by omega
        have HE := Lib.hid (show (0 : Int) = chkO bs ms l by rw [HCS.out, List.drop_eq_nil_of_le (by have := HNO.out; omega)]; rfl)
        go_wp2_with fail
        go_ret
        exact ⟨ret_int HE.out, HBW.out⟩
  · have hcon := check_any b1 b2 Ab Am nb cb nm cm bs ms _ HMO.out hnb hnm
    have hE : chkO bs ms l = chkNet bs ms := by unfold chkO; rw [if_neg hc]
    rw [hE]
    obtain ⟨x, hx⟩ : ∃ x, x = chkNet bs ms := ⟨_, rfl⟩
    rw [← hx] at hcon hc ⊢
    have hxx : (x == 0) = false := by simp [hc]
    have hxx2 : (x != 0) = true := by simp [hc]
    have HC := Lib.hid hcon
    clear hcon hx hE hc
    go_enter Try.func23, Try.ntmps23
    go_wp2_with (go_at_call 36; refine HC.out.mono ?_; rintro e w1 ⟨rfl, hb1⟩; have HB1 := Lib.hid hb1; clear hb1)
    go_ret
    exact ⟨rfl, HB0.out.trans (HB1.out.mono (by simp))⟩
end Go.Proofs.Ytmoolcpogilgkaa

namespace Go.Proofs.Ytmoolcpogilgkaa
open Go.RowKit Go.Shelf

theorem others_oi {n : Nat} (l : List Int) : (∀ o ∈ othersT n l, 0 ≤ o ∧ o < n) ∧ (othersT n l).Nodup := ⟨(others_in n l).rg, (others_in n l).nodup⟩
/-- between two rounds of may -/
structure MaySt (bs : List Int) (ms : List Mv) (w V : World) (Ba : Nat) (k : Nat) (wr : World) : Prop where
  a : Blk wr Ba 120 (amA (hasAt (bsF bs) (ms.take k)))
  b : Below V.heap.size V wr
  lo : V.heap.size ≤ Ba

theorem flatI (l : List Int) : l.flatMap encI = l.map (Value.int .i64) := by rw [List.map_eq_flatMap]; rfl
theorem info_span2 : (Try.prog.info? 32).map (·.size) = some 2 := by kernel_rfl
end Go.Proofs.Ytmoolcpogilgkaa
